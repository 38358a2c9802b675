/- The theorems of few moves, of the moved sheet, of the longer arm and of the way back, plain: elbows of one track and walk as elbows of another one. No conditions of the program's. -/
import Derived.Test.YtfgplmgkejeoiaaElx
import Derived.Test.YtfgplmgkejeoiaaStuck
namespace Go.Proofs.Ytfgplmgkejeoiaa

theorem areN_iff {T : Trk} {m : List Pt} {ns : List Nat} : areN T m ns = true ↔ ∀ i, i < ns.length → (stepV T (nat ns i) (nat ns (nx ns.length i))).2 = true ∧ reachB T (nat ns i) (pat m i) = true := by
  simp only [areN, List.all_eq_true, List.mem_range, elOk, Bool.and_eq_true]
theorem nat_ext {l m : List Nat} (h : l.length = m.length) (e : ∀ i, i < l.length → nat l i = nat m i) : l = m := by
  refine List.ext_getElem h fun i h1 h2 => ?_
  have := e i h1
  simpa [nat, List.getD, h1, h2] using this

/-! Few moves. -/
def stillB (T : Trk) (m : List Pt) (p : Nat) : Bool := (List.range m.length).all fun i => reachB T p (pat m i)
theorem rmTo_zero {l : List Nat} : ∀ k, k ≤ l.length → rmTo l k = 0 → ∀ i, i ≤ k → i < l.length → nat l i = nat l 0
  | 0, _, _, i, hi, _ => by rw [show i = 0 by omega]
  | k + 1, hk, h, i, hi, hl => by
    rw [rmTo] at h
    have ih := rmTo_zero (l := l) k (by omega) (by omega)
    by_cases h1 : i = k + 1
    · subst h1
      have h2 := ih k (Nat.le_refl _) (by omega)
      split at h
      · rename_i h3
        unfold nx at h3
        rw [Nat.mod_eq_of_lt hl] at h3
        omega
      · omega
    · exact ih i (by omega) hl
theorem still_iff {T : Trk} {m : List Pt} (hm : 0 < m.length) : (elbs T m ≠ [] ∧ lsV T m = 0) ↔ ∃ p, p < T.pts.length ∧ stillB T m p = true := by
  constructor
  · rintro ⟨hne, h0⟩
    obtain ⟨h1, -⟩ := ls_min hne
    have h2 := mv_rm hm h1
    unfold lsV at h0
    rw [h0] at h2
    obtain ⟨h3, h4, h5⟩ := (elbs_iff hm).1 h1
    generalize lsB T m = x at *
    have h6 : rmTo x x.length = 0 := by unfold rmV at h2; omega
    refine ⟨nat x 0, h4 0 (by omega), ?_⟩
    rw [stillB, List.all_eq_true]
    intro i hi
    rw [List.mem_range] at hi
    have h7 := rmTo_zero _ (Nat.le_refl _) h6 i (by omega) (by omega)
    have h8 := (areN_iff.1 h5 i (by omega)).2
    rwa [h7] at h8
  · rintro ⟨p, hp, h⟩
    rw [stillB, List.all_eq_true] at h
    have hn : ∀ i, i < m.length → nat (List.replicate m.length p) i = p := fun i hi => by simp [nat, List.getD, hi]
    have hx : List.replicate m.length p ∈ elbs T m := by
      refine (elbs_iff hm).2 ⟨List.length_replicate, fun i hi => ?_, areN_iff.2 fun i hi => ?_⟩
      · rw [List.length_replicate] at hi
        rw [hn i hi]; exact hp
      · rw [List.length_replicate] at hi ⊢
        rw [hn i hi, hn _ (nx_lt hm)]
        exact ⟨by simp [stepV], h i (List.mem_range.2 hi)⟩
    have hne : elbs T m ≠ [] := fun e => by rw [e] at hx; cases hx
    refine ⟨hne, ?_⟩
    have h1 := (ls_min hne).2 _ hx
    have h2 : mvV T (List.replicate m.length p) = 0 := by
      rw [mv_tot, List.length_replicate]
      have : ∀ k, k ≤ m.length → totN (fun i => max (st1 T (List.replicate m.length p) i) (-st1 T (List.replicate m.length p) i)) k = 0 := fun k => by
        induction k with
        | zero => intro _; rfl
        | succ k ih =>
          intro hk
          rw [totN, ih (by omega), st1, List.length_replicate, hn k (by omega), hn _ (nx_lt hm)]
          simp [stepV]
      exact this _ (Nat.le_refl _)
    have h3 : 0 ≤ lsV T m := mv_nonneg _ _
    omega

/-! The longer arm, and the longer track. -/
structure Wid (T T' : Trk) : Prop where
  lt : ∀ k, k < T.pts.length → k < T'.pts.length ∧ pat T'.pts k = pat T.pts k
  reach : ∀ k p, k < T.pts.length → reachB T k p = true → reachB T' k p = true
  step : ∀ a b, a < T.pts.length → b < T.pts.length → (stepV T a b).2 = true → stepV T' a b = stepV T a b
theorem Wid.el_in {T T' : Trk} {m : List Pt} (hw : Wid T T') (hm : 0 < m.length) {x : List Nat} (hx : x ∈ elbs T m) : x ∈ elbs T' m ∧ swp T' m x = swp T m x ∧ mvV T' x = mvV T x := by
  obtain ⟨h1, h2, h3⟩ := (elbs_iff hm).1 hx
  rw [areN_iff] at h3
  have hs : ∀ i, i < x.length → stepV T' (nat x i) (nat x (nx x.length i)) = stepV T (nat x i) (nat x (nx x.length i)) := fun i hi => hw.step _ _ (h2 i hi) (h2 _ (nx_lt (by omega))) (h3 i hi).1
  refine ⟨(elbs_iff hm).2 ⟨h1, fun i hi => (hw.lt _ (h2 i hi)).1, areN_iff.2 fun i hi => ?_⟩, ?_, ?_⟩
  · rw [hs i hi]
    exact ⟨(h3 i hi).1, hw.reach _ _ (h2 i hi) (h3 i hi).2⟩
  · rw [swp_tot, swp_tot]
    refine totN_same fun i hi => ?_
    rw [quad, quad, (hw.lt _ (h2 i hi)).2, (hw.lt _ (h2 _ (nx_lt (by omega)))).2]
  · rw [mv_tot, mv_tot]
    refine totN_same fun i hi => ?_
    rw [st1, st1, hs i hi]
theorem Wid.tell {T T' : Trk} {m : List Pt} (hw : Wid T T') (hm : 0 < m.length) (hne : elbs T m ≠ []) :
    elbs T' m ≠ [] ∧ (elbs T m).length ≤ (elbs T' m).length ∧ (∀ x ∈ rolS T m, x ∈ rolS T' m) ∧ lsV T' m ≤ lsV T m := by
  have hl : (elbs T m).length ≤ (elbs T' m).length := elbs_le id (fun x hx => (hw.el_in hm hx).1) fun x _ y _ e => e
  refine ⟨fun e => hne ?_, hl, fun x hx => ?_, ls_le id (fun x hx => ⟨(hw.el_in hm hx).1, (hw.el_in hm hx).2.2⟩) hne⟩
  · rw [e] at hl
    exact List.eq_nil_of_length_eq_zero (by simpa using hl)
  · obtain ⟨y, hy, rfl⟩ := mem_rolS.1 hx
    exact mem_rolS.2 ⟨y, (hw.el_in hm hy).1, (hw.el_in hm hy).2.1⟩
theorem wid_arm {T : Trk} {lo hi : Int} (h1 : lo ≤ T.lo) (h2 : T.hi ≤ hi) : Wid T { T with lo := lo, hi := hi } :=
  ⟨fun k h => ⟨h, rfl⟩, fun k p _ h => by
    simp only [reachB, within, Bool.and_eq_true, decide_eq_true_eq] at h ⊢
    omega, fun a b _ _ _ => rfl⟩
theorem wid_long {T : Trk} {p : Pt} (hc : T.closed ≠ 1) : Wid T { T with pts := T.pts ++ [p] } :=
  have hp : ∀ k, k < T.pts.length → pat (T.pts ++ [p]) k = pat T.pts k := fun k h => by
    unfold pat
    rw [List.getD_eq_getElem?_getD, List.getD_eq_getElem?_getD, List.getElem?_append_left h]
  ⟨fun k h => ⟨by simp; omega, hp k h⟩, fun k q hk h => by
    simp only [reachB] at h ⊢
    rw [hp k hk]
    exact h, fun a b _ _ _ => by simp [stepV, hc]⟩
theorem stuck_none {T : Trk} {m : List Pt} (hm : 0 < m.length) (h : stkTo T m m.length ≠ []) : elbs T m = [] := by
  cases he : elbs T m with
  | nil => rfl
  | cons x t =>
    exfalso
    have hx : x ∈ elbs T m := by rw [he]; exact List.mem_cons_self
    obtain ⟨h1, h2, h3⟩ := (elbs_iff hm).1 hx
    rw [areN_iff] at h3
    refine h ?_
    rw [stkTo, List.map_eq_nil_iff, List.filter_eq_nil_iff]
    intro i hi
    rw [List.mem_range] at hi
    rw [Bool.not_eq_true, List.isEmpty_eq_false_iff]
    intro e
    rw [plc_ints] at e
    have h4 : nat x i ∈ plcN T (pat m i) := by
      rw [plcN, List.mem_filter, List.mem_range]
      exact ⟨h2 i (by omega), (h3 i (by omega)).2⟩
    rw [show plcN T (pat m i) = [] from List.map_eq_nil_iff.1 e] at h4
    cases h4

/-! The moved sheet. -/
def mvP (d : Pt) (l : List Pt) : List Pt := l.map fun p => (p.1 + d.1, p.2 + d.2)
theorem mvP_len (d : Pt) (l : List Pt) : (mvP d l).length = l.length := List.length_map ..
theorem mvP_at {d : Pt} {l : List Pt} {i : Nat} (h : i < l.length) : pat (mvP d l) i = ((pat l i).1 + d.1, (pat l i).2 + d.2) := by
  simp [pat, mvP, List.getD, h]
theorem cross_move (a b d : Pt) : cross (a.1 + d.1, a.2 + d.2) (b.1 + d.1, b.2 + d.2) = cross a b + (d.2 * (a.1 - b.1) + d.1 * (b.2 - a.2)) := by
  unfold cross
  grind
theorem dbl_move (d : Pt) (l : List Pt) : dbl (mvP d l) = dbl l := by
  by_cases h0 : l.length = 0
  · rw [List.eq_nil_of_length_eq_zero h0]; rfl
  rw [dbl_tot, dbl_tot, mvP_len]
  have h1 : totN (fun i => cross (pat (mvP d l) i) (pat (mvP d l) (nx l.length i))) l.length = totN (fun i => cross (pat l i) (pat l (nx l.length i)) + (((d.2 * (pat l i).1 - d.1 * (pat l i).2) - (d.2 * (pat l (nx l.length i)).1 - d.1 * (pat l (nx l.length i)).2)))) l.length := totN_same fun i hi => by
    rw [mvP_at hi, mvP_at (nx_lt (by omega)), cross_move]
    grind
  rw [h1]
  have h2 : ∀ (f g : Nat → Int) (n : Nat), totN (fun i => f i + (g i - g (nx l.length i))) n = totN f n + (totN g n - totN (fun i => g (nx l.length i)) n) := fun f g n => by
    induction n with
    | zero => rfl
    | succ n ih => rw [totN, totN, totN, totN, ih]; omega
  rw [h2 (fun i => cross (pat l i) (pat l (nx l.length i))) (fun i => d.2 * (pat l i).1 - d.1 * (pat l i).2)]
  have h3 := totN_rot (fun i => d.2 * (pat l i).1 - d.1 * (pat l i).2) (n := l.length) (by omega) 1
  change totN (fun i => (fun i => d.2 * (pat l i).1 - d.1 * (pat l i).2) (nx l.length i)) l.length = _ at h3
  rw [h3]
  omega
def mvT (d : Pt) (T : Trk) : Trk := { T with pts := mvP d T.pts }
theorem reach_move {d : Pt} {T : Trk} {k : Nat} (hk : k < T.pts.length) (p : Pt) : reachB (mvT d T) k (p.1 + d.1, p.2 + d.2) = reachB T k p := by
  simp only [reachB, mvT]
  rw [mvP_at hk]
  simp only []
  rw [show (pat T.pts k).1 + d.1 - (p.1 + d.1) = (pat T.pts k).1 - p.1 by omega, show (pat T.pts k).2 + d.2 - (p.2 + d.2) = (pat T.pts k).2 - p.2 by omega]
theorem step_move (d : Pt) (T : Trk) (a b : Nat) : stepV (mvT d T) a b = stepV T a b := by simp only [stepV, mvT, mvP_len]
theorem elbs_move {d : Pt} {T : Trk} {m : List Pt} (hm : 0 < m.length) (x : List Nat) : x ∈ elbs (mvT d T) (mvP d m) ↔ x ∈ elbs T m := by
  rw [elbs_iff (by rw [mvP_len]; exact hm), elbs_iff hm, mvP_len, areN_iff, areN_iff]
  simp only [step_move, show (mvT d T).pts.length = T.pts.length from mvP_len d T.pts]
  constructor
  · rintro ⟨h1, h2, h3⟩
    refine ⟨h1, h2, fun i hi => ⟨(h3 i hi).1, ?_⟩⟩
    have := (h3 i hi).2
    rwa [mvP_at (by omega), reach_move (h2 i hi)] at this
  · rintro ⟨h1, h2, h3⟩
    refine ⟨h1, h2, fun i hi => ⟨(h3 i hi).1, ?_⟩⟩
    rw [mvP_at (by omega), reach_move (h2 i hi)]
    exact (h3 i hi).2
theorem swp_move {d : Pt} {T : Trk} {m : List Pt} (hm : 0 < m.length) {x : List Nat} (hx : x ∈ elbs T m) : swp (mvT d T) (mvP d m) x = swp T m x := by
  obtain ⟨h1, h2, -⟩ := (elbs_iff hm).1 hx
  rw [swp_tot, swp_tot]
  refine totN_same fun i hi => ?_
  have hn := nx_lt (n := x.length) (i := i) (by omega)
  have e : quad (mvT d T) (mvP d m) x i = mvP d (quad T m x i) := by
    rw [quad, quad]
    simp only [mvT]
    rw [mvP_at (h2 i hi), mvP_at (h2 _ hn), mvP_at (show i < m.length by omega), mvP_at (show nx x.length i < m.length by omega)]
    rfl
  rw [e, dbl_move]
theorem mv_move {d : Pt} {T : Trk} (x : List Nat) : mvV (mvT d T) x = mvV T x := by
  rw [mv_tot, mv_tot]
  exact totN_same fun i _ => by rw [st1, st1, step_move]
theorem move_all {d : Pt} {T : Trk} {m : List Pt} (hm : 0 < m.length) : (elbs (mvT d T) (mvP d m)).length = (elbs T m).length ∧ (∀ x, x ∈ rolS (mvT d T) (mvP d m) ↔ x ∈ rolS T m) ∧ (elbs T m ≠ [] → lsV (mvT d T) (mvP d m) = lsV T m) := by
  have h1 := elbs_le (T := T) (m := m) (T' := mvT d T) (m' := mvP d m) id (fun x hx => (elbs_move hm x).2 hx) fun x _ y _ e => e
  have h2 := elbs_le (T := mvT d T) (m := mvP d m) (T' := T) (m' := m) id (fun x hx => (elbs_move hm x).1 hx) fun x _ y _ e => e
  refine ⟨by omega, fun x => ?_, fun hne => ?_⟩
  · rw [mem_rolS, mem_rolS]
    constructor
    · rintro ⟨y, hy, rfl⟩
      rw [elbs_move hm] at hy
      exact ⟨y, hy, (swp_move hm hy).symm⟩
    · rintro ⟨y, hy, rfl⟩
      exact ⟨y, (elbs_move hm y).2 hy, swp_move hm hy⟩
  · have h3 := ls_le (T := T) (m := m) (T' := mvT d T) (m' := mvP d m) id (fun x hx => ⟨(elbs_move hm x).2 hx, mv_move x⟩) hne
    have h4 := ls_le (T := mvT d T) (m := mvP d m) (T' := T) (m' := m) id (fun x hx => ⟨(elbs_move hm x).1 hx, (mv_move x).symm⟩) (fun e => hne (by
      rw [e] at h1
      exact List.eq_nil_of_length_eq_zero (by simpa using h1)))
    omega
theorem plc_move {d : Pt} {T : Trk} (p : Pt) : plc (mvT d T) (p.1 + d.1, p.2 + d.2) = plc T p := by
  rw [plc_ints, plc_ints, plcN, plcN, show (mvT d T).pts.length = T.pts.length from mvP_len d T.pts]
  congr 1
  refine List.filter_congr fun k hk => reach_move (List.mem_range.1 hk) p

/-! The way back, and another begin. -/
theorem nat_rev {x : List Nat} {i : Nat} (h : i < x.length) : nat x.reverse i = nat x (x.length - 1 - i) := by
  simp [nat, List.getD, List.getElem?_reverse h]
theorem pat_rev {l : List Pt} {i : Nat} (h : i < l.length) : pat l.reverse i = pat l (l.length - 1 - i) := by
  simp [pat, List.getD, List.getElem?_reverse h]
theorem step_rev {T : Trk} (hc : T.closed = 1 → 3 ≤ T.pts.length) (a b : Nat) : stepV T b a = (-(stepV T a b).1, (stepV T a b).2) := by
  unfold stepV
  repeat' split
  all_goals first | rfl | (exfalso; omega)
theorem elbs_rev {T : Trk} {m : List Pt} (hm : 0 < m.length) (hc : T.closed = 1 → 3 ≤ T.pts.length) {x : List Nat} (hx : x ∈ elbs T m) : x.reverse ∈ elbs T m.reverse ∧ swp T m.reverse x.reverse = -swp T m x ∧ mvV T x.reverse = mvV T x ∧ onV T x.reverse = -onV T x := by
  obtain ⟨h1, h2, h3⟩ := (elbs_iff hm).1 hx
  rw [areN_iff] at h3
  have hx0 : 0 < x.length := by omega
  have e1 : ∀ i, i < x.length → nat x.reverse i = nat x (nx x.length (sg x.length i)) := fun i hi => by rw [nat_rev hi, (sg_nx hi).2]
  have e2 : ∀ i, i < x.length → nat x.reverse (nx x.length i) = nat x (sg x.length i) := fun i hi => by rw [nat_rev (nx_lt hx0), (sg_nx hi).1]
  have p1 : ∀ i, i < x.length → pat m.reverse i = pat m (nx x.length (sg x.length i)) := fun i hi => by rw [pat_rev (by omega), ← h1, (sg_nx hi).2]
  have p2 : ∀ i, i < x.length → pat m.reverse (nx x.length i) = pat m (sg x.length i) := fun i hi => by rw [pat_rev (by have := nx_lt (i := i) hx0; omega), ← h1, (sg_nx hi).1]
  refine ⟨(elbs_iff (by rw [List.length_reverse]; exact hm)).2 ⟨by rw [List.length_reverse, List.length_reverse]; exact h1, fun i hi => ?_, areN_iff.2 fun i hi => ?_⟩, ?_, ?_, ?_⟩
  · rw [List.length_reverse] at hi
    rw [e1 i hi]
    exact h2 _ (nx_lt hx0)
  · rw [List.length_reverse] at hi ⊢
    have h4 := h3 (sg x.length i) (sg_lt hx0)
    rw [e1 i hi, e2 i hi, step_rev hc, p1 i hi]
    exact ⟨h4.1, (h3 _ (nx_lt hx0)).2⟩
  · rw [swp_tot, swp_tot, List.length_reverse, ← totN_back (fun i => dbl (quad T m x i)) hx0, ← totN_neg]
    refine totN_same fun i hi => ?_
    rw [quad, quad, List.length_reverse, e1 i hi, e2 i hi, p1 i hi, p2 i hi, dbl_four, dbl_four]
    generalize pat T.pts (nat x (sg x.length i)) = a
    generalize pat m (sg x.length i) = b
    generalize pat m (nx x.length (sg x.length i)) = c
    generalize pat T.pts (nat x (nx x.length (sg x.length i))) = d
    have a1 := cross_anti a b
    have a2 := cross_anti b c
    have a3 := cross_anti c d
    have a4 := cross_anti d a
    omega
  · rw [mv_tot, mv_tot, List.length_reverse, ← totN_back (fun i => max (st1 T x i) (-st1 T x i)) hx0]
    refine totN_same fun i hi => ?_
    rw [st1, st1, List.length_reverse, e1 i hi, e2 i hi, step_rev hc]
    simp only []
    omega
  · rw [on_tot, on_tot, List.length_reverse, ← totN_back (st1 T x) hx0, ← totN_neg]
    refine totN_same fun i hi => ?_
    rw [st1, st1, List.length_reverse, e1 i hi, e2 i hi, step_rev hc]
theorem dbl_rev (l : List Pt) : dbl l.reverse = -dbl l := by
  by_cases h0 : l.length = 0
  · rw [List.eq_nil_of_length_eq_zero h0]; rfl
  have hl : 0 < l.length := by omega
  rw [dbl_tot, dbl_tot, List.length_reverse, ← totN_back (fun i => cross (pat l i) (pat l (nx l.length i))) hl, ← totN_neg]
  refine totN_same fun i hi => ?_
  rw [pat_rev hi, pat_rev (nx_lt hl), (sg_nx hi).1, (sg_nx hi).2]
  have := cross_anti (pat l (sg l.length i)) (pat l (nx l.length (sg l.length i)))
  omega
theorem rev_all {T : Trk} {m : List Pt} (hm : 0 < m.length) (hc : T.closed = 1 → 3 ≤ T.pts.length) : (elbs T m.reverse).length = (elbs T m).length ∧ (∀ x, x ∈ rolS T m.reverse ↔ -x ∈ rolS T m) ∧ (elbs T m ≠ [] → lsV T m.reverse = lsV T m) := by
  have hm' : 0 < m.reverse.length := by rw [List.length_reverse]; exact hm
  have hb : ∀ {x : List Nat}, x ∈ elbs T m.reverse → x.reverse ∈ elbs T m ∧ swp T m x.reverse = -swp T m.reverse x ∧ mvV T x.reverse = mvV T x := fun hx => by
    have h := elbs_rev hm' hc hx
    rw [List.reverse_reverse] at h
    exact ⟨h.1, h.2.1, h.2.2.1⟩
  have hj : ∀ x y : List Nat, x.reverse = y.reverse → x = y := fun x y h => by rw [← List.reverse_reverse x, h, List.reverse_reverse]
  have h1 := elbs_le (T := T) (m := m) (T' := T) (m' := m.reverse) List.reverse (fun x hx => (elbs_rev hm hc hx).1) fun x _ y _ e => hj x y e
  have h2 := elbs_le (T := T) (m := m.reverse) (T' := T) (m' := m) List.reverse (fun x hx => (hb hx).1) fun x _ y _ e => hj x y e
  refine ⟨by omega, fun x => ?_, fun hne => ?_⟩
  · rw [mem_rolS, mem_rolS]
    constructor
    · rintro ⟨y, hy, rfl⟩
      exact ⟨y.reverse, (hb hy).1, (hb hy).2.1⟩
    · rintro ⟨y, hy, e⟩
      have h := elbs_rev hm hc hy
      exact ⟨y.reverse, h.1, by rw [h.2.1]; omega⟩
  · have h3 := ls_le (T := T) (m := m) (T' := T) (m' := m.reverse) List.reverse (fun x hx => ⟨(elbs_rev hm hc hx).1, (elbs_rev hm hc hx).2.2.1⟩) hne
    have h4 := ls_le (T := T) (m := m.reverse) (T' := T) (m' := m) List.reverse (fun x hx => ⟨(hb hx).1, (hb hx).2.2⟩) (fun e => hne (by
      rw [e] at h1
      exact List.eq_nil_of_length_eq_zero (by simpa using h1)))
    omega
/-- A walk from one of its points on. -/
def rotP (b : Nat) (l : List Pt) : List Pt := (List.range l.length).map fun i => pat l ((i + b) % l.length)
def rotN (b : Nat) (l : List Nat) : List Nat := (List.range l.length).map fun i => nat l ((i + b) % l.length)
theorem rotP_len (b : Nat) (l : List Pt) : (rotP b l).length = l.length := by simp [rotP]
theorem rotN_len (b : Nat) (l : List Nat) : (rotN b l).length = l.length := by simp [rotN]
theorem rotP_at {b : Nat} {l : List Pt} {i : Nat} (h : i < l.length) : pat (rotP b l) i = pat l ((i + b) % l.length) := by
  have : (rotP b l)[i]? = some (pat l ((i + b) % l.length)) := by simp [rotP, h]
  rw [pat, List.getD_eq_getElem?_getD, this]; rfl
theorem rotN_at {b : Nat} {l : List Nat} {i : Nat} (h : i < l.length) : nat (rotN b l) i = nat l ((i + b) % l.length) := by
  have : (rotN b l)[i]? = some (nat l ((i + b) % l.length)) := by simp [rotN, h]
  rw [nat, List.getD_eq_getElem?_getD, this]; rfl
theorem rotP_back {b c : Nat} {l : List Pt} (h : (b + c) % l.length = 0) : rotP c (rotP b l) = l := by
  refine List.ext_getElem (by rw [rotP_len, rotP_len]) fun i h1 h2 => ?_
  have hi : i < (rotP b l).length := by rw [rotP_len]; exact h2
  have e : (rotP c (rotP b l))[i]? = some (pat l i) := by
    rw [pat_get h1, rotP_at hi, rotP_len, rotP_at (Nat.mod_lt _ (by omega)), Nat.mod_add_mod, Nat.add_assoc, Nat.add_comm c b, Nat.add_mod, h, Nat.add_zero, Nat.mod_mod, Nat.mod_eq_of_lt h2]
  have e2 := pat_get h2
  rw [List.getElem?_eq_getElem h1] at e
  rw [List.getElem?_eq_getElem h2] at e2
  exact Option.some.inj (e.trans e2.symm)
theorem rotN_back {b c : Nat} {l : List Nat} (h : (b + c) % l.length = 0) : rotN c (rotN b l) = l := by
  refine nat_ext (by rw [rotN_len, rotN_len]) fun i hi => ?_
  have h1 : i < (rotN b l).length := by rw [rotN_len] at hi ⊢; rw [rotN_len] at hi; exact hi
  have h2 : i < l.length := by rw [rotN_len] at h1; exact h1
  rw [rotN_at h1, rotN_len, rotN_at (Nat.mod_lt _ (by omega)), Nat.mod_add_mod, Nat.add_assoc, Nat.add_comm c b, Nat.add_mod, h, Nat.add_zero, Nat.mod_mod, Nat.mod_eq_of_lt h2]
theorem rot_undo (b n : Nat) (hn : 0 < n) : ∃ c, (b + c) % n = 0 ∧ (c + b) % n = 0 := by
  have h : (b + (n - b % n)) % n = 0 := by
    have h1 := Nat.mod_lt b hn
    have h2 := Nat.div_add_mod b n
    rw [show b + (n - b % n) = n * (b / n + 1) by rw [Nat.mul_add]; omega, Nat.mul_mod_right]
  exact ⟨n - b % n, h, by rw [Nat.add_comm]; exact h⟩
theorem elbs_rot {T : Trk} {m : List Pt} (hm : 0 < m.length) (b : Nat) {x : List Nat} (hx : x ∈ elbs T m) : rotN b x ∈ elbs T (rotP b m) ∧ swp T (rotP b m) (rotN b x) = swp T m x ∧ mvV T (rotN b x) = mvV T x := by
  obtain ⟨h1, h2, h3⟩ := (elbs_iff hm).1 hx
  rw [areN_iff] at h3
  have hx0 : 0 < x.length := by omega
  have hb : ∀ i, (i + b) % x.length < x.length := fun i => Nat.mod_lt _ hx0
  have hp : ∀ i, i < x.length → pat (rotP b m) i = pat m ((i + b) % x.length) := fun i hi => by rw [rotP_at (by omega), h1]
  refine ⟨(elbs_iff (by rw [rotP_len]; exact hm)).2 ⟨by rw [rotN_len, rotP_len]; exact h1, fun i hi => ?_, areN_iff.2 fun i hi => ?_⟩, ?_, ?_⟩
  · rw [rotN_len] at hi
    rw [rotN_at hi]
    exact h2 _ (hb i)
  · rw [rotN_len] at hi ⊢
    rw [rotN_at hi, rotN_at (nx_lt hx0), ← nx_rot, hp i hi]
    exact h3 _ (hb i)
  · rw [swp_tot, swp_tot, rotN_len, ← totN_rot (fun i => dbl (quad T m x i)) hx0 b]
    refine totN_same fun i hi => ?_
    rw [quad, quad, rotN_len, rotN_at hi, rotN_at (nx_lt hx0), hp i hi, hp _ (nx_lt hx0), nx_rot]
  · rw [mv_tot, mv_tot, rotN_len, ← totN_rot (fun i => max (st1 T x i) (-st1 T x i)) hx0 b]
    refine totN_same fun i hi => ?_
    rw [st1, st1, rotN_len, rotN_at hi, rotN_at (nx_lt hx0), nx_rot]
theorem dbl_rot (b : Nat) (l : List Pt) : dbl (rotP b l) = dbl l := by
  by_cases h0 : l.length = 0
  · rw [List.eq_nil_of_length_eq_zero h0]; rfl
  have hl : 0 < l.length := by omega
  rw [dbl_tot, dbl_tot, rotP_len, ← totN_rot (fun i => cross (pat l i) (pat l (nx l.length i))) hl b]
  refine totN_same fun i hi => ?_
  rw [rotP_at hi, rotP_at (nx_lt hl), nx_rot]
theorem rot_all {T : Trk} {m : List Pt} (hm : 0 < m.length) (b : Nat) : (elbs T (rotP b m)).length = (elbs T m).length ∧ (∀ x, x ∈ rolS T (rotP b m) ↔ x ∈ rolS T m) ∧ (elbs T m ≠ [] → lsV T (rotP b m) = lsV T m) := by
  obtain ⟨c, hbc, hcb⟩ := rot_undo b m.length hm
  have hm' : 0 < (rotP b m).length := by rw [rotP_len]; exact hm
  have hb : ∀ {x : List Nat}, x ∈ elbs T (rotP b m) → rotN c x ∈ elbs T m ∧ swp T m (rotN c x) = swp T (rotP b m) x ∧ mvV T (rotN c x) = mvV T x := fun hx => by
    have h := elbs_rot hm' c hx
    rw [rotP_back hbc] at h
    exact h
  have hj : ∀ x ∈ elbs T m, ∀ y ∈ elbs T m, rotN b x = rotN b y → x = y := fun x hx y hy h => by
    rw [← rotN_back (b := b) (c := c) (l := x) (by rw [((elbs_iff hm).1 hx).1]; exact hbc), h, rotN_back (by rw [((elbs_iff hm).1 hy).1]; exact hbc)]
  have hj' : ∀ x ∈ elbs T (rotP b m), ∀ y ∈ elbs T (rotP b m), rotN c x = rotN c y → x = y := fun x hx y hy h => by
    rw [← rotN_back (b := c) (c := b) (l := x) (by rw [((elbs_iff hm').1 hx).1, rotP_len]; exact hcb), h, rotN_back (by rw [((elbs_iff hm').1 hy).1, rotP_len]; exact hcb)]
  have h1 := elbs_le (T := T) (m := m) (T' := T) (m' := rotP b m) (rotN b) (fun x hx => (elbs_rot hm b hx).1) hj
  have h2 := elbs_le (T := T) (m := rotP b m) (T' := T) (m' := m) (rotN c) (fun x hx => (hb hx).1) hj'
  refine ⟨by omega, fun x => ?_, fun hne => ?_⟩
  · rw [mem_rolS, mem_rolS]
    constructor
    · rintro ⟨y, hy, rfl⟩
      exact ⟨rotN c y, (hb hy).1, (hb hy).2.1⟩
    · rintro ⟨y, hy, rfl⟩
      exact ⟨rotN b y, (elbs_rot hm b hy).1, (elbs_rot hm b hy).2.1⟩
  · have h3 := ls_le (T := T) (m := m) (T' := T) (m' := rotP b m) (rotN b) (fun x hx => ⟨(elbs_rot hm b hx).1, (elbs_rot hm b hx).2.2⟩) hne
    have h4 := ls_le (T := T) (m := rotP b m) (T' := T) (m' := m) (rotN c) (fun x hx => ⟨(hb hx).1, (hb hx).2.2⟩) (fun e => hne (by
      rw [e] at h1
      exact List.eq_nil_of_length_eq_zero (by simpa using h1)))
    omega
end Go.Proofs.Ytfgplmgkejeoiaa
