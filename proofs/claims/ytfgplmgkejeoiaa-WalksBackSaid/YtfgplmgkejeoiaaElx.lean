/- Elbows of a walk on a track, as the track or the walk changes: how many, their sweeps, their moves. Plain; no conditions of the program's. -/
import Derived.Test.YtfgplmgkejeoiaaRMov
import Derived.Test.YtfgplmgkejeoiaaOrd
import Derived.Test.YtfgplmgkejeoiaaRolls
namespace Go.Proofs.Ytfgplmgkejeoiaa

/-! Sums over places. -/
def totN (g : Nat → Int) : Nat → Int
  | 0 => 0
  | k + 1 => totN g k + g k
theorem totN_same {g h : Nat → Int} : ∀ {n : Nat}, (∀ i, i < n → g i = h i) → totN g n = totN h n
  | 0, _ => rfl
  | n + 1, e => by rw [totN, totN, totN_same fun i hi => e i (by omega), e n (by omega)]
theorem totN_neg (g : Nat → Int) : ∀ n, totN (fun i => -g i) n = -totN g n
  | 0 => rfl
  | n + 1 => by rw [totN, totN, totN_neg g n]; omega
theorem totN_front (g : Nat → Int) : ∀ n, totN g (n + 1) = g 0 + totN (fun i => g (i + 1)) n
  | 0 => by simp [totN]
  | n + 1 => by rw [totN, totN_front g n, totN]; omega
theorem totN_rev (g : Nat → Int) : ∀ n, totN (fun i => g (n - 1 - i)) n = totN g n
  | 0 => rfl
  | n + 1 => by
    rw [totN_front, totN, ← totN_rev g n, Int.add_comm]
    congr 1
    exact totN_same fun i hi => by rw [show n + 1 - 1 - (i + 1) = n - 1 - i by omega]
theorem totN_rot (g : Nat → Int) {n : Nat} (hn : 0 < n) : ∀ b, totN (fun i => g ((i + b) % n)) n = totN g n
  | 0 => totN_same fun i hi => by rw [Nat.add_zero, Nat.mod_eq_of_lt hi]
  | b + 1 => by
    have ih := totN_rot g hn b
    have h1 := totN_front (fun i => g ((i + b) % n)) n
    rw [totN, ih] at h1
    have h2 : totN (fun i => g ((i + (b + 1)) % n)) n = totN (fun i => g ((i + 1 + b) % n)) n := totN_same fun i _ => by rw [show i + (b + 1) = i + 1 + b by omega]
    rw [h2]
    rw [show (n + b) % n = (0 + b) % n by rw [Nat.zero_add, Nat.add_mod_left]] at h1
    omega
/-- The place before, backwards. -/
def sg (n i : Nat) : Nat := (n - 1 - i + (n - 1)) % n
theorem sg_lt {n i : Nat} (h : 0 < n) : sg n i < n := Nat.mod_lt _ h
theorem sg_nx {n i : Nat} (h : i < n) : n - 1 - nx n i = sg n i ∧ n - 1 - i = nx n (sg n i) := by
  unfold sg nx
  by_cases h1 : i + 1 = n
  · rw [h1, Nat.mod_self, show n - 1 - i + (n - 1) = n - 1 by omega, Nat.mod_eq_of_lt (show n - 1 < n by omega), show n - 1 + 1 = n by omega, Nat.mod_self]
    omega
  · rw [Nat.mod_eq_of_lt (show i + 1 < n by omega), show n - 1 - i + (n - 1) = n - 2 - i + n by omega, Nat.add_mod_right, Nat.mod_eq_of_lt (show n - 2 - i < n by omega), Nat.mod_eq_of_lt (show n - 2 - i + 1 < n by omega)]
    omega
theorem totN_back (g : Nat → Int) {n : Nat} (hn : 0 < n) : totN (fun i => g (sg n i)) n = totN g n :=
  (totN_rev (fun i => g ((i + (n - 1)) % n)) n).trans (totN_rot g hn (n - 1))
theorem nx_rot (n i b : Nat) : nx n ((i + b) % n) = (nx n i + b) % n := by
  unfold nx
  rw [Nat.mod_add_mod, Nat.mod_add_mod, Nat.add_right_comm]

theorem swp_tot (T : Trk) (m : List Pt) (ns : List Nat) : swp T m ns = totN (fun i => dbl (quad T m ns i)) ns.length := by
  have h : ∀ k, swpTo T m ns k = totN (fun i => dbl (quad T m ns i)) k := fun k => by
    induction k with
    | zero => rfl
    | succ k ih => rw [swpTo, totN, ih]
  exact h _
theorem on_tot (T : Trk) (ns : List Nat) : onV T ns = totN (st1 T ns) ns.length := by
  have h : ∀ k, onTo T ns k = totN (st1 T ns) k := fun k => by
    induction k with
    | zero => rfl
    | succ k ih => rw [onTo, totN, ih]
  exact h _
theorem mv_tot (T : Trk) (ns : List Nat) : mvV T ns = totN (fun i => max (st1 T ns i) (-st1 T ns i)) ns.length := by
  have h : ∀ k, mvTo T ns k = totN (fun i => max (st1 T ns i) (-st1 T ns i)) k := fun k => by
    induction k with
    | zero => rfl
    | succ k ih => rw [mvTo, totN, ih]
  exact h _
theorem dbl_tot (l : List Pt) : dbl l = totN (fun i => cross (pat l i) (pat l (nx l.length i))) l.length := by
  have h : ∀ k, dblTo l k = totN (fun i => cross (pat l i) (pat l (nx l.length i))) k := fun k => by
    induction k with
    | zero => rfl
    | succ k ih => rw [dblTo, totN, ih]; rfl
  exact h _

/-! All elbows come once. -/
theorem allR_nodup (T : Trk) (m : List Pt) : ∀ (r : Nat) (first : List Nat), (allR T m r first).Nodup
  | 0, first => by
    rw [allR]
    split
    · exact List.nodup_cons.2 ⟨List.not_mem_nil, List.nodup_nil⟩
    · exact List.nodup_nil
  | r + 1, first => by
    rw [allR]
    refine List.pairwise_flatMap.2 ⟨fun q _ => ?_, ?_⟩
    · split
      · exact allR_nodup T m r _
      · exact List.nodup_nil
    · have hp : ∀ (q : Nat) (x : List Nat), x ∈ (if first.length = 0 ∨ (stepV T (nat first (first.length - 1)) q).2 = true then allR T m r (first ++ [q]) else []) → nat x first.length = q := fun q x hx => by
        split at hx
        · obtain ⟨⟨e, rfl, _⟩, _⟩ := (allR_iff x r (first ++ [q])).1 hx
          rw [List.append_assoc, List.singleton_append, nat_app]
        · cases hx
      have h1 : (plcN T (pat m first.length)).Nodup := List.Pairwise.filter _ List.nodup_range
      generalize plcN T (pat m first.length) = l at h1
      induction l with
      | nil => exact List.Pairwise.nil
      | cons a t ih =>
        have h2 := List.nodup_cons.1 h1
        refine List.pairwise_cons.2 ⟨fun b hb x hx y hy e => ?_, ih h2.2⟩
        have h3 := hp _ _ hx
        have h4 := hp _ _ hy
        rw [e, h4] at h3
        exact h2.1 (h3 ▸ hb)
theorem elbs_nodup (T : Trk) (m : List Pt) : (elbs T m).Nodup := allR_nodup T m _ _
theorem len_sub : ∀ {xs ys : List (List Nat)}, xs.Nodup → (∀ x ∈ xs, x ∈ ys) → xs.length ≤ ys.length
  | [], _, _, _ => Nat.zero_le _
  | a :: t, ys, hn, hs => by
    have h1 := List.nodup_cons.1 hn
    have h2 := hs a List.mem_cons_self
    have h3 := len_sub (ys := ys.erase a) h1.2 fun x hx => (List.mem_erase_of_ne (fun (e : x = a) => h1.1 (e ▸ hx))).2 (hs x (List.mem_cons_of_mem _ hx))
    rw [List.length_erase_of_mem h2] at h3
    have h4 := List.length_pos_of_mem h2
    rw [List.length_cons]
    omega
theorem nodup_map {φ : List Nat → List Nat} : ∀ {xs : List (List Nat)}, xs.Nodup → (∀ x ∈ xs, ∀ y ∈ xs, φ x = φ y → x = y) → (xs.map φ).Nodup
  | [], _, _ => List.nodup_nil
  | a :: t, hn, hi => by
    have h1 := List.nodup_cons.1 hn
    rw [List.map_cons]
    refine List.nodup_cons.2 ⟨fun h => ?_, nodup_map h1.2 fun x hx y hy => hi x (List.mem_cons_of_mem _ hx) y (List.mem_cons_of_mem _ hy)⟩
    obtain ⟨y, hy, e⟩ := List.mem_map.1 h
    have h2 := hi a List.mem_cons_self y (List.mem_cons_of_mem _ hy) e.symm
    exact h1.1 (h2 ▸ hy)
theorem elbs_le {T T' : Trk} {m m' : List Pt} (φ : List Nat → List Nat) (h : ∀ x ∈ elbs T m, φ x ∈ elbs T' m') (hi : ∀ x ∈ elbs T m, ∀ y ∈ elbs T m, φ x = φ y → x = y) : (elbs T m).length ≤ (elbs T' m').length := by
  have h1 := len_sub (nodup_map (elbs_nodup T m) hi) (ys := elbs T' m') fun y hy => by
    obtain ⟨x, hx, rfl⟩ := List.mem_map.1 hy
    exact h x hx
  rwa [List.length_map] at h1

/-! The least moves. -/
theorem bst_some {T : Trk} (o : Option (List Nat)) (x : List Nat) : ∃ y, bst T o x = some y ∧ mvV T y ≤ mvV T x ∧ (y = x ∨ o = some y) ∧ ∀ b, o = some b → mvV T y ≤ mvV T b := by
  unfold bst
  cases o with
  | none => exact ⟨x, rfl, Int.le_refl _, .inl rfl, fun b h => by cases h⟩
  | some b =>
    by_cases h : mvV T x < mvV T b
    · exact ⟨x, by simp only [if_pos h], Int.le_refl _, .inl rfl, fun c e => by cases e; omega⟩
    · exact ⟨b, by simp only [if_neg h], by omega, .inr rfl, fun c e => by cases e; omega⟩
theorem best_min {T : Trk} : ∀ (xs : List (List Nat)) (o : Option (List Nat)) (z : List Nat), o = some z → ∃ y, xs.foldl (bst T) o = some y ∧ mvV T y ≤ mvV T z ∧ (y = z ∨ y ∈ xs) ∧ ∀ x ∈ xs, mvV T y ≤ mvV T x
  | [], o, z, h => ⟨z, h, Int.le_refl _, .inl rfl, fun x hx => by cases hx⟩
  | a :: t, o, z, h => by
    obtain ⟨y, h1, h2, h3, h4⟩ := bst_some (T := T) o a
    obtain ⟨u, k1, k2, k3, k4⟩ := best_min t (bst T o a) y h1
    have h5 := h4 z h
    refine ⟨u, k1, by omega, ?_, fun x hx => ?_⟩
    · rcases k3 with rfl | k3
      · rcases h3 with rfl | h3
        · exact .inr List.mem_cons_self
        · rw [h] at h3; cases h3; exact .inl rfl
      · exact .inr (List.mem_cons_of_mem _ k3)
    · rcases List.mem_cons.1 hx with rfl | hx
      · omega
      · exact k4 x hx
theorem ls_min {T : Trk} {m : List Pt} (hne : elbs T m ≠ []) : lsB T m ∈ elbs T m ∧ ∀ x ∈ elbs T m, lsV T m ≤ mvV T x := by
  unfold lsV lsB lsO best
  rw [List.take_length]
  cases he : elbs T m with
  | nil => exact absurd he hne
  | cons a t =>
    obtain ⟨u, k1, k2, k3, k4⟩ := best_min t (bst T none a) a rfl
    rw [List.foldl_cons, k1, Option.getD_some]
    refine ⟨?_, fun x hx => ?_⟩
    · rcases k3 with rfl | k3
      · exact List.mem_cons_self
      · exact List.mem_cons_of_mem _ k3
    · rcases List.mem_cons.1 hx with rfl | hx
      · exact k2
      · exact k4 x hx
theorem ls_le {T T' : Trk} {m m' : List Pt} (φ : List Nat → List Nat) (h : ∀ x ∈ elbs T m, φ x ∈ elbs T' m' ∧ mvV T' (φ x) = mvV T x) (hne : elbs T m ≠ []) : lsV T' m' ≤ lsV T m := by
  have h1 := (ls_min hne).1
  have h2 := h _ h1
  have h3 := (ls_min (T := T') (m := m') (fun e => by have h4 := h2.1; rw [e] at h4; cases h4)).2 _ h2.1
  unfold lsV at h3 ⊢
  omega
theorem mv_nonneg (T : Trk) (ns : List Nat) : 0 ≤ mvV T ns := (mvTo_bd T ns _).1

/-! What a track and a walk answer. -/
theorem opE_of {T T' : Trk} {m m' : List Pt} (hc : chkT T m = 0) (hc' : chkT T' m' = 0) (h : elbs T m = [] ↔ elbs T' m' = []) : opE T m = opE T' m' := by
  rw [opE, opE, if_pos hc, if_pos hc', elbE, elbE]
  by_cases he : elbs T m = []
  · rw [if_pos he, if_pos (h.1 he)]
  · rw [if_neg he, if_neg fun e => he (h.2 e)]
theorem nil_of_len {α β : Type} {l : List α} {m : List β} (h : l.length = m.length) : l = [] ↔ m = [] := by
  rw [List.eq_nil_iff_length_eq_zero, List.eq_nil_iff_length_eq_zero, h]
theorem opE_nil {T : Trk} {m : List Pt} (hc : chkT T m = 0) : opE T m = 0 ↔ elbs T m ≠ [] := by
  rw [opE, if_pos hc, elbE]
  split
  · rename_i h
    exact ⟨fun e => (by cases e), fun e => absurd h e⟩
  · rename_i h
    exact ⟨fun _ => h, fun _ => rfl⟩
theorem opE_known {T : Trk} {m : List Pt} (hc : chkT T m = 0) : opE T m = 0 ∨ opE T m = 3 := by
  rw [opE, if_pos hc, elbE]
  split <;> simp
theorem mem_rolS {T : Trk} {m : List Pt} {x : Int} : x ∈ rolS T m ↔ ∃ y ∈ elbs T m, swp T m y = x := by
  rw [rolS, mem_srt, sws, List.take_length, List.mem_map]
theorem rolV_of {T T' : Trk} {m m' : List Pt} (h0 : opE T m = opE T' m') (h : ∀ x, x ∈ rolS T m ↔ x ∈ rolS T' m') : rolV T m = rolV T' m' := by
  rw [rolV, rolV, h0]
  split
  · exact up_ext (up_srt _) (up_srt _) h
  · rfl
theorem lvV_of {T T' : Trk} {m m' : List Pt} (h0 : opE T m = opE T' m') (h : elbs T m ≠ [] → lsV T m = lsV T' m') (hc : chkT T m = 0) : lvV T m = lvV T' m' := by
  rw [lvV, lvV, h0]
  split
  · rename_i h1
    exact h ((opE_nil hc).1 (h0.trans h1))
  · rfl
end Go.Proofs.Ytfgplmgkejeoiaa
