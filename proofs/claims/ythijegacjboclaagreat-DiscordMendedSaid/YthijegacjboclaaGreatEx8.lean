/- The functions Example and works of the laws of disputes. -/
import Derived.Test.YthijegacjboclaaGreatDsr
import Derived.Test.YthijegacjboclaaGreatAra
import Derived.Test.YthijegacjboclaaGreatBlm
import Derived.Test.YthijegacjboclaaGreatLa8
namespace Go.Proofs.YthijegacjboclaaGreat

/-- All points near one. -/
def sqL (c : Pt) (o : Nat) : List Pt := (List.range (2 * o + 1)).flatMap fun i : Nat => (List.range (2 * o + 1)).map fun j : Nat => (c.1 - (o : Int) + (i : Int), c.2 - (o : Int) + (j : Int))
theorem mem_sqL {c p : Pt} {o : Nat} : p ∈ sqL c o ↔ c.1 - o ≤ p.1 ∧ p.1 ≤ c.1 + o ∧ c.2 - o ≤ p.2 ∧ p.2 ≤ c.2 + o := by
  unfold sqL
  simp only [List.mem_flatMap, List.mem_range, List.mem_map]
  constructor
  · rintro ⟨i, hi, j, hj, rfl⟩
    simp only
    omega
  · rintro ⟨h1, h2, h3, h4⟩
    refine ⟨(p.1 - c.1 + o).toNat, by omega, (p.2 - c.2 + o).toNat, by omega, Prod.ext ?_ ?_⟩
    · show c.1 - (o : Int) + ((p.1 - c.1 + o).toNat : Int) = p.1
      omega
    · show c.2 - (o : Int) + ((p.2 - c.2 + o).toNat : Int) = p.2
      omega
def flL : List Pt → List Int → List (List Pt)
  | c :: cs, o :: os => (sqL c o.toNat).flatMap fun p => (flL cs os).map fun l => p :: l
  | _, _ => [[]]
theorem pat_cons {p : Pt} {l : List Pt} {i : Nat} : pat (p :: l) (i + 1) = pat l i := by simp [pat]
theorem mem_flL : ∀ {cs : List Pt} {os : List Int} {l : List Pt}, os.length = cs.length → (∀ o ∈ os, 0 ≤ o) →
    (l ∈ flL cs os ↔ l.length = cs.length ∧ ∀ i, i < cs.length → (pat cs i).1 - os.getD i 0 ≤ (pat l i).1 ∧ (pat l i).1 ≤ (pat cs i).1 + os.getD i 0 ∧ (pat cs i).2 - os.getD i 0 ≤ (pat l i).2 ∧ (pat l i).2 ≤ (pat cs i).2 + os.getD i 0)
  | [], os, l, h, _ => by
    rw [flL.eq_2 _ _ (by simp)]
    simp
  | c :: cs, [], l, h, _ => by simp at h
  | c :: cs, o :: os, l, h, h0 => by
    have ih := fun l => mem_flL (cs := cs) (os := os) (l := l) (by simpa using h) (fun x hx => h0 x (List.mem_cons_of_mem _ hx))
    have ho := h0 o List.mem_cons_self
    have e : ((o.toNat : Nat) : Int) = o := Int.toNat_of_nonneg ho
    rw [flL]
    simp only [List.mem_flatMap, List.mem_map, mem_sqL, e]
    constructor
    · rintro ⟨p, hp, l', hl', rfl⟩
      obtain ⟨h1, h2⟩ := (ih l').1 hl'
      refine ⟨by simp [h1], fun i hi => ?_⟩
      cases i with
      | zero => simpa [pat] using hp
      | succ i =>
        rw [pat_cons, pat_cons]
        exact h2 i (by simpa using hi)
    · rintro ⟨h1, h2⟩
      match l, h1 with
      | p :: l', h1 =>
        refine ⟨p, by simpa [pat] using h2 0 (by simp), l', (ih l').2 ⟨by simpa using h1, fun i hi => ?_⟩, rfl⟩
        have := h2 (i + 1) (by simpa using hi)
        rwa [pat_cons, pat_cons] at this
def skL (D : Dsp) : List Int := (List.range (2 * D.wh.skew.toNat + 1)).map fun i : Nat => -D.wh.skew + (i : Int)
/-- What is told of all stories. -/
def tls (D : Dsp) : List Tld := ((flL D.cs D.offs).filter fun l => decide (D.wh.glo ≤ arD D l) && decide (arD D l ≤ D.wh.ghi) && decide (Ok l)).flatMap fun l => (skL D).map fun s => tldOf D l s
theorem mem_tls {D : Dsp} (h : DspOk D) {t : Tld} : isT D t ↔ t ∈ tls D := by
  have hk := h.wh.k0
  unfold tls skL
  simp only [List.mem_flatMap, List.mem_filter, List.mem_map, List.mem_range, Bool.and_eq_true, decide_eq_true_eq]
  have ho : ∀ o ∈ D.offs, 0 ≤ o := fun o ho => by
    obtain ⟨i, hi, rfl⟩ := List.mem_iff_getElem.1 ho
    have := (h.off i hi).1
    simpa [oat, hi] using this
  constructor
  · rintro ⟨l, s, ⟨h1, h2, h3⟩, hg, hs, rfl⟩
    refine ⟨l, ⟨(mem_flL h.lo ho).2 ⟨h1, fun i hi => h2 i hi⟩, ⟨hg.1, hg.2⟩, h3⟩, s, ⟨(s + D.wh.skew).toNat, ?_, ?_⟩, rfl⟩
    · have := hs.1; have := hs.2; omega
    · have := hs.1; have := hs.2; omega
  · rintro ⟨l, ⟨hl, ⟨hg1, hg2⟩, h3⟩, s, ⟨i, hi, rfl⟩, rfl⟩
    obtain ⟨h1, h2⟩ := (mem_flL h.lo ho).1 hl
    refine ⟨l, _, ⟨h1, fun i hi => h2 i hi, h3⟩, ⟨hg1, hg2⟩, ⟨?_, ?_⟩, rfl⟩
    · omega
    · omega
def exD : Dsp := ⟨[(0, 0), (4, 0), (4, 4), (0, 4)], [0, 1, 1, 1], 1, ⟨100, 0, 0, 0, 0, 20, 40, 0⟩, [⟨1, 1, 0, 10, 46⟩, ⟨-1, 1, 0, 50, 14⟩]⟩
theorem exD_ok : dspB exD = true := by decide +kernel
/-- All that the example is asked. -/
def exChk (L : List Tld) : Bool :=
  L.all (fun t => decide (1 ≤ t.many) && (!t.wc.isEmpty || decide (2 ≤ t.many)) && (!decide (t.many ≤ 2) || t.area == 32 || t.area == 36) && (!(t.many == 1) || (t.ww.isEmpty && !t.wc.contains 0)))
  && L.any (fun t => t.wc.isEmpty && t.many == 2) && L.any (fun t => decide (t.many ≤ 2) && t.area == 32) && L.any (fun t => decide (t.many ≤ 2) && t.area == 36)
  && L.any (fun t => t.many == 1 && t.wc.contains 1) && L.any (fun t => t.many == 1 && t.wc.contains 2) && L.any (fun t => t.many == 1 && t.wc.contains 3)
theorem exD_chk : exChk (tls exD) = true := by decide +kernel
theorem exD_is : DspOk exD := dsp_ok exD_ok
theorem ex_all {t : Tld} (h : isT exD t) : 1 ≤ t.many ∧ (t.wc = [] → 2 ≤ t.many) ∧ (t.many ≤ 2 → t.area = 32 ∨ t.area = 36) ∧ (t.many = 1 → t.ww = [] ∧ 0 ∉ t.wc) := by
  have hc := exD_chk
  unfold exChk at hc
  simp only [Bool.and_eq_true] at hc
  have h1 := List.all_eq_true.1 hc.1.1.1.1.1.1 t ((mem_tls exD_is).1 h)
  simp only [Bool.and_eq_true, Bool.or_eq_true, Bool.not_eq_true', decide_eq_true_eq, decide_eq_false_iff_not, beq_iff_eq, beq_eq_false_iff_ne, List.isEmpty_iff, List.isEmpty_eq_false_iff, List.contains_eq_mem] at h1
  obtain ⟨⟨⟨a1, a2⟩, a3⟩, a4⟩ := h1
  refine ⟨a1, fun h => a2.resolve_left (fun h' => h' h), fun h => ?_, fun h => a4.resolve_left fun h' => h' h⟩
  rcases a3 with (h' | h') | h'
  · exact absurd h h'
  · exact .inl h'
  · exact .inr h'
theorem ex_any : (∃ t, isT exD t ∧ t.wc = [] ∧ t.many = 2) ∧ (∃ t, isT exD t ∧ t.many ≤ 2 ∧ t.area = 32) ∧ (∃ t, isT exD t ∧ t.many ≤ 2 ∧ t.area = 36) ∧ (∃ t, isT exD t ∧ t.many = 1 ∧ 1 ∈ t.wc) ∧ (∃ t, isT exD t ∧ t.many = 1 ∧ 2 ∈ t.wc) ∧ (∃ t, isT exD t ∧ t.many = 1 ∧ 3 ∈ t.wc) := by
  have hc := exD_chk
  unfold exChk at hc
  simp only [Bool.and_eq_true] at hc
  obtain ⟨⟨⟨⟨⟨⟨-, h1⟩, h2⟩, h3⟩, h4⟩, h5⟩, h6⟩ := hc
  have key : ∀ (g : Tld → Bool), (tls exD).any g = true → ∃ t, isT exD t ∧ g t = true := fun g h => by
    obtain ⟨t, ht, hg⟩ := List.any_eq_true.1 h
    exact ⟨t, (mem_tls exD_is).2 ht, hg⟩
  refine ⟨?_, ?_, ?_, ?_, ?_, ?_⟩
  · obtain ⟨t, ht, hg⟩ := key _ h1; simp only [Bool.and_eq_true, List.isEmpty_iff, beq_iff_eq] at hg; exact ⟨t, ht, hg⟩
  · obtain ⟨t, ht, hg⟩ := key _ h2; simp only [Bool.and_eq_true, decide_eq_true_eq, beq_iff_eq] at hg; exact ⟨t, ht, hg⟩
  · obtain ⟨t, ht, hg⟩ := key _ h3; simp only [Bool.and_eq_true, decide_eq_true_eq, beq_iff_eq] at hg; exact ⟨t, ht, hg⟩
  · obtain ⟨t, ht, hg⟩ := key _ h4; simp only [Bool.and_eq_true, List.contains_eq_mem, decide_eq_true_eq, beq_iff_eq] at hg; exact ⟨t, ht, hg⟩
  · obtain ⟨t, ht, hg⟩ := key _ h5; simp only [Bool.and_eq_true, List.contains_eq_mem, decide_eq_true_eq, beq_iff_eq] at hg; exact ⟨t, ht, hg⟩
  · obtain ⟨t, ht, hg⟩ := key _ h6; simp only [Bool.and_eq_true, List.contains_eq_mem, decide_eq_true_eq, beq_iff_eq] at hg; exact ⟨t, ht, hg⟩
theorem ex_fw : fwO exD = some 1 := lst_of ⟨by obtain ⟨t, ht, h1, _⟩ := ex_any.2.2.2.1; exact ⟨t, ht, h1⟩, fun t ht => (ex_all ht).1⟩
theorem ex_wl : wlO exD = some 2 := lst_of ⟨by obtain ⟨t, ht, h1, h2⟩ := ex_any.1; exact ⟨t, ⟨ht, h1⟩, h2⟩, fun t ht => (ex_all ht.1).2.1 ht.2⟩
theorem ex_min {t : Tld} : minT exD t ↔ isT exD t ∧ t.many = 1 := by
  constructor
  · rintro ⟨h1, h2⟩
    obtain ⟨u, hu, h3, _⟩ := ex_any.2.2.2.1
    have := h2 u hu
    have := (ex_all h1).1
    exact ⟨h1, by omega⟩
  · rintro ⟨h1, h2⟩
    exact ⟨h1, fun u hu => by have := (ex_all hu).1; omega⟩
theorem ex_blC : (List.range 4).filter (blC exD) = [1, 2, 3] := by
  obtain ⟨-, -, -, ⟨t1, a1, b1, c1⟩, ⟨t2, a2, b2, c2⟩, ⟨t3, a3, b3, c3⟩⟩ := ex_any
  have h0 : blC exD 0 = false := by
    cases h : blC exD 0 with
    | false => rfl
    | true =>
      obtain ⟨t, ht, hi⟩ := blC_iff.1 h
      obtain ⟨h1, h2⟩ := ex_min.1 ht
      exact absurd hi ((ex_all h1).2.2.2 h2).2
  have h1 : blC exD 1 = true := blC_iff.2 ⟨t1, ex_min.2 ⟨a1, b1⟩, c1⟩
  have h2 : blC exD 2 = true := blC_iff.2 ⟨t2, ex_min.2 ⟨a2, b2⟩, c2⟩
  have h3 : blC exD 3 = true := blC_iff.2 ⟨t3, ex_min.2 ⟨a3, b3⟩, c3⟩
  show (([0, 1, 2, 3] : List Nat).filter (blC exD)) = _
  simp [h0, h1, h2, h3]
theorem ex_blW (n : Nat) : (List.range n).filter (blW exD) = [] := by
  rw [List.filter_eq_nil_iff]
  intro i _ h
  obtain ⟨t, ht, hi⟩ := blW_iff.1 h
  obtain ⟨h1, h2⟩ := ex_min.1 ht
  rw [((ex_all h1).2.2.2 h2).1] at hi
  simp at hi
theorem ex_ar (a : Int) : arB exD 2 a = (decide (a = 32) || decide (a = 36)) := by
  rw [Bool.eq_iff_iff, arB_iff]
  simp only [Bool.or_eq_true, decide_eq_true_eq]
  constructor
  · rintro ⟨t, ht, h1, rfl⟩
    exact (ex_all ht).2.2.1 (by omega)
  · obtain ⟨-, ⟨t1, a1, b1, c1⟩, ⟨t2, a2, b2, c2⟩, -⟩ := ex_any
    rintro (rfl | rfl)
    · exact ⟨t1, a1, by omega, c1⟩
    · exact ⟨t2, a2, by omega, c2⟩
end Go.Proofs.YthijegacjboclaaGreat
namespace Go.Proofs.YthijegacjboclaaGreat
open Go.RowKit
attribute [local go_sem] After.cell After.frozen

theorem ptsAt_blk8 {w : World} {g : Nat} {t : TypeId} {l : List Pt} (h : Blk w g t (ptsV l).toArray) : PtsAt w g 0 l := by
  refine ⟨h.lt, fun i p hi => ?_, fun i p hi => ?_⟩
  · have := h.cell (i * 2)
    rw [List.getElem?_toArray, ptsV_x, hi] at this
    simpa using this
  · have := h.cell (i * 2 + 1)
    rw [List.getElem?_toArray, ptsV_y, hi] at this
    simpa using this
theorem intsAt_blk8 {w : World} {g : Nat} {t : TypeId} {l : List Int} (h : Blk w g t (intsV l).toArray) : IntsAt w g 0 l := by
  refine ⟨h.lt, fun i n hi => ?_⟩
  have := h.cell i
  rw [List.getElem?_toArray] at this
  simpa [intsV, hi] using this
theorem recAt_blk8 {α : Type} {enc : α → List Int} {w : World} {g : Nat} {t : TypeId} {l : List α} (h : Blk w g t (recV enc l).toArray) : RecAt enc w g 0 l :=
  ⟨h.lt, fun j u hj => by
    have := h.cell j
    rw [List.getElem?_toArray, hj] at this
    simpa using this⟩
set_option maxRecDepth 100000 in
set_option maxHeartbeats 2000000 in
theorem Example8_any (w : World) : Calls Tryz.prog 37 #[] w fun e w' => (∃ a b c : Nat, e = .returned (.agg #[.slice (some ⟨a, 0, none⟩) exD.cs.length 4, .slice (some ⟨b, 0, none⟩) exD.offs.length 4, (Value.int .i64 (exD.unit)), (Value.int .i64 (exD.wh.full)), (Value.int .i64 (exD.wh.read)), (Value.int .i64 (exD.wh.slip)), (Value.int .i64 (exD.wh.skew)), (Value.int .i64 (exD.wh.circle)), (Value.int .i64 (exD.wh.glo)), (Value.int .i64 (exD.wh.ghi)), (Value.int .i64 (exD.wh.wrong)), .slice (some ⟨c, 0, none⟩) exD.wks.length 2]) ∧ PtsAt w' a 0 exD.cs ∧ IntsAt w' b 0 exD.offs ∧ RecAt wkE w' c 0 exD.wks) ∧ Below w.heap.size w w' := by
  go_enter Tryz.func37, Tryz.ntmps37
  go_wp2
  refine bodyPost_ret (v := .agg #[.slice (some ⟨w.heap.size + 1, 0, none⟩) exD.cs.length 4, .slice (some ⟨w.heap.size + 1 + 1, 0, none⟩) exD.offs.length 4, (Value.int .i64 (exD.unit)), (Value.int .i64 (exD.wh.full)), (Value.int .i64 (exD.wh.read)), (Value.int .i64 (exD.wh.slip)), (Value.int .i64 (exD.wh.skew)), (Value.int .i64 (exD.wh.circle)), (Value.int .i64 (exD.wh.glo)), (Value.int .i64 (exD.wh.ghi)), (Value.int .i64 (exD.wh.wrong)), .slice (some ⟨w.heap.size + 1 + 1 + 1, 0, none⟩) exD.wks.length 2]) (by simp [results, Tryz.results37, go_sem, exD]) rfl ⟨⟨_, _, _, rfl, ptsAt_blk8 (l := exD.cs) (t := 98) ?_, intsAt_blk8 (l := exD.offs) (t := 3) ?_, recAt_blk8 (l := exD.wks) (t := 88) ?_⟩, by (repeat (first | with_reducible exact Below.refl _ _ | with_reducible apply bl_alloc | with_reducible apply bl_drew | with_reducible apply bl_after | (with_reducible refine bl_call ?_ (by assumption))))⟩
  · exact ((blk_new_at (by simp)).alloc _).alloc _
  · exact (blk_new_at (by simp)).alloc _
  · exact blk_new_at (by simp)
theorem ex_lsF : lsV exD (fwO exD) = 1 ∧ lsE exD (fwO exD) = 0 := by
  constructor
  · unfold lsV; rw [if_pos exD_ok, ex_fw]; rfl
  · unfold lsE; rw [if_pos exD_ok, ex_fw]
theorem ex_lsW : lsV exD (wlO exD) = 2 ∧ lsE exD (wlO exD) = 0 := by
  constructor
  · unfold lsV; rw [if_pos exD_ok, ex_wl]; rfl
  · unfold lsE; rw [if_pos exD_ok, ex_wl]
theorem ex_arL : arL exD 2 = [32, 36] := by
  have h : arL exD 2 = ((List.range 21).map fun i : Nat => (20 : Int) + (i : Int)).filter (fun a => decide (a = 32) || decide (a = 36)) := by
    unfold arL
    rw [show (exD.wh.ghi - exD.wh.glo + 1).toNat = 21 from rfl]
    exact List.filter_congr fun a _ => ex_ar a
  rw [h]
  decide
theorem ex_arV : arV exD 2 = [32, 36] ∧ arE exD 2 = 0 := by
  constructor
  · unfold arV; rw [if_pos ⟨exD_ok, rfl⟩, ex_arL]
  · unfold arE; rw [if_pos exD_ok, if_pos (show within 2 0 14 = true from rfl), ex_arL]; rfl
theorem ex_bl : natI (bcL exD) = [1, 2, 3] ∧ natI (bwL exD) = [] := by
  constructor
  · unfold bcL
    rw [if_pos ex_lsF.2, show exD.cs.length = 4 from rfl, ex_blC]; rfl
  · unfold bwL
    rw [if_pos ex_lsF.2, ex_blW]; rfl
set_option maxRecDepth 100000 in
set_option maxHeartbeats 4000000 in
theorem works8_any (w : World) : Calls Tryz.prog 10 #[] w fun e w' => e = .returned (.bool true) ∧ Below w.heap.size w w' := by
  go_enter Tryz.func10, Tryz.ntmps10
  go_upto_region 2 with ((go_at_call 37); (with_reducible refine Calls.mono (Example8_any _) ?_); rintro e w1 ⟨⟨a, b, c, rfl, hA, hB, hC⟩, hb1⟩)
  have e0 : Blk (w1.alloc (.cells #[.slice (some ⟨a, 0, none⟩) exD.cs.length 4, .slice (some ⟨b, 0, none⟩) exD.offs.length 4, (Value.int .i64 (exD.unit)), (Value.int .i64 (exD.wh.full)), (Value.int .i64 (exD.wh.read)), (Value.int .i64 (exD.wh.slip)), (Value.int .i64 (exD.wh.skew)), (Value.int .i64 (exD.wh.circle)), (Value.int .i64 (exD.wh.glo)), (Value.int .i64 (exD.wh.ghi)), (Value.int .i64 (exD.wh.wrong)), .slice (some ⟨c, 0, none⟩) exD.wks.length 2] 30)) w1.heap.size 30 #[.slice (some ⟨a, 0, none⟩) exD.cs.length 4, .slice (some ⟨b, 0, none⟩) exD.offs.length 4, (Value.int .i64 (exD.unit)), (Value.int .i64 (exD.wh.full)), (Value.int .i64 (exD.wh.read)), (Value.int .i64 (exD.wh.slip)), (Value.int .i64 (exD.wh.skew)), (Value.int .i64 (exD.wh.circle)), (Value.int .i64 (exD.wh.glo)), (Value.int .i64 (exD.wh.ghi)), (Value.int .i64 (exD.wh.wrong)), .slice (some ⟨c, 0, none⟩) exD.wks.length 2] := Blk.new _ _ _
  have hb2 : Below w1.heap.size w1 (w1.alloc (.cells #[.slice (some ⟨a, 0, none⟩) exD.cs.length 4, .slice (some ⟨b, 0, none⟩) exD.offs.length 4, (Value.int .i64 (exD.unit)), (Value.int .i64 (exD.wh.full)), (Value.int .i64 (exD.wh.read)), (Value.int .i64 (exD.wh.slip)), (Value.int .i64 (exD.wh.skew)), (Value.int .i64 (exD.wh.circle)), (Value.int .i64 (exD.wh.glo)), (Value.int .i64 (exD.wh.ghi)), (Value.int .i64 (exD.wh.wrong)), .slice (some ⟨c, 0, none⟩) exD.wks.length 2] 30)) := by (repeat (first | with_reducible exact Below.refl _ _ | with_reducible apply bl_alloc | with_reducible apply bl_drew | with_reducible apply bl_after | (with_reducible refine bl_call ?_ (by assumption))))
  have hbw := bl_call hb1 hb2
  have hA2 : Pts _ _ exD.cs := .inr ⟨a, 0, rfl, hA.below hb2⟩
  have hB2 : Ints _ _ exD.offs := .inr ⟨b, 0, rfl, hB.below hb2⟩
  have hC2 : Wks _ _ exD.wks := .inr ⟨c, 0, rfl, hC.below hb2⟩
  generalize hg : w1.heap.size = g at *
  generalize w1.alloc (.cells #[.slice (some ⟨a, 0, none⟩) exD.cs.length 4, .slice (some ⟨b, 0, none⟩) exD.offs.length 4, (Value.int .i64 (exD.unit)), (Value.int .i64 (exD.wh.full)), (Value.int .i64 (exD.wh.read)), (Value.int .i64 (exD.wh.slip)), (Value.int .i64 (exD.wh.skew)), (Value.int .i64 (exD.wh.circle)), (Value.int .i64 (exD.wh.glo)), (Value.int .i64 (exD.wh.ghi)), (Value.int .i64 (exD.wh.wrong)), .slice (some ⟨c, 0, none⟩) exD.wks.length 2] 30) = W at *
  clear hA hB hC hb1 hb2
  have HF := Lib.hid fun (V : World) (h : Below W.heap.size W V) => (show Calls Tryz.prog 19 #[.agg #[.slice (some ⟨a, 0, none⟩) exD.cs.length 4, .slice (some ⟨b, 0, none⟩) exD.offs.length 4, (Value.int .i64 (exD.unit)), (Value.int .i64 (exD.wh.full)), (Value.int .i64 (exD.wh.read)), (Value.int .i64 (exD.wh.slip)), (Value.int .i64 (exD.wh.skew)), (Value.int .i64 (exD.wh.circle)), (Value.int .i64 (exD.wh.glo)), (Value.int .i64 (exD.wh.ghi)), (Value.int .i64 (exD.wh.wrong)), .slice (some ⟨c, 0, none⟩) exD.wks.length 2]] V fun e w' => e = .returned (.tuple #[(Value.int .i64 (1)), (Value.int .i64 (0))]) ∧ Below V.heap.size V w' by
    have h1 := Fewest_any8 (some ⟨a, 0, none⟩) (some ⟨b, 0, none⟩) (some ⟨c, 0, none⟩) 4 4 2 exD V (hA2.below h) (hB2.below h) (hC2.below h)
    rw [ex_lsF.1, ex_lsF.2] at h1
    exact h1)
  have HW := Lib.hid fun (V : World) (h : Below W.heap.size W V) => (show Calls Tryz.prog 34 #[.agg #[.slice (some ⟨a, 0, none⟩) exD.cs.length 4, .slice (some ⟨b, 0, none⟩) exD.offs.length 4, (Value.int .i64 (exD.unit)), (Value.int .i64 (exD.wh.full)), (Value.int .i64 (exD.wh.read)), (Value.int .i64 (exD.wh.slip)), (Value.int .i64 (exD.wh.skew)), (Value.int .i64 (exD.wh.circle)), (Value.int .i64 (exD.wh.glo)), (Value.int .i64 (exD.wh.ghi)), (Value.int .i64 (exD.wh.wrong)), .slice (some ⟨c, 0, none⟩) exD.wks.length 2]] V fun e w' => e = .returned (.tuple #[(Value.int .i64 (2)), (Value.int .i64 (0))]) ∧ Below V.heap.size V w' by
    have h1 := Walks_any8 (some ⟨a, 0, none⟩) (some ⟨b, 0, none⟩) (some ⟨c, 0, none⟩) 4 4 2 exD V (hA2.below h) (hB2.below h) (hC2.below h)
    rw [ex_lsW.1, ex_lsW.2] at h1
    exact h1)
  have HR := Lib.hid fun (V : World) (h : Below W.heap.size W V) => (show Calls Tryz.prog 12 #[.agg #[.slice (some ⟨a, 0, none⟩) exD.cs.length 4, .slice (some ⟨b, 0, none⟩) exD.offs.length 4, (Value.int .i64 (exD.unit)), (Value.int .i64 (exD.wh.full)), (Value.int .i64 (exD.wh.read)), (Value.int .i64 (exD.wh.slip)), (Value.int .i64 (exD.wh.skew)), (Value.int .i64 (exD.wh.circle)), (Value.int .i64 (exD.wh.glo)), (Value.int .i64 (exD.wh.ghi)), (Value.int .i64 (exD.wh.wrong)), .slice (some ⟨c, 0, none⟩) exD.wks.length 2], (Value.int .i64 (2))] V fun e w' => (∃ A' c', e = .returned (.tuple #[.slice A' 2 c', (Value.int .i64 (0))]) ∧ Ints w' A' [32, 36]) ∧ Below V.heap.size V w' by
    have h1 := Areas_any8 (some ⟨a, 0, none⟩) (some ⟨b, 0, none⟩) (some ⟨c, 0, none⟩) 4 4 2 exD 2 V (hA2.below h) (hB2.below h) (hC2.below h)
    rw [ex_arV.1, ex_arV.2] at h1
    exact h1)
  have HB := Lib.hid fun (V : World) (h : Below W.heap.size W V) => (show Calls Tryz.prog 22 #[.agg #[.slice (some ⟨a, 0, none⟩) exD.cs.length 4, .slice (some ⟨b, 0, none⟩) exD.offs.length 4, (Value.int .i64 (exD.unit)), (Value.int .i64 (exD.wh.full)), (Value.int .i64 (exD.wh.read)), (Value.int .i64 (exD.wh.slip)), (Value.int .i64 (exD.wh.skew)), (Value.int .i64 (exD.wh.circle)), (Value.int .i64 (exD.wh.glo)), (Value.int .i64 (exD.wh.ghi)), (Value.int .i64 (exD.wh.wrong)), .slice (some ⟨c, 0, none⟩) exD.wks.length 2]] V fun e w' => (∃ A1 c1 A2 c2, e = .returned (.tuple #[.slice A1 3 c1, .slice A2 0 c2, (Value.int .i64 (0))]) ∧ Ints w' A1 [1, 2, 3]) ∧ Below V.heap.size V w' by
    have h1 := Blamed_any8 (some ⟨a, 0, none⟩) (some ⟨b, 0, none⟩) (some ⟨c, 0, none⟩) 4 4 2 exD V (hA2.below h) (hB2.below h) (hC2.below h)
    rw [ex_lsF.2, ex_bl.1, ex_bl.2] at h1
    refine h1.mono fun e w' ⟨⟨v1, v2, he, h2, h3⟩, hb⟩ => ?_
    obtain ⟨A1, c1, rfl, hN⟩ := RowI.parts h2
    obtain ⟨A2, c2, rfl, -⟩ := RowI.parts h3
    exact ⟨⟨A1, c1, A2, c2, he, hN⟩, hb⟩)
  have HI1 := Lib.hid fun (A : Option Addr) (ca : Nat) (V : World) (ha : Ints V A [32, 36]) => (show Calls Tryz.prog 14 #[.slice A 2 ca, .slice (some ⟨V.heap.size, 0, none⟩) 2 2] (V.alloc (.cells #[(Value.int .i64 (32)), (Value.int .i64 (36))] 3)) fun e w' => e = .returned (.bool true) ∧ Below (V.alloc (.cells #[(Value.int .i64 (32)), (Value.int .i64 (36))] 3)).heap.size (V.alloc (.cells #[(Value.int .i64 (32)), (Value.int .i64 (36))] 3)) w' by
    have h1 := sameInts8 A (some ⟨V.heap.size, 0, none⟩) ca 2 [32, 36] [32, 36] (V.alloc (.cells #[(Value.int .i64 (32)), (Value.int .i64 (36))] 3)) (ha.alloc _) (.inr ⟨_, 0, rfl, intsAt_blk8 (l := [32, 36]) (t := 3) (Blk.new _ _ _)⟩) (by decide) (by decide)
    exact h1)
  have HI2 := Lib.hid fun (A : Option Addr) (ca : Nat) (V : World) (ha : Ints V A [1, 2, 3]) => (show Calls Tryz.prog 14 #[.slice A 3 ca, .slice (some ⟨V.heap.size, 0, none⟩) 3 3] (V.alloc (.cells #[(Value.int .i64 (1)), (Value.int .i64 (2)), (Value.int .i64 (3))] 3)) fun e w' => e = .returned (.bool true) ∧ Below (V.alloc (.cells #[(Value.int .i64 (1)), (Value.int .i64 (2)), (Value.int .i64 (3))] 3)).heap.size (V.alloc (.cells #[(Value.int .i64 (1)), (Value.int .i64 (2)), (Value.int .i64 (3))] 3)) w' by
    have h1 := sameInts8 A (some ⟨V.heap.size, 0, none⟩) ca 3 [1, 2, 3] [1, 2, 3] (V.alloc (.cells #[(Value.int .i64 (1)), (Value.int .i64 (2)), (Value.int .i64 (3))] 3)) (ha.alloc _) (.inr ⟨_, 0, rfl, intsAt_blk8 (l := [1, 2, 3]) (t := 3) (Blk.new _ _ _)⟩) (by decide) (by decide)
    exact h1)
  have E0 := Lib.hid e0
  have HBW := Lib.hid hbw
  (have la := e0.lt); (have ya0 := e0.cell 0); (have ya1 := e0.cell 1); (have ya2 := e0.cell 2); (have ya3 := e0.cell 3); (have ya4 := e0.cell 4); (have ya5 := e0.cell 5); (have ya6 := e0.cell 6); (have ya7 := e0.cell 7); (have ya8 := e0.cell 8); (have ya9 := e0.cell 9); (have ya10 := e0.cell 10); (have ya11 := e0.cell 11); simp only [List.getElem?_toArray, List.getElem?_cons_zero, List.getElem?_cons_succ] at ya0 ya1 ya2 ya3 ya4 ya5 ya6 ya7 ya8 ya9 ya10 ya11
  clear hA2 hB2 hC2 hbw hg e0
  go_upto_region 4 with (first | ((go_at_call 19); (with_reducible refine Calls.mono (HF.out _ (by (repeat (first | with_reducible exact Below.refl _ _ | with_reducible apply bl_alloc | with_reducible apply bl_drew | with_reducible apply bl_after | (with_reducible refine bl_call ?_ (by assumption)))))) ?_); rintro e wn ⟨rfl, hbn⟩; first | ((with_reducible apply kp_in_step (hb := hbn)); (with_reducible assumption); rintro ⟨hk, hc, hf, hzc, hzf⟩) | ((with_reducible refine kp_in_first hbn ?_); rintro ⟨hk, hc, hf, hzc, hzf⟩)) | ((go_at_call 34); (with_reducible refine Calls.mono (HW.out _ (by (repeat (first | with_reducible exact Below.refl _ _ | with_reducible apply bl_alloc | with_reducible apply bl_drew | with_reducible apply bl_after | (with_reducible refine bl_call ?_ (by assumption)))))) ?_); rintro e wn ⟨rfl, hbn⟩; first | ((with_reducible apply kp_in_step (hb := hbn)); (with_reducible assumption); rintro ⟨hk, hc, hf, hzc, hzf⟩) | ((with_reducible refine kp_in_first hbn ?_); rintro ⟨hk, hc, hf, hzc, hzf⟩)))
  have hB3 : Below W.heap.size W wn := by (repeat (first | with_reducible exact Below.refl _ _ | with_reducible apply bl_alloc | with_reducible apply bl_drew | with_reducible apply bl_after | (with_reducible refine bl_call ?_ (by assumption))))
  go_upto_region 6 with (first | ((go_at_call 12); (with_reducible refine Calls.mono (HR.out _ hB3) ?_); rintro e w4 ⟨⟨A4, c4, rfl, hN4⟩, hb4⟩; (have hB4 := bl_call hB3 hb4); (have e4 := E0.out.below hB4); first | ((with_reducible apply kp_in_step (hb := hb4)); (with_reducible assumption); rintro ⟨hk, hc, hf, hzc, hzf⟩) | ((with_reducible refine kp_in_first hb4 ?_); rintro ⟨hk, hc, hf, hzc, hzf⟩)) | ((go_at_call 22); (with_reducible refine Calls.mono (HB.out _ hB4) ?_); rintro e w5 ⟨⟨A5, c5, A6, c6, rfl, hN5⟩, hb5⟩; (have hN4' := hN4.below hb5); (have hB5 := bl_call hB4 hb5); first | ((with_reducible apply kp_in_step (hb := hb5)); (with_reducible assumption); rintro ⟨hk, hc, hf, hzc, hzf⟩) | ((with_reducible refine kp_in_first hb5 ?_); rintro ⟨hk, hc, hf, hzc, hzf⟩)))
  clear la ya0 ya1 ya2 ya3 ya4 ya5 ya6 ya7 ya8 ya9 ya10 ya11 e4
  ((try clear hk hc hf hzc hzf); (try clear hk hc hf hzc hzf); (try clear hk hc hf hzc hzf); (try clear hk hc hf hzc hzf))
  go_wp2_with (first | ((go_at_call 14); (with_reducible refine Calls.mono (HI1.out A4 c4 _ hN4') ?_); rintro e w6 ⟨rfl, hb6⟩; (have hN6 := (hN5.alloc (.cells #[(Value.int .i64 (32)), (Value.int .i64 (36))] 3)).below hb6)) | ((go_at_call 14); (with_reducible refine Calls.mono (HI2.out A5 c5 _ hN6) ?_); rintro e w7 ⟨rfl, hb7⟩))
  go_ret
  exact ⟨rfl, bl_call HBW.out (bl_call hB5 (bl_call (bl_alloc (bl_call (bl_alloc (Below.refl _ _)) hb6)) hb7))⟩
end Go.Proofs.YthijegacjboclaaGreat
