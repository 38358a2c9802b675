/- The function Areas of discord answers all areas of stories with at most so many faults, each once, in order. -/
import Derived.Test.YthijegacjboclaaGreatAsk
import Derived.Test.YthijegacjboclaaGreatMapI
import Derived.Test.YthijegacjboclaaGreatJQtb
namespace Go.Proofs.YthijegacjboclaaGreat
open Go.RowKit Go.Maps Go.Shelf
attribute [local go_sem] After.cell After.frozen AfterM.cell AfterM.frozen

/-- All areas with at most so many faults, in order. -/
noncomputable def arL (D : Dsp) (k : Int) : List Int := ((List.range (D.wh.ghi - D.wh.glo + 1).toNat).map fun i : Nat => D.wh.glo + (i : Int)).filter (arB D k)
theorem mem_arL {D : Dsp} (h : DspOk D) {k a : Int} : a ∈ arL D k ↔ arB D k a = true := by
  unfold arL
  rw [List.mem_filter, List.mem_map]
  constructor
  · exact fun h => h.2
  · intro ha
    refine ⟨?_, ha⟩
    obtain ⟨t, ⟨l, s, _, hg, _, rfl⟩, _, rfl⟩ := arB_iff.1 ha
    have h1 : D.wh.glo ≤ arD D l := hg.1
    have h2 : arD D l ≤ D.wh.ghi := hg.2
    refine ⟨(arD D l - D.wh.glo).toNat, by rw [List.mem_range]; omega, ?_⟩
    show D.wh.glo + ((arD D l - D.wh.glo).toNat : Int) = arD D l
    omega
theorem arL_sorted (D : Dsp) (k : Int) : (arL D k).Pairwise (· < ·) := by
  refine List.Pairwise.filter _ ?_
  rw [List.pairwise_map]
  exact List.pairwise_lt_range.imp fun h => by omega
theorem nodup_of_lt {l : List Int} (h : l.Pairwise (· < ·)) : l.Nodup := h.imp fun h => by omega
/-- A sorted list without repetitions is what srt makes of its members. -/
theorem srt_of {l m : List Int} (hm : m.Pairwise (· < ·)) (h : ∀ x, x ∈ l ↔ x ∈ m) : srt l = m := by
  have hp : (ddp l).Perm m := (List.perm_ext_iff_of_nodup (nodup_ddp l) (nodup_of_lt hm)).2 fun x => by rw [mem_ddp, h x]
  unfold srt
  refine List.Perm.eq_of_pairwise (le := fun a b => decide (a ≤ b) = true) (fun a b _ _ h1 h2 => by simp only [decide_eq_true_eq] at h1 h2; omega) (List.pairwise_mergeSort (fun a b c h1 h2 => by simp only [decide_eq_true_eq] at *; omega) (fun a b => by simp only [Bool.or_eq_true, decide_eq_true_eq]; omega) (ddp l)) (hm.imp fun {a b} h => by simp only [decide_eq_true_eq]; omega) ((List.mergeSort_perm _ _).trans hp)
/-- The answer and the error of Areas. -/
noncomputable def arV (D : Dsp) (k : Int) : List Int := if dspB D = true ∧ within k 0 14 = true then arL D k else []
noncomputable def arE (D : Dsp) (k : Int) : Int := if dspB D = true then (if within k 0 14 = true then (if arL D k = [] then 3 else 0) else 1) else 80

/-- What is found when some stories are passed. -/
def FndA (k : Int) (P : Nat × Nat × Int → Prop) (L : DataW Unit) : Prop := ∃ l : List Int, (∀ x, Maps.has L (.int .i64 x) = decide (x ∈ l)) ∧ ∀ x, x ∈ l ↔ ∃ j, P j ∧ (mny j : Int) ≤ k ∧ j.2.2 = x
theorem FndA.congr {k : Int} {P P' : Nat × Nat × Int → Prop} {L : DataW Unit} (h : FndA k P L) (hP : ∀ j, P' j ↔ P j) : FndA k P' L := by
  have e : P' = P := funext fun j => propext (hP j)
  rw [e]; exact h
theorem FndA.skip {k : Int} {P P' : Nat × Nat × Int → Prop} {L : DataW Unit} {x : Nat × Nat × Int} (h : FndA k P L) (hx : ¬ (mny x : Int) ≤ k) (hP : ∀ j, P' j ↔ P j ∨ j = x) : FndA k P' L := by
  obtain ⟨l, h1, h2⟩ := h
  refine ⟨l, h1, fun y => ?_⟩
  rw [h2]
  constructor
  · rintro ⟨j, hj, h3, h4⟩; exact ⟨j, (hP j).2 (.inl hj), h3, h4⟩
  · rintro ⟨j, hj, h3, h4⟩
    rcases (hP j).1 hj with hj | rfl
    · exact ⟨j, hj, h3, h4⟩
    · exact absurd h3 hx
theorem FndA.add {W : World} {r n : Nat} {k : Int} {P P' : Nat × Nat × Int → Prop} {L : DataW Unit} {x : Nat × Nat × Int} {v : DataW Unit} (h : FndA k P L) (hM : OwnM W r n L) (hx : (mny x : Int) ≤ k) (hP : ∀ j, P' j ↔ P j ∨ j = x) : FndA k P' (L.put (.int .i64 x.2.2) v) := by
  obtain ⟨l, h1, h2⟩ := h
  refine ⟨l ++ [x.2.2], fun y => ?_, fun y => ?_⟩
  · by_cases hy : y = x.2.2
    · subst hy
      rw [Maps.has_put_same (World.ownsMap.isMap hM) (show WideAt.IsKeyLit (.int .i64 x.2.2) from trivial)]
      simp
    · rw [Maps.has_put_other (by intro h; cases h; exact hy rfl), h1 y]
      simp [hy]
  · rw [List.mem_append, List.mem_singleton, h2]
    constructor
    · rintro (⟨j, hj, h3, h4⟩ | rfl)
      · exact ⟨j, (hP j).2 (.inl hj), h3, h4⟩
      · exact ⟨x, (hP x).2 (.inr rfl), hx, rfl⟩
    · rintro ⟨j, hj, h3, h4⟩
      rcases (hP j).1 hj with hj | rfl
      · exact .inl ⟨j, hj, h3, h4⟩
      · exact .inr h4.symm
theorem FndA.list {D : Dsp} (hD : DspOk D) {k : Int} {L : DataW Unit} (h : FndA k (isK D) L) : ∃ l, (∀ x, Maps.has L (.int .i64 x) = decide (x ∈ l)) ∧ srt l = arL D k := by
  obtain ⟨l, h1, h2⟩ := h
  refine ⟨l, h1, srt_of (arL_sorted D k) fun x => ?_⟩
  rw [h2, mem_arL hD, arB_iff]
  constructor
  · rintro ⟨j, hj, h3, rfl⟩
    exact ⟨toT j, (isT_iff hD).2 ⟨j, hj, rfl⟩, h3, rfl⟩
  · rintro ⟨t, ht, h3, rfl⟩
    obtain ⟨j, hj, rfl⟩ := (isT_iff hD).1 ht
    exact ⟨j, hj, h3, rfl⟩
theorem ownM_size {W : World} {r n : Nat} {L : DataW Unit} {l : List Int} (hM : OwnM W r n L) (h : ∀ x, Maps.has L (.int .i64 x) = decide (x ∈ l)) : Maps.size L = 0 ↔ l = [] := by
  obtain ⟨es, rfl, _, hk⟩ := World.ownsMap.entries hM (int_keyed Tryz.underlying3)
  obtain ⟨es', hD', hko⟩ := World.ownsMap.keysOf hM
  obtain rfl : es = es' := by simpa using hD'
  constructor
  · intro hz
    have : es = [] := List.eq_nil_of_length_eq_zero hz
    subst this
    refine List.eq_nil_iff_forall_not_mem.2 fun x hx => ?_
    have h1 := h x
    simp [Maps.has, hx] at h1
  · rintro rfl
    match es, hk, hko with
    | [], _, _ => rfl
    | p :: t, hk, hko =>
      have h1 : Maps.has (DataW.map (p :: t)) p.1 = true := by
        simp only [Maps.has, List.any_cons, Bool.or_eq_true]
        exact .inl (WideAt.sameKey_self (hk p List.mem_cons_self))
      obtain ⟨v, hv⟩ := hko p List.mem_cons_self
      obtain ⟨x, _, hx, _⟩ := Maps.keyOf_i64 Tryz.underlying3 hv
      rw [hx, h x] at h1
      simp at h1
theorem isK_wf {D : Dsp} (hD : DspOk D) {x : Nat × Nat × Int} (hx : isK D x) : (Lit.int .i64 x.2.2).wf = true := by
  obtain ⟨_, _, h3, h4⟩ := isK_lt hD hx
  have := hD.wh.g0
  have := hD.wh.g2
  simp [Lit.wf, IntKind.min, IntKind.max, IntKind.bits, IntKind.signed]
  omega
theorem FwI.turned {A B C : Option Addr} {ca cb cc : Nat} {D : Dsp} {w0 w w' : World} {gf st r nn cnt m : Nat} {F : DataW (Nat × Nat)} {left : Lit → Bool} (h : FwI A ca B cb C cc D w0 gf st r nn F left cnt w) (hg : w.grownBy w' (some m)) (hs : m ≠ st) (hr : m ≠ r) (h0 : w0.heap.size ≤ m) : FwI A ca B cb C cc D w0 gf st r nn F left cnt w' :=
  ⟨h.rg.kept hg (by simp only [ne_eq, Option.some.injEq]; omega) (by simp only [ne_eq, Option.some.injEq]; omega), h.bw.grown hg h.bw.size fun q hq => by cases hq; exact h0⟩
section
variable (A B C : Option Addr) (ca cb cc : Nat) (D : Dsp) (k : Int) (w : World) (ha : Pts w A D.cs) (hb : Ints w B D.offs) (hc : Wks w C D.wks)
include ha hb hc
set_option maxRecDepth 100000 in
set_option maxHeartbeats 4000000 in
theorem Areas_err (er : Int) (he : (dspB D = false ∧ er = 80) ∨ (dspB D = true ∧ within k 0 14 = false ∧ er = 1) ∨ (dspB D = true ∧ within k 0 14 = true ∧ (∀ k, ¬ isK D k) ∧ er = 3)) :
    Calls Tryz.prog 12 #[(Value.agg #[.slice A D.cs.length ca, .slice B D.offs.length cb, (Value.int .i64 (D.unit)), (Value.int .i64 (D.wh.full)), (Value.int .i64 (D.wh.read)), (Value.int .i64 (D.wh.slip)), (Value.int .i64 (D.wh.skew)), (Value.int .i64 (D.wh.circle)), (Value.int .i64 (D.wh.glo)), (Value.int .i64 (D.wh.ghi)), (Value.int .i64 (D.wh.wrong)), .slice C D.wks.length cc]), (Value.int .i64 (k))] w fun e w' => e = .returned (.tuple #[.slice none 0 0, (Value.int .i64 (er))]) ∧ Below w.heap.size w w' := by
  have c0 : Blk (w.alloc (.cells #[.slice A D.cs.length ca, .slice B D.offs.length cb, (Value.int .i64 (D.unit)), (Value.int .i64 (D.wh.full)), (Value.int .i64 (D.wh.read)), (Value.int .i64 (D.wh.slip)), (Value.int .i64 (D.wh.skew)), (Value.int .i64 (D.wh.circle)), (Value.int .i64 (D.wh.glo)), (Value.int .i64 (D.wh.ghi)), (Value.int .i64 (D.wh.wrong)), .slice C D.wks.length cc] 30)) w.heap.size 30 #[.slice A D.cs.length ca, .slice B D.offs.length cb, (Value.int .i64 (D.unit)), (Value.int .i64 (D.wh.full)), (Value.int .i64 (D.wh.read)), (Value.int .i64 (D.wh.slip)), (Value.int .i64 (D.wh.skew)), (Value.int .i64 (D.wh.circle)), (Value.int .i64 (D.wh.glo)), (Value.int .i64 (D.wh.ghi)), (Value.int .i64 (D.wh.wrong)), .slice C D.wks.length cc] := Blk.new _ _ _
  have hb0 : Below w.heap.size w (w.alloc (.cells #[.slice A D.cs.length ca, .slice B D.offs.length cb, (Value.int .i64 (D.unit)), (Value.int .i64 (D.wh.full)), (Value.int .i64 (D.wh.read)), (Value.int .i64 (D.wh.slip)), (Value.int .i64 (D.wh.skew)), (Value.int .i64 (D.wh.circle)), (Value.int .i64 (D.wh.glo)), (Value.int .i64 (D.wh.ghi)), (Value.int .i64 (D.wh.wrong)), .slice C D.wks.length cc] 30)) := by (repeat (first | with_reducible exact Below.refl _ _ | with_reducible apply bl_alloc | with_reducible apply bl_drew | with_reducible apply bl_after | (with_reducible refine bl_call ?_ (by assumption))))
  have hO : ∀ W : World, Below w.heap.size w W → Calls Tryz.prog 38 #[(Value.agg #[.slice A D.cs.length ca, .slice B D.offs.length cb, (Value.int .i64 (D.unit)), (Value.int .i64 (D.wh.full)), (Value.int .i64 (D.wh.read)), (Value.int .i64 (D.wh.slip)), (Value.int .i64 (D.wh.skew)), (Value.int .i64 (D.wh.circle)), (Value.int .i64 (D.wh.glo)), (Value.int .i64 (D.wh.ghi)), (Value.int .i64 (D.wh.wrong)), .slice C D.wks.length cc]), .bool (within k 0 14)] W fun e w' => e = .returned (.tuple #[.pointer none, (Value.int .i64 (er))]) ∧ Below W.heap.size W w' := fun W h => by
    rcases he with ⟨h1, rfl⟩ | ⟨h1, h2, rfl⟩ | ⟨h1, h2, h3, rfl⟩
    · exact open_bad A B C ca cb cc D W (ha.below h) (hb.below h) (hc.below h) _ h1
    · rw [h2]; exact open_arg A B C ca cb cc D W (ha.below h) (hb.below h) (hc.below h) h1
    · rw [h2]; exact open_none A B C ca cb cc D W (ha.below h) (hb.below h) (hc.below h) h1 h3
  have hne : (er != 0) = true := by rcases he with ⟨_, rfl⟩ | ⟨_, _, rfl⟩ | ⟨_, _, _, rfl⟩ <;> rfl
  replace hO := Lib.hid hO
  (have la := c0.lt); (have ya0 := c0.cell 0); (have ya1 := c0.cell 1); (have ya2 := c0.cell 2); (have ya3 := c0.cell 3); (have ya4 := c0.cell 4); (have ya5 := c0.cell 5); (have ya6 := c0.cell 6); (have ya7 := c0.cell 7); (have ya8 := c0.cell 8); (have ya9 := c0.cell 9); (have ya10 := c0.cell 10); (have ya11 := c0.cell 11); simp only [List.getElem?_toArray, List.getElem?_cons_zero, List.getElem?_cons_succ] at ya0 ya1 ya2 ya3 ya4 ya5 ya6 ya7 ya8 ya9 ya10 ya11
  clear ha hb hc he
  go_enter Tryz.func12, Tryz.ntmps12
  go_upto_region 1 with fail
  refine wp_region_CN (fun w' => ∃ z : After (w.alloc (.cells #[.slice A D.cs.length ca, .slice B D.offs.length cb, (Value.int .i64 (D.unit)), (Value.int .i64 (D.wh.full)), (Value.int .i64 (D.wh.read)), (Value.int .i64 (D.wh.slip)), (Value.int .i64 (D.wh.skew)), (Value.int .i64 (D.wh.circle)), (Value.int .i64 (D.wh.glo)), (Value.int .i64 (D.wh.ghi)), (Value.int .i64 (D.wh.wrong)), .slice C D.wks.length cc] 30)), w' = z.val) (by kernel_rfl) ?_; change wpAnyC _ _ _ _ _ _ _ (World.drew (w.alloc (.cells #[.slice A D.cs.length ca, .slice B D.offs.length cb, (Value.int .i64 (D.unit)), (Value.int .i64 (D.wh.full)), (Value.int .i64 (D.wh.read)), (Value.int .i64 (D.wh.slip)), (Value.int .i64 (D.wh.skew)), (Value.int .i64 (D.wh.circle)), (Value.int .i64 (D.wh.glo)), (Value.int .i64 (D.wh.ghi)), (Value.int .i64 (D.wh.wrong)), .slice C D.wks.length cc] 30))); (have hd0 : Below ((w.alloc (.cells #[.slice A D.cs.length ca, .slice B D.offs.length cb, (Value.int .i64 (D.unit)), (Value.int .i64 (D.wh.full)), (Value.int .i64 (D.wh.read)), (Value.int .i64 (D.wh.slip)), (Value.int .i64 (D.wh.skew)), (Value.int .i64 (D.wh.circle)), (Value.int .i64 (D.wh.glo)), (Value.int .i64 (D.wh.ghi)), (Value.int .i64 (D.wh.wrong)), .slice C D.wks.length cc] 30))).heap.size (w.alloc (.cells #[.slice A D.cs.length ca, .slice B D.offs.length cb, (Value.int .i64 (D.unit)), (Value.int .i64 (D.wh.full)), (Value.int .i64 (D.wh.read)), (Value.int .i64 (D.wh.slip)), (Value.int .i64 (D.wh.skew)), (Value.int .i64 (D.wh.circle)), (Value.int .i64 (D.wh.glo)), (Value.int .i64 (D.wh.ghi)), (Value.int .i64 (D.wh.wrong)), .slice C D.wks.length cc] 30)) ((w.alloc (.cells #[.slice A D.cs.length ca, .slice B D.offs.length cb, (Value.int .i64 (D.unit)), (Value.int .i64 (D.wh.full)), (Value.int .i64 (D.wh.read)), (Value.int .i64 (D.wh.slip)), (Value.int .i64 (D.wh.skew)), (Value.int .i64 (D.wh.circle)), (Value.int .i64 (D.wh.glo)), (Value.int .i64 (D.wh.ghi)), (Value.int .i64 (D.wh.wrong)), .slice C D.wks.length cc] 30))).drew := bl_drew (Below.refl _ _)); refine wpAnyC_take (i := 0) (v := ?v0u) rfl (by kernel_rfl) (by kernel_rfl) (by kernel_rfl) ?q0u rfl ?y0u ?r0u; (case q0u => exact fun _ _ _ h => h); (case y0u => ((rintro _ ⟨z, rfl⟩); (go_simp); (try with_reducible rfl))); simp only [Act.put, List.getElem_toArray, List.getElem_cons_succ, List.getElem_cons_zero, List.setIfInBounds_toArray, List.set_cons_succ, List.set_cons_zero]; refine wpAnyC_take (i := 1) (v := ?v1u) rfl (by kernel_rfl) (by kernel_rfl) (by kernel_rfl) ?q1u rfl ?y1u ?r1u; (case q1u => exact fun _ _ _ h => h); (case y1u => ((rintro _ ⟨z, rfl⟩); (go_simp); (try with_reducible rfl))); simp only [Act.put, List.getElem_toArray, List.getElem_cons_succ, List.getElem_cons_zero, List.setIfInBounds_toArray, List.set_cons_succ, List.set_cons_zero]; refine wpAnyC_one (i := 2) (by kernel_rfl) rfl ⟨⟨_, hd0⟩, rfl⟩ rfl (fun K hK => ?_); go_simp; go_at_call 39; (with_reducible refine Calls.mono (dWithin_any _ _ _ _) ?_); rintro e w' ⟨rfl, rfl⟩; refine hK _ _ ?_; clear hK K; refine wpAnyC_one (i := 3) (by kernel_rfl) rfl ⟨⟨_, hd0⟩, rfl⟩ rfl (fun K hK => ?_); go_simp; go_at_call 38; (with_reducible refine Calls.mono (hO.out _ (bl_drew hb0)) ?_); rintro e w1 ⟨rfl, hb1⟩; refine hK _ _ ?_; clear hK K; (have hd1 := hd0.trans (hb1.mono hd0.size)); refine wpAnyC_take (i := 4) (v := ?v4u) rfl (by kernel_rfl) (by kernel_rfl) (by kernel_rfl) ?q4u rfl ?y4u ?r4u; (case q4u => exact fun _ _ _ h => h); (case y4u => ((rintro _ ⟨z, rfl⟩); (go_simp); (try with_reducible rfl))); simp only [Act.put, List.getElem_toArray, List.getElem_cons_succ, List.getElem_cons_zero, List.setIfInBounds_toArray, List.set_cons_succ, List.set_cons_zero]; refine wpAnyC_take (i := 5) (v := ?v5u) rfl (by kernel_rfl) (by kernel_rfl) (by kernel_rfl) ?q5u rfl ?y5u ?r5u; (case q5u => exact fun _ _ _ h => h); (case y5u => ((rintro _ ⟨z, rfl⟩); (go_simp); (try with_reducible rfl))); simp only [Act.put, List.getElem_toArray, List.getElem_cons_succ, List.getElem_cons_zero, List.setIfInBounds_toArray, List.set_cons_succ, List.set_cons_zero]; refine wpAnyC_take (i := 6) (v := ?v6u) rfl (by kernel_rfl) (by kernel_rfl) (by kernel_rfl) ?q6u rfl ?y6u ?r6u; (case q6u => exact fun _ _ _ h => h); (case y6u => ((rintro _ ⟨z, rfl⟩); (go_simp); (try with_reducible rfl))); simp only [Act.put, List.getElem_toArray, List.getElem_cons_succ, List.getElem_cons_zero, List.setIfInBounds_toArray, List.set_cons_succ, List.set_cons_zero]; refine wpAnyC_take (i := 7) (v := ?v7u) rfl (by kernel_rfl) (by kernel_rfl) (by kernel_rfl) ?q7u rfl ?y7u ?r7u; (case q7u => exact fun _ _ _ h => h); (case y7u => ((rintro _ ⟨z, rfl⟩); (go_simp); (try with_reducible rfl))); simp only [Act.put, List.getElem_toArray, List.getElem_cons_succ, List.getElem_cons_zero, List.setIfInBounds_toArray, List.set_cons_succ, List.set_cons_zero]; refine wpAnyC_take (i := 8) (v := ?v8u) rfl (by kernel_rfl) (by kernel_rfl) (by kernel_rfl) ?q8u rfl ?y8u ?r8u; (case q8u => exact fun _ _ _ h => h); (case y8u => ((rintro _ ⟨z, rfl⟩); (go_simp); (try with_reducible rfl))); simp only [Act.put, List.getElem_toArray, List.getElem_cons_succ, List.getElem_cons_zero, List.setIfInBounds_toArray, List.set_cons_succ, List.set_cons_zero]
  refine wpAnyC_doneN (by kernel_rfl) ⟨⟨_, hd1⟩, rfl⟩ ?_ _
  go_wp2
  go_ret2
  exact ⟨rfl, bl_call (bl_drew hb0) hb1⟩
set_option maxRecDepth 100000 in
set_option maxHeartbeats 8000000 in
theorem Areas_ok (hD : dspB D = true) (hk : within k 0 14 = true) (hex : ∃ j, isK D j) :
    Calls Tryz.prog 12 #[(Value.agg #[.slice A D.cs.length ca, .slice B D.offs.length cb, (Value.int .i64 (D.unit)), (Value.int .i64 (D.wh.full)), (Value.int .i64 (D.wh.read)), (Value.int .i64 (D.wh.slip)), (Value.int .i64 (D.wh.skew)), (Value.int .i64 (D.wh.circle)), (Value.int .i64 (D.wh.glo)), (Value.int .i64 (D.wh.ghi)), (Value.int .i64 (D.wh.wrong)), .slice C D.wks.length cc]), (Value.int .i64 (k))] w fun e w' => (∃ A' c', e = .returned (.tuple #[.slice A' (arL D k).length c', (Value.int .i64 (arE D k))]) ∧ Ints w' A' (arL D k)) ∧ Below w.heap.size w w' := by
  have hok := dsp_ok hD
  have hEE := Lib.hid (show (arL D k = [] → arE D k = 3) ∧ (¬ arL D k = [] → arE D k = 0) from ⟨fun h => by unfold arE; rw [if_pos hD, if_pos hk, if_pos h], fun h => by unfold arE; rw [if_pos hD, if_pos hk, if_neg h]⟩)
  have c0 : Blk (w.alloc (.cells #[.slice A D.cs.length ca, .slice B D.offs.length cb, (Value.int .i64 (D.unit)), (Value.int .i64 (D.wh.full)), (Value.int .i64 (D.wh.read)), (Value.int .i64 (D.wh.slip)), (Value.int .i64 (D.wh.skew)), (Value.int .i64 (D.wh.circle)), (Value.int .i64 (D.wh.glo)), (Value.int .i64 (D.wh.ghi)), (Value.int .i64 (D.wh.wrong)), .slice C D.wks.length cc] 30)) w.heap.size 30 #[.slice A D.cs.length ca, .slice B D.offs.length cb, (Value.int .i64 (D.unit)), (Value.int .i64 (D.wh.full)), (Value.int .i64 (D.wh.read)), (Value.int .i64 (D.wh.slip)), (Value.int .i64 (D.wh.skew)), (Value.int .i64 (D.wh.circle)), (Value.int .i64 (D.wh.glo)), (Value.int .i64 (D.wh.ghi)), (Value.int .i64 (D.wh.wrong)), .slice C D.wks.length cc] := Blk.new _ _ _
  have hb0 : Below w.heap.size w (w.alloc (.cells #[.slice A D.cs.length ca, .slice B D.offs.length cb, (Value.int .i64 (D.unit)), (Value.int .i64 (D.wh.full)), (Value.int .i64 (D.wh.read)), (Value.int .i64 (D.wh.slip)), (Value.int .i64 (D.wh.skew)), (Value.int .i64 (D.wh.circle)), (Value.int .i64 (D.wh.glo)), (Value.int .i64 (D.wh.ghi)), (Value.int .i64 (D.wh.wrong)), .slice C D.wks.length cc] 30)) := by (repeat (first | with_reducible exact Below.refl _ _ | with_reducible apply bl_alloc | with_reducible apply bl_drew | with_reducible apply bl_after | (with_reducible refine bl_call ?_ (by assumption))))
  have hO : ∀ W : World, Below w.heap.size w W → Calls Tryz.prog 38 #[(Value.agg #[.slice A D.cs.length ca, .slice B D.offs.length cb, (Value.int .i64 (D.unit)), (Value.int .i64 (D.wh.full)), (Value.int .i64 (D.wh.read)), (Value.int .i64 (D.wh.slip)), (Value.int .i64 (D.wh.skew)), (Value.int .i64 (D.wh.circle)), (Value.int .i64 (D.wh.glo)), (Value.int .i64 (D.wh.ghi)), (Value.int .i64 (D.wh.wrong)), .slice C D.wks.length cc]), .bool true] W fun e w' => (∃ gf, e = .returned (.tuple #[.pointer (some ⟨gf, 0, none⟩), (Value.int .i64 (0))]) ∧ FileOk A ca B cb C cc D W.heap.size w' gf) ∧ Below W.heap.size W w' := fun W h => by
    exact open_some A B C ca cb cc D W (ha.below h) (hb.below h) (hc.below h) hD hex
  replace hO := Lib.hid hO
  (have la := c0.lt); (have ya0 := c0.cell 0); (have ya1 := c0.cell 1); (have ya2 := c0.cell 2); (have ya3 := c0.cell 3); (have ya4 := c0.cell 4); (have ya5 := c0.cell 5); (have ya6 := c0.cell 6); (have ya7 := c0.cell 7); (have ya8 := c0.cell 8); (have ya9 := c0.cell 9); (have ya10 := c0.cell 10); (have ya11 := c0.cell 11); simp only [List.getElem?_toArray, List.getElem?_cons_zero, List.getElem?_cons_succ] at ya0 ya1 ya2 ya3 ya4 ya5 ya6 ya7 ya8 ya9 ya10 ya11
  clear ha hb hc hex
  go_enter Tryz.func12, Tryz.ntmps12
  go_upto_region 1 with fail
  refine wp_region_CN (fun w' => ∃ z : After (w.alloc (.cells #[.slice A D.cs.length ca, .slice B D.offs.length cb, (Value.int .i64 (D.unit)), (Value.int .i64 (D.wh.full)), (Value.int .i64 (D.wh.read)), (Value.int .i64 (D.wh.slip)), (Value.int .i64 (D.wh.skew)), (Value.int .i64 (D.wh.circle)), (Value.int .i64 (D.wh.glo)), (Value.int .i64 (D.wh.ghi)), (Value.int .i64 (D.wh.wrong)), .slice C D.wks.length cc] 30)), w' = z.val) (by kernel_rfl) ?_; change wpAnyC _ _ _ _ _ _ _ (World.drew (w.alloc (.cells #[.slice A D.cs.length ca, .slice B D.offs.length cb, (Value.int .i64 (D.unit)), (Value.int .i64 (D.wh.full)), (Value.int .i64 (D.wh.read)), (Value.int .i64 (D.wh.slip)), (Value.int .i64 (D.wh.skew)), (Value.int .i64 (D.wh.circle)), (Value.int .i64 (D.wh.glo)), (Value.int .i64 (D.wh.ghi)), (Value.int .i64 (D.wh.wrong)), .slice C D.wks.length cc] 30))); (have hd0 : Below ((w.alloc (.cells #[.slice A D.cs.length ca, .slice B D.offs.length cb, (Value.int .i64 (D.unit)), (Value.int .i64 (D.wh.full)), (Value.int .i64 (D.wh.read)), (Value.int .i64 (D.wh.slip)), (Value.int .i64 (D.wh.skew)), (Value.int .i64 (D.wh.circle)), (Value.int .i64 (D.wh.glo)), (Value.int .i64 (D.wh.ghi)), (Value.int .i64 (D.wh.wrong)), .slice C D.wks.length cc] 30))).heap.size (w.alloc (.cells #[.slice A D.cs.length ca, .slice B D.offs.length cb, (Value.int .i64 (D.unit)), (Value.int .i64 (D.wh.full)), (Value.int .i64 (D.wh.read)), (Value.int .i64 (D.wh.slip)), (Value.int .i64 (D.wh.skew)), (Value.int .i64 (D.wh.circle)), (Value.int .i64 (D.wh.glo)), (Value.int .i64 (D.wh.ghi)), (Value.int .i64 (D.wh.wrong)), .slice C D.wks.length cc] 30)) ((w.alloc (.cells #[.slice A D.cs.length ca, .slice B D.offs.length cb, (Value.int .i64 (D.unit)), (Value.int .i64 (D.wh.full)), (Value.int .i64 (D.wh.read)), (Value.int .i64 (D.wh.slip)), (Value.int .i64 (D.wh.skew)), (Value.int .i64 (D.wh.circle)), (Value.int .i64 (D.wh.glo)), (Value.int .i64 (D.wh.ghi)), (Value.int .i64 (D.wh.wrong)), .slice C D.wks.length cc] 30))).drew := bl_drew (Below.refl _ _)); refine wpAnyC_take (i := 0) (v := ?v0u) rfl (by kernel_rfl) (by kernel_rfl) (by kernel_rfl) ?q0u rfl ?y0u ?r0u; (case q0u => exact fun _ _ _ h => h); (case y0u => ((rintro _ ⟨z, rfl⟩); (go_simp); (try with_reducible rfl))); simp only [Act.put, List.getElem_toArray, List.getElem_cons_succ, List.getElem_cons_zero, List.setIfInBounds_toArray, List.set_cons_succ, List.set_cons_zero]; refine wpAnyC_take (i := 1) (v := ?v1u) rfl (by kernel_rfl) (by kernel_rfl) (by kernel_rfl) ?q1u rfl ?y1u ?r1u; (case q1u => exact fun _ _ _ h => h); (case y1u => ((rintro _ ⟨z, rfl⟩); (go_simp); (try with_reducible rfl))); simp only [Act.put, List.getElem_toArray, List.getElem_cons_succ, List.getElem_cons_zero, List.setIfInBounds_toArray, List.set_cons_succ, List.set_cons_zero]; refine wpAnyC_one (i := 2) (by kernel_rfl) rfl ⟨⟨_, hd0⟩, rfl⟩ rfl (fun K hK => ?_); go_simp; go_at_call 39; (with_reducible refine Calls.mono (dWithin_any _ _ _ _) ?_); rintro e w' ⟨rfl, rfl⟩; refine hK _ _ ?_; clear hK K; refine wpAnyC_one (i := 3) (by kernel_rfl) rfl ⟨⟨_, hd0⟩, rfl⟩ rfl (fun K hK => ?_); go_simp; go_at_call 38; (with_reducible refine Calls.mono (hO.out _ (bl_drew hb0)) ?_); rintro e w1 ⟨⟨gf, rfl, hf⟩, hb1⟩; refine hK _ _ ?_; clear hK K; (have hd1 := hd0.trans (hb1.mono hd0.size)); refine wpAnyC_take (i := 4) (v := ?v4u) rfl (by kernel_rfl) (by kernel_rfl) (by kernel_rfl) ?q4u rfl ?y4u ?r4u; (case q4u => exact fun _ _ _ h => h); (case y4u => ((rintro _ ⟨z, rfl⟩); (go_simp); (try with_reducible rfl))); simp only [Act.put, List.getElem_toArray, List.getElem_cons_succ, List.getElem_cons_zero, List.setIfInBounds_toArray, List.set_cons_succ, List.set_cons_zero]; refine wpAnyC_take (i := 5) (v := ?v5u) rfl (by kernel_rfl) (by kernel_rfl) (by kernel_rfl) ?q5u rfl ?y5u ?r5u; (case q5u => exact fun _ _ _ h => h); (case y5u => ((rintro _ ⟨z, rfl⟩); (go_simp); (try with_reducible rfl))); simp only [Act.put, List.getElem_toArray, List.getElem_cons_succ, List.getElem_cons_zero, List.setIfInBounds_toArray, List.set_cons_succ, List.set_cons_zero]; refine wpAnyC_take (i := 6) (v := ?v6u) rfl (by kernel_rfl) (by kernel_rfl) (by kernel_rfl) ?q6u rfl ?y6u ?r6u; (case q6u => exact fun _ _ _ h => h); (case y6u => ((rintro _ ⟨z, rfl⟩); (go_simp); (try with_reducible rfl))); simp only [Act.put, List.getElem_toArray, List.getElem_cons_succ, List.getElem_cons_zero, List.setIfInBounds_toArray, List.set_cons_succ, List.set_cons_zero]; refine wpAnyC_take (i := 7) (v := ?v7u) rfl (by kernel_rfl) (by kernel_rfl) (by kernel_rfl) ?q7u rfl ?y7u ?r7u; (case q7u => exact fun _ _ _ h => h); (case y7u => ((rintro _ ⟨z, rfl⟩); (go_simp); (try with_reducible rfl))); simp only [Act.put, List.getElem_toArray, List.getElem_cons_succ, List.getElem_cons_zero, List.setIfInBounds_toArray, List.set_cons_succ, List.set_cons_zero]; refine wpAnyC_take (i := 8) (v := ?v8u) rfl (by kernel_rfl) (by kernel_rfl) (by kernel_rfl) ?q8u rfl ?y8u ?r8u; (case q8u => exact fun _ _ _ h => h); (case y8u => ((rintro _ ⟨z, rfl⟩); (go_simp); (try with_reducible rfl))); simp only [Act.put, List.getElem_toArray, List.getElem_cons_succ, List.getElem_cons_zero, List.setIfInBounds_toArray, List.set_cons_succ, List.set_cons_zero]
  refine wpAnyC_doneN (by kernel_rfl) ⟨⟨_, hd1⟩, rfl⟩ ?_ _
  have hbw1 := bl_call (bl_drew hb0) hb1
  obtain ⟨-, st, nn, F, hnn, -, hblk, hS⟩ := hf
  clear la ya0 ya1 ya2 ya3 ya4 ya5 ya6 ya7 ya8 ya9 ya10 ya11 c0 hO hb1 hb0 hd0 hd1
  have hmk := @run_makeMap Tryz.prog
  go_upto_region 5 with fail
  have hM0 : OwnM (w1.alloc (.map #[] 0)) w1.heap.size 0 (.map []) := World.ownsMap_made (H := Unit) w1 Tryz.prog 3 (plainElem Tryz.prog 3)
  have hbm : Below w1.heap.size w1 (w1.alloc (.map #[] 0)) := by (repeat (first | with_reducible exact Below.refl _ _ | with_reducible apply bl_alloc | with_reducible apply bl_drew | with_reducible apply bl_after | (with_reducible refine bl_call ?_ (by assumption))))
  have hMs : (w1.alloc (.map #[] 0)).heap.size = w1.heap.size + 1 := by simp
  have hS1 := hS.below hbm
  have hblk1 := hblk.below hbm
  have hst := hS.own.lt
  clear hS hblk
  generalize w1.alloc (.map #[] 0) = W1 at *
  have hmW : w1.heap.size < W1.heap.size := by omega
  clear hMs
  have hM := hS1.map
  have hsz := hS1.own.size_le
  have cF12 : W1.cell? ⟨gf, 12, none⟩ = some (.map (some st)) := hblk1.cell 12
  have lF := hblk1.lt
  go_wp2_with (at_range; refine wpList_range_own _ rfl _ 68 rfl 75 22 stKeyed undStos (fldR D.cs.length) st nn F rfl hS1.own ?_; intro w6 hrg hg6 hs6)
  have hI6 : FwI A ca B cb C cc D w1 gf st W1.heap.size nn F (Maps.has F) (Maps.size F) w6 := ⟨hrg, bl_call hbm (below_grown hg6)⟩
  have hM6 : OwnM w6 w1.heap.size 0 (.map []) := hM0.below (below_grown hg6)
  have hF6 : FndA k (fun j => passed stL (isK D) (Maps.has F) j) (.map [] : DataW Unit) := ⟨[], fun x => by simp [Maps.has], fun x => ⟨fun h => by simp at h, fun ⟨j, hj, _⟩ => absurd hj (passed_start hM j)⟩⟩
  have hmr : w1.heap.size ≠ W1.heap.size := by omega
  have hms : w1.heap.size ≠ st := by omega
  clear hrg hg6 hs6 cF12 lF hblk1 hM0 hbm
  generalize hr : W1.heap.size = r at *
  go_frame
  go_loopg [] (Maps.size F) (fun gh wr => ∃ left cnt nU L, cnt = gh ∧ FwI A ca B cb C cc D w1 gf st r nn F left cnt wr ∧ OwnM wr w1.heap.size nU L ∧ FndA k (fun j => passed stL (isK D) left j) L ∧ (∀ l, left l = true → Maps.has F l = true) ∧ nU + cnt ≤ Maps.size F)
  case atStart => exact ⟨_, _, 0, _, rfl, hI6, hM6, hF6, fun l h => h, by omega⟩
  case round =>
    clear hI6 hM6 hF6
    obtain ⟨left, cnt, nU, L, rfl, hI, hL, hF, hleft, hLc⟩ := hrel
    go_wp2_with (at_next; refine wpList_next_fld _ rfl _ rfl 75 stKeyed D.cs.length st r nn F (isK D) hM left cnt hleft rfl hI.rg ?_ ?_)
    · intro hl0
      obtain ⟨l, hl1, hl2⟩ := (hF.congr (P' := isK D) fun j => (passed_end hl0 j).symm).list hok
      have hsz2 := ownM_size hL hl1
      have hlen := World.ownsMap.len hL und_map 3
      have hsl := World.ownsMap.size_le hL
      have hll : l = [] ↔ arL D k = [] := by
        rw [← hl2]
        constructor
        · rintro rfl; simp [srt, ddp]
        · intro e
          refine List.eq_nil_iff_forall_not_mem.2 fun x hx => ?_
          have := (mem_srt l).2 hx
          rw [e] at this
          simp at this
      have hbr := bl_call hbw1 hI.bw
      by_cases hz : arL D k = []
      · rw [hsz2.2 (hll.2 hz)] at hlen
        have HZ := Lib.hid hz
        clear hI hL hF hsz2 hll hl1 hl2 hz
        go_wp2
        go_ret2
        rw [hEE.out.1 HZ.out, HZ.out]
        exact ⟨⟨none, 0, rfl, .inl rfl⟩, hbr⟩
      · have HZ := Lib.hid hz
        have hz0 : ((Maps.size L : Int) == 0) = false := by
          simp only [beq_eq_false_iff_ne, ne_eq]
          intro e
          exact hz (hll.1 (hsz2.1 (by omega)))
        have hmax : Maps.size L ≤ maxLen := by unfold maxLen; omega
        have hS2 := Lib.hid (sorted_any w1.heap.size nU L (plainElem Tryz.prog 3) wr hL hmax (by omega))
        have hKS := Lib.hid fun (ss : List Int) (h : ss.Perm (intKeys L)) => keys_srt hL hl1 h
        have HL2 := Lib.hid hl2
        clear hI hL hF hsz2 hll hl1 hl2 hz hmax hsl
        go_wp2_with (first | ((go_at_call 42); (with_reducible refine Calls.mono (keys_any _ _) ?_); rintro e w' ⟨rfl, rfl⟩) | ((go_at_call 41); (with_reducible refine Calls.mono hS2.out ?_); rintro e w5 ⟨v, ss, rfl, hpm, hrow, hnil, hb5⟩))
        have hs := hKS.out ss hpm
        have hl : (arL D k).length = ss.length := by rw [← HL2.out, ← hs, List.length_mergeSort]
        have hrow2 : RowI w5 (wr.alloc (.cells #[.map (some w1.heap.size)] 67)).heap.size v (arL D k) := by
          have h1 := hrow
          rw [hs, HL2.out] at h1
          show w5.ownsRow _ 3 1 v (arL D k).length (intsV (arL D k))
          rw [hl]
          exact h1
        obtain ⟨A5, ca5, rfl, hN5⟩ := RowI.parts hrow2
        go_ret2
        rw [hEE.out.2 HZ.out]
        exact ⟨⟨A5, ca5, rfl, hN5⟩, bl_call (bl_alloc hbr) hb5⟩
    · intro xa xb xc b7 c7 w7 cnt' hx hlx hbc hrg7 hlt7 hg7 hs7 hen
      have hI7 : FwI A ca B cb C cc D w1 gf st r nn F (fun z => left z && !z.sameKey (stL (xa, xb, xc))) cnt' w7 := ⟨hrg7, ⟨hg7.os.trans hI.bw.os, hg7.tape.trans hI.bw.tape, hg7.output.trans hI.bw.output, Nat.le_trans hI.bw.size hg7.size, fun k hk => (hg7.block k (by have := hI.bw.size; omega) (by simp only [ne_eq, Option.some.injEq]; omega)).trans (hI.bw.block k hk)⟩⟩
      have hL7 : OwnM w7 w1.heap.size nU L := World.ownsMap.kept hL hg7 (by simp only [ne_eq, Option.some.injEq]; omega)
      have hleft' : ∀ l, (left l && !l.sameKey (stL (xa, xb, xc))) = true → Maps.has F l = true := fun l h => hleft l (by simp only [Bool.and_eq_true] at h; exact h.1)
      have hP := Lib.hid fun j => passed_next stKeyed hM stV_inj (left := left) hx j
      have hlt3 := isK_lt hok hx
      have hwf : (Lit.int .i64 xc).wf = true := isK_wf hok hx
      simp only [stV] at hen
      have hx1 : xa < 256 := hlt3.1
      have hx2 : xb < 256 := hlt3.2.1
      have hF0 := Lib.hid hF
      clear hI hL hlx hg7 hs7 hleft hrg7 hlt3 hF
      go_upto_region 8 with fail
      have hb8 : Below w7.heap.size w7 (w7.alloc (.cells #[.int .u64 (xa : Int), .int .u64 (xb : Int), (Value.int .i64 (xc))] 75)) := by (repeat (first | with_reducible exact Below.refl _ _ | with_reducible apply bl_alloc | with_reducible apply bl_drew | with_reducible apply bl_after | (with_reducible refine bl_call ?_ (by assumption))))
      have hI8 := hI7.below hb8
      have hL8 := hL7.below hb8
      have c8 := Blk.new w7 75 #[.int .u64 (xa : Int), .int .u64 (xb : Int), (Value.int .i64 (xc))]
      clear hI7 hL7 hb8 hen
      generalize w7.alloc (.cells #[.int .u64 (xa : Int), .int .u64 (xb : Int), (Value.int .i64 (xc))] 75) = w8 at *
      generalize w7.heap.size = g8 at *
      (have la := c8.lt); (have ya0 := c8.cell 0); (have ya1 := c8.cell 1); (have ya2 := c8.cell 2); simp only [List.getElem?_toArray, List.getElem?_cons_zero, List.getElem?_cons_succ] at ya0 ya1 ya2
      obtain ⟨m1, hm1⟩ : ∃ m1 : Nat, m1 = (bitL xa).length + (bitL xb).length := ⟨_, rfl⟩
      have hmx : ∀ W : World, Calls Tryz.prog 40 #[.agg #[.int .u64 (xa : Int), .int .u64 (xb : Int)]] W fun e w' => e = .returned (Value.int .i64 ((m1 : Int))) ∧ Below W.heap.size W w' := by rw [hm1]; exact fun W => many_any xa xb hx1 hx2 W
      replace hmx := Lib.hid hmx
      replace hm1 := Lib.hid hm1
      have hmy : mny (xa, xb, xc) = m1 := by rw [hm1.out]; rfl
      by_cases hle : ((m1 : Nat) : Int) ≤ k
      · have hFn := Lib.hid fun (v : DataW Unit) => hF0.out.add (x := (xa, xb, xc)) (v := v) hL8 (by rw [hmy]; exact hle) hP.out
        have hle' : decide (((m1 : Nat) : Int) ≤ k) = true := by simpa using hle
        go_upto_region 9 with ((go_at_call 40); (with_reducible refine Calls.mono (hmx.out _) ?_); rintro e wn ⟨rfl, hbn⟩; first | ((with_reducible apply kp_in_step (hb := hbn)); (with_reducible assumption); rintro ⟨hk, hc, hf, hzc, hzf⟩) | ((with_reducible refine kp_in_first hbn ?_); rintro ⟨hk, hc, hf, hzc, hzf⟩))
        have hI9 := hI8.below hbn
        have hL9 := hL8.below hbn
        have c9 := c8.below hbn
        clear la ya0 ya1 ya2 c8 hI8 hL8 hF0 hP hm1 hmx hmy hle
        ((try clear hk hc hf hzc hzf); (try clear hk hc hf hzc hzf); (try clear hk hc hf hzc hzf); (try clear hk hc hf hzc hzf))
        (have la := c9.lt); (have ya0 := c9.cell 0); (have ya1 := c9.cell 1); (have ya2 := c9.cell 2); simp only [List.getElem?_toArray, List.getElem?_cons_zero, List.getElem?_cons_succ] at ya0 ya1 ya2
        have hkey := Maps.keyOf_int_mk (P := Tryz.prog) Tryz.underlying3 hwf
        obtain ⟨c, hlk, -, -⟩ := World.ownsMap.lookup_int hL9 (Maps.int_keyed Tryz.underlying3) und_map Tryz.underlying3 (by kernel_rfl) hkey
        obtain ⟨w10, hrun, hM10, hg10⟩ := World.ownsMap.update hL9 (Maps.int_keyed Tryz.underlying3) und_map (by unfold maxLen; omega) hkey (plainElem_int (a := wrap64 (c + 1)) Tryz.underlying3 (wf64 (c + 1)))
        have hI10 := Lib.hid (hI9.turned hg10 hms hmr (by omega))
        have HM10 := Lib.hid hM10
        clear hI9 hL9 c9 hbn hM10 hg10
        go_wp2
        go_roundg cnt'
        case measure => exact hlt7
        case rel => exact ⟨_, cnt', nU + 1, _, rfl, hI10.out, HM10.out, hFn.out _, hleft', by omega⟩
      · have hFn := Lib.hid (hF0.out.skip (x := (xa, xb, xc)) (by rw [hmy]; exact hle) hP.out)
        have hle' : decide (((m1 : Nat) : Int) ≤ k) = false := by simpa using hle
        have HI := Lib.hid hI8
        have HL := Lib.hid hL8
        clear hI8 hL8 hF0 hP hm1 hmy hle
        go_wp2_with ((go_at_call 40); (with_reducible refine Calls.mono (hmx.out _) ?_); rintro e w9 ⟨rfl, hb9⟩)
        go_roundg cnt'
        case measure => exact hlt7
        case rel => exact ⟨_, cnt', nU, L, rfl, HI.out.below hb9, HL.out.below hb9, hFn.out, hleft', by omega⟩
theorem Areas_any8 : Calls Tryz.prog 12 #[(Value.agg #[.slice A D.cs.length ca, .slice B D.offs.length cb, (Value.int .i64 (D.unit)), (Value.int .i64 (D.wh.full)), (Value.int .i64 (D.wh.read)), (Value.int .i64 (D.wh.slip)), (Value.int .i64 (D.wh.skew)), (Value.int .i64 (D.wh.circle)), (Value.int .i64 (D.wh.glo)), (Value.int .i64 (D.wh.ghi)), (Value.int .i64 (D.wh.wrong)), .slice C D.wks.length cc]), (Value.int .i64 (k))] w fun e w' => (∃ A' c', e = .returned (.tuple #[.slice A' (arV D k).length c', (Value.int .i64 (arE D k))]) ∧ Ints w' A' (arV D k)) ∧ Below w.heap.size w w' := by
  have key : ∀ er : Int, ((dspB D = false ∧ er = 80) ∨ (dspB D = true ∧ within k 0 14 = false ∧ er = 1) ∨ (dspB D = true ∧ within k 0 14 = true ∧ (∀ k, ¬ isK D k) ∧ er = 3)) → arV D k = [] → arE D k = er → Calls Tryz.prog 12 #[(Value.agg #[.slice A D.cs.length ca, .slice B D.offs.length cb, (Value.int .i64 (D.unit)), (Value.int .i64 (D.wh.full)), (Value.int .i64 (D.wh.read)), (Value.int .i64 (D.wh.slip)), (Value.int .i64 (D.wh.skew)), (Value.int .i64 (D.wh.circle)), (Value.int .i64 (D.wh.glo)), (Value.int .i64 (D.wh.ghi)), (Value.int .i64 (D.wh.wrong)), .slice C D.wks.length cc]), (Value.int .i64 (k))] w fun e w' => (∃ A' c', e = .returned (.tuple #[.slice A' (arV D k).length c', (Value.int .i64 (arE D k))]) ∧ Ints w' A' (arV D k)) ∧ Below w.heap.size w w' := fun er he h1 h2 => by
    rw [h1, h2]
    exact (Areas_err A B C ca cb cc D k w ha hb hc er he).mono fun e w' ⟨h3, h4⟩ => ⟨⟨none, 0, h3, .inl rfl⟩, h4⟩
  by_cases hD : dspB D = true
  · by_cases hk : within k 0 14 = true
    · have e1 : arV D k = arL D k := by unfold arV; rw [if_pos ⟨hD, hk⟩]
      have e2 : arE D k = if arL D k = [] then 3 else 0 := by unfold arE; rw [if_pos hD, if_pos hk]
      by_cases hex : ∃ j, isK D j
      · rw [e1]
        exact Areas_ok A B C ca cb cc D k w ha hb hc hD hk hex
      · have hno : ∀ j, ¬ isK D j := fun j hj => hex ⟨j, hj⟩
        have hz : arL D k = [] := List.eq_nil_iff_forall_not_mem.2 fun x hx => by
          obtain ⟨t, ht, _⟩ := arB_iff.1 ((mem_arL (dsp_ok hD)).1 hx)
          obtain ⟨j, hj, _⟩ := (isT_iff (dsp_ok hD)).1 ht
          exact hno j hj
        exact key 3 (.inr (.inr ⟨hD, hk, hno, rfl⟩)) (by rw [e1, hz]) (by rw [e2, if_pos hz])
    · have hk' : within k 0 14 = false := by simpa using hk
      exact key 1 (.inr (.inl ⟨hD, hk', rfl⟩)) (by unfold arV; rw [if_neg (by simp [hk'])]) (by unfold arE; rw [if_pos hD, if_neg hk])
  · have hD' : dspB D = false := by simpa using hD
    exact key 80 (.inl ⟨hD', rfl⟩) (by unfold arV; rw [if_neg (by simp [hD'])]) (by unfold arE; rw [if_neg hD])
end
end Go.Proofs.YthijegacjboclaaGreat
