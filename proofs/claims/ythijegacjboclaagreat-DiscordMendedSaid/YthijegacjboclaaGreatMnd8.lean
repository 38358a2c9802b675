/- The function Mend of discord answers the corners of a story without a wrong walk, with as few wrong corners. -/
import Derived.Test.YthijegacjboclaaGreatCnW
namespace Go.Proofs.YthijegacjboclaaGreat
open Go.RowKit Go.Maps
attribute [local go_sem] After.cell After.frozen AfterM.cell AfterM.frozen

set_option maxHeartbeats 400000 in
theorem mendIs_any (k : Nat × Nat × Int) (w : World) : Calls Tryz.prog 57 #[stV k] w fun e w' => e = .returned (.bool (k.2.1 == 0)) ∧ Below w.heap.size w w' := by
  have c0 := Blk.new w 75 #[.int .u64 (k.1 : Int), .int .u64 (k.2.1 : Int), (Value.int .i64 (k.2.2))]
  (have la := c0.lt); (have ya0 := c0.cell 0); (have ya1 := c0.cell 1); (have ya2 := c0.cell 2); simp only [List.getElem?_toArray, List.getElem?_cons_zero, List.getElem?_cons_succ] at ya0 ya1 ya2
  unfold stV
  go_enter Tryz.func57, Tryz.ntmps57
  go_wp2
  go_ret
  refine ⟨ret_bool ?_, by (repeat (first | with_reducible exact Below.refl _ _ | with_reducible apply bl_alloc | with_reducible apply bl_drew | with_reducible apply bl_after | (with_reducible refine bl_call ?_ (by assumption))))⟩
  rw [Bool.eq_iff_iff]
  simp
/-- A field of a story without a wrong walk, with as few wrong corners. -/
def mendP (D : Dsp) (l : List Pt) : Prop := fldP D l ∧ gesP D (arD D l) ∧ ∃ s, skwP D s ∧ (tldOf D l s).ww = [] ∧ cnO D = some (tldOf D l s).many
section
variable (A B C : Option Addr) (ca cb cc : Nat) (D : Dsp) (w : World)
set_option maxRecDepth 100000 in
set_option maxHeartbeats 4000000 in
theorem Mend_key (er : Int) (R : List Pt → Prop)
    (hal : Calls Tryz.prog 56 #[(Value.agg #[.slice A D.cs.length ca, .slice B D.offs.length cb, (Value.int .i64 (D.unit)), (Value.int .i64 (D.wh.full)), (Value.int .i64 (D.wh.read)), (Value.int .i64 (D.wh.slip)), (Value.int .i64 (D.wh.skew)), (Value.int .i64 (D.wh.circle)), (Value.int .i64 (D.wh.glo)), (Value.int .i64 (D.wh.ghi)), (Value.int .i64 (D.wh.wrong)), .slice C D.wks.length cc]), .func (.func 57) #[] #[]] (w.alloc (.cells #[.slice A D.cs.length ca, .slice B D.offs.length cb, (Value.int .i64 (D.unit)), (Value.int .i64 (D.wh.full)), (Value.int .i64 (D.wh.read)), (Value.int .i64 (D.wh.slip)), (Value.int .i64 (D.wh.skew)), (Value.int .i64 (D.wh.circle)), (Value.int .i64 (D.wh.glo)), (Value.int .i64 (D.wh.ghi)), (Value.int .i64 (D.wh.wrong)), .slice C D.wks.length cc] 30)) fun e w' => (∃ (x y : Nat) (z : Int) (P : Option Addr) (c : Nat) (l : List Pt), R l ∧ Pts w' P l ∧ e = .returned (.tuple #[.agg #[.int .u64 (x : Int), .int .u64 (y : Int), (Value.int .i64 (z))], .slice P l.length c, (Value.int .i64 (er))])) ∧ Below (w.alloc (.cells #[.slice A D.cs.length ca, .slice B D.offs.length cb, (Value.int .i64 (D.unit)), (Value.int .i64 (D.wh.full)), (Value.int .i64 (D.wh.read)), (Value.int .i64 (D.wh.slip)), (Value.int .i64 (D.wh.skew)), (Value.int .i64 (D.wh.circle)), (Value.int .i64 (D.wh.glo)), (Value.int .i64 (D.wh.ghi)), (Value.int .i64 (D.wh.wrong)), .slice C D.wks.length cc] 30)).heap.size (w.alloc (.cells #[.slice A D.cs.length ca, .slice B D.offs.length cb, (Value.int .i64 (D.unit)), (Value.int .i64 (D.wh.full)), (Value.int .i64 (D.wh.read)), (Value.int .i64 (D.wh.slip)), (Value.int .i64 (D.wh.skew)), (Value.int .i64 (D.wh.circle)), (Value.int .i64 (D.wh.glo)), (Value.int .i64 (D.wh.ghi)), (Value.int .i64 (D.wh.wrong)), .slice C D.wks.length cc] 30)) w') :
    Calls Tryz.prog 28 #[(Value.agg #[.slice A D.cs.length ca, .slice B D.offs.length cb, (Value.int .i64 (D.unit)), (Value.int .i64 (D.wh.full)), (Value.int .i64 (D.wh.read)), (Value.int .i64 (D.wh.slip)), (Value.int .i64 (D.wh.skew)), (Value.int .i64 (D.wh.circle)), (Value.int .i64 (D.wh.glo)), (Value.int .i64 (D.wh.ghi)), (Value.int .i64 (D.wh.wrong)), .slice C D.wks.length cc])] w fun e w' => (∃ (P : Option Addr) (c : Nat) (l : List Pt), e = .returned (.tuple #[.slice P l.length c, (Value.int .i64 (er))]) ∧ Pts w' P l ∧ R l) ∧ Below w.heap.size w w' := by
  have c0 : Blk (w.alloc (.cells #[.slice A D.cs.length ca, .slice B D.offs.length cb, (Value.int .i64 (D.unit)), (Value.int .i64 (D.wh.full)), (Value.int .i64 (D.wh.read)), (Value.int .i64 (D.wh.slip)), (Value.int .i64 (D.wh.skew)), (Value.int .i64 (D.wh.circle)), (Value.int .i64 (D.wh.glo)), (Value.int .i64 (D.wh.ghi)), (Value.int .i64 (D.wh.wrong)), .slice C D.wks.length cc] 30)) w.heap.size 30 #[.slice A D.cs.length ca, .slice B D.offs.length cb, (Value.int .i64 (D.unit)), (Value.int .i64 (D.wh.full)), (Value.int .i64 (D.wh.read)), (Value.int .i64 (D.wh.slip)), (Value.int .i64 (D.wh.skew)), (Value.int .i64 (D.wh.circle)), (Value.int .i64 (D.wh.glo)), (Value.int .i64 (D.wh.ghi)), (Value.int .i64 (D.wh.wrong)), .slice C D.wks.length cc] := Blk.new _ _ _
  have hb0 : Below w.heap.size w (w.alloc (.cells #[.slice A D.cs.length ca, .slice B D.offs.length cb, (Value.int .i64 (D.unit)), (Value.int .i64 (D.wh.full)), (Value.int .i64 (D.wh.read)), (Value.int .i64 (D.wh.slip)), (Value.int .i64 (D.wh.skew)), (Value.int .i64 (D.wh.circle)), (Value.int .i64 (D.wh.glo)), (Value.int .i64 (D.wh.ghi)), (Value.int .i64 (D.wh.wrong)), .slice C D.wks.length cc] 30)) := by (repeat (first | with_reducible exact Below.refl _ _ | with_reducible apply bl_alloc | with_reducible apply bl_drew | with_reducible apply bl_after | (with_reducible refine bl_call ?_ (by assumption))))
  (have la := c0.lt); (have ya0 := c0.cell 0); (have ya1 := c0.cell 1); (have ya2 := c0.cell 2); (have ya3 := c0.cell 3); (have ya4 := c0.cell 4); (have ya5 := c0.cell 5); (have ya6 := c0.cell 6); (have ya7 := c0.cell 7); (have ya8 := c0.cell 8); (have ya9 := c0.cell 9); (have ya10 := c0.cell 10); (have ya11 := c0.cell 11); simp only [List.getElem?_toArray, List.getElem?_cons_zero, List.getElem?_cons_succ] at ya0 ya1 ya2 ya3 ya4 ya5 ya6 ya7 ya8 ya9 ya10 ya11
  have hal2 := Lib.hid hal
  clear hal
  go_enter Tryz.func28, Tryz.ntmps28
  go_upto_region 2 with ((go_at_call 56); (with_reducible refine Calls.mono hal2.out ?_); rintro e w2 ⟨⟨x, y, z, P, c, l, hR, hP, rfl⟩, hb2⟩)
  have hbw := bl_alloc (o := .cells #[.int .u64 (x : Int), .int .u64 (y : Int), (Value.int .i64 (z))] 75) (bl_call hb0 hb2)
  have hP2 := hP.below (bl_alloc (o := .cells #[.int .u64 (x : Int), .int .u64 (y : Int), (Value.int .i64 (z))] 75) (Below.refl _ w2))
  have HH := Lib.hid (And.intro hR (And.intro hP2 hbw))
  clear la ya0 ya1 ya2 ya3 ya4 ya5 ya6 ya7 ya8 ya9 ya10 ya11 c0 hb2 hal2 hb0 hR hP hP2 hbw
  go_wp2
  go_ret2
  exact ⟨⟨P, c, l, rfl, HH.out.2.1, HH.out.1⟩, HH.out.2.2⟩
/-- What Mend answers. -/
def mendR (D : Dsp) (l : List Pt) : Prop := (lsE D (cnO D) = 0 ∧ mendP D l) ∨ (lsE D (cnO D) ≠ 0 ∧ l = [])
theorem Mend_any8 (ha : Pts w A D.cs) (hb : Ints w B D.offs) (hc : Wks w C D.wks) : Calls Tryz.prog 28 #[(Value.agg #[.slice A D.cs.length ca, .slice B D.offs.length cb, (Value.int .i64 (D.unit)), (Value.int .i64 (D.wh.full)), (Value.int .i64 (D.wh.read)), (Value.int .i64 (D.wh.slip)), (Value.int .i64 (D.wh.skew)), (Value.int .i64 (D.wh.circle)), (Value.int .i64 (D.wh.glo)), (Value.int .i64 (D.wh.ghi)), (Value.int .i64 (D.wh.wrong)), .slice C D.wks.length cc])] w fun e w' => (∃ (P : Option Addr) (c : Nat) (l : List Pt), e = .returned (.tuple #[.slice P l.length c, (Value.int .i64 (lsE D (cnO D)))]) ∧ Pts w' P l ∧ mendR D l) ∧ Below w.heap.size w w' := by
  have hb0 : Below w.heap.size w (w.alloc (.cells #[.slice A D.cs.length ca, .slice B D.offs.length cb, (Value.int .i64 (D.unit)), (Value.int .i64 (D.wh.full)), (Value.int .i64 (D.wh.read)), (Value.int .i64 (D.wh.slip)), (Value.int .i64 (D.wh.skew)), (Value.int .i64 (D.wh.circle)), (Value.int .i64 (D.wh.glo)), (Value.int .i64 (D.wh.ghi)), (Value.int .i64 (D.wh.wrong)), .slice C D.wks.length cc] 30)) := by (repeat (first | with_reducible exact Below.refl _ _ | with_reducible apply bl_alloc | with_reducible apply bl_drew | with_reducible apply bl_after | (with_reducible refine bl_call ?_ (by assumption))))
  have eg := enters_of Tryz.func57 (by kernel_rfl) rfl
  refine Mend_key A B C ca cb cc D w _ _ ?_
  by_cases hD : dspB D = true
  · have hok := dsp_ok hD
    have hg : ∀ k, isK D k → ((fun k : Nat × Nat × Int => k.2.1 == 0) k = true ↔ (toT k).ww = []) := fun k hk => by
      have h3 := isK_lt hok hk
      simp only [beq_iff_eq]
      exact (bitL_nil (by omega)).symm
    by_cases hgx : ∃ k : Nat × Nat × Int, isK D k ∧ (k.2.1 == 0) = true
    · refine (alone_ok A B C ca cb cc D _ (ha.below hb0) (hb.below hb0) (hc.below hb0) 57 (fun k => k.2.1 == 0) eg (fun k W _ => mendIs_any k W) hD hgx).mono fun e w' ⟨⟨k, b, c, l, he, hk, hp, hs⟩, hbw⟩ => ⟨?_, hbw⟩
      have hmn : cnO D = some (mny k) := only_some (Q := fun t => t.ww = []) hok hg hk
      have e2 : lsE D (cnO D) = 0 := by unfold lsE; rw [if_pos hD, hmn]
      obtain ⟨h1, h2, s, h3, h4⟩ := hs
      have ht : toT k = tldOf D l s := by rw [h4, toT_ky hok]
      refine ⟨k.1, k.2.1, k.2.2, some ⟨b, 0, none⟩, c, l, .inl ⟨e2, h1, h2, s, h3, ?_, ?_⟩, .inr ⟨b, 0, rfl, hp⟩, ?_⟩
      · rw [← ht]
        exact (hg k hk.1).1 hk.2.1
      · rw [hmn, ← ht]
        rfl
      · rw [e2, h1.1]
        exact he
    · have hno : ∀ k, isK D k → (fun k : Nat × Nat × Int => k.2.1 == 0) k = false := fun k hk => by
        cases h : (fun k : Nat × Nat × Int => k.2.1 == 0) k with
        | false => rfl
        | true => exact absurd ⟨k, hk, h⟩ hgx
      have hmn : cnO D = none := only_none (Q := fun t => t.ww = []) hok hg hno
      have e2 : lsE D (cnO D) = 3 := by unfold lsE; rw [if_pos hD, hmn]
      have hR : mendR D [] := .inr ⟨by rw [e2]; decide, rfl⟩
      rw [e2]
      by_cases hex : ∃ k, isK D k
      · exact (alone_no A B C ca cb cc D _ (ha.below hb0) (hb.below hb0) (hc.below hb0) 57 (fun k => k.2.1 == 0) eg (fun k W _ => mendIs_any k W) hD hex hno).mono fun e w' ⟨he, hbw⟩ => ⟨⟨0, 0, 0, none, 0, [], hR, .inl rfl, he⟩, hbw⟩
      · exact (alone_err A B C ca cb cc D _ (ha.below hb0) (hb.below hb0) (hc.below hb0) 57 3 (.inr ⟨hD, fun k hk => hex ⟨k, hk⟩, rfl⟩)).mono fun e w' ⟨he, hbw⟩ => ⟨⟨0, 0, 0, none, 0, [], hR, .inl rfl, he⟩, hbw⟩
  · have e2 : lsE D (cnO D) = 80 := by unfold lsE; rw [if_neg hD]
    have hR : mendR D [] := .inr ⟨by rw [e2]; decide, rfl⟩
    rw [e2]
    exact (alone_err A B C ca cb cc D _ (ha.below hb0) (hb.below hb0) (hc.below hb0) 57 80 (.inl ⟨by simpa using hD, rfl⟩)).mono fun e w' ⟨he, hbw⟩ => ⟨⟨0, 0, 0, none, 0, [], hR, .inl rfl, he⟩, hbw⟩
end
end Go.Proofs.YthijegacjboclaaGreat
