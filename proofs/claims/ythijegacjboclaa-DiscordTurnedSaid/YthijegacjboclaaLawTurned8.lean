/- The law DiscordTurned answers true for any dispute, corner and number of faults. -/
import Derived.Test.YthijegacjboclaaCt8
import Derived.Test.YthijegacjboclaaAlk8
import Derived.Test.YthijegacjboclaaEx8
import Derived.Test.YthijegacjboclaaFar8
import Derived.Test.YthijegacjboclaaOpd
import Derived.Test.YthijegacjboclaaRows
namespace Go.Proofs.Ythijegacjboclaa
open Go.ChangeShapes Go.WideShapes Go.RowKit
attribute [local go_sem] After.cell After.frozen After2.cell After2.frozen AfterM.cell AfterM.frozen
def rotE (D : Dsp) (f k : Nat) : Dsp := ⟨mixTo (rotL D.cs f) D.cs k, mixTo (rotL D.offs f) D.offs k, D.unit, D.wh, D.wks⟩
def swE (D : Dsp) (k : Nat) : Dsp := ⟨mixTo (D.cs.map swp) D.cs k, D.offs, D.unit, D.wh, D.wks⟩
def rotW (D : Dsp) (f k : Nat) : Dsp := ⟨rotL D.cs f, rotL D.offs f, D.unit, D.wh, mixTo D.wks.reverse D.wks k⟩
section
variable (A B C : Option Addr) (ca cb cc : Nat) (D : Dsp) (w : World) (ha : Pts w A D.cs) (hb : Ints w B D.offs) (hc : Wks w C D.wks)
include ha hb hc
set_option maxRecDepth 100000 in
set_option maxHeartbeats 8000000 in
theorem lawTurned8_ok (f : Nat) (n : Int) (hr : rdyB D = true) (hf : f < D.cs.length) :
    Calls Try.prog 6 #[(Value.agg #[.slice A D.cs.length ca, .slice B D.offs.length cb, (Value.int .i64 (D.unit)), (Value.int .i64 (D.wh.full)), (Value.int .i64 (D.wh.read)), (Value.int .i64 (D.wh.slip)), (Value.int .i64 (D.wh.skew)), (Value.int .i64 (D.wh.circle)), (Value.int .i64 (D.wh.glo)), (Value.int .i64 (D.wh.ghi)), (Value.int .i64 (D.wh.wrong)), .slice C D.wks.length cc]), (Value.int .i64 ((f : Int))), (Value.int .i64 (n))] w fun e w' => e = .returned (.bool true) ∧ Below w.heap.size w w' := by
  have e0 : Blk (w.alloc (.cells #[.slice A D.cs.length ca, .slice B D.offs.length cb, (Value.int .i64 (D.unit)), (Value.int .i64 (D.wh.full)), (Value.int .i64 (D.wh.read)), (Value.int .i64 (D.wh.slip)), (Value.int .i64 (D.wh.skew)), (Value.int .i64 (D.wh.circle)), (Value.int .i64 (D.wh.glo)), (Value.int .i64 (D.wh.ghi)), (Value.int .i64 (D.wh.wrong)), .slice C D.wks.length cc] 30)) w.heap.size 30 #[.slice A D.cs.length ca, .slice B D.offs.length cb, (Value.int .i64 (D.unit)), (Value.int .i64 (D.wh.full)), (Value.int .i64 (D.wh.read)), (Value.int .i64 (D.wh.slip)), (Value.int .i64 (D.wh.skew)), (Value.int .i64 (D.wh.circle)), (Value.int .i64 (D.wh.glo)), (Value.int .i64 (D.wh.ghi)), (Value.int .i64 (D.wh.wrong)), .slice C D.wks.length cc] := Blk.new _ _ _
  have hR := fun (W : World) (h : Below w.heap.size w W) => ready8_any A B C ca cb cc D W (ha.below h) (hb.below h) (hc.below h)
  obtain ⟨hD, hg, hl⟩ := rdy_ok hr
  rw [hr] at hR
  replace hR := Lib.hid hR
  have hC := Lib.hid fun (W : World) (h : Below w.heap.size w W) => rCopy8 A B C ca cb cc D W (ha.below h) (hb.below h) (hc.below h) (by omega) (by omega) (by omega)
  have e0' := Lib.hid e0
  have HD := Lib.hid (And.intro hD hg)
  have hkl : decide (D.cs.length ≤ f) = false := by simp; omega
  have HM := Lib.hid (And.intro ha (And.intro hb hc))
  clear ha hb hc hr hD hg
  (have la := e0.lt); (have ya0 := e0.cell 0); (have ya1 := e0.cell 1); (have ya2 := e0.cell 2); (have ya3 := e0.cell 3); (have ya4 := e0.cell 4); (have ya5 := e0.cell 5); (have ya6 := e0.cell 6); (have ya7 := e0.cell 7); (have ya8 := e0.cell 8); (have ya9 := e0.cell 9); (have ya10 := e0.cell 10); (have ya11 := e0.cell 11); simp only [List.getElem?_toArray, List.getElem?_cons_zero, List.getElem?_cons_succ] at ya0 ya1 ya2 ya3 ya4 ya5 ya6 ya7 ya8 ya9 ya10 ya11
  go_enter Try.func6, Try.ntmps6
  go_upto_region 3 with ((go_at_call 7); (with_reducible refine Calls.mono (hR.out _ (by (repeat (first | with_reducible exact Below.refl _ _ | with_reducible apply bl_alloc | with_reducible apply bl_drew | with_reducible apply bl_after | (with_reducible refine bl_call ?_ (by assumption)))))) ?_); rintro e wn ⟨rfl, hbn⟩; first | ((with_reducible apply kp_in_step (hb := hbn)); (with_reducible assumption); rintro ⟨hk, hc, hf, hzc, hzf⟩) | ((with_reducible refine kp_in_first hbn ?_); rintro ⟨hk, hc, hf, hzc, hzf⟩))
  have hB1 : Below ((w.alloc (.cells #[.slice A D.cs.length ca, .slice B D.offs.length cb, (Value.int .i64 (D.unit)), (Value.int .i64 (D.wh.full)), (Value.int .i64 (D.wh.read)), (Value.int .i64 (D.wh.slip)), (Value.int .i64 (D.wh.skew)), (Value.int .i64 (D.wh.circle)), (Value.int .i64 (D.wh.glo)), (Value.int .i64 (D.wh.ghi)), (Value.int .i64 (D.wh.wrong)), .slice C D.wks.length cc] 30))).heap.size (w.alloc (.cells #[.slice A D.cs.length ca, .slice B D.offs.length cb, (Value.int .i64 (D.unit)), (Value.int .i64 (D.wh.full)), (Value.int .i64 (D.wh.read)), (Value.int .i64 (D.wh.slip)), (Value.int .i64 (D.wh.skew)), (Value.int .i64 (D.wh.circle)), (Value.int .i64 (D.wh.glo)), (Value.int .i64 (D.wh.ghi)), (Value.int .i64 (D.wh.wrong)), .slice C D.wks.length cc] 30)) wn := by (repeat (first | with_reducible exact Below.refl _ _ | with_reducible apply bl_alloc | with_reducible apply bl_drew | with_reducible apply bl_after | (with_reducible refine bl_call ?_ (by assumption))))
  have hbx : Below w.heap.size w wn := bl_call (by (repeat (first | with_reducible exact Below.refl _ _ | with_reducible apply bl_alloc | with_reducible apply bl_drew | with_reducible apply bl_after | (with_reducible refine bl_call ?_ (by assumption))))) hB1
  have v0 := e0'.out.below hB1
  clear la ya0 ya1 ya2 ya3 ya4 ya5 ya6 ya7 ya8 ya9 ya10 ya11 e0 e0' hB1 hbn
  ((try clear hk hc hf hzc hzf); (try clear hk hc hf hzc hzf); (try clear hk hc hf hzc hzf); (try clear hk hc hf hzc hzf))
  (have la := v0.lt); (have ya0 := v0.cell 0); (have ya1 := v0.cell 1); (have ya2 := v0.cell 2); (have ya3 := v0.cell 3); (have ya4 := v0.cell 4); (have ya5 := v0.cell 5); (have ya6 := v0.cell 6); (have ya7 := v0.cell 7); (have ya8 := v0.cell 8); (have ya9 := v0.cell 9); (have ya10 := v0.cell 10); (have ya11 := v0.cell 11); simp only [List.getElem?_toArray, List.getElem?_cons_zero, List.getElem?_cons_succ] at ya0 ya1 ya2 ya3 ya4 ya5 ya6 ya7 ya8 ya9 ya10 ya11
  (refine wp_region_CN (fun w' => ∃ z : After wn, w' = z.val) (by kernel_rfl) ?_); (change wpAnyC _ _ _ _ _ _ _ (World.drew wn)); refine wpAnyC_take (i := 0) (v := ?v0u) rfl (by kernel_rfl) (by kernel_rfl) (by kernel_rfl) ?q0u rfl ?y0u ?r0u; (case q0u => exact fun _ _ _ h => h); (case y0u => ((rintro _ ⟨z, rfl⟩); (go_simp); (try with_reducible rfl))); simp only [Act.put, List.getElem_toArray, List.getElem_cons_succ, List.getElem_cons_zero, List.setIfInBounds_toArray, List.set_cons_succ, List.set_cons_zero]; refine wpAnyC_take (i := 2) (v := ?v2u) rfl (by kernel_rfl) (by kernel_rfl) (by kernel_rfl) ?q2u rfl ?y2u ?r2u; (case q2u => exact fun _ _ _ h => h); (case y2u => ((rintro _ ⟨z, rfl⟩); (go_simp); (try with_reducible rfl))); simp only [Act.put, List.getElem_toArray, List.getElem_cons_succ, List.getElem_cons_zero, List.setIfInBounds_toArray, List.set_cons_succ, List.set_cons_zero]; (refine wpAnyC_stg [1, 3, 4, 5] [[], [0], [], []] [28, 30, 7, 8] (Cq8L D wn) (f0 := 2) (by kernel_rfl) rfl rfl (by kernel_rfl) rfl ?hC (fun vs _ => cq8_zero) ?hs ?hf)
  case hC => exact fun b vs w7 h => ⟨⟨_, Cq8E.low h⟩, rfl⟩
  case hs =>
    intro j b vs w7 hj hbl hvl hok hbj hdp hJ
    obtain ⟨b0, b1, b2, b3, rfl⟩ := four_list hbl
    obtain ⟨v0, v1, v2, v3, rfl⟩ := four_list hvl
    have hJ : Cq8E D wn b0 b1 b2 b3 v0 v1 v2 v3 w7 := hJ
    simp only [okB, List.zip_cons_cons, List.zip_nil_right, List.all_cons, List.all_nil, List.getD_cons_zero, List.getD_cons_succ, Bool.and_true, Bool.true_and, Bool.or_true, Bool.and_eq_true, Bool.or_eq_true, Bool.not_eq_true'] at hok
    clear hbl hvl
    rcases four_pos hj with rfl | rfl | rfl | rfl
    · obtain rfl : b0 = false := hbj
      obtain rfl : b1 = false := by simpa using hok
      (refine wpOp_of rfl rfl (fun K hK => ?_)); simp only [putL, Act.put, List.getElem_toArray, List.getElem_cons_succ, List.getElem_cons_zero, List.setIfInBounds_toArray, List.set_cons_succ, List.set_cons_zero, List.getD_cons_zero, List.getD_cons_succ]; go_simp; (go_at_call 11); (have hV7 : Below w.heap.size w w7 := bl_call hbx hJ.low); (with_reducible refine Calls.mono (hC.out _ hV7) ?_); rintro e8 w8 ⟨⟨A8, a8, B8, b8, C8, c8, rfl, h81, h82, h83⟩, hb8⟩; (refine hK _ _ ⟨_, ?_, cq8_c1 hJ ⟨h81, h82, h83⟩ hb8⟩); rfl
    · obtain rfl : b0 = true := by simpa using hdp
      obtain rfl : b1 = false := hbj
      (refine wpOp_of rfl rfl (fun K hK => ?_)); simp only [putL, Act.put, List.getElem_toArray, List.getElem_cons_succ, List.getElem_cons_zero, List.setIfInBounds_toArray, List.set_cons_succ, List.set_cons_zero, List.getD_cons_zero, List.getD_cons_succ]; go_simp; (go_at_call 11); (have hV7 : Below w.heap.size w w7 := bl_call hbx hJ.low); (with_reducible refine Calls.mono (hC.out _ hV7) ?_); rintro e8 w8 ⟨⟨A8, a8, B8, b8, C8, c8, rfl, h81, h82, h83⟩, hb8⟩; (refine hK _ _ ⟨_, ?_, cq8_c3 hJ ⟨h81, h82, h83⟩ hb8⟩); rfl
    · obtain rfl : b2 = false := hbj
      (refine wpOp_of rfl rfl (fun K hK => ?_)); simp only [putL, Act.put, List.getElem_toArray, List.getElem_cons_succ, List.getElem_cons_zero, List.setIfInBounds_toArray, List.set_cons_succ, List.set_cons_zero, List.getD_cons_zero, List.getD_cons_succ]; go_simp; (refine hK _ _ ⟨_, ?_, cq8_b4 hJ⟩); rfl
    · obtain rfl : b3 = false := hbj
      (refine wpOp_of rfl rfl (fun K hK => ?_)); simp only [putL, Act.put, List.getElem_toArray, List.getElem_cons_succ, List.getElem_cons_zero, List.setIfInBounds_toArray, List.set_cons_succ, List.set_cons_zero, List.getD_cons_zero, List.getD_cons_succ]; go_simp; (refine hK _ _ ⟨_, ?_, cq8_b5 hJ⟩); rfl
  case hf =>
    intro vs w7 hvl hJ
    obtain ⟨v0, v1, v2, v3, rfl⟩ := four_list hvl
    obtain ⟨r1, r2, r3, s1, s2, s3, g4, g5, hJ⟩ : Cq8E D wn true true true true v0 v1 v2 v3 w7 := hJ
    obtain ⟨rfl, hr⟩ := hJ.x1 rfl
    obtain ⟨rfl, hs⟩ := hJ.x3 rfl
    obtain ⟨rfl, hg4, hB4⟩ := hJ.x4 rfl
    obtain ⟨rfl, hg5, hB5⟩ := hJ.x5 rfl
    have hz := hJ.z rfl rfl
    have hy := hJ.y rfl rfl
    have hlow := hJ.low
    obtain ⟨A1, a1, rfl, -⟩ := hr.1.parts
    obtain ⟨B1, b1, rfl, -⟩ := hr.2.1.parts
    obtain ⟨C1, c1, rfl, -⟩ := RowR.parts8 hr.2.2
    obtain ⟨A2, a2, rfl, -⟩ := hs.1.parts
    obtain ⟨B2, b2, rfl, -⟩ := hs.2.1.parts
    obtain ⟨C2, c2, rfl, -⟩ := RowR.parts8 hs.2.2
    clear hJ hvl
    simp only [putL, Act.put, List.getElem_toArray, List.getElem_cons_succ, List.getElem_cons_zero, List.setIfInBounds_toArray, List.set_cons_succ, List.set_cons_zero, List.getD_cons_zero, List.getD_cons_succ]
    have HZ := Lib.hid (And.intro hz hy)
    refine wpAnyC_one (i := 6) (by kernel_rfl) rfl ⟨⟨_, hlow⟩, rfl⟩ rfl (fun K hK => ?_)
    refine wp_store_row 30 _ _ rfl g4 #[.slice A1 D.cs.length a1, .slice B1 D.offs.length b1, (Value.int .i64 (D.unit)), (Value.int .i64 (D.wh.full)), (Value.int .i64 (D.wh.read)), (Value.int .i64 (D.wh.slip)), (Value.int .i64 (D.wh.skew)), (Value.int .i64 (D.wh.circle)), (Value.int .i64 (D.wh.glo)), (Value.int .i64 (D.wh.ghi)), (Value.int .i64 (D.wh.wrong)), .slice C1 D.wks.length c1] rfl rfl 30 _ hB4 (by kernel_rfl) rfl (by simp [Value.oneCell']) (hK _ _ ?_)
    clear hK K
    replace hlow := bl_setRow8 (cs := #[.slice A1 D.cs.length a1, .slice B1 D.offs.length b1, (Value.int .i64 (D.unit)), (Value.int .i64 (D.wh.full)), (Value.int .i64 (D.wh.read)), (Value.int .i64 (D.wh.slip)), (Value.int .i64 (D.wh.skew)), (Value.int .i64 (D.wh.circle)), (Value.int .i64 (D.wh.glo)), (Value.int .i64 (D.wh.ghi)), (Value.int .i64 (D.wh.wrong)), .slice C1 D.wks.length c1]) hlow hg4
    replace hr := hr.setBox (cs := #[.slice A1 D.cs.length a1, .slice B1 D.offs.length b1, (Value.int .i64 (D.unit)), (Value.int .i64 (D.wh.full)), (Value.int .i64 (D.wh.read)), (Value.int .i64 (D.wh.slip)), (Value.int .i64 (D.wh.skew)), (Value.int .i64 (D.wh.circle)), (Value.int .i64 (D.wh.glo)), (Value.int .i64 (D.wh.ghi)), (Value.int .i64 (D.wh.wrong)), .slice C1 D.wks.length c1]) hB4
    replace hs := hs.setBox (cs := #[.slice A1 D.cs.length a1, .slice B1 D.offs.length b1, (Value.int .i64 (D.unit)), (Value.int .i64 (D.wh.full)), (Value.int .i64 (D.wh.read)), (Value.int .i64 (D.wh.slip)), (Value.int .i64 (D.wh.skew)), (Value.int .i64 (D.wh.circle)), (Value.int .i64 (D.wh.glo)), (Value.int .i64 (D.wh.ghi)), (Value.int .i64 (D.wh.wrong)), .slice C1 D.wks.length c1]) hB4
    replace hB5 := blk_setRow_far8 (cs := #[.slice A1 D.cs.length a1, .slice B1 D.offs.length b1, (Value.int .i64 (D.unit)), (Value.int .i64 (D.wh.full)), (Value.int .i64 (D.wh.read)), (Value.int .i64 (D.wh.slip)), (Value.int .i64 (D.wh.skew)), (Value.int .i64 (D.wh.circle)), (Value.int .i64 (D.wh.glo)), (Value.int .i64 (D.wh.ghi)), (Value.int .i64 (D.wh.wrong)), .slice C1 D.wks.length c1]) hB5 (Ne.symm hz)
    replace hB4 := blk_setRow8 (cs := #[.slice A1 D.cs.length a1, .slice B1 D.offs.length b1, (Value.int .i64 (D.unit)), (Value.int .i64 (D.wh.full)), (Value.int .i64 (D.wh.read)), (Value.int .i64 (D.wh.slip)), (Value.int .i64 (D.wh.skew)), (Value.int .i64 (D.wh.circle)), (Value.int .i64 (D.wh.glo)), (Value.int .i64 (D.wh.ghi)), (Value.int .i64 (D.wh.wrong)), .slice C1 D.wks.length c1]) hB4
    generalize w7.setRow g4 #[.slice A1 D.cs.length a1, .slice B1 D.offs.length b1, (Value.int .i64 (D.unit)), (Value.int .i64 (D.wh.full)), (Value.int .i64 (D.wh.read)), (Value.int .i64 (D.wh.slip)), (Value.int .i64 (D.wh.skew)), (Value.int .i64 (D.wh.circle)), (Value.int .i64 (D.wh.glo)), (Value.int .i64 (D.wh.ghi)), (Value.int .i64 (D.wh.wrong)), .slice C1 D.wks.length c1] = w8 at *
    refine wpAnyC_one (i := 7) (by kernel_rfl) rfl ⟨⟨_, hlow⟩, rfl⟩ rfl (fun K hK => ?_)
    refine wp_store_row 30 _ _ rfl g5 #[.slice A2 D.cs.length a2, .slice B2 D.offs.length b2, (Value.int .i64 (D.unit)), (Value.int .i64 (D.wh.full)), (Value.int .i64 (D.wh.read)), (Value.int .i64 (D.wh.slip)), (Value.int .i64 (D.wh.skew)), (Value.int .i64 (D.wh.circle)), (Value.int .i64 (D.wh.glo)), (Value.int .i64 (D.wh.ghi)), (Value.int .i64 (D.wh.wrong)), .slice C2 D.wks.length c2] rfl rfl 30 _ hB5 (by kernel_rfl) rfl (by simp [Value.oneCell']) (hK _ _ ?_)
    clear hK K
    replace hlow := bl_setRow8 (cs := #[.slice A2 D.cs.length a2, .slice B2 D.offs.length b2, (Value.int .i64 (D.unit)), (Value.int .i64 (D.wh.full)), (Value.int .i64 (D.wh.read)), (Value.int .i64 (D.wh.slip)), (Value.int .i64 (D.wh.skew)), (Value.int .i64 (D.wh.circle)), (Value.int .i64 (D.wh.glo)), (Value.int .i64 (D.wh.ghi)), (Value.int .i64 (D.wh.wrong)), .slice C2 D.wks.length c2]) hlow hg5
    replace hr := hr.setBox (cs := #[.slice A2 D.cs.length a2, .slice B2 D.offs.length b2, (Value.int .i64 (D.unit)), (Value.int .i64 (D.wh.full)), (Value.int .i64 (D.wh.read)), (Value.int .i64 (D.wh.slip)), (Value.int .i64 (D.wh.skew)), (Value.int .i64 (D.wh.circle)), (Value.int .i64 (D.wh.glo)), (Value.int .i64 (D.wh.ghi)), (Value.int .i64 (D.wh.wrong)), .slice C2 D.wks.length c2]) hB5
    replace hs := hs.setBox (cs := #[.slice A2 D.cs.length a2, .slice B2 D.offs.length b2, (Value.int .i64 (D.unit)), (Value.int .i64 (D.wh.full)), (Value.int .i64 (D.wh.read)), (Value.int .i64 (D.wh.slip)), (Value.int .i64 (D.wh.skew)), (Value.int .i64 (D.wh.circle)), (Value.int .i64 (D.wh.glo)), (Value.int .i64 (D.wh.ghi)), (Value.int .i64 (D.wh.wrong)), .slice C2 D.wks.length c2]) hB5
    replace hB4 := blk_setRow_far8 (cs := #[.slice A2 D.cs.length a2, .slice B2 D.offs.length b2, (Value.int .i64 (D.unit)), (Value.int .i64 (D.wh.full)), (Value.int .i64 (D.wh.read)), (Value.int .i64 (D.wh.slip)), (Value.int .i64 (D.wh.skew)), (Value.int .i64 (D.wh.circle)), (Value.int .i64 (D.wh.glo)), (Value.int .i64 (D.wh.ghi)), (Value.int .i64 (D.wh.wrong)), .slice C2 D.wks.length c2]) hB4 hz
    replace hB5 := blk_setRow8 (cs := #[.slice A2 D.cs.length a2, .slice B2 D.offs.length b2, (Value.int .i64 (D.unit)), (Value.int .i64 (D.wh.full)), (Value.int .i64 (D.wh.read)), (Value.int .i64 (D.wh.slip)), (Value.int .i64 (D.wh.skew)), (Value.int .i64 (D.wh.circle)), (Value.int .i64 (D.wh.glo)), (Value.int .i64 (D.wh.ghi)), (Value.int .i64 (D.wh.wrong)), .slice C2 D.wks.length c2]) hB5
    generalize w8.setRow g5 #[.slice A2 D.cs.length a2, .slice B2 D.offs.length b2, (Value.int .i64 (D.unit)), (Value.int .i64 (D.wh.full)), (Value.int .i64 (D.wh.read)), (Value.int .i64 (D.wh.slip)), (Value.int .i64 (D.wh.skew)), (Value.int .i64 (D.wh.circle)), (Value.int .i64 (D.wh.glo)), (Value.int .i64 (D.wh.ghi)), (Value.int .i64 (D.wh.wrong)), .slice C2 D.wks.length c2] = w9 at *
    refine wpAnyC_doneN (by kernel_rfl) ⟨⟨_, hlow⟩, rfl⟩ ?_ _
    have hq3 : D.offs.length = D.cs.length := (dsp_ok HD.out.1).lo
    obtain ⟨ga, rfl⟩ := rowP_at8 hr.1 hf
    obtain ⟨gb, rfl⟩ := rowI_at8 hr.2.1 (show f < D.offs.length by omega)
    obtain ⟨gc, rfl⟩ := rowP_at8 hs.1 hf
    have HQ3 := Lib.hid hq3
    clear hq3
    have hT : Tr8 D wn g4 g5 (some ⟨ga, 0, none⟩) a1 (some ⟨gb, 0, none⟩) b1 C1 c1 (some ⟨gc, 0, none⟩) a2 B2 b2 C2 c2 (rotE D f 0) (swE D 0) w9 := ⟨hlow, hB4, hB5, by simpa [rotE, mixTo_zero] using hr, by simpa [swE, mixTo_zero] using hs⟩
    have HV := Lib.hid v0
    have lw : w.heap.size < wn.heap.size := v0.lt
    clear la ya0 ya1 ya2 ya3 ya4 ya5 ya6 ya7 ya8 ya9 ya10 ya11 v0 hr hs hB4 hB5 hlow hz hy
    obtain ⟨ba, oa, rfl, pA⟩ := (HM.out.1.below hbx).at_ hf
    obtain ⟨bb, ob, rfl, pB⟩ := (HM.out.2.1.below hbx).at_ (show f < D.offs.length by have := HQ3.out; omega)
    have PA := Lib.hid (And.intro pA pB)
    have lpa := pA.lt
    have lpb := pB.lt
    have v1 := HV.out.below hT.low
    (have la := v1.lt); (have ya0 := v1.cell 0); (have ya1 := v1.cell 1); (have ya2 := v1.cell 2); (have ya3 := v1.cell 3); (have ya4 := v1.cell 4); (have ya5 := v1.cell 5); (have ya6 := v1.cell 6); (have ya7 := v1.cell 7); (have ya8 := v1.cell 8); (have ya9 := v1.cell 9); (have ya10 := v1.cell 10); (have ya11 := v1.cell 11); simp only [List.getElem?_toArray, List.getElem?_cons_zero, List.getElem?_cons_succ] at ya0 ya1 ya2 ya3 ya4 ya5 ya6 ya7 ya8 ya9 ya10 ya11
    clear pA pB v1
    go_wp2
    go_loopg [9] D.cs.length (fun g i wr => ∃ k : Nat, k ≤ D.cs.length ∧ g = D.cs.length - k ∧ i = (Value.int .i64 ((k : Int))) ∧ Tr8 D wn g4 g5 (some ⟨ga, 0, none⟩) a1 (some ⟨gb, 0, none⟩) b1 C1 c1 (some ⟨gc, 0, none⟩) a2 B2 b2 C2 c2 (rotE D f k) (swE D k) wr)
    case atStart => exact ⟨0, by omega, by omega, rfl, hT⟩
    case round =>
      clear hT la ya0 ya1 ya2 ya3 ya4 ya5 ya6 ya7 ya8 ya9 ya10 ya11
      obtain ⟨k, kn, rfl, rfl, hT⟩ := hrel
      have v1 := HV.out.below hT.low
      (have la := v1.lt); (have ya0 := v1.cell 0); (have ya1 := v1.cell 1); (have ya2 := v1.cell 2); (have ya3 := v1.cell 3); (have ya4 := v1.cell 4); (have ya5 := v1.cell 5); (have ya6 := v1.cell 6); (have ya7 := v1.cell 7); (have ya8 := v1.cell 8); (have ya9 := v1.cell 9); (have ya10 := v1.cell 10); (have ya11 := v1.cell 11); simp only [List.getElem?_toArray, List.getElem?_cons_zero, List.getElem?_cons_succ] at ya0 ya1 ya2 ya3 ya4 ya5 ya6 ya7 ya8 ya9 ya10 ya11
      clear v1
      by_cases hlt : k < D.cs.length
      · have HT := Lib.hid hT
        have l1 := hT.o.1
        have l2 := hT.o.2.1
        have l3 := hT.p.1
        have h4 := hT.k4
        have h5 := hT.k5
        have pA := PA.out.1.below hT.low
        have pB := PA.out.2.below hT.low
        have lga := own_lo8 l1
        have lgb := own_lo8 l2
        have lgc := own_lo8 l3
        (have n1 : w.heap.size ≠ ga := by omega); (have n1' : ¬ w.heap.size = ga := n1)
        (have n2 : w.heap.size ≠ gb := by omega); (have n2' : ¬ w.heap.size = gb := n2)
        (have n3 : g4 ≠ ga := fun e => row_box8 l1 h4 (by decide) (by rw [e]; rfl)); (have n3' : ¬ g4 = ga := n3)
        (have n4 : g4 ≠ gb := fun e => row_box8 l2 h4 (by decide) (by rw [e]; rfl)); (have n4' : ¬ g4 = gb := n4)
        (have n5 : ba ≠ ga := by omega); (have n5' : ¬ ba = ga := n5)
        (have n6 : ba ≠ gb := by omega); (have n6' : ¬ ba = gb := n6)
        (have n7 : bb ≠ ga := by omega); (have n7' : ¬ bb = ga := n7)
        (have n8 : bb ≠ gb := by omega); (have n8' : ¬ bb = gb := n8)
        obtain ⟨j, hj⟩ : ∃ j, j = (f + k) % D.cs.length := ⟨_, rfl⟩
        have hjl : j < D.cs.length := by rw [hj]; exact Nat.mod_lt _ (by omega)
        have x1 := pA.xp hjl
        have x2 := pA.yp hjl
        have hq3 := HQ3.out
        have x3 := pB.xi (show j < D.offs.length by omega)
        have lp1 := pA.lt
        have lp2 := pB.lt
        have e1 : ((f : Int) + (k : Int)) % (D.cs.length : Int) = (j : Int) := by rw [hj]; simp
        have HJ := Lib.hid hj
        have j0 : 0 ≤ ((f : Int) + (k : Int)) % (D.cs.length : Int) := by rw [e1]; omega
        have j1 : ((f : Int) + (k : Int)) % (D.cs.length : Int) < (D.cs.length : Int) := by rw [e1]; omega
        have j2 : ((f : Int) + (k : Int)) % (D.cs.length : Int) < (D.offs.length : Int) := by rw [e1]; omega
        have j3 : (((f : Int) + (k : Int)) % (D.cs.length : Int)).toNat = j := by rw [e1]; omega
        have i1 : (k : Int) < (D.cs.length : Int) := by omega
        have i2 : (k : Int) < (D.offs.length : Int) := by omega
        (have lp := h4.lt); (have yp0 := h4.cell 0); (have yp1 := h4.cell 1); (have yp2 := h4.cell 2); (have yp3 := h4.cell 3); (have yp4 := h4.cell 4); (have yp5 := h4.cell 5); (have yp6 := h4.cell 6); (have yp7 := h4.cell 7); (have yp8 := h4.cell 8); (have yp9 := h4.cell 9); (have yp10 := h4.cell 10); (have yp11 := h4.cell 11); simp only [List.getElem?_toArray, List.getElem?_cons_zero, List.getElem?_cons_succ] at yp0 yp1 yp2 yp3 yp4 yp5 yp6 yp7 yp8 yp9 yp10 yp11
        obtain ⟨cuA, hcA⟩ := own_blk8 l1
        obtain ⟨cuB, hcB⟩ := own_blk8 l2
        have pO := rowP_pts8 l1
        have lE : (rotE D f k).cs.length = D.cs.length := mixTo_len (rotL_len _ _) (by omega)
        have lF : (rotE D f k).offs.length = D.offs.length := mixTo_len (rotL_len _ _) (by omega)
        have o1 := pO.xp (i := k) (by omega)
        have o2 := pO.yp (i := k) (by omega)
        have o3 := (rowI_ints8 l2).xi (i := k) (by omega)
        rw [Nat.zero_add] at o1 o2 o3
        clear hT hj l1 l2 l3 h4 h5 pA pB e1 pO hq3 lE lF
        go_upto_region 8 with fail
        refine wp_region_CN (fun w' => ∃ z : After2 wr ga gb, w' = z.val) (by kernel_rfl) ?_
        change wpAnyC _ _ _ _ _ _ _ (World.drew wr)
        refine wpAnyC_take (i := 0) (v := ?v0r) rfl (by kernel_rfl) (by kernel_rfl) (by kernel_rfl) ?q0r rfl ?y0r ?r0r; (case q0r => exact fun _ _ _ h => h); (case y0r => ((rintro _ ⟨z, rfl⟩); (go_simp); (try with_reducible rfl))); simp only [Act.put, List.getElem_toArray, List.getElem_cons_succ, List.getElem_cons_zero, List.setIfInBounds_toArray, List.set_cons_succ, List.set_cons_zero]
        refine wpAnyC_take (i := 1) (v := ?v1r) rfl (by kernel_rfl) (by kernel_rfl) (by kernel_rfl) ?q1r rfl ?y1r ?r1r; (case q1r => exact fun _ _ _ h => h); (case y1r => ((rintro _ ⟨z, rfl⟩); (go_simp); (try with_reducible rfl))); simp only [Act.put, List.getElem_toArray, List.getElem_cons_succ, List.getElem_cons_zero, List.setIfInBounds_toArray, List.set_cons_succ, List.set_cons_zero]
        refine wpAnyC_take (i := 2) (v := ?v2r) rfl (by kernel_rfl) (by kernel_rfl) (by kernel_rfl) ?q2r rfl ?y2r ?r2r; (case q2r => exact fun _ _ _ h => h); (case y2r => ((rintro _ ⟨z, rfl⟩); (go_simp); (try with_reducible rfl))); simp only [Act.put, List.getElem_toArray, List.getElem_cons_succ, List.getElem_cons_zero, List.setIfInBounds_toArray, List.set_cons_succ, List.set_cons_zero]
        refine wpAnyC_take (i := 3) (v := ?v3r) rfl (by kernel_rfl) (by kernel_rfl) (by kernel_rfl) ?q3r rfl ?y3r ?r3r; (case q3r => exact fun _ _ _ h => h); (case y3r => ((rintro _ ⟨z, rfl⟩); (go_simp); (try with_reducible rfl))); simp only [Act.put, List.getElem_toArray, List.getElem_cons_succ, List.getElem_cons_zero, List.setIfInBounds_toArray, List.set_cons_succ, List.set_cons_zero]
        refine wpAnyC_take (i := 4) (v := ?v4r) rfl (by kernel_rfl) (by kernel_rfl) (by kernel_rfl) ?q4r rfl ?y4r ?r4r; (case q4r => exact fun _ _ _ h => h); (case y4r => ((rintro _ ⟨z, rfl⟩); (go_simp); (try with_reducible rfl))); simp only [Act.put, List.getElem_toArray, List.getElem_cons_succ, List.getElem_cons_zero, List.setIfInBounds_toArray, List.set_cons_succ, List.set_cons_zero]
        refine wpAnyC_take (i := 5) (v := ?v5r) rfl (by kernel_rfl) (by kernel_rfl) (by kernel_rfl) ?q5r rfl ?y5r ?r5r; (case q5r => exact fun _ _ _ h => h); (case y5r => ((rintro _ ⟨z, rfl⟩); (go_simp); (try with_reducible rfl))); simp only [Act.put, List.getElem_toArray, List.getElem_cons_succ, List.getElem_cons_zero, List.setIfInBounds_toArray, List.set_cons_succ, List.set_cons_zero]
        refine wpAnyC_take (i := 6) (v := ?v6r) rfl (by kernel_rfl) (by kernel_rfl) (by kernel_rfl) ?q6r rfl ?y6r ?r6r; (case q6r => exact fun _ _ _ h => h); (case y6r => ((rintro _ ⟨z, rfl⟩); (go_simp); (try with_reducible rfl))); simp only [Act.put, List.getElem_toArray, List.getElem_cons_succ, List.getElem_cons_zero, List.setIfInBounds_toArray, List.set_cons_succ, List.set_cons_zero]
        refine wpAnyC_take (i := 7) (v := ?v7r) rfl (by kernel_rfl) (by kernel_rfl) (by kernel_rfl) ?q7r rfl ?y7r ?r7r; (case q7r => exact fun _ _ _ h => h); (case y7r => ((rintro _ ⟨z, rfl⟩); (go_simp); (try with_reducible rfl))); simp only [Act.put, List.getElem_toArray, List.getElem_cons_succ, List.getElem_cons_zero, List.setIfInBounds_toArray, List.set_cons_succ, List.set_cons_zero]
        refine wpAnyC_take (i := 8) (v := ?v8r) rfl (by kernel_rfl) (by kernel_rfl) (by kernel_rfl) ?q8r rfl ?y8r ?r8r; (case q8r => exact fun _ _ _ h => h); (case y8r => ((rintro _ ⟨z, rfl⟩); (go_simp); (try with_reducible rfl))); simp only [Act.put, List.getElem_toArray, List.getElem_cons_succ, List.getElem_cons_zero, List.setIfInBounds_toArray, List.set_cons_succ, List.set_cons_zero]
        refine wpAnyC_take (i := 9) (v := ?v9r) rfl (by kernel_rfl) (by kernel_rfl) (by kernel_rfl) ?q9r rfl ?y9r ?r9r; (case q9r => exact fun _ _ _ h => h); (case y9r => ((rintro _ ⟨z, rfl⟩); (go_simp); (try with_reducible rfl))); simp only [Act.put, List.getElem_toArray, List.getElem_cons_succ, List.getElem_cons_zero, List.setIfInBounds_toArray, List.set_cons_succ, List.set_cons_zero]
        refine wpAnyC_take (i := 10) (v := ?v10r) rfl (by kernel_rfl) (by kernel_rfl) (by kernel_rfl) ?q10r rfl ?y10r ?r10r; (case q10r => exact fun _ _ _ h => h); (case y10r => ((rintro _ ⟨z, rfl⟩); (go_simp); (try with_reducible rfl))); simp only [Act.put, List.getElem_toArray, List.getElem_cons_succ, List.getElem_cons_zero, List.setIfInBounds_toArray, List.set_cons_succ, List.set_cons_zero]
        refine wpAnyC_take (i := 11) (v := ?v11r) rfl (by kernel_rfl) (by kernel_rfl) (by kernel_rfl) ?q11r rfl ?y11r ?r11r; (case q11r => exact fun _ _ _ h => h); (case y11r => ((rintro _ ⟨z, rfl⟩); (go_simp); (try with_reducible rfl))); simp only [Act.put, List.getElem_toArray, List.getElem_cons_succ, List.getElem_cons_zero, List.setIfInBounds_toArray, List.set_cons_succ, List.set_cons_zero]
        refine wpAnyC_take (i := 12) (v := ?v12r) rfl (by kernel_rfl) (by kernel_rfl) (by kernel_rfl) ?q12r rfl ?y12r ?r12r; (case q12r => exact fun _ _ _ h => h); (case y12r => ((rintro _ ⟨z, rfl⟩); (go_simp); (try with_reducible rfl))); simp only [Act.put, List.getElem_toArray, List.getElem_cons_succ, List.getElem_cons_zero, List.setIfInBounds_toArray, List.set_cons_succ, List.set_cons_zero]
        refine wpAnyC_take (i := 13) (v := ?v13r) rfl (by kernel_rfl) (by kernel_rfl) (by kernel_rfl) ?q13r rfl ?y13r ?r13r; (case q13r => exact fun _ _ _ h => h); (case y13r => ((rintro _ ⟨z, rfl⟩); (go_simp); (try with_reducible rfl))); simp only [Act.put, List.getElem_toArray, List.getElem_cons_succ, List.getElem_cons_zero, List.setIfInBounds_toArray, List.set_cons_succ, List.set_cons_zero]
        refine wpAnyC_take (i := 14) (v := ?v14r) rfl (by kernel_rfl) (by kernel_rfl) (by kernel_rfl) ?q14r rfl ?y14r ?r14r; (case q14r => exact fun _ _ _ h => h); (case y14r => ((rintro _ ⟨z, rfl⟩); (go_simp); (try with_reducible rfl))); simp only [Act.put, List.getElem_toArray, List.getElem_cons_succ, List.getElem_cons_zero, List.setIfInBounds_toArray, List.set_cons_succ, List.set_cons_zero]
        refine wpAnyC_take (i := 15) (v := ?v15r) rfl (by kernel_rfl) (by kernel_rfl) (by kernel_rfl) ?q15r rfl ?y15r ?r15r; (case q15r => exact fun _ _ _ h => h); (case y15r => ((rintro _ ⟨z, rfl⟩); (go_simp); (try with_reducible rfl))); simp only [Act.put, List.getElem_toArray, List.getElem_cons_succ, List.getElem_cons_zero, List.setIfInBounds_toArray, List.set_cons_succ, List.set_cons_zero]
        refine wpAnyC_take (i := 16) (v := ?v16r) rfl (by kernel_rfl) (by kernel_rfl) (by kernel_rfl) ?q16r rfl ?y16r ?r16r; (case q16r => exact fun _ _ _ h => h); (case y16r => ((rintro _ ⟨z, rfl⟩); (go_simp); (try with_reducible rfl))); simp only [Act.put, List.getElem_toArray, List.getElem_cons_succ, List.getElem_cons_zero, List.setIfInBounds_toArray, List.set_cons_succ, List.set_cons_zero]
        have hdw : wr.grownBy wr.drew (some ga) := grown_below (bl_drew (Below.refl _ _))
        have fA1 := hcA.frozen (k * 2)
        have fA2 := hcA.frozen (k * 2 + 1)
        have fB := hcB.frozen k
        refine wpAnyC_one (i := 17) (by kernel_rfl) rfl ⟨After2.of hdw, rfl⟩ rfl (fun K hK => ?_)
        go_simp
        refine hK _ _ ?_
        clear hK K
        have hq3 := HQ3.out
        have lE : (rotE D f k).cs.length = D.cs.length := mixTo_len (rotL_len _ _) (by omega)
        have lF : (rotE D f k).offs.length = D.offs.length := mixTo_len (rotL_len _ _) (by omega)
        have hT1 := HT.out.cor (k := k) (by omega) lE.symm HZ.out.2.1 (pat D.cs j)
        have hg1 := grown_set2 wr ga k (pat D.cs j)
        change wpAnyC _ _ _ _ _ _ _ (World.drew (set2 wr ga k (pat D.cs j)))
        generalize set2 wr ga k (pat D.cs j) = X1 at *
        have hd1 : Below X1.heap.size X1 X1.drew := bl_drew (Below.refl _ _)
        have o4 := (rowI_ints8 (hT1.below hd1).o.2.1).xi (i := k) (show k < (rotE D f k).offs.length by omega)
        obtain ⟨cuC, hcC⟩ := own_blk8 (hT1.below hd1).o.2.1
        have fC := hcC.frozen k
        have lC := hcC.lt
        rw [Nat.zero_add] at o4
        have HT1 := Lib.hid hT1
        clear o1 o2 o3 x1 x2 x3 fA1 fA2 fB la ya0 ya1 ya2 ya3 ya4 ya5 ya6 ya7 ya8 ya9 ya10 ya11 lp yp0 yp1 yp2 yp3 yp4 yp5 yp6 yp7 yp8 yp9 yp10 yp11 lE lF hT1 hdw
        refine wpAnyC_take (i := 18) (v := ?v18r) rfl (by kernel_rfl) (by kernel_rfl) (by kernel_rfl) ?q18r rfl ?y18r ?r18r; (case q18r => exact fun _ _ _ h => h); (case y18r => ((rintro _ ⟨z, rfl⟩); (go_simp); (try with_reducible rfl))); simp only [Act.put, List.getElem_toArray, List.getElem_cons_succ, List.getElem_cons_zero, List.setIfInBounds_toArray, List.set_cons_succ, List.set_cons_zero]
        refine wpAnyC_one (i := 19) (by kernel_rfl) rfl ⟨After2.of (grown_bl hg1 hd1), rfl⟩ rfl (fun K hK => ?_)
        clear hq3
        go_simp
        refine hK _ _ ?_
        clear hK K
        have hq3 := HQ3.out
        have lE : (rotE D f k).cs.length = D.cs.length := mixTo_len (rotL_len _ _) (by omega)
        have lF : (rotE D f k).offs.length = D.offs.length := mixTo_len (rotL_len _ _) (by omega)
        have hT2 := HT1.out.off (k := k) lF.symm HZ.out.2.2.1 (iat D.offs j)
        have hg2 := grown_cell8 X1 gb k (Value.int .i64 (iat D.offs j))
        have eC : (rotE D f k).cs.set k (pat D.cs j) = mixTo (rotL D.cs f) D.cs (k + 1) := mixTo_succ (rotL_len _ _) hlt (by rw [rotL_at hf hlt, ← HJ.out, pat_get hjl])
        have eO : (rotE D f k).offs.set k (iat D.offs j) = mixTo (rotL D.offs f) D.offs (k + 1) := mixTo_succ (rotL_len _ _) (by omega) (by rw [rotL_at (by omega) (by omega), hq3, ← HJ.out, iat_get (by omega)])
        have hT3 : Tr8 D wn g4 g5 (some ⟨ga, 0, none⟩) a1 (some ⟨gb, 0, none⟩) b1 C1 c1 (some ⟨gc, 0, none⟩) a2 B2 b2 C2 c2 (rotE D f (k + 1)) (swE D k) (X1.setCell ⟨gb, k, none⟩ (Value.int .i64 (iat D.offs j))) := by
          unfold rotE
          rw [← eC, ← eO]
          exact hT2
        have hd2 : Below (X1.setCell ⟨gb, k, none⟩ (Value.int .i64 (iat D.offs j))).heap.size (X1.setCell ⟨gb, k, none⟩ (Value.int .i64 (iat D.offs j))) (X1.setCell ⟨gb, k, none⟩ (Value.int .i64 (iat D.offs j))).drew := bl_drew (Below.refl _ _)
        refine wpAnyC_doneN (by kernel_rfl) ⟨After2.of2 hg1 (grown_bl hg2 hd2), rfl⟩ ?_ _
        replace hT3 := hT3.below hd2
        clear hT2 hg1 hg2 hd1 hd2 HT1 HT eC eO o4 hcC fC lC hcA hcB lE lF
        generalize (X1.setCell ⟨gb, k, none⟩ (Value.int .i64 (iat D.offs j))).drew = X2 at *
        have HT3 := Lib.hid hT3
        have v1 := HV.out.below hT3.low
        (have la := v1.lt); (have ya0 := v1.cell 0); (have ya1 := v1.cell 1); (have ya2 := v1.cell 2); (have ya3 := v1.cell 3); (have ya4 := v1.cell 4); (have ya5 := v1.cell 5); (have ya6 := v1.cell 6); (have ya7 := v1.cell 7); (have ya8 := v1.cell 8); (have ya9 := v1.cell 9); (have ya10 := v1.cell 10); (have ya11 := v1.cell 11); simp only [List.getElem?_toArray, List.getElem?_cons_zero, List.getElem?_cons_succ] at ya0 ya1 ya2 ya3 ya4 ya5 ya6 ya7 ya8 ya9 ya10 ya11
        have h5 := hT3.k5
        (have lp := h5.lt); (have yp0 := h5.cell 0); (have yp1 := h5.cell 1); (have yp2 := h5.cell 2); (have yp3 := h5.cell 3); (have yp4 := h5.cell 4); (have yp5 := h5.cell 5); (have yp6 := h5.cell 6); (have yp7 := h5.cell 7); (have yp8 := h5.cell 8); (have yp9 := h5.cell 9); (have yp10 := h5.cell 10); (have yp11 := h5.cell 11); simp only [List.getElem?_toArray, List.getElem?_cons_zero, List.getElem?_cons_succ] at yp0 yp1 yp2 yp3 yp4 yp5 yp6 yp7 yp8 yp9 yp10 yp11
        have l3 := hT3.p.1
        have lgc := own_lo8 l3
        (have m1 : w.heap.size ≠ gc := by omega); (have m1' : ¬ w.heap.size = gc := m1)
        (have m3 : g5 ≠ gc := fun e => row_box8 l3 h5 (by decide) (by rw [e]; rfl)); (have m3' : ¬ g5 = gc := m3)
        (have m5 : ba ≠ gc := by omega); (have m5' : ¬ ba = gc := m5)
        have pA := PA.out.1.below hT3.low
        have x1 := pA.xp hlt
        have x2 := pA.yp hlt
        have lp1 := pA.lt
        obtain ⟨cuA, hcA⟩ := own_blk8 l3
        have fA1 := hcA.frozen (k * 2)
        have fA2 := hcA.frozen (k * 2 + 1)
        have lcA := hcA.lt
        have lE : (swE D k).cs.length = D.cs.length := mixTo_len (List.length_map _) (by omega)
        have o1 := (rowP_pts8 l3).xp (i := k) (by omega)
        have o2 := (rowP_pts8 l3).yp (i := k) (by omega)
        rw [Nat.zero_add] at o1 o2
        have hdw : X2.grownBy X2.drew (some gc) := grown_below (bl_drew (Below.refl _ _))
        clear hT3 v1 h5 l3 pA hcA lE hq3 j0 j1 j2 j3 i2 n1 n1' n2 n2' n3 n3' n4 n4' n5 n5' n6 n6' n7 n7' n8 n8' lp2
        go_upto_region 9 with fail
        refine wp_region_CN (fun w' => ∃ z : AfterM X2 gc, w' = z.val) (by kernel_rfl) ?_
        change wpAnyC _ _ _ _ _ _ _ (World.drew X2)
        refine wpAnyC_take (i := 0) (v := ?v0s) rfl (by kernel_rfl) (by kernel_rfl) (by kernel_rfl) ?q0s rfl ?y0s ?r0s; (case q0s => exact fun _ _ _ h => h); (case y0s => ((rintro _ ⟨z, rfl⟩); (go_simp); (try with_reducible rfl))); simp only [Act.put, List.getElem_toArray, List.getElem_cons_succ, List.getElem_cons_zero, List.setIfInBounds_toArray, List.set_cons_succ, List.set_cons_zero]
        refine wpAnyC_take (i := 1) (v := ?v1s) rfl (by kernel_rfl) (by kernel_rfl) (by kernel_rfl) ?q1s rfl ?y1s ?r1s; (case q1s => exact fun _ _ _ h => h); (case y1s => ((rintro _ ⟨z, rfl⟩); (go_simp); (try with_reducible rfl))); simp only [Act.put, List.getElem_toArray, List.getElem_cons_succ, List.getElem_cons_zero, List.setIfInBounds_toArray, List.set_cons_succ, List.set_cons_zero]
        refine wpAnyC_take (i := 2) (v := ?v2s) rfl (by kernel_rfl) (by kernel_rfl) (by kernel_rfl) ?q2s rfl ?y2s ?r2s; (case q2s => exact fun _ _ _ h => h); (case y2s => ((rintro _ ⟨z, rfl⟩); (go_simp); (try with_reducible rfl))); simp only [Act.put, List.getElem_toArray, List.getElem_cons_succ, List.getElem_cons_zero, List.setIfInBounds_toArray, List.set_cons_succ, List.set_cons_zero]
        refine wpAnyC_take (i := 3) (v := ?v3s) rfl (by kernel_rfl) (by kernel_rfl) (by kernel_rfl) ?q3s rfl ?y3s ?r3s; (case q3s => exact fun _ _ _ h => h); (case y3s => ((rintro _ ⟨z, rfl⟩); (go_simp); (try with_reducible rfl))); simp only [Act.put, List.getElem_toArray, List.getElem_cons_succ, List.getElem_cons_zero, List.setIfInBounds_toArray, List.set_cons_succ, List.set_cons_zero]
        refine wpAnyC_take (i := 4) (v := ?v4s) rfl (by kernel_rfl) (by kernel_rfl) (by kernel_rfl) ?q4s rfl ?y4s ?r4s; (case q4s => exact fun _ _ _ h => h); (case y4s => ((rintro _ ⟨z, rfl⟩); (go_simp); (try with_reducible rfl))); simp only [Act.put, List.getElem_toArray, List.getElem_cons_succ, List.getElem_cons_zero, List.setIfInBounds_toArray, List.set_cons_succ, List.set_cons_zero]
        refine wpAnyC_take (i := 5) (v := ?v5s) rfl (by kernel_rfl) (by kernel_rfl) (by kernel_rfl) ?q5s rfl ?y5s ?r5s; (case q5s => exact fun _ _ _ h => h); (case y5s => ((rintro _ ⟨z, rfl⟩); (go_simp); (try with_reducible rfl))); simp only [Act.put, List.getElem_toArray, List.getElem_cons_succ, List.getElem_cons_zero, List.setIfInBounds_toArray, List.set_cons_succ, List.set_cons_zero]
        refine wpAnyC_take (i := 6) (v := ?v6s) rfl (by kernel_rfl) (by kernel_rfl) (by kernel_rfl) ?q6s rfl ?y6s ?r6s; (case q6s => exact fun _ _ _ h => h); (case y6s => ((rintro _ ⟨z, rfl⟩); (go_simp); (try with_reducible rfl))); simp only [Act.put, List.getElem_toArray, List.getElem_cons_succ, List.getElem_cons_zero, List.setIfInBounds_toArray, List.set_cons_succ, List.set_cons_zero]
        refine wpAnyC_take (i := 7) (v := ?v7s) rfl (by kernel_rfl) (by kernel_rfl) (by kernel_rfl) ?q7s rfl ?y7s ?r7s; (case q7s => exact fun _ _ _ h => h); (case y7s => ((rintro _ ⟨z, rfl⟩); (go_simp); (try with_reducible rfl))); simp only [Act.put, List.getElem_toArray, List.getElem_cons_succ, List.getElem_cons_zero, List.setIfInBounds_toArray, List.set_cons_succ, List.set_cons_zero]
        refine wpAnyC_take (i := 8) (v := ?v8s) rfl (by kernel_rfl) (by kernel_rfl) (by kernel_rfl) ?q8s rfl ?y8s ?r8s; (case q8s => exact fun _ _ _ h => h); (case y8s => ((rintro _ ⟨z, rfl⟩); (go_simp); (try with_reducible rfl))); simp only [Act.put, List.getElem_toArray, List.getElem_cons_succ, List.getElem_cons_zero, List.setIfInBounds_toArray, List.set_cons_succ, List.set_cons_zero]
        refine wpAnyC_take (i := 9) (v := ?v9s) rfl (by kernel_rfl) (by kernel_rfl) (by kernel_rfl) ?q9s rfl ?y9s ?r9s; (case q9s => exact fun _ _ _ h => h); (case y9s => ((rintro _ ⟨z, rfl⟩); (go_simp); (try with_reducible rfl))); simp only [Act.put, List.getElem_toArray, List.getElem_cons_succ, List.getElem_cons_zero, List.setIfInBounds_toArray, List.set_cons_succ, List.set_cons_zero]
        refine wpAnyC_take (i := 10) (v := ?v10s) rfl (by kernel_rfl) (by kernel_rfl) (by kernel_rfl) ?q10s rfl ?y10s ?r10s; (case q10s => exact fun _ _ _ h => h); (case y10s => ((rintro _ ⟨z, rfl⟩); (go_simp); (try with_reducible rfl))); simp only [Act.put, List.getElem_toArray, List.getElem_cons_succ, List.getElem_cons_zero, List.setIfInBounds_toArray, List.set_cons_succ, List.set_cons_zero]
        refine wpAnyC_take (i := 11) (v := ?v11s) rfl (by kernel_rfl) (by kernel_rfl) (by kernel_rfl) ?q11s rfl ?y11s ?r11s; (case q11s => exact fun _ _ _ h => h); (case y11s => ((rintro _ ⟨z, rfl⟩); (go_simp); (try with_reducible rfl))); simp only [Act.put, List.getElem_toArray, List.getElem_cons_succ, List.getElem_cons_zero, List.setIfInBounds_toArray, List.set_cons_succ, List.set_cons_zero]
        refine wpAnyC_take (i := 12) (v := ?v12s) rfl (by kernel_rfl) (by kernel_rfl) (by kernel_rfl) ?q12s rfl ?y12s ?r12s; (case q12s => exact fun _ _ _ h => h); (case y12s => ((rintro _ ⟨z, rfl⟩); (go_simp); (try with_reducible rfl))); simp only [Act.put, List.getElem_toArray, List.getElem_cons_succ, List.getElem_cons_zero, List.setIfInBounds_toArray, List.set_cons_succ, List.set_cons_zero]
        refine wpAnyC_take (i := 13) (v := ?v13s) rfl (by kernel_rfl) (by kernel_rfl) (by kernel_rfl) ?q13s rfl ?y13s ?r13s; (case q13s => exact fun _ _ _ h => h); (case y13s => ((rintro _ ⟨z, rfl⟩); (go_simp); (try with_reducible rfl))); simp only [Act.put, List.getElem_toArray, List.getElem_cons_succ, List.getElem_cons_zero, List.setIfInBounds_toArray, List.set_cons_succ, List.set_cons_zero]
        refine wpAnyC_take (i := 14) (v := ?v14s) rfl (by kernel_rfl) (by kernel_rfl) (by kernel_rfl) ?q14s rfl ?y14s ?r14s; (case q14s => exact fun _ _ _ h => h); (case y14s => ((rintro _ ⟨z, rfl⟩); (go_simp); (try with_reducible rfl))); simp only [Act.put, List.getElem_toArray, List.getElem_cons_succ, List.getElem_cons_zero, List.setIfInBounds_toArray, List.set_cons_succ, List.set_cons_zero]
        refine wpAnyC_take (i := 15) (v := ?v15s) rfl (by kernel_rfl) (by kernel_rfl) (by kernel_rfl) ?q15s rfl ?y15s ?r15s; (case q15s => exact fun _ _ _ h => h); (case y15s => ((rintro _ ⟨z, rfl⟩); (go_simp); (try with_reducible rfl))); simp only [Act.put, List.getElem_toArray, List.getElem_cons_succ, List.getElem_cons_zero, List.setIfInBounds_toArray, List.set_cons_succ, List.set_cons_zero]
        refine wpAnyC_take (i := 16) (v := ?v16s) rfl (by kernel_rfl) (by kernel_rfl) (by kernel_rfl) ?q16s rfl ?y16s ?r16s; (case q16s => exact fun _ _ _ h => h); (case y16s => ((rintro _ ⟨z, rfl⟩); (go_simp); (try with_reducible rfl))); simp only [Act.put, List.getElem_toArray, List.getElem_cons_succ, List.getElem_cons_zero, List.setIfInBounds_toArray, List.set_cons_succ, List.set_cons_zero]
        refine wpAnyC_one (i := 17) (by kernel_rfl) rfl ⟨⟨_, hdw⟩, rfl⟩ rfl (fun K hK => ?_)
        go_simp
        refine hK _ _ ?_
        clear hK K
        have lE : (swE D k).cs.length = D.cs.length := mixTo_len (List.length_map _) (by omega)
        have hT4 := HT3.out.pcor (k := k) (by omega) lE.symm HZ.out.2.1.symm (swp (pat D.cs k))
        have hg4' := grown_set2 X2 gc k (swp (pat D.cs k))
        change wpAnyC _ _ _ _ _ _ _ (World.drew (set2 X2 gc k (swp (pat D.cs k))))
        have eC : (swE D k).cs.set k (swp (pat D.cs k)) = mixTo (D.cs.map swp) D.cs (k + 1) := mixTo_succ (List.length_map _) hlt (by rw [List.getElem?_map, pat_get hlt]; rfl)
        have hT5 : Tr8 D wn g4 g5 (some ⟨ga, 0, none⟩) a1 (some ⟨gb, 0, none⟩) b1 C1 c1 (some ⟨gc, 0, none⟩) a2 B2 b2 C2 c2 (rotE D f (k + 1)) (swE D (k + 1)) (set2 X2 gc k (swp (pat D.cs k))) := by
          have h := hT4
          rw [eC] at h
          exact h
        generalize set2 X2 gc k (swp (pat D.cs k)) = X3 at *
        have hd3 : Below X3.heap.size X3 X3.drew := bl_drew (Below.refl _ _)
        refine wpAnyC_doneN (by kernel_rfl) ⟨⟨_, grown_bl hg4' hd3⟩, rfl⟩ ?_ _
        have HT5 := Lib.hid (hT5.below hd3)
        clear hT4 hT5 hg4' hd3 eC lE HT3 hdw o1 o2 x1 x2 fA1 fA2 la ya0 ya1 ya2 ya3 ya4 ya5 ya6 ya7 ya8 ya9 ya10 ya11 lp yp0 yp1 yp2 yp3 yp4 yp5 yp6 yp7 yp8 yp9 yp10 yp11
        generalize X3.drew = X4 at *
        go_wp2
        go_roundg (D.cs.length - (k + 1))
        case measure => omega
        case rel => exact ⟨k + 1, by omega, rfl, by go_num, HT5.out⟩
      · obtain rfl : k = D.cs.length := by omega
        have hq3 := HQ3.out
        have e1 : rotE D f D.cs.length = rotW D f 0 := by
          have h1 : mixTo (rotL D.offs f) D.offs D.cs.length = rotL D.offs f := by rw [← hq3]; exact mixTo_full (rotL_len _ _)
          simp only [rotE, rotW, h1, mixTo_full (rotL_len D.cs f), mixTo_zero]
        have e2 : swE D D.cs.length = swD D := by
          have h1 : mixTo (D.cs.map swp) D.cs D.cs.length = D.cs.map swp := mixTo_full (List.length_map _)
          simp only [swE, swD, h1]
        rw [e1, e2] at hT
        clear e1 e2 hq3
        have hT0 := Lib.hid hT
        clear hT
        go_wp2
        have hT := hT0.out
        have v1 := HV.out.below hT.low
        (have la := v1.lt); (have ya0 := v1.cell 0); (have ya1 := v1.cell 1); (have ya2 := v1.cell 2); (have ya3 := v1.cell 3); (have ya4 := v1.cell 4); (have ya5 := v1.cell 5); (have ya6 := v1.cell 6); (have ya7 := v1.cell 7); (have ya8 := v1.cell 8); (have ya9 := v1.cell 9); (have ya10 := v1.cell 10); (have ya11 := v1.cell 11); simp only [List.getElem?_toArray, List.getElem?_cons_zero, List.getElem?_cons_succ] at ya0 ya1 ya2 ya3 ya4 ya5 ya6 ya7 ya8 ya9 ya10 ya11
        clear v1
        go_loopg [11] D.wks.length (fun g i wr => ∃ k : Nat, k ≤ D.wks.length ∧ g = D.wks.length - k ∧ i = (Value.int .i64 ((k : Int))) ∧ Tr8 D wn g4 g5 (some ⟨ga, 0, none⟩) a1 (some ⟨gb, 0, none⟩) b1 C1 c1 (some ⟨gc, 0, none⟩) a2 B2 b2 C2 c2 (rotW D f k) (swD D) wr)
        case atStart => exact ⟨0, by omega, by omega, rfl, hT⟩
        case round =>
          clear hT hT0 la ya0 ya1 ya2 ya3 ya4 ya5 ya6 ya7 ya8 ya9 ya10 ya11
          obtain ⟨k, kn, rfl, rfl, hT⟩ := hrel
          have HT := Lib.hid hT
          have v1 := HV.out.below hT.low
          (have la := v1.lt); (have ya0 := v1.cell 0); (have ya1 := v1.cell 1); (have ya2 := v1.cell 2); (have ya3 := v1.cell 3); (have ya4 := v1.cell 4); (have ya5 := v1.cell 5); (have ya6 := v1.cell 6); (have ya7 := v1.cell 7); (have ya8 := v1.cell 8); (have ya9 := v1.cell 9); (have ya10 := v1.cell 10); (have ya11 := v1.cell 11); simp only [List.getElem?_toArray, List.getElem?_cons_zero, List.getElem?_cons_succ] at ya0 ya1 ya2 ya3 ya4 ya5 ya6 ya7 ya8 ya9 ya10 ya11
          clear v1
          by_cases hlt : k < D.wks.length
          · have lE : (rotW D f k).wks.length = D.wks.length := mixTo_len List.length_reverse (by omega)
            obtain ⟨gd, rfl⟩ := rowW_at8 hT.o.2.2 (show k < (rotW D f k).wks.length by omega)
            obtain ⟨bd, od, rfl, pC0⟩ := (HM.out.2.2.below hbx).at_ hlt
            have h4 := hT.k4
            have l4 := hT.o.2.2
            have lgd := own_lo8 l4
            have lpc := pC0.lt
            have pC := pC0.below hT.low
            obtain ⟨j, hj⟩ : ∃ j, j = D.wks.length - 1 - k := ⟨_, rfl⟩
            have hjl : j < D.wks.length := by omega
            obtain ⟨lx, x1, x2, x3, x4, x5⟩ := wk_cells pC hjl
            (have n1 : w.heap.size ≠ gd := by omega); (have n1' : ¬ w.heap.size = gd := n1)
            (have n3 : g4 ≠ gd := fun e => row_box8 l4 h4 (by decide) (by rw [e]; rfl)); (have n3' : ¬ g4 = gd := n3)
            (have n5 : bd ≠ gd := by omega); (have n5' : ¬ bd = gd := n5)
            (have lp := h4.lt); (have yp0 := h4.cell 0); (have yp1 := h4.cell 1); (have yp2 := h4.cell 2); (have yp3 := h4.cell 3); (have yp4 := h4.cell 4); (have yp5 := h4.cell 5); (have yp6 := h4.cell 6); (have yp7 := h4.cell 7); (have yp8 := h4.cell 8); (have yp9 := h4.cell 9); (have yp10 := h4.cell 10); (have yp11 := h4.cell 11); simp only [List.getElem?_toArray, List.getElem?_cons_zero, List.getElem?_cons_succ] at yp0 yp1 yp2 yp3 yp4 yp5 yp6 yp7 yp8 yp9 yp10 yp11
            obtain ⟨cuA, hcA⟩ := own_blk8 l4
            have fA0 := hcA.frozen (k * 5)
            have fA1 := hcA.frozen (k * 5 + 1)
            have fA2 := hcA.frozen (k * 5 + 2)
            have fA3 := hcA.frozen (k * 5 + 3)
            have fA4 := hcA.frozen (k * 5 + 4)
            have lcA := hcA.lt
            obtain ⟨-, o0, o1, o2, o3, o4⟩ := wk_cells (rowW_wks8 l4) (show k < (rotW D f k).wks.length by omega)
            rw [Nat.zero_add] at o0 o1 o2 o3 o4
            have hdw : wr.grownBy wr.drew (some gd) := grown_below (bl_drew (Below.refl _ _))
            have lm : D.wks.length ≤ 40 := hl.2.2
            have z1 : IntKind.i64.wrap ((D.wks.length : Int) - 1) = (D.wks.length : Int) - 1 := IntWalk.i64_in _ (by omega)
            have z2 : IntKind.i64.wrap ((D.wks.length : Int) - 1 - (k : Int)) = (D.wks.length : Int) - 1 - (k : Int) := IntWalk.i64_in _ (by omega)
            have w1 := wrap64_in (x := (D.wks.length : Int) - 1) (by omega) (by omega)
            have w2 := wrap64_in (x := (D.wks.length : Int) - 1 - (k : Int)) (by omega) (by omega)
            have j0 : 0 ≤ (D.wks.length : Int) - 1 - (k : Int) := by omega
            have j1 : (D.wks.length : Int) - 1 - (k : Int) < (D.wks.length : Int) := by omega
            have j4 : (k : Int) ≤ (D.wks.length : Int) - 1 := by omega
            have j3 : ((D.wks.length : Int) - 1 - (k : Int)).toNat = j := by omega
            have i1 : (k : Int) < (D.wks.length : Int) := by omega
            have HJ := Lib.hid hj
            clear hT hj h4 l4 pC0 pC hcA lE
            go_upto_region 13 with fail
            refine wp_region_CN (fun w' => ∃ z : AfterM wr gd, w' = z.val) (by kernel_rfl) ?_
            change wpAnyC _ _ _ _ _ _ _ (World.drew wr)
            refine wpAnyC_take (i := 0) (v := ?v0t) rfl (by kernel_rfl) (by kernel_rfl) (by kernel_rfl) ?q0t rfl ?y0t ?r0t; (case q0t => exact fun _ _ _ h => h); (case y0t => ((rintro _ ⟨z, rfl⟩); (go_simp); (try with_reducible rfl))); simp only [Act.put, List.getElem_toArray, List.getElem_cons_succ, List.getElem_cons_zero, List.setIfInBounds_toArray, List.set_cons_succ, List.set_cons_zero]
            refine wpAnyC_take (i := 1) (v := ?v1t) rfl (by kernel_rfl) (by kernel_rfl) (by kernel_rfl) ?q1t rfl ?y1t ?r1t; (case q1t => exact fun _ _ _ h => h); (case y1t => ((rintro _ ⟨z, rfl⟩); (go_simp); (try with_reducible rfl))); simp only [Act.put, List.getElem_toArray, List.getElem_cons_succ, List.getElem_cons_zero, List.setIfInBounds_toArray, List.set_cons_succ, List.set_cons_zero]
            refine wpAnyC_take (i := 2) (v := ?v2t) rfl (by kernel_rfl) (by kernel_rfl) (by kernel_rfl) ?q2t rfl ?y2t ?r2t; (case q2t => exact fun _ _ _ h => h); (case y2t => ((rintro _ ⟨z, rfl⟩); (go_simp); (try with_reducible rfl))); simp only [Act.put, List.getElem_toArray, List.getElem_cons_succ, List.getElem_cons_zero, List.setIfInBounds_toArray, List.set_cons_succ, List.set_cons_zero]
            refine wpAnyC_take (i := 3) (v := ?v3t) rfl (by kernel_rfl) (by kernel_rfl) (by kernel_rfl) ?q3t rfl ?y3t ?r3t; (case q3t => exact fun _ _ _ h => h); (case y3t => ((rintro _ ⟨z, rfl⟩); (go_simp); (try with_reducible rfl))); simp only [Act.put, List.getElem_toArray, List.getElem_cons_succ, List.getElem_cons_zero, List.setIfInBounds_toArray, List.set_cons_succ, List.set_cons_zero]
            refine wpAnyC_take (i := 4) (v := ?v4t) rfl (by kernel_rfl) (by kernel_rfl) (by kernel_rfl) ?q4t rfl ?y4t ?r4t; (case q4t => exact fun _ _ _ h => h); (case y4t => ((rintro _ ⟨z, rfl⟩); (go_simp); (try with_reducible rfl))); simp only [Act.put, List.getElem_toArray, List.getElem_cons_succ, List.getElem_cons_zero, List.setIfInBounds_toArray, List.set_cons_succ, List.set_cons_zero]
            refine wpAnyC_take (i := 5) (v := ?v5t) rfl (by kernel_rfl) (by kernel_rfl) (by kernel_rfl) ?q5t rfl ?y5t ?r5t; (case q5t => exact fun _ _ _ h => h); (case y5t => ((rintro _ ⟨z, rfl⟩); (go_simp); (try with_reducible rfl))); simp only [Act.put, List.getElem_toArray, List.getElem_cons_succ, List.getElem_cons_zero, List.setIfInBounds_toArray, List.set_cons_succ, List.set_cons_zero]
            refine wpAnyC_take (i := 6) (v := ?v6t) rfl (by kernel_rfl) (by kernel_rfl) (by kernel_rfl) ?q6t rfl ?y6t ?r6t; (case q6t => exact fun _ _ _ h => h); (case y6t => ((rintro _ ⟨z, rfl⟩); (go_simp); (try with_reducible rfl))); simp only [Act.put, List.getElem_toArray, List.getElem_cons_succ, List.getElem_cons_zero, List.setIfInBounds_toArray, List.set_cons_succ, List.set_cons_zero]
            refine wpAnyC_take (i := 7) (v := ?v7t) rfl (by kernel_rfl) (by kernel_rfl) (by kernel_rfl) ?q7t rfl ?y7t ?r7t; (case q7t => exact fun _ _ _ h => h); (case y7t => ((rintro _ ⟨z, rfl⟩); (go_simp); (try with_reducible rfl))); simp only [Act.put, List.getElem_toArray, List.getElem_cons_succ, List.getElem_cons_zero, List.setIfInBounds_toArray, List.set_cons_succ, List.set_cons_zero]
            refine wpAnyC_take (i := 8) (v := ?v8t) rfl (by kernel_rfl) (by kernel_rfl) (by kernel_rfl) ?q8t rfl ?y8t ?r8t; (case q8t => exact fun _ _ _ h => h); (case y8t => ((rintro _ ⟨z, rfl⟩); (go_simp); (try with_reducible rfl))); simp only [Act.put, List.getElem_toArray, List.getElem_cons_succ, List.getElem_cons_zero, List.setIfInBounds_toArray, List.set_cons_succ, List.set_cons_zero]
            refine wpAnyC_take (i := 9) (v := ?v9t) rfl (by kernel_rfl) (by kernel_rfl) (by kernel_rfl) ?q9t rfl ?y9t ?r9t; (case q9t => exact fun _ _ _ h => h); (case y9t => ((rintro _ ⟨z, rfl⟩); (go_simp); (try with_reducible rfl))); simp only [Act.put, List.getElem_toArray, List.getElem_cons_succ, List.getElem_cons_zero, List.setIfInBounds_toArray, List.set_cons_succ, List.set_cons_zero]
            refine wpAnyC_take (i := 10) (v := ?v10t) rfl (by kernel_rfl) (by kernel_rfl) (by kernel_rfl) ?q10t rfl ?y10t ?r10t; (case q10t => exact fun _ _ _ h => h); (case y10t => ((rintro _ ⟨z, rfl⟩); (go_simp); (try with_reducible rfl))); simp only [Act.put, List.getElem_toArray, List.getElem_cons_succ, List.getElem_cons_zero, List.setIfInBounds_toArray, List.set_cons_succ, List.set_cons_zero]
            refine wpAnyC_take (i := 11) (v := ?v11t) rfl (by kernel_rfl) (by kernel_rfl) (by kernel_rfl) ?q11t rfl ?y11t ?r11t; (case q11t => exact fun _ _ _ h => h); (case y11t => ((rintro _ ⟨z, rfl⟩); (go_simp); (try with_reducible rfl))); simp only [Act.put, List.getElem_toArray, List.getElem_cons_succ, List.getElem_cons_zero, List.setIfInBounds_toArray, List.set_cons_succ, List.set_cons_zero]
            refine wpAnyC_take (i := 12) (v := ?v12t) rfl (by kernel_rfl) (by kernel_rfl) (by kernel_rfl) ?q12t rfl ?y12t ?r12t; (case q12t => exact fun _ _ _ h => h); (case y12t => ((rintro _ ⟨z, rfl⟩); (go_simp); (try with_reducible rfl))); simp only [Act.put, List.getElem_toArray, List.getElem_cons_succ, List.getElem_cons_zero, List.setIfInBounds_toArray, List.set_cons_succ, List.set_cons_zero]
            refine wpAnyC_take (i := 13) (v := ?v13t) rfl (by kernel_rfl) (by kernel_rfl) (by kernel_rfl) ?q13t rfl ?y13t ?r13t; (case q13t => exact fun _ _ _ h => h); (case y13t => ((rintro _ ⟨z, rfl⟩); (go_simp); (try with_reducible rfl))); simp only [Act.put, List.getElem_toArray, List.getElem_cons_succ, List.getElem_cons_zero, List.setIfInBounds_toArray, List.set_cons_succ, List.set_cons_zero]
            refine wpAnyC_one (i := 14) (by kernel_rfl) rfl ⟨⟨_, hdw⟩, rfl⟩ rfl (fun K hK => ?_)
            go_simp
            refine hK _ _ ?_
            clear hK K z1 z2 w1 w2
            have lE : (rotW D f k).wks.length = D.wks.length := mixTo_len List.length_reverse (by omega)
            have hT4 := HT.out.wk (k := k) (by omega) lE.symm HZ.out.2.2.2 (wat D.wks j)
            have hg4' := grown_set5 wr gd k (wat D.wks j)
            change wpAnyC _ _ _ _ _ _ _ (World.drew (set5 wr gd k (wat D.wks j)))
            have eC : (rotW D f k).wks.set k (wat D.wks j) = mixTo D.wks.reverse D.wks (k + 1) := mixTo_succ List.length_reverse hlt (by rw [List.getElem?_reverse hlt, ← HJ.out, wat_get hjl])
            have hT5 : Tr8 D wn g4 g5 (some ⟨ga, 0, none⟩) a1 (some ⟨gb, 0, none⟩) b1 (some ⟨gd, 0, none⟩) c1 (some ⟨gc, 0, none⟩) a2 B2 b2 C2 c2 (rotW D f (k + 1)) (swD D) (set5 wr gd k (wat D.wks j)) := by
              have h := hT4
              rw [eC] at h
              exact h
            generalize set5 wr gd k (wat D.wks j) = X3 at *
            have hd3 : Below X3.heap.size X3 X3.drew := bl_drew (Below.refl _ _)
            refine wpAnyC_doneN (by kernel_rfl) ⟨⟨_, grown_bl hg4' hd3⟩, rfl⟩ ?_ _
            have HT5 := Lib.hid (hT5.below hd3)
            clear hT4 hT5 hg4' hd3 eC lE hdw o0 o1 o2 o3 o4 x1 x2 x3 x4 x5 fA0 fA1 fA2 fA3 fA4 la ya0 ya1 ya2 ya3 ya4 ya5 ya6 ya7 ya8 ya9 ya10 ya11 lp yp0 yp1 yp2 yp3 yp4 yp5 yp6 yp7 yp8 yp9 yp10 yp11 j0 j1 j3 j4
            generalize X3.drew = X4 at *
            go_wp2
            go_roundg (D.wks.length - (k + 1))
            case measure => omega
            case rel => exact ⟨k + 1, by omega, rfl, by go_num, HT5.out⟩
          · obtain rfl : k = D.wks.length := by omega
            have e1 : rotW D f D.wks.length = roD D f := by
              have h1 : mixTo D.wks.reverse D.wks D.wks.length = D.wks.reverse := mixTo_full List.length_reverse
              simp only [rotW, roD, h1]
            rw [e1] at hT
            clear e1
            have hq3 := HQ3.out
            have r1 : (roD D f).cs.length = D.cs.length := rotL_len _ _
            have r2 : (roD D f).offs.length = D.offs.length := rotL_len _ _
            have r3 : (roD D f).wks.length = D.wks.length := List.length_reverse
            have s1 : (swD D).cs.length = D.cs.length := List.length_map _
            obtain ⟨_, _, e1, p1⟩ := hT.o.1.parts
            obtain ⟨_, _, e2, p2⟩ := hT.o.2.1.parts
            obtain ⟨_, _, e3, p3⟩ := RowR.parts8 hT.o.2.2
            obtain ⟨_, _, e4, p4⟩ := hT.p.1.parts
            obtain ⟨_, _, e5, p5⟩ := hT.p.2.1.parts
            obtain ⟨_, _, e6, p6⟩ := RowR.parts8 hT.p.2.2
            simp only [Value.slice.injEq] at e1 e2 e3 e4 e5 e6
            obtain ⟨rfl, -, -⟩ := e1
            obtain ⟨rfl, -, -⟩ := e2
            obtain ⟨rfl, -, -⟩ := e3
            obtain ⟨rfl, -, -⟩ := e4
            obtain ⟨rfl, -, -⟩ := e5
            obtain ⟨rfl, -, -⟩ := e6
            have k4 : Blk wr g4 30 #[.slice (some ⟨ga, 0, none⟩) (roD D f).cs.length a1, .slice (some ⟨gb, 0, none⟩) (roD D f).offs.length b1, (Value.int .i64 ((roD D f).unit)), (Value.int .i64 ((roD D f).wh.full)), (Value.int .i64 ((roD D f).wh.read)), (Value.int .i64 ((roD D f).wh.slip)), (Value.int .i64 ((roD D f).wh.skew)), (Value.int .i64 ((roD D f).wh.circle)), (Value.int .i64 ((roD D f).wh.glo)), (Value.int .i64 ((roD D f).wh.ghi)), (Value.int .i64 ((roD D f).wh.wrong)), .slice C1 (roD D f).wks.length c1] := by
              rw [r1, r2, r3]
              exact hT.k4
            have k5 : Blk wr g5 30 #[.slice (some ⟨gc, 0, none⟩) (swD D).cs.length a2, .slice B2 (swD D).offs.length b2, (Value.int .i64 ((swD D).unit)), (Value.int .i64 ((swD D).wh.full)), (Value.int .i64 ((swD D).wh.read)), (Value.int .i64 ((swD D).wh.slip)), (Value.int .i64 ((swD D).wh.skew)), (Value.int .i64 ((swD D).wh.circle)), (Value.int .i64 ((swD D).wh.glo)), (Value.int .i64 ((swD D).wh.ghi)), (Value.int .i64 ((swD D).wh.wrong)), .slice C2 (swD D).wks.length c2] := by
              rw [s1]
              exact hT.k5
            have hbX := bl_call hbx hT.low
            have hlen : (arV D n).length ≤ 1000000 := by
              have h1 := arL_len D HD.out.2 n
              unfold arV
              split
              · omega
              · simp
            have hA1 := Lib.hid fun (W : World) (h : Below wr.heap.size wr W) => alike8_any (some ⟨ba, oa, none⟩) (some ⟨bb, ob, none⟩) C (some ⟨ga, 0, none⟩) (some ⟨gb, 0, none⟩) C1 ca cb cc a1 b1 c1 D (roD D f) W (HM.out.1.below (bl_call hbX h)) (HM.out.2.1.below (bl_call hbX h)) (HM.out.2.2.below (bl_call hbX h)) (p1.below h) (p2.below h) (p3.below h) n (same_roD HD.out.1 hf) hlen
            have hA2 := Lib.hid fun (W : World) (h : Below wr.heap.size wr W) => alike8_any (some ⟨ba, oa, none⟩) (some ⟨bb, ob, none⟩) C (some ⟨gc, 0, none⟩) B2 C2 ca cb cc a2 b2 c2 D (swD D) W (HM.out.1.below (bl_call hbX h)) (HM.out.2.1.below (bl_call hbX h)) (HM.out.2.2.below (bl_call hbX h)) (p4.below h) (p5.below h) (p6.below h) n (same_swD HD.out.1) hlen
            have hwo := Lib.hid hbX
            clear hT hq3 r1 r2 r3 s1 p1 p2 p3 p4 p5 p6 hlen hbX hbx HT HV HM PA
            (have lp := k4.lt); (have yp0 := k4.cell 0); (have yp1 := k4.cell 1); (have yp2 := k4.cell 2); (have yp3 := k4.cell 3); (have yp4 := k4.cell 4); (have yp5 := k4.cell 5); (have yp6 := k4.cell 6); (have yp7 := k4.cell 7); (have yp8 := k4.cell 8); (have yp9 := k4.cell 9); (have yp10 := k4.cell 10); (have yp11 := k4.cell 11); simp only [List.getElem?_toArray, List.getElem?_cons_zero, List.getElem?_cons_succ] at yp0 yp1 yp2 yp3 yp4 yp5 yp6 yp7 yp8 yp9 yp10 yp11
            (have lq := k5.lt); (have yq0 := k5.cell 0); (have yq1 := k5.cell 1); (have yq2 := k5.cell 2); (have yq3 := k5.cell 3); (have yq4 := k5.cell 4); (have yq5 := k5.cell 5); (have yq6 := k5.cell 6); (have yq7 := k5.cell 7); (have yq8 := k5.cell 8); (have yq9 := k5.cell 9); (have yq10 := k5.cell 10); (have yq11 := k5.cell 11); simp only [List.getElem?_toArray, List.getElem?_cons_zero, List.getElem?_cons_succ] at yq0 yq1 yq2 yq3 yq4 yq5 yq6 yq7 yq8 yq9 yq10 yq11
            clear k4 k5
            go_wp2_with (first | ((go_at_call 18); (with_reducible refine Calls.mono (hA1.out _ (by (repeat (first | with_reducible exact Below.refl _ _ | with_reducible apply bl_alloc | with_reducible apply bl_drew | with_reducible apply bl_after | (with_reducible refine bl_call ?_ (by assumption)))))) ?_); rintro e wn ⟨rfl, hbn⟩; first | ((with_reducible apply kp_in_step (hb := hbn)); (with_reducible assumption); rintro ⟨hk, hc, hf, hzc, hzf⟩) | ((with_reducible refine kp_in_first hbn ?_); rintro ⟨hk, hc, hf, hzc, hzf⟩)) | ((go_at_call 18); (with_reducible refine Calls.mono (hA2.out _ (by (repeat (first | with_reducible exact Below.refl _ _ | with_reducible apply bl_alloc | with_reducible apply bl_drew | with_reducible apply bl_after | (with_reducible refine bl_call ?_ (by assumption)))))) ?_); rintro e wn ⟨rfl, hbn⟩; first | ((with_reducible apply kp_in_step (hb := hbn)); (with_reducible assumption); rintro ⟨hk, hc, hf, hzc, hzf⟩) | ((with_reducible refine kp_in_first hbn ?_); rintro ⟨hk, hc, hf, hzc, hzf⟩)) | ((go_at_call 8); (with_reducible refine Calls.mono (works8_any _) ?_); rintro e wn ⟨rfl, hbn⟩; first | ((with_reducible apply kp_in_step (hb := hbn)); (with_reducible assumption); rintro ⟨hk, hc, hf, hzc, hzf⟩) | ((with_reducible refine kp_in_first hbn ?_); rintro ⟨hk, hc, hf, hzc, hzf⟩)))
            go_ret
            exact ⟨rfl, bl_call hwo.out (by (repeat (first | with_reducible exact Below.refl _ _ | with_reducible apply bl_alloc | with_reducible apply bl_drew | with_reducible apply bl_after | (with_reducible refine bl_call ?_ (by assumption)))))⟩
set_option maxRecDepth 100000 in
set_option maxHeartbeats 4000000 in
theorem lawTurned8_no (f n : Int) (h0 : rdyB D = false ∨ (rdyB D = true ∧ (f < 0 ∨ (D.cs.length : Int) ≤ f))) :
    Calls Try.prog 6 #[(Value.agg #[.slice A D.cs.length ca, .slice B D.offs.length cb, (Value.int .i64 (D.unit)), (Value.int .i64 (D.wh.full)), (Value.int .i64 (D.wh.read)), (Value.int .i64 (D.wh.slip)), (Value.int .i64 (D.wh.skew)), (Value.int .i64 (D.wh.circle)), (Value.int .i64 (D.wh.glo)), (Value.int .i64 (D.wh.ghi)), (Value.int .i64 (D.wh.wrong)), .slice C D.wks.length cc]), (Value.int .i64 (f)), (Value.int .i64 (n))] w fun e w' => e = .returned (.bool true) ∧ Below w.heap.size w w' := by
  have e0 : Blk (w.alloc (.cells #[.slice A D.cs.length ca, .slice B D.offs.length cb, (Value.int .i64 (D.unit)), (Value.int .i64 (D.wh.full)), (Value.int .i64 (D.wh.read)), (Value.int .i64 (D.wh.slip)), (Value.int .i64 (D.wh.skew)), (Value.int .i64 (D.wh.circle)), (Value.int .i64 (D.wh.glo)), (Value.int .i64 (D.wh.ghi)), (Value.int .i64 (D.wh.wrong)), .slice C D.wks.length cc] 30)) w.heap.size 30 #[.slice A D.cs.length ca, .slice B D.offs.length cb, (Value.int .i64 (D.unit)), (Value.int .i64 (D.wh.full)), (Value.int .i64 (D.wh.read)), (Value.int .i64 (D.wh.slip)), (Value.int .i64 (D.wh.skew)), (Value.int .i64 (D.wh.circle)), (Value.int .i64 (D.wh.glo)), (Value.int .i64 (D.wh.ghi)), (Value.int .i64 (D.wh.wrong)), .slice C D.wks.length cc] := Blk.new _ _ _
  have hR := fun (W : World) (h : Below w.heap.size w W) => ready8_any A B C ca cb cc D W (ha.below h) (hb.below h) (hc.below h)
  (have la := e0.lt); (have ya0 := e0.cell 0); (have ya1 := e0.cell 1); (have ya2 := e0.cell 2); (have ya3 := e0.cell 3); (have ya4 := e0.cell 4); (have ya5 := e0.cell 5); (have ya6 := e0.cell 6); (have ya7 := e0.cell 7); (have ya8 := e0.cell 8); (have ya9 := e0.cell 9); (have ya10 := e0.cell 10); (have ya11 := e0.cell 11); simp only [List.getElem?_toArray, List.getElem?_cons_zero, List.getElem?_cons_succ] at ya0 ya1 ya2 ya3 ya4 ya5 ya6 ya7 ya8 ya9 ya10 ya11
  clear ha hb hc
  rcases h0 with hr | ⟨hr, h0⟩
  · rw [hr] at hR
    replace hR := Lib.hid hR
    go_enter Try.func6, Try.ntmps6
    go_wp2_with (first | ((go_at_call 7); (with_reducible refine Calls.mono (hR.out _ (by (repeat (first | with_reducible exact Below.refl _ _ | with_reducible apply bl_alloc | with_reducible apply bl_drew | with_reducible apply bl_after | (with_reducible refine bl_call ?_ (by assumption)))))) ?_); rintro e wn ⟨rfl, hbn⟩; first | ((with_reducible apply kp_in_step (hb := hbn)); (with_reducible assumption); rintro ⟨hk, hc, hf, hzc, hzf⟩) | ((with_reducible refine kp_in_first hbn ?_); rintro ⟨hk, hc, hf, hzc, hzf⟩)) | ((go_at_call 8); (with_reducible refine Calls.mono (works8_any _) ?_); rintro e wn ⟨rfl, hbn⟩; first | ((with_reducible apply kp_in_step (hb := hbn)); (with_reducible assumption); rintro ⟨hk, hc, hf, hzc, hzf⟩) | ((with_reducible refine kp_in_first hbn ?_); rintro ⟨hk, hc, hf, hzc, hzf⟩)))
    go_ret
    exact ⟨rfl, by (repeat (first | with_reducible exact Below.refl _ _ | with_reducible apply bl_alloc | with_reducible apply bl_drew | with_reducible apply bl_after | (with_reducible refine bl_call ?_ (by assumption))))⟩
  · rw [hr] at hR
    replace hR := Lib.hid hR
    by_cases q1 : f < 0
    · go_enter Try.func6, Try.ntmps6
      go_wp2_with (first | ((go_at_call 7); (with_reducible refine Calls.mono (hR.out _ (by (repeat (first | with_reducible exact Below.refl _ _ | with_reducible apply bl_alloc | with_reducible apply bl_drew | with_reducible apply bl_after | (with_reducible refine bl_call ?_ (by assumption)))))) ?_); rintro e wn ⟨rfl, hbn⟩; first | ((with_reducible apply kp_in_step (hb := hbn)); (with_reducible assumption); rintro ⟨hk, hc, hf, hzc, hzf⟩) | ((with_reducible refine kp_in_first hbn ?_); rintro ⟨hk, hc, hf, hzc, hzf⟩)) | ((go_at_call 8); (with_reducible refine Calls.mono (works8_any _) ?_); rintro e wn ⟨rfl, hbn⟩; first | ((with_reducible apply kp_in_step (hb := hbn)); (with_reducible assumption); rintro ⟨hk, hc, hf, hzc, hzf⟩) | ((with_reducible refine kp_in_first hbn ?_); rintro ⟨hk, hc, hf, hzc, hzf⟩)))
      go_ret
      exact ⟨rfl, by (repeat (first | with_reducible exact Below.refl _ _ | with_reducible apply bl_alloc | with_reducible apply bl_drew | with_reducible apply bl_after | (with_reducible refine bl_call ?_ (by assumption))))⟩
    have q2 : (D.cs.length : Int) ≤ f := by omega
    go_enter Try.func6, Try.ntmps6
    go_wp2_with (first | ((go_at_call 7); (with_reducible refine Calls.mono (hR.out _ (by (repeat (first | with_reducible exact Below.refl _ _ | with_reducible apply bl_alloc | with_reducible apply bl_drew | with_reducible apply bl_after | (with_reducible refine bl_call ?_ (by assumption)))))) ?_); rintro e wn ⟨rfl, hbn⟩; first | ((with_reducible apply kp_in_step (hb := hbn)); (with_reducible assumption); rintro ⟨hk, hc, hf, hzc, hzf⟩) | ((with_reducible refine kp_in_first hbn ?_); rintro ⟨hk, hc, hf, hzc, hzf⟩)) | ((go_at_call 8); (with_reducible refine Calls.mono (works8_any _) ?_); rintro e wn ⟨rfl, hbn⟩; first | ((with_reducible apply kp_in_step (hb := hbn)); (with_reducible assumption); rintro ⟨hk, hc, hf, hzc, hzf⟩) | ((with_reducible refine kp_in_first hbn ?_); rintro ⟨hk, hc, hf, hzc, hzf⟩)))
    go_ret
    exact ⟨rfl, by (repeat (first | with_reducible exact Below.refl _ _ | with_reducible apply bl_alloc | with_reducible apply bl_drew | with_reducible apply bl_after | (with_reducible refine bl_call ?_ (by assumption))))⟩
theorem lawTurned8_any (f n : Int) :
    Calls Try.prog 6 #[(Value.agg #[.slice A D.cs.length ca, .slice B D.offs.length cb, (Value.int .i64 (D.unit)), (Value.int .i64 (D.wh.full)), (Value.int .i64 (D.wh.read)), (Value.int .i64 (D.wh.slip)), (Value.int .i64 (D.wh.skew)), (Value.int .i64 (D.wh.circle)), (Value.int .i64 (D.wh.glo)), (Value.int .i64 (D.wh.ghi)), (Value.int .i64 (D.wh.wrong)), .slice C D.wks.length cc]), (Value.int .i64 (f)), (Value.int .i64 (n))] w fun e w' => e = .returned (.bool true) ∧ Below w.heap.size w w' := by
  cases hr : rdyB D
  · exact lawTurned8_no A B C ca cb cc D w ha hb hc f n (.inl hr)
  · by_cases h : f < 0 ∨ (D.cs.length : Int) ≤ f
    · exact lawTurned8_no A B C ca cb cc D w ha hb hc f n (.inr ⟨hr, h⟩)
    · obtain ⟨k, rfl⟩ := Int.eq_ofNat_of_zero_le (show 0 ≤ f by omega)
      exact lawTurned8_ok A B C ca cb cc D w ha hb hc k n hr (by omega)
end
section
open Go.ChangeAt
set_option maxRecDepth 100000 in
theorem discordTurned_lifted (os : Os) (started : os.Started) (H : Type) (enc : TypeId × Value → H) :
    ReturnsInHanded {} Try.checked os 6 .any (Rows.discordTurnedSpec.pre6 enc Try.prog Try.f6 Rows.discordTurnedRow.domain false) (Rows.discordTurnedSpec.post enc Try.prog Try.f6 false true false false) := by
  refine returnsInHanded_of_change (C := Try.checked) own_knob started (by kernel_rfl) Try.func6
    (ChangeSpec.witness6 (enc := enc) (C := Try.checked) false ⟨#[], #[.agg #[.slice none 0 0, .slice none 0 0, .int .i64 0, .int .i64 0, .int .i64 0, .int .i64 0, .int .i64 0, .int .i64 0, .int .i64 0, .int .i64 0, .int .i64 0, .slice none 0 0], .int .i64 0, .int .i64 0], []⟩ 8 (by kernel_rfl) (by kernel_rfl) (by kernel_rfl) (by kernel_rfl)) ?_
  intro W base args ds gs before hval0 hW hcnd _
  have hval : ∀ (j : Nat) t v, Try.f6.params[j]? = some t → args[j]? = some v → Value.okWide Try.prog W .any base t v := hval0
  have hW2 := hW
  obtain ⟨p, q, hA0, hV, rfl, hfz, hnd⟩ := hW
  have hA : DataW.TrodAll enc Try.prog W 0 (fun _ => true) true Try.f6.params.toList args.toList ds p := hA0
  rw [Try.params6] at hA hval
  obtain ⟨v0, v1, v2, d0, d1, d2, p0, p1, p2, rfl, rfl, rfl, h0, h1, h2⟩ := trodAll_three hA; obtain ⟨A, B, C, ca, cb, cc, D, rfl, hP0, hP1, hP2, hl0, hl1, hl2⟩ := open_dispute (hval 0 _ _ rfl rfl) h0; obtain ⟨f, rfl, rfl, rfl, hnum⟩ := open_int und_int (hval 1 _ _ rfl rfl) h1; obtain ⟨n, rfl, rfl, rfl, hnum2⟩ := open_int und_int (hval 2 _ _ rfl rfl) h2
  obtain ⟨rfl, rfl⟩ := trodVars_none hV
  clear hA0 hval0
  simp only [List.append_nil, List.nil_append] at hW2
  (try simp only [List.append_nil, List.nil_append] at hA)
  refine (lawTurned8_any A B C ca cb cc D W hP0 hP1 hP2 f n).mono fun e W2 ⟨he, hb⟩ => ?_
  subst he
  refine ⟨_, rfl, post_of_below (pa := _) (pv := []) hW2 (fun _ _ _ => trodAll_mk1 (shut_bool und_bool _)) (fun sp hs => args_stay hb (by rw [Try.params6]; intro t ht; simp at ht; (try rcases ht with rfl | rfl | rfl) <;> (try rcases ht with rfl | rfl) <;> (try subst ht) <;> exact ⟨by kernel_rfl, by decide +kernel⟩) (by rw [Try.params6]; exact hA) hs) (fun _ _ => rfl) (by simp) hb (ok_one (by kernel_rfl) rfl (okWide_bool_mk und_bool _))⟩

theorem discordTurned_holds : Rows.DiscordTurnedSaid :=
  OpenClaim.holds_of_wide 6 Try.f6 rfl rfl rfl rfl rfl rfl rfl ⟨rfl, rfl, rfl, rfl, rfl⟩ rfl rfl rfl rfl rfl (by kernel_rfl) Try.func6 (by kernel_rfl)
    (of_decide_eq_true (by kernel_rfl)) (by unfold Func.isWrapper; first | (rw [if_pos (by decide +kernel)]; kernel_rfl) | (rw [if_neg (by decide +kernel)]; exact ⟨rfl, rfl⟩))
    (fun os started H enc _ => discordTurned_lifted os started H enc)
end
end Go.Proofs.Ythijegacjboclaa
