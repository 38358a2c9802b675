/- The law DiscordMore answers true for any dispute, walk, corner and number of faults. -/
import Derived.Test.YthijegacjboclaaPm8
import Derived.Test.YthijegacjboclaaCq8
import Derived.Test.YthijegacjboclaaMo8n
import Derived.Test.YthijegacjboclaaRows
namespace Go.Proofs.Ythijegacjboclaa
open Go.ChangeShapes Go.WideShapes Go.RowKit
attribute [local go_sem] After.cell After.frozen

theorem kn0 : knE 0 = true := rfl
theorem kn3 : knE 3 = true := rfl
theorem wkOne8 (x : Wk) : ∀ u ∈ (wkE x).map (fun n => (Value.int .i64 (n))), u.oneCell' = true := fun u hu => by
  obtain ⟨n, _, rfl⟩ := List.mem_map.1 hu
  rfl
section
variable (A B C : Option Addr) (ca cb cc : Nat) (D : Dsp) (w : World) (ha : Pts w A D.cs) (hb : Ints w B D.offs) (hc : Wks w C D.wks)
include ha hb hc
set_option maxRecDepth 100000 in
set_option maxHeartbeats 8000000 in
theorem lawMore8_ok (x : Wk) (k : Nat) (o f : Int) (hr : rdyB D = true) (hk : k < D.cs.length) (o0 : 0 ≤ o) (o2 : o ≤ 2) (f0 : 0 ≤ f) (f14 : f ≤ 14) :
    Calls Try.prog 3 #[(Value.agg #[.slice A D.cs.length ca, .slice B D.offs.length cb, (Value.int .i64 (D.unit)), (Value.int .i64 (D.wh.full)), (Value.int .i64 (D.wh.read)), (Value.int .i64 (D.wh.slip)), (Value.int .i64 (D.wh.skew)), (Value.int .i64 (D.wh.circle)), (Value.int .i64 (D.wh.glo)), (Value.int .i64 (D.wh.ghi)), (Value.int .i64 (D.wh.wrong)), .slice C D.wks.length cc]), .agg #[(Value.int .i64 (x.sense)), (Value.int .i64 (x.side)), (Value.int .i64 (x.inside)), (Value.int .i64 (x.start)), (Value.int .i64 (x.fin)), (Value.int .i64 ((k : Int))), (Value.int .i64 (o)), (Value.int .i64 (f))]] w fun e w' => e = .returned (.bool true) ∧ Below w.heap.size w w' := by
  have e0 : Blk ((w.alloc (.cells #[.slice A D.cs.length ca, .slice B D.offs.length cb, (Value.int .i64 (D.unit)), (Value.int .i64 (D.wh.full)), (Value.int .i64 (D.wh.read)), (Value.int .i64 (D.wh.slip)), (Value.int .i64 (D.wh.skew)), (Value.int .i64 (D.wh.circle)), (Value.int .i64 (D.wh.glo)), (Value.int .i64 (D.wh.ghi)), (Value.int .i64 (D.wh.wrong)), .slice C D.wks.length cc] 30)).alloc (.cells #[(Value.int .i64 (x.sense)), (Value.int .i64 (x.side)), (Value.int .i64 (x.inside)), (Value.int .i64 (x.start)), (Value.int .i64 (x.fin)), (Value.int .i64 ((k : Int))), (Value.int .i64 (o)), (Value.int .i64 (f))] 34)) w.heap.size 30 #[.slice A D.cs.length ca, .slice B D.offs.length cb, (Value.int .i64 (D.unit)), (Value.int .i64 (D.wh.full)), (Value.int .i64 (D.wh.read)), (Value.int .i64 (D.wh.slip)), (Value.int .i64 (D.wh.skew)), (Value.int .i64 (D.wh.circle)), (Value.int .i64 (D.wh.glo)), (Value.int .i64 (D.wh.ghi)), (Value.int .i64 (D.wh.wrong)), .slice C D.wks.length cc] := (Blk.new _ _ _).alloc _
  have e1 : Blk ((w.alloc (.cells #[.slice A D.cs.length ca, .slice B D.offs.length cb, (Value.int .i64 (D.unit)), (Value.int .i64 (D.wh.full)), (Value.int .i64 (D.wh.read)), (Value.int .i64 (D.wh.slip)), (Value.int .i64 (D.wh.skew)), (Value.int .i64 (D.wh.circle)), (Value.int .i64 (D.wh.glo)), (Value.int .i64 (D.wh.ghi)), (Value.int .i64 (D.wh.wrong)), .slice C D.wks.length cc] 30)).alloc (.cells #[(Value.int .i64 (x.sense)), (Value.int .i64 (x.side)), (Value.int .i64 (x.inside)), (Value.int .i64 (x.start)), (Value.int .i64 (x.fin)), (Value.int .i64 ((k : Int))), (Value.int .i64 (o)), (Value.int .i64 (f))] 34)) (w.heap.size + 1) 34 #[(Value.int .i64 (x.sense)), (Value.int .i64 (x.side)), (Value.int .i64 (x.inside)), (Value.int .i64 (x.start)), (Value.int .i64 (x.fin)), (Value.int .i64 ((k : Int))), (Value.int .i64 (o)), (Value.int .i64 (f))] := blk_new_at (by simp)
  have hR := fun (W : World) (h : Below w.heap.size w W) => ready8_any A B C ca cb cc D W (ha.below h) (hb.below h) (hc.below h)
  obtain ⟨hD, hg, hl⟩ := rdy_ok hr
  rw [hr] at hR
  replace hR := Lib.hid hR
  have hF := fun (W : World) (h : Below w.heap.size w W) => Fewest_any8 A B C ca cb cc D W (ha.below h) (hb.below h) (hc.below h)
  replace hF := Lib.hid hF
  have hC := Lib.hid fun (W : World) (h : Below w.heap.size w W) => rCopy8 A B C ca cb cc D W (ha.below h) (hb.below h) (hc.below h) (by omega) (by omega) (by omega)
  have hA := Lib.hid fun (W : World) (h : Below w.heap.size w W) => Areas_any8 A B C ca cb cc D f W (ha.below h) (hb.below h) (hc.below h)
  have hK := Lib.hid isKnown8_any
  have e0' := Lib.hid e0
  have e1' := Lib.hid e1
  have hD' := Lib.hid (And.intro hD hg)
  have hkl : decide (D.cs.length ≤ k) = false := by simp; omega
  have hfw : (lsE D (fwO D) = 0 ∨ lsE D (fwO D) = 3) ∧ ¬ lsV D (fwO D) < 0 ∧ ¬ 100 < lsV D (fwO D) := by
    rcases fw_cases hD with ⟨h1, h2, -⟩ | ⟨t, -, h1, h2, h3⟩
    · exact ⟨.inr h1, by omega, by omega⟩
    · exact ⟨.inl h1, by omega, by omega⟩
  obtain ⟨hE, hV0, hV1⟩ := hfw
  have hE' := Lib.hid hE
  have hkn : knE (lsE D (fwO D)) = true := by rcases hE with h | h <;> rw [h] <;> rfl
  clear ha hb hc hr hD hg hE
  obtain ⟨n, hn⟩ : ∃ n, n = lsV D (fwO D) := ⟨_, rfl⟩
  obtain ⟨e, he⟩ : ∃ e, e = lsE D (fwO D) := ⟨_, rfl⟩
  rw [← hn, ← he] at hF
  rw [← hn] at hV0 hV1
  rw [← he] at hkn
  have HN := Lib.hid (And.intro hn he)
  clear hn he
  (have la := e0.lt); (have ya0 := e0.cell 0); (have ya1 := e0.cell 1); (have ya2 := e0.cell 2); (have ya3 := e0.cell 3); (have ya4 := e0.cell 4); (have ya5 := e0.cell 5); (have ya6 := e0.cell 6); (have ya7 := e0.cell 7); (have ya8 := e0.cell 8); (have ya9 := e0.cell 9); (have ya10 := e0.cell 10); (have ya11 := e0.cell 11); simp only [List.getElem?_toArray, List.getElem?_cons_zero, List.getElem?_cons_succ] at ya0 ya1 ya2 ya3 ya4 ya5 ya6 ya7 ya8 ya9 ya10 ya11
  (have lb := e1.lt); (have yb0 := e1.cell 0); (have yb1 := e1.cell 1); (have yb2 := e1.cell 2); (have yb3 := e1.cell 3); (have yb4 := e1.cell 4); (have yb5 := e1.cell 5); (have yb6 := e1.cell 6); (have yb7 := e1.cell 7); simp only [List.getElem?_toArray, List.getElem?_cons_zero, List.getElem?_cons_succ] at yb0 yb1 yb2 yb3 yb4 yb5 yb6 yb7
  go_enter Try.func3, Try.ntmps3
  go_upto_region 6 with (first | ((go_at_call 7); (with_reducible refine Calls.mono (hR.out _ (by (repeat (first | with_reducible exact Below.refl _ _ | with_reducible apply bl_alloc | with_reducible apply bl_drew | with_reducible apply bl_after | (with_reducible refine bl_call ?_ (by assumption)))))) ?_); rintro e wn ⟨rfl, hbn⟩; first | ((with_reducible apply kp_in_step (hb := hbn)); (with_reducible assumption); rintro ⟨hk, hc, hf, hzc, hzf⟩) | ((with_reducible refine kp_in_first hbn ?_); rintro ⟨hk, hc, hf, hzc, hzf⟩)) | ((go_at_call 9); (with_reducible refine Calls.mono (hF.out _ (by (repeat (first | with_reducible exact Below.refl _ _ | with_reducible apply bl_alloc | with_reducible apply bl_drew | with_reducible apply bl_after | (with_reducible refine bl_call ?_ (by assumption)))))) ?_); rintro e wn ⟨rfl, hbn⟩; first | ((with_reducible apply kp_in_step (hb := hbn)); (with_reducible assumption); rintro ⟨hk, hc, hf, hzc, hzf⟩) | ((with_reducible refine kp_in_first hbn ?_); rintro ⟨hk, hc, hf, hzc, hzf⟩)) | ((go_at_call 10); (with_reducible refine Calls.mono (hK.out _ _) ?_); rintro e w' ⟨rfl, rfl⟩; simp only [hkn]) | ((go_at_call 8); (with_reducible refine Calls.mono (works8_any _) ?_); rintro e wn ⟨rfl, hbn⟩; first | ((with_reducible apply kp_in_step (hb := hbn)); (with_reducible assumption); rintro ⟨hk, hc, hf, hzc, hzf⟩) | ((with_reducible refine kp_in_first hbn ?_); rintro ⟨hk, hc, hf, hzc, hzf⟩)))
  have hB1 : Below (((w.alloc (.cells #[.slice A D.cs.length ca, .slice B D.offs.length cb, (Value.int .i64 (D.unit)), (Value.int .i64 (D.wh.full)), (Value.int .i64 (D.wh.read)), (Value.int .i64 (D.wh.slip)), (Value.int .i64 (D.wh.skew)), (Value.int .i64 (D.wh.circle)), (Value.int .i64 (D.wh.glo)), (Value.int .i64 (D.wh.ghi)), (Value.int .i64 (D.wh.wrong)), .slice C D.wks.length cc] 30)).alloc (.cells #[(Value.int .i64 (x.sense)), (Value.int .i64 (x.side)), (Value.int .i64 (x.inside)), (Value.int .i64 (x.start)), (Value.int .i64 (x.fin)), (Value.int .i64 ((k : Int))), (Value.int .i64 (o)), (Value.int .i64 (f))] 34))).heap.size ((w.alloc (.cells #[.slice A D.cs.length ca, .slice B D.offs.length cb, (Value.int .i64 (D.unit)), (Value.int .i64 (D.wh.full)), (Value.int .i64 (D.wh.read)), (Value.int .i64 (D.wh.slip)), (Value.int .i64 (D.wh.skew)), (Value.int .i64 (D.wh.circle)), (Value.int .i64 (D.wh.glo)), (Value.int .i64 (D.wh.ghi)), (Value.int .i64 (D.wh.wrong)), .slice C D.wks.length cc] 30)).alloc (.cells #[(Value.int .i64 (x.sense)), (Value.int .i64 (x.side)), (Value.int .i64 (x.inside)), (Value.int .i64 (x.start)), (Value.int .i64 (x.fin)), (Value.int .i64 ((k : Int))), (Value.int .i64 (o)), (Value.int .i64 (f))] 34)) wn := by (repeat (first | with_reducible exact Below.refl _ _ | with_reducible apply bl_alloc | with_reducible apply bl_drew | with_reducible apply bl_after | (with_reducible refine bl_call ?_ (by assumption))))
  have hbx : Below w.heap.size w wn := bl_call (by (repeat (first | with_reducible exact Below.refl _ _ | with_reducible apply bl_alloc | with_reducible apply bl_drew | with_reducible apply bl_after | (with_reducible refine bl_call ?_ (by assumption))))) hB1
  have v0 := e0'.out.below hB1
  have v1 := e1'.out.below hB1
  clear la ya0 ya1 ya2 ya3 ya4 ya5 ya6 ya7 ya8 ya9 ya10 ya11 lb yb0 yb1 yb2 yb3 yb4 yb5 yb6 yb7 e0 e1 e0' e1' hB1 hbn
  ((try clear hk hc hf hzc hzf); (try clear hk hc hf hzc hzf); (try clear hk hc hf hzc hzf); (try clear hk hc hf hzc hzf))
  (have la := v0.lt); (have ya0 := v0.cell 0); (have ya1 := v0.cell 1); (have ya2 := v0.cell 2); (have ya3 := v0.cell 3); (have ya4 := v0.cell 4); (have ya5 := v0.cell 5); (have ya6 := v0.cell 6); (have ya7 := v0.cell 7); (have ya8 := v0.cell 8); (have ya9 := v0.cell 9); (have ya10 := v0.cell 10); (have ya11 := v0.cell 11); simp only [List.getElem?_toArray, List.getElem?_cons_zero, List.getElem?_cons_succ] at ya0 ya1 ya2 ya3 ya4 ya5 ya6 ya7 ya8 ya9 ya10 ya11
  (have lb := v1.lt); (have yb0 := v1.cell 0); (have yb1 := v1.cell 1); (have yb2 := v1.cell 2); (have yb3 := v1.cell 3); (have yb4 := v1.cell 4); (have yb5 := v1.cell 5); (have yb6 := v1.cell 6); (have yb7 := v1.cell 7); simp only [List.getElem?_toArray, List.getElem?_cons_zero, List.getElem?_cons_succ] at yb0 yb1 yb2 yb3 yb4 yb5 yb6 yb7
  (refine wp_region_CN (fun w' => ∃ z : After wn, w' = z.val) (by kernel_rfl) ?_); (change wpAnyC _ _ _ _ _ _ _ (World.drew wn)); refine wpAnyC_take (i := 0) (v := ?v0u) rfl (by kernel_rfl) (by kernel_rfl) (by kernel_rfl) ?q0u rfl ?y0u ?r0u; (case q0u => exact fun _ _ _ h => h); (case y0u => ((rintro _ ⟨z, rfl⟩); (go_simp); (try with_reducible rfl))); simp only [Act.put, List.getElem_toArray, List.getElem_cons_succ, List.getElem_cons_zero, List.setIfInBounds_toArray, List.set_cons_succ, List.set_cons_zero]; refine wpAnyC_take (i := 2) (v := ?v2u) rfl (by kernel_rfl) (by kernel_rfl) (by kernel_rfl) ?q2u rfl ?y2u ?r2u; (case q2u => exact fun _ _ _ h => h); (case y2u => ((rintro _ ⟨z, rfl⟩); (go_simp); (try with_reducible rfl))); simp only [Act.put, List.getElem_toArray, List.getElem_cons_succ, List.getElem_cons_zero, List.setIfInBounds_toArray, List.set_cons_succ, List.set_cons_zero]; (refine wpAnyC_stg [1, 3, 4, 5] [[], [0], [], []] [71, 73, 7, 8] (Cq8L D wn) (f0 := 2) (by kernel_rfl) rfl rfl (by kernel_rfl) rfl ?hC (fun vs _ => cq8_zero) ?hs ?hf)
  case hC => exact fun b vs w7 h => ⟨⟨_, Cq8E.low h⟩, rfl⟩
  case hs =>
    intro j b vs w7 hj hbl hvl hok hbj hdp hJ
    obtain ⟨b0, b1, b2, b3, rfl⟩ := four_list hbl
    obtain ⟨v0, v1, v2, v3, rfl⟩ := four_list hvl
    have hJ : Cq8E D wn b0 b1 b2 b3 v0 v1 v2 v3 w7 := hJ
    simp only [okB, List.zip_cons_cons, List.zip_nil_right, List.all_cons, List.all_nil, List.getD_cons_zero, List.getD_cons_succ, Bool.and_true, Bool.true_and, Bool.or_true, Bool.and_eq_true, Bool.or_eq_true, Bool.not_eq_true'] at hok
    clear hbl hvl
    rcases four_pos hj with rfl | rfl | rfl | rfl
    · obtain rfl : b0 = false := hbj
      obtain rfl : b1 = false := by simpa using hok
      (refine wpOp_of rfl rfl (fun K hK => ?_)); simp only [putL, Act.put, List.getElem_toArray, List.getElem_cons_succ, List.getElem_cons_zero, List.setIfInBounds_toArray, List.set_cons_succ, List.set_cons_zero, List.getD_cons_zero, List.getD_cons_succ]; go_simp; (go_at_call 11); (have hV7 : Below w.heap.size w w7 := bl_call hbx hJ.low); (with_reducible refine Calls.mono (hC.out _ hV7) ?_); rintro e8 w8 ⟨⟨A8, a8, B8, b8, C8, c8, rfl, h81, h82, h83⟩, hb8⟩; (refine hK _ _ ⟨_, ?_, cq8_c1 hJ ⟨h81, h82, h83⟩ hb8⟩); rfl
    · obtain rfl : b0 = true := by simpa using hdp
      obtain rfl : b1 = false := hbj
      (refine wpOp_of rfl rfl (fun K hK => ?_)); simp only [putL, Act.put, List.getElem_toArray, List.getElem_cons_succ, List.getElem_cons_zero, List.setIfInBounds_toArray, List.set_cons_succ, List.set_cons_zero, List.getD_cons_zero, List.getD_cons_succ]; go_simp; (go_at_call 11); (have hV7 : Below w.heap.size w w7 := bl_call hbx hJ.low); (with_reducible refine Calls.mono (hC.out _ hV7) ?_); rintro e8 w8 ⟨⟨A8, a8, B8, b8, C8, c8, rfl, h81, h82, h83⟩, hb8⟩; (refine hK _ _ ⟨_, ?_, cq8_c3 hJ ⟨h81, h82, h83⟩ hb8⟩); rfl
    · obtain rfl : b2 = false := hbj
      (refine wpOp_of rfl rfl (fun K hK => ?_)); simp only [putL, Act.put, List.getElem_toArray, List.getElem_cons_succ, List.getElem_cons_zero, List.setIfInBounds_toArray, List.set_cons_succ, List.set_cons_zero, List.getD_cons_zero, List.getD_cons_succ]; go_simp; (refine hK _ _ ⟨_, ?_, cq8_b4 hJ⟩); rfl
    · obtain rfl : b3 = false := hbj
      (refine wpOp_of rfl rfl (fun K hK => ?_)); simp only [putL, Act.put, List.getElem_toArray, List.getElem_cons_succ, List.getElem_cons_zero, List.setIfInBounds_toArray, List.set_cons_succ, List.set_cons_zero, List.getD_cons_zero, List.getD_cons_succ]; go_simp; (refine hK _ _ ⟨_, ?_, cq8_b5 hJ⟩); rfl
  case hf =>
    intro vs w7 hvl hJ
    obtain ⟨v0, v1, v2, v3, rfl⟩ := four_list hvl
    obtain ⟨r1, r2, r3, s1, s2, s3, g4, g5, hJ⟩ : Cq8E D wn true true true true v0 v1 v2 v3 w7 := hJ
    obtain ⟨rfl, hr⟩ := hJ.x1 rfl
    obtain ⟨rfl, hs⟩ := hJ.x3 rfl
    obtain ⟨rfl, hg4, hB4⟩ := hJ.x4 rfl
    obtain ⟨rfl, hg5, hB5⟩ := hJ.x5 rfl
    have hz := hJ.z rfl rfl
    have hy := hJ.y rfl rfl
    have hlow := hJ.low
    obtain ⟨A1, a1, rfl, -⟩ := hr.1.parts
    obtain ⟨B1, b1, rfl, -⟩ := hr.2.1.parts
    obtain ⟨C1, c1, rfl, -⟩ := RowR.parts8 hr.2.2
    obtain ⟨A2, a2, rfl, -⟩ := hs.1.parts
    obtain ⟨B2, b2, rfl, -⟩ := hs.2.1.parts
    obtain ⟨C2, c2, rfl, -⟩ := RowR.parts8 hs.2.2
    clear hJ hvl
    simp only [putL, Act.put, List.getElem_toArray, List.getElem_cons_succ, List.getElem_cons_zero, List.setIfInBounds_toArray, List.set_cons_succ, List.set_cons_zero, List.getD_cons_zero, List.getD_cons_succ]
    have HZ := Lib.hid (And.intro hz hy)
    refine wpAnyC_one (i := 6) (by kernel_rfl) rfl ⟨⟨_, hlow⟩, rfl⟩ rfl (fun K hK => ?_)
    refine wp_store_row 30 _ _ rfl g4 #[.slice A1 D.cs.length a1, .slice B1 D.offs.length b1, (Value.int .i64 (D.unit)), (Value.int .i64 (D.wh.full)), (Value.int .i64 (D.wh.read)), (Value.int .i64 (D.wh.slip)), (Value.int .i64 (D.wh.skew)), (Value.int .i64 (D.wh.circle)), (Value.int .i64 (D.wh.glo)), (Value.int .i64 (D.wh.ghi)), (Value.int .i64 (D.wh.wrong)), .slice C1 D.wks.length c1] rfl rfl 30 _ hB4 (by kernel_rfl) rfl (by simp [Value.oneCell']) (hK _ _ ?_)
    clear hK K
    replace hlow := bl_setRow8 (cs := #[.slice A1 D.cs.length a1, .slice B1 D.offs.length b1, (Value.int .i64 (D.unit)), (Value.int .i64 (D.wh.full)), (Value.int .i64 (D.wh.read)), (Value.int .i64 (D.wh.slip)), (Value.int .i64 (D.wh.skew)), (Value.int .i64 (D.wh.circle)), (Value.int .i64 (D.wh.glo)), (Value.int .i64 (D.wh.ghi)), (Value.int .i64 (D.wh.wrong)), .slice C1 D.wks.length c1]) hlow hg4
    replace hr := hr.setBox (cs := #[.slice A1 D.cs.length a1, .slice B1 D.offs.length b1, (Value.int .i64 (D.unit)), (Value.int .i64 (D.wh.full)), (Value.int .i64 (D.wh.read)), (Value.int .i64 (D.wh.slip)), (Value.int .i64 (D.wh.skew)), (Value.int .i64 (D.wh.circle)), (Value.int .i64 (D.wh.glo)), (Value.int .i64 (D.wh.ghi)), (Value.int .i64 (D.wh.wrong)), .slice C1 D.wks.length c1]) hB4
    replace hs := hs.setBox (cs := #[.slice A1 D.cs.length a1, .slice B1 D.offs.length b1, (Value.int .i64 (D.unit)), (Value.int .i64 (D.wh.full)), (Value.int .i64 (D.wh.read)), (Value.int .i64 (D.wh.slip)), (Value.int .i64 (D.wh.skew)), (Value.int .i64 (D.wh.circle)), (Value.int .i64 (D.wh.glo)), (Value.int .i64 (D.wh.ghi)), (Value.int .i64 (D.wh.wrong)), .slice C1 D.wks.length c1]) hB4
    replace hB5 := blk_setRow_far8 (cs := #[.slice A1 D.cs.length a1, .slice B1 D.offs.length b1, (Value.int .i64 (D.unit)), (Value.int .i64 (D.wh.full)), (Value.int .i64 (D.wh.read)), (Value.int .i64 (D.wh.slip)), (Value.int .i64 (D.wh.skew)), (Value.int .i64 (D.wh.circle)), (Value.int .i64 (D.wh.glo)), (Value.int .i64 (D.wh.ghi)), (Value.int .i64 (D.wh.wrong)), .slice C1 D.wks.length c1]) hB5 (Ne.symm hz)
    replace hB4 := blk_setRow8 (cs := #[.slice A1 D.cs.length a1, .slice B1 D.offs.length b1, (Value.int .i64 (D.unit)), (Value.int .i64 (D.wh.full)), (Value.int .i64 (D.wh.read)), (Value.int .i64 (D.wh.slip)), (Value.int .i64 (D.wh.skew)), (Value.int .i64 (D.wh.circle)), (Value.int .i64 (D.wh.glo)), (Value.int .i64 (D.wh.ghi)), (Value.int .i64 (D.wh.wrong)), .slice C1 D.wks.length c1]) hB4
    generalize w7.setRow g4 #[.slice A1 D.cs.length a1, .slice B1 D.offs.length b1, (Value.int .i64 (D.unit)), (Value.int .i64 (D.wh.full)), (Value.int .i64 (D.wh.read)), (Value.int .i64 (D.wh.slip)), (Value.int .i64 (D.wh.skew)), (Value.int .i64 (D.wh.circle)), (Value.int .i64 (D.wh.glo)), (Value.int .i64 (D.wh.ghi)), (Value.int .i64 (D.wh.wrong)), .slice C1 D.wks.length c1] = w8 at *
    refine wpAnyC_one (i := 7) (by kernel_rfl) rfl ⟨⟨_, hlow⟩, rfl⟩ rfl (fun K hK => ?_)
    refine wp_store_row 30 _ _ rfl g5 #[.slice A2 D.cs.length a2, .slice B2 D.offs.length b2, (Value.int .i64 (D.unit)), (Value.int .i64 (D.wh.full)), (Value.int .i64 (D.wh.read)), (Value.int .i64 (D.wh.slip)), (Value.int .i64 (D.wh.skew)), (Value.int .i64 (D.wh.circle)), (Value.int .i64 (D.wh.glo)), (Value.int .i64 (D.wh.ghi)), (Value.int .i64 (D.wh.wrong)), .slice C2 D.wks.length c2] rfl rfl 30 _ hB5 (by kernel_rfl) rfl (by simp [Value.oneCell']) (hK _ _ ?_)
    clear hK K
    replace hlow := bl_setRow8 (cs := #[.slice A2 D.cs.length a2, .slice B2 D.offs.length b2, (Value.int .i64 (D.unit)), (Value.int .i64 (D.wh.full)), (Value.int .i64 (D.wh.read)), (Value.int .i64 (D.wh.slip)), (Value.int .i64 (D.wh.skew)), (Value.int .i64 (D.wh.circle)), (Value.int .i64 (D.wh.glo)), (Value.int .i64 (D.wh.ghi)), (Value.int .i64 (D.wh.wrong)), .slice C2 D.wks.length c2]) hlow hg5
    replace hr := hr.setBox (cs := #[.slice A2 D.cs.length a2, .slice B2 D.offs.length b2, (Value.int .i64 (D.unit)), (Value.int .i64 (D.wh.full)), (Value.int .i64 (D.wh.read)), (Value.int .i64 (D.wh.slip)), (Value.int .i64 (D.wh.skew)), (Value.int .i64 (D.wh.circle)), (Value.int .i64 (D.wh.glo)), (Value.int .i64 (D.wh.ghi)), (Value.int .i64 (D.wh.wrong)), .slice C2 D.wks.length c2]) hB5
    replace hs := hs.setBox (cs := #[.slice A2 D.cs.length a2, .slice B2 D.offs.length b2, (Value.int .i64 (D.unit)), (Value.int .i64 (D.wh.full)), (Value.int .i64 (D.wh.read)), (Value.int .i64 (D.wh.slip)), (Value.int .i64 (D.wh.skew)), (Value.int .i64 (D.wh.circle)), (Value.int .i64 (D.wh.glo)), (Value.int .i64 (D.wh.ghi)), (Value.int .i64 (D.wh.wrong)), .slice C2 D.wks.length c2]) hB5
    replace hB4 := blk_setRow_far8 (cs := #[.slice A2 D.cs.length a2, .slice B2 D.offs.length b2, (Value.int .i64 (D.unit)), (Value.int .i64 (D.wh.full)), (Value.int .i64 (D.wh.read)), (Value.int .i64 (D.wh.slip)), (Value.int .i64 (D.wh.skew)), (Value.int .i64 (D.wh.circle)), (Value.int .i64 (D.wh.glo)), (Value.int .i64 (D.wh.ghi)), (Value.int .i64 (D.wh.wrong)), .slice C2 D.wks.length c2]) hB4 hz
    replace hB5 := blk_setRow8 (cs := #[.slice A2 D.cs.length a2, .slice B2 D.offs.length b2, (Value.int .i64 (D.unit)), (Value.int .i64 (D.wh.full)), (Value.int .i64 (D.wh.read)), (Value.int .i64 (D.wh.slip)), (Value.int .i64 (D.wh.skew)), (Value.int .i64 (D.wh.circle)), (Value.int .i64 (D.wh.glo)), (Value.int .i64 (D.wh.ghi)), (Value.int .i64 (D.wh.wrong)), .slice C2 D.wks.length c2]) hB5
    generalize w8.setRow g5 #[.slice A2 D.cs.length a2, .slice B2 D.offs.length b2, (Value.int .i64 (D.unit)), (Value.int .i64 (D.wh.full)), (Value.int .i64 (D.wh.read)), (Value.int .i64 (D.wh.slip)), (Value.int .i64 (D.wh.skew)), (Value.int .i64 (D.wh.circle)), (Value.int .i64 (D.wh.glo)), (Value.int .i64 (D.wh.ghi)), (Value.int .i64 (D.wh.wrong)), .slice C2 D.wks.length c2] = w9 at *
    refine wpAnyC_doneN (by kernel_rfl) ⟨⟨_, hlow⟩, rfl⟩ ?_ _
    obtain ⟨iw, wi, wz0, wz1, wz2⟩ := info_parts infoWk
    have HX := Lib.hid (v1.below hlow)
    have HX0 := Lib.hid (And.intro v0 v1)
    clear la ya0 ya1 ya2 ya3 ya4 ya5 ya6 ya7 ya8 ya9 ya10 ya11 lb yb0 yb1 yb2 yb3 yb4 yb5 yb6 yb7 v0 v1
    have HR := Lib.hid (And.intro hr hs)
    have HB := Lib.hid (And.intro hB4 hB5)
    have HL := Lib.hid hlow
    have hsz9 := hlow.size
    have vx := HX.out
    (have lb := vx.lt); (have yb0 := vx.cell 0); (have yb1 := vx.cell 1); (have yb2 := vx.cell 2); (have yb3 := vx.cell 3); (have yb4 := vx.cell 4); (have yb5 := vx.cell 5); (have yb6 := vx.cell 6); (have yb7 := vx.cell 7); simp only [List.getElem?_toArray, List.getElem?_cons_zero, List.getElem?_cons_succ] at yb0 yb1 yb2 yb3 yb4 yb5 yb6 yb7
    (have lp := hB4.lt); (have yp0 := hB4.cell 0); (have yp1 := hB4.cell 1); (have yp2 := hB4.cell 2); (have yp3 := hB4.cell 3); (have yp4 := hB4.cell 4); (have yp5 := hB4.cell 5); (have yp6 := hB4.cell 6); (have yp7 := hB4.cell 7); (have yp8 := hB4.cell 8); (have yp9 := hB4.cell 9); (have yp10 := hB4.cell 10); (have yp11 := hB4.cell 11); simp only [List.getElem?_toArray, List.getElem?_cons_zero, List.getElem?_cons_succ] at yp0 yp1 yp2 yp3 yp4 yp5 yp6 yp7 yp8 yp9 yp10 yp11
    clear vx hr hs hB4 hB5 hz hy hlow
    go_upto_region 8 with (at_builtin; (refine wpList_append_own _ rfl (.tmp 75) (.tmp 78) 28 rfl wn.heap.size 32 iw _ 5 40 undWk8 wi wz0 wz1 wz2 rfl (by decide) _ D.wks.length (recV wkE D.wks) rfl (World.ownsRow.alloc HR.out.1.2.2 _) ⟨w9.heap.size, 0, none⟩ 1 1 ((wkE x).map fun n => (Value.int .i64 (n))) rfl rfl (World.news_of_block (cs := ((wkE x).map fun n => (Value.int .i64 (n))).toArray) (t := 32) (fr := (0, 0)) (heap_alloc_new w9 _)) (wkOne8 x) (by unfold maxLen; omega) (by omega) (by simp; omega) ?_); intro v10 w10 hown hgrow _; (obtain ⟨C3, c3, rfl, -⟩ : ∃ C3 c3, v10 = .slice C3 (moW D x).wks.length c3 ∧ Wks w10 C3 (moW D x).wks := RowR.parts8 (RowR.snoc hown rfl)); (have hB4w := blk_row8 (World.ownsRow.alloc HR.out.1.2.2 (.cells ((wkE x).map fun n => (Value.int .i64 (n))).toArray 32)) (HB.out.1.alloc (.cells ((wkE x).map fun n => (Value.int .i64 (n))).toArray 32)) (by decide) hgrow); (have lq := hB4w.lt); (have yq0 := hB4w.cell 0); (have yq1 := hB4w.cell 1); (have yq2 := hB4w.cell 2); (have yq3 := hB4w.cell 3); (have yq4 := hB4w.cell 4); (have yq5 := hB4w.cell 5); (have yq6 := hB4w.cell 6); (have yq7 := hB4w.cell 7); (have yq8 := hB4w.cell 8); (have yq9 := hB4w.cell 9); (have yq10 := hB4w.cell 10); (have yq11 := hB4w.cell 11); simp only [List.getElem?_toArray, List.getElem?_cons_zero, List.getElem?_cons_succ] at yq0 yq1 yq2 yq3 yq4 yq5 yq6 yq7 yq8 yq9 yq10 yq11; (have f11 := hB4w.frozen 11))
    have ho := World.ownsRow.alloc HR.out.1.2.2 (.cells ((wkE x).map fun n => (Value.int .i64 (n))).toArray 32)
    have hbA : Below w9.heap.size w9 (w9.alloc (.cells ((wkE x).map fun n => (Value.int .i64 (n))).toArray 32)) := by (repeat (first | with_reducible exact Below.refl _ _ | with_reducible apply bl_alloc | with_reducible apply bl_drew | with_reducible apply bl_after | (with_reducible refine bl_call ?_ (by assumption))))
    have hr1 := HR.out.1.below hbA
    have hs1 := HR.out.2.below hbA
    have hr2 : Own8 (moW D x) w10 wn.heap.size (.slice A1 D.cs.length a1) (.slice B1 D.offs.length b1) (.slice C3 (moW D x).wks.length c3) := ⟨World.ownsRow.kept hr1.1 hgrow (own_ne_type hr1.1 hr1.2.2 (by decide)), World.ownsRow.kept hr1.2.1 hgrow (own_ne_type hr1.2.1 hr1.2.2 (by decide)), RowR.snoc hown rfl⟩
    have hs2 := hs1.rowW hr1 HZ.out.2.2.2 hgrow
    have hB5w := blk_row8 ho (HB.out.2.alloc _) (by decide) hgrow
    have hlow10 : Below wn.heap.size wn w10 := (bl_alloc HL.out).grown hgrow (by simp; omega) (fun g hg => (ho.lt g hg).1)
    have hr3 := hr2.boxCell hB4w 11 (.slice C3 (moW D x).wks.length c3)
    have hs3 := hs2.boxCell hB4w 11 (.slice C3 (moW D x).wks.length c3)
    have hB43 : Blk (w10.setCell ⟨g4, 11, none⟩ (.slice C3 (moW D x).wks.length c3)) g4 30 #[.slice A1 (moW D x).cs.length a1, .slice B1 (moW D x).offs.length b1, (Value.int .i64 ((moW D x).unit)), (Value.int .i64 ((moW D x).wh.full)), (Value.int .i64 ((moW D x).wh.read)), (Value.int .i64 ((moW D x).wh.slip)), (Value.int .i64 ((moW D x).wh.skew)), (Value.int .i64 ((moW D x).wh.circle)), (Value.int .i64 ((moW D x).wh.glo)), (Value.int .i64 ((moW D x).wh.ghi)), (Value.int .i64 ((moW D x).wh.wrong)), .slice C3 (moW D x).wks.length c3] := hB4w.set_ 11 _
    have hB53 := hB5w.far (p := ⟨g4, 11, none⟩) (Ne.symm HZ.out.1) (.slice C3 (moW D x).wks.length c3)
    have hlow3 := bl_set8c (o := 11) (v := .slice C3 (moW D x).wks.length c3) hlow10 hg4
    have hq3 : D.offs.length = D.cs.length := (dsp_ok hD'.out.1).lo
    have hko : k < D.offs.length := by omega
    have hof := (dsp_ok hD'.out.1).off k hko
    obtain ⟨gb, rfl⟩ := rowI_at8 hs3.2.1 hko
    have HS3 := Lib.hid hs3
    have HR3 := Lib.hid hr3
    have HB3 := Lib.hid (And.intro hB43 hB53)
    have HL3 := Lib.hid hlow3
    have vx := HX0.out.2
    clear lb yb0 yb1 yb2 yb3 yb4 yb5 yb6 yb7 lp yp0 yp1 yp2 yp3 yp4 yp5 yp6 yp7 yp8 yp9 yp10 yp11 lq yq0 yq1 yq2 yq3 yq4 yq5 yq6 yq7 yq8 yq9 yq10 yq11 f11 hB4w hB5w ho hbA hr1 hs1 hr2 hs2 hlow10 hown hgrow HL HR HB HX hr3 hs3 hB43 hlow3 hq3
    generalize w10.setCell ⟨g4, 11, none⟩ (.slice C3 (moW D x).wks.length c3) = w11 at *
    (have lb := vx.lt); (have yb0 := vx.cell 0); (have yb1 := vx.cell 1); (have yb2 := vx.cell 2); (have yb3 := vx.cell 3); (have yb4 := vx.cell 4); (have yb5 := vx.cell 5); (have yb6 := vx.cell 6); (have yb7 := vx.cell 7); simp only [List.getElem?_toArray, List.getElem?_cons_zero, List.getElem?_cons_succ] at yb0 yb1 yb2 yb3 yb4 yb5 yb6 yb7
    (have lp := hB53.lt); (have yp0 := hB53.cell 0); (have yp1 := hB53.cell 1); (have yp2 := hB53.cell 2); (have yp3 := hB53.cell 3); (have yp4 := hB53.cell 4); (have yp5 := hB53.cell 5); (have yp6 := hB53.cell 6); (have yp7 := hB53.cell 7); (have yp8 := hB53.cell 8); (have yp9 := hB53.cell 9); (have yp10 := hB53.cell 10); (have yp11 := hB53.cell 11); simp only [List.getElem?_toArray, List.getElem?_cons_zero, List.getElem?_cons_succ] at yp0 yp1 yp2 yp3 yp4 yp5 yp6 yp7 yp8 yp9 yp10 yp11
    have hI := intsAt_own HS3.out.2.1
    have y5 := hI.xi hko
    have l5 := hI.lt
    obtain ⟨cur5, hc5⟩ := own_blk8 HS3.out.2.1
    have f5 := hc5.frozen k
    have hbx3 := bl_call hbx HL3.out
    rw [Nat.zero_add] at y5
    have hx0 : 0 ≤ iat D.offs k ∧ iat D.offs k ≤ 2 := hof
    generalize hxv : iat D.offs k = xv at *
    have z1 : IntKind.i64.wrap (xv + o) = xv + o := IntWalk.i64_in _ (by omega)
    have y1 := wrap64_in (x := xv + o) (by omega) (by omega)
    have hk0 : (0 : Int) ≤ (k : Int) := by omega
    have hk1 : (k : Int) < (D.offs.length : Int) := by omega
    have HXV := Lib.hid hxv
    clear vx hI hof hB53 hxv
    have hd0 : Below w11.heap.size w11 w11.drew := bl_drew (Below.refl _ _)
    have hdn : Below wn.heap.size wn w11.drew := bl_drew HL3.out
    refine wp_region_CN (fun w' => ∃ z : After wn, w' = z.val) (by kernel_rfl) ?_
    change wpAnyC _ _ _ _ _ _ _ (World.drew w11)
    refine wpAnyC_take (i := 0) (v := ?v0v) rfl (by kernel_rfl) (by kernel_rfl) (by kernel_rfl) ?q0v rfl ?y0v ?r0v; (case q0v => exact fun _ _ _ h => h); (case y0v => ((rintro _ ⟨z, rfl⟩); (go_simp); (try with_reducible rfl))); simp only [Act.put, List.getElem_toArray, List.getElem_cons_succ, List.getElem_cons_zero, List.setIfInBounds_toArray, List.set_cons_succ, List.set_cons_zero]
    refine wpAnyC_take (i := 2) (v := ?v2v) rfl (by kernel_rfl) (by kernel_rfl) (by kernel_rfl) ?q2v rfl ?y2v ?r2v; (case q2v => exact fun _ _ _ h => h); (case y2v => ((rintro _ ⟨z, rfl⟩); (go_simp); (try with_reducible rfl))); simp only [Act.put, List.getElem_toArray, List.getElem_cons_succ, List.getElem_cons_zero, List.setIfInBounds_toArray, List.set_cons_succ, List.set_cons_zero]
    refine wpAnyC_take (i := 3) (v := ?v3v) rfl (by kernel_rfl) (by kernel_rfl) (by kernel_rfl) ?q3v rfl ?y3v ?r3v; (case q3v => exact fun _ _ _ h => h); (case y3v => ((rintro _ ⟨z, rfl⟩); (go_simp); (try with_reducible rfl))); simp only [Act.put, List.getElem_toArray, List.getElem_cons_succ, List.getElem_cons_zero, List.setIfInBounds_toArray, List.set_cons_succ, List.set_cons_zero]
    refine wpAnyC_take (i := 6) (v := ?v6v) rfl (by kernel_rfl) (by kernel_rfl) (by kernel_rfl) ?q6v rfl ?y6v ?r6v; (case q6v => exact fun _ _ _ h => h); (case y6v => ((rintro _ ⟨z, rfl⟩); (go_simp); (try with_reducible rfl))); simp only [Act.put, List.getElem_toArray, List.getElem_cons_succ, List.getElem_cons_zero, List.setIfInBounds_toArray, List.set_cons_succ, List.set_cons_zero]
    refine wpAnyC_take (i := 7) (v := ?v7v) rfl (by kernel_rfl) (by kernel_rfl) (by kernel_rfl) ?q7v rfl ?y7v ?r7v; (case q7v => exact fun _ _ _ h => h); (case y7v => ((rintro _ ⟨z, rfl⟩); (go_simp); (try with_reducible rfl))); simp only [Act.put, List.getElem_toArray, List.getElem_cons_succ, List.getElem_cons_zero, List.setIfInBounds_toArray, List.set_cons_succ, List.set_cons_zero]
    refine wpAnyC_one (i := 1) (by kernel_rfl) rfl ⟨⟨_, hdn⟩, rfl⟩ rfl (fun K hK => ?_)
    (go_simp; refine hK _ _ ?_; clear hK K)
    refine wpAnyC_take (i := 4) (v := ?v4v) rfl (by kernel_rfl) (by kernel_rfl) (by kernel_rfl) ?q4v rfl ?y4v ?r4v; (case q4v => exact fun _ _ _ h => h); (case y4v => ((rintro _ ⟨z, rfl⟩); (go_simp); (try with_reducible rfl))); simp only [Act.put, List.getElem_toArray, List.getElem_cons_succ, List.getElem_cons_zero, List.setIfInBounds_toArray, List.set_cons_succ, List.set_cons_zero]
    refine wpAnyC_one (i := 5) (by kernel_rfl) rfl ⟨⟨_, hdn⟩, rfl⟩ rfl (fun K hK => ?_)
    (go_simp; refine hK _ _ ?_; clear hK K)
    refine wpAnyC_take (i := 8) (v := ?v8v) rfl (by kernel_rfl) (by kernel_rfl) (by kernel_rfl) ?q8v rfl ?y8v ?r8v; (case q8v => exact fun _ _ _ h => h); (case y8v => ((rintro _ ⟨z, rfl⟩); (go_simp); (try with_reducible rfl))); simp only [Act.put, List.getElem_toArray, List.getElem_cons_succ, List.getElem_cons_zero, List.setIfInBounds_toArray, List.set_cons_succ, List.set_cons_zero]
    refine wpAnyC_take (i := 9) (v := ?v9v) rfl (by kernel_rfl) (by kernel_rfl) (by kernel_rfl) ?q9v rfl ?y9v ?r9v; (case q9v => exact fun _ _ _ h => h); (case y9v => ((rintro _ ⟨z, rfl⟩); (go_simp); (try with_reducible rfl))); simp only [Act.put, List.getElem_toArray, List.getElem_cons_succ, List.getElem_cons_zero, List.setIfInBounds_toArray, List.set_cons_succ, List.set_cons_zero]
    refine wpAnyC_one (i := 10) (by kernel_rfl) rfl ⟨⟨_, hdn⟩, rfl⟩ rfl (fun K hK => ?_)
    go_simp
    refine hK _ _ ?_
    clear hK K
    have hs4 := HS3.out
    have hr4 := HR3.out
    have hB4 := HB3.out.1
    have hB5 := HB3.out.2
    have hgr := grown_cell8 w11 gb k (Value.int .i64 (xv + o))
    have hs5 : Own8 (moO D k o) (w11.setCell ⟨gb, k, none⟩ (Value.int .i64 (xv + o))) wn.heap.size (.slice A2 D.cs.length a2) (.slice (some ⟨gb, 0, none⟩) D.offs.length b2) (.slice C2 D.wks.length c2) :=
      ⟨World.ownsRow.kept hs4.1 hgr (own_ne_type hs4.1 hs4.2.1 (by decide)), by rw [← HXV.out]; exact RowI.put8 hs4.2.1 k (iat D.offs k + o), World.ownsRow.kept hs4.2.2 hgr (own_ne_type hs4.2.2 hs4.2.1 (by decide))⟩
    have hr5 := hr4.rowI hs4 HZ.out.2.2.1.symm hgr
    have hB44 := blk_row8 hs4.2.1 hB4 (by decide) hgr
    have el : (moO D k o).offs.length = D.offs.length := List.length_set
    have hB54 : Blk (w11.setCell ⟨gb, k, none⟩ (Value.int .i64 (xv + o))) g5 30 #[.slice A2 (moO D k o).cs.length a2, .slice (some ⟨gb, 0, none⟩) (moO D k o).offs.length b2, (Value.int .i64 ((moO D k o).unit)), (Value.int .i64 ((moO D k o).wh.full)), (Value.int .i64 ((moO D k o).wh.read)), (Value.int .i64 ((moO D k o).wh.slip)), (Value.int .i64 ((moO D k o).wh.skew)), (Value.int .i64 ((moO D k o).wh.circle)), (Value.int .i64 ((moO D k o).wh.glo)), (Value.int .i64 ((moO D k o).wh.ghi)), (Value.int .i64 ((moO D k o).wh.wrong)), .slice C2 (moO D k o).wks.length c2] := by
      rw [el]
      exact blk_row8 hs4.2.1 hB5 (by decide) hgr
    have hlb : w.heap.size ≤ gb := Nat.le_trans hbx.size (World.ownsRow.lt HS3.out.2.1 gb rfl).1
    have hbX := bl_set8c (o := k) (v := (Value.int .i64 (xv + o))) hbx3 hlb
    have hlX := bl_set8c (o := k) (v := (Value.int .i64 (xv + o))) HL3.out (World.ownsRow.lt HS3.out.2.1 gb rfl).1
    have hv0 := HX0.out.1.below hlX
    have hv1 := HX0.out.2.below hlX
    clear hs4 hr4 hB4 hB5 hgr hd0 hdn HS3 HR3 HB3 HL3 HX0 HZ hc5 f5 y5 l5 lb yb0 yb1 yb2 yb3 yb4 yb5 yb6 yb7 lp yp0 yp1 yp2 yp3 yp4 yp5 yp6 yp7 yp8 yp9 yp10 yp11 hlb z1 y1 hk0 hk1 hx0 hbx3 hg4 hg5 hsz9 el HXV wi wz0 wz1 wz2
    have hdX : Below (w11.setCell ⟨gb, k, none⟩ (Value.int .i64 (xv + o))).heap.size (w11.setCell ⟨gb, k, none⟩ (Value.int .i64 (xv + o))) (w11.setCell ⟨gb, k, none⟩ (Value.int .i64 (xv + o))).drew := bl_drew (Below.refl _ _)
    replace hs5 := hs5.below hdX
    replace hr5 := hr5.below hdX
    replace hB44 := hB44.below hdX
    replace hB54 := hB54.below hdX
    replace hbX := bl_call hbX hdX
    replace hlX := bl_call hlX hdX
    replace hv0 := hv0.below hdX
    replace hv1 := hv1.below hdX
    clear hdX
    generalize (w11.setCell ⟨gb, k, none⟩ (Value.int .i64 (xv + o))).drew = X at *
    obtain ⟨_, _, e1, p1⟩ := hr5.1.parts
    obtain ⟨_, _, e2, p2⟩ := hr5.2.1.parts
    obtain ⟨_, _, e3, p3⟩ := RowR.parts8 hr5.2.2
    obtain ⟨_, _, e4, p4⟩ := hs5.1.parts
    obtain ⟨_, _, e5, p5⟩ := hs5.2.1.parts
    obtain ⟨_, _, e6, p6⟩ := RowR.parts8 hs5.2.2
    simp only [Value.slice.injEq] at e1 e2 e3 e4 e5 e6
    obtain ⟨rfl, -, rfl⟩ := e1
    obtain ⟨rfl, -, rfl⟩ := e2
    obtain ⟨rfl, -, rfl⟩ := e3
    obtain ⟨rfl, -, rfl⟩ := e4
    obtain ⟨rfl, -, rfl⟩ := e5
    obtain ⟨rfl, -, rfl⟩ := e6
    have hRo := fun (W : World) (h : Below X.heap.size X W) => ready8_any A1 B1 C3 a1 b1 c3 (moW D x) W (p1.below h) (p2.below h) (p3.below h)
    have hFo := fun (W : World) (h : Below X.heap.size X W) => Fewest_any8 A1 B1 C3 a1 b1 c3 (moW D x) W (p1.below h) (p2.below h) (p3.below h)
    have hRp := fun (W : World) (h : Below X.heap.size X W) => ready8_any A2 (some ⟨gb, 0, none⟩) C2 a2 b2 c2 (moO D k o) W (p4.below h) (p5.below h) (p6.below h)
    have hFp := fun (W : World) (h : Below X.heap.size X W) => Fewest_any8 A2 (some ⟨gb, 0, none⟩) C2 a2 b2 c2 (moO D k o) W (p4.below h) (p5.below h) (p6.below h)
    have hAp := fun (W : World) (h : Below X.heap.size X W) => Areas_any8 A2 (some ⟨gb, 0, none⟩) C2 a2 b2 c2 (moO D k o) f W (p4.below h) (p5.below h) (p6.below h)
    have hAd := fun (W : World) (h : Below X.heap.size X W) => hA.out W (bl_call hbX h)
    clear p1 p2 p3 p4 p5 p6 hr5 hs5 hA hC hR hF hbx
    have hf : within f 0 14 = true := by simp [within]; omega
    have hmo : rdyB (moW D x) = true → lsE (moW D x) (fwO (moW D x)) = e ∧ ¬ lsV (moW D x) (fwO (moW D x)) < n ∧ ¬ n + 1 < lsV (moW D x) (fwO (moW D x)) := fun h => by
      have := more_law hD'.out.1 (rdy_ok h).1
      rw [HN.out.1, HN.out.2]
      exact ⟨this.1, by omega, by omega⟩
    have hwd : rdyB (moO D k o) = true → _ := fun h => wide_law (D := D) (c := k) (k := o) o0 hD'.out.1 (rdy_ok h).1 hD'.out.2 hf
    rw [← HN.out.1, ← HN.out.2] at hwd
    generalize lsE (moW D x) (fwO (moW D x)) = eo at *
    generalize lsV (moW D x) (fwO (moW D x)) = vo at *
    generalize lsE (moO D k o) (fwO (moO D k o)) = ep at *
    generalize lsV (moO D k o) (fwO (moO D k o)) = vp at *
    generalize arE D f = ea at *
    generalize arV D f = L1 at *
    generalize arE (moO D k o) f = eb at *
    generalize arV (moO D k o) f = L2 at *
    have hsb := Lib.hid fun (P Q : Option Addr) (cp cq : Nat) (V : World) (hp : Ints V P L1) (hq : Ints V Q L2) (h1 : L1.length ≤ 1000000) (h2 : L2.length ≤ 1000000) => subset8_any P Q cp cq L1 L2 V hp h1 hq h2
    refine wpAnyC_doneN (by kernel_rfl) ⟨⟨_, hlX⟩, rfl⟩ ?_ _
    have hwo := Lib.hid hbX
    have hE0 := hE'.out
    rw [← HN.out.2] at hE0
    have z9 : IntKind.i64.wrap (n + 1) = n + 1 := IntWalk.i64_in _ (by omega)
    have y9 := wrap64_in (x := n + 1) (by omega) (by omega)
    clear hlX hbX hD' hE' HN hf hV0 hV1 hl hko hkl
    (have la := hv0.lt); (have ya0 := hv0.cell 0); (have ya1 := hv0.cell 1); (have ya2 := hv0.cell 2); (have ya3 := hv0.cell 3); (have ya4 := hv0.cell 4); (have ya5 := hv0.cell 5); (have ya6 := hv0.cell 6); (have ya7 := hv0.cell 7); (have ya8 := hv0.cell 8); (have ya9 := hv0.cell 9); (have ya10 := hv0.cell 10); (have ya11 := hv0.cell 11); simp only [List.getElem?_toArray, List.getElem?_cons_zero, List.getElem?_cons_succ] at ya0 ya1 ya2 ya3 ya4 ya5 ya6 ya7 ya8 ya9 ya10 ya11
    (have lb := hv1.lt); (have yb0 := hv1.cell 0); (have yb1 := hv1.cell 1); (have yb2 := hv1.cell 2); (have yb3 := hv1.cell 3); (have yb4 := hv1.cell 4); (have yb5 := hv1.cell 5); (have yb6 := hv1.cell 6); (have yb7 := hv1.cell 7); simp only [List.getElem?_toArray, List.getElem?_cons_zero, List.getElem?_cons_succ] at yb0 yb1 yb2 yb3 yb4 yb5 yb6 yb7
    (have lp := hB44.lt); (have yp0 := hB44.cell 0); (have yp1 := hB44.cell 1); (have yp2 := hB44.cell 2); (have yp3 := hB44.cell 3); (have yp4 := hB44.cell 4); (have yp5 := hB44.cell 5); (have yp6 := hB44.cell 6); (have yp7 := hB44.cell 7); (have yp8 := hB44.cell 8); (have yp9 := hB44.cell 9); (have yp10 := hB44.cell 10); (have yp11 := hB44.cell 11); simp only [List.getElem?_toArray, List.getElem?_cons_zero, List.getElem?_cons_succ] at yp0 yp1 yp2 yp3 yp4 yp5 yp6 yp7 yp8 yp9 yp10 yp11
    (have lq := hB54.lt); (have yq0 := hB54.cell 0); (have yq1 := hB54.cell 1); (have yq2 := hB54.cell 2); (have yq3 := hB54.cell 3); (have yq4 := hB54.cell 4); (have yq5 := hB54.cell 5); (have yq6 := hB54.cell 6); (have yq7 := hB54.cell 7); (have yq8 := hB54.cell 8); (have yq9 := hB54.cell 9); (have yq10 := hB54.cell 10); (have yq11 := hB54.cell 11); simp only [List.getElem?_toArray, List.getElem?_cons_zero, List.getElem?_cons_succ] at yq0 yq1 yq2 yq3 yq4 yq5 yq6 yq7 yq8 yq9 yq10 yq11
    clear hv0 hv1 hB44 hB54
    have hK9 := Lib.hid isKnown8_any
    cases hro : rdyB (moW D x)
    · rw [hro] at hRo
      clear hFo hmo z9 y9 hro
      cases hrp : rdyB (moO D k o)
      · rw [hrp] at hRp
        clear hFp hAp hAd hwd hrp hsb
        replace hRo := Lib.hid hRo
        (try replace hFo := Lib.hid hFo)
        replace hRp := Lib.hid hRp
        go_wp2_with (first | ((go_at_call 7); (with_reducible refine Calls.mono (hRo.out _ (by (repeat (first | with_reducible exact Below.refl _ _ | with_reducible apply bl_alloc | with_reducible apply bl_drew | with_reducible apply bl_after | (with_reducible refine bl_call ?_ (by assumption)))))) ?_); rintro e wn ⟨rfl, hbn⟩; first | ((with_reducible apply kp_in_step (hb := hbn)); (with_reducible assumption); rintro ⟨hk, hc, hf, hzc, hzf⟩) | ((with_reducible refine kp_in_first hbn ?_); rintro ⟨hk, hc, hf, hzc, hzf⟩)) | ((go_at_call 7); (with_reducible refine Calls.mono (hRp.out _ (by (repeat (first | with_reducible exact Below.refl _ _ | with_reducible apply bl_alloc | with_reducible apply bl_drew | with_reducible apply bl_after | (with_reducible refine bl_call ?_ (by assumption)))))) ?_); rintro e wn ⟨rfl, hbn⟩; first | ((with_reducible apply kp_in_step (hb := hbn)); (with_reducible assumption); rintro ⟨hk, hc, hf, hzc, hzf⟩) | ((with_reducible refine kp_in_first hbn ?_); rintro ⟨hk, hc, hf, hzc, hzf⟩)) | ((go_at_call 9); (with_reducible refine Calls.mono (hFo.out _ (by (repeat (first | with_reducible exact Below.refl _ _ | with_reducible apply bl_alloc | with_reducible apply bl_drew | with_reducible apply bl_after | (with_reducible refine bl_call ?_ (by assumption)))))) ?_); rintro e wn ⟨rfl, hbn⟩; first | ((with_reducible apply kp_in_step (hb := hbn)); (with_reducible assumption); rintro ⟨hk, hc, hf, hzc, hzf⟩) | ((with_reducible refine kp_in_first hbn ?_); rintro ⟨hk, hc, hf, hzc, hzf⟩)) | ((go_at_call 8); (with_reducible refine Calls.mono (works8_any _) ?_); rintro e wn ⟨rfl, hbn⟩; first | ((with_reducible apply kp_in_step (hb := hbn)); (with_reducible assumption); rintro ⟨hk, hc, hf, hzc, hzf⟩) | ((with_reducible refine kp_in_first hbn ?_); rintro ⟨hk, hc, hf, hzc, hzf⟩)))
        go_ret; exact ⟨rfl, bl_call hwo.out (by (repeat (first | with_reducible exact Below.refl _ _ | with_reducible apply bl_alloc | with_reducible apply bl_drew | with_reducible apply bl_after | (with_reducible refine bl_call ?_ (by assumption)))))⟩
      · rw [hrp] at hRp
        obtain ⟨h1, h2, h3, h4⟩ := hwd hrp
        have l300 : (L2.length : Int) ≤ 300 := by omega
        have h31 : L1.length ≤ 1000000 := by omega
        have h41 : L2.length ≤ 1000000 := by omega
        clear hwd hrp
        rcases h1 with ⟨rfl, hep⟩ | ⟨rfl, rfl, hvp⟩
        · have kp : knE ep = true := by rcases hep with rfl | rfl <;> rfl
          rcases h2 with ⟨rfl, heb⟩ | ⟨rfl, rfl, hsub⟩
          · have kb : knE eb = true := by rcases heb with rfl | rfl <;> rfl
            clear hep heb h3 h4
            (replace hRo := Lib.hid hRo); (try replace hFo := Lib.hid hFo); (replace hRp := Lib.hid hRp); (replace hFp := Lib.hid hFp); (replace hAp := Lib.hid hAp); (replace hAd := Lib.hid hAd)
            go_wp2_with (first | ((go_at_call 7); (with_reducible refine Calls.mono (hRo.out _ (by (repeat (first | with_reducible exact Below.refl _ _ | with_reducible apply bl_alloc | with_reducible apply bl_drew | with_reducible apply bl_after | (with_reducible refine bl_call ?_ (by assumption)))))) ?_); rintro e wn ⟨rfl, hbn⟩; first | ((with_reducible apply kp_in_step (hb := hbn)); (with_reducible assumption); rintro ⟨hk, hc, hf, hzc, hzf⟩) | ((with_reducible refine kp_in_first hbn ?_); rintro ⟨hk, hc, hf, hzc, hzf⟩)) | ((go_at_call 7); (with_reducible refine Calls.mono (hRp.out _ (by (repeat (first | with_reducible exact Below.refl _ _ | with_reducible apply bl_alloc | with_reducible apply bl_drew | with_reducible apply bl_after | (with_reducible refine bl_call ?_ (by assumption)))))) ?_); rintro e wn ⟨rfl, hbn⟩; first | ((with_reducible apply kp_in_step (hb := hbn)); (with_reducible assumption); rintro ⟨hk, hc, hf, hzc, hzf⟩) | ((with_reducible refine kp_in_first hbn ?_); rintro ⟨hk, hc, hf, hzc, hzf⟩)) | ((go_at_call 9); (with_reducible refine Calls.mono (hFo.out _ (by (repeat (first | with_reducible exact Below.refl _ _ | with_reducible apply bl_alloc | with_reducible apply bl_drew | with_reducible apply bl_after | (with_reducible refine bl_call ?_ (by assumption)))))) ?_); rintro e wn ⟨rfl, hbn⟩; first | ((with_reducible apply kp_in_step (hb := hbn)); (with_reducible assumption); rintro ⟨hk, hc, hf, hzc, hzf⟩) | ((with_reducible refine kp_in_first hbn ?_); rintro ⟨hk, hc, hf, hzc, hzf⟩)) | ((go_at_call 9); (with_reducible refine Calls.mono (hFp.out _ (by (repeat (first | with_reducible exact Below.refl _ _ | with_reducible apply bl_alloc | with_reducible apply bl_drew | with_reducible apply bl_after | (with_reducible refine bl_call ?_ (by assumption)))))) ?_); rintro e wn ⟨rfl, hbn⟩; first | ((with_reducible apply kp_in_step (hb := hbn)); (with_reducible assumption); rintro ⟨hk, hc, hf, hzc, hzf⟩) | ((with_reducible refine kp_in_first hbn ?_); rintro ⟨hk, hc, hf, hzc, hzf⟩)) | ((go_at_call 10); (with_reducible refine Calls.mono (hK9.out _ _) ?_); rintro e w' ⟨rfl, rfl⟩; simp only [kn0, kn3, kp, kb]) | ((go_at_call 12); (with_reducible refine Calls.mono (hAd.out _ (by (repeat (first | with_reducible exact Below.refl _ _ | with_reducible apply bl_alloc | with_reducible apply bl_drew | with_reducible apply bl_after | (with_reducible refine bl_call ?_ (by assumption)))))) ?_); rintro e4 w4 ⟨⟨A7, a7, rfl, hi7⟩, hb7⟩; first | ((with_reducible apply kp_in_step (hb := hb7)); (with_reducible assumption); rintro ⟨hk, hc, hf, hzc, hzf⟩) | ((with_reducible refine kp_in_first hb7 ?_); rintro ⟨hk, hc, hf, hzc, hzf⟩)) | ((go_at_call 12); (with_reducible refine Calls.mono (hAp.out _ (by (repeat (first | with_reducible exact Below.refl _ _ | with_reducible apply bl_alloc | with_reducible apply bl_drew | with_reducible apply bl_after | (with_reducible refine bl_call ?_ (by assumption)))))) ?_); rintro e5 w5 ⟨⟨A8, a8, rfl, hi8⟩, hb8⟩; (have hi9 := hi7.below hb8); first | ((with_reducible apply kp_in_step (hb := hb8)); (with_reducible assumption); rintro ⟨hk, hc, hf, hzc, hzf⟩) | ((with_reducible refine kp_in_first hb8 ?_); rintro ⟨hk, hc, hf, hzc, hzf⟩)) | ((go_at_call 13); (with_reducible refine Calls.mono (hsb.out A7 A8 a7 a8 _ hi9 hi8 h31 h41) ?_); rintro e6 w6 ⟨rfl, hb9⟩; first | ((with_reducible apply kp_in_step (hb := hb9)); (with_reducible assumption); rintro ⟨hk, hc, hf, hzc, hzf⟩) | ((with_reducible refine kp_in_first hb9 ?_); rintro ⟨hk, hc, hf, hzc, hzf⟩)) | ((go_at_call 8); (with_reducible refine Calls.mono (works8_any _) ?_); rintro e wn ⟨rfl, hbn⟩; first | ((with_reducible apply kp_in_step (hb := hbn)); (with_reducible assumption); rintro ⟨hk, hc, hf, hzc, hzf⟩) | ((with_reducible refine kp_in_first hbn ?_); rintro ⟨hk, hc, hf, hzc, hzf⟩)))
            go_ret; exact ⟨rfl, bl_call hwo.out (by (repeat (first | with_reducible exact Below.refl _ _ | with_reducible apply bl_alloc | with_reducible apply bl_drew | with_reducible apply bl_after | (with_reducible refine bl_call ?_ (by assumption)))))⟩
          · have kb := hsub
            simp only [hsub] at hsb
            clear hep h3 h4
            (replace hRo := Lib.hid hRo); (try replace hFo := Lib.hid hFo); (replace hRp := Lib.hid hRp); (replace hFp := Lib.hid hFp); (replace hAp := Lib.hid hAp); (replace hAd := Lib.hid hAd)
            go_wp2_with (first | ((go_at_call 7); (with_reducible refine Calls.mono (hRo.out _ (by (repeat (first | with_reducible exact Below.refl _ _ | with_reducible apply bl_alloc | with_reducible apply bl_drew | with_reducible apply bl_after | (with_reducible refine bl_call ?_ (by assumption)))))) ?_); rintro e wn ⟨rfl, hbn⟩; first | ((with_reducible apply kp_in_step (hb := hbn)); (with_reducible assumption); rintro ⟨hk, hc, hf, hzc, hzf⟩) | ((with_reducible refine kp_in_first hbn ?_); rintro ⟨hk, hc, hf, hzc, hzf⟩)) | ((go_at_call 7); (with_reducible refine Calls.mono (hRp.out _ (by (repeat (first | with_reducible exact Below.refl _ _ | with_reducible apply bl_alloc | with_reducible apply bl_drew | with_reducible apply bl_after | (with_reducible refine bl_call ?_ (by assumption)))))) ?_); rintro e wn ⟨rfl, hbn⟩; first | ((with_reducible apply kp_in_step (hb := hbn)); (with_reducible assumption); rintro ⟨hk, hc, hf, hzc, hzf⟩) | ((with_reducible refine kp_in_first hbn ?_); rintro ⟨hk, hc, hf, hzc, hzf⟩)) | ((go_at_call 9); (with_reducible refine Calls.mono (hFo.out _ (by (repeat (first | with_reducible exact Below.refl _ _ | with_reducible apply bl_alloc | with_reducible apply bl_drew | with_reducible apply bl_after | (with_reducible refine bl_call ?_ (by assumption)))))) ?_); rintro e wn ⟨rfl, hbn⟩; first | ((with_reducible apply kp_in_step (hb := hbn)); (with_reducible assumption); rintro ⟨hk, hc, hf, hzc, hzf⟩) | ((with_reducible refine kp_in_first hbn ?_); rintro ⟨hk, hc, hf, hzc, hzf⟩)) | ((go_at_call 9); (with_reducible refine Calls.mono (hFp.out _ (by (repeat (first | with_reducible exact Below.refl _ _ | with_reducible apply bl_alloc | with_reducible apply bl_drew | with_reducible apply bl_after | (with_reducible refine bl_call ?_ (by assumption)))))) ?_); rintro e wn ⟨rfl, hbn⟩; first | ((with_reducible apply kp_in_step (hb := hbn)); (with_reducible assumption); rintro ⟨hk, hc, hf, hzc, hzf⟩) | ((with_reducible refine kp_in_first hbn ?_); rintro ⟨hk, hc, hf, hzc, hzf⟩)) | ((go_at_call 10); (with_reducible refine Calls.mono (hK9.out _ _) ?_); rintro e w' ⟨rfl, rfl⟩; simp only [kn0, kn3, kp, kb]) | ((go_at_call 12); (with_reducible refine Calls.mono (hAd.out _ (by (repeat (first | with_reducible exact Below.refl _ _ | with_reducible apply bl_alloc | with_reducible apply bl_drew | with_reducible apply bl_after | (with_reducible refine bl_call ?_ (by assumption)))))) ?_); rintro e4 w4 ⟨⟨A7, a7, rfl, hi7⟩, hb7⟩; first | ((with_reducible apply kp_in_step (hb := hb7)); (with_reducible assumption); rintro ⟨hk, hc, hf, hzc, hzf⟩) | ((with_reducible refine kp_in_first hb7 ?_); rintro ⟨hk, hc, hf, hzc, hzf⟩)) | ((go_at_call 12); (with_reducible refine Calls.mono (hAp.out _ (by (repeat (first | with_reducible exact Below.refl _ _ | with_reducible apply bl_alloc | with_reducible apply bl_drew | with_reducible apply bl_after | (with_reducible refine bl_call ?_ (by assumption)))))) ?_); rintro e5 w5 ⟨⟨A8, a8, rfl, hi8⟩, hb8⟩; (have hi9 := hi7.below hb8); first | ((with_reducible apply kp_in_step (hb := hb8)); (with_reducible assumption); rintro ⟨hk, hc, hf, hzc, hzf⟩) | ((with_reducible refine kp_in_first hb8 ?_); rintro ⟨hk, hc, hf, hzc, hzf⟩)) | ((go_at_call 13); (with_reducible refine Calls.mono (hsb.out A7 A8 a7 a8 _ hi9 hi8 h31 h41) ?_); rintro e6 w6 ⟨rfl, hb9⟩; first | ((with_reducible apply kp_in_step (hb := hb9)); (with_reducible assumption); rintro ⟨hk, hc, hf, hzc, hzf⟩) | ((with_reducible refine kp_in_first hb9 ?_); rintro ⟨hk, hc, hf, hzc, hzf⟩)) | ((go_at_call 8); (with_reducible refine Calls.mono (works8_any _) ?_); rintro e wn ⟨rfl, hbn⟩; first | ((with_reducible apply kp_in_step (hb := hbn)); (with_reducible assumption); rintro ⟨hk, hc, hf, hzc, hzf⟩) | ((with_reducible refine kp_in_first hbn ?_); rintro ⟨hk, hc, hf, hzc, hzf⟩)))
            go_ret; exact ⟨rfl, bl_call hwo.out (by (repeat (first | with_reducible exact Below.refl _ _ | with_reducible apply bl_alloc | with_reducible apply bl_drew | with_reducible apply bl_after | (with_reducible refine bl_call ?_ (by assumption)))))⟩
        · have hvp' : ¬ n < vp := by omega
          have kp := kn0
          rcases h2 with ⟨rfl, heb⟩ | ⟨rfl, rfl, hsub⟩
          · have kb : knE eb = true := by rcases heb with rfl | rfl <;> rfl
            clear heb h3 h4 hvp
            (replace hRo := Lib.hid hRo); (try replace hFo := Lib.hid hFo); (replace hRp := Lib.hid hRp); (replace hFp := Lib.hid hFp); (replace hAp := Lib.hid hAp); (replace hAd := Lib.hid hAd)
            go_wp2_with (first | ((go_at_call 7); (with_reducible refine Calls.mono (hRo.out _ (by (repeat (first | with_reducible exact Below.refl _ _ | with_reducible apply bl_alloc | with_reducible apply bl_drew | with_reducible apply bl_after | (with_reducible refine bl_call ?_ (by assumption)))))) ?_); rintro e wn ⟨rfl, hbn⟩; first | ((with_reducible apply kp_in_step (hb := hbn)); (with_reducible assumption); rintro ⟨hk, hc, hf, hzc, hzf⟩) | ((with_reducible refine kp_in_first hbn ?_); rintro ⟨hk, hc, hf, hzc, hzf⟩)) | ((go_at_call 7); (with_reducible refine Calls.mono (hRp.out _ (by (repeat (first | with_reducible exact Below.refl _ _ | with_reducible apply bl_alloc | with_reducible apply bl_drew | with_reducible apply bl_after | (with_reducible refine bl_call ?_ (by assumption)))))) ?_); rintro e wn ⟨rfl, hbn⟩; first | ((with_reducible apply kp_in_step (hb := hbn)); (with_reducible assumption); rintro ⟨hk, hc, hf, hzc, hzf⟩) | ((with_reducible refine kp_in_first hbn ?_); rintro ⟨hk, hc, hf, hzc, hzf⟩)) | ((go_at_call 9); (with_reducible refine Calls.mono (hFo.out _ (by (repeat (first | with_reducible exact Below.refl _ _ | with_reducible apply bl_alloc | with_reducible apply bl_drew | with_reducible apply bl_after | (with_reducible refine bl_call ?_ (by assumption)))))) ?_); rintro e wn ⟨rfl, hbn⟩; first | ((with_reducible apply kp_in_step (hb := hbn)); (with_reducible assumption); rintro ⟨hk, hc, hf, hzc, hzf⟩) | ((with_reducible refine kp_in_first hbn ?_); rintro ⟨hk, hc, hf, hzc, hzf⟩)) | ((go_at_call 9); (with_reducible refine Calls.mono (hFp.out _ (by (repeat (first | with_reducible exact Below.refl _ _ | with_reducible apply bl_alloc | with_reducible apply bl_drew | with_reducible apply bl_after | (with_reducible refine bl_call ?_ (by assumption)))))) ?_); rintro e wn ⟨rfl, hbn⟩; first | ((with_reducible apply kp_in_step (hb := hbn)); (with_reducible assumption); rintro ⟨hk, hc, hf, hzc, hzf⟩) | ((with_reducible refine kp_in_first hbn ?_); rintro ⟨hk, hc, hf, hzc, hzf⟩)) | ((go_at_call 10); (with_reducible refine Calls.mono (hK9.out _ _) ?_); rintro e w' ⟨rfl, rfl⟩; simp only [kn0, kn3, kp, kb]) | ((go_at_call 12); (with_reducible refine Calls.mono (hAd.out _ (by (repeat (first | with_reducible exact Below.refl _ _ | with_reducible apply bl_alloc | with_reducible apply bl_drew | with_reducible apply bl_after | (with_reducible refine bl_call ?_ (by assumption)))))) ?_); rintro e4 w4 ⟨⟨A7, a7, rfl, hi7⟩, hb7⟩; first | ((with_reducible apply kp_in_step (hb := hb7)); (with_reducible assumption); rintro ⟨hk, hc, hf, hzc, hzf⟩) | ((with_reducible refine kp_in_first hb7 ?_); rintro ⟨hk, hc, hf, hzc, hzf⟩)) | ((go_at_call 12); (with_reducible refine Calls.mono (hAp.out _ (by (repeat (first | with_reducible exact Below.refl _ _ | with_reducible apply bl_alloc | with_reducible apply bl_drew | with_reducible apply bl_after | (with_reducible refine bl_call ?_ (by assumption)))))) ?_); rintro e5 w5 ⟨⟨A8, a8, rfl, hi8⟩, hb8⟩; (have hi9 := hi7.below hb8); first | ((with_reducible apply kp_in_step (hb := hb8)); (with_reducible assumption); rintro ⟨hk, hc, hf, hzc, hzf⟩) | ((with_reducible refine kp_in_first hb8 ?_); rintro ⟨hk, hc, hf, hzc, hzf⟩)) | ((go_at_call 13); (with_reducible refine Calls.mono (hsb.out A7 A8 a7 a8 _ hi9 hi8 h31 h41) ?_); rintro e6 w6 ⟨rfl, hb9⟩; first | ((with_reducible apply kp_in_step (hb := hb9)); (with_reducible assumption); rintro ⟨hk, hc, hf, hzc, hzf⟩) | ((with_reducible refine kp_in_first hb9 ?_); rintro ⟨hk, hc, hf, hzc, hzf⟩)) | ((go_at_call 8); (with_reducible refine Calls.mono (works8_any _) ?_); rintro e wn ⟨rfl, hbn⟩; first | ((with_reducible apply kp_in_step (hb := hbn)); (with_reducible assumption); rintro ⟨hk, hc, hf, hzc, hzf⟩) | ((with_reducible refine kp_in_first hbn ?_); rintro ⟨hk, hc, hf, hzc, hzf⟩)))
            go_ret; exact ⟨rfl, bl_call hwo.out (by (repeat (first | with_reducible exact Below.refl _ _ | with_reducible apply bl_alloc | with_reducible apply bl_drew | with_reducible apply bl_after | (with_reducible refine bl_call ?_ (by assumption)))))⟩
          · have kb := hsub
            simp only [hsub] at hsb
            clear h3 h4 hvp
            (replace hRo := Lib.hid hRo); (try replace hFo := Lib.hid hFo); (replace hRp := Lib.hid hRp); (replace hFp := Lib.hid hFp); (replace hAp := Lib.hid hAp); (replace hAd := Lib.hid hAd)
            go_wp2_with (first | ((go_at_call 7); (with_reducible refine Calls.mono (hRo.out _ (by (repeat (first | with_reducible exact Below.refl _ _ | with_reducible apply bl_alloc | with_reducible apply bl_drew | with_reducible apply bl_after | (with_reducible refine bl_call ?_ (by assumption)))))) ?_); rintro e wn ⟨rfl, hbn⟩; first | ((with_reducible apply kp_in_step (hb := hbn)); (with_reducible assumption); rintro ⟨hk, hc, hf, hzc, hzf⟩) | ((with_reducible refine kp_in_first hbn ?_); rintro ⟨hk, hc, hf, hzc, hzf⟩)) | ((go_at_call 7); (with_reducible refine Calls.mono (hRp.out _ (by (repeat (first | with_reducible exact Below.refl _ _ | with_reducible apply bl_alloc | with_reducible apply bl_drew | with_reducible apply bl_after | (with_reducible refine bl_call ?_ (by assumption)))))) ?_); rintro e wn ⟨rfl, hbn⟩; first | ((with_reducible apply kp_in_step (hb := hbn)); (with_reducible assumption); rintro ⟨hk, hc, hf, hzc, hzf⟩) | ((with_reducible refine kp_in_first hbn ?_); rintro ⟨hk, hc, hf, hzc, hzf⟩)) | ((go_at_call 9); (with_reducible refine Calls.mono (hFo.out _ (by (repeat (first | with_reducible exact Below.refl _ _ | with_reducible apply bl_alloc | with_reducible apply bl_drew | with_reducible apply bl_after | (with_reducible refine bl_call ?_ (by assumption)))))) ?_); rintro e wn ⟨rfl, hbn⟩; first | ((with_reducible apply kp_in_step (hb := hbn)); (with_reducible assumption); rintro ⟨hk, hc, hf, hzc, hzf⟩) | ((with_reducible refine kp_in_first hbn ?_); rintro ⟨hk, hc, hf, hzc, hzf⟩)) | ((go_at_call 9); (with_reducible refine Calls.mono (hFp.out _ (by (repeat (first | with_reducible exact Below.refl _ _ | with_reducible apply bl_alloc | with_reducible apply bl_drew | with_reducible apply bl_after | (with_reducible refine bl_call ?_ (by assumption)))))) ?_); rintro e wn ⟨rfl, hbn⟩; first | ((with_reducible apply kp_in_step (hb := hbn)); (with_reducible assumption); rintro ⟨hk, hc, hf, hzc, hzf⟩) | ((with_reducible refine kp_in_first hbn ?_); rintro ⟨hk, hc, hf, hzc, hzf⟩)) | ((go_at_call 10); (with_reducible refine Calls.mono (hK9.out _ _) ?_); rintro e w' ⟨rfl, rfl⟩; simp only [kn0, kn3, kp, kb]) | ((go_at_call 12); (with_reducible refine Calls.mono (hAd.out _ (by (repeat (first | with_reducible exact Below.refl _ _ | with_reducible apply bl_alloc | with_reducible apply bl_drew | with_reducible apply bl_after | (with_reducible refine bl_call ?_ (by assumption)))))) ?_); rintro e4 w4 ⟨⟨A7, a7, rfl, hi7⟩, hb7⟩; first | ((with_reducible apply kp_in_step (hb := hb7)); (with_reducible assumption); rintro ⟨hk, hc, hf, hzc, hzf⟩) | ((with_reducible refine kp_in_first hb7 ?_); rintro ⟨hk, hc, hf, hzc, hzf⟩)) | ((go_at_call 12); (with_reducible refine Calls.mono (hAp.out _ (by (repeat (first | with_reducible exact Below.refl _ _ | with_reducible apply bl_alloc | with_reducible apply bl_drew | with_reducible apply bl_after | (with_reducible refine bl_call ?_ (by assumption)))))) ?_); rintro e5 w5 ⟨⟨A8, a8, rfl, hi8⟩, hb8⟩; (have hi9 := hi7.below hb8); first | ((with_reducible apply kp_in_step (hb := hb8)); (with_reducible assumption); rintro ⟨hk, hc, hf, hzc, hzf⟩) | ((with_reducible refine kp_in_first hb8 ?_); rintro ⟨hk, hc, hf, hzc, hzf⟩)) | ((go_at_call 13); (with_reducible refine Calls.mono (hsb.out A7 A8 a7 a8 _ hi9 hi8 h31 h41) ?_); rintro e6 w6 ⟨rfl, hb9⟩; first | ((with_reducible apply kp_in_step (hb := hb9)); (with_reducible assumption); rintro ⟨hk, hc, hf, hzc, hzf⟩) | ((with_reducible refine kp_in_first hb9 ?_); rintro ⟨hk, hc, hf, hzc, hzf⟩)) | ((go_at_call 8); (with_reducible refine Calls.mono (works8_any _) ?_); rintro e wn ⟨rfl, hbn⟩; first | ((with_reducible apply kp_in_step (hb := hbn)); (with_reducible assumption); rintro ⟨hk, hc, hf, hzc, hzf⟩) | ((with_reducible refine kp_in_first hbn ?_); rintro ⟨hk, hc, hf, hzc, hzf⟩)))
            go_ret; exact ⟨rfl, bl_call hwo.out (by (repeat (first | with_reducible exact Below.refl _ _ | with_reducible apply bl_alloc | with_reducible apply bl_drew | with_reducible apply bl_after | (with_reducible refine bl_call ?_ (by assumption)))))⟩
    · rw [hro] at hRo
      obtain ⟨rfl, q1, q2⟩ := hmo hro
      clear hro hmo
      cases hrp : rdyB (moO D k o)
      · rw [hrp] at hRp
        clear hFp hAp hAd hwd hrp hsb
        replace hRo := Lib.hid hRo
        (try replace hFo := Lib.hid hFo)
        replace hRp := Lib.hid hRp
        go_wp2_with (first | ((go_at_call 7); (with_reducible refine Calls.mono (hRo.out _ (by (repeat (first | with_reducible exact Below.refl _ _ | with_reducible apply bl_alloc | with_reducible apply bl_drew | with_reducible apply bl_after | (with_reducible refine bl_call ?_ (by assumption)))))) ?_); rintro e wn ⟨rfl, hbn⟩; first | ((with_reducible apply kp_in_step (hb := hbn)); (with_reducible assumption); rintro ⟨hk, hc, hf, hzc, hzf⟩) | ((with_reducible refine kp_in_first hbn ?_); rintro ⟨hk, hc, hf, hzc, hzf⟩)) | ((go_at_call 7); (with_reducible refine Calls.mono (hRp.out _ (by (repeat (first | with_reducible exact Below.refl _ _ | with_reducible apply bl_alloc | with_reducible apply bl_drew | with_reducible apply bl_after | (with_reducible refine bl_call ?_ (by assumption)))))) ?_); rintro e wn ⟨rfl, hbn⟩; first | ((with_reducible apply kp_in_step (hb := hbn)); (with_reducible assumption); rintro ⟨hk, hc, hf, hzc, hzf⟩) | ((with_reducible refine kp_in_first hbn ?_); rintro ⟨hk, hc, hf, hzc, hzf⟩)) | ((go_at_call 9); (with_reducible refine Calls.mono (hFo.out _ (by (repeat (first | with_reducible exact Below.refl _ _ | with_reducible apply bl_alloc | with_reducible apply bl_drew | with_reducible apply bl_after | (with_reducible refine bl_call ?_ (by assumption)))))) ?_); rintro e wn ⟨rfl, hbn⟩; first | ((with_reducible apply kp_in_step (hb := hbn)); (with_reducible assumption); rintro ⟨hk, hc, hf, hzc, hzf⟩) | ((with_reducible refine kp_in_first hbn ?_); rintro ⟨hk, hc, hf, hzc, hzf⟩)) | ((go_at_call 8); (with_reducible refine Calls.mono (works8_any _) ?_); rintro e wn ⟨rfl, hbn⟩; first | ((with_reducible apply kp_in_step (hb := hbn)); (with_reducible assumption); rintro ⟨hk, hc, hf, hzc, hzf⟩) | ((with_reducible refine kp_in_first hbn ?_); rintro ⟨hk, hc, hf, hzc, hzf⟩)))
        go_ret; exact ⟨rfl, bl_call hwo.out (by (repeat (first | with_reducible exact Below.refl _ _ | with_reducible apply bl_alloc | with_reducible apply bl_drew | with_reducible apply bl_after | (with_reducible refine bl_call ?_ (by assumption)))))⟩
      · rw [hrp] at hRp
        obtain ⟨h1, h2, h3, h4⟩ := hwd hrp
        have l300 : (L2.length : Int) ≤ 300 := by omega
        have h31 : L1.length ≤ 1000000 := by omega
        have h41 : L2.length ≤ 1000000 := by omega
        clear hwd hrp
        rcases h1 with ⟨rfl, hep⟩ | ⟨rfl, rfl, hvp⟩
        · have kp : knE ep = true := by rcases hep with rfl | rfl <;> rfl
          rcases h2 with ⟨rfl, heb⟩ | ⟨rfl, rfl, hsub⟩
          · have kb : knE eb = true := by rcases heb with rfl | rfl <;> rfl
            clear hep heb h3 h4
            (replace hRo := Lib.hid hRo); (try replace hFo := Lib.hid hFo); (replace hRp := Lib.hid hRp); (replace hFp := Lib.hid hFp); (replace hAp := Lib.hid hAp); (replace hAd := Lib.hid hAd)
            go_wp2_with (first | ((go_at_call 7); (with_reducible refine Calls.mono (hRo.out _ (by (repeat (first | with_reducible exact Below.refl _ _ | with_reducible apply bl_alloc | with_reducible apply bl_drew | with_reducible apply bl_after | (with_reducible refine bl_call ?_ (by assumption)))))) ?_); rintro e wn ⟨rfl, hbn⟩; first | ((with_reducible apply kp_in_step (hb := hbn)); (with_reducible assumption); rintro ⟨hk, hc, hf, hzc, hzf⟩) | ((with_reducible refine kp_in_first hbn ?_); rintro ⟨hk, hc, hf, hzc, hzf⟩)) | ((go_at_call 7); (with_reducible refine Calls.mono (hRp.out _ (by (repeat (first | with_reducible exact Below.refl _ _ | with_reducible apply bl_alloc | with_reducible apply bl_drew | with_reducible apply bl_after | (with_reducible refine bl_call ?_ (by assumption)))))) ?_); rintro e wn ⟨rfl, hbn⟩; first | ((with_reducible apply kp_in_step (hb := hbn)); (with_reducible assumption); rintro ⟨hk, hc, hf, hzc, hzf⟩) | ((with_reducible refine kp_in_first hbn ?_); rintro ⟨hk, hc, hf, hzc, hzf⟩)) | ((go_at_call 9); (with_reducible refine Calls.mono (hFo.out _ (by (repeat (first | with_reducible exact Below.refl _ _ | with_reducible apply bl_alloc | with_reducible apply bl_drew | with_reducible apply bl_after | (with_reducible refine bl_call ?_ (by assumption)))))) ?_); rintro e wn ⟨rfl, hbn⟩; first | ((with_reducible apply kp_in_step (hb := hbn)); (with_reducible assumption); rintro ⟨hk, hc, hf, hzc, hzf⟩) | ((with_reducible refine kp_in_first hbn ?_); rintro ⟨hk, hc, hf, hzc, hzf⟩)) | ((go_at_call 9); (with_reducible refine Calls.mono (hFp.out _ (by (repeat (first | with_reducible exact Below.refl _ _ | with_reducible apply bl_alloc | with_reducible apply bl_drew | with_reducible apply bl_after | (with_reducible refine bl_call ?_ (by assumption)))))) ?_); rintro e wn ⟨rfl, hbn⟩; first | ((with_reducible apply kp_in_step (hb := hbn)); (with_reducible assumption); rintro ⟨hk, hc, hf, hzc, hzf⟩) | ((with_reducible refine kp_in_first hbn ?_); rintro ⟨hk, hc, hf, hzc, hzf⟩)) | ((go_at_call 10); (with_reducible refine Calls.mono (hK9.out _ _) ?_); rintro e w' ⟨rfl, rfl⟩; simp only [kn0, kn3, kp, kb]) | ((go_at_call 12); (with_reducible refine Calls.mono (hAd.out _ (by (repeat (first | with_reducible exact Below.refl _ _ | with_reducible apply bl_alloc | with_reducible apply bl_drew | with_reducible apply bl_after | (with_reducible refine bl_call ?_ (by assumption)))))) ?_); rintro e4 w4 ⟨⟨A7, a7, rfl, hi7⟩, hb7⟩; first | ((with_reducible apply kp_in_step (hb := hb7)); (with_reducible assumption); rintro ⟨hk, hc, hf, hzc, hzf⟩) | ((with_reducible refine kp_in_first hb7 ?_); rintro ⟨hk, hc, hf, hzc, hzf⟩)) | ((go_at_call 12); (with_reducible refine Calls.mono (hAp.out _ (by (repeat (first | with_reducible exact Below.refl _ _ | with_reducible apply bl_alloc | with_reducible apply bl_drew | with_reducible apply bl_after | (with_reducible refine bl_call ?_ (by assumption)))))) ?_); rintro e5 w5 ⟨⟨A8, a8, rfl, hi8⟩, hb8⟩; (have hi9 := hi7.below hb8); first | ((with_reducible apply kp_in_step (hb := hb8)); (with_reducible assumption); rintro ⟨hk, hc, hf, hzc, hzf⟩) | ((with_reducible refine kp_in_first hb8 ?_); rintro ⟨hk, hc, hf, hzc, hzf⟩)) | ((go_at_call 13); (with_reducible refine Calls.mono (hsb.out A7 A8 a7 a8 _ hi9 hi8 h31 h41) ?_); rintro e6 w6 ⟨rfl, hb9⟩; first | ((with_reducible apply kp_in_step (hb := hb9)); (with_reducible assumption); rintro ⟨hk, hc, hf, hzc, hzf⟩) | ((with_reducible refine kp_in_first hb9 ?_); rintro ⟨hk, hc, hf, hzc, hzf⟩)) | ((go_at_call 8); (with_reducible refine Calls.mono (works8_any _) ?_); rintro e wn ⟨rfl, hbn⟩; first | ((with_reducible apply kp_in_step (hb := hbn)); (with_reducible assumption); rintro ⟨hk, hc, hf, hzc, hzf⟩) | ((with_reducible refine kp_in_first hbn ?_); rintro ⟨hk, hc, hf, hzc, hzf⟩)))
            go_ret; exact ⟨rfl, bl_call hwo.out (by (repeat (first | with_reducible exact Below.refl _ _ | with_reducible apply bl_alloc | with_reducible apply bl_drew | with_reducible apply bl_after | (with_reducible refine bl_call ?_ (by assumption)))))⟩
          · have kb := hsub
            simp only [hsub] at hsb
            clear hep h3 h4
            (replace hRo := Lib.hid hRo); (try replace hFo := Lib.hid hFo); (replace hRp := Lib.hid hRp); (replace hFp := Lib.hid hFp); (replace hAp := Lib.hid hAp); (replace hAd := Lib.hid hAd)
            go_wp2_with (first | ((go_at_call 7); (with_reducible refine Calls.mono (hRo.out _ (by (repeat (first | with_reducible exact Below.refl _ _ | with_reducible apply bl_alloc | with_reducible apply bl_drew | with_reducible apply bl_after | (with_reducible refine bl_call ?_ (by assumption)))))) ?_); rintro e wn ⟨rfl, hbn⟩; first | ((with_reducible apply kp_in_step (hb := hbn)); (with_reducible assumption); rintro ⟨hk, hc, hf, hzc, hzf⟩) | ((with_reducible refine kp_in_first hbn ?_); rintro ⟨hk, hc, hf, hzc, hzf⟩)) | ((go_at_call 7); (with_reducible refine Calls.mono (hRp.out _ (by (repeat (first | with_reducible exact Below.refl _ _ | with_reducible apply bl_alloc | with_reducible apply bl_drew | with_reducible apply bl_after | (with_reducible refine bl_call ?_ (by assumption)))))) ?_); rintro e wn ⟨rfl, hbn⟩; first | ((with_reducible apply kp_in_step (hb := hbn)); (with_reducible assumption); rintro ⟨hk, hc, hf, hzc, hzf⟩) | ((with_reducible refine kp_in_first hbn ?_); rintro ⟨hk, hc, hf, hzc, hzf⟩)) | ((go_at_call 9); (with_reducible refine Calls.mono (hFo.out _ (by (repeat (first | with_reducible exact Below.refl _ _ | with_reducible apply bl_alloc | with_reducible apply bl_drew | with_reducible apply bl_after | (with_reducible refine bl_call ?_ (by assumption)))))) ?_); rintro e wn ⟨rfl, hbn⟩; first | ((with_reducible apply kp_in_step (hb := hbn)); (with_reducible assumption); rintro ⟨hk, hc, hf, hzc, hzf⟩) | ((with_reducible refine kp_in_first hbn ?_); rintro ⟨hk, hc, hf, hzc, hzf⟩)) | ((go_at_call 9); (with_reducible refine Calls.mono (hFp.out _ (by (repeat (first | with_reducible exact Below.refl _ _ | with_reducible apply bl_alloc | with_reducible apply bl_drew | with_reducible apply bl_after | (with_reducible refine bl_call ?_ (by assumption)))))) ?_); rintro e wn ⟨rfl, hbn⟩; first | ((with_reducible apply kp_in_step (hb := hbn)); (with_reducible assumption); rintro ⟨hk, hc, hf, hzc, hzf⟩) | ((with_reducible refine kp_in_first hbn ?_); rintro ⟨hk, hc, hf, hzc, hzf⟩)) | ((go_at_call 10); (with_reducible refine Calls.mono (hK9.out _ _) ?_); rintro e w' ⟨rfl, rfl⟩; simp only [kn0, kn3, kp, kb]) | ((go_at_call 12); (with_reducible refine Calls.mono (hAd.out _ (by (repeat (first | with_reducible exact Below.refl _ _ | with_reducible apply bl_alloc | with_reducible apply bl_drew | with_reducible apply bl_after | (with_reducible refine bl_call ?_ (by assumption)))))) ?_); rintro e4 w4 ⟨⟨A7, a7, rfl, hi7⟩, hb7⟩; first | ((with_reducible apply kp_in_step (hb := hb7)); (with_reducible assumption); rintro ⟨hk, hc, hf, hzc, hzf⟩) | ((with_reducible refine kp_in_first hb7 ?_); rintro ⟨hk, hc, hf, hzc, hzf⟩)) | ((go_at_call 12); (with_reducible refine Calls.mono (hAp.out _ (by (repeat (first | with_reducible exact Below.refl _ _ | with_reducible apply bl_alloc | with_reducible apply bl_drew | with_reducible apply bl_after | (with_reducible refine bl_call ?_ (by assumption)))))) ?_); rintro e5 w5 ⟨⟨A8, a8, rfl, hi8⟩, hb8⟩; (have hi9 := hi7.below hb8); first | ((with_reducible apply kp_in_step (hb := hb8)); (with_reducible assumption); rintro ⟨hk, hc, hf, hzc, hzf⟩) | ((with_reducible refine kp_in_first hb8 ?_); rintro ⟨hk, hc, hf, hzc, hzf⟩)) | ((go_at_call 13); (with_reducible refine Calls.mono (hsb.out A7 A8 a7 a8 _ hi9 hi8 h31 h41) ?_); rintro e6 w6 ⟨rfl, hb9⟩; first | ((with_reducible apply kp_in_step (hb := hb9)); (with_reducible assumption); rintro ⟨hk, hc, hf, hzc, hzf⟩) | ((with_reducible refine kp_in_first hb9 ?_); rintro ⟨hk, hc, hf, hzc, hzf⟩)) | ((go_at_call 8); (with_reducible refine Calls.mono (works8_any _) ?_); rintro e wn ⟨rfl, hbn⟩; first | ((with_reducible apply kp_in_step (hb := hbn)); (with_reducible assumption); rintro ⟨hk, hc, hf, hzc, hzf⟩) | ((with_reducible refine kp_in_first hbn ?_); rintro ⟨hk, hc, hf, hzc, hzf⟩)))
            go_ret; exact ⟨rfl, bl_call hwo.out (by (repeat (first | with_reducible exact Below.refl _ _ | with_reducible apply bl_alloc | with_reducible apply bl_drew | with_reducible apply bl_after | (with_reducible refine bl_call ?_ (by assumption)))))⟩
        · have hvp' : ¬ n < vp := by omega
          have kp := kn0
          rcases h2 with ⟨rfl, heb⟩ | ⟨rfl, rfl, hsub⟩
          · have kb : knE eb = true := by rcases heb with rfl | rfl <;> rfl
            clear heb h3 h4 hvp
            (replace hRo := Lib.hid hRo); (try replace hFo := Lib.hid hFo); (replace hRp := Lib.hid hRp); (replace hFp := Lib.hid hFp); (replace hAp := Lib.hid hAp); (replace hAd := Lib.hid hAd)
            go_wp2_with (first | ((go_at_call 7); (with_reducible refine Calls.mono (hRo.out _ (by (repeat (first | with_reducible exact Below.refl _ _ | with_reducible apply bl_alloc | with_reducible apply bl_drew | with_reducible apply bl_after | (with_reducible refine bl_call ?_ (by assumption)))))) ?_); rintro e wn ⟨rfl, hbn⟩; first | ((with_reducible apply kp_in_step (hb := hbn)); (with_reducible assumption); rintro ⟨hk, hc, hf, hzc, hzf⟩) | ((with_reducible refine kp_in_first hbn ?_); rintro ⟨hk, hc, hf, hzc, hzf⟩)) | ((go_at_call 7); (with_reducible refine Calls.mono (hRp.out _ (by (repeat (first | with_reducible exact Below.refl _ _ | with_reducible apply bl_alloc | with_reducible apply bl_drew | with_reducible apply bl_after | (with_reducible refine bl_call ?_ (by assumption)))))) ?_); rintro e wn ⟨rfl, hbn⟩; first | ((with_reducible apply kp_in_step (hb := hbn)); (with_reducible assumption); rintro ⟨hk, hc, hf, hzc, hzf⟩) | ((with_reducible refine kp_in_first hbn ?_); rintro ⟨hk, hc, hf, hzc, hzf⟩)) | ((go_at_call 9); (with_reducible refine Calls.mono (hFo.out _ (by (repeat (first | with_reducible exact Below.refl _ _ | with_reducible apply bl_alloc | with_reducible apply bl_drew | with_reducible apply bl_after | (with_reducible refine bl_call ?_ (by assumption)))))) ?_); rintro e wn ⟨rfl, hbn⟩; first | ((with_reducible apply kp_in_step (hb := hbn)); (with_reducible assumption); rintro ⟨hk, hc, hf, hzc, hzf⟩) | ((with_reducible refine kp_in_first hbn ?_); rintro ⟨hk, hc, hf, hzc, hzf⟩)) | ((go_at_call 9); (with_reducible refine Calls.mono (hFp.out _ (by (repeat (first | with_reducible exact Below.refl _ _ | with_reducible apply bl_alloc | with_reducible apply bl_drew | with_reducible apply bl_after | (with_reducible refine bl_call ?_ (by assumption)))))) ?_); rintro e wn ⟨rfl, hbn⟩; first | ((with_reducible apply kp_in_step (hb := hbn)); (with_reducible assumption); rintro ⟨hk, hc, hf, hzc, hzf⟩) | ((with_reducible refine kp_in_first hbn ?_); rintro ⟨hk, hc, hf, hzc, hzf⟩)) | ((go_at_call 10); (with_reducible refine Calls.mono (hK9.out _ _) ?_); rintro e w' ⟨rfl, rfl⟩; simp only [kn0, kn3, kp, kb]) | ((go_at_call 12); (with_reducible refine Calls.mono (hAd.out _ (by (repeat (first | with_reducible exact Below.refl _ _ | with_reducible apply bl_alloc | with_reducible apply bl_drew | with_reducible apply bl_after | (with_reducible refine bl_call ?_ (by assumption)))))) ?_); rintro e4 w4 ⟨⟨A7, a7, rfl, hi7⟩, hb7⟩; first | ((with_reducible apply kp_in_step (hb := hb7)); (with_reducible assumption); rintro ⟨hk, hc, hf, hzc, hzf⟩) | ((with_reducible refine kp_in_first hb7 ?_); rintro ⟨hk, hc, hf, hzc, hzf⟩)) | ((go_at_call 12); (with_reducible refine Calls.mono (hAp.out _ (by (repeat (first | with_reducible exact Below.refl _ _ | with_reducible apply bl_alloc | with_reducible apply bl_drew | with_reducible apply bl_after | (with_reducible refine bl_call ?_ (by assumption)))))) ?_); rintro e5 w5 ⟨⟨A8, a8, rfl, hi8⟩, hb8⟩; (have hi9 := hi7.below hb8); first | ((with_reducible apply kp_in_step (hb := hb8)); (with_reducible assumption); rintro ⟨hk, hc, hf, hzc, hzf⟩) | ((with_reducible refine kp_in_first hb8 ?_); rintro ⟨hk, hc, hf, hzc, hzf⟩)) | ((go_at_call 13); (with_reducible refine Calls.mono (hsb.out A7 A8 a7 a8 _ hi9 hi8 h31 h41) ?_); rintro e6 w6 ⟨rfl, hb9⟩; first | ((with_reducible apply kp_in_step (hb := hb9)); (with_reducible assumption); rintro ⟨hk, hc, hf, hzc, hzf⟩) | ((with_reducible refine kp_in_first hb9 ?_); rintro ⟨hk, hc, hf, hzc, hzf⟩)) | ((go_at_call 8); (with_reducible refine Calls.mono (works8_any _) ?_); rintro e wn ⟨rfl, hbn⟩; first | ((with_reducible apply kp_in_step (hb := hbn)); (with_reducible assumption); rintro ⟨hk, hc, hf, hzc, hzf⟩) | ((with_reducible refine kp_in_first hbn ?_); rintro ⟨hk, hc, hf, hzc, hzf⟩)))
            go_ret; exact ⟨rfl, bl_call hwo.out (by (repeat (first | with_reducible exact Below.refl _ _ | with_reducible apply bl_alloc | with_reducible apply bl_drew | with_reducible apply bl_after | (with_reducible refine bl_call ?_ (by assumption)))))⟩
          · have kb := hsub
            simp only [hsub] at hsb
            clear h3 h4 hvp
            (replace hRo := Lib.hid hRo); (try replace hFo := Lib.hid hFo); (replace hRp := Lib.hid hRp); (replace hFp := Lib.hid hFp); (replace hAp := Lib.hid hAp); (replace hAd := Lib.hid hAd)
            go_wp2_with (first | ((go_at_call 7); (with_reducible refine Calls.mono (hRo.out _ (by (repeat (first | with_reducible exact Below.refl _ _ | with_reducible apply bl_alloc | with_reducible apply bl_drew | with_reducible apply bl_after | (with_reducible refine bl_call ?_ (by assumption)))))) ?_); rintro e wn ⟨rfl, hbn⟩; first | ((with_reducible apply kp_in_step (hb := hbn)); (with_reducible assumption); rintro ⟨hk, hc, hf, hzc, hzf⟩) | ((with_reducible refine kp_in_first hbn ?_); rintro ⟨hk, hc, hf, hzc, hzf⟩)) | ((go_at_call 7); (with_reducible refine Calls.mono (hRp.out _ (by (repeat (first | with_reducible exact Below.refl _ _ | with_reducible apply bl_alloc | with_reducible apply bl_drew | with_reducible apply bl_after | (with_reducible refine bl_call ?_ (by assumption)))))) ?_); rintro e wn ⟨rfl, hbn⟩; first | ((with_reducible apply kp_in_step (hb := hbn)); (with_reducible assumption); rintro ⟨hk, hc, hf, hzc, hzf⟩) | ((with_reducible refine kp_in_first hbn ?_); rintro ⟨hk, hc, hf, hzc, hzf⟩)) | ((go_at_call 9); (with_reducible refine Calls.mono (hFo.out _ (by (repeat (first | with_reducible exact Below.refl _ _ | with_reducible apply bl_alloc | with_reducible apply bl_drew | with_reducible apply bl_after | (with_reducible refine bl_call ?_ (by assumption)))))) ?_); rintro e wn ⟨rfl, hbn⟩; first | ((with_reducible apply kp_in_step (hb := hbn)); (with_reducible assumption); rintro ⟨hk, hc, hf, hzc, hzf⟩) | ((with_reducible refine kp_in_first hbn ?_); rintro ⟨hk, hc, hf, hzc, hzf⟩)) | ((go_at_call 9); (with_reducible refine Calls.mono (hFp.out _ (by (repeat (first | with_reducible exact Below.refl _ _ | with_reducible apply bl_alloc | with_reducible apply bl_drew | with_reducible apply bl_after | (with_reducible refine bl_call ?_ (by assumption)))))) ?_); rintro e wn ⟨rfl, hbn⟩; first | ((with_reducible apply kp_in_step (hb := hbn)); (with_reducible assumption); rintro ⟨hk, hc, hf, hzc, hzf⟩) | ((with_reducible refine kp_in_first hbn ?_); rintro ⟨hk, hc, hf, hzc, hzf⟩)) | ((go_at_call 10); (with_reducible refine Calls.mono (hK9.out _ _) ?_); rintro e w' ⟨rfl, rfl⟩; simp only [kn0, kn3, kp, kb]) | ((go_at_call 12); (with_reducible refine Calls.mono (hAd.out _ (by (repeat (first | with_reducible exact Below.refl _ _ | with_reducible apply bl_alloc | with_reducible apply bl_drew | with_reducible apply bl_after | (with_reducible refine bl_call ?_ (by assumption)))))) ?_); rintro e4 w4 ⟨⟨A7, a7, rfl, hi7⟩, hb7⟩; first | ((with_reducible apply kp_in_step (hb := hb7)); (with_reducible assumption); rintro ⟨hk, hc, hf, hzc, hzf⟩) | ((with_reducible refine kp_in_first hb7 ?_); rintro ⟨hk, hc, hf, hzc, hzf⟩)) | ((go_at_call 12); (with_reducible refine Calls.mono (hAp.out _ (by (repeat (first | with_reducible exact Below.refl _ _ | with_reducible apply bl_alloc | with_reducible apply bl_drew | with_reducible apply bl_after | (with_reducible refine bl_call ?_ (by assumption)))))) ?_); rintro e5 w5 ⟨⟨A8, a8, rfl, hi8⟩, hb8⟩; (have hi9 := hi7.below hb8); first | ((with_reducible apply kp_in_step (hb := hb8)); (with_reducible assumption); rintro ⟨hk, hc, hf, hzc, hzf⟩) | ((with_reducible refine kp_in_first hb8 ?_); rintro ⟨hk, hc, hf, hzc, hzf⟩)) | ((go_at_call 13); (with_reducible refine Calls.mono (hsb.out A7 A8 a7 a8 _ hi9 hi8 h31 h41) ?_); rintro e6 w6 ⟨rfl, hb9⟩; first | ((with_reducible apply kp_in_step (hb := hb9)); (with_reducible assumption); rintro ⟨hk, hc, hf, hzc, hzf⟩) | ((with_reducible refine kp_in_first hb9 ?_); rintro ⟨hk, hc, hf, hzc, hzf⟩)) | ((go_at_call 8); (with_reducible refine Calls.mono (works8_any _) ?_); rintro e wn ⟨rfl, hbn⟩; first | ((with_reducible apply kp_in_step (hb := hbn)); (with_reducible assumption); rintro ⟨hk, hc, hf, hzc, hzf⟩) | ((with_reducible refine kp_in_first hbn ?_); rintro ⟨hk, hc, hf, hzc, hzf⟩)))
            go_ret; exact ⟨rfl, bl_call hwo.out (by (repeat (first | with_reducible exact Below.refl _ _ | with_reducible apply bl_alloc | with_reducible apply bl_drew | with_reducible apply bl_after | (with_reducible refine bl_call ?_ (by assumption)))))⟩
theorem lawMore8_any (x : Wk) (c o f : Int) :
    Calls Try.prog 3 #[(Value.agg #[.slice A D.cs.length ca, .slice B D.offs.length cb, (Value.int .i64 (D.unit)), (Value.int .i64 (D.wh.full)), (Value.int .i64 (D.wh.read)), (Value.int .i64 (D.wh.slip)), (Value.int .i64 (D.wh.skew)), (Value.int .i64 (D.wh.circle)), (Value.int .i64 (D.wh.glo)), (Value.int .i64 (D.wh.ghi)), (Value.int .i64 (D.wh.wrong)), .slice C D.wks.length cc]), .agg #[(Value.int .i64 (x.sense)), (Value.int .i64 (x.side)), (Value.int .i64 (x.inside)), (Value.int .i64 (x.start)), (Value.int .i64 (x.fin)), (Value.int .i64 (c)), (Value.int .i64 (o)), (Value.int .i64 (f))]] w fun e w' => e = .returned (.bool true) ∧ Below w.heap.size w w' := by
  cases hr : rdyB D
  · exact lawMore8_no A B C ca cb cc D w ha hb hc x c o f (.inl hr)
  · by_cases h : c < 0 ∨ (D.cs.length : Int) ≤ c ∨ o < 0 ∨ 2 < o ∨ f < 0 ∨ 14 < f
    · exact lawMore8_no A B C ca cb cc D w ha hb hc x c o f (.inr ⟨hr, h⟩)
    · obtain ⟨k, rfl⟩ := Int.eq_ofNat_of_zero_le (show 0 ≤ c by omega)
      exact lawMore8_ok A B C ca cb cc D w ha hb hc x k o f hr (by omega) (by omega) (by omega) (by omega) (by omega)
end

section
open Go.ChangeAt Go.Deep
variable {H : Type} {enc : TypeId × Value → H}
set_option maxRecDepth 100000 in
theorem open_more {W : World} {r : Reach} {b0 : Nat} {v : Value} {d : DataW H} {p : List MemPlace} (hv : Value.okWide Try.prog W r b0 34 v) (h : DataW.Trod enc Try.prog W 0 (fun _ => true) true 34 v d p) :
    ∃ (x : Wk) (c o f : Int), v = .agg #[(Value.int .i64 (x.sense)), (Value.int .i64 (x.side)), (Value.int .i64 (x.inside)), (Value.int .i64 (x.start)), (Value.int .i64 (x.fin)), (Value.int .i64 (c)), (Value.int .i64 (o)), (Value.int .i64 (f))] := by
  obtain ⟨cs, rfl, hsz⟩ := okWide_struct Try.underlying34 hv
  obtain ⟨cl⟩ := cs
  have hsz2 : cl.length = 8 := hsz.trans (by kernel_rfl)
  match cl, hsz2 with
  | [c0, c1, c2, c3, c4, c5, c6, c7], _ =>
    obtain ⟨fuel, hf⟩ := h
    obtain ⟨xs, m, _, _, _, hlen, hf⟩ := DataW.trod_struct Try.underlying34 hf
    match xs, hlen with
    | [y0, y1, y2, y3], _ =>
      have g0 := hf 0 _ rfl
      have g1 := hf 1 _ rfl
      have g2 := hf 2 _ rfl
      have g3 := hf 3 _ rfl
      have k0 : Try.prog.cellsOf 32 = 5 := by kernel_rfl
      simp only [Value.cells, k0, cellsInt, List.drop_zero, List.take_succ_cons, List.take_zero, List.drop_succ_cons, List.getElem?_cons_zero, List.getElem?_cons_succ] at g0 g1 g2 g3
      obtain ⟨zs, m2, _, _, _, hlen2, hf2⟩ := DataW.trod_struct Try.underlying32 g0
      match zs, hlen2 with
      | [z0, z1, z2, z3, z4], _ =>
        have k0 := hf2 0 _ rfl
        have k1 := hf2 1 _ rfl
        have k2 := hf2 2 _ rfl
        have k3 := hf2 3 _ rfl
        have k4 := hf2 4 _ rfl
        simp only [cellsInt, List.drop_zero, List.take_succ_cons, List.take_zero, List.drop_succ_cons, List.getElem?_cons_zero, List.getElem?_cons_succ] at k0 k1 k2 k3 k4
        obtain ⟨x0, rfl, _⟩ := int_f k0
        obtain ⟨x1, rfl, _⟩ := int_f k1
        obtain ⟨x2, rfl, _⟩ := int_f k2
        obtain ⟨x3, rfl, _⟩ := int_f k3
        obtain ⟨x4, rfl, _⟩ := int_f k4
        obtain ⟨c, rfl, _⟩ := int_f g1
        obtain ⟨o, rfl, _⟩ := int_f g2
        obtain ⟨f, rfl, _⟩ := int_f g3
        exact ⟨⟨x0, x1, x2, x3, x4⟩, c, o, f, rfl⟩
end
section
open Go.ChangeAt
set_option maxRecDepth 100000 in
theorem discordMore_lifted (os : Os) (started : os.Started) (H : Type) (enc : TypeId × Value → H) :
    ReturnsInHanded {} Try.checked os 3 .any (Rows.discordMoreSpec.pre6 enc Try.prog Try.f3 Rows.discordMoreRow.domain false) (Rows.discordMoreSpec.post enc Try.prog Try.f3 false true false false) := by
  refine returnsInHanded_of_change (C := Try.checked) own_knob started (by kernel_rfl) Try.func3
    (ChangeSpec.witness6 (enc := enc) (C := Try.checked) false ⟨#[], #[.agg #[.slice none 0 0, .slice none 0 0, .int .i64 0, .int .i64 0, .int .i64 0, .int .i64 0, .int .i64 0, .int .i64 0, .int .i64 0, .int .i64 0, .int .i64 0, .slice none 0 0], .agg #[.int .i64 0, .int .i64 0, .int .i64 0, .int .i64 0, .int .i64 0, .int .i64 0, .int .i64 0, .int .i64 0]], []⟩ 8 (by kernel_rfl) (by kernel_rfl) (by kernel_rfl) (by kernel_rfl)) ?_
  intro W base args ds gs before hval0 hW hcnd _
  have hval : ∀ (j : Nat) t v, Try.f3.params[j]? = some t → args[j]? = some v → Value.okWide Try.prog W .any base t v := hval0
  have hW2 := hW
  obtain ⟨p, q, hA0, hV, rfl, hfz, hnd⟩ := hW
  have hA : DataW.TrodAll enc Try.prog W 0 (fun _ => true) true Try.f3.params.toList args.toList ds p := hA0
  rw [Try.params3] at hA hval
  obtain ⟨v0, v1, d0, d1, p0, p1, rfl, rfl, rfl, h0, h1⟩ := trodAll_two hA; obtain ⟨A, B, C, ca, cb, cc, D, rfl, hP0, hP1, hP2, hl0, hl1, hl2⟩ := open_dispute (hval 0 _ _ rfl rfl) h0; obtain ⟨x, c, o, f, rfl⟩ := open_more (hval 1 _ _ rfl rfl) h1
  obtain ⟨rfl, rfl⟩ := trodVars_none hV
  clear hA0 hval0
  simp only [List.append_nil, List.nil_append] at hW2
  (try simp only [List.append_nil, List.nil_append] at hA)
  refine (lawMore8_any A B C ca cb cc D W hP0 hP1 hP2 x c o f).mono fun e W2 ⟨he, hb⟩ => ?_
  subst he
  refine ⟨_, rfl, post_of_below (pa := _) (pv := []) hW2 (fun _ _ _ => trodAll_mk1 (shut_bool und_bool _)) (fun sp hs => args_stay hb (by rw [Try.params3]; intro t ht; simp at ht; (try rcases ht with rfl | rfl | rfl) <;> (try rcases ht with rfl | rfl) <;> (try subst ht) <;> exact ⟨by kernel_rfl, by decide +kernel⟩) (by rw [Try.params3]; exact hA) hs) (fun _ _ => rfl) (by simp) hb (ok_one (by kernel_rfl) rfl (okWide_bool_mk und_bool _))⟩

theorem discordMore_holds : Rows.DiscordMoreSaid :=
  OpenClaim.holds_of_wide 3 Try.f3 rfl rfl rfl rfl rfl rfl rfl ⟨rfl, rfl, rfl, rfl, rfl⟩ rfl rfl rfl rfl rfl (by kernel_rfl) Try.func3 (by kernel_rfl)
    (of_decide_eq_true (by kernel_rfl)) (by unfold Func.isWrapper; first | (rw [if_pos (by decide +kernel)]; kernel_rfl) | (rw [if_neg (by decide +kernel)]; exact ⟨rfl, rfl⟩))
    (fun os started H enc _ => discordMore_lifted os started H enc)
end
end Go.Proofs.Ythijegacjboclaa
