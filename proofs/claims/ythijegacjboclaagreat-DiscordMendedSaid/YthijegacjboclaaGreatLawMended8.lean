/- The law DiscordMended answers true for any dispute. -/
import Derived.Test.YthijegacjboclaaGreatMnd8
import Derived.Test.YthijegacjboclaaGreatJPm8
import Derived.Test.YthijegacjboclaaGreatJRsm8
import Derived.Test.YthijegacjboclaaGreatCq8
import Derived.Test.YthijegacjboclaaGreatEx8
import Derived.Test.YthijegacjboclaaGreatFar8
import Derived.Test.YthijegacjboclaaGreatOpd
import Derived.Test.YthijegacjboclaaGreatRows
namespace Go.Proofs.YthijegacjboclaaGreat
open Go.ChangeShapes Go.WideShapes Go.RowKit
attribute [local go_sem] After.cell After.frozen
/-- The first k numbers are 0. -/
def zerTo (l : List Int) (k : Nat) : List Int := List.replicate k 0 ++ l.drop k
theorem zerTo_len {l : List Int} {k : Nat} (h : k ≤ l.length) : (zerTo l k).length = l.length := by
  unfold zerTo
  rw [List.length_append, List.length_replicate, List.length_drop]
  omega
theorem zerTo_succ {l : List Int} {k : Nat} (h : k < l.length) : (zerTo l k).set k 0 = zerTo l (k + 1) := by
  unfold zerTo
  rw [List.set_append_right _ _ (by simp), List.length_replicate, Nat.sub_self, List.drop_eq_getElem_cons h, List.set_cons_zero, List.replicate_succ']
  simp
theorem zerTo_zero (l : List Int) : zerTo l 0 = l := by simp [zerTo]
theorem zer_put {w : World} {B g b k : Nat} {l : List Int} (hk : k < l.length) (h : RowI w B (.slice (some ⟨g, 0, none⟩) l.length b) (zerTo l k)) : RowI (w.setCell ⟨g, k, none⟩ (Value.int .i64 (0))) B (.slice (some ⟨g, 0, none⟩) l.length b) (zerTo l (k + 1)) := by
  have e := zerTo_len (l := l) (k := k) (by omega)
  rw [← e] at h ⊢
  have h1 := RowI.put8 h k 0
  rw [zerTo_succ hk] at h1
  exact h1
theorem zerTo_full (l : List Int) : zerTo l l.length = List.replicate l.length 0 := by simp [zerTo]
def mdE (D : Dsp) (l : List Pt) (k : Nat) : Dsp := ⟨l, zerTo D.offs k, D.unit, D.wh, D.wks⟩
theorem mended_law {D : Dsp} (hD : dspB D = true) {l : List Pt} (h : mendP D l) : lsE (mdE D l D.offs.length) (fwO (mdE D l D.offs.length)) = 0 ∧ lsV (mdE D l D.offs.length) (fwO (mdE D l D.offs.length)) = 0 ∧ bcL (mdE D l D.offs.length) = [] ∧ bwL (mdE D l D.offs.length) = [] := by
  obtain ⟨h1, h2, s, h3, h4, -⟩ := h
  have hE : dspB (mdE D l D.offs.length) = true := by
    have hD' := hD
    simp only [dspB, Bool.and_eq_true, decide_eq_true_eq] at hD ⊢
    obtain ⟨⟨⟨⟨⟨g1, g2⟩, g3⟩, g4⟩, g5⟩, g6⟩ := hD
    refine ⟨⟨⟨⟨⟨h1.2.2, ?_⟩, ?_⟩, ?_⟩, g5⟩, g6⟩
    · show l.length ≤ 6
      rw [h1.1]; exact g2
    · show (zerTo D.offs D.offs.length).length = l.length
      rw [zerTo_len (Nat.le_refl _), h1.1]; exact g3
    · show (zerTo D.offs D.offs.length).all _ = true
      rw [zerTo_full, List.all_eq_true]
      intro x hx
      rw [List.eq_of_mem_replicate hx]
      rfl
  have hT : isT (mdE D l D.offs.length) (tldOf (mdE D l D.offs.length) l s) := by
    refine ⟨l, s, ⟨rfl, fun i hi => ?_, h1.2.2⟩, h2, h3, rfl⟩
    have ho : oat (mdE D l D.offs.length) i = 0 := by
      show (zerTo D.offs D.offs.length).getD i 0 = 0
      rw [zerTo_full, List.getD_eq_getElem?_getD, List.getElem?_replicate]
      split <;> rfl
    unfold near
    rw [ho]
    show (pat l i).1 - 0 ≤ (pat l i).1 ∧ (pat l i).1 ≤ (pat l i).1 + 0 ∧ (pat l i).2 - 0 ≤ (pat l i).2 ∧ (pat l i).2 ≤ (pat l i).2 + 0
    omega
  have h0 : (tldOf (mdE D l D.offs.length) l s).many = 0 := by
    have e1 : wcL (mdE D l D.offs.length) l = [] := by
      unfold wcL
      rw [List.filter_eq_nil_iff]
      intro i _ hi
      have e : wcB (mdE D l D.offs.length) l i = !decide (pat l i = pat l i) := rfl
      rw [e] at hi
      simp at hi
    have e2 : wwL (mdE D l D.offs.length) (arD (mdE D l D.offs.length) l) s = [] := h4
    show (wcL (mdE D l D.offs.length) l).length + (wwL (mdE D l D.offs.length) (arD (mdE D l D.offs.length) l) s).length = 0
    rw [e1, e2]
    rfl
  obtain ⟨-, hb⟩ := blame_law hE
  rcases fw_cases hE with ⟨_, _, no⟩ | ⟨t, ht, e1, v1, -⟩
  · exact absurd hT (no _)
  · have hle := ht.2 _ hT
    have ht0 : t.many = 0 := by omega
    rw [ht0] at v1
    rcases hb with ⟨q1, -⟩ | ⟨n, -, q2, -, -, -, -, -, q8⟩
    · rw [e1] at q1; cases q1
    · rw [v1] at q2
      have hn : n = 0 := by omega
      have h9 := q8.1 hn
      exact ⟨e1, v1, List.eq_nil_of_length_eq_zero (by omega), List.eq_nil_of_length_eq_zero (by omega)⟩
section
variable (A B C : Option Addr) (ca cb cc : Nat) (D : Dsp) (w : World) (ha : Pts w A D.cs) (hb : Ints w B D.offs) (hc : Wks w C D.wks)
include ha hb hc
set_option maxRecDepth 100000 in
set_option maxHeartbeats 8000000 in
theorem lawMended8_any : Calls Tryz.prog 6 #[(Value.agg #[.slice A D.cs.length ca, .slice B D.offs.length cb, (Value.int .i64 (D.unit)), (Value.int .i64 (D.wh.full)), (Value.int .i64 (D.wh.read)), (Value.int .i64 (D.wh.slip)), (Value.int .i64 (D.wh.skew)), (Value.int .i64 (D.wh.circle)), (Value.int .i64 (D.wh.glo)), (Value.int .i64 (D.wh.ghi)), (Value.int .i64 (D.wh.wrong)), .slice C D.wks.length cc])] w fun e w' => e = .returned (.bool true) ∧ Below w.heap.size w w' := by
  have e0 : Blk (w.alloc (.cells #[.slice A D.cs.length ca, .slice B D.offs.length cb, (Value.int .i64 (D.unit)), (Value.int .i64 (D.wh.full)), (Value.int .i64 (D.wh.read)), (Value.int .i64 (D.wh.slip)), (Value.int .i64 (D.wh.skew)), (Value.int .i64 (D.wh.circle)), (Value.int .i64 (D.wh.glo)), (Value.int .i64 (D.wh.ghi)), (Value.int .i64 (D.wh.wrong)), .slice C D.wks.length cc] 30)) w.heap.size 30 #[.slice A D.cs.length ca, .slice B D.offs.length cb, (Value.int .i64 (D.unit)), (Value.int .i64 (D.wh.full)), (Value.int .i64 (D.wh.read)), (Value.int .i64 (D.wh.slip)), (Value.int .i64 (D.wh.skew)), (Value.int .i64 (D.wh.circle)), (Value.int .i64 (D.wh.glo)), (Value.int .i64 (D.wh.ghi)), (Value.int .i64 (D.wh.wrong)), .slice C D.wks.length cc] := Blk.new _ _ _
  have hR := fun (W : World) (h : Below w.heap.size w W) => ready8_any A B C ca cb cc D W (ha.below h) (hb.below h) (hc.below h)
  cases hr : rdyB D
  · rw [hr] at hR
    replace hR := Lib.hid hR
    (have la := e0.lt); (have ya0 := e0.cell 0); (have ya1 := e0.cell 1); (have ya2 := e0.cell 2); (have ya3 := e0.cell 3); (have ya4 := e0.cell 4); (have ya5 := e0.cell 5); (have ya6 := e0.cell 6); (have ya7 := e0.cell 7); (have ya8 := e0.cell 8); (have ya9 := e0.cell 9); (have ya10 := e0.cell 10); (have ya11 := e0.cell 11); simp only [List.getElem?_toArray, List.getElem?_cons_zero, List.getElem?_cons_succ] at ya0 ya1 ya2 ya3 ya4 ya5 ya6 ya7 ya8 ya9 ya10 ya11
    clear ha hb hc
    go_enter Tryz.func6, Tryz.ntmps6
    go_wp2_with (first | ((go_at_call 16); (with_reducible refine Calls.mono (hR.out _ (by (repeat (first | with_reducible exact Below.refl _ _ | with_reducible apply bl_alloc | with_reducible apply bl_drew | with_reducible apply bl_after | (with_reducible refine bl_call ?_ (by assumption)))))) ?_); rintro e wn ⟨rfl, hbn⟩; first | ((with_reducible apply kp_in_step (hb := hbn)); (with_reducible assumption); rintro ⟨hk, hc, hf, hzc, hzf⟩) | ((with_reducible refine kp_in_first hbn ?_); rintro ⟨hk, hc, hf, hzc, hzf⟩)) | ((go_at_call 10); (with_reducible refine Calls.mono (works8_any _) ?_); rintro e wn ⟨rfl, hbn⟩; first | ((with_reducible apply kp_in_step (hb := hbn)); (with_reducible assumption); rintro ⟨hk, hc, hf, hzc, hzf⟩) | ((with_reducible refine kp_in_first hbn ?_); rintro ⟨hk, hc, hf, hzc, hzf⟩)))
    go_ret
    exact ⟨rfl, by (repeat (first | with_reducible exact Below.refl _ _ | with_reducible apply bl_alloc | with_reducible apply bl_drew | with_reducible apply bl_after | (with_reducible refine bl_call ?_ (by assumption))))⟩
  · rw [hr] at hR
    replace hR := Lib.hid hR
    obtain ⟨hD, hg, hl⟩ := rdy_ok hr
    have hok := dsp_ok hD
    have hM := fun (W : World) (h : Below w.heap.size w W) => Mend_any8 A B C ca cb cc D W (ha.below h) (hb.below h) (hc.below h)
    have hC := Lib.hid fun (W : World) (h : Below w.heap.size w W) => rCopy8 A B C ca cb cc D W (ha.below h) (hb.below h) (hc.below h) (by omega) (by omega) (by omega)
    have hIs := Lib.hid fun (W : World) (h : Below w.heap.size w W) (P : Option Addr) (pa : Nat) (l : List Pt) (hp : Pts W P l) (h2 : l.length ≤ 1000000) => rIsField8 A B C ca cb cc D W P pa l (ha.below h) (hb.below h) hok hp h2
    have e0' := Lib.hid e0
    have HD := Lib.hid hD
    clear ha hb hc hr
    have hE : lsE D (cnO D) = 0 ∨ lsE D (cnO D) = 3 := by
      unfold lsE
      rw [if_pos hD]
      split
      · exact .inr rfl
      · exact .inl rfl
    clear hD hg
    have hmr : ∀ l, mendR D l → (lsE D (cnO D) = 0 ∧ mendP D l) ∨ (lsE D (cnO D) ≠ 0 ∧ l = []) := fun l h => h
    rcases hE with hE | hE
    · rw [hE] at hM
      replace hM := Lib.hid hM
      have HM := Lib.hid fun l (h : mendR D l) => (show mendP D l from (hmr l h).elim (fun h => h.2) (fun h => absurd hE h.1))
      have hK := Lib.hid fun (W : World) => isKnown8_any 0 W
      (have la := e0.lt); (have ya0 := e0.cell 0); (have ya1 := e0.cell 1); (have ya2 := e0.cell 2); (have ya3 := e0.cell 3); (have ya4 := e0.cell 4); (have ya5 := e0.cell 5); (have ya6 := e0.cell 6); (have ya7 := e0.cell 7); (have ya8 := e0.cell 8); (have ya9 := e0.cell 9); (have ya10 := e0.cell 10); (have ya11 := e0.cell 11); simp only [List.getElem?_toArray, List.getElem?_cons_zero, List.getElem?_cons_succ] at ya0 ya1 ya2 ya3 ya4 ya5 ya6 ya7 ya8 ya9 ya10 ya11
      clear e0 hE hmr
      go_enter Tryz.func6, Tryz.ntmps6
      go_upto_region 4 with (first | ((go_at_call 16); (with_reducible refine Calls.mono (hR.out _ (by (repeat (first | with_reducible exact Below.refl _ _ | with_reducible apply bl_alloc | with_reducible apply bl_drew | with_reducible apply bl_after | (with_reducible refine bl_call ?_ (by assumption)))))) ?_); rintro e wn ⟨rfl, hbn⟩; first | ((with_reducible apply kp_in_step (hb := hbn)); (with_reducible assumption); rintro ⟨hk, hc, hf, hzc, hzf⟩) | ((with_reducible refine kp_in_first hbn ?_); rintro ⟨hk, hc, hf, hzc, hzf⟩)) | ((go_at_call 28); (with_reducible refine Calls.mono (hM.out _ (by (repeat (first | with_reducible exact Below.refl _ _ | with_reducible apply bl_alloc | with_reducible apply bl_drew | with_reducible apply bl_after | (with_reducible refine bl_call ?_ (by assumption)))))) ?_); rintro e w2 ⟨⟨P, pa, l, rfl, hP, hR2⟩, hb2⟩; first | ((with_reducible apply kp_in_step (hb := hb2)); (with_reducible assumption); rintro ⟨hk, hc, hf, hzc, hzf⟩) | ((with_reducible refine kp_in_first hb2 ?_); rintro ⟨hk, hc, hf, hzc, hzf⟩)))
      have hmp := HM.out l hR2
      have hlen := hmp.1.1
      have hlo := hok.lo
      have h6 := hok.l6
      have hfb := isFB_iff.2 ⟨hmp.1, hmp.2.1⟩
      have hmd := mended_law HD.out hmp
      have hl40 : ¬ (40 : Int) < (l.length : Int) := by omega
      have hB1 : Below ((w.alloc (.cells #[.slice A D.cs.length ca, .slice B D.offs.length cb, (Value.int .i64 (D.unit)), (Value.int .i64 (D.wh.full)), (Value.int .i64 (D.wh.read)), (Value.int .i64 (D.wh.slip)), (Value.int .i64 (D.wh.skew)), (Value.int .i64 (D.wh.circle)), (Value.int .i64 (D.wh.glo)), (Value.int .i64 (D.wh.ghi)), (Value.int .i64 (D.wh.wrong)), .slice C D.wks.length cc] 30))).heap.size (w.alloc (.cells #[.slice A D.cs.length ca, .slice B D.offs.length cb, (Value.int .i64 (D.unit)), (Value.int .i64 (D.wh.full)), (Value.int .i64 (D.wh.read)), (Value.int .i64 (D.wh.slip)), (Value.int .i64 (D.wh.skew)), (Value.int .i64 (D.wh.circle)), (Value.int .i64 (D.wh.glo)), (Value.int .i64 (D.wh.ghi)), (Value.int .i64 (D.wh.wrong)), .slice C D.wks.length cc] 30)) w2 := by (repeat (first | with_reducible exact Below.refl _ _ | with_reducible apply bl_alloc | with_reducible apply bl_drew | with_reducible apply bl_after | (with_reducible refine bl_call ?_ (by assumption))))
      have hbx : Below w.heap.size w w2 := bl_call (by (repeat (first | with_reducible exact Below.refl _ _ | with_reducible apply bl_alloc | with_reducible apply bl_drew | with_reducible apply bl_after | (with_reducible refine bl_call ?_ (by assumption))))) hB1
      have hF := hIs.out w2 hbx P pa l hP (by omega)
      rw [hfb] at hF
      replace hF := Lib.hid fun (W : World) (h : Below w2.heap.size w2 W) => (by
        have h2 := hIs.out W (bl_call hbx h) P pa l (hP.below h) (by omega)
        rw [hfb] at h2
        exact h2 : Calls Tryz.prog 30 #[(Value.agg #[.slice A D.cs.length ca, .slice B D.offs.length cb, (Value.int .i64 (D.unit)), (Value.int .i64 (D.wh.full)), (Value.int .i64 (D.wh.read)), (Value.int .i64 (D.wh.slip)), (Value.int .i64 (D.wh.skew)), (Value.int .i64 (D.wh.circle)), (Value.int .i64 (D.wh.glo)), (Value.int .i64 (D.wh.ghi)), (Value.int .i64 (D.wh.wrong)), .slice C D.wks.length cc]), .slice P l.length pa] W fun e w' => e = .returned (.bool true) ∧ Below W.heap.size W w')
      have hC2 := Lib.hid fun (W : World) (h : Below w2.heap.size w2 W) => hC.out W (bl_call hbx h)
      have v0 := e0'.out.below hB1
      have HL := Lib.hid (And.intro hlen (And.intro hlo h6))
      have HX := Lib.hid (And.intro hmp.1.2.2 (And.intro hmd hbx))
      clear la ya0 ya1 ya2 ya3 ya4 ya5 ya6 ya7 ya8 ya9 ya10 ya11 e0' hB1 hb2 hbx hmp hmd hfb hR2 HM hM hIs hC hlen hlo h6 hR hok
      ((try clear hk hc hf hzc hzf); (try clear hk hc hf hzc hzf); (try clear hk hc hf hzc hzf); (try clear hk hc hf hzc hzf))
      (have la := v0.lt); (have ya0 := v0.cell 0); (have ya1 := v0.cell 1); (have ya2 := v0.cell 2); (have ya3 := v0.cell 3); (have ya4 := v0.cell 4); (have ya5 := v0.cell 5); (have ya6 := v0.cell 6); (have ya7 := v0.cell 7); (have ya8 := v0.cell 8); (have ya9 := v0.cell 9); (have ya10 := v0.cell 10); (have ya11 := v0.cell 11); simp only [List.getElem?_toArray, List.getElem?_cons_zero, List.getElem?_cons_succ] at ya0 ya1 ya2 ya3 ya4 ya5 ya6 ya7 ya8 ya9 ya10 ya11
      clear v0
      go_upto_region 11 with (first | (go_at_call 29; with_reducible refine Calls.mono (hK.out _) ?_; rintro e w' ⟨rfl, rfl⟩) | ((go_at_call 30); (with_reducible refine Calls.mono (hF.out _ (by (repeat (first | with_reducible exact Below.refl _ _ | with_reducible apply bl_alloc | with_reducible apply bl_drew | with_reducible apply bl_after | (with_reducible refine bl_call ?_ (by assumption)))))) ?_); rintro e wn ⟨rfl, hbn⟩; first | ((with_reducible apply kp_in_step (hb := hbn)); (with_reducible assumption); rintro ⟨hk, hc, hf, hzc, hzf⟩) | ((with_reducible refine kp_in_first hbn ?_); rintro ⟨hk, hc, hf, hzc, hzf⟩)) | ((go_at_call 11); (with_reducible refine Calls.mono (hC2.out _ (by (repeat (first | with_reducible exact Below.refl _ _ | with_reducible apply bl_alloc | with_reducible apply bl_drew | with_reducible apply bl_after | (with_reducible refine bl_call ?_ (by assumption)))))) ?_); rintro e w3 ⟨⟨A1, a1, B1, b1, C1, c1, rfl, hr1, hr2, hr3⟩, hb3⟩; first | ((with_reducible apply kp_in_step (hb := hb3)); (with_reducible assumption); rintro ⟨hk, hc, hf, hzc, hzf⟩) | ((with_reducible refine kp_in_first hb3 ?_); rintro ⟨hk, hc, hf, hzc, hzf⟩)))
      obtain ⟨ip, pi, pz0, pz1, pz2⟩ := info_parts infoPt
      obtain ⟨bp, op, rfl, pp⟩ := hP.at_ (k := 0) (by have := HX.out.1.1; omega)
      have hB3 : Below w2.heap.size w2 w3 := by (repeat (first | with_reducible exact Below.refl _ _ | with_reducible apply bl_alloc | with_reducible apply bl_drew | with_reducible apply bl_after | (with_reducible refine bl_call ?_ (by assumption))))
      have hbw3 : Below w.heap.size w w3 := bl_call HX.out.2.2 hB3
      have hP3 := pp.below hB3
      have hr : Own8 D w3 wn.heap.size (.slice A1 D.cs.length a1) (.slice B1 D.offs.length b1) (.slice C1 D.wks.length c1) := ⟨hr1, hr2, hr3⟩
      have hwn : w.heap.size ≤ wn.heap.size := Nat.le_trans HX.out.2.2.size hbn.size
      have hn3 := hb3.size
      have hW1 : Below w3.heap.size w3 (w3.alloc (.cells #[.slice A1 D.cs.length a1, .slice B1 D.offs.length b1, (Value.int .i64 (D.unit)), (Value.int .i64 (D.wh.full)), (Value.int .i64 (D.wh.read)), (Value.int .i64 (D.wh.slip)), (Value.int .i64 (D.wh.skew)), (Value.int .i64 (D.wh.circle)), (Value.int .i64 (D.wh.glo)), (Value.int .i64 (D.wh.ghi)), (Value.int .i64 (D.wh.wrong)), .slice C1 D.wks.length c1] 30)) := by (repeat (first | with_reducible exact Below.refl _ _ | with_reducible apply bl_alloc | with_reducible apply bl_drew | with_reducible apply bl_after | (with_reducible refine bl_call ?_ (by assumption))))
      have k5 : Blk (w3.alloc (.cells #[.slice A1 D.cs.length a1, .slice B1 D.offs.length b1, (Value.int .i64 (D.unit)), (Value.int .i64 (D.wh.full)), (Value.int .i64 (D.wh.read)), (Value.int .i64 (D.wh.slip)), (Value.int .i64 (D.wh.skew)), (Value.int .i64 (D.wh.circle)), (Value.int .i64 (D.wh.glo)), (Value.int .i64 (D.wh.ghi)), (Value.int .i64 (D.wh.wrong)), .slice C1 D.wks.length c1] 30)) w3.heap.size 30 #[.slice A1 D.cs.length a1, .slice B1 D.offs.length b1, (Value.int .i64 (D.unit)), (Value.int .i64 (D.wh.full)), (Value.int .i64 (D.wh.read)), (Value.int .i64 (D.wh.slip)), (Value.int .i64 (D.wh.skew)), (Value.int .i64 (D.wh.circle)), (Value.int .i64 (D.wh.glo)), (Value.int .i64 (D.wh.ghi)), (Value.int .i64 (D.wh.wrong)), .slice C1 D.wks.length c1] := Blk.new _ _ _
      have hr4 := hr.below hW1
      have hP4 := hP3.below hW1
      have hbw4 := bl_call hbw3 hW1
      clear la ya0 ya1 ya2 ya3 ya4 ya5 ya6 ya7 ya8 ya9 ya10 ya11 hr hP3 pp hb3 hbn hB3 hr1 hr2 hr3 hW1 hbw3 hP
      ((try clear hk hc hf hzc hzf); (try clear hk hc hf hzc hzf); (try clear hk hc hf hzc hzf); (try clear hk hc hf hzc hzf))
      generalize hg5 : w3.heap.size = g5 at *
      generalize w3.alloc (.cells #[.slice A1 D.cs.length a1, .slice B1 D.offs.length b1, (Value.int .i64 (D.unit)), (Value.int .i64 (D.wh.full)), (Value.int .i64 (D.wh.read)), (Value.int .i64 (D.wh.slip)), (Value.int .i64 (D.wh.skew)), (Value.int .i64 (D.wh.circle)), (Value.int .i64 (D.wh.glo)), (Value.int .i64 (D.wh.ghi)), (Value.int .i64 (D.wh.wrong)), .slice C1 D.wks.length c1] 30) = W1 at *
      have hl4 : l.length ≤ 6 := by have := HL.out; omega
      have g5W := k5.lt
      have hMk := World.ownsRow_made (base := W1.heap.size) (e := 98) (size := 2) W1 #[] 0 (Nat.le_refl _) (by decide) rfl
      have hc4 : ∀ j u, (ptsV l)[j]? = some u → (W1.alloc (.cells #[] 98)).cell? ((⟨bp, op, none⟩ : Addr).add j) = some u := (hP4.below (bl_alloc (Below.refl _ _))).cellsV
      have K5 := Lib.hid (And.intro k5 (And.intro hr4 hbw4))
      clear hr4 hbw4 hg5
      (have lp := k5.lt); (have yp0 := k5.cell 0); (have yp1 := k5.cell 1); (have yp2 := k5.cell 2); (have yp3 := k5.cell 3); (have yp4 := k5.cell 4); (have yp5 := k5.cell 5); (have yp6 := k5.cell 6); (have yp7 := k5.cell 7); (have yp8 := k5.cell 8); (have yp9 := k5.cell 9); (have yp10 := k5.cell 10); (have yp11 := k5.cell 11); simp only [List.getElem?_toArray, List.getElem?_cons_zero, List.getElem?_cons_succ] at yp0 yp1 yp2 yp3 yp4 yp5 yp6 yp7 yp8 yp9 yp10 yp11
      clear k5
      go_upto_region 12 with (at_builtin; (refine wpList_append_own _ rfl (.tmp 43) (.tmp 44) 22 rfl W1.heap.size 98 ip _ 2 16 undPts pi pz0 pz1 pz2 rfl (by decide) _ 0 [] rfl hMk ⟨bp, op, none⟩ l.length pa (ptsV l) rfl (ptsV_len l) hc4 (ptsV_one l) (by unfold maxLen; omega) (by omega) (by simp) ?_); intro v5 w5 hown hgrow _; (have hb5 : Below W1.heap.size W1 w5 := (bl_alloc (Below.refl _ _)).grown hgrow (by simp) (fun k hk => (hMk.lt k hk).1)); (rw [Nat.zero_add, List.nil_append] at hown); (obtain ⟨A4, a4, rfl, -⟩ := (own_parts hown).2); (have k6 := K5.out.1.below hb5); (have lq := k6.lt); (have yq0 := k6.cell 0); (have yq1 := k6.cell 1); (have yq2 := k6.cell 2); (have yq3 := k6.cell 3); (have yq4 := k6.cell 4); (have yq5 := k6.cell 5); (have yq6 := k6.cell 6); (have yq7 := k6.cell 7); (have yq8 := k6.cell 8); (have yq9 := k6.cell 9); (have yq10 := k6.cell 10); (have yq11 := k6.cell 11); simp only [List.getElem?_toArray, List.getElem?_cons_zero, List.getElem?_cons_succ] at yq0 yq1 yq2 yq3 yq4 yq5 yq6 yq7 yq8 yq9 yq10 yq11; (have f6 := k6.frozen 0))
      have hq : wn.heap.size ≤ W1.heap.size := by omega
      have hq5 : w.heap.size ≤ g5 := by omega
      have hO5 : Own8 (mdE D l 0) w5 wn.heap.size (.slice A4 l.length a4) (.slice B1 D.offs.length b1) (.slice C1 D.wks.length c1) := ⟨own_le8 hown hq, by rw [show (mdE D l 0).offs = D.offs from zerTo_zero _]; exact K5.out.2.1.2.1.below hb5, RowR.below K5.out.2.1.2.2 hb5⟩
      have hO6 := hO5.boxCell k6 0 (.slice A4 l.length a4)
      have k7 : Blk (w5.setCell ⟨g5, 0, none⟩ (.slice A4 l.length a4)) g5 30 #[(.slice A4 l.length a4), (.slice B1 D.offs.length b1), (Value.int .i64 (D.unit)), (Value.int .i64 (D.wh.full)), (Value.int .i64 (D.wh.read)), (Value.int .i64 (D.wh.slip)), (Value.int .i64 (D.wh.skew)), (Value.int .i64 (D.wh.circle)), (Value.int .i64 (D.wh.glo)), (Value.int .i64 (D.wh.ghi)), (Value.int .i64 (D.wh.wrong)), (.slice C1 D.wks.length c1)] := k6.set_ 0 _
      have hw6 := bl_set8c (o := 0) (v := .slice A4 l.length a4) (bl_call K5.out.2.2 hb5) hq5
      clear lp yp0 yp1 yp2 yp3 yp4 yp5 yp6 yp7 yp8 yp9 yp10 yp11 lq yq0 yq1 yq2 yq3 yq4 yq5 yq6 yq7 yq8 yq9 yq10 yq11 f6 k6 hO5 hown hgrow hb5 hMk hc4 hP4 K5
      generalize w5.setCell ⟨g5, 0, none⟩ (.slice A4 l.length a4) = X at *
      obtain ⟨gb, rfl⟩ := rowI_at8 hO6.2.1 (k := 0) (show 0 < (zerTo D.offs 0).length by rw [zerTo_zero]; have := HX.out.1.1; have := HL.out; omega)
      (have lp := k7.lt); (have yp0 := k7.cell 0); (have yp1 := k7.cell 1); (have yp2 := k7.cell 2); (have yp3 := k7.cell 3); (have yp4 := k7.cell 4); (have yp5 := k7.cell 5); (have yp6 := k7.cell 6); (have yp7 := k7.cell 7); (have yp8 := k7.cell 8); (have yp9 := k7.cell 9); (have yp10 := k7.cell 10); (have yp11 := k7.cell 11); simp only [List.getElem?_toArray, List.getElem?_cons_zero, List.getElem?_cons_succ] at yp0 yp1 yp2 yp3 yp4 yp5 yp6 yp7 yp8 yp9 yp10 yp11
      go_wp2
      go_loopg [6] D.offs.length (fun g i wr => ∃ k : Nat, k ≤ D.offs.length ∧ g = D.offs.length - k ∧ i = (Value.int .i64 ((k : Int))) ∧ Own8 (mdE D l k) wr wn.heap.size (.slice A4 l.length a4) (.slice (some ⟨gb, 0, none⟩) D.offs.length b1) (.slice C1 D.wks.length c1) ∧ Blk wr g5 30 #[(.slice A4 l.length a4), (.slice (some ⟨gb, 0, none⟩) D.offs.length b1), (Value.int .i64 (D.unit)), (Value.int .i64 (D.wh.full)), (Value.int .i64 (D.wh.read)), (Value.int .i64 (D.wh.slip)), (Value.int .i64 (D.wh.skew)), (Value.int .i64 (D.wh.circle)), (Value.int .i64 (D.wh.glo)), (Value.int .i64 (D.wh.ghi)), (Value.int .i64 (D.wh.wrong)), (.slice C1 D.wks.length c1)] ∧ Below w.heap.size w wr)
      case atStart => exact ⟨0, by omega, by omega, rfl, hO6, k7, hw6⟩
      case round =>
        clear hO6 k7 hw6 lp yp0 yp1 yp2 yp3 yp4 yp5 yp6 yp7 yp8 yp9 yp10 yp11
        obtain ⟨k, kn, rfl, rfl, hO, k7, hbw⟩ := hrel
        have HO := Lib.hid (And.intro hO (And.intro k7 hbw))
        (have lp := k7.lt); (have yp0 := k7.cell 0); (have yp1 := k7.cell 1); (have yp2 := k7.cell 2); (have yp3 := k7.cell 3); (have yp4 := k7.cell 4); (have yp5 := k7.cell 5); (have yp6 := k7.cell 6); (have yp7 := k7.cell 7); (have yp8 := k7.cell 8); (have yp9 := k7.cell 9); (have yp10 := k7.cell 10); (have yp11 := k7.cell 11); simp only [List.getElem?_toArray, List.getElem?_cons_zero, List.getElem?_cons_succ] at yp0 yp1 yp2 yp3 yp4 yp5 yp6 yp7 yp8 yp9 yp10 yp11
        by_cases hlt : k < D.offs.length
        · obtain ⟨cu, hcu⟩ := own_blk8 hO.2.1
          have fk := hcu.frozen k
          have lk := hcu.lt
          obtain ⟨nk, o3⟩ : ∃ nk, wr.cell? ⟨gb, k, none⟩ = some (Value.int .i64 (nk)) := by
            have h := World.ownsRow.cells hO.2.1 (g := gb) rfl k (Value.int .i64 (iat (zerTo D.offs k) k)) (by
              show (intsV (zerTo D.offs k))[k]? = _
              unfold intsV
              rw [List.getElem?_map, iat_get (by rw [zerTo_len kn]; exact hlt)]
              rfl)
            rw [add_at, Nat.zero_add] at h
            exact ⟨_, h⟩
          have lgb := (World.ownsRow.lt hO.2.1 gb rfl).1
          have i1 : (k : Int) < (D.offs.length : Int) := by omega
          have i0 : (0 : Int) ≤ (k : Int) := by omega
          clear hO k7 hbw hcu
          go_wp2
          go_roundg (D.offs.length - (k + 1))
          case measure => omega
          case rel =>
            have hgr := grown_cell8 wr gb k (Value.int .i64 (0))
            refine ⟨k + 1, by omega, rfl, by go_num, ⟨?_, ?_, ?_⟩, blk_row8 HO.out.1.2.1 HO.out.2.1 (by decide) hgr, bl_set8c HO.out.2.2 (by omega)⟩
            · exact World.ownsRow.kept HO.out.1.1 hgr (own_ne_type HO.out.1.1 HO.out.1.2.1 (by decide))
            · exact zer_put hlt HO.out.1.2.1
            · exact World.ownsRow.kept HO.out.1.2.2 hgr (own_ne_type HO.out.1.2.2 HO.out.1.2.1 (by decide))
        · obtain rfl : k = D.offs.length := by omega
          clear hO k7 hbw
          go_upto_region 16 with fail
          obtain ⟨hO, k7, hbw⟩ := HO.out
          obtain ⟨_, _, e1, p1⟩ := hO.1.parts
          obtain ⟨_, _, e2, p2⟩ := hO.2.1.parts
          obtain ⟨_, _, e3, p3⟩ := RowR.parts8 hO.2.2
          simp only [Value.slice.injEq] at e1 e2 e3
          obtain ⟨rfl, -, -⟩ := e1
          obtain ⟨rfl, -, -⟩ := e2
          obtain ⟨rfl, -, -⟩ := e3
          have el : (mdE D l D.offs.length).offs.length = D.offs.length := zerTo_len (Nat.le_refl _)
          have k8 : Blk wr g5 30 #[.slice A4 (mdE D l D.offs.length).cs.length a4, .slice (some ⟨gb, 0, none⟩) (mdE D l D.offs.length).offs.length b1, (Value.int .i64 ((mdE D l D.offs.length).unit)), (Value.int .i64 ((mdE D l D.offs.length).wh.full)), (Value.int .i64 ((mdE D l D.offs.length).wh.read)), (Value.int .i64 ((mdE D l D.offs.length).wh.slip)), (Value.int .i64 ((mdE D l D.offs.length).wh.skew)), (Value.int .i64 ((mdE D l D.offs.length).wh.circle)), (Value.int .i64 ((mdE D l D.offs.length).wh.glo)), (Value.int .i64 ((mdE D l D.offs.length).wh.ghi)), (Value.int .i64 ((mdE D l D.offs.length).wh.wrong)), .slice C1 (mdE D l D.offs.length).wks.length c1] := by
            rw [el]
            exact k7
          have hF2 := fun (W : World) (h : Below wr.heap.size wr W) => Fewest_any8 A4 (some ⟨gb, 0, none⟩) C1 a4 b1 c1 (mdE D l D.offs.length) W (p1.below h) (p2.below h) (p3.below h)
          have hBl : ∀ (W : World), Below wr.heap.size wr W → Calls Tryz.prog 22 #[(Value.agg #[.slice A4 (mdE D l D.offs.length).cs.length a4, .slice (some ⟨gb, 0, none⟩) (mdE D l D.offs.length).offs.length b1, (Value.int .i64 ((mdE D l D.offs.length).unit)), (Value.int .i64 ((mdE D l D.offs.length).wh.full)), (Value.int .i64 ((mdE D l D.offs.length).wh.read)), (Value.int .i64 ((mdE D l D.offs.length).wh.slip)), (Value.int .i64 ((mdE D l D.offs.length).wh.skew)), (Value.int .i64 ((mdE D l D.offs.length).wh.circle)), (Value.int .i64 ((mdE D l D.offs.length).wh.glo)), (Value.int .i64 ((mdE D l D.offs.length).wh.ghi)), (Value.int .i64 ((mdE D l D.offs.length).wh.wrong)), .slice C1 (mdE D l D.offs.length).wks.length c1])] W fun e w' => (∃ A1 c1 A2 c2, e = .returned (.tuple #[.slice A1 0 c1, .slice A2 0 c2, (Value.int .i64 (0))])) ∧ Below W.heap.size W w' := fun W h =>
            (Blamed_any8 A4 (some ⟨gb, 0, none⟩) C1 a4 b1 c1 (mdE D l D.offs.length) W (p1.below h) (p2.below h) (p3.below h)).mono fun e w' ⟨⟨v1, v2, he, h1, h2⟩, h3⟩ => by
              rw [HX.out.2.1.2.2.1] at h1
              rw [HX.out.2.1.2.2.2] at h2
              rw [HX.out.2.1.1] at he
              obtain ⟨A1, c1, rfl, -⟩ := RowI.parts h1
              obtain ⟨A2, c2, rfl, -⟩ := RowI.parts h2
              exact ⟨⟨A1, c1, A2, c2, he⟩, h3⟩
          rw [HX.out.2.1.1, HX.out.2.1.2.1] at hF2
          replace hF2 := Lib.hid hF2
          replace hBl := Lib.hid hBl
          have hwo := Lib.hid hbw
          clear p1 p2 p3 el k7 hO lp yp0 yp1 yp2 yp3 yp4 yp5 yp6 yp7 yp8 yp9 yp10 yp11 hbw HO
          (have lp := k8.lt); (have yp0 := k8.cell 0); (have yp1 := k8.cell 1); (have yp2 := k8.cell 2); (have yp3 := k8.cell 3); (have yp4 := k8.cell 4); (have yp5 := k8.cell 5); (have yp6 := k8.cell 6); (have yp7 := k8.cell 7); (have yp8 := k8.cell 8); (have yp9 := k8.cell 9); (have yp10 := k8.cell 10); (have yp11 := k8.cell 11); simp only [List.getElem?_toArray, List.getElem?_cons_zero, List.getElem?_cons_succ] at yp0 yp1 yp2 yp3 yp4 yp5 yp6 yp7 yp8 yp9 yp10 yp11
          clear k8
          go_wp2_with (first | ((go_at_call 19); (with_reducible refine Calls.mono (hF2.out _ (by (repeat (first | with_reducible exact Below.refl _ _ | with_reducible apply bl_alloc | with_reducible apply bl_drew | with_reducible apply bl_after | (with_reducible refine bl_call ?_ (by assumption)))))) ?_); rintro e wn ⟨rfl, hbn⟩; first | ((with_reducible apply kp_in_step (hb := hbn)); (with_reducible assumption); rintro ⟨hk, hc, hf, hzc, hzf⟩) | ((with_reducible refine kp_in_first hbn ?_); rintro ⟨hk, hc, hf, hzc, hzf⟩)) | ((go_at_call 22); (with_reducible refine Calls.mono (hBl.out _ (by (repeat (first | with_reducible exact Below.refl _ _ | with_reducible apply bl_alloc | with_reducible apply bl_drew | with_reducible apply bl_after | (with_reducible refine bl_call ?_ (by assumption)))))) ?_); rintro e w9 ⟨⟨A7, c7, A8, c8, rfl⟩, hb9⟩; first | ((with_reducible apply kp_in_step (hb := hb9)); (with_reducible assumption); rintro ⟨hk, hc, hf, hzc, hzf⟩) | ((with_reducible refine kp_in_first hb9 ?_); rintro ⟨hk, hc, hf, hzc, hzf⟩)) | ((go_at_call 10); (with_reducible refine Calls.mono (works8_any _) ?_); rintro e wn ⟨rfl, hbn⟩; first | ((with_reducible apply kp_in_step (hb := hbn)); (with_reducible assumption); rintro ⟨hk, hc, hf, hzc, hzf⟩) | ((with_reducible refine kp_in_first hbn ?_); rintro ⟨hk, hc, hf, hzc, hzf⟩)))
          go_ret
          exact ⟨rfl, bl_call hwo.out (by (repeat (first | with_reducible exact Below.refl _ _ | with_reducible apply bl_alloc | with_reducible apply bl_drew | with_reducible apply bl_after | (with_reducible refine bl_call ?_ (by assumption)))))⟩
    · rw [hE] at hM
      replace hM := Lib.hid hM
      have HM := Lib.hid fun l (h : mendR D l) => (show l = [] from (hmr l h).elim (fun h => by rw [hE] at h; exact absurd h.1 (by decide)) (fun h => h.2))
      have hK := Lib.hid fun (W : World) => isKnown8_any 3 W
      (have la := e0.lt); (have ya0 := e0.cell 0); (have ya1 := e0.cell 1); (have ya2 := e0.cell 2); (have ya3 := e0.cell 3); (have ya4 := e0.cell 4); (have ya5 := e0.cell 5); (have ya6 := e0.cell 6); (have ya7 := e0.cell 7); (have ya8 := e0.cell 8); (have ya9 := e0.cell 9); (have ya10 := e0.cell 10); (have ya11 := e0.cell 11); simp only [List.getElem?_toArray, List.getElem?_cons_zero, List.getElem?_cons_succ] at ya0 ya1 ya2 ya3 ya4 ya5 ya6 ya7 ya8 ya9 ya10 ya11
      clear e0 hE hmr
      go_enter Tryz.func6, Tryz.ntmps6
      go_upto_region 4 with (first | ((go_at_call 16); (with_reducible refine Calls.mono (hR.out _ (by (repeat (first | with_reducible exact Below.refl _ _ | with_reducible apply bl_alloc | with_reducible apply bl_drew | with_reducible apply bl_after | (with_reducible refine bl_call ?_ (by assumption)))))) ?_); rintro e wn ⟨rfl, hbn⟩; first | ((with_reducible apply kp_in_step (hb := hbn)); (with_reducible assumption); rintro ⟨hk, hc, hf, hzc, hzf⟩) | ((with_reducible refine kp_in_first hbn ?_); rintro ⟨hk, hc, hf, hzc, hzf⟩)) | ((go_at_call 28); (with_reducible refine Calls.mono (hM.out _ (by (repeat (first | with_reducible exact Below.refl _ _ | with_reducible apply bl_alloc | with_reducible apply bl_drew | with_reducible apply bl_after | (with_reducible refine bl_call ?_ (by assumption)))))) ?_); rintro e w2 ⟨⟨P, pa, l, rfl, hP, hR2⟩, hb2⟩; first | ((with_reducible apply kp_in_step (hb := hb2)); (with_reducible assumption); rintro ⟨hk, hc, hf, hzc, hzf⟩) | ((with_reducible refine kp_in_first hb2 ?_); rintro ⟨hk, hc, hf, hzc, hzf⟩)))
      obtain rfl := HM.out l hR2
      go_wp2_with (first | (go_at_call 29; with_reducible refine Calls.mono (hK.out _) ?_; rintro e w' ⟨rfl, rfl⟩) | ((go_at_call 10); (with_reducible refine Calls.mono (works8_any _) ?_); rintro e wn ⟨rfl, hbn⟩; first | ((with_reducible apply kp_in_step (hb := hbn)); (with_reducible assumption); rintro ⟨hk, hc, hf, hzc, hzf⟩) | ((with_reducible refine kp_in_first hbn ?_); rintro ⟨hk, hc, hf, hzc, hzf⟩)))
      go_ret
      exact ⟨rfl, by (repeat (first | with_reducible exact Below.refl _ _ | with_reducible apply bl_alloc | with_reducible apply bl_drew | with_reducible apply bl_after | (with_reducible refine bl_call ?_ (by assumption))))⟩
end
section
open Go.ChangeAt
set_option maxRecDepth 100000 in
theorem discordMended_lifted (os : Os) (started : os.Started) (H : Type) (enc : TypeId × Value → H) :
    ReturnsInHanded {} Tryz.checked os 6 .any (Rows.discordMendedSpec.pre6 enc Tryz.prog Tryz.f6 Rows.discordMendedRow.domain false) (Rows.discordMendedSpec.post enc Tryz.prog Tryz.f6 false true false false) := by
  refine returnsInHanded_of_change (C := Tryz.checked) own_knob started (by kernel_rfl) Tryz.func6
    (ChangeSpec.witness6 (enc := enc) (C := Tryz.checked) false ⟨#[], #[.agg #[.slice none 0 0, .slice none 0 0, .int .i64 0, .int .i64 0, .int .i64 0, .int .i64 0, .int .i64 0, .int .i64 0, .int .i64 0, .int .i64 0, .int .i64 0, .slice none 0 0]], []⟩ 8 (by kernel_rfl) (by kernel_rfl) (by kernel_rfl) (by kernel_rfl)) ?_
  intro W base args ds gs before hval0 hW hcnd _
  have hval : ∀ (j : Nat) t v, Tryz.f6.params[j]? = some t → args[j]? = some v → Value.okWide Tryz.prog W .any base t v := hval0
  have hW2 := hW
  obtain ⟨p, q, hA0, hV, rfl, hfz, hnd⟩ := hW
  have hA : DataW.TrodAll enc Tryz.prog W 0 (fun _ => true) true Tryz.f6.params.toList args.toList ds p := hA0
  rw [Tryz.params6] at hA hval
  obtain ⟨v0, d0, rfl, rfl, h0⟩ := trodAll_one hA; obtain ⟨A, B, C, ca, cb, cc, D, rfl, hP0, hP1, hP2, hl0, hl1, hl2⟩ := open_dispute (hval 0 _ _ rfl rfl) h0
  obtain ⟨rfl, rfl⟩ := trodVars_none hV
  clear hA0 hval0
  simp only [List.append_nil, List.nil_append] at hW2
  (try simp only [List.append_nil, List.nil_append] at hA)
  refine (lawMended8_any A B C ca cb cc D W hP0 hP1 hP2).mono fun e W2 ⟨he, hb⟩ => ?_
  subst he
  refine ⟨_, rfl, post_of_below (pa := _) (pv := []) hW2 (fun _ _ _ => trodAll_mk1 (shut_bool und_bool _)) (fun sp hs => args_stay hb (by rw [Tryz.params6]; intro t ht; simp at ht; (try rcases ht with rfl | rfl | rfl) <;> (try rcases ht with rfl | rfl) <;> (try subst ht) <;> exact ⟨by kernel_rfl, by decide +kernel⟩) (by rw [Tryz.params6]; exact hA) hs) (fun _ _ => rfl) (by simp) hb (ok_one (by kernel_rfl) rfl (okWide_bool_mk und_bool _))⟩

theorem discordMended_holds : Rows.DiscordMendedSaid :=
  OpenClaim.holds_of_wide 6 Tryz.f6 rfl rfl rfl rfl rfl rfl rfl ⟨rfl, rfl, rfl, rfl, rfl⟩ rfl rfl rfl rfl rfl (by kernel_rfl) Tryz.func6 (by kernel_rfl)
    (of_decide_eq_true (by kernel_rfl)) (by unfold Func.isWrapper; first | (rw [if_pos (by decide +kernel)]; kernel_rfl) | (rw [if_neg (by decide +kernel)]; exact ⟨rfl, rfl⟩))
    (fun os started H enc _ => discordMended_lifted os started H enc)
end
end Go.Proofs.YthijegacjboclaaGreat
