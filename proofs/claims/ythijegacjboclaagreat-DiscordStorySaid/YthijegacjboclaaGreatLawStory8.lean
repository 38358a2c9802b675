/- The law DiscordStory answers true for any dispute and story. -/
import Derived.Test.YthijegacjboclaaGreatJPs8
import Derived.Test.YthijegacjboclaaGreatJRst8
import Derived.Test.YthijegacjboclaaGreatEx8
import Derived.Test.YthijegacjboclaaGreatFar8
import Derived.Test.YthijegacjboclaaGreatOpd
import Derived.Test.YthijegacjboclaaGreatRows
namespace Go.Proofs.YthijegacjboclaaGreat
open Go.ChangeShapes Go.WideShapes Go.RowKit
attribute [local go_sem] After.cell After.frozen
section
variable (A B C : Option Addr) (ca cb cc : Nat) (D : Dsp) (w : World) (P : Option Addr) (pa : Nat) (l : List Pt) (s : Int) (ha : Pts w A D.cs) (hb : Ints w B D.offs) (hc : Wks w C D.wks) (hp : Pts w P l)
include ha hb hc hp
set_option maxRecDepth 100000 in
set_option maxHeartbeats 4000000 in
theorem lawStory8_no (h0 : rdyB D = false ∨ (rdyB D = true ∧ (40 < l.length ∨ (l.length ≤ 40 ∧ (isFB D l && within s (-D.wh.skew) D.wh.skew) = false)))) (hl : l.length ≤ 9223372036854775807) :
    Calls Tryz.prog 4 #[(Value.agg #[.slice A D.cs.length ca, .slice B D.offs.length cb, (Value.int .i64 (D.unit)), (Value.int .i64 (D.wh.full)), (Value.int .i64 (D.wh.read)), (Value.int .i64 (D.wh.slip)), (Value.int .i64 (D.wh.skew)), (Value.int .i64 (D.wh.circle)), (Value.int .i64 (D.wh.glo)), (Value.int .i64 (D.wh.ghi)), (Value.int .i64 (D.wh.wrong)), .slice C D.wks.length cc]), .agg #[.slice P l.length pa, (Value.int .i64 (s))]] w fun e w' => e = .returned (.bool true) ∧ Below w.heap.size w w' := by
  have e0 : Blk ((w.alloc (.cells #[.slice A D.cs.length ca, .slice B D.offs.length cb, (Value.int .i64 (D.unit)), (Value.int .i64 (D.wh.full)), (Value.int .i64 (D.wh.read)), (Value.int .i64 (D.wh.slip)), (Value.int .i64 (D.wh.skew)), (Value.int .i64 (D.wh.circle)), (Value.int .i64 (D.wh.glo)), (Value.int .i64 (D.wh.ghi)), (Value.int .i64 (D.wh.wrong)), .slice C D.wks.length cc] 30)).alloc (.cells #[.slice P l.length pa, (Value.int .i64 (s))] 41)) w.heap.size 30 #[.slice A D.cs.length ca, .slice B D.offs.length cb, (Value.int .i64 (D.unit)), (Value.int .i64 (D.wh.full)), (Value.int .i64 (D.wh.read)), (Value.int .i64 (D.wh.slip)), (Value.int .i64 (D.wh.skew)), (Value.int .i64 (D.wh.circle)), (Value.int .i64 (D.wh.glo)), (Value.int .i64 (D.wh.ghi)), (Value.int .i64 (D.wh.wrong)), .slice C D.wks.length cc] := (Blk.new _ _ _).alloc _
  have e1 : Blk ((w.alloc (.cells #[.slice A D.cs.length ca, .slice B D.offs.length cb, (Value.int .i64 (D.unit)), (Value.int .i64 (D.wh.full)), (Value.int .i64 (D.wh.read)), (Value.int .i64 (D.wh.slip)), (Value.int .i64 (D.wh.skew)), (Value.int .i64 (D.wh.circle)), (Value.int .i64 (D.wh.glo)), (Value.int .i64 (D.wh.ghi)), (Value.int .i64 (D.wh.wrong)), .slice C D.wks.length cc] 30)).alloc (.cells #[.slice P l.length pa, (Value.int .i64 (s))] 41)) (w.heap.size + 1) 41 #[.slice P l.length pa, (Value.int .i64 (s))] := blk_new_at (by simp)
  have hR := fun (W : World) (h : Below w.heap.size w W) => ready8_any A B C ca cb cc D W (ha.below h) (hb.below h) (hc.below h)
  (have la := e0.lt); (have ya0 := e0.cell 0); (have ya1 := e0.cell 1); (have ya2 := e0.cell 2); (have ya3 := e0.cell 3); (have ya4 := e0.cell 4); (have ya5 := e0.cell 5); (have ya6 := e0.cell 6); (have ya7 := e0.cell 7); (have ya8 := e0.cell 8); (have ya9 := e0.cell 9); (have ya10 := e0.cell 10); (have ya11 := e0.cell 11); simp only [List.getElem?_toArray, List.getElem?_cons_zero, List.getElem?_cons_succ] at ya0 ya1 ya2 ya3 ya4 ya5 ya6 ya7 ya8 ya9 ya10 ya11
  (have lb := e1.lt); (have yb0 := e1.cell 0); (have yb1 := e1.cell 1); simp only [List.getElem?_toArray, List.getElem?_cons_zero, List.getElem?_cons_succ] at yb0 yb1
  rcases h0 with hr | ⟨hr, h0⟩
  · rw [hr] at hR
    replace hR := Lib.hid hR
    clear ha hb hc hp
    go_enter Tryz.func4, Tryz.ntmps4
    go_wp2_with (first | ((go_at_call 16); (with_reducible refine Calls.mono (hR.out _ (by (repeat (first | with_reducible exact Below.refl _ _ | with_reducible apply bl_alloc | with_reducible apply bl_drew | with_reducible apply bl_after | (with_reducible refine bl_call ?_ (by assumption)))))) ?_); rintro e wn ⟨rfl, hbn⟩; first | ((with_reducible apply kp_in_step (hb := hbn)); (with_reducible assumption); rintro ⟨hk, hc, hf, hzc, hzf⟩) | ((with_reducible refine kp_in_first hbn ?_); rintro ⟨hk, hc, hf, hzc, hzf⟩)) | ((go_at_call 10); (with_reducible refine Calls.mono (works8_any _) ?_); rintro e wn ⟨rfl, hbn⟩; first | ((with_reducible apply kp_in_step (hb := hbn)); (with_reducible assumption); rintro ⟨hk, hc, hf, hzc, hzf⟩) | ((with_reducible refine kp_in_first hbn ?_); rintro ⟨hk, hc, hf, hzc, hzf⟩)))
    go_ret
    exact ⟨rfl, by (repeat (first | with_reducible exact Below.refl _ _ | with_reducible apply bl_alloc | with_reducible apply bl_drew | with_reducible apply bl_after | (with_reducible refine bl_call ?_ (by assumption))))⟩
  · rw [hr] at hR
    replace hR := Lib.hid hR
    rcases h0 with h40 | ⟨h40, h0⟩
    · have h40' : (40 : Int) < (l.length : Int) := by omega
      clear ha hb hc hp
      go_enter Tryz.func4, Tryz.ntmps4
      go_wp2_with (first | ((go_at_call 16); (with_reducible refine Calls.mono (hR.out _ (by (repeat (first | with_reducible exact Below.refl _ _ | with_reducible apply bl_alloc | with_reducible apply bl_drew | with_reducible apply bl_after | (with_reducible refine bl_call ?_ (by assumption)))))) ?_); rintro e wn ⟨rfl, hbn⟩; first | ((with_reducible apply kp_in_step (hb := hbn)); (with_reducible assumption); rintro ⟨hk, hc, hf, hzc, hzf⟩) | ((with_reducible refine kp_in_first hbn ?_); rintro ⟨hk, hc, hf, hzc, hzf⟩)) | ((go_at_call 10); (with_reducible refine Calls.mono (works8_any _) ?_); rintro e wn ⟨rfl, hbn⟩; first | ((with_reducible apply kp_in_step (hb := hbn)); (with_reducible assumption); rintro ⟨hk, hc, hf, hzc, hzf⟩) | ((with_reducible refine kp_in_first hbn ?_); rintro ⟨hk, hc, hf, hzc, hzf⟩)))
      go_ret
      exact ⟨rfl, by (repeat (first | with_reducible exact Below.refl _ _ | with_reducible apply bl_alloc | with_reducible apply bl_drew | with_reducible apply bl_after | (with_reducible refine bl_call ?_ (by assumption))))⟩
    · have h40' : ¬ (40 : Int) < (l.length : Int) := by omega
      have hS := fun (W : World) (h : Below w.heap.size w W) => rIsStory8 A B C ca cb cc D W P pa l s (ha.below h) (hb.below h) (hp.below h) (dsp_ok (rdy_ok hr).1) (by omega)
      rw [h0] at hS
      replace hS := Lib.hid hS
      clear ha hb hc hp h0 h40 hr
      go_enter Tryz.func4, Tryz.ntmps4
      go_wp2_with (first | ((go_at_call 16); (with_reducible refine Calls.mono (hR.out _ (by (repeat (first | with_reducible exact Below.refl _ _ | with_reducible apply bl_alloc | with_reducible apply bl_drew | with_reducible apply bl_after | (with_reducible refine bl_call ?_ (by assumption)))))) ?_); rintro e wn ⟨rfl, hbn⟩; first | ((with_reducible apply kp_in_step (hb := hbn)); (with_reducible assumption); rintro ⟨hk, hc, hf, hzc, hzf⟩) | ((with_reducible refine kp_in_first hbn ?_); rintro ⟨hk, hc, hf, hzc, hzf⟩)) | ((go_at_call 17); (with_reducible refine Calls.mono (hS.out _ (by (repeat (first | with_reducible exact Below.refl _ _ | with_reducible apply bl_alloc | with_reducible apply bl_drew | with_reducible apply bl_after | (with_reducible refine bl_call ?_ (by assumption)))))) ?_); rintro e wn ⟨rfl, hbn⟩; first | ((with_reducible apply kp_in_step (hb := hbn)); (with_reducible assumption); rintro ⟨hk, hc, hf, hzc, hzf⟩) | ((with_reducible refine kp_in_first hbn ?_); rintro ⟨hk, hc, hf, hzc, hzf⟩)) | ((go_at_call 10); (with_reducible refine Calls.mono (works8_any _) ?_); rintro e wn ⟨rfl, hbn⟩; first | ((with_reducible apply kp_in_step (hb := hbn)); (with_reducible assumption); rintro ⟨hk, hc, hf, hzc, hzf⟩) | ((with_reducible refine kp_in_first hbn ?_); rintro ⟨hk, hc, hf, hzc, hzf⟩)))
      go_ret
      exact ⟨rfl, by (repeat (first | with_reducible exact Below.refl _ _ | with_reducible apply bl_alloc | with_reducible apply bl_drew | with_reducible apply bl_after | (with_reducible refine bl_call ?_ (by assumption))))⟩
set_option maxRecDepth 100000 in
set_option maxHeartbeats 8000000 in
theorem lawStory8_ok (hr : rdyB D = true) (h40 : l.length ≤ 40) (h0 : (isFB D l && within s (-D.wh.skew) D.wh.skew) = true) :
    Calls Tryz.prog 4 #[(Value.agg #[.slice A D.cs.length ca, .slice B D.offs.length cb, (Value.int .i64 (D.unit)), (Value.int .i64 (D.wh.full)), (Value.int .i64 (D.wh.read)), (Value.int .i64 (D.wh.slip)), (Value.int .i64 (D.wh.skew)), (Value.int .i64 (D.wh.circle)), (Value.int .i64 (D.wh.glo)), (Value.int .i64 (D.wh.ghi)), (Value.int .i64 (D.wh.wrong)), .slice C D.wks.length cc]), .agg #[.slice P l.length pa, (Value.int .i64 (s))]] w fun e w' => e = .returned (.bool true) ∧ Below w.heap.size w w' := by
  have e0 : Blk ((w.alloc (.cells #[.slice A D.cs.length ca, .slice B D.offs.length cb, (Value.int .i64 (D.unit)), (Value.int .i64 (D.wh.full)), (Value.int .i64 (D.wh.read)), (Value.int .i64 (D.wh.slip)), (Value.int .i64 (D.wh.skew)), (Value.int .i64 (D.wh.circle)), (Value.int .i64 (D.wh.glo)), (Value.int .i64 (D.wh.ghi)), (Value.int .i64 (D.wh.wrong)), .slice C D.wks.length cc] 30)).alloc (.cells #[.slice P l.length pa, (Value.int .i64 (s))] 41)) w.heap.size 30 #[.slice A D.cs.length ca, .slice B D.offs.length cb, (Value.int .i64 (D.unit)), (Value.int .i64 (D.wh.full)), (Value.int .i64 (D.wh.read)), (Value.int .i64 (D.wh.slip)), (Value.int .i64 (D.wh.skew)), (Value.int .i64 (D.wh.circle)), (Value.int .i64 (D.wh.glo)), (Value.int .i64 (D.wh.ghi)), (Value.int .i64 (D.wh.wrong)), .slice C D.wks.length cc] := (Blk.new _ _ _).alloc _
  have e1 : Blk ((w.alloc (.cells #[.slice A D.cs.length ca, .slice B D.offs.length cb, (Value.int .i64 (D.unit)), (Value.int .i64 (D.wh.full)), (Value.int .i64 (D.wh.read)), (Value.int .i64 (D.wh.slip)), (Value.int .i64 (D.wh.skew)), (Value.int .i64 (D.wh.circle)), (Value.int .i64 (D.wh.glo)), (Value.int .i64 (D.wh.ghi)), (Value.int .i64 (D.wh.wrong)), .slice C D.wks.length cc] 30)).alloc (.cells #[.slice P l.length pa, (Value.int .i64 (s))] 41)) (w.heap.size + 1) 41 #[.slice P l.length pa, (Value.int .i64 (s))] := blk_new_at (by simp)
  have hR := fun (W : World) (h : Below w.heap.size w W) => ready8_any A B C ca cb cc D W (ha.below h) (hb.below h) (hc.below h)
  obtain ⟨hD, hg, hl⟩ := rdy_ok hr
  have hok := dsp_ok hD
  have hS := fun (W : World) (h : Below w.heap.size w W) => rIsStory8 A B C ca cb cc D W P pa l s (ha.below h) (hb.below h) (hp.below h) hok (by omega)
  rw [h0] at hS
  rw [hr] at hR
  rw [Bool.and_eq_true] at h0
  obtain ⟨f1, f2⟩ := isFB_iff.1 h0.1
  have f3 : skwP D s := by have := h0.2; simpa [within, skwP] using this
  have s20 : -20 ≤ s ∧ s ≤ 20 := by have := hok.wh.k1; have h1 := f3.1; have h2 := f3.2; omega
  have hFa := fun (W : World) (h : Below w.heap.size w W) => rFaults8 A B C ca cb cc D W P pa l s (ha.below h) (hc.below h) (hp.below h) hok f1.1 f1.2.2 f2 s20
  have hF := fun (W : World) (h : Below w.heap.size w W) => Fewest_any8 A B C ca cb cc D W (ha.below h) (hb.below h) (hc.below h)
  have hAk := fun (k : Int) (W : World) (h : Below w.heap.size w W) => Areas_any8 A B C ca cb cc D k W (ha.below h) (hb.below h) (hc.below h)
  have hAo := Lib.hid fun (W : World) (h : Below w.heap.size w W) => rAreaOf8 A B C ca cb cc D W P pa l hok (hp.below h) f1.2.2
  have hWC := Lib.hid fun (W : World) (h : Below w.heap.size w W) => (rWrongCorners8 A B C ca cb cc D W P pa l s (ha.below h) (hp.below h) f1.1 (by omega)).mono fun e w' ⟨⟨v, he, h1⟩, h2⟩ => (show (∃ A1 c1, e = Ending.returned (.slice A1 (natI (wcL D l)).length c1) ∧ Ints w' A1 (natI (wcL D l))) ∧ Below W.heap.size W w' from by
    obtain ⟨A1, c1, rfl, i1⟩ := RowI.parts h1
    exact ⟨⟨A1, c1, he, i1⟩, h2⟩)
  have hWW := Lib.hid fun (W : World) (h : Below w.heap.size w W) => (rWrongWalks8 A B C ca cb cc D W P pa l s (hc.below h) (hp.below h) hok f1.2.2 f2 s20).mono fun e w' ⟨⟨v, he, h1⟩, h2⟩ => (show (∃ A1 c1, e = Ending.returned (.slice A1 (natI (wwL D (arD D l) s)).length c1) ∧ Ints w' A1 (natI (wwL D (arD D l) s))) ∧ Below W.heap.size W w' from by
    obtain ⟨A1, c1, rfl, i1⟩ := RowI.parts h1
    exact ⟨⟨A1, c1, he, i1⟩, h2⟩)
  have hBl : ∀ (W : World), Below w.heap.size w W → Calls Tryz.prog 22 #[(Value.agg #[.slice A D.cs.length ca, .slice B D.offs.length cb, (Value.int .i64 (D.unit)), (Value.int .i64 (D.wh.full)), (Value.int .i64 (D.wh.read)), (Value.int .i64 (D.wh.slip)), (Value.int .i64 (D.wh.skew)), (Value.int .i64 (D.wh.circle)), (Value.int .i64 (D.wh.glo)), (Value.int .i64 (D.wh.ghi)), (Value.int .i64 (D.wh.wrong)), .slice C D.wks.length cc])] W fun e w' => (∃ A1 c1 A2 c2, e = .returned (.tuple #[.slice A1 (natI (bcL D)).length c1, .slice A2 (natI (bwL D)).length c2, (Value.int .i64 (lsE D (fwO D)))]) ∧ Ints w' A1 (natI (bcL D)) ∧ Ints w' A2 (natI (bwL D))) ∧ Below W.heap.size W w' := fun W h =>
    (Blamed_any8 A B C ca cb cc D W (ha.below h) (hb.below h) (hc.below h)).mono fun e w' ⟨⟨v1, v2, he, h1, h2⟩, h3⟩ => by
      obtain ⟨A1, c1, rfl, i1⟩ := RowI.parts h1
      obtain ⟨A2, c2, rfl, i2⟩ := RowI.parts h2
      exact ⟨⟨A1, c1, A2, c2, he, i1, i2⟩, h3⟩
  have hSu : ∀ (W : World), Below w.heap.size w W → Calls Tryz.prog 23 #[(Value.agg #[.slice A D.cs.length ca, .slice B D.offs.length cb, (Value.int .i64 (D.unit)), (Value.int .i64 (D.wh.full)), (Value.int .i64 (D.wh.read)), (Value.int .i64 (D.wh.slip)), (Value.int .i64 (D.wh.skew)), (Value.int .i64 (D.wh.circle)), (Value.int .i64 (D.wh.glo)), (Value.int .i64 (D.wh.ghi)), (Value.int .i64 (D.wh.wrong)), .slice C D.wks.length cc])] W fun e w' => (∃ A1 c1 A2 c2, e = .returned (.tuple #[.slice A1 (natI (scL D)).length c1, .slice A2 (natI (swL D)).length c2, (Value.int .i64 (lsE D (fwO D)))]) ∧ Ints w' A1 (natI (scL D)) ∧ Ints w' A2 (natI (swL D))) ∧ Below W.heap.size W w' := fun W h =>
    (Sure_any8 A B C ca cb cc D W (ha.below h) (hb.below h) (hc.below h)).mono fun e w' ⟨⟨v1, v2, he, h1, h2⟩, h3⟩ => by
      obtain ⟨A1, c1, rfl, i1⟩ := RowI.parts h1
      obtain ⟨A2, c2, rfl, i2⟩ := RowI.parts h2
      exact ⟨⟨A1, c1, A2, c2, he, i1, i2⟩, h3⟩
  obtain ⟨⟨m1, m2, m3, m4⟩, -⟩ := blame_law hD
  have m5 := wcL_len D l
  have m6 := wwL_len D (arD D l) s
  have n1 : (natI (bcL D)).length ≤ 40 := by rw [natI_len]; exact m1
  have n2 : (natI (bwL D)).length ≤ 40 := by rw [natI_len]; exact m2
  have n3 : (natI (scL D)).length ≤ 40 := by rw [natI_len]; exact m3
  have n4 : (natI (swL D)).length ≤ 40 := by rw [natI_len]; exact m4
  have n5 : (natI (wcL D l)).length ≤ 40 := by rw [natI_len]; have := hok.l6; omega
  have n6 : (natI (wwL D (arD D l) s)).length ≤ 40 := by rw [natI_len]; have := hok.l8; omega
  obtain ⟨n, t, hte, q1, q2, q3, q4, q5, q6, q7, q8, q9⟩ := story_law hD hg f1 f2 f3
  rw [← hte] at hFa
  rw [q1, q2] at hF
  rw [q1] at hBl hSu
  have hAt := hAk t
  rw [q5] at hAt
  have hA1 := hAk ((n : Int) - 1)
  clear hte hAk ha hb hc hp hr hD hg hl hok h0 f1 f2 f3 s20 m1 m2 m3 m4 m5 m6 q1 q2 q5
  generalize natI (bcL D) = l1 at *
  generalize natI (bwL D) = l2 at *
  generalize natI (scL D) = l3 at *
  generalize natI (swL D) = l4 at *
  generalize natI (wcL D l) = l5 at *
  generalize natI (wwL D (arD D l) s) = l6 at *
  generalize arD D l = ar at *
  generalize arV D (t : Int) = LA at *
  have hIn := Lib.hid fun (Q : Option Addr) (cq : Nat) (W : World) (hq : Ints W Q LA) => (by
    have h := in8_any Q cq LA ar W hq (by omega)
    rw [decide_eq_true q6] at h
    exact h : Calls Tryz.prog 20 #[.slice Q LA.length cq, (Value.int .i64 (ar))] W fun e w' => e = .returned (.bool true) ∧ Below W.heap.size W w')
  have l300 : ¬ (300 : Int) < (LA.length : Int) := by omega
  have hnt : ¬ (t : Int) < (n : Int) := by omega
  have h40' : ¬ (40 : Int) < (l.length : Int) := by omega
  have E0 := Lib.hid (And.intro e0 e1)
  have t40 : (l1.length : Int) ≤ 40 ∧ (l2.length : Int) ≤ 40 ∧ (l3.length : Int) ≤ 40 ∧ (l4.length : Int) ≤ 40 := by omega
  obtain ⟨t41, t42, t43, t44⟩ := t40
  replace hR := Lib.hid hR
  replace hS := Lib.hid hS
  replace hFa := Lib.hid hFa
  replace hF := Lib.hid hF
  replace hAt := Lib.hid hAt
  replace hBl := Lib.hid hBl
  replace hSu := Lib.hid hSu
  (have la := e0.lt); (have ya0 := e0.cell 0); (have ya1 := e0.cell 1); (have ya2 := e0.cell 2); (have ya3 := e0.cell 3); (have ya4 := e0.cell 4); (have ya5 := e0.cell 5); (have ya6 := e0.cell 6); (have ya7 := e0.cell 7); (have ya8 := e0.cell 8); (have ya9 := e0.cell 9); (have ya10 := e0.cell 10); (have ya11 := e0.cell 11); simp only [List.getElem?_toArray, List.getElem?_cons_zero, List.getElem?_cons_succ] at ya0 ya1 ya2 ya3 ya4 ya5 ya6 ya7 ya8 ya9 ya10 ya11
  (have lb := e1.lt); (have yb0 := e1.cell 0); (have yb1 := e1.cell 1); simp only [List.getElem?_toArray, List.getElem?_cons_zero, List.getElem?_cons_succ] at yb0 yb1
  go_enter Tryz.func4, Tryz.ntmps4
  go_upto_region 8 with (first | ((go_at_call 16); (with_reducible refine Calls.mono (hR.out _ (by (repeat (first | with_reducible exact Below.refl _ _ | with_reducible apply bl_alloc | with_reducible apply bl_drew | with_reducible apply bl_after | (with_reducible refine bl_call ?_ (by assumption)))))) ?_); rintro e wn ⟨rfl, hbn⟩; first | ((with_reducible apply kp_in_step (hb := hbn)); (with_reducible assumption); rintro ⟨hk, hc, hf, hzc, hzf⟩) | ((with_reducible refine kp_in_first hbn ?_); rintro ⟨hk, hc, hf, hzc, hzf⟩)) | ((go_at_call 17); (with_reducible refine Calls.mono (hS.out _ (by (repeat (first | with_reducible exact Below.refl _ _ | with_reducible apply bl_alloc | with_reducible apply bl_drew | with_reducible apply bl_after | (with_reducible refine bl_call ?_ (by assumption)))))) ?_); rintro e wn ⟨rfl, hbn⟩; first | ((with_reducible apply kp_in_step (hb := hbn)); (with_reducible assumption); rintro ⟨hk, hc, hf, hzc, hzf⟩) | ((with_reducible refine kp_in_first hbn ?_); rintro ⟨hk, hc, hf, hzc, hzf⟩)) | ((go_at_call 18); (with_reducible refine Calls.mono (hFa.out _ (by (repeat (first | with_reducible exact Below.refl _ _ | with_reducible apply bl_alloc | with_reducible apply bl_drew | with_reducible apply bl_after | (with_reducible refine bl_call ?_ (by assumption)))))) ?_); rintro e wn ⟨rfl, hbn⟩; first | ((with_reducible apply kp_in_step (hb := hbn)); (with_reducible assumption); rintro ⟨hk, hc, hf, hzc, hzf⟩) | ((with_reducible refine kp_in_first hbn ?_); rintro ⟨hk, hc, hf, hzc, hzf⟩)) | ((go_at_call 19); (with_reducible refine Calls.mono (hF.out _ (by (repeat (first | with_reducible exact Below.refl _ _ | with_reducible apply bl_alloc | with_reducible apply bl_drew | with_reducible apply bl_after | (with_reducible refine bl_call ?_ (by assumption)))))) ?_); rintro e wn ⟨rfl, hbn⟩; first | ((with_reducible apply kp_in_step (hb := hbn)); (with_reducible assumption); rintro ⟨hk, hc, hf, hzc, hzf⟩) | ((with_reducible refine kp_in_first hbn ?_); rintro ⟨hk, hc, hf, hzc, hzf⟩)) | ((go_at_call 12); (with_reducible refine Calls.mono (hAt.out _ (by (repeat (first | with_reducible exact Below.refl _ _ | with_reducible apply bl_alloc | with_reducible apply bl_drew | with_reducible apply bl_after | (with_reducible refine bl_call ?_ (by assumption)))))) ?_); rintro e4 w4 ⟨⟨A7, a7, rfl, hi7⟩, hb7⟩; first | ((with_reducible apply kp_in_step (hb := hb7)); (with_reducible assumption); rintro ⟨hk, hc, hf, hzc, hzf⟩) | ((with_reducible refine kp_in_first hb7 ?_); rintro ⟨hk, hc, hf, hzc, hzf⟩)) | ((go_at_call 21); (with_reducible refine Calls.mono (hAo.out _ (by (repeat (first | with_reducible exact Below.refl _ _ | with_reducible apply bl_alloc | with_reducible apply bl_drew | with_reducible apply bl_after | (with_reducible refine bl_call ?_ (by assumption)))))) ?_); rintro e5 w5 ⟨rfl, hb8⟩; (have hi8 := hi7.below hb8); first | ((with_reducible apply kp_in_step (hb := hb8)); (with_reducible assumption); rintro ⟨hk, hc, hf, hzc, hzf⟩) | ((with_reducible refine kp_in_first hb8 ?_); rintro ⟨hk, hc, hf, hzc, hzf⟩)) | ((go_at_call 20); (with_reducible refine Calls.mono (hIn.out _ _ _ hi8) ?_); rintro e6 w6 ⟨rfl, hb9⟩; first | ((with_reducible apply kp_in_step (hb := hb9)); (with_reducible assumption); rintro ⟨hk, hc, hf, hzc, hzf⟩) | ((with_reducible refine kp_in_first hb9 ?_); rintro ⟨hk, hc, hf, hzc, hzf⟩)))
  by_cases hn0 : 0 < n
  · obtain ⟨u1, u2⟩ := q8 hn0
    rw [u1, u2] at hA1
    replace hA1 := Lib.hid hA1
    have hp0 : (0 : Int) < (n : Int) := by omega
    have zn := wrap64_in (x := (n : Int) - 1) (by omega) (by omega)
    clear u1 u2 q8 hn0
    by_cases hnt2 : n < t
    · have hnt3 : (n : Int) < (t : Int) := by omega
      clear q9 q3 q4 q6 q7 hnt
      go_wp2_with (first | ((go_at_call 12); (with_reducible refine Calls.mono (hA1.out _ (by (repeat (first | with_reducible exact Below.refl _ _ | with_reducible apply bl_alloc | with_reducible apply bl_drew | with_reducible apply bl_after | (with_reducible refine bl_call ?_ (by assumption)))))) ?_); rintro e7 w7 ⟨⟨A8, a8, rfl, -⟩, hb7⟩; first | ((with_reducible apply kp_in_step (hb := hb7)); (with_reducible assumption); rintro ⟨hk, hc, hf, hzc, hzf⟩) | ((with_reducible refine kp_in_first hb7 ?_); rintro ⟨hk, hc, hf, hzc, hzf⟩)) | ((go_at_call 10); (with_reducible refine Calls.mono (works8_any _) ?_); rintro e wn ⟨rfl, hbn⟩; first | ((with_reducible apply kp_in_step (hb := hbn)); (with_reducible assumption); rintro ⟨hk, hc, hf, hzc, hzf⟩) | ((with_reducible refine kp_in_first hbn ?_); rintro ⟨hk, hc, hf, hzc, hzf⟩)))
      go_ret
      exact ⟨rfl, by (repeat (first | with_reducible exact Below.refl _ _ | with_reducible apply bl_alloc | with_reducible apply bl_drew | with_reducible apply bl_after | (with_reducible refine bl_call ?_ (by assumption))))⟩
    · have hnt3 : ¬ (n : Int) < (t : Int) := by omega
      obtain ⟨v1, v2, v3, v4⟩ := q9 (by omega)
      clear q9 q3 q4 q6 q7 hnt
      (have sX := Lib.hid fun (P Q : Option Addr) (cp cq : Nat) (V : World) (hp : Ints V P l5) (hq : Ints V Q l1) => ((by (have h := subset8_any P Q cp cq l5 l1 V hp (by omega) hq (by omega)); (rw [v1] at h); exact h) : Calls Tryz.prog 26 #[.slice P l5.length cp, .slice Q l1.length cq] V fun e w' => e = .returned (.bool true) ∧ Below V.heap.size V w')); (have sY := Lib.hid fun (P Q : Option Addr) (cp cq : Nat) (V : World) (hp : Ints V P l6) (hq : Ints V Q l2) => ((by (have h := subset8_any P Q cp cq l6 l2 V hp (by omega) hq (by omega)); (rw [v2] at h); exact h) : Calls Tryz.prog 26 #[.slice P l6.length cp, .slice Q l2.length cq] V fun e w' => e = .returned (.bool true) ∧ Below V.heap.size V w')); (have sZ := Lib.hid fun (P Q : Option Addr) (cp cq : Nat) (V : World) (hp : Ints V P l3) (hq : Ints V Q l5) => ((by (have h := subset8_any P Q cp cq l3 l5 V hp (by omega) hq (by omega)); (rw [v3] at h); exact h) : Calls Tryz.prog 26 #[.slice P l3.length cp, .slice Q l5.length cq] V fun e w' => e = .returned (.bool true) ∧ Below V.heap.size V w')); (have sW := Lib.hid fun (P Q : Option Addr) (cp cq : Nat) (V : World) (hp : Ints V P l4) (hq : Ints V Q l6) => ((by (have h := subset8_any P Q cp cq l4 l6 V hp (by omega) hq (by omega)); (rw [v4] at h); exact h) : Calls Tryz.prog 26 #[.slice P l4.length cp, .slice Q l6.length cq] V fun e w' => e = .returned (.bool true) ∧ Below V.heap.size V w')); clear v1 v2 v3 v4
      go_upto_region 14 with ((go_at_call 12); (with_reducible refine Calls.mono (hA1.out _ (by (repeat (first | with_reducible exact Below.refl _ _ | with_reducible apply bl_alloc | with_reducible apply bl_drew | with_reducible apply bl_after | (with_reducible refine bl_call ?_ (by assumption)))))) ?_); rintro e7 w7 ⟨⟨A8, a8, rfl, -⟩, hb7⟩; first | ((with_reducible apply kp_in_step (hb := hb7)); (with_reducible assumption); rintro ⟨hk, hc, hf, hzc, hzf⟩) | ((with_reducible refine kp_in_first hb7 ?_); rintro ⟨hk, hc, hf, hzc, hzf⟩))
      go_upto_region 16 with (first | ((go_at_call 22); (with_reducible refine Calls.mono (hBl.out _ (by (repeat (first | with_reducible exact Below.refl _ _ | with_reducible apply bl_alloc | with_reducible apply bl_drew | with_reducible apply bl_after | (with_reducible refine bl_call ?_ (by assumption)))))) ?_); rintro e w10 ⟨⟨A1, c1, A2, c2, rfl, hN1, hN2⟩, hb10⟩; first | ((with_reducible apply kp_in_step (hb := hb10)); (with_reducible assumption); rintro ⟨hk, hc, hf, hzc, hzf⟩) | ((with_reducible refine kp_in_first hb10 ?_); rintro ⟨hk, hc, hf, hzc, hzf⟩)) | ((go_at_call 23); (with_reducible refine Calls.mono (hSu.out _ (by (repeat (first | with_reducible exact Below.refl _ _ | with_reducible apply bl_alloc | with_reducible apply bl_drew | with_reducible apply bl_after | (with_reducible refine bl_call ?_ (by assumption)))))) ?_); rintro e w11 ⟨⟨A3, c3, A4, c4, rfl, hN3, hN4⟩, hb11⟩; (have hM1 := hN1.below hb11); (have hM2 := hN2.below hb11); first | ((with_reducible apply kp_in_step (hb := hb11)); (with_reducible assumption); rintro ⟨hk, hc, hf, hzc, hzf⟩) | ((with_reducible refine kp_in_first hb11 ?_); rintro ⟨hk, hc, hf, hzc, hzf⟩)))
      have hB1 : Below (((w.alloc (.cells #[.slice A D.cs.length ca, .slice B D.offs.length cb, (Value.int .i64 (D.unit)), (Value.int .i64 (D.wh.full)), (Value.int .i64 (D.wh.read)), (Value.int .i64 (D.wh.slip)), (Value.int .i64 (D.wh.skew)), (Value.int .i64 (D.wh.circle)), (Value.int .i64 (D.wh.glo)), (Value.int .i64 (D.wh.ghi)), (Value.int .i64 (D.wh.wrong)), .slice C D.wks.length cc] 30)).alloc (.cells #[.slice P l.length pa, (Value.int .i64 (s))] 41))).heap.size ((w.alloc (.cells #[.slice A D.cs.length ca, .slice B D.offs.length cb, (Value.int .i64 (D.unit)), (Value.int .i64 (D.wh.full)), (Value.int .i64 (D.wh.read)), (Value.int .i64 (D.wh.slip)), (Value.int .i64 (D.wh.skew)), (Value.int .i64 (D.wh.circle)), (Value.int .i64 (D.wh.glo)), (Value.int .i64 (D.wh.ghi)), (Value.int .i64 (D.wh.wrong)), .slice C D.wks.length cc] 30)).alloc (.cells #[.slice P l.length pa, (Value.int .i64 (s))] 41)) w11 := by (repeat (first | with_reducible exact Below.refl _ _ | with_reducible apply bl_alloc | with_reducible apply bl_drew | with_reducible apply bl_after | (with_reducible refine bl_call ?_ (by assumption))))
      have hbx : Below w.heap.size w w11 := bl_call (by (repeat (first | with_reducible exact Below.refl _ _ | with_reducible apply bl_alloc | with_reducible apply bl_drew | with_reducible apply bl_after | (with_reducible refine bl_call ?_ (by assumption))))) hB1
      have v0 := E0.out.1.below hB1
      have v1 := E0.out.2.below hB1
      clear la ya0 ya1 ya2 ya3 ya4 ya5 ya6 ya7 ya8 ya9 ya10 ya11 lb yb0 yb1 hb11 hb10 hN1 hN2
      ((try clear hk hc hf hzc hzf); (try clear hk hc hf hzc hzf); (try clear hk hc hf hzc hzf); (try clear hk hc hf hzc hzf))
      (have la := v0.lt); (have ya0 := v0.cell 0); (have ya1 := v0.cell 1); (have ya2 := v0.cell 2); (have ya3 := v0.cell 3); (have ya4 := v0.cell 4); (have ya5 := v0.cell 5); (have ya6 := v0.cell 6); (have ya7 := v0.cell 7); (have ya8 := v0.cell 8); (have ya9 := v0.cell 9); (have ya10 := v0.cell 10); (have ya11 := v0.cell 11); simp only [List.getElem?_toArray, List.getElem?_cons_zero, List.getElem?_cons_succ] at ya0 ya1 ya2 ya3 ya4 ya5 ya6 ya7 ya8 ya9 ya10 ya11
      (have lb := v1.lt); (have yb0 := v1.cell 0); (have yb1 := v1.cell 1); simp only [List.getElem?_toArray, List.getElem?_cons_zero, List.getElem?_cons_succ] at yb0 yb1
      have hd0 : Below w11.heap.size w11 w11.drew := bl_drew (Below.refl _ _)
      refine wp_region_CN (fun w' => ∃ z : After w11, w' = z.val) (by kernel_rfl) ?_
      change wpAnyC _ _ _ _ _ _ _ (World.drew w11)
      refine wpAnyC_take (i := 0) (v := ?v0x) rfl (by kernel_rfl) (by kernel_rfl) (by kernel_rfl) ?q0x rfl ?y0x ?r0x; (case q0x => exact fun _ _ _ h => h); (case y0x => ((rintro _ ⟨z, rfl⟩); (go_simp); (try with_reducible rfl))); simp only [Act.put, List.getElem_toArray, List.getElem_cons_succ, List.getElem_cons_zero, List.setIfInBounds_toArray, List.set_cons_succ, List.set_cons_zero]
      refine wpAnyC_take (i := 1) (v := ?v1x) rfl (by kernel_rfl) (by kernel_rfl) (by kernel_rfl) ?q1x rfl ?y1x ?r1x; (case q1x => exact fun _ _ _ h => h); (case y1x => ((rintro _ ⟨z, rfl⟩); (go_simp); (try with_reducible rfl))); simp only [Act.put, List.getElem_toArray, List.getElem_cons_succ, List.getElem_cons_zero, List.setIfInBounds_toArray, List.set_cons_succ, List.set_cons_zero]
      refine wpAnyC_take (i := 3) (v := ?v3x) rfl (by kernel_rfl) (by kernel_rfl) (by kernel_rfl) ?q3x rfl ?y3x ?r3x; (case q3x => exact fun _ _ _ h => h); (case y3x => ((rintro _ ⟨z, rfl⟩); (go_simp); (try with_reducible rfl))); simp only [Act.put, List.getElem_toArray, List.getElem_cons_succ, List.getElem_cons_zero, List.setIfInBounds_toArray, List.set_cons_succ, List.set_cons_zero]
      refine wpAnyC_take (i := 4) (v := ?v4x) rfl (by kernel_rfl) (by kernel_rfl) (by kernel_rfl) ?q4x rfl ?y4x ?r4x; (case q4x => exact fun _ _ _ h => h); (case y4x => ((rintro _ ⟨z, rfl⟩); (go_simp); (try with_reducible rfl))); simp only [Act.put, List.getElem_toArray, List.getElem_cons_succ, List.getElem_cons_zero, List.setIfInBounds_toArray, List.set_cons_succ, List.set_cons_zero]
      refine wpAnyC_one (i := 2) (by kernel_rfl) rfl ⟨⟨_, hd0⟩, rfl⟩ rfl (fun K hK => ?_)
      go_simp
      go_at_call 24
      (with_reducible refine Calls.mono (hWC.out _ (bl_drew hbx)) ?_)
      rintro e w12 ⟨⟨A5, c5, rfl, hN5⟩, hb12⟩
      refine hK _ _ ?_
      clear hK K
      have hd1 := hd0.trans (hb12.mono hd0.size)
      refine wpAnyC_one (i := 5) (by kernel_rfl) rfl ⟨⟨_, hd1⟩, rfl⟩ rfl (fun K hK => ?_)
      go_simp
      go_at_call 25
      (with_reducible refine Calls.mono (hWW.out _ (bl_call (bl_drew hbx) hb12)) ?_)
      rintro e w13 ⟨⟨A6, c6, rfl, hN6⟩, hb13⟩
      refine hK _ _ ?_
      clear hK K
      have hd2 := hd1.trans (hb13.mono hd1.size)
      refine wpAnyC_take (i := 6) (v := ?v6x) rfl (by kernel_rfl) (by kernel_rfl) (by kernel_rfl) ?q6x rfl ?y6x ?r6x; (case q6x => exact fun _ _ _ h => h); (case y6x => ((rintro _ ⟨z, rfl⟩); (go_simp); (try with_reducible rfl))); simp only [Act.put, List.getElem_toArray, List.getElem_cons_succ, List.getElem_cons_zero, List.setIfInBounds_toArray, List.set_cons_succ, List.set_cons_zero]
      refine wpAnyC_take (i := 7) (v := ?v7x) rfl (by kernel_rfl) (by kernel_rfl) (by kernel_rfl) ?q7x rfl ?y7x ?r7x; (case q7x => exact fun _ _ _ h => h); (case y7x => ((rintro _ ⟨z, rfl⟩); (go_simp); (try with_reducible rfl))); simp only [Act.put, List.getElem_toArray, List.getElem_cons_succ, List.getElem_cons_zero, List.setIfInBounds_toArray, List.set_cons_succ, List.set_cons_zero]
      refine wpAnyC_doneN (by kernel_rfl) ⟨⟨_, hd2⟩, rfl⟩ ?_ _
      have HN := Lib.hid (And.intro (hM1.below hd2) (And.intro (hM2.below hd2) (And.intro (hN3.below hd2) (And.intro (hN4.below hd2) (And.intro (hN5.below hb13) hN6)))))
      have HW := Lib.hid (bl_call (bl_call (bl_drew hbx) hb12) hb13)
      clear hM1 hM2 hN3 hN4 hN5 hN6 hd0 hd1 hd2 hb12 hb13 hbx hB1 v0 v1
      go_wp2_with (first | ((go_at_call 26); (with_reducible refine Calls.mono (sX.out A5 A1 c5 c1 _ (HN.out.2.2.2.2.1.below (by (repeat (first | with_reducible exact Below.refl _ _ | with_reducible apply bl_alloc | with_reducible apply bl_drew | with_reducible apply bl_after | (with_reducible refine bl_call ?_ (by assumption)))))) (HN.out.1.below (by (repeat (first | with_reducible exact Below.refl _ _ | with_reducible apply bl_alloc | with_reducible apply bl_drew | with_reducible apply bl_after | (with_reducible refine bl_call ?_ (by assumption))))))) ?_); rintro e w20 ⟨rfl, hb20⟩; first | ((with_reducible apply kp_in_step (hb := hb20)); (with_reducible assumption); rintro ⟨hk, hc, hf, hzc, hzf⟩) | ((with_reducible refine kp_in_first hb20 ?_); rintro ⟨hk, hc, hf, hzc, hzf⟩)) | ((go_at_call 26); (with_reducible refine Calls.mono (sY.out A6 A2 c6 c2 _ (HN.out.2.2.2.2.2.below (by (repeat (first | with_reducible exact Below.refl _ _ | with_reducible apply bl_alloc | with_reducible apply bl_drew | with_reducible apply bl_after | (with_reducible refine bl_call ?_ (by assumption)))))) (HN.out.2.1.below (by (repeat (first | with_reducible exact Below.refl _ _ | with_reducible apply bl_alloc | with_reducible apply bl_drew | with_reducible apply bl_after | (with_reducible refine bl_call ?_ (by assumption))))))) ?_); rintro e w20 ⟨rfl, hb20⟩; first | ((with_reducible apply kp_in_step (hb := hb20)); (with_reducible assumption); rintro ⟨hk, hc, hf, hzc, hzf⟩) | ((with_reducible refine kp_in_first hb20 ?_); rintro ⟨hk, hc, hf, hzc, hzf⟩)) | ((go_at_call 26); (with_reducible refine Calls.mono (sZ.out A3 A5 c3 c5 _ (HN.out.2.2.1.below (by (repeat (first | with_reducible exact Below.refl _ _ | with_reducible apply bl_alloc | with_reducible apply bl_drew | with_reducible apply bl_after | (with_reducible refine bl_call ?_ (by assumption)))))) (HN.out.2.2.2.2.1.below (by (repeat (first | with_reducible exact Below.refl _ _ | with_reducible apply bl_alloc | with_reducible apply bl_drew | with_reducible apply bl_after | (with_reducible refine bl_call ?_ (by assumption))))))) ?_); rintro e w20 ⟨rfl, hb20⟩; first | ((with_reducible apply kp_in_step (hb := hb20)); (with_reducible assumption); rintro ⟨hk, hc, hf, hzc, hzf⟩) | ((with_reducible refine kp_in_first hb20 ?_); rintro ⟨hk, hc, hf, hzc, hzf⟩)) | ((go_at_call 26); (with_reducible refine Calls.mono (sW.out A4 A6 c4 c6 _ (HN.out.2.2.2.1.below (by (repeat (first | with_reducible exact Below.refl _ _ | with_reducible apply bl_alloc | with_reducible apply bl_drew | with_reducible apply bl_after | (with_reducible refine bl_call ?_ (by assumption)))))) (HN.out.2.2.2.2.2.below (by (repeat (first | with_reducible exact Below.refl _ _ | with_reducible apply bl_alloc | with_reducible apply bl_drew | with_reducible apply bl_after | (with_reducible refine bl_call ?_ (by assumption))))))) ?_); rintro e w20 ⟨rfl, hb20⟩; first | ((with_reducible apply kp_in_step (hb := hb20)); (with_reducible assumption); rintro ⟨hk, hc, hf, hzc, hzf⟩) | ((with_reducible refine kp_in_first hb20 ?_); rintro ⟨hk, hc, hf, hzc, hzf⟩)) | ((go_at_call 10); (with_reducible refine Calls.mono (works8_any _) ?_); rintro e wn ⟨rfl, hbn⟩; first | ((with_reducible apply kp_in_step (hb := hbn)); (with_reducible assumption); rintro ⟨hk, hc, hf, hzc, hzf⟩) | ((with_reducible refine kp_in_first hbn ?_); rintro ⟨hk, hc, hf, hzc, hzf⟩)))
      go_ret
      exact ⟨rfl, bl_call HW.out (by (repeat (first | with_reducible exact Below.refl _ _ | with_reducible apply bl_alloc | with_reducible apply bl_drew | with_reducible apply bl_after | (with_reducible refine bl_call ?_ (by assumption)))))⟩
  · have hp0 : ¬ (0 : Int) < (n : Int) := by omega
    clear q8 hn0 hA1
    by_cases hnt2 : n < t
    · have hnt3 : (n : Int) < (t : Int) := by omega
      clear q9 q3 q4 q6 q7 hnt
      go_wp2_with ((go_at_call 10); (with_reducible refine Calls.mono (works8_any _) ?_); rintro e wn ⟨rfl, hbn⟩; first | ((with_reducible apply kp_in_step (hb := hbn)); (with_reducible assumption); rintro ⟨hk, hc, hf, hzc, hzf⟩) | ((with_reducible refine kp_in_first hbn ?_); rintro ⟨hk, hc, hf, hzc, hzf⟩))
      go_ret
      exact ⟨rfl, by (repeat (first | with_reducible exact Below.refl _ _ | with_reducible apply bl_alloc | with_reducible apply bl_drew | with_reducible apply bl_after | (with_reducible refine bl_call ?_ (by assumption))))⟩
    · have hnt3 : ¬ (n : Int) < (t : Int) := by omega
      obtain ⟨v1, v2, v3, v4⟩ := q9 (by omega)
      clear q9 q3 q4 q6 q7 hnt
      (have sX := Lib.hid fun (P Q : Option Addr) (cp cq : Nat) (V : World) (hp : Ints V P l5) (hq : Ints V Q l1) => ((by (have h := subset8_any P Q cp cq l5 l1 V hp (by omega) hq (by omega)); (rw [v1] at h); exact h) : Calls Tryz.prog 26 #[.slice P l5.length cp, .slice Q l1.length cq] V fun e w' => e = .returned (.bool true) ∧ Below V.heap.size V w')); (have sY := Lib.hid fun (P Q : Option Addr) (cp cq : Nat) (V : World) (hp : Ints V P l6) (hq : Ints V Q l2) => ((by (have h := subset8_any P Q cp cq l6 l2 V hp (by omega) hq (by omega)); (rw [v2] at h); exact h) : Calls Tryz.prog 26 #[.slice P l6.length cp, .slice Q l2.length cq] V fun e w' => e = .returned (.bool true) ∧ Below V.heap.size V w')); (have sZ := Lib.hid fun (P Q : Option Addr) (cp cq : Nat) (V : World) (hp : Ints V P l3) (hq : Ints V Q l5) => ((by (have h := subset8_any P Q cp cq l3 l5 V hp (by omega) hq (by omega)); (rw [v3] at h); exact h) : Calls Tryz.prog 26 #[.slice P l3.length cp, .slice Q l5.length cq] V fun e w' => e = .returned (.bool true) ∧ Below V.heap.size V w')); (have sW := Lib.hid fun (P Q : Option Addr) (cp cq : Nat) (V : World) (hp : Ints V P l4) (hq : Ints V Q l6) => ((by (have h := subset8_any P Q cp cq l4 l6 V hp (by omega) hq (by omega)); (rw [v4] at h); exact h) : Calls Tryz.prog 26 #[.slice P l4.length cp, .slice Q l6.length cq] V fun e w' => e = .returned (.bool true) ∧ Below V.heap.size V w')); clear v1 v2 v3 v4
      go_upto_region 14 with fail
      go_upto_region 16 with (first | ((go_at_call 22); (with_reducible refine Calls.mono (hBl.out _ (by (repeat (first | with_reducible exact Below.refl _ _ | with_reducible apply bl_alloc | with_reducible apply bl_drew | with_reducible apply bl_after | (with_reducible refine bl_call ?_ (by assumption)))))) ?_); rintro e w10 ⟨⟨A1, c1, A2, c2, rfl, hN1, hN2⟩, hb10⟩; first | ((with_reducible apply kp_in_step (hb := hb10)); (with_reducible assumption); rintro ⟨hk, hc, hf, hzc, hzf⟩) | ((with_reducible refine kp_in_first hb10 ?_); rintro ⟨hk, hc, hf, hzc, hzf⟩)) | ((go_at_call 23); (with_reducible refine Calls.mono (hSu.out _ (by (repeat (first | with_reducible exact Below.refl _ _ | with_reducible apply bl_alloc | with_reducible apply bl_drew | with_reducible apply bl_after | (with_reducible refine bl_call ?_ (by assumption)))))) ?_); rintro e w11 ⟨⟨A3, c3, A4, c4, rfl, hN3, hN4⟩, hb11⟩; (have hM1 := hN1.below hb11); (have hM2 := hN2.below hb11); first | ((with_reducible apply kp_in_step (hb := hb11)); (with_reducible assumption); rintro ⟨hk, hc, hf, hzc, hzf⟩) | ((with_reducible refine kp_in_first hb11 ?_); rintro ⟨hk, hc, hf, hzc, hzf⟩)))
      have hB1 : Below (((w.alloc (.cells #[.slice A D.cs.length ca, .slice B D.offs.length cb, (Value.int .i64 (D.unit)), (Value.int .i64 (D.wh.full)), (Value.int .i64 (D.wh.read)), (Value.int .i64 (D.wh.slip)), (Value.int .i64 (D.wh.skew)), (Value.int .i64 (D.wh.circle)), (Value.int .i64 (D.wh.glo)), (Value.int .i64 (D.wh.ghi)), (Value.int .i64 (D.wh.wrong)), .slice C D.wks.length cc] 30)).alloc (.cells #[.slice P l.length pa, (Value.int .i64 (s))] 41))).heap.size ((w.alloc (.cells #[.slice A D.cs.length ca, .slice B D.offs.length cb, (Value.int .i64 (D.unit)), (Value.int .i64 (D.wh.full)), (Value.int .i64 (D.wh.read)), (Value.int .i64 (D.wh.slip)), (Value.int .i64 (D.wh.skew)), (Value.int .i64 (D.wh.circle)), (Value.int .i64 (D.wh.glo)), (Value.int .i64 (D.wh.ghi)), (Value.int .i64 (D.wh.wrong)), .slice C D.wks.length cc] 30)).alloc (.cells #[.slice P l.length pa, (Value.int .i64 (s))] 41)) w11 := by (repeat (first | with_reducible exact Below.refl _ _ | with_reducible apply bl_alloc | with_reducible apply bl_drew | with_reducible apply bl_after | (with_reducible refine bl_call ?_ (by assumption))))
      have hbx : Below w.heap.size w w11 := bl_call (by (repeat (first | with_reducible exact Below.refl _ _ | with_reducible apply bl_alloc | with_reducible apply bl_drew | with_reducible apply bl_after | (with_reducible refine bl_call ?_ (by assumption))))) hB1
      have v0 := E0.out.1.below hB1
      have v1 := E0.out.2.below hB1
      clear la ya0 ya1 ya2 ya3 ya4 ya5 ya6 ya7 ya8 ya9 ya10 ya11 lb yb0 yb1 hb11 hb10 hN1 hN2
      ((try clear hk hc hf hzc hzf); (try clear hk hc hf hzc hzf); (try clear hk hc hf hzc hzf); (try clear hk hc hf hzc hzf))
      (have la := v0.lt); (have ya0 := v0.cell 0); (have ya1 := v0.cell 1); (have ya2 := v0.cell 2); (have ya3 := v0.cell 3); (have ya4 := v0.cell 4); (have ya5 := v0.cell 5); (have ya6 := v0.cell 6); (have ya7 := v0.cell 7); (have ya8 := v0.cell 8); (have ya9 := v0.cell 9); (have ya10 := v0.cell 10); (have ya11 := v0.cell 11); simp only [List.getElem?_toArray, List.getElem?_cons_zero, List.getElem?_cons_succ] at ya0 ya1 ya2 ya3 ya4 ya5 ya6 ya7 ya8 ya9 ya10 ya11
      (have lb := v1.lt); (have yb0 := v1.cell 0); (have yb1 := v1.cell 1); simp only [List.getElem?_toArray, List.getElem?_cons_zero, List.getElem?_cons_succ] at yb0 yb1
      have hd0 : Below w11.heap.size w11 w11.drew := bl_drew (Below.refl _ _)
      refine wp_region_CN (fun w' => ∃ z : After w11, w' = z.val) (by kernel_rfl) ?_
      change wpAnyC _ _ _ _ _ _ _ (World.drew w11)
      refine wpAnyC_take (i := 0) (v := ?v0y) rfl (by kernel_rfl) (by kernel_rfl) (by kernel_rfl) ?q0y rfl ?y0y ?r0y; (case q0y => exact fun _ _ _ h => h); (case y0y => ((rintro _ ⟨z, rfl⟩); (go_simp); (try with_reducible rfl))); simp only [Act.put, List.getElem_toArray, List.getElem_cons_succ, List.getElem_cons_zero, List.setIfInBounds_toArray, List.set_cons_succ, List.set_cons_zero]
      refine wpAnyC_take (i := 1) (v := ?v1y) rfl (by kernel_rfl) (by kernel_rfl) (by kernel_rfl) ?q1y rfl ?y1y ?r1y; (case q1y => exact fun _ _ _ h => h); (case y1y => ((rintro _ ⟨z, rfl⟩); (go_simp); (try with_reducible rfl))); simp only [Act.put, List.getElem_toArray, List.getElem_cons_succ, List.getElem_cons_zero, List.setIfInBounds_toArray, List.set_cons_succ, List.set_cons_zero]
      refine wpAnyC_take (i := 3) (v := ?v3y) rfl (by kernel_rfl) (by kernel_rfl) (by kernel_rfl) ?q3y rfl ?y3y ?r3y; (case q3y => exact fun _ _ _ h => h); (case y3y => ((rintro _ ⟨z, rfl⟩); (go_simp); (try with_reducible rfl))); simp only [Act.put, List.getElem_toArray, List.getElem_cons_succ, List.getElem_cons_zero, List.setIfInBounds_toArray, List.set_cons_succ, List.set_cons_zero]
      refine wpAnyC_take (i := 4) (v := ?v4y) rfl (by kernel_rfl) (by kernel_rfl) (by kernel_rfl) ?q4y rfl ?y4y ?r4y; (case q4y => exact fun _ _ _ h => h); (case y4y => ((rintro _ ⟨z, rfl⟩); (go_simp); (try with_reducible rfl))); simp only [Act.put, List.getElem_toArray, List.getElem_cons_succ, List.getElem_cons_zero, List.setIfInBounds_toArray, List.set_cons_succ, List.set_cons_zero]
      refine wpAnyC_one (i := 2) (by kernel_rfl) rfl ⟨⟨_, hd0⟩, rfl⟩ rfl (fun K hK => ?_)
      go_simp
      go_at_call 24
      (with_reducible refine Calls.mono (hWC.out _ (bl_drew hbx)) ?_)
      rintro e w12 ⟨⟨A5, c5, rfl, hN5⟩, hb12⟩
      refine hK _ _ ?_
      clear hK K
      have hd1 := hd0.trans (hb12.mono hd0.size)
      refine wpAnyC_one (i := 5) (by kernel_rfl) rfl ⟨⟨_, hd1⟩, rfl⟩ rfl (fun K hK => ?_)
      go_simp
      go_at_call 25
      (with_reducible refine Calls.mono (hWW.out _ (bl_call (bl_drew hbx) hb12)) ?_)
      rintro e w13 ⟨⟨A6, c6, rfl, hN6⟩, hb13⟩
      refine hK _ _ ?_
      clear hK K
      have hd2 := hd1.trans (hb13.mono hd1.size)
      refine wpAnyC_take (i := 6) (v := ?v6y) rfl (by kernel_rfl) (by kernel_rfl) (by kernel_rfl) ?q6y rfl ?y6y ?r6y; (case q6y => exact fun _ _ _ h => h); (case y6y => ((rintro _ ⟨z, rfl⟩); (go_simp); (try with_reducible rfl))); simp only [Act.put, List.getElem_toArray, List.getElem_cons_succ, List.getElem_cons_zero, List.setIfInBounds_toArray, List.set_cons_succ, List.set_cons_zero]
      refine wpAnyC_take (i := 7) (v := ?v7y) rfl (by kernel_rfl) (by kernel_rfl) (by kernel_rfl) ?q7y rfl ?y7y ?r7y; (case q7y => exact fun _ _ _ h => h); (case y7y => ((rintro _ ⟨z, rfl⟩); (go_simp); (try with_reducible rfl))); simp only [Act.put, List.getElem_toArray, List.getElem_cons_succ, List.getElem_cons_zero, List.setIfInBounds_toArray, List.set_cons_succ, List.set_cons_zero]
      refine wpAnyC_doneN (by kernel_rfl) ⟨⟨_, hd2⟩, rfl⟩ ?_ _
      have HN := Lib.hid (And.intro (hM1.below hd2) (And.intro (hM2.below hd2) (And.intro (hN3.below hd2) (And.intro (hN4.below hd2) (And.intro (hN5.below hb13) hN6)))))
      have HW := Lib.hid (bl_call (bl_call (bl_drew hbx) hb12) hb13)
      clear hM1 hM2 hN3 hN4 hN5 hN6 hd0 hd1 hd2 hb12 hb13 hbx hB1 v0 v1
      go_wp2_with (first | ((go_at_call 26); (with_reducible refine Calls.mono (sX.out A5 A1 c5 c1 _ (HN.out.2.2.2.2.1.below (by (repeat (first | with_reducible exact Below.refl _ _ | with_reducible apply bl_alloc | with_reducible apply bl_drew | with_reducible apply bl_after | (with_reducible refine bl_call ?_ (by assumption)))))) (HN.out.1.below (by (repeat (first | with_reducible exact Below.refl _ _ | with_reducible apply bl_alloc | with_reducible apply bl_drew | with_reducible apply bl_after | (with_reducible refine bl_call ?_ (by assumption))))))) ?_); rintro e w20 ⟨rfl, hb20⟩; first | ((with_reducible apply kp_in_step (hb := hb20)); (with_reducible assumption); rintro ⟨hk, hc, hf, hzc, hzf⟩) | ((with_reducible refine kp_in_first hb20 ?_); rintro ⟨hk, hc, hf, hzc, hzf⟩)) | ((go_at_call 26); (with_reducible refine Calls.mono (sY.out A6 A2 c6 c2 _ (HN.out.2.2.2.2.2.below (by (repeat (first | with_reducible exact Below.refl _ _ | with_reducible apply bl_alloc | with_reducible apply bl_drew | with_reducible apply bl_after | (with_reducible refine bl_call ?_ (by assumption)))))) (HN.out.2.1.below (by (repeat (first | with_reducible exact Below.refl _ _ | with_reducible apply bl_alloc | with_reducible apply bl_drew | with_reducible apply bl_after | (with_reducible refine bl_call ?_ (by assumption))))))) ?_); rintro e w20 ⟨rfl, hb20⟩; first | ((with_reducible apply kp_in_step (hb := hb20)); (with_reducible assumption); rintro ⟨hk, hc, hf, hzc, hzf⟩) | ((with_reducible refine kp_in_first hb20 ?_); rintro ⟨hk, hc, hf, hzc, hzf⟩)) | ((go_at_call 26); (with_reducible refine Calls.mono (sZ.out A3 A5 c3 c5 _ (HN.out.2.2.1.below (by (repeat (first | with_reducible exact Below.refl _ _ | with_reducible apply bl_alloc | with_reducible apply bl_drew | with_reducible apply bl_after | (with_reducible refine bl_call ?_ (by assumption)))))) (HN.out.2.2.2.2.1.below (by (repeat (first | with_reducible exact Below.refl _ _ | with_reducible apply bl_alloc | with_reducible apply bl_drew | with_reducible apply bl_after | (with_reducible refine bl_call ?_ (by assumption))))))) ?_); rintro e w20 ⟨rfl, hb20⟩; first | ((with_reducible apply kp_in_step (hb := hb20)); (with_reducible assumption); rintro ⟨hk, hc, hf, hzc, hzf⟩) | ((with_reducible refine kp_in_first hb20 ?_); rintro ⟨hk, hc, hf, hzc, hzf⟩)) | ((go_at_call 26); (with_reducible refine Calls.mono (sW.out A4 A6 c4 c6 _ (HN.out.2.2.2.1.below (by (repeat (first | with_reducible exact Below.refl _ _ | with_reducible apply bl_alloc | with_reducible apply bl_drew | with_reducible apply bl_after | (with_reducible refine bl_call ?_ (by assumption)))))) (HN.out.2.2.2.2.2.below (by (repeat (first | with_reducible exact Below.refl _ _ | with_reducible apply bl_alloc | with_reducible apply bl_drew | with_reducible apply bl_after | (with_reducible refine bl_call ?_ (by assumption))))))) ?_); rintro e w20 ⟨rfl, hb20⟩; first | ((with_reducible apply kp_in_step (hb := hb20)); (with_reducible assumption); rintro ⟨hk, hc, hf, hzc, hzf⟩) | ((with_reducible refine kp_in_first hb20 ?_); rintro ⟨hk, hc, hf, hzc, hzf⟩)) | ((go_at_call 10); (with_reducible refine Calls.mono (works8_any _) ?_); rintro e wn ⟨rfl, hbn⟩; first | ((with_reducible apply kp_in_step (hb := hbn)); (with_reducible assumption); rintro ⟨hk, hc, hf, hzc, hzf⟩) | ((with_reducible refine kp_in_first hbn ?_); rintro ⟨hk, hc, hf, hzc, hzf⟩)))
      go_ret
      exact ⟨rfl, bl_call HW.out (by (repeat (first | with_reducible exact Below.refl _ _ | with_reducible apply bl_alloc | with_reducible apply bl_drew | with_reducible apply bl_after | (with_reducible refine bl_call ?_ (by assumption)))))⟩
theorem lawStory8_any (hl : l.length ≤ 9223372036854775807) :
    Calls Tryz.prog 4 #[(Value.agg #[.slice A D.cs.length ca, .slice B D.offs.length cb, (Value.int .i64 (D.unit)), (Value.int .i64 (D.wh.full)), (Value.int .i64 (D.wh.read)), (Value.int .i64 (D.wh.slip)), (Value.int .i64 (D.wh.skew)), (Value.int .i64 (D.wh.circle)), (Value.int .i64 (D.wh.glo)), (Value.int .i64 (D.wh.ghi)), (Value.int .i64 (D.wh.wrong)), .slice C D.wks.length cc]), .agg #[.slice P l.length pa, (Value.int .i64 (s))]] w fun e w' => e = .returned (.bool true) ∧ Below w.heap.size w w' := by
  cases hr : rdyB D
  · exact lawStory8_no A B C ca cb cc D w P pa l s ha hb hc hp (.inl hr) hl
  · by_cases h : 40 < l.length
    · exact lawStory8_no A B C ca cb cc D w P pa l s ha hb hc hp (.inr ⟨hr, .inl h⟩) hl
    · cases h0 : (isFB D l && within s (-D.wh.skew) D.wh.skew)
      · exact lawStory8_no A B C ca cb cc D w P pa l s ha hb hc hp (.inr ⟨hr, .inr ⟨by omega, h0⟩⟩) hl
      · exact lawStory8_ok A B C ca cb cc D w P pa l s ha hb hc hp hr (by omega) h0
end
section
open Go.ChangeAt Go.Deep
variable {H : Type} {enc : TypeId × Value → H}
set_option maxRecDepth 100000 in
theorem open_story {W : World} {r : Reach} {b0 : Nat} {v : Value} {d : DataW H} {p : List MemPlace} (hv : Value.okWide Tryz.prog W r b0 41 v) (h : DataW.Trod enc Tryz.prog W 0 (fun _ => true) true 41 v d p) :
    ∃ (P : Option Addr) (pa : Nat) (l : List Pt) (s : Int), v = .agg #[.slice P l.length pa, (Value.int .i64 (s))] ∧ Pts W P l ∧ l.length ≤ 9223372036854775807 := by
  obtain ⟨cs, rfl, hsz⟩ := okWide_struct Tryz.underlying41 hv
  obtain ⟨cl⟩ := cs
  have hsz2 : cl.length = 2 := hsz.trans (by kernel_rfl)
  match cl, hsz2 with
  | [c0, c1], _ =>
    obtain ⟨fuel, hf⟩ := h
    obtain ⟨xs, m, _, _, _, hlen, hf⟩ := DataW.trod_struct Tryz.underlying41 hf
    match xs, hlen with
    | [y0, y1], _ =>
      have g0 := hf 0 _ rfl
      have g1 := hf 1 _ rfl
      have k0 : Tryz.prog.cellsOf 22 = 1 := by kernel_rfl
      simp only [Value.cells, k0, cellsInt, List.drop_zero, List.take_succ_cons, List.take_zero, List.drop_succ_cons, List.getElem?_cons_zero, List.getElem?_cons_succ] at g0 g1
      obtain ⟨A, ca, l, rfl, hP, hl⟩ := points_f g0
      obtain ⟨s, rfl, _⟩ := int_f g1
      exact ⟨A, ca, l, s, rfl, hP, hl⟩
end
section
open Go.ChangeAt
set_option maxRecDepth 100000 in
theorem discordStory_lifted (os : Os) (started : os.Started) (H : Type) (enc : TypeId × Value → H) :
    ReturnsInHanded {} Tryz.checked os 4 .any (Rows.discordStorySpec.pre6 enc Tryz.prog Tryz.f4 Rows.discordStoryRow.domain false) (Rows.discordStorySpec.post enc Tryz.prog Tryz.f4 false true false false) := by
  refine returnsInHanded_of_change (C := Tryz.checked) own_knob started (by kernel_rfl) Tryz.func4
    (ChangeSpec.witness6 (enc := enc) (C := Tryz.checked) false ⟨#[], #[.agg #[.slice none 0 0, .slice none 0 0, .int .i64 0, .int .i64 0, .int .i64 0, .int .i64 0, .int .i64 0, .int .i64 0, .int .i64 0, .int .i64 0, .int .i64 0, .slice none 0 0], .agg #[.slice none 0 0, .int .i64 0]], []⟩ 8 (by kernel_rfl) (by kernel_rfl) (by kernel_rfl) (by kernel_rfl)) ?_
  intro W base args ds gs before hval0 hW hcnd _
  have hval : ∀ (j : Nat) t v, Tryz.f4.params[j]? = some t → args[j]? = some v → Value.okWide Tryz.prog W .any base t v := hval0
  have hW2 := hW
  obtain ⟨p, q, hA0, hV, rfl, hfz, hnd⟩ := hW
  have hA : DataW.TrodAll enc Tryz.prog W 0 (fun _ => true) true Tryz.f4.params.toList args.toList ds p := hA0
  rw [Tryz.params4] at hA hval
  obtain ⟨v0, v1, d0, d1, p0, p1, rfl, rfl, rfl, h0, h1⟩ := trodAll_two hA; obtain ⟨A, B, C, ca, cb, cc, D, rfl, hP0, hP1, hP2, hl0, hl1, hl2⟩ := open_dispute (hval 0 _ _ rfl rfl) h0; obtain ⟨P, pa, l, s, rfl, hP3, hl3⟩ := open_story (hval 1 _ _ rfl rfl) h1
  obtain ⟨rfl, rfl⟩ := trodVars_none hV
  clear hA0 hval0
  simp only [List.append_nil, List.nil_append] at hW2
  (try simp only [List.append_nil, List.nil_append] at hA)
  refine (lawStory8_any A B C ca cb cc D W P pa l s hP0 hP1 hP2 hP3 hl3).mono fun e W2 ⟨he, hb⟩ => ?_
  subst he
  refine ⟨_, rfl, post_of_below (pa := _) (pv := []) hW2 (fun _ _ _ => trodAll_mk1 (shut_bool und_bool _)) (fun sp hs => args_stay hb (by rw [Tryz.params4]; intro t ht; simp at ht; (try rcases ht with rfl | rfl | rfl) <;> (try rcases ht with rfl | rfl) <;> (try subst ht) <;> exact ⟨by kernel_rfl, by decide +kernel⟩) (by rw [Tryz.params4]; exact hA) hs) (fun _ _ => rfl) (by simp) hb (ok_one (by kernel_rfl) rfl (okWide_bool_mk und_bool _))⟩

theorem discordStory_holds : Rows.DiscordStorySaid :=
  OpenClaim.holds_of_wide 4 Tryz.f4 rfl rfl rfl rfl rfl rfl rfl ⟨rfl, rfl, rfl, rfl, rfl⟩ rfl rfl rfl rfl rfl (by kernel_rfl) Tryz.func4 (by kernel_rfl)
    (of_decide_eq_true (by kernel_rfl)) (by unfold Func.isWrapper; first | (rw [if_pos (by decide +kernel)]; kernel_rfl) | (rw [if_neg (by decide +kernel)]; exact ⟨rfl, rfl⟩))
    (fun os started H enc _ => discordStory_lifted os started H enc)
end
end Go.Proofs.YthijegacjboclaaGreat
