/- The law SheetsPieces answers true for any sheet and corners. -/
import Derived.Test.YtegdnbceiopklaaWk4
import Derived.Test.YtegdnbceiopklaaRd4
import Derived.Test.YtegdnbceiopklaaOpc
import Derived.Test.YtegdnbceiopklaaJPc4
import Derived.StillTactics
import Derived.BigRegion
import Derived.Test.YtegdnbceiopklaaRows
namespace Go.Proofs.Ytegdnbceiopklaa
open Go.ChangeShapes Go.WideShapes Go.RowKit
attribute [local go_sem] After.cell After.frozen

/-- Triples in memory. -/
structure TrsAt (w : World) (g : Nat) (T : List (Int × Int × Int)) : Prop where
  lt : g < w.heap.size
  x : ∀ i k, i < T.length → k < 3 → w.cell? ⟨g, i * 3 + k, none⟩ = some (Value.int .i64 (tnum (tat T i) k))
theorem TrsAt.below {w w' : World} {g : Nat} {T : List (Int × Int × Int)} (h : TrsAt w g T) (hb : Below w.heap.size w w') : TrsAt w' g T :=
  ⟨Nat.lt_of_lt_of_le h.lt hb.size, fun i k hi hk => (hb.cell (p := ⟨g, _, none⟩) h.lt).trans (h.x i k hi hk)⟩
theorem TrsAt.of_row {w : World} {B g n cap : Nat} {T : List (Int × Int × Int)} (h : w.ownsRow B 78 3 (.slice (some ⟨g, 0, none⟩) n cap) n (trsV T)) : TrsAt w g T := by
  refine ⟨(h.lt g rfl).2, fun i k hi hk => ?_⟩
  have := h.cells (g := g) rfl (i * 3 + k) _ (trsV_get T i k hi hk)
  rwa [add_at, Nat.zero_add] at this
theorem tnum_rng {l : List Pt} {s : Int} {t : Int × Int × Int} (h : TriOk l s t) : ∀ j, j < 3 → 0 ≤ tnum t j ∧ tnum t j < l.length := fun j hj => by
  obtain ⟨h1, h2, h3, h4, -⟩ := h
  match j, hj with
  | 0, _ => simp only [tnum]; omega
  | 1, _ => simp only [tnum]; omega
  | 2, _ => simp only [tnum]; omega
theorem trP_take (l : List Pt) (t : Int × Int × Int) : ∀ m, m < 3 → ptsV ((trP l t).take m) ++ [(Value.int .i64 ((pat l (tnum t m).toNat).1)), (Value.int .i64 ((pat l (tnum t m).toNat).2))] = ptsV ((trP l t).take (m + 1)) := fun m hm => by
  match m, hm with
  | 0, _ => rfl
  | 1, _ => rfl
  | 2, _ => rfl
theorem one_pair (x y : Int) : ∀ u ∈ [(Value.int .i64 (x)), (Value.int .i64 (y))], u.oneCell' = true := fun u hu => by
  simp only [List.mem_cons, List.not_mem_nil, or_false] at hu
  rcases hu with rfl | rfl <;> rfl
theorem trs_set {V : World} {g gt : Nat} {T : List (Int × Int × Int)} (eX : TrsAt V gt T) (nt : gt ≠ g) (i : Nat) (a : Value) : TrsAt (V.setCell ⟨g, i, none⟩ a) gt T :=
  ⟨by simpa using eX.lt, fun k j hk hj => (World.cell?_of_block (w := V) (a := ⟨gt, k * 3 + j, none⟩) (Below.heap_setCell V ⟨g, i, none⟩ a gt nt)).trans (eX.x k j hk hj)⟩

set_option maxRecDepth 100000 in
set_option maxHeartbeats 4000000 in
theorem lawPieces4_no (A B : Option Addr) (ca cb : Nat) (S : Sht) (l : List Pt) (w : World) (ha : Cts w A S.cs) (hla : S.cs.length ≤ 9223372036854775807) (hb : Pts w B l) (hlb : l.length ≤ 9223372036854775807)
    (x1 x2 x3 : Bool) (h1 : rdyB S = x1) (h2 : polB l = x2) (h3 : (opS S true != 0) = !x3) (hx : x1 = false ∨ (x1 = true ∧ x2 = false) ∨ (x1 = true ∧ x2 = true ∧ x3 = false)) :
    Calls Try.prog 10 #[(Value.agg #[(Value.int .i64 (S.xlo)), (Value.int .i64 (S.xhi)), (Value.int .i64 (S.ylo)), (Value.int .i64 (S.yhi)), .slice A S.cs.length ca, (Value.int .i64 (S.wrong))]), .slice B l.length cb] w fun e w' => e = .returned (.bool true) ∧ Below w.heap.size w w' := by
  have hR := fun (W : World) (h : Below w.heap.size w W) => ready4 A ca S W (ha.below h) hla
  have hP := fun (W : World) (h : Below w.heap.size w W) => isPolygon4 B cb l W (hb.below h) hlb
  have hT := Lib.hid fun (W : World) (h : Below w.heap.size w W) => rTruths4 A ca S W (ha.below h)
  have c1 : Blk (w.alloc (.cells #[(Value.int .i64 (S.xlo)), (Value.int .i64 (S.xhi)), (Value.int .i64 (S.ylo)), (Value.int .i64 (S.yhi)), .slice A S.cs.length ca, (Value.int .i64 (S.wrong))] 26)) w.heap.size 26 #[(Value.int .i64 (S.xlo)), (Value.int .i64 (S.xhi)), (Value.int .i64 (S.ylo)), (Value.int .i64 (S.yhi)), .slice A S.cs.length ca, (Value.int .i64 (S.wrong))] := Blk.new _ _ _
  (have la := c1.lt); (have ya0 := c1.cell 0); (have ya1 := c1.cell 1); (have ya2 := c1.cell 2); (have ya3 := c1.cell 3); (have ya4 := c1.cell 4); (have ya5 := c1.cell 5); simp only [List.getElem?_toArray, List.getElem?_cons_zero, List.getElem?_cons_succ] at ya0 ya1 ya2 ya3 ya4 ya5
  rw [h1] at hR
  rw [h2] at hP
  replace hR := Lib.hid hR
  replace hP := Lib.hid hP
  clear ha hb hla hlb c1 h1 h2
  rcases hx with rfl | ⟨rfl, rfl⟩ | ⟨rfl, rfl, rfl⟩
  · clear h3
    go_enter Try.func10, Try.ntmps10
    go_wp2_with (first | ((go_at_call 18); (with_reducible refine Calls.mono (hR.out _ (by (repeat (first | with_reducible exact Below.refl _ _ | with_reducible apply bl_alloc | with_reducible apply bl_drew | with_reducible apply bl_after | (with_reducible refine bl_call ?_ (by assumption)))))) ?_); rintro e wn ⟨rfl, hbn⟩; first | ((with_reducible apply kp_in_step (hb := hbn)); (with_reducible assumption); rintro ⟨hk, hc, hf, hzc, hzf⟩) | ((with_reducible refine kp_in_first hbn ?_); rintro ⟨hk, hc, hf, hzc, hzf⟩)) | ((go_at_call 19); (with_reducible refine Calls.mono (hP.out _ (by (repeat (first | with_reducible exact Below.refl _ _ | with_reducible apply bl_alloc | with_reducible apply bl_drew | with_reducible apply bl_after | (with_reducible refine bl_call ?_ (by assumption)))))) ?_); rintro e wn ⟨rfl, hbn⟩; first | ((with_reducible apply kp_in_step (hb := hbn)); (with_reducible assumption); rintro ⟨hk, hc, hf, hzc, hzf⟩) | ((with_reducible refine kp_in_first hbn ?_); rintro ⟨hk, hc, hf, hzc, hzf⟩)) | ((go_at_call 46); (with_reducible refine Calls.mono (hT.out _ (by (repeat (first | with_reducible exact Below.refl _ _ | with_reducible apply bl_alloc | with_reducible apply bl_drew | with_reducible apply bl_after | (with_reducible refine bl_call ?_ (by assumption)))))) ?_); rintro e wn ⟨rfl, hbn⟩; first | ((with_reducible apply kp_in_step (hb := hbn)); (with_reducible assumption); rintro ⟨hk, hc, hf, hzc, hzf⟩) | ((with_reducible refine kp_in_first hbn ?_); rintro ⟨hk, hc, hf, hzc, hzf⟩)) | ((go_at_call 13); (with_reducible refine Calls.mono (works4 _) ?_); rintro e w9 ⟨rfl, hb9⟩; first | ((with_reducible apply kp_in_step (hb := hb9)); (with_reducible assumption); rintro ⟨hk, hc, hf, hzc, hzf⟩) | ((with_reducible refine kp_in_first hb9 ?_); rintro ⟨hk, hc, hf, hzc, hzf⟩)))
    go_ret
    exact ⟨rfl, by (repeat (first | with_reducible exact Below.refl _ _ | with_reducible apply bl_alloc | with_reducible apply bl_drew | with_reducible apply bl_after | (with_reducible refine bl_call ?_ (by assumption))))⟩
  · clear h3
    go_enter Try.func10, Try.ntmps10
    go_wp2_with (first | ((go_at_call 18); (with_reducible refine Calls.mono (hR.out _ (by (repeat (first | with_reducible exact Below.refl _ _ | with_reducible apply bl_alloc | with_reducible apply bl_drew | with_reducible apply bl_after | (with_reducible refine bl_call ?_ (by assumption)))))) ?_); rintro e wn ⟨rfl, hbn⟩; first | ((with_reducible apply kp_in_step (hb := hbn)); (with_reducible assumption); rintro ⟨hk, hc, hf, hzc, hzf⟩) | ((with_reducible refine kp_in_first hbn ?_); rintro ⟨hk, hc, hf, hzc, hzf⟩)) | ((go_at_call 19); (with_reducible refine Calls.mono (hP.out _ (by (repeat (first | with_reducible exact Below.refl _ _ | with_reducible apply bl_alloc | with_reducible apply bl_drew | with_reducible apply bl_after | (with_reducible refine bl_call ?_ (by assumption)))))) ?_); rintro e wn ⟨rfl, hbn⟩; first | ((with_reducible apply kp_in_step (hb := hbn)); (with_reducible assumption); rintro ⟨hk, hc, hf, hzc, hzf⟩) | ((with_reducible refine kp_in_first hbn ?_); rintro ⟨hk, hc, hf, hzc, hzf⟩)) | ((go_at_call 46); (with_reducible refine Calls.mono (hT.out _ (by (repeat (first | with_reducible exact Below.refl _ _ | with_reducible apply bl_alloc | with_reducible apply bl_drew | with_reducible apply bl_after | (with_reducible refine bl_call ?_ (by assumption)))))) ?_); rintro e wn ⟨rfl, hbn⟩; first | ((with_reducible apply kp_in_step (hb := hbn)); (with_reducible assumption); rintro ⟨hk, hc, hf, hzc, hzf⟩) | ((with_reducible refine kp_in_first hbn ?_); rintro ⟨hk, hc, hf, hzc, hzf⟩)) | ((go_at_call 13); (with_reducible refine Calls.mono (works4 _) ?_); rintro e w9 ⟨rfl, hb9⟩; first | ((with_reducible apply kp_in_step (hb := hb9)); (with_reducible assumption); rintro ⟨hk, hc, hf, hzc, hzf⟩) | ((with_reducible refine kp_in_first hb9 ?_); rintro ⟨hk, hc, hf, hzc, hzf⟩)))
    go_ret
    exact ⟨rfl, by (repeat (first | with_reducible exact Below.refl _ _ | with_reducible apply bl_alloc | with_reducible apply bl_drew | with_reducible apply bl_after | (with_reducible refine bl_call ?_ (by assumption))))⟩
  · have h3' : (opS S true != 0) = true := h3
    clear h3
    generalize opS S true = q at *
    go_enter Try.func10, Try.ntmps10
    go_wp2_with (first | ((go_at_call 18); (with_reducible refine Calls.mono (hR.out _ (by (repeat (first | with_reducible exact Below.refl _ _ | with_reducible apply bl_alloc | with_reducible apply bl_drew | with_reducible apply bl_after | (with_reducible refine bl_call ?_ (by assumption)))))) ?_); rintro e wn ⟨rfl, hbn⟩; first | ((with_reducible apply kp_in_step (hb := hbn)); (with_reducible assumption); rintro ⟨hk, hc, hf, hzc, hzf⟩) | ((with_reducible refine kp_in_first hbn ?_); rintro ⟨hk, hc, hf, hzc, hzf⟩)) | ((go_at_call 19); (with_reducible refine Calls.mono (hP.out _ (by (repeat (first | with_reducible exact Below.refl _ _ | with_reducible apply bl_alloc | with_reducible apply bl_drew | with_reducible apply bl_after | (with_reducible refine bl_call ?_ (by assumption)))))) ?_); rintro e wn ⟨rfl, hbn⟩; first | ((with_reducible apply kp_in_step (hb := hbn)); (with_reducible assumption); rintro ⟨hk, hc, hf, hzc, hzf⟩) | ((with_reducible refine kp_in_first hbn ?_); rintro ⟨hk, hc, hf, hzc, hzf⟩)) | ((go_at_call 46); (with_reducible refine Calls.mono (hT.out _ (by (repeat (first | with_reducible exact Below.refl _ _ | with_reducible apply bl_alloc | with_reducible apply bl_drew | with_reducible apply bl_after | (with_reducible refine bl_call ?_ (by assumption)))))) ?_); rintro e wn ⟨rfl, hbn⟩; first | ((with_reducible apply kp_in_step (hb := hbn)); (with_reducible assumption); rintro ⟨hk, hc, hf, hzc, hzf⟩) | ((with_reducible refine kp_in_first hbn ?_); rintro ⟨hk, hc, hf, hzc, hzf⟩)) | ((go_at_call 13); (with_reducible refine Calls.mono (works4 _) ?_); rintro e w9 ⟨rfl, hb9⟩; first | ((with_reducible apply kp_in_step (hb := hb9)); (with_reducible assumption); rintro ⟨hk, hc, hf, hzc, hzf⟩) | ((with_reducible refine kp_in_first hb9 ?_); rintro ⟨hk, hc, hf, hzc, hzf⟩)))
    go_ret
    exact ⟨rfl, by (repeat (first | with_reducible exact Below.refl _ _ | with_reducible apply bl_alloc | with_reducible apply bl_drew | with_reducible apply bl_after | (with_reducible refine bl_call ?_ (by assumption))))⟩
set_option maxRecDepth 100000 in
set_option maxHeartbeats 8000000 in
theorem lawPieces4_ok (A B : Option Addr) (ca cb : Nat) (S : Sht) (l : List Pt) (w : World) (ha : Cts w A S.cs) (hla : S.cs.length ≤ 9223372036854775807) (hb : Pts w B l) (hlb : l.length ≤ 9223372036854775807)
    (h1 : rdyB S = true) (h2 : polB l = true) (h3 : opS S true = 0) :
    Calls Try.prog 10 #[(Value.agg #[(Value.int .i64 (S.xlo)), (Value.int .i64 (S.xhi)), (Value.int .i64 (S.ylo)), (Value.int .i64 (S.yhi)), .slice A S.cs.length ca, (Value.int .i64 (S.wrong))]), .slice B l.length cb] w fun e w' => e = .returned (.bool true) ∧ Below w.heap.size w w' := by
  have h0 : shtB S = true := by simp only [rdyB, Bool.and_eq_true] at h1; exact h1.2
  have hne := (opS_zero h3).2.2
  have hok := polB_ok.1 h2
  obtain ⟨b, o, rfl, hp⟩ := hb.ok hok
  have hl10 := hok.1
  have hR := fun (W : World) (h : Below w.heap.size w W) => ready4 A ca S W (ha.below h) hla
  have hP := fun (W : World) (h : Below w.heap.size w W) => isPolygon4 (some ⟨b, o, none⟩) cb l W ((hb.below h)) hlb
  have hT := fun (W : World) (h : Below w.heap.size w W) => rTruths4 A ca S W (ha.below h)
  have hAr := fun (W : World) (h : Below w.heap.size w W) => Area_any A (some ⟨b, o, none⟩) ca cb S l W (ha.below h) (hb.below h) (by omega)
  obtain ⟨s, hs, hRs, hps, hsg⟩ := ok_res hok
  have hTr := Lib.hid fun (V : World) (h : Below w.heap.size w V) => Triangles_ok b o cb l s V (hp.below h) hok hs hRs hsg
  have hsn := pc_sane h0 hne hok
  have hSn := Lib.hid fun (V : World) => sane4 (arLo S l) (arHi S l) (by simp only [saneB, Bool.and_eq_true, decide_eq_true_eq]; omega) V
  rw [h1] at hR
  rw [h2] at hP
  rw [h3] at hT
  rw [pc_arE h0 hne hok] at hAr
  replace hR := Lib.hid hR
  replace hP := Lib.hid hP
  replace hT := Lib.hid hT
  replace hAr := Lib.hid hAr
  have HH := Lib.hid (And.intro h0 (And.intro hne hok))
  have hsn' := Lib.hid hsn
  have hl10' := Lib.hid hl10
  have c1 : Blk (w.alloc (.cells #[(Value.int .i64 (S.xlo)), (Value.int .i64 (S.xhi)), (Value.int .i64 (S.ylo)), (Value.int .i64 (S.yhi)), .slice A S.cs.length ca, (Value.int .i64 (S.wrong))] 26)) w.heap.size 26 #[(Value.int .i64 (S.xlo)), (Value.int .i64 (S.xhi)), (Value.int .i64 (S.ylo)), (Value.int .i64 (S.yhi)), .slice A S.cs.length ca, (Value.int .i64 (S.wrong))] := Blk.new _ _ _
  have hb0 : Below w.heap.size w (w.alloc (.cells #[(Value.int .i64 (S.xlo)), (Value.int .i64 (S.xhi)), (Value.int .i64 (S.ylo)), (Value.int .i64 (S.yhi)), .slice A S.cs.length ca, (Value.int .i64 (S.wrong))] 26)) := by (repeat (first | with_reducible exact Below.refl _ _ | with_reducible apply bl_alloc | with_reducible apply bl_drew | with_reducible apply bl_after | (with_reducible refine bl_call ?_ (by assumption))))
  (have la := c1.lt); (have ya0 := c1.cell 0); (have ya1 := c1.cell 1); (have ya2 := c1.cell 2); (have ya3 := c1.cell 3); (have ya4 := c1.cell 4); (have ya5 := c1.cell 5); simp only [List.getElem?_toArray, List.getElem?_cons_zero, List.getElem?_cons_succ] at ya0 ya1 ya2 ya3 ya4 ya5
  clear h0 hne hok h1 h2 h3 hsg hRs hsn hl10
  go_enter Try.func10, Try.ntmps10
  go_upto_region 3 with (first | ((go_at_call 18); (with_reducible refine Calls.mono (hR.out _ (by (repeat (first | with_reducible exact Below.refl _ _ | with_reducible apply bl_alloc | with_reducible apply bl_drew | with_reducible apply bl_after | (with_reducible refine bl_call ?_ (by assumption)))))) ?_); rintro e wn ⟨rfl, hbn⟩; first | ((with_reducible apply kp_in_step (hb := hbn)); (with_reducible assumption); rintro ⟨hk, hc, hf, hzc, hzf⟩) | ((with_reducible refine kp_in_first hbn ?_); rintro ⟨hk, hc, hf, hzc, hzf⟩)) | ((go_at_call 19); (with_reducible refine Calls.mono (hP.out _ (by (repeat (first | with_reducible exact Below.refl _ _ | with_reducible apply bl_alloc | with_reducible apply bl_drew | with_reducible apply bl_after | (with_reducible refine bl_call ?_ (by assumption)))))) ?_); rintro e wn ⟨rfl, hbn⟩; first | ((with_reducible apply kp_in_step (hb := hbn)); (with_reducible assumption); rintro ⟨hk, hc, hf, hzc, hzf⟩) | ((with_reducible refine kp_in_first hbn ?_); rintro ⟨hk, hc, hf, hzc, hzf⟩)) | ((go_at_call 46); (with_reducible refine Calls.mono (hT.out _ (by (repeat (first | with_reducible exact Below.refl _ _ | with_reducible apply bl_alloc | with_reducible apply bl_drew | with_reducible apply bl_after | (with_reducible refine bl_call ?_ (by assumption)))))) ?_); rintro e wn ⟨rfl, hbn⟩; first | ((with_reducible apply kp_in_step (hb := hbn)); (with_reducible assumption); rintro ⟨hk, hc, hf, hzc, hzf⟩) | ((with_reducible refine kp_in_first hbn ?_); rintro ⟨hk, hc, hf, hzc, hzf⟩)) | ((go_at_call 13); (with_reducible refine Calls.mono (works4 _) ?_); rintro e w9 ⟨rfl, hb9⟩; first | ((with_reducible apply kp_in_step (hb := hb9)); (with_reducible assumption); rintro ⟨hk, hc, hf, hzc, hzf⟩) | ((with_reducible refine kp_in_first hb9 ?_); rintro ⟨hk, hc, hf, hzc, hzf⟩)))
  have hW3 : Below ((w.alloc (.cells #[(Value.int .i64 (S.xlo)), (Value.int .i64 (S.xhi)), (Value.int .i64 (S.ylo)), (Value.int .i64 (S.yhi)), .slice A S.cs.length ca, (Value.int .i64 (S.wrong))] 26))).heap.size (w.alloc (.cells #[(Value.int .i64 (S.xlo)), (Value.int .i64 (S.xhi)), (Value.int .i64 (S.ylo)), (Value.int .i64 (S.yhi)), .slice A S.cs.length ca, (Value.int .i64 (S.wrong))] 26)) wn := by (repeat (first | with_reducible exact Below.refl _ _ | with_reducible apply bl_alloc | with_reducible apply bl_drew | with_reducible apply bl_after | (with_reducible refine bl_call ?_ (by assumption))))
  have e2 := c1.below hW3
  have hbV := bl_call hb0 hW3
  clear la ya0 ya1 ya2 ya3 ya4 ya5 c1 hW3 hbn hR hP hT hb0
  ((try clear hk hc hf hzc hzf); (try clear hk hc hf hzc hzf); (try clear hk hc hf hzc hzf); (try clear hk hc hf hzc hzf))
  (have lb := e2.lt); (have yb0 := e2.cell 0); (have yb1 := e2.cell 1); (have yb2 := e2.cell 2); (have yb3 := e2.cell 3); (have yb4 := e2.cell 4); (have yb5 := e2.cell 5); simp only [List.getElem?_toArray, List.getElem?_cons_zero, List.getElem?_cons_succ] at yb0 yb1 yb2 yb3 yb4 yb5
  go_upto_region 4 with ((go_at_call 23); (with_reducible refine Calls.mono (hAr.out _ hbV) ?_); rintro e w4 ⟨rfl, hb4⟩)
  have hbW := bl_alloc (o := .cells #[(Value.int .i64 (arLo S l)), (Value.int .i64 (arHi S l))] 23) (bl_call hbV hb4)
  have e5 := (e2.below hb4).alloc (.cells #[(Value.int .i64 (arLo S l)), (Value.int .i64 (arHi S l))] 23)
  have g5 := Blk.new w4 23 #[(Value.int .i64 (arLo S l)), (Value.int .i64 (arHi S l))]
  have hws : w.heap.size < w4.heap.size := (e2.below hb4).lt
  clear lb yb0 yb1 yb2 yb3 yb4 yb5 e2 hbV hb4
  go_upto_region 5 with ((go_at_call 47; (with_reducible refine Calls.mono (hTr.out _ hbW) ?_); rintro e w5 ⟨v, T, rfl, hO, hT, hb5⟩))
  have hTl := hT.len
  have hl3 := hl10'.out
  obtain ⟨gt, cap, cur, rfl, -⟩ := hO.2.resolve_left (fun h => by omega)
  have hgt := (hO.lt gt rfl).1
  have hX := TrsAt.of_row hO
  have hs5 := hb5.size
  replace e5 := e5.below hb5
  replace g5 := (g5.below hb5)
  have hbX := bl_call hbW hb5
  have nta : gt ≠ w4.heap.size := by have := hgt; simp at this; omega
  have ntb : gt ≠ w.heap.size := by have := hgt; simp at this; omega
  replace hTl := Lib.hid hTl
  have hT1 : ((T.length : Int) != (l.length : Int) - 2) = false := by have := hTl.out; simp; omega
  have hT8 : T.length ≤ 8 := by have := hTl.out; omega
  clear hO hb5 hbW hTr hgt hs5
  generalize w4.heap.size = ga at *
  have G5 := Lib.hid g5
  (have la := g5.lt); (have ya0 := g5.cell 0); (have ya1 := g5.cell 1); simp only [List.getElem?_toArray, List.getElem?_cons_zero, List.getElem?_cons_succ] at ya0 ya1
  clear g5
  go_upto_region 7 with ((go_at_call 25); (with_reducible refine Calls.mono (hSn.out _) ?_); rintro e wn ⟨rfl, hbn⟩; first | ((with_reducible apply kp_in_step (hb := hbn)); (with_reducible assumption); rintro ⟨hk, hc, hf, hzc, hzf⟩) | ((with_reducible refine kp_in_first hbn ?_); rintro ⟨hk, hc, hf, hzc, hzf⟩))
  have hS7 : Below w5.heap.size w5 wn := by (repeat (first | with_reducible exact Below.refl _ _ | with_reducible apply bl_alloc | with_reducible apply bl_drew | with_reducible apply bl_after | (with_reducible refine bl_call ?_ (by assumption))))
  replace e5 := e5.below hS7
  have g5 := G5.out.below hS7
  replace hX := hX.below hS7
  replace hbX := bl_call hbX hS7
  clear la ya0 ya1 G5 hS7 hSn hbn
  ((try clear hk hc hf hzc hzf); (try clear hk hc hf hzc hzf); (try clear hk hc hf hzc hzf); (try clear hk hc hf hzc hzf))
  go_upto_region 8 with fail
  have c7 := Blk.new wn 23 #[(Value.int .i64 (0)), (Value.int .i64 (0))]
  have la := g5.lt
  have ls := e5.lt
  have lt := hX.lt
  replace e5 := e5.alloc (.cells #[(Value.int .i64 (0)), (Value.int .i64 (0))] 23)
  replace g5 := g5.alloc (.cells #[(Value.int .i64 (0)), (Value.int .i64 (0))] 23)
  replace hX := hX.below ((Below.refl _ wn).alloc (Nat.le_refl _) (.cells #[(Value.int .i64 (0)), (Value.int .i64 (0))] 23))
  replace hbX := bl_alloc (o := .cells #[(Value.int .i64 (0)), (Value.int .i64 (0))] 23) hbX
  have hg7 : w.heap.size < wn.heap.size := by omega
  have na7 : ga ≠ wn.heap.size := by omega
  have nt7 : gt ≠ wn.heap.size := by omega
  clear la ls lt
  generalize wn.alloc (.cells #[(Value.int .i64 (0)), (Value.int .i64 (0))] 23) = W2 at *
  generalize wn.heap.size = g7 at *
  have hTl2 := Lib.hid hTl.out
  clear hTl hT1
  go_wp2
  go_loopg [10] T.length (fun gh i wr => ∃ k : Nat, k ≤ T.length ∧ gh = T.length - k ∧ i = (Value.int .i64 ((k : Int))) ∧ Blk wr w.heap.size 26 #[(Value.int .i64 (S.xlo)), (Value.int .i64 (S.xhi)), (Value.int .i64 (S.ylo)), (Value.int .i64 (S.yhi)), .slice A S.cs.length ca, (Value.int .i64 (S.wrong))] ∧ Blk wr ga 23 #[(Value.int .i64 (arLo S l)), (Value.int .i64 (arHi S l))] ∧ Blk wr g7 23 #[(Value.int .i64 (loS S l T k)), (Value.int .i64 (hiS S l T k))] ∧ TrsAt wr gt T ∧ Below w.heap.size w wr)
  case atStart => exact ⟨0, Nat.zero_le _, rfl, rfl, e5, g5, c7, hX, hbX⟩
  case round =>
    clear e5 g5 c7 hX hbX
    obtain ⟨k, kn, rfl, rfl, e2, ea, e7, eX, hbw⟩ := hrel
    by_cases hlt : k < T.length
    · have hTk := hT.tri _ (tat_mem hlt)
      have hrng := Lib.hid (tnum_rng hTk)
      obtain ⟨B3, hB3⟩ : ∃ B3, B3 = wr.heap.size := ⟨_, rfl⟩
      have h2B : w.heap.size < B3 := by rw [hB3]; exact e2.lt
      have haB : ga < B3 := by rw [hB3]; exact ea.lt
      have h7B : g7 < B3 := by rw [hB3]; exact e7.lt
      have htB : gt < B3 := by rw [hB3]; exact eX.lt
      have hBB : B3 ≤ wr.heap.size := Nat.le_of_eq hB3
      clear hB3
      obtain ⟨i0, hi0, hz0, hz1, hz2⟩ := info_parts infoPt
      go_wp2
      go_loopg [11, 12] 3 (fun gh v j wr => ∃ m : Nat, m ≤ 3 ∧ gh = 3 - m ∧ j = (Value.int .i64 ((m : Int))) ∧ wr.ownsRow B3 42 2 v m (ptsV ((trP l (tat T k)).take m)) ∧ B3 ≤ wr.heap.size ∧ Blk wr w.heap.size 26 #[(Value.int .i64 (S.xlo)), (Value.int .i64 (S.xhi)), (Value.int .i64 (S.ylo)), (Value.int .i64 (S.yhi)), .slice A S.cs.length ca, (Value.int .i64 (S.wrong))] ∧ Blk wr ga 23 #[(Value.int .i64 (arLo S l)), (Value.int .i64 (arHi S l))] ∧ Blk wr g7 23 #[(Value.int .i64 (loS S l T k)), (Value.int .i64 (hiS S l T k))] ∧ TrsAt wr gt T ∧ Below w.heap.size w wr)
      case atStart => exact ⟨0, by omega, rfl, rfl, World.ownsRow_nil _ _ _ _, hBB, e2, ea, e7, eX, hbw⟩
      case round =>
        clear e2 ea e7 eX hbw hBB
        obtain ⟨m, mn, rfl, rfl, hO, hBB, e2, ea, e7, eX, hbw⟩ := hrel
        by_cases hlm : m < 3
        · obtain ⟨q1, q2⟩ := hrng.out m hlm
          have x1 := eX.x k m hlt hlm
          have htk := trP_take l (tat T k) m hlm
          obtain ⟨j, ej⟩ : ∃ j : Nat, tnum (tat T k) m = j := ⟨(tnum (tat T k) m).toNat, by omega⟩
          rw [ej] at x1 q1 q2 htk
          simp only [Int.toNat_natCast] at htk
          have j1 : j < l.length := by omega
          have x2 := (hp.below hbw).xp j1
          have x3 := (hp.below hbw).yp j1
          have lb := (hp.below hbw).lt
          have lt := eX.lt
          have hlm' : (m : Int) < 3 := by omega
          replace htk := Lib.hid htk
          clear ej
          go_wp2_with (at_builtin; refine wpList_append_own _ rfl (.tmp 87) (.tmp 97) 27 rfl B3 42 i0 _ 2 16 undPts hi0 hz0 hz1 hz2 rfl (by decide) _ _ _ rfl (World.ownsRow.alloc hO _) ⟨wr.heap.size, 0, none⟩ 1 1 [(Value.int .i64 ((pat l j).1)), (Value.int .i64 ((pat l j).2))] rfl rfl (tg_news _ [(Value.int .i64 ((pat l j).1)), (Value.int .i64 ((pat l j).2))] _) (one_pair _ _) (by unfold maxLen; omega) (by omega) (by simp; omega) ?_)
          intro v' w9 hown hgrow _
          have A7 := World.ownsRow.alloc hO (.cells #[(Value.int .i64 ((pat l j).1)), (Value.int .i64 ((pat l j).2))] 42)
          have far : ∀ q, q < B3 → some q ≠ u11.ownBlock := fun q hq e => by
            have := (A7.lt q e.symm).1
            omega
          have b9 : Below w.heap.size w w9 := (bl_alloc (o := .cells #[(Value.int .i64 ((pat l j).1)), (Value.int .i64 ((pat l j).2))] 42) hbw).grown hgrow (by have := hbw.size; simp; omega) fun q hq => by
            have := (A7.lt q hq).1
            omega
          have s9 : B3 ≤ w9.heap.size := by
            have := hgrow.size
            simp at this
            omega
          have r2 := blk_kept (e2.alloc (.cells #[(Value.int .i64 ((pat l j).1)), (Value.int .i64 ((pat l j).2))] 42)) hgrow (far _ h2B)
          have ra := blk_kept (ea.alloc (.cells #[(Value.int .i64 ((pat l j).1)), (Value.int .i64 ((pat l j).2))] 42)) hgrow (far _ haB)
          have r7 := blk_kept (e7.alloc (.cells #[(Value.int .i64 ((pat l j).1)), (Value.int .i64 ((pat l j).2))] 42)) hgrow (far _ h7B)
          have eX2 := eX.below ((Below.refl _ wr).alloc (Nat.le_refl _) (.cells #[(Value.int .i64 ((pat l j).1)), (Value.int .i64 ((pat l j).2))] 42))
          have rX : TrsAt w9 gt T := ⟨Nat.lt_of_lt_of_le eX2.lt hgrow.size, fun i k hi hk => hgrow.cell (eX2.x i k hi hk) (far _ htB)⟩
          rw [htk.out] at hown
          go_wp2
          go_roundg (3 - (m + 1))
          case measure => omega
          case rel => exact ⟨m + 1, by omega, rfl, by go_num, hown, s9, r2, ra, r7, rX, b9⟩
        · obtain rfl : m = 3 := by omega
          obtain ⟨g9, c9, cur9, rfl, -⟩ := hO.2.resolve_left (fun h => by omega)
          have e33 : (trP l (tat T k)).take 3 = trP l (tat T k) := rfl
          rw [e33] at hO
          have hq := ptsAt_own hO
          have hchk := Lib.hid fun (V : World) (h : Below wr.heap.size wr V) => (show Calls Try.prog 48 #[.slice (some ⟨g9, 0, none⟩) 3 c9] V fun e w' => e = .returned (Value.int .i64 (chk (trP l (tat T k)))) ∧ Below V.heap.size V w' from rCheck_any (some ⟨g9, 0, none⟩) c9 (trP l (tat T k)) V (.inr ⟨g9, 0, rfl, hq.below h⟩) (by simp [trP]))
          by_cases hz : triT l (tat T k) = 0
          · rw [chk_no (trP_no hz)] at hchk
            have u1 : loS S l T (k + 1) = loS S l T k := by rw [loS, if_pos hz]
            have u2 : hiS S l T (k + 1) = hiS S l T k := by rw [hiS, if_pos hz]
            replace u1 := Lib.hid u1
            replace u2 := Lib.hid u2
            clear hq hO
            go_wp2_with ((go_at_call 48); (with_reducible refine Calls.mono (hchk.out _ (by (repeat (first | with_reducible exact Below.refl _ _ | with_reducible apply bl_alloc | with_reducible apply bl_drew | with_reducible apply bl_after | (with_reducible refine bl_call ?_ (by assumption)))))) ?_); rintro e wn ⟨rfl, hbn⟩; first | ((with_reducible apply kp_in_step (hb := hbn)); (with_reducible assumption); rintro ⟨hk, hc, hf, hzc, hzf⟩) | ((with_reducible refine kp_in_first hbn ?_); rintro ⟨hk, hc, hf, hzc, hzf⟩))
            have hbb : Below wr.heap.size wr wn := by (repeat (first | with_reducible exact Below.refl _ _ | with_reducible apply bl_alloc | with_reducible apply bl_drew | with_reducible apply bl_after | (with_reducible refine bl_call ?_ (by assumption))))
            go_roundg (T.length - (k + 1))
            case measure => omega
            case rel => exact ⟨k + 1, by omega, rfl, by go_num, e2.below hbb, ea.below hbb, by rw [u1.out, u2.out]; exact e7.below hbb, eX.below hbb, bl_call hbw hbb⟩
          · obtain ⟨h0, hne, hok⟩ := HH.out
            have hok2 := trP_ok hok.2.1 hTk hz
            rw [chk_ok hok2] at hchk
            have hAr2 := fun (V : World) (h : Below wr.heap.size wr V) => (show Calls Try.prog 23 #[(Value.agg #[(Value.int .i64 (S.xlo)), (Value.int .i64 (S.xhi)), (Value.int .i64 (S.ylo)), (Value.int .i64 (S.yhi)), .slice A S.cs.length ca, (Value.int .i64 (S.wrong))]), .slice (some ⟨g9, 0, none⟩) 3 c9] V fun e w' => e = .returned (.tuple #[.agg #[(Value.int .i64 (arLo S (trP l (tat T k)))), (Value.int .i64 (arHi S (trP l (tat T k))))], (Value.int .i64 (arE S (trP l (tat T k)) true))]) ∧ Below V.heap.size V w' from Area_any A (some ⟨g9, 0, none⟩) ca c9 S (trP l (tat T k)) V (ha.below (bl_call hbw h)) (.inr ⟨g9, 0, rfl, hq.below h⟩) (by simp [trP]))
            rw [pc_arE h0 hne hok2] at hAr2
            replace hAr2 := Lib.hid hAr2
            have hs2 := pc_sane h0 hne hok2
            have hSn2 := Lib.hid fun (V : World) => sane4 (arLo S (trP l (tat T k))) (arHi S (trP l (tat T k))) (by simp only [saneB, Bool.and_eq_true, decide_eq_true_eq]; omega) V
            have u1 : loS S l T (k + 1) = loS S l T k + arLo S (trP l (tat T k)) := by rw [loS, if_neg hz]
            have u2 : hiS S l T (k + 1) = hiS S l T k + arHi S (trP l (tat T k)) := by rw [hiS, if_neg hz]
            have v1 := pc_bd h0 hne hok hT k (by omega)
            have m1 : IntKind.i64.wrap (loS S l T k + arLo S (trP l (tat T k))) = loS S l T k + arLo S (trP l (tat T k)) := IntWalk.i64_in _ (by omega)
            have m2 : IntKind.i64.wrap (hiS S l T k + arHi S (trP l (tat T k))) = hiS S l T k + arHi S (trP l (tat T k)) := IntWalk.i64_in _ (by omega)
            replace u1 := Lib.hid u1
            replace u2 := Lib.hid u2
            clear hq hO h0 hne hok hok2 hs2 v1
            generalize arLo S (trP l (tat T k)) = lo2 at *
            generalize arHi S (trP l (tat T k)) = hi2 at *
            (have lb := e2.lt); (have yb0 := e2.cell 0); (have yb1 := e2.cell 1); (have yb2 := e2.cell 2); (have yb3 := e2.cell 3); (have yb4 := e2.cell 4); (have yb5 := e2.cell 5); simp only [List.getElem?_toArray, List.getElem?_cons_zero, List.getElem?_cons_succ] at yb0 yb1 yb2 yb3 yb4 yb5
            go_upto_region 19 with ((go_at_call 48); (with_reducible refine Calls.mono (hchk.out _ (by (repeat (first | with_reducible exact Below.refl _ _ | with_reducible apply bl_alloc | with_reducible apply bl_drew | with_reducible apply bl_after | (with_reducible refine bl_call ?_ (by assumption)))))) ?_); rintro e wn ⟨rfl, hbn⟩; first | ((with_reducible apply kp_in_step (hb := hbn)); (with_reducible assumption); rintro ⟨hk, hc, hf, hzc, hzf⟩) | ((with_reducible refine kp_in_first hbn ?_); rintro ⟨hk, hc, hf, hzc, hzf⟩))
            have hbb : Below wr.heap.size wr wn := by (repeat (first | with_reducible exact Below.refl _ _ | with_reducible apply bl_alloc | with_reducible apply bl_drew | with_reducible apply bl_after | (with_reducible refine bl_call ?_ (by assumption))))
            replace e2 := e2.below hbb
            replace ea := ea.below hbb
            replace e7 := e7.below hbb
            replace eX := eX.below hbb
            have hbv := bl_call hbw hbb
            clear lb yb0 yb1 yb2 yb3 yb4 yb5 hchk hbn
            ((try clear hk hc hf hzc hzf); (try clear hk hc hf hzc hzf); (try clear hk hc hf hzc hzf); (try clear hk hc hf hzc hzf))
            (have lb := e2.lt); (have yb0 := e2.cell 0); (have yb1 := e2.cell 1); (have yb2 := e2.cell 2); (have yb3 := e2.cell 3); (have yb4 := e2.cell 4); (have yb5 := e2.cell 5); simp only [List.getElem?_toArray, List.getElem?_cons_zero, List.getElem?_cons_succ] at yb0 yb1 yb2 yb3 yb4 yb5
            go_upto_region 20 with ((go_at_call 23); (with_reducible refine Calls.mono (hAr2.out _ hbb) ?_); rintro e w4 ⟨rfl, hb4⟩)
            have c8 := Blk.new w4 23 #[(Value.int .i64 (lo2)), (Value.int .i64 (hi2))]
            have l7 : g7 < w4.heap.size := (e7.below hb4).lt
            have la : ga < w4.heap.size := (ea.below hb4).lt
            have lX : gt < w4.heap.size := (eX.below hb4).lt
            have n78 : g7 ≠ w4.heap.size := by omega
            have hb5 : Below wn.heap.size wn (w4.alloc (.cells #[(Value.int .i64 (lo2)), (Value.int .i64 (hi2))] 23)) := bl_alloc hb4
            replace e2 := e2.below hb5
            replace ea := ea.below hb5
            replace e7 := e7.below hb5
            replace eX := eX.below hb5
            replace hbv := bl_call hbv hb5
            clear lb yb0 yb1 yb2 yb3 yb4 yb5 l7 la lX hb4 hb5 hbb hbw hBB
            generalize w4.alloc (.cells #[(Value.int .i64 (lo2)), (Value.int .i64 (hi2))] 23) = V at *
            generalize w4.heap.size = g8 at *
            have C8 := Lib.hid c8
            (have lc := c8.lt); (have yc0 := c8.cell 0); (have yc1 := c8.cell 1); simp only [List.getElem?_toArray, List.getElem?_cons_zero, List.getElem?_cons_succ] at yc0 yc1
            clear c8
            go_upto_region 22 with ((go_at_call 25); (with_reducible refine Calls.mono (hSn2.out _) ?_); rintro e wn ⟨rfl, hbn⟩; first | ((with_reducible apply kp_in_step (hb := hbn)); (with_reducible assumption); rintro ⟨hk, hc, hf, hzc, hzf⟩) | ((with_reducible refine kp_in_first hbn ?_); rintro ⟨hk, hc, hf, hzc, hzf⟩))
            have hS7 : Below V.heap.size V wn := by (repeat (first | with_reducible exact Below.refl _ _ | with_reducible apply bl_alloc | with_reducible apply bl_drew | with_reducible apply bl_after | (with_reducible refine bl_call ?_ (by assumption))))
            have c8 := C8.out.below hS7
            replace e2 := e2.below hS7
            replace ea := ea.below hS7
            replace e7 := e7.below hS7
            replace eX := eX.below hS7
            replace hbv := bl_call hbv hS7
            clear lc yc0 yc1 hS7 hbn C8
            ((try clear hk hc hf hzc hzf); (try clear hk hc hf hzc hzf); (try clear hk hc hf hzc hzf); (try clear hk hc hf hzc hzf))
            have f0 := e7.frozen 0
            have f1 := e7.frozen 1
            (have ld := e7.lt); (have yd0 := e7.cell 0); (have yd1 := e7.cell 1); simp only [List.getElem?_toArray, List.getElem?_cons_zero, List.getElem?_cons_succ] at yd0 yd1
            (have lc := c8.lt); (have yc0 := c8.cell 0); (have yc1 := c8.cell 1); simp only [List.getElem?_toArray, List.getElem?_cons_zero, List.getElem?_cons_succ] at yc0 yc1
            go_wp2
            have n27 : w.heap.size ≠ g7 := by omega
            have r7 := (e7.set_ 0 (Value.int .i64 ((loS S l T k + lo2)))).set_ 1 (Value.int .i64 ((hiS S l T k + hi2)))
            go_roundg (T.length - (k + 1))
            case measure => omega
            case rel => exact ⟨k + 1, by omega, rfl, by go_num, (e2.far (p := ⟨g7, 0, none⟩) n27 _).far (p := ⟨g7, 1, none⟩) n27 _, (ea.far (p := ⟨g7, 0, none⟩) na7 _).far (p := ⟨g7, 1, none⟩) na7 _, by rw [u1.out, u2.out]; exact r7, trs_set (trs_set eX nt7 0 _) nt7 1 _, bl_setc (bl_setc hbv (by show w.heap.size ≤ g7; omega)) (by show w.heap.size ≤ g7; omega)⟩
    · obtain rfl : k = T.length := by omega
      obtain ⟨h0, hne, hok⟩ := HH.out
      obtain ⟨q1, q2⟩ := pc_law h0 hne hok hs hps hT
      clear h0 hne hok eX hlt e2
      generalize loS S l T T.length = xa at *
      generalize hiS S l T T.length = xb at *
      generalize arLo S l = ya at *
      generalize arHi S l = yb at *
      (have lc := ea.lt); (have yc0 := ea.cell 0); (have yc1 := ea.cell 1); simp only [List.getElem?_toArray, List.getElem?_cons_zero, List.getElem?_cons_succ] at yc0 yc1
      (have ld := e7.lt); (have yd0 := e7.cell 0); (have yd1 := e7.cell 1); simp only [List.getElem?_toArray, List.getElem?_cons_zero, List.getElem?_cons_succ] at yd0 yd1
      go_wp2_with ((go_at_call 13); (with_reducible refine Calls.mono (works4 _) ?_); rintro e w9 ⟨rfl, hb9⟩; first | ((with_reducible apply kp_in_step (hb := hb9)); (with_reducible assumption); rintro ⟨hk, hc, hf, hzc, hzf⟩) | ((with_reducible refine kp_in_first hb9 ?_); rintro ⟨hk, hc, hf, hzc, hzf⟩))
      go_ret
      exact ⟨rfl, bl_call hbw (by (repeat (first | with_reducible exact Below.refl _ _ | with_reducible apply bl_alloc | with_reducible apply bl_drew | with_reducible apply bl_after | (with_reducible refine bl_call ?_ (by assumption)))))⟩
theorem lawPieces4_any (A B : Option Addr) (ca cb : Nat) (S : Sht) (l : List Pt) (w : World) (ha : Cts w A S.cs) (hla : S.cs.length ≤ 9223372036854775807) (hb : Pts w B l) (hlb : l.length ≤ 9223372036854775807) :
    Calls Try.prog 10 #[(Value.agg #[(Value.int .i64 (S.xlo)), (Value.int .i64 (S.xhi)), (Value.int .i64 (S.ylo)), (Value.int .i64 (S.yhi)), .slice A S.cs.length ca, (Value.int .i64 (S.wrong))]), .slice B l.length cb] w fun e w' => e = .returned (.bool true) ∧ Below w.heap.size w w' := by
  by_cases h1 : rdyB S = true
  · by_cases h2 : polB l = true
    · by_cases h3 : opS S true = 0
      · exact lawPieces4_ok A B ca cb S l w ha hla hb hlb h1 h2 h3
      · exact lawPieces4_no A B ca cb S l w ha hla hb hlb true true false h1 h2 (by simpa using h3) (.inr (.inr ⟨rfl, rfl, rfl⟩))
    · exact lawPieces4_no A B ca cb S l w ha hla hb hlb true false (opS S true == 0) h1 (by simpa using h2) rfl (.inr (.inl ⟨rfl, rfl⟩))
  · exact lawPieces4_no A B ca cb S l w ha hla hb hlb false (polB l) (opS S true == 0) (by simpa using h1) rfl rfl (.inl rfl)
section
open Go.ChangeAt
set_option maxRecDepth 100000 in
theorem sheetsPieces_lifted (os : Os) (started : os.Started) (H : Type) (enc : TypeId × Value → H) :
    ReturnsInHanded {} Try.checked os 10 .any (Rows.sheetsPiecesSpec.pre6 enc Try.prog Try.f10 Rows.sheetsPiecesRow.domain false) (Rows.sheetsPiecesSpec.post enc Try.prog Try.f10 false true false false) := by
  refine returnsInHanded_of_change (C := Try.checked) own_knob started (by kernel_rfl) Try.func10
    (ChangeSpec.witness6 (enc := enc) (C := Try.checked) false ⟨#[], #[.agg #[.int .i64 0, .int .i64 0, .int .i64 0, .int .i64 0, .slice none 0 0, .int .i64 0], .slice none 0 0], []⟩ 8 (by kernel_rfl) (by kernel_rfl) (by kernel_rfl) (by kernel_rfl)) ?_
  intro W base args ds gs before hval0 hW hcnd _
  have hval : ∀ (j : Nat) t v, Try.f10.params[j]? = some t → args[j]? = some v → Value.okWide Try.prog W .any base t v := hval0
  have hW2 := hW
  obtain ⟨p, q, hA0, hV, rfl, hfz, hnd⟩ := hW
  have hA : DataW.TrodAll enc Try.prog W 0 (fun _ => true) true Try.f10.params.toList args.toList ds p := hA0
  rw [Try.params10] at hA hval
  obtain ⟨v0, v1, d0, d1, p0, p1, rfl, rfl, rfl, h0, h1⟩ := trodAll_two hA; obtain ⟨A, ca, S, rfl, hP0, hl0, hT1, hT2, hT3, hT4, hT5⟩ := open_sheet (hval 0 _ _ rfl rfl) h0; obtain ⟨B, cb, l, rfl, hP1, hl1⟩ := open_points (okWide_slice undPts (hval 1 _ _ rfl rfl)) h1
  obtain ⟨rfl, rfl⟩ := trodVars_none hV
  clear hA0 hval0
  simp only [List.append_nil, List.nil_append] at hW2
  (try simp only [List.append_nil, List.nil_append] at hA)
  refine (lawPieces4_any A B ca cb S l W hP0 hl0 hP1 hl1).mono fun e W2 ⟨he, hb⟩ => ?_
  subst he
  refine ⟨_, rfl, post_of_below (pa := _) (pv := []) hW2 (fun _ _ _ => trodAll_mk1 (shut_bool und_bool _)) (fun sp hs => args_stay hb (by rw [Try.params10]; intro t ht; simp at ht; (try rcases ht with rfl | rfl | rfl) <;> (try rcases ht with rfl | rfl) <;> (try subst ht) <;> exact ⟨by kernel_rfl, by decide +kernel⟩) (by rw [Try.params10]; exact hA) hs) (fun _ _ => rfl) (by simp) hb (ok_one (by kernel_rfl) rfl (okWide_bool_mk und_bool _))⟩

theorem sheetsPieces_holds : Rows.SheetsPiecesSaid :=
  OpenClaim.holds_of_wide 10 Try.f10 rfl rfl rfl rfl rfl rfl rfl ⟨rfl, rfl, rfl, rfl, rfl⟩ rfl rfl rfl rfl rfl (by kernel_rfl) Try.func10 (by kernel_rfl)
    (of_decide_eq_true (by kernel_rfl)) (by unfold Func.isWrapper; first | (rw [if_pos (by decide +kernel)]; kernel_rfl) | (rw [if_neg (by decide +kernel)]; exact ⟨rfl, rfl⟩))
    (fun os started H enc _ => sheetsPieces_lifted os started H enc)
end
end Go.Proofs.Ytegdnbceiopklaa
