/- The functions Example and works of the laws of sheets: works answers true, in any world. -/
import Derived.Test.YtegdnbceiopklaaLa4
import Derived.Test.YtegdnbceiopklaaRe4
import Derived.Test.YtegdnbceiopklaaAg4
import Derived.Test.YtegdnbceiopklaaFc4
namespace Go.Proofs.Ytegdnbceiopklaa
open Go.RowKit Go.Shelf
attribute [local go_sem] After.cell After.frozen

def exS : Sht := ⟨980, 1000, 990, 1010, [⟨1, 1000, 985, 2⟩, ⟨2, 500, 500, 1⟩, ⟨1, 2000, 1990, 20⟩], 0⟩
def exP : List Pt := [(0, 0), (20, 0), (20, 10), (0, 10)]
theorem exT : shtB exS = true ∧ (trs exS).length = 15 ∧ rfTo ((trs exS).map fun f => fac f 1) 201 = [985, 986, 987] := by decide +kernel
theorem exT2 : bLo (arQ exP) (trs exS) = 404 ∧ bHi (arQ exP) (trs exS) = 407 ∧ knw (agB (abT exP) 405 1) (trs exS) = 3 := by decide +kernel
theorem exT3 : chk exP = 0 := by decide +kernel
theorem exO (is : Bool) (h : is = true) : opS exS is = 0 := opS_of exT.1 h (fun h' => by have := exT.2.1; rw [h'] at this; cases this)
theorem exM : mnS exS = 15 := by rw [mnS, if_pos (exO true rfl), exT.2.1]; rfl
theorem exMs : msE exS exP = 0 := by rw [msE, if_pos exT.1, exT3]
theorem exAE : arE exS exP true = 0 := by rw [arE, if_pos exMs, exO true rfl]
theorem exLo : arLo exS exP = 404 := by rw [arLo, if_pos exAE, exT2.1]
theorem exHi : arHi exS exP = 407 := by rw [arHi, if_pos exAE, exT2.2.1]
theorem exGE : agE exS exP 405 1 = 0 := by rw [agE, if_pos exMs]; exact exO _ (by decide)
theorem exGV : agV exS exP 405 1 = 3 := by rw [agV, if_pos exGE, exT2.2.2]
theorem exF : fcV exS 1 = [985, 986, 987] := by rw [fcV, if_pos (exO _ (by decide)), fcS_eq (sht_ok exT.1), exT.2.2]
theorem recAt_blk {α : Type} {enc : α → List Int} {w : World} {g : Nat} {t : TypeId} {cs : Array Value} {l : List α} (h : Blk w g t cs) (e : recV enc l = cs.toList) : RecAt enc w g 0 l := by
  refine ⟨h.lt, fun j u hj => ?_⟩
  rw [Nat.zero_add, h.cell j]
  rw [e] at hj
  simpa using hj
theorem exP_at {w : World} {g : Nat} {t : TypeId} (h : Blk w g t #[(Value.int .i64 (0)), (Value.int .i64 (0)), (Value.int .i64 (20)), (Value.int .i64 (0)), (Value.int .i64 (20)), (Value.int .i64 (10)), (Value.int .i64 (0)), (Value.int .i64 (10))]) : Pts w (some ⟨g, 0, none⟩) exP := by
  refine .inr ⟨g, 0, rfl, h.lt, fun i p hi => ?_, fun i p hi => ?_⟩ <;>
  · rcases i with _ | _ | _ | _ | i <;> simp [exP] at hi <;> subst hi <;> exact (h.cell _).trans rfl
theorem ints_blk {w : World} {g : Nat} {t : TypeId} {l : List Int} (h : Blk w g t (intsV l).toArray) : Ints w (some ⟨g, 0, none⟩) l := by
  refine .inr ⟨g, 0, rfl, h.lt, fun i n hi => ?_⟩
  have := h.cell i
  rw [List.getElem?_toArray] at this
  simpa [intsV, hi] using this
set_option maxRecDepth 100000 in
set_option maxHeartbeats 1000000 in
theorem Example4 (w : World) :
    Calls Try.prog 49 #[] w fun e w' => (∃ g, e = .returned (Value.agg #[(Value.int .i64 (exS.xlo)), (Value.int .i64 (exS.xhi)), (Value.int .i64 (exS.ylo)), (Value.int .i64 (exS.yhi)), .slice (some ⟨g, 0, none⟩) exS.cs.length 3, (Value.int .i64 (exS.wrong))]) ∧ Cts w' (some ⟨g, 0, none⟩) exS.cs) ∧ Below w.heap.size w w' := by
  go_enter Try.func49, Try.ntmps49
  go_wp2
  refine bodyPost_ret (v := .agg #[(Value.int .i64 (980)), (Value.int .i64 (1000)), (Value.int .i64 (990)), (Value.int .i64 (1010)), .slice (some ⟨w.heap.size + 1, 0, none⟩) 3 3, (Value.int .i64 (0))]) (by simp [results, Try.results49, go_sem]) rfl ⟨⟨_, rfl, ?_⟩, ?_⟩
  · exact .inr ⟨_, 0, rfl, recAt_blk (t := 67) (Blk.new_at (by simp)) rfl⟩
  · (repeat (first | with_reducible exact Below.refl _ _ | with_reducible apply bl_alloc | with_reducible apply bl_drew | with_reducible apply bl_after | (with_reducible refine bl_call ?_ (by assumption))))
set_option maxRecDepth 100000 in
set_option maxHeartbeats 4000000 in
theorem works4 (w : World) :
    Calls Try.prog 13 #[] w fun e w' => e = .returned (.bool true) ∧ Below w.heap.size w w' := by
  have hEx := Lib.hid fun (W : World) => Example4 W
  go_enter Try.func13, Try.ntmps13
  go_upto_region 3 with ((go_at_call 49); (with_reducible refine Calls.mono (hEx.out _) ?_); rintro e w1 ⟨⟨g, rfl, hC⟩, hb1⟩; first | ((with_reducible apply kp_in_step (hb := hb1)); (with_reducible assumption); rintro ⟨hk, hc, hf, hzc, hzf⟩) | ((with_reducible refine kp_in_first hb1 ?_); rintro ⟨hk, hc, hf, hzc, hzf⟩))
  have c1 : Blk ((w1.alloc (.cells #[(Value.int .i64 (exS.xlo)), (Value.int .i64 (exS.xhi)), (Value.int .i64 (exS.ylo)), (Value.int .i64 (exS.yhi)), .slice (some ⟨g, 0, none⟩) exS.cs.length 3, (Value.int .i64 (exS.wrong))] 26)).alloc (.cells #[(Value.int .i64 (0)), (Value.int .i64 (0)), (Value.int .i64 (20)), (Value.int .i64 (0)), (Value.int .i64 (20)), (Value.int .i64 (10)), (Value.int .i64 (0)), (Value.int .i64 (10))] 42)) w1.heap.size 26 #[(Value.int .i64 (exS.xlo)), (Value.int .i64 (exS.xhi)), (Value.int .i64 (exS.ylo)), (Value.int .i64 (exS.yhi)), .slice (some ⟨g, 0, none⟩) exS.cs.length 3, (Value.int .i64 (exS.wrong))] := (Blk.new _ _ _).alloc _
  have c2 : Blk ((w1.alloc (.cells #[(Value.int .i64 (exS.xlo)), (Value.int .i64 (exS.xhi)), (Value.int .i64 (exS.ylo)), (Value.int .i64 (exS.yhi)), .slice (some ⟨g, 0, none⟩) exS.cs.length 3, (Value.int .i64 (exS.wrong))] 26)).alloc (.cells #[(Value.int .i64 (0)), (Value.int .i64 (0)), (Value.int .i64 (20)), (Value.int .i64 (0)), (Value.int .i64 (20)), (Value.int .i64 (10)), (Value.int .i64 (0)), (Value.int .i64 (10))] 42)) (w1.heap.size + 1) 42 #[(Value.int .i64 (0)), (Value.int .i64 (0)), (Value.int .i64 (20)), (Value.int .i64 (0)), (Value.int .i64 (20)), (Value.int .i64 (10)), (Value.int .i64 (0)), (Value.int .i64 (10))] := Blk.new_at (by simp)
  have hP := exP_at c2
  have hX : Cts ((w1.alloc (.cells #[(Value.int .i64 (exS.xlo)), (Value.int .i64 (exS.xhi)), (Value.int .i64 (exS.ylo)), (Value.int .i64 (exS.yhi)), .slice (some ⟨g, 0, none⟩) exS.cs.length 3, (Value.int .i64 (exS.wrong))] 26)).alloc (.cells #[(Value.int .i64 (0)), (Value.int .i64 (0)), (Value.int .i64 (20)), (Value.int .i64 (0)), (Value.int .i64 (20)), (Value.int .i64 (10)), (Value.int .i64 (0)), (Value.int .i64 (10))] 42)) (some ⟨g, 0, none⟩) exS.cs := (hC.alloc _).alloc _
  have hbW : Below w.heap.size w ((w1.alloc (.cells #[(Value.int .i64 (exS.xlo)), (Value.int .i64 (exS.xhi)), (Value.int .i64 (exS.ylo)), (Value.int .i64 (exS.yhi)), .slice (some ⟨g, 0, none⟩) exS.cs.length 3, (Value.int .i64 (exS.wrong))] 26)).alloc (.cells #[(Value.int .i64 (0)), (Value.int .i64 (0)), (Value.int .i64 (20)), (Value.int .i64 (0)), (Value.int .i64 (20)), (Value.int .i64 (10)), (Value.int .i64 (0)), (Value.int .i64 (10))] 42)) := bl_alloc (bl_alloc (bl_call (by (repeat (first | with_reducible exact Below.refl _ _ | with_reducible apply bl_alloc | with_reducible apply bl_drew | with_reducible apply bl_after | (with_reducible refine bl_call ?_ (by assumption))))) hb1))
  clear hC c2 hb1
  ((try clear hk hc hf hzc hzf); (try clear hk hc hf hzc hzf); (try clear hk hc hf hzc hzf); (try clear hk hc hf hzc hzf))
  generalize hWP : ((w1.alloc (.cells #[(Value.int .i64 (exS.xlo)), (Value.int .i64 (exS.xhi)), (Value.int .i64 (exS.ylo)), (Value.int .i64 (exS.yhi)), .slice (some ⟨g, 0, none⟩) exS.cs.length 3, (Value.int .i64 (exS.wrong))] 26)).alloc (.cells #[(Value.int .i64 (0)), (Value.int .i64 (0)), (Value.int .i64 (20)), (Value.int .i64 (0)), (Value.int .i64 (20)), (Value.int .i64 (10)), (Value.int .i64 (0)), (Value.int .i64 (10))] 42)) = W1 at *
  generalize hg9 : w1.heap.size + 1 = g9 at *
  generalize w1.heap.size = g8 at *
  clear hWP hg9
  have hMn := Lib.hid fun (V : World) (h : Below W1.heap.size W1 V) => (show Calls Try.prog 22 #[(Value.agg #[(Value.int .i64 (exS.xlo)), (Value.int .i64 (exS.xhi)), (Value.int .i64 (exS.ylo)), (Value.int .i64 (exS.yhi)), .slice (some ⟨g, 0, none⟩) exS.cs.length 3, (Value.int .i64 (exS.wrong))])] V fun e w' => e = .returned (.tuple #[(Value.int .i64 (15)), (Value.int .i64 (0))]) ∧ Below V.heap.size V w' by
    have h1 := Many_any4 (some ⟨g, 0, none⟩) 3 exS V (hX.below h)
    rwa [exM, exO true rfl] at h1)
  have hAr := Lib.hid fun (V : World) (h : Below W1.heap.size W1 V) => (show Calls Try.prog 23 #[(Value.agg #[(Value.int .i64 (exS.xlo)), (Value.int .i64 (exS.xhi)), (Value.int .i64 (exS.ylo)), (Value.int .i64 (exS.yhi)), .slice (some ⟨g, 0, none⟩) exS.cs.length 3, (Value.int .i64 (exS.wrong))]), .slice (some ⟨g9, 0, none⟩) 4 4] V fun e w' => e = .returned (.tuple #[.agg #[(Value.int .i64 (404)), (Value.int .i64 (407))], (Value.int .i64 (0))]) ∧ Below V.heap.size V w' by
    have h1 := Area_any (some ⟨g, 0, none⟩) (some ⟨g9, 0, none⟩) 3 4 exS exP V (hX.below h) (hP.below h) (by decide)
    rwa [exLo, exHi, exAE] at h1)
  have hAg := Lib.hid fun (V : World) (h : Below W1.heap.size W1 V) => (show Calls Try.prog 14 #[(Value.agg #[(Value.int .i64 (exS.xlo)), (Value.int .i64 (exS.xhi)), (Value.int .i64 (exS.ylo)), (Value.int .i64 (exS.yhi)), .slice (some ⟨g, 0, none⟩) exS.cs.length 3, (Value.int .i64 (exS.wrong))]), .slice (some ⟨g9, 0, none⟩) 4 4, (Value.int .i64 (405)), (Value.int .i64 (1))] V fun e w' => e = .returned (.tuple #[(Value.int .i64 (3)), (Value.int .i64 (0))]) ∧ Below V.heap.size V w' by
    have h1 := Agrees_any (some ⟨g, 0, none⟩) (some ⟨g9, 0, none⟩) 3 4 exS exP 405 1 V (hX.below h) (hP.below h) (by decide)
    rwa [exGV, exGE] at h1)
  have hFc := Lib.hid fun (V : World) (h : Below W1.heap.size W1 V) => (show Calls Try.prog 33 #[(Value.agg #[(Value.int .i64 (exS.xlo)), (Value.int .i64 (exS.xhi)), (Value.int .i64 (exS.ylo)), (Value.int .i64 (exS.yhi)), .slice (some ⟨g, 0, none⟩) exS.cs.length 3, (Value.int .i64 (exS.wrong))]), (Value.int .i64 (1))] V fun e w' => (∃ A' ca', e = .returned (.tuple #[.slice A' 3 ca', (Value.int .i64 (0))]) ∧ Ints w' A' [985, 986, 987]) ∧ Below V.heap.size V w' by
    have h1 := Factors_any (some ⟨g, 0, none⟩) 3 exS 1 V (hX.below h)
    rw [exF, show opS exS (wayB 1) = 0 from exO _ (by decide)] at h1
    exact h1)
  have hSm := Lib.hid fun (A : Option Addr) (ca : Nat) (V : World) (ha : Ints V A [985, 986, 987]) => (show Calls Try.prog 35 #[.slice A 3 ca, .slice (some ⟨V.heap.size, 0, none⟩) 3 3] (V.alloc (.cells #[(Value.int .i64 (985)), (Value.int .i64 (986)), (Value.int .i64 (987))] 3)) fun e w' => e = .returned (.bool true) ∧ Below (V.alloc (.cells #[(Value.int .i64 (985)), (Value.int .i64 (986)), (Value.int .i64 (987))] 3)).heap.size (V.alloc (.cells #[(Value.int .i64 (985)), (Value.int .i64 (986)), (Value.int .i64 (987))] 3)) w' by
    exact sameInts4 A (some ⟨V.heap.size, 0, none⟩) ca 3 [985, 986, 987] [985, 986, 987] (V.alloc (.cells #[(Value.int .i64 (985)), (Value.int .i64 (986)), (Value.int .i64 (987))] 3)) (ha.below (bl_alloc (Below.refl _ _))) (ints_blk (l := [985, 986, 987]) (t := 3) (Blk.new _ _ _)) (by decide) (by decide))
  (have la := c1.lt); (have ya0 := c1.cell 0); (have ya1 := c1.cell 1); (have ya2 := c1.cell 2); (have ya3 := c1.cell 3); (have ya4 := c1.cell 4); (have ya5 := c1.cell 5); simp only [List.getElem?_toArray, List.getElem?_cons_zero, List.getElem?_cons_succ] at ya0 ya1 ya2 ya3 ya4 ya5
  have HC1 := Lib.hid c1
  clear c1 hX hP hEx
  go_wp2_with (first | ((go_at_call 22); (with_reducible refine Calls.mono (hMn.out _ (by (repeat (first | with_reducible exact Below.refl _ _ | with_reducible apply bl_alloc | with_reducible apply bl_drew | with_reducible apply bl_after | (with_reducible refine bl_call ?_ (by assumption)))))) ?_); rintro e wn ⟨rfl, hbn⟩; first | ((with_reducible apply kp_in_step (hb := hbn)); (with_reducible assumption); rintro ⟨hk, hc, hf, hzc, hzf⟩) | ((with_reducible refine kp_in_first hbn ?_); rintro ⟨hk, hc, hf, hzc, hzf⟩)) | ((go_at_call 23); (with_reducible refine Calls.mono (hAr.out _ (by (repeat (first | with_reducible exact Below.refl _ _ | with_reducible apply bl_alloc | with_reducible apply bl_drew | with_reducible apply bl_after | (with_reducible refine bl_call ?_ (by assumption)))))) ?_); rintro e w4 ⟨rfl, hb4⟩; (have e5 := HC1.out.below (show Below W1.heap.size W1 w4 by (repeat (first | with_reducible exact Below.refl _ _ | with_reducible apply bl_alloc | with_reducible apply bl_drew | with_reducible apply bl_after | (with_reducible refine bl_call ?_ (by assumption)))))); (have l5 := e5.lt); (have e55 := e5.alloc (.cells #[(Value.int .i64 (404)), (Value.int .i64 (407))] 23)); first | ((with_reducible apply kp_in_step (hb := hb4)); (with_reducible assumption); rintro ⟨hk, hc, hf, hzc, hzf⟩) | ((with_reducible refine kp_in_first hb4 ?_); rintro ⟨hk, hc, hf, hzc, hzf⟩)) | ((go_at_call 14); (with_reducible refine Calls.mono (hAg.out _ (by (repeat (first | with_reducible exact Below.refl _ _ | with_reducible apply bl_alloc | with_reducible apply bl_drew | with_reducible apply bl_after | (with_reducible refine bl_call ?_ (by assumption)))))) ?_); rintro e wn ⟨rfl, hbn⟩; first | ((with_reducible apply kp_in_step (hb := hbn)); (with_reducible assumption); rintro ⟨hk, hc, hf, hzc, hzf⟩) | ((with_reducible refine kp_in_first hbn ?_); rintro ⟨hk, hc, hf, hzc, hzf⟩)) | ((go_at_call 33); (with_reducible refine Calls.mono (hFc.out _ (by (repeat (first | with_reducible exact Below.refl _ _ | with_reducible apply bl_alloc | with_reducible apply bl_drew | with_reducible apply bl_after | (with_reducible refine bl_call ?_ (by assumption)))))) ?_); rintro e w5 ⟨⟨A5, ca5, rfl, hI5⟩, hb5⟩; first | ((with_reducible apply kp_in_step (hb := hb5)); (with_reducible assumption); rintro ⟨hk, hc, hf, hzc, hzf⟩) | ((with_reducible refine kp_in_first hb5 ?_); rintro ⟨hk, hc, hf, hzc, hzf⟩)) | ((go_at_call 35); (with_reducible refine Calls.mono (hSm.out A5 ca5 _ hI5) ?_); rintro e w6 ⟨rfl, hb6⟩; first | ((with_reducible apply kp_in_step (hb := hb6)); (with_reducible assumption); rintro ⟨hk, hc, hf, hzc, hzf⟩) | ((with_reducible refine kp_in_first hb6 ?_); rintro ⟨hk, hc, hf, hzc, hzf⟩)))
  go_ret
  exact ⟨rfl, by (repeat (first | with_reducible exact Below.refl _ _ | with_reducible apply bl_alloc | with_reducible apply bl_drew | with_reducible apply bl_after | (with_reducible refine bl_call ?_ (by assumption))))⟩
end Go.Proofs.Ytegdnbceiopklaa
