/- The functions corners.First and corners.Second answer the moments of a valid polygon, and their error for other points. -/
import Derived.Test.YtijpolfmiajenaaMom
import Derived.Laws.EntriesVeiled
namespace Go.Proofs.Ytijpolfmiajenaa
open Go.RowKit
attribute [local go_sem] After.cell After.frozen

set_option maxRecDepth 100000 in
set_option maxHeartbeats 400000 in
theorem First_ok (b o ca : Nat) (l : List Pt) (w : World) (hp : PtsAt w b o l) (hok : Ok l) :
    Calls Try.prog 34 #[.slice (some ⟨b, o, none⟩) l.length ca] w fun e w' => e = .returned (.tuple #[(Value.int .i64 (mx l)), (Value.int .i64 (my l)), (Value.int .i64 (0))]) ∧ Below w.heap.size w w' := by
  have hc := Check_any (some ⟨b, o, none⟩) ca l w (.inr ⟨b, o, rfl, hp⟩) (by have := hok.1; omega)
  rw [chk_ok hok] at hc
  have h1 := Lib.hid fun (W : World) (hW : Below w.heap.size w W) => sum_any b o ca l 64 #[] fxF W (by have := hok.1; omega) hok.1.2 (hp.below hW) hok.2.1 fx_bd (enters_of Try.func64 (by kernel_rfl) rfl) (fun p q W hp hq _ => First1_any p q hp hq W)
  have h2 := Lib.hid fun (W : World) (hW : Below w.heap.size w W) => sum_any b o ca l 65 #[] fyF W (by have := hok.1; omega) hok.1.2 (hp.below hW) hok.2.1 fy_bd (enters_of Try.func65 (by kernel_rfl) rfl) (fun p q W hp hq _ => First2_any p q hp hq W)
  clear hp hok
  go_enter Try.func34, Try.ntmps34
  go_wp2_with (first | ((with_reducible refine Calls.mono hc ?_); rintro e w1 ⟨rfl, hb1⟩) | (go_at_call 63; (with_reducible refine Calls.mono (h1.out _ (by (repeat (first | with_reducible exact Below.refl _ _ | with_reducible apply bl_alloc | with_reducible apply bl_drew | with_reducible apply bl_after | (with_reducible refine bl_call ?_ (by assumption)))))) ?_); rintro e w2 ⟨rfl, hb2⟩) | (go_at_call 63; (with_reducible refine Calls.mono (h2.out _ (by (repeat (first | with_reducible exact Below.refl _ _ | with_reducible apply bl_alloc | with_reducible apply bl_drew | with_reducible apply bl_after | (with_reducible refine bl_call ?_ (by assumption)))))) ?_); rintro e w3 ⟨rfl, hb3⟩))
  go_ret3
  exact ⟨rfl, by (repeat (first | with_reducible exact Below.refl _ _ | with_reducible apply bl_alloc | with_reducible apply bl_drew | with_reducible apply bl_after | (with_reducible refine bl_call ?_ (by assumption))))⟩
set_option maxHeartbeats 400000 in
theorem First_no (A : Option Addr) (ca : Nat) (l : List Pt) (w : World) (ha : Pts w A l) (hla : l.length ≤ 1000000) (hok : ¬ Ok l) :
    Calls Try.prog 34 #[.slice A l.length ca] w fun e w' => e = .returned (.tuple #[(Value.int .i64 (0)), (Value.int .i64 (0)), (Value.int .i64 (20))]) ∧ Below w.heap.size w w' := by
  have hc := Check_any A ca l w ha hla
  rw [chk_no hok] at hc
  clear ha hok
  go_enter Try.func34, Try.ntmps34
  go_wp2_with ((with_reducible refine Calls.mono hc ?_); rintro e w1 ⟨rfl, hb1⟩)
  go_ret3
  exact ⟨rfl, by (repeat (first | with_reducible exact Below.refl _ _ | with_reducible apply bl_alloc | with_reducible apply bl_drew | with_reducible apply bl_after | (with_reducible refine bl_call ?_ (by assumption))))⟩

set_option maxRecDepth 100000 in
set_option maxHeartbeats 400000 in
theorem Second_ok (b o ca : Nat) (l : List Pt) (w : World) (hp : PtsAt w b o l) (hok : Ok l) :
    Calls Try.prog 36 #[.slice (some ⟨b, o, none⟩) l.length ca] w fun e w' => e = .returned (.tuple #[(Value.int .i64 (mxx l)), (Value.int .i64 (mxy l)), (Value.int .i64 (myy l)), (Value.int .i64 (0))]) ∧ Below w.heap.size w w' := by
  have hc := Check_any (some ⟨b, o, none⟩) ca l w (.inr ⟨b, o, rfl, hp⟩) (by have := hok.1; omega)
  rw [chk_ok hok] at hc
  have h1 := Lib.hid fun (B : Nat) (W : World) (hW : Below w.heap.size w W) (hB : Blk W B 67 #[.func (.func 67) #[] #[]]) => sum_any b o ca l 68 #[.pointer (some ⟨B, 0, none⟩)] xxF W (by have := hok.1; omega) hok.1.2 (hp.below hW) hok.2.1 xx_bd (enters_of Try.func68 (by kernel_rfl) rfl) (fun p q W' hp hq hb => Second2_any p q hp hq W' B (hB.below hb))
  have h2 := Lib.hid fun (B : Nat) (W : World) (hW : Below w.heap.size w W) (hB : Blk W B 67 #[.func (.func 67) #[] #[]]) => sum_any b o ca l 70 #[.pointer (some ⟨B, 0, none⟩)] yyF W (by have := hok.1; omega) hok.1.2 (hp.below hW) hok.2.1 yy_bd (enters_of Try.func70 (by kernel_rfl) rfl) (fun p q W' hp hq hb => Second4_any p q hp hq W' B (hB.below hb))
  have h3 := Lib.hid fun (W : World) (hW : Below w.heap.size w W) => sum_any b o ca l 69 #[] xyF W (by have := hok.1; omega) hok.1.2 (hp.below hW) hok.2.1 xy_bd (enters_of Try.func69 (by kernel_rfl) rfl) (fun p q W hp hq _ => Second3_any p q hp hq W)
  clear hp hok
  go_enter Try.func36, Try.ntmps36
  go_wp2_with (first | ((with_reducible refine Calls.mono hc ?_); rintro e w1 ⟨rfl, hb1⟩) | (go_at_call 63; (with_reducible refine Calls.mono (h1.out _ _ (by (repeat (first | with_reducible exact Below.refl _ _ | with_reducible apply bl_alloc | with_reducible apply bl_drew | with_reducible apply bl_after | (with_reducible refine bl_call ?_ (by assumption))))) (by first | exact Blk.new _ _ _ | exact ((Blk.new _ _ _).below (by assumption)).below (by assumption))) ?_); rintro e w2 ⟨rfl, hb2⟩) | (go_at_call 63; (with_reducible refine Calls.mono (h3.out _ (by (repeat (first | with_reducible exact Below.refl _ _ | with_reducible apply bl_alloc | with_reducible apply bl_drew | with_reducible apply bl_after | (with_reducible refine bl_call ?_ (by assumption)))))) ?_); rintro e w3 ⟨rfl, hb3⟩) | (go_at_call 63; (with_reducible refine Calls.mono (h2.out _ _ (by (repeat (first | with_reducible exact Below.refl _ _ | with_reducible apply bl_alloc | with_reducible apply bl_drew | with_reducible apply bl_after | (with_reducible refine bl_call ?_ (by assumption))))) (by first | exact Blk.new _ _ _ | exact ((Blk.new _ _ _).below (by assumption)).below (by assumption))) ?_); rintro e w4 ⟨rfl, hb4⟩))
  refine bodyPost_ret (v := .tuple #[(Value.int .i64 (mxx l)), (Value.int .i64 (mxy l)), (Value.int .i64 (myy l)), (Value.int .i64 (0))]) (by simp [results, Try.results36, go_sem]; exact ⟨rfl, rfl, rfl⟩) rfl ?_
  exact ⟨rfl, by (repeat (first | with_reducible exact Below.refl _ _ | with_reducible apply bl_alloc | with_reducible apply bl_drew | with_reducible apply bl_after | (with_reducible refine bl_call ?_ (by assumption))))⟩
set_option maxHeartbeats 400000 in
theorem Second_no (A : Option Addr) (ca : Nat) (l : List Pt) (w : World) (ha : Pts w A l) (hla : l.length ≤ 1000000) (hok : ¬ Ok l) :
    Calls Try.prog 36 #[.slice A l.length ca] w fun e w' => e = .returned (.tuple #[(Value.int .i64 (0)), (Value.int .i64 (0)), (Value.int .i64 (0)), (Value.int .i64 (20))]) ∧ Below w.heap.size w w' := by
  have hc := Check_any A ca l w ha hla
  rw [chk_no hok] at hc
  clear ha hok
  go_enter Try.func36, Try.ntmps36
  go_wp2_with ((with_reducible refine Calls.mono hc ?_); rintro e w1 ⟨rfl, hb1⟩)
  refine bodyPost_ret (v := .tuple #[(Value.int .i64 (0)), (Value.int .i64 (0)), (Value.int .i64 (0)), (Value.int .i64 (20))]) (by simp [results, Try.results36, go_sem]) rfl ?_
  exact ⟨rfl, by (repeat (first | with_reducible exact Below.refl _ _ | with_reducible apply bl_alloc | with_reducible apply bl_drew | with_reducible apply bl_after | (with_reducible refine bl_call ?_ (by assumption))))⟩
end Go.Proofs.Ytijpolfmiajenaa
