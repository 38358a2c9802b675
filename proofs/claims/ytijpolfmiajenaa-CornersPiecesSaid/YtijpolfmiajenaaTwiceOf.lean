/- The functions TwiceOf, Twice and Where of knurlref02 answer the doubled area and the place of a point, for a valid polygon; else the error. -/
import Derived.Test.YtijpolfmiajenaaTwF
import Derived.Test.YtijpolfmiajenaaRefW
namespace Go.Proofs.Ytijpolfmiajenaa
open Go.RowKit
attribute [local go_sem] After.cell After.frozen

set_option maxHeartbeats 400000 in
theorem rTwice_ok (b o ca : Nat) (l : List Pt) (w : World) (hp : PtsAt w b o l) (hok : Ok l) :
    Calls Try.prog 24 #[.slice (some ⟨b, o, none⟩) l.length ca] w fun e w' => e = .returned (.tuple #[(Value.int .i64 (tw l)), (Value.int .i64 (0))]) ∧ Below w.heap.size w w' := by
  have hc := rCheck_any (some ⟨b, o, none⟩) ca l w (.inr ⟨b, o, rfl, hp⟩) (by have := hok.1; omega)
  rw [chk_ok hok] at hc
  have ht : ∀ W, Below w.heap.size w W → _ := fun W hW => TwiceOf_any b o ca l W (hp.below hW) hok.1.1 hok.1.2 hok.2.1
  replace ht := Lib.hid ht
  clear hp hok
  go_enter Try.func24, Try.ntmps24
  go_wp2_with (first | ((with_reducible refine Calls.mono hc ?_); rintro e w1 ⟨rfl, hb1⟩) | (go_at_call 58; (with_reducible refine Calls.mono (ht.out _ (by assumption)) ?_); rintro e w2 ⟨rfl, hb2⟩))
  go_ret2
  exact ⟨rfl, by (repeat (first | with_reducible exact Below.refl _ _ | with_reducible apply bl_alloc | with_reducible apply bl_drew | with_reducible apply bl_after | (with_reducible refine bl_call ?_ (by assumption))))⟩
set_option maxHeartbeats 400000 in
theorem rTwice_no (A : Option Addr) (ca : Nat) (l : List Pt) (w : World) (ha : Pts w A l) (hla : l.length ≤ 1000000) (hok : ¬ Ok l) :
    Calls Try.prog 24 #[.slice A l.length ca] w fun e w' => e = .returned (.tuple #[(Value.int .i64 (0)), (Value.int .i64 (20))]) ∧ Below w.heap.size w w' := by
  have hc := rCheck_any A ca l w ha hla
  rw [chk_no hok] at hc
  clear ha hok
  go_enter Try.func24, Try.ntmps24
  go_wp2_with ((with_reducible refine Calls.mono hc ?_); rintro e w1 ⟨rfl, hb1⟩)
  go_ret2
  exact ⟨rfl, by (repeat (first | with_reducible exact Below.refl _ _ | with_reducible apply bl_alloc | with_reducible apply bl_drew | with_reducible apply bl_after | (with_reducible refine bl_call ?_ (by assumption))))⟩

set_option maxHeartbeats 400000 in
theorem rWhere_ok (b o ca : Nat) (l : List Pt) (q : Pt) (w : World) (hp : PtsAt w b o l) (hok : Ok l) (hq : isPt q = true) :
    Calls Try.prog 26 #[.slice (some ⟨b, o, none⟩) l.length ca, (Value.agg #[.int .i64 q.1, .int .i64 q.2])] w fun e w' => e = .returned (.tuple #[(Value.int .i64 (whereOf l q)), (Value.int .i64 (0))]) ∧ Below w.heap.size w w' := by
  have hc := fun W hW => rCheck_any (some ⟨b, o, none⟩) ca l W (.inr ⟨b, o, rfl, hp.below (w' := W) hW⟩) (by have := hok.1; omega)
  rw [chk_ok hok] at hc
  have ht : ∀ W, Below w.heap.size w W → _ := fun W hW => rwhere_any b o ca l q W (hp.below hW) hok hq
  replace ht := Lib.hid ht
  replace hc := Lib.hid hc
  clear hp hok
  go_enter Try.func26, Try.ntmps26
  go_wp2_with (first | (go_at_call 23; with_reducible refine Calls.mono (hc.out _ (by (repeat (first | with_reducible exact Below.refl _ _ | with_reducible apply bl_alloc | with_reducible apply bl_drew | with_reducible apply bl_after | (with_reducible refine bl_call ?_ (by assumption)))))) ?_; rintro e w1 ⟨rfl, hb1⟩; first | ((with_reducible apply kp_in_step (hb := hb1)); (with_reducible assumption); rintro ⟨hk, hc, hf, hzc, hzf⟩) | ((with_reducible refine kp_in_first hb1 ?_); rintro ⟨hk, hc, hf, hzc, hzf⟩)) | (go_at_call 31; with_reducible refine Calls.mono (rIsPoint_any _ _) ?_; rintro e w1 ⟨rfl, hb1⟩; first | ((with_reducible apply kp_in_step (hb := hb1)); (with_reducible assumption); rintro ⟨hk, hc, hf, hzc, hzf⟩) | ((with_reducible refine kp_in_first hb1 ?_); rintro ⟨hk, hc, hf, hzc, hzf⟩)) | (go_at_call 61; with_reducible refine Calls.mono (ht.out _ (by (repeat (first | with_reducible exact Below.refl _ _ | with_reducible apply bl_alloc | with_reducible apply bl_drew | with_reducible apply bl_after | (with_reducible refine bl_call ?_ (by assumption)))))) ?_; rintro e w1 ⟨rfl, hb1⟩; first | ((with_reducible apply kp_in_step (hb := hb1)); (with_reducible assumption); rintro ⟨hk, hc, hf, hzc, hzf⟩) | ((with_reducible refine kp_in_first hb1 ?_); rintro ⟨hk, hc, hf, hzc, hzf⟩)))
  go_ret2
  exact ⟨rfl, by (repeat (first | with_reducible exact Below.refl _ _ | with_reducible apply bl_alloc | with_reducible apply bl_drew | with_reducible apply bl_after | (with_reducible refine bl_call ?_ (by assumption))))⟩
set_option maxHeartbeats 400000 in
theorem rWhere_arg (b o ca : Nat) (l : List Pt) (q : Pt) (w : World) (hp : PtsAt w b o l) (hok : Ok l) (hq : isPt q = false) :
    Calls Try.prog 26 #[.slice (some ⟨b, o, none⟩) l.length ca, (Value.agg #[.int .i64 q.1, .int .i64 q.2])] w fun e w' => e = .returned (.tuple #[(Value.int .i64 (0)), (Value.int .i64 (1))]) ∧ Below w.heap.size w w' := by
  have hc := fun W hW => rCheck_any (some ⟨b, o, none⟩) ca l W (.inr ⟨b, o, rfl, hp.below (w' := W) hW⟩) (by have := hok.1; omega)
  rw [chk_ok hok] at hc
  replace hc := Lib.hid hc
  clear hp hok
  go_enter Try.func26, Try.ntmps26
  go_wp2_with (first | (go_at_call 23; with_reducible refine Calls.mono (hc.out _ (by (repeat (first | with_reducible exact Below.refl _ _ | with_reducible apply bl_alloc | with_reducible apply bl_drew | with_reducible apply bl_after | (with_reducible refine bl_call ?_ (by assumption)))))) ?_; rintro e w1 ⟨rfl, hb1⟩; first | ((with_reducible apply kp_in_step (hb := hb1)); (with_reducible assumption); rintro ⟨hk, hc, hf, hzc, hzf⟩) | ((with_reducible refine kp_in_first hb1 ?_); rintro ⟨hk, hc, hf, hzc, hzf⟩)) | (go_at_call 31; with_reducible refine Calls.mono (rIsPoint_any _ _) ?_; rintro e w1 ⟨rfl, hb1⟩; first | ((with_reducible apply kp_in_step (hb := hb1)); (with_reducible assumption); rintro ⟨hk, hc, hf, hzc, hzf⟩) | ((with_reducible refine kp_in_first hb1 ?_); rintro ⟨hk, hc, hf, hzc, hzf⟩)))
  go_ret2
  exact ⟨rfl, by (repeat (first | with_reducible exact Below.refl _ _ | with_reducible apply bl_alloc | with_reducible apply bl_drew | with_reducible apply bl_after | (with_reducible refine bl_call ?_ (by assumption))))⟩
set_option maxHeartbeats 400000 in
theorem rWhere_no (A : Option Addr) (ca : Nat) (l : List Pt) (q : Pt) (w : World) (ha : Pts w A l) (hla : l.length ≤ 1000000) (hok : ¬ Ok l) :
    Calls Try.prog 26 #[.slice A l.length ca, (Value.agg #[.int .i64 q.1, .int .i64 q.2])] w fun e w' => e = .returned (.tuple #[(Value.int .i64 (0)), (Value.int .i64 (20))]) ∧ Below w.heap.size w w' := by
  have hc := fun W hW => rCheck_any A ca l W (ha.below (w' := W) hW) hla
  rw [chk_no hok] at hc
  replace hc := Lib.hid hc
  clear ha hok
  go_enter Try.func26, Try.ntmps26
  go_wp2_with (first | (go_at_call 23; with_reducible refine Calls.mono (hc.out _ (by (repeat (first | with_reducible exact Below.refl _ _ | with_reducible apply bl_alloc | with_reducible apply bl_drew | with_reducible apply bl_after | (with_reducible refine bl_call ?_ (by assumption)))))) ?_; rintro e w1 ⟨rfl, hb1⟩; first | ((with_reducible apply kp_in_step (hb := hb1)); (with_reducible assumption); rintro ⟨hk, hc, hf, hzc, hzf⟩) | ((with_reducible refine kp_in_first hb1 ?_); rintro ⟨hk, hc, hf, hzc, hzf⟩)))
  go_ret2
  exact ⟨rfl, by (repeat (first | with_reducible exact Below.refl _ _ | with_reducible apply bl_alloc | with_reducible apply bl_drew | with_reducible apply bl_after | (with_reducible refine bl_call ?_ (by assumption))))⟩
end Go.Proofs.Ytijpolfmiajenaa
