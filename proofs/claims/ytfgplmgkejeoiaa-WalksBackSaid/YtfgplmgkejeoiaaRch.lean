/- The functions Reach of walks and of its reference. -/
import Derived.Test.YtfgplmgkejeoiaaReach
namespace Go.Proofs.Ytfgplmgkejeoiaa
open Go.RowKit
attribute [local go_sem] After.cell After.frozen

def rchV (T : Trk) (p : Pt) : List Int := if trkB T = true then (if isPt p = true then plc T p else []) else []
def rchE (T : Trk) (p : Pt) : Int := if trkB T = true then (if isPt p = true then 0 else 1) else 50
theorem intsN_nil (B : Nat) (w : World) : IntsN B w none 0 [] := ⟨.inl rfl, fun _ => ⟨rfl, rfl⟩, fun _ => rfl, fun a e => by cases e⟩
theorem plc_calls {f : FuncId} {args : Array Value} {w W : World} {l : List Int} (h : Below w.heap.size w W) (hc : Calls Try.prog f args W fun e w' => (∃ A' ca', e = .returned (.slice A' l.length ca') ∧ IntsN W.heap.size w' A' ca' l) ∧ Below W.heap.size W w') :
    Calls Try.prog f args W fun e w' => (∃ A' ca', e = .returned (.slice A' l.length ca') ∧ IntsN w.heap.size w' A' ca' l) ∧ Below W.heap.size W w' :=
  hc.mono fun _ _ ⟨⟨A', ca', e1, hN⟩, hb⟩ => ⟨⟨A', ca', e1, hN.mono h.size⟩, hb⟩
set_option maxRecDepth 100000 in
set_option maxHeartbeats 1000000 in
theorem Reach_any (A : Option Addr) (ca : Nat) (T : Trk) (p : Pt) (w : World) (ha : Pts w A T.pts) (hla : T.pts.length ≤ 1000000) :
    Calls Try.prog 26 #[(Value.agg #[.slice A T.pts.length ca, (Value.int .i64 (T.closed)), (Value.int .i64 (T.lo)), (Value.int .i64 (T.hi))]), (Value.agg #[.int .i64 p.1, .int .i64 p.2])] w fun e w' => (∃ A' ca', e = .returned (.tuple #[.slice A' (rchV T p).length ca', (Value.int .i64 (rchE T p))]) ∧ IntsN w.heap.size w' A' ca' (rchV T p)) ∧ Below w.heap.size w w' := by
  have h1 := fun (W : World) (h : Below w.heap.size w W) => isTrack_any A ca T W (ha.below h) hla
  have h2 := fun (W : World) => isStrange_any p W
  cases hT : trkB T with
  | false =>
    rw [hT] at h1
    rw [rchV, rchE, if_neg (by rw [hT]; exact Bool.false_ne_true), if_neg (by rw [hT]; exact Bool.false_ne_true)]
    replace h1 := Lib.hid h1
    clear hT h2 ha
    go_enter Try.func26, Try.ntmps26
    go_wp2_with (go_at_call 59; with_reducible refine Calls.mono (h1.out _ (by (repeat (first | with_reducible exact Below.refl _ _ | with_reducible apply bl_alloc | with_reducible apply bl_drew | with_reducible apply bl_after | (with_reducible refine bl_call ?_ (by assumption)))))) ?_; rintro e w1 ⟨rfl, hb1⟩; first | ((with_reducible apply kp_in_step (hb := hb1)); (with_reducible assumption); rintro ⟨hk, hc, hf, hzc, hzf⟩) | ((with_reducible refine kp_in_first hb1 ?_); rintro ⟨hk, hc, hf, hzc, hzf⟩))
    go_ret2
    exact ⟨⟨none, 0, rfl, intsN_nil _ _⟩, by (repeat (first | with_reducible exact Below.refl _ _ | with_reducible apply bl_alloc | with_reducible apply bl_drew | with_reducible apply bl_after | (with_reducible refine bl_call ?_ (by assumption))))⟩
  | true =>
    rw [hT] at h1
    replace h1 := Lib.hid h1
    rw [rchV, rchE, if_pos hT, if_pos hT]
    cases hi : isPt p with
    | false =>
      rw [hi] at h2
      rw [if_neg Bool.false_ne_true, if_neg Bool.false_ne_true]
      replace h2 := Lib.hid h2
      clear hT hi ha
      go_enter Try.func26, Try.ntmps26
      go_wp2_with (first | (go_at_call 59; with_reducible refine Calls.mono (h1.out _ (by (repeat (first | with_reducible exact Below.refl _ _ | with_reducible apply bl_alloc | with_reducible apply bl_drew | with_reducible apply bl_after | (with_reducible refine bl_call ?_ (by assumption)))))) ?_; rintro e w1 ⟨rfl, hb1⟩; first | ((with_reducible apply kp_in_step (hb := hb1)); (with_reducible assumption); rintro ⟨hk, hc, hf, hzc, hzf⟩) | ((with_reducible refine kp_in_first hb1 ?_); rintro ⟨hk, hc, hf, hzc, hzf⟩)) | (go_at_call 62; with_reducible refine Calls.mono (h2.out _) ?_; rintro e w1 ⟨rfl, hb1⟩; first | ((with_reducible apply kp_in_step (hb := hb1)); (with_reducible assumption); rintro ⟨hk, hc, hf, hzc, hzf⟩) | ((with_reducible refine kp_in_first hb1 ?_); rintro ⟨hk, hc, hf, hzc, hzf⟩)))
      go_ret2
      exact ⟨⟨none, 0, rfl, intsN_nil _ _⟩, by (repeat (first | with_reducible exact Below.refl _ _ | with_reducible apply bl_alloc | with_reducible apply bl_drew | with_reducible apply bl_after | (with_reducible refine bl_call ?_ (by assumption))))⟩
    | true =>
      rw [hi] at h2
      rw [if_pos rfl, if_pos rfl]
      replace h2 := Lib.hid h2
      have htb := (trkB_bd hT).1
      obtain ⟨b, o, rfl, hp⟩ := ha.at_ (k := 0) (by omega)
      have h3 := Lib.hid fun (W : World) (h : Below w.heap.size w W) => plc_calls h (places_any b o ca T (.slice none 0 0) p W (hp.below h) (by omega) htb.2 hi)
      clear hT hi ha hp htb
      go_enter Try.func26, Try.ntmps26
      go_wp2_with (first | (go_at_call 59; with_reducible refine Calls.mono (h1.out _ (by (repeat (first | with_reducible exact Below.refl _ _ | with_reducible apply bl_alloc | with_reducible apply bl_drew | with_reducible apply bl_after | (with_reducible refine bl_call ?_ (by assumption)))))) ?_; rintro e w1 ⟨rfl, hb1⟩; first | ((with_reducible apply kp_in_step (hb := hb1)); (with_reducible assumption); rintro ⟨hk, hc, hf, hzc, hzf⟩) | ((with_reducible refine kp_in_first hb1 ?_); rintro ⟨hk, hc, hf, hzc, hzf⟩)) | (go_at_call 62; with_reducible refine Calls.mono (h2.out _) ?_; rintro e w1 ⟨rfl, hb1⟩; first | ((with_reducible apply kp_in_step (hb := hb1)); (with_reducible assumption); rintro ⟨hk, hc, hf, hzc, hzf⟩) | ((with_reducible refine kp_in_first hb1 ?_); rintro ⟨hk, hc, hf, hzc, hzf⟩)) | ((go_at_call 63); (with_reducible refine Calls.mono (h3.out _ (by (repeat (first | with_reducible exact Below.refl _ _ | with_reducible apply bl_alloc | with_reducible apply bl_drew | with_reducible apply bl_after | (with_reducible refine bl_call ?_ (by assumption)))))) ?_); rintro e w1 ⟨⟨A1, ca1, rfl, hN⟩, hb1⟩; first | ((with_reducible apply kp_in_step (hb := hb1)); (with_reducible assumption); rintro ⟨hk, hc, hf, hzc, hzf⟩) | ((with_reducible refine kp_in_first hb1 ?_); rintro ⟨hk, hc, hf, hzc, hzf⟩)))
      go_ret2
      exact ⟨⟨A1, ca1, rfl, hN⟩, by (repeat (first | with_reducible exact Below.refl _ _ | with_reducible apply bl_alloc | with_reducible apply bl_drew | with_reducible apply bl_after | (with_reducible refine bl_call ?_ (by assumption))))⟩
set_option maxRecDepth 100000 in
set_option maxHeartbeats 1000000 in
theorem r5Reach_any (A : Option Addr) (ca : Nat) (T : Trk) (p : Pt) (w : World) (ha : Pts w A T.pts) (hla : T.pts.length ≤ 1000000) :
    Calls Try.prog 27 #[(Value.agg #[.slice A T.pts.length ca, (Value.int .i64 (T.closed)), (Value.int .i64 (T.lo)), (Value.int .i64 (T.hi))]), (Value.agg #[.int .i64 p.1, .int .i64 p.2])] w fun e w' => (∃ A' ca', e = .returned (.tuple #[.slice A' (rchV T p).length ca', (Value.int .i64 (rchE T p))]) ∧ IntsN w.heap.size w' A' ca' (rchV T p)) ∧ Below w.heap.size w w' := by
  have h1 := fun (W : World) (h : Below w.heap.size w W) => r5isTrack_any A ca T W (ha.below h) hla
  have h2 := fun (W : World) => r5IsPoint_any p W
  cases hT : trkB T with
  | false =>
    rw [hT] at h1
    rw [rchV, rchE, if_neg (by rw [hT]; exact Bool.false_ne_true), if_neg (by rw [hT]; exact Bool.false_ne_true)]
    replace h1 := Lib.hid h1
    clear hT h2 ha
    go_enter Try.func27, Try.ntmps27
    go_wp2_with (go_at_call 60; with_reducible refine Calls.mono (h1.out _ (by (repeat (first | with_reducible exact Below.refl _ _ | with_reducible apply bl_alloc | with_reducible apply bl_drew | with_reducible apply bl_after | (with_reducible refine bl_call ?_ (by assumption)))))) ?_; rintro e w1 ⟨rfl, hb1⟩; first | ((with_reducible apply kp_in_step (hb := hb1)); (with_reducible assumption); rintro ⟨hk, hc, hf, hzc, hzf⟩) | ((with_reducible refine kp_in_first hb1 ?_); rintro ⟨hk, hc, hf, hzc, hzf⟩))
    go_ret2
    exact ⟨⟨none, 0, rfl, intsN_nil _ _⟩, by (repeat (first | with_reducible exact Below.refl _ _ | with_reducible apply bl_alloc | with_reducible apply bl_drew | with_reducible apply bl_after | (with_reducible refine bl_call ?_ (by assumption))))⟩
  | true =>
    rw [hT] at h1
    replace h1 := Lib.hid h1
    rw [rchV, rchE, if_pos hT, if_pos hT]
    cases hi : isPt p with
    | false =>
      rw [hi] at h2
      rw [if_neg Bool.false_ne_true, if_neg Bool.false_ne_true]
      replace h2 := Lib.hid h2
      clear hT hi ha
      go_enter Try.func27, Try.ntmps27
      go_wp2_with (first | (go_at_call 60; with_reducible refine Calls.mono (h1.out _ (by (repeat (first | with_reducible exact Below.refl _ _ | with_reducible apply bl_alloc | with_reducible apply bl_drew | with_reducible apply bl_after | (with_reducible refine bl_call ?_ (by assumption)))))) ?_; rintro e w1 ⟨rfl, hb1⟩; first | ((with_reducible apply kp_in_step (hb := hb1)); (with_reducible assumption); rintro ⟨hk, hc, hf, hzc, hzf⟩) | ((with_reducible refine kp_in_first hb1 ?_); rintro ⟨hk, hc, hf, hzc, hzf⟩)) | (go_at_call 45; with_reducible refine Calls.mono (h2.out _) ?_; rintro e w1 ⟨rfl, hb1⟩; first | ((with_reducible apply kp_in_step (hb := hb1)); (with_reducible assumption); rintro ⟨hk, hc, hf, hzc, hzf⟩) | ((with_reducible refine kp_in_first hb1 ?_); rintro ⟨hk, hc, hf, hzc, hzf⟩)))
      go_ret2
      exact ⟨⟨none, 0, rfl, intsN_nil _ _⟩, by (repeat (first | with_reducible exact Below.refl _ _ | with_reducible apply bl_alloc | with_reducible apply bl_drew | with_reducible apply bl_after | (with_reducible refine bl_call ?_ (by assumption))))⟩
    | true =>
      rw [hi] at h2
      rw [if_pos rfl, if_pos rfl]
      replace h2 := Lib.hid h2
      have htb := (trkB_bd hT).1
      obtain ⟨b, o, rfl, hp⟩ := ha.at_ (k := 0) (by omega)
      have h3 := Lib.hid fun (W : World) (h : Below w.heap.size w W) => plc_calls h (r5reach_any b o ca T p W (hp.below h) (by omega) htb.2 hi)
      clear hT hi ha hp htb
      go_enter Try.func27, Try.ntmps27
      go_wp2_with (first | (go_at_call 60; with_reducible refine Calls.mono (h1.out _ (by (repeat (first | with_reducible exact Below.refl _ _ | with_reducible apply bl_alloc | with_reducible apply bl_drew | with_reducible apply bl_after | (with_reducible refine bl_call ?_ (by assumption)))))) ?_; rintro e w1 ⟨rfl, hb1⟩; first | ((with_reducible apply kp_in_step (hb := hb1)); (with_reducible assumption); rintro ⟨hk, hc, hf, hzc, hzf⟩) | ((with_reducible refine kp_in_first hb1 ?_); rintro ⟨hk, hc, hf, hzc, hzf⟩)) | (go_at_call 45; with_reducible refine Calls.mono (h2.out _) ?_; rintro e w1 ⟨rfl, hb1⟩; first | ((with_reducible apply kp_in_step (hb := hb1)); (with_reducible assumption); rintro ⟨hk, hc, hf, hzc, hzf⟩) | ((with_reducible refine kp_in_first hb1 ?_); rintro ⟨hk, hc, hf, hzc, hzf⟩)) | ((go_at_call 64); (with_reducible refine Calls.mono (h3.out _ (by (repeat (first | with_reducible exact Below.refl _ _ | with_reducible apply bl_alloc | with_reducible apply bl_drew | with_reducible apply bl_after | (with_reducible refine bl_call ?_ (by assumption)))))) ?_); rintro e w1 ⟨⟨A1, ca1, rfl, hN⟩, hb1⟩; first | ((with_reducible apply kp_in_step (hb := hb1)); (with_reducible assumption); rintro ⟨hk, hc, hf, hzc, hzf⟩) | ((with_reducible refine kp_in_first hb1 ?_); rintro ⟨hk, hc, hf, hzc, hzf⟩)))
      go_ret2
      exact ⟨⟨A1, ca1, rfl, hN⟩, by (repeat (first | with_reducible exact Below.refl _ _ | with_reducible apply bl_alloc | with_reducible apply bl_drew | with_reducible apply bl_after | (with_reducible refine bl_call ?_ (by assumption))))⟩
end Go.Proofs.Ytfgplmgkejeoiaa
