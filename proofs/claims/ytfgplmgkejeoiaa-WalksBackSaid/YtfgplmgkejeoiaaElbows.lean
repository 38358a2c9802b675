/- The functions Least and Elbows of walks. -/
import Derived.Test.YtfgplmgkejeoiaaLeast
import Derived.Test.YtfgplmgkejeoiaaRch
namespace Go.Proofs.Ytfgplmgkejeoiaa
open Go.RowKit
attribute [local go_sem] After.cell After.frozen

def lbV (T : Trk) (m : List Pt) : List Nat := if opE T m = 0 then lsB T m else []
def lvV (T : Trk) (m : List Pt) : Int := if opE T m = 0 then lsV T m else 0
set_option maxRecDepth 100000 in
set_option maxHeartbeats 1000000 in
theorem least_no (A B : Option Addr) (ca cb : Nat) (T : Trk) (m : List Pt) (w : World) (ha : Pts w A T.pts) (hla : T.pts.length ≤ 1000000) (hb : Pts w B m) (hlb : m.length ≤ 1000000) (hne : opE T m ≠ 0) :
    Calls Try.prog 76 #[(Value.agg #[.slice A T.pts.length ca, (Value.int .i64 (T.closed)), (Value.int .i64 (T.lo)), (Value.int .i64 (T.hi))]), .slice B m.length cb] w fun e w' => e = .returned (.tuple #[.slice none 0 0, (Value.int .i64 (0)), (Value.int .i64 (opE T m))]) ∧ Below w.heap.size w w' := by
  have hc := Lib.hid fun (W : World) (h : Below w.heap.size w W) => open_any A B ca cb T m W (ha.below h) hla (hb.below h) hlb
  have h0 : (opE T m != 0) = true := by rw [bne_iff_ne]; exact hne
  clear hne ha hb
  go_enter Try.func76, Try.ntmps76
  go_wp2_with (go_at_call 71; with_reducible refine Calls.mono (hc.out _ (by (repeat (first | with_reducible exact Below.refl _ _ | with_reducible apply bl_alloc | with_reducible apply bl_drew | with_reducible apply bl_after | (with_reducible refine bl_call ?_ (by assumption)))))) ?_; rintro e w1 ⟨rfl, hb1⟩; first | ((with_reducible apply kp_in_step (hb := hb1)); (with_reducible assumption); rintro ⟨hk, hc, hf, hzc, hzf⟩) | ((with_reducible refine kp_in_first hb1 ?_); rintro ⟨hk, hc, hf, hzc, hzf⟩))
  refine bodyPost_ret (v := .tuple #[.slice none 0 0, (Value.int .i64 (0)), (Value.int .i64 (opE T m))]) (by simp [results, Try.results76, go_sem]) rfl ⟨rfl, by (repeat (first | with_reducible exact Below.refl _ _ | with_reducible apply bl_alloc | with_reducible apply bl_drew | with_reducible apply bl_after | (with_reducible refine bl_call ?_ (by assumption))))⟩
theorem least_any (A B : Option Addr) (ca cb : Nat) (T : Trk) (m : List Pt) (w : World) (ha : Pts w A T.pts) (hla : T.pts.length ≤ 1000000) (hb : Pts w B m) (hlb : m.length ≤ 1000000) :
    Calls Try.prog 76 #[(Value.agg #[.slice A T.pts.length ca, (Value.int .i64 (T.closed)), (Value.int .i64 (T.lo)), (Value.int .i64 (T.hi))]), .slice B m.length cb] w fun e w' => (∃ A' ca', e = .returned (.tuple #[.slice A' (lbV T m).length ca', (Value.int .i64 (lvV T m)), (Value.int .i64 (opE T m))]) ∧ IntsN w.heap.size w' A' ca' (ints (lbV T m))) ∧ Below w.heap.size w w' := by
  by_cases h : opE T m = 0
  · have hc : chkT T m = 0 := by
      have h' := h
      unfold opE at h'
      split at h'
      · assumption
      · exact h'
    obtain ⟨hT, hm⟩ := chk_zero_inv hc
    obtain ⟨b, o, rfl, hp⟩ := ha.at_ (k := 0) (by have := (trkB_bd hT).1; omega)
    obtain ⟨bm, om, rfl, hq⟩ := hb.at_ (k := 0) (by have := walkB_bd hm; omega)
    rw [lbV, lvV, if_pos h, if_pos h, h]
    exact least_ok b o ca bm om cb T m w hp hq hT hm h
  · rw [lbV, lvV, if_neg h, if_neg h]
    exact (least_no A B ca cb T m w ha hla hb hlb h).mono fun e w' ⟨h1, h2⟩ => ⟨⟨none, 0, h1, intsN_nil _ _⟩, h2⟩
theorem least_from {w W : World} {A B : Option Addr} {ca cb : Nat} {T : Trk} {m : List Pt} (h0 : Below w.heap.size w W) (ha : Pts w A T.pts) (hla : T.pts.length ≤ 1000000) (hb : Pts w B m) (hlb : m.length ≤ 1000000) :
    Calls Try.prog 76 #[(Value.agg #[.slice A T.pts.length ca, (Value.int .i64 (T.closed)), (Value.int .i64 (T.lo)), (Value.int .i64 (T.hi))]), .slice B m.length cb] W fun e w' => (∃ A' ca', e = .returned (.tuple #[.slice A' (lbV T m).length ca', (Value.int .i64 (lvV T m)), (Value.int .i64 (opE T m))]) ∧ IntsN w.heap.size w' A' ca' (ints (lbV T m))) ∧ Below W.heap.size W w' :=
  (least_any A B ca cb T m W (ha.below h0) hla (hb.below h0) hlb).mono fun _ _ ⟨⟨A', ca', e1, hN⟩, hb⟩ => ⟨⟨A', ca', e1, hN.mono h0.size⟩, hb⟩
set_option maxRecDepth 100000 in
set_option maxHeartbeats 1000000 in
theorem Least_any (A B : Option Addr) (ca cb : Nat) (T : Trk) (m : List Pt) (w : World) (ha : Pts w A T.pts) (hla : T.pts.length ≤ 1000000) (hb : Pts w B m) (hlb : m.length ≤ 1000000) :
    Calls Try.prog 37 #[(Value.agg #[.slice A T.pts.length ca, (Value.int .i64 (T.closed)), (Value.int .i64 (T.lo)), (Value.int .i64 (T.hi))]), .slice B m.length cb] w fun e w' => e = .returned (.tuple #[(Value.int .i64 (lvV T m)), (Value.int .i64 (opE T m))]) ∧ Below w.heap.size w w' := by
  have hc := Lib.hid fun (W : World) (h : Below w.heap.size w W) => least_from (ca := ca) (cb := cb) h ha hla hb hlb
  clear ha hb
  go_enter Try.func37, Try.ntmps37
  go_wp2_with ((go_at_call 76); (with_reducible refine Calls.mono (hc.out _ (by (repeat (first | with_reducible exact Below.refl _ _ | with_reducible apply bl_alloc | with_reducible apply bl_drew | with_reducible apply bl_after | (with_reducible refine bl_call ?_ (by assumption)))))) ?_); rintro e w1 ⟨⟨A1, ca1, rfl, hN⟩, hb1⟩; first | ((with_reducible apply kp_in_step (hb := hb1)); (with_reducible assumption); rintro ⟨hk, hc, hf, hzc, hzf⟩) | ((with_reducible refine kp_in_first hb1 ?_); rintro ⟨hk, hc, hf, hzc, hzf⟩))
  go_ret2
  exact ⟨rfl, by (repeat (first | with_reducible exact Below.refl _ _ | with_reducible apply bl_alloc | with_reducible apply bl_drew | with_reducible apply bl_after | (with_reducible refine bl_call ?_ (by assumption))))⟩
set_option maxRecDepth 100000 in
set_option maxHeartbeats 1000000 in
theorem Elbows_any (A B : Option Addr) (ca cb : Nat) (T : Trk) (m : List Pt) (w : World) (ha : Pts w A T.pts) (hla : T.pts.length ≤ 1000000) (hb : Pts w B m) (hlb : m.length ≤ 1000000) :
    Calls Try.prog 39 #[(Value.agg #[.slice A T.pts.length ca, (Value.int .i64 (T.closed)), (Value.int .i64 (T.lo)), (Value.int .i64 (T.hi))]), .slice B m.length cb] w fun e w' => (∃ A' ca', e = .returned (.tuple #[.slice A' (lbV T m).length ca', (Value.int .i64 (opE T m))]) ∧ IntsN w.heap.size w' A' ca' (ints (lbV T m))) ∧ Below w.heap.size w w' := by
  have hc := Lib.hid fun (W : World) (h : Below w.heap.size w W) => least_from (ca := ca) (cb := cb) h ha hla hb hlb
  clear ha hb
  go_enter Try.func39, Try.ntmps39
  go_wp2_with ((go_at_call 76); (with_reducible refine Calls.mono (hc.out _ (by (repeat (first | with_reducible exact Below.refl _ _ | with_reducible apply bl_alloc | with_reducible apply bl_drew | with_reducible apply bl_after | (with_reducible refine bl_call ?_ (by assumption)))))) ?_); rintro e w1 ⟨⟨A1, ca1, rfl, hN⟩, hb1⟩; first | ((with_reducible apply kp_in_step (hb := hb1)); (with_reducible assumption); rintro ⟨hk, hc, hf, hzc, hzf⟩) | ((with_reducible refine kp_in_first hb1 ?_); rintro ⟨hk, hc, hf, hzc, hzf⟩))
  go_ret2
  exact ⟨⟨_, _, rfl, hN⟩, by (repeat (first | with_reducible exact Below.refl _ _ | with_reducible apply bl_alloc | with_reducible apply bl_drew | with_reducible apply bl_after | (with_reducible refine bl_call ?_ (by assumption))))⟩
end Go.Proofs.Ytfgplmgkejeoiaa
