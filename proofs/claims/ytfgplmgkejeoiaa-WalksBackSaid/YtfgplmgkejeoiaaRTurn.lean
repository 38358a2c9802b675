/- The functions check, Sweep and Turns of the reference answer as those of walks. -/
import Derived.Test.YtfgplmgkejeoiaaRSwp
namespace Go.Proofs.Ytfgplmgkejeoiaa
open Go.RowKit
attribute [local go_sem] After.cell After.frozen

theorem step_open {T : Trk} {a b : Nat} (hc : T.closed = 0) (h : (stepV T a b).2 = true) : (stepV T a b).1 = (b : Int) - (a : Int) := by
  unfold stepV at h ⊢
  repeat' split
  all_goals simp_all
  all_goals omega
/-- On a track that is not closed the elbow ends where it began. -/
theorem onTo_open {T : Trk} {m : List Pt} {ns : List Nat} (hc : T.closed = 0) (h : areN T m ns = true) : ∀ k, k ≤ ns.length → 0 < ns.length → onTo T ns k = (nat ns (k % ns.length) : Int) - (nat ns 0 : Int)
  | 0, _, _ => by simp [onTo]
  | k + 1, hk, h0 => by
    have ih := onTo_open hc h k (by omega) h0
    have h1 : elOk T m ns k = true := by
      simp only [areN, List.all_eq_true, List.mem_range] at h
      exact h k (by omega)
    unfold elOk at h1
    rw [Bool.and_eq_true] at h1
    have h2 := step_open hc h1.1
    rw [onTo, ih, st1, h2, Nat.mod_eq_of_lt (show k < ns.length by omega)]
    unfold nx
    omega
theorem onV_open {T : Trk} {m : List Pt} {ns : List Nat} (hc : T.closed = 0) (h : areN T m ns = true) (h0 : 0 < ns.length) : onV T ns = 0 := by
  unfold onV
  rw [onTo_open hc h _ (Nat.le_refl _) h0, Nat.mod_self]
  omega

set_option maxRecDepth 100000 in
set_option maxHeartbeats 1000000 in
theorem r5check_any (A B E : Option Addr) (ca cb ce : Nat) (T : Trk) (m : List Pt) (l : List Int) (w : World) (ha : Pts w A T.pts) (hla : T.pts.length ≤ 1000000) (hb : Pts w B m) (hlb : m.length ≤ 1000000) (he : Ints w E l) (hle : l.length ≤ 1000000) :
    Calls Try.prog 55 #[(Value.agg #[.slice A T.pts.length ca, (Value.int .i64 (T.closed)), (Value.int .i64 (T.lo)), (Value.int .i64 (T.hi))]), .slice B m.length cb, .slice E l.length ce] w fun e w' => e = .returned (Value.int .i64 (tldE T m l)) ∧ Below w.heap.size w w' := by
  have hc := fun (W : World) (h : Below w.heap.size w W) => r5Check_any A B ca cb T m W (ha.below h) hla (hb.below h) hlb
  by_cases h : chkT T m = 0
  · obtain ⟨hT, hm⟩ := chk_zero_inv h
    obtain ⟨b, o, rfl, hp⟩ := ha.at_ (k := 0) (by have := (trkB_bd hT).1; omega)
    obtain ⟨bm, om, rfl, hq⟩ := hb.at_ (k := 0) (by have := walkB_bd hm; omega)
    have hr := fun (W : World) (h : Below w.heap.size w W) => AreElbows_any b o ca bm om cb E ce T m l W (hp.below h) (hq.below h) (he.below h) hle hT hm
    rw [tldE, if_pos h]
    rw [h] at hc
    replace hc := Lib.hid hc
    cases hv : areB T m l with
    | true =>
      rw [hv] at hr
      replace hr := Lib.hid hr
      rw [if_pos rfl]
      clear hv h hT hm hp hq ha hb he
      go_enter Try.func55, Try.ntmps55
      go_wp2_with (first | (go_at_call 24; with_reducible refine Calls.mono (hc.out _ (by (repeat (first | with_reducible exact Below.refl _ _ | with_reducible apply bl_alloc | with_reducible apply bl_drew | with_reducible apply bl_after | (with_reducible refine bl_call ?_ (by assumption)))))) ?_; rintro e w1 ⟨rfl, hb1⟩; first | ((with_reducible apply kp_in_step (hb := hb1)); (with_reducible assumption); rintro ⟨hk, hc, hf, hzc, hzf⟩) | ((with_reducible refine kp_in_first hb1 ?_); rintro ⟨hk, hc, hf, hzc, hzf⟩)) | (go_at_call 40; with_reducible refine Calls.mono (hr.out _ (by (repeat (first | with_reducible exact Below.refl _ _ | with_reducible apply bl_alloc | with_reducible apply bl_drew | with_reducible apply bl_after | (with_reducible refine bl_call ?_ (by assumption)))))) ?_; rintro e w1 ⟨rfl, hb1⟩; first | ((with_reducible apply kp_in_step (hb := hb1)); (with_reducible assumption); rintro ⟨hk, hc, hf, hzc, hzf⟩) | ((with_reducible refine kp_in_first hb1 ?_); rintro ⟨hk, hc, hf, hzc, hzf⟩)))
      go_ret
      exact ⟨rfl, by (repeat (first | with_reducible exact Below.refl _ _ | with_reducible apply bl_alloc | with_reducible apply bl_drew | with_reducible apply bl_after | (with_reducible refine bl_call ?_ (by assumption))))⟩
    | false =>
      rw [hv] at hr
      replace hr := Lib.hid hr
      rw [if_neg Bool.false_ne_true]
      clear hv h hT hm hp hq ha hb he
      go_enter Try.func55, Try.ntmps55
      go_wp2_with (first | (go_at_call 24; with_reducible refine Calls.mono (hc.out _ (by (repeat (first | with_reducible exact Below.refl _ _ | with_reducible apply bl_alloc | with_reducible apply bl_drew | with_reducible apply bl_after | (with_reducible refine bl_call ?_ (by assumption)))))) ?_; rintro e w1 ⟨rfl, hb1⟩; first | ((with_reducible apply kp_in_step (hb := hb1)); (with_reducible assumption); rintro ⟨hk, hc, hf, hzc, hzf⟩) | ((with_reducible refine kp_in_first hb1 ?_); rintro ⟨hk, hc, hf, hzc, hzf⟩)) | (go_at_call 40; with_reducible refine Calls.mono (hr.out _ (by (repeat (first | with_reducible exact Below.refl _ _ | with_reducible apply bl_alloc | with_reducible apply bl_drew | with_reducible apply bl_after | (with_reducible refine bl_call ?_ (by assumption)))))) ?_; rintro e w1 ⟨rfl, hb1⟩; first | ((with_reducible apply kp_in_step (hb := hb1)); (with_reducible assumption); rintro ⟨hk, hc, hf, hzc, hzf⟩) | ((with_reducible refine kp_in_first hb1 ?_); rintro ⟨hk, hc, hf, hzc, hzf⟩)))
      go_ret
      exact ⟨rfl, by (repeat (first | with_reducible exact Below.refl _ _ | with_reducible apply bl_alloc | with_reducible apply bl_drew | with_reducible apply bl_after | (with_reducible refine bl_call ?_ (by assumption))))⟩
  · rw [tldE, if_neg h]
    have h0 : (chkT T m != 0) = true := by rw [bne_iff_ne]; exact h
    replace hc := Lib.hid hc
    clear h ha hb he
    go_enter Try.func55, Try.ntmps55
    go_wp2_with (go_at_call 24; with_reducible refine Calls.mono (hc.out _ (by (repeat (first | with_reducible exact Below.refl _ _ | with_reducible apply bl_alloc | with_reducible apply bl_drew | with_reducible apply bl_after | (with_reducible refine bl_call ?_ (by assumption)))))) ?_; rintro e w1 ⟨rfl, hb1⟩; first | ((with_reducible apply kp_in_step (hb := hb1)); (with_reducible assumption); rintro ⟨hk, hc, hf, hzc, hzf⟩) | ((with_reducible refine kp_in_first hb1 ?_); rintro ⟨hk, hc, hf, hzc, hzf⟩))
    go_ret
    exact ⟨rfl, by (repeat (first | with_reducible exact Below.refl _ _ | with_reducible apply bl_alloc | with_reducible apply bl_drew | with_reducible apply bl_after | (with_reducible refine bl_call ?_ (by assumption))))⟩
set_option maxRecDepth 100000 in
set_option maxHeartbeats 1000000 in
theorem r5Sweep_any (A B E : Option Addr) (ca cb ce : Nat) (T : Trk) (m : List Pt) (l : List Int) (w : World) (ha : Pts w A T.pts) (hla : T.pts.length ≤ 1000000) (hb : Pts w B m) (hlb : m.length ≤ 1000000) (he : Ints w E l) (hle : l.length ≤ 1000000) :
    Calls Try.prog 18 #[(Value.agg #[.slice A T.pts.length ca, (Value.int .i64 (T.closed)), (Value.int .i64 (T.lo)), (Value.int .i64 (T.hi))]), .slice B m.length cb, .slice E l.length ce] w fun e w' => e = .returned (.tuple #[(Value.int .i64 (swV T m l)), (Value.int .i64 (tldE T m l))]) ∧ Below w.heap.size w w' := by
  have ht := fun (W : World) (h : Below w.heap.size w W) => r5check_any A B E ca cb ce T m l W (ha.below h) hla (hb.below h) hlb (he.below h) hle
  by_cases h0 : tldE T m l = 0
  · obtain ⟨hT, hm, h1, h2, h3, h4⟩ := tldE_zero h0
    obtain ⟨b, o, rfl, hp⟩ := ha.at_ (k := 0) (by have := (trkB_bd hT).1; omega)
    obtain ⟨bm, om, rfl, hq⟩ := hb.at_ (k := 0) (by have := walkB_bd hm; omega)
    obtain ⟨be, oe, rfl, hI⟩ := he.at_ (k := 0) (by have := walkB_bd hm; omega)
    have hs := Lib.hid fun (W : World) (h : Below w.heap.size w W) => (show Calls Try.prog 56 #[(Value.agg #[.slice (some ⟨b, o, none⟩) T.pts.length ca, (Value.int .i64 (T.closed)), (Value.int .i64 (T.lo)), (Value.int .i64 (T.hi))]), .slice (some ⟨bm, om, none⟩) m.length cb, .slice (some ⟨be, oe, none⟩) l.length ce] W fun e w' => e = .returned (Value.int .i64 (swp T m (l.map Int.toNat))) ∧ Below W.heap.size W w' by
      have h5 := SweepOf_any b o ca bm om cb be oe ce T m (l.map Int.toNat) W (hp.below h) (hq.below h) (by rw [← h2]; exact hI.below h) hT hm (by simpa using h1) (by simpa using h3)
      rw [List.length_map] at h5
      exact h5)
    rw [swV, if_pos h0, h0]
    rw [h0] at ht
    replace ht := Lib.hid ht
    clear h0 h1 h2 h3 h4 hT hm hp hq hI ha hb he
    go_enter Try.func18, Try.ntmps18
    go_wp2_with (first | (go_at_call 55; with_reducible refine Calls.mono (ht.out _ (by (repeat (first | with_reducible exact Below.refl _ _ | with_reducible apply bl_alloc | with_reducible apply bl_drew | with_reducible apply bl_after | (with_reducible refine bl_call ?_ (by assumption)))))) ?_; rintro e w1 ⟨rfl, hb1⟩; first | ((with_reducible apply kp_in_step (hb := hb1)); (with_reducible assumption); rintro ⟨hk, hc, hf, hzc, hzf⟩) | ((with_reducible refine kp_in_first hb1 ?_); rintro ⟨hk, hc, hf, hzc, hzf⟩)) | (go_at_call 56; with_reducible refine Calls.mono (hs.out _ (by (repeat (first | with_reducible exact Below.refl _ _ | with_reducible apply bl_alloc | with_reducible apply bl_drew | with_reducible apply bl_after | (with_reducible refine bl_call ?_ (by assumption)))))) ?_; rintro e w1 ⟨rfl, hb1⟩; first | ((with_reducible apply kp_in_step (hb := hb1)); (with_reducible assumption); rintro ⟨hk, hc, hf, hzc, hzf⟩) | ((with_reducible refine kp_in_first hb1 ?_); rintro ⟨hk, hc, hf, hzc, hzf⟩)))
    go_ret2
    exact ⟨rfl, by (repeat (first | with_reducible exact Below.refl _ _ | with_reducible apply bl_alloc | with_reducible apply bl_drew | with_reducible apply bl_after | (with_reducible refine bl_call ?_ (by assumption))))⟩
  · have h1 : (tldE T m l != 0) = true := by rw [bne_iff_ne]; exact h0
    rw [swV, if_neg h0]
    replace ht := Lib.hid ht
    clear h0 ha hb he
    go_enter Try.func18, Try.ntmps18
    go_wp2_with (go_at_call 55; with_reducible refine Calls.mono (ht.out _ (by (repeat (first | with_reducible exact Below.refl _ _ | with_reducible apply bl_alloc | with_reducible apply bl_drew | with_reducible apply bl_after | (with_reducible refine bl_call ?_ (by assumption)))))) ?_; rintro e w1 ⟨rfl, hb1⟩; first | ((with_reducible apply kp_in_step (hb := hb1)); (with_reducible assumption); rintro ⟨hk, hc, hf, hzc, hzf⟩) | ((with_reducible refine kp_in_first hb1 ?_); rintro ⟨hk, hc, hf, hzc, hzf⟩))
    go_ret2
    exact ⟨rfl, by (repeat (first | with_reducible exact Below.refl _ _ | with_reducible apply bl_alloc | with_reducible apply bl_drew | with_reducible apply bl_after | (with_reducible refine bl_call ?_ (by assumption))))⟩
set_option maxRecDepth 100000 in
set_option maxHeartbeats 1000000 in
theorem r5Turns_any (A B E : Option Addr) (ca cb ce : Nat) (T : Trk) (m : List Pt) (l : List Int) (w : World) (ha : Pts w A T.pts) (hla : T.pts.length ≤ 1000000) (hb : Pts w B m) (hlb : m.length ≤ 1000000) (he : Ints w E l) (hle : l.length ≤ 1000000) :
    Calls Try.prog 20 #[(Value.agg #[.slice A T.pts.length ca, (Value.int .i64 (T.closed)), (Value.int .i64 (T.lo)), (Value.int .i64 (T.hi))]), .slice B m.length cb, .slice E l.length ce] w fun e w' => e = .returned (.tuple #[(Value.int .i64 (tnV T m l)), (Value.int .i64 (tldE T m l))]) ∧ Below w.heap.size w w' := by
  have ht := fun (W : World) (h : Below w.heap.size w W) => r5check_any A B E ca cb ce T m l W (ha.below h) hla (hb.below h) hlb (he.below h) hle
  by_cases h0 : tldE T m l = 0
  · obtain ⟨hT, hm, h1, h2, h3, h4⟩ := tldE_zero h0
    have htb := trkB_bd hT
    have hmb := walkB_bd hm
    obtain ⟨be, oe, rfl, hI⟩ := he.at_ (k := 0) (by omega)
    have hs := Lib.hid fun (W : World) (h : Below w.heap.size w W) => (show Calls Try.prog 58 #[(Value.agg #[.slice A T.pts.length ca, (Value.int .i64 (T.closed)), (Value.int .i64 (T.lo)), (Value.int .i64 (T.hi))]), .slice (some ⟨be, oe, none⟩) l.length ce] W fun e w' => e = .returned (Value.int .i64 ((onV T (l.map Int.toNat)).tdiv T.pts.length)) ∧ Below W.heap.size W w' by
      have h5 := TurnsOf_any A ca be oe ce T (l.map Int.toNat) W (by rw [← h2]; exact hI.below h) (by simp; omega) (by simp; omega) (by omega) (by simpa using h3)
      rw [List.length_map] at h5
      exact h5)
    have hV : tnV T m l = (onV T (l.map Int.toNat)).tdiv T.pts.length := by
      rw [tnV, if_pos h0]
      split
      · rename_i hc
        rw [onV_open hc h4 (by simp; omega)]
        simp
      · rfl
    rw [hV, h0]
    rw [h0] at ht
    replace ht := Lib.hid ht
    clear h0 h1 h2 h3 h4 htb hmb hT hm hI ha hb he hV
    go_enter Try.func20, Try.ntmps20
    go_wp2_with (first | (go_at_call 55; with_reducible refine Calls.mono (ht.out _ (by (repeat (first | with_reducible exact Below.refl _ _ | with_reducible apply bl_alloc | with_reducible apply bl_drew | with_reducible apply bl_after | (with_reducible refine bl_call ?_ (by assumption)))))) ?_; rintro e w1 ⟨rfl, hb1⟩; first | ((with_reducible apply kp_in_step (hb := hb1)); (with_reducible assumption); rintro ⟨hk, hc, hf, hzc, hzf⟩) | ((with_reducible refine kp_in_first hb1 ?_); rintro ⟨hk, hc, hf, hzc, hzf⟩)) | (go_at_call 58; with_reducible refine Calls.mono (hs.out _ (by (repeat (first | with_reducible exact Below.refl _ _ | with_reducible apply bl_alloc | with_reducible apply bl_drew | with_reducible apply bl_after | (with_reducible refine bl_call ?_ (by assumption)))))) ?_; rintro e w1 ⟨rfl, hb1⟩; first | ((with_reducible apply kp_in_step (hb := hb1)); (with_reducible assumption); rintro ⟨hk, hc, hf, hzc, hzf⟩) | ((with_reducible refine kp_in_first hb1 ?_); rintro ⟨hk, hc, hf, hzc, hzf⟩)))
    go_ret2
    exact ⟨rfl, by (repeat (first | with_reducible exact Below.refl _ _ | with_reducible apply bl_alloc | with_reducible apply bl_drew | with_reducible apply bl_after | (with_reducible refine bl_call ?_ (by assumption))))⟩
  · have h1 : (tldE T m l != 0) = true := by rw [bne_iff_ne]; exact h0
    rw [tnV, if_neg h0]
    replace ht := Lib.hid ht
    clear h0 ha hb he
    go_enter Try.func20, Try.ntmps20
    go_wp2_with (go_at_call 55; with_reducible refine Calls.mono (ht.out _ (by (repeat (first | with_reducible exact Below.refl _ _ | with_reducible apply bl_alloc | with_reducible apply bl_drew | with_reducible apply bl_after | (with_reducible refine bl_call ?_ (by assumption)))))) ?_; rintro e w1 ⟨rfl, hb1⟩; first | ((with_reducible apply kp_in_step (hb := hb1)); (with_reducible assumption); rintro ⟨hk, hc, hf, hzc, hzf⟩) | ((with_reducible refine kp_in_first hb1 ?_); rintro ⟨hk, hc, hf, hzc, hzf⟩))
    go_ret2
    exact ⟨rfl, by (repeat (first | with_reducible exact Below.refl _ _ | with_reducible apply bl_alloc | with_reducible apply bl_drew | with_reducible apply bl_after | (with_reducible refine bl_call ?_ (by assumption))))⟩
end Go.Proofs.Ytfgplmgkejeoiaa
