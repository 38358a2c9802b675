/- The functions Sweep and Turns of walks. -/
import Derived.Test.YtfgplmgkejeoiaaTold5
namespace Go.Proofs.Ytfgplmgkejeoiaa
open Go.RowKit
attribute [local go_sem] After.cell After.frozen

def swV (T : Trk) (m : List Pt) (l : List Int) : Int := if tldE T m l = 0 then swp T m (l.map Int.toNat) else 0
def tnV (T : Trk) (m : List Pt) (l : List Int) : Int := if tldE T m l = 0 then (if T.closed = 0 then 0 else (onV T (l.map Int.toNat)).tdiv T.pts.length) else 0
theorem tldE_zero {T : Trk} {m : List Pt} {l : List Int} (h : tldE T m l = 0) : trkB T = true ∧ walkB m = true ∧ l.length = m.length ∧ l = ints (l.map Int.toNat) ∧ (∀ i, i < l.length → nat (l.map Int.toNat) i < T.pts.length) ∧ areN T m (l.map Int.toNat) = true := by
  unfold tldE at h
  split at h
  · rename_i hc
    obtain ⟨hT, hm⟩ := chk_zero_inv hc
    split at h
    · rename_i hr
      simp only [areB, Bool.and_eq_true, decide_eq_true_eq] at hr
      obtain ⟨⟨h1, h2⟩, h3⟩ := hr
      obtain ⟨h4, h5⟩ := inR_ints h2
      exact ⟨hT, hm, h1, h4, h5, h3⟩
    · omega
  · contradiction
theorem quo_wrap {a b : Int} (ha : -1000000 ≤ a ∧ a ≤ 1000000) : IntKind.i64.wrap (a.tdiv b) = a.tdiv b := by
  have h2 : -1000000 ≤ a.tdiv b ∧ a.tdiv b ≤ 1000000 := by
    have h3 : (a.tdiv b).natAbs ≤ a.natAbs := by rw [Int.natAbs_tdiv]; exact Nat.div_le_self _ _
    omega
  exact IntWalk.i64_in _ (by omega)

set_option maxRecDepth 100000 in
set_option maxHeartbeats 1000000 in
theorem Sweep_any (A B E : Option Addr) (ca cb ce : Nat) (T : Trk) (m : List Pt) (l : List Int) (w : World) (ha : Pts w A T.pts) (hla : T.pts.length ≤ 1000000) (hb : Pts w B m) (hlb : m.length ≤ 1000000) (he : Ints w E l) (hle : l.length ≤ 1000000) :
    Calls Try.prog 17 #[(Value.agg #[.slice A T.pts.length ca, (Value.int .i64 (T.closed)), (Value.int .i64 (T.lo)), (Value.int .i64 (T.hi))]), .slice B m.length cb, .slice E l.length ce] w fun e w' => e = .returned (.tuple #[(Value.int .i64 (swV T m l)), (Value.int .i64 (tldE T m l))]) ∧ Below w.heap.size w w' := by
  have ht := fun (W : World) (h : Below w.heap.size w W) => told_any A B E ca cb ce T m l W (ha.below h) hla (hb.below h) hlb (he.below h) hle
  by_cases h0 : tldE T m l = 0
  · obtain ⟨hT, hm, h1, h2, h3, h4⟩ := tldE_zero h0
    obtain ⟨b, o, rfl, hp⟩ := ha.at_ (k := 0) (by have := (trkB_bd hT).1; omega)
    obtain ⟨bm, om, rfl, hq⟩ := hb.at_ (k := 0) (by have := walkB_bd hm; omega)
    obtain ⟨be, oe, rfl, hI⟩ := he.at_ (k := 0) (by have := walkB_bd hm; omega)
    have hs := Lib.hid fun (W : World) (h : Below w.heap.size w W) => (show Calls Try.prog 54 #[(Value.agg #[.slice (some ⟨b, o, none⟩) T.pts.length ca, (Value.int .i64 (T.closed)), (Value.int .i64 (T.lo)), (Value.int .i64 (T.hi)), .slice (some ⟨bm, om, none⟩) m.length cb]), .slice (some ⟨be, oe, none⟩) l.length ce] W fun e w' => e = .returned (Value.int .i64 (swp T m (l.map Int.toNat))) ∧ Below W.heap.size W w' by
      have h5 := sweep_any b o ca bm om cb be oe ce T m (l.map Int.toNat) W (hp.below h) (hq.below h) (by rw [← h2]; exact hI.below h) hT hm (by simpa using h1) (by simpa using h3)
      rw [List.length_map] at h5
      exact h5)
    rw [swV, if_pos h0, h0]
    rw [h0] at ht
    replace ht := Lib.hid ht
    clear h0 h1 h2 h3 h4 hT hm hp hq hI ha hb he
    go_enter Try.func17, Try.ntmps17
    go_wp2_with (first | (go_at_call 53; with_reducible refine Calls.mono (ht.out _ (by (repeat (first | with_reducible exact Below.refl _ _ | with_reducible apply bl_alloc | with_reducible apply bl_drew | with_reducible apply bl_after | (with_reducible refine bl_call ?_ (by assumption)))))) ?_; rintro e w1 ⟨rfl, hb1⟩; first | ((with_reducible apply kp_in_step (hb := hb1)); (with_reducible assumption); rintro ⟨hk, hc, hf, hzc, hzf⟩) | ((with_reducible refine kp_in_first hb1 ?_); rintro ⟨hk, hc, hf, hzc, hzf⟩)) | (go_at_call 54; with_reducible refine Calls.mono (hs.out _ (by (repeat (first | with_reducible exact Below.refl _ _ | with_reducible apply bl_alloc | with_reducible apply bl_drew | with_reducible apply bl_after | (with_reducible refine bl_call ?_ (by assumption)))))) ?_; rintro e w1 ⟨rfl, hb1⟩; first | ((with_reducible apply kp_in_step (hb := hb1)); (with_reducible assumption); rintro ⟨hk, hc, hf, hzc, hzf⟩) | ((with_reducible refine kp_in_first hb1 ?_); rintro ⟨hk, hc, hf, hzc, hzf⟩)))
    go_ret2
    exact ⟨rfl, by (repeat (first | with_reducible exact Below.refl _ _ | with_reducible apply bl_alloc | with_reducible apply bl_drew | with_reducible apply bl_after | (with_reducible refine bl_call ?_ (by assumption))))⟩
  · have h1 : (tldE T m l != 0) = true := by rw [bne_iff_ne]; exact h0
    rw [swV, if_neg h0]
    replace ht := Lib.hid ht
    clear h0 ha hb he
    go_enter Try.func17, Try.ntmps17
    go_wp2_with (go_at_call 53; with_reducible refine Calls.mono (ht.out _ (by (repeat (first | with_reducible exact Below.refl _ _ | with_reducible apply bl_alloc | with_reducible apply bl_drew | with_reducible apply bl_after | (with_reducible refine bl_call ?_ (by assumption)))))) ?_; rintro e w1 ⟨rfl, hb1⟩; first | ((with_reducible apply kp_in_step (hb := hb1)); (with_reducible assumption); rintro ⟨hk, hc, hf, hzc, hzf⟩) | ((with_reducible refine kp_in_first hb1 ?_); rintro ⟨hk, hc, hf, hzc, hzf⟩))
    go_ret2
    exact ⟨rfl, by (repeat (first | with_reducible exact Below.refl _ _ | with_reducible apply bl_alloc | with_reducible apply bl_drew | with_reducible apply bl_after | (with_reducible refine bl_call ?_ (by assumption))))⟩
set_option maxRecDepth 100000 in
set_option maxHeartbeats 1000000 in
theorem Turns_any (A B E : Option Addr) (ca cb ce : Nat) (T : Trk) (m : List Pt) (l : List Int) (w : World) (ha : Pts w A T.pts) (hla : T.pts.length ≤ 1000000) (hb : Pts w B m) (hlb : m.length ≤ 1000000) (he : Ints w E l) (hle : l.length ≤ 1000000) :
    Calls Try.prog 19 #[(Value.agg #[.slice A T.pts.length ca, (Value.int .i64 (T.closed)), (Value.int .i64 (T.lo)), (Value.int .i64 (T.hi))]), .slice B m.length cb, .slice E l.length ce] w fun e w' => e = .returned (.tuple #[(Value.int .i64 (tnV T m l)), (Value.int .i64 (tldE T m l))]) ∧ Below w.heap.size w w' := by
  have ht := fun (W : World) (h : Below w.heap.size w W) => told_any A B E ca cb ce T m l W (ha.below h) hla (hb.below h) hlb (he.below h) hle
  have c0 : Blk (w.alloc (.cells #[.slice A T.pts.length ca, (Value.int .i64 (T.closed)), (Value.int .i64 (T.lo)), (Value.int .i64 (T.hi))] 36)) w.heap.size 36 #[.slice A T.pts.length ca, (Value.int .i64 (T.closed)), (Value.int .i64 (T.lo)), (Value.int .i64 (T.hi))] := Blk.new _ _ _
  by_cases h0 : tldE T m l = 0
  · obtain ⟨hT, hm, h1, h2, h3, h4⟩ := tldE_zero h0
    have htb := trkB_bd hT
    have hmb := walkB_bd hm
    obtain ⟨be, oe, rfl, hI⟩ := he.at_ (k := 0) (by omega)
    have hs := Lib.hid fun (W : World) (h : Below w.heap.size w W) => (show Calls Try.prog 57 #[(Value.agg #[.slice A T.pts.length ca, (Value.int .i64 (T.closed)), (Value.int .i64 (T.lo)), (Value.int .i64 (T.hi)), .slice B m.length cb]), .slice (some ⟨be, oe, none⟩) l.length ce] W fun e w' => e = .returned (.tuple #[(Value.int .i64 (mvV T (l.map Int.toNat))), (Value.int .i64 (onV T (l.map Int.toNat)))]) ∧ Below W.heap.size W w' by
      have h5 := moves_any A ca be oe ce T (.slice B m.length cb) (l.map Int.toNat) W (by rw [← h2]; exact hI.below h) (by simp; omega) (by simp; omega) (by omega) (by simpa using h3)
      rw [List.length_map] at h5
      exact h5)
    have q1 := onTo_bd T (l.map Int.toNat) (l.map Int.toNat).length
    have q2 := quo_wrap (a := onV T (l.map Int.toNat)) (b := (T.pts.length : Int)) (by unfold onV; simp at q1 ⊢; omega)
    have nz : ((T.pts.length : Int) == 0) = false := by rw [beq_eq_false_iff_ne]; omega
    have nz2 : T.pts.length ≠ 0 := by omega
    have nz3 : (T.pts.length : Int) ≠ 0 := by omega
    have hlen : T.pts.length ≤ 8 := by omega
    rw [tnV, if_pos h0, h0]
    rw [h0] at ht
    replace ht := Lib.hid ht
    by_cases hc : T.closed = 0
    · have c1 : (T.closed == 0) = true := by rw [beq_iff_eq]; exact hc
      rw [if_pos hc]
      clear hc h0 h1 h2 h3 h4 htb hmb hT hm hI ha hb he q1 q2
      go_enter Try.func19, Try.ntmps19
      go_wp2_with ((go_at_call 53); (with_reducible refine Calls.mono (ht.out _ (by (repeat (first | with_reducible exact Below.refl _ _ | with_reducible apply bl_alloc | with_reducible apply bl_drew | with_reducible apply bl_after | (with_reducible refine bl_call ?_ (by assumption)))))) ?_); rintro e w1 ⟨rfl, hb1⟩; have c2 := c0.below hb1; have l1 := c2.lt; have y0 := c2.cell 0; have y1 := c2.cell 1; simp only [List.getElem?_toArray, List.getElem?_cons_zero, List.getElem?_cons_succ] at y0 y1; first | ((with_reducible apply kp_in_step (hb := hb1)); (with_reducible assumption); rintro ⟨hk, hc, hf, hzc, hzf⟩) | ((with_reducible refine kp_in_first hb1 ?_); rintro ⟨hk, hc, hf, hzc, hzf⟩))
      go_ret2
      exact ⟨rfl, by (repeat (first | with_reducible exact Below.refl _ _ | with_reducible apply bl_alloc | with_reducible apply bl_drew | with_reducible apply bl_after | (with_reducible refine bl_call ?_ (by assumption))))⟩
    · have c1 : (T.closed == 0) = false := by rw [beq_eq_false_iff_ne]; exact hc
      rw [if_neg hc]
      clear hc h0 h1 h2 h3 h4 htb hmb hT hm hI ha hb he q1
      go_enter Try.func19, Try.ntmps19
      go_wp2_with (first | ((go_at_call 53); (with_reducible refine Calls.mono (ht.out _ (by (repeat (first | with_reducible exact Below.refl _ _ | with_reducible apply bl_alloc | with_reducible apply bl_drew | with_reducible apply bl_after | (with_reducible refine bl_call ?_ (by assumption)))))) ?_); rintro e w1 ⟨rfl, hb1⟩; have c2 := c0.below hb1; have l1 := c2.lt; have y0 := c2.cell 0; have y1 := c2.cell 1; simp only [List.getElem?_toArray, List.getElem?_cons_zero, List.getElem?_cons_succ] at y0 y1; first | ((with_reducible apply kp_in_step (hb := hb1)); (with_reducible assumption); rintro ⟨hk, hc, hf, hzc, hzf⟩) | ((with_reducible refine kp_in_first hb1 ?_); rintro ⟨hk, hc, hf, hzc, hzf⟩)) | (go_at_call 57; with_reducible refine Calls.mono (hs.out _ (by (repeat (first | with_reducible exact Below.refl _ _ | with_reducible apply bl_alloc | with_reducible apply bl_drew | with_reducible apply bl_after | (with_reducible refine bl_call ?_ (by assumption)))))) ?_; rintro e w1 ⟨rfl, hb1⟩; first | ((with_reducible apply kp_in_step (hb := hb1)); (with_reducible assumption); rintro ⟨hk, hc, hf, hzc, hzf⟩) | ((with_reducible refine kp_in_first hb1 ?_); rintro ⟨hk, hc, hf, hzc, hzf⟩)))
      go_ret2
      exact ⟨rfl, by (repeat (first | with_reducible exact Below.refl _ _ | with_reducible apply bl_alloc | with_reducible apply bl_drew | with_reducible apply bl_after | (with_reducible refine bl_call ?_ (by assumption))))⟩
  · have h1 : (tldE T m l != 0) = true := by rw [bne_iff_ne]; exact h0
    rw [tnV, if_neg h0]
    replace ht := Lib.hid ht
    clear h0 ha hb he
    go_enter Try.func19, Try.ntmps19
    go_wp2_with ((go_at_call 53); (with_reducible refine Calls.mono (ht.out _ (by (repeat (first | with_reducible exact Below.refl _ _ | with_reducible apply bl_alloc | with_reducible apply bl_drew | with_reducible apply bl_after | (with_reducible refine bl_call ?_ (by assumption)))))) ?_); rintro e w1 ⟨rfl, hb1⟩; have c2 := c0.below hb1; have l1 := c2.lt; have y0 := c2.cell 0; have y1 := c2.cell 1; simp only [List.getElem?_toArray, List.getElem?_cons_zero, List.getElem?_cons_succ] at y0 y1; first | ((with_reducible apply kp_in_step (hb := hb1)); (with_reducible assumption); rintro ⟨hk, hc, hf, hzc, hzf⟩) | ((with_reducible refine kp_in_first hb1 ?_); rintro ⟨hk, hc, hf, hzc, hzf⟩))
    go_ret2
    exact ⟨rfl, by (repeat (first | with_reducible exact Below.refl _ _ | with_reducible apply bl_alloc | with_reducible apply bl_drew | with_reducible apply bl_after | (with_reducible refine bl_call ?_ (by assumption))))⟩
end Go.Proofs.Ytfgplmgkejeoiaa
