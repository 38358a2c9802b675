/- The reference's known and Many. -/
import Derived.Test.YtfgplmgkejeoiaaRAllB
namespace Go.Proofs.Ytfgplmgkejeoiaa
open Go.RowKit
attribute [local go_sem] After.cell After.frozen

def knl (T : Trk) (m : List Pt) : List (List Nat) := if opE T m = 0 then elbs T m else []
theorem RefP.slice {ls : List (List Nat)} {B : Nat} {w : World} {v : Value} (h : RefP ls B w v) : ∃ A ca, v = .slice A ls.length ca := by
  obtain ⟨vs, h1, -⟩ := h
  rcases h1.2 with ⟨e, h2⟩ | ⟨g, cap, cur, e, -⟩
  · rw [h2]; exact ⟨none, 0, e⟩
  · exact ⟨_, _, e⟩
theorem RefP.mono {ls : List (List Nat)} {B C : Nat} {w : World} {v : Value} (h : RefP ls C w v) (hB : B ≤ C) : RefP ls B w v := by
  obtain ⟨vs, h1, h2⟩ := h
  exact ⟨vs, Joins.ownsRow_le h1 hB, h2⟩
theorem RefP.none (B : Nat) (w : World) : RefP [] B w (.slice none 0 0) := ⟨[], World.ownsRow_nil _ _ _ _, trivial⟩
set_option maxRecDepth 100000 in
set_option maxHeartbeats 2000000 in
theorem known_any (A B : Option Addr) (ca cb : Nat) (T : Trk) (m : List Pt) (w : World) (ha : Pts w A T.pts) (hla : T.pts.length ≤ 1000000) (hb : Pts w B m) (hlb : m.length ≤ 1000000) :
    Calls Try.prog 73 #[(Value.agg #[.slice A T.pts.length ca, (Value.int .i64 (T.closed)), (Value.int .i64 (T.lo)), (Value.int .i64 (T.hi))]), .slice B m.length cb] w fun e w' => (∃ A' ca', e = .returned (.tuple #[.slice A' (knl T m).length ca', (Value.int .i64 (opE T m))]) ∧ RefP (knl T m) w.heap.size w' (.slice A' (knl T m).length ca')) ∧ Below w.heap.size w w' := by
  have hc := fun (W : World) (h : Below w.heap.size w W) => r5Check_any A B ca cb T m W (ha.below h) hla (hb.below h) hlb
  have eT : Blk (w.alloc (.cells #[.slice A T.pts.length ca, (Value.int .i64 (T.closed)), (Value.int .i64 (T.lo)), (Value.int .i64 (T.hi))] 36)) w.heap.size 36 #[.slice A T.pts.length ca, (Value.int .i64 (T.closed)), (Value.int .i64 (T.lo)), (Value.int .i64 (T.hi))] := Blk.new _ _ _
  have lT := eT.lt
  have y0 := eT.cell 0
  have y1 := eT.cell 1
  have y2 := eT.cell 2
  have y3 := eT.cell 3
  simp only [List.getElem?_toArray, List.getElem?_cons_zero, List.getElem?_cons_succ] at y0 y1 y2 y3
  by_cases h0 : chkT T m = 0
  · obtain ⟨hT, hm⟩ := chk_zero_inv h0
    rw [h0] at hc
    replace hc := Lib.hid hc
    obtain ⟨b, o, rfl, hp⟩ := ha.at_ (k := 0) (by have := (trkB_bd hT).1; omega)
    obtain ⟨bm, om, rfl, hq⟩ := hb.at_ (k := 0) (by have := walkB_bd hm; omega)
    have hA := fun (W : World) (h : Below w.heap.size w W) => (show Calls Try.prog 93 #[(Value.agg #[.slice (some ⟨b, o, none⟩) T.pts.length ca, (Value.int .i64 (T.closed)), (Value.int .i64 (T.lo)), (Value.int .i64 (T.hi))]), .slice (some ⟨bm, om, none⟩) m.length cb, .slice none 0 0] W fun e w' => (∃ A' ca', e = .returned (.slice A' (elbs T m).length ca') ∧ RefP (elbs T m) w.heap.size w' (.slice A' (elbs T m).length ca')) ∧ Below W.heap.size W w' by
      have h1 := all_ref (b := b) (o := o) (ca := ca) (bm := bm) (om := om) (cm := cb) hT hm m.length [] none 0 W (hp.below h) (hq.below h) (by simp) (fun q hq => by cases hq) (.inl rfl) (fun a e => by cases e) (fun _ => rfl)
      rw [allQ_elbs (by have := walkB_bd hm; omega), List.length_nil] at h1
      exact h1.mono fun e w' ⟨⟨v, e1, hR⟩, hb⟩ => by
        obtain ⟨A', ca', rfl⟩ := hR.slice
        exact ⟨⟨A', ca', e1, hR.mono h.size⟩, hb⟩)
    replace hA := Lib.hid hA
    have hop : opE T m = elbE T m := by rw [opE, if_pos h0]
    by_cases he : elbs T m = []
    · have hE : opE T m = 3 := by rw [hop, elbE, if_pos he]
      have hk : knl T m = [] := by rw [knl, if_neg (by rw [hE]; decide)]
      rw [hE, hk]
      rw [he] at hA
      clear ha hb hp hq hT hm h0 hop he hE hk
      go_enter Try.func73, Try.ntmps73
      go_wp2_with (first | ((go_at_call 24); (with_reducible refine Calls.mono (hc.out _ (by (repeat (first | with_reducible exact Below.refl _ _ | with_reducible apply bl_alloc | with_reducible apply bl_drew | with_reducible apply bl_after | (with_reducible refine bl_call ?_ (by assumption)))))) ?_); rintro e w1 ⟨rfl, hb1⟩; first | ((with_reducible apply kp_in_step (hb := hb1)); (with_reducible assumption); rintro ⟨hk, hc, hf, hzc, hzf⟩) | ((with_reducible refine kp_in_first hb1 ?_); rintro ⟨hk, hc, hf, hzc, hzf⟩)) | ((go_at_call 93); (with_reducible refine Calls.mono (hA.out _ (by (repeat (first | with_reducible exact Below.refl _ _ | with_reducible apply bl_alloc | with_reducible apply bl_drew | with_reducible apply bl_after | (with_reducible refine bl_call ?_ (by assumption)))))) ?_); rintro e w2 ⟨⟨A', ca', rfl, hR⟩, hb2⟩; first | ((with_reducible apply kp_in_step (hb := hb2)); (with_reducible assumption); rintro ⟨hk, hc, hf, hzc, hzf⟩) | ((with_reducible refine kp_in_first hb2 ?_); rintro ⟨hk, hc, hf, hzc, hzf⟩)))
      go_ret2
      exact ⟨⟨none, 0, rfl, RefP.none _ _⟩, by (repeat (first | with_reducible exact Below.refl _ _ | with_reducible apply bl_alloc | with_reducible apply bl_drew | with_reducible apply bl_after | (with_reducible refine bl_call ?_ (by assumption))))⟩
    · have hE : opE T m = 0 := by rw [hop, elbE, if_neg he]
      have hk : knl T m = elbs T m := by rw [knl, if_pos hE]
      rw [hE, hk]
      have hn : (((elbs T m).length : Int) == 0) = false := by
        rw [beq_eq_false_iff_ne]
        intro h
        exact he (List.eq_nil_of_length_eq_zero (by omega))
      clear ha hb hp hq hT hm h0 hop he hE hk
      generalize elbs T m = L at *
      go_enter Try.func73, Try.ntmps73
      go_wp2_with (first | ((go_at_call 24); (with_reducible refine Calls.mono (hc.out _ (by (repeat (first | with_reducible exact Below.refl _ _ | with_reducible apply bl_alloc | with_reducible apply bl_drew | with_reducible apply bl_after | (with_reducible refine bl_call ?_ (by assumption)))))) ?_); rintro e w1 ⟨rfl, hb1⟩; first | ((with_reducible apply kp_in_step (hb := hb1)); (with_reducible assumption); rintro ⟨hk, hc, hf, hzc, hzf⟩) | ((with_reducible refine kp_in_first hb1 ?_); rintro ⟨hk, hc, hf, hzc, hzf⟩)) | ((go_at_call 93); (with_reducible refine Calls.mono (hA.out _ (by (repeat (first | with_reducible exact Below.refl _ _ | with_reducible apply bl_alloc | with_reducible apply bl_drew | with_reducible apply bl_after | (with_reducible refine bl_call ?_ (by assumption)))))) ?_); rintro e w2 ⟨⟨A', ca', rfl, hR⟩, hb2⟩; first | ((with_reducible apply kp_in_step (hb := hb2)); (with_reducible assumption); rintro ⟨hk, hc, hf, hzc, hzf⟩) | ((with_reducible refine kp_in_first hb2 ?_); rintro ⟨hk, hc, hf, hzc, hzf⟩)))
      go_ret2
      exact ⟨⟨A', ca', rfl, hR⟩, by (repeat (first | with_reducible exact Below.refl _ _ | with_reducible apply bl_alloc | with_reducible apply bl_drew | with_reducible apply bl_after | (with_reducible refine bl_call ?_ (by assumption))))⟩
  · have hop : opE T m = chkT T m := by rw [opE, if_neg h0]
    have hk : knl T m = [] := by rw [knl, if_neg (by rw [hop]; exact h0)]
    rw [hk, hop]
    have hn : (chkT T m != 0) = true := by rw [bne_iff_ne]; exact h0
    replace hc := Lib.hid hc
    clear ha hb h0 hop hk
    go_enter Try.func73, Try.ntmps73
    go_wp2_with ((go_at_call 24); (with_reducible refine Calls.mono (hc.out _ (by (repeat (first | with_reducible exact Below.refl _ _ | with_reducible apply bl_alloc | with_reducible apply bl_drew | with_reducible apply bl_after | (with_reducible refine bl_call ?_ (by assumption)))))) ?_); rintro e w1 ⟨rfl, hb1⟩; first | ((with_reducible apply kp_in_step (hb := hb1)); (with_reducible assumption); rintro ⟨hk, hc, hf, hzc, hzf⟩) | ((with_reducible refine kp_in_first hb1 ?_); rintro ⟨hk, hc, hf, hzc, hzf⟩))
    go_ret2
    exact ⟨⟨none, 0, rfl, RefP.none _ _⟩, by (repeat (first | with_reducible exact Below.refl _ _ | with_reducible apply bl_alloc | with_reducible apply bl_drew | with_reducible apply bl_after | (with_reducible refine bl_call ?_ (by assumption))))⟩
set_option maxRecDepth 100000 in
theorem r5Many_any (A B : Option Addr) (ca cb : Nat) (T : Trk) (m : List Pt) (w : World) (ha : Pts w A T.pts) (hla : T.pts.length ≤ 1000000) (hb : Pts w B m) (hlb : m.length ≤ 1000000) :
    Calls Try.prog 34 #[(Value.agg #[.slice A T.pts.length ca, (Value.int .i64 (T.closed)), (Value.int .i64 (T.lo)), (Value.int .i64 (T.hi))]), .slice B m.length cb] w fun e w' => e = .returned (.tuple #[(Value.int .i64 (((knl T m).length : Int))), (Value.int .i64 (opE T m))]) ∧ Below w.heap.size w w' := by
  have hK := Lib.hid fun (W : World) (h : Below w.heap.size w W) => known_any A B ca cb T m W (ha.below h) hla (hb.below h) hlb
  clear ha hb
  go_enter Try.func34, Try.ntmps34
  go_wp2_with ((go_at_call 73); (with_reducible refine Calls.mono (hK.out _ (by (repeat (first | with_reducible exact Below.refl _ _ | with_reducible apply bl_alloc | with_reducible apply bl_drew | with_reducible apply bl_after | (with_reducible refine bl_call ?_ (by assumption)))))) ?_); rintro e w2 ⟨⟨A', ca', rfl, hR⟩, hb2⟩; first | ((with_reducible apply kp_in_step (hb := hb2)); (with_reducible assumption); rintro ⟨hk, hc, hf, hzc, hzf⟩) | ((with_reducible refine kp_in_first hb2 ?_); rintro ⟨hk, hc, hf, hzc, hzf⟩))
  go_ret2
  exact ⟨rfl, by (repeat (first | with_reducible exact Below.refl _ _ | with_reducible apply bl_alloc | with_reducible apply bl_drew | with_reducible apply bl_after | (with_reducible refine bl_call ?_ (by assumption))))⟩
theorem knl_many (T : Trk) (m : List Pt) : ((knl T m).length : Int) = mnV T m := by
  unfold knl mnV opE elbE
  by_cases h : chkT T m = 0
  · rw [if_pos h, if_pos h]
    by_cases he : elbs T m = []
    · rw [if_pos he, if_neg (by decide), he]
      (try rfl)
    · rw [if_neg he, if_pos rfl]
  · rw [if_neg h, if_neg h, if_neg h]
    (try rfl)
end Go.Proofs.Ytfgplmgkejeoiaa
