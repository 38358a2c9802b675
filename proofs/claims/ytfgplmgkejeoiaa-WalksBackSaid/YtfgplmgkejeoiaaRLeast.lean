/- The reference's Least. -/
import Derived.Test.YtfgplmgkejeoiaaRMov
namespace Go.Proofs.Ytfgplmgkejeoiaa
open Go.RowKit
attribute [local go_sem] After.cell After.frozen

theorem refP_at {ls : List (List Nat)} {B ca : Nat} {w : World} {A : Option Addr} (h : RefP ls B w (.slice A ls.length ca)) {i : Nat} (hi : i < ls.length) :
    ∃ g, A = some ⟨g, 0, none⟩ ∧ g < w.heap.size ∧ ∃ E ce, w.cell? ⟨g, i, none⟩ = some (.slice E (ls.getD i []).length ce) ∧ Ints w E (ints (ls.getD i [])) := by
  obtain ⟨vs, h1, h2⟩ := h
  have hx : ls[i]? = some (ls.getD i []) := by simp [List.getD, hi]
  obtain ⟨E, ce, e1, hI⟩ := h2.get hx
  rcases h1.2 with ⟨e, h3⟩ | ⟨g, cap, cur, e, hB, hg, hr⟩
  · omega
  · simp only [Value.slice.injEq] at e
    obtain ⟨rfl, -, rfl⟩ := e
    have hc := World.ownsRow.cells (g := g) h1 rfl i _ e1
    rw [add_at, Nat.zero_add] at hc
    exact ⟨g, rfl, heap_lt hg, E, ce, hc, hI⟩
set_option maxRecDepth 100000 in
set_option maxHeartbeats 2000000 in
theorem r5Least_any (A B : Option Addr) (ca cb : Nat) (T : Trk) (m : List Pt) (w : World) (ha : Pts w A T.pts) (hla : T.pts.length ≤ 1000000) (hb : Pts w B m) (hlb : m.length ≤ 1000000) :
    Calls Try.prog 38 #[(Value.agg #[.slice A T.pts.length ca, (Value.int .i64 (T.closed)), (Value.int .i64 (T.lo)), (Value.int .i64 (T.hi))]), .slice B m.length cb] w fun e w' => e = .returned (.tuple #[(Value.int .i64 (lvV T m)), (Value.int .i64 (opE T m))]) ∧ Below w.heap.size w w' := by
  have hK := fun (W : World) (h : Below w.heap.size w W) => known_any A B ca cb T m W (ha.below h) hla (hb.below h) hlb
  have hlen : ∀ x ∈ knl T m, x.length ≤ 1000 := fun x hx => by
    unfold knl at hx
    split at hx
    · rename_i h0
      have h1 := (mem_elbs hx).1
      have hc : chkT T m = 0 := by
        rw [opE] at h0
        split at h0
        · assumption
        · exact h0
      have := walkB_bd (chk_zero_inv hc).2
      omega
    · cases hx
  have hfin : opE T m = 0 → ((lmTo m.length (knl T m) (knl T m).length : Nat) : Int) = lvV T m := fun h0 => by
    have hc : chkT T m = 0 := by
      have h := h0
      rw [opE] at h
      split at h
      · assumption
      · exact h
    rw [knl, if_pos h0, lvV, if_pos h0]
    refine lm_least (by have := walkB_bd (chk_zero_inv hc).2; omega) fun he => ?_
    rw [opE, if_pos hc, elbE, if_pos he] at h0
    cases h0
  have hno : opE T m ≠ 0 → lvV T m = 0 := fun h => by rw [lvV, if_neg h]
  have hbig : (knl T m).length ≤ 16777216 := by
    unfold knl
    split
    · rename_i h0
      have hc : chkT T m = 0 := by
        rw [opE] at h0
        split at h0
        · assumption
        · exact h0
      have h1 := walkB_bd (chk_zero_inv hc).2
      have h2 := (trkB_bd (chk_zero_inv hc).1).1
      have h3 := allQ_len (T := T) (m := m) (by omega) m.length []
      rw [allQ_elbs (by omega)] at h3
      exact Nat.le_trans h3 (Nat.le_trans (Nat.pow_le_pow_right (by decide) (show m.length ≤ 8 by omega)) (by decide))
    · simp
  have HL := Lib.hid hlen
  have HF := Lib.hid hfin
  have HN := Lib.hid hno
  clear hlen hfin hno ha hb
  generalize knl T m = L at *
  generalize lvV T m = r at *
  generalize opE T m = op at *
  have hcase : op = 0 ∨ (op != 0) = true := by
    by_cases h : op = 0
    · exact .inl h
    · exact .inr (by rw [bne_iff_ne]; exact h)
  replace hK := Lib.hid hK
  go_enter Try.func38, Try.ntmps38
  go_wp2_with ((go_at_call 73); (with_reducible refine Calls.mono (hK.out _ (by (repeat (first | with_reducible exact Below.refl _ _ | with_reducible apply bl_alloc | with_reducible apply bl_drew | with_reducible apply bl_after | (with_reducible refine bl_call ?_ (by assumption)))))) ?_); rintro e w2 ⟨⟨A', ca', rfl, hR⟩, hb2⟩; first | ((with_reducible apply kp_in_step (hb := hb2)); (with_reducible assumption); rintro ⟨hk, hc, hf, hzc, hzf⟩) | ((with_reducible refine kp_in_first hb2 ?_); rintro ⟨hk, hc, hf, hzc, hzf⟩))
  have hbw : Below w.heap.size w w2 := by (repeat (first | with_reducible exact Below.refl _ _ | with_reducible apply bl_alloc | with_reducible apply bl_drew | with_reducible apply bl_after | (with_reducible refine bl_call ?_ (by assumption))))
  have HR := Lib.hid hR
  clear hR hK hb2 hk hc hf hzc hzf
  go_loopw [8, 9] (fun n i wr => ∃ k : Nat, k ≤ L.length ∧ i = (Value.int .i64 ((k : Int))) ∧ n = (Value.int .i64 ((lmTo m.length L k : Nat))) ∧ Below w2.heap.size w2 wr) (fun _ i _ => L.length - (intOf i).toNat)
  case atStart => exact ⟨0, Nat.zero_le _, rfl, rfl, Below.refl _ _⟩
  case round =>
    obtain ⟨k, kn, rfl, rfl, hbr⟩ := hrel
    by_cases hlt : k < L.length
    · obtain ⟨g, rfl, lg, E, ce, yc, hI⟩ := refP_at (HR.out.below hbr) hlt
      have hx : L.getD k [] ∈ L := by simp [List.getD, hlt]
      have hl := HL.out _ hx
      have hM := Lib.hid fun (V : World) (h : Below wr.heap.size wr V) => Moves_any E ce (L.getD k []) V (hI.below h) hl
      have hs : Hid (lmTo m.length L (k + 1) = min (lmTo m.length L k) (rmV (L.getD k []))) := Lib.hid rfl
      have i0 : (0 : Int) ≤ (k : Int) := by omega
      have i1 : (k : Int) < (L.length : Int) := by omega
      clear hx hl hI
      generalize L.getD k [] = x at *
      go_wp2_with ((go_at_call 41); (with_reducible refine Calls.mono (hM.out _ (by (repeat (first | with_reducible exact Below.refl _ _ | with_reducible apply bl_alloc | with_reducible apply bl_drew | with_reducible apply bl_after | (with_reducible refine bl_call ?_ (by assumption)))))) ?_); rintro e w3 ⟨rfl, hb3⟩)
      go_roundw
      case rel => exact ⟨k + 1, by omega, by go_num, by rw [hs.out]; congr 1; omega, hbr.trans (hb3.mono hbr.size)⟩
      case measure => simp [intOf]; omega
    · obtain rfl : k = L.length := by omega
      have hbx := hbw.trans (hbr.mono hbw.size)
      rcases hcase with rfl | hne
      · have hr : Hid (((lmTo m.length L L.length : Nat) : Int) = r) := Lib.hid (HF.out rfl)
        go_wp2
        go_ret2
        exact ⟨by rw [← hr.out]; rfl, hbx⟩
      · have hr : Hid (r = 0) := Lib.hid (HN.out (by rw [bne_iff_ne] at hne; exact hne))
        go_wp2
        go_ret2
        exact ⟨by rw [hr.out]; rfl, hbx⟩
end Go.Proofs.Ytfgplmgkejeoiaa
