/- The reference's functions pairs and Fewest of sheets. -/
import Derived.Test.YtegdnbceiopklaaRa4
import Derived.Test.YtegdnbceiopklaaFw4
import Derived.Maps.AppendAt
namespace Go.Proofs.Ytegdnbceiopklaa
open Go.RowKit Go.Shelf
attribute [local go_sem] After.cell After.frozen

def pairE (f : Pt) : List Int := [f.1, f.2]
theorem pairE_len (f : Pt) : (pairE f).length = 2 := rfl
abbrev Prs (w : World) (A : Option Addr) (l : List Pt) : Prop := Recs pairE w A l
abbrev RowQ (w : World) (B : Nat) (v : Value) (l : List Pt) : Prop := RowR pairE 40 2 w B v l
theorem infoPair : (Try.prog.info? 40).map (fun i => (i.zero, i.size, i.bytes)) = some (some (.agg #[.int .i64 0, .int .i64 0]), 2, 16) := by kernel_rfl
theorem undPairs : Try.prog.underlying 91 = some (.slice 40) := by kernel_rfl
theorem cell2_new (w : World) (x y : Value) (t : TypeId) : ∀ j u, [x, y][j]? = some u → (w.alloc (.cells #[x, y] t)).cell? ((⟨w.heap.size, 0, none⟩ : Addr).add j) = some u := fun j u hj => by
  rcases j with _ | _ | j
  · simp only [List.getElem?_cons_zero, Option.some.injEq] at hj
    subst hj
    simp [go_sem]
  · simp only [List.getElem?_cons_succ, List.getElem?_cons_zero, Option.some.injEq] at hj
    subst hj
    simp [go_sem]
  · simp at hj
theorem two_int (n m : Int) : ∀ u ∈ [(Value.int .i64 (n)), (Value.int .i64 (m))], u.oneCell' = true := fun u hu => by
  simp only [List.mem_cons, List.not_mem_nil, or_false] at hu
  rcases hu with rfl | rfl <;> rfl
theorem RowR.parts2 {w : World} {B : Nat} {v : Value} {l : List Pt} (h : RowQ w B v l) : ∃ A ca, v = .slice A l.length ca ∧ Prs w A l := (ownR_parts pairE_len (by decide) h).2
def prsTo (S : Sht) (t : Nat) : List Pt := (prs S).take t
theorem prsTo_succ {S : Sht} {t : Nat} (h : t < nX S * nY S) : prsTo S (t + 1) = prsTo S t ++ [prAt S t] := by
  unfold prsTo
  rw [List.take_add_one, prs_get h]
  rfl
theorem prsTo_all (S : Sht) : prsTo S (nX S * nY S) = prs S := by
  unfold prsTo
  rw [← prs_len, List.take_length]
theorem nXY_le {S : Sht} (hS : ShtOk S) : nX S ≤ 201 ∧ nY S ≤ 201 ∧ nX S * nY S ≤ 40401 := by
  have := hS.x0; have := hS.x1; have := hS.x2; have := hS.y0; have := hS.y1; have := hS.y2
  have h1 : nX S ≤ 201 := by unfold nX; omega
  have h2 : nY S ≤ 201 := by unfold nY; omega
  exact ⟨h1, h2, Nat.mul_le_mul h1 h2⟩
theorem prsTo_len (S : Sht) (t : Nat) : (prsTo S t).length ≤ nX S * nY S := by
  unfold prsTo
  have := List.length_take_le' t (prs S)
  rw [prs_len] at this
  exact this
set_option maxRecDepth 100000 in
set_option maxHeartbeats 4000000 in
theorem rPairs4 (A : Option Addr) (ca : Nat) (S : Sht) (hS : ShtOk S) (w : World) :
    Calls Try.prog 73 #[(Value.agg #[(Value.int .i64 (S.xlo)), (Value.int .i64 (S.xhi)), (Value.int .i64 (S.ylo)), (Value.int .i64 (S.yhi)), .slice A S.cs.length ca, (Value.int .i64 (S.wrong))])] w fun e w' => (∃ A' ca', e = .returned (.slice A' (prs S).length ca') ∧ Prs w' A' (prs S)) ∧ Below w.heap.size w w' := by
  have e0 : Blk (w.alloc (.cells #[(Value.int .i64 (S.xlo)), (Value.int .i64 (S.xhi)), (Value.int .i64 (S.ylo)), (Value.int .i64 (S.yhi)), .slice A S.cs.length ca, (Value.int .i64 (S.wrong))] 26)) w.heap.size 26 #[(Value.int .i64 (S.xlo)), (Value.int .i64 (S.xhi)), (Value.int .i64 (S.ylo)), (Value.int .i64 (S.yhi)), .slice A S.cs.length ca, (Value.int .i64 (S.wrong))] := Blk.new _ _ _
  have hbW : Below w.heap.size w (w.alloc (.cells #[(Value.int .i64 (S.xlo)), (Value.int .i64 (S.xhi)), (Value.int .i64 (S.ylo)), (Value.int .i64 (S.yhi)), .slice A S.cs.length ca, (Value.int .i64 (S.wrong))] 26)) := by (repeat (first | with_reducible exact Below.refl _ _ | with_reducible apply bl_alloc | with_reducible apply bl_drew | with_reducible apply bl_after | (with_reducible refine bl_call ?_ (by assumption))))
  have hq := nXY_le hS
  have hx0 := hS.x0; have hx1 := hS.x1; have hx2 := hS.x2; have hy0 := hS.y0; have hy1 := hS.y1; have hy2 := hS.y2
  have nx := Lib.hid (show (nX S : Int) = S.xhi - S.xlo + 1 by unfold nX; omega)
  have ny := Lib.hid (show (nY S : Int) = S.yhi - S.ylo + 1 by unfold nY; omega)
  obtain ⟨i0, hi, hz0, hz1, hz2⟩ := info_parts infoPair
  (have la := e0.lt); (have ya0 := e0.cell 0); (have ya1 := e0.cell 1); (have ya2 := e0.cell 2); (have ya3 := e0.cell 3); (have ya4 := e0.cell 4); (have ya5 := e0.cell 5); simp only [List.getElem?_toArray, List.getElem?_cons_zero, List.getElem?_cons_succ] at ya0 ya1 ya2 ya3 ya4 ya5
  go_enter Try.func73, Try.ntmps73
  go_wp2
  clear la ya0 ya1 ya2 ya3 ya4 ya5
  generalize w.alloc (.cells #[(Value.int .i64 (S.xlo)), (Value.int .i64 (S.xhi)), (Value.int .i64 (S.ylo)), (Value.int .i64 (S.yhi)), .slice A S.cs.length ca, (Value.int .i64 (S.wrong))] 26) = W0 at *
  go_loopw [3, 4] (fun v a wr => ∃ k : Nat, k ≤ nX S ∧ a = (Value.int .i64 (S.xlo + (k : Int))) ∧ Hid (RowQ wr W0.heap.size v (prsTo S (k * nY S))) ∧ Below W0.heap.size W0 wr) (fun _ a _ => (S.xhi + 1 - intOf a).toNat)
  case atStart => exact ⟨0, Nat.zero_le _, by simp, Lib.hid (by rw [Nat.zero_mul]; exact rowR_nil _ _), Below.refl _ _⟩
  case round =>
    obtain ⟨k, kn, rfl, hO, hbr⟩ := hrel
    have e1 := e0.below hbr
    have hbR := bl_call hbW hbr
    (have la := e1.lt); (have ya0 := e1.cell 0); (have ya1 := e1.cell 1); (have ya2 := e1.cell 2); (have ya3 := e1.cell 3); (have ya4 := e1.cell 4); (have ya5 := e1.cell 5); simp only [List.getElem?_toArray, List.getElem?_cons_zero, List.getElem?_cons_succ] at ya0 ya1 ya2 ya3 ya4 ya5
    by_cases hlt : k < nX S
    · have hle : S.xlo + (k : Int) ≤ S.xhi := by have := nx.out; omega
      have hk1 : k * nY S + nY S ≤ nX S * nY S := by
        have := Nat.mul_le_mul_right (nY S) (show k + 1 ≤ nX S from hlt)
        rwa [Nat.succ_mul] at this
      have hKs : k * nY S + nY S = (k + 1) * nY S := (Nat.succ_mul _ _).symm
      have HKS := Lib.hid hKs
      clear hKs e1
      go_wp2
      go_loopw [3, 5] (fun v b ws => ∃ j : Nat, j ≤ nY S ∧ b = (Value.int .i64 (S.ylo + (j : Int))) ∧ Hid (RowQ ws W0.heap.size v (prsTo S (k * nY S + j))) ∧ Below W0.heap.size W0 ws) (fun _ b _ => (S.yhi + 1 - intOf b).toNat)
      case atStart => exact ⟨0, Nat.zero_le _, by simp, hO, hbr⟩
      case round =>
        obtain ⟨j, jn, rfl, hP, hbs⟩ := hrel
        have e2 := e0.below hbs
        (have lb := e2.lt); (have yb0 := e2.cell 0); (have yb1 := e2.cell 1); (have yb2 := e2.cell 2); (have yb3 := e2.cell 3); (have yb4 := e2.cell 4); (have yb5 := e2.cell 5); simp only [List.getElem?_toArray, List.getElem?_cons_zero, List.getElem?_cons_succ] at yb0 yb1 yb2 yb3 yb4 yb5
        by_cases hlj : j < nY S
        · have hle2 : S.ylo + (j : Int) ≤ S.yhi := by have := ny.out; omega
          have hsu := Lib.hid (prsTo_succ (S := S) (t := k * nY S + j) (by omega))
          have hat := Lib.hid (prAt_at (S := S) (i := k) hlj)
          have hsl := prsTo_len S (k * nY S + j)
          clear e2
          go_wp2_with (at_builtin; refine wpList_append_own _ rfl (.tmp 26) (.tmp 30) 91 rfl W0.heap.size 40 i0 _ 2 16 undPairs hi hz0 hz1 hz2 rfl (by decide) _ _ _ rfl (World.ownsRow.alloc hP.out _) ⟨wr.heap.size, 0, none⟩ 1 1 [(Value.int .i64 (S.xlo + (k : Int))), (Value.int .i64 (S.ylo + (j : Int)))] rfl rfl (cell2_new _ _ _ _) (two_int _ _) (by unfold maxLen; omega) (by omega) (by have := hbs.size; simp; omega) ?_)
          intro v' w9 hown hgrow _
          have hb9 : Below W0.heap.size W0 w9 := bl_grown (bl_alloc hbs) (World.ownsRow.alloc hP.out _) hgrow
          have HV := Lib.hid (RowR.snoc (enc := pairE) (a := (S.xlo + (k : Int), S.ylo + (j : Int))) hown rfl)
          clear hown hgrow
          go_wp2
          go_roundw
          case rel => exact ⟨j + 1, by omega, by go_num, Lib.hid (by rw [← Nat.add_assoc, hsu.out, hat.out]; exact HV.out), hb9⟩
          case measure => simp [intOf]; omega
        · obtain rfl : j = nY S := by omega
          have hgt : ¬ (S.ylo + (nY S : Int) ≤ S.yhi) := by have := ny.out; omega
          go_wp2
          go_roundw
          case rel => exact ⟨k + 1, by omega, by go_num, Lib.hid (by rw [← HKS.out]; exact hP.out), hbs⟩
          case measure => simp [intOf]; omega
    · obtain rfl : k = nX S := by omega
      have hgt : ¬ (S.xlo + (nX S : Int) ≤ S.xhi) := by have := nx.out; omega
      have hO2 := hO.out
      rw [prsTo_all] at hO2
      obtain ⟨A', ca', rfl, hI⟩ := hO2.parts2
      clear hO hO2
      go_wp2
      go_ret
      exact ⟨⟨A', ⟨ca', rfl⟩, hI⟩, hbR⟩
theorem prs_cells {w : World} {b o : Nat} {l : List Pt} (h : RecAt pairE w b o l) {k : Nat} (hk : k < l.length) :
    b < w.heap.size ∧ w.cell? ⟨b, o + k * 2, none⟩ = some (Value.int .i64 ((pat l k).1)) ∧ w.cell? ⟨b, o + k * 2 + 1, none⟩ = some (Value.int .i64 ((pat l k).2)) :=
  ⟨h.lt, h.cell pairE_len (j := 0) (pat_get hk) (by decide) rfl, h.cell pairE_len (j := 1) (pat_get hk) (by decide) rfl⟩
theorem prs_ok {S : Sht} (hS : ShtOk S) {f : Pt} (h : f ∈ prs S) : FacOk f := by
  rw [mem_prs] at h
  have := hS.x0; have := hS.x2; have := hS.y0; have := hS.y2
  exact ⟨by omega, by omega⟩
set_option maxRecDepth 100000 in
set_option maxHeartbeats 4000000 in
theorem rFewest4 (A : Option Addr) (ca : Nat) (S : Sht) (w : World) (ha : Cts w A S.cs) :
    Calls Try.prog 31 #[(Value.agg #[(Value.int .i64 (S.xlo)), (Value.int .i64 (S.xhi)), (Value.int .i64 (S.ylo)), (Value.int .i64 (S.yhi)), .slice A S.cs.length ca, (Value.int .i64 (S.wrong))])] w fun e w' => e = .returned (.tuple #[(Value.int .i64 (fwV S)), (Value.int .i64 (chkS S))]) ∧ Below w.heap.size w w' := by
  have hC := fun (W : World) (h : Below w.heap.size w W) => rCheck4 A ca S W (ha.below h)
  have c1 : Blk (w.alloc (.cells #[(Value.int .i64 (S.xlo)), (Value.int .i64 (S.xhi)), (Value.int .i64 (S.ylo)), (Value.int .i64 (S.yhi)), .slice A S.cs.length ca, (Value.int .i64 (S.wrong))] 26)) w.heap.size 26 #[(Value.int .i64 (S.xlo)), (Value.int .i64 (S.xhi)), (Value.int .i64 (S.ylo)), (Value.int .i64 (S.yhi)), .slice A S.cs.length ca, (Value.int .i64 (S.wrong))] := Blk.new _ _ _
  have hb0 : Below w.heap.size w (w.alloc (.cells #[(Value.int .i64 (S.xlo)), (Value.int .i64 (S.xhi)), (Value.int .i64 (S.ylo)), (Value.int .i64 (S.yhi)), .slice A S.cs.length ca, (Value.int .i64 (S.wrong))] 26)) := by (repeat (first | with_reducible exact Below.refl _ _ | with_reducible apply bl_alloc | with_reducible apply bl_drew | with_reducible apply bl_after | (with_reducible refine bl_call ?_ (by assumption))))
  by_cases h0 : shtB S = true
  · have hS := sht_ok h0
    have hE : chkS S = 0 := if_pos h0
    have hE2 : fwV S = fwS S := if_pos h0
    rw [hE, hE2]
    rw [hE] at hC
    replace hC := Lib.hid hC
    have hPr := Lib.hid fun (W : World) => rPairs4 A ca S hS W
    clear h0 hE hE2
    (have la := c1.lt); (have ya0 := c1.cell 0); (have ya1 := c1.cell 1); (have ya2 := c1.cell 2); (have ya3 := c1.cell 3); (have ya4 := c1.cell 4); (have ya5 := c1.cell 5); simp only [List.getElem?_toArray, List.getElem?_cons_zero, List.getElem?_cons_succ] at ya0 ya1 ya2 ya3 ya4 ya5
    go_enter Try.func31, Try.ntmps31
    go_wp2_with (first | ((go_at_call 29); (with_reducible refine Calls.mono (hC.out _ (by (repeat (first | with_reducible exact Below.refl _ _ | with_reducible apply bl_alloc | with_reducible apply bl_drew | with_reducible apply bl_after | (with_reducible refine bl_call ?_ (by assumption)))))) ?_); rintro e w1 ⟨rfl, hb1⟩; first | ((with_reducible apply kp_in_step (hb := hb1)); (with_reducible assumption); rintro ⟨hk, hc, hf, hzc, hzf⟩) | ((with_reducible refine kp_in_first hb1 ?_); rintro ⟨hk, hc, hf, hzc, hzf⟩)) | ((go_at_call 73); (with_reducible refine Calls.mono (hPr.out _) ?_); rintro e w2 ⟨⟨A', ca', rfl, hI⟩, hb2⟩; first | ((with_reducible apply kp_in_step (hb := hb2)); (with_reducible assumption); rintro ⟨hk, hc, hf, hzc, hzf⟩) | ((with_reducible refine kp_in_first hb2 ?_); rintro ⟨hk, hc, hf, hzc, hzf⟩)))
    have e2 := (c1.below hb1).below hb2
    have hbW := bl_call (bl_call hb0 hb1) hb2
    have hX := ha.below hbW
    clear la ya0 ya1 ya2 ya3 ya4 ya5 c1 hb0 hb1 hb2 hC hPr ha
    ((try clear hk hc hf hzc hzf); (try clear hk hc hf hzc hzf); (try clear hk hc hf hzc hzf); (try clear hk hc hf hzc hzf))
    go_loopw [5, 7] (fun n i wr => ∃ k : Nat, k ≤ (prs S).length ∧ i = (Value.int .i64 ((k : Int))) ∧ n = (Value.int .i64 (fwTo S k)) ∧ Below w2.heap.size w2 wr) (fun _ i _ => (prs S).length - (intOf i).toNat)
    case atStart => exact ⟨0, Nat.zero_le _, rfl, rfl, Below.refl _ _⟩
    case round =>
      obtain ⟨k, kn, rfl, rfl, hbr⟩ := hrel
      have e3 := e2.below hbr
      have hbR := bl_call hbW hbr
      (have la := e3.lt); (have ya0 := e3.cell 0); (have ya1 := e3.cell 1); (have ya2 := e3.cell 2); (have ya3 := e3.cell 3); (have ya4 := e3.cell 4); (have ya5 := e3.cell 5); simp only [List.getElem?_toArray, List.getElem?_cons_zero, List.getElem?_cons_succ] at ya0 ya1 ya2 ya3 ya4 ya5
      have hlen : (prs S).length ≤ 40401 := by rw [prs_len]; exact (nXY_le hS).2.2
      by_cases hlt : k < (prs S).length
      · obtain ⟨bc, oc, hA, pc⟩ := (hI.below hbr).at_ hlt
        obtain ⟨lc, x1, x2⟩ := prs_cells pc hlt
        have hx := pat_get hlt
        have hsu := Lib.hid (fwTo_succ hx)
        have hr := Lib.hid fun (z : After wr) => rWrongs4 A ca S hS (pat (prs S) k) (prs_ok hS (List.mem_of_getElem? hx)) z.val ((hX.below hbr).below z.ok)
        subst hA
        clear pc e3 hx
        go_wp2
        refine wp_region_after_tail 8 (by kernel_rfl) (by kernel_rfl) ?_; simp only [List.take_succ_cons, List.take_zero, List.drop_succ_cons, List.drop_zero]; (repeat (go_big_quiet_step (((go_at_call 59; with_reducible exact calls_after (hr.out _)))))); refine wpQuiet_nil ?_; rintro _ ⟨z, rfl⟩; (first | ((with_reducible apply kp_in_after (z := z)); (with_reducible assumption); rintro ⟨hk, hc, hf, hzc, hzf⟩) | ((with_reducible refine kp_in_after0 z ?_); rintro ⟨hk, hc, hf, hzc, hzf⟩))
        go_wp2
        go_roundw
        case rel => exact ⟨k + 1, by omega, by go_num, by rw [hsu.out], bl_after z hbr⟩
        case measure => simp [intOf]; omega
      · obtain rfl : k = (prs S).length := by omega
        go_wp2
        go_ret2
        exact ⟨rfl, hbR⟩
  · have hE : chkS S = 40 := if_neg h0
    have hE2 : fwV S = 0 := if_neg h0
    rw [hE, hE2]
    rw [hE] at hC
    replace hC := Lib.hid hC
    clear hE hE2 h0
    (have la := c1.lt); (have ya0 := c1.cell 0); (have ya1 := c1.cell 1); (have ya2 := c1.cell 2); (have ya3 := c1.cell 3); (have ya4 := c1.cell 4); (have ya5 := c1.cell 5); simp only [List.getElem?_toArray, List.getElem?_cons_zero, List.getElem?_cons_succ] at ya0 ya1 ya2 ya3 ya4 ya5
    go_enter Try.func31, Try.ntmps31
    go_wp2_with ((go_at_call 29); (with_reducible refine Calls.mono (hC.out _ (by (repeat (first | with_reducible exact Below.refl _ _ | with_reducible apply bl_alloc | with_reducible apply bl_drew | with_reducible apply bl_after | (with_reducible refine bl_call ?_ (by assumption)))))) ?_); rintro e w1 ⟨rfl, hb1⟩; first | ((with_reducible apply kp_in_step (hb := hb1)); (with_reducible assumption); rintro ⟨hk, hc, hf, hzc, hzf⟩) | ((with_reducible refine kp_in_first hb1 ?_); rintro ⟨hk, hc, hf, hzc, hzf⟩))
    go_ret2
    exact ⟨rfl, by (repeat (first | with_reducible exact Below.refl _ _ | with_reducible apply bl_alloc | with_reducible apply bl_drew | with_reducible apply bl_after | (with_reducible refine bl_call ?_ (by assumption))))⟩
end Go.Proofs.Ytegdnbceiopklaa
