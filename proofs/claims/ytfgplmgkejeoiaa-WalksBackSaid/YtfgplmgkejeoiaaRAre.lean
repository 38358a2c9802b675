/- The function knurlref05.AreElbows tells whether numbers are elbows of a walk. -/
import Derived.Test.YtfgplmgkejeoiaaWAre
namespace Go.Proofs.Ytfgplmgkejeoiaa
open Go.RowKit
attribute [local go_sem] After.cell After.frozen

theorem nat_map {l : List Int} {j : Nat} (h : j < l.length) : nat (l.map Int.toNat) j = (iat l j).toNat := by simp [nat, iat, List.getD, h]
/-- What is asked of place j alone, and of the step from it. -/
def atOk (T : Trk) (m : List Pt) (l : List Int) (j : Nat) : Bool := within (iat l j) 0 ((T.pts.length : Int) - 1) && reachB T (iat l j).toNat (pat m j)
def stOk (T : Trk) (l : List Int) (j : Nat) : Bool := (stepV T (iat l j).toNat (iat l (nx l.length j)).toNat).2
theorem areB_yes {T : Trk} {m : List Pt} {l : List Int} (hlen : l.length = m.length) (h1 : ∀ j, j < l.length → atOk T m l j = true) (h2 : ∀ j, j < l.length → stOk T l j = true) : areB T m l = true := by
  have hr : inR T l = true := by
    rw [inR, List.all_eq_true]
    intro x hx
    obtain ⟨i, hi, rfl⟩ := List.getElem_of_mem hx
    have := h1 i hi
    unfold atOk at this
    rw [Bool.and_eq_true] at this
    rw [iat_eq hi]
    exact this.1
  unfold areB
  rw [hr, decide_eq_true hlen, Bool.true_and, Bool.true_and, areN_yes]
  intro j hj
  rw [List.length_map] at hj
  have a1 := h1 j hj
  have a2 := h2 j hj
  have hx : nx l.length j < l.length := nx_lt (by omega)
  unfold atOk at a1
  unfold stOk at a2
  rw [Bool.and_eq_true] at a1
  unfold elOk
  rw [List.length_map, nat_map hj, nat_map hx, a1.2, a2]
  rfl
theorem areB_len {T : Trk} {m : List Pt} {l : List Int} (hne : l.length ≠ m.length) : areB T m l = false := by unfold areB; rw [decide_eq_false hne, Bool.false_and, Bool.false_and]
theorem areB_at {T : Trk} {m : List Pt} {l : List Int} {j : Nat} (hj : j < l.length) (h : atOk T m l j = false) : areB T m l = false := by
  cases hr : inR T l with
  | false => unfold areB; rw [hr, Bool.and_false, Bool.false_and]
  | true =>
    have hw : within (iat l j) 0 ((T.pts.length : Int) - 1) = true := by
      rw [inR, List.all_eq_true] at hr
      rw [← iat_eq hj]
      exact hr _ (List.getElem_mem hj)
    unfold atOk at h
    rw [hw, Bool.true_and] at h
    unfold areB
    rw [areN_no (j := j) (by rw [List.length_map]; exact hj), Bool.and_false]
    unfold elOk
    rw [nat_map hj, h, Bool.and_false]
theorem areB_st {T : Trk} {m : List Pt} {l : List Int} {j : Nat} (hj : j < l.length) (h : stOk T l j = false) : areB T m l = false := by
  have hx : nx l.length j < l.length := nx_lt (by omega)
  unfold stOk at h
  unfold areB
  rw [areN_no (j := j) (by rw [List.length_map]; exact hj), Bool.and_false]
  unfold elOk
  rw [List.length_map, nat_map hj, nat_map hx, h, Bool.false_and]

set_option maxRecDepth 100000 in
set_option maxHeartbeats 2000000 in
theorem AreElbows_any (b o ca bm om cm : Nat) (E : Option Addr) (ce : Nat) (T : Trk) (m : List Pt) (l : List Int) (w : World) (hp : PtsAt w b o T.pts) (hq : PtsAt w bm om m) (he : Ints w E l) (hle : l.length ≤ 1000000) (hT : trkB T = true) (hm : walkB m = true) :
    Calls Try.prog 40 #[(Value.agg #[.slice (some ⟨b, o, none⟩) T.pts.length ca, (Value.int .i64 (T.closed)), (Value.int .i64 (T.lo)), (Value.int .i64 (T.hi))]), .slice (some ⟨bm, om, none⟩) m.length cm, .slice E l.length ce] w fun e w' => e = .returned (.bool (areB T m l)) ∧ Below w.heap.size w w' := by
  have htb := (trkB_bd hT).1
  have hmb := walkB_bd hm
  by_cases hlen : l.length = m.length
  · obtain ⟨be, oe, rfl, hI⟩ := he.at_ (k := 0) (by omega)
    have hl0 : 0 < l.length := by omega
    have hb8 : l.length ≤ 8 := by omega
    have ht8 : T.pts.length ≤ 8 := by omega
    have hd : ((l.length : Int) != (m.length : Int)) = false := by rw [hlen]; simp
    have HR := Lib.hid fun (W : World) (h : Below w.heap.size w W) (k : Nat) (hk : k < l.length) (hn : (iat l k).toNat < T.pts.length) => r5Reaches_any b o ca T (iat l k).toNat (pat m k) W (hp.below h) hn (by omega) (htb.2 _ hn) (hmb.2 _ (by omega))
    have HS := Lib.hid fun (W : World) (k : Nat) (h1 : (iat l k).toNat < T.pts.length) (h2 : (iat l (nx l.length k)).toNat < T.pts.length) => r5step_q (some ⟨b, o, none⟩) ca T (iat l k).toNat (iat l (nx l.length k)).toNat W (by omega) h1 h2
    have HH := Lib.hid hlen
    clear htb hmb hlen hp he
    go_enter Try.func40, Try.ntmps40
    have c2 : Blk (w.alloc (.cells #[.slice (some ⟨b, o, none⟩) T.pts.length ca, (Value.int .i64 (T.closed)), (Value.int .i64 (T.lo)), (Value.int .i64 (T.hi))] 36)) w.heap.size 36 #[.slice (some ⟨b, o, none⟩) T.pts.length ca, (Value.int .i64 (T.closed)), (Value.int .i64 (T.lo)), (Value.int .i64 (T.hi))] := Blk.new _ _ _
    have hbW : Below w.heap.size w (w.alloc (.cells #[.slice (some ⟨b, o, none⟩) T.pts.length ca, (Value.int .i64 (T.closed)), (Value.int .i64 (T.lo)), (Value.int .i64 (T.hi))] 36)) := by (repeat (first | with_reducible exact Below.refl _ _ | with_reducible apply bl_alloc | with_reducible apply bl_drew | with_reducible apply bl_after | (with_reducible refine bl_call ?_ (by assumption))))
    go_wp2
    generalize w.alloc (.cells #[.slice (some ⟨b, o, none⟩) T.pts.length ca, (Value.int .i64 (T.closed)), (Value.int .i64 (T.lo)), (Value.int .i64 (T.hi))] 36) = W at c2 hbW ⊢
    have hbW2 := hbW.size
    go_loopw [7] (fun i wr => ∃ k : Nat, k ≤ l.length ∧ i = (Value.int .i64 ((k : Int))) ∧ Hid (∀ j, j < k → atOk T m l j = true) ∧ Below W.heap.size W wr) (fun i _ => l.length - (intOf i).toNat)
    case atStart => exact ⟨0, Nat.zero_le _, rfl, Lib.hid fun j hj => absurd hj (Nat.not_lt_zero _), by (repeat (first | with_reducible exact Below.refl _ _ | with_reducible apply bl_alloc | with_reducible apply bl_drew | with_reducible apply bl_after | (with_reducible refine bl_call ?_ (by assumption))))⟩
    case round =>
      obtain ⟨k, kn, rfl, HO, hbr⟩ := hrel
      by_cases hlt : k < l.length
      · have hbwr : Below w.heap.size w wr := hbW.trans (hbr.mono hbW2)
        have e2 := c2.below hbr
        have pe := hI.below hbwr
        have pm := hq.below hbwr
        have l2 := e2.lt
        have le := pe.lt
        have lm := pm.lt
        have xe := pe.xi hlt
        have x1 := pm.xp (i := k) (by have := HH.out; omega)
        have x2 := pm.yp (i := k) (by have := HH.out; omega)
        have y0 := e2.cell 0
        have y1 := e2.cell 1
        have y2 := e2.cell 2
        have y3 := e2.cell 3
        simp only [List.getElem?_toArray, List.getElem?_cons_zero, List.getElem?_cons_succ] at y0 y1 y2 y3
        have i1 : (0 : Int) ≤ (k : Int) := by omega
        have i2 : (k : Int) < (l.length : Int) := by omega
        have i3 : (k : Int) < (m.length : Int) := by have := HH.out; omega
        clear pe pm
        cases hw : within (iat l k) 0 ((T.pts.length : Int) - 1) with
        | false =>
          have hfin : Hid (areB T m l = false) := Lib.hid (areB_at hlt (by unfold atOk; rw [hw, Bool.false_and]))
          have hW := fun (V : World) => r5Within_any (iat l k) 0 ((T.pts.length : Int) - 1) V
          rw [hw] at hW
          replace hW := Lib.hid hW
          clear hw
          go_wp2
          refine wp_region_after (by kernel_rfl) (by kernel_rfl) ?_; (repeat (go_big_quiet_step (((go_at_call 77; with_reducible exact calls_after_same (hW.out _)))))); refine wpQuiet_nil ?_; rintro _ ⟨z, rfl⟩; (first | ((with_reducible apply kp_in_after (z := z)); (with_reducible assumption); rintro ⟨hk, hc, hf, hzc, hzf⟩) | ((with_reducible refine kp_in_after0 z ?_); rintro ⟨hk, hc, hf, hzc, hzf⟩))
          go_wp2
          go_ret
          exact ⟨ret_bool hfin.out.symm, by (repeat (first | with_reducible assumption | with_reducible exact Below.refl _ _ | with_reducible apply bl_alloc | with_reducible apply bl_drew | with_reducible apply bl_after | (with_reducible refine bl_call ?_ (by assumption)) | (with_reducible refine bl_setc ?_ (by omega))))⟩
        | true =>
          have hq1 : 0 ≤ iat l k ∧ iat l k ≤ (T.pts.length : Int) - 1 := by simp only [within, Bool.and_eq_true, decide_eq_true_eq] at hw; omega
          have hR := fun (V : World) (h : Below wr.heap.size wr V) => HR.out V (hbwr.trans (h.mono hbwr.size)) k hlt (by omega)
          have hW := fun (V : World) => r5Within_any (iat l k) 0 ((T.pts.length : Int) - 1) V
          rw [hw] at hW
          replace hW := Lib.hid hW
          have hqe : (((iat l k).toNat : Nat) : Int) = iat l k := by omega
          rw [hqe] at hR
          clear hqe
          cases hv : reachB T (iat l k).toNat (pat m k) with
          | false =>
            have hfin : Hid (areB T m l = false) := Lib.hid (areB_at hlt (by unfold atOk; rw [hv, Bool.and_false]))
            rw [hv] at hR
            replace hR := Lib.hid hR
            clear hw hv hq1
            go_wp2
            refine wp_region_after (by kernel_rfl) (by kernel_rfl) ?_; (repeat (go_big_quiet_step (((first | (go_at_call 77; with_reducible exact calls_after_same (hW.out _)) | (go_at_call 78; with_reducible exact calls_after (hR.out _ (by (repeat (first | with_reducible assumption | with_reducible exact Below.refl _ _ | with_reducible apply bl_alloc | with_reducible apply bl_drew | with_reducible apply bl_after | (with_reducible refine bl_call ?_ (by assumption)) | (with_reducible refine bl_setc ?_ (by omega)))))))))))); refine wpQuiet_nil ?_; rintro _ ⟨z, rfl⟩; (first | ((with_reducible apply kp_in_after (z := z)); (with_reducible assumption); rintro ⟨hk, hc, hf, hzc, hzf⟩) | ((with_reducible refine kp_in_after0 z ?_); rintro ⟨hk, hc, hf, hzc, hzf⟩))
            go_wp2
            go_ret
            exact ⟨ret_bool hfin.out.symm, by (repeat (first | with_reducible assumption | with_reducible exact Below.refl _ _ | with_reducible apply bl_alloc | with_reducible apply bl_drew | with_reducible apply bl_after | (with_reducible refine bl_call ?_ (by assumption)) | (with_reducible refine bl_setc ?_ (by omega))))⟩
          | true =>
            have hfin : Hid (∀ j, j < k + 1 → atOk T m l j = true) := Lib.hid fun j hj => by
              rcases Nat.lt_succ_iff_lt_or_eq.1 hj with h | h
              · exact HO.out j h
              · rw [h]; unfold atOk; rw [hw, hv]; rfl
            rw [hv] at hR
            replace hR := Lib.hid hR
            clear hw hv hq1
            go_wp2
            refine wp_region_after (by kernel_rfl) (by kernel_rfl) ?_; (repeat (go_big_quiet_step (((first | (go_at_call 77; with_reducible exact calls_after_same (hW.out _)) | (go_at_call 78; with_reducible exact calls_after (hR.out _ (by (repeat (first | with_reducible assumption | with_reducible exact Below.refl _ _ | with_reducible apply bl_alloc | with_reducible apply bl_drew | with_reducible apply bl_after | (with_reducible refine bl_call ?_ (by assumption)) | (with_reducible refine bl_setc ?_ (by omega)))))))))))); refine wpQuiet_nil ?_; rintro _ ⟨z, rfl⟩; (first | ((with_reducible apply kp_in_after (z := z)); (with_reducible assumption); rintro ⟨hk, hc, hf, hzc, hzf⟩) | ((with_reducible refine kp_in_after0 z ?_); rintro ⟨hk, hc, hf, hzc, hzf⟩))
            go_wp2
            go_roundw
            case rel => exact ⟨k + 1, by omega, by go_num, hfin, by (repeat (first | with_reducible assumption | with_reducible exact Below.refl _ _ | with_reducible apply bl_alloc | with_reducible apply bl_drew | with_reducible apply bl_after | (with_reducible refine bl_call ?_ (by assumption)) | (with_reducible refine bl_setc ?_ (by omega))))⟩
            case measure => simp [intOf]; omega
      · obtain rfl : k = l.length := by omega
        have HA := HO
        clear HR
        go_wp2
        go_loopw [8] (fun i wt => ∃ k : Nat, k ≤ l.length ∧ i = (Value.int .i64 ((k : Int))) ∧ Hid (∀ j, j < k → stOk T l j = true) ∧ Below wr.heap.size wr wt) (fun i _ => l.length - (intOf i).toNat)
        case atStart => exact ⟨0, Nat.zero_le _, rfl, Lib.hid fun j hj => absurd hj (Nat.not_lt_zero _), by (repeat (first | with_reducible exact Below.refl _ _ | with_reducible apply bl_alloc | with_reducible apply bl_drew | with_reducible apply bl_after | (with_reducible refine bl_call ?_ (by assumption))))⟩
        case round =>
          obtain ⟨k, kn, rfl, HO, hbt⟩ := hrel
          by_cases hlt : k < l.length
          · have hx : nx l.length k < l.length := nx_lt hl0
            have hrl := hbr.size
            have e2 := (c2.below hbr).below hbt
            have pe := (hI.below (hbW.trans (hbr.mono hbW2))).below hbt
            have l2 := e2.lt
            have le := pe.lt
            have xe := pe.xi hlt
            have xf := pe.xi hx
            have y0 := e2.cell 0
            have y1 := e2.cell 1
            have y2 := e2.cell 2
            have y3 := e2.cell 3
            simp only [List.getElem?_toArray, List.getElem?_cons_zero, List.getElem?_cons_succ] at y0 y1 y2 y3
            have e1 : ((k : Int) + 1) % (l.length : Int) = (nx l.length k : Int) := by simp [nx]
            have i1 : 0 ≤ ((k : Int) + 1) % (l.length : Int) := by rw [e1]; omega
            have i2 : ((k : Int) + 1) % (l.length : Int) < (l.length : Int) := by rw [e1]; omega
            have i3 : (((k : Int) + 1) % (l.length : Int)).toNat = nx l.length k := by rw [e1]; omega
            have i4 : (0 : Int) ≤ (k : Int) := by omega
            have i5 : (k : Int) < (l.length : Int) := by omega
            have a1 := HA.out k hlt
            have a2 := HA.out _ hx
            unfold atOk at a1 a2
            simp only [within, Bool.and_eq_true, decide_eq_true_eq] at a1 a2
            have hS := fun V => HS.out V k (by omega) (by omega)
            rw [show (((iat l k).toNat : Nat) : Int) = iat l k by omega, show (((iat l (nx l.length k)).toNat : Nat) : Int) = iat l (nx l.length k) by omega] at hS
            clear e1 a1 a2 pe hx
            cases hs : (stepV T (iat l k).toNat (iat l (nx l.length k)).toNat).2 with
            | false =>
              have hfin : Hid (areB T m l = false) := Lib.hid (areB_st hlt (by unfold stOk; exact hs))
              rw [hs] at hS
              replace hS := Lib.hid hS
              clear hs
              go_wp2
              refine wp_region_after (by kernel_rfl) (by kernel_rfl) ?_; (repeat (go_big_quiet_step (((go_at_call 79; with_reducible exact calls_after (hS.out _)))))); refine wpQuiet_nil ?_; rintro _ ⟨z, rfl⟩; (first | ((with_reducible apply kp_in_after (z := z)); (with_reducible assumption); rintro ⟨hk, hc, hf, hzc, hzf⟩) | ((with_reducible refine kp_in_after0 z ?_); rintro ⟨hk, hc, hf, hzc, hzf⟩))
              go_wp2
              go_ret
              exact ⟨ret_bool hfin.out.symm, by (repeat (first | with_reducible assumption | with_reducible exact Below.refl _ _ | with_reducible apply bl_alloc | with_reducible apply bl_drew | with_reducible apply bl_after | (with_reducible refine bl_call ?_ (by assumption)) | (with_reducible refine bl_setc ?_ (by omega))))⟩
            | true =>
              have hfin : Hid (∀ j, j < k + 1 → stOk T l j = true) := Lib.hid fun j hj => by
                rcases Nat.lt_succ_iff_lt_or_eq.1 hj with h | h
                · exact HO.out j h
                · rw [h]; unfold stOk; exact hs
              rw [hs] at hS
              replace hS := Lib.hid hS
              clear hs
              go_wp2
              refine wp_region_after (by kernel_rfl) (by kernel_rfl) ?_; (repeat (go_big_quiet_step (((go_at_call 79; with_reducible exact calls_after (hS.out _)))))); refine wpQuiet_nil ?_; rintro _ ⟨z, rfl⟩; (first | ((with_reducible apply kp_in_after (z := z)); (with_reducible assumption); rintro ⟨hk, hc, hf, hzc, hzf⟩) | ((with_reducible refine kp_in_after0 z ?_); rintro ⟨hk, hc, hf, hzc, hzf⟩))
              go_wp2
              go_roundw
              case rel => exact ⟨k + 1, by omega, by go_num, hfin, by (repeat (first | with_reducible assumption | with_reducible exact Below.refl _ _ | with_reducible apply bl_alloc | with_reducible apply bl_drew | with_reducible apply bl_after | (with_reducible refine bl_call ?_ (by assumption)) | (with_reducible refine bl_setc ?_ (by omega))))⟩
              case measure => simp [intOf]; omega
          · obtain rfl : k = l.length := by omega
            have hfin : Hid (areB T m l = true) := Lib.hid (areB_yes HH.out HA.out HO.out)
            go_wp2
            go_ret
            exact ⟨ret_bool hfin.out.symm, by (repeat (first | with_reducible assumption | with_reducible exact Below.refl _ _ | with_reducible apply bl_alloc | with_reducible apply bl_drew | with_reducible apply bl_after | (with_reducible refine bl_call ?_ (by assumption)) | (with_reducible refine bl_setc ?_ (by omega))))⟩
  · have hd : ((l.length : Int) != (m.length : Int)) = true := by rw [bne_iff_ne]; omega
    have hl8 : m.length ≤ 8 := by omega
    rw [areB_len hlen]
    clear hlen hp hq he htb hmb
    go_enter Try.func40, Try.ntmps40
    go_wp2
    go_ret
    exact ⟨rfl, by (repeat (first | with_reducible exact Below.refl _ _ | with_reducible apply bl_alloc | with_reducible apply bl_drew | with_reducible apply bl_after | (with_reducible refine bl_call ?_ (by assumption))))⟩
end Go.Proofs.Ytfgplmgkejeoiaa
