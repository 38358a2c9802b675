/- The functions of walks that reckon the sweep of elbows and their moves. -/
import Derived.Test.YtfgplmgkejeoiaaWAre
namespace Go.Proofs.Ytfgplmgkejeoiaa
open Go.RowKit
attribute [local go_sem] After.cell After.frozen

theorem ptsAt_blk {w : World} {g : Nat} {t : TypeId} {l : List Pt} (h : Blk w g t (ptsV l).toArray) : PtsAt w g 0 l := by
  refine ⟨h.lt, fun i p hi => ?_, fun i p hi => ?_⟩
  · have := h.cell (i * 2)
    rw [List.getElem?_toArray, ptsV_x, hi] at this
    simpa using this
  · have := h.cell (i * 2 + 1)
    rw [List.getElem?_toArray, ptsV_y, hi] at this
    simpa using this
def quad (T : Trk) (m : List Pt) (ns : List Nat) (i : Nat) : List Pt := [pat T.pts (nat ns i), pat m i, pat m (nx ns.length i), pat T.pts (nat ns (nx ns.length i))]
def swpTo (T : Trk) (m : List Pt) (ns : List Nat) : Nat → Int
  | 0 => 0
  | k + 1 => swpTo T m ns k + dbl (quad T m ns k)
def swp (T : Trk) (m : List Pt) (ns : List Nat) : Int := swpTo T m ns ns.length
def st1 (T : Trk) (ns : List Nat) (i : Nat) : Int := (stepV T (nat ns i) (nat ns (nx ns.length i))).1
def onTo (T : Trk) (ns : List Nat) : Nat → Int
  | 0 => 0
  | k + 1 => onTo T ns k + st1 T ns k
def onV (T : Trk) (ns : List Nat) : Int := onTo T ns ns.length
def mvTo (T : Trk) (ns : List Nat) : Nat → Int
  | 0 => 0
  | k + 1 => mvTo T ns k + max (st1 T ns k) (-st1 T ns k)
def mvV (T : Trk) (ns : List Nat) : Int := mvTo T ns ns.length
theorem st1_bd (T : Trk) (ns : List Nat) (i : Nat) : -1 ≤ st1 T ns i ∧ st1 T ns i ≤ 1 := by
  unfold st1 stepV
  repeat' split
  all_goals simp
theorem onTo_bd (T : Trk) (ns : List Nat) : ∀ k : Nat, -(k : Int) ≤ onTo T ns k ∧ onTo T ns k ≤ (k : Int)
  | 0 => by simp [onTo]
  | k + 1 => by
    have ih := onTo_bd T ns k
    have h := st1_bd T ns k
    simp only [onTo]
    omega
theorem mvTo_bd (T : Trk) (ns : List Nat) : ∀ k : Nat, 0 ≤ mvTo T ns k ∧ mvTo T ns k ≤ (k : Int)
  | 0 => by simp [mvTo]
  | k + 1 => by
    have ih := mvTo_bd T ns k
    have h := st1_bd T ns k
    simp only [mvTo]
    omega
theorem quad_pt {T : Trk} {m : List Pt} {ns : List Nat} (h1 : ∀ i, i < T.pts.length → isPt (pat T.pts i) = true) (h2 : ∀ i, i < m.length → isPt (pat m i) = true) (hlen : ns.length = m.length) (hn : ∀ i, i < ns.length → nat ns i < T.pts.length) {k : Nat} (hk : k < ns.length) :
    ∀ i, i < (quad T m ns k).length → isPt (pat (quad T m ns k) i) = true := by
  have hx : nx ns.length k < ns.length := nx_lt (by omega)
  intro i hi
  have hi4 : i < 4 := by simpa [quad] using hi
  have c : i = 0 ∨ i = 1 ∨ i = 2 ∨ i = 3 := by omega
  rcases c with rfl | rfl | rfl | rfl
  · exact h1 _ (hn k hk)
  · exact h2 _ (by omega)
  · exact h2 _ (by omega)
  · exact h1 _ (hn _ hx)
theorem swpTo_bd {T : Trk} {m : List Pt} {ns : List Nat} (h1 : ∀ i, i < T.pts.length → isPt (pat T.pts i) = true) (h2 : ∀ i, i < m.length → isPt (pat m i) = true) (hlen : ns.length = m.length) (hn : ∀ i, i < ns.length → nat ns i < T.pts.length) :
    ∀ k, k ≤ ns.length → -(320000 * (k : Int)) ≤ swpTo T m ns k ∧ swpTo T m ns k ≤ 320000 * (k : Int)
  | 0, _ => by simp [swpTo]
  | k + 1, hk => by
    have ih := swpTo_bd h1 h2 hlen hn k (by omega)
    have h := dblTo_bd (quad_pt h1 h2 hlen hn (k := k) (by omega)) 4 (by simp [quad])
    simp only [swpTo, dbl]
    rw [show (quad T m ns k).length = 4 from rfl]
    omega

set_option maxRecDepth 100000 in
set_option maxHeartbeats 2000000 in
theorem sweep_any (b o ca bm om cm be oe ce : Nat) (T : Trk) (m : List Pt) (ns : List Nat) (w : World) (hp : PtsAt w b o T.pts) (hq : PtsAt w bm om m) (he : IntsAt w be oe (ints ns)) (hT : trkB T = true) (hm : walkB m = true) (hlen : ns.length = m.length) (hn : ∀ i, i < ns.length → nat ns i < T.pts.length) :
    Calls Try.prog 54 #[(Value.agg #[.slice (some ⟨b, o, none⟩) T.pts.length ca, (Value.int .i64 (T.closed)), (Value.int .i64 (T.lo)), (Value.int .i64 (T.hi)), .slice (some ⟨bm, om, none⟩) m.length cm]), .slice (some ⟨be, oe, none⟩) ns.length ce] w fun e w' => e = .returned (Value.int .i64 (swp T m ns)) ∧ Below w.heap.size w w' := by
  have htb := (trkB_bd hT).1
  have hmb := walkB_bd hm
  have hl0 : 0 < ns.length := by omega
  have hb8 : ns.length ≤ 8 := by omega
  have HN := Lib.hid fun (W : World) (h : Below w.heap.size w W) (k : Nat) (hk : k < ns.length) => (show Calls Try.prog 83 #[(Value.int .i64 ((k : Int))), .slice (some ⟨be, oe, none⟩) ns.length ce] W fun e w' => e = .returned (.tuple #[(Value.int .i64 ((nx ns.length k : Int))), (Value.int .i64 ((nat ns (nx ns.length k) : Int)))]) ∧ Below W.heap.size W w' by
    have h2 := next_any be oe ce (ints ns) k W (he.below h) (by rw [ints_len]; exact hk) (by rw [ints_len]; omega)
    rw [ints_len, iat_ints ns (nx_lt hl0)] at h2
    exact h2)
  have HA := Lib.hid fun (V : World) (k : Nat) (hk : k < ns.length) => (show Calls Try.prog 52 #[.slice (some ⟨V.heap.size, 0, none⟩) 4 4] (V.alloc (.cells #[(Value.int .i64 ((pat T.pts (nat ns k)).1)), (Value.int .i64 ((pat T.pts (nat ns k)).2)), (Value.int .i64 ((pat m k).1)), (Value.int .i64 ((pat m k).2)), (Value.int .i64 ((pat m (nx ns.length k)).1)), (Value.int .i64 ((pat m (nx ns.length k)).2)), (Value.int .i64 ((pat T.pts (nat ns (nx ns.length k))).1)), (Value.int .i64 ((pat T.pts (nat ns (nx ns.length k))).2))] 31)) fun e w' => e = .returned (Value.int .i64 (dbl (quad T m ns k))) ∧ Below (V.alloc (.cells #[(Value.int .i64 ((pat T.pts (nat ns k)).1)), (Value.int .i64 ((pat T.pts (nat ns k)).2)), (Value.int .i64 ((pat m k).1)), (Value.int .i64 ((pat m k).2)), (Value.int .i64 ((pat m (nx ns.length k)).1)), (Value.int .i64 ((pat m (nx ns.length k)).2)), (Value.int .i64 ((pat T.pts (nat ns (nx ns.length k))).1)), (Value.int .i64 ((pat T.pts (nat ns (nx ns.length k))).2))] 31)).heap.size (V.alloc (.cells #[(Value.int .i64 ((pat T.pts (nat ns k)).1)), (Value.int .i64 ((pat T.pts (nat ns k)).2)), (Value.int .i64 ((pat m k).1)), (Value.int .i64 ((pat m k).2)), (Value.int .i64 ((pat m (nx ns.length k)).1)), (Value.int .i64 ((pat m (nx ns.length k)).2)), (Value.int .i64 ((pat T.pts (nat ns (nx ns.length k))).1)), (Value.int .i64 ((pat T.pts (nat ns (nx ns.length k))).2))] 31)) w' from
    around_any V.heap.size 0 4 (quad T m ns k) _ (by simp [quad]) (by simp [quad]) (ptsAt_blk (l := quad T m ns k) (Blk.new V _ _)) (quad_pt htb.2 hmb.2 hlen hn hk))
  have HB := Lib.hid fun (k : Nat) (hk : k ≤ ns.length) => swpTo_bd htb.2 hmb.2 hlen hn k hk
  have HC := Lib.hid hn
  have HH := Lib.hid hlen
  clear htb hmb hn hlen
  go_enter Try.func54, Try.ntmps54
  have c2 : Blk (w.alloc (.cells #[.slice (some ⟨b, o, none⟩) T.pts.length ca, (Value.int .i64 (T.closed)), (Value.int .i64 (T.lo)), (Value.int .i64 (T.hi)), .slice (some ⟨bm, om, none⟩) m.length cm] 72)) w.heap.size 72 #[.slice (some ⟨b, o, none⟩) T.pts.length ca, (Value.int .i64 (T.closed)), (Value.int .i64 (T.lo)), (Value.int .i64 (T.hi)), .slice (some ⟨bm, om, none⟩) m.length cm] := Blk.new _ _ _
  have hbW : Below w.heap.size w (w.alloc (.cells #[.slice (some ⟨b, o, none⟩) T.pts.length ca, (Value.int .i64 (T.closed)), (Value.int .i64 (T.lo)), (Value.int .i64 (T.hi)), .slice (some ⟨bm, om, none⟩) m.length cm] 72)) := by (repeat (first | with_reducible exact Below.refl _ _ | with_reducible apply bl_alloc | with_reducible apply bl_drew | with_reducible apply bl_after | (with_reducible refine bl_call ?_ (by assumption))))
  go_wp2
  generalize w.alloc (.cells #[.slice (some ⟨b, o, none⟩) T.pts.length ca, (Value.int .i64 (T.closed)), (Value.int .i64 (T.lo)), (Value.int .i64 (T.hi)), .slice (some ⟨bm, om, none⟩) m.length cm] 72) = W at c2 hbW ⊢
  have hbW2 := hbW.size
  go_loopw [5, 12] (fun n i wr => ∃ k : Nat, k ≤ ns.length ∧ i = (Value.int .i64 ((k : Int))) ∧ n = (Value.int .i64 (swpTo T m ns k)) ∧ Below W.heap.size W wr) (fun _ i _ => ns.length - (intOf i).toNat)
  case atStart => exact ⟨0, Nat.zero_le _, rfl, rfl, by (repeat (first | with_reducible exact Below.refl _ _ | with_reducible apply bl_alloc | with_reducible apply bl_drew | with_reducible apply bl_after | (with_reducible refine bl_call ?_ (by assumption))))⟩
  case round =>
    obtain ⟨k, kn, rfl, rfl, hbr⟩ := hrel
    by_cases hlt : k < ns.length
    · have hbwr : Below w.heap.size w wr := hbW.trans (hbr.mono hbW2)
      have e2 := c2.below hbr
      have pe := he.below hbwr
      have pm := hq.below hbwr
      have pt := hp.below hbwr
      have hx : nx ns.length k < ns.length := nx_lt hl0
      have l2 := e2.lt
      have le := pe.lt
      have lm := pm.lt
      have lp := pt.lt
      have xe := pe.xi (i := k) (by rw [ints_len]; exact hlt)
      rw [iat_ints ns hlt] at xe
      have x1 := pm.xp (i := k) (by have := HH.out; omega)
      have x2 := pm.yp (i := k) (by have := HH.out; omega)
      have x3 := pm.xp (i := nx ns.length k) (by have := HH.out; omega)
      have x4 := pm.yp (i := nx ns.length k) (by have := HH.out; omega)
      have x5 := pt.xp (HC.out k hlt)
      have x6 := pt.yp (HC.out k hlt)
      have x7 := pt.xp (HC.out _ hx)
      have x8 := pt.yp (HC.out _ hx)
      have y0 := e2.cell 0
      have y1 := e2.cell 1
      have y2 := e2.cell 2
      have y3 := e2.cell 3
      have y4 := e2.cell 4
      simp only [List.getElem?_toArray, List.getElem?_cons_zero, List.getElem?_cons_succ] at y0 y1 y2 y3 y4
      have i1 : (k : Int) < (ns.length : Int) := by omega
      have i2 : (k : Int) < (m.length : Int) := by have := HH.out; omega
      have i3 : (nx ns.length k : Int) < (m.length : Int) := by have := HH.out; omega
      have i4 : (nat ns k : Int) < (T.pts.length : Int) := by have := HC.out k hlt; omega
      have i5 : (nat ns (nx ns.length k) : Int) < (T.pts.length : Int) := by have := HC.out _ hx; omega
      have hNx := Lib.hid (HN.out wr hbwr k hlt)
      have hA := Lib.hid fun V => HA.out V k hlt
      have q3 := HB.out k (by omega)
      have q4 := HB.out (k + 1) (by omega)
      have hD := Lib.hid (show swpTo T m ns (k + 1) = swpTo T m ns k + dbl (quad T m ns k) from rfl)
      rw [hD.out] at q4
      have m3 := wrap64_in (x := swpTo T m ns k + dbl (quad T m ns k)) (by omega) (by omega)
      clear pe pm pt HN HA hx
      go_wp2_with (go_at_call 83; with_reducible refine Calls.mono (hNx.out) ?_; rintro e w1 ⟨rfl, hb1⟩; first | ((with_reducible apply kp_in_step (hb := hb1)); (with_reducible assumption); rintro ⟨hk, hc, hf, hzc, hzf⟩) | ((with_reducible refine kp_in_first hb1 ?_); rintro ⟨hk, hc, hf, hzc, hzf⟩))
      refine wp_region_after_tail1 (v := ?v9) 23 (by kernel_rfl) (by kernel_rfl) (by kernel_rfl) (by kernel_rfl) (by kernel_rfl) ?q9 (Or.inl ⟨?x9, ?y9⟩) ?r9; (case q9 => exact fun _ _ _ h => h); (case x9 => rfl); (case y9 => ((intro w); (go_simp); (try with_reducible rfl))); simp only [List.take_succ_cons, List.take_zero, List.drop_succ_cons, List.drop_zero, Act.put, List.setIfInBounds_toArray, List.set_cons_succ, List.set_cons_zero]; (repeat (go_big_quiet_step ((fail)))); refine wpQuiet_nil ?_; rintro _ ⟨z, rfl⟩; (first | ((with_reducible apply kp_in_after (z := z)); (with_reducible assumption); rintro ⟨hk, hc, hf, hzc, hzf⟩) | ((with_reducible refine kp_in_after0 z ?_); rintro ⟨hk, hc, hf, hzc, hzf⟩))
      go_wp2_with ((go_at_call 52); (with_reducible refine Calls.mono (hA.out _) ?_); rintro e w2 ⟨rfl, hb2⟩)
      go_roundw
      case rel => exact ⟨k + 1, by omega, by go_num, rfl, by (repeat (first | with_reducible assumption | with_reducible exact Below.refl _ _ | with_reducible apply bl_alloc | with_reducible apply bl_drew | with_reducible apply bl_after | (with_reducible refine bl_call ?_ (by assumption)) | (with_reducible refine bl_setc ?_ (by omega))))⟩
      case measure => simp [intOf]; omega
    · obtain rfl : k = ns.length := by omega
      go_wp2
      go_ret
      exact ⟨rfl, hbW.trans (hbr.mono hbW2)⟩

set_option maxRecDepth 100000 in
set_option maxHeartbeats 2000000 in
theorem moves_any (A : Option Addr) (ca be oe ce : Nat) (T : Trk) (V : Value) (ns : List Nat) (w : World) (he : IntsAt w be oe (ints ns)) (hl0 : 0 < ns.length) (hb8 : ns.length ≤ 8) (hl : T.pts.length ≤ 1000) (hn : ∀ i, i < ns.length → nat ns i < T.pts.length) :
    Calls Try.prog 57 #[.agg #[.slice A T.pts.length ca, (Value.int .i64 (T.closed)), (Value.int .i64 (T.lo)), (Value.int .i64 (T.hi)), V], .slice (some ⟨be, oe, none⟩) ns.length ce] w fun e w' => e = .returned (.tuple #[(Value.int .i64 (mvV T ns)), (Value.int .i64 (onV T ns))]) ∧ Below w.heap.size w w' := by
  have HN := Lib.hid fun (W : World) (h : Below w.heap.size w W) (k : Nat) (hk : k < ns.length) => (show Calls Try.prog 83 #[(Value.int .i64 ((k : Int))), .slice (some ⟨be, oe, none⟩) ns.length ce] W fun e w' => e = .returned (.tuple #[(Value.int .i64 ((nx ns.length k : Int))), (Value.int .i64 ((nat ns (nx ns.length k) : Int)))]) ∧ Below W.heap.size W w' by
    have h2 := next_any be oe ce (ints ns) k W (he.below h) (by rw [ints_len]; exact hk) (by rw [ints_len]; omega)
    rw [ints_len, iat_ints ns (nx_lt hl0)] at h2
    exact h2)
  have HS := Lib.hid fun (W : World) (k : Nat) (hk : k < ns.length) => (show Calls Try.prog 84 #[.agg #[.slice A T.pts.length ca, (Value.int .i64 (T.closed)), (Value.int .i64 (T.lo)), (Value.int .i64 (T.hi)), V], (Value.int .i64 ((nat ns k : Int))), (Value.int .i64 ((nat ns (nx ns.length k) : Int)))] W fun e w' => e = .returned (.tuple #[(Value.int .i64 (st1 T ns k)), .bool (stepV T (nat ns k) (nat ns (nx ns.length k))).2]) ∧ Below W.heap.size W w' from
    step_q A ca T V (nat ns k) (nat ns (nx ns.length k)) W hl (hn k hk) (hn _ (nx_lt hl0)))
  clear hn
  go_enter Try.func57, Try.ntmps57
  have c2 : Blk (w.alloc (.cells #[.slice A T.pts.length ca, (Value.int .i64 (T.closed)), (Value.int .i64 (T.lo)), (Value.int .i64 (T.hi)), V] 72)) w.heap.size 72 #[.slice A T.pts.length ca, (Value.int .i64 (T.closed)), (Value.int .i64 (T.lo)), (Value.int .i64 (T.hi)), V] := Blk.new _ _ _
  have hbW : Below w.heap.size w (w.alloc (.cells #[.slice A T.pts.length ca, (Value.int .i64 (T.closed)), (Value.int .i64 (T.lo)), (Value.int .i64 (T.hi)), V] 72)) := by (repeat (first | with_reducible exact Below.refl _ _ | with_reducible apply bl_alloc | with_reducible apply bl_drew | with_reducible apply bl_after | (with_reducible refine bl_call ?_ (by assumption))))
  go_wp2
  generalize w.alloc (.cells #[.slice A T.pts.length ca, (Value.int .i64 (T.closed)), (Value.int .i64 (T.lo)), (Value.int .i64 (T.hi)), V] 72) = W at c2 hbW ⊢
  have hbW2 := hbW.size
  go_loopw [4, 5, 14] (fun n s i wr => ∃ k : Nat, k ≤ ns.length ∧ i = (Value.int .i64 ((k : Int))) ∧ n = (Value.int .i64 (mvTo T ns k)) ∧ s = (Value.int .i64 (onTo T ns k)) ∧ Below W.heap.size W wr) (fun _ _ i _ => ns.length - (intOf i).toNat)
  case atStart => exact ⟨0, Nat.zero_le _, rfl, rfl, rfl, by (repeat (first | with_reducible exact Below.refl _ _ | with_reducible apply bl_alloc | with_reducible apply bl_drew | with_reducible apply bl_after | (with_reducible refine bl_call ?_ (by assumption))))⟩
  case round =>
    obtain ⟨k, kn, rfl, rfl, rfl, hbr⟩ := hrel
    by_cases hlt : k < ns.length
    · have hbwr : Below w.heap.size w wr := hbW.trans (hbr.mono hbW2)
      have e2 := c2.below hbr
      have pe := he.below hbwr
      have l2 := e2.lt
      have le := pe.lt
      have xe := pe.xi (i := k) (by rw [ints_len]; exact hlt)
      rw [iat_ints ns hlt] at xe
      have y0 := e2.cell 0
      have y1 := e2.cell 1
      have y2 := e2.cell 2
      have y3 := e2.cell 3
      have y4 := e2.cell 4
      simp only [List.getElem?_toArray, List.getElem?_cons_zero, List.getElem?_cons_succ] at y0 y1 y2 y3 y4
      have i1 : (k : Int) < (ns.length : Int) := by omega
      have hNx := Lib.hid (HN.out wr hbwr k hlt)
      have hS := Lib.hid fun V => HS.out V k hlt
      have q1 := mvTo_bd T ns k
      have q2 := onTo_bd T ns k
      have q3 := st1_bd T ns k
      have m1 := wrap64_in (x := -st1 T ns k) (by omega) (by omega)
      have m2 := wrap64_in (x := mvTo T ns k + max (st1 T ns k) (-st1 T ns k)) (by omega) (by omega)
      have m3 := wrap64_in (x := onTo T ns k + st1 T ns k) (by omega) (by omega)
      clear pe HN HS
      go_wp2_with (first | (go_at_call 83; with_reducible refine Calls.mono (hNx.out) ?_; rintro e w1 ⟨rfl, hb1⟩; first | ((with_reducible apply kp_in_step (hb := hb1)); (with_reducible assumption); rintro ⟨hk, hc, hf, hzc, hzf⟩) | ((with_reducible refine kp_in_first hb1 ?_); rintro ⟨hk, hc, hf, hzc, hzf⟩)) | (go_at_call 84; with_reducible refine Calls.mono (hS.out _) ?_; rintro e w1 ⟨rfl, hb1⟩; first | ((with_reducible apply kp_in_step (hb := hb1)); (with_reducible assumption); rintro ⟨hk, hc, hf, hzc, hzf⟩) | ((with_reducible refine kp_in_first hb1 ?_); rintro ⟨hk, hc, hf, hzc, hzf⟩)))
      go_roundw
      case rel => exact ⟨k + 1, by omega, by go_num, rfl, rfl, by (repeat (first | with_reducible assumption | with_reducible exact Below.refl _ _ | with_reducible apply bl_alloc | with_reducible apply bl_drew | with_reducible apply bl_after | (with_reducible refine bl_call ?_ (by assumption)) | (with_reducible refine bl_setc ?_ (by omega))))⟩
      case measure => simp [intOf]; omega
    · obtain rfl : k = ns.length := by omega
      go_wp2
      go_ret2
      exact ⟨rfl, hbW.trans (hbr.mono hbW2)⟩
end Go.Proofs.Ytfgplmgkejeoiaa
