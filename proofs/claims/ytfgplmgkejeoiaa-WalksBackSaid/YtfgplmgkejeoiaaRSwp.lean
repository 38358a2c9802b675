/- The functions SweepOf, TurnsOf, check, Sweep and Turns of the reference. -/
import Derived.Test.YtfgplmgkejeoiaaRAre
import Derived.Test.YtfgplmgkejeoiaaWTurn
namespace Go.Proofs.Ytfgplmgkejeoiaa
open Go.RowKit
attribute [local go_sem] After.cell After.frozen

set_option maxRecDepth 100000 in
set_option maxHeartbeats 2000000 in
theorem SweepOf_any (b o ca bm om cm be oe ce : Nat) (T : Trk) (m : List Pt) (ns : List Nat) (w : World) (hp : PtsAt w b o T.pts) (hq : PtsAt w bm om m) (he : IntsAt w be oe (ints ns)) (hT : trkB T = true) (hm : walkB m = true) (hlen : ns.length = m.length) (hn : ∀ i, i < ns.length → nat ns i < T.pts.length) :
    Calls Try.prog 56 #[(Value.agg #[.slice (some ⟨b, o, none⟩) T.pts.length ca, (Value.int .i64 (T.closed)), (Value.int .i64 (T.lo)), (Value.int .i64 (T.hi))]), .slice (some ⟨bm, om, none⟩) m.length cm, .slice (some ⟨be, oe, none⟩) ns.length ce] w fun e w' => e = .returned (Value.int .i64 (swp T m ns)) ∧ Below w.heap.size w w' := by
  have htb := (trkB_bd hT).1
  have hmb := walkB_bd hm
  have hl0 : 0 < ns.length := by omega
  have hb8 : ns.length ≤ 8 := by omega
  have HA := Lib.hid fun (V : World) (k : Nat) (hk : k < ns.length) => (show Calls Try.prog 61 #[.slice (some ⟨V.heap.size, 0, none⟩) 4 4] (V.alloc (.cells #[(Value.int .i64 ((pat T.pts (nat ns k)).1)), (Value.int .i64 ((pat T.pts (nat ns k)).2)), (Value.int .i64 ((pat m k).1)), (Value.int .i64 ((pat m k).2)), (Value.int .i64 ((pat m (nx ns.length k)).1)), (Value.int .i64 ((pat m (nx ns.length k)).2)), (Value.int .i64 ((pat T.pts (nat ns (nx ns.length k))).1)), (Value.int .i64 ((pat T.pts (nat ns (nx ns.length k))).2))] 31)) fun e w' => e = .returned (Value.int .i64 (dbl (quad T m ns k))) ∧ Below (V.alloc (.cells #[(Value.int .i64 ((pat T.pts (nat ns k)).1)), (Value.int .i64 ((pat T.pts (nat ns k)).2)), (Value.int .i64 ((pat m k).1)), (Value.int .i64 ((pat m k).2)), (Value.int .i64 ((pat m (nx ns.length k)).1)), (Value.int .i64 ((pat m (nx ns.length k)).2)), (Value.int .i64 ((pat T.pts (nat ns (nx ns.length k))).1)), (Value.int .i64 ((pat T.pts (nat ns (nx ns.length k))).2))] 31)).heap.size (V.alloc (.cells #[(Value.int .i64 ((pat T.pts (nat ns k)).1)), (Value.int .i64 ((pat T.pts (nat ns k)).2)), (Value.int .i64 ((pat m k).1)), (Value.int .i64 ((pat m k).2)), (Value.int .i64 ((pat m (nx ns.length k)).1)), (Value.int .i64 ((pat m (nx ns.length k)).2)), (Value.int .i64 ((pat T.pts (nat ns (nx ns.length k))).1)), (Value.int .i64 ((pat T.pts (nat ns (nx ns.length k))).2))] 31)) w' from
    Doubled_any V.heap.size 0 4 (quad T m ns k) _ (by simp [quad]) (by simp [quad]) (ptsAt_blk (l := quad T m ns k) (Blk.new V _ _)) (quad_pt htb.2 hmb.2 hlen hn hk))
  have HB := Lib.hid fun (k : Nat) (hk : k ≤ ns.length) => swpTo_bd htb.2 hmb.2 hlen hn k hk
  have HC := Lib.hid hn
  have HH := Lib.hid hlen
  clear htb hmb hn hlen
  go_enter Try.func56, Try.ntmps56
  have c2 : Blk (w.alloc (.cells #[.slice (some ⟨b, o, none⟩) T.pts.length ca, (Value.int .i64 (T.closed)), (Value.int .i64 (T.lo)), (Value.int .i64 (T.hi))] 36)) w.heap.size 36 #[.slice (some ⟨b, o, none⟩) T.pts.length ca, (Value.int .i64 (T.closed)), (Value.int .i64 (T.lo)), (Value.int .i64 (T.hi))] := Blk.new _ _ _
  have hbW : Below w.heap.size w (w.alloc (.cells #[.slice (some ⟨b, o, none⟩) T.pts.length ca, (Value.int .i64 (T.closed)), (Value.int .i64 (T.lo)), (Value.int .i64 (T.hi))] 36)) := by (repeat (first | with_reducible exact Below.refl _ _ | with_reducible apply bl_alloc | with_reducible apply bl_drew | with_reducible apply bl_after | (with_reducible refine bl_call ?_ (by assumption))))
  go_wp2
  generalize w.alloc (.cells #[.slice (some ⟨b, o, none⟩) T.pts.length ca, (Value.int .i64 (T.closed)), (Value.int .i64 (T.lo)), (Value.int .i64 (T.hi))] 36) = W at c2 hbW ⊢
  have hbW2 := hbW.size
  go_loopw [7, 8] (fun n i wr => ∃ k : Nat, k ≤ ns.length ∧ i = (Value.int .i64 ((k : Int))) ∧ n = (Value.int .i64 (swpTo T m ns k)) ∧ Below W.heap.size W wr) (fun _ i _ => ns.length - (intOf i).toNat)
  case atStart => exact ⟨0, Nat.zero_le _, rfl, rfl, by (repeat (first | with_reducible exact Below.refl _ _ | with_reducible apply bl_alloc | with_reducible apply bl_drew | with_reducible apply bl_after | (with_reducible refine bl_call ?_ (by assumption))))⟩
  case round =>
    obtain ⟨k, kn, rfl, rfl, hbr⟩ := hrel
    by_cases hlt : k < ns.length
    · have hbwr : Below w.heap.size w wr := hbW.trans (hbr.mono hbW2)
      have e2 := c2.below hbr
      have pe := he.below hbwr
      have pm := hq.below hbwr
      have pt := hp.below hbwr
      have hx : nx ns.length k < ns.length := nx_lt hl0
      have l2 := e2.lt
      have le := pe.lt
      have lm := pm.lt
      have lp := pt.lt
      have xe := pe.xi (i := k) (by rw [ints_len]; exact hlt)
      rw [iat_ints ns hlt] at xe
      have x1 := pm.xp (i := k) (by have := HH.out; omega)
      have x2 := pm.yp (i := k) (by have := HH.out; omega)
      have x3 := pm.xp (i := nx ns.length k) (by have := HH.out; omega)
      have x4 := pm.yp (i := nx ns.length k) (by have := HH.out; omega)
      have x5 := pt.xp (HC.out k hlt)
      have x6 := pt.yp (HC.out k hlt)
      have x7 := pt.xp (HC.out _ hx)
      have x8 := pt.yp (HC.out _ hx)
      have y0 := e2.cell 0
      have y1 := e2.cell 1
      have y2 := e2.cell 2
      have y3 := e2.cell 3
      simp only [List.getElem?_toArray, List.getElem?_cons_zero, List.getElem?_cons_succ] at y0 y1 y2 y3
      have i1 : (k : Int) < (ns.length : Int) := by omega
      have i2 : (k : Int) < (m.length : Int) := by have := HH.out; omega
      have e1 : ((k : Int) + 1) % (ns.length : Int) = (nx ns.length k : Int) := by simp [nx]
      have j1 : 0 ≤ ((k : Int) + 1) % (ns.length : Int) := by rw [e1]; omega
      have j2 : ((k : Int) + 1) % (ns.length : Int) < (ns.length : Int) := by rw [e1]; omega
      have j3 : (((k : Int) + 1) % (ns.length : Int)).toNat = nx ns.length k := by rw [e1]; omega
      have j4 : ((k : Int) + 1) % (ns.length : Int) < (m.length : Int) := by have := HH.out; rw [e1]; omega
      have xf := pe.xi (i := nx ns.length k) (by rw [ints_len]; exact hx)
      rw [iat_ints ns hx] at xf
      have nz : ((ns.length : Int) == 0) = false := by rw [beq_eq_false_iff_ne]; omega
      have nz2 : (ns.length : Int) ≠ 0 := by omega
      have i4 : (nat ns k : Int) < (T.pts.length : Int) := by have := HC.out k hlt; omega
      have i5 : (nat ns (nx ns.length k) : Int) < (T.pts.length : Int) := by have := HC.out _ hx; omega
      have hA := Lib.hid fun V => HA.out V k hlt
      have q3 := HB.out k (by omega)
      have q4 := HB.out (k + 1) (by omega)
      have hD := Lib.hid (show swpTo T m ns (k + 1) = swpTo T m ns k + dbl (quad T m ns k) from rfl)
      rw [hD.out] at q4
      have m3 := wrap64_in (x := swpTo T m ns k + dbl (quad T m ns k)) (by omega) (by omega)
      clear pe pm pt HA hx e1
      go_wp2
      refine wp_region_after_tail1 (v := ?v9) 25 (by kernel_rfl) (by kernel_rfl) (by kernel_rfl) (by kernel_rfl) (by kernel_rfl) ?q9 (Or.inl ⟨?x9, ?y9⟩) ?r9; (case q9 => exact fun _ _ _ h => h); (case x9 => rfl); (case y9 => ((intro w); (go_simp); (try with_reducible rfl))); simp only [List.take_succ_cons, List.take_zero, List.drop_succ_cons, List.drop_zero, Act.put, List.setIfInBounds_toArray, List.set_cons_succ, List.set_cons_zero]; (repeat (go_big_quiet_step ((fail)))); refine wpQuiet_nil ?_; rintro _ ⟨z, rfl⟩; (first | ((with_reducible apply kp_in_after (z := z)); (with_reducible assumption); rintro ⟨hk, hc, hf, hzc, hzf⟩) | ((with_reducible refine kp_in_after0 z ?_); rintro ⟨hk, hc, hf, hzc, hzf⟩))
      go_wp2_with ((go_at_call 61); (with_reducible refine Calls.mono (hA.out _) ?_); rintro e w2 ⟨rfl, hb2⟩)
      go_roundw
      case rel => exact ⟨k + 1, by omega, by go_num, rfl, by (repeat (first | with_reducible assumption | with_reducible exact Below.refl _ _ | with_reducible apply bl_alloc | with_reducible apply bl_drew | with_reducible apply bl_after | (with_reducible refine bl_call ?_ (by assumption)) | (with_reducible refine bl_setc ?_ (by omega))))⟩
      case measure => simp [intOf]; omega
    · obtain rfl : k = ns.length := by omega
      go_wp2
      go_ret
      exact ⟨rfl, hbW.trans (hbr.mono hbW2)⟩


set_option maxRecDepth 100000 in
set_option maxHeartbeats 2000000 in
theorem TurnsOf_any (A : Option Addr) (ca be oe ce : Nat) (T : Trk) (ns : List Nat) (w : World) (he : IntsAt w be oe (ints ns)) (hl0 : 0 < ns.length) (hb8 : ns.length ≤ 8) (hl : T.pts.length ≤ 1000) (hn : ∀ i, i < ns.length → nat ns i < T.pts.length) :
    Calls Try.prog 58 #[(Value.agg #[.slice A T.pts.length ca, (Value.int .i64 (T.closed)), (Value.int .i64 (T.lo)), (Value.int .i64 (T.hi))]), .slice (some ⟨be, oe, none⟩) ns.length ce] w fun e w' => e = .returned (Value.int .i64 ((onV T ns).tdiv T.pts.length)) ∧ Below w.heap.size w w' := by
  have HS := Lib.hid fun (W : World) (k : Nat) (hk : k < ns.length) => (show Calls Try.prog 79 #[(Value.agg #[.slice A T.pts.length ca, (Value.int .i64 (T.closed)), (Value.int .i64 (T.lo)), (Value.int .i64 (T.hi))]), (Value.int .i64 ((nat ns k : Int))), (Value.int .i64 ((nat ns (nx ns.length k) : Int)))] W fun e w' => e = .returned (.tuple #[(Value.int .i64 (st1 T ns k)), .bool (stepV T (nat ns k) (nat ns (nx ns.length k))).2]) ∧ Below W.heap.size W w' from
    r5step_q A ca T (nat ns k) (nat ns (nx ns.length k)) W hl (hn k hk) (hn _ (nx_lt hl0)))
  have nz3 : (T.pts.length : Int) ≠ 0 := by have := hn 0 hl0; omega
  have nz4 : T.pts.length ≠ 0 := by omega
  have nz5 : ((T.pts.length : Int) == 0) = false := by rw [beq_eq_false_iff_ne]; exact nz3
  have q9 := onTo_bd T ns ns.length
  have mq := quo_wrap (a := onTo T ns ns.length) (b := (T.pts.length : Int)) (by omega)
  clear hn q9
  go_enter Try.func58, Try.ntmps58
  have c2 : Blk (w.alloc (.cells #[.slice A T.pts.length ca, (Value.int .i64 (T.closed)), (Value.int .i64 (T.lo)), (Value.int .i64 (T.hi))] 36)) w.heap.size 36 #[.slice A T.pts.length ca, (Value.int .i64 (T.closed)), (Value.int .i64 (T.lo)), (Value.int .i64 (T.hi))] := Blk.new _ _ _
  have hbW : Below w.heap.size w (w.alloc (.cells #[.slice A T.pts.length ca, (Value.int .i64 (T.closed)), (Value.int .i64 (T.lo)), (Value.int .i64 (T.hi))] 36)) := by (repeat (first | with_reducible exact Below.refl _ _ | with_reducible apply bl_alloc | with_reducible apply bl_drew | with_reducible apply bl_after | (with_reducible refine bl_call ?_ (by assumption))))
  go_wp2
  generalize w.alloc (.cells #[.slice A T.pts.length ca, (Value.int .i64 (T.closed)), (Value.int .i64 (T.lo)), (Value.int .i64 (T.hi))] 36) = W at c2 hbW ⊢
  have hbW2 := hbW.size
  go_loopw [5, 6] (fun s i wr => ∃ k : Nat, k ≤ ns.length ∧ i = (Value.int .i64 ((k : Int))) ∧ s = (Value.int .i64 (onTo T ns k)) ∧ Below W.heap.size W wr) (fun _ i _ => ns.length - (intOf i).toNat)
  case atStart => exact ⟨0, Nat.zero_le _, rfl, rfl, by (repeat (first | with_reducible exact Below.refl _ _ | with_reducible apply bl_alloc | with_reducible apply bl_drew | with_reducible apply bl_after | (with_reducible refine bl_call ?_ (by assumption))))⟩
  case round =>
    obtain ⟨k, kn, rfl, rfl, hbr⟩ := hrel
    have e2 := c2.below hbr
    have l2 := e2.lt
    have y0 := e2.cell 0
    have y1 := e2.cell 1
    have y2 := e2.cell 2
    have y3 := e2.cell 3
    simp only [List.getElem?_toArray, List.getElem?_cons_zero, List.getElem?_cons_succ] at y0 y1 y2 y3
    by_cases hlt : k < ns.length
    · have hbwr : Below w.heap.size w wr := hbW.trans (hbr.mono hbW2)
      have hx : nx ns.length k < ns.length := nx_lt hl0
      have pe := he.below hbwr
      have le := pe.lt
      have xe := pe.xi (i := k) (by rw [ints_len]; exact hlt)
      rw [iat_ints ns hlt] at xe
      have xf := pe.xi (i := nx ns.length k) (by rw [ints_len]; exact hx)
      rw [iat_ints ns hx] at xf
      have i1 : (k : Int) < (ns.length : Int) := by omega
      have e1 : ((k : Int) + 1) % (ns.length : Int) = (nx ns.length k : Int) := by simp [nx]
      have j1 : 0 ≤ ((k : Int) + 1) % (ns.length : Int) := by rw [e1]; omega
      have j2 : ((k : Int) + 1) % (ns.length : Int) < (ns.length : Int) := by rw [e1]; omega
      have j3 : (((k : Int) + 1) % (ns.length : Int)).toNat = nx ns.length k := by rw [e1]; omega
      have nz : ((ns.length : Int) == 0) = false := by rw [beq_eq_false_iff_ne]; omega
      have nz2 : (ns.length : Int) ≠ 0 := by omega
      have hS := Lib.hid fun V => HS.out V k hlt
      have q2 := onTo_bd T ns k
      have q3 := st1_bd T ns k
      have m3 := wrap64_in (x := onTo T ns k + st1 T ns k) (by omega) (by omega)
      clear pe HS e1 hx
      go_wp2
      refine wp_region_after (by kernel_rfl) (by kernel_rfl) ?_; (repeat (go_big_quiet_step (((go_at_call 79; with_reducible exact calls_after (hS.out _)))))); refine wpQuiet_nil ?_; rintro _ ⟨z, rfl⟩; (first | ((with_reducible apply kp_in_after (z := z)); (with_reducible assumption); rintro ⟨hk, hc, hf, hzc, hzf⟩) | ((with_reducible refine kp_in_after0 z ?_); rintro ⟨hk, hc, hf, hzc, hzf⟩))
      go_wp2
      go_roundw
      case rel => exact ⟨k + 1, by omega, by go_num, rfl, by (repeat (first | with_reducible assumption | with_reducible exact Below.refl _ _ | with_reducible apply bl_alloc | with_reducible apply bl_drew | with_reducible apply bl_after | (with_reducible refine bl_call ?_ (by assumption)) | (with_reducible refine bl_setc ?_ (by omega))))⟩
      case measure => simp [intOf]; omega
    · obtain rfl : k = ns.length := by omega
      go_wp2
      go_ret
      exact ⟨rfl, hbW.trans (hbr.mono hbW2)⟩
end Go.Proofs.Ytfgplmgkejeoiaa
