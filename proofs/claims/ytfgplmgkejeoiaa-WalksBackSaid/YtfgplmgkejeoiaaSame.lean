/- The functions knurlref01.SameInts and In tell whether numbers are the same, and whether one is among them. -/
import Derived.Test.YtfgplmgkejeoiaaInts
namespace Go.Proofs.Ytfgplmgkejeoiaa
open Go.RowKit
attribute [local go_sem] After.cell After.frozen

theorem int_ext {l m : List Int} (h : l.length = m.length) (e : ∀ j, j < l.length → iat l j = iat m j) : l = m := by
  refine List.ext_getElem h fun i h1 h2 => ?_
  rw [iat_eq h1, iat_eq h2]
  exact e i h1
set_option maxRecDepth 100000 in
set_option maxHeartbeats 1000000 in
theorem SameInts_any (A B : Option Addr) (ca cb : Nat) (l m : List Int) (w : World) (ha : Ints w A l) (hb : Ints w B m) (hl : l.length ≤ 1000000) (_ : m.length ≤ 1000000) :
    Calls Try.prog 22 #[.slice A l.length ca, .slice B m.length cb] w fun e w' => e = .returned (.bool (decide (l = m))) ∧ Below w.heap.size w w' := by
  by_cases hlm : l.length = m.length
  · have hne : ((l.length : Int) != (m.length : Int)) = false := by rw [hlm]; simp
    have HL := Lib.hid hlm
    clear hlm
    go_enter Try.func22, Try.ntmps22
    go_wp2
    go_loopw [5] (fun i wr => ∃ k : Nat, k ≤ l.length ∧ i = (Value.int .i64 ((k : Int))) ∧ (∀ j, j < k → iat l j = iat m j) ∧ Below w.heap.size w wr) (fun i _ => l.length - (intOf i).toNat)
    case atStart => exact ⟨0, Nat.zero_le _, rfl, (fun j hj => by omega), by (repeat (first | with_reducible exact Below.refl _ _ | with_reducible apply bl_alloc | with_reducible apply bl_drew | with_reducible apply bl_after | (with_reducible refine bl_call ?_ (by assumption))))⟩
    case round =>
      obtain ⟨k, kn, rfl, HR, hbw⟩ := hrel
      replace HR := Lib.hid HR
      by_cases hlt : k < l.length
      · obtain ⟨b, o, rfl, pa⟩ := (ha.below hbw).at_ hlt
        have hlt2 : k < m.length := by have := HL.out; omega
        obtain ⟨b', o', rfl, pb⟩ := (hb.below hbw).at_ hlt2
        have x1 := pa.xi hlt
        have lb := pa.lt
        have x3 := pb.xi hlt2
        have lb2 := pb.lt
        have i1 : (k : Int) < (l.length : Int) := by omega
        have i2 : (k : Int) < (m.length : Int) := by omega
        by_cases he : iat l k = iat m k
        · have he' : (iat l k != iat m k) = false := by rw [he]; simp
          have hfin : Hid (∀ j, j < k + 1 → iat l j = iat m j) := Lib.hid fun j hj => by
            rcases Nat.lt_succ_iff_lt_or_eq.1 hj with h | h
            · exact HR.out j h
            · rw [h]; exact he
          clear he
          go_wp2
          refine wp_region_after (by kernel_rfl) (by kernel_rfl) ?_; (repeat (go_big_quiet_step ((fail)))); refine wpQuiet_nil ?_; rintro _ ⟨z, rfl⟩; (first | ((with_reducible apply kp_in_after (z := z)); (with_reducible assumption); rintro ⟨hk, hc, hf, hzc, hzf⟩) | ((with_reducible refine kp_in_after0 z ?_); rintro ⟨hk, hc, hf, hzc, hzf⟩))
          go_wp2
          go_roundw
          case rel => exact ⟨k + 1, by omega, by go_num, hfin.out, by (repeat (first | with_reducible exact Below.refl _ _ | with_reducible apply bl_alloc | with_reducible apply bl_drew | with_reducible apply bl_after | (with_reducible refine bl_call ?_ (by assumption))))⟩
          case measure => simp [intOf]; omega
        · have he' : (iat l k != iat m k) = true := by rw [bne_iff_ne]; exact he
          have hfin : Hid (decide (l = m) = false) := Lib.hid (decide_eq_false fun h => he (by rw [h]))
          clear he
          go_wp2
          refine wp_region_after (by kernel_rfl) (by kernel_rfl) ?_; (repeat (go_big_quiet_step ((fail)))); refine wpQuiet_nil ?_; rintro _ ⟨z, rfl⟩; (first | ((with_reducible apply kp_in_after (z := z)); (with_reducible assumption); rintro ⟨hk, hc, hf, hzc, hzf⟩) | ((with_reducible refine kp_in_after0 z ?_); rintro ⟨hk, hc, hf, hzc, hzf⟩))
          go_wp2
          go_ret
          refine ⟨ret_bool hfin.out.symm, by (repeat (first | with_reducible exact Below.refl _ _ | with_reducible apply bl_alloc | with_reducible apply bl_drew | with_reducible apply bl_after | (with_reducible refine bl_call ?_ (by assumption))))⟩
      · have hfin : Hid (decide (l = m) = true) := Lib.hid (decide_eq_true (int_ext HL.out fun j hj => HR.out j (by omega)))
        obtain rfl : k = l.length := by omega
        go_wp2
        go_ret
        refine ⟨ret_bool hfin.out.symm, by (repeat (first | with_reducible exact Below.refl _ _ | with_reducible apply bl_alloc | with_reducible apply bl_drew | with_reducible apply bl_after | (with_reducible refine bl_call ?_ (by assumption))))⟩
  · have hne : ((l.length : Int) != (m.length : Int)) = true := by rw [bne_iff_ne]; omega
    have hfin : Hid (decide (l = m) = false) := Lib.hid (decide_eq_false fun h => hlm (by rw [h]))
    clear hlm
    go_enter Try.func22, Try.ntmps22
    go_wp2
    go_ret
    exact ⟨ret_bool hfin.out.symm, by (repeat (first | with_reducible exact Below.refl _ _ | with_reducible apply bl_alloc | with_reducible apply bl_drew | with_reducible apply bl_after | (with_reducible refine bl_call ?_ (by assumption))))⟩
end Go.Proofs.Ytfgplmgkejeoiaa
