/- The functions of walks and of its reference that reckon the doubled area of points, for at most a thousand points with numbers up to 200. -/
import Derived.Test.YtfgplmgkejeoiaaTrk
import Derived.Deep.RegionHeld3
import Derived.BigRegion
import Derived.Deep.DeepCutAuto
import Derived.StillTactics
namespace Go.Proofs.Ytfgplmgkejeoiaa
open Go.RowKit
attribute [local go_sem] After.cell After.frozen

def dblTo (l : List Pt) : Nat → Int
  | 0 => 0
  | k + 1 => dblTo l k + cross (pat l k) (pat l (nxt l k))
def dbl (l : List Pt) : Int := dblTo l l.length
theorem dblTo_bd {l : List Pt} (h : ∀ i, i < l.length → isPt (pat l i) = true) : ∀ k, k ≤ l.length → -(80000 * (k : Int)) ≤ dblTo l k ∧ dblTo l k ≤ 80000 * (k : Int)
  | 0, _ => by simp [dblTo]
  | k + 1, hk => by
    have ih := dblTo_bd h k (by omega)
    have h3 := cross_bd1 (h k (by omega)) (h (nxt l k) (nxt_lt k (by omega)))
    simp only [dblTo]
    omega
theorem dbl_bd {l : List Pt} (h : ∀ i, i < l.length → isPt (pat l i) = true) (hl : l.length ≤ 1000) : -80000000 ≤ dbl l ∧ dbl l ≤ 80000000 := by
  have := dblTo_bd h l.length (Nat.le_refl _)
  unfold dbl
  omega

theorem run_rem_pos {P : Program} (t : TypeId) (a b : Int) (w : World) (ha : 0 ≤ a) (hb : 0 < b) (hb2 : b ≤ 9000000000000000000) : (binOp .rem t (Value.int .i64 (a)) (Value.int .i64 (b))).run P w = .ok (Value.int .i64 (a % b)) w := by
  have h1 : b ≠ 0 := by omega
  have h2 := Int.emod_nonneg a h1
  have h3 := Int.emod_lt_of_pos a hb
  have h4 : a.tmod b = a % b := Int.tmod_eq_emod_of_nonneg ha
  have h5 : IntKind.i64.wrap (a % b) = a % b := IntWalk.i64_in _ (by omega)
  simp [binOp, Op.intDiv, h1, h4, h5]

set_option maxRecDepth 100000 in
set_option maxHeartbeats 2000000 in
theorem around_any (b o ca : Nat) (l : List Pt) (w : World) (hn : 0 < l.length) (hl : l.length ≤ 1000) (hp : PtsAt w b o l) (hpt : ∀ i, i < l.length → isPt (pat l i) = true) :
    Calls Try.prog 52 #[.slice (some ⟨b, o, none⟩) l.length ca] w fun e w' => e = .returned (Value.int .i64 (dbl l)) ∧ Below w.heap.size w w' := by
  have HP := Lib.hid hpt
  clear hpt
  go_enter Try.func52, Try.ntmps52
  go_wp2
  go_loopw [3, 9] (fun n i wr => ∃ k : Nat, k ≤ l.length ∧ i = (Value.int .i64 ((k : Int))) ∧ n = (Value.int .i64 (dblTo l k)) ∧ Below w.heap.size w wr) (fun _ i _ => l.length - (intOf i).toNat)
  case atStart => exact ⟨0, Nat.zero_le _, rfl, rfl, by (repeat (first | with_reducible exact Below.refl _ _ | with_reducible apply bl_alloc | with_reducible apply bl_drew | with_reducible apply bl_after | (with_reducible refine bl_call ?_ (by assumption))))⟩
  case round =>
    obtain ⟨k, kn, rfl, rfl, hbw⟩ := hrel
    by_cases hlt : k < l.length
    · have pa := hp.below hbw
      have hnk : nxt l k < l.length := nxt_lt k hn
      have x1 := pa.xp hlt
      have x2 := pa.yp hlt
      have x3 := pa.xp hnk
      have x4 := pa.yp hnk
      have lb := pa.lt
      have e1 : ((k : Int) + 1) % (l.length : Int) = (nxt l k : Int) := by simp [nxt]
      have i1 : 0 ≤ ((k : Int) + 1) % (l.length : Int) := by rw [e1]; omega
      have i2 : ((k : Int) + 1) % (l.length : Int) < (l.length : Int) := by rw [e1]; omega
      have i3 : (((k : Int) + 1) % (l.length : Int)).toNat = nxt l k := by rw [e1]; omega
      clear e1
      have p1 := HP.out k hlt
      have p2 := HP.out _ hnk
      have q1 := cross_bd2 p1 p2
      have q2 := cross_bd1 p1 p2
      have q3 := dblTo_bd HP.out k (by omega)
      unfold cross at q2
      have m1 := wrap64_in (x := (pat l k).1 * (pat l (nxt l k)).2) (by omega) (by omega)
      have m2 := wrap64_in (x := (pat l k).2 * (pat l (nxt l k)).1) (by omega) (by omega)
      have m3 := wrap64_in (x := dblTo l k + ((pat l k).1 * (pat l (nxt l k)).2 - (pat l k).2 * (pat l (nxt l k)).1)) (by omega) (by omega)
      clear p1 p2 pa
      go_wp2
      go_roundw
      case rel => exact ⟨k + 1, by omega, by go_num, rfl, by (repeat (first | with_reducible assumption | with_reducible exact Below.refl _ _ | with_reducible apply bl_alloc | with_reducible apply bl_drew | with_reducible apply bl_after | (with_reducible refine bl_call ?_ (by assumption)) | (with_reducible refine bl_setc ?_ (by omega))))⟩
      case measure => simp [intOf]; omega
    · obtain rfl : k = l.length := by omega
      go_wp2
      go_ret
      exact ⟨rfl, hbw⟩
set_option maxRecDepth 100000 in
set_option maxHeartbeats 2000000 in
theorem Doubled_any (b o ca : Nat) (l : List Pt) (w : World) (hn : 0 < l.length) (hl : l.length ≤ 1000) (hp : PtsAt w b o l) (hpt : ∀ i, i < l.length → isPt (pat l i) = true) :
    Calls Try.prog 61 #[.slice (some ⟨b, o, none⟩) l.length ca] w fun e w' => e = .returned (Value.int .i64 (dbl l)) ∧ Below w.heap.size w w' := by
  have HP := Lib.hid hpt
  clear hpt
  go_enter Try.func61, Try.ntmps61
  go_wp2
  go_loopw [3, 4] (fun n i wr => ∃ k : Nat, k ≤ l.length ∧ i = (Value.int .i64 ((k : Int))) ∧ n = (Value.int .i64 (dblTo l k)) ∧ Below w.heap.size w wr) (fun _ i _ => l.length - (intOf i).toNat)
  case atStart => exact ⟨0, Nat.zero_le _, rfl, rfl, by (repeat (first | with_reducible exact Below.refl _ _ | with_reducible apply bl_alloc | with_reducible apply bl_drew | with_reducible apply bl_after | (with_reducible refine bl_call ?_ (by assumption))))⟩
  case round =>
    obtain ⟨k, kn, rfl, rfl, hbw⟩ := hrel
    by_cases hlt : k < l.length
    · have pa := hp.below hbw
      have hnk : nxt l k < l.length := nxt_lt k hn
      have x1 := pa.xp hlt
      have x2 := pa.yp hlt
      have x3 := pa.xp hnk
      have x4 := pa.yp hnk
      have lb := pa.lt
      have e1 : ((k : Int) + 1) % (l.length : Int) = (nxt l k : Int) := by simp [nxt]
      have i1 : 0 ≤ ((k : Int) + 1) % (l.length : Int) := by rw [e1]; omega
      have i2 : ((k : Int) + 1) % (l.length : Int) < (l.length : Int) := by rw [e1]; omega
      have i3 : (((k : Int) + 1) % (l.length : Int)).toNat = nxt l k := by rw [e1]; omega
      clear e1
      have p1 := HP.out k hlt
      have p2 := HP.out _ hnk
      have q1 := cross_bd2 p1 p2
      have q2 := cross_bd1 p1 p2
      have q3 := dblTo_bd HP.out k (by omega)
      unfold cross at q2
      have m1 := wrap64_in (x := (pat l k).1 * (pat l (nxt l k)).2) (by omega) (by omega)
      have m2 := wrap64_in (x := (pat l k).2 * (pat l (nxt l k)).1) (by omega) (by omega)
      have m3 := wrap64_in (x := dblTo l k + ((pat l k).1 * (pat l (nxt l k)).2 - (pat l k).2 * (pat l (nxt l k)).1)) (by omega) (by omega)
      clear p1 p2 pa
      have nn1 : b ≠ wr.heap.size := by omega
      have nn2 : b ≠ wr.heap.size + 1 := by omega
      have nz : ((l.length : Int) == 0) = false := by rw [beq_eq_false_iff_ne]; omega
      have nz2 : (l.length : Int) ≠ 0 := by omega
      have k0 : (0 : Int) ≤ (k : Int) := by omega
      have k1 : (k : Int) < (l.length : Int) := by omega
      have tm := fun (W : World) => run_rem_pos (P := Try.prog) 3 ((k : Int) + 1) (l.length : Int) W (by omega) (by omega) (by omega)
      have w1 : IntKind.i64.wrap ((k : Int) + 1) = (k : Int) + 1 := IntWalk.i64_in _ (by omega)
      have w2 : IntKind.i64.wrap (((k : Int) + 1) % (l.length : Int)) = ((k : Int) + 1) % (l.length : Int) := IntWalk.i64_in _ (by omega)
      go_upto_region 5 with fail
      go_big_region
      all_goals
        clear x1 x2 x3 x4 tm w1 w2
        go_wp2
        go_roundw
        case rel => exact ⟨k + 1, by omega, by go_num, rfl, by (repeat (first | with_reducible assumption | with_reducible exact Below.refl _ _ | with_reducible apply bl_alloc | with_reducible apply bl_drew | with_reducible apply bl_after | (with_reducible refine bl_call ?_ (by assumption)) | (with_reducible refine bl_setc ?_ (by omega))))⟩
        case measure => simp [intOf]; omega
    · obtain rfl : k = l.length := by omega
      go_wp2
      go_ret
      exact ⟨rfl, hbw⟩

def arV (l : List Pt) : Int := if walkB l = true then dbl l else 0
def arE (l : List Pt) : Int := if walkB l = true then 0 else 51
set_option maxHeartbeats 1000000 in
theorem wArea_any (A : Option Addr) (ca : Nat) (l : List Pt) (w : World) (ha : Pts w A l) (hla : l.length ≤ 1000000) :
    Calls Try.prog 15 #[.slice A l.length ca] w fun e w' => e = .returned (.tuple #[(Value.int .i64 (arV l)), (Value.int .i64 (arE l))]) ∧ Below w.heap.size w w' := by
  have h1 := isWalk_any A ca l w ha hla
  cases hw : walkB l with
  | true =>
    have hb := walkB_bd hw
    obtain ⟨b, o, rfl, hp⟩ := ha.at_ (k := 0) (by omega)
    have h2 := Lib.hid fun (W : World) (h : Below w.heap.size w W) => around_any b o ca l W (by omega) (by omega) (hp.below h) hb.2
    rw [hw] at h1
    rw [arV, arE, if_pos hw, if_pos hw]
    clear hw hb
    go_enter Try.func15, Try.ntmps15
    go_wp2_with (first | (go_at_call 51; with_reducible refine Calls.mono (h1) ?_; rintro e w1 ⟨rfl, hb1⟩; first | ((with_reducible apply kp_in_step (hb := hb1)); (with_reducible assumption); rintro ⟨hk, hc, hf, hzc, hzf⟩) | ((with_reducible refine kp_in_first hb1 ?_); rintro ⟨hk, hc, hf, hzc, hzf⟩)) | (go_at_call 52; with_reducible refine Calls.mono (h2.out _ (by (repeat (first | with_reducible exact Below.refl _ _ | with_reducible apply bl_alloc | with_reducible apply bl_drew | with_reducible apply bl_after | (with_reducible refine bl_call ?_ (by assumption)))))) ?_; rintro e w1 ⟨rfl, hb1⟩; first | ((with_reducible apply kp_in_step (hb := hb1)); (with_reducible assumption); rintro ⟨hk, hc, hf, hzc, hzf⟩) | ((with_reducible refine kp_in_first hb1 ?_); rintro ⟨hk, hc, hf, hzc, hzf⟩)))
    go_ret2
    exact ⟨rfl, by (repeat (first | with_reducible exact Below.refl _ _ | with_reducible apply bl_alloc | with_reducible apply bl_drew | with_reducible apply bl_after | (with_reducible refine bl_call ?_ (by assumption))))⟩
  | false =>
    rw [hw] at h1
    rw [arV, arE, if_neg (by rw [hw]; exact Bool.false_ne_true), if_neg (by rw [hw]; exact Bool.false_ne_true)]
    clear hw
    go_enter Try.func15, Try.ntmps15
    go_wp2_with (go_at_call 51; with_reducible refine Calls.mono (h1) ?_; rintro e w1 ⟨rfl, hb1⟩; first | ((with_reducible apply kp_in_step (hb := hb1)); (with_reducible assumption); rintro ⟨hk, hc, hf, hzc, hzf⟩) | ((with_reducible refine kp_in_first hb1 ?_); rintro ⟨hk, hc, hf, hzc, hzf⟩))
    go_ret2
    exact ⟨rfl, by (repeat (first | with_reducible exact Below.refl _ _ | with_reducible apply bl_alloc | with_reducible apply bl_drew | with_reducible apply bl_after | (with_reducible refine bl_call ?_ (by assumption))))⟩
set_option maxHeartbeats 1000000 in
theorem r5Area_any (A : Option Addr) (ca : Nat) (l : List Pt) (w : World) (ha : Pts w A l) (hla : l.length ≤ 1000000) :
    Calls Try.prog 25 #[.slice A l.length ca] w fun e w' => e = .returned (.tuple #[(Value.int .i64 (arV l)), (Value.int .i64 (arE l))]) ∧ Below w.heap.size w w' := by
  have h1 := r5IsWalk_any A ca l w ha hla
  cases hw : walkB l with
  | true =>
    have hb := walkB_bd hw
    obtain ⟨b, o, rfl, hp⟩ := ha.at_ (k := 0) (by omega)
    have h2 := Lib.hid fun (W : World) (h : Below w.heap.size w W) => Doubled_any b o ca l W (by omega) (by omega) (hp.below h) hb.2
    rw [hw] at h1
    rw [arV, arE, if_pos hw, if_pos hw]
    clear hw hb
    go_enter Try.func25, Try.ntmps25
    go_wp2_with (first | (go_at_call 13; with_reducible refine Calls.mono (h1) ?_; rintro e w1 ⟨rfl, hb1⟩; first | ((with_reducible apply kp_in_step (hb := hb1)); (with_reducible assumption); rintro ⟨hk, hc, hf, hzc, hzf⟩) | ((with_reducible refine kp_in_first hb1 ?_); rintro ⟨hk, hc, hf, hzc, hzf⟩)) | (go_at_call 61; with_reducible refine Calls.mono (h2.out _ (by (repeat (first | with_reducible exact Below.refl _ _ | with_reducible apply bl_alloc | with_reducible apply bl_drew | with_reducible apply bl_after | (with_reducible refine bl_call ?_ (by assumption)))))) ?_; rintro e w1 ⟨rfl, hb1⟩; first | ((with_reducible apply kp_in_step (hb := hb1)); (with_reducible assumption); rintro ⟨hk, hc, hf, hzc, hzf⟩) | ((with_reducible refine kp_in_first hb1 ?_); rintro ⟨hk, hc, hf, hzc, hzf⟩)))
    go_ret2
    exact ⟨rfl, by (repeat (first | with_reducible exact Below.refl _ _ | with_reducible apply bl_alloc | with_reducible apply bl_drew | with_reducible apply bl_after | (with_reducible refine bl_call ?_ (by assumption))))⟩
  | false =>
    rw [hw] at h1
    rw [arV, arE, if_neg (by rw [hw]; exact Bool.false_ne_true), if_neg (by rw [hw]; exact Bool.false_ne_true)]
    clear hw
    go_enter Try.func25, Try.ntmps25
    go_wp2_with (go_at_call 13; with_reducible refine Calls.mono (h1) ?_; rintro e w1 ⟨rfl, hb1⟩; first | ((with_reducible apply kp_in_step (hb := hb1)); (with_reducible assumption); rintro ⟨hk, hc, hf, hzc, hzf⟩) | ((with_reducible refine kp_in_first hb1 ?_); rintro ⟨hk, hc, hf, hzc, hzf⟩))
    go_ret2
    exact ⟨rfl, by (repeat (first | with_reducible exact Below.refl _ _ | with_reducible apply bl_alloc | with_reducible apply bl_drew | with_reducible apply bl_after | (with_reducible refine bl_call ?_ (by assumption))))⟩
end Go.Proofs.Ytfgplmgkejeoiaa
