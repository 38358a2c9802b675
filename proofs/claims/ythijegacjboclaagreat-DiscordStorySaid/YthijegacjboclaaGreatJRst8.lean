/- The reference's function IsRight of wheels: whether a walk is right for an area and a skew. -/
import Derived.Test.YthijegacjboclaaGreatLs8
import Derived.Test.YthijegacjboclaaGreatJTwF
import Derived.Test.YthijegacjboclaaGreatSto
import Derived.Test.YthijegacjboclaaGreatFar8
import Derived.Test.YthijegacjboclaaGreatCq8
namespace Go.Proofs.YthijegacjboclaaGreat
open Go.RowKit
attribute [local go_sem] After.cell After.frozen
theorem tmod_dvd {x m : Int} : x.tmod m = 0 ↔ m ∣ x := ⟨Int.dvd_of_tmod_eq_zero, fun h => Int.tmod_eq_zero_of_dvd h⟩
set_option maxRecDepth 100000 in
set_option maxHeartbeats 4000000 in
theorem rIsRight_any (v : Whl) (x : Wk) (a s : Int) (w : World) (hv : WhlOk v) (hx : WkOk v x) (ha : 0 ≤ a ∧ a ≤ 9999) (hs : -20 ≤ s ∧ s ≤ 20) :
    Calls Tryz.prog 53 #[(Value.agg #[(Value.int .i64 (v.full)), (Value.int .i64 (v.read)), (Value.int .i64 (v.slip)), (Value.int .i64 (v.skew)), (Value.int .i64 (v.circle)), (Value.int .i64 (v.glo)), (Value.int .i64 (v.ghi)), (Value.int .i64 (v.wrong))]), (Value.agg #[(Value.int .i64 (x.sense)), (Value.int .i64 (x.side)), (Value.int .i64 (x.inside)), (Value.int .i64 (x.start)), (Value.int .i64 (x.fin))]), .agg #[(Value.int .i64 (a)), (Value.int .i64 (s))]] w fun e w' => e = .returned (.bool (rgtB v x a s)) ∧ Below w.heap.size w w' := by
  have c0 : Blk (((w.alloc (.cells #[(Value.int .i64 (v.full)), (Value.int .i64 (v.read)), (Value.int .i64 (v.slip)), (Value.int .i64 (v.skew)), (Value.int .i64 (v.circle)), (Value.int .i64 (v.glo)), (Value.int .i64 (v.ghi)), (Value.int .i64 (v.wrong))] 27)).alloc (.cells #[(Value.int .i64 (x.sense)), (Value.int .i64 (x.side)), (Value.int .i64 (x.inside)), (Value.int .i64 (x.start)), (Value.int .i64 (x.fin))] 88)).alloc (.cells #[(Value.int .i64 (a)), (Value.int .i64 (s))] 101)) w.heap.size 27 #[(Value.int .i64 (v.full)), (Value.int .i64 (v.read)), (Value.int .i64 (v.slip)), (Value.int .i64 (v.skew)), (Value.int .i64 (v.circle)), (Value.int .i64 (v.glo)), (Value.int .i64 (v.ghi)), (Value.int .i64 (v.wrong))] := ((Blk.new _ _ _).alloc _).alloc _
  have c1 : Blk (((w.alloc (.cells #[(Value.int .i64 (v.full)), (Value.int .i64 (v.read)), (Value.int .i64 (v.slip)), (Value.int .i64 (v.skew)), (Value.int .i64 (v.circle)), (Value.int .i64 (v.glo)), (Value.int .i64 (v.ghi)), (Value.int .i64 (v.wrong))] 27)).alloc (.cells #[(Value.int .i64 (x.sense)), (Value.int .i64 (x.side)), (Value.int .i64 (x.inside)), (Value.int .i64 (x.start)), (Value.int .i64 (x.fin))] 88)).alloc (.cells #[(Value.int .i64 (a)), (Value.int .i64 (s))] 101)) (w.heap.size + 1) 88 #[(Value.int .i64 (x.sense)), (Value.int .i64 (x.side)), (Value.int .i64 (x.inside)), (Value.int .i64 (x.start)), (Value.int .i64 (x.fin))] := (blk_new_at (by simp)).alloc _
  have c2 : Blk (((w.alloc (.cells #[(Value.int .i64 (v.full)), (Value.int .i64 (v.read)), (Value.int .i64 (v.slip)), (Value.int .i64 (v.skew)), (Value.int .i64 (v.circle)), (Value.int .i64 (v.glo)), (Value.int .i64 (v.ghi)), (Value.int .i64 (v.wrong))] 27)).alloc (.cells #[(Value.int .i64 (x.sense)), (Value.int .i64 (x.side)), (Value.int .i64 (x.inside)), (Value.int .i64 (x.start)), (Value.int .i64 (x.fin))] 88)).alloc (.cells #[(Value.int .i64 (a)), (Value.int .i64 (s))] 101)) (w.heap.size + 1 + 1) 101 #[(Value.int .i64 (a)), (Value.int .i64 (s))] := blk_new_at (by simp)
  have hR : rgtB v x a s = true ↔ ∃ p o : Int, 0 ≤ p ∧ p ≤ v.slip ∧ -(2 * v.read) ≤ o ∧ o ≤ 2 * v.read ∧ v.full ∣ x.fin - x.start - (x.sense * (a - x.inside * v.circle - p) + x.side * s + o) := by
    rw [rgt_iff hv hx.sense]
    have e : ∀ p o : Int, wkLf v x a s + x.sense * p - o = x.fin - x.start - (x.sense * (a - x.inside * v.circle - p) + x.side * s + o) := fun p o => by
      unfold wkLf
      rcases hx.sense with h | h <;> rw [h] <;> omega
    simp only [e]
  replace hR := Lib.hid hR
  (have la := c0.lt); (have ya0 := c0.cell 0); (have ya1 := c0.cell 1); (have ya2 := c0.cell 2); (have ya3 := c0.cell 3); (have ya4 := c0.cell 4); (have ya5 := c0.cell 5); (have ya6 := c0.cell 6); (have ya7 := c0.cell 7); simp only [List.getElem?_toArray, List.getElem?_cons_zero, List.getElem?_cons_succ] at ya0 ya1 ya2 ya3 ya4 ya5 ya6 ya7
  (have lb := c1.lt); (have yb0 := c1.cell 0); (have yb1 := c1.cell 1); (have yb2 := c1.cell 2); (have yb3 := c1.cell 3); (have yb4 := c1.cell 4); simp only [List.getElem?_toArray, List.getElem?_cons_zero, List.getElem?_cons_succ] at yb0 yb1 yb2 yb3 yb4
  (have lc := c2.lt); (have yc0 := c2.cell 0); (have yc1 := c2.cell 1); simp only [List.getElem?_toArray, List.getElem?_cons_zero, List.getElem?_cons_succ] at yc0 yc1
  have hbw : Below w.heap.size w (((w.alloc (.cells #[(Value.int .i64 (v.full)), (Value.int .i64 (v.read)), (Value.int .i64 (v.slip)), (Value.int .i64 (v.skew)), (Value.int .i64 (v.circle)), (Value.int .i64 (v.glo)), (Value.int .i64 (v.ghi)), (Value.int .i64 (v.wrong))] 27)).alloc (.cells #[(Value.int .i64 (x.sense)), (Value.int .i64 (x.side)), (Value.int .i64 (x.inside)), (Value.int .i64 (x.start)), (Value.int .i64 (x.fin))] 88)).alloc (.cells #[(Value.int .i64 (a)), (Value.int .i64 (s))] 101)) := by (repeat (first | with_reducible exact Below.refl _ _ | with_reducible apply bl_alloc | with_reducible apply bl_drew | with_reducible apply bl_after | (with_reducible refine bl_call ?_ (by assumption))))
  obtain ⟨f0, f1, r0, r1, s0, s1, k0, k1, d0, d1, g0, g1, g2, w0, w1⟩ := hv
  obtain ⟨x1, x2, x3, x4, x5, x6, x7, x8⟩ := hx
  have m1 := mul_bd (x := x.inside) (y := v.circle) (A := 1) (B := 9999) (by omega) (by omega) (by omega) (by omega)
  have m3 := mul_bd (x := x.side) (y := s) (A := 1) (B := 20) (by omega) (by omega) (by omega) (by omega)
  have z1 := wrap64_in (x := x.fin - x.start) (by omega) (by omega)
  have z2 := wrap64_in (x := x.inside * v.circle) (by omega) (by omega)
  have z3 := wrap64_in (x := a - x.inside * v.circle) (by omega) (by omega)
  have z6 := wrap64_in (x := x.side * s) (by omega) (by omega)
  have z8 := wrap64_in (x := -2 * v.read) (by omega) (by omega)
  have z9 := wrap64_in (x := 2 * v.read) (by omega) (by omega)
  have hf : (v.full == 0) = false := by simp; omega
  clear c0 c1 c2
  go_enter Tryz.func53, Tryz.ntmps53
  go_wp2
  go_loop [7] (fun pp => ∃ p : Int, 0 ≤ p ∧ p ≤ v.slip + 1 ∧ pp = (Value.int .i64 (p)) ∧ Hid (∀ q o : Int, 0 ≤ q → q < p → -(2 * v.read) ≤ o → o ≤ 2 * v.read → ¬ v.full ∣ x.fin - x.start - (x.sense * (a - x.inside * v.circle - q) + x.side * s + o))) (fun pp => (v.slip + 1 - intOf pp).toNat)
  case atStart => exact ⟨0, by omega, by omega, rfl, Lib.hid fun q o h1 h2 => by omega⟩
  case round =>
    obtain ⟨p, p0, p1, rfl, HP⟩ := hrel
    by_cases hlt : p ≤ v.slip
    · go_wp2
      go_loop [8] (fun oo => ∃ o : Int, -2 * v.read ≤ o ∧ o ≤ 2 * v.read + 1 ∧ oo = (Value.int .i64 (o)) ∧ Hid (∀ o' : Int, -(2 * v.read) ≤ o' → o' < o → ¬ v.full ∣ x.fin - x.start - (x.sense * (a - x.inside * v.circle - p) + x.side * s + o'))) (fun oo => (2 * v.read + 1 - intOf oo).toNat)
      case atStart => exact ⟨-2 * v.read, by omega, by omega, rfl, Lib.hid fun o h1 h2 => by omega⟩
      case round =>
        obtain ⟨o, o0, o1, rfl, HO⟩ := hrel
        by_cases hlo : o ≤ 2 * v.read
        · have m2 := mul_bd (x := x.sense) (y := a - x.inside * v.circle - p) (A := 1) (B := 20100) (by omega) (by omega) (by omega) (by omega)
          have y1 := wrap64_in (x := a - x.inside * v.circle - p) (by omega) (by omega)
          have y2 := wrap64_in (x := x.sense * (a - x.inside * v.circle - p)) (by omega) (by omega)
          have y3 := wrap64_in (x := x.sense * (a - x.inside * v.circle - p) + x.side * s) (by omega) (by omega)
          have y4 := wrap64_in (x := (x.sense * (a - x.inside * v.circle - p) + x.side * s + o)) (by omega) (by omega)
          have y5 := wrap64_in (x := x.fin - x.start - (x.sense * (a - x.inside * v.circle - p) + x.side * s + o)) (by omega) (by omega)
          have t1 := Int.tmod_lt_of_pos (x.fin - x.start - (x.sense * (a - x.inside * v.circle - p) + x.side * s + o)) (show 0 < v.full by omega)
          have t2 := Int.lt_tmod_of_pos (x.fin - x.start - (x.sense * (a - x.inside * v.circle - p) + x.side * s + o)) (show 0 < v.full by omega)
          have y6 := wrap64_in (x := (x.fin - x.start - (x.sense * (a - x.inside * v.circle - p) + x.side * s + o)).tmod v.full) (by omega) (by omega)
          by_cases hd : v.full ∣ x.fin - x.start - (x.sense * (a - x.inside * v.circle - p) + x.side * s + o)
          · have hq : ((x.fin - x.start - (x.sense * (a - x.inside * v.circle - p) + x.side * s + o)).tmod v.full == 0) = true := by rw [beq_iff_eq]; exact tmod_dvd.2 hd
            have HE := Lib.hid (hR.out.2 ⟨p, o, p0, hlt, by omega, hlo, hd⟩)
            clear hd t1 t2 m2
            go_wp2
            go_ret
            exact ⟨ret_bool HE.out.symm, hbw⟩
          · have hq : ((x.fin - x.start - (x.sense * (a - x.inside * v.circle - p) + x.side * s + o)).tmod v.full == 0) = false := by rw [beq_eq_false_iff_ne]; exact fun h => hd (tmod_dvd.1 h)
            have HN := Lib.hid (show ∀ o' : Int, -(2 * v.read) ≤ o' → o' < o + 1 → ¬ v.full ∣ x.fin - x.start - (x.sense * (a - x.inside * v.circle - p) + x.side * s + o') from fun o' h1 h2 => by
              by_cases e : o' = o
              · rw [e]; exact hd
              · exact HO.out o' h1 (by omega))
            clear hd t1 t2 m2
            go_wp2
            go_round
            case rel => exact ⟨o + 1, by omega, by omega, rfl, HN⟩
            case measure => simp [intOf]; omega
        · obtain rfl : o = 2 * v.read + 1 := by omega
          have HN := Lib.hid (show ∀ q o : Int, 0 ≤ q → q < p + 1 → -(2 * v.read) ≤ o → o ≤ 2 * v.read → ¬ v.full ∣ x.fin - x.start - (x.sense * (a - x.inside * v.circle - q) + x.side * s + o) from fun q o h1 h2 h3 h4 => by
            by_cases e : q = p
            · rw [e]; exact HO.out o h3 (by omega)
            · exact HP.out q o h1 (by omega) h3 h4)
          go_wp2
          go_round
          case rel => exact ⟨p + 1, by omega, by omega, rfl, HN⟩
          case measure => simp [intOf]; omega
    · have HE := Lib.hid (show rgtB v x a s = false by
        rw [← Bool.not_eq_true]
        intro h
        obtain ⟨q, o, h1, h2, h3, h4, h5⟩ := hR.out.1 h
        exact HP.out q o h1 (by omega) h3 h4 h5)
      go_wp2
      go_ret
      exact ⟨ret_bool HE.out.symm, hbw⟩
end Go.Proofs.YthijegacjboclaaGreat
/- The reference's functions abs, AreaOf, IsField, IsStory, WrongCorners, WrongWalks and Faults of disputes. -/
namespace Go.Proofs.YthijegacjboclaaGreat
open Go.RowKit Go.Shelf
attribute [local go_sem] After.cell After.frozen
attribute [local go_sem high] run_eql_pt run_neq_pt

theorem rAbs8_any (n : Int) (hn : -4000000000000000000 ≤ n ∧ n ≤ 4000000000000000000) (w : World) :
    Calls Tryz.prog 48 #[(Value.int .i64 (n))] w fun e w' => e = .returned (Value.int .i64 (max n (-n))) ∧ w = w' := by
  have z := wrap64_in (x := -n) (by omega) (by omega)
  go_enter Tryz.func48, Tryz.ntmps48
  go_wp2
  go_ret
  exact ⟨rfl, rfl⟩
/-- Whether a corner is near. -/
def nearB (D : Dsp) (l : List Pt) (i : Nat) : Bool := decide (max ((pat l i).1 - (pat D.cs i).1) (-((pat l i).1 - (pat D.cs i).1)) ≤ iat D.offs i) && decide (max ((pat l i).2 - (pat D.cs i).2) (-((pat l i).2 - (pat D.cs i).2)) ≤ iat D.offs i)
theorem nearB_iff {D : Dsp} {l : List Pt} {i : Nat} : nearB D l i = true ↔ near D l i := by
  unfold nearB near
  simp only [Bool.and_eq_true, decide_eq_true_eq]
  have e : oat D i = iat D.offs i := rfl
  rw [e]
  omega
/-- Whether corners are a field whose area is one of Guess. -/
def isFB (D : Dsp) (l : List Pt) : Bool := decide (l.length = D.cs.length) && decide (Ok l) && ((List.range D.cs.length).all (nearB D l)) && within (arD D l) D.wh.glo D.wh.ghi
theorem isFB_iff {D : Dsp} {l : List Pt} : isFB D l = true ↔ fldP D l ∧ gesP D (arD D l) := by
  unfold isFB fldP gesP within
  simp only [Bool.and_eq_true, decide_eq_true_eq, List.all_eq_true, List.mem_range, nearB_iff]
  exact ⟨fun h => ⟨⟨h.1.1.1, h.1.2, h.1.1.2⟩, h.2⟩, fun h => ⟨⟨⟨h.1.1, h.1.2.2⟩, h.1.2.1⟩, h.2⟩⟩
section
variable (A B C : Option Addr) (ca cb cc : Nat) (D : Dsp) (w : World) (P : Option Addr) (pa : Nat) (l : List Pt)
set_option maxRecDepth 100000 in
set_option maxHeartbeats 2000000 in
theorem rAreaOf8 (hD : DspOk D) (hp : Pts w P l) (hok : Ok l) :
    Calls Tryz.prog 21 #[(Value.agg #[.slice A D.cs.length ca, .slice B D.offs.length cb, (Value.int .i64 (D.unit)), (Value.int .i64 (D.wh.full)), (Value.int .i64 (D.wh.read)), (Value.int .i64 (D.wh.slip)), (Value.int .i64 (D.wh.skew)), (Value.int .i64 (D.wh.circle)), (Value.int .i64 (D.wh.glo)), (Value.int .i64 (D.wh.ghi)), (Value.int .i64 (D.wh.wrong)), .slice C D.wks.length cc]), .slice P l.length pa] w fun e w' => e = .returned (Value.int .i64 (arD D l)) ∧ Below w.heap.size w w' := by
  have e0 : Blk (w.alloc (.cells #[.slice A D.cs.length ca, .slice B D.offs.length cb, (Value.int .i64 (D.unit)), (Value.int .i64 (D.wh.full)), (Value.int .i64 (D.wh.read)), (Value.int .i64 (D.wh.slip)), (Value.int .i64 (D.wh.skew)), (Value.int .i64 (D.wh.circle)), (Value.int .i64 (D.wh.glo)), (Value.int .i64 (D.wh.ghi)), (Value.int .i64 (D.wh.wrong)), .slice C D.wks.length cc] 30)) w.heap.size 30 #[.slice A D.cs.length ca, .slice B D.offs.length cb, (Value.int .i64 (D.unit)), (Value.int .i64 (D.wh.full)), (Value.int .i64 (D.wh.read)), (Value.int .i64 (D.wh.slip)), (Value.int .i64 (D.wh.skew)), (Value.int .i64 (D.wh.circle)), (Value.int .i64 (D.wh.glo)), (Value.int .i64 (D.wh.ghi)), (Value.int .i64 (D.wh.wrong)), .slice C D.wks.length cc] := Blk.new _ _ _
  have hl := hok.1
  obtain ⟨b, o, rfl, pp⟩ := hp.at_ (k := 0) (by omega)
  have ht := Lib.hid fun (W : World) (h : Below ((w.alloc (.cells #[.slice A D.cs.length ca, .slice B D.offs.length cb, (Value.int .i64 (D.unit)), (Value.int .i64 (D.wh.full)), (Value.int .i64 (D.wh.read)), (Value.int .i64 (D.wh.slip)), (Value.int .i64 (D.wh.skew)), (Value.int .i64 (D.wh.circle)), (Value.int .i64 (D.wh.glo)), (Value.int .i64 (D.wh.ghi)), (Value.int .i64 (D.wh.wrong)), .slice C D.wks.length cc] 30))).heap.size (w.alloc (.cells #[.slice A D.cs.length ca, .slice B D.offs.length cb, (Value.int .i64 (D.unit)), (Value.int .i64 (D.wh.full)), (Value.int .i64 (D.wh.read)), (Value.int .i64 (D.wh.slip)), (Value.int .i64 (D.wh.skew)), (Value.int .i64 (D.wh.circle)), (Value.int .i64 (D.wh.glo)), (Value.int .i64 (D.wh.ghi)), (Value.int .i64 (D.wh.wrong)), .slice C D.wks.length cc] 30)) W) => TwiceOf_any b o pa l W ((pp.below (show Below w.heap.size w (w.alloc (.cells #[.slice A D.cs.length ca, .slice B D.offs.length cb, (Value.int .i64 (D.unit)), (Value.int .i64 (D.wh.full)), (Value.int .i64 (D.wh.read)), (Value.int .i64 (D.wh.slip)), (Value.int .i64 (D.wh.skew)), (Value.int .i64 (D.wh.circle)), (Value.int .i64 (D.wh.glo)), (Value.int .i64 (D.wh.ghi)), (Value.int .i64 (D.wh.wrong)), .slice C D.wks.length cc] 30)) by (repeat (first | with_reducible exact Below.refl _ _ | with_reducible apply bl_alloc | with_reducible apply bl_drew | with_reducible apply bl_after | (with_reducible refine bl_call ?_ (by assumption)))))).below h) hl.1 hl.2 hok.2.1
  have hb := twd_bd hok
  have ha := arD_bd hD hok
  have hu := hD.u0
  have hab := Lib.hid (rAbs8_any (tw l) (by omega))
  have hq : (D.unit == 0) = false := by simp; omega
  have hq2 : ¬ D.unit = 0 := by omega
  have hq3 : (0 : Int) < D.unit := by omega
  have hA := Lib.hid (show arD D l = (max (tw l) (-tw l)).tdiv D.unit from rfl)
  unfold arD at ha
  have z1 : IntKind.i64.wrap ((max (tw l) (-tw l)).tdiv D.unit) = (max (tw l) (-tw l)).tdiv D.unit := IntWalk.i64_in _ (by omega)
  have y1 := wrap64_in (x := (max (tw l) (-tw l)).tdiv D.unit) (by omega) (by omega)
  (have la := e0.lt); (have ya0 := e0.cell 0); (have ya1 := e0.cell 1); (have ya2 := e0.cell 2); (have ya3 := e0.cell 3); (have ya4 := e0.cell 4); (have ya5 := e0.cell 5); (have ya6 := e0.cell 6); (have ya7 := e0.cell 7); (have ya8 := e0.cell 8); (have ya9 := e0.cell 9); (have ya10 := e0.cell 10); (have ya11 := e0.cell 11); simp only [List.getElem?_toArray, List.getElem?_cons_zero, List.getElem?_cons_succ] at ya0 ya1 ya2 ya3 ya4 ya5 ya6 ya7 ya8 ya9 ya10 ya11
  clear hp pp hok hl hD hb ha hu
  go_enter Tryz.func21, Tryz.ntmps21
  go_upto_region 1 with fail
  refine wp_region_after (by kernel_rfl) (by kernel_rfl) ?_; (repeat (go_big_quiet_step (((first | (go_at_call 49; with_reducible exact calls_after (ht.out _ (After.ok _))) | (go_at_call 48; with_reducible exact calls_after_same (hab.out _))))))); refine wpQuiet_nil ?_; rintro _ ⟨z, rfl⟩; (first | ((with_reducible apply kp_in_after (z := z)); (with_reducible assumption); rintro ⟨hk, hc, hf, hzc, hzf⟩) | ((with_reducible refine kp_in_after0 z ?_); rintro ⟨hk, hc, hf, hzc, hzf⟩))
  go_wp2
  go_ret
  exact ⟨ret_int hA.out.symm, by (repeat (first | with_reducible exact Below.refl _ _ | with_reducible apply bl_alloc | with_reducible apply bl_drew | with_reducible apply bl_after | (with_reducible refine bl_call ?_ (by assumption))))⟩
variable (ha : Pts w A D.cs) (hb : Ints w B D.offs) (hc : Wks w C D.wks)
include ha hb
set_option maxRecDepth 100000 in
set_option maxHeartbeats 4000000 in
theorem rIsField8 (hD : DspOk D) (hp : Pts w P l) (hl : l.length ≤ 1000000) :
    Calls Tryz.prog 30 #[(Value.agg #[.slice A D.cs.length ca, .slice B D.offs.length cb, (Value.int .i64 (D.unit)), (Value.int .i64 (D.wh.full)), (Value.int .i64 (D.wh.read)), (Value.int .i64 (D.wh.slip)), (Value.int .i64 (D.wh.skew)), (Value.int .i64 (D.wh.circle)), (Value.int .i64 (D.wh.glo)), (Value.int .i64 (D.wh.ghi)), (Value.int .i64 (D.wh.wrong)), .slice C D.wks.length cc]), .slice P l.length pa] w fun e w' => e = .returned (.bool (isFB D l)) ∧ Below w.heap.size w w' := by
  have e0 : Blk (w.alloc (.cells #[.slice A D.cs.length ca, .slice B D.offs.length cb, (Value.int .i64 (D.unit)), (Value.int .i64 (D.wh.full)), (Value.int .i64 (D.wh.read)), (Value.int .i64 (D.wh.slip)), (Value.int .i64 (D.wh.skew)), (Value.int .i64 (D.wh.circle)), (Value.int .i64 (D.wh.glo)), (Value.int .i64 (D.wh.ghi)), (Value.int .i64 (D.wh.wrong)), .slice C D.wks.length cc] 30)) w.heap.size 30 #[.slice A D.cs.length ca, .slice B D.offs.length cb, (Value.int .i64 (D.unit)), (Value.int .i64 (D.wh.full)), (Value.int .i64 (D.wh.read)), (Value.int .i64 (D.wh.slip)), (Value.int .i64 (D.wh.skew)), (Value.int .i64 (D.wh.circle)), (Value.int .i64 (D.wh.glo)), (Value.int .i64 (D.wh.ghi)), (Value.int .i64 (D.wh.wrong)), .slice C D.wks.length cc] := Blk.new _ _ _
  have hb0 : Below w.heap.size w (w.alloc (.cells #[.slice A D.cs.length ca, .slice B D.offs.length cb, (Value.int .i64 (D.unit)), (Value.int .i64 (D.wh.full)), (Value.int .i64 (D.wh.read)), (Value.int .i64 (D.wh.slip)), (Value.int .i64 (D.wh.skew)), (Value.int .i64 (D.wh.circle)), (Value.int .i64 (D.wh.glo)), (Value.int .i64 (D.wh.ghi)), (Value.int .i64 (D.wh.wrong)), .slice C D.wks.length cc] 30)) := by (repeat (first | with_reducible exact Below.refl _ _ | with_reducible apply bl_alloc | with_reducible apply bl_drew | with_reducible apply bl_after | (with_reducible refine bl_call ?_ (by assumption))))
  by_cases hlen : l.length = D.cs.length
  · have hne : ((l.length : Int) != (D.cs.length : Int)) = false := by simp [hlen]
    have hC := fun (W : World) (h : Below w.heap.size w W) => rCheck_any P pa l W (hp.below h) hl
    by_cases hok : Ok l
    · rw [chk_ok hok] at hC
      replace hC := Lib.hid hC
      have hAr := Lib.hid fun (W : World) (h : Below w.heap.size w W) => rAreaOf8 A B C ca cb cc D W P pa l hD (hp.below h) hok
      have HL := Lib.hid (And.intro hlen (And.intro ha (And.intro hb hp)))
      have HD := Lib.hid hD
      have HO := Lib.hid hok
      have e0' := Lib.hid e0
      (have la := e0.lt); (have ya0 := e0.cell 0); (have ya1 := e0.cell 1); (have ya2 := e0.cell 2); (have ya3 := e0.cell 3); (have ya4 := e0.cell 4); (have ya5 := e0.cell 5); (have ya6 := e0.cell 6); (have ya7 := e0.cell 7); (have ya8 := e0.cell 8); (have ya9 := e0.cell 9); (have ya10 := e0.cell 10); (have ya11 := e0.cell 11); simp only [List.getElem?_toArray, List.getElem?_cons_zero, List.getElem?_cons_succ] at ya0 ya1 ya2 ya3 ya4 ya5 ya6 ya7 ya8 ya9 ya10 ya11
      clear ha hb hp hlen hok hD
      go_enter Tryz.func30, Tryz.ntmps30
      go_upto_region 3 with ((go_at_call 58); (with_reducible refine Calls.mono (hC.out _ (by (repeat (first | with_reducible exact Below.refl _ _ | with_reducible apply bl_alloc | with_reducible apply bl_drew | with_reducible apply bl_after | (with_reducible refine bl_call ?_ (by assumption)))))) ?_); rintro e wn ⟨rfl, hbn⟩; first | ((with_reducible apply kp_in_step (hb := hbn)); (with_reducible assumption); rintro ⟨hk, hc, hf, hzc, hzf⟩) | ((with_reducible refine kp_in_first hbn ?_); rintro ⟨hk, hc, hf, hzc, hzf⟩))
      have hB1 : Below ((w.alloc (.cells #[.slice A D.cs.length ca, .slice B D.offs.length cb, (Value.int .i64 (D.unit)), (Value.int .i64 (D.wh.full)), (Value.int .i64 (D.wh.read)), (Value.int .i64 (D.wh.slip)), (Value.int .i64 (D.wh.skew)), (Value.int .i64 (D.wh.circle)), (Value.int .i64 (D.wh.glo)), (Value.int .i64 (D.wh.ghi)), (Value.int .i64 (D.wh.wrong)), .slice C D.wks.length cc] 30))).heap.size (w.alloc (.cells #[.slice A D.cs.length ca, .slice B D.offs.length cb, (Value.int .i64 (D.unit)), (Value.int .i64 (D.wh.full)), (Value.int .i64 (D.wh.read)), (Value.int .i64 (D.wh.slip)), (Value.int .i64 (D.wh.skew)), (Value.int .i64 (D.wh.circle)), (Value.int .i64 (D.wh.glo)), (Value.int .i64 (D.wh.ghi)), (Value.int .i64 (D.wh.wrong)), .slice C D.wks.length cc] 30)) wn := by (repeat (first | with_reducible exact Below.refl _ _ | with_reducible apply bl_alloc | with_reducible apply bl_drew | with_reducible apply bl_after | (with_reducible refine bl_call ?_ (by assumption))))
      have hbx : Below w.heap.size w wn := bl_call hb0 hB1
      have HB := e0'.out.below hB1
      clear la ya0 ya1 ya2 ya3 ya4 ya5 ya6 ya7 ya8 ya9 ya10 ya11 e0 e0' hB1 hbn hb0
      ((try clear hk hc hf hzc hzf); (try clear hk hc hf hzc hzf); (try clear hk hc hf hzc hzf); (try clear hk hc hf hzc hzf))
      go_wp2
      go_loopg [5] l.length (fun g i wr => ∃ k : Nat, k ≤ l.length ∧ g = l.length - k ∧ i = (Value.int .i64 ((k : Int))) ∧ (∀ j, j < k → nearB D l j = true) ∧ Blk wr w.heap.size 30 #[.slice A D.cs.length ca, .slice B D.offs.length cb, (Value.int .i64 (D.unit)), (Value.int .i64 (D.wh.full)), (Value.int .i64 (D.wh.read)), (Value.int .i64 (D.wh.slip)), (Value.int .i64 (D.wh.skew)), (Value.int .i64 (D.wh.circle)), (Value.int .i64 (D.wh.glo)), (Value.int .i64 (D.wh.ghi)), (Value.int .i64 (D.wh.wrong)), .slice C D.wks.length cc] ∧ Below w.heap.size w wr)
      case atStart => exact ⟨0, Nat.zero_le _, rfl, rfl, (fun j hj => by omega), HB, hbx⟩
      case round =>
        clear HB
        obtain ⟨k, kn, rfl, rfl, HP, HB, hbw⟩ := hrel
        replace HP := Lib.hid HP
        have HB' := Lib.hid HB
        (have la := HB.lt); (have ya0 := HB.cell 0); (have ya1 := HB.cell 1); (have ya2 := HB.cell 2); (have ya3 := HB.cell 3); (have ya4 := HB.cell 4); (have ya5 := HB.cell 5); (have ya6 := HB.cell 6); (have ya7 := HB.cell 7); (have ya8 := HB.cell 8); (have ya9 := HB.cell 9); (have ya10 := HB.cell 10); (have ya11 := HB.cell 11); simp only [List.getElem?_toArray, List.getElem?_cons_zero, List.getElem?_cons_succ] at ya0 ya1 ya2 ya3 ya4 ya5 ya6 ya7 ya8 ya9 ya10 ya11
        by_cases hlt : k < l.length
        · have hk2 : k < D.cs.length := by have := HL.out.1; omega
          have hk3 : k < D.offs.length := by have := HD.out.lo; omega
          obtain ⟨b1, o1, rfl, p1⟩ := (HL.out.2.1.below hbw).at_ hk2
          obtain ⟨b2, o2, rfl, p2⟩ := (HL.out.2.2.1.below hbw).at_ hk3
          obtain ⟨b3, o3, rfl, p3⟩ := (HL.out.2.2.2.below hbw).at_ hlt
          have x1 := p1.xp hk2
          have x2 := p1.yp hk2
          have x3 := p2.xi hk3
          have x4 := p3.xp hlt
          have x5 := p3.yp hlt
          have lb1 := p1.lt
          have lb2 := p2.lt
          have lb3 := p3.lt
          have i1 : (k : Int) < (l.length : Int) := by omega
          have i2 : (k : Int) < (D.cs.length : Int) := by omega
          have i3 : (k : Int) < (D.offs.length : Int) := by omega
          have i0 : (0 : Int) ≤ (k : Int) := by omega
          have q1 := isPt_bd (HD.out.ok.2.1 k hk2)
          have q2 := isPt_bd (HO.out.2.1 k hlt)
          have q3 := HD.out.off k hk3
          have hnb : nearB D l k = (decide (max ((pat l k).1 - (pat D.cs k).1) (-((pat l k).1 - (pat D.cs k).1)) ≤ iat D.offs k) && decide (max ((pat l k).2 - (pat D.cs k).2) (-((pat l k).2 - (pat D.cs k).2)) ≤ iat D.offs k)) := rfl
          have z1 : IntKind.i64.wrap ((pat l k).1 - (pat D.cs k).1) = (pat l k).1 - (pat D.cs k).1 := IntWalk.i64_in _ (by omega)
          have z2 : IntKind.i64.wrap ((pat l k).2 - (pat D.cs k).2) = (pat l k).2 - (pat D.cs k).2 := IntWalk.i64_in _ (by omega)
          have y1 := wrap64_in (x := (pat l k).1 - (pat D.cs k).1) (by omega) (by omega)
          have y2 := wrap64_in (x := (pat l k).2 - (pat D.cs k).2) (by omega) (by omega)
          have hab := Lib.hid (rAbs8_any ((pat l k).1 - (pat D.cs k).1) (by omega))
          have hac := Lib.hid (rAbs8_any ((pat l k).2 - (pat D.cs k).2) (by omega))
          clear p1 p2 p3 HB q1 q2 q3
          by_cases hx : max ((pat l k).1 - (pat D.cs k).1) (-((pat l k).1 - (pat D.cs k).1)) ≤ iat D.offs k
          · have hx1 : decide (iat D.offs k < max ((pat l k).1 - (pat D.cs k).1) (-((pat l k).1 - (pat D.cs k).1))) = false := decide_eq_false (by omega)
            by_cases hy : max ((pat l k).2 - (pat D.cs k).2) (-((pat l k).2 - (pat D.cs k).2)) ≤ iat D.offs k
            · have hy1 : decide (iat D.offs k < max ((pat l k).2 - (pat D.cs k).2) (-((pat l k).2 - (pat D.cs k).2))) = false := decide_eq_false (by omega)
              have HN := Lib.hid (show nearB D l k = true by rw [hnb, decide_eq_true hx, decide_eq_true hy]; rfl)
              clear hnb hx hy
              go_upto_region 6 with fail
              refine wp_region_after (by kernel_rfl) (by kernel_rfl) ?_; (repeat (go_big_quiet_step (((first | (go_at_call 48; with_reducible exact calls_after_same (hab.out _)) | (go_at_call 48; with_reducible exact calls_after_same (hac.out _))))))); refine wpQuiet_nil ?_; rintro _ ⟨z, rfl⟩; (first | ((with_reducible apply kp_in_after (z := z)); (with_reducible assumption); rintro ⟨hk, hc, hf, hzc, hzf⟩) | ((with_reducible refine kp_in_after0 z ?_); rintro ⟨hk, hc, hf, hzc, hzf⟩))
              go_wp2
              go_roundg (l.length - (k + 1))
              case measure => omega
              case rel => exact ⟨k + 1, by omega, rfl, by go_num, lt_succ8 (P := fun j => nearB D l j = true) HP.out HN.out, HB'.out.below z.ok, by (repeat (first | with_reducible exact Below.refl _ _ | with_reducible apply bl_alloc | with_reducible apply bl_drew | with_reducible apply bl_after | (with_reducible refine bl_call ?_ (by assumption))))⟩
            · have hy1 : decide (iat D.offs k < max ((pat l k).2 - (pat D.cs k).2) (-((pat l k).2 - (pat D.cs k).2))) = true := decide_eq_true (by omega)
              have HN := Lib.hid (show isFB D l = false by
                have h0 : nearB D l k = false := by rw [hnb, decide_eq_false hy, Bool.and_false]
                have h1 : ((List.range D.cs.length).all (nearB D l)) = false := List.all_eq_false.2 ⟨k, List.mem_range.2 hk2, by simp [h0]⟩
                rw [isFB, h1, Bool.and_false, Bool.false_and])
              clear hnb hx hy
              go_upto_region 6 with fail
              refine wp_region_after (by kernel_rfl) (by kernel_rfl) ?_; (repeat (go_big_quiet_step (((first | (go_at_call 48; with_reducible exact calls_after_same (hab.out _)) | (go_at_call 48; with_reducible exact calls_after_same (hac.out _))))))); refine wpQuiet_nil ?_; rintro _ ⟨z, rfl⟩; (first | ((with_reducible apply kp_in_after (z := z)); (with_reducible assumption); rintro ⟨hk, hc, hf, hzc, hzf⟩) | ((with_reducible refine kp_in_after0 z ?_); rintro ⟨hk, hc, hf, hzc, hzf⟩))
              go_wp2
              go_ret
              exact ⟨ret_bool HN.out.symm, by (repeat (first | with_reducible exact Below.refl _ _ | with_reducible apply bl_alloc | with_reducible apply bl_drew | with_reducible apply bl_after | (with_reducible refine bl_call ?_ (by assumption))))⟩
          · have hx1 : decide (iat D.offs k < max ((pat l k).1 - (pat D.cs k).1) (-((pat l k).1 - (pat D.cs k).1))) = true := decide_eq_true (by omega)
            have HN := Lib.hid (show isFB D l = false by
              have h0 : nearB D l k = false := by rw [hnb, decide_eq_false hx, Bool.false_and]
              have h1 : ((List.range D.cs.length).all (nearB D l)) = false := List.all_eq_false.2 ⟨k, List.mem_range.2 hk2, by simp [h0]⟩
              rw [isFB, h1, Bool.and_false, Bool.false_and])
            clear hnb hx
            go_upto_region 6 with fail
            refine wp_region_after (by kernel_rfl) (by kernel_rfl) ?_; (repeat (go_big_quiet_step (((first | (go_at_call 48; with_reducible exact calls_after_same (hab.out _)) | (go_at_call 48; with_reducible exact calls_after_same (hac.out _))))))); refine wpQuiet_nil ?_; rintro _ ⟨z, rfl⟩; (first | ((with_reducible apply kp_in_after (z := z)); (with_reducible assumption); rintro ⟨hk, hc, hf, hzc, hzf⟩) | ((with_reducible refine kp_in_after0 z ?_); rintro ⟨hk, hc, hf, hzc, hzf⟩))
            go_wp2
            go_ret
            exact ⟨ret_bool HN.out.symm, by (repeat (first | with_reducible exact Below.refl _ _ | with_reducible apply bl_alloc | with_reducible apply bl_drew | with_reducible apply bl_after | (with_reducible refine bl_call ?_ (by assumption))))⟩
        · obtain rfl : k = l.length := by omega
          have HN := Lib.hid (show isFB D l = within (arD D l) D.wh.glo D.wh.ghi by
            have h1 : ((List.range D.cs.length).all (nearB D l)) = true := List.all_eq_true.2 fun i hi => HP.out i (by have := HL.out.1; have := List.mem_range.1 hi; omega)
            rw [isFB, h1, decide_eq_true HL.out.1, decide_eq_true HO.out]; rfl)
          have hA2 := Lib.hid fun (W : World) (h : Below wr.heap.size wr W) => hAr.out W (bl_call hbw h)
          clear HB
          go_upto_region 8 with fail
          refine wp_region_after (by kernel_rfl) (by kernel_rfl) ?_; (repeat (go_big_quiet_step (((first | (go_at_call 21; with_reducible exact calls_after (hA2.out _ (After.ok _))) | (go_at_call 44; with_reducible exact calls_after_same (r8Within_any _ _ _ _))))))); refine wpQuiet_nil ?_; rintro _ ⟨z, rfl⟩; (first | ((with_reducible apply kp_in_after (z := z)); (with_reducible assumption); rintro ⟨hk, hc, hf, hzc, hzf⟩) | ((with_reducible refine kp_in_after0 z ?_); rintro ⟨hk, hc, hf, hzc, hzf⟩))
          go_wp2
          go_ret
          exact ⟨ret_bool HN.out.symm, by (repeat (first | with_reducible exact Below.refl _ _ | with_reducible apply bl_alloc | with_reducible apply bl_drew | with_reducible apply bl_after | (with_reducible refine bl_call ?_ (by assumption))))⟩
    · have hk := chk_no hok
      have HN := Lib.hid (show isFB D l = false by rw [isFB, decide_eq_false hok, Bool.and_false, Bool.false_and, Bool.false_and])
      rw [hk] at hC
      replace hC := Lib.hid hC
      (have la := e0.lt); (have ya0 := e0.cell 0); (have ya1 := e0.cell 1); (have ya2 := e0.cell 2); (have ya3 := e0.cell 3); (have ya4 := e0.cell 4); (have ya5 := e0.cell 5); (have ya6 := e0.cell 6); (have ya7 := e0.cell 7); (have ya8 := e0.cell 8); (have ya9 := e0.cell 9); (have ya10 := e0.cell 10); (have ya11 := e0.cell 11); simp only [List.getElem?_toArray, List.getElem?_cons_zero, List.getElem?_cons_succ] at ya0 ya1 ya2 ya3 ya4 ya5 ya6 ya7 ya8 ya9 ya10 ya11
      clear ha hb hp hlen hok hD hk
      go_enter Tryz.func30, Tryz.ntmps30
      go_wp2_with ((go_at_call 58); (with_reducible refine Calls.mono (hC.out _ (by (repeat (first | with_reducible exact Below.refl _ _ | with_reducible apply bl_alloc | with_reducible apply bl_drew | with_reducible apply bl_after | (with_reducible refine bl_call ?_ (by assumption)))))) ?_); rintro e wn ⟨rfl, hbn⟩; first | ((with_reducible apply kp_in_step (hb := hbn)); (with_reducible assumption); rintro ⟨hk, hc, hf, hzc, hzf⟩) | ((with_reducible refine kp_in_first hbn ?_); rintro ⟨hk, hc, hf, hzc, hzf⟩))
      go_ret
      exact ⟨ret_bool HN.out.symm, by (repeat (first | with_reducible exact Below.refl _ _ | with_reducible apply bl_alloc | with_reducible apply bl_drew | with_reducible apply bl_after | (with_reducible refine bl_call ?_ (by assumption))))⟩
  · have hne : ((l.length : Int) != (D.cs.length : Int)) = true := by rw [bne_iff_ne]; omega
    have HN := Lib.hid (show isFB D l = false by rw [isFB, decide_eq_false hlen, Bool.false_and, Bool.false_and, Bool.false_and])
    (have la := e0.lt); (have ya0 := e0.cell 0); (have ya1 := e0.cell 1); (have ya2 := e0.cell 2); (have ya3 := e0.cell 3); (have ya4 := e0.cell 4); (have ya5 := e0.cell 5); (have ya6 := e0.cell 6); (have ya7 := e0.cell 7); (have ya8 := e0.cell 8); (have ya9 := e0.cell 9); (have ya10 := e0.cell 10); (have ya11 := e0.cell 11); simp only [List.getElem?_toArray, List.getElem?_cons_zero, List.getElem?_cons_succ] at ya0 ya1 ya2 ya3 ya4 ya5 ya6 ya7 ya8 ya9 ya10 ya11
    clear ha hb hp hlen hD
    go_enter Tryz.func30, Tryz.ntmps30
    go_wp2
    go_ret
    exact ⟨ret_bool HN.out.symm, by (repeat (first | with_reducible exact Below.refl _ _ | with_reducible apply bl_alloc | with_reducible apply bl_drew | with_reducible apply bl_after | (with_reducible refine bl_call ?_ (by assumption))))⟩
end
end Go.Proofs.YthijegacjboclaaGreat
/- The reference's functions WrongCorners, WrongWalks, Faults and IsStory of disputes. -/
namespace Go.Proofs.YthijegacjboclaaGreat
open Go.RowKit Go.Shelf
attribute [local go_sem] After.cell After.frozen
attribute [local go_sem high] run_eql_pt run_neq_pt

/-- The first k numbers of which something is so. -/
def upTo8 (p : Nat → Bool) (k : Nat) : List Nat := (List.range k).filter p
theorem upTo8_succ (p : Nat → Bool) (k : Nat) : upTo8 p (k + 1) = if p k = true then upTo8 p k ++ [k] else upTo8 p k := by
  unfold upTo8
  rw [List.range_succ, List.filter_append]
  cases h : p k <;> simp [h]
theorem upTo8_len (p : Nat → Bool) (k : Nat) : (upTo8 p k).length ≤ k := by
  have := List.length_filter_le p (List.range k)
  simpa [upTo8] using this
theorem wcL_up (D : Dsp) (l : List Pt) : wcL D l = upTo8 (wcB D l) D.cs.length := rfl
theorem wwL_up (D : Dsp) (a s : Int) : wwL D a s = upTo8 (wwB D a s) D.wks.length := rfl
section
variable (A B C : Option Addr) (ca cb cc : Nat) (D : Dsp) (w : World) (P : Option Addr) (pa : Nat) (l : List Pt) (s : Int)
variable (ha : Pts w A D.cs) (hp : Pts w P l)
include ha hp
set_option maxRecDepth 100000 in
set_option maxHeartbeats 4000000 in
theorem rWrongCorners8 (hlen : l.length = D.cs.length) (h6 : l.length ≤ 1000) :
    Calls Tryz.prog 24 #[(Value.agg #[.slice A D.cs.length ca, .slice B D.offs.length cb, (Value.int .i64 (D.unit)), (Value.int .i64 (D.wh.full)), (Value.int .i64 (D.wh.read)), (Value.int .i64 (D.wh.slip)), (Value.int .i64 (D.wh.skew)), (Value.int .i64 (D.wh.circle)), (Value.int .i64 (D.wh.glo)), (Value.int .i64 (D.wh.ghi)), (Value.int .i64 (D.wh.wrong)), .slice C D.wks.length cc]), .agg #[.slice P l.length pa, (Value.int .i64 (s))]] w fun e w' => (∃ v, e = .returned v ∧ RowI w' w.heap.size v (natI (wcL D l))) ∧ Below w.heap.size w w' := by
  obtain ⟨i0, hi, hz0, hz1, hz2⟩ := info_parts infoInt
  have e0 : Blk ((w.alloc (.cells #[.slice A D.cs.length ca, .slice B D.offs.length cb, (Value.int .i64 (D.unit)), (Value.int .i64 (D.wh.full)), (Value.int .i64 (D.wh.read)), (Value.int .i64 (D.wh.slip)), (Value.int .i64 (D.wh.skew)), (Value.int .i64 (D.wh.circle)), (Value.int .i64 (D.wh.glo)), (Value.int .i64 (D.wh.ghi)), (Value.int .i64 (D.wh.wrong)), .slice C D.wks.length cc] 30)).alloc (.cells #[.slice P l.length pa, (Value.int .i64 (s))] 41)) w.heap.size 30 #[.slice A D.cs.length ca, .slice B D.offs.length cb, (Value.int .i64 (D.unit)), (Value.int .i64 (D.wh.full)), (Value.int .i64 (D.wh.read)), (Value.int .i64 (D.wh.slip)), (Value.int .i64 (D.wh.skew)), (Value.int .i64 (D.wh.circle)), (Value.int .i64 (D.wh.glo)), (Value.int .i64 (D.wh.ghi)), (Value.int .i64 (D.wh.wrong)), .slice C D.wks.length cc] := (Blk.new _ _ _).alloc _
  have e1 : Blk ((w.alloc (.cells #[.slice A D.cs.length ca, .slice B D.offs.length cb, (Value.int .i64 (D.unit)), (Value.int .i64 (D.wh.full)), (Value.int .i64 (D.wh.read)), (Value.int .i64 (D.wh.slip)), (Value.int .i64 (D.wh.skew)), (Value.int .i64 (D.wh.circle)), (Value.int .i64 (D.wh.glo)), (Value.int .i64 (D.wh.ghi)), (Value.int .i64 (D.wh.wrong)), .slice C D.wks.length cc] 30)).alloc (.cells #[.slice P l.length pa, (Value.int .i64 (s))] 41)) (w.heap.size + 1) 41 #[.slice P l.length pa, (Value.int .i64 (s))] := blk_new_at (by simp)
  have hbx : Below w.heap.size w ((w.alloc (.cells #[.slice A D.cs.length ca, .slice B D.offs.length cb, (Value.int .i64 (D.unit)), (Value.int .i64 (D.wh.full)), (Value.int .i64 (D.wh.read)), (Value.int .i64 (D.wh.slip)), (Value.int .i64 (D.wh.skew)), (Value.int .i64 (D.wh.circle)), (Value.int .i64 (D.wh.glo)), (Value.int .i64 (D.wh.ghi)), (Value.int .i64 (D.wh.wrong)), .slice C D.wks.length cc] 30)).alloc (.cells #[.slice P l.length pa, (Value.int .i64 (s))] 41)) := by (repeat (first | with_reducible exact Below.refl _ _ | with_reducible apply bl_alloc | with_reducible apply bl_drew | with_reducible apply bl_after | (with_reducible refine bl_call ?_ (by assumption))))
  have HM := Lib.hid (And.intro ha hp)
  have HL := Lib.hid hlen
  clear ha hp hlen
  go_enter Tryz.func24, Tryz.ntmps24
  go_wp2
  go_loopg [5, 6] l.length (fun g v i wr => ∃ k : Nat, k ≤ l.length ∧ g = l.length - k ∧ i = (Value.int .i64 ((k : Int))) ∧ RowI wr w.heap.size v (natI (upTo8 (wcB D l) k)) ∧ Blk wr w.heap.size 30 #[.slice A D.cs.length ca, .slice B D.offs.length cb, (Value.int .i64 (D.unit)), (Value.int .i64 (D.wh.full)), (Value.int .i64 (D.wh.read)), (Value.int .i64 (D.wh.slip)), (Value.int .i64 (D.wh.skew)), (Value.int .i64 (D.wh.circle)), (Value.int .i64 (D.wh.glo)), (Value.int .i64 (D.wh.ghi)), (Value.int .i64 (D.wh.wrong)), .slice C D.wks.length cc] ∧ Blk wr (w.heap.size + 1) 41 #[.slice P l.length pa, (Value.int .i64 (s))] ∧ Below w.heap.size w wr)
  case atStart => exact ⟨0, by omega, rfl, rfl, (rowI_nil _ _ : RowI _ w.heap.size _ []), e0, e1, hbx⟩
  case round =>
    clear e0 e1 hbx
    obtain ⟨k, kn, rfl, rfl, hO, e0, e1, hbw⟩ := hrel
    have HE := Lib.hid (And.intro e0 e1)
    (have la := e0.lt); (have ya0 := e0.cell 0); (have ya1 := e0.cell 1); (have ya2 := e0.cell 2); (have ya3 := e0.cell 3); (have ya4 := e0.cell 4); (have ya5 := e0.cell 5); (have ya6 := e0.cell 6); (have ya7 := e0.cell 7); (have ya8 := e0.cell 8); (have ya9 := e0.cell 9); (have ya10 := e0.cell 10); (have ya11 := e0.cell 11); simp only [List.getElem?_toArray, List.getElem?_cons_zero, List.getElem?_cons_succ] at ya0 ya1 ya2 ya3 ya4 ya5 ya6 ya7 ya8 ya9 ya10 ya11
    (have lb := e1.lt); (have yb0 := e1.cell 0); (have yb1 := e1.cell 1); simp only [List.getElem?_toArray, List.getElem?_cons_zero, List.getElem?_cons_succ] at yb0 yb1
    have hO := Lib.hid hO
    clear e0 e1
    by_cases hlt : k < l.length
    · have hk2 : k < D.cs.length := by have := HL.out; omega
      obtain ⟨b1, o1, rfl, p1⟩ := (HM.out.1.below hbw).at_ hk2
      obtain ⟨b3, o3, rfl, p3⟩ := (HM.out.2.below hbw).at_ hlt
      have x1 := p1.xp hk2
      have x2 := p1.yp hk2
      have x4 := p3.xp hlt
      have x5 := p3.yp hlt
      have lb1 := p1.lt
      have lb3 := p3.lt
      have i0' : (0 : Int) ≤ (k : Int) := by omega
      have i1 : (k : Int) < (l.length : Int) := by omega
      have i2 : (k : Int) < (D.cs.length : Int) := by omega
      have hsu := upTo8_succ (wcB D l) k
      have hul := upTo8_len (wcB D l) k
      have hwb : wcB D l k = !decide (pat l k = pat D.cs k) := rfl
      clear p1 p3
      by_cases he : pat l k = pat D.cs k
      · rw [hwb, decide_eq_true he, if_neg (by simp)] at hsu
        have HU := Lib.hid hsu
        have hd : decide (pat l k = pat D.cs k) = true := decide_eq_true he
        clear he hsu hwb
        go_upto_region 5 with fail
        refine wp_region_after (by kernel_rfl) (by kernel_rfl) ?_; (repeat (go_big_quiet_step ((fail)))); refine wpQuiet_nil ?_; rintro _ ⟨z, rfl⟩; (first | ((with_reducible apply kp_in_after (z := z)); (with_reducible assumption); rintro ⟨hk, hc, hf, hzc, hzf⟩) | ((with_reducible refine kp_in_after0 z ?_); rintro ⟨hk, hc, hf, hzc, hzf⟩))
        go_wp2
        go_roundg (l.length - (k + 1))
        case measure => omega
        case rel => exact ⟨k + 1, by omega, rfl, by go_num, by rw [HU.out]; exact hO.out.below z.ok, HE.out.1.below z.ok, HE.out.2.below z.ok, by (repeat (first | with_reducible exact Below.refl _ _ | with_reducible apply bl_alloc | with_reducible apply bl_drew | with_reducible apply bl_after | (with_reducible refine bl_call ?_ (by assumption))))⟩
      · rw [hwb, decide_eq_false he, if_pos (by simp)] at hsu
        have HU := Lib.hid hsu
        have hd : decide (pat l k = pat D.cs k) = false := decide_eq_false he
        have hl2 := natI_len (upTo8 (wcB D l) k)
        clear he hsu hwb
        go_upto_region 5 with fail
        refine wp_region_after (by kernel_rfl) (by kernel_rfl) ?_; (repeat (go_big_quiet_step ((fail)))); refine wpQuiet_nil ?_; rintro _ ⟨z, rfl⟩; (first | ((with_reducible apply kp_in_after (z := z)); (with_reducible assumption); rintro ⟨hk, hc, hf, hzc, hzf⟩) | ((with_reducible refine kp_in_after0 z ?_); rintro ⟨hk, hc, hf, hzc, hzf⟩))
        have hO2 := hO.out.below z.ok
        have hbz : Below w.heap.size w z.val := by (repeat (first | with_reducible exact Below.refl _ _ | with_reducible apply bl_alloc | with_reducible apply bl_drew | with_reducible apply bl_after | (with_reducible refine bl_call ?_ (by assumption))))
        have hzz := hbz.size
        have HE2 := Lib.hid (And.intro (HE.out.1.below z.ok) (HE.out.2.below z.ok))
        ((try clear hk hc hf hzc hzf); (try clear hk hc hf hzc hzf); (try clear hk hc hf hzc hzf); (try clear hk hc hf hzc hzf))
        clear la ya0 ya1 ya2 ya3 ya4 ya5 ya6 ya7 ya8 ya9 ya10 ya11 lb yb0 yb1 x1 x2 x4 x5
        generalize z.val = wz at *
        go_wp2_with (at_builtin; refine wpList_append_own _ rfl (.tmp 25) (.tmp 27) 23 rfl w.heap.size 3 i0 _ 1 8 undInts hi hz0 hz1 hz2 rfl (by decide) _ _ _ rfl (World.ownsRow.alloc hO2 _) ⟨wz.heap.size, 0, none⟩ 1 1 [(Value.int .i64 ((k : Int)))] rfl rfl (cell_one_new _ _ _) (one_int _) (by unfold maxLen; omega) (by omega) (by simp; omega) ?_)
        intro v' w9 hown hgrow _
        have hb9 : Below w.heap.size w w9 := bl_grown (bl_alloc hbz) (World.ownsRow.alloc hO2 _) hgrow
        have HV := Lib.hid (RowI.snoc hown hl2.symm)
        have hbA : Below wz.heap.size wz (wz.alloc (.cells #[(Value.int .i64 ((k : Int)))] 3)) := by (repeat (first | with_reducible exact Below.refl _ _ | with_reducible apply bl_alloc | with_reducible apply bl_drew | with_reducible apply bl_after | (with_reducible refine bl_call ?_ (by assumption))))
        have hE1 := blk_row8 (World.ownsRow.alloc hO2 _) (HE2.out.1.below hbA) (by decide) hgrow
        have hE2 := blk_row8 (World.ownsRow.alloc hO2 _) (HE2.out.2.below hbA) (by decide) hgrow
        clear hown hgrow hbA hO2
        go_wp2
        go_roundg (l.length - (k + 1))
        case measure => omega
        case rel => exact ⟨k + 1, by omega, rfl, by go_num, by rw [HU.out]; simpa [natI] using HV.out, hE1, hE2, hb9⟩
    · obtain rfl : k = l.length := by omega
      have hO2 : RowI wr w.heap.size u5 (natI (wcL D l)) := by
        rw [wcL_up, ← HL.out]; exact hO.out
      have HO2 := Lib.hid hO2
      clear hO2 hO
      go_wp2
      go_ret
      exact ⟨⟨_, rfl, HO2.out⟩, hbw⟩
end
section
variable (A B C : Option Addr) (ca cb cc : Nat) (D : Dsp) (w : World) (P : Option Addr) (pa : Nat) (l : List Pt) (s : Int)
variable (hc : Wks w C D.wks) (hp : Pts w P l)
include hp hc
set_option maxRecDepth 100000 in
set_option maxHeartbeats 4000000 in
theorem rWrongWalks8 (hD : DspOk D) (hok : Ok l) (hg : gesP D (arD D l)) (hs : -20 ≤ s ∧ s ≤ 20) :
    Calls Tryz.prog 25 #[(Value.agg #[.slice A D.cs.length ca, .slice B D.offs.length cb, (Value.int .i64 (D.unit)), (Value.int .i64 (D.wh.full)), (Value.int .i64 (D.wh.read)), (Value.int .i64 (D.wh.slip)), (Value.int .i64 (D.wh.skew)), (Value.int .i64 (D.wh.circle)), (Value.int .i64 (D.wh.glo)), (Value.int .i64 (D.wh.ghi)), (Value.int .i64 (D.wh.wrong)), .slice C D.wks.length cc]), .agg #[.slice P l.length pa, (Value.int .i64 (s))]] w fun e w' => (∃ v, e = .returned v ∧ RowI w' w.heap.size v (natI (wwL D (arD D l) s))) ∧ Below w.heap.size w w' := by
  obtain ⟨i0, hi, hz0, hz1, hz2⟩ := info_parts infoInt
  have e0 : Blk ((w.alloc (.cells #[.slice A D.cs.length ca, .slice B D.offs.length cb, (Value.int .i64 (D.unit)), (Value.int .i64 (D.wh.full)), (Value.int .i64 (D.wh.read)), (Value.int .i64 (D.wh.slip)), (Value.int .i64 (D.wh.skew)), (Value.int .i64 (D.wh.circle)), (Value.int .i64 (D.wh.glo)), (Value.int .i64 (D.wh.ghi)), (Value.int .i64 (D.wh.wrong)), .slice C D.wks.length cc] 30)).alloc (.cells #[.slice P l.length pa, (Value.int .i64 (s))] 41)) w.heap.size 30 #[.slice A D.cs.length ca, .slice B D.offs.length cb, (Value.int .i64 (D.unit)), (Value.int .i64 (D.wh.full)), (Value.int .i64 (D.wh.read)), (Value.int .i64 (D.wh.slip)), (Value.int .i64 (D.wh.skew)), (Value.int .i64 (D.wh.circle)), (Value.int .i64 (D.wh.glo)), (Value.int .i64 (D.wh.ghi)), (Value.int .i64 (D.wh.wrong)), .slice C D.wks.length cc] := (Blk.new _ _ _).alloc _
  have e1 : Blk ((w.alloc (.cells #[.slice A D.cs.length ca, .slice B D.offs.length cb, (Value.int .i64 (D.unit)), (Value.int .i64 (D.wh.full)), (Value.int .i64 (D.wh.read)), (Value.int .i64 (D.wh.slip)), (Value.int .i64 (D.wh.skew)), (Value.int .i64 (D.wh.circle)), (Value.int .i64 (D.wh.glo)), (Value.int .i64 (D.wh.ghi)), (Value.int .i64 (D.wh.wrong)), .slice C D.wks.length cc] 30)).alloc (.cells #[.slice P l.length pa, (Value.int .i64 (s))] 41)) (w.heap.size + 1) 41 #[.slice P l.length pa, (Value.int .i64 (s))] := blk_new_at (by simp)
  have hbx : Below w.heap.size w ((w.alloc (.cells #[.slice A D.cs.length ca, .slice B D.offs.length cb, (Value.int .i64 (D.unit)), (Value.int .i64 (D.wh.full)), (Value.int .i64 (D.wh.read)), (Value.int .i64 (D.wh.slip)), (Value.int .i64 (D.wh.skew)), (Value.int .i64 (D.wh.circle)), (Value.int .i64 (D.wh.glo)), (Value.int .i64 (D.wh.ghi)), (Value.int .i64 (D.wh.wrong)), .slice C D.wks.length cc] 30)).alloc (.cells #[.slice P l.length pa, (Value.int .i64 (s))] 41)) := by (repeat (first | with_reducible exact Below.refl _ _ | with_reducible apply bl_alloc | with_reducible apply bl_drew | with_reducible apply bl_after | (with_reducible refine bl_call ?_ (by assumption))))
  have hAr := Lib.hid fun (W : World) (h : Below w.heap.size w W) => rAreaOf8 A B C ca cb cc D W P pa l hD (hp.below h) hok
  have hGa : 0 ≤ arD D l ∧ arD D l ≤ 9999 := by have h1 := hg.1; have h2 := hg.2; have h3 := hD.wh.g0; have h4 := hD.wh.g2; omega
  have hRi := Lib.hid fun (k : Nat) (hk : k < D.wks.length) (W : World) => rIsRight_any D.wh (wat D.wks k) (arD D l) s W hD.wh (hD.wk k hk) hGa hs
  have l8 : D.wks.length ≤ 8 := hD.l8
  have HM := Lib.hid hc
  clear hp hc hD hok hg hs hGa
  go_enter Tryz.func25, Tryz.ntmps25
  go_wp2
  go_loopg [5, 6] D.wks.length (fun g v i wr => ∃ k : Nat, k ≤ D.wks.length ∧ g = D.wks.length - k ∧ i = (Value.int .i64 ((k : Int))) ∧ RowI wr w.heap.size v (natI (upTo8 (wwB D (arD D l) s) k)) ∧ Blk wr w.heap.size 30 #[.slice A D.cs.length ca, .slice B D.offs.length cb, (Value.int .i64 (D.unit)), (Value.int .i64 (D.wh.full)), (Value.int .i64 (D.wh.read)), (Value.int .i64 (D.wh.slip)), (Value.int .i64 (D.wh.skew)), (Value.int .i64 (D.wh.circle)), (Value.int .i64 (D.wh.glo)), (Value.int .i64 (D.wh.ghi)), (Value.int .i64 (D.wh.wrong)), .slice C D.wks.length cc] ∧ Blk wr (w.heap.size + 1) 41 #[.slice P l.length pa, (Value.int .i64 (s))] ∧ Below w.heap.size w wr)
  case atStart => exact ⟨0, by omega, rfl, rfl, (rowI_nil _ _ : RowI _ w.heap.size _ []), e0, e1, hbx⟩
  case round =>
    clear e0 e1 hbx
    obtain ⟨k, kn, rfl, rfl, hO, e0, e1, hbw⟩ := hrel
    have HE := Lib.hid (And.intro e0 e1)
    (have la := e0.lt); (have ya0 := e0.cell 0); (have ya1 := e0.cell 1); (have ya2 := e0.cell 2); (have ya3 := e0.cell 3); (have ya4 := e0.cell 4); (have ya5 := e0.cell 5); (have ya6 := e0.cell 6); (have ya7 := e0.cell 7); (have ya8 := e0.cell 8); (have ya9 := e0.cell 9); (have ya10 := e0.cell 10); (have ya11 := e0.cell 11); simp only [List.getElem?_toArray, List.getElem?_cons_zero, List.getElem?_cons_succ] at ya0 ya1 ya2 ya3 ya4 ya5 ya6 ya7 ya8 ya9 ya10 ya11
    (have lb := e1.lt); (have yb0 := e1.cell 0); (have yb1 := e1.cell 1); simp only [List.getElem?_toArray, List.getElem?_cons_zero, List.getElem?_cons_succ] at yb0 yb1
    have hO := Lib.hid hO
    clear e0 e1
    by_cases hlt : k < D.wks.length
    · obtain ⟨bd, od, rfl, pC⟩ := (HM.out.below hbw).at_ hlt
      obtain ⟨lx, x1, x2, x3, x4, x5⟩ := wk_cells pC hlt
      have i0' : (0 : Int) ≤ (k : Int) := by omega
      have i1 : (k : Int) < (D.wks.length : Int) := by omega
      have hsu := upTo8_succ (wwB D (arD D l) s) k
      have hul := upTo8_len (wwB D (arD D l) s) k
      have hwb : wwB D (arD D l) s k = !rgtB D.wh (wat D.wks k) (arD D l) s := rfl
      have hR1 := Lib.hid (hRi.out k hlt)
      have hA1 := Lib.hid fun (W : World) (h : Below wr.heap.size wr W) => hAr.out W (bl_call hbw h)
      clear pC
      generalize rgtB D.wh (wat D.wks k) (arD D l) s = b at *
      cases b
      · rw [hwb, if_pos (by rfl)] at hsu
        have HU := Lib.hid hsu
        have hl2 := natI_len (upTo8 (wwB D (arD D l) s) k)
        clear hsu hwb
        go_upto_region 5 with fail
        refine wp_region_after (by kernel_rfl) (by kernel_rfl) ?_; (repeat (go_big_quiet_step (((first | (go_at_call 21; with_reducible exact calls_after (hA1.out _ (After.ok _))) | (go_at_call 53; with_reducible exact calls_after (hR1.out _))))))); refine wpQuiet_nil ?_; rintro _ ⟨z, rfl⟩; (first | ((with_reducible apply kp_in_after (z := z)); (with_reducible assumption); rintro ⟨hk, hc, hf, hzc, hzf⟩) | ((with_reducible refine kp_in_after0 z ?_); rintro ⟨hk, hc, hf, hzc, hzf⟩))
        have hO2 := hO.out.below z.ok
        have hbz : Below w.heap.size w z.val := by (repeat (first | with_reducible exact Below.refl _ _ | with_reducible apply bl_alloc | with_reducible apply bl_drew | with_reducible apply bl_after | (with_reducible refine bl_call ?_ (by assumption))))
        have hzz := hbz.size
        have HE2 := Lib.hid (And.intro (HE.out.1.below z.ok) (HE.out.2.below z.ok))
        ((try clear hk hc hf hzc hzf); (try clear hk hc hf hzc hzf); (try clear hk hc hf hzc hzf); (try clear hk hc hf hzc hzf))
        clear la ya0 ya1 ya2 ya3 ya4 ya5 ya6 ya7 ya8 ya9 ya10 ya11 lb yb0 yb1 x1 x2 x3 x4 x5 lx hA1
        generalize z.val = wz at *
        go_wp2_with (at_builtin; refine wpList_append_own _ rfl (.tmp 30) (.tmp 32) 23 rfl w.heap.size 3 i0 _ 1 8 undInts hi hz0 hz1 hz2 rfl (by decide) _ _ _ rfl (World.ownsRow.alloc hO2 _) ⟨wz.heap.size, 0, none⟩ 1 1 [(Value.int .i64 ((k : Int)))] rfl rfl (cell_one_new _ _ _) (one_int _) (by unfold maxLen; omega) (by omega) (by simp; omega) ?_)
        intro v' w9 hown hgrow _
        have hb9 : Below w.heap.size w w9 := bl_grown (bl_alloc hbz) (World.ownsRow.alloc hO2 _) hgrow
        have HV := Lib.hid (RowI.snoc hown hl2.symm)
        have hbA : Below wz.heap.size wz (wz.alloc (.cells #[(Value.int .i64 ((k : Int)))] 3)) := by (repeat (first | with_reducible exact Below.refl _ _ | with_reducible apply bl_alloc | with_reducible apply bl_drew | with_reducible apply bl_after | (with_reducible refine bl_call ?_ (by assumption))))
        have hE1 := blk_row8 (World.ownsRow.alloc hO2 _) (HE2.out.1.below hbA) (by decide) hgrow
        have hE2 := blk_row8 (World.ownsRow.alloc hO2 _) (HE2.out.2.below hbA) (by decide) hgrow
        clear hown hgrow hbA hO2
        go_wp2
        go_roundg (D.wks.length - (k + 1))
        case measure => omega
        case rel => exact ⟨k + 1, by omega, rfl, by go_num, by rw [HU.out]; simpa [natI] using HV.out, hE1, hE2, hb9⟩
      · rw [hwb, if_neg (by simp)] at hsu
        have HU := Lib.hid hsu
        clear hsu hwb
        go_upto_region 5 with fail
        refine wp_region_after (by kernel_rfl) (by kernel_rfl) ?_; (repeat (go_big_quiet_step (((first | (go_at_call 21; with_reducible exact calls_after (hA1.out _ (After.ok _))) | (go_at_call 53; with_reducible exact calls_after (hR1.out _))))))); refine wpQuiet_nil ?_; rintro _ ⟨z, rfl⟩; (first | ((with_reducible apply kp_in_after (z := z)); (with_reducible assumption); rintro ⟨hk, hc, hf, hzc, hzf⟩) | ((with_reducible refine kp_in_after0 z ?_); rintro ⟨hk, hc, hf, hzc, hzf⟩))
        go_wp2
        go_roundg (D.wks.length - (k + 1))
        case measure => omega
        case rel => exact ⟨k + 1, by omega, rfl, by go_num, by rw [HU.out]; exact hO.out.below z.ok, HE.out.1.below z.ok, HE.out.2.below z.ok, by (repeat (first | with_reducible exact Below.refl _ _ | with_reducible apply bl_alloc | with_reducible apply bl_drew | with_reducible apply bl_after | (with_reducible refine bl_call ?_ (by assumption))))⟩
    · obtain rfl : k = D.wks.length := by omega
      have hO2 : RowI wr w.heap.size u5 (natI (wwL D (arD D l) s)) := hO.out
      have HO2 := Lib.hid hO2
      clear hO2 hO
      go_wp2
      go_ret
      exact ⟨⟨_, rfl, HO2.out⟩, hbw⟩
end
section
variable (A B C : Option Addr) (ca cb cc : Nat) (D : Dsp) (w : World) (P : Option Addr) (pa : Nat) (l : List Pt) (s : Int)
variable (ha : Pts w A D.cs) (hb : Ints w B D.offs) (hp : Pts w P l)
include ha hb hp
set_option maxRecDepth 100000 in
set_option maxHeartbeats 4000000 in
theorem rIsStory8 (hD : DspOk D) (hl : l.length ≤ 1000000) :
    Calls Tryz.prog 17 #[(Value.agg #[.slice A D.cs.length ca, .slice B D.offs.length cb, (Value.int .i64 (D.unit)), (Value.int .i64 (D.wh.full)), (Value.int .i64 (D.wh.read)), (Value.int .i64 (D.wh.slip)), (Value.int .i64 (D.wh.skew)), (Value.int .i64 (D.wh.circle)), (Value.int .i64 (D.wh.glo)), (Value.int .i64 (D.wh.ghi)), (Value.int .i64 (D.wh.wrong)), .slice C D.wks.length cc]), .agg #[.slice P l.length pa, (Value.int .i64 (s))]] w fun e w' => e = .returned (.bool (isFB D l && within s (-D.wh.skew) D.wh.skew)) ∧ Below w.heap.size w w' := by
  have e0 : Blk ((w.alloc (.cells #[.slice A D.cs.length ca, .slice B D.offs.length cb, (Value.int .i64 (D.unit)), (Value.int .i64 (D.wh.full)), (Value.int .i64 (D.wh.read)), (Value.int .i64 (D.wh.slip)), (Value.int .i64 (D.wh.skew)), (Value.int .i64 (D.wh.circle)), (Value.int .i64 (D.wh.glo)), (Value.int .i64 (D.wh.ghi)), (Value.int .i64 (D.wh.wrong)), .slice C D.wks.length cc] 30)).alloc (.cells #[.slice P l.length pa, (Value.int .i64 (s))] 41)) w.heap.size 30 #[.slice A D.cs.length ca, .slice B D.offs.length cb, (Value.int .i64 (D.unit)), (Value.int .i64 (D.wh.full)), (Value.int .i64 (D.wh.read)), (Value.int .i64 (D.wh.slip)), (Value.int .i64 (D.wh.skew)), (Value.int .i64 (D.wh.circle)), (Value.int .i64 (D.wh.glo)), (Value.int .i64 (D.wh.ghi)), (Value.int .i64 (D.wh.wrong)), .slice C D.wks.length cc] := (Blk.new _ _ _).alloc _
  have e1 : Blk ((w.alloc (.cells #[.slice A D.cs.length ca, .slice B D.offs.length cb, (Value.int .i64 (D.unit)), (Value.int .i64 (D.wh.full)), (Value.int .i64 (D.wh.read)), (Value.int .i64 (D.wh.slip)), (Value.int .i64 (D.wh.skew)), (Value.int .i64 (D.wh.circle)), (Value.int .i64 (D.wh.glo)), (Value.int .i64 (D.wh.ghi)), (Value.int .i64 (D.wh.wrong)), .slice C D.wks.length cc] 30)).alloc (.cells #[.slice P l.length pa, (Value.int .i64 (s))] 41)) (w.heap.size + 1) 41 #[.slice P l.length pa, (Value.int .i64 (s))] := blk_new_at (by simp)
  have hF := fun (W : World) (h : Below w.heap.size w W) => rIsField8 A B C ca cb cc D W P pa l (ha.below h) (hb.below h) hD (hp.below h) hl
  have k0 := hD.wh.k0
  have k1 := hD.wh.k1
  have z := wrap64_in (x := -D.wh.skew) (by omega) (by omega)
  (have la := e0.lt); (have ya0 := e0.cell 0); (have ya1 := e0.cell 1); (have ya2 := e0.cell 2); (have ya3 := e0.cell 3); (have ya4 := e0.cell 4); (have ya5 := e0.cell 5); (have ya6 := e0.cell 6); (have ya7 := e0.cell 7); (have ya8 := e0.cell 8); (have ya9 := e0.cell 9); (have ya10 := e0.cell 10); (have ya11 := e0.cell 11); simp only [List.getElem?_toArray, List.getElem?_cons_zero, List.getElem?_cons_succ] at ya0 ya1 ya2 ya3 ya4 ya5 ya6 ya7 ya8 ya9 ya10 ya11
  (have lb := e1.lt); (have yb0 := e1.cell 0); (have yb1 := e1.cell 1); simp only [List.getElem?_toArray, List.getElem?_cons_zero, List.getElem?_cons_succ] at yb0 yb1
  clear ha hb hp hD k0 k1
  cases h : isFB D l
  · rw [h] at hF
    replace hF := Lib.hid hF
    go_enter Tryz.func17, Tryz.ntmps17
    go_wp2_with ((go_at_call 30); (with_reducible refine Calls.mono (hF.out _ (by (repeat (first | with_reducible exact Below.refl _ _ | with_reducible apply bl_alloc | with_reducible apply bl_drew | with_reducible apply bl_after | (with_reducible refine bl_call ?_ (by assumption)))))) ?_); rintro e wn ⟨rfl, hbn⟩; first | ((with_reducible apply kp_in_step (hb := hbn)); (with_reducible assumption); rintro ⟨hk, hc, hf, hzc, hzf⟩) | ((with_reducible refine kp_in_first hbn ?_); rintro ⟨hk, hc, hf, hzc, hzf⟩))
    go_ret
    exact ⟨rfl, by (repeat (first | with_reducible exact Below.refl _ _ | with_reducible apply bl_alloc | with_reducible apply bl_drew | with_reducible apply bl_after | (with_reducible refine bl_call ?_ (by assumption))))⟩
  · rw [h] at hF
    replace hF := Lib.hid hF
    go_enter Tryz.func17, Tryz.ntmps17
    go_wp2_with (first | ((go_at_call 30); (with_reducible refine Calls.mono (hF.out _ (by (repeat (first | with_reducible exact Below.refl _ _ | with_reducible apply bl_alloc | with_reducible apply bl_drew | with_reducible apply bl_after | (with_reducible refine bl_call ?_ (by assumption)))))) ?_); rintro e wn ⟨rfl, hbn⟩; first | ((with_reducible apply kp_in_step (hb := hbn)); (with_reducible assumption); rintro ⟨hk, hc, hf, hzc, hzf⟩) | ((with_reducible refine kp_in_first hbn ?_); rintro ⟨hk, hc, hf, hzc, hzf⟩)) | (go_at_call 44; with_reducible refine Calls.mono (r8Within_any _ _ _ _) ?_; rintro e w' ⟨rfl, rfl⟩))
    go_ret
    exact ⟨rfl, by (repeat (first | with_reducible exact Below.refl _ _ | with_reducible apply bl_alloc | with_reducible apply bl_drew | with_reducible apply bl_after | (with_reducible refine bl_call ?_ (by assumption))))⟩
end
section
variable (A B C : Option Addr) (ca cb cc : Nat) (D : Dsp) (w : World) (P : Option Addr) (pa : Nat) (l : List Pt) (s : Int)
variable (ha : Pts w A D.cs) (hc : Wks w C D.wks) (hp : Pts w P l)
include ha hc hp
set_option maxRecDepth 100000 in
set_option maxHeartbeats 4000000 in
theorem rFaults8 (hD : DspOk D) (hlen : l.length = D.cs.length) (hok : Ok l) (hg : gesP D (arD D l)) (hs : -20 ≤ s ∧ s ≤ 20) :
    Calls Tryz.prog 18 #[(Value.agg #[.slice A D.cs.length ca, .slice B D.offs.length cb, (Value.int .i64 (D.unit)), (Value.int .i64 (D.wh.full)), (Value.int .i64 (D.wh.read)), (Value.int .i64 (D.wh.slip)), (Value.int .i64 (D.wh.skew)), (Value.int .i64 (D.wh.circle)), (Value.int .i64 (D.wh.glo)), (Value.int .i64 (D.wh.ghi)), (Value.int .i64 (D.wh.wrong)), .slice C D.wks.length cc]), .agg #[.slice P l.length pa, (Value.int .i64 (s))]] w fun e w' => e = .returned (Value.int .i64 (((tldOf D l s).many : Int))) ∧ Below w.heap.size w w' := by
  have e0 : Blk ((w.alloc (.cells #[.slice A D.cs.length ca, .slice B D.offs.length cb, (Value.int .i64 (D.unit)), (Value.int .i64 (D.wh.full)), (Value.int .i64 (D.wh.read)), (Value.int .i64 (D.wh.slip)), (Value.int .i64 (D.wh.skew)), (Value.int .i64 (D.wh.circle)), (Value.int .i64 (D.wh.glo)), (Value.int .i64 (D.wh.ghi)), (Value.int .i64 (D.wh.wrong)), .slice C D.wks.length cc] 30)).alloc (.cells #[.slice P l.length pa, (Value.int .i64 (s))] 41)) w.heap.size 30 #[.slice A D.cs.length ca, .slice B D.offs.length cb, (Value.int .i64 (D.unit)), (Value.int .i64 (D.wh.full)), (Value.int .i64 (D.wh.read)), (Value.int .i64 (D.wh.slip)), (Value.int .i64 (D.wh.skew)), (Value.int .i64 (D.wh.circle)), (Value.int .i64 (D.wh.glo)), (Value.int .i64 (D.wh.ghi)), (Value.int .i64 (D.wh.wrong)), .slice C D.wks.length cc] := (Blk.new _ _ _).alloc _
  have e1 : Blk ((w.alloc (.cells #[.slice A D.cs.length ca, .slice B D.offs.length cb, (Value.int .i64 (D.unit)), (Value.int .i64 (D.wh.full)), (Value.int .i64 (D.wh.read)), (Value.int .i64 (D.wh.slip)), (Value.int .i64 (D.wh.skew)), (Value.int .i64 (D.wh.circle)), (Value.int .i64 (D.wh.glo)), (Value.int .i64 (D.wh.ghi)), (Value.int .i64 (D.wh.wrong)), .slice C D.wks.length cc] 30)).alloc (.cells #[.slice P l.length pa, (Value.int .i64 (s))] 41)) (w.heap.size + 1) 41 #[.slice P l.length pa, (Value.int .i64 (s))] := blk_new_at (by simp)
  have hb0 : Below w.heap.size w ((w.alloc (.cells #[.slice A D.cs.length ca, .slice B D.offs.length cb, (Value.int .i64 (D.unit)), (Value.int .i64 (D.wh.full)), (Value.int .i64 (D.wh.read)), (Value.int .i64 (D.wh.slip)), (Value.int .i64 (D.wh.skew)), (Value.int .i64 (D.wh.circle)), (Value.int .i64 (D.wh.glo)), (Value.int .i64 (D.wh.ghi)), (Value.int .i64 (D.wh.wrong)), .slice C D.wks.length cc] 30)).alloc (.cells #[.slice P l.length pa, (Value.int .i64 (s))] 41)) := by (repeat (first | with_reducible exact Below.refl _ _ | with_reducible apply bl_alloc | with_reducible apply bl_drew | with_reducible apply bl_after | (with_reducible refine bl_call ?_ (by assumption))))
  have h6 := hD.l6
  have h8 := hD.l8
  have hC := Lib.hid fun (W : World) (h : Below w.heap.size w W) => rWrongCorners8 A B C ca cb cc D W P pa l s (ha.below h) (hp.below h) hlen (by omega)
  have hW := Lib.hid fun (W : World) (h : Below w.heap.size w W) => rWrongWalks8 A B C ca cb cc D W P pa l s (hc.below h) (hp.below h) hD hok hg hs
  have n1 := wcL_len D l
  have n2 := wwL_len D (arD D l) s
  have hm : (tldOf D l s).many = (wcL D l).length + (wwL D (arD D l) s).length := rfl
  have l1 : (natI (wcL D l)).length ≤ 6 := by rw [natI_len]; omega
  have l2 : (natI (wwL D (arD D l) s)).length ≤ 8 := by rw [natI_len]; omega
  rw [hm, ← natI_len (wcL D l), ← natI_len (wwL D (arD D l) s)]
  clear ha hc hp hD hlen hok hg hs hm n1 n2
  generalize natI (wcL D l) = L1 at *
  generalize natI (wwL D (arD D l) s) = L2 at *
  have z1 : IntKind.i64.wrap ((L1.length : Int) + (L2.length : Int)) = (L1.length : Int) + (L2.length : Int) := IntWalk.i64_in _ (by omega)
  have y1 := wrap64_in (x := (L1.length : Int) + (L2.length : Int)) (by omega) (by omega)
  clear l1 l2 h6 h8
  (have la := e0.lt); (have ya0 := e0.cell 0); (have ya1 := e0.cell 1); (have ya2 := e0.cell 2); (have ya3 := e0.cell 3); (have ya4 := e0.cell 4); (have ya5 := e0.cell 5); (have ya6 := e0.cell 6); (have ya7 := e0.cell 7); (have ya8 := e0.cell 8); (have ya9 := e0.cell 9); (have ya10 := e0.cell 10); (have ya11 := e0.cell 11); simp only [List.getElem?_toArray, List.getElem?_cons_zero, List.getElem?_cons_succ] at ya0 ya1 ya2 ya3 ya4 ya5 ya6 ya7 ya8 ya9 ya10 ya11
  (have lb := e1.lt); (have yb0 := e1.cell 0); (have yb1 := e1.cell 1); simp only [List.getElem?_toArray, List.getElem?_cons_zero, List.getElem?_cons_succ] at yb0 yb1
  go_enter Tryz.func18, Tryz.ntmps18
  go_upto_region 1 with fail
  refine wp_region_CN (fun w' => ∃ z : After ((w.alloc (.cells #[.slice A D.cs.length ca, .slice B D.offs.length cb, (Value.int .i64 (D.unit)), (Value.int .i64 (D.wh.full)), (Value.int .i64 (D.wh.read)), (Value.int .i64 (D.wh.slip)), (Value.int .i64 (D.wh.skew)), (Value.int .i64 (D.wh.circle)), (Value.int .i64 (D.wh.glo)), (Value.int .i64 (D.wh.ghi)), (Value.int .i64 (D.wh.wrong)), .slice C D.wks.length cc] 30)).alloc (.cells #[.slice P l.length pa, (Value.int .i64 (s))] 41)), w' = z.val) (by kernel_rfl) ?_
  change wpAnyC _ _ _ _ _ _ _ (World.drew ((w.alloc (.cells #[.slice A D.cs.length ca, .slice B D.offs.length cb, (Value.int .i64 (D.unit)), (Value.int .i64 (D.wh.full)), (Value.int .i64 (D.wh.read)), (Value.int .i64 (D.wh.slip)), (Value.int .i64 (D.wh.skew)), (Value.int .i64 (D.wh.circle)), (Value.int .i64 (D.wh.glo)), (Value.int .i64 (D.wh.ghi)), (Value.int .i64 (D.wh.wrong)), .slice C D.wks.length cc] 30)).alloc (.cells #[.slice P l.length pa, (Value.int .i64 (s))] 41)))
  have hd0 : Below (((w.alloc (.cells #[.slice A D.cs.length ca, .slice B D.offs.length cb, (Value.int .i64 (D.unit)), (Value.int .i64 (D.wh.full)), (Value.int .i64 (D.wh.read)), (Value.int .i64 (D.wh.slip)), (Value.int .i64 (D.wh.skew)), (Value.int .i64 (D.wh.circle)), (Value.int .i64 (D.wh.glo)), (Value.int .i64 (D.wh.ghi)), (Value.int .i64 (D.wh.wrong)), .slice C D.wks.length cc] 30)).alloc (.cells #[.slice P l.length pa, (Value.int .i64 (s))] 41))).heap.size ((w.alloc (.cells #[.slice A D.cs.length ca, .slice B D.offs.length cb, (Value.int .i64 (D.unit)), (Value.int .i64 (D.wh.full)), (Value.int .i64 (D.wh.read)), (Value.int .i64 (D.wh.slip)), (Value.int .i64 (D.wh.skew)), (Value.int .i64 (D.wh.circle)), (Value.int .i64 (D.wh.glo)), (Value.int .i64 (D.wh.ghi)), (Value.int .i64 (D.wh.wrong)), .slice C D.wks.length cc] 30)).alloc (.cells #[.slice P l.length pa, (Value.int .i64 (s))] 41)) (((w.alloc (.cells #[.slice A D.cs.length ca, .slice B D.offs.length cb, (Value.int .i64 (D.unit)), (Value.int .i64 (D.wh.full)), (Value.int .i64 (D.wh.read)), (Value.int .i64 (D.wh.slip)), (Value.int .i64 (D.wh.skew)), (Value.int .i64 (D.wh.circle)), (Value.int .i64 (D.wh.glo)), (Value.int .i64 (D.wh.ghi)), (Value.int .i64 (D.wh.wrong)), .slice C D.wks.length cc] 30)).alloc (.cells #[.slice P l.length pa, (Value.int .i64 (s))] 41))).drew := bl_drew (Below.refl _ _)
  refine wpAnyC_take (i := 0) (v := ?v0u) rfl (by kernel_rfl) (by kernel_rfl) (by kernel_rfl) ?q0u rfl ?y0u ?r0u; (case q0u => exact fun _ _ _ h => h); (case y0u => ((rintro _ ⟨z, rfl⟩); (go_simp); (try with_reducible rfl))); simp only [Act.put, List.getElem_toArray, List.getElem_cons_succ, List.getElem_cons_zero, List.setIfInBounds_toArray, List.set_cons_succ, List.set_cons_zero]
  refine wpAnyC_take (i := 1) (v := ?v1u) rfl (by kernel_rfl) (by kernel_rfl) (by kernel_rfl) ?q1u rfl ?y1u ?r1u; (case q1u => exact fun _ _ _ h => h); (case y1u => ((rintro _ ⟨z, rfl⟩); (go_simp); (try with_reducible rfl))); simp only [Act.put, List.getElem_toArray, List.getElem_cons_succ, List.getElem_cons_zero, List.setIfInBounds_toArray, List.set_cons_succ, List.set_cons_zero]
  refine wpAnyC_take (i := 4) (v := ?v4u) rfl (by kernel_rfl) (by kernel_rfl) (by kernel_rfl) ?q4u rfl ?y4u ?r4u; (case q4u => exact fun _ _ _ h => h); (case y4u => ((rintro _ ⟨z, rfl⟩); (go_simp); (try with_reducible rfl))); simp only [Act.put, List.getElem_toArray, List.getElem_cons_succ, List.getElem_cons_zero, List.setIfInBounds_toArray, List.set_cons_succ, List.set_cons_zero]
  refine wpAnyC_take (i := 5) (v := ?v5u) rfl (by kernel_rfl) (by kernel_rfl) (by kernel_rfl) ?q5u rfl ?y5u ?r5u; (case q5u => exact fun _ _ _ h => h); (case y5u => ((rintro _ ⟨z, rfl⟩); (go_simp); (try with_reducible rfl))); simp only [Act.put, List.getElem_toArray, List.getElem_cons_succ, List.getElem_cons_zero, List.setIfInBounds_toArray, List.set_cons_succ, List.set_cons_zero]
  refine wpAnyC_one (i := 2) (by kernel_rfl) rfl ⟨⟨_, hd0⟩, rfl⟩ rfl (fun K hK => ?_)
  go_simp
  go_at_call 24
  (with_reducible refine Calls.mono (hC.out _ (bl_drew hb0)) ?_)
  rintro e w1 ⟨⟨v1, rfl, h1⟩, hb1⟩
  obtain ⟨A1, c1, rfl, -⟩ := h1.parts
  refine hK _ _ ?_
  clear hK K
  have hd1 := hd0.trans (hb1.mono hd0.size)
  refine wpAnyC_take (i := 3) (v := ?v3u) rfl (by kernel_rfl) (by kernel_rfl) (by kernel_rfl) ?q3u rfl ?y3u ?r3u; (case q3u => exact fun _ _ _ h => h); (case y3u => ((rintro _ ⟨z, rfl⟩); (go_simp); (try with_reducible rfl))); simp only [Act.put, List.getElem_toArray, List.getElem_cons_succ, List.getElem_cons_zero, List.setIfInBounds_toArray, List.set_cons_succ, List.set_cons_zero]
  refine wpAnyC_one (i := 6) (by kernel_rfl) rfl ⟨⟨_, hd1⟩, rfl⟩ rfl (fun K hK => ?_)
  go_simp
  go_at_call 25
  (with_reducible refine Calls.mono (hW.out _ (bl_call (bl_drew hb0) hb1)) ?_)
  rintro e w2 ⟨⟨v2, rfl, h2⟩, hb2⟩
  obtain ⟨A2, c2, rfl, -⟩ := h2.parts
  refine hK _ _ ?_
  clear hK K
  have hd2 := hd1.trans (hb2.mono hd1.size)
  refine wpAnyC_take (i := 7) (v := ?v7u) rfl (by kernel_rfl) (by kernel_rfl) (by kernel_rfl) ?q7u rfl ?y7u ?r7u; (case q7u => exact fun _ _ _ h => h); (case y7u => ((rintro _ ⟨z, rfl⟩); (go_simp); (try with_reducible rfl))); simp only [Act.put, List.getElem_toArray, List.getElem_cons_succ, List.getElem_cons_zero, List.setIfInBounds_toArray, List.set_cons_succ, List.set_cons_zero]
  refine wpAnyC_take (i := 8) (v := ?v8u) rfl (by kernel_rfl) (by kernel_rfl) (by kernel_rfl) ?q8u rfl ?y8u ?r8u; (case q8u => exact fun _ _ _ h => h); (case y8u => ((rintro _ ⟨z, rfl⟩); (go_simp); (try with_reducible rfl))); simp only [Act.put, List.getElem_toArray, List.getElem_cons_succ, List.getElem_cons_zero, List.setIfInBounds_toArray, List.set_cons_succ, List.set_cons_zero]
  refine wpAnyC_take (i := 9) (v := ?v9u) rfl (by kernel_rfl) (by kernel_rfl) (by kernel_rfl) ?q9u rfl ?y9u ?r9u; (case q9u => exact fun _ _ _ h => h); (case y9u => ((rintro _ ⟨z, rfl⟩); (go_simp); (try with_reducible rfl))); simp only [Act.put, List.getElem_toArray, List.getElem_cons_succ, List.getElem_cons_zero, List.setIfInBounds_toArray, List.set_cons_succ, List.set_cons_zero]
  refine wpAnyC_doneN (by kernel_rfl) ⟨⟨_, hd2⟩, rfl⟩ ?_ _
  go_wp2
  go_ret
  exact ⟨rfl, bl_call (bl_call (bl_drew hb0) hb1) hb2⟩
end
end Go.Proofs.YthijegacjboclaaGreat
