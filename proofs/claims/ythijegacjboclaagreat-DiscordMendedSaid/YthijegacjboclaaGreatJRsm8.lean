/- The reference's function IsRight of wheels: whether a walk is right for an area and a skew. -/
import Derived.Test.YthijegacjboclaaGreatLs8
import Derived.Test.YthijegacjboclaaGreatJTwF
import Derived.Test.YthijegacjboclaaGreatSto
import Derived.Test.YthijegacjboclaaGreatFar8
namespace Go.Proofs.YthijegacjboclaaGreat
open Go.RowKit
attribute [local go_sem] After.cell After.frozen
theorem tmod_dvd {x m : Int} : x.tmod m = 0 ↔ m ∣ x := ⟨Int.dvd_of_tmod_eq_zero, fun h => Int.tmod_eq_zero_of_dvd h⟩
set_option maxRecDepth 100000 in
set_option maxHeartbeats 4000000 in
theorem rIsRight_any (v : Whl) (x : Wk) (a s : Int) (w : World) (hv : WhlOk v) (hx : WkOk v x) (ha : 0 ≤ a ∧ a ≤ 9999) (hs : -20 ≤ s ∧ s ≤ 20) :
    Calls Tryz.prog 53 #[(Value.agg #[(Value.int .i64 (v.full)), (Value.int .i64 (v.read)), (Value.int .i64 (v.slip)), (Value.int .i64 (v.skew)), (Value.int .i64 (v.circle)), (Value.int .i64 (v.glo)), (Value.int .i64 (v.ghi)), (Value.int .i64 (v.wrong))]), (Value.agg #[(Value.int .i64 (x.sense)), (Value.int .i64 (x.side)), (Value.int .i64 (x.inside)), (Value.int .i64 (x.start)), (Value.int .i64 (x.fin))]), .agg #[(Value.int .i64 (a)), (Value.int .i64 (s))]] w fun e w' => e = .returned (.bool (rgtB v x a s)) ∧ Below w.heap.size w w' := by
  have c0 : Blk (((w.alloc (.cells #[(Value.int .i64 (v.full)), (Value.int .i64 (v.read)), (Value.int .i64 (v.slip)), (Value.int .i64 (v.skew)), (Value.int .i64 (v.circle)), (Value.int .i64 (v.glo)), (Value.int .i64 (v.ghi)), (Value.int .i64 (v.wrong))] 27)).alloc (.cells #[(Value.int .i64 (x.sense)), (Value.int .i64 (x.side)), (Value.int .i64 (x.inside)), (Value.int .i64 (x.start)), (Value.int .i64 (x.fin))] 88)).alloc (.cells #[(Value.int .i64 (a)), (Value.int .i64 (s))] 101)) w.heap.size 27 #[(Value.int .i64 (v.full)), (Value.int .i64 (v.read)), (Value.int .i64 (v.slip)), (Value.int .i64 (v.skew)), (Value.int .i64 (v.circle)), (Value.int .i64 (v.glo)), (Value.int .i64 (v.ghi)), (Value.int .i64 (v.wrong))] := ((Blk.new _ _ _).alloc _).alloc _
  have c1 : Blk (((w.alloc (.cells #[(Value.int .i64 (v.full)), (Value.int .i64 (v.read)), (Value.int .i64 (v.slip)), (Value.int .i64 (v.skew)), (Value.int .i64 (v.circle)), (Value.int .i64 (v.glo)), (Value.int .i64 (v.ghi)), (Value.int .i64 (v.wrong))] 27)).alloc (.cells #[(Value.int .i64 (x.sense)), (Value.int .i64 (x.side)), (Value.int .i64 (x.inside)), (Value.int .i64 (x.start)), (Value.int .i64 (x.fin))] 88)).alloc (.cells #[(Value.int .i64 (a)), (Value.int .i64 (s))] 101)) (w.heap.size + 1) 88 #[(Value.int .i64 (x.sense)), (Value.int .i64 (x.side)), (Value.int .i64 (x.inside)), (Value.int .i64 (x.start)), (Value.int .i64 (x.fin))] := (blk_new_at (by simp)).alloc _
  have c2 : Blk (((w.alloc (.cells #[(Value.int .i64 (v.full)), (Value.int .i64 (v.read)), (Value.int .i64 (v.slip)), (Value.int .i64 (v.skew)), (Value.int .i64 (v.circle)), (Value.int .i64 (v.glo)), (Value.int .i64 (v.ghi)), (Value.int .i64 (v.wrong))] 27)).alloc (.cells #[(Value.int .i64 (x.sense)), (Value.int .i64 (x.side)), (Value.int .i64 (x.inside)), (Value.int .i64 (x.start)), (Value.int .i64 (x.fin))] 88)).alloc (.cells #[(Value.int .i64 (a)), (Value.int .i64 (s))] 101)) (w.heap.size + 1 + 1) 101 #[(Value.int .i64 (a)), (Value.int .i64 (s))] := blk_new_at (by simp)
  have hR : rgtB v x a s = true ↔ ∃ p o : Int, 0 ≤ p ∧ p ≤ v.slip ∧ -(2 * v.read) ≤ o ∧ o ≤ 2 * v.read ∧ v.full ∣ x.fin - x.start - (x.sense * (a - x.inside * v.circle - p) + x.side * s + o) := by
    rw [rgt_iff hv hx.sense]
    have e : ∀ p o : Int, wkLf v x a s + x.sense * p - o = x.fin - x.start - (x.sense * (a - x.inside * v.circle - p) + x.side * s + o) := fun p o => by
      unfold wkLf
      rcases hx.sense with h | h <;> rw [h] <;> omega
    simp only [e]
  replace hR := Lib.hid hR
  (have la := c0.lt); (have ya0 := c0.cell 0); (have ya1 := c0.cell 1); (have ya2 := c0.cell 2); (have ya3 := c0.cell 3); (have ya4 := c0.cell 4); (have ya5 := c0.cell 5); (have ya6 := c0.cell 6); (have ya7 := c0.cell 7); simp only [List.getElem?_toArray, List.getElem?_cons_zero, List.getElem?_cons_succ] at ya0 ya1 ya2 ya3 ya4 ya5 ya6 ya7
  (have lb := c1.lt); (have yb0 := c1.cell 0); (have yb1 := c1.cell 1); (have yb2 := c1.cell 2); (have yb3 := c1.cell 3); (have yb4 := c1.cell 4); simp only [List.getElem?_toArray, List.getElem?_cons_zero, List.getElem?_cons_succ] at yb0 yb1 yb2 yb3 yb4
  (have lc := c2.lt); (have yc0 := c2.cell 0); (have yc1 := c2.cell 1); simp only [List.getElem?_toArray, List.getElem?_cons_zero, List.getElem?_cons_succ] at yc0 yc1
  have hbw : Below w.heap.size w (((w.alloc (.cells #[(Value.int .i64 (v.full)), (Value.int .i64 (v.read)), (Value.int .i64 (v.slip)), (Value.int .i64 (v.skew)), (Value.int .i64 (v.circle)), (Value.int .i64 (v.glo)), (Value.int .i64 (v.ghi)), (Value.int .i64 (v.wrong))] 27)).alloc (.cells #[(Value.int .i64 (x.sense)), (Value.int .i64 (x.side)), (Value.int .i64 (x.inside)), (Value.int .i64 (x.start)), (Value.int .i64 (x.fin))] 88)).alloc (.cells #[(Value.int .i64 (a)), (Value.int .i64 (s))] 101)) := by (repeat (first | with_reducible exact Below.refl _ _ | with_reducible apply bl_alloc | with_reducible apply bl_drew | with_reducible apply bl_after | (with_reducible refine bl_call ?_ (by assumption))))
  obtain ⟨f0, f1, r0, r1, s0, s1, k0, k1, d0, d1, g0, g1, g2, w0, w1⟩ := hv
  obtain ⟨x1, x2, x3, x4, x5, x6, x7, x8⟩ := hx
  have m1 := mul_bd (x := x.inside) (y := v.circle) (A := 1) (B := 9999) (by omega) (by omega) (by omega) (by omega)
  have m3 := mul_bd (x := x.side) (y := s) (A := 1) (B := 20) (by omega) (by omega) (by omega) (by omega)
  have z1 := wrap64_in (x := x.fin - x.start) (by omega) (by omega)
  have z2 := wrap64_in (x := x.inside * v.circle) (by omega) (by omega)
  have z3 := wrap64_in (x := a - x.inside * v.circle) (by omega) (by omega)
  have z6 := wrap64_in (x := x.side * s) (by omega) (by omega)
  have z8 := wrap64_in (x := -2 * v.read) (by omega) (by omega)
  have z9 := wrap64_in (x := 2 * v.read) (by omega) (by omega)
  have hf : (v.full == 0) = false := by simp; omega
  clear c0 c1 c2
  go_enter Tryz.func53, Tryz.ntmps53
  go_wp2
  go_loop [7] (fun pp => ∃ p : Int, 0 ≤ p ∧ p ≤ v.slip + 1 ∧ pp = (Value.int .i64 (p)) ∧ Hid (∀ q o : Int, 0 ≤ q → q < p → -(2 * v.read) ≤ o → o ≤ 2 * v.read → ¬ v.full ∣ x.fin - x.start - (x.sense * (a - x.inside * v.circle - q) + x.side * s + o))) (fun pp => (v.slip + 1 - intOf pp).toNat)
  case atStart => exact ⟨0, by omega, by omega, rfl, Lib.hid fun q o h1 h2 => by omega⟩
  case round =>
    obtain ⟨p, p0, p1, rfl, HP⟩ := hrel
    by_cases hlt : p ≤ v.slip
    · go_wp2
      go_loop [8] (fun oo => ∃ o : Int, -2 * v.read ≤ o ∧ o ≤ 2 * v.read + 1 ∧ oo = (Value.int .i64 (o)) ∧ Hid (∀ o' : Int, -(2 * v.read) ≤ o' → o' < o → ¬ v.full ∣ x.fin - x.start - (x.sense * (a - x.inside * v.circle - p) + x.side * s + o'))) (fun oo => (2 * v.read + 1 - intOf oo).toNat)
      case atStart => exact ⟨-2 * v.read, by omega, by omega, rfl, Lib.hid fun o h1 h2 => by omega⟩
      case round =>
        obtain ⟨o, o0, o1, rfl, HO⟩ := hrel
        by_cases hlo : o ≤ 2 * v.read
        · have m2 := mul_bd (x := x.sense) (y := a - x.inside * v.circle - p) (A := 1) (B := 20100) (by omega) (by omega) (by omega) (by omega)
          have y1 := wrap64_in (x := a - x.inside * v.circle - p) (by omega) (by omega)
          have y2 := wrap64_in (x := x.sense * (a - x.inside * v.circle - p)) (by omega) (by omega)
          have y3 := wrap64_in (x := x.sense * (a - x.inside * v.circle - p) + x.side * s) (by omega) (by omega)
          have y4 := wrap64_in (x := (x.sense * (a - x.inside * v.circle - p) + x.side * s + o)) (by omega) (by omega)
          have y5 := wrap64_in (x := x.fin - x.start - (x.sense * (a - x.inside * v.circle - p) + x.side * s + o)) (by omega) (by omega)
          have t1 := Int.tmod_lt_of_pos (x.fin - x.start - (x.sense * (a - x.inside * v.circle - p) + x.side * s + o)) (show 0 < v.full by omega)
          have t2 := Int.lt_tmod_of_pos (x.fin - x.start - (x.sense * (a - x.inside * v.circle - p) + x.side * s + o)) (show 0 < v.full by omega)
          have y6 := wrap64_in (x := (x.fin - x.start - (x.sense * (a - x.inside * v.circle - p) + x.side * s + o)).tmod v.full) (by omega) (by omega)
          by_cases hd : v.full ∣ x.fin - x.start - (x.sense * (a - x.inside * v.circle - p) + x.side * s + o)
          · have hq : ((x.fin - x.start - (x.sense * (a - x.inside * v.circle - p) + x.side * s + o)).tmod v.full == 0) = true := by rw [beq_iff_eq]; exact tmod_dvd.2 hd
            have HE := Lib.hid (hR.out.2 ⟨p, o, p0, hlt, by omega, hlo, hd⟩)
            clear hd t1 t2 m2
            go_wp2
            go_ret
            exact ⟨ret_bool HE.out.symm, hbw⟩
          · have hq : ((x.fin - x.start - (x.sense * (a - x.inside * v.circle - p) + x.side * s + o)).tmod v.full == 0) = false := by rw [beq_eq_false_iff_ne]; exact fun h => hd (tmod_dvd.1 h)
            have HN := Lib.hid (show ∀ o' : Int, -(2 * v.read) ≤ o' → o' < o + 1 → ¬ v.full ∣ x.fin - x.start - (x.sense * (a - x.inside * v.circle - p) + x.side * s + o') from fun o' h1 h2 => by
              by_cases e : o' = o
              · rw [e]; exact hd
              · exact HO.out o' h1 (by omega))
            clear hd t1 t2 m2
            go_wp2
            go_round
            case rel => exact ⟨o + 1, by omega, by omega, rfl, HN⟩
            case measure => simp [intOf]; omega
        · obtain rfl : o = 2 * v.read + 1 := by omega
          have HN := Lib.hid (show ∀ q o : Int, 0 ≤ q → q < p + 1 → -(2 * v.read) ≤ o → o ≤ 2 * v.read → ¬ v.full ∣ x.fin - x.start - (x.sense * (a - x.inside * v.circle - q) + x.side * s + o) from fun q o h1 h2 h3 h4 => by
            by_cases e : q = p
            · rw [e]; exact HO.out o h3 (by omega)
            · exact HP.out q o h1 (by omega) h3 h4)
          go_wp2
          go_round
          case rel => exact ⟨p + 1, by omega, by omega, rfl, HN⟩
          case measure => simp [intOf]; omega
    · have HE := Lib.hid (show rgtB v x a s = false by
        rw [← Bool.not_eq_true]
        intro h
        obtain ⟨q, o, h1, h2, h3, h4, h5⟩ := hR.out.1 h
        exact HP.out q o h1 (by omega) h3 h4 h5)
      go_wp2
      go_ret
      exact ⟨ret_bool HE.out.symm, hbw⟩
end Go.Proofs.YthijegacjboclaaGreat
/- The reference's functions abs, AreaOf, IsField, IsStory, WrongCorners, WrongWalks and Faults of disputes. -/
namespace Go.Proofs.YthijegacjboclaaGreat
open Go.RowKit Go.Shelf
attribute [local go_sem] After.cell After.frozen
attribute [local go_sem high] run_eql_pt run_neq_pt

theorem rAbs8_any (n : Int) (hn : -4000000000000000000 ≤ n ∧ n ≤ 4000000000000000000) (w : World) :
    Calls Tryz.prog 48 #[(Value.int .i64 (n))] w fun e w' => e = .returned (Value.int .i64 (max n (-n))) ∧ w = w' := by
  have z := wrap64_in (x := -n) (by omega) (by omega)
  go_enter Tryz.func48, Tryz.ntmps48
  go_wp2
  go_ret
  exact ⟨rfl, rfl⟩
/-- Whether a corner is near. -/
def nearB (D : Dsp) (l : List Pt) (i : Nat) : Bool := decide (max ((pat l i).1 - (pat D.cs i).1) (-((pat l i).1 - (pat D.cs i).1)) ≤ iat D.offs i) && decide (max ((pat l i).2 - (pat D.cs i).2) (-((pat l i).2 - (pat D.cs i).2)) ≤ iat D.offs i)
theorem nearB_iff {D : Dsp} {l : List Pt} {i : Nat} : nearB D l i = true ↔ near D l i := by
  unfold nearB near
  simp only [Bool.and_eq_true, decide_eq_true_eq]
  have e : oat D i = iat D.offs i := rfl
  rw [e]
  omega
/-- Whether corners are a field whose area is one of Guess. -/
def isFB (D : Dsp) (l : List Pt) : Bool := decide (l.length = D.cs.length) && decide (Ok l) && ((List.range D.cs.length).all (nearB D l)) && within (arD D l) D.wh.glo D.wh.ghi
theorem isFB_iff {D : Dsp} {l : List Pt} : isFB D l = true ↔ fldP D l ∧ gesP D (arD D l) := by
  unfold isFB fldP gesP within
  simp only [Bool.and_eq_true, decide_eq_true_eq, List.all_eq_true, List.mem_range, nearB_iff]
  exact ⟨fun h => ⟨⟨h.1.1.1, h.1.2, h.1.1.2⟩, h.2⟩, fun h => ⟨⟨⟨h.1.1, h.1.2.2⟩, h.1.2.1⟩, h.2⟩⟩
section
variable (A B C : Option Addr) (ca cb cc : Nat) (D : Dsp) (w : World) (P : Option Addr) (pa : Nat) (l : List Pt)
set_option maxRecDepth 100000 in
set_option maxHeartbeats 2000000 in
theorem rAreaOf8 (hD : DspOk D) (hp : Pts w P l) (hok : Ok l) :
    Calls Tryz.prog 21 #[(Value.agg #[.slice A D.cs.length ca, .slice B D.offs.length cb, (Value.int .i64 (D.unit)), (Value.int .i64 (D.wh.full)), (Value.int .i64 (D.wh.read)), (Value.int .i64 (D.wh.slip)), (Value.int .i64 (D.wh.skew)), (Value.int .i64 (D.wh.circle)), (Value.int .i64 (D.wh.glo)), (Value.int .i64 (D.wh.ghi)), (Value.int .i64 (D.wh.wrong)), .slice C D.wks.length cc]), .slice P l.length pa] w fun e w' => e = .returned (Value.int .i64 (arD D l)) ∧ Below w.heap.size w w' := by
  have e0 : Blk (w.alloc (.cells #[.slice A D.cs.length ca, .slice B D.offs.length cb, (Value.int .i64 (D.unit)), (Value.int .i64 (D.wh.full)), (Value.int .i64 (D.wh.read)), (Value.int .i64 (D.wh.slip)), (Value.int .i64 (D.wh.skew)), (Value.int .i64 (D.wh.circle)), (Value.int .i64 (D.wh.glo)), (Value.int .i64 (D.wh.ghi)), (Value.int .i64 (D.wh.wrong)), .slice C D.wks.length cc] 30)) w.heap.size 30 #[.slice A D.cs.length ca, .slice B D.offs.length cb, (Value.int .i64 (D.unit)), (Value.int .i64 (D.wh.full)), (Value.int .i64 (D.wh.read)), (Value.int .i64 (D.wh.slip)), (Value.int .i64 (D.wh.skew)), (Value.int .i64 (D.wh.circle)), (Value.int .i64 (D.wh.glo)), (Value.int .i64 (D.wh.ghi)), (Value.int .i64 (D.wh.wrong)), .slice C D.wks.length cc] := Blk.new _ _ _
  have hl := hok.1
  obtain ⟨b, o, rfl, pp⟩ := hp.at_ (k := 0) (by omega)
  have ht := Lib.hid fun (W : World) (h : Below ((w.alloc (.cells #[.slice A D.cs.length ca, .slice B D.offs.length cb, (Value.int .i64 (D.unit)), (Value.int .i64 (D.wh.full)), (Value.int .i64 (D.wh.read)), (Value.int .i64 (D.wh.slip)), (Value.int .i64 (D.wh.skew)), (Value.int .i64 (D.wh.circle)), (Value.int .i64 (D.wh.glo)), (Value.int .i64 (D.wh.ghi)), (Value.int .i64 (D.wh.wrong)), .slice C D.wks.length cc] 30))).heap.size (w.alloc (.cells #[.slice A D.cs.length ca, .slice B D.offs.length cb, (Value.int .i64 (D.unit)), (Value.int .i64 (D.wh.full)), (Value.int .i64 (D.wh.read)), (Value.int .i64 (D.wh.slip)), (Value.int .i64 (D.wh.skew)), (Value.int .i64 (D.wh.circle)), (Value.int .i64 (D.wh.glo)), (Value.int .i64 (D.wh.ghi)), (Value.int .i64 (D.wh.wrong)), .slice C D.wks.length cc] 30)) W) => TwiceOf_any b o pa l W ((pp.below (show Below w.heap.size w (w.alloc (.cells #[.slice A D.cs.length ca, .slice B D.offs.length cb, (Value.int .i64 (D.unit)), (Value.int .i64 (D.wh.full)), (Value.int .i64 (D.wh.read)), (Value.int .i64 (D.wh.slip)), (Value.int .i64 (D.wh.skew)), (Value.int .i64 (D.wh.circle)), (Value.int .i64 (D.wh.glo)), (Value.int .i64 (D.wh.ghi)), (Value.int .i64 (D.wh.wrong)), .slice C D.wks.length cc] 30)) by (repeat (first | with_reducible exact Below.refl _ _ | with_reducible apply bl_alloc | with_reducible apply bl_drew | with_reducible apply bl_after | (with_reducible refine bl_call ?_ (by assumption)))))).below h) hl.1 hl.2 hok.2.1
  have hb := twd_bd hok
  have ha := arD_bd hD hok
  have hu := hD.u0
  have hab := Lib.hid (rAbs8_any (tw l) (by omega))
  have hq : (D.unit == 0) = false := by simp; omega
  have hq2 : ¬ D.unit = 0 := by omega
  have hq3 : (0 : Int) < D.unit := by omega
  have hA := Lib.hid (show arD D l = (max (tw l) (-tw l)).tdiv D.unit from rfl)
  unfold arD at ha
  have z1 : IntKind.i64.wrap ((max (tw l) (-tw l)).tdiv D.unit) = (max (tw l) (-tw l)).tdiv D.unit := IntWalk.i64_in _ (by omega)
  have y1 := wrap64_in (x := (max (tw l) (-tw l)).tdiv D.unit) (by omega) (by omega)
  (have la := e0.lt); (have ya0 := e0.cell 0); (have ya1 := e0.cell 1); (have ya2 := e0.cell 2); (have ya3 := e0.cell 3); (have ya4 := e0.cell 4); (have ya5 := e0.cell 5); (have ya6 := e0.cell 6); (have ya7 := e0.cell 7); (have ya8 := e0.cell 8); (have ya9 := e0.cell 9); (have ya10 := e0.cell 10); (have ya11 := e0.cell 11); simp only [List.getElem?_toArray, List.getElem?_cons_zero, List.getElem?_cons_succ] at ya0 ya1 ya2 ya3 ya4 ya5 ya6 ya7 ya8 ya9 ya10 ya11
  clear hp pp hok hl hD hb ha hu
  go_enter Tryz.func21, Tryz.ntmps21
  go_upto_region 1 with fail
  refine wp_region_after (by kernel_rfl) (by kernel_rfl) ?_; (repeat (go_big_quiet_step (((first | (go_at_call 49; with_reducible exact calls_after (ht.out _ (After.ok _))) | (go_at_call 48; with_reducible exact calls_after_same (hab.out _))))))); refine wpQuiet_nil ?_; rintro _ ⟨z, rfl⟩; (first | ((with_reducible apply kp_in_after (z := z)); (with_reducible assumption); rintro ⟨hk, hc, hf, hzc, hzf⟩) | ((with_reducible refine kp_in_after0 z ?_); rintro ⟨hk, hc, hf, hzc, hzf⟩))
  go_wp2
  go_ret
  exact ⟨ret_int hA.out.symm, by (repeat (first | with_reducible exact Below.refl _ _ | with_reducible apply bl_alloc | with_reducible apply bl_drew | with_reducible apply bl_after | (with_reducible refine bl_call ?_ (by assumption))))⟩
variable (ha : Pts w A D.cs) (hb : Ints w B D.offs) (hc : Wks w C D.wks)
include ha hb
set_option maxRecDepth 100000 in
set_option maxHeartbeats 4000000 in
theorem rIsField8 (hD : DspOk D) (hp : Pts w P l) (hl : l.length ≤ 1000000) :
    Calls Tryz.prog 30 #[(Value.agg #[.slice A D.cs.length ca, .slice B D.offs.length cb, (Value.int .i64 (D.unit)), (Value.int .i64 (D.wh.full)), (Value.int .i64 (D.wh.read)), (Value.int .i64 (D.wh.slip)), (Value.int .i64 (D.wh.skew)), (Value.int .i64 (D.wh.circle)), (Value.int .i64 (D.wh.glo)), (Value.int .i64 (D.wh.ghi)), (Value.int .i64 (D.wh.wrong)), .slice C D.wks.length cc]), .slice P l.length pa] w fun e w' => e = .returned (.bool (isFB D l)) ∧ Below w.heap.size w w' := by
  have e0 : Blk (w.alloc (.cells #[.slice A D.cs.length ca, .slice B D.offs.length cb, (Value.int .i64 (D.unit)), (Value.int .i64 (D.wh.full)), (Value.int .i64 (D.wh.read)), (Value.int .i64 (D.wh.slip)), (Value.int .i64 (D.wh.skew)), (Value.int .i64 (D.wh.circle)), (Value.int .i64 (D.wh.glo)), (Value.int .i64 (D.wh.ghi)), (Value.int .i64 (D.wh.wrong)), .slice C D.wks.length cc] 30)) w.heap.size 30 #[.slice A D.cs.length ca, .slice B D.offs.length cb, (Value.int .i64 (D.unit)), (Value.int .i64 (D.wh.full)), (Value.int .i64 (D.wh.read)), (Value.int .i64 (D.wh.slip)), (Value.int .i64 (D.wh.skew)), (Value.int .i64 (D.wh.circle)), (Value.int .i64 (D.wh.glo)), (Value.int .i64 (D.wh.ghi)), (Value.int .i64 (D.wh.wrong)), .slice C D.wks.length cc] := Blk.new _ _ _
  have hb0 : Below w.heap.size w (w.alloc (.cells #[.slice A D.cs.length ca, .slice B D.offs.length cb, (Value.int .i64 (D.unit)), (Value.int .i64 (D.wh.full)), (Value.int .i64 (D.wh.read)), (Value.int .i64 (D.wh.slip)), (Value.int .i64 (D.wh.skew)), (Value.int .i64 (D.wh.circle)), (Value.int .i64 (D.wh.glo)), (Value.int .i64 (D.wh.ghi)), (Value.int .i64 (D.wh.wrong)), .slice C D.wks.length cc] 30)) := by (repeat (first | with_reducible exact Below.refl _ _ | with_reducible apply bl_alloc | with_reducible apply bl_drew | with_reducible apply bl_after | (with_reducible refine bl_call ?_ (by assumption))))
  by_cases hlen : l.length = D.cs.length
  · have hne : ((l.length : Int) != (D.cs.length : Int)) = false := by simp [hlen]
    have hC := fun (W : World) (h : Below w.heap.size w W) => rCheck_any P pa l W (hp.below h) hl
    by_cases hok : Ok l
    · rw [chk_ok hok] at hC
      replace hC := Lib.hid hC
      have hAr := Lib.hid fun (W : World) (h : Below w.heap.size w W) => rAreaOf8 A B C ca cb cc D W P pa l hD (hp.below h) hok
      have HL := Lib.hid (And.intro hlen (And.intro ha (And.intro hb hp)))
      have HD := Lib.hid hD
      have HO := Lib.hid hok
      have e0' := Lib.hid e0
      (have la := e0.lt); (have ya0 := e0.cell 0); (have ya1 := e0.cell 1); (have ya2 := e0.cell 2); (have ya3 := e0.cell 3); (have ya4 := e0.cell 4); (have ya5 := e0.cell 5); (have ya6 := e0.cell 6); (have ya7 := e0.cell 7); (have ya8 := e0.cell 8); (have ya9 := e0.cell 9); (have ya10 := e0.cell 10); (have ya11 := e0.cell 11); simp only [List.getElem?_toArray, List.getElem?_cons_zero, List.getElem?_cons_succ] at ya0 ya1 ya2 ya3 ya4 ya5 ya6 ya7 ya8 ya9 ya10 ya11
      clear ha hb hp hlen hok hD
      go_enter Tryz.func30, Tryz.ntmps30
      go_upto_region 3 with ((go_at_call 58); (with_reducible refine Calls.mono (hC.out _ (by (repeat (first | with_reducible exact Below.refl _ _ | with_reducible apply bl_alloc | with_reducible apply bl_drew | with_reducible apply bl_after | (with_reducible refine bl_call ?_ (by assumption)))))) ?_); rintro e wn ⟨rfl, hbn⟩; first | ((with_reducible apply kp_in_step (hb := hbn)); (with_reducible assumption); rintro ⟨hk, hc, hf, hzc, hzf⟩) | ((with_reducible refine kp_in_first hbn ?_); rintro ⟨hk, hc, hf, hzc, hzf⟩))
      have hB1 : Below ((w.alloc (.cells #[.slice A D.cs.length ca, .slice B D.offs.length cb, (Value.int .i64 (D.unit)), (Value.int .i64 (D.wh.full)), (Value.int .i64 (D.wh.read)), (Value.int .i64 (D.wh.slip)), (Value.int .i64 (D.wh.skew)), (Value.int .i64 (D.wh.circle)), (Value.int .i64 (D.wh.glo)), (Value.int .i64 (D.wh.ghi)), (Value.int .i64 (D.wh.wrong)), .slice C D.wks.length cc] 30))).heap.size (w.alloc (.cells #[.slice A D.cs.length ca, .slice B D.offs.length cb, (Value.int .i64 (D.unit)), (Value.int .i64 (D.wh.full)), (Value.int .i64 (D.wh.read)), (Value.int .i64 (D.wh.slip)), (Value.int .i64 (D.wh.skew)), (Value.int .i64 (D.wh.circle)), (Value.int .i64 (D.wh.glo)), (Value.int .i64 (D.wh.ghi)), (Value.int .i64 (D.wh.wrong)), .slice C D.wks.length cc] 30)) wn := by (repeat (first | with_reducible exact Below.refl _ _ | with_reducible apply bl_alloc | with_reducible apply bl_drew | with_reducible apply bl_after | (with_reducible refine bl_call ?_ (by assumption))))
      have hbx : Below w.heap.size w wn := bl_call hb0 hB1
      have HB := e0'.out.below hB1
      clear la ya0 ya1 ya2 ya3 ya4 ya5 ya6 ya7 ya8 ya9 ya10 ya11 e0 e0' hB1 hbn hb0
      ((try clear hk hc hf hzc hzf); (try clear hk hc hf hzc hzf); (try clear hk hc hf hzc hzf); (try clear hk hc hf hzc hzf))
      go_wp2
      go_loopg [5] l.length (fun g i wr => ∃ k : Nat, k ≤ l.length ∧ g = l.length - k ∧ i = (Value.int .i64 ((k : Int))) ∧ (∀ j, j < k → nearB D l j = true) ∧ Blk wr w.heap.size 30 #[.slice A D.cs.length ca, .slice B D.offs.length cb, (Value.int .i64 (D.unit)), (Value.int .i64 (D.wh.full)), (Value.int .i64 (D.wh.read)), (Value.int .i64 (D.wh.slip)), (Value.int .i64 (D.wh.skew)), (Value.int .i64 (D.wh.circle)), (Value.int .i64 (D.wh.glo)), (Value.int .i64 (D.wh.ghi)), (Value.int .i64 (D.wh.wrong)), .slice C D.wks.length cc] ∧ Below w.heap.size w wr)
      case atStart => exact ⟨0, Nat.zero_le _, rfl, rfl, (fun j hj => by omega), HB, hbx⟩
      case round =>
        clear HB
        obtain ⟨k, kn, rfl, rfl, HP, HB, hbw⟩ := hrel
        replace HP := Lib.hid HP
        have HB' := Lib.hid HB
        (have la := HB.lt); (have ya0 := HB.cell 0); (have ya1 := HB.cell 1); (have ya2 := HB.cell 2); (have ya3 := HB.cell 3); (have ya4 := HB.cell 4); (have ya5 := HB.cell 5); (have ya6 := HB.cell 6); (have ya7 := HB.cell 7); (have ya8 := HB.cell 8); (have ya9 := HB.cell 9); (have ya10 := HB.cell 10); (have ya11 := HB.cell 11); simp only [List.getElem?_toArray, List.getElem?_cons_zero, List.getElem?_cons_succ] at ya0 ya1 ya2 ya3 ya4 ya5 ya6 ya7 ya8 ya9 ya10 ya11
        by_cases hlt : k < l.length
        · have hk2 : k < D.cs.length := by have := HL.out.1; omega
          have hk3 : k < D.offs.length := by have := HD.out.lo; omega
          obtain ⟨b1, o1, rfl, p1⟩ := (HL.out.2.1.below hbw).at_ hk2
          obtain ⟨b2, o2, rfl, p2⟩ := (HL.out.2.2.1.below hbw).at_ hk3
          obtain ⟨b3, o3, rfl, p3⟩ := (HL.out.2.2.2.below hbw).at_ hlt
          have x1 := p1.xp hk2
          have x2 := p1.yp hk2
          have x3 := p2.xi hk3
          have x4 := p3.xp hlt
          have x5 := p3.yp hlt
          have lb1 := p1.lt
          have lb2 := p2.lt
          have lb3 := p3.lt
          have i1 : (k : Int) < (l.length : Int) := by omega
          have i2 : (k : Int) < (D.cs.length : Int) := by omega
          have i3 : (k : Int) < (D.offs.length : Int) := by omega
          have i0 : (0 : Int) ≤ (k : Int) := by omega
          have q1 := isPt_bd (HD.out.ok.2.1 k hk2)
          have q2 := isPt_bd (HO.out.2.1 k hlt)
          have q3 := HD.out.off k hk3
          have hnb : nearB D l k = (decide (max ((pat l k).1 - (pat D.cs k).1) (-((pat l k).1 - (pat D.cs k).1)) ≤ iat D.offs k) && decide (max ((pat l k).2 - (pat D.cs k).2) (-((pat l k).2 - (pat D.cs k).2)) ≤ iat D.offs k)) := rfl
          have z1 : IntKind.i64.wrap ((pat l k).1 - (pat D.cs k).1) = (pat l k).1 - (pat D.cs k).1 := IntWalk.i64_in _ (by omega)
          have z2 : IntKind.i64.wrap ((pat l k).2 - (pat D.cs k).2) = (pat l k).2 - (pat D.cs k).2 := IntWalk.i64_in _ (by omega)
          have y1 := wrap64_in (x := (pat l k).1 - (pat D.cs k).1) (by omega) (by omega)
          have y2 := wrap64_in (x := (pat l k).2 - (pat D.cs k).2) (by omega) (by omega)
          have hab := Lib.hid (rAbs8_any ((pat l k).1 - (pat D.cs k).1) (by omega))
          have hac := Lib.hid (rAbs8_any ((pat l k).2 - (pat D.cs k).2) (by omega))
          clear p1 p2 p3 HB q1 q2 q3
          by_cases hx : max ((pat l k).1 - (pat D.cs k).1) (-((pat l k).1 - (pat D.cs k).1)) ≤ iat D.offs k
          · have hx1 : decide (iat D.offs k < max ((pat l k).1 - (pat D.cs k).1) (-((pat l k).1 - (pat D.cs k).1))) = false := decide_eq_false (by omega)
            by_cases hy : max ((pat l k).2 - (pat D.cs k).2) (-((pat l k).2 - (pat D.cs k).2)) ≤ iat D.offs k
            · have hy1 : decide (iat D.offs k < max ((pat l k).2 - (pat D.cs k).2) (-((pat l k).2 - (pat D.cs k).2))) = false := decide_eq_false (by omega)
              have HN := Lib.hid (show nearB D l k = true by rw [hnb, decide_eq_true hx, decide_eq_true hy]; rfl)
              clear hnb hx hy
              go_upto_region 6 with fail
              refine wp_region_after (by kernel_rfl) (by kernel_rfl) ?_; (repeat (go_big_quiet_step (((first | (go_at_call 48; with_reducible exact calls_after_same (hab.out _)) | (go_at_call 48; with_reducible exact calls_after_same (hac.out _))))))); refine wpQuiet_nil ?_; rintro _ ⟨z, rfl⟩; (first | ((with_reducible apply kp_in_after (z := z)); (with_reducible assumption); rintro ⟨hk, hc, hf, hzc, hzf⟩) | ((with_reducible refine kp_in_after0 z ?_); rintro ⟨hk, hc, hf, hzc, hzf⟩))
              go_wp2
              go_roundg (l.length - (k + 1))
              case measure => omega
              case rel => exact ⟨k + 1, by omega, rfl, by go_num, lt_succ8 (P := fun j => nearB D l j = true) HP.out HN.out, HB'.out.below z.ok, by (repeat (first | with_reducible exact Below.refl _ _ | with_reducible apply bl_alloc | with_reducible apply bl_drew | with_reducible apply bl_after | (with_reducible refine bl_call ?_ (by assumption))))⟩
            · have hy1 : decide (iat D.offs k < max ((pat l k).2 - (pat D.cs k).2) (-((pat l k).2 - (pat D.cs k).2))) = true := decide_eq_true (by omega)
              have HN := Lib.hid (show isFB D l = false by
                have h0 : nearB D l k = false := by rw [hnb, decide_eq_false hy, Bool.and_false]
                have h1 : ((List.range D.cs.length).all (nearB D l)) = false := List.all_eq_false.2 ⟨k, List.mem_range.2 hk2, by simp [h0]⟩
                rw [isFB, h1, Bool.and_false, Bool.false_and])
              clear hnb hx hy
              go_upto_region 6 with fail
              refine wp_region_after (by kernel_rfl) (by kernel_rfl) ?_; (repeat (go_big_quiet_step (((first | (go_at_call 48; with_reducible exact calls_after_same (hab.out _)) | (go_at_call 48; with_reducible exact calls_after_same (hac.out _))))))); refine wpQuiet_nil ?_; rintro _ ⟨z, rfl⟩; (first | ((with_reducible apply kp_in_after (z := z)); (with_reducible assumption); rintro ⟨hk, hc, hf, hzc, hzf⟩) | ((with_reducible refine kp_in_after0 z ?_); rintro ⟨hk, hc, hf, hzc, hzf⟩))
              go_wp2
              go_ret
              exact ⟨ret_bool HN.out.symm, by (repeat (first | with_reducible exact Below.refl _ _ | with_reducible apply bl_alloc | with_reducible apply bl_drew | with_reducible apply bl_after | (with_reducible refine bl_call ?_ (by assumption))))⟩
          · have hx1 : decide (iat D.offs k < max ((pat l k).1 - (pat D.cs k).1) (-((pat l k).1 - (pat D.cs k).1))) = true := decide_eq_true (by omega)
            have HN := Lib.hid (show isFB D l = false by
              have h0 : nearB D l k = false := by rw [hnb, decide_eq_false hx, Bool.false_and]
              have h1 : ((List.range D.cs.length).all (nearB D l)) = false := List.all_eq_false.2 ⟨k, List.mem_range.2 hk2, by simp [h0]⟩
              rw [isFB, h1, Bool.and_false, Bool.false_and])
            clear hnb hx
            go_upto_region 6 with fail
            refine wp_region_after (by kernel_rfl) (by kernel_rfl) ?_; (repeat (go_big_quiet_step (((first | (go_at_call 48; with_reducible exact calls_after_same (hab.out _)) | (go_at_call 48; with_reducible exact calls_after_same (hac.out _))))))); refine wpQuiet_nil ?_; rintro _ ⟨z, rfl⟩; (first | ((with_reducible apply kp_in_after (z := z)); (with_reducible assumption); rintro ⟨hk, hc, hf, hzc, hzf⟩) | ((with_reducible refine kp_in_after0 z ?_); rintro ⟨hk, hc, hf, hzc, hzf⟩))
            go_wp2
            go_ret
            exact ⟨ret_bool HN.out.symm, by (repeat (first | with_reducible exact Below.refl _ _ | with_reducible apply bl_alloc | with_reducible apply bl_drew | with_reducible apply bl_after | (with_reducible refine bl_call ?_ (by assumption))))⟩
        · obtain rfl : k = l.length := by omega
          have HN := Lib.hid (show isFB D l = within (arD D l) D.wh.glo D.wh.ghi by
            have h1 : ((List.range D.cs.length).all (nearB D l)) = true := List.all_eq_true.2 fun i hi => HP.out i (by have := HL.out.1; have := List.mem_range.1 hi; omega)
            rw [isFB, h1, decide_eq_true HL.out.1, decide_eq_true HO.out]; rfl)
          have hA2 := Lib.hid fun (W : World) (h : Below wr.heap.size wr W) => hAr.out W (bl_call hbw h)
          clear HB
          go_upto_region 8 with fail
          refine wp_region_after (by kernel_rfl) (by kernel_rfl) ?_; (repeat (go_big_quiet_step (((first | (go_at_call 21; with_reducible exact calls_after (hA2.out _ (After.ok _))) | (go_at_call 44; with_reducible exact calls_after_same (r8Within_any _ _ _ _))))))); refine wpQuiet_nil ?_; rintro _ ⟨z, rfl⟩; (first | ((with_reducible apply kp_in_after (z := z)); (with_reducible assumption); rintro ⟨hk, hc, hf, hzc, hzf⟩) | ((with_reducible refine kp_in_after0 z ?_); rintro ⟨hk, hc, hf, hzc, hzf⟩))
          go_wp2
          go_ret
          exact ⟨ret_bool HN.out.symm, by (repeat (first | with_reducible exact Below.refl _ _ | with_reducible apply bl_alloc | with_reducible apply bl_drew | with_reducible apply bl_after | (with_reducible refine bl_call ?_ (by assumption))))⟩
    · have hk := chk_no hok
      have HN := Lib.hid (show isFB D l = false by rw [isFB, decide_eq_false hok, Bool.and_false, Bool.false_and, Bool.false_and])
      rw [hk] at hC
      replace hC := Lib.hid hC
      (have la := e0.lt); (have ya0 := e0.cell 0); (have ya1 := e0.cell 1); (have ya2 := e0.cell 2); (have ya3 := e0.cell 3); (have ya4 := e0.cell 4); (have ya5 := e0.cell 5); (have ya6 := e0.cell 6); (have ya7 := e0.cell 7); (have ya8 := e0.cell 8); (have ya9 := e0.cell 9); (have ya10 := e0.cell 10); (have ya11 := e0.cell 11); simp only [List.getElem?_toArray, List.getElem?_cons_zero, List.getElem?_cons_succ] at ya0 ya1 ya2 ya3 ya4 ya5 ya6 ya7 ya8 ya9 ya10 ya11
      clear ha hb hp hlen hok hD hk
      go_enter Tryz.func30, Tryz.ntmps30
      go_wp2_with ((go_at_call 58); (with_reducible refine Calls.mono (hC.out _ (by (repeat (first | with_reducible exact Below.refl _ _ | with_reducible apply bl_alloc | with_reducible apply bl_drew | with_reducible apply bl_after | (with_reducible refine bl_call ?_ (by assumption)))))) ?_); rintro e wn ⟨rfl, hbn⟩; first | ((with_reducible apply kp_in_step (hb := hbn)); (with_reducible assumption); rintro ⟨hk, hc, hf, hzc, hzf⟩) | ((with_reducible refine kp_in_first hbn ?_); rintro ⟨hk, hc, hf, hzc, hzf⟩))
      go_ret
      exact ⟨ret_bool HN.out.symm, by (repeat (first | with_reducible exact Below.refl _ _ | with_reducible apply bl_alloc | with_reducible apply bl_drew | with_reducible apply bl_after | (with_reducible refine bl_call ?_ (by assumption))))⟩
  · have hne : ((l.length : Int) != (D.cs.length : Int)) = true := by rw [bne_iff_ne]; omega
    have HN := Lib.hid (show isFB D l = false by rw [isFB, decide_eq_false hlen, Bool.false_and, Bool.false_and, Bool.false_and])
    (have la := e0.lt); (have ya0 := e0.cell 0); (have ya1 := e0.cell 1); (have ya2 := e0.cell 2); (have ya3 := e0.cell 3); (have ya4 := e0.cell 4); (have ya5 := e0.cell 5); (have ya6 := e0.cell 6); (have ya7 := e0.cell 7); (have ya8 := e0.cell 8); (have ya9 := e0.cell 9); (have ya10 := e0.cell 10); (have ya11 := e0.cell 11); simp only [List.getElem?_toArray, List.getElem?_cons_zero, List.getElem?_cons_succ] at ya0 ya1 ya2 ya3 ya4 ya5 ya6 ya7 ya8 ya9 ya10 ya11
    clear ha hb hp hlen hD
    go_enter Tryz.func30, Tryz.ntmps30
    go_wp2
    go_ret
    exact ⟨ret_bool HN.out.symm, by (repeat (first | with_reducible exact Below.refl _ _ | with_reducible apply bl_alloc | with_reducible apply bl_drew | with_reducible apply bl_after | (with_reducible refine bl_call ?_ (by assumption))))⟩
end
end Go.Proofs.YthijegacjboclaaGreat
