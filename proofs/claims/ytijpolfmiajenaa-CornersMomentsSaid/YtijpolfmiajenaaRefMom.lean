/- The functions First, Second and Centre of knurlref02 answer the moments and the centre of a valid polygon, and their error for other points. -/
import Derived.Test.YtijpolfmiajenaaTwiceOf
import Derived.Test.YtijpolfmiajenaaCentre
import Derived.Test.YtijpolfmiajenaaTold
import Derived.Test.YtijpolfmiajenaaPts
import Derived.Deep.RegionHeld3
import Derived.StillTactics
namespace Go.Proofs.Ytijpolfmiajenaa
open Go.RowKit
attribute [local go_sem] After.cell After.frozen

section
variable {W : World} {A B C : Obj} {t : TypeId} {a : Array Value}
theorem blk3_a : Blk (((W.alloc (.cells a t)).alloc B).alloc C) W.heap.size t a := ((Blk.new W t a).alloc _).alloc _
theorem blk3_b : Blk (((W.alloc A).alloc (.cells a t)).alloc C) (W.heap.size + 1) t a := by
  have h := (Blk.new (W.alloc A) t a).alloc C
  simpa using h
theorem blk3_c : Blk (((W.alloc A).alloc B).alloc (.cells a t)) (W.heap.size + 1 + 1) t a := by
  have h := Blk.new ((W.alloc A).alloc B) t a
  simpa using h
end

set_option maxHeartbeats 1000000 in
theorem products_any (a b c : Int) (w : World) (ha : -200 ≤ a ∧ a ≤ 200) (hb : -200 ≤ b ∧ b ≤ 200) (hc : -200 ≤ c ∧ c ≤ 200) :
    Calls Try.prog 71 #[(Value.int .i64 (a)), (Value.int .i64 (b)), (Value.int .i64 (c))] w fun e w' => e = .returned (Value.int .i64 (prods a b c)) ∧ w = w' := by
  have b1 := sq_parts ha hb
  have b2 := sq_parts hb hc
  have b3 := sq_parts hc ha
  have m1 := wrap64_in (x := a * a) (by omega) (by omega)
  have m2 := wrap64_in (x := b * b) (by omega) (by omega)
  have m3 := wrap64_in (x := c * c) (by omega) (by omega)
  have m4 := wrap64_in (x := a * b) (by omega) (by omega)
  have m5 := wrap64_in (x := b * c) (by omega) (by omega)
  have m6 := wrap64_in (x := c * a) (by omega) (by omega)
  have m7 := wrap64_in (x := a * a + b * b) (by omega) (by omega)
  have m8 := wrap64_in (x := a * a + b * b + c * c) (by omega) (by omega)
  have m9 := wrap64_in (x := a * a + b * b + c * c + a * b) (by omega) (by omega)
  have m10 := wrap64_in (x := a * a + b * b + c * c + a * b + b * c) (by omega) (by omega)
  have m11 := wrap64_in (x := a * a + b * b + c * c + a * b + b * c + c * a) (by omega) (by omega)
  clear b1 b2 b3
  go_enter Try.func71, Try.ntmps71
  go_wp2
  go_ret
  exact ⟨ret_int m11, rfl⟩
theorem prods_bd {a b c : Int} (ha : -200 ≤ a ∧ a ≤ 200) (hb : -200 ≤ b ∧ b ≤ 200) (hc : -200 ≤ c ∧ c ≤ 200) : -240000 ≤ prods a b c ∧ prods a b c ≤ 240000 := by
  have b1 := sq_parts ha hb
  have b2 := sq_parts hb hc
  have b3 := sq_parts hc ha
  unfold prods
  omega
theorem xyp_bd {a b c : Pt} (ha : isPt a = true) (hb : isPt b = true) (hc : isPt c = true) :
    (-360000 ≤ (a.1 + b.1 + c.1) * (a.2 + b.2 + c.2) ∧ (a.1 + b.1 + c.1) * (a.2 + b.2 + c.2) ≤ 360000) ∧ (-40000 ≤ a.1 * a.2 ∧ a.1 * a.2 ≤ 40000) ∧ (-40000 ≤ b.1 * b.2 ∧ b.1 * b.2 ≤ 40000) ∧ (-40000 ≤ c.1 * c.2 ∧ c.1 * c.2 ≤ 40000) := by
  have a0 := isPt_bd ha
  have b0 := isPt_bd hb
  have c0 := isPt_bd hc
  exact ⟨mul_bd (A := 600) (B := 600) (by omega) (by omega) (by omega) (by omega), mul_bd (A := 200) (B := 200) (by omega) (by omega) (by omega) (by omega), mul_bd (A := 200) (B := 200) (by omega) (by omega) (by omega) (by omega), mul_bd (A := 200) (B := 200) (by omega) (by omega) (by omega) (by omega)⟩
theorem F_bd {a b c : Pt} (ha : isPt a = true) (hb : isPt b = true) (hc : isPt c = true) : (-192000000 ≤ fFst a b c ∧ fFst a b c ≤ 192000000) ∧ (-192000000 ≤ fSnd a b c ∧ fSnd a b c ≤ 192000000) ∧
    (-153600000000 ≤ fXX a b c ∧ fXX a b c ≤ 153600000000) ∧ (-153600000000 ≤ fXY a b c ∧ fXY a b c ≤ 153600000000) ∧ (-153600000000 ≤ fYY a b c ∧ fYY a b c ≤ 153600000000) := by
  have a0 := isPt_bd ha
  have b0 := isPt_bd hb
  have c0 := isPt_bd hc
  have t := turn_bd ha hb hc
  have p1 := prods_bd a0.1 b0.1 c0.1
  have p2 := prods_bd a0.2 b0.2 c0.2
  have p3 := xyp_bd ha hb hc
  exact ⟨mul_bd (A := 320000) (B := 600) t.1 t.2 (by omega) (by omega), mul_bd (A := 320000) (B := 600) t.1 t.2 (by omega) (by omega), mul_bd (A := 320000) (B := 480000) t.1 t.2 (by omega) (by omega), mul_bd (A := 320000) (B := 480000) t.1 t.2 (by omega) (by omega), mul_bd (A := 320000) (B := 480000) t.1 t.2 (by omega) (by omega)⟩

set_option maxRecDepth 100000 in
set_option maxHeartbeats 4000000 in
theorem rFirst_ok (b o ca : Nat) (l : List Pt) (w : World) (hp : PtsAt w b o l) (hok : Ok l) :
    Calls Try.prog 35 #[.slice (some ⟨b, o, none⟩) l.length ca] w fun e w' => e = .returned (.tuple #[(Value.int .i64 (mx l)), (Value.int .i64 (my l)), (Value.int .i64 (0))]) ∧ Below w.heap.size w w' := by
  have h3 : 3 ≤ l.length := hok.1.1
  have hl10 : l.length ≤ 10 := hok.1.2
  have hc := Lib.hid fun (W : World) (hW : Below w.heap.size w W) => rCheck_any (some ⟨b, o, none⟩) ca l W (.inr ⟨b, o, rfl, hp.below hW⟩) (by omega)
  rw [chk_ok hok] at hc
  have hFan := Lib.hid fun (W : World) (hW : Below w.heap.size w W) => Fan_any b o ca l W (hp.below hW) h3 (by omega)
  have HB1 := Lib.hid (fanTo_bd (F := fFst) (M := 192000000) (l := l) hok.2.1 (fun a b c ha hb hc => (F_bd ha hb hc).1) (by omega))
  have HB2 := Lib.hid (fanTo_bd (F := fSnd) (M := 192000000) (l := l) hok.2.1 (fun a b c ha hb hc => (F_bd ha hb hc).2.1) (by omega))
  have HP := Lib.hid hok.2.1
  have t1 : mx l = fanTo fFst l (l.length - 2) := mx_fan (by omega)
  have t2 : my l = fanTo fSnd l (l.length - 2) := my_fan (by omega)
  rw [t1, t2]
  clear hp hok t1 t2
  go_enter Try.func35, Try.ntmps35
  go_wp2_with (first | (go_at_call 23; with_reducible refine Calls.mono (hc.out _ (by (repeat (first | with_reducible exact Below.refl _ _ | with_reducible apply bl_alloc | with_reducible apply bl_drew | with_reducible apply bl_after | (with_reducible refine bl_call ?_ (by assumption)))))) ?_; rintro e w1 ⟨rfl, hb1⟩; first | ((with_reducible apply kp_in_step (hb := hb1)); (with_reducible assumption); rintro ⟨hk, hc, hf, hzc, hzf⟩) | ((with_reducible refine kp_in_first hb1 ?_); rintro ⟨hk, hc, hf, hzc, hzf⟩)) | ((go_at_call 66); (with_reducible refine Calls.mono (hFan.out _ (by (repeat (first | with_reducible exact Below.refl _ _ | with_reducible apply bl_alloc | with_reducible apply bl_drew | with_reducible apply bl_after | (with_reducible refine bl_call ?_ (by assumption)))))) ?_); rintro e w1 ⟨g, c, rfl, hown, hb1⟩))
  have hbW : Below w.heap.size w w1 := by (repeat (first | with_reducible exact Below.refl _ _ | with_reducible apply bl_alloc | with_reducible apply bl_drew | with_reducible apply bl_after | (with_reducible refine bl_call ?_ (by assumption))))
  go_loopg [2, 3, 7] l.length (fun gg x y i wr => ∃ k : Nat, k + 2 ≤ l.length ∧ gg = l.length - k ∧ x = (Value.int .i64 (fanTo fFst l k)) ∧ y = (Value.int .i64 (fanTo fSnd l k)) ∧ i = (Value.int .i64 ((k : Int))) ∧ Below w1.heap.size w1 wr)
  case atStart => exact ⟨0, by omega, rfl, rfl, rfl, rfl, Below.refl _ _⟩
  case round =>
    obtain ⟨k, kn, rfl, rfl, rfl, rfl, hbw⟩ := hrel
    by_cases hlt : k + 2 < l.length
    · have hbd1 := HB1.out (k + 1) (by omega)
      have hbd2 := HB2.out (k + 1) (by omega)
      have p0 := HP.out 0 (by omega)
      have p1 := HP.out (k + 1) (by omega)
      have p2 := HP.out (k + 2) (by omega)
      have x := fan_cells hown (k := k) (by omega)
      obtain ⟨⟨x1, x2⟩, ⟨x3, x4⟩, x5, x6⟩ := x
      have lg := (hown.lt g rfl).2
      rw [← hbw.cell (p := ⟨g, _, none⟩) lg] at x1 x2 x3 x4 x5 x6
      have lg2 := Nat.lt_of_lt_of_le lg hbw.size
      have i1 : (0 : Int) ≤ (k : Int) := by omega
      have i2 : (k : Int) < ((l.length - 2 : Nat) : Int) := by omega
      have T1 : ∀ O1 O2 O3 : Obj, (((wr.alloc O1).alloc O2).alloc O3).cell? ⟨g, k * 6, none⟩ = some (Value.int .i64 ((pat l 0).1)) := fun _ _ _ => (Below.cell (w := wr) (p := ⟨g, _, none⟩) (by (repeat (first | with_reducible exact Below.refl _ _ | with_reducible apply bl_alloc | with_reducible apply bl_drew | with_reducible apply bl_after | (with_reducible refine bl_call ?_ (by assumption))))) lg2).trans x1
      have T2 : ∀ O1 O2 O3 : Obj, (((wr.alloc O1).alloc O2).alloc O3).cell? ⟨g, k * 6 + 1, none⟩ = some (Value.int .i64 ((pat l 0).2)) := fun _ _ _ => (Below.cell (w := wr) (p := ⟨g, _, none⟩) (by (repeat (first | with_reducible exact Below.refl _ _ | with_reducible apply bl_alloc | with_reducible apply bl_drew | with_reducible apply bl_after | (with_reducible refine bl_call ?_ (by assumption))))) lg2).trans x2
      have T3 : ∀ O1 O2 O3 : Obj, (((wr.alloc O1).alloc O2).alloc O3).cell? ⟨g, k * 6 + 2, none⟩ = some (Value.int .i64 ((pat l (k + 1)).1)) := fun _ _ _ => (Below.cell (w := wr) (p := ⟨g, _, none⟩) (by (repeat (first | with_reducible exact Below.refl _ _ | with_reducible apply bl_alloc | with_reducible apply bl_drew | with_reducible apply bl_after | (with_reducible refine bl_call ?_ (by assumption))))) lg2).trans x3
      have T4 : ∀ O1 O2 O3 : Obj, (((wr.alloc O1).alloc O2).alloc O3).cell? ⟨g, k * 6 + 2 + 1, none⟩ = some (Value.int .i64 ((pat l (k + 1)).2)) := fun _ _ _ => (Below.cell (w := wr) (p := ⟨g, _, none⟩) (by (repeat (first | with_reducible exact Below.refl _ _ | with_reducible apply bl_alloc | with_reducible apply bl_drew | with_reducible apply bl_after | (with_reducible refine bl_call ?_ (by assumption))))) lg2).trans x4
      have T5 : ∀ O1 O2 O3 : Obj, (((wr.alloc O1).alloc O2).alloc O3).cell? ⟨g, k * 6 + 4, none⟩ = some (Value.int .i64 ((pat l (k + 2)).1)) := fun _ _ _ => (Below.cell (w := wr) (p := ⟨g, _, none⟩) (by (repeat (first | with_reducible exact Below.refl _ _ | with_reducible apply bl_alloc | with_reducible apply bl_drew | with_reducible apply bl_after | (with_reducible refine bl_call ?_ (by assumption))))) lg2).trans x5
      have T6 : ∀ O1 O2 O3 : Obj, (((wr.alloc O1).alloc O2).alloc O3).cell? ⟨g, k * 6 + 4 + 1, none⟩ = some (Value.int .i64 ((pat l (k + 2)).2)) := fun _ _ _ => (Below.cell (w := wr) (p := ⟨g, _, none⟩) (by (repeat (first | with_reducible exact Below.refl _ _ | with_reducible apply bl_alloc | with_reducible apply bl_drew | with_reducible apply bl_after | (with_reducible refine bl_call ?_ (by assumption))))) lg2).trans x6
      go_upto_region 8 with fail
      go_cut [8, 9, 10] (fun s8 s9 s10 wx => ∃ g8 g9 g10 : Nat, s8 = .pointer (some ⟨g8, 0, none⟩) ∧ s9 = .pointer (some ⟨g9, 0, none⟩) ∧ s10 = .pointer (some ⟨g10, 0, none⟩) ∧ Blk wx g8 33 #[(Value.int .i64 ((pat l 0).1)), (Value.int .i64 ((pat l 0).2))] ∧ Blk wx g9 33 #[(Value.int .i64 ((pat l (k + 1)).1)), (Value.int .i64 ((pat l (k + 1)).2))] ∧ Blk wx g10 33 #[(Value.int .i64 ((pat l (k + 2)).1)), (Value.int .i64 ((pat l (k + 2)).2))] ∧ Below w1.heap.size w1 wx)
      case first =>
        go_region_held3 (fun w' => w'.cell? ⟨g, k * 6, none⟩ = some (Value.int .i64 ((pat l 0).1)) ∧ w'.cell? ⟨g, k * 6 + 1, none⟩ = some (Value.int .i64 ((pat l 0).2)) ∧ w'.cell? ⟨g, k * 6 + 2, none⟩ = some (Value.int .i64 ((pat l (k + 1)).1)) ∧ w'.cell? ⟨g, k * 6 + 2 + 1, none⟩ = some (Value.int .i64 ((pat l (k + 1)).2)) ∧ w'.cell? ⟨g, k * 6 + 4, none⟩ = some (Value.int .i64 ((pat l (k + 2)).1)) ∧ w'.cell? ⟨g, k * 6 + 4 + 1, none⟩ = some (Value.int .i64 ((pat l (k + 2)).2))) (go_keep) (fail)
        all_goals (go_wp2_with fail; go_meet; exact ⟨_, _, _, rfl, rfl, rfl, (by first | exact blk3_a | exact blk3_b | exact blk3_c | exact blk3_a.drewn | exact blk3_b.drewn | exact blk3_c.drewn), (by first | exact blk3_a | exact blk3_b | exact blk3_c | exact blk3_a.drewn | exact blk3_b.drewn | exact blk3_c.drewn), (by first | exact blk3_a | exact blk3_b | exact blk3_c | exact blk3_a.drewn | exact blk3_b.drewn | exact blk3_c.drewn), by (repeat (first | with_reducible assumption | with_reducible exact Below.refl _ _ | with_reducible apply bl_alloc | with_reducible apply bl_drew | with_reducible apply bl_after | (with_reducible refine bl_call ?_ (by assumption)) | (with_reducible refine bl_setc ?_ (by omega))))⟩)
      case rest =>
        obtain ⟨g8, g9, g10, rfl, rfl, rfl, c8, c9, c10, hbx⟩ := hcut
        clear x1 x2 x3 x4 x5 x6 T1 T2 T3 T4 T5 T6 lg lg2 hbw
        have y0 := c8.cell 0
        have y1 := c8.cell 1
        have z0 := c9.cell 0
        have z1 := c9.cell 1
        have v0 := c10.cell 0
        have v1 := c10.cell 1
        have l8 := c8.lt
        have l9 := c9.lt
        have l10 := c10.lt
        simp only [List.getElem?_toArray, List.getElem?_cons_zero, List.getElem?_cons_succ] at y0 y1 z0 z1 v0 v1
        have q0 := isPt_bd p0
        have q1 := isPt_bd p1
        have q2 := isPt_bd p2
        have qf := F_bd p0 p1 p2
        have e1 : fanTo fFst l (k + 1) = fanTo fFst l k + turn (pat l 0) (pat l (k + 1)) (pat l (k + 2)) * ((pat l 0).1 + (pat l (k + 1)).1 + (pat l (k + 2)).1) := rfl
        have e2 : fanTo fSnd l (k + 1) = fanTo fSnd l k + turn (pat l 0) (pat l (k + 1)) (pat l (k + 2)) * ((pat l 0).2 + (pat l (k + 1)).2 + (pat l (k + 2)).2) := rfl
        unfold fFst fSnd at qf
        have m1 := wrap64_in (x := turn (pat l 0) (pat l (k + 1)) (pat l (k + 2)) * ((pat l 0).1 + (pat l (k + 1)).1 + (pat l (k + 2)).1)) (by omega) (by omega)
        have m2 := wrap64_in (x := turn (pat l 0) (pat l (k + 1)) (pat l (k + 2)) * ((pat l 0).2 + (pat l (k + 1)).2 + (pat l (k + 2)).2)) (by omega) (by omega)
        rw [e1] at hbd1
        rw [e2] at hbd2
        have m3 := wrap64_in (x := fanTo fFst l k + turn (pat l 0) (pat l (k + 1)) (pat l (k + 2)) * ((pat l 0).1 + (pat l (k + 1)).1 + (pat l (k + 2)).1)) (by omega) (by omega)
        have m4 := wrap64_in (x := fanTo fSnd l k + turn (pat l 0) (pat l (k + 1)) (pat l (k + 2)) * ((pat l 0).2 + (pat l (k + 1)).2 + (pat l (k + 2)).2)) (by omega) (by omega)
        have m5 := wrap64_in (x := (pat l 0).1 + (pat l (k + 1)).1) (by omega) (by omega)
        have m6 := wrap64_in (x := (pat l 0).2 + (pat l (k + 1)).2) (by omega) (by omega)
        have m7 := wrap64_in (x := (pat l 0).1 + (pat l (k + 1)).1 + (pat l (k + 2)).1) (by omega) (by omega)
        have m8 := wrap64_in (x := (pat l 0).2 + (pat l (k + 1)).2 + (pat l (k + 2)).2) (by omega) (by omega)
        clear qf q0 q1 q2 hbd1 hbd2
        go_wp2_with (go_at_call 42; with_reducible refine Calls.mono (rTurn_any _ _ _ p0 p1 p2 _) ?_; rintro e w1 ⟨rfl, hb1⟩; first | ((with_reducible apply kp_in_step (hb := hb1)); (with_reducible assumption); rintro ⟨hk, hc, hf, hzc, hzf⟩) | ((with_reducible refine kp_in_first hb1 ?_); rintro ⟨hk, hc, hf, hzc, hzf⟩))
        go_roundg (l.length - (k + 1))
        case measure => omega
        case rel => exact ⟨k + 1, by omega, rfl, by rw [e1, m3], by rw [e2, m4], by go_num, bl_call hbx (by assumption)⟩
    · obtain rfl : k = l.length - 2 := by omega
      go_wp2
      go_ret3
      exact ⟨rfl, hbW.trans (hbw.mono hbW.size)⟩
set_option maxHeartbeats 400000 in
theorem rFirst_no (A : Option Addr) (ca : Nat) (l : List Pt) (w : World) (ha : Pts w A l) (hla : l.length ≤ 1000000) (hok : ¬ Ok l) :
    Calls Try.prog 35 #[.slice A l.length ca] w fun e w' => e = .returned (.tuple #[(Value.int .i64 (0)), (Value.int .i64 (0)), (Value.int .i64 (20))]) ∧ Below w.heap.size w w' := by
  have hc := rCheck_any A ca l w ha hla
  rw [chk_no hok] at hc
  clear ha hok
  go_enter Try.func35, Try.ntmps35
  go_wp2_with ((with_reducible refine Calls.mono hc ?_); rintro e w1 ⟨rfl, hb1⟩)
  go_ret3
  exact ⟨rfl, by (repeat (first | with_reducible exact Below.refl _ _ | with_reducible apply bl_alloc | with_reducible apply bl_drew | with_reducible apply bl_after | (with_reducible refine bl_call ?_ (by assumption))))⟩
set_option maxHeartbeats 400000 in
theorem rSecond_no (A : Option Addr) (ca : Nat) (l : List Pt) (w : World) (ha : Pts w A l) (hla : l.length ≤ 1000000) (hok : ¬ Ok l) :
    Calls Try.prog 37 #[.slice A l.length ca] w fun e w' => e = .returned (.tuple #[(Value.int .i64 (0)), (Value.int .i64 (0)), (Value.int .i64 (0)), (Value.int .i64 (20))]) ∧ Below w.heap.size w w' := by
  have hc := rCheck_any A ca l w ha hla
  rw [chk_no hok] at hc
  clear ha hok
  go_enter Try.func37, Try.ntmps37
  go_wp2_with ((with_reducible refine Calls.mono hc ?_); rintro e w1 ⟨rfl, hb1⟩)
  refine bodyPost_ret (v := .tuple #[(Value.int .i64 (0)), (Value.int .i64 (0)), (Value.int .i64 (0)), (Value.int .i64 (20))]) (by simp [results, Try.results37, go_sem]) rfl ?_
  exact ⟨rfl, by (repeat (first | with_reducible exact Below.refl _ _ | with_reducible apply bl_alloc | with_reducible apply bl_drew | with_reducible apply bl_after | (with_reducible refine bl_call ?_ (by assumption))))⟩
set_option maxRecDepth 100000 in
set_option maxHeartbeats 4000000 in
theorem rSecond_ok (b o ca : Nat) (l : List Pt) (w : World) (hp : PtsAt w b o l) (hok : Ok l) :
    Calls Try.prog 37 #[.slice (some ⟨b, o, none⟩) l.length ca] w fun e w' => e = .returned (.tuple #[(Value.int .i64 (mxx l)), (Value.int .i64 (mxy l)), (Value.int .i64 (myy l)), (Value.int .i64 (0))]) ∧ Below w.heap.size w w' := by
  have h3 : 3 ≤ l.length := hok.1.1
  have hl10 : l.length ≤ 10 := hok.1.2
  have hc := Lib.hid fun (W : World) (hW : Below w.heap.size w W) => rCheck_any (some ⟨b, o, none⟩) ca l W (.inr ⟨b, o, rfl, hp.below hW⟩) (by omega)
  rw [chk_ok hok] at hc
  have hFan := Lib.hid fun (W : World) (hW : Below w.heap.size w W) => Fan_any b o ca l W (hp.below hW) h3 (by omega)
  have HB1 := Lib.hid (fanTo_bd (F := fXX) (M := 153600000000) (l := l) hok.2.1 (fun a b c ha hb hc => (F_bd ha hb hc).2.2.1) (by omega))
  have HB2 := Lib.hid (fanTo_bd (F := fXY) (M := 153600000000) (l := l) hok.2.1 (fun a b c ha hb hc => (F_bd ha hb hc).2.2.2.1) (by omega))
  have HB3 := Lib.hid (fanTo_bd (F := fYY) (M := 153600000000) (l := l) hok.2.1 (fun a b c ha hb hc => (F_bd ha hb hc).2.2.2.2) (by omega))
  have HP := Lib.hid hok.2.1
  have t1 : mxx l = fanTo fXX l (l.length - 2) := mxx_fan (by omega)
  have t2 : mxy l = fanTo fXY l (l.length - 2) := mxy_fan (by omega)
  have t3 : myy l = fanTo fYY l (l.length - 2) := myy_fan (by omega)
  rw [t1, t2, t3]
  clear hp hok t1 t2 t3
  go_enter Try.func37, Try.ntmps37
  go_wp2_with (first | (go_at_call 23; with_reducible refine Calls.mono (hc.out _ (by (repeat (first | with_reducible exact Below.refl _ _ | with_reducible apply bl_alloc | with_reducible apply bl_drew | with_reducible apply bl_after | (with_reducible refine bl_call ?_ (by assumption)))))) ?_; rintro e w1 ⟨rfl, hb1⟩; first | ((with_reducible apply kp_in_step (hb := hb1)); (with_reducible assumption); rintro ⟨hk, hc, hf, hzc, hzf⟩) | ((with_reducible refine kp_in_first hb1 ?_); rintro ⟨hk, hc, hf, hzc, hzf⟩)) | ((go_at_call 66); (with_reducible refine Calls.mono (hFan.out _ (by (repeat (first | with_reducible exact Below.refl _ _ | with_reducible apply bl_alloc | with_reducible apply bl_drew | with_reducible apply bl_after | (with_reducible refine bl_call ?_ (by assumption)))))) ?_); rintro e w1 ⟨g, c, rfl, hown, hb1⟩))
  have hbW : Below w.heap.size w w1 := by (repeat (first | with_reducible exact Below.refl _ _ | with_reducible apply bl_alloc | with_reducible apply bl_drew | with_reducible apply bl_after | (with_reducible refine bl_call ?_ (by assumption))))
  go_loopg [2, 3, 4, 8] l.length (fun gg x xy y i wr => ∃ k : Nat, k + 2 ≤ l.length ∧ gg = l.length - k ∧ x = (Value.int .i64 (fanTo fXX l k)) ∧ xy = (Value.int .i64 (fanTo fXY l k)) ∧ y = (Value.int .i64 (fanTo fYY l k)) ∧ i = (Value.int .i64 ((k : Int))) ∧ Below w1.heap.size w1 wr)
  case atStart => exact ⟨0, by omega, rfl, rfl, rfl, rfl, rfl, Below.refl _ _⟩
  case round =>
    obtain ⟨k, kn, rfl, rfl, rfl, rfl, rfl, hbw⟩ := hrel
    by_cases hlt : k + 2 < l.length
    · have hbd1 := HB1.out (k + 1) (by omega)
      have hbd3 := HB3.out (k + 1) (by omega)
      have hbd2 := HB2.out (k + 1) (by omega)
      have p0 := HP.out 0 (by omega)
      have p1 := HP.out (k + 1) (by omega)
      have p2 := HP.out (k + 2) (by omega)
      have x := fan_cells hown (k := k) (by omega)
      obtain ⟨⟨x1, x2⟩, ⟨x3, x4⟩, x5, x6⟩ := x
      have lg := (hown.lt g rfl).2
      rw [← hbw.cell (p := ⟨g, _, none⟩) lg] at x1 x2 x3 x4 x5 x6
      have lg2 := Nat.lt_of_lt_of_le lg hbw.size
      have i1 : (0 : Int) ≤ (k : Int) := by omega
      have i2 : (k : Int) < ((l.length - 2 : Nat) : Int) := by omega
      have T1 : ∀ O1 O2 O3 : Obj, (((wr.alloc O1).alloc O2).alloc O3).cell? ⟨g, k * 6, none⟩ = some (Value.int .i64 ((pat l 0).1)) := fun _ _ _ => (Below.cell (w := wr) (p := ⟨g, _, none⟩) (by (repeat (first | with_reducible exact Below.refl _ _ | with_reducible apply bl_alloc | with_reducible apply bl_drew | with_reducible apply bl_after | (with_reducible refine bl_call ?_ (by assumption))))) lg2).trans x1
      have T2 : ∀ O1 O2 O3 : Obj, (((wr.alloc O1).alloc O2).alloc O3).cell? ⟨g, k * 6 + 1, none⟩ = some (Value.int .i64 ((pat l 0).2)) := fun _ _ _ => (Below.cell (w := wr) (p := ⟨g, _, none⟩) (by (repeat (first | with_reducible exact Below.refl _ _ | with_reducible apply bl_alloc | with_reducible apply bl_drew | with_reducible apply bl_after | (with_reducible refine bl_call ?_ (by assumption))))) lg2).trans x2
      have T3 : ∀ O1 O2 O3 : Obj, (((wr.alloc O1).alloc O2).alloc O3).cell? ⟨g, k * 6 + 2, none⟩ = some (Value.int .i64 ((pat l (k + 1)).1)) := fun _ _ _ => (Below.cell (w := wr) (p := ⟨g, _, none⟩) (by (repeat (first | with_reducible exact Below.refl _ _ | with_reducible apply bl_alloc | with_reducible apply bl_drew | with_reducible apply bl_after | (with_reducible refine bl_call ?_ (by assumption))))) lg2).trans x3
      have T4 : ∀ O1 O2 O3 : Obj, (((wr.alloc O1).alloc O2).alloc O3).cell? ⟨g, k * 6 + 2 + 1, none⟩ = some (Value.int .i64 ((pat l (k + 1)).2)) := fun _ _ _ => (Below.cell (w := wr) (p := ⟨g, _, none⟩) (by (repeat (first | with_reducible exact Below.refl _ _ | with_reducible apply bl_alloc | with_reducible apply bl_drew | with_reducible apply bl_after | (with_reducible refine bl_call ?_ (by assumption))))) lg2).trans x4
      have T5 : ∀ O1 O2 O3 : Obj, (((wr.alloc O1).alloc O2).alloc O3).cell? ⟨g, k * 6 + 4, none⟩ = some (Value.int .i64 ((pat l (k + 2)).1)) := fun _ _ _ => (Below.cell (w := wr) (p := ⟨g, _, none⟩) (by (repeat (first | with_reducible exact Below.refl _ _ | with_reducible apply bl_alloc | with_reducible apply bl_drew | with_reducible apply bl_after | (with_reducible refine bl_call ?_ (by assumption))))) lg2).trans x5
      have T6 : ∀ O1 O2 O3 : Obj, (((wr.alloc O1).alloc O2).alloc O3).cell? ⟨g, k * 6 + 4 + 1, none⟩ = some (Value.int .i64 ((pat l (k + 2)).2)) := fun _ _ _ => (Below.cell (w := wr) (p := ⟨g, _, none⟩) (by (repeat (first | with_reducible exact Below.refl _ _ | with_reducible apply bl_alloc | with_reducible apply bl_drew | with_reducible apply bl_after | (with_reducible refine bl_call ?_ (by assumption))))) lg2).trans x6
      go_upto_region 8 with fail
      go_cut [9, 10, 11] (fun s8 s9 s10 wx => ∃ g8 g9 g10 : Nat, s8 = .pointer (some ⟨g8, 0, none⟩) ∧ s9 = .pointer (some ⟨g9, 0, none⟩) ∧ s10 = .pointer (some ⟨g10, 0, none⟩) ∧ Blk wx g8 33 #[(Value.int .i64 ((pat l 0).1)), (Value.int .i64 ((pat l 0).2))] ∧ Blk wx g9 33 #[(Value.int .i64 ((pat l (k + 1)).1)), (Value.int .i64 ((pat l (k + 1)).2))] ∧ Blk wx g10 33 #[(Value.int .i64 ((pat l (k + 2)).1)), (Value.int .i64 ((pat l (k + 2)).2))] ∧ Below w1.heap.size w1 wx)
      case first =>
        go_region_held3 (fun w' => w'.cell? ⟨g, k * 6, none⟩ = some (Value.int .i64 ((pat l 0).1)) ∧ w'.cell? ⟨g, k * 6 + 1, none⟩ = some (Value.int .i64 ((pat l 0).2)) ∧ w'.cell? ⟨g, k * 6 + 2, none⟩ = some (Value.int .i64 ((pat l (k + 1)).1)) ∧ w'.cell? ⟨g, k * 6 + 2 + 1, none⟩ = some (Value.int .i64 ((pat l (k + 1)).2)) ∧ w'.cell? ⟨g, k * 6 + 4, none⟩ = some (Value.int .i64 ((pat l (k + 2)).1)) ∧ w'.cell? ⟨g, k * 6 + 4 + 1, none⟩ = some (Value.int .i64 ((pat l (k + 2)).2))) (go_keep) (fail)
        all_goals (go_wp2_with fail; go_meet; exact ⟨_, _, _, rfl, rfl, rfl, (by first | exact blk3_a | exact blk3_b | exact blk3_c | exact blk3_a.drewn | exact blk3_b.drewn | exact blk3_c.drewn), (by first | exact blk3_a | exact blk3_b | exact blk3_c | exact blk3_a.drewn | exact blk3_b.drewn | exact blk3_c.drewn), (by first | exact blk3_a | exact blk3_b | exact blk3_c | exact blk3_a.drewn | exact blk3_b.drewn | exact blk3_c.drewn), by (repeat (first | with_reducible assumption | with_reducible exact Below.refl _ _ | with_reducible apply bl_alloc | with_reducible apply bl_drew | with_reducible apply bl_after | (with_reducible refine bl_call ?_ (by assumption)) | (with_reducible refine bl_setc ?_ (by omega))))⟩)
      case rest =>
        obtain ⟨g8, g9, g10, rfl, rfl, rfl, c8, c9, c10, hbx⟩ := hcut
        clear x1 x2 x3 x4 x5 x6 T1 T2 T3 T4 T5 T6 lg lg2 hbw
        have y0 := c8.cell 0
        have y1 := c8.cell 1
        have z0 := c9.cell 0
        have z1 := c9.cell 1
        have v0 := c10.cell 0
        have v1 := c10.cell 1
        have l8 := c8.lt
        have l9 := c9.lt
        have l10 := c10.lt
        simp only [List.getElem?_toArray, List.getElem?_cons_zero, List.getElem?_cons_succ] at y0 y1 z0 z1 v0 v1
        have q0 := isPt_bd p0
        have q1 := isPt_bd p1
        have q2 := isPt_bd p2
        have qf := F_bd p0 p1 p2
        have qp := xyp_bd p0 p1 p2
        have e1 : fanTo fXX l (k + 1) = fanTo fXX l k + turn (pat l 0) (pat l (k + 1)) (pat l (k + 2)) * prods (pat l 0).1 (pat l (k + 1)).1 (pat l (k + 2)).1 := rfl
        have e2 : fanTo fXY l (k + 1) = fanTo fXY l k + turn (pat l 0) (pat l (k + 1)) (pat l (k + 2)) * (((pat l 0).1 + (pat l (k + 1)).1 + (pat l (k + 2)).1) * ((pat l 0).2 + (pat l (k + 1)).2 + (pat l (k + 2)).2) + (pat l 0).1 * (pat l 0).2 + (pat l (k + 1)).1 * (pat l (k + 1)).2 + (pat l (k + 2)).1 * (pat l (k + 2)).2) := rfl
        have e3 : fanTo fYY l (k + 1) = fanTo fYY l k + turn (pat l 0) (pat l (k + 1)) (pat l (k + 2)) * prods (pat l 0).2 (pat l (k + 1)).2 (pat l (k + 2)).2 := rfl
        unfold fXX fXY fYY at qf
        rw [e1] at hbd1
        rw [e2] at hbd2
        rw [e3] at hbd3
        have m1 := wrap64_in (x := turn (pat l 0) (pat l (k + 1)) (pat l (k + 2)) * prods (pat l 0).1 (pat l (k + 1)).1 (pat l (k + 2)).1) (by omega) (by omega)
        have m2 := wrap64_in (x := turn (pat l 0) (pat l (k + 1)) (pat l (k + 2)) * (((pat l 0).1 + (pat l (k + 1)).1 + (pat l (k + 2)).1) * ((pat l 0).2 + (pat l (k + 1)).2 + (pat l (k + 2)).2) + (pat l 0).1 * (pat l 0).2 + (pat l (k + 1)).1 * (pat l (k + 1)).2 + (pat l (k + 2)).1 * (pat l (k + 2)).2)) (by omega) (by omega)
        have m3 := wrap64_in (x := turn (pat l 0) (pat l (k + 1)) (pat l (k + 2)) * prods (pat l 0).2 (pat l (k + 1)).2 (pat l (k + 2)).2) (by omega) (by omega)
        have m4 := wrap64_in (x := fanTo fXX l k + turn (pat l 0) (pat l (k + 1)) (pat l (k + 2)) * prods (pat l 0).1 (pat l (k + 1)).1 (pat l (k + 2)).1) (by omega) (by omega)
        have m5 := wrap64_in (x := fanTo fXY l k + turn (pat l 0) (pat l (k + 1)) (pat l (k + 2)) * (((pat l 0).1 + (pat l (k + 1)).1 + (pat l (k + 2)).1) * ((pat l 0).2 + (pat l (k + 1)).2 + (pat l (k + 2)).2) + (pat l 0).1 * (pat l 0).2 + (pat l (k + 1)).1 * (pat l (k + 1)).2 + (pat l (k + 2)).1 * (pat l (k + 2)).2)) (by omega) (by omega)
        have m6 := wrap64_in (x := fanTo fYY l k + turn (pat l 0) (pat l (k + 1)) (pat l (k + 2)) * prods (pat l 0).2 (pat l (k + 1)).2 (pat l (k + 2)).2) (by omega) (by omega)
        have m7 := wrap64_in (x := (pat l 0).1 + (pat l (k + 1)).1) (by omega) (by omega)
        have m8 := wrap64_in (x := (pat l 0).2 + (pat l (k + 1)).2) (by omega) (by omega)
        have m9 := wrap64_in (x := (pat l 0).1 + (pat l (k + 1)).1 + (pat l (k + 2)).1) (by omega) (by omega)
        have m10 := wrap64_in (x := (pat l 0).2 + (pat l (k + 1)).2 + (pat l (k + 2)).2) (by omega) (by omega)
        have m11 := wrap64_in (x := ((pat l 0).1 + (pat l (k + 1)).1 + (pat l (k + 2)).1) * ((pat l 0).2 + (pat l (k + 1)).2 + (pat l (k + 2)).2)) (by omega) (by omega)
        have m12 := wrap64_in (x := (pat l 0).1 * (pat l 0).2) (by omega) (by omega)
        have m13 := wrap64_in (x := (pat l (k + 1)).1 * (pat l (k + 1)).2) (by omega) (by omega)
        have m14 := wrap64_in (x := (pat l (k + 2)).1 * (pat l (k + 2)).2) (by omega) (by omega)
        have m15 := wrap64_in (x := ((pat l 0).1 + (pat l (k + 1)).1 + (pat l (k + 2)).1) * ((pat l 0).2 + (pat l (k + 1)).2 + (pat l (k + 2)).2) + (pat l 0).1 * (pat l 0).2) (by omega) (by omega)
        have m16 := wrap64_in (x := ((pat l 0).1 + (pat l (k + 1)).1 + (pat l (k + 2)).1) * ((pat l 0).2 + (pat l (k + 1)).2 + (pat l (k + 2)).2) + (pat l 0).1 * (pat l 0).2 + (pat l (k + 1)).1 * (pat l (k + 1)).2) (by omega) (by omega)
        have m17 := wrap64_in (x := ((pat l 0).1 + (pat l (k + 1)).1 + (pat l (k + 2)).1) * ((pat l 0).2 + (pat l (k + 1)).2 + (pat l (k + 2)).2) + (pat l 0).1 * (pat l 0).2 + (pat l (k + 1)).1 * (pat l (k + 1)).2 + (pat l (k + 2)).1 * (pat l (k + 2)).2) (by omega) (by omega)
        have HPX := Lib.hid fun (V : World) => products_any (pat l 0).1 (pat l (k + 1)).1 (pat l (k + 2)).1 V q0.1 q1.1 q2.1
        have HPY := Lib.hid fun (V : World) => products_any (pat l 0).2 (pat l (k + 1)).2 (pat l (k + 2)).2 V q0.2 q1.2 q2.2
        clear qf qp q0 q1 q2 hbd1 hbd2 hbd3
        go_wp2_with (first | (go_at_call 42; with_reducible refine Calls.mono (rTurn_any _ _ _ p0 p1 p2 _) ?_; rintro e w1 ⟨rfl, hb1⟩; first | ((with_reducible apply kp_in_step (hb := hb1)); (with_reducible assumption); rintro ⟨hk, hc, hf, hzc, hzf⟩) | ((with_reducible refine kp_in_first hb1 ?_); rintro ⟨hk, hc, hf, hzc, hzf⟩)) | (go_at_call 71; with_reducible refine Calls.mono (HPX.out _) ?_; rintro e w' ⟨rfl, rfl⟩) | (go_at_call 71; with_reducible refine Calls.mono (HPY.out _) ?_; rintro e w' ⟨rfl, rfl⟩))
        go_roundg (l.length - (k + 1))
        case measure => omega
        case rel => exact ⟨k + 1, by omega, rfl, by first | rw [e1, m4] | rw [e1], by first | rw [e2, m5] | rw [e2], by first | rw [e3, m6] | rw [e3], by go_num, bl_call hbx (by assumption)⟩
    · obtain rfl : k = l.length - 2 := by omega
      go_wp2
      refine bodyPost_ret (v := .tuple #[(Value.int .i64 (fanTo fXX l (l.length - 2))), (Value.int .i64 (fanTo fXY l (l.length - 2))), (Value.int .i64 (fanTo fYY l (l.length - 2))), (Value.int .i64 (0))]) (by simp [results, Try.results37, go_sem]) rfl ?_
      exact ⟨rfl, hbW.trans (hbw.mono hbW.size)⟩
set_option maxRecDepth 100000 in
set_option maxHeartbeats 2000000 in
theorem rCentre_no (A : Option Addr) (ca : Nat) (l : List Pt) (w : World) (ha : Pts w A l) (hla : l.length ≤ 1000000) (hok : ¬ Ok l) :
    Calls Try.prog 39 #[.slice A l.length ca] w fun e w' => e = .returned (.tuple #[(Value.agg #[.int .i64 ((0 : Int), (0 : Int)).1, .int .i64 ((0 : Int), (0 : Int)).2]), (Value.agg #[.int .i64 ((0 : Int), (0 : Int)).1, .int .i64 ((0 : Int), (0 : Int)).2]), (Value.int .i64 (20))]) ∧ Below w.heap.size w w' := by
  have hc := fun W hW => rFirst_no A ca l W (ha.below (w' := W) hW) hla hok
  replace hc := Lib.hid hc
  clear hok
  go_enter Try.func39, Try.ntmps39
  go_wp2_with (first | (go_at_call 35; with_reducible refine Calls.mono (hc.out _ (by (repeat (first | with_reducible exact Below.refl _ _ | with_reducible apply bl_alloc | with_reducible apply bl_drew | with_reducible apply bl_after | (with_reducible refine bl_call ?_ (by assumption)))))) ?_; rintro e w1 ⟨rfl, hb1⟩; first | ((with_reducible apply kp_in_step (hb := hb1)); (with_reducible assumption); rintro ⟨hk, hc, hf, hzc, hzf⟩) | ((with_reducible refine kp_in_first hb1 ?_); rintro ⟨hk, hc, hf, hzc, hzf⟩)))
  (try go_region)
  (try go_wp2)
  have b0 : Blk w1 w.heap.size 40 #[(Value.int .i64 (0)), (Value.int .i64 (0))] := ((Blk.new w _ _).alloc _).below (by assumption)
  have b1 : Blk w1 (w.heap.size + 1) 40 #[(Value.int .i64 (0)), (Value.int .i64 (0))] := by
    have h := (Blk.new (w.alloc (.cells #[(Value.int .i64 (0)), (Value.int .i64 (0))] 40)) 40 #[(Value.int .i64 (0)), (Value.int .i64 (0))]).below (w' := w1) (by assumption)
    simpa using h
  have hx := two_rats b0 b1 (Value.int .i64 (0)) (Value.int .i64 (0)) (Value.int .i64 (0)) (Value.int .i64 (0))
  have hB : Below w.heap.size w w1 := by (repeat (first | with_reducible exact Below.refl _ _ | with_reducible apply bl_alloc | with_reducible apply bl_drew | with_reducible apply bl_after | (with_reducible refine bl_call ?_ (by assumption))))
  (try simp only [Exit.inBlock, Exit.then])
  refine bodyPost_ret (v := .tuple #[(Value.agg #[.int .i64 ((0 : Int), (0 : Int)).1, .int .i64 ((0 : Int), (0 : Int)).2]), (Value.agg #[.int .i64 ((0 : Int), (0 : Int)).1, .int .i64 ((0 : Int), (0 : Int)).2]), (Value.int .i64 (20))]) (by simp [results, Try.results39, go_sem, hx]) rfl ?_
  first | exact ⟨rfl, (((hB.setCell (p := ⟨w.heap.size, 0, none⟩) (by simp) _).setCell (p := ⟨w.heap.size, 1, none⟩) (by simp) _).setCell (p := ⟨w.heap.size + 1, 0, none⟩) (by simp) _).setCell (p := ⟨w.heap.size + 1, 1, none⟩) (by simp) _⟩ | exact ⟨rfl, bl_drew ((((hB.setCell (p := ⟨w.heap.size, 0, none⟩) (by simp) _).setCell (p := ⟨w.heap.size, 1, none⟩) (by simp) _).setCell (p := ⟨w.heap.size + 1, 0, none⟩) (by simp) _).setCell (p := ⟨w.heap.size + 1, 1, none⟩) (by simp) _)⟩
set_option maxRecDepth 100000 in
set_option maxHeartbeats 2000000 in
theorem rCentre_ok (b o ca : Nat) (l : List Pt) (w : World) (hp : PtsAt w b o l) (hok : Ok l) :
    Calls Try.prog 39 #[.slice (some ⟨b, o, none⟩) l.length ca] w fun e w' => e = .returned (.tuple #[(Value.agg #[.int .i64 (cenX l).1, .int .i64 (cenX l).2]), (Value.agg #[.int .i64 (cenY l).1, .int .i64 (cenY l).2]), (Value.int .i64 (0))]) ∧ Below w.heap.size w w' := by
  have hF := Lib.hid fun (W : World) (hW : Below w.heap.size w W) => rFirst_ok b o ca l W (hp.below hW) hok
  have hT := Lib.hid fun (W : World) (hW : Below w.heap.size w W) => TwiceOf_any b o ca l W (hp.below hW) hok.1.1 hok.1.2 hok.2.1
  have t1 := tw_bd hok
  have t2 := mx_bd hok
  have t3 := my_bd hok
  have t4 := tw_ne hok
  have m1 := wrap64_in (x := 3 * tw l) (by omega) (by omega)
  clear hok
  go_enter Try.func39, Try.ntmps39
  go_wp2_with (first | (go_at_call 35; with_reducible refine Calls.mono (hF.out _ (by (repeat (first | with_reducible exact Below.refl _ _ | with_reducible apply bl_alloc | with_reducible apply bl_drew | with_reducible apply bl_after | (with_reducible refine bl_call ?_ (by assumption)))))) ?_; rintro e w1 ⟨rfl, hb1⟩; first | ((with_reducible apply kp_in_step (hb := hb1)); (with_reducible assumption); rintro ⟨hk, hc, hf, hzc, hzf⟩) | ((with_reducible refine kp_in_first hb1 ?_); rintro ⟨hk, hc, hf, hzc, hzf⟩)) | (go_at_call 58; with_reducible refine Calls.mono (hT.out _ (by (repeat (first | with_reducible exact Below.refl _ _ | with_reducible apply bl_alloc | with_reducible apply bl_drew | with_reducible apply bl_after | (with_reducible refine bl_call ?_ (by assumption)))))) ?_; rintro e w1 ⟨rfl, hb1⟩; first | ((with_reducible apply kp_in_step (hb := hb1)); (with_reducible assumption); rintro ⟨hk, hc, hf, hzc, hzf⟩) | ((with_reducible refine kp_in_first hb1 ?_); rintro ⟨hk, hc, hf, hzc, hzf⟩)) | (go_at_call 32; with_reducible refine Calls.mono (Lowest_any _ _ _ (by omega) (by omega) (by omega)) ?_; rintro e w1 ⟨rfl, hb1⟩; first | ((with_reducible apply kp_in_step (hb := hb1)); (with_reducible assumption); rintro ⟨hk, hc, hf, hzc, hzf⟩) | ((with_reducible refine kp_in_first hb1 ?_); rintro ⟨hk, hc, hf, hzc, hzf⟩)))
  have b0 : Blk w1 w.heap.size 40 #[(Value.int .i64 (0)), (Value.int .i64 (0))] := (((((Blk.new w _ _).alloc _).below (by assumption)).below (by assumption)).below (by assumption)).below (by assumption)
  have b1 : Blk w1 (w.heap.size + 1) 40 #[(Value.int .i64 (0)), (Value.int .i64 (0))] := by
    have h := ((((Blk.new (w.alloc (.cells #[(Value.int .i64 (0)), (Value.int .i64 (0))] 40)) 40 #[(Value.int .i64 (0)), (Value.int .i64 (0))]).below (by assumption)).below (by assumption)).below (by assumption)).below (w' := w1) (by assumption)
    simpa using h
  have hx := two_rats b0 b1 (Value.int .i64 ((lowOf (mx l) (3 * tw l)).1)) (Value.int .i64 ((lowOf (mx l) (3 * tw l)).2)) (Value.int .i64 ((lowOf (my l) (3 * tw l)).1)) (Value.int .i64 ((lowOf (my l) (3 * tw l)).2))
  have y0 : ∀ u, (w1.setCell ⟨w.heap.size, 0, none⟩ u).cell? ⟨w.heap.size, 0, none⟩ = some u := fun u => by simpa using (b0.set_ 0 u).cell 0
  have y1 : ∀ u v, ((w1.setCell ⟨w.heap.size, 0, none⟩ u).setCell ⟨w.heap.size, 1, none⟩ v).cell? ⟨w.heap.size, 1, none⟩ = some v := fun u v => by simpa using ((b0.set_ 0 u).set_ 1 v).cell 1
  have y2 : ∀ u v x, (((w1.setCell ⟨w.heap.size, 0, none⟩ u).setCell ⟨w.heap.size, 1, none⟩ v).setCell ⟨w.heap.size + 1, 0, none⟩ x).cell? ⟨w.heap.size + 1, 0, none⟩ = some x := fun u v x => by simpa using (((b1.far (p := ⟨w.heap.size, 0, none⟩) (by simp) u).far (p := ⟨w.heap.size, 1, none⟩) (by simp) v).set_ 0 x).cell 0
  have hB : Below w.heap.size w w1 := by (repeat (first | with_reducible exact Below.refl _ _ | with_reducible apply bl_alloc | with_reducible apply bl_drew | with_reducible apply bl_after | (with_reducible refine bl_call ?_ (by assumption))))
  (try simp only [Exit.inBlock, Exit.then])
  refine bodyPost_ret (v := .tuple #[(Value.agg #[.int .i64 (cenX l).1, .int .i64 (cenX l).2]), (Value.agg #[.int .i64 (cenY l).1, .int .i64 (cenY l).2]), (Value.int .i64 (0))]) (by simp [results, Try.results39, go_sem, hx, y0, y1, y2, cenX, cenY]) rfl ?_
  first | exact ⟨rfl, (((hB.setCell (p := ⟨w.heap.size, 0, none⟩) (by simp) _).setCell (p := ⟨w.heap.size, 1, none⟩) (by simp) _).setCell (p := ⟨w.heap.size + 1, 0, none⟩) (by simp) _).setCell (p := ⟨w.heap.size + 1, 1, none⟩) (by simp) _⟩ | exact ⟨rfl, bl_drew ((((hB.setCell (p := ⟨w.heap.size, 0, none⟩) (by simp) _).setCell (p := ⟨w.heap.size, 1, none⟩) (by simp) _).setCell (p := ⟨w.heap.size + 1, 0, none⟩) (by simp) _).setCell (p := ⟨w.heap.size + 1, 1, none⟩) (by simp) _)⟩

/-- The centre's numbers of a valid polygon, or 0. -/
def okP (l : List Pt) (p : Pt) : Pt := if Ok l then p else (0, 0)
section
variable (A : Option Addr) (ca : Nat) (l : List Pt) (w : World) (ha : Pts w A l) (hla : l.length ≤ 1000000)
include ha hla
theorem Centre_pts : Calls Try.prog 38 #[.slice A l.length ca] w fun e w' => e = .returned (.tuple #[(Value.agg #[.int .i64 (okP l (cenX l)).1, .int .i64 (okP l (cenX l)).2]), (Value.agg #[.int .i64 (okP l (cenY l)).1, .int .i64 (okP l (cenY l)).2]), (Value.int .i64 (chk l))]) ∧ Below w.heap.size w w' := by
  by_cases hok : Ok l
  · obtain ⟨b, o, rfl, hp⟩ := ha.ok hok
    rw [okP, okP, if_pos hok, if_pos hok, chk_ok hok]
    exact Centre_ok b o ca l w hp hok
  · rw [okP, okP, if_neg hok, if_neg hok, chk_no hok]
    exact Centre_no A ca l w ha hla hok
theorem rCentre_pts : Calls Try.prog 39 #[.slice A l.length ca] w fun e w' => e = .returned (.tuple #[(Value.agg #[.int .i64 (okP l (cenX l)).1, .int .i64 (okP l (cenX l)).2]), (Value.agg #[.int .i64 (okP l (cenY l)).1, .int .i64 (okP l (cenY l)).2]), (Value.int .i64 (chk l))]) ∧ Below w.heap.size w w' := by
  by_cases hok : Ok l
  · obtain ⟨b, o, rfl, hp⟩ := ha.ok hok
    rw [okP, okP, if_pos hok, if_pos hok, chk_ok hok]
    exact rCentre_ok b o ca l w hp hok
  · rw [okP, okP, if_neg hok, if_neg hok, chk_no hok]
    exact rCentre_no A ca l w ha hla hok
theorem rFirst_pts : Calls Try.prog 35 #[.slice A l.length ca] w fun e w' => e = .returned (.tuple #[(Value.int .i64 (okN l (mx l))), (Value.int .i64 (okN l (my l))), (Value.int .i64 (chk l))]) ∧ Below w.heap.size w w' := by
  by_cases hok : Ok l
  · obtain ⟨b, o, rfl, hp⟩ := ha.ok hok
    rw [okN, okN, if_pos hok, if_pos hok, chk_ok hok]
    exact rFirst_ok b o ca l w hp hok
  · rw [okN, okN, if_neg hok, if_neg hok, chk_no hok]
    exact rFirst_no A ca l w ha hla hok
theorem rSecond_pts : Calls Try.prog 37 #[.slice A l.length ca] w fun e w' => e = .returned (.tuple #[(Value.int .i64 (okN l (mxx l))), (Value.int .i64 (okN l (mxy l))), (Value.int .i64 (okN l (myy l))), (Value.int .i64 (chk l))]) ∧ Below w.heap.size w w' := by
  by_cases hok : Ok l
  · obtain ⟨b, o, rfl, hp⟩ := ha.ok hok
    rw [okN, okN, okN, if_pos hok, if_pos hok, if_pos hok, chk_ok hok]
    exact rSecond_ok b o ca l w hp hok
  · rw [okN, okN, okN, if_neg hok, if_neg hok, if_neg hok, chk_no hok]
    exact rSecond_no A ca l w ha hla hok
end
end Go.Proofs.Ytijpolfmiajenaa
