/- The reference's functions Square and Length of sheets. -/
import Derived.Test.YtegdnbceiopklaaGreatLe4
import Derived.Test.YtegdnbceiopklaaGreatRa4
import Derived.Test.YtegdnbceiopklaaGreatRc4
import Derived.Test.YtegdnbceiopklaaGreatTwF
import Derived.Test.YtegdnbceiopklaaGreatRefCheck
namespace Go.Proofs.YtegdnbceiopklaaGreat
open Go.RowKit Go.Shelf
attribute [local go_sem] After.cell After.frozen

theorem hig_up {q : Int × Int} (h : FrOk q) : hig q = if q.1.tmod q.2 = 0 then q.1.tdiv q.2 else q.1.tdiv q.2 + 1 := by
  obtain ⟨⟨h0, h1⟩, h2, h3⟩ := h
  have e1 : q.1.tdiv q.2 = q.1 / q.2 := Int.tdiv_eq_ediv_of_nonneg h0
  have e2 : hig q = (q.1 + q.2 - 1) / q.2 := Int.tdiv_eq_ediv_of_nonneg (by omega)
  have e3 : q.1.tmod q.2 = q.1 % q.2 := Int.tmod_eq_emod_of_nonneg h0
  have d1 := Int.mul_ediv_add_emod q.1 q.2
  have m1 := Int.emod_nonneg q.1 (b := q.2) (by omega)
  have m2 := Int.emod_lt_of_pos q.1 h2
  rw [e1, e2, e3]
  have e4 : q.1 + q.2 - 1 = (q.1 % q.2 + q.2 - 1) + q.2 * (q.1 / q.2) := by omega
  rw [e4, Int.add_mul_ediv_left _ _ (by omega)]
  split
  · rename_i hr
    rw [hr, Int.ediv_eq_zero_of_lt (by omega) (by omega)]
    omega
  · rename_i hr
    rw [show q.1 % q.2 + q.2 - 1 = (q.1 % q.2 - 1) + q.2 * 1 by omega, Int.add_mul_ediv_left _ _ (by omega), Int.ediv_eq_zero_of_lt (by omega) (by omega)]
    omega
theorem fr_bd {q : Int × Int} (h : FrOk q) : (0 ≤ low q ∧ low q ≤ 2000000000000000000) ∧ 0 ≤ q.1.tmod q.2 ∧ q.1.tmod q.2 ≤ 10000000000000 := by
  obtain ⟨⟨h0, h1⟩, h2, h3⟩ := h
  refine ⟨tdiv_bd h0 (by omega) h2, ?_, ?_⟩
  · rw [Int.tmod_eq_emod_of_nonneg h0]; exact Int.emod_nonneg _ (by omega)
  · rw [Int.tmod_eq_emod_of_nonneg h0]; have := Int.emod_lt_of_pos q.1 h2; omega
set_option maxHeartbeats 1000000 in
theorem rUp4 (q : Int × Int) (h : FrOk q) (w : World) :
    Calls Tryz.prog 72 #[(Value.int .i64 (q.1)), (Value.int .i64 (q.2))] w fun e w' => e = .returned (Value.int .i64 (hig q)) ∧ w = w' := by
  have hu := hig_up h
  obtain ⟨b1, b2⟩ := fr_bd h
  have hl : low q = q.1.tdiv q.2 := rfl
  rw [hl] at b1
  obtain ⟨⟨h0, h1⟩, h2, h3⟩ := h
  have hne : ¬ q.2 = 0 := by omega
  have z1 := wrap64_in (x := q.1.tdiv q.2) (by omega) (by omega)
  have z2 := wrap64_in (x := q.1.tmod q.2) (by omega) (by omega)
  have z3 := wrap64_in (x := q.1.tdiv q.2 + 1) (by omega) (by omega)
  by_cases hr : q.1.tmod q.2 = 0
  · rw [if_pos hr] at hu
    replace hu := Lib.hid hu
    have hr2 : (q.1 % q.2 == 0) = true := by rw [← Int.tmod_eq_emod_of_nonneg h0, hr]; rfl
    go_enter Tryz.func72, Tryz.ntmps72
    go_wp2
    go_ret
    exact ⟨by rw [hu.out]; simp [z1], rfl⟩
  · rw [if_neg hr] at hu
    replace hu := Lib.hid hu
    have hr2 : (q.1 % q.2 == 0) = false := by rw [← Int.tmod_eq_emod_of_nonneg h0, beq_eq_false_iff_ne]; exact hr
    go_enter Tryz.func72, Tryz.ntmps72
    go_wp2
    go_ret
    exact ⟨by rw [hu.out]; simp [z1, z3], rfl⟩
def wiLo (lo : Int) (q : Int × Int) (first : Bool) : Int := if first = true then low q else min lo (low q)
def wiHi (hi : Int) (q : Int × Int) (first : Bool) : Int := if first = true then hig q else max hi (hig q)
set_option maxHeartbeats 1000000 in
theorem rWider4 (lo hi : Int) (q : Int × Int) (first : Bool) (h : FrOk q) (w : World) :
    Calls Tryz.prog 43 #[.agg #[(Value.int .i64 (lo)), (Value.int .i64 (hi))], (Value.int .i64 (q.1)), (Value.int .i64 (q.2)), .bool first] w fun e w' => e = .returned (.agg #[(Value.int .i64 (wiLo lo q first)), (Value.int .i64 (wiHi hi q first))]) ∧ Below w.heap.size w w' := by
  have hUp := Lib.hid fun (W : World) => rUp4 q h W
  have b1 := (fr_bd h).1
  have hl : low q = q.1.tdiv q.2 := rfl
  have hne : ¬ q.2 = 0 := by have := h.2; omega
  have z1 : IntKind.i64.wrap (q.1.tdiv q.2) = q.1.tdiv q.2 := IntWalk.i64_in _ (by rw [← hl]; omega)
  have c1 : Blk ((w.alloc (.cells #[(Value.int .i64 (lo)), (Value.int .i64 (hi))] 23)).alloc (.cells #[(Value.int .i64 (0)), (Value.int .i64 (0))] 23)) w.heap.size 23 #[(Value.int .i64 (lo)), (Value.int .i64 (hi))] := (Blk.new _ _ _).alloc _
  have c2 : Blk ((w.alloc (.cells #[(Value.int .i64 (lo)), (Value.int .i64 (hi))] 23)).alloc (.cells #[(Value.int .i64 (0)), (Value.int .i64 (0))] 23)) (w.heap.size + 1) 23 #[(Value.int .i64 (0)), (Value.int .i64 (0))] := Blk.new_at (by simp)
  have hb0 : Below w.heap.size w ((w.alloc (.cells #[(Value.int .i64 (lo)), (Value.int .i64 (hi))] 23)).alloc (.cells #[(Value.int .i64 (0)), (Value.int .i64 (0))] 23)) := by (repeat (first | with_reducible exact Below.refl _ _ | with_reducible apply bl_alloc | with_reducible apply bl_drew | with_reducible apply bl_after | (with_reducible refine bl_call ?_ (by assumption))))
  have C2 := Lib.hid c2
  (have la := c1.lt); (have ya0 := c1.cell 0); (have ya1 := c1.cell 1); simp only [List.getElem?_toArray, List.getElem?_cons_zero, List.getElem?_cons_succ] at ya0 ya1
  (have lb := c2.lt); (have yb0 := c2.cell 0); (have yb1 := c2.cell 1); simp only [List.getElem?_toArray, List.getElem?_cons_zero, List.getElem?_cons_succ] at yb0 yb1
  clear h b1
  cases first
  · go_enter Tryz.func43, Tryz.ntmps43
    go_upto_region 3 with fail
    refine wp_region_after_tail 13 (by kernel_rfl) (by kernel_rfl) ?_; simp only [List.take_succ_cons, List.take_zero, List.drop_succ_cons, List.drop_zero]; (repeat (go_big_quiet_step (((go_at_call 72; with_reducible exact calls_after_same (hUp.out _)))))); refine wpQuiet_nil ?_; rintro _ ⟨z, rfl⟩; (first | ((with_reducible apply kp_in_after (z := z)); (with_reducible assumption); rintro ⟨hk, hc, hf, hzc, hzf⟩) | ((with_reducible refine kp_in_after0 z ?_); rintro ⟨hk, hc, hf, hzc, hzf⟩))
    (have dz := C2.out.below z.ok); (have le := dz.lt); (have ye0 := dz.cell 0); (have ye1 := dz.cell 1); simp only [List.getElem?_toArray, List.getElem?_cons_zero, List.getElem?_cons_succ] at ye0 ye1; (have fe0 := dz.frozen 0); (have fe1 := dz.frozen 1); go_wp2; (have d4 : Blk ((z.val.setCell ⟨w.heap.size + 1, 0, none⟩ (Value.int .i64 ((min lo (q.1.tdiv q.2))))).setCell ⟨w.heap.size + 1, 1, none⟩ (Value.int .i64 ((max hi (hig q))))) (w.heap.size + 1) 23 #[(Value.int .i64 ((min lo (q.1.tdiv q.2)))), (Value.int .i64 ((max hi (hig q))))] := (by (have h := (dz.set_ 0 (Value.int .i64 ((min lo (q.1.tdiv q.2))))).set_ 1 (Value.int .i64 ((max hi (hig q))))); simpa using h)); (have hbX : Below w.heap.size w ((z.val.setCell ⟨w.heap.size + 1, 0, none⟩ (Value.int .i64 ((min lo (q.1.tdiv q.2))))).setCell ⟨w.heap.size + 1, 1, none⟩ (Value.int .i64 ((max hi (hig q))))) := bl_setc (bl_setc (bl_after z hb0) (by omega)) (by omega)); generalize (z.val.setCell ⟨w.heap.size + 1, 0, none⟩ (Value.int .i64 ((min lo (q.1.tdiv q.2))))).setCell ⟨w.heap.size + 1, 1, none⟩ (Value.int .i64 ((max hi (hig q)))) = X at d4 hbX ⊢; (have z4 := d4.cell 0); (have z5 := d4.cell 1); simp only [List.getElem?_toArray, List.getElem?_cons_zero, List.getElem?_cons_succ] at z4 z5; refine bodyPost_ret (v := .agg #[(Value.int .i64 ((min lo (q.1.tdiv q.2)))), (Value.int .i64 ((max hi (hig q))))]) (by simp [results, Tryz.results43, go_sem, z4, z5]) rfl ⟨rfl, hbX⟩
  · go_enter Tryz.func43, Tryz.ntmps43
    go_upto_region 2 with fail
    refine wp_region_after_tail 7 (by kernel_rfl) (by kernel_rfl) ?_; simp only [List.take_succ_cons, List.take_zero, List.drop_succ_cons, List.drop_zero]; (repeat (go_big_quiet_step (((go_at_call 72; with_reducible exact calls_after_same (hUp.out _)))))); refine wpQuiet_nil ?_; rintro _ ⟨z, rfl⟩; (first | ((with_reducible apply kp_in_after (z := z)); (with_reducible assumption); rintro ⟨hk, hc, hf, hzc, hzf⟩) | ((with_reducible refine kp_in_after0 z ?_); rintro ⟨hk, hc, hf, hzc, hzf⟩))
    (have dz := C2.out.below z.ok); (have le := dz.lt); (have ye0 := dz.cell 0); (have ye1 := dz.cell 1); simp only [List.getElem?_toArray, List.getElem?_cons_zero, List.getElem?_cons_succ] at ye0 ye1; (have fe0 := dz.frozen 0); (have fe1 := dz.frozen 1); go_wp2; (have d4 : Blk ((z.val.setCell ⟨w.heap.size + 1, 0, none⟩ (Value.int .i64 ((q.1.tdiv q.2)))).setCell ⟨w.heap.size + 1, 1, none⟩ (Value.int .i64 ((hig q)))) (w.heap.size + 1) 23 #[(Value.int .i64 ((q.1.tdiv q.2))), (Value.int .i64 ((hig q)))] := (by (have h := (dz.set_ 0 (Value.int .i64 ((q.1.tdiv q.2)))).set_ 1 (Value.int .i64 ((hig q)))); simpa using h)); (have hbX : Below w.heap.size w ((z.val.setCell ⟨w.heap.size + 1, 0, none⟩ (Value.int .i64 ((q.1.tdiv q.2)))).setCell ⟨w.heap.size + 1, 1, none⟩ (Value.int .i64 ((hig q)))) := bl_setc (bl_setc (bl_after z hb0) (by omega)) (by omega)); generalize (z.val.setCell ⟨w.heap.size + 1, 0, none⟩ (Value.int .i64 ((q.1.tdiv q.2)))).setCell ⟨w.heap.size + 1, 1, none⟩ (Value.int .i64 ((hig q))) = X at d4 hbX ⊢; (have z4 := d4.cell 0); (have z5 := d4.cell 1); simp only [List.getElem?_toArray, List.getElem?_cons_zero, List.getElem?_cons_succ] at z4 z5; refine bodyPost_ret (v := .agg #[(Value.int .i64 ((q.1.tdiv q.2))), (Value.int .i64 ((hig q)))]) (by simp [results, Tryz.results43, go_sem, z4, z5]) rfl ⟨rfl, hbX⟩
end Go.Proofs.YtegdnbceiopklaaGreat
namespace Go.Proofs.YtegdnbceiopklaaGreat
open Go.RowKit Go.Shelf
attribute [local go_sem] After.cell After.frozen

theorem bLo_snoc (g : Pt → Int × Int) (l : List Pt) (x : Pt) : bLo g (l ++ [x]) = wiLo (bLo g l) (g x) (decide (l = [])) := by
  cases l with
  | nil => rfl
  | cons a l =>
    show (l ++ [x]).foldl _ _ = _
    rw [List.foldl_append]
    rfl
theorem bHi_snoc (g : Pt → Int × Int) (l : List Pt) (x : Pt) : bHi g (l ++ [x]) = wiHi (bHi g l) (g x) (decide (l = [])) := by
  cases l with
  | nil => rfl
  | cons a l =>
    show (l ++ [x]).foldl _ _ = _
    rw [List.foldl_append]
    rfl
theorem bLo_take (g : Pt → Int × Int) {l : List Pt} {k : Nat} (h : k < l.length) : bLo g (l.take (k + 1)) = wiLo (bLo g (l.take k)) (g (pat l k)) (decide (k = 0)) := by
  rw [List.take_add_one, pat_get h, Option.toList_some, bLo_snoc]
  congr 1
  refine decide_eq_decide.2 ⟨fun e => ?_, fun e => by rw [e]; rfl⟩
  have := congrArg List.length e
  rw [List.length_take, List.length_nil] at this
  omega
theorem bHi_take (g : Pt → Int × Int) {l : List Pt} {k : Nat} (h : k < l.length) : bHi g (l.take (k + 1)) = wiHi (bHi g (l.take k)) (g (pat l k)) (decide (k = 0)) := by
  rw [List.take_add_one, pat_get h, Option.toList_some, bHi_snoc]
  congr 1
  refine decide_eq_decide.2 ⟨fun e => ?_, fun e => by rw [e]; rfl⟩
  have := congrArg List.length e
  rw [List.length_take, List.length_nil] at this
  omega
theorem arE_eq (S : Sht) (l : List Pt) : knE S (chk l) true = arE S l true := by
  unfold knE arE msE
  by_cases h : shtB S = true
  · simp only [h, if_true]
  · simp only [h]
    simp
theorem arLo_eq (S : Sht) (l : List Pt) : arLo S l = bLo (arQ l) (knL S (chk l) true) := by
  unfold arLo knL
  rw [arE_eq]
  split <;> rfl
theorem arHi_eq (S : Sht) (l : List Pt) : arHi S l = bHi (arQ l) (knL S (chk l) true) := by
  unfold arHi knL
  rw [arE_eq]
  split <;> rfl
theorem knL_mem {S : Sht} {l : List Pt} {f : Pt} (h : f ∈ knL S (chk l) true) : Ok l ∧ FacOk f := by
  unfold knL at h
  split at h
  · rename_i h0
    rw [arE_eq] at h0
    have hms : msE S l = 0 := by
      by_cases hm : msE S l = 0
      · exact hm
      · rw [arE, if_neg hm] at h0; exact absurd h0 hm
    have hop : opS S true = 0 := by rwa [arE, if_pos hms] at h0
    have hS := sht_ok (opS_zero hop).1
    exact ⟨chk_zero (by rwa [msE, if_pos (opS_zero hop).1] at hms), trs_ok hS h⟩
  · cases h
set_option maxRecDepth 100000 in
set_option maxHeartbeats 4000000 in
theorem rArea4 (A B : Option Addr) (ca cb : Nat) (S : Sht) (l : List Pt) (w : World) (ha : Cts w A S.cs) (hb : Pts w B l) (hlb : l.length ≤ 1000000) :
    Calls Tryz.prog 11 #[(Value.agg #[(Value.int .i64 (S.xlo)), (Value.int .i64 (S.xhi)), (Value.int .i64 (S.ylo)), (Value.int .i64 (S.yhi)), .slice A S.cs.length ca, (Value.int .i64 (S.wrong))]), .slice B l.length cb] w fun e w' => e = .returned (.tuple #[.agg #[(Value.int .i64 (arLo S l)), (Value.int .i64 (arHi S l))], (Value.int .i64 (arE S l true))]) ∧ Below w.heap.size w w' := by
  have hKn := fun (W : World) (h : Below w.heap.size w W) => rKnown4 A ca S (chk l) true W (ha.below h)
  have hCk := Lib.hid fun (W : World) (h : Below w.heap.size w W) => rCheck_any B cb l W (hb.below h) hlb
  rw [arE_eq] at hKn
  replace hKn := Lib.hid hKn
  have HM := Lib.hid fun (f : Pt) (hf : f ∈ knL S (chk l) true) => knL_mem hf
  have hlen : (knL S (chk l) true).length ≤ 100000 := by
    unfold knL
    split
    · rename_i h0
      rw [arE_eq] at h0
      have hms : msE S l = 0 := by
        by_cases hm : msE S l = 0
        · exact hm
        · rw [arE, if_neg hm] at h0; exact absurd h0 hm
      have hop : opS S true = 0 := by rwa [arE, if_pos hms] at h0
      exact trs_bd (sht_ok (opS_zero hop).1)
    · simp
  rw [arLo_eq, arHi_eq]
  generalize hL : knL S (chk l) true = L at *
  generalize hE : arE S l true = er at *
  clear hL hE
  have c1 : Blk ((w.alloc (.cells #[(Value.int .i64 (S.xlo)), (Value.int .i64 (S.xhi)), (Value.int .i64 (S.ylo)), (Value.int .i64 (S.yhi)), .slice A S.cs.length ca, (Value.int .i64 (S.wrong))] 26)).alloc (.cells #[(Value.int .i64 (0)), (Value.int .i64 (0))] 23)) w.heap.size 26 #[(Value.int .i64 (S.xlo)), (Value.int .i64 (S.xhi)), (Value.int .i64 (S.ylo)), (Value.int .i64 (S.yhi)), .slice A S.cs.length ca, (Value.int .i64 (S.wrong))] := (Blk.new _ _ _).alloc _
  have c2 : Blk ((w.alloc (.cells #[(Value.int .i64 (S.xlo)), (Value.int .i64 (S.xhi)), (Value.int .i64 (S.ylo)), (Value.int .i64 (S.yhi)), .slice A S.cs.length ca, (Value.int .i64 (S.wrong))] 26)).alloc (.cells #[(Value.int .i64 (0)), (Value.int .i64 (0))] 23)) (w.heap.size + 1) 23 #[(Value.int .i64 (0)), (Value.int .i64 (0))] := Blk.new_at (by simp)
  have hb0 : Below w.heap.size w ((w.alloc (.cells #[(Value.int .i64 (S.xlo)), (Value.int .i64 (S.xhi)), (Value.int .i64 (S.ylo)), (Value.int .i64 (S.yhi)), .slice A S.cs.length ca, (Value.int .i64 (S.wrong))] 26)).alloc (.cells #[(Value.int .i64 (0)), (Value.int .i64 (0))] 23)) := by (repeat (first | with_reducible exact Below.refl _ _ | with_reducible apply bl_alloc | with_reducible apply bl_drew | with_reducible apply bl_after | (with_reducible refine bl_call ?_ (by assumption))))
  (have la := c1.lt); (have ya0 := c1.cell 0); (have ya1 := c1.cell 1); (have ya2 := c1.cell 2); (have ya3 := c1.cell 3); (have ya4 := c1.cell 4); (have ya5 := c1.cell 5); simp only [List.getElem?_toArray, List.getElem?_cons_zero, List.getElem?_cons_succ] at ya0 ya1 ya2 ya3 ya4 ya5
  clear ha
  go_enter Tryz.func11, Tryz.ntmps11
  go_upto_region 1 with fail
  refine wp_region_CN (fun w' => ∃ z : After ((w.alloc (.cells #[(Value.int .i64 (S.xlo)), (Value.int .i64 (S.xhi)), (Value.int .i64 (S.ylo)), (Value.int .i64 (S.yhi)), .slice A S.cs.length ca, (Value.int .i64 (S.wrong))] 26)).alloc (.cells #[(Value.int .i64 (0)), (Value.int .i64 (0))] 23)), w' = z.val) (by kernel_rfl) ?_
  change wpAnyC _ _ _ _ _ _ _ (World.drew ((w.alloc (.cells #[(Value.int .i64 (S.xlo)), (Value.int .i64 (S.xhi)), (Value.int .i64 (S.ylo)), (Value.int .i64 (S.yhi)), .slice A S.cs.length ca, (Value.int .i64 (S.wrong))] 26)).alloc (.cells #[(Value.int .i64 (0)), (Value.int .i64 (0))] 23)))
  have hd0 : Below (((w.alloc (.cells #[(Value.int .i64 (S.xlo)), (Value.int .i64 (S.xhi)), (Value.int .i64 (S.ylo)), (Value.int .i64 (S.yhi)), .slice A S.cs.length ca, (Value.int .i64 (S.wrong))] 26)).alloc (.cells #[(Value.int .i64 (0)), (Value.int .i64 (0))] 23))).heap.size ((w.alloc (.cells #[(Value.int .i64 (S.xlo)), (Value.int .i64 (S.xhi)), (Value.int .i64 (S.ylo)), (Value.int .i64 (S.yhi)), .slice A S.cs.length ca, (Value.int .i64 (S.wrong))] 26)).alloc (.cells #[(Value.int .i64 (0)), (Value.int .i64 (0))] 23)) (((w.alloc (.cells #[(Value.int .i64 (S.xlo)), (Value.int .i64 (S.xhi)), (Value.int .i64 (S.ylo)), (Value.int .i64 (S.yhi)), .slice A S.cs.length ca, (Value.int .i64 (S.wrong))] 26)).alloc (.cells #[(Value.int .i64 (0)), (Value.int .i64 (0))] 23))).drew := bl_drew (Below.refl _ _)
  refine wpAnyC_take (i := 0) (v := ?v0u) rfl (by kernel_rfl) (by kernel_rfl) (by kernel_rfl) ?q0u rfl ?y0u ?r0u; (case q0u => exact fun _ _ _ h => h); (case y0u => ((rintro _ ⟨z, rfl⟩); (go_simp); (try with_reducible rfl))); simp only [Act.put, List.getElem_toArray, List.getElem_cons_succ, List.getElem_cons_zero, List.setIfInBounds_toArray, List.set_cons_succ, List.set_cons_zero]
  refine wpAnyC_take (i := 1) (v := ?v1u) rfl (by kernel_rfl) (by kernel_rfl) (by kernel_rfl) ?q1u rfl ?y1u ?r1u; (case q1u => exact fun _ _ _ h => h); (case y1u => ((rintro _ ⟨z, rfl⟩); (go_simp); (try with_reducible rfl))); simp only [Act.put, List.getElem_toArray, List.getElem_cons_succ, List.getElem_cons_zero, List.setIfInBounds_toArray, List.set_cons_succ, List.set_cons_zero]
  refine wpAnyC_one (i := 2) (by kernel_rfl) rfl ⟨⟨_, hd0⟩, rfl⟩ rfl (fun K hK => ?_)
  go_simp
  go_at_call 42
  (with_reducible refine Calls.mono (hCk.out _ (bl_drew hb0)) ?_)
  rintro e1 w1 ⟨rfl, hb1⟩
  refine hK _ _ ?_
  clear hK K
  have hd1 := hd0.trans (hb1.mono hd0.size)
  refine wpAnyC_one (i := 3) (by kernel_rfl) rfl ⟨⟨_, hd1⟩, rfl⟩ rfl (fun K hK => ?_)
  go_simp
  go_at_call 41
  (with_reducible refine Calls.mono (hKn.out _ (bl_call (bl_drew hb0) hb1)) ?_)
  rintro e2 w2 ⟨⟨A1, ca1, rfl, hI⟩, hb2⟩
  refine hK _ _ ?_
  clear hK K
  have hd2 := hd1.trans (hb2.mono hd1.size)
  refine wpAnyC_take (i := 4) (v := ?v4u) rfl (by kernel_rfl) (by kernel_rfl) (by kernel_rfl) ?q4u rfl ?y4u ?r4u; (case q4u => exact fun _ _ _ h => h); (case y4u => ((rintro _ ⟨z, rfl⟩); (go_simp); (try with_reducible rfl))); simp only [Act.put, List.getElem_toArray, List.getElem_cons_succ, List.getElem_cons_zero, List.setIfInBounds_toArray, List.set_cons_succ, List.set_cons_zero]
  refine wpAnyC_take (i := 5) (v := ?v5u) rfl (by kernel_rfl) (by kernel_rfl) (by kernel_rfl) ?q5u rfl ?y5u ?r5u; (case q5u => exact fun _ _ _ h => h); (case y5u => ((rintro _ ⟨z, rfl⟩); (go_simp); (try with_reducible rfl))); simp only [Act.put, List.getElem_toArray, List.getElem_cons_succ, List.getElem_cons_zero, List.setIfInBounds_toArray, List.set_cons_succ, List.set_cons_zero]
  refine wpAnyC_take (i := 6) (v := ?v6u) rfl (by kernel_rfl) (by kernel_rfl) (by kernel_rfl) ?q6u rfl ?y6u ?r6u; (case q6u => exact fun _ _ _ h => h); (case y6u => ((rintro _ ⟨z, rfl⟩); (go_simp); (try with_reducible rfl))); simp only [Act.put, List.getElem_toArray, List.getElem_cons_succ, List.getElem_cons_zero, List.setIfInBounds_toArray, List.set_cons_succ, List.set_cons_zero]
  refine wpAnyC_take (i := 7) (v := ?v7u) rfl (by kernel_rfl) (by kernel_rfl) (by kernel_rfl) ?q7u rfl ?y7u ?r7u; (case q7u => exact fun _ _ _ h => h); (case y7u => ((rintro _ ⟨z, rfl⟩); (go_simp); (try with_reducible rfl))); simp only [Act.put, List.getElem_toArray, List.getElem_cons_succ, List.getElem_cons_zero, List.setIfInBounds_toArray, List.set_cons_succ, List.set_cons_zero]
  refine wpAnyC_take (i := 8) (v := ?v8u) rfl (by kernel_rfl) (by kernel_rfl) (by kernel_rfl) ?q8u rfl ?y8u ?r8u; (case q8u => exact fun _ _ _ h => h); (case y8u => ((rintro _ ⟨z, rfl⟩); (go_simp); (try with_reducible rfl))); simp only [Act.put, List.getElem_toArray, List.getElem_cons_succ, List.getElem_cons_zero, List.setIfInBounds_toArray, List.set_cons_succ, List.set_cons_zero]
  refine wpAnyC_doneN (by kernel_rfl) ⟨⟨_, hd2⟩, rfl⟩ ?_ _
  have hbW := bl_call hb0 hd2
  have k2 := c2.below hd2
  have hX := hb.below hbW
  have hg2 : w.heap.size + 1 < w2.heap.size := k2.lt
  clear la ya0 ya1 ya2 ya3 ya4 ya5 hb0 hd0 hd1 hd2 hb1 hb2 hCk hKn c1 c2 hb
  have d8 := Blk.new w2 23 #[(Value.int .i64 (0)), (Value.int .i64 (0))]
  have hI8 := hI.alloc (.cells #[(Value.int .i64 (0)), (Value.int .i64 (0))] 23)
  have hR8 : Below w2.heap.size w2 (w2.alloc (.cells #[(Value.int .i64 (0)), (Value.int .i64 (0))] 23)) := by (repeat (first | with_reducible exact Below.refl _ _ | with_reducible apply bl_alloc | with_reducible apply bl_drew | with_reducible apply bl_after | (with_reducible refine bl_call ?_ (by assumption))))
  go_wp2
  go_loopw [9] (fun i wr => ∃ k : Nat, k ≤ L.length ∧ i = (Value.int .i64 ((k : Int))) ∧ Below w2.heap.size w2 wr ∧ Blk wr w2.heap.size 23 #[(Value.int .i64 (bLo (arQ l) (L.take k))), (Value.int .i64 (bHi (arQ l) (L.take k)))]) (fun i _ => L.length - (intOf i).toNat)
  case atStart => exact ⟨0, Nat.zero_le _, rfl, hR8, d8⟩
  case round =>
    obtain ⟨k, kn, rfl, hbr, e8⟩ := hrel
    clear d8 hI8 hR8
    (have la := e8.lt); (have ya0 := e8.cell 0); (have ya1 := e8.cell 1); simp only [List.getElem?_toArray, List.getElem?_cons_zero, List.getElem?_cons_succ] at ya0 ya1
    have fa0 := e8.frozen 0
    have fa1 := e8.frozen 1
    by_cases hlt : k < L.length
    · obtain ⟨bc, oc, rfl, pc⟩ := (hI.below hbr).at_ hlt
      obtain ⟨lc, x1, x2⟩ := prs_cells pc hlt
      have hmem : pat L k ∈ L := List.mem_of_getElem? (pat_get hlt)
      obtain ⟨hok, hf⟩ := HM.out _ hmem
      obtain ⟨bp, op, rfl, hp⟩ := hX.ok hok
      have hfr := arQ_ok hok hf
      have hTw := Lib.hid fun (z : After wr) => TwiceOf_any bp op cb l z.val ((hp.below hbr).below z.ok) hok.1.1 hok.1.2 hok.2.1
      have htw := tw_bd hok
      have hab := abT_bd hok
      have hff := ff_bd hf
      have hAb := Lib.hid fun (W : World) => (show Calls Tryz.prog 44 #[(Value.int .i64 (tw l))] W fun e w' => e = .returned (Value.int .i64 (abT l)) ∧ W = w' from rAbs_any (tw l) (by omega) W)
      have z1 : IntKind.i64.wrap (abT l * 1000000) = abT l * 1000000 := IntWalk.i64_in _ (by omega)
      have z2 : IntKind.i64.wrap ((pat L k).1 * (pat L k).2) = (pat L k).1 * (pat L k).2 := IntWalk.i64_in _ (by omega)
      have hWi := fun (W : World) => rWider4 (bLo (arQ l) (L.take k)) (bHi (arQ l) (L.take k)) (arQ l (pat L k)) (decide (k = 0)) hfr W
      rw [← bLo_take (arQ l) hlt, ← bHi_take (arQ l) hlt] at hWi
      have hWi2 : ∀ W : World, Calls Tryz.prog 43 #[.agg #[(Value.int .i64 (bLo (arQ l) (L.take k))), (Value.int .i64 (bHi (arQ l) (L.take k)))], (Value.int .i64 (abT l * 1000000)), (Value.int .i64 ((pat L k).1 * (pat L k).2)), .bool ((k : Int) == 0)] W fun e w' => e = .returned (.agg #[(Value.int .i64 (bLo (arQ l) (L.take (k + 1)))), (Value.int .i64 (bHi (arQ l) (L.take (k + 1))))]) ∧ Below W.heap.size W w' := fun W => by
        have h5 := hWi W
        rw [show decide (k = 0) = ((k : Int) == 0) by rw [Bool.eq_iff_iff]; simp] at h5
        exact h5
      have E8 := Lib.hid e8
      generalize hlo1 : bLo (arQ l) (L.take (k + 1)) = lo1 at *
      generalize hhi1 : bHi (arQ l) (L.take (k + 1)) = hi1 at *
      replace hlo1 := Lib.hid hlo1
      replace hhi1 := Lib.hid hhi1
      generalize bLo (arQ l) (L.take k) = lo0 at *
      generalize bHi (arQ l) (L.take k) = hi0 at *
      replace hWi2 := Lib.hid hWi2
      have i1 : (k : Int) < (L.length : Int) := by omega
      clear hWi hfr htw hab hff hok hf hmem pc e8 hp
      go_wp2
      refine wp_region_after_tail 19 (by kernel_rfl) (by kernel_rfl) ?_; simp only [List.take_succ_cons, List.take_zero, List.drop_succ_cons, List.drop_zero]; (repeat (go_big_quiet_step (((first | (go_at_call 27; with_reducible exact calls_after (hTw.out _)) | (go_at_call 44; with_reducible exact calls_after_same (hAb.out _)) | (go_at_call 43; with_reducible exact calls_after (hWi2.out _))))))); refine wpQuiet_nil ?_; rintro _ ⟨z, rfl⟩; (first | ((with_reducible apply kp_in_after (z := z)); (with_reducible assumption); rintro ⟨hk, hc, hf, hzc, hzf⟩) | ((with_reducible refine kp_in_after0 z ?_); rintro ⟨hk, hc, hf, hzc, hzf⟩))
      go_wp2
      go_roundw
      case rel => 
        refine ⟨k + 1, by omega, by go_num, bl_setc (bl_setc (bl_after z hbr) (Nat.le_refl _)) (Nat.le_refl _), ?_⟩
        have h9 := ((E8.out.below z.ok).set_ 0 (Value.int .i64 (lo1))).set_ 1 (Value.int .i64 (hi1))
        rw [hlo1.out, hhi1.out]
        simpa using h9
      case measure => simp [intOf]; omega
    · obtain rfl : k = L.length := by omega
      rw [List.take_length] at e8 ya0 ya1
      have e4 := (k2.below hbr)
      (have lb := e4.lt); (have yb0 := e4.cell 0); (have yb1 := e4.cell 1); simp only [List.getElem?_toArray, List.getElem?_cons_zero, List.getElem?_cons_succ] at yb0 yb1
      have fb0 := e4.frozen 0
      have fb1 := e4.frozen 1
      have hbR := bl_call hbW hbr
      generalize hlo : bLo (arQ l) L = lo at *
      generalize hhi : bHi (arQ l) L = hi at *
      replace hlo := Lib.hid hlo
      replace hhi := Lib.hid hhi
      clear e8 k2
      have E4 := Lib.hid e4
      clear e4
      go_wp2
      have d4 : Blk ((wr.setCell ⟨w.heap.size + 1, 0, none⟩ (Value.int .i64 (lo))).setCell ⟨w.heap.size + 1, 1, none⟩ (Value.int .i64 (hi))) (w.heap.size + 1) 23 #[(Value.int .i64 (lo)), (Value.int .i64 (hi))] := by
        have h := (E4.out.set_ 0 (Value.int .i64 (lo))).set_ 1 (Value.int .i64 (hi))
        simpa using h
      have hbX : Below w.heap.size w ((wr.setCell ⟨w.heap.size + 1, 0, none⟩ (Value.int .i64 (lo))).setCell ⟨w.heap.size + 1, 1, none⟩ (Value.int .i64 (hi))) := bl_setc (bl_setc hbR (by omega)) (by omega)
      generalize (wr.setCell ⟨w.heap.size + 1, 0, none⟩ (Value.int .i64 (lo))).setCell ⟨w.heap.size + 1, 1, none⟩ (Value.int .i64 (hi)) = X at d4 hbX ⊢
      have z4 := d4.cell 0
      have z5 := d4.cell 1
      simp only [List.getElem?_toArray, List.getElem?_cons_zero, List.getElem?_cons_succ] at z4 z5
      refine bodyPost_ret (v := .tuple #[.agg #[(Value.int .i64 (lo)), (Value.int .i64 (hi))], (Value.int .i64 (er))]) (by simp [results, Tryz.results11, go_sem, z4, z5]) rfl ⟨by rw [hlo.out, hhi.out], hbX⟩
end Go.Proofs.YtegdnbceiopklaaGreat
namespace Go.Proofs.YtegdnbceiopklaaGreat
open Go.RowKit Go.Shelf
attribute [local go_sem] After.cell After.frozen

theorem lnQ_eq (a b f : Pt) : lnQ a b f = (1000000 * ((a.1 - b.1) * (a.1 - b.1) * (f.2 * f.2) + (a.2 - b.2) * (a.2 - b.2) * (f.1 * f.1)), f.1 * f.1 * (f.2 * f.2)) := by
  have e1 : (a.1 - b.1) * (a.1 - b.1) = (b.1 - a.1) * (b.1 - a.1) := by rw [← Int.neg_mul_neg, Int.neg_sub]
  have e2 : (a.2 - b.2) * (a.2 - b.2) = (b.2 - a.2) * (b.2 - a.2) := by rw [← Int.neg_mul_neg, Int.neg_sub]
  rw [e1, e2]
  rfl
set_option maxHeartbeats 2000000 in
theorem rSquare4 (a b f : Pt) (hab : lnB a b = true) (hf : FacOk f) (w : World) :
    Calls Tryz.prog 28 #[(Value.agg #[.int .i64 a.1, .int .i64 a.2]), (Value.agg #[.int .i64 b.1, .int .i64 b.2]), (Value.agg #[.int .i64 f.1, .int .i64 f.2])] w fun e w' => e = .returned (.tuple #[(Value.int .i64 ((lnQ a b f).1)), (Value.int .i64 ((lnQ a b f).2))]) ∧ Below w.heap.size w w' := by
  have hb := lnQ_bd hab hf
  rw [lnQ_eq]
  have e1 : (a.1 - b.1) * (a.1 - b.1) = (b.1 - a.1) * (b.1 - a.1) := by rw [← Int.neg_mul_neg, Int.neg_sub]
  have e2 : (a.2 - b.2) * (a.2 - b.2) = (b.2 - a.2) * (b.2 - a.2) := by rw [← Int.neg_mul_neg, Int.neg_sub]
  have h1 := hb.u; have h2 := hb.v; have h3 := hb.xx; have h4 := hb.yy; have h5 := hb.p; have h6 := hb.q; have h7 := hb.d
  rw [← e1] at h3 h5
  rw [← e2] at h4 h6
  simp only [lnB, isPt, within, Bool.and_eq_true, decide_eq_true_eq] at hab
  have z01 : IntKind.i64.wrap (a.1 - b.1) = a.1 - b.1 := IntWalk.i64_in _ (by omega)
  have z02 : IntKind.i64.wrap (a.2 - b.2) = a.2 - b.2 := IntWalk.i64_in _ (by omega)
  have z1 : IntKind.i64.wrap (f.1 * f.1) = f.1 * f.1 := IntWalk.i64_in _ (by omega)
  have z2 : IntKind.i64.wrap (f.2 * f.2) = f.2 * f.2 := IntWalk.i64_in _ (by omega)
  have z3 : IntKind.i64.wrap ((a.1 - b.1) * (a.1 - b.1)) = (a.1 - b.1) * (a.1 - b.1) := IntWalk.i64_in _ (by omega)
  have z4 : IntKind.i64.wrap ((a.2 - b.2) * (a.2 - b.2)) = (a.2 - b.2) * (a.2 - b.2) := IntWalk.i64_in _ (by omega)
  have z5 : IntKind.i64.wrap ((a.1 - b.1) * (a.1 - b.1) * (f.2 * f.2)) = (a.1 - b.1) * (a.1 - b.1) * (f.2 * f.2) := IntWalk.i64_in _ (by omega)
  have z6 : IntKind.i64.wrap ((a.2 - b.2) * (a.2 - b.2) * (f.1 * f.1)) = (a.2 - b.2) * (a.2 - b.2) * (f.1 * f.1) := IntWalk.i64_in _ (by omega)
  have z7 : IntKind.i64.wrap ((a.1 - b.1) * (a.1 - b.1) * (f.2 * f.2) + (a.2 - b.2) * (a.2 - b.2) * (f.1 * f.1)) = (a.1 - b.1) * (a.1 - b.1) * (f.2 * f.2) + (a.2 - b.2) * (a.2 - b.2) * (f.1 * f.1) := IntWalk.i64_in _ (by omega)
  have z8 : IntKind.i64.wrap (1000000 * ((a.1 - b.1) * (a.1 - b.1) * (f.2 * f.2) + (a.2 - b.2) * (a.2 - b.2) * (f.1 * f.1))) = 1000000 * ((a.1 - b.1) * (a.1 - b.1) * (f.2 * f.2) + (a.2 - b.2) * (a.2 - b.2) * (f.1 * f.1)) := IntWalk.i64_in _ (by omega)
  have z9 : IntKind.i64.wrap (f.1 * f.1 * (f.2 * f.2)) = f.1 * f.1 * (f.2 * f.2) := IntWalk.i64_in _ (by omega)
  have c1 : Blk (((w.alloc (.cells #[(Value.int .i64 (a.1)), (Value.int .i64 (a.2))] 29)).alloc (.cells #[(Value.int .i64 (b.1)), (Value.int .i64 (b.2))] 29)).alloc (.cells #[(Value.int .i64 (f.1)), (Value.int .i64 (f.2))] 44)) w.heap.size 29 #[(Value.int .i64 (a.1)), (Value.int .i64 (a.2))] := ((Blk.new _ _ _).alloc _).alloc _
  have c2 : Blk (((w.alloc (.cells #[(Value.int .i64 (a.1)), (Value.int .i64 (a.2))] 29)).alloc (.cells #[(Value.int .i64 (b.1)), (Value.int .i64 (b.2))] 29)).alloc (.cells #[(Value.int .i64 (f.1)), (Value.int .i64 (f.2))] 44)) (w.heap.size + 1) 29 #[(Value.int .i64 (b.1)), (Value.int .i64 (b.2))] := (Blk.new_at (by simp)).alloc _
  have c3 : Blk (((w.alloc (.cells #[(Value.int .i64 (a.1)), (Value.int .i64 (a.2))] 29)).alloc (.cells #[(Value.int .i64 (b.1)), (Value.int .i64 (b.2))] 29)).alloc (.cells #[(Value.int .i64 (f.1)), (Value.int .i64 (f.2))] 44)) (w.heap.size + 1 + 1) 44 #[(Value.int .i64 (f.1)), (Value.int .i64 (f.2))] := Blk.new_at (by simp)
  (have la := c1.lt); (have ya0 := c1.cell 0); (have ya1 := c1.cell 1); simp only [List.getElem?_toArray, List.getElem?_cons_zero, List.getElem?_cons_succ] at ya0 ya1
  (have lb := c2.lt); (have yb0 := c2.cell 0); (have yb1 := c2.cell 1); simp only [List.getElem?_toArray, List.getElem?_cons_zero, List.getElem?_cons_succ] at yb0 yb1
  (have lc := c3.lt); (have yc0 := c3.cell 0); (have yc1 := c3.cell 1); simp only [List.getElem?_toArray, List.getElem?_cons_zero, List.getElem?_cons_succ] at yc0 yc1
  clear h1 h2 h3 h4 h5 h6 h7 e1 e2 hb hab c1 c2 c3 hf
  go_enter Tryz.func28, Tryz.ntmps28
  go_upto_region 1 with fail
  refine wp_region_after (by kernel_rfl) (by kernel_rfl) ?_; (repeat (go_big_quiet_step ((fail)))); refine wpQuiet_nil ?_; rintro _ ⟨u1, rfl⟩; (first | ((with_reducible apply kp_in_after (z := u1)); (with_reducible assumption); rintro ⟨hk, hc, hf, hzc, hzf⟩) | ((with_reducible refine kp_in_after0 u1 ?_); rintro ⟨hk, hc, hf, hzc, hzf⟩))
  go_upto_region 2 with fail
  refine wp_region_after (by kernel_rfl) (by kernel_rfl) ?_; (repeat (go_big_quiet_step ((fail)))); refine wpQuiet_nil ?_; rintro _ ⟨u2, rfl⟩; (first | ((with_reducible apply kp_in_after (z := u2)); (with_reducible assumption); rintro ⟨hk, hc, hf, hzc, hzf⟩) | ((with_reducible refine kp_in_after0 u2 ?_); rintro ⟨hk, hc, hf, hzc, hzf⟩))
  go_wp2
  go_ret2
  exact ⟨by simp [z1, z2, z3, z4, z5, z6, z7, z8, z9, z01, z02], by (repeat (first | with_reducible exact Below.refl _ _ | with_reducible apply bl_alloc | with_reducible apply bl_drew | with_reducible apply bl_after | (with_reducible refine bl_call ?_ (by assumption))))⟩
theorem knS_mem {S : Sht} {is : Bool} {f : Pt} (h : f ∈ knL S 0 is) : is = true ∧ FacOk f := by
  unfold knL at h
  split at h
  · rename_i h0
    rw [knE_zero] at h0
    exact ⟨(opS_zero h0).2.1, trs_ok (sht_ok (opS_zero h0).1) h⟩
  · cases h
theorem knS_len (S : Sht) (is : Bool) : (knL S 0 is).length ≤ 100000 := by
  unfold knL
  split
  · rename_i h0
    rw [knE_zero] at h0
    exact trs_bd (sht_ok (opS_zero h0).1)
  · simp
theorem lnLo_eq (S : Sht) (a b : Pt) : lnLo S a b = bLo (lnQ a b) (knL S 0 (lnB a b)) := by
  unfold lnLo knL lnE
  rw [knE_zero]
  split <;> rfl
theorem lnHi_eq (S : Sht) (a b : Pt) : lnHi S a b = bHi (lnQ a b) (knL S 0 (lnB a b)) := by
  unfold lnHi knL lnE
  rw [knE_zero]
  split <;> rfl
set_option maxRecDepth 100000 in
set_option maxHeartbeats 8000000 in
theorem rLength4_of (A : Option Addr) (ca : Nat) (S : Sht) (a b : Pt) (w : World) (ha : Cts w A S.cs) (x1 x2 : Bool) (h1 : isPt a = x1) (h2 : isPt b = x2) :
    Calls Tryz.prog 13 #[(Value.agg #[(Value.int .i64 (S.xlo)), (Value.int .i64 (S.xhi)), (Value.int .i64 (S.ylo)), (Value.int .i64 (S.yhi)), .slice A S.cs.length ca, (Value.int .i64 (S.wrong))]), (Value.agg #[.int .i64 a.1, .int .i64 a.2]), (Value.agg #[.int .i64 b.1, .int .i64 b.2])] w fun e w' => e = .returned (.tuple #[.agg #[(Value.int .i64 (lnLo S a b)), (Value.int .i64 (lnHi S a b))], (Value.int .i64 (lnE S a b))]) ∧ Below w.heap.size w w' := by
  have hKn := fun (W : World) (h : Below w.heap.size w W) => rKnown4 A ca S 0 (lnB a b) W (ha.below h)
  rw [knE_zero] at hKn
  have hI1 := fun (W : World) => rIsPoint_any a W
  have hI2 := fun (W : World) => rIsPoint_any b W
  rw [h1] at hI1
  rw [h2] at hI2
  replace hI1 := Lib.hid hI1
  replace hI2 := Lib.hid hI2
  have HM := Lib.hid fun (f : Pt) (hf : f ∈ knL S 0 (lnB a b)) => knS_mem hf
  have hlen := knS_len S (lnB a b)
  have hv : lnB a b = (x1 && x2) := by rw [lnB, h1, h2]
  have hE0 : lnE S a b = opS S (lnB a b) := rfl
  rw [lnLo_eq, lnHi_eq, hE0]
  generalize hL : knL S 0 (lnB a b) = L at *
  generalize hE : opS S (lnB a b) = er at *
  clear hL hE hE0 h1 h2
  have HV := Lib.hid hv
  rw [hv] at hKn
  clear hv ha
  have c1 : Blk ((((w.alloc (.cells #[(Value.int .i64 (S.xlo)), (Value.int .i64 (S.xhi)), (Value.int .i64 (S.ylo)), (Value.int .i64 (S.yhi)), .slice A S.cs.length ca, (Value.int .i64 (S.wrong))] 26)).alloc (.cells #[(Value.int .i64 (a.1)), (Value.int .i64 (a.2))] 29)).alloc (.cells #[(Value.int .i64 (b.1)), (Value.int .i64 (b.2))] 29)).alloc (.cells #[(Value.int .i64 (0)), (Value.int .i64 (0))] 23)) w.heap.size 26 #[(Value.int .i64 (S.xlo)), (Value.int .i64 (S.xhi)), (Value.int .i64 (S.ylo)), (Value.int .i64 (S.yhi)), .slice A S.cs.length ca, (Value.int .i64 (S.wrong))] := (((Blk.new _ _ _).alloc _).alloc _).alloc _
  have c2 : Blk ((((w.alloc (.cells #[(Value.int .i64 (S.xlo)), (Value.int .i64 (S.xhi)), (Value.int .i64 (S.ylo)), (Value.int .i64 (S.yhi)), .slice A S.cs.length ca, (Value.int .i64 (S.wrong))] 26)).alloc (.cells #[(Value.int .i64 (a.1)), (Value.int .i64 (a.2))] 29)).alloc (.cells #[(Value.int .i64 (b.1)), (Value.int .i64 (b.2))] 29)).alloc (.cells #[(Value.int .i64 (0)), (Value.int .i64 (0))] 23)) (w.heap.size + 1) 29 #[(Value.int .i64 (a.1)), (Value.int .i64 (a.2))] := ((Blk.new_at (by simp)).alloc _).alloc _
  have c3 : Blk ((((w.alloc (.cells #[(Value.int .i64 (S.xlo)), (Value.int .i64 (S.xhi)), (Value.int .i64 (S.ylo)), (Value.int .i64 (S.yhi)), .slice A S.cs.length ca, (Value.int .i64 (S.wrong))] 26)).alloc (.cells #[(Value.int .i64 (a.1)), (Value.int .i64 (a.2))] 29)).alloc (.cells #[(Value.int .i64 (b.1)), (Value.int .i64 (b.2))] 29)).alloc (.cells #[(Value.int .i64 (0)), (Value.int .i64 (0))] 23)) (w.heap.size + 2) 29 #[(Value.int .i64 (b.1)), (Value.int .i64 (b.2))] := (Blk.new_at (by simp)).alloc _
  have c4 : Blk ((((w.alloc (.cells #[(Value.int .i64 (S.xlo)), (Value.int .i64 (S.xhi)), (Value.int .i64 (S.ylo)), (Value.int .i64 (S.yhi)), .slice A S.cs.length ca, (Value.int .i64 (S.wrong))] 26)).alloc (.cells #[(Value.int .i64 (a.1)), (Value.int .i64 (a.2))] 29)).alloc (.cells #[(Value.int .i64 (b.1)), (Value.int .i64 (b.2))] 29)).alloc (.cells #[(Value.int .i64 (0)), (Value.int .i64 (0))] 23)) (w.heap.size + 3) 23 #[(Value.int .i64 (0)), (Value.int .i64 (0))] := Blk.new_at (by simp)
  have hb0 : Below w.heap.size w ((((w.alloc (.cells #[(Value.int .i64 (S.xlo)), (Value.int .i64 (S.xhi)), (Value.int .i64 (S.ylo)), (Value.int .i64 (S.yhi)), .slice A S.cs.length ca, (Value.int .i64 (S.wrong))] 26)).alloc (.cells #[(Value.int .i64 (a.1)), (Value.int .i64 (a.2))] 29)).alloc (.cells #[(Value.int .i64 (b.1)), (Value.int .i64 (b.2))] 29)).alloc (.cells #[(Value.int .i64 (0)), (Value.int .i64 (0))] 23)) := by (repeat (first | with_reducible exact Below.refl _ _ | with_reducible apply bl_alloc | with_reducible apply bl_drew | with_reducible apply bl_after | (with_reducible refine bl_call ?_ (by assumption))))
  (have la := c1.lt); (have ya0 := c1.cell 0); (have ya1 := c1.cell 1); (have ya2 := c1.cell 2); (have ya3 := c1.cell 3); (have ya4 := c1.cell 4); (have ya5 := c1.cell 5); simp only [List.getElem?_toArray, List.getElem?_cons_zero, List.getElem?_cons_succ] at ya0 ya1 ya2 ya3 ya4 ya5
  (have lb := c2.lt); (have yb0 := c2.cell 0); (have yb1 := c2.cell 1); simp only [List.getElem?_toArray, List.getElem?_cons_zero, List.getElem?_cons_succ] at yb0 yb1
  (have lc := c3.lt); (have yc0 := c3.cell 0); (have yc1 := c3.cell 1); simp only [List.getElem?_toArray, List.getElem?_cons_zero, List.getElem?_cons_succ] at yc0 yc1
  cases x1 <;> cases x2 <;> simp only [Bool.and_true, Bool.and_false, Bool.true_and, Bool.false_and] at hKn <;> replace hKn := Lib.hid hKn
  · go_enter Tryz.func13, Tryz.ntmps13
    go_upto_region 1 with fail
    refine wp_region_CN (fun w' => ∃ z : After ((((w.alloc (.cells #[(Value.int .i64 (S.xlo)), (Value.int .i64 (S.xhi)), (Value.int .i64 (S.ylo)), (Value.int .i64 (S.yhi)), .slice A S.cs.length ca, (Value.int .i64 (S.wrong))] 26)).alloc (.cells #[(Value.int .i64 (a.1)), (Value.int .i64 (a.2))] 29)).alloc (.cells #[(Value.int .i64 (b.1)), (Value.int .i64 (b.2))] 29)).alloc (.cells #[(Value.int .i64 (0)), (Value.int .i64 (0))] 23)), w' = z.val) (by kernel_rfl) ?_
    change wpAnyC _ _ _ _ _ _ _ (World.drew ((((w.alloc (.cells #[(Value.int .i64 (S.xlo)), (Value.int .i64 (S.xhi)), (Value.int .i64 (S.ylo)), (Value.int .i64 (S.yhi)), .slice A S.cs.length ca, (Value.int .i64 (S.wrong))] 26)).alloc (.cells #[(Value.int .i64 (a.1)), (Value.int .i64 (a.2))] 29)).alloc (.cells #[(Value.int .i64 (b.1)), (Value.int .i64 (b.2))] 29)).alloc (.cells #[(Value.int .i64 (0)), (Value.int .i64 (0))] 23)))
    have hd0 : Below (((((w.alloc (.cells #[(Value.int .i64 (S.xlo)), (Value.int .i64 (S.xhi)), (Value.int .i64 (S.ylo)), (Value.int .i64 (S.yhi)), .slice A S.cs.length ca, (Value.int .i64 (S.wrong))] 26)).alloc (.cells #[(Value.int .i64 (a.1)), (Value.int .i64 (a.2))] 29)).alloc (.cells #[(Value.int .i64 (b.1)), (Value.int .i64 (b.2))] 29)).alloc (.cells #[(Value.int .i64 (0)), (Value.int .i64 (0))] 23))).heap.size ((((w.alloc (.cells #[(Value.int .i64 (S.xlo)), (Value.int .i64 (S.xhi)), (Value.int .i64 (S.ylo)), (Value.int .i64 (S.yhi)), .slice A S.cs.length ca, (Value.int .i64 (S.wrong))] 26)).alloc (.cells #[(Value.int .i64 (a.1)), (Value.int .i64 (a.2))] 29)).alloc (.cells #[(Value.int .i64 (b.1)), (Value.int .i64 (b.2))] 29)).alloc (.cells #[(Value.int .i64 (0)), (Value.int .i64 (0))] 23)) (((((w.alloc (.cells #[(Value.int .i64 (S.xlo)), (Value.int .i64 (S.xhi)), (Value.int .i64 (S.ylo)), (Value.int .i64 (S.yhi)), .slice A S.cs.length ca, (Value.int .i64 (S.wrong))] 26)).alloc (.cells #[(Value.int .i64 (a.1)), (Value.int .i64 (a.2))] 29)).alloc (.cells #[(Value.int .i64 (b.1)), (Value.int .i64 (b.2))] 29)).alloc (.cells #[(Value.int .i64 (0)), (Value.int .i64 (0))] 23))).drew := bl_drew (Below.refl _ _)
    refine wpAnyC_take (i := 0) (v := ?v0u1) rfl (by kernel_rfl) (by kernel_rfl) (by kernel_rfl) ?q0u1 rfl ?y0u1 ?r0u1; (case q0u1 => exact fun _ _ _ h => h); (case y0u1 => ((rintro _ ⟨z, rfl⟩); (go_simp); (try with_reducible rfl))); simp only [Act.put, List.getElem_toArray, List.getElem_cons_succ, List.getElem_cons_zero, List.setIfInBounds_toArray, List.set_cons_succ, List.set_cons_zero]
    refine wpAnyC_take (i := 1) (v := ?v1u1) rfl (by kernel_rfl) (by kernel_rfl) (by kernel_rfl) ?q1u1 rfl ?y1u1 ?r1u1; (case q1u1 => exact fun _ _ _ h => h); (case y1u1 => ((rintro _ ⟨z, rfl⟩); (go_simp); (try with_reducible rfl))); simp only [Act.put, List.getElem_toArray, List.getElem_cons_succ, List.getElem_cons_zero, List.setIfInBounds_toArray, List.set_cons_succ, List.set_cons_zero]
    refine wpAnyC_one (i := 2) (by kernel_rfl) rfl ⟨⟨_, hd0⟩, rfl⟩ rfl (fun K hK => ?_)
    go_simp
    go_at_call 20
    (with_reducible refine Calls.mono (hI1.out _) ?_)
    rintro e1 w1 ⟨rfl, hb1⟩
    refine hK _ _ ?_
    clear hK K
    have hd1 := hd0.trans (hb1.mono hd0.size)
    refine wpAnyC_take (i := 3) (v := ?v3u1) rfl (by kernel_rfl) (by kernel_rfl) (by kernel_rfl) ?q3u1 rfl ?y3u1 ?r3u1; (case q3u1 => exact fun _ _ _ h => h); (case y3u1 => ((rintro _ ⟨z, rfl⟩); (go_simp); (try with_reducible rfl))); simp only [Act.put, List.getElem_toArray, List.getElem_cons_succ, List.getElem_cons_zero, List.setIfInBounds_toArray, List.set_cons_succ, List.set_cons_zero]
    (first | (refine wpAnyC_take (i := 4) (v := ?v4u1) rfl (by kernel_rfl) (by kernel_rfl) (by kernel_rfl) ?q4u1 rfl ?y4u1 ?r4u1; (case q4u1 => exact fun _ _ _ h => h); (case y4u1 => ((rintro _ ⟨z, rfl⟩); (go_simp); (try with_reducible rfl))); simp only [Act.put, List.getElem_toArray, List.getElem_cons_succ, List.getElem_cons_zero, List.setIfInBounds_toArray, List.set_cons_succ, List.set_cons_zero]; refine wpAnyC_one (i := 5) (by kernel_rfl) rfl ⟨⟨_, hd1⟩, rfl⟩ rfl (fun K hK => ?_); go_simp; (go_at_call 20); (with_reducible refine Calls.mono (hI2.out _) ?_); rintro e5 w5 ⟨rfl, hb5⟩; refine hK _ _ ?_; clear hK K; (have hd5 := hd1.trans (hb5.mono hd1.size))) | (refine wpAnyC_skip (i := 4) rfl (by kernel_rfl) (by kernel_rfl) (by kernel_rfl) ?q4u1 rfl ?r4u1; (case q4u1 => exact fun _ _ _ h => h); simp only [Act.put, List.getElem_toArray, List.getElem_cons_succ, List.getElem_cons_zero, List.setIfInBounds_toArray, List.set_cons_succ, List.set_cons_zero]; refine wpAnyC_skip (i := 5) rfl (by kernel_rfl) (by kernel_rfl) (by kernel_rfl) ?q5u1 rfl ?r5u1; (case q5u1 => exact fun _ _ _ h => h); simp only [Act.put, List.getElem_toArray, List.getElem_cons_succ, List.getElem_cons_zero, List.setIfInBounds_toArray, List.set_cons_succ, List.set_cons_zero]; (have hd5 := hd1)))
    refine wpAnyC_take (i := 6) (v := ?v6u1) rfl (by kernel_rfl) (by kernel_rfl) (by kernel_rfl) ?q6u1 rfl ?y6u1 ?r6u1; (case q6u1 => exact fun _ _ _ h => h); (case y6u1 => ((rintro _ ⟨z, rfl⟩); (go_simp); (try with_reducible rfl))); simp only [Act.put, List.getElem_toArray, List.getElem_cons_succ, List.getElem_cons_zero, List.setIfInBounds_toArray, List.set_cons_succ, List.set_cons_zero]
    refine wpAnyC_one (i := 7) (by kernel_rfl) rfl ⟨⟨_, hd5⟩, rfl⟩ rfl (fun K hK => ?_)
    go_simp
    go_at_call 41
    (with_reducible refine Calls.mono (hKn.out _ (bl_call hb0 hd5)) ?_)
    rintro e2 w2 ⟨⟨A1, ca1, rfl, hI⟩, hb2⟩
    refine hK _ _ ?_
    clear hK K
    have hd2 := hd5.trans (hb2.mono hd5.size)
    refine wpAnyC_take (i := 8) (v := ?v8u1) rfl (by kernel_rfl) (by kernel_rfl) (by kernel_rfl) ?q8u1 rfl ?y8u1 ?r8u1; (case q8u1 => exact fun _ _ _ h => h); (case y8u1 => ((rintro _ ⟨z, rfl⟩); (go_simp); (try with_reducible rfl))); simp only [Act.put, List.getElem_toArray, List.getElem_cons_succ, List.getElem_cons_zero, List.setIfInBounds_toArray, List.set_cons_succ, List.set_cons_zero]
    refine wpAnyC_take (i := 9) (v := ?v9u1) rfl (by kernel_rfl) (by kernel_rfl) (by kernel_rfl) ?q9u1 rfl ?y9u1 ?r9u1; (case q9u1 => exact fun _ _ _ h => h); (case y9u1 => ((rintro _ ⟨z, rfl⟩); (go_simp); (try with_reducible rfl))); simp only [Act.put, List.getElem_toArray, List.getElem_cons_succ, List.getElem_cons_zero, List.setIfInBounds_toArray, List.set_cons_succ, List.set_cons_zero]
    refine wpAnyC_take (i := 10) (v := ?v10u1) rfl (by kernel_rfl) (by kernel_rfl) (by kernel_rfl) ?q10u1 rfl ?y10u1 ?r10u1; (case q10u1 => exact fun _ _ _ h => h); (case y10u1 => ((rintro _ ⟨z, rfl⟩); (go_simp); (try with_reducible rfl))); simp only [Act.put, List.getElem_toArray, List.getElem_cons_succ, List.getElem_cons_zero, List.setIfInBounds_toArray, List.set_cons_succ, List.set_cons_zero]
    refine wpAnyC_take (i := 11) (v := ?v11u1) rfl (by kernel_rfl) (by kernel_rfl) (by kernel_rfl) ?q11u1 rfl ?y11u1 ?r11u1; (case q11u1 => exact fun _ _ _ h => h); (case y11u1 => ((rintro _ ⟨z, rfl⟩); (go_simp); (try with_reducible rfl))); simp only [Act.put, List.getElem_toArray, List.getElem_cons_succ, List.getElem_cons_zero, List.setIfInBounds_toArray, List.set_cons_succ, List.set_cons_zero]
    refine wpAnyC_take (i := 12) (v := ?v12u1) rfl (by kernel_rfl) (by kernel_rfl) (by kernel_rfl) ?q12u1 rfl ?y12u1 ?r12u1; (case q12u1 => exact fun _ _ _ h => h); (case y12u1 => ((rintro _ ⟨z, rfl⟩); (go_simp); (try with_reducible rfl))); simp only [Act.put, List.getElem_toArray, List.getElem_cons_succ, List.getElem_cons_zero, List.setIfInBounds_toArray, List.set_cons_succ, List.set_cons_zero]
    refine wpAnyC_doneN (by kernel_rfl) ⟨⟨_, hd2⟩, rfl⟩ ?_ _
    have hbW := bl_call hb0 hd2
    have k2 := c2.below hd2
    have k3 := c3.below hd2
    have k4 := c4.below hd2
    have hg2 : w.heap.size + 3 < w2.heap.size := k4.lt
    clear la ya0 ya1 ya2 ya3 ya4 ya5 lb yb0 yb1 lc yc0 yc1 hb0 hd0 hd1 hd2 hd5 hb1 hb2 hKn c1 c2 c3 c4 hI1 hI2
    have d8 := Blk.new w2 23 #[(Value.int .i64 (0)), (Value.int .i64 (0))]
    have hR8 : Below w2.heap.size w2 (w2.alloc (.cells #[(Value.int .i64 (0)), (Value.int .i64 (0))] 23)) := by (repeat (first | with_reducible exact Below.refl _ _ | with_reducible apply bl_alloc | with_reducible apply bl_drew | with_reducible apply bl_after | (with_reducible refine bl_call ?_ (by assumption))))
    go_wp2
    go_loopw [11] (fun i wr => ∃ k : Nat, k ≤ L.length ∧ i = (Value.int .i64 ((k : Int))) ∧ Below w2.heap.size w2 wr ∧ Blk wr w2.heap.size 23 #[(Value.int .i64 (bLo (lnQ a b) (L.take k))), (Value.int .i64 (bHi (lnQ a b) (L.take k)))]) (fun i _ => L.length - (intOf i).toNat)
    case atStart => exact ⟨0, Nat.zero_le _, rfl, hR8, d8⟩
    case round =>
      obtain ⟨k, kn, rfl, hbr, e8⟩ := hrel
      clear d8 hR8
      by_cases hlt : k < L.length
      · obtain ⟨bc, oc, rfl, pc⟩ := (hI.below hbr).at_ hlt
        obtain ⟨lc, x1, x2⟩ := prs_cells pc hlt
        have hmem : pat L k ∈ L := List.mem_of_getElem? (pat_get hlt)
        obtain ⟨hab, hf⟩ := HM.out _ hmem
        have hfr := sqQ_ok (lnQ_bd hab hf)
        have hSq := Lib.hid fun (W : World) => rSquare4 a b (pat L k) hab hf W
        have hWi := fun (W : World) => rWider4 (bLo (lnQ a b) (L.take k)) (bHi (lnQ a b) (L.take k)) (lnQ a b (pat L k)) (decide (k = 0)) hfr W
        rw [← bLo_take (lnQ a b) hlt, ← bHi_take (lnQ a b) hlt] at hWi
        have hWi2 : ∀ W : World, Calls Tryz.prog 43 #[.agg #[(Value.int .i64 (bLo (lnQ a b) (L.take k))), (Value.int .i64 (bHi (lnQ a b) (L.take k)))], (Value.int .i64 ((lnQ a b (pat L k)).1)), (Value.int .i64 ((lnQ a b (pat L k)).2)), .bool ((k : Int) == 0)] W fun e w' => e = .returned (.agg #[(Value.int .i64 (bLo (lnQ a b) (L.take (k + 1)))), (Value.int .i64 (bHi (lnQ a b) (L.take (k + 1))))]) ∧ Below W.heap.size W w' := fun W => by
          have h5 := hWi W
          rw [show decide (k = 0) = ((k : Int) == 0) by rw [Bool.eq_iff_iff]; simp] at h5
          exact h5
        generalize hlo1 : bLo (lnQ a b) (L.take (k + 1)) = lo1 at *
        generalize hhi1 : bHi (lnQ a b) (L.take (k + 1)) = hi1 at *
        replace hlo1 := Lib.hid hlo1
        replace hhi1 := Lib.hid hhi1
        generalize bLo (lnQ a b) (L.take k) = lo0 at *
        generalize bHi (lnQ a b) (L.take k) = hi0 at *
        generalize (lnQ a b (pat L k)).1 = nu at *
        generalize (lnQ a b (pat L k)).2 = de at *
        replace hWi2 := Lib.hid hWi2
        have i1 : (k : Int) < (L.length : Int) := by omega
        have m2 := k2.below hbr
        have m3 := k3.below hbr
        (have lb := m2.lt); (have yb0 := m2.cell 0); (have yb1 := m2.cell 1); simp only [List.getElem?_toArray, List.getElem?_cons_zero, List.getElem?_cons_succ] at yb0 yb1
        (have lc := m3.lt); (have yc0 := m3.cell 0); (have yc1 := m3.cell 1); simp only [List.getElem?_toArray, List.getElem?_cons_zero, List.getElem?_cons_succ] at yc0 yc1
        clear hWi hfr hab hf hmem pc m2 m3
        go_upto_region 6 with fail
        refine wp_region_after (by kernel_rfl) (by kernel_rfl) ?_; (repeat (go_big_quiet_step (((go_at_call 28; with_reducible exact calls_after (hSq.out _)))))); refine wpQuiet_nil ?_; rintro _ ⟨z, rfl⟩; (first | ((with_reducible apply kp_in_after (z := z)); (with_reducible assumption); rintro ⟨hk, hc, hf, hzc, hzf⟩) | ((with_reducible refine kp_in_after0 z ?_); rintro ⟨hk, hc, hf, hzc, hzf⟩))
        have e9 := e8.below z.ok
        have hbz := bl_after z hbr
        clear x1 x2 lb yb0 yb1 lc yc0 yc1
        ((try clear hk hc hf hzc hzf); (try clear hk hc hf hzc hzf); (try clear hk hc hf hzc hzf); (try clear hk hc hf hzc hzf))
        (have la := e9.lt); (have ya0 := e9.cell 0); (have ya1 := e9.cell 1); simp only [List.getElem?_toArray, List.getElem?_cons_zero, List.getElem?_cons_succ] at ya0 ya1
        have fa0 := e9.frozen 0
        have fa1 := e9.frozen 1
        have E9 := Lib.hid e9
        clear e8 e9
        go_wp2_with ((go_at_call 43); (with_reducible refine Calls.mono (hWi2.out _) ?_); rintro e3 w3 ⟨rfl, hb3⟩; (have f8 := E9.out.below hb3); (have hb8 := bl_call hbz hb3); (have l8 := f8.lt); (have ff0 := f8.frozen 0); (have ff1 := f8.frozen 1); (have v80 := f8.cell 0); (have v81 := f8.cell 1); (simp only [List.getElem?_toArray, List.getElem?_cons_zero, List.getElem?_cons_succ] at v80 v81); (have F8 := Lib.hid f8); clear f8; first | ((with_reducible apply kp_in_step (hb := hb3)); (with_reducible assumption); rintro ⟨hk, hc, hf, hzc, hzf⟩) | ((with_reducible refine kp_in_first hb3 ?_); rintro ⟨hk, hc, hf, hzc, hzf⟩))
        go_roundw
        case rel =>
          refine ⟨k + 1, by omega, by go_num, bl_setc (bl_setc hb8 (Nat.le_refl _)) (Nat.le_refl _), ?_⟩
          have h9 := (F8.out.set_ 0 (Value.int .i64 (lo1))).set_ 1 (Value.int .i64 (hi1))
          rw [hlo1.out, hhi1.out]
          simpa using h9
        case measure => simp [intOf]; omega
      · obtain rfl : k = L.length := by omega
        rw [List.take_length] at e8
        (have la := e8.lt); (have ya0 := e8.cell 0); (have ya1 := e8.cell 1); simp only [List.getElem?_toArray, List.getElem?_cons_zero, List.getElem?_cons_succ] at ya0 ya1
        have e4 := (k4.below hbr)
        (have lb := e4.lt); (have yb0 := e4.cell 0); (have yb1 := e4.cell 1); simp only [List.getElem?_toArray, List.getElem?_cons_zero, List.getElem?_cons_succ] at yb0 yb1
        have fb0 := e4.frozen 0
        have fb1 := e4.frozen 1
        have hbR := bl_call hbW hbr
        generalize hlo : bLo (lnQ a b) L = lo at *
        generalize hhi : bHi (lnQ a b) L = hi at *
        replace hlo := Lib.hid hlo
        replace hhi := Lib.hid hhi
        have E4 := Lib.hid e4
        clear e8 k2 k3 k4 e4
        go_wp2
        have d4 : Blk ((wr.setCell ⟨w.heap.size + 3, 0, none⟩ (Value.int .i64 (lo))).setCell ⟨w.heap.size + 3, 1, none⟩ (Value.int .i64 (hi))) (w.heap.size + 3) 23 #[(Value.int .i64 (lo)), (Value.int .i64 (hi))] := by
          have h := (E4.out.set_ 0 (Value.int .i64 (lo))).set_ 1 (Value.int .i64 (hi))
          simpa using h
        have hbX : Below w.heap.size w ((wr.setCell ⟨w.heap.size + 3, 0, none⟩ (Value.int .i64 (lo))).setCell ⟨w.heap.size + 3, 1, none⟩ (Value.int .i64 (hi))) := bl_setc (bl_setc hbR (by omega)) (by omega)
        change bodyPost _ _ _ _ _ ((wr.setCell ⟨w.heap.size + 3, 0, none⟩ (Value.int .i64 (lo))).setCell ⟨w.heap.size + 3, 1, none⟩ (Value.int .i64 (hi)))
        generalize (wr.setCell ⟨w.heap.size + 3, 0, none⟩ (Value.int .i64 (lo))).setCell ⟨w.heap.size + 3, 1, none⟩ (Value.int .i64 (hi)) = X at d4 hbX ⊢
        have z4 := d4.cell 0
        have z5 := d4.cell 1
        simp only [List.getElem?_toArray, List.getElem?_cons_zero, List.getElem?_cons_succ] at z4 z5
        refine bodyPost_ret (v := .tuple #[.agg #[(Value.int .i64 (lo)), (Value.int .i64 (hi))], (Value.int .i64 (er))]) (by simp [results, Tryz.results13, go_sem, z4, z5]) rfl ⟨by rw [hlo.out, hhi.out], hbX⟩
  · go_enter Tryz.func13, Tryz.ntmps13
    go_upto_region 1 with fail
    refine wp_region_CN (fun w' => ∃ z : After ((((w.alloc (.cells #[(Value.int .i64 (S.xlo)), (Value.int .i64 (S.xhi)), (Value.int .i64 (S.ylo)), (Value.int .i64 (S.yhi)), .slice A S.cs.length ca, (Value.int .i64 (S.wrong))] 26)).alloc (.cells #[(Value.int .i64 (a.1)), (Value.int .i64 (a.2))] 29)).alloc (.cells #[(Value.int .i64 (b.1)), (Value.int .i64 (b.2))] 29)).alloc (.cells #[(Value.int .i64 (0)), (Value.int .i64 (0))] 23)), w' = z.val) (by kernel_rfl) ?_
    change wpAnyC _ _ _ _ _ _ _ (World.drew ((((w.alloc (.cells #[(Value.int .i64 (S.xlo)), (Value.int .i64 (S.xhi)), (Value.int .i64 (S.ylo)), (Value.int .i64 (S.yhi)), .slice A S.cs.length ca, (Value.int .i64 (S.wrong))] 26)).alloc (.cells #[(Value.int .i64 (a.1)), (Value.int .i64 (a.2))] 29)).alloc (.cells #[(Value.int .i64 (b.1)), (Value.int .i64 (b.2))] 29)).alloc (.cells #[(Value.int .i64 (0)), (Value.int .i64 (0))] 23)))
    have hd0 : Below (((((w.alloc (.cells #[(Value.int .i64 (S.xlo)), (Value.int .i64 (S.xhi)), (Value.int .i64 (S.ylo)), (Value.int .i64 (S.yhi)), .slice A S.cs.length ca, (Value.int .i64 (S.wrong))] 26)).alloc (.cells #[(Value.int .i64 (a.1)), (Value.int .i64 (a.2))] 29)).alloc (.cells #[(Value.int .i64 (b.1)), (Value.int .i64 (b.2))] 29)).alloc (.cells #[(Value.int .i64 (0)), (Value.int .i64 (0))] 23))).heap.size ((((w.alloc (.cells #[(Value.int .i64 (S.xlo)), (Value.int .i64 (S.xhi)), (Value.int .i64 (S.ylo)), (Value.int .i64 (S.yhi)), .slice A S.cs.length ca, (Value.int .i64 (S.wrong))] 26)).alloc (.cells #[(Value.int .i64 (a.1)), (Value.int .i64 (a.2))] 29)).alloc (.cells #[(Value.int .i64 (b.1)), (Value.int .i64 (b.2))] 29)).alloc (.cells #[(Value.int .i64 (0)), (Value.int .i64 (0))] 23)) (((((w.alloc (.cells #[(Value.int .i64 (S.xlo)), (Value.int .i64 (S.xhi)), (Value.int .i64 (S.ylo)), (Value.int .i64 (S.yhi)), .slice A S.cs.length ca, (Value.int .i64 (S.wrong))] 26)).alloc (.cells #[(Value.int .i64 (a.1)), (Value.int .i64 (a.2))] 29)).alloc (.cells #[(Value.int .i64 (b.1)), (Value.int .i64 (b.2))] 29)).alloc (.cells #[(Value.int .i64 (0)), (Value.int .i64 (0))] 23))).drew := bl_drew (Below.refl _ _)
    refine wpAnyC_take (i := 0) (v := ?v0u2) rfl (by kernel_rfl) (by kernel_rfl) (by kernel_rfl) ?q0u2 rfl ?y0u2 ?r0u2; (case q0u2 => exact fun _ _ _ h => h); (case y0u2 => ((rintro _ ⟨z, rfl⟩); (go_simp); (try with_reducible rfl))); simp only [Act.put, List.getElem_toArray, List.getElem_cons_succ, List.getElem_cons_zero, List.setIfInBounds_toArray, List.set_cons_succ, List.set_cons_zero]
    refine wpAnyC_take (i := 1) (v := ?v1u2) rfl (by kernel_rfl) (by kernel_rfl) (by kernel_rfl) ?q1u2 rfl ?y1u2 ?r1u2; (case q1u2 => exact fun _ _ _ h => h); (case y1u2 => ((rintro _ ⟨z, rfl⟩); (go_simp); (try with_reducible rfl))); simp only [Act.put, List.getElem_toArray, List.getElem_cons_succ, List.getElem_cons_zero, List.setIfInBounds_toArray, List.set_cons_succ, List.set_cons_zero]
    refine wpAnyC_one (i := 2) (by kernel_rfl) rfl ⟨⟨_, hd0⟩, rfl⟩ rfl (fun K hK => ?_)
    go_simp
    go_at_call 20
    (with_reducible refine Calls.mono (hI1.out _) ?_)
    rintro e1 w1 ⟨rfl, hb1⟩
    refine hK _ _ ?_
    clear hK K
    have hd1 := hd0.trans (hb1.mono hd0.size)
    refine wpAnyC_take (i := 3) (v := ?v3u2) rfl (by kernel_rfl) (by kernel_rfl) (by kernel_rfl) ?q3u2 rfl ?y3u2 ?r3u2; (case q3u2 => exact fun _ _ _ h => h); (case y3u2 => ((rintro _ ⟨z, rfl⟩); (go_simp); (try with_reducible rfl))); simp only [Act.put, List.getElem_toArray, List.getElem_cons_succ, List.getElem_cons_zero, List.setIfInBounds_toArray, List.set_cons_succ, List.set_cons_zero]
    (first | (refine wpAnyC_take (i := 4) (v := ?v4u2) rfl (by kernel_rfl) (by kernel_rfl) (by kernel_rfl) ?q4u2 rfl ?y4u2 ?r4u2; (case q4u2 => exact fun _ _ _ h => h); (case y4u2 => ((rintro _ ⟨z, rfl⟩); (go_simp); (try with_reducible rfl))); simp only [Act.put, List.getElem_toArray, List.getElem_cons_succ, List.getElem_cons_zero, List.setIfInBounds_toArray, List.set_cons_succ, List.set_cons_zero]; refine wpAnyC_one (i := 5) (by kernel_rfl) rfl ⟨⟨_, hd1⟩, rfl⟩ rfl (fun K hK => ?_); go_simp; (go_at_call 20); (with_reducible refine Calls.mono (hI2.out _) ?_); rintro e5 w5 ⟨rfl, hb5⟩; refine hK _ _ ?_; clear hK K; (have hd5 := hd1.trans (hb5.mono hd1.size))) | (refine wpAnyC_skip (i := 4) rfl (by kernel_rfl) (by kernel_rfl) (by kernel_rfl) ?q4u2 rfl ?r4u2; (case q4u2 => exact fun _ _ _ h => h); simp only [Act.put, List.getElem_toArray, List.getElem_cons_succ, List.getElem_cons_zero, List.setIfInBounds_toArray, List.set_cons_succ, List.set_cons_zero]; refine wpAnyC_skip (i := 5) rfl (by kernel_rfl) (by kernel_rfl) (by kernel_rfl) ?q5u2 rfl ?r5u2; (case q5u2 => exact fun _ _ _ h => h); simp only [Act.put, List.getElem_toArray, List.getElem_cons_succ, List.getElem_cons_zero, List.setIfInBounds_toArray, List.set_cons_succ, List.set_cons_zero]; (have hd5 := hd1)))
    refine wpAnyC_take (i := 6) (v := ?v6u2) rfl (by kernel_rfl) (by kernel_rfl) (by kernel_rfl) ?q6u2 rfl ?y6u2 ?r6u2; (case q6u2 => exact fun _ _ _ h => h); (case y6u2 => ((rintro _ ⟨z, rfl⟩); (go_simp); (try with_reducible rfl))); simp only [Act.put, List.getElem_toArray, List.getElem_cons_succ, List.getElem_cons_zero, List.setIfInBounds_toArray, List.set_cons_succ, List.set_cons_zero]
    refine wpAnyC_one (i := 7) (by kernel_rfl) rfl ⟨⟨_, hd5⟩, rfl⟩ rfl (fun K hK => ?_)
    go_simp
    go_at_call 41
    (with_reducible refine Calls.mono (hKn.out _ (bl_call hb0 hd5)) ?_)
    rintro e2 w2 ⟨⟨A1, ca1, rfl, hI⟩, hb2⟩
    refine hK _ _ ?_
    clear hK K
    have hd2 := hd5.trans (hb2.mono hd5.size)
    refine wpAnyC_take (i := 8) (v := ?v8u2) rfl (by kernel_rfl) (by kernel_rfl) (by kernel_rfl) ?q8u2 rfl ?y8u2 ?r8u2; (case q8u2 => exact fun _ _ _ h => h); (case y8u2 => ((rintro _ ⟨z, rfl⟩); (go_simp); (try with_reducible rfl))); simp only [Act.put, List.getElem_toArray, List.getElem_cons_succ, List.getElem_cons_zero, List.setIfInBounds_toArray, List.set_cons_succ, List.set_cons_zero]
    refine wpAnyC_take (i := 9) (v := ?v9u2) rfl (by kernel_rfl) (by kernel_rfl) (by kernel_rfl) ?q9u2 rfl ?y9u2 ?r9u2; (case q9u2 => exact fun _ _ _ h => h); (case y9u2 => ((rintro _ ⟨z, rfl⟩); (go_simp); (try with_reducible rfl))); simp only [Act.put, List.getElem_toArray, List.getElem_cons_succ, List.getElem_cons_zero, List.setIfInBounds_toArray, List.set_cons_succ, List.set_cons_zero]
    refine wpAnyC_take (i := 10) (v := ?v10u2) rfl (by kernel_rfl) (by kernel_rfl) (by kernel_rfl) ?q10u2 rfl ?y10u2 ?r10u2; (case q10u2 => exact fun _ _ _ h => h); (case y10u2 => ((rintro _ ⟨z, rfl⟩); (go_simp); (try with_reducible rfl))); simp only [Act.put, List.getElem_toArray, List.getElem_cons_succ, List.getElem_cons_zero, List.setIfInBounds_toArray, List.set_cons_succ, List.set_cons_zero]
    refine wpAnyC_take (i := 11) (v := ?v11u2) rfl (by kernel_rfl) (by kernel_rfl) (by kernel_rfl) ?q11u2 rfl ?y11u2 ?r11u2; (case q11u2 => exact fun _ _ _ h => h); (case y11u2 => ((rintro _ ⟨z, rfl⟩); (go_simp); (try with_reducible rfl))); simp only [Act.put, List.getElem_toArray, List.getElem_cons_succ, List.getElem_cons_zero, List.setIfInBounds_toArray, List.set_cons_succ, List.set_cons_zero]
    refine wpAnyC_take (i := 12) (v := ?v12u2) rfl (by kernel_rfl) (by kernel_rfl) (by kernel_rfl) ?q12u2 rfl ?y12u2 ?r12u2; (case q12u2 => exact fun _ _ _ h => h); (case y12u2 => ((rintro _ ⟨z, rfl⟩); (go_simp); (try with_reducible rfl))); simp only [Act.put, List.getElem_toArray, List.getElem_cons_succ, List.getElem_cons_zero, List.setIfInBounds_toArray, List.set_cons_succ, List.set_cons_zero]
    refine wpAnyC_doneN (by kernel_rfl) ⟨⟨_, hd2⟩, rfl⟩ ?_ _
    have hbW := bl_call hb0 hd2
    have k2 := c2.below hd2
    have k3 := c3.below hd2
    have k4 := c4.below hd2
    have hg2 : w.heap.size + 3 < w2.heap.size := k4.lt
    clear la ya0 ya1 ya2 ya3 ya4 ya5 lb yb0 yb1 lc yc0 yc1 hb0 hd0 hd1 hd2 hd5 hb1 hb2 hKn c1 c2 c3 c4 hI1 hI2
    have d8 := Blk.new w2 23 #[(Value.int .i64 (0)), (Value.int .i64 (0))]
    have hR8 : Below w2.heap.size w2 (w2.alloc (.cells #[(Value.int .i64 (0)), (Value.int .i64 (0))] 23)) := by (repeat (first | with_reducible exact Below.refl _ _ | with_reducible apply bl_alloc | with_reducible apply bl_drew | with_reducible apply bl_after | (with_reducible refine bl_call ?_ (by assumption))))
    go_wp2
    go_loopw [11] (fun i wr => ∃ k : Nat, k ≤ L.length ∧ i = (Value.int .i64 ((k : Int))) ∧ Below w2.heap.size w2 wr ∧ Blk wr w2.heap.size 23 #[(Value.int .i64 (bLo (lnQ a b) (L.take k))), (Value.int .i64 (bHi (lnQ a b) (L.take k)))]) (fun i _ => L.length - (intOf i).toNat)
    case atStart => exact ⟨0, Nat.zero_le _, rfl, hR8, d8⟩
    case round =>
      obtain ⟨k, kn, rfl, hbr, e8⟩ := hrel
      clear d8 hR8
      by_cases hlt : k < L.length
      · obtain ⟨bc, oc, rfl, pc⟩ := (hI.below hbr).at_ hlt
        obtain ⟨lc, x1, x2⟩ := prs_cells pc hlt
        have hmem : pat L k ∈ L := List.mem_of_getElem? (pat_get hlt)
        obtain ⟨hab, hf⟩ := HM.out _ hmem
        have hfr := sqQ_ok (lnQ_bd hab hf)
        have hSq := Lib.hid fun (W : World) => rSquare4 a b (pat L k) hab hf W
        have hWi := fun (W : World) => rWider4 (bLo (lnQ a b) (L.take k)) (bHi (lnQ a b) (L.take k)) (lnQ a b (pat L k)) (decide (k = 0)) hfr W
        rw [← bLo_take (lnQ a b) hlt, ← bHi_take (lnQ a b) hlt] at hWi
        have hWi2 : ∀ W : World, Calls Tryz.prog 43 #[.agg #[(Value.int .i64 (bLo (lnQ a b) (L.take k))), (Value.int .i64 (bHi (lnQ a b) (L.take k)))], (Value.int .i64 ((lnQ a b (pat L k)).1)), (Value.int .i64 ((lnQ a b (pat L k)).2)), .bool ((k : Int) == 0)] W fun e w' => e = .returned (.agg #[(Value.int .i64 (bLo (lnQ a b) (L.take (k + 1)))), (Value.int .i64 (bHi (lnQ a b) (L.take (k + 1))))]) ∧ Below W.heap.size W w' := fun W => by
          have h5 := hWi W
          rw [show decide (k = 0) = ((k : Int) == 0) by rw [Bool.eq_iff_iff]; simp] at h5
          exact h5
        generalize hlo1 : bLo (lnQ a b) (L.take (k + 1)) = lo1 at *
        generalize hhi1 : bHi (lnQ a b) (L.take (k + 1)) = hi1 at *
        replace hlo1 := Lib.hid hlo1
        replace hhi1 := Lib.hid hhi1
        generalize bLo (lnQ a b) (L.take k) = lo0 at *
        generalize bHi (lnQ a b) (L.take k) = hi0 at *
        generalize (lnQ a b (pat L k)).1 = nu at *
        generalize (lnQ a b (pat L k)).2 = de at *
        replace hWi2 := Lib.hid hWi2
        have i1 : (k : Int) < (L.length : Int) := by omega
        have m2 := k2.below hbr
        have m3 := k3.below hbr
        (have lb := m2.lt); (have yb0 := m2.cell 0); (have yb1 := m2.cell 1); simp only [List.getElem?_toArray, List.getElem?_cons_zero, List.getElem?_cons_succ] at yb0 yb1
        (have lc := m3.lt); (have yc0 := m3.cell 0); (have yc1 := m3.cell 1); simp only [List.getElem?_toArray, List.getElem?_cons_zero, List.getElem?_cons_succ] at yc0 yc1
        clear hWi hfr hab hf hmem pc m2 m3
        go_upto_region 6 with fail
        refine wp_region_after (by kernel_rfl) (by kernel_rfl) ?_; (repeat (go_big_quiet_step (((go_at_call 28; with_reducible exact calls_after (hSq.out _)))))); refine wpQuiet_nil ?_; rintro _ ⟨z, rfl⟩; (first | ((with_reducible apply kp_in_after (z := z)); (with_reducible assumption); rintro ⟨hk, hc, hf, hzc, hzf⟩) | ((with_reducible refine kp_in_after0 z ?_); rintro ⟨hk, hc, hf, hzc, hzf⟩))
        have e9 := e8.below z.ok
        have hbz := bl_after z hbr
        clear x1 x2 lb yb0 yb1 lc yc0 yc1
        ((try clear hk hc hf hzc hzf); (try clear hk hc hf hzc hzf); (try clear hk hc hf hzc hzf); (try clear hk hc hf hzc hzf))
        (have la := e9.lt); (have ya0 := e9.cell 0); (have ya1 := e9.cell 1); simp only [List.getElem?_toArray, List.getElem?_cons_zero, List.getElem?_cons_succ] at ya0 ya1
        have fa0 := e9.frozen 0
        have fa1 := e9.frozen 1
        have E9 := Lib.hid e9
        clear e8 e9
        go_wp2_with ((go_at_call 43); (with_reducible refine Calls.mono (hWi2.out _) ?_); rintro e3 w3 ⟨rfl, hb3⟩; (have f8 := E9.out.below hb3); (have hb8 := bl_call hbz hb3); (have l8 := f8.lt); (have ff0 := f8.frozen 0); (have ff1 := f8.frozen 1); (have v80 := f8.cell 0); (have v81 := f8.cell 1); (simp only [List.getElem?_toArray, List.getElem?_cons_zero, List.getElem?_cons_succ] at v80 v81); (have F8 := Lib.hid f8); clear f8; first | ((with_reducible apply kp_in_step (hb := hb3)); (with_reducible assumption); rintro ⟨hk, hc, hf, hzc, hzf⟩) | ((with_reducible refine kp_in_first hb3 ?_); rintro ⟨hk, hc, hf, hzc, hzf⟩))
        go_roundw
        case rel =>
          refine ⟨k + 1, by omega, by go_num, bl_setc (bl_setc hb8 (Nat.le_refl _)) (Nat.le_refl _), ?_⟩
          have h9 := (F8.out.set_ 0 (Value.int .i64 (lo1))).set_ 1 (Value.int .i64 (hi1))
          rw [hlo1.out, hhi1.out]
          simpa using h9
        case measure => simp [intOf]; omega
      · obtain rfl : k = L.length := by omega
        rw [List.take_length] at e8
        (have la := e8.lt); (have ya0 := e8.cell 0); (have ya1 := e8.cell 1); simp only [List.getElem?_toArray, List.getElem?_cons_zero, List.getElem?_cons_succ] at ya0 ya1
        have e4 := (k4.below hbr)
        (have lb := e4.lt); (have yb0 := e4.cell 0); (have yb1 := e4.cell 1); simp only [List.getElem?_toArray, List.getElem?_cons_zero, List.getElem?_cons_succ] at yb0 yb1
        have fb0 := e4.frozen 0
        have fb1 := e4.frozen 1
        have hbR := bl_call hbW hbr
        generalize hlo : bLo (lnQ a b) L = lo at *
        generalize hhi : bHi (lnQ a b) L = hi at *
        replace hlo := Lib.hid hlo
        replace hhi := Lib.hid hhi
        have E4 := Lib.hid e4
        clear e8 k2 k3 k4 e4
        go_wp2
        have d4 : Blk ((wr.setCell ⟨w.heap.size + 3, 0, none⟩ (Value.int .i64 (lo))).setCell ⟨w.heap.size + 3, 1, none⟩ (Value.int .i64 (hi))) (w.heap.size + 3) 23 #[(Value.int .i64 (lo)), (Value.int .i64 (hi))] := by
          have h := (E4.out.set_ 0 (Value.int .i64 (lo))).set_ 1 (Value.int .i64 (hi))
          simpa using h
        have hbX : Below w.heap.size w ((wr.setCell ⟨w.heap.size + 3, 0, none⟩ (Value.int .i64 (lo))).setCell ⟨w.heap.size + 3, 1, none⟩ (Value.int .i64 (hi))) := bl_setc (bl_setc hbR (by omega)) (by omega)
        change bodyPost _ _ _ _ _ ((wr.setCell ⟨w.heap.size + 3, 0, none⟩ (Value.int .i64 (lo))).setCell ⟨w.heap.size + 3, 1, none⟩ (Value.int .i64 (hi)))
        generalize (wr.setCell ⟨w.heap.size + 3, 0, none⟩ (Value.int .i64 (lo))).setCell ⟨w.heap.size + 3, 1, none⟩ (Value.int .i64 (hi)) = X at d4 hbX ⊢
        have z4 := d4.cell 0
        have z5 := d4.cell 1
        simp only [List.getElem?_toArray, List.getElem?_cons_zero, List.getElem?_cons_succ] at z4 z5
        refine bodyPost_ret (v := .tuple #[.agg #[(Value.int .i64 (lo)), (Value.int .i64 (hi))], (Value.int .i64 (er))]) (by simp [results, Tryz.results13, go_sem, z4, z5]) rfl ⟨by rw [hlo.out, hhi.out], hbX⟩
  · go_enter Tryz.func13, Tryz.ntmps13
    go_upto_region 1 with fail
    refine wp_region_CN (fun w' => ∃ z : After ((((w.alloc (.cells #[(Value.int .i64 (S.xlo)), (Value.int .i64 (S.xhi)), (Value.int .i64 (S.ylo)), (Value.int .i64 (S.yhi)), .slice A S.cs.length ca, (Value.int .i64 (S.wrong))] 26)).alloc (.cells #[(Value.int .i64 (a.1)), (Value.int .i64 (a.2))] 29)).alloc (.cells #[(Value.int .i64 (b.1)), (Value.int .i64 (b.2))] 29)).alloc (.cells #[(Value.int .i64 (0)), (Value.int .i64 (0))] 23)), w' = z.val) (by kernel_rfl) ?_
    change wpAnyC _ _ _ _ _ _ _ (World.drew ((((w.alloc (.cells #[(Value.int .i64 (S.xlo)), (Value.int .i64 (S.xhi)), (Value.int .i64 (S.ylo)), (Value.int .i64 (S.yhi)), .slice A S.cs.length ca, (Value.int .i64 (S.wrong))] 26)).alloc (.cells #[(Value.int .i64 (a.1)), (Value.int .i64 (a.2))] 29)).alloc (.cells #[(Value.int .i64 (b.1)), (Value.int .i64 (b.2))] 29)).alloc (.cells #[(Value.int .i64 (0)), (Value.int .i64 (0))] 23)))
    have hd0 : Below (((((w.alloc (.cells #[(Value.int .i64 (S.xlo)), (Value.int .i64 (S.xhi)), (Value.int .i64 (S.ylo)), (Value.int .i64 (S.yhi)), .slice A S.cs.length ca, (Value.int .i64 (S.wrong))] 26)).alloc (.cells #[(Value.int .i64 (a.1)), (Value.int .i64 (a.2))] 29)).alloc (.cells #[(Value.int .i64 (b.1)), (Value.int .i64 (b.2))] 29)).alloc (.cells #[(Value.int .i64 (0)), (Value.int .i64 (0))] 23))).heap.size ((((w.alloc (.cells #[(Value.int .i64 (S.xlo)), (Value.int .i64 (S.xhi)), (Value.int .i64 (S.ylo)), (Value.int .i64 (S.yhi)), .slice A S.cs.length ca, (Value.int .i64 (S.wrong))] 26)).alloc (.cells #[(Value.int .i64 (a.1)), (Value.int .i64 (a.2))] 29)).alloc (.cells #[(Value.int .i64 (b.1)), (Value.int .i64 (b.2))] 29)).alloc (.cells #[(Value.int .i64 (0)), (Value.int .i64 (0))] 23)) (((((w.alloc (.cells #[(Value.int .i64 (S.xlo)), (Value.int .i64 (S.xhi)), (Value.int .i64 (S.ylo)), (Value.int .i64 (S.yhi)), .slice A S.cs.length ca, (Value.int .i64 (S.wrong))] 26)).alloc (.cells #[(Value.int .i64 (a.1)), (Value.int .i64 (a.2))] 29)).alloc (.cells #[(Value.int .i64 (b.1)), (Value.int .i64 (b.2))] 29)).alloc (.cells #[(Value.int .i64 (0)), (Value.int .i64 (0))] 23))).drew := bl_drew (Below.refl _ _)
    refine wpAnyC_take (i := 0) (v := ?v0u3) rfl (by kernel_rfl) (by kernel_rfl) (by kernel_rfl) ?q0u3 rfl ?y0u3 ?r0u3; (case q0u3 => exact fun _ _ _ h => h); (case y0u3 => ((rintro _ ⟨z, rfl⟩); (go_simp); (try with_reducible rfl))); simp only [Act.put, List.getElem_toArray, List.getElem_cons_succ, List.getElem_cons_zero, List.setIfInBounds_toArray, List.set_cons_succ, List.set_cons_zero]
    refine wpAnyC_take (i := 1) (v := ?v1u3) rfl (by kernel_rfl) (by kernel_rfl) (by kernel_rfl) ?q1u3 rfl ?y1u3 ?r1u3; (case q1u3 => exact fun _ _ _ h => h); (case y1u3 => ((rintro _ ⟨z, rfl⟩); (go_simp); (try with_reducible rfl))); simp only [Act.put, List.getElem_toArray, List.getElem_cons_succ, List.getElem_cons_zero, List.setIfInBounds_toArray, List.set_cons_succ, List.set_cons_zero]
    refine wpAnyC_one (i := 2) (by kernel_rfl) rfl ⟨⟨_, hd0⟩, rfl⟩ rfl (fun K hK => ?_)
    go_simp
    go_at_call 20
    (with_reducible refine Calls.mono (hI1.out _) ?_)
    rintro e1 w1 ⟨rfl, hb1⟩
    refine hK _ _ ?_
    clear hK K
    have hd1 := hd0.trans (hb1.mono hd0.size)
    refine wpAnyC_take (i := 3) (v := ?v3u3) rfl (by kernel_rfl) (by kernel_rfl) (by kernel_rfl) ?q3u3 rfl ?y3u3 ?r3u3; (case q3u3 => exact fun _ _ _ h => h); (case y3u3 => ((rintro _ ⟨z, rfl⟩); (go_simp); (try with_reducible rfl))); simp only [Act.put, List.getElem_toArray, List.getElem_cons_succ, List.getElem_cons_zero, List.setIfInBounds_toArray, List.set_cons_succ, List.set_cons_zero]
    (first | (refine wpAnyC_take (i := 4) (v := ?v4u3) rfl (by kernel_rfl) (by kernel_rfl) (by kernel_rfl) ?q4u3 rfl ?y4u3 ?r4u3; (case q4u3 => exact fun _ _ _ h => h); (case y4u3 => ((rintro _ ⟨z, rfl⟩); (go_simp); (try with_reducible rfl))); simp only [Act.put, List.getElem_toArray, List.getElem_cons_succ, List.getElem_cons_zero, List.setIfInBounds_toArray, List.set_cons_succ, List.set_cons_zero]; refine wpAnyC_one (i := 5) (by kernel_rfl) rfl ⟨⟨_, hd1⟩, rfl⟩ rfl (fun K hK => ?_); go_simp; (go_at_call 20); (with_reducible refine Calls.mono (hI2.out _) ?_); rintro e5 w5 ⟨rfl, hb5⟩; refine hK _ _ ?_; clear hK K; (have hd5 := hd1.trans (hb5.mono hd1.size))) | (refine wpAnyC_skip (i := 4) rfl (by kernel_rfl) (by kernel_rfl) (by kernel_rfl) ?q4u3 rfl ?r4u3; (case q4u3 => exact fun _ _ _ h => h); simp only [Act.put, List.getElem_toArray, List.getElem_cons_succ, List.getElem_cons_zero, List.setIfInBounds_toArray, List.set_cons_succ, List.set_cons_zero]; refine wpAnyC_skip (i := 5) rfl (by kernel_rfl) (by kernel_rfl) (by kernel_rfl) ?q5u3 rfl ?r5u3; (case q5u3 => exact fun _ _ _ h => h); simp only [Act.put, List.getElem_toArray, List.getElem_cons_succ, List.getElem_cons_zero, List.setIfInBounds_toArray, List.set_cons_succ, List.set_cons_zero]; (have hd5 := hd1)))
    refine wpAnyC_take (i := 6) (v := ?v6u3) rfl (by kernel_rfl) (by kernel_rfl) (by kernel_rfl) ?q6u3 rfl ?y6u3 ?r6u3; (case q6u3 => exact fun _ _ _ h => h); (case y6u3 => ((rintro _ ⟨z, rfl⟩); (go_simp); (try with_reducible rfl))); simp only [Act.put, List.getElem_toArray, List.getElem_cons_succ, List.getElem_cons_zero, List.setIfInBounds_toArray, List.set_cons_succ, List.set_cons_zero]
    refine wpAnyC_one (i := 7) (by kernel_rfl) rfl ⟨⟨_, hd5⟩, rfl⟩ rfl (fun K hK => ?_)
    go_simp
    go_at_call 41
    (with_reducible refine Calls.mono (hKn.out _ (bl_call hb0 hd5)) ?_)
    rintro e2 w2 ⟨⟨A1, ca1, rfl, hI⟩, hb2⟩
    refine hK _ _ ?_
    clear hK K
    have hd2 := hd5.trans (hb2.mono hd5.size)
    refine wpAnyC_take (i := 8) (v := ?v8u3) rfl (by kernel_rfl) (by kernel_rfl) (by kernel_rfl) ?q8u3 rfl ?y8u3 ?r8u3; (case q8u3 => exact fun _ _ _ h => h); (case y8u3 => ((rintro _ ⟨z, rfl⟩); (go_simp); (try with_reducible rfl))); simp only [Act.put, List.getElem_toArray, List.getElem_cons_succ, List.getElem_cons_zero, List.setIfInBounds_toArray, List.set_cons_succ, List.set_cons_zero]
    refine wpAnyC_take (i := 9) (v := ?v9u3) rfl (by kernel_rfl) (by kernel_rfl) (by kernel_rfl) ?q9u3 rfl ?y9u3 ?r9u3; (case q9u3 => exact fun _ _ _ h => h); (case y9u3 => ((rintro _ ⟨z, rfl⟩); (go_simp); (try with_reducible rfl))); simp only [Act.put, List.getElem_toArray, List.getElem_cons_succ, List.getElem_cons_zero, List.setIfInBounds_toArray, List.set_cons_succ, List.set_cons_zero]
    refine wpAnyC_take (i := 10) (v := ?v10u3) rfl (by kernel_rfl) (by kernel_rfl) (by kernel_rfl) ?q10u3 rfl ?y10u3 ?r10u3; (case q10u3 => exact fun _ _ _ h => h); (case y10u3 => ((rintro _ ⟨z, rfl⟩); (go_simp); (try with_reducible rfl))); simp only [Act.put, List.getElem_toArray, List.getElem_cons_succ, List.getElem_cons_zero, List.setIfInBounds_toArray, List.set_cons_succ, List.set_cons_zero]
    refine wpAnyC_take (i := 11) (v := ?v11u3) rfl (by kernel_rfl) (by kernel_rfl) (by kernel_rfl) ?q11u3 rfl ?y11u3 ?r11u3; (case q11u3 => exact fun _ _ _ h => h); (case y11u3 => ((rintro _ ⟨z, rfl⟩); (go_simp); (try with_reducible rfl))); simp only [Act.put, List.getElem_toArray, List.getElem_cons_succ, List.getElem_cons_zero, List.setIfInBounds_toArray, List.set_cons_succ, List.set_cons_zero]
    refine wpAnyC_take (i := 12) (v := ?v12u3) rfl (by kernel_rfl) (by kernel_rfl) (by kernel_rfl) ?q12u3 rfl ?y12u3 ?r12u3; (case q12u3 => exact fun _ _ _ h => h); (case y12u3 => ((rintro _ ⟨z, rfl⟩); (go_simp); (try with_reducible rfl))); simp only [Act.put, List.getElem_toArray, List.getElem_cons_succ, List.getElem_cons_zero, List.setIfInBounds_toArray, List.set_cons_succ, List.set_cons_zero]
    refine wpAnyC_doneN (by kernel_rfl) ⟨⟨_, hd2⟩, rfl⟩ ?_ _
    have hbW := bl_call hb0 hd2
    have k2 := c2.below hd2
    have k3 := c3.below hd2
    have k4 := c4.below hd2
    have hg2 : w.heap.size + 3 < w2.heap.size := k4.lt
    clear la ya0 ya1 ya2 ya3 ya4 ya5 lb yb0 yb1 lc yc0 yc1 hb0 hd0 hd1 hd2 hd5 hb1 hb2 hKn c1 c2 c3 c4 hI1 hI2
    have d8 := Blk.new w2 23 #[(Value.int .i64 (0)), (Value.int .i64 (0))]
    have hR8 : Below w2.heap.size w2 (w2.alloc (.cells #[(Value.int .i64 (0)), (Value.int .i64 (0))] 23)) := by (repeat (first | with_reducible exact Below.refl _ _ | with_reducible apply bl_alloc | with_reducible apply bl_drew | with_reducible apply bl_after | (with_reducible refine bl_call ?_ (by assumption))))
    go_wp2
    go_loopw [11] (fun i wr => ∃ k : Nat, k ≤ L.length ∧ i = (Value.int .i64 ((k : Int))) ∧ Below w2.heap.size w2 wr ∧ Blk wr w2.heap.size 23 #[(Value.int .i64 (bLo (lnQ a b) (L.take k))), (Value.int .i64 (bHi (lnQ a b) (L.take k)))]) (fun i _ => L.length - (intOf i).toNat)
    case atStart => exact ⟨0, Nat.zero_le _, rfl, hR8, d8⟩
    case round =>
      obtain ⟨k, kn, rfl, hbr, e8⟩ := hrel
      clear d8 hR8
      by_cases hlt : k < L.length
      · obtain ⟨bc, oc, rfl, pc⟩ := (hI.below hbr).at_ hlt
        obtain ⟨lc, x1, x2⟩ := prs_cells pc hlt
        have hmem : pat L k ∈ L := List.mem_of_getElem? (pat_get hlt)
        obtain ⟨hab, hf⟩ := HM.out _ hmem
        have hfr := sqQ_ok (lnQ_bd hab hf)
        have hSq := Lib.hid fun (W : World) => rSquare4 a b (pat L k) hab hf W
        have hWi := fun (W : World) => rWider4 (bLo (lnQ a b) (L.take k)) (bHi (lnQ a b) (L.take k)) (lnQ a b (pat L k)) (decide (k = 0)) hfr W
        rw [← bLo_take (lnQ a b) hlt, ← bHi_take (lnQ a b) hlt] at hWi
        have hWi2 : ∀ W : World, Calls Tryz.prog 43 #[.agg #[(Value.int .i64 (bLo (lnQ a b) (L.take k))), (Value.int .i64 (bHi (lnQ a b) (L.take k)))], (Value.int .i64 ((lnQ a b (pat L k)).1)), (Value.int .i64 ((lnQ a b (pat L k)).2)), .bool ((k : Int) == 0)] W fun e w' => e = .returned (.agg #[(Value.int .i64 (bLo (lnQ a b) (L.take (k + 1)))), (Value.int .i64 (bHi (lnQ a b) (L.take (k + 1))))]) ∧ Below W.heap.size W w' := fun W => by
          have h5 := hWi W
          rw [show decide (k = 0) = ((k : Int) == 0) by rw [Bool.eq_iff_iff]; simp] at h5
          exact h5
        generalize hlo1 : bLo (lnQ a b) (L.take (k + 1)) = lo1 at *
        generalize hhi1 : bHi (lnQ a b) (L.take (k + 1)) = hi1 at *
        replace hlo1 := Lib.hid hlo1
        replace hhi1 := Lib.hid hhi1
        generalize bLo (lnQ a b) (L.take k) = lo0 at *
        generalize bHi (lnQ a b) (L.take k) = hi0 at *
        generalize (lnQ a b (pat L k)).1 = nu at *
        generalize (lnQ a b (pat L k)).2 = de at *
        replace hWi2 := Lib.hid hWi2
        have i1 : (k : Int) < (L.length : Int) := by omega
        have m2 := k2.below hbr
        have m3 := k3.below hbr
        (have lb := m2.lt); (have yb0 := m2.cell 0); (have yb1 := m2.cell 1); simp only [List.getElem?_toArray, List.getElem?_cons_zero, List.getElem?_cons_succ] at yb0 yb1
        (have lc := m3.lt); (have yc0 := m3.cell 0); (have yc1 := m3.cell 1); simp only [List.getElem?_toArray, List.getElem?_cons_zero, List.getElem?_cons_succ] at yc0 yc1
        clear hWi hfr hab hf hmem pc m2 m3
        go_upto_region 6 with fail
        refine wp_region_after (by kernel_rfl) (by kernel_rfl) ?_; (repeat (go_big_quiet_step (((go_at_call 28; with_reducible exact calls_after (hSq.out _)))))); refine wpQuiet_nil ?_; rintro _ ⟨z, rfl⟩; (first | ((with_reducible apply kp_in_after (z := z)); (with_reducible assumption); rintro ⟨hk, hc, hf, hzc, hzf⟩) | ((with_reducible refine kp_in_after0 z ?_); rintro ⟨hk, hc, hf, hzc, hzf⟩))
        have e9 := e8.below z.ok
        have hbz := bl_after z hbr
        clear x1 x2 lb yb0 yb1 lc yc0 yc1
        ((try clear hk hc hf hzc hzf); (try clear hk hc hf hzc hzf); (try clear hk hc hf hzc hzf); (try clear hk hc hf hzc hzf))
        (have la := e9.lt); (have ya0 := e9.cell 0); (have ya1 := e9.cell 1); simp only [List.getElem?_toArray, List.getElem?_cons_zero, List.getElem?_cons_succ] at ya0 ya1
        have fa0 := e9.frozen 0
        have fa1 := e9.frozen 1
        have E9 := Lib.hid e9
        clear e8 e9
        go_wp2_with ((go_at_call 43); (with_reducible refine Calls.mono (hWi2.out _) ?_); rintro e3 w3 ⟨rfl, hb3⟩; (have f8 := E9.out.below hb3); (have hb8 := bl_call hbz hb3); (have l8 := f8.lt); (have ff0 := f8.frozen 0); (have ff1 := f8.frozen 1); (have v80 := f8.cell 0); (have v81 := f8.cell 1); (simp only [List.getElem?_toArray, List.getElem?_cons_zero, List.getElem?_cons_succ] at v80 v81); (have F8 := Lib.hid f8); clear f8; first | ((with_reducible apply kp_in_step (hb := hb3)); (with_reducible assumption); rintro ⟨hk, hc, hf, hzc, hzf⟩) | ((with_reducible refine kp_in_first hb3 ?_); rintro ⟨hk, hc, hf, hzc, hzf⟩))
        go_roundw
        case rel =>
          refine ⟨k + 1, by omega, by go_num, bl_setc (bl_setc hb8 (Nat.le_refl _)) (Nat.le_refl _), ?_⟩
          have h9 := (F8.out.set_ 0 (Value.int .i64 (lo1))).set_ 1 (Value.int .i64 (hi1))
          rw [hlo1.out, hhi1.out]
          simpa using h9
        case measure => simp [intOf]; omega
      · obtain rfl : k = L.length := by omega
        rw [List.take_length] at e8
        (have la := e8.lt); (have ya0 := e8.cell 0); (have ya1 := e8.cell 1); simp only [List.getElem?_toArray, List.getElem?_cons_zero, List.getElem?_cons_succ] at ya0 ya1
        have e4 := (k4.below hbr)
        (have lb := e4.lt); (have yb0 := e4.cell 0); (have yb1 := e4.cell 1); simp only [List.getElem?_toArray, List.getElem?_cons_zero, List.getElem?_cons_succ] at yb0 yb1
        have fb0 := e4.frozen 0
        have fb1 := e4.frozen 1
        have hbR := bl_call hbW hbr
        generalize hlo : bLo (lnQ a b) L = lo at *
        generalize hhi : bHi (lnQ a b) L = hi at *
        replace hlo := Lib.hid hlo
        replace hhi := Lib.hid hhi
        have E4 := Lib.hid e4
        clear e8 k2 k3 k4 e4
        go_wp2
        have d4 : Blk ((wr.setCell ⟨w.heap.size + 3, 0, none⟩ (Value.int .i64 (lo))).setCell ⟨w.heap.size + 3, 1, none⟩ (Value.int .i64 (hi))) (w.heap.size + 3) 23 #[(Value.int .i64 (lo)), (Value.int .i64 (hi))] := by
          have h := (E4.out.set_ 0 (Value.int .i64 (lo))).set_ 1 (Value.int .i64 (hi))
          simpa using h
        have hbX : Below w.heap.size w ((wr.setCell ⟨w.heap.size + 3, 0, none⟩ (Value.int .i64 (lo))).setCell ⟨w.heap.size + 3, 1, none⟩ (Value.int .i64 (hi))) := bl_setc (bl_setc hbR (by omega)) (by omega)
        change bodyPost _ _ _ _ _ ((wr.setCell ⟨w.heap.size + 3, 0, none⟩ (Value.int .i64 (lo))).setCell ⟨w.heap.size + 3, 1, none⟩ (Value.int .i64 (hi)))
        generalize (wr.setCell ⟨w.heap.size + 3, 0, none⟩ (Value.int .i64 (lo))).setCell ⟨w.heap.size + 3, 1, none⟩ (Value.int .i64 (hi)) = X at d4 hbX ⊢
        have z4 := d4.cell 0
        have z5 := d4.cell 1
        simp only [List.getElem?_toArray, List.getElem?_cons_zero, List.getElem?_cons_succ] at z4 z5
        refine bodyPost_ret (v := .tuple #[.agg #[(Value.int .i64 (lo)), (Value.int .i64 (hi))], (Value.int .i64 (er))]) (by simp [results, Tryz.results13, go_sem, z4, z5]) rfl ⟨by rw [hlo.out, hhi.out], hbX⟩
  · go_enter Tryz.func13, Tryz.ntmps13
    go_upto_region 1 with fail
    refine wp_region_CN (fun w' => ∃ z : After ((((w.alloc (.cells #[(Value.int .i64 (S.xlo)), (Value.int .i64 (S.xhi)), (Value.int .i64 (S.ylo)), (Value.int .i64 (S.yhi)), .slice A S.cs.length ca, (Value.int .i64 (S.wrong))] 26)).alloc (.cells #[(Value.int .i64 (a.1)), (Value.int .i64 (a.2))] 29)).alloc (.cells #[(Value.int .i64 (b.1)), (Value.int .i64 (b.2))] 29)).alloc (.cells #[(Value.int .i64 (0)), (Value.int .i64 (0))] 23)), w' = z.val) (by kernel_rfl) ?_
    change wpAnyC _ _ _ _ _ _ _ (World.drew ((((w.alloc (.cells #[(Value.int .i64 (S.xlo)), (Value.int .i64 (S.xhi)), (Value.int .i64 (S.ylo)), (Value.int .i64 (S.yhi)), .slice A S.cs.length ca, (Value.int .i64 (S.wrong))] 26)).alloc (.cells #[(Value.int .i64 (a.1)), (Value.int .i64 (a.2))] 29)).alloc (.cells #[(Value.int .i64 (b.1)), (Value.int .i64 (b.2))] 29)).alloc (.cells #[(Value.int .i64 (0)), (Value.int .i64 (0))] 23)))
    have hd0 : Below (((((w.alloc (.cells #[(Value.int .i64 (S.xlo)), (Value.int .i64 (S.xhi)), (Value.int .i64 (S.ylo)), (Value.int .i64 (S.yhi)), .slice A S.cs.length ca, (Value.int .i64 (S.wrong))] 26)).alloc (.cells #[(Value.int .i64 (a.1)), (Value.int .i64 (a.2))] 29)).alloc (.cells #[(Value.int .i64 (b.1)), (Value.int .i64 (b.2))] 29)).alloc (.cells #[(Value.int .i64 (0)), (Value.int .i64 (0))] 23))).heap.size ((((w.alloc (.cells #[(Value.int .i64 (S.xlo)), (Value.int .i64 (S.xhi)), (Value.int .i64 (S.ylo)), (Value.int .i64 (S.yhi)), .slice A S.cs.length ca, (Value.int .i64 (S.wrong))] 26)).alloc (.cells #[(Value.int .i64 (a.1)), (Value.int .i64 (a.2))] 29)).alloc (.cells #[(Value.int .i64 (b.1)), (Value.int .i64 (b.2))] 29)).alloc (.cells #[(Value.int .i64 (0)), (Value.int .i64 (0))] 23)) (((((w.alloc (.cells #[(Value.int .i64 (S.xlo)), (Value.int .i64 (S.xhi)), (Value.int .i64 (S.ylo)), (Value.int .i64 (S.yhi)), .slice A S.cs.length ca, (Value.int .i64 (S.wrong))] 26)).alloc (.cells #[(Value.int .i64 (a.1)), (Value.int .i64 (a.2))] 29)).alloc (.cells #[(Value.int .i64 (b.1)), (Value.int .i64 (b.2))] 29)).alloc (.cells #[(Value.int .i64 (0)), (Value.int .i64 (0))] 23))).drew := bl_drew (Below.refl _ _)
    refine wpAnyC_take (i := 0) (v := ?v0u4) rfl (by kernel_rfl) (by kernel_rfl) (by kernel_rfl) ?q0u4 rfl ?y0u4 ?r0u4; (case q0u4 => exact fun _ _ _ h => h); (case y0u4 => ((rintro _ ⟨z, rfl⟩); (go_simp); (try with_reducible rfl))); simp only [Act.put, List.getElem_toArray, List.getElem_cons_succ, List.getElem_cons_zero, List.setIfInBounds_toArray, List.set_cons_succ, List.set_cons_zero]
    refine wpAnyC_take (i := 1) (v := ?v1u4) rfl (by kernel_rfl) (by kernel_rfl) (by kernel_rfl) ?q1u4 rfl ?y1u4 ?r1u4; (case q1u4 => exact fun _ _ _ h => h); (case y1u4 => ((rintro _ ⟨z, rfl⟩); (go_simp); (try with_reducible rfl))); simp only [Act.put, List.getElem_toArray, List.getElem_cons_succ, List.getElem_cons_zero, List.setIfInBounds_toArray, List.set_cons_succ, List.set_cons_zero]
    refine wpAnyC_one (i := 2) (by kernel_rfl) rfl ⟨⟨_, hd0⟩, rfl⟩ rfl (fun K hK => ?_)
    go_simp
    go_at_call 20
    (with_reducible refine Calls.mono (hI1.out _) ?_)
    rintro e1 w1 ⟨rfl, hb1⟩
    refine hK _ _ ?_
    clear hK K
    have hd1 := hd0.trans (hb1.mono hd0.size)
    refine wpAnyC_take (i := 3) (v := ?v3u4) rfl (by kernel_rfl) (by kernel_rfl) (by kernel_rfl) ?q3u4 rfl ?y3u4 ?r3u4; (case q3u4 => exact fun _ _ _ h => h); (case y3u4 => ((rintro _ ⟨z, rfl⟩); (go_simp); (try with_reducible rfl))); simp only [Act.put, List.getElem_toArray, List.getElem_cons_succ, List.getElem_cons_zero, List.setIfInBounds_toArray, List.set_cons_succ, List.set_cons_zero]
    (first | (refine wpAnyC_take (i := 4) (v := ?v4u4) rfl (by kernel_rfl) (by kernel_rfl) (by kernel_rfl) ?q4u4 rfl ?y4u4 ?r4u4; (case q4u4 => exact fun _ _ _ h => h); (case y4u4 => ((rintro _ ⟨z, rfl⟩); (go_simp); (try with_reducible rfl))); simp only [Act.put, List.getElem_toArray, List.getElem_cons_succ, List.getElem_cons_zero, List.setIfInBounds_toArray, List.set_cons_succ, List.set_cons_zero]; refine wpAnyC_one (i := 5) (by kernel_rfl) rfl ⟨⟨_, hd1⟩, rfl⟩ rfl (fun K hK => ?_); go_simp; (go_at_call 20); (with_reducible refine Calls.mono (hI2.out _) ?_); rintro e5 w5 ⟨rfl, hb5⟩; refine hK _ _ ?_; clear hK K; (have hd5 := hd1.trans (hb5.mono hd1.size))) | (refine wpAnyC_skip (i := 4) rfl (by kernel_rfl) (by kernel_rfl) (by kernel_rfl) ?q4u4 rfl ?r4u4; (case q4u4 => exact fun _ _ _ h => h); simp only [Act.put, List.getElem_toArray, List.getElem_cons_succ, List.getElem_cons_zero, List.setIfInBounds_toArray, List.set_cons_succ, List.set_cons_zero]; refine wpAnyC_skip (i := 5) rfl (by kernel_rfl) (by kernel_rfl) (by kernel_rfl) ?q5u4 rfl ?r5u4; (case q5u4 => exact fun _ _ _ h => h); simp only [Act.put, List.getElem_toArray, List.getElem_cons_succ, List.getElem_cons_zero, List.setIfInBounds_toArray, List.set_cons_succ, List.set_cons_zero]; (have hd5 := hd1)))
    refine wpAnyC_take (i := 6) (v := ?v6u4) rfl (by kernel_rfl) (by kernel_rfl) (by kernel_rfl) ?q6u4 rfl ?y6u4 ?r6u4; (case q6u4 => exact fun _ _ _ h => h); (case y6u4 => ((rintro _ ⟨z, rfl⟩); (go_simp); (try with_reducible rfl))); simp only [Act.put, List.getElem_toArray, List.getElem_cons_succ, List.getElem_cons_zero, List.setIfInBounds_toArray, List.set_cons_succ, List.set_cons_zero]
    refine wpAnyC_one (i := 7) (by kernel_rfl) rfl ⟨⟨_, hd5⟩, rfl⟩ rfl (fun K hK => ?_)
    go_simp
    go_at_call 41
    (with_reducible refine Calls.mono (hKn.out _ (bl_call hb0 hd5)) ?_)
    rintro e2 w2 ⟨⟨A1, ca1, rfl, hI⟩, hb2⟩
    refine hK _ _ ?_
    clear hK K
    have hd2 := hd5.trans (hb2.mono hd5.size)
    refine wpAnyC_take (i := 8) (v := ?v8u4) rfl (by kernel_rfl) (by kernel_rfl) (by kernel_rfl) ?q8u4 rfl ?y8u4 ?r8u4; (case q8u4 => exact fun _ _ _ h => h); (case y8u4 => ((rintro _ ⟨z, rfl⟩); (go_simp); (try with_reducible rfl))); simp only [Act.put, List.getElem_toArray, List.getElem_cons_succ, List.getElem_cons_zero, List.setIfInBounds_toArray, List.set_cons_succ, List.set_cons_zero]
    refine wpAnyC_take (i := 9) (v := ?v9u4) rfl (by kernel_rfl) (by kernel_rfl) (by kernel_rfl) ?q9u4 rfl ?y9u4 ?r9u4; (case q9u4 => exact fun _ _ _ h => h); (case y9u4 => ((rintro _ ⟨z, rfl⟩); (go_simp); (try with_reducible rfl))); simp only [Act.put, List.getElem_toArray, List.getElem_cons_succ, List.getElem_cons_zero, List.setIfInBounds_toArray, List.set_cons_succ, List.set_cons_zero]
    refine wpAnyC_take (i := 10) (v := ?v10u4) rfl (by kernel_rfl) (by kernel_rfl) (by kernel_rfl) ?q10u4 rfl ?y10u4 ?r10u4; (case q10u4 => exact fun _ _ _ h => h); (case y10u4 => ((rintro _ ⟨z, rfl⟩); (go_simp); (try with_reducible rfl))); simp only [Act.put, List.getElem_toArray, List.getElem_cons_succ, List.getElem_cons_zero, List.setIfInBounds_toArray, List.set_cons_succ, List.set_cons_zero]
    refine wpAnyC_take (i := 11) (v := ?v11u4) rfl (by kernel_rfl) (by kernel_rfl) (by kernel_rfl) ?q11u4 rfl ?y11u4 ?r11u4; (case q11u4 => exact fun _ _ _ h => h); (case y11u4 => ((rintro _ ⟨z, rfl⟩); (go_simp); (try with_reducible rfl))); simp only [Act.put, List.getElem_toArray, List.getElem_cons_succ, List.getElem_cons_zero, List.setIfInBounds_toArray, List.set_cons_succ, List.set_cons_zero]
    refine wpAnyC_take (i := 12) (v := ?v12u4) rfl (by kernel_rfl) (by kernel_rfl) (by kernel_rfl) ?q12u4 rfl ?y12u4 ?r12u4; (case q12u4 => exact fun _ _ _ h => h); (case y12u4 => ((rintro _ ⟨z, rfl⟩); (go_simp); (try with_reducible rfl))); simp only [Act.put, List.getElem_toArray, List.getElem_cons_succ, List.getElem_cons_zero, List.setIfInBounds_toArray, List.set_cons_succ, List.set_cons_zero]
    refine wpAnyC_doneN (by kernel_rfl) ⟨⟨_, hd2⟩, rfl⟩ ?_ _
    have hbW := bl_call hb0 hd2
    have k2 := c2.below hd2
    have k3 := c3.below hd2
    have k4 := c4.below hd2
    have hg2 : w.heap.size + 3 < w2.heap.size := k4.lt
    clear la ya0 ya1 ya2 ya3 ya4 ya5 lb yb0 yb1 lc yc0 yc1 hb0 hd0 hd1 hd2 hd5 hb1 hb2 hKn c1 c2 c3 c4 hI1 hI2
    have d8 := Blk.new w2 23 #[(Value.int .i64 (0)), (Value.int .i64 (0))]
    have hR8 : Below w2.heap.size w2 (w2.alloc (.cells #[(Value.int .i64 (0)), (Value.int .i64 (0))] 23)) := by (repeat (first | with_reducible exact Below.refl _ _ | with_reducible apply bl_alloc | with_reducible apply bl_drew | with_reducible apply bl_after | (with_reducible refine bl_call ?_ (by assumption))))
    go_wp2
    go_loopw [11] (fun i wr => ∃ k : Nat, k ≤ L.length ∧ i = (Value.int .i64 ((k : Int))) ∧ Below w2.heap.size w2 wr ∧ Blk wr w2.heap.size 23 #[(Value.int .i64 (bLo (lnQ a b) (L.take k))), (Value.int .i64 (bHi (lnQ a b) (L.take k)))]) (fun i _ => L.length - (intOf i).toNat)
    case atStart => exact ⟨0, Nat.zero_le _, rfl, hR8, d8⟩
    case round =>
      obtain ⟨k, kn, rfl, hbr, e8⟩ := hrel
      clear d8 hR8
      by_cases hlt : k < L.length
      · obtain ⟨bc, oc, rfl, pc⟩ := (hI.below hbr).at_ hlt
        obtain ⟨lc, x1, x2⟩ := prs_cells pc hlt
        have hmem : pat L k ∈ L := List.mem_of_getElem? (pat_get hlt)
        obtain ⟨hab, hf⟩ := HM.out _ hmem
        have hfr := sqQ_ok (lnQ_bd hab hf)
        have hSq := Lib.hid fun (W : World) => rSquare4 a b (pat L k) hab hf W
        have hWi := fun (W : World) => rWider4 (bLo (lnQ a b) (L.take k)) (bHi (lnQ a b) (L.take k)) (lnQ a b (pat L k)) (decide (k = 0)) hfr W
        rw [← bLo_take (lnQ a b) hlt, ← bHi_take (lnQ a b) hlt] at hWi
        have hWi2 : ∀ W : World, Calls Tryz.prog 43 #[.agg #[(Value.int .i64 (bLo (lnQ a b) (L.take k))), (Value.int .i64 (bHi (lnQ a b) (L.take k)))], (Value.int .i64 ((lnQ a b (pat L k)).1)), (Value.int .i64 ((lnQ a b (pat L k)).2)), .bool ((k : Int) == 0)] W fun e w' => e = .returned (.agg #[(Value.int .i64 (bLo (lnQ a b) (L.take (k + 1)))), (Value.int .i64 (bHi (lnQ a b) (L.take (k + 1))))]) ∧ Below W.heap.size W w' := fun W => by
          have h5 := hWi W
          rw [show decide (k = 0) = ((k : Int) == 0) by rw [Bool.eq_iff_iff]; simp] at h5
          exact h5
        generalize hlo1 : bLo (lnQ a b) (L.take (k + 1)) = lo1 at *
        generalize hhi1 : bHi (lnQ a b) (L.take (k + 1)) = hi1 at *
        replace hlo1 := Lib.hid hlo1
        replace hhi1 := Lib.hid hhi1
        generalize bLo (lnQ a b) (L.take k) = lo0 at *
        generalize bHi (lnQ a b) (L.take k) = hi0 at *
        generalize (lnQ a b (pat L k)).1 = nu at *
        generalize (lnQ a b (pat L k)).2 = de at *
        replace hWi2 := Lib.hid hWi2
        have i1 : (k : Int) < (L.length : Int) := by omega
        have m2 := k2.below hbr
        have m3 := k3.below hbr
        (have lb := m2.lt); (have yb0 := m2.cell 0); (have yb1 := m2.cell 1); simp only [List.getElem?_toArray, List.getElem?_cons_zero, List.getElem?_cons_succ] at yb0 yb1
        (have lc := m3.lt); (have yc0 := m3.cell 0); (have yc1 := m3.cell 1); simp only [List.getElem?_toArray, List.getElem?_cons_zero, List.getElem?_cons_succ] at yc0 yc1
        clear hWi hfr hab hf hmem pc m2 m3
        go_upto_region 6 with fail
        refine wp_region_after (by kernel_rfl) (by kernel_rfl) ?_; (repeat (go_big_quiet_step (((go_at_call 28; with_reducible exact calls_after (hSq.out _)))))); refine wpQuiet_nil ?_; rintro _ ⟨z, rfl⟩; (first | ((with_reducible apply kp_in_after (z := z)); (with_reducible assumption); rintro ⟨hk, hc, hf, hzc, hzf⟩) | ((with_reducible refine kp_in_after0 z ?_); rintro ⟨hk, hc, hf, hzc, hzf⟩))
        have e9 := e8.below z.ok
        have hbz := bl_after z hbr
        clear x1 x2 lb yb0 yb1 lc yc0 yc1
        ((try clear hk hc hf hzc hzf); (try clear hk hc hf hzc hzf); (try clear hk hc hf hzc hzf); (try clear hk hc hf hzc hzf))
        (have la := e9.lt); (have ya0 := e9.cell 0); (have ya1 := e9.cell 1); simp only [List.getElem?_toArray, List.getElem?_cons_zero, List.getElem?_cons_succ] at ya0 ya1
        have fa0 := e9.frozen 0
        have fa1 := e9.frozen 1
        have E9 := Lib.hid e9
        clear e8 e9
        go_wp2_with ((go_at_call 43); (with_reducible refine Calls.mono (hWi2.out _) ?_); rintro e3 w3 ⟨rfl, hb3⟩; (have f8 := E9.out.below hb3); (have hb8 := bl_call hbz hb3); (have l8 := f8.lt); (have ff0 := f8.frozen 0); (have ff1 := f8.frozen 1); (have v80 := f8.cell 0); (have v81 := f8.cell 1); (simp only [List.getElem?_toArray, List.getElem?_cons_zero, List.getElem?_cons_succ] at v80 v81); (have F8 := Lib.hid f8); clear f8; first | ((with_reducible apply kp_in_step (hb := hb3)); (with_reducible assumption); rintro ⟨hk, hc, hf, hzc, hzf⟩) | ((with_reducible refine kp_in_first hb3 ?_); rintro ⟨hk, hc, hf, hzc, hzf⟩))
        go_roundw
        case rel =>
          refine ⟨k + 1, by omega, by go_num, bl_setc (bl_setc hb8 (Nat.le_refl _)) (Nat.le_refl _), ?_⟩
          have h9 := (F8.out.set_ 0 (Value.int .i64 (lo1))).set_ 1 (Value.int .i64 (hi1))
          rw [hlo1.out, hhi1.out]
          simpa using h9
        case measure => simp [intOf]; omega
      · obtain rfl : k = L.length := by omega
        rw [List.take_length] at e8
        (have la := e8.lt); (have ya0 := e8.cell 0); (have ya1 := e8.cell 1); simp only [List.getElem?_toArray, List.getElem?_cons_zero, List.getElem?_cons_succ] at ya0 ya1
        have e4 := (k4.below hbr)
        (have lb := e4.lt); (have yb0 := e4.cell 0); (have yb1 := e4.cell 1); simp only [List.getElem?_toArray, List.getElem?_cons_zero, List.getElem?_cons_succ] at yb0 yb1
        have fb0 := e4.frozen 0
        have fb1 := e4.frozen 1
        have hbR := bl_call hbW hbr
        generalize hlo : bLo (lnQ a b) L = lo at *
        generalize hhi : bHi (lnQ a b) L = hi at *
        replace hlo := Lib.hid hlo
        replace hhi := Lib.hid hhi
        have E4 := Lib.hid e4
        clear e8 k2 k3 k4 e4
        go_wp2
        have d4 : Blk ((wr.setCell ⟨w.heap.size + 3, 0, none⟩ (Value.int .i64 (lo))).setCell ⟨w.heap.size + 3, 1, none⟩ (Value.int .i64 (hi))) (w.heap.size + 3) 23 #[(Value.int .i64 (lo)), (Value.int .i64 (hi))] := by
          have h := (E4.out.set_ 0 (Value.int .i64 (lo))).set_ 1 (Value.int .i64 (hi))
          simpa using h
        have hbX : Below w.heap.size w ((wr.setCell ⟨w.heap.size + 3, 0, none⟩ (Value.int .i64 (lo))).setCell ⟨w.heap.size + 3, 1, none⟩ (Value.int .i64 (hi))) := bl_setc (bl_setc hbR (by omega)) (by omega)
        change bodyPost _ _ _ _ _ ((wr.setCell ⟨w.heap.size + 3, 0, none⟩ (Value.int .i64 (lo))).setCell ⟨w.heap.size + 3, 1, none⟩ (Value.int .i64 (hi)))
        generalize (wr.setCell ⟨w.heap.size + 3, 0, none⟩ (Value.int .i64 (lo))).setCell ⟨w.heap.size + 3, 1, none⟩ (Value.int .i64 (hi)) = X at d4 hbX ⊢
        have z4 := d4.cell 0
        have z5 := d4.cell 1
        simp only [List.getElem?_toArray, List.getElem?_cons_zero, List.getElem?_cons_succ] at z4 z5
        refine bodyPost_ret (v := .tuple #[.agg #[(Value.int .i64 (lo)), (Value.int .i64 (hi))], (Value.int .i64 (er))]) (by simp [results, Tryz.results13, go_sem, z4, z5]) rfl ⟨by rw [hlo.out, hhi.out], hbX⟩
theorem rLength4 (A : Option Addr) (ca : Nat) (S : Sht) (a b : Pt) (w : World) (ha : Cts w A S.cs) :
    Calls Tryz.prog 13 #[(Value.agg #[(Value.int .i64 (S.xlo)), (Value.int .i64 (S.xhi)), (Value.int .i64 (S.ylo)), (Value.int .i64 (S.yhi)), .slice A S.cs.length ca, (Value.int .i64 (S.wrong))]), (Value.agg #[.int .i64 a.1, .int .i64 a.2]), (Value.agg #[.int .i64 b.1, .int .i64 b.2])] w fun e w' => e = .returned (.tuple #[.agg #[(Value.int .i64 (lnLo S a b)), (Value.int .i64 (lnHi S a b))], (Value.int .i64 (lnE S a b))]) ∧ Below w.heap.size w w' := rLength4_of A ca S a b w ha _ _ rfl rfl
end Go.Proofs.YtegdnbceiopklaaGreat
