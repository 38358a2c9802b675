/- The law CornersTurned answers true for any corners, any number and any point, and leaves its arguments as they were. -/
import Derived.Test.YtijpolfmiajenaaPts
import Derived.Test.YtijpolfmiajenaaOpen
import Derived.Test.YtijpolfmiajenaaTold
import Derived.Test.YtijpolfmiajenaaTurn
import Derived.Test.YtijpolfmiajenaaWide
import Derived.Deep.AppendLies
import Derived.StillTactics
import Derived.Test.YtijpolfmiajenaaRows
namespace Go.Proofs.Ytijpolfmiajenaa
open Go.ChangeShapes Go.WideShapes Go.RowKit
attribute [local go_sem] After.cell After.frozen

/-- The first k corners of the list that begins with corner f; of the list backwards. -/
def trn (l : List Pt) (f k : Nat) : List Pt := (List.range k).map fun i => pat l ((f + i) % l.length)
def bck (l : List Pt) (k : Nat) : List Pt := (List.range k).map fun i => pat l (l.length - 1 - i)
theorem trn_succ (l : List Pt) (f k : Nat) : trn l f (k + 1) = trn l f k ++ [pat l ((f + k) % l.length)] := by simp [trn, List.range_succ]
theorem bck_succ (l : List Pt) (k : Nat) : bck l (k + 1) = bck l k ++ [pat l (l.length - 1 - k)] := by simp [bck, List.range_succ]
theorem bck_full (l : List Pt) : bck l l.length = l.reverse := by
  refine List.ext_getElem (by simp [bck]) fun i h1 h2 => ?_
  have hi : i < l.length := by simpa [bck] using h1
  rw [List.getElem_reverse]
  simp only [bck, List.getElem_map, List.getElem_range]
  exact (pat_eq (by omega)).symm
theorem trn_full (l : List Pt) (f : Nat) (hf : f < l.length) : trn l f l.length = l.drop f ++ l.take f := by
  refine List.ext_getElem (by simp [trn]; omega) fun i h1 h2 => ?_
  have hi : i < l.length := by simpa [trn] using h1
  rw [List.getElem_append]
  split
  · rename_i h
    rw [List.getElem_drop]
    simp only [trn, List.getElem_map, List.getElem_range]
    rw [Nat.mod_eq_of_lt (by simp at h; omega)]
    exact (pat_eq (by simp at h; omega)).symm
  · rename_i h
    rw [List.getElem_take]
    simp only [trn, List.getElem_map, List.getElem_range, List.length_drop] at h ⊢
    rw [Nat.mod_eq_sub_mod (by omega), Nat.mod_eq_of_lt (by omega), ← pat_eq (by omega)]
    congr 1
    omega
theorem trn_perm (l : List Pt) (f : Nat) (hf : f < l.length) : (ring l).Perm (ring (trn l f l.length)) := by
  rw [trn_full l f hf]
  have := ring_rot (l.take f) (l.drop f)
  rwa [List.take_append_drop] at this
theorem trn_ok {l : List Pt} (h : Ok l) (f : Nat) (hf : f < l.length) : Ok (trn l f l.length) := by
  rw [trn_full l f hf]
  exact ok_rot (by rwa [List.take_append_drop])

/-- No block belongs to both values. -/
def Dis (u v : Value) : Prop := ∀ g, u.ownBlock = some g → v.ownBlock ≠ some g
theorem Dis.hne {u v : Value} (h : Dis u v) : v.ownBlock = none ∨ v.ownBlock ≠ u.ownBlock := by
  cases hv : v.ownBlock with
  | none => exact .inl rfl
  | some g =>
    refine .inr fun e => ?_
    exact h g e.symm hv
theorem Dis.symm {u v : Value} (h : Dis u v) : Dis v u := fun g h1 h2 => h g h2 h1
theorem Dis.next {u v : Value} {g n c H : Nat} (h : Dis u v) (hat : u.ownBlock = some g ∨ g = H) (hv : ∀ k, v.ownBlock = some k → k < H) : Dis (.slice (some ⟨g, 0, none⟩) n c) v := by
  intro k hk hk2
  have e : g = k := by simpa [Value.ownBlock] using hk
  subst e
  rcases hat with h1 | h1
  · exact h g h1 hk2
  · have := hv g hk2; omega

theorem run_neq_all (x0 x1 x2 x3 x4 x5 x6 x7 x8 x9 : Int) (w : World) :
    (binOp .neq 42 (.agg #[(Value.int .i64 (x0)), (Value.int .i64 (x1)), (Value.int .i64 (x2)), (Value.int .i64 (x3)), (Value.int .i64 (x4)), (Value.int .i64 (x5)), (Value.int .i64 (x6)), (Value.int .i64 (x7)), (Value.int .i64 (x8)), (Value.int .i64 (x9))]) (.agg #[(Value.int .i64 (x0)), (Value.int .i64 (x1)), (Value.int .i64 (x2)), (Value.int .i64 (x3)), (Value.int .i64 (x4)), (Value.int .i64 (x5)), (Value.int .i64 (x6)), (Value.int .i64 (x7)), (Value.int .i64 (x8)), (Value.int .i64 (x9))])).run Try.prog w = .ok (.bool false) w := by
  rw [run_neq_struct, show (10000 : Nat) = 9997 + 3 from rfl, run_equalIn_struct w (9997 + 2) _ _ _ (by kernel_rfl) (by kernel_rfl)]
  simp [go_sem]
attribute [local go_sem high] run_neq_all

theorem told_perm (b o ca : Nat) (l m : List Pt) (w : World) (hp : PtsAt w b o m) (hok : Ok m) (h : (ring l).Perm (ring m)) :
    Calls Try.prog 30 #[.slice (some ⟨b, o, none⟩) m.length ca] w fun e w' => e = .returned (.tuple #[.agg #[(Value.int .i64 (tw l)), (Value.int .i64 (mx l)), (Value.int .i64 (my l)), (Value.int .i64 (mxx l)), (Value.int .i64 (mxy l)), (Value.int .i64 (myy l)), (Value.int .i64 ((cenX l).1)), (Value.int .i64 ((cenX l).2)), (Value.int .i64 ((cenY l).1)), (Value.int .i64 ((cenY l).2))], .bool true]) ∧ Below w.heap.size w w' := by
  have t := told_ok b o ca m w hp hok
  rw [show tw m = tw l from sum_perm oneF h.symm, show mx m = mx l from sum_perm fxF h.symm, show my m = my l from sum_perm fyF h.symm, show mxx m = mxx l from sum_perm xxF h.symm, show mxy m = mxy l from sum_perm xyF h.symm, show myy m = myy l from sum_perm yyF h.symm, (cen_perm h.symm).1, (cen_perm h.symm).2] at t
  exact t
theorem told_rev (b o ca : Nat) (l m : List Pt) (w : World) (hp : PtsAt w b o m) (hok : Ok l) (h : m = l.reverse) :
    Calls Try.prog 30 #[.slice (some ⟨b, o, none⟩) m.length ca] w fun e w' => e = .returned (.tuple #[.agg #[(Value.int .i64 (- tw l)), (Value.int .i64 (- mx l)), (Value.int .i64 (- my l)), (Value.int .i64 (- mxx l)), (Value.int .i64 (- mxy l)), (Value.int .i64 (- myy l)), (Value.int .i64 ((cenX l).1)), (Value.int .i64 ((cenX l).2)), (Value.int .i64 ((cenY l).1)), (Value.int .i64 ((cenY l).2))], .bool true]) ∧ Below w.heap.size w w' := by
  have t := told_ok b o ca m w hp (by rw [h]; exact ok_rev hok)
  rw [show tw m = - tw l by rw [h, tw_rev], show mx m = - mx l by rw [h, mx_rev], show my m = - my l by rw [h, my_rev], show mxx m = - mxx l by rw [h, mxx_rev], show mxy m = - mxy l by rw [h, mxy_rev], show myy m = - myy l by rw [h, myy_rev], show cenX m = cenX l by rw [h, (cen_rev (tw_ne hok)).1], show cenY m = cenY l by rw [h, (cen_rev (tw_ne hok)).2]] at t
  exact t
theorem Where_as (b o ca : Nat) (l m : List Pt) (q : Pt) (w : World) (hp : PtsAt w b o m) (hl : Ok l) (hm : Ok m) (h : whereOf m q = whereOf l q) :
    Calls Try.prog 25 #[.slice (some ⟨b, o, none⟩) m.length ca, (Value.agg #[.int .i64 q.1, .int .i64 q.2])] w fun e w' => e = .returned (.tuple #[(Value.int .i64 (whV l q)), (Value.int .i64 (whE l q))]) ∧ Below w.heap.size w w' := by
  have t := Where_pts (some ⟨b, o, none⟩) ca m w (.inr ⟨b, o, rfl, hp⟩) (by have := hm.1; omega) q
  rw [show whV m q = whV l q by unfold whV; rw [if_pos hm, if_pos hl, h], show whE m q = whE l q by unfold whE; rw [if_pos hm, if_pos hl]] at t
  exact t
theorem Points_as (b o ca : Nat) (l m : List Pt) (w : World) (hp : PtsAt w b o m) (hm : Ok m) (h : (ring l).Perm (ring m)) :
    Calls Try.prog 17 #[.slice (some ⟨b, o, none⟩) m.length ca] w fun e w' => e = .returned (.tuple #[(Value.int .i64 (pickOf l)), (Value.int .i64 (ownOf l)), (Value.int .i64 (0))]) ∧ Below w.heap.size w w' := by
  have t := Points_ok b o ca m w hp hm
  rw [show pickOf m = pickOf l from pick_perm h.symm, show ownOf m = ownOf l from own_perm h.symm] at t
  exact t

set_option maxRecDepth 100000 in
set_option maxHeartbeats 4000000 in
theorem lawTurned_any (A : Option Addr) (ca : Nat) (l : List Pt) (num : Int) (q : Pt) (w : World) (ha : Pts w A l) (hla : l.length ≤ 9223372036854775807) (hnum : (Lit.int .i64 num).wf = true) :
    Calls Try.prog 6 #[.slice A l.length ca, (Value.int .i64 (num)), (Value.agg #[.int .i64 q.1, .int .i64 q.2])] w fun e w' => e = .returned (.bool true) ∧ Below w.heap.size w w' := by
  have hr := Lib.hid fun (W : World) (hW : Below w.heap.size w W) => ready_any A ca l W (ha.below hW) hla
  by_cases hok : Ok l
  · rw [decide_eq_true hok] at hr
    by_cases hn : 0 ≤ num ∧ num < (l.length : Int)
    · obtain ⟨h0, h1⟩ := hn
      obtain ⟨f, rfl⟩ := Int.eq_ofNat_of_zero_le h0
      obtain ⟨b, o, rfl, hp⟩ := ha.ok hok
      obtain ⟨i0, hi, hz0, hz1, hz2⟩ := info_parts infoPt
      have hl10 := hok.1
      have hfl : f < l.length := by omega
      have hp0 := hp.lt
      have hok' := Lib.hid hok
      clear hok
      have hd1 : decide ((f : Int) < 0) = false := by rw [decide_eq_false_iff_not]; omega
      have hd2 : decide (l.length ≤ f) = false := by rw [decide_eq_false_iff_not]; omega
      have hd3 : decide ((l.length : Int) ≤ (f : Int)) = false := by rw [decide_eq_false_iff_not]; omega
      go_enter Try.func6, Try.ntmps6
      go_upto_region 3 with (go_at_call 14; with_reducible refine Calls.mono (hr.out _ (by (repeat (first | with_reducible exact Below.refl _ _ | with_reducible apply bl_alloc | with_reducible apply bl_drew | with_reducible apply bl_after | (with_reducible refine bl_call ?_ (by assumption)))))) ?_; rintro e w1 ⟨rfl, hb1⟩; first | ((with_reducible apply kp_in_step (hb := hb1)); (with_reducible assumption); rintro ⟨hk, hc, hf, hzc, hzf⟩) | ((with_reducible refine kp_in_first hb1 ?_); rintro ⟨hk, hc, hf, hzc, hzf⟩))
      have c5 : Blk w1 w.heap.size 33 #[(Value.int .i64 (q.1)), (Value.int .i64 (q.2))] := (Blk.new w _ _).below (by assumption)
      have hbW : Below w.heap.size w w1 := by (repeat (first | with_reducible exact Below.refl _ _ | with_reducible apply bl_alloc | with_reducible apply bl_drew | with_reducible apply bl_after | (with_reducible refine bl_call ?_ (by assumption))))
      clear hk hc hf hzc hzf hb1
      have hpW := hp.below hbW
      clear hp ha
      generalize w1 = W at c5 hbW hpW ⊢
      have hbW2 := hbW.size
      have lp := hpW.lt
      have l5 := c5.lt
      go_wp2
      go_loopg [7, 8, 9] l.length (fun g v u i wr => ∃ k : Nat, k ≤ l.length ∧ g = l.length - k ∧ i = (Value.int .i64 ((k : Int))) ∧ wr.ownsRow W.heap.size 33 2 v k (ptsV (trn l f k)) ∧ wr.ownsRow W.heap.size 33 2 u k (ptsV (bck l k)) ∧ Dis v u ∧ Below W.heap.size W wr)
      case atStart => exact ⟨0, by omega, rfl, rfl, World.ownsRow_nil _ _ _ _, World.ownsRow_nil _ _ _ _, (fun _ h => by cases h), by (repeat (first | with_reducible exact Below.refl _ _ | with_reducible apply bl_alloc | with_reducible apply bl_drew | with_reducible apply bl_after | (with_reducible refine bl_call ?_ (by assumption))))⟩
      case round =>
        obtain ⟨k, kn, rfl, rfl, hown7, hown8, hdis, hbw⟩ := hrel
        by_cases hlt : k < l.length
        · have pa := hpW.below hbw
          have lb := pa.lt
          have j1 : (f + k) % l.length < l.length := Nat.mod_lt _ (by omega)
          have j2 : l.length - 1 - k < l.length := by omega
          have x1 := pa.xp j1
          have x2 := pa.yp j1
          have e1 : ((f : Int) + (k : Int)) % (l.length : Int) = (((f + k) % l.length : Nat) : Int) := by simp
          have i1 : 0 ≤ ((f : Int) + (k : Int)) % (l.length : Int) := by rw [e1]; omega
          have i2 : ((f : Int) + (k : Int)) % (l.length : Int) < (l.length : Int) := by rw [e1]; omega
          have i3 : (((f : Int) + (k : Int)) % (l.length : Int)).toNat = (f + k) % l.length := by rw [e1]; omega
          clear e1
          have hgm := hbw.size
          have HB := Lib.hid hbw
          have HD := Lib.hid hdis
          clear hbw hdis
          go_upto_region 8 with (at_builtin; refine wpList_append_lies _ rfl (.tmp 48) (.tmp 58) 22 rfl W.heap.size 33 i0 _ 2 16 undPts hi hz0 hz1 hz2 rfl (by omega) u7 k (ptsV (trn l f k)) rfl (hown7.alloc _) ⟨wr.heap.size, 0, none⟩ 1 1 (ptsV [pat l ((f + k) % l.length)]) rfl rfl (World.news_of_block (cs := (ptsV [pat l ((f + k) % l.length)]).toArray) (t := 33) (fr := (0, 0)) (heap_alloc_new wr _)) (ptsV_one _) (by omega) (by unfold maxLen; omega) (by omega) (by simp; omega) (wr.heap.size + 1) (by simp) ?_; intro g1 cap1 w1 hown1 hgrow1 hat1 hlt1)
          have hb1 : Below W.heap.size W w1 := ((Below.alloc HB.out HB.out.size _).grown hgrow1 (by simp; omega) (fun g hg => (hown7.lt g hg).1))
          rw [← ptsV_append, ← trn_succ] at hown1
          have hown8' := (hown8.alloc (.cells #[(Value.int .i64 ((pat l ((f + k) % l.length)).1)), (Value.int .i64 ((pat l ((f + k) % l.length)).2))] 33)).kept hgrow1 HD.out.hne
          have hdis1 : Dis (.slice (some ⟨g1, 0, none⟩) (k + 1) cap1) u8 := HD.out.next hat1 (fun j hj => by have := (hown8.lt j hj).2; omega)
          clear x1 x2 i1 i2 i3 hgrow1 hat1 lb pa hown7 hown8 HD HB
          have pa := hpW.below hb1
          have lb := pa.lt
          have x1 := pa.xp j2
          have x2 := pa.yp j2
          have i1 : 0 ≤ (l.length : Int) - 1 - (k : Int) := by omega
          have i2 : (l.length : Int) - 1 - (k : Int) < (l.length : Int) := by omega
          have i3 : ((l.length : Int) - 1 - (k : Int)).toNat = l.length - 1 - k := by omega
          have hgm1 := hb1.size
          have HB := Lib.hid hb1
          have HD := Lib.hid hdis1
          clear hb1 hdis1
          go_wp2_with (at_builtin; refine wpList_append_lies _ rfl (.tmp 60) (.tmp 69) 22 rfl W.heap.size 33 i0 _ 2 16 undPts hi hz0 hz1 hz2 rfl (by omega) u8 k (ptsV (bck l k)) rfl (hown8'.alloc _) ⟨w1.heap.size, 0, none⟩ 1 1 (ptsV [pat l (l.length - 1 - k)]) rfl rfl (World.news_of_block (cs := (ptsV [pat l (l.length - 1 - k)]).toArray) (t := 33) (fr := (0, 0)) (heap_alloc_new w1 _)) (ptsV_one _) (by omega) (by unfold maxLen; omega) (by omega) (by simp; omega) (w1.heap.size + 1) (by simp) ?_; intro g2 cap2 w2 hown2 hgrow2 hat2 hlt2)
          have hb2 : Below W.heap.size W w2 := ((Below.alloc HB.out HB.out.size _).grown hgrow2 (by simp; omega) (fun g hg => (hown8'.lt g hg).1))
          rw [← ptsV_append, ← bck_succ] at hown2
          have hown1' := (hown1.alloc (.cells #[(Value.int .i64 ((pat l (l.length - 1 - k)).1)), (Value.int .i64 ((pat l (l.length - 1 - k)).2))] 33)).kept hgrow2 HD.out.symm.hne
          have hdis2 : Dis (.slice (some ⟨g1, 0, none⟩) (k + 1) cap1) (.slice (some ⟨g2, 0, none⟩) (k + 1) cap2) := (HD.out.symm.next hat2 (fun j hj => by have := (hown1.lt j hj).2; omega)).symm
          clear x1 x2 i1 i2 i3 hgrow2 hat2 lb pa hown8' hown1 HD HB
          go_wp2
          go_roundg (l.length - (k + 1))
          case measure => omega
          case rel => exact ⟨k + 1, by omega, rfl, by go_num, hown1', hown2, hdis2, hb2⟩
        · obtain rfl : k = l.length := by omega
          have hok := hok'.out
          have okR := trn_ok hok f hfl
          have pR := trn_perm l f hfl
          have okB := ok_rev hok
          rw [bck_full] at hown8
          have hrv : whereOf l.reverse q = whereOf l q := where_rev q l
          generalize trn l f l.length = R at hown7 okR pR
          generalize hB : l.reverse = B at hown8 okB hrv
          obtain ⟨e7, A7, ca7, rfl, hP7⟩ := own_parts hown7
          obtain ⟨e8, A8, ca8, rfl, hP8⟩ := own_parts hown8
          obtain ⟨b7, o7, rfl, hp7⟩ := hP7.ok okR
          obtain ⟨b8, o8, rfl, hp8⟩ := hP8.ok okB
          have hbA : Below w.heap.size w wr := hbW.trans (hbw.mono hbW2)
          have hpA := hpW.below hbw
          have c5' := c5.below hbw
          have e7' := Lib.hid e7
          have e8' := Lib.hid e8
          clear e7 e8 hown7 hown8 hdis hbw hpW c5 hbW hP7 hP8
          have t1 := tw_bd hok
          have t2 := mx_bd hok
          have t3 := my_bd hok
          have t4 := mxx_bd hok
          have t5 := mxy_bd hok
          have t6 := myy_bd hok
          obtain ⟨n1, e1⟩ : ∃ n, n = - tw l := ⟨_, rfl⟩
          obtain ⟨n2, e2⟩ : ∃ n, n = - mx l := ⟨_, rfl⟩
          obtain ⟨n3, e3⟩ : ∃ n, n = - my l := ⟨_, rfl⟩
          obtain ⟨n4, e4⟩ : ∃ n, n = - mxx l := ⟨_, rfl⟩
          obtain ⟨n5, e5⟩ : ∃ n, n = - mxy l := ⟨_, rfl⟩
          obtain ⟨n6, e6⟩ : ∃ n, n = - myy l := ⟨_, rfl⟩
          have HT8 := fun (V : World) (h : Below wr.heap.size wr V) => told_rev b8 o8 ca8 l B V (hp8.below h) hok hB.symm
          simp only [← e1, ← e2, ← e3, ← e4, ← e5, ← e6] at HT8
          replace HT8 := Lib.hid HT8
          have m1 : wrap64 (-n1) = tw l := by rw [e1, Int.neg_neg]; exact wrap64_in (by omega) (by omega)
          have m2 : wrap64 (-n2) = mx l := by rw [e2, Int.neg_neg]; exact wrap64_in (by omega) (by omega)
          have m3 : wrap64 (-n3) = my l := by rw [e3, Int.neg_neg]; exact wrap64_in (by omega) (by omega)
          have m4 : wrap64 (-n4) = mxx l := by rw [e4, Int.neg_neg]; exact wrap64_in (by omega) (by omega)
          have m5 : wrap64 (-n5) = mxy l := by rw [e5, Int.neg_neg]; exact wrap64_in (by omega) (by omega)
          have m6 : wrap64 (-n6) = myy l := by rw [e6, Int.neg_neg]; exact wrap64_in (by omega) (by omega)
          have tz : (tw l == 0) = false := by rw [beq_eq_false_iff_ne]; exact tw_ne hok
          clear e1 e2 e3 e4 e5 e6 t1 t2 t3 t4 t5 t6
          have HT0 := Lib.hid fun (V : World) (h : Below wr.heap.size wr V) => told_ok b o ca l V (hpA.below h) hok
          have HT7 := Lib.hid fun (V : World) (h : Below wr.heap.size wr V) => told_perm b7 o7 ca7 l R V (hp7.below h) okR pR
          have HW0 := Lib.hid fun (V : World) (h : Below wr.heap.size wr V) => Where_as b o ca l l q V (hpA.below h) hok hok rfl
          have HW7 := Lib.hid fun (V : World) (h : Below wr.heap.size wr V) => Where_as b7 o7 ca7 l R q V (hp7.below h) hok okR (where_perm q pR).symm
          have HW8 := Lib.hid fun (V : World) (h : Below wr.heap.size wr V) => Where_as b8 o8 ca8 l B q V (hp8.below h) hok okB hrv
          have HWD := Lib.hid fun (V : World) (h : Below wr.heap.size wr V) => wide_any (some ⟨b, o, none⟩) ca l V (.inr ⟨b, o, rfl, hpA.below h⟩) (by omega)
          have HP0 := Lib.hid fun (V : World) (h : Below wr.heap.size wr V) => Points_as b o ca l l V (hpA.below h) hok (List.Perm.refl _)
          have HP7 := Lib.hid fun (V : World) (h : Below wr.heap.size wr V) => Points_as b7 o7 ca7 l R V (hp7.below h) okR pR
          have zz : w.heap.size ≤ wr.heap.size := hbA.size
          clear hok okR pR okB hrv hB hp7 hp8 hpA hr hok'
          go_upto_region 10 with (go_at_call 30; with_reducible refine Calls.mono (HT0.out _ (by (repeat (first | with_reducible exact Below.refl _ _ | with_reducible apply bl_alloc | with_reducible apply bl_drew | with_reducible apply bl_after | (with_reducible refine bl_call ?_ (by assumption)))))) ?_; rintro e w1 ⟨rfl, hb1⟩; first | ((with_reducible apply kp_in_step (hb := hb1)); (with_reducible assumption); rintro ⟨hk, hc, hf, hzc, hzf⟩) | ((with_reducible refine kp_in_first hb1 ?_); rintro ⟨hk, hc, hf, hzc, hzf⟩))
          have c10 : Blk (w1.alloc (.cells #[(Value.int .i64 (tw l)), (Value.int .i64 (mx l)), (Value.int .i64 (my l)), (Value.int .i64 (mxx l)), (Value.int .i64 (mxy l)), (Value.int .i64 (myy l)), (Value.int .i64 ((cenX l).1)), (Value.int .i64 ((cenX l).2)), (Value.int .i64 ((cenY l).1)), (Value.int .i64 ((cenY l).2))] 42)) w1.heap.size 42 #[(Value.int .i64 (tw l)), (Value.int .i64 (mx l)), (Value.int .i64 (my l)), (Value.int .i64 (mxx l)), (Value.int .i64 (mxy l)), (Value.int .i64 (myy l)), (Value.int .i64 ((cenX l).1)), (Value.int .i64 ((cenX l).2)), (Value.int .i64 ((cenY l).1)), (Value.int .i64 ((cenY l).2))] := Blk.new _ _ _
          have c5 : Blk (w1.alloc (.cells #[(Value.int .i64 (tw l)), (Value.int .i64 (mx l)), (Value.int .i64 (my l)), (Value.int .i64 (mxx l)), (Value.int .i64 (mxy l)), (Value.int .i64 (myy l)), (Value.int .i64 ((cenX l).1)), (Value.int .i64 ((cenX l).2)), (Value.int .i64 ((cenY l).1)), (Value.int .i64 ((cenY l).2))] 42)) w.heap.size 33 #[(Value.int .i64 (q.1)), (Value.int .i64 (q.2))] := (c5'.below hb1).alloc _
          have hbr : Below wr.heap.size wr (w1.alloc (.cells #[(Value.int .i64 (tw l)), (Value.int .i64 (mx l)), (Value.int .i64 (my l)), (Value.int .i64 (mxx l)), (Value.int .i64 (mxy l)), (Value.int .i64 (myy l)), (Value.int .i64 ((cenX l).1)), (Value.int .i64 ((cenX l).2)), (Value.int .i64 ((cenY l).1)), (Value.int .i64 ((cenY l).2))] 42)) := by (repeat (first | with_reducible exact Below.refl _ _ | with_reducible apply bl_alloc | with_reducible apply bl_drew | with_reducible apply bl_after | (with_reducible refine bl_call ?_ (by assumption))))
          clear c5' HT0
          clear hk hc hf hzc hzf hb1
          generalize w1.alloc (.cells #[(Value.int .i64 (tw l)), (Value.int .i64 (mx l)), (Value.int .i64 (my l)), (Value.int .i64 (mxx l)), (Value.int .i64 (mxy l)), (Value.int .i64 (myy l)), (Value.int .i64 ((cenX l).1)), (Value.int .i64 ((cenX l).2)), (Value.int .i64 ((cenY l).1)), (Value.int .i64 ((cenY l).2))] 42) = W1 at c10 c5 hbr ⊢
          generalize w1.heap.size = g10 at c10 ⊢
          go_upto_region 11 with (go_at_call 30; with_reducible refine Calls.mono (HT7.out _ hbr) ?_; rintro e w1 ⟨rfl, hb1⟩; first | ((with_reducible apply kp_in_step (hb := hb1)); (with_reducible assumption); rintro ⟨hk, hc, hf, hzc, hzf⟩) | ((with_reducible refine kp_in_first hb1 ?_); rintro ⟨hk, hc, hf, hzc, hzf⟩))
          have c12 : Blk (w1.alloc (.cells #[(Value.int .i64 (tw l)), (Value.int .i64 (mx l)), (Value.int .i64 (my l)), (Value.int .i64 (mxx l)), (Value.int .i64 (mxy l)), (Value.int .i64 (myy l)), (Value.int .i64 ((cenX l).1)), (Value.int .i64 ((cenX l).2)), (Value.int .i64 ((cenY l).1)), (Value.int .i64 ((cenY l).2))] 42)) w1.heap.size 42 #[(Value.int .i64 (tw l)), (Value.int .i64 (mx l)), (Value.int .i64 (my l)), (Value.int .i64 (mxx l)), (Value.int .i64 (mxy l)), (Value.int .i64 (myy l)), (Value.int .i64 ((cenX l).1)), (Value.int .i64 ((cenX l).2)), (Value.int .i64 ((cenY l).1)), (Value.int .i64 ((cenY l).2))] := Blk.new _ _ _
          replace c10 := (c10.below hb1).alloc (.cells #[(Value.int .i64 (tw l)), (Value.int .i64 (mx l)), (Value.int .i64 (my l)), (Value.int .i64 (mxx l)), (Value.int .i64 (mxy l)), (Value.int .i64 (myy l)), (Value.int .i64 ((cenX l).1)), (Value.int .i64 ((cenX l).2)), (Value.int .i64 ((cenY l).1)), (Value.int .i64 ((cenY l).2))] 42)
          replace c5 := (c5.below hb1).alloc (.cells #[(Value.int .i64 (tw l)), (Value.int .i64 (mx l)), (Value.int .i64 (my l)), (Value.int .i64 (mxx l)), (Value.int .i64 (mxy l)), (Value.int .i64 (myy l)), (Value.int .i64 ((cenX l).1)), (Value.int .i64 ((cenX l).2)), (Value.int .i64 ((cenY l).1)), (Value.int .i64 ((cenY l).2))] 42)
          replace hbr := bl_alloc (o := .cells #[(Value.int .i64 (tw l)), (Value.int .i64 (mx l)), (Value.int .i64 (my l)), (Value.int .i64 (mxx l)), (Value.int .i64 (mxy l)), (Value.int .i64 (myy l)), (Value.int .i64 ((cenX l).1)), (Value.int .i64 ((cenX l).2)), (Value.int .i64 ((cenY l).1)), (Value.int .i64 ((cenY l).2))] 42) (bl_call hbr hb1)
          clear HT7
          clear hk hc hf hzc hzf hb1
          generalize w1.alloc (.cells #[(Value.int .i64 (tw l)), (Value.int .i64 (mx l)), (Value.int .i64 (my l)), (Value.int .i64 (mxx l)), (Value.int .i64 (mxy l)), (Value.int .i64 (myy l)), (Value.int .i64 ((cenX l).1)), (Value.int .i64 ((cenX l).2)), (Value.int .i64 ((cenY l).1)), (Value.int .i64 ((cenY l).2))] 42) = W2 at c10 c5 c12 hbr ⊢
          generalize w1.heap.size = g12 at c12 ⊢
          go_upto_region 12 with (go_at_call 30; with_reducible refine Calls.mono (HT8.out _ hbr) ?_; rintro e w1 ⟨rfl, hb1⟩; first | ((with_reducible apply kp_in_step (hb := hb1)); (with_reducible assumption); rintro ⟨hk, hc, hf, hzc, hzf⟩) | ((with_reducible refine kp_in_first hb1 ?_); rintro ⟨hk, hc, hf, hzc, hzf⟩))
          have c14 : Blk (w1.alloc (.cells #[(Value.int .i64 (n1)), (Value.int .i64 (n2)), (Value.int .i64 (n3)), (Value.int .i64 (n4)), (Value.int .i64 (n5)), (Value.int .i64 (n6)), (Value.int .i64 ((cenX l).1)), (Value.int .i64 ((cenX l).2)), (Value.int .i64 ((cenY l).1)), (Value.int .i64 ((cenY l).2))] 42)) w1.heap.size 42 #[(Value.int .i64 (n1)), (Value.int .i64 (n2)), (Value.int .i64 (n3)), (Value.int .i64 (n4)), (Value.int .i64 (n5)), (Value.int .i64 (n6)), (Value.int .i64 ((cenX l).1)), (Value.int .i64 ((cenX l).2)), (Value.int .i64 ((cenY l).1)), (Value.int .i64 ((cenY l).2))] := Blk.new _ _ _
          have n10 : g10 ≠ w1.heap.size := by have h1 := c10.lt; have h2 := hb1.size; omega
          have n12 : g12 ≠ w1.heap.size := by have h1 := c12.lt; have h2 := hb1.size; omega
          have n5' : w.heap.size ≠ w1.heap.size := by have h1 := c5.lt; have h2 := hb1.size; omega
          have nr : wr.heap.size ≤ w1.heap.size := by have h1 := hbr.size; have h2 := hb1.size; omega
          replace c10 := (c10.below hb1).alloc (.cells #[(Value.int .i64 (n1)), (Value.int .i64 (n2)), (Value.int .i64 (n3)), (Value.int .i64 (n4)), (Value.int .i64 (n5)), (Value.int .i64 (n6)), (Value.int .i64 ((cenX l).1)), (Value.int .i64 ((cenX l).2)), (Value.int .i64 ((cenY l).1)), (Value.int .i64 ((cenY l).2))] 42)
          replace c12 := (c12.below hb1).alloc (.cells #[(Value.int .i64 (n1)), (Value.int .i64 (n2)), (Value.int .i64 (n3)), (Value.int .i64 (n4)), (Value.int .i64 (n5)), (Value.int .i64 (n6)), (Value.int .i64 ((cenX l).1)), (Value.int .i64 ((cenX l).2)), (Value.int .i64 ((cenY l).1)), (Value.int .i64 ((cenY l).2))] 42)
          replace c5 := (c5.below hb1).alloc (.cells #[(Value.int .i64 (n1)), (Value.int .i64 (n2)), (Value.int .i64 (n3)), (Value.int .i64 (n4)), (Value.int .i64 (n5)), (Value.int .i64 (n6)), (Value.int .i64 ((cenX l).1)), (Value.int .i64 ((cenX l).2)), (Value.int .i64 ((cenY l).1)), (Value.int .i64 ((cenY l).2))] 42)
          replace hbr := bl_alloc (o := .cells #[(Value.int .i64 (n1)), (Value.int .i64 (n2)), (Value.int .i64 (n3)), (Value.int .i64 (n4)), (Value.int .i64 (n5)), (Value.int .i64 (n6)), (Value.int .i64 ((cenX l).1)), (Value.int .i64 ((cenX l).2)), (Value.int .i64 ((cenY l).1)), (Value.int .i64 ((cenY l).2))] 42) (bl_call hbr hb1)
          clear HT8
          clear hk hc hf hzc hzf hb1
          generalize w1.alloc (.cells #[(Value.int .i64 (n1)), (Value.int .i64 (n2)), (Value.int .i64 (n3)), (Value.int .i64 (n4)), (Value.int .i64 (n5)), (Value.int .i64 (n6)), (Value.int .i64 ((cenX l).1)), (Value.int .i64 ((cenX l).2)), (Value.int .i64 ((cenY l).1)), (Value.int .i64 ((cenY l).2))] 42) = W3 at c10 c5 c12 c14 hbr ⊢
          generalize w1.heap.size = g14 at c14 n10 n12 n5' nr ⊢
          have l10 := c10.lt
          have l12 := c12.lt
          have l14 := c14.lt
          have x0 := c10.cell 0
          have z0 := c12.cell 0
          have x1 := c10.cell 1
          have z1 := c12.cell 1
          have x2 := c10.cell 2
          have z2 := c12.cell 2
          have x3 := c10.cell 3
          have z3 := c12.cell 3
          have x4 := c10.cell 4
          have z4 := c12.cell 4
          have x5 := c10.cell 5
          have z5 := c12.cell 5
          have x6 := c10.cell 6
          have z6 := c12.cell 6
          have x7 := c10.cell 7
          have z7 := c12.cell 7
          have x8 := c10.cell 8
          have z8 := c12.cell 8
          have x9 := c10.cell 9
          have z9 := c12.cell 9
          simp only [List.getElem?_toArray, List.getElem?_cons_zero, List.getElem?_cons_succ] at x0 x1 x2 x3 x4 x5 x6 x7 x8 x9 z0 z1 z2 z3 z4 z5 z6 z7 z8 z9
          go_upto_region 14 with fail
          clear x0 z0 x1 z1 x2 z2 x3 z3 x4 z4 x5 z5 x6 z6 x7 z7 x8 z8 x9 z9
          have f0 := c14.frozen 0
          have f1 := c14.frozen 1
          have f2 := c14.frozen 2
          have f3 := c14.frozen 3
          have f4 := c14.frozen 4
          have f5 := c14.frozen 5
          have y0 := c14.cell 0
          have y1 := c14.cell 1
          have y2 := c14.cell 2
          have y3 := c14.cell 3
          have y4 := c14.cell 4
          have y5 := c14.cell 5
          simp only [List.getElem?_toArray, List.getElem?_cons_zero, List.getElem?_cons_succ] at y0 y1 y2 y3 y4 y5
          go_upto_region 15 with fail
          clear m1 m2 m3 m4 m5 m6 f0 f1 f2 f3 f4 f5 y0 y1 y2 y3 y4 y5 l14 l10 l12
          have cc : Blk ((((((W3.setCell ⟨g14, 0, none⟩ (Value.int .i64 (tw l))).setCell ⟨g14, 1, none⟩ (Value.int .i64 (mx l))).setCell ⟨g14, 2, none⟩ (Value.int .i64 (my l))).setCell ⟨g14, 3, none⟩ (Value.int .i64 (mxx l))).setCell ⟨g14, 4, none⟩ (Value.int .i64 (mxy l))).setCell ⟨g14, 5, none⟩ (Value.int .i64 (myy l))) g14 42 #[(Value.int .i64 (tw l)), (Value.int .i64 (mx l)), (Value.int .i64 (my l)), (Value.int .i64 (mxx l)), (Value.int .i64 (mxy l)), (Value.int .i64 (myy l)), (Value.int .i64 ((cenX l).1)), (Value.int .i64 ((cenX l).2)), (Value.int .i64 ((cenY l).1)), (Value.int .i64 ((cenY l).2))] := by
            have h := ((((((c14.set_ 0 (Value.int .i64 (tw l))).set_ 1 (Value.int .i64 (mx l))).set_ 2 (Value.int .i64 (my l))).set_ 3 (Value.int .i64 (mxx l))).set_ 4 (Value.int .i64 (mxy l))).set_ 5 (Value.int .i64 (myy l)))
            simpa using h
          replace c10 := ((((((c10.far (p := ⟨g14, 0, none⟩) n10 (Value.int .i64 (tw l))).far (p := ⟨g14, 1, none⟩) n10 (Value.int .i64 (mx l))).far (p := ⟨g14, 2, none⟩) n10 (Value.int .i64 (my l))).far (p := ⟨g14, 3, none⟩) n10 (Value.int .i64 (mxx l))).far (p := ⟨g14, 4, none⟩) n10 (Value.int .i64 (mxy l))).far (p := ⟨g14, 5, none⟩) n10 (Value.int .i64 (myy l)))
          replace c5 := ((((((c5.far (p := ⟨g14, 0, none⟩) n5' (Value.int .i64 (tw l))).far (p := ⟨g14, 1, none⟩) n5' (Value.int .i64 (mx l))).far (p := ⟨g14, 2, none⟩) n5' (Value.int .i64 (my l))).far (p := ⟨g14, 3, none⟩) n5' (Value.int .i64 (mxx l))).far (p := ⟨g14, 4, none⟩) n5' (Value.int .i64 (mxy l))).far (p := ⟨g14, 5, none⟩) n5' (Value.int .i64 (myy l)))
          replace hbr := (bl_setc (bl_setc (bl_setc (bl_setc (bl_setc (bl_setc hbr nr (o := 0) (v := (Value.int .i64 (tw l)))) nr (o := 1) (v := (Value.int .i64 (mx l)))) nr (o := 2) (v := (Value.int .i64 (my l)))) nr (o := 3) (v := (Value.int .i64 (mxx l)))) nr (o := 4) (v := (Value.int .i64 (mxy l)))) nr (o := 5) (v := (Value.int .i64 (myy l))))
          clear c14 c12
          generalize (((((W3.setCell ⟨g14, 0, none⟩ (Value.int .i64 (tw l))).setCell ⟨g14, 1, none⟩ (Value.int .i64 (mx l))).setCell ⟨g14, 2, none⟩ (Value.int .i64 (my l))).setCell ⟨g14, 3, none⟩ (Value.int .i64 (mxx l))).setCell ⟨g14, 4, none⟩ (Value.int .i64 (mxy l))).setCell ⟨g14, 5, none⟩ (Value.int .i64 (myy l)) = W4 at cc c10 c5 hbr ⊢
          have x5 := c5.cell 0
          have x6 := c5.cell 1
          have l5 := c5.lt
          simp only [List.getElem?_toArray, List.getElem?_cons_zero, List.getElem?_cons_succ] at x5 x6
          have p0 := c10.cell 0
          have r0 := cc.cell 0
          have p1 := c10.cell 1
          have r1 := cc.cell 1
          have p2 := c10.cell 2
          have r2 := cc.cell 2
          have p3 := c10.cell 3
          have r3 := cc.cell 3
          have p4 := c10.cell 4
          have r4 := cc.cell 4
          have p5 := c10.cell 5
          have r5 := cc.cell 5
          have p6 := c10.cell 6
          have r6 := cc.cell 6
          have p7 := c10.cell 7
          have r7 := cc.cell 7
          have p8 := c10.cell 8
          have r8 := cc.cell 8
          have p9 := c10.cell 9
          have r9 := cc.cell 9
          simp only [List.getElem?_toArray, List.getElem?_cons_zero, List.getElem?_cons_succ] at p0 p1 p2 p3 p4 p5 p6 p7 p8 p9 r0 r1 r2 r3 r4 r5 r6 r7 r8 r9
          have l10 := c10.lt
          have l14 := cc.lt
          have tz0 : whV l q = whV l q := rfl
          clear tz0
          go_wp2_with (first | (go_at_call 25; with_reducible refine Calls.mono (HW0.out _ (by (repeat (first | with_reducible assumption | with_reducible exact Below.refl _ _ | with_reducible apply bl_alloc | with_reducible apply bl_drew | with_reducible apply bl_after | (with_reducible refine bl_call ?_ (by assumption)) | (with_reducible refine bl_setc ?_ (by omega)))))) ?_; rintro e w1 ⟨rfl, hb1⟩; first | ((with_reducible apply kp_in_step (hb := hb1)); (with_reducible assumption); rintro ⟨hk, hc, hf, hzc, hzf⟩) | ((with_reducible refine kp_in_first hb1 ?_); rintro ⟨hk, hc, hf, hzc, hzf⟩)) | (go_at_call 25; with_reducible refine Calls.mono (HW7.out _ (by (repeat (first | with_reducible assumption | with_reducible exact Below.refl _ _ | with_reducible apply bl_alloc | with_reducible apply bl_drew | with_reducible apply bl_after | (with_reducible refine bl_call ?_ (by assumption)) | (with_reducible refine bl_setc ?_ (by omega)))))) ?_; rintro e w1 ⟨rfl, hb1⟩; first | ((with_reducible apply kp_in_step (hb := hb1)); (with_reducible assumption); rintro ⟨hk, hc, hf, hzc, hzf⟩) | ((with_reducible refine kp_in_first hb1 ?_); rintro ⟨hk, hc, hf, hzc, hzf⟩)) | (go_at_call 25; with_reducible refine Calls.mono (HW8.out _ (by (repeat (first | with_reducible assumption | with_reducible exact Below.refl _ _ | with_reducible apply bl_alloc | with_reducible apply bl_drew | with_reducible apply bl_after | (with_reducible refine bl_call ?_ (by assumption)) | (with_reducible refine bl_setc ?_ (by omega)))))) ?_; rintro e w1 ⟨rfl, hb1⟩; first | ((with_reducible apply kp_in_step (hb := hb1)); (with_reducible assumption); rintro ⟨hk, hc, hf, hzc, hzf⟩) | ((with_reducible refine kp_in_first hb1 ?_); rintro ⟨hk, hc, hf, hzc, hzf⟩)) | (go_at_call 28; with_reducible refine Calls.mono (HWD.out _ (by (repeat (first | with_reducible assumption | with_reducible exact Below.refl _ _ | with_reducible apply bl_alloc | with_reducible apply bl_drew | with_reducible apply bl_after | (with_reducible refine bl_call ?_ (by assumption)) | (with_reducible refine bl_setc ?_ (by omega)))))) ?_; rintro e w1 ⟨rfl, hb1⟩; first | ((with_reducible apply kp_in_step (hb := hb1)); (with_reducible assumption); rintro ⟨hk, hc, hf, hzc, hzf⟩) | ((with_reducible refine kp_in_first hb1 ?_); rintro ⟨hk, hc, hf, hzc, hzf⟩)) | (go_at_call 17; with_reducible refine Calls.mono (HP0.out _ (by (repeat (first | with_reducible assumption | with_reducible exact Below.refl _ _ | with_reducible apply bl_alloc | with_reducible apply bl_drew | with_reducible apply bl_after | (with_reducible refine bl_call ?_ (by assumption)) | (with_reducible refine bl_setc ?_ (by omega)))))) ?_; rintro e w1 ⟨rfl, hb1⟩; first | ((with_reducible apply kp_in_step (hb := hb1)); (with_reducible assumption); rintro ⟨hk, hc, hf, hzc, hzf⟩) | ((with_reducible refine kp_in_first hb1 ?_); rintro ⟨hk, hc, hf, hzc, hzf⟩)) | (go_at_call 17; with_reducible refine Calls.mono (HP7.out _ (by (repeat (first | with_reducible assumption | with_reducible exact Below.refl _ _ | with_reducible apply bl_alloc | with_reducible apply bl_drew | with_reducible apply bl_after | (with_reducible refine bl_call ?_ (by assumption)) | (with_reducible refine bl_setc ?_ (by omega)))))) ?_; rintro e w1 ⟨rfl, hb1⟩; first | ((with_reducible apply kp_in_step (hb := hb1)); (with_reducible assumption); rintro ⟨hk, hc, hf, hzc, hzf⟩) | ((with_reducible refine kp_in_first hb1 ?_); rintro ⟨hk, hc, hf, hzc, hzf⟩)) | (go_at_call 15; with_reducible refine Calls.mono (works_any _) ?_; rintro e w1 ⟨rfl, hb1⟩; first | ((with_reducible apply kp_in_step (hb := hb1)); (with_reducible assumption); rintro ⟨hk, hc, hf, hzc, hzf⟩) | ((with_reducible refine kp_in_first hb1 ?_); rintro ⟨hk, hc, hf, hzc, hzf⟩)))
          all_goals go_ret
          all_goals exact ⟨rfl, (hbA.trans (Below.mono (w := wr) (by (repeat (first | with_reducible assumption | with_reducible exact Below.refl _ _ | with_reducible apply bl_alloc | with_reducible apply bl_drew | with_reducible apply bl_after | (with_reducible refine bl_call ?_ (by assumption)) | (with_reducible refine bl_setc ?_ (by omega))))) hbA.size))⟩
    · have hno : num < 0 ∨ (l.length : Int) ≤ num := by omega
      clear hn hok
      rcases hno with hno | hno
      · go_enter Try.func6, Try.ntmps6
        go_wp2_with (first | (go_at_call 14; with_reducible refine Calls.mono (hr.out _ (by (repeat (first | with_reducible exact Below.refl _ _ | with_reducible apply bl_alloc | with_reducible apply bl_drew | with_reducible apply bl_after | (with_reducible refine bl_call ?_ (by assumption)))))) ?_; rintro e w1 ⟨rfl, hb1⟩; first | ((with_reducible apply kp_in_step (hb := hb1)); (with_reducible assumption); rintro ⟨hk, hc, hf, hzc, hzf⟩) | ((with_reducible refine kp_in_first hb1 ?_); rintro ⟨hk, hc, hf, hzc, hzf⟩)) | (go_at_call 15; with_reducible refine Calls.mono (works_any _) ?_; rintro e w1 ⟨rfl, hb1⟩; first | ((with_reducible apply kp_in_step (hb := hb1)); (with_reducible assumption); rintro ⟨hk, hc, hf, hzc, hzf⟩) | ((with_reducible refine kp_in_first hb1 ?_); rintro ⟨hk, hc, hf, hzc, hzf⟩)))
        go_ret
        exact ⟨rfl, by (repeat (first | with_reducible exact Below.refl _ _ | with_reducible apply bl_alloc | with_reducible apply bl_drew | with_reducible apply bl_after | (with_reducible refine bl_call ?_ (by assumption))))⟩
      · have hno2 : ¬ num < 0 := by omega
        go_enter Try.func6, Try.ntmps6
        go_wp2_with (first | (go_at_call 14; with_reducible refine Calls.mono (hr.out _ (by (repeat (first | with_reducible exact Below.refl _ _ | with_reducible apply bl_alloc | with_reducible apply bl_drew | with_reducible apply bl_after | (with_reducible refine bl_call ?_ (by assumption)))))) ?_; rintro e w1 ⟨rfl, hb1⟩; first | ((with_reducible apply kp_in_step (hb := hb1)); (with_reducible assumption); rintro ⟨hk, hc, hf, hzc, hzf⟩) | ((with_reducible refine kp_in_first hb1 ?_); rintro ⟨hk, hc, hf, hzc, hzf⟩)) | (go_at_call 15; with_reducible refine Calls.mono (works_any _) ?_; rintro e w1 ⟨rfl, hb1⟩; first | ((with_reducible apply kp_in_step (hb := hb1)); (with_reducible assumption); rintro ⟨hk, hc, hf, hzc, hzf⟩) | ((with_reducible refine kp_in_first hb1 ?_); rintro ⟨hk, hc, hf, hzc, hzf⟩)))
        go_ret
        exact ⟨rfl, by (repeat (first | with_reducible exact Below.refl _ _ | with_reducible apply bl_alloc | with_reducible apply bl_drew | with_reducible apply bl_after | (with_reducible refine bl_call ?_ (by assumption))))⟩
  · rw [decide_eq_false hok] at hr
    go_enter Try.func6, Try.ntmps6
    go_wp2_with (first | (go_at_call 14; with_reducible refine Calls.mono (hr.out _ (by (repeat (first | with_reducible exact Below.refl _ _ | with_reducible apply bl_alloc | with_reducible apply bl_drew | with_reducible apply bl_after | (with_reducible refine bl_call ?_ (by assumption)))))) ?_; rintro e w1 ⟨rfl, hb1⟩; first | ((with_reducible apply kp_in_step (hb := hb1)); (with_reducible assumption); rintro ⟨hk, hc, hf, hzc, hzf⟩) | ((with_reducible refine kp_in_first hb1 ?_); rintro ⟨hk, hc, hf, hzc, hzf⟩)) | (go_at_call 15; with_reducible refine Calls.mono (works_any _) ?_; rintro e w1 ⟨rfl, hb1⟩; first | ((with_reducible apply kp_in_step (hb := hb1)); (with_reducible assumption); rintro ⟨hk, hc, hf, hzc, hzf⟩) | ((with_reducible refine kp_in_first hb1 ?_); rintro ⟨hk, hc, hf, hzc, hzf⟩)))
    go_ret
    exact ⟨rfl, by (repeat (first | with_reducible exact Below.refl _ _ | with_reducible apply bl_alloc | with_reducible apply bl_drew | with_reducible apply bl_after | (with_reducible refine bl_call ?_ (by assumption))))⟩
section
open Go.ChangeAt
set_option maxRecDepth 100000 in
theorem cornersTurned_lifted (os : Os) (started : os.Started) (H : Type) (enc : TypeId × Value → H) :
    ReturnsInHanded {} Try.checked os 6 .any (Rows.cornersTurnedSpec.pre6 enc Try.prog Try.f6 Rows.cornersTurnedRow.domain false) (Rows.cornersTurnedSpec.post enc Try.prog Try.f6 false true false false) := by
  refine returnsInHanded_of_change (C := Try.checked) own_knob started (by kernel_rfl) Try.func6
    (ChangeSpec.witness6 (enc := enc) (C := Try.checked) false ⟨#[], #[.slice none 0 0, .int .i64 0, .agg #[.int .i64 0, .int .i64 0]], []⟩ 8 (by kernel_rfl) (by kernel_rfl) (by kernel_rfl) (by kernel_rfl)) ?_
  intro W base args ds gs before hval0 hW hcnd _
  have hval : ∀ (j : Nat) t v, Try.f6.params[j]? = some t → args[j]? = some v → Value.okWide Try.prog W .any base t v := hval0
  have hW2 := hW
  obtain ⟨p, q, hA0, hV, rfl, hfz, hnd⟩ := hW
  have hA : DataW.TrodAll enc Try.prog W 0 (fun _ => true) true Try.f6.params.toList args.toList ds p := hA0
  rw [Try.params6] at hA hval
  obtain ⟨v0, v1, v2, d0, d1, d2, p0, p1, p2, rfl, rfl, rfl, h0, h1, h2⟩ := trodAll_three hA
  obtain ⟨rfl, rfl⟩ := trodVars_none hV
  obtain ⟨A, ca, l, rfl, hP, hl⟩ := open_points (okWide_slice undPts (hval 0 _ _ rfl rfl)) h0
  obtain ⟨num, rfl, rfl, rfl, hnum⟩ := open_int und_int (hval 1 _ _ rfl rfl) h1
  obtain ⟨pt, rfl, hq1, hq2⟩ := open_point (hval 2 _ _ rfl rfl) h2
  clear hA0 hval0
  simp only [List.append_nil, List.nil_append] at hW2
  (try simp only [List.append_nil, List.nil_append] at hA)
  refine (lawTurned_any A ca l num pt W hP hl hnum).mono fun e W2 ⟨he, hb⟩ => ?_
  subst he
  refine ⟨_, rfl, post_of_below (pa := _) (pv := []) hW2 (fun _ _ _ => trodAll_mk1 (shut_bool und_bool _)) (fun sp hs => args_stay hb (by rw [Try.params6]; intro t ht; simp at ht; (try rcases ht with rfl | rfl | rfl) <;> (try rcases ht with rfl | rfl) <;> (try subst ht) <;> exact ⟨by kernel_rfl, by decide +kernel⟩) (by rw [Try.params6]; exact hA) hs) (fun _ _ => rfl) (by simp) hb (ok_one (by kernel_rfl) rfl (okWide_bool_mk und_bool _))⟩

theorem cornersTurned_holds : Rows.CornersTurnedSaid :=
  OpenClaim.holds_of_wide 6 Try.f6 rfl rfl rfl rfl rfl rfl rfl ⟨rfl, rfl, rfl, rfl, rfl⟩ rfl rfl rfl rfl rfl (by kernel_rfl) Try.func6 (by kernel_rfl)
    (of_decide_eq_true (by kernel_rfl)) (by unfold Func.isWrapper; first | (rw [if_pos (by decide +kernel)]; kernel_rfl) | (rw [if_neg (by decide +kernel)]; exact ⟨rfl, rfl⟩))
    (fun os started H enc _ => cornersTurned_lifted os started H enc)
end
end Go.Proofs.Ytijpolfmiajenaa
