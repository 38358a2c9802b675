/- The function corners.Points answers the points of the sides and, by the area, those inside, for a valid polygon; else its error. -/
import Derived.Test.YtijpolfmiajenaaMom
import Derived.Test.YtijpolfmiajenaaDiv
import Derived.Test.YtijpolfmiajenaaCheck
namespace Go.Proofs.Ytijpolfmiajenaa
open Go.RowKit Go.Shelf
attribute [local go_sem] After.cell After.frozen Oper.semAt_some wide_fn wide_depth Fence.inRound_fn Fence.inRound_depth

/-- The whole-number points of a side, without its first end. -/
def gcdF (a b : Pt) : Int := (Int.gcd (b.1 - a.1) (b.2 - a.2) : Int)
def ownTo (l : List Pt) : Nat → Int
  | 0 => 0
  | k + 1 => ownTo l k + gcdF (pat l k) (pat l (nxt l k))
def ownOf (l : List Pt) : Int := ownTo l l.length
theorem gcdF_bd {a b : Pt} (ha : isPt a = true) (hb : isPt b = true) : 0 ≤ gcdF a b ∧ gcdF a b ≤ 400 := by
  have a0 := isPt_bd ha
  have b0 := isPt_bd hb
  unfold gcdF
  refine ⟨by omega, ?_⟩
  by_cases h : b.1 - a.1 = 0
  · rw [h, Int.gcd_zero_left]; omega
  · have := Int.gcd_le_natAbs_left (b.2 - a.2) h
    omega
theorem ownTo_bd {l : List Pt} (h : ∀ i, i < l.length → isPt (pat l i) = true) : ∀ k, k ≤ l.length → 0 ≤ ownTo l k ∧ ownTo l k ≤ 400 * (k : Int)
  | 0, _ => by simp [ownTo]
  | k + 1, hk => by
    have ih := ownTo_bd h k (by omega)
    have h3 := gcdF_bd (h k (by omega)) (h (nxt l k) (nxt_lt k (by omega)))
    simp only [ownTo]
    omega
/-- The points inside, as the theorem of Pick has them. -/
def pickOf (l : List Pt) : Int := (max (tw l) (- tw l) - ownOf l + 2).tdiv 2

set_option maxRecDepth 100000 in
set_option maxHeartbeats 4000000 in
theorem Points_ok (b o ca : Nat) (l : List Pt) (w : World) (hp : PtsAt w b o l) (hok : Ok l) :
    Calls Try.prog 17 #[.slice (some ⟨b, o, none⟩) l.length ca] w fun e w' => e = .returned (.tuple #[(Value.int .i64 (pickOf l)), (Value.int .i64 (ownOf l)), (Value.int .i64 (0))]) ∧ Below w.heap.size w w' := by
  have h0l : 0 < l.length := by have := hok.1; omega
  have hl10 : l.length ≤ 10 := by have := hok.1; omega
  have hc := fun W hW => Check_any (some ⟨b, o, none⟩) ca l W (.inr ⟨b, o, rfl, hp.below (w' := W) hW⟩) (by have := hok.1; omega)
  rw [chk_ok hok] at hc
  have HT := Lib.hid fun (W : World) (hW : Below w.heap.size w W) => tw_any b o ca l W h0l hl10 (hp.below hW) hok.2.1
  have htw := sumOf_bd hl10 hok.2.1 one_bd
  have HP := Lib.hid hok.2.1
  have hown := ownTo_bd hok.2.1
  clear hok
  replace hc := Lib.hid hc
  refine (callsIn_wide (n := 0)).1 ?_; refine callsIn_of_wp_marks Try.func17 rfl trivial ?_ rfl; simp only [Try.ntmps17, List.size_toArray, List.length_cons, List.length_nil, Nat.reduceAdd, Nat.reduceSub, Array.replicate_succ, Array.replicate_zero, List.push_toArray, List.append_toArray, List.nil_append, List.cons_append]
  gi_wp2_with (first | (gi_at_call 22; (first | with_reducible refine CallsIn.mono (callsIn_wide.2 (hc.out _ (by (repeat (first | with_reducible exact Below.refl _ _ | with_reducible apply bl_alloc | with_reducible apply bl_drew | with_reducible apply bl_after | (with_reducible refine bl_call ?_ (by assumption))))))) ?_ | with_reducible refine CallsIn.mono (callsIn_rnd (hc.out _ (by (repeat (first | with_reducible exact Below.refl _ _ | with_reducible apply bl_alloc | with_reducible apply bl_drew | with_reducible apply bl_after | (with_reducible refine bl_call ?_ (by assumption))))))) ?_); rintro e w1 ⟨rfl, hb1⟩; first | ((with_reducible apply kp_in_step (hb := hb1)); (with_reducible assumption); rintro ⟨hk, hc, hf, hzc, hzf⟩) | ((with_reducible refine kp_in_first hb1 ?_); rintro ⟨hk, hc, hf, hzc, hzf⟩)) | (gi_at_call 47; (first | with_reducible refine CallsIn.mono (callsIn_wide.2 (sides_any _ _ _ _)) ?_ | with_reducible refine CallsIn.mono (callsIn_rnd (sides_any _ _ _ _)) ?_); rintro e w' ⟨rfl, rfl⟩))
  have b0 : Blk (w1.alloc (.cells #[.slice (some ⟨b, o, none⟩) l.length ca] 22)) w.heap.size 3 #[(Value.int .i64 (0))] := (((Blk.new w _ _).below (by assumption))).alloc _
  have b1 : Blk (w1.alloc (.cells #[.slice (some ⟨b, o, none⟩) l.length ca] 22)) w1.heap.size 22 #[.slice (some ⟨b, o, none⟩) l.length ca] := Blk.new w1 _ _
  have hbW : Below w.heap.size w (w1.alloc (.cells #[.slice (some ⟨b, o, none⟩) l.length ca] 22)) := by (repeat (first | with_reducible exact Below.refl _ _ | with_reducible apply bl_alloc | with_reducible apply bl_drew | with_reducible apply bl_after | (with_reducible refine bl_call ?_ (by assumption))))
  have hsz : w.heap.size < w1.heap.size := by
    have h1 := hk.1.size
    simp only [World.size_alloc] at h1
    omega
  generalize w1.alloc (.cells #[.slice (some ⟨b, o, none⟩) l.length ca] 22) = W0 at b0 b1 hbW ⊢
  generalize w1.heap.size = g3 at b1 hsz ⊢
  clear hk hc hf hzc hzf hb1
  clear hc
  refine range_list (gf := 86) (lb := #[.pointer (some ⟨g3, 0, none⟩)]) rfl (enters_of Try.func86 (by kernel_rfl) rfl) (sides_iter g3 b o ca l h0l (by omega)) (fun _ => rfl)
    (fun k W => Blk W w.heap.size 3 #[(Value.int .i64 (ownTo l k))] ∧ Blk W g3 22 #[.slice (some ⟨b, o, none⟩) l.length ca] ∧ Below w.heap.size w W)
    (fun _ _ => False)
    (fun k W W' h hs => ⟨hs.blk h.1, hs.blk h.2.1, hs.below h.2.2 hbW.size⟩)
    (fun _ _ _ h _ => h)
    (fun k W h => ⟨h.2.1.cell 0, h.2.1.lt, hp.below h.2.2⟩)
    ⟨b0, b1, hbW⟩ ?round ?done (fun _ _ _ _ h _ => h.elim)
  case round =>
    rintro lp k x W hx hle ⟨r, hr⟩ ⟨c0, c1, hbk⟩
    have hkl : k < l.length := by
      have := (List.getElem?_eq_some_iff.1 hx).1
      rwa [sidesOf_len] at this
    rw [sidesOf_get hkl] at hx
    cases hx
    have hkn : nxt l k < l.length := nxt_lt k h0l
    have p1 := HP.out k hkl
    have p2 := HP.out _ hkn
    have z0 := c0.lt
    have z1 := c1.lt
    dsimp only [sideArgs]
    gi_wp2
    refine ⟨by (repeat (first | with_reducible exact KeepsFrom.refl _ _ | with_reducible apply kf_alloc | with_reducible apply kf_set | with_reducible apply kf_drew | with_reducible apply kf_after | (with_reducible refine kf_call ?_ (by assumption)))), fun r1 r2 hr1 => ?_⟩
    have st := Step.put (o' := .loop r2) hr1 rfl hle
    replace c0 := st.blk (c0.alloc _)
    replace c1 := st.blk (c1.alloc _)
    have c3 := st.blk (Blk.new W 66 #[(Value.int .i64 ((pat l k).1)), (Value.int .i64 ((pat l k).2)), (Value.int .i64 ((pat l (nxt l k)).1)), (Value.int .i64 ((pat l (nxt l k)).2))])
    replace hbk := st.below (bl_alloc hbk) hbW.size
    generalize (W.alloc (.cells #[(Value.int .i64 ((pat l k).1)), (Value.int .i64 ((pat l k).2)), (Value.int .i64 ((pat l (nxt l k)).1)), (Value.int .i64 ((pat l (nxt l k)).2))] 66)).putObj lp (.loop r2) = W2 at c0 c1 c3 hbk ⊢
    clear st hr1
    have x0 := c0.cell 0
    have x3 := c3.cell 0
    have x4 := c3.cell 1
    have x5 := c3.cell 2
    have x6 := c3.cell 3
    have l0 := c0.lt
    have l3 := c3.lt
    have f0 := c0.frozen 0
    have q1 := isPt_bd p1
    have q2 := isPt_bd p2
    have q3 := gcdF_bd p1 p2
    have q5 := hown k (by omega)
    have q6 : ((pat l (nxt l k)).1 - (pat l k).1).gcd ((pat l (nxt l k)).2 - (pat l k).2) ≤ 400 := by unfold gcdF at q3; omega
    have m1 := wrap64_in (x := (pat l (nxt l k)).1 - (pat l k).1) (by omega) (by omega)
    have m2 := wrap64_in (x := (pat l (nxt l k)).2 - (pat l k).2) (by omega) (by omega)
    gi_wp2
    (first | refine wpIn_tail_w 17 (by kernel_rfl) (by kernel_rfl) (by kernel_rfl) ?_ | refine wpIn_tail_r 17 (by kernel_rfl) (by kernel_rfl) (by kernel_rfl) ?_); simp only [List.take_succ_cons, List.take_zero, List.drop_succ_cons, List.drop_zero]; (repeat (go_big_quiet_step (((go_at_call 48; with_reducible exact calls_after_same (divisor_is _ _ _ (by omega) (by omega))))))); refine wpQuiet_nil ?_; rintro _ ⟨z, rfl⟩; (first | ((with_reducible apply kp_in_after (z := z)); (with_reducible assumption); rintro ⟨hk, hc, hf, hzc, hzf⟩) | ((with_reducible refine kp_in_after0 z ?_); rintro ⟨hk, hc, hf, hzc, hzf⟩))
    gi_wp2
    refine ⟨by (repeat (first | with_reducible exact KeepsFrom.refl _ _ | with_reducible apply kf_alloc | with_reducible apply kf_set | with_reducible apply kf_drew | with_reducible apply kf_after | (with_reducible refine kf_call ?_ (by assumption)))), ?_, (c1.below hk.b).far (by simp; omega) _, ?_⟩
    · have h := (c0.below hk.b).set_ 0 (Value.int .i64 (ownTo l (k + 1)))
      simpa [ownTo, gcdF] using h
    · exact (bl_after z hbk).setCell (p := ⟨w.heap.size, 0, none⟩) (by simp) _
  case done =>
    rintro D W hD ⟨c0, c1, hbk⟩ hK
    rw [sidesOf_len] at c0
    have ho := hown l.length (Nat.le_refl _)
    have htw' : -800000000000 ≤ tw l ∧ tw l ≤ 800000000000 := htw
    have KEY : ∀ V : World, Below W.heap.size W V → (V.setCell ⟨w.heap.size, 0, none⟩ (Value.int .i64 (ownTo l l.length))).heap[D]? = some (.deferred (some [])) ∧
        ((V.setCell ⟨w.heap.size, 0, none⟩ (Value.int .i64 (ownTo l l.length))).putObj D (.deferred none)).cell? ⟨w.heap.size, 0, none⟩ = some (Value.int .i64 (ownTo l l.length)) ∧
        Below w.heap.size w ((V.setCell ⟨w.heap.size, 0, none⟩ (Value.int .i64 (ownTo l l.length))).putObj D (.deferred none)) := by
      intro V hV
      have hKV : V.heap[D]? = some (.deferred (some [])) := (hV.block D (heap_lt hK)).trans hK
      have hK2 : (V.setCell ⟨w.heap.size, 0, none⟩ (Value.int .i64 (ownTo l l.length))).heap[D]? = some (.deferred (some [])) := (KeepsOthers.setCell _ _ _).same _ _ hKV rfl
      have st := Step.put (B := W0.heap.size) (o' := .deferred none) hK2 rfl hD
      have e1 := (st.blk ((c0.below hV).set_ 0 (Value.int .i64 (ownTo l l.length)))).cell 0
      exact ⟨hK2, by simpa using e1, bl_put (o' := .deferred none) ((hbk.trans (hV.mono hbk.size)).setCell (p := ⟨w.heap.size, 0, none⟩) (by simp) _) hK2 (by have := hbW.size; omega)⟩
    replace KEY := Lib.hid KEY
    have x0 := c0.cell 0
    have f0 := c0.frozen 0
    have l0 := c0.lt
    have m1 := wrap64_in (x := - tw l) (by omega) (by omega)
    gi_wp2_with (gi_at_call 46; (first | with_reducible refine CallsIn.mono (callsIn_wide.2 (HT.out _ hbk)) ?_ | with_reducible refine CallsIn.mono (callsIn_rnd (HT.out _ hbk)) ?_); rintro e w1 ⟨rfl, hb1⟩; first | ((with_reducible apply kp_in_step (hb := hb1)); (with_reducible assumption); rintro ⟨hk, hc, hf, hzc, hzf⟩) | ((with_reducible refine kp_in_first hb1 ?_); rintro ⟨hk, hc, hf, hzc, hzf⟩))
    (first | refine wpIn_tail_w 10 (by kernel_rfl) (by kernel_rfl) (by kernel_rfl) ?_ | refine wpIn_tail_r 10 (by kernel_rfl) (by kernel_rfl) (by kernel_rfl) ?_); simp only [List.take_succ_cons, List.take_zero, List.drop_succ_cons, List.drop_zero]; (repeat (go_big_quiet_step ((skip)))); refine wpQuiet_nil ?_; rintro _ ⟨z, rfl⟩; (first | ((with_reducible apply kp_in_after (z := z)); (with_reducible assumption); rintro ⟨hk, hc, hf, hzc, hzf⟩) | ((with_reducible refine kp_in_after0 z ?_); rintro ⟨hk, hc, hf, hzc, hzf⟩))
    gi_wp2
    obtain ⟨hK2, x5, hb5⟩ := KEY.out z.val (by (repeat (first | with_reducible exact Below.refl _ _ | with_reducible apply bl_alloc | with_reducible apply bl_drew | with_reducible apply bl_after | (with_reducible refine bl_call ?_ (by assumption)))))
    refine ⟨by simp, .inl ⟨_, _, rfl, run_takeDeferred hK2, ?_⟩⟩
    exact ⟨.tuple #[(Value.int .i64 (pickOf l)), (Value.int .i64 (ownOf l)), (Value.int .i64 (0))], by simp [results, Try.results17, go_sem, x5, pickOf, ownOf], rfl, hb5⟩
set_option maxRecDepth 100000 in
set_option maxHeartbeats 1000000 in
theorem Points_no (A : Option Addr) (ca : Nat) (l : List Pt) (w : World) (ha : Pts w A l) (hla : l.length ≤ 1000000) (hok : ¬ Ok l) :
    Calls Try.prog 17 #[.slice A l.length ca] w fun e w' => e = .returned (.tuple #[(Value.int .i64 (0)), (Value.int .i64 (0)), (Value.int .i64 (20))]) ∧ Below w.heap.size w w' := by
  have hc := fun W hW => Check_any A ca l W (ha.below (w' := W) hW) hla
  rw [chk_no hok] at hc
  clear hok
  replace hc := Lib.hid hc
  go_enter Try.func17, Try.ntmps17
  go_wp2_with (first | (go_at_call 22; with_reducible refine Calls.mono (hc.out _ (by (repeat (first | with_reducible exact Below.refl _ _ | with_reducible apply bl_alloc | with_reducible apply bl_drew | with_reducible apply bl_after | (with_reducible refine bl_call ?_ (by assumption)))))) ?_; rintro e w1 ⟨rfl, hb1⟩; first | ((with_reducible apply kp_in_step (hb := hb1)); (with_reducible assumption); rintro ⟨hk, hc, hf, hzc, hzf⟩) | ((with_reducible refine kp_in_first hb1 ?_); rintro ⟨hk, hc, hf, hzc, hzf⟩)))
  have b0 : Blk w1 w.heap.size 3 #[(Value.int .i64 (0))] := (Blk.new w _ _).below (by assumption)
  have hx : (w1.setCell ⟨w.heap.size, 0, none⟩ (Value.int .i64 (0))).cell? ⟨w.heap.size, 0, none⟩ = some (Value.int .i64 (0)) := by
    have h := (b0.set_ 0 (Value.int .i64 (0))).cell 0
    simpa using h
  have hB : Below w.heap.size w w1 := by (repeat (first | with_reducible exact Below.refl _ _ | with_reducible apply bl_alloc | with_reducible apply bl_drew | with_reducible apply bl_after | (with_reducible refine bl_call ?_ (by assumption))))
  (try simp only [Exit.inBlock, Exit.then])
  refine bodyPost_ret (v := .tuple #[(Value.int .i64 (0)), (Value.int .i64 (0)), (Value.int .i64 (20))]) (by simp [results, Try.results17, go_sem, hx]) rfl ?_
  exact ⟨rfl, hB.setCell (p := ⟨w.heap.size, 0, none⟩) (by simp) _⟩
end Go.Proofs.Ytijpolfmiajenaa
