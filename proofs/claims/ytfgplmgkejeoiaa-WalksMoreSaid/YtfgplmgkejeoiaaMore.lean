/- The function holds of the laws of walks answers true for a track that has all elbows of another one. -/
import Derived.Test.YtfgplmgkejeoiaaFewIn
namespace Go.Proofs.Ytfgplmgkejeoiaa
open Go.RowKit
attribute [local go_sem] After.cell After.frozen

structure Mor (T T2 : Trk) (m : List Pt) : Prop where
  o1 : opE T m = 0
  o2 : opE T2 m = 0
  m1 : 0 < mnV T m
  m2 : mnV T m ≤ mnV T2 m
  r : subB (rolV T m) (rolV T2 m) = true
  l : lvV T2 m ≤ lvV T m
theorem more_of {T T2 : Trk} {m : List Pt} (hw : Wid T T2) (hc : chkT T m = 0) (hc2 : chkT T2 m = 0) (hm : 0 < m.length) (h0 : opE T m = 0) : Mor T T2 m := by
  have hne := (opE_nil hc).1 h0
  obtain ⟨h1, h2, h3, h4⟩ := hw.tell hm hne
  have h5 := (opE_nil hc2).2 h1
  have h6 : 0 < (elbs T m).length := List.length_pos_iff.2 hne
  refine ⟨h0, h5, ?_, ?_, ?_, ?_⟩
  · rw [mnV, if_pos hc]; omega
  · rw [mnV, mnV, if_pos hc, if_pos hc2]; omega
  · rw [rolV, rolV, if_pos h0, if_pos h5, subB, Bool.and_eq_true, List.all_eq_true, decide_eq_true_eq]
    refine ⟨fun x hx => decide_eq_true (h3 x hx), ?_⟩
    have len_le : ∀ {xs ys : List Int}, xs.Nodup → (∀ x ∈ xs, x ∈ ys) → xs.length ≤ ys.length := fun {xs} => by
      induction xs with
      | nil => intro ys _ _; exact Nat.zero_le _
      | cons a t ih =>
        intro ys hn hs
        have k1 := List.nodup_cons.1 hn
        have k2 := hs a List.mem_cons_self
        have k3 := ih (ys := ys.erase a) k1.2 fun x hx => (List.mem_erase_of_ne (fun (e : x = a) => k1.1 (e ▸ hx))).2 (hs x (List.mem_cons_of_mem _ hx))
        rw [List.length_erase_of_mem k2] at k3
        have k4 := List.length_pos_of_mem k2
        rw [List.length_cons]
        omega
    refine len_le ?_ h3
    exact (List.mergeSort_perm _ _).nodup_iff.2 (nodup_ddp _)
  · rw [lvV, lvV, if_pos h0, if_pos h5]
    exact h4

set_option maxRecDepth 100000 in
set_option maxHeartbeats 4000000 in
theorem holds_any (A A2 B : Option Addr) (ca c2 cb : Nat) (T T2 : Trk) (m : List Pt) (w : World) (ha : Pts w A T.pts) (ha2 : Pts w A2 T2.pts) (hb : Pts w B m) (h5 : T.pts.length ≤ 5) (h52 : T2.pts.length ≤ 5) (h5m : m.length ≤ 5) (hM : Mor T T2 m) :
    Calls Try.prog 46 #[(Value.agg #[.slice A T.pts.length ca, (Value.int .i64 (T.closed)), (Value.int .i64 (T.lo)), (Value.int .i64 (T.hi))]), (Value.agg #[.slice A2 T2.pts.length c2, (Value.int .i64 (T2.closed)), (Value.int .i64 (T2.lo)), (Value.int .i64 (T2.hi))]), .slice B m.length cb] w fun e w' => e = .returned (.bool true) ∧ Below w.heap.size w w' := by
  have d1 : T.pts.length ≤ 1000000 := by omega
  have d2 : m.length ≤ 1000000 := by omega
  have d3 : T2.pts.length ≤ 1000000 := by omega
  have hM1 := fun (W : World) (h : Below w.heap.size w W) => Many_any A B ca cb T m W (ha.below h) d1 (hb.below h) d2
  have hM2 := fun (W : World) (h : Below w.heap.size w W) => Many_any A2 B c2 cb T2 m W (ha2.below h) d3 (hb.below h) d2
  have hR1 := fun (W : World) (h : Below w.heap.size w W) => Rolls_any A B ca cb T m W (ha.below h) d1 (hb.below h) d2
  have hR2 := fun (W : World) (h : Below w.heap.size w W) => Rolls_any A2 B c2 cb T2 m W (ha2.below h) d3 (hb.below h) d2
  have hL1 := fun (W : World) (h : Below w.heap.size w W) => Least_any A B ca cb T m W (ha.below h) d1 (hb.below h) d2
  have hL2 := fun (W : World) (h : Below w.heap.size w W) => Least_any A2 B c2 cb T2 m W (ha2.below h) d3 (hb.below h) d2
  rw [hM.o1] at hM1 hR1 hL1
  rw [hM.o2] at hM2 hR2 hL2
  have hl1 := rolV_len5 h5 h5m
  have hl2 := rolV_len5 h52 h5m
  have hS := fun (A5 A6 : Option Addr) (c5 c6 : Nat) (W : World) (h1 : Ints W A5 (rolV T m)) (h2 : Ints W A6 (rolV T2 m)) => subset_any A5 A6 c5 c6 (rolV T m) (rolV T2 m) W h1 (by omega) h2 (by omega)
  rw [hM.r] at hS
  have m1 := hM.m1
  have m2 := hM.m2
  have l1 := hM.l
  have e3 : Blk ((w.alloc (.cells #[.slice A T.pts.length ca, (Value.int .i64 (T.closed)), (Value.int .i64 (T.lo)), (Value.int .i64 (T.hi))] 36)).alloc (.cells #[.slice A2 T2.pts.length c2, (Value.int .i64 (T2.closed)), (Value.int .i64 (T2.lo)), (Value.int .i64 (T2.hi))] 36)) w.heap.size 36 #[.slice A T.pts.length ca, (Value.int .i64 (T.closed)), (Value.int .i64 (T.lo)), (Value.int .i64 (T.hi))] := (Blk.new _ _ _).alloc _
  have e4 : Blk ((w.alloc (.cells #[.slice A T.pts.length ca, (Value.int .i64 (T.closed)), (Value.int .i64 (T.lo)), (Value.int .i64 (T.hi))] 36)).alloc (.cells #[.slice A2 T2.pts.length c2, (Value.int .i64 (T2.closed)), (Value.int .i64 (T2.lo)), (Value.int .i64 (T2.hi))] 36)) (w.heap.size + 1) 36 #[.slice A2 T2.pts.length c2, (Value.int .i64 (T2.closed)), (Value.int .i64 (T2.lo)), (Value.int .i64 (T2.hi))] := Blk.new_at (by simp)
  (have la := e3.lt); (have ya0 := e3.cell 0); (have ya1 := e3.cell 1); (have ya2 := e3.cell 2); (have ya3 := e3.cell 3); simp only [List.getElem?_toArray, List.getElem?_cons_zero, List.getElem?_cons_succ] at ya0 ya1 ya2 ya3
  (have lb := e4.lt); (have yb0 := e4.cell 0); (have yb1 := e4.cell 1); (have yb2 := e4.cell 2); (have yb3 := e4.cell 3); simp only [List.getElem?_toArray, List.getElem?_cons_zero, List.getElem?_cons_succ] at yb0 yb1 yb2 yb3
  replace hM1 := Lib.hid hM1
  replace hM2 := Lib.hid hM2
  replace hR1 := Lib.hid hR1
  replace hR2 := Lib.hid hR2
  replace hL1 := Lib.hid hL1
  replace hL2 := Lib.hid hL2
  replace hS := Lib.hid hS
  clear hM ha ha2 hb
  generalize rolV T m = ro at *
  generalize rolV T2 m = ro2 at *
  generalize mnV T m = mn at *
  generalize mnV T2 m = mn2 at *
  generalize lvV T m = lv at *
  generalize lvV T2 m = lv2 at *
  go_enter Try.func46, Try.ntmps46
  go_wp2_with (first | ((go_at_call 33); (with_reducible refine Calls.mono (hM1.out _ (by (repeat (first | with_reducible exact Below.refl _ _ | with_reducible apply bl_alloc | with_reducible apply bl_drew | with_reducible apply bl_after | (with_reducible refine bl_call ?_ (by assumption)))))) ?_); rintro e wn ⟨rfl, hbn⟩; first | ((with_reducible apply kp_in_step (hb := hbn)); (with_reducible assumption); rintro ⟨hk, hc, hf, hzc, hzf⟩) | ((with_reducible refine kp_in_first hbn ?_); rintro ⟨hk, hc, hf, hzc, hzf⟩)) | ((go_at_call 33); (with_reducible refine Calls.mono (hM2.out _ (by (repeat (first | with_reducible exact Below.refl _ _ | with_reducible apply bl_alloc | with_reducible apply bl_drew | with_reducible apply bl_after | (with_reducible refine bl_call ?_ (by assumption)))))) ?_); rintro e wn ⟨rfl, hbn⟩; first | ((with_reducible apply kp_in_step (hb := hbn)); (with_reducible assumption); rintro ⟨hk, hc, hf, hzc, hzf⟩) | ((with_reducible refine kp_in_first hbn ?_); rintro ⟨hk, hc, hf, hzc, hzf⟩)) | ((go_at_call 35); (with_reducible refine Calls.mono (hR1.out _ (by (repeat (first | with_reducible exact Below.refl _ _ | with_reducible apply bl_alloc | with_reducible apply bl_drew | with_reducible apply bl_after | (with_reducible refine bl_call ?_ (by assumption)))))) ?_); rintro e w5 ⟨⟨A5, c5, rfl, N5⟩, hb5⟩; first | ((with_reducible apply kp_in_step (hb := hb5)); (with_reducible assumption); rintro ⟨hk, hc, hf, hzc, hzf⟩) | ((with_reducible refine kp_in_first hb5 ?_); rintro ⟨hk, hc, hf, hzc, hzf⟩)) | ((go_at_call 35); (with_reducible refine Calls.mono (hR2.out _ (by (repeat (first | with_reducible exact Below.refl _ _ | with_reducible apply bl_alloc | with_reducible apply bl_drew | with_reducible apply bl_after | (with_reducible refine bl_call ?_ (by assumption)))))) ?_); rintro e w6 ⟨⟨A6, c6, rfl, N6⟩, hb6⟩; first | ((with_reducible apply kp_in_step (hb := hb6)); (with_reducible assumption); rintro ⟨hk, hc, hf, hzc, hzf⟩) | ((with_reducible refine kp_in_first hb6 ?_); rintro ⟨hk, hc, hf, hzc, hzf⟩)) | ((go_at_call 37); (with_reducible refine Calls.mono (hL1.out _ (by (repeat (first | with_reducible exact Below.refl _ _ | with_reducible apply bl_alloc | with_reducible apply bl_drew | with_reducible apply bl_after | (with_reducible refine bl_call ?_ (by assumption)))))) ?_); rintro e wn ⟨rfl, hbn⟩; first | ((with_reducible apply kp_in_step (hb := hbn)); (with_reducible assumption); rintro ⟨hk, hc, hf, hzc, hzf⟩) | ((with_reducible refine kp_in_first hbn ?_); rintro ⟨hk, hc, hf, hzc, hzf⟩)) | ((go_at_call 37); (with_reducible refine Calls.mono (hL2.out _ (by (repeat (first | with_reducible exact Below.refl _ _ | with_reducible apply bl_alloc | with_reducible apply bl_drew | with_reducible apply bl_after | (with_reducible refine bl_call ?_ (by assumption)))))) ?_); rintro e wn ⟨rfl, hbn⟩; first | ((with_reducible apply kp_in_step (hb := hbn)); (with_reducible assumption); rintro ⟨hk, hc, hf, hzc, hzf⟩) | ((with_reducible refine kp_in_first hbn ?_); rintro ⟨hk, hc, hf, hzc, hzf⟩)) | ((go_at_call 80); (with_reducible refine Calls.mono (hS.out _ _ _ _ _ (N5.ints.below (by (repeat (first | with_reducible exact Below.refl _ _ | with_reducible apply bl_alloc | with_reducible apply bl_drew | with_reducible apply bl_after | (with_reducible refine bl_call ?_ (by assumption)))))) (N6.ints.below (by (repeat (first | with_reducible exact Below.refl _ _ | with_reducible apply bl_alloc | with_reducible apply bl_drew | with_reducible apply bl_after | (with_reducible refine bl_call ?_ (by assumption))))))) ?_); rintro e w7 ⟨rfl, hb7⟩; first | ((with_reducible apply kp_in_step (hb := hb7)); (with_reducible assumption); rintro ⟨hk, hc, hf, hzc, hzf⟩) | ((with_reducible refine kp_in_first hb7 ?_); rintro ⟨hk, hc, hf, hzc, hzf⟩)))
  go_ret
  exact ⟨ret_bool (by first | (simp; done) | (simp; omega)), by (repeat (first | with_reducible exact Below.refl _ _ | with_reducible apply bl_alloc | with_reducible apply bl_drew | with_reducible apply bl_after | (with_reducible refine bl_call ?_ (by assumption))))⟩
end Go.Proofs.Ytfgplmgkejeoiaa
