/- The law WalksCut answers true for any walk and two of its places. -/
import Derived.Test.YtfgplmgkejeoiaaCutA
namespace Go.Proofs.Ytfgplmgkejeoiaa
open Go.ChangeShapes Go.WideShapes Go.RowKit
attribute [local go_sem] After.cell After.frozen

set_option maxRecDepth 100000 in
set_option maxHeartbeats 4000000 in
theorem cut_in (bm om ca : Nat) (l : List Pt) (a b : Nat) (w : World) (hq : PtsAt w bm om l) (hw : walkB l = true) (hcap : l.length ≤ ca) (hab : a < b) (hbl : b < l.length) :
    Calls Try.prog 3 #[.slice (some ⟨bm, om, none⟩) l.length ca, .agg #[(Value.int .i64 ((a : Int))), (Value.int .i64 ((b : Int)))]] w fun e w' => e = .returned (.bool true) ∧ Below w.heap.size w w' := by
  have hwb := walkB_bd hw
  have h8 : l.length ≤ 8 := by omega
  have c0 : Blk (w.alloc (.cells #[(Value.int .i64 ((a : Int))), (Value.int .i64 ((b : Int)))] 24)) w.heap.size 24 #[(Value.int .i64 ((a : Int))), (Value.int .i64 ((b : Int)))] := Blk.new _ _ _
  have hq0 := hq.below (show Below w.heap.size w (w.alloc (.cells #[(Value.int .i64 ((a : Int))), (Value.int .i64 ((b : Int)))] 24)) by (repeat (first | with_reducible exact Below.refl _ _ | with_reducible apply bl_alloc | with_reducible apply bl_drew | with_reducible apply bl_after | (with_reducible refine bl_call ?_ (by assumption)))))
  have hi := fun (W : World) (h : Below w.heap.size w W) => r5IsWalk_any (some ⟨bm, om, none⟩) ca l W (.inr ⟨bm, om, rfl, hq.below h⟩) (by omega)
  rw [hw] at hi
  replace hi := Lib.hid hi
  have hA := fun (W : World) (h : Below w.heap.size w W) => wArea_any (some ⟨bm, om, none⟩) ca l W (.inr ⟨bm, om, rfl, hq.below h⟩) (by omega)
  rw [arV, arE, if_pos hw, if_pos hw] at hA
  replace hA := Lib.hid hA
  have hn1 : ((l.drop a).take (b + 1 - a)).length = b + 1 - a := by simp; omega
  have hw1 : walkB ((l.drop a).take (b + 1 - a)) = true := walkB_of hw (by omega) (by omega) fun p hp => .inl (List.mem_of_mem_drop (List.mem_of_mem_take hp))
  go_enter Try.func3, Try.ntmps3
  go_wp2_with (first | ((go_at_call 13); (with_reducible refine Calls.mono (hi.out _ (by (repeat (first | with_reducible exact Below.refl _ _ | with_reducible apply bl_alloc | with_reducible apply bl_drew | with_reducible apply bl_after | (with_reducible refine bl_call ?_ (by assumption)))))) ?_); rintro e w1 ⟨rfl, hb1⟩; (have e1 := c0.below hb1); (have p1 := hq0.below hb1); (have l1 := e1.lt); (have ua1 := e1.cell 0); (have ub1 := e1.cell 1); simp only [List.getElem?_toArray, List.getElem?_cons_zero, List.getElem?_cons_succ] at ua1 ub1; first | ((with_reducible apply kp_in_step (hb := hb1)); (with_reducible assumption); rintro ⟨hk, hc, hf, hzc, hzf⟩) | ((with_reducible refine kp_in_first hb1 ?_); rintro ⟨hk, hc, hf, hzc, hzf⟩)) | ((go_at_call 15); (with_reducible refine Calls.mono (hA.out _ (by (repeat (first | with_reducible exact Below.refl _ _ | with_reducible apply bl_alloc | with_reducible apply bl_drew | with_reducible apply bl_after | (with_reducible refine bl_call ?_ (by assumption)))))) ?_); rintro e w2 ⟨rfl, hb2⟩; (have e2 := e1.below hb2); (have p2 := p1.below hb2); (have l2 := e2.lt); (have ua2 := e2.cell 0); (have ub2 := e2.cell 1); simp only [List.getElem?_toArray, List.getElem?_cons_zero, List.getElem?_cons_succ] at ua2 ub2; first | ((with_reducible apply kp_in_step (hb := hb2)); (with_reducible assumption); rintro ⟨hk, hc, hf, hzc, hzf⟩) | ((with_reducible refine kp_in_first hb2 ?_); rintro ⟨hk, hc, hf, hzc, hzf⟩)) | (at_builtin; refine wpList_copy_n rfl (.tmp 53) (.tmp 60) rfl (some ⟨bm, om + a * 2, none⟩) (ca - a) (b + 1 - a) ((l.drop a).take (b + 1 - a)) hn1 rfl rfl (fun h => by cases h) (.inr ⟨_, _, rfl, p2.sub a (b + 1 - a)⟩) (by omega) ?_; intro A3 ca3 w3 hP3 hb3 hn3; (have e3 := e2.below hb3); (have p3 := p2.below hb3); first | ((with_reducible apply kp_in_step (hb := hb3)); (with_reducible assumption); rintro ⟨hk, hc, hf, hzc, hzf⟩) | ((with_reducible refine kp_in_first hb3 ?_); rintro ⟨hk, hc, hf, hzc, hzf⟩)) | ((go_at_call 15); (with_reducible refine Calls.mono (area_n hn1 hP3 hw1) ?_); rintro e w4 ⟨rfl, hb4⟩; (have e4 := e3.below hb4); (have p4 := p3.below hb4); (have l4 := e4.lt); (have ua4 := e4.cell 0); (have ub4 := e4.cell 1); simp only [List.getElem?_toArray, List.getElem?_cons_zero, List.getElem?_cons_succ] at ua4 ub4; first | ((with_reducible apply kp_in_step (hb := hb4)); (with_reducible assumption); rintro ⟨hk, hc, hf, hzc, hzf⟩) | ((with_reducible refine kp_in_first hb4 ?_); rintro ⟨hk, hc, hf, hzc, hzf⟩)))
  have hbw4 : Below w.heap.size w w4 := by (repeat (first | with_reducible exact Below.refl _ _ | with_reducible apply bl_alloc | with_reducible apply bl_drew | with_reducible apply bl_after | (with_reducible refine bl_call ?_ (by assumption))))
  clear hk hc hf hzc hzf
  have fa1 : IntKind.i64.wrap ((a : Int) + 1) = (a : Int) + 1 := IntWalk.i64_in _ (by omega)
  have fa2 : (0 : Int) ≤ (a : Int) + 1 := by omega
  have fa3 : (a : Int) + 1 ≤ (ca : Int) := by omega
  have fa4 : ((a : Int) + 1).toNat = a + 1 := by omega
  have fa5 : (a : Int) + 1 ≤ (l.length : Int) := by omega
  have fb1 : (0 : Int) ≤ (b : Int) := by omega
  have fb2 : (b : Int) ≤ (l.length : Int) := by omega
  have fb3 : (l.length : Int) ≤ (ca : Int) := by omega
  have fb4 : ca ≠ b := by omega
  have fb5 : b ≤ l.length := by omega
  have fc4 : ca ≠ a + 1 := by omega
  have fc5 : a + 1 ≤ l.length := by omega
  have fc6 : a + 1 ≤ ca := by omega
  have fb6 : l.length ≤ ca := by omega
  have pt4 : PtsAt w4 bm om (l.take (a + 1)) := by have h := p4.sub 0 (a + 1); simpa using h
  have pd4 : PtsAt w4 bm (om + b * 2) (l.drop b) := by have h := p4.sub b (l.length - b); rwa [List.take_of_length_le (by simp)] at h
  have hn2 : (l.take (a + 1) ++ l.drop b).length = a + 1 + (l.length - b) := by simp; omega
  have hw2 : walkB (l.take (a + 1) ++ l.drop b) = true := walkB_of hw (by omega) (by omega) fun p hp => .inl (by
    rcases List.mem_append.1 hp with h | h
    · exact List.mem_of_mem_take h
    · exact List.mem_of_mem_drop h)
  have hw3 : walkB (l.take (a + 1) ++ [pat l a] ++ l.drop (a + 1)) = true ∨ 8 ≤ l.length := by
    by_cases h7 : 8 ≤ l.length
    · exact .inr h7
    · refine .inl (walkB_of hw (by simp; omega) (by simp; omega) fun p hp => ?_)
      simp only [List.mem_append, List.mem_singleton] at hp
      rcases hp with (h | h) | h
      · exact .inl (List.mem_of_mem_take h)
      · subst h; exact .inr (hwb.2 a (by omega))
      · exact .inl (List.mem_of_mem_drop h)
  have hsum := cut_lists hab hbl
  have hdb := dbl_bd hwb.2 (by omega)
  have hms := wrap64_in (x := dbl ((l.drop a).take (b + 1 - a)) + dbl (l.take (a + 1) ++ l.drop b)) (by omega) (by omega)
  have hsn : (dbl ((l.drop a).take (b + 1 - a)) + dbl (l.take (a + 1) ++ l.drop b) != dbl l) = false := by rw [hsum]; simp
  clear hsum
  go_cut [9, 10] (fun s9 s10 wx => s9 = (Value.int .i64 (dbl (l.take (a + 1) ++ l.drop b))) ∧ s10 = (Value.int .i64 (0)) ∧ Below w4.heap.size w4 wx)
  case first =>
    as_aux_lemma =>
      refine wp_region_C (fun w' => ∃ z : After w4, w' = z.val) (by kernel_rfl) ?_
      change wpAnyC _ _ _ _ _ _ _ (World.drew w4)
      refine wpAnyC_take (i := 1) (v := ?v1u) rfl (by kernel_rfl) (by kernel_rfl) (by kernel_rfl) ?q1u rfl ?y1u ?r1u; (case q1u => exact fun _ _ _ h => h); (case y1u => ((rintro _ ⟨z, rfl⟩); (go_simp); (try with_reducible rfl))); simp only [Act.put, List.getElem_toArray, List.getElem_cons_succ, List.getElem_cons_zero, List.setIfInBounds_toArray, List.set_cons_succ, List.set_cons_zero]
      refine wpAnyC_take (i := 2) (v := ?v2u) rfl (by kernel_rfl) (by kernel_rfl) (by kernel_rfl) ?q2u rfl ?y2u ?r2u; (case q2u => exact fun _ _ _ h => h); (case y2u => ((rintro _ ⟨z, rfl⟩); (go_simp); (try with_reducible rfl))); simp only [Act.put, List.getElem_toArray, List.getElem_cons_succ, List.getElem_cons_zero, List.setIfInBounds_toArray, List.set_cons_succ, List.set_cons_zero]
      refine wpAnyC_take (i := 3) (v := ?v3u) rfl (by kernel_rfl) (by kernel_rfl) (by kernel_rfl) ?q3u rfl ?y3u ?r3u; (case q3u => exact fun _ _ _ h => h); (case y3u => ((rintro _ ⟨z, rfl⟩); (go_simp); (try with_reducible rfl))); simp only [Act.put, List.getElem_toArray, List.getElem_cons_succ, List.getElem_cons_zero, List.setIfInBounds_toArray, List.set_cons_succ, List.set_cons_zero]
      refine wpAnyC_take (i := 4) (v := ?v4u) rfl (by kernel_rfl) (by kernel_rfl) (by kernel_rfl) ?q4u rfl ?y4u ?r4u; (case q4u => exact fun _ _ _ h => h); (case y4u => ((rintro _ ⟨z, rfl⟩); (go_simp); (try with_reducible rfl))); simp only [Act.put, List.getElem_toArray, List.getElem_cons_succ, List.getElem_cons_zero, List.setIfInBounds_toArray, List.set_cons_succ, List.set_cons_zero]
      refine wpAnyC_take (i := 5) (v := ?v5u) rfl (by kernel_rfl) (by kernel_rfl) (by kernel_rfl) ?q5u rfl ?y5u ?r5u; (case q5u => exact fun _ _ _ h => h); (case y5u => ((rintro _ ⟨z, rfl⟩); (go_simp); (try with_reducible rfl))); simp only [Act.put, List.getElem_toArray, List.getElem_cons_succ, List.getElem_cons_zero, List.setIfInBounds_toArray, List.set_cons_succ, List.set_cons_zero]
      refine wpAnyC_take (i := 7) (v := ?v7u) rfl (by kernel_rfl) (by kernel_rfl) (by kernel_rfl) ?q7u rfl ?y7u ?r7u; (case q7u => exact fun _ _ _ h => h); (case y7u => ((rintro _ ⟨z, rfl⟩); (go_simp); (try with_reducible rfl))); simp only [Act.put, List.getElem_toArray, List.getElem_cons_succ, List.getElem_cons_zero, List.setIfInBounds_toArray, List.set_cons_succ, List.set_cons_zero]
      refine wpAnyC_take (i := 8) (v := ?v8u) rfl (by kernel_rfl) (by kernel_rfl) (by kernel_rfl) ?q8u rfl ?y8u ?r8u; (case q8u => exact fun _ _ _ h => h); (case y8u => ((rintro _ ⟨z, rfl⟩); (go_simp); (try with_reducible rfl))); simp only [Act.put, List.getElem_toArray, List.getElem_cons_succ, List.getElem_cons_zero, List.setIfInBounds_toArray, List.set_cons_succ, List.set_cons_zero]
      refine wpAnyC_take (i := 9) (v := ?v9u) rfl (by kernel_rfl) (by kernel_rfl) (by kernel_rfl) ?q9u rfl ?y9u ?r9u; (case q9u => exact fun _ _ _ h => h); (case y9u => ((rintro _ ⟨z, rfl⟩); (go_simp); (try with_reducible rfl))); simp only [Act.put, List.getElem_toArray, List.getElem_cons_succ, List.getElem_cons_zero, List.setIfInBounds_toArray, List.set_cons_succ, List.set_cons_zero]
      refine wpAnyC_take (i := 10) (v := ?v10u) rfl (by kernel_rfl) (by kernel_rfl) (by kernel_rfl) ?q10u rfl ?y10u ?r10u; (case q10u => exact fun _ _ _ h => h); (case y10u => ((rintro _ ⟨z, rfl⟩); (go_simp); (try with_reducible rfl))); simp only [Act.put, List.getElem_toArray, List.getElem_cons_succ, List.getElem_cons_zero, List.setIfInBounds_toArray, List.set_cons_succ, List.set_cons_zero]
      refine wpAnyC_one (i := 0) (by kernel_rfl) rfl ⟨⟨_, bl_drew (Below.refl _ _)⟩, rfl⟩ rfl (fun K hK => ?_)
      (go_simp; refine hK _ _ ?_; clear hK K)
      have ho4 := World.ownsRow_made (base := w4.heap.size) (e := 31) (size := 2) w4.drew #[] 0 (Nat.le_refl _) (by decide) rfl
      refine wpAnyC_one (i := 6) (by kernel_rfl) rfl ⟨⟨_, bl_drew (bl_alloc (Below.refl _ _))⟩, rfl⟩ rfl (fun K hK => ?_)
      refine app_pts (w0 := w4) (.tmp 66) (.tmp 71) rfl (bl_drew (bl_alloc (Below.refl _ _))) _ 0 [] rfl ho4 bm om ca (a + 1) (l.take (a + 1)) (by simp; omega) rfl (pt4.below (bl_drew (bl_alloc (Below.refl _ _)))) (by omega) (fun v5 w5 ho5 hb5 _ => hK _ _ ?_)
      clear hK K
      simp only [Act.put, List.getElem_toArray, List.getElem_cons_succ, List.getElem_cons_zero, List.setIfInBounds_toArray, List.set_cons_succ, List.set_cons_zero]
      refine wpAnyC_one (i := 11) (by kernel_rfl) rfl ⟨⟨_, (by assumption)⟩, rfl⟩ rfl (fun K hK => ?_)
      refine app_pts (w0 := w4) (.tmp 72) (.tmp 76) rfl hb5 _ (0 + (a + 1)) _ rfl ho5 bm (om + b * 2) (ca - b) (l.length - b) (l.drop b) (by simp) rfl (pd4.below hb5) (by omega) (fun v6 w6 ho6 hb6 _ => hK _ _ ?_)
      clear hK K
      simp only [Act.put, List.getElem_toArray, List.getElem_cons_succ, List.getElem_cons_zero, List.setIfInBounds_toArray, List.set_cons_succ, List.set_cons_zero]
      rw [List.nil_append, show 0 + (a + 1) + (l.length - b) = a + 1 + (l.length - b) by omega] at ho6
      obtain ⟨A6, ca6, rfl, hP6⟩ := own_parts_n ho6
      refine wpAnyC_one (i := 12) (by kernel_rfl) rfl ⟨⟨_, (by assumption)⟩, rfl⟩ rfl (fun K hK => ?_)
      go_simp
      go_at_call 15
      with_reducible refine Calls.mono (area_n hn2 hP6 hw2) ?_
      rintro e w7 ⟨rfl, hb7⟩
      refine hK _ _ ?_
      clear hK K
      have hb47 := bl_call hb6 hb7
      refine wpAnyC_take (i := 13) (v := ?v13u) rfl (by kernel_rfl) (by kernel_rfl) (by kernel_rfl) ?q13u rfl ?y13u ?r13u; (case q13u => exact fun _ _ _ h => h); (case y13u => ((rintro _ ⟨z, rfl⟩); (go_simp); (try with_reducible rfl))); simp only [Act.put, List.getElem_toArray, List.getElem_cons_succ, List.getElem_cons_zero, List.setIfInBounds_toArray, List.set_cons_succ, List.set_cons_zero]
      refine wpAnyC_take (i := 14) (v := ?v14u) rfl (by kernel_rfl) (by kernel_rfl) (by kernel_rfl) ?q14u rfl ?y14u ?r14u; (case q14u => exact fun _ _ _ h => h); (case y14u => ((rintro _ ⟨z, rfl⟩); (go_simp); (try with_reducible rfl))); simp only [Act.put, List.getElem_toArray, List.getElem_cons_succ, List.getElem_cons_zero, List.setIfInBounds_toArray, List.set_cons_succ, List.set_cons_zero]
      refine wpAnyC_take (i := 15) (v := ?v15u) rfl (by kernel_rfl) (by kernel_rfl) (by kernel_rfl) ?q15u rfl ?y15u ?r15u; (case q15u => exact fun _ _ _ h => h); (case y15u => ((rintro _ ⟨z, rfl⟩); (go_simp); (try with_reducible rfl))); simp only [Act.put, List.getElem_toArray, List.getElem_cons_succ, List.getElem_cons_zero, List.setIfInBounds_toArray, List.set_cons_succ, List.set_cons_zero]
      refine wpAnyC_take (i := 16) (v := ?v16u) rfl (by kernel_rfl) (by kernel_rfl) (by kernel_rfl) ?q16u rfl ?y16u ?r16u; (case q16u => exact fun _ _ _ h => h); (case y16u => ((rintro _ ⟨z, rfl⟩); (go_simp); (try with_reducible rfl))); simp only [Act.put, List.getElem_toArray, List.getElem_cons_succ, List.getElem_cons_zero, List.setIfInBounds_toArray, List.set_cons_succ, List.set_cons_zero]
      refine wpAnyC_take (i := 17) (v := ?v17u) rfl (by kernel_rfl) (by kernel_rfl) (by kernel_rfl) ?q17u rfl ?y17u ?r17u; (case q17u => exact fun _ _ _ h => h); (case y17u => ((rintro _ ⟨z, rfl⟩); (go_simp); (try with_reducible rfl))); simp only [Act.put, List.getElem_toArray, List.getElem_cons_succ, List.getElem_cons_zero, List.setIfInBounds_toArray, List.set_cons_succ, List.set_cons_zero]
      refine wpAnyC_done (by kernel_rfl) ⟨⟨w7, hb47⟩, rfl⟩ ?_ _
      go_wp2_with fail
      go_meet
      exact ⟨rfl, rfl, hb47⟩
  case rest =>
    obtain ⟨rfl, rfl, hbc⟩ := hcut
    have e5 := e4.below hbc
    have p5 := p4.below hbc
    have hbw5 := bl_call hbw4 hbc
    clear e1 e2 e3 e4 p1 p2 p3 p4 l1 l2 l4 ua1 ub1 ua2 ub2 ua4 ub4 pt4 pd4 hb1 hb2 hb3 hb4 hbc hP3 hn3 hbw4
    have l5 := e5.lt
    have ua5 := e5.cell 0
    have ub5 := e5.cell 1
    simp only [List.getElem?_toArray, List.getElem?_cons_zero, List.getElem?_cons_succ] at ua5 ub5
    by_cases h7 : 8 ≤ l.length
    · go_wp2_with ((go_at_call 14); (with_reducible refine Calls.mono (works_any _) ?_); rintro e w8 ⟨rfl, hb8⟩; first | ((with_reducible apply kp_in_step (hb := hb8)); (with_reducible assumption); rintro ⟨hk, hc, hf, hzc, hzf⟩) | ((with_reducible refine kp_in_first hb8 ?_); rintro ⟨hk, hc, hf, hzc, hzf⟩))
      refine bodyPost_ret (v := .bool true) (by simp [results, Try.results3, go_sem]) rfl ⟨rfl, ?_⟩
      (repeat (first | with_reducible exact Below.refl _ _ | with_reducible apply bl_alloc | with_reducible apply bl_drew | with_reducible apply bl_after | (with_reducible refine bl_call ?_ (by assumption))))
    · replace hw3 := hw3.resolve_right h7
      have x1 := p5.xp (i := a) (by omega)
      have x2 := p5.yp (i := a) (by omega)
      have x3 := p5.xp (i := a + 1) (by omega)
      have x4 := p5.yp (i := a + 1) (by omega)
      have lb5 := p5.lt
      go_wp2
      go_cut [11, 12] (fun s11 s12 wx => ∃ gp gq : Nat, s11 = .pointer (some ⟨gp, 0, none⟩) ∧ s12 = .pointer (some ⟨gq, 0, none⟩) ∧ Blk wx gp 31 #[(Value.int .i64 ((pat l a).1)), (Value.int .i64 ((pat l a).2))] ∧ Blk wx gq 31 #[(Value.int .i64 ((pat l (a + 1)).1)), (Value.int .i64 ((pat l (a + 1)).2))] ∧ (wc.heap.size ≤ gp ∧ wc.heap.size ≤ gq) ∧ Below wc.heap.size wc wx)
      case first =>
        as_aux_lemma =>
          go_big_region
          all_goals (go_wp2_with fail; go_meet; exact ⟨_, _, rfl, rfl, (by first | exact Blk.new_at (by simp) | exact (Blk.new_at (by simp)).alloc _), (by first | exact Blk.new_at (by simp) | exact (Blk.new_at (by simp)).alloc _), ⟨by simp; (try omega), by simp; (try omega)⟩, by (repeat (first | with_reducible exact Below.refl _ _ | with_reducible apply bl_alloc | with_reducible apply bl_drew | with_reducible apply bl_after | (with_reducible refine bl_call ?_ (by assumption))))⟩)
      case rest =>
        obtain ⟨gp, gq, rfl, rfl, bp, bq, ⟨gp1, gq1⟩, hbc⟩ := hcut
        have e6 := e5.below hbc
        have p6 := p5.below hbc
        have hbw6 := bl_call hbw5 hbc
        clear x1 x2 x3 x4 lb5 e5 p5 l5 ua5 ub5 hbw5
        have l6 := e6.lt
        have ua6 := e6.cell 0
        have ub6 := e6.cell 1
        have lp6 := bp.lt
        have lq6 := bq.lt
        have up0 := bp.cell 0
        have up1 := bp.cell 1
        have uq0 := bq.cell 0
        have uq1 := bq.cell 1
        simp only [List.getElem?_toArray, List.getElem?_cons_zero, List.getElem?_cons_succ] at ua6 ub6 up0 up1 uq0 uq1
        clear hbc gp1 gq1
        have pt6 : PtsAt wc bm om (l.take (a + 1)) := by have h := p6.sub 0 (a + 1); simpa using h
        have pd6 : PtsAt wc bm (om + (a + 1) * 2) (l.drop (a + 1)) := by have h := p6.sub (a + 1) (l.length - (a + 1)); rwa [List.take_of_length_le (by simp)] at h
        go_wp2
        go_cut [13] (fun s13 wx => ∃ A' ca', s13 = .slice A' (l.length + 1) ca' ∧ Pts wx A' (l.take (a + 1) ++ [pat l a] ++ l.drop (a + 1)) ∧ Below wc.heap.size wc wx)
        case first =>
          as_aux_lemma =>
            refine wp_region_C (fun w' => ∃ z : After wc, w' = z.val) (by kernel_rfl) ?_
            change wpAnyC _ _ _ _ _ _ _ (World.drew wc)
            refine wpAnyC_take (i := 1) (v := ?v1v) rfl (by kernel_rfl) (by kernel_rfl) (by kernel_rfl) ?q1v rfl ?y1v ?r1v; (case q1v => exact fun _ _ _ h => h); (case y1v => ((rintro _ ⟨z, rfl⟩); (go_simp); (try with_reducible rfl))); simp only [Act.put, List.getElem_toArray, List.getElem_cons_succ, List.getElem_cons_zero, List.setIfInBounds_toArray, List.set_cons_succ, List.set_cons_zero]
            refine wpAnyC_take (i := 2) (v := ?v2v) rfl (by kernel_rfl) (by kernel_rfl) (by kernel_rfl) ?q2v rfl ?y2v ?r2v; (case q2v => exact fun _ _ _ h => h); (case y2v => ((rintro _ ⟨z, rfl⟩); (go_simp); (try with_reducible rfl))); simp only [Act.put, List.getElem_toArray, List.getElem_cons_succ, List.getElem_cons_zero, List.setIfInBounds_toArray, List.set_cons_succ, List.set_cons_zero]
            refine wpAnyC_take (i := 3) (v := ?v3v) rfl (by kernel_rfl) (by kernel_rfl) (by kernel_rfl) ?q3v rfl ?y3v ?r3v; (case q3v => exact fun _ _ _ h => h); (case y3v => ((rintro _ ⟨z, rfl⟩); (go_simp); (try with_reducible rfl))); simp only [Act.put, List.getElem_toArray, List.getElem_cons_succ, List.getElem_cons_zero, List.setIfInBounds_toArray, List.set_cons_succ, List.set_cons_zero]
            refine wpAnyC_take (i := 4) (v := ?v4v) rfl (by kernel_rfl) (by kernel_rfl) (by kernel_rfl) ?q4v rfl ?y4v ?r4v; (case q4v => exact fun _ _ _ h => h); (case y4v => ((rintro _ ⟨z, rfl⟩); (go_simp); (try with_reducible rfl))); simp only [Act.put, List.getElem_toArray, List.getElem_cons_succ, List.getElem_cons_zero, List.setIfInBounds_toArray, List.set_cons_succ, List.set_cons_zero]
            refine wpAnyC_take (i := 5) (v := ?v5v) rfl (by kernel_rfl) (by kernel_rfl) (by kernel_rfl) ?q5v rfl ?y5v ?r5v; (case q5v => exact fun _ _ _ h => h); (case y5v => ((rintro _ ⟨z, rfl⟩); (go_simp); (try with_reducible rfl))); simp only [Act.put, List.getElem_toArray, List.getElem_cons_succ, List.getElem_cons_zero, List.setIfInBounds_toArray, List.set_cons_succ, List.set_cons_zero]
            refine wpAnyC_take (i := 7) (v := ?v7v) rfl (by kernel_rfl) (by kernel_rfl) (by kernel_rfl) ?q7v rfl ?y7v ?r7v; (case q7v => exact fun _ _ _ h => h); (case y7v => ((rintro _ ⟨z, rfl⟩); (go_simp); (try with_reducible rfl))); simp only [Act.put, List.getElem_toArray, List.getElem_cons_succ, List.getElem_cons_zero, List.setIfInBounds_toArray, List.set_cons_succ, List.set_cons_zero]
            refine wpAnyC_take (i := 10) (v := ?v10v) rfl (by kernel_rfl) (by kernel_rfl) (by kernel_rfl) ?q10v rfl ?y10v ?r10v; (case q10v => exact fun _ _ _ h => h); (case y10v => ((rintro _ ⟨z, rfl⟩); (go_simp); (try with_reducible rfl))); simp only [Act.put, List.getElem_toArray, List.getElem_cons_succ, List.getElem_cons_zero, List.setIfInBounds_toArray, List.set_cons_succ, List.set_cons_zero]
            refine wpAnyC_take (i := 11) (v := ?v11v) rfl (by kernel_rfl) (by kernel_rfl) (by kernel_rfl) ?q11v rfl ?y11v ?r11v; (case q11v => exact fun _ _ _ h => h); (case y11v => ((rintro _ ⟨z, rfl⟩); (go_simp); (try with_reducible rfl))); simp only [Act.put, List.getElem_toArray, List.getElem_cons_succ, List.getElem_cons_zero, List.setIfInBounds_toArray, List.set_cons_succ, List.set_cons_zero]
            refine wpAnyC_take (i := 12) (v := ?v12v) rfl (by kernel_rfl) (by kernel_rfl) (by kernel_rfl) ?q12v rfl ?y12v ?r12v; (case q12v => exact fun _ _ _ h => h); (case y12v => ((rintro _ ⟨z, rfl⟩); (go_simp); (try with_reducible rfl))); simp only [Act.put, List.getElem_toArray, List.getElem_cons_succ, List.getElem_cons_zero, List.setIfInBounds_toArray, List.set_cons_succ, List.set_cons_zero]
            refine wpAnyC_take (i := 13) (v := ?v13v) rfl (by kernel_rfl) (by kernel_rfl) (by kernel_rfl) ?q13v rfl ?y13v ?r13v; (case q13v => exact fun _ _ _ h => h); (case y13v => ((rintro _ ⟨z, rfl⟩); (go_simp); (try with_reducible rfl))); simp only [Act.put, List.getElem_toArray, List.getElem_cons_succ, List.getElem_cons_zero, List.setIfInBounds_toArray, List.set_cons_succ, List.set_cons_zero]
            refine wpAnyC_take (i := 14) (v := ?v14v) rfl (by kernel_rfl) (by kernel_rfl) (by kernel_rfl) ?q14v rfl ?y14v ?r14v; (case q14v => exact fun _ _ _ h => h); (case y14v => ((rintro _ ⟨z, rfl⟩); (go_simp); (try with_reducible rfl))); simp only [Act.put, List.getElem_toArray, List.getElem_cons_succ, List.getElem_cons_zero, List.setIfInBounds_toArray, List.set_cons_succ, List.set_cons_zero]
            refine wpAnyC_two (i := 0) (j := 8) (by kernel_rfl) rfl rfl ⟨⟨_, bl_drew (Below.refl _ _)⟩, rfl⟩ rfl rfl (fun K hK => ?_) (fun K hK => ?_)
            · (go_simp; refine hK _ _ ?_; clear hK K)
              have ho4 := World.ownsRow_made (base := wc.heap.size) (e := 31) (size := 2) wc.drew #[] 0 (Nat.le_refl _) (by decide) rfl
              refine wpAnyC_two (i := 6) (j := 8) (by kernel_rfl) rfl rfl ⟨⟨_, bl_drew (bl_alloc (Below.refl _ _))⟩, rfl⟩ rfl rfl (fun K hK => ?_) (fun K hK => ?_)
              · refine app_pts (w0 := wc) (.tmp 113) (.tmp 118) rfl (bl_drew (bl_alloc (Below.refl _ _))) _ 0 [] rfl ho4 bm om ca (a + 1) (l.take (a + 1)) (by simp; omega) rfl (pt6.below (bl_drew (bl_alloc (Below.refl _ _)))) (by omega) (fun v5 w5 ho5 hb5 _ => hK _ _ ?_)
                clear hK K
                simp only [Act.put, List.getElem_toArray, List.getElem_cons_succ, List.getElem_cons_zero, List.setIfInBounds_toArray, List.set_cons_succ, List.set_cons_zero]
                refine wpAnyC_one (i := 8) (by kernel_rfl) rfl ⟨⟨_, (by assumption)⟩, rfl⟩ rfl (fun K hK => ?_)
                (go_simp; refine hK _ _ ?_; clear hK K)
                (refine wpAnyC_one (i := 9) (by kernel_rfl) rfl ⟨⟨_, (bl_alloc hb5)⟩, rfl⟩ rfl (fun K hK => ?_); refine app_pts (w0 := wc) (.tmp 119) (.tmp 121) rfl (bl_alloc hb5) _ (0 + (a + 1)) _ rfl (own_below ho5 (bl_alloc (Below.refl _ _))) (w5.heap.size) 0 1 1 [pat l a] rfl rfl (ptsAt_blk (l := [pat l a]) (Blk.new w5 _ _)) (by omega) (fun v7 w7 ho7 hb7 _ => hK _ _ ?_); clear hK K; simp only [Act.put, List.getElem_toArray, List.getElem_cons_succ, List.getElem_cons_zero, List.setIfInBounds_toArray, List.set_cons_succ, List.set_cons_zero]; refine wpAnyC_one (i := 15) (by kernel_rfl) rfl ⟨⟨_, (by assumption)⟩, rfl⟩ rfl (fun K hK => ?_); refine app_pts (w0 := wc) (.tmp 122) (.tmp 127) rfl hb7 _ (0 + (a + 1) + 1) _ rfl ho7 bm (om + (a + 1) * 2) (ca - (a + 1)) (l.length - (a + 1)) (l.drop (a + 1)) (by simp) rfl (pd6.below hb7) (by omega) (fun v8 w8 ho8 hb8 _ => hK _ _ ?_); clear hK K; simp only [Act.put, List.getElem_toArray, List.getElem_cons_succ, List.getElem_cons_zero, List.setIfInBounds_toArray, List.set_cons_succ, List.set_cons_zero]; rw [List.nil_append, show 0 + (a + 1) + 1 + (l.length - (a + 1)) = l.length + 1 by omega] at ho8; obtain ⟨A8, ca8, rfl, hP8⟩ := own_parts_n ho8; refine wpAnyC_take (i := 16) (v := ?v16va) rfl (by kernel_rfl) (by kernel_rfl) (by kernel_rfl) ?q16va rfl ?y16va ?r16va; (case q16va => exact fun _ _ _ h => h); (case y16va => ((rintro _ ⟨z, rfl⟩); (go_simp); (try with_reducible rfl))); simp only [Act.put, List.getElem_toArray, List.getElem_cons_succ, List.getElem_cons_zero, List.setIfInBounds_toArray, List.set_cons_succ, List.set_cons_zero]; refine wpAnyC_done (by kernel_rfl) ⟨⟨w8, hb8⟩, rfl⟩ ?_ _; go_wp2_with fail; go_meet; exact ⟨A8, ca8, rfl, hP8, hb8⟩)
              · (go_simp; refine hK _ _ ?_; clear hK K)
                refine wpAnyC_one (i := 6) (by kernel_rfl) rfl ⟨⟨_, bl_alloc (bl_drew (bl_alloc (Below.refl _ _)))⟩, rfl⟩ rfl (fun K hK => ?_)
                refine app_pts (w0 := wc) (.tmp 113) (.tmp 118) rfl (bl_alloc (bl_drew (bl_alloc (Below.refl _ _)))) _ 0 [] rfl (own_below ho4 (bl_alloc (Below.refl _ _))) bm om ca (a + 1) (l.take (a + 1)) (by simp; omega) rfl (pt6.below (bl_alloc (bl_drew (bl_alloc (Below.refl _ _))))) (by omega) (fun v5 w5 ho5 hb5 hk5 => hK _ _ ?_)
                clear hK K
                simp only [Act.put, List.getElem_toArray, List.getElem_cons_succ, List.getElem_cons_zero, List.setIfInBounds_toArray, List.set_cons_succ, List.set_cons_zero]
                have hg5 := hk5 (wc.heap.size + 1) 31 #[(Value.int .i64 ((pat l a).1)), (Value.int .i64 ((pat l a).2))] (Blk.new_at (by simp)) (by intro h; have h2 : some wc.heap.size = some (wc.heap.size + 1) := h; simp at h2)
                (refine wpAnyC_one (i := 9) (by kernel_rfl) rfl ⟨⟨_, hb5⟩, rfl⟩ rfl (fun K hK => ?_); refine app_pts (w0 := wc) (.tmp 119) (.tmp 121) rfl hb5 _ (0 + (a + 1)) _ rfl (ho5) (wc.heap.size + 1) 0 1 1 [pat l a] rfl rfl (ptsAt_blk (l := [pat l a]) (hg5)) (by omega) (fun v7 w7 ho7 hb7 _ => hK _ _ ?_); clear hK K; simp only [Act.put, List.getElem_toArray, List.getElem_cons_succ, List.getElem_cons_zero, List.setIfInBounds_toArray, List.set_cons_succ, List.set_cons_zero]; refine wpAnyC_one (i := 15) (by kernel_rfl) rfl ⟨⟨_, (by assumption)⟩, rfl⟩ rfl (fun K hK => ?_); refine app_pts (w0 := wc) (.tmp 122) (.tmp 127) rfl hb7 _ (0 + (a + 1) + 1) _ rfl ho7 bm (om + (a + 1) * 2) (ca - (a + 1)) (l.length - (a + 1)) (l.drop (a + 1)) (by simp) rfl (pd6.below hb7) (by omega) (fun v8 w8 ho8 hb8 _ => hK _ _ ?_); clear hK K; simp only [Act.put, List.getElem_toArray, List.getElem_cons_succ, List.getElem_cons_zero, List.setIfInBounds_toArray, List.set_cons_succ, List.set_cons_zero]; rw [List.nil_append, show 0 + (a + 1) + 1 + (l.length - (a + 1)) = l.length + 1 by omega] at ho8; obtain ⟨A8, ca8, rfl, hP8⟩ := own_parts_n ho8; refine wpAnyC_take (i := 16) (v := ?v16vb) rfl (by kernel_rfl) (by kernel_rfl) (by kernel_rfl) ?q16vb rfl ?y16vb ?r16vb; (case q16vb => exact fun _ _ _ h => h); (case y16vb => ((rintro _ ⟨z, rfl⟩); (go_simp); (try with_reducible rfl))); simp only [Act.put, List.getElem_toArray, List.getElem_cons_succ, List.getElem_cons_zero, List.setIfInBounds_toArray, List.set_cons_succ, List.set_cons_zero]; refine wpAnyC_done (by kernel_rfl) ⟨⟨w8, hb8⟩, rfl⟩ ?_ _; go_wp2_with fail; go_meet; exact ⟨A8, ca8, rfl, hP8, hb8⟩)
            · (go_simp; refine hK _ _ ?_; clear hK K)
              refine wpAnyC_one (i := 0) (by kernel_rfl) rfl ⟨⟨_, bl_drew (bl_alloc (Below.refl _ _))⟩, rfl⟩ rfl (fun K hK => ?_)
              (go_simp; refine hK _ _ ?_; clear hK K)
              have ho4 := World.ownsRow_made (base := wc.heap.size) (e := 31) (size := 2) (wc.drew.alloc (.cells #[(Value.int .i64 ((pat l a).1)), (Value.int .i64 ((pat l a).2))] 31)) #[] 0 (by rw [World.size_alloc]; exact Nat.le_succ _) (by decide) rfl
              rw [World.size_alloc] at ho4
              refine wpAnyC_one (i := 6) (by kernel_rfl) rfl ⟨⟨_, bl_alloc (bl_drew (bl_alloc (Below.refl _ _)))⟩, rfl⟩ rfl (fun K hK => ?_)
              refine app_pts (w0 := wc) (.tmp 113) (.tmp 118) rfl (bl_alloc (bl_drew (bl_alloc (Below.refl _ _)))) _ 0 [] rfl ho4 bm om ca (a + 1) (l.take (a + 1)) (by simp; omega) rfl (pt6.below (bl_alloc (bl_drew (bl_alloc (Below.refl _ _))))) (by omega) (fun v5 w5 ho5 hb5 hk5 => hK _ _ ?_)
              clear hK K
              simp only [Act.put, List.getElem_toArray, List.getElem_cons_succ, List.getElem_cons_zero, List.setIfInBounds_toArray, List.set_cons_succ, List.set_cons_zero]
              have hg5 := hk5 wc.heap.size 31 #[(Value.int .i64 ((pat l a).1)), (Value.int .i64 ((pat l a).2))] ((Blk.new wc _ _).alloc _) (by intro h; have h2 : some (wc.heap.size + 1) = some wc.heap.size := h; simp at h2)
              (refine wpAnyC_one (i := 9) (by kernel_rfl) rfl ⟨⟨_, hb5⟩, rfl⟩ rfl (fun K hK => ?_); refine app_pts (w0 := wc) (.tmp 119) (.tmp 121) rfl hb5 _ (0 + (a + 1)) _ rfl (ho5) (wc.heap.size) 0 1 1 [pat l a] rfl rfl (ptsAt_blk (l := [pat l a]) (hg5)) (by omega) (fun v7 w7 ho7 hb7 _ => hK _ _ ?_); clear hK K; simp only [Act.put, List.getElem_toArray, List.getElem_cons_succ, List.getElem_cons_zero, List.setIfInBounds_toArray, List.set_cons_succ, List.set_cons_zero]; refine wpAnyC_one (i := 15) (by kernel_rfl) rfl ⟨⟨_, (by assumption)⟩, rfl⟩ rfl (fun K hK => ?_); refine app_pts (w0 := wc) (.tmp 122) (.tmp 127) rfl hb7 _ (0 + (a + 1) + 1) _ rfl ho7 bm (om + (a + 1) * 2) (ca - (a + 1)) (l.length - (a + 1)) (l.drop (a + 1)) (by simp) rfl (pd6.below hb7) (by omega) (fun v8 w8 ho8 hb8 _ => hK _ _ ?_); clear hK K; simp only [Act.put, List.getElem_toArray, List.getElem_cons_succ, List.getElem_cons_zero, List.setIfInBounds_toArray, List.set_cons_succ, List.set_cons_zero]; rw [List.nil_append, show 0 + (a + 1) + 1 + (l.length - (a + 1)) = l.length + 1 by omega] at ho8; obtain ⟨A8, ca8, rfl, hP8⟩ := own_parts_n ho8; refine wpAnyC_take (i := 16) (v := ?v16vc) rfl (by kernel_rfl) (by kernel_rfl) (by kernel_rfl) ?q16vc rfl ?y16vc ?r16vc; (case q16vc => exact fun _ _ _ h => h); (case y16vc => ((rintro _ ⟨z, rfl⟩); (go_simp); (try with_reducible rfl))); simp only [Act.put, List.getElem_toArray, List.getElem_cons_succ, List.getElem_cons_zero, List.setIfInBounds_toArray, List.set_cons_succ, List.set_cons_zero]; refine wpAnyC_done (by kernel_rfl) ⟨⟨w8, hb8⟩, rfl⟩ ?_ _; go_wp2_with fail; go_meet; exact ⟨A8, ca8, rfl, hP8, hb8⟩)
        case rest =>
          obtain ⟨A13, ca13, rfl, hP13, hbc⟩ := hcut
          have e7 := e6.below hbc
          have p7 := p6.below hbc
          have bp7 := bp.below hbc
          have bq7 := bq.below hbc
          have hbw7 := bl_call hbw6 hbc
          clear l6 ua6 ub6 lp6 lq6 up0 up1 uq0 uq1 pt6 pd6 e6 p6 bp bq hbw6 hbc
          have hA13 := area_n (ca := ca13) (n := l.length + 1) (by simp; omega) hP13 hw3
          rw [twice_list (by omega)] at hA13
          replace hA13 := Lib.hid hA13
          have l7 := e7.lt
          have ua7 := e7.cell 0
          have ub7 := e7.cell 1
          have lp7 := bp7.lt
          have lq7 := bq7.lt
          have up0 := bp7.cell 0
          have up1 := bp7.cell 1
          have uq0 := bq7.cell 0
          have uq1 := bq7.cell 1
          simp only [List.getElem?_toArray, List.getElem?_cons_zero, List.getElem?_cons_succ] at ua7 ub7 up0 up1 uq0 uq1
          have b1 := isPt_bd (hwb.2 a (by omega))
          have b2 := isPt_bd (hwb.2 (a + 1) (by omega))
          have sx := wrap64_in (x := (pat l a).1 + (pat l (a + 1)).1) (by omega) (by omega)
          have sy := wrap64_in (x := (pat l a).2 + (pat l (a + 1)).2) (by omega) (by omega)
          have sx2 : IntKind.i64.wrap ((pat l a).1 + (pat l (a + 1)).1) = (pat l a).1 + (pat l (a + 1)).1 := IntWalk.i64_in _ (by omega)
          have sy2 : IntKind.i64.wrap ((pat l a).2 + (pat l (a + 1)).2) = (pat l a).2 + (pat l (a + 1)).2 := IntWalk.i64_in _ (by omega)
          have hqx := quo_wrap (a := ((pat l a).1 + (pat l (a + 1)).1)) (b := 2) (by omega)
          have hqy := quo_wrap (a := ((pat l a).2 + (pat l (a + 1)).2)) (b := 2) (by omega)
          have hmx := Lib.hid (Int.mul_tdiv_add_tmod ((pat l a).1 + (pat l (a + 1)).1) 2)
          have hmy := Lib.hid (Int.mul_tdiv_add_tmod ((pat l a).2 + (pat l (a + 1)).2) 2)
          have hB := Lib.hid (And.intro b1 b2)
          clear b1 b2
          have hxo : ((pat l a).1 + (pat l (a + 1)).1).tmod 2 = 0 ∨ ((pat l a).1 + (pat l (a + 1)).1).tmod 2 ≠ 0 := by omega
          have hyo : ((pat l a).2 + (pat l (a + 1)).2).tmod 2 = 0 ∨ ((pat l a).2 + (pat l (a + 1)).2).tmod 2 ≠ 0 := by omega
          rcases hxo with hx | hx
          · rcases hyo with hy | hy
            · have hy2 : (((pat l a).2 + (pat l (a + 1)).2).tmod 2 != 0) = false := by rw [hy]; rfl
              have hmx2 : 2 * (((pat l a).1 + (pat l (a + 1)).1).tdiv 2) = ((pat l a).1 + (pat l (a + 1)).1) := by have := hmx.out; omega
              have hmy2 : 2 * (((pat l a).2 + (pat l (a + 1)).2).tdiv 2) = ((pat l a).2 + (pat l (a + 1)).2) := by have := hmy.out; omega
              have hw4 : walkB (l.take (a + 1) ++ [(((pat l a).1 + (pat l (a + 1)).1).tdiv 2, ((pat l a).2 + (pat l (a + 1)).2).tdiv 2)] ++ l.drop (a + 1)) = true := walkB_of hw (by simp; omega) (by simp; omega) fun p hp => by
                simp only [List.mem_append, List.mem_singleton] at hp
                rcases hp with (h | h) | h
                · exact .inl (List.mem_of_mem_take h)
                · subst h
                  have := hB.out
                  refine .inr ?_
                  simp only [isPt, within, Bool.and_eq_true, decide_eq_true_eq]
                  omega
                · exact .inl (List.mem_of_mem_drop h)
              have hfl := Lib.hid (flat_list (l := l) (a := a) (c := (((pat l a).1 + (pat l (a + 1)).1).tdiv 2, ((pat l a).2 + (pat l (a + 1)).2).tdiv 2)) (by omega) hmx2 hmy2)
              clear hmx2 hmy2 hmx hmy hB hy
              go_wp2_with ((go_at_call 15); (with_reducible refine Calls.mono hA13.out ?_); rintro e w14 ⟨rfl, hb14⟩; (have e8 := e7.below hb14); (have p8 := p7.below hb14); (have bp8 := bp7.below hb14); (have bq8 := bq7.below hb14); (have hbw8 := bl_call hbw7 hb14); (have l8 := e8.lt); (have lp8 := bp8.lt); (have lq8 := bq8.lt); (have va8 := e8.cell 0); (have vb8 := e8.cell 1); (have vp0 := bp8.cell 0); (have vp1 := bp8.cell 1); (have vq0 := bq8.cell 0); (have vq1 := bq8.cell 1); simp only [List.getElem?_toArray, List.getElem?_cons_zero, List.getElem?_cons_succ] at va8 vb8 vp0 vp1 vq0 vq1; first | ((with_reducible apply kp_in_step (hb := hb14)); (with_reducible assumption); rintro ⟨hk, hc, hf, hzc, hzf⟩) | ((with_reducible refine kp_in_first hb14 ?_); rintro ⟨hk, hc, hf, hzc, hzf⟩))
              have hbw9 := hbw8
              clear e7 p7 bp7 bq7 hbw7 l7 ua7 ub7 lp7 lq7 up0 up1 uq0 uq1 hb14 hP13 hA13 hw3
              generalize w14 = wc at e8 p8 bp8 bq8 hbw8 hbw9 l8 lp8 lq8 va8 vb8 vp0 vp1 vq0 vq1 ⊢
              have pt6 : PtsAt wc bm om (l.take (a + 1)) := by have h := p8.sub 0 (a + 1); simpa using h
              have pd6 : PtsAt wc bm (om + (a + 1) * 2) (l.drop (a + 1)) := by have h := p8.sub (a + 1) (l.length - (a + 1)); rwa [List.take_of_length_le (by simp)] at h
              go_cut [16] (fun s16 wx => ∃ A' ca', s16 = .slice A' (l.length + 1) ca' ∧ Pts wx A' (l.take (a + 1) ++ [(((pat l a).1 + (pat l (a + 1)).1).tdiv 2, ((pat l a).2 + (pat l (a + 1)).2).tdiv 2)] ++ l.drop (a + 1)) ∧ Below wc.heap.size wc wx)
              case first =>
                as_aux_lemma =>
                  refine wp_region_C (fun w' => ∃ z : After wc, w' = z.val) (by kernel_rfl) ?_
                  change wpAnyC _ _ _ _ _ _ _ (World.drew wc)
                  refine wpAnyC_take (i := 1) (v := ?v1w) rfl (by kernel_rfl) (by kernel_rfl) (by kernel_rfl) ?q1w rfl ?y1w ?r1w; (case q1w => exact fun _ _ _ h => h); (case y1w => ((rintro _ ⟨z, rfl⟩); (go_simp); (try with_reducible rfl))); simp only [Act.put, List.getElem_toArray, List.getElem_cons_succ, List.getElem_cons_zero, List.setIfInBounds_toArray, List.set_cons_succ, List.set_cons_zero]
                  refine wpAnyC_take (i := 2) (v := ?v2w) rfl (by kernel_rfl) (by kernel_rfl) (by kernel_rfl) ?q2w rfl ?y2w ?r2w; (case q2w => exact fun _ _ _ h => h); (case y2w => ((rintro _ ⟨z, rfl⟩); (go_simp); (try with_reducible rfl))); simp only [Act.put, List.getElem_toArray, List.getElem_cons_succ, List.getElem_cons_zero, List.setIfInBounds_toArray, List.set_cons_succ, List.set_cons_zero]
                  refine wpAnyC_take (i := 3) (v := ?v3w) rfl (by kernel_rfl) (by kernel_rfl) (by kernel_rfl) ?q3w rfl ?y3w ?r3w; (case q3w => exact fun _ _ _ h => h); (case y3w => ((rintro _ ⟨z, rfl⟩); (go_simp); (try with_reducible rfl))); simp only [Act.put, List.getElem_toArray, List.getElem_cons_succ, List.getElem_cons_zero, List.setIfInBounds_toArray, List.set_cons_succ, List.set_cons_zero]
                  refine wpAnyC_take (i := 4) (v := ?v4w) rfl (by kernel_rfl) (by kernel_rfl) (by kernel_rfl) ?q4w rfl ?y4w ?r4w; (case q4w => exact fun _ _ _ h => h); (case y4w => ((rintro _ ⟨z, rfl⟩); (go_simp); (try with_reducible rfl))); simp only [Act.put, List.getElem_toArray, List.getElem_cons_succ, List.getElem_cons_zero, List.setIfInBounds_toArray, List.set_cons_succ, List.set_cons_zero]
                  refine wpAnyC_take (i := 5) (v := ?v5w) rfl (by kernel_rfl) (by kernel_rfl) (by kernel_rfl) ?q5w rfl ?y5w ?r5w; (case q5w => exact fun _ _ _ h => h); (case y5w => ((rintro _ ⟨z, rfl⟩); (go_simp); (try with_reducible rfl))); simp only [Act.put, List.getElem_toArray, List.getElem_cons_succ, List.getElem_cons_zero, List.setIfInBounds_toArray, List.set_cons_succ, List.set_cons_zero]
                  refine wpAnyC_take (i := 7) (v := ?v7w) rfl (by kernel_rfl) (by kernel_rfl) (by kernel_rfl) ?q7w rfl ?y7w ?r7w; (case q7w => exact fun _ _ _ h => h); (case y7w => ((rintro _ ⟨z, rfl⟩); (go_simp); (try with_reducible rfl))); simp only [Act.put, List.getElem_toArray, List.getElem_cons_succ, List.getElem_cons_zero, List.setIfInBounds_toArray, List.set_cons_succ, List.set_cons_zero]
                  refine wpAnyC_take (i := 8) (v := ?v8w) rfl (by kernel_rfl) (by kernel_rfl) (by kernel_rfl) ?q8w rfl ?y8w ?r8w; (case q8w => exact fun _ _ _ h => h); (case y8w => ((rintro _ ⟨z, rfl⟩); (go_simp); (try with_reducible rfl))); simp only [Act.put, List.getElem_toArray, List.getElem_cons_succ, List.getElem_cons_zero, List.setIfInBounds_toArray, List.set_cons_succ, List.set_cons_zero]
                  refine wpAnyC_take (i := 9) (v := ?v9w) rfl (by kernel_rfl) (by kernel_rfl) (by kernel_rfl) ?q9w rfl ?y9w ?r9w; (case q9w => exact fun _ _ _ h => h); (case y9w => ((rintro _ ⟨z, rfl⟩); (go_simp); (try with_reducible rfl))); simp only [Act.put, List.getElem_toArray, List.getElem_cons_succ, List.getElem_cons_zero, List.setIfInBounds_toArray, List.set_cons_succ, List.set_cons_zero]
                  refine wpAnyC_take (i := 10) (v := ?v10w) rfl (by kernel_rfl) (by kernel_rfl) (by kernel_rfl) ?q10w rfl ?y10w ?r10w; (case q10w => exact fun _ _ _ h => h); (case y10w => ((rintro _ ⟨z, rfl⟩); (go_simp); (try with_reducible rfl))); simp only [Act.put, List.getElem_toArray, List.getElem_cons_succ, List.getElem_cons_zero, List.setIfInBounds_toArray, List.set_cons_succ, List.set_cons_zero]
                  refine wpAnyC_take (i := 11) (v := ?v11w) rfl (by kernel_rfl) (by kernel_rfl) (by kernel_rfl) ?q11w rfl ?y11w ?r11w; (case q11w => exact fun _ _ _ h => h); (case y11w => ((rintro _ ⟨z, rfl⟩); (go_simp); (try with_reducible rfl))); simp only [Act.put, List.getElem_toArray, List.getElem_cons_succ, List.getElem_cons_zero, List.setIfInBounds_toArray, List.set_cons_succ, List.set_cons_zero]
                  refine wpAnyC_take (i := 12) (v := ?v12w) rfl (by kernel_rfl) (by kernel_rfl) (by kernel_rfl) ?q12w rfl ?y12w ?r12w; (case q12w => exact fun _ _ _ h => h); (case y12w => ((rintro _ ⟨z, rfl⟩); (go_simp); (try with_reducible rfl))); simp only [Act.put, List.getElem_toArray, List.getElem_cons_succ, List.getElem_cons_zero, List.setIfInBounds_toArray, List.set_cons_succ, List.set_cons_zero]
                  refine wpAnyC_take (i := 13) (v := ?v13w) rfl (by kernel_rfl) (by kernel_rfl) (by kernel_rfl) ?q13w rfl ?y13w ?r13w; (case q13w => exact fun _ _ _ h => h); (case y13w => ((rintro _ ⟨z, rfl⟩); (go_simp); (try with_reducible rfl))); simp only [Act.put, List.getElem_toArray, List.getElem_cons_succ, List.getElem_cons_zero, List.setIfInBounds_toArray, List.set_cons_succ, List.set_cons_zero]
                  refine wpAnyC_take (i := 14) (v := ?v14w) rfl (by kernel_rfl) (by kernel_rfl) (by kernel_rfl) ?q14w rfl ?y14w ?r14w; (case q14w => exact fun _ _ _ h => h); (case y14w => ((rintro _ ⟨z, rfl⟩); (go_simp); (try with_reducible rfl))); simp only [Act.put, List.getElem_toArray, List.getElem_cons_succ, List.getElem_cons_zero, List.setIfInBounds_toArray, List.set_cons_succ, List.set_cons_zero]
                  refine wpAnyC_take (i := 15) (v := ?v15w) rfl (by kernel_rfl) (by kernel_rfl) (by kernel_rfl) ?q15w rfl ?y15w ?r15w; (case q15w => exact fun _ _ _ h => h); (case y15w => ((rintro _ ⟨z, rfl⟩); (go_simp); (try with_reducible rfl))); simp only [Act.put, List.getElem_toArray, List.getElem_cons_succ, List.getElem_cons_zero, List.setIfInBounds_toArray, List.set_cons_succ, List.set_cons_zero]
                  refine wpAnyC_take (i := 16) (v := ?v16w) rfl (by kernel_rfl) (by kernel_rfl) (by kernel_rfl) ?q16w rfl ?y16w ?r16w; (case q16w => exact fun _ _ _ h => h); (case y16w => ((rintro _ ⟨z, rfl⟩); (go_simp); (try with_reducible rfl))); simp only [Act.put, List.getElem_toArray, List.getElem_cons_succ, List.getElem_cons_zero, List.setIfInBounds_toArray, List.set_cons_succ, List.set_cons_zero]
                  refine wpAnyC_take (i := 17) (v := ?v17w) rfl (by kernel_rfl) (by kernel_rfl) (by kernel_rfl) ?q17w rfl ?y17w ?r17w; (case q17w => exact fun _ _ _ h => h); (case y17w => ((rintro _ ⟨z, rfl⟩); (go_simp); (try with_reducible rfl))); simp only [Act.put, List.getElem_toArray, List.getElem_cons_succ, List.getElem_cons_zero, List.setIfInBounds_toArray, List.set_cons_succ, List.set_cons_zero]
                  refine wpAnyC_take (i := 18) (v := ?v18w) rfl (by kernel_rfl) (by kernel_rfl) (by kernel_rfl) ?q18w rfl ?y18w ?r18w; (case q18w => exact fun _ _ _ h => h); (case y18w => ((rintro _ ⟨z, rfl⟩); (go_simp); (try with_reducible rfl))); simp only [Act.put, List.getElem_toArray, List.getElem_cons_succ, List.getElem_cons_zero, List.setIfInBounds_toArray, List.set_cons_succ, List.set_cons_zero]
                  refine wpAnyC_take (i := 19) (v := ?v19w) rfl (by kernel_rfl) (by kernel_rfl) (by kernel_rfl) ?q19w rfl ?y19w ?r19w; (case q19w => exact fun _ _ _ h => h); (case y19w => ((rintro _ ⟨z, rfl⟩); (go_simp); (try with_reducible rfl))); simp only [Act.put, List.getElem_toArray, List.getElem_cons_succ, List.getElem_cons_zero, List.setIfInBounds_toArray, List.set_cons_succ, List.set_cons_zero]
                  refine wpAnyC_take (i := 22) (v := ?v22w) rfl (by kernel_rfl) (by kernel_rfl) (by kernel_rfl) ?q22w rfl ?y22w ?r22w; (case q22w => exact fun _ _ _ h => h); (case y22w => ((rintro _ ⟨z, rfl⟩); (go_simp); (try with_reducible rfl))); simp only [Act.put, List.getElem_toArray, List.getElem_cons_succ, List.getElem_cons_zero, List.setIfInBounds_toArray, List.set_cons_succ, List.set_cons_zero]
                  refine wpAnyC_take (i := 23) (v := ?v23w) rfl (by kernel_rfl) (by kernel_rfl) (by kernel_rfl) ?q23w rfl ?y23w ?r23w; (case q23w => exact fun _ _ _ h => h); (case y23w => ((rintro _ ⟨z, rfl⟩); (go_simp); (try with_reducible rfl))); simp only [Act.put, List.getElem_toArray, List.getElem_cons_succ, List.getElem_cons_zero, List.setIfInBounds_toArray, List.set_cons_succ, List.set_cons_zero]
                  refine wpAnyC_take (i := 24) (v := ?v24w) rfl (by kernel_rfl) (by kernel_rfl) (by kernel_rfl) ?q24w rfl ?y24w ?r24w; (case q24w => exact fun _ _ _ h => h); (case y24w => ((rintro _ ⟨z, rfl⟩); (go_simp); (try with_reducible rfl))); simp only [Act.put, List.getElem_toArray, List.getElem_cons_succ, List.getElem_cons_zero, List.setIfInBounds_toArray, List.set_cons_succ, List.set_cons_zero]
                  refine wpAnyC_take (i := 25) (v := ?v25w) rfl (by kernel_rfl) (by kernel_rfl) (by kernel_rfl) ?q25w rfl ?y25w ?r25w; (case q25w => exact fun _ _ _ h => h); (case y25w => ((rintro _ ⟨z, rfl⟩); (go_simp); (try with_reducible rfl))); simp only [Act.put, List.getElem_toArray, List.getElem_cons_succ, List.getElem_cons_zero, List.setIfInBounds_toArray, List.set_cons_succ, List.set_cons_zero]
                  refine wpAnyC_take (i := 26) (v := ?v26w) rfl (by kernel_rfl) (by kernel_rfl) (by kernel_rfl) ?q26w rfl ?y26w ?r26w; (case q26w => exact fun _ _ _ h => h); (case y26w => ((rintro _ ⟨z, rfl⟩); (go_simp); (try with_reducible rfl))); simp only [Act.put, List.getElem_toArray, List.getElem_cons_succ, List.getElem_cons_zero, List.setIfInBounds_toArray, List.set_cons_succ, List.set_cons_zero]
                  refine wpAnyC_two (i := 0) (j := 20) (by kernel_rfl) rfl rfl ⟨⟨_, bl_drew (Below.refl _ _)⟩, rfl⟩ rfl rfl (fun K hK => ?_) (fun K hK => ?_)
                  · (go_simp; refine hK _ _ ?_; clear hK K)
                    have ho4 := World.ownsRow_made (base := wc.heap.size) (e := 31) (size := 2) wc.drew #[] 0 (Nat.le_refl _) (by decide) rfl
                    refine wpAnyC_two (i := 6) (j := 20) (by kernel_rfl) rfl rfl ⟨⟨_, bl_drew (bl_alloc (Below.refl _ _))⟩, rfl⟩ rfl rfl (fun K hK => ?_) (fun K hK => ?_)
                    · refine app_pts (w0 := wc) (.tmp 158) (.tmp 163) rfl (bl_drew (bl_alloc (Below.refl _ _))) _ 0 [] rfl ho4 bm om ca (a + 1) (l.take (a + 1)) (by simp; omega) rfl (pt6.below (bl_drew (bl_alloc (Below.refl _ _)))) (by omega) (fun v5 w5 ho5 hb5 _ => hK _ _ ?_)
                      clear hK K
                      simp only [Act.put, List.getElem_toArray, List.getElem_cons_succ, List.getElem_cons_zero, List.setIfInBounds_toArray, List.set_cons_succ, List.set_cons_zero]
                      refine wpAnyC_one (i := 20) (by kernel_rfl) rfl ⟨⟨_, (by assumption)⟩, rfl⟩ rfl (fun K hK => ?_)
                      (go_simp; refine hK _ _ ?_; clear hK K)
                      (refine wpAnyC_one (i := 21) (by kernel_rfl) rfl ⟨⟨_, (bl_alloc hb5)⟩, rfl⟩ rfl (fun K hK => ?_); refine app_pts (w0 := wc) (.tmp 164) (.tmp 178) rfl (bl_alloc hb5) _ (0 + (a + 1)) _ rfl (own_below ho5 (bl_alloc (Below.refl _ _))) (w5.heap.size) 0 1 1 [(((pat l a).1 + (pat l (a + 1)).1).tdiv 2, ((pat l a).2 + (pat l (a + 1)).2).tdiv 2)] rfl rfl (ptsAt_blk (l := [(((pat l a).1 + (pat l (a + 1)).1).tdiv 2, ((pat l a).2 + (pat l (a + 1)).2).tdiv 2)]) (Blk.new w5 _ _)) (by omega) (fun v7 w7 ho7 hb7 _ => hK _ _ ?_); clear hK K; simp only [Act.put, List.getElem_toArray, List.getElem_cons_succ, List.getElem_cons_zero, List.setIfInBounds_toArray, List.set_cons_succ, List.set_cons_zero]; refine wpAnyC_one (i := 27) (by kernel_rfl) rfl ⟨⟨_, (by assumption)⟩, rfl⟩ rfl (fun K hK => ?_); refine app_pts (w0 := wc) (.tmp 179) (.tmp 184) rfl hb7 _ (0 + (a + 1) + 1) _ rfl ho7 bm (om + (a + 1) * 2) (ca - (a + 1)) (l.length - (a + 1)) (l.drop (a + 1)) (by simp) rfl (pd6.below hb7) (by omega) (fun v8 w8 ho8 hb8 _ => hK _ _ ?_); clear hK K; simp only [Act.put, List.getElem_toArray, List.getElem_cons_succ, List.getElem_cons_zero, List.setIfInBounds_toArray, List.set_cons_succ, List.set_cons_zero]; rw [List.nil_append, show 0 + (a + 1) + 1 + (l.length - (a + 1)) = l.length + 1 by omega] at ho8; obtain ⟨A8, ca8, rfl, hP8⟩ := own_parts_n ho8; refine wpAnyC_take (i := 28) (v := ?v28wa) rfl (by kernel_rfl) (by kernel_rfl) (by kernel_rfl) ?q28wa rfl ?y28wa ?r28wa; (case q28wa => exact fun _ _ _ h => h); (case y28wa => ((rintro _ ⟨z, rfl⟩); (go_simp); (try with_reducible rfl))); simp only [Act.put, List.getElem_toArray, List.getElem_cons_succ, List.getElem_cons_zero, List.setIfInBounds_toArray, List.set_cons_succ, List.set_cons_zero]; refine wpAnyC_done (by kernel_rfl) ⟨⟨w8, hb8⟩, rfl⟩ ?_ _; go_wp2_with fail; go_meet; exact ⟨A8, ca8, rfl, hP8, hb8⟩)
                    · (go_simp; refine hK _ _ ?_; clear hK K)
                      refine wpAnyC_one (i := 6) (by kernel_rfl) rfl ⟨⟨_, bl_alloc (bl_drew (bl_alloc (Below.refl _ _)))⟩, rfl⟩ rfl (fun K hK => ?_)
                      refine app_pts (w0 := wc) (.tmp 158) (.tmp 163) rfl (bl_alloc (bl_drew (bl_alloc (Below.refl _ _)))) _ 0 [] rfl (own_below ho4 (bl_alloc (Below.refl _ _))) bm om ca (a + 1) (l.take (a + 1)) (by simp; omega) rfl (pt6.below (bl_alloc (bl_drew (bl_alloc (Below.refl _ _))))) (by omega) (fun v5 w5 ho5 hb5 hk5 => hK _ _ ?_)
                      clear hK K
                      simp only [Act.put, List.getElem_toArray, List.getElem_cons_succ, List.getElem_cons_zero, List.setIfInBounds_toArray, List.set_cons_succ, List.set_cons_zero]
                      have hg5 := hk5 (wc.heap.size + 1) 31 #[(Value.int .i64 (((pat l a).1 + (pat l (a + 1)).1).tdiv 2)), (Value.int .i64 (((pat l a).2 + (pat l (a + 1)).2).tdiv 2))] (Blk.new_at (by simp)) (by intro h; have h2 : some wc.heap.size = some (wc.heap.size + 1) := h; simp at h2)
                      (refine wpAnyC_one (i := 21) (by kernel_rfl) rfl ⟨⟨_, hb5⟩, rfl⟩ rfl (fun K hK => ?_); refine app_pts (w0 := wc) (.tmp 164) (.tmp 178) rfl hb5 _ (0 + (a + 1)) _ rfl (ho5) (wc.heap.size + 1) 0 1 1 [(((pat l a).1 + (pat l (a + 1)).1).tdiv 2, ((pat l a).2 + (pat l (a + 1)).2).tdiv 2)] rfl rfl (ptsAt_blk (l := [(((pat l a).1 + (pat l (a + 1)).1).tdiv 2, ((pat l a).2 + (pat l (a + 1)).2).tdiv 2)]) (hg5)) (by omega) (fun v7 w7 ho7 hb7 _ => hK _ _ ?_); clear hK K; simp only [Act.put, List.getElem_toArray, List.getElem_cons_succ, List.getElem_cons_zero, List.setIfInBounds_toArray, List.set_cons_succ, List.set_cons_zero]; refine wpAnyC_one (i := 27) (by kernel_rfl) rfl ⟨⟨_, (by assumption)⟩, rfl⟩ rfl (fun K hK => ?_); refine app_pts (w0 := wc) (.tmp 179) (.tmp 184) rfl hb7 _ (0 + (a + 1) + 1) _ rfl ho7 bm (om + (a + 1) * 2) (ca - (a + 1)) (l.length - (a + 1)) (l.drop (a + 1)) (by simp) rfl (pd6.below hb7) (by omega) (fun v8 w8 ho8 hb8 _ => hK _ _ ?_); clear hK K; simp only [Act.put, List.getElem_toArray, List.getElem_cons_succ, List.getElem_cons_zero, List.setIfInBounds_toArray, List.set_cons_succ, List.set_cons_zero]; rw [List.nil_append, show 0 + (a + 1) + 1 + (l.length - (a + 1)) = l.length + 1 by omega] at ho8; obtain ⟨A8, ca8, rfl, hP8⟩ := own_parts_n ho8; refine wpAnyC_take (i := 28) (v := ?v28wb) rfl (by kernel_rfl) (by kernel_rfl) (by kernel_rfl) ?q28wb rfl ?y28wb ?r28wb; (case q28wb => exact fun _ _ _ h => h); (case y28wb => ((rintro _ ⟨z, rfl⟩); (go_simp); (try with_reducible rfl))); simp only [Act.put, List.getElem_toArray, List.getElem_cons_succ, List.getElem_cons_zero, List.setIfInBounds_toArray, List.set_cons_succ, List.set_cons_zero]; refine wpAnyC_done (by kernel_rfl) ⟨⟨w8, hb8⟩, rfl⟩ ?_ _; go_wp2_with fail; go_meet; exact ⟨A8, ca8, rfl, hP8, hb8⟩)
                  · (go_simp; refine hK _ _ ?_; clear hK K)
                    refine wpAnyC_one (i := 0) (by kernel_rfl) rfl ⟨⟨_, bl_drew (bl_alloc (Below.refl _ _))⟩, rfl⟩ rfl (fun K hK => ?_)
                    (go_simp; refine hK _ _ ?_; clear hK K)
                    have ho4 := World.ownsRow_made (base := wc.heap.size) (e := 31) (size := 2) (wc.drew.alloc (.cells #[(Value.int .i64 (((pat l a).1 + (pat l (a + 1)).1).tdiv 2)), (Value.int .i64 (((pat l a).2 + (pat l (a + 1)).2).tdiv 2))] 31)) #[] 0 (by rw [World.size_alloc]; exact Nat.le_succ _) (by decide) rfl
                    rw [World.size_alloc] at ho4
                    refine wpAnyC_one (i := 6) (by kernel_rfl) rfl ⟨⟨_, bl_alloc (bl_drew (bl_alloc (Below.refl _ _)))⟩, rfl⟩ rfl (fun K hK => ?_)
                    refine app_pts (w0 := wc) (.tmp 158) (.tmp 163) rfl (bl_alloc (bl_drew (bl_alloc (Below.refl _ _)))) _ 0 [] rfl ho4 bm om ca (a + 1) (l.take (a + 1)) (by simp; omega) rfl (pt6.below (bl_alloc (bl_drew (bl_alloc (Below.refl _ _))))) (by omega) (fun v5 w5 ho5 hb5 hk5 => hK _ _ ?_)
                    clear hK K
                    simp only [Act.put, List.getElem_toArray, List.getElem_cons_succ, List.getElem_cons_zero, List.setIfInBounds_toArray, List.set_cons_succ, List.set_cons_zero]
                    have hg5 := hk5 wc.heap.size 31 #[(Value.int .i64 (((pat l a).1 + (pat l (a + 1)).1).tdiv 2)), (Value.int .i64 (((pat l a).2 + (pat l (a + 1)).2).tdiv 2))] ((Blk.new wc _ _).alloc _) (by intro h; have h2 : some (wc.heap.size + 1) = some wc.heap.size := h; simp at h2)
                    (refine wpAnyC_one (i := 21) (by kernel_rfl) rfl ⟨⟨_, hb5⟩, rfl⟩ rfl (fun K hK => ?_); refine app_pts (w0 := wc) (.tmp 164) (.tmp 178) rfl hb5 _ (0 + (a + 1)) _ rfl (ho5) (wc.heap.size) 0 1 1 [(((pat l a).1 + (pat l (a + 1)).1).tdiv 2, ((pat l a).2 + (pat l (a + 1)).2).tdiv 2)] rfl rfl (ptsAt_blk (l := [(((pat l a).1 + (pat l (a + 1)).1).tdiv 2, ((pat l a).2 + (pat l (a + 1)).2).tdiv 2)]) (hg5)) (by omega) (fun v7 w7 ho7 hb7 _ => hK _ _ ?_); clear hK K; simp only [Act.put, List.getElem_toArray, List.getElem_cons_succ, List.getElem_cons_zero, List.setIfInBounds_toArray, List.set_cons_succ, List.set_cons_zero]; refine wpAnyC_one (i := 27) (by kernel_rfl) rfl ⟨⟨_, (by assumption)⟩, rfl⟩ rfl (fun K hK => ?_); refine app_pts (w0 := wc) (.tmp 179) (.tmp 184) rfl hb7 _ (0 + (a + 1) + 1) _ rfl ho7 bm (om + (a + 1) * 2) (ca - (a + 1)) (l.length - (a + 1)) (l.drop (a + 1)) (by simp) rfl (pd6.below hb7) (by omega) (fun v8 w8 ho8 hb8 _ => hK _ _ ?_); clear hK K; simp only [Act.put, List.getElem_toArray, List.getElem_cons_succ, List.getElem_cons_zero, List.setIfInBounds_toArray, List.set_cons_succ, List.set_cons_zero]; rw [List.nil_append, show 0 + (a + 1) + 1 + (l.length - (a + 1)) = l.length + 1 by omega] at ho8; obtain ⟨A8, ca8, rfl, hP8⟩ := own_parts_n ho8; refine wpAnyC_take (i := 28) (v := ?v28wc) rfl (by kernel_rfl) (by kernel_rfl) (by kernel_rfl) ?q28wc rfl ?y28wc ?r28wc; (case q28wc => exact fun _ _ _ h => h); (case y28wc => ((rintro _ ⟨z, rfl⟩); (go_simp); (try with_reducible rfl))); simp only [Act.put, List.getElem_toArray, List.getElem_cons_succ, List.getElem_cons_zero, List.setIfInBounds_toArray, List.set_cons_succ, List.set_cons_zero]; refine wpAnyC_done (by kernel_rfl) ⟨⟨w8, hb8⟩, rfl⟩ ?_ _; go_wp2_with fail; go_meet; exact ⟨A8, ca8, rfl, hP8, hb8⟩)

              case rest =>
                obtain ⟨A16, ca16, rfl, hP16, hbc⟩ := hcut
                have hA16 := area_n (ca := ca16) (n := l.length + 1) (by simp; omega) hP16 hw4
                rw [hfl.out] at hA16
                replace hA16 := Lib.hid hA16
                have hbwa := bl_call hbw9 hbc
                clear hP16 hfl
                go_wp2_with (first | ((go_at_call 15); (with_reducible refine Calls.mono hA16.out ?_); rintro e w18 ⟨rfl, hb18⟩; first | ((with_reducible apply kp_in_step (hb := hb18)); (with_reducible assumption); rintro ⟨hk, hc, hf, hzc, hzf⟩) | ((with_reducible refine kp_in_first hb18 ?_); rintro ⟨hk, hc, hf, hzc, hzf⟩)) | ((go_at_call 14); (with_reducible refine Calls.mono (works_any _) ?_); rintro e w19 ⟨rfl, hb19⟩; first | ((with_reducible apply kp_in_step (hb := hb19)); (with_reducible assumption); rintro ⟨hk, hc, hf, hzc, hzf⟩) | ((with_reducible refine kp_in_first hb19 ?_); rintro ⟨hk, hc, hf, hzc, hzf⟩)))
                refine bodyPost_ret (v := .bool true) (by simp [results, Try.results3, go_sem]) rfl ⟨rfl, ?_⟩
                (repeat (first | with_reducible exact Below.refl _ _ | with_reducible apply bl_alloc | with_reducible apply bl_drew | with_reducible apply bl_after | (with_reducible refine bl_call ?_ (by assumption))))
            · have hy2 : (((pat l a).2 + (pat l (a + 1)).2).tmod 2 != 0) = true := by rw [bne_iff_ne]; exact hy
              clear hy hmx hmy hB
              go_wp2_with (first | ((go_at_call 15); (with_reducible refine Calls.mono hA13.out ?_); rintro e w14 ⟨rfl, hb14⟩; (have e8 := e7.below hb14); (have p8 := p7.below hb14); (have bp8 := bp7.below hb14); (have bq8 := bq7.below hb14); (have hbw8 := bl_call hbw7 hb14); (have l8 := e8.lt); (have lp8 := bp8.lt); (have lq8 := bq8.lt); (have va8 := e8.cell 0); (have vb8 := e8.cell 1); (have vp0 := bp8.cell 0); (have vp1 := bp8.cell 1); (have vq0 := bq8.cell 0); (have vq1 := bq8.cell 1); simp only [List.getElem?_toArray, List.getElem?_cons_zero, List.getElem?_cons_succ] at va8 vb8 vp0 vp1 vq0 vq1; first | ((with_reducible apply kp_in_step (hb := hb14)); (with_reducible assumption); rintro ⟨hk, hc, hf, hzc, hzf⟩) | ((with_reducible refine kp_in_first hb14 ?_); rintro ⟨hk, hc, hf, hzc, hzf⟩)) | ((go_at_call 14); (with_reducible refine Calls.mono (works_any _) ?_); rintro e w15 ⟨rfl, hb15⟩; first | ((with_reducible apply kp_in_step (hb := hb15)); (with_reducible assumption); rintro ⟨hk, hc, hf, hzc, hzf⟩) | ((with_reducible refine kp_in_first hb15 ?_); rintro ⟨hk, hc, hf, hzc, hzf⟩)))
              refine bodyPost_ret (v := .bool true) (by simp [results, Try.results3, go_sem]) rfl ⟨rfl, ?_⟩
              (repeat (first | with_reducible exact Below.refl _ _ | with_reducible apply bl_alloc | with_reducible apply bl_drew | with_reducible apply bl_after | (with_reducible refine bl_call ?_ (by assumption))))
          · clear hyo hmx hmy hB
            go_wp2_with (first | ((go_at_call 15); (with_reducible refine Calls.mono hA13.out ?_); rintro e w14 ⟨rfl, hb14⟩; (have e8 := e7.below hb14); (have p8 := p7.below hb14); (have bp8 := bp7.below hb14); (have bq8 := bq7.below hb14); (have hbw8 := bl_call hbw7 hb14); (have l8 := e8.lt); (have lp8 := bp8.lt); (have lq8 := bq8.lt); (have va8 := e8.cell 0); (have vb8 := e8.cell 1); (have vp0 := bp8.cell 0); (have vp1 := bp8.cell 1); (have vq0 := bq8.cell 0); (have vq1 := bq8.cell 1); simp only [List.getElem?_toArray, List.getElem?_cons_zero, List.getElem?_cons_succ] at va8 vb8 vp0 vp1 vq0 vq1; first | ((with_reducible apply kp_in_step (hb := hb14)); (with_reducible assumption); rintro ⟨hk, hc, hf, hzc, hzf⟩) | ((with_reducible refine kp_in_first hb14 ?_); rintro ⟨hk, hc, hf, hzc, hzf⟩)) | ((go_at_call 14); (with_reducible refine Calls.mono (works_any _) ?_); rintro e w15 ⟨rfl, hb15⟩; first | ((with_reducible apply kp_in_step (hb := hb15)); (with_reducible assumption); rintro ⟨hk, hc, hf, hzc, hzf⟩) | ((with_reducible refine kp_in_first hb15 ?_); rintro ⟨hk, hc, hf, hzc, hzf⟩)))
            refine bodyPost_ret (v := .bool true) (by simp [results, Try.results3, go_sem]) rfl ⟨rfl, ?_⟩
            (repeat (first | with_reducible exact Below.refl _ _ | with_reducible apply bl_alloc | with_reducible apply bl_drew | with_reducible apply bl_after | (with_reducible refine bl_call ?_ (by assumption))))
end Go.Proofs.Ytfgplmgkejeoiaa
