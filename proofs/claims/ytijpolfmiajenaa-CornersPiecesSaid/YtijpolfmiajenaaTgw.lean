/- The function corners.Triangles answers triangles of a valid polygon that are together the polygon. -/
import Derived.Test.YtijpolfmiajenaaTgm
namespace Go.Proofs.Ytijpolfmiajenaa
open Go.RowKit Go.Sort Go.Shelf
attribute [local go_sem] After.cell After.frozen

theorem nan_any (x : Int) (w : World) : Calls Try.prog 90 #[(Value.int .i64 (x))] w fun e w' => e = .returned (.bool false) ∧ w' = w := by
  go_enter Try.func90, Try.ntmps90
  go_wp2
  go_ret
  exact ⟨rfl, rfl⟩
theorem compare_any (x : Int) (w : World) : Calls Try.prog 76 #[(Value.int .i64 (x)), (Value.int .i64 (0))] w fun e w' => e = .returned (Value.int .i64 ((if x < 0 then -1 else if 0 < x then 1 else 0))) ∧ w' = w := by
  rcases Int.lt_trichotomy x 0 with h | h | h
  · rw [if_pos h]
    go_enter Try.func76, Try.ntmps76
    go_wp2_with (go_at_call 90; with_reducible refine Calls.mono (nan_any _ _) ?_; rintro e w' ⟨rfl, rfl⟩)
    go_ret
    exact ⟨rfl, rfl⟩
  · subst h
    rw [if_neg (by omega), if_neg (by omega)]
    go_enter Try.func76, Try.ntmps76
    go_wp2_with (go_at_call 90; with_reducible refine Calls.mono (nan_any _ _) ?_; rintro e w' ⟨rfl, rfl⟩)
    go_ret
    exact ⟨rfl, rfl⟩
  · rw [if_neg (by omega), if_pos h]
    have h' : ¬ x < 0 := by omega
    go_enter Try.func76, Try.ntmps76
    go_wp2_with (go_at_call 90; with_reducible refine Calls.mono (nan_any _ _) ?_; rintro e w' ⟨rfl, rfl⟩)
    go_ret
    exact ⟨rfl, rfl⟩
theorem ok_res {l : List Pt} (h : Ok l) : ∃ s : Int, (s = 1 ∨ s = -1) ∧ Res l s ∧ 0 < s * tw l ∧ (if tw l < 0 then (-1 : Int) else if 0 < tw l then 1 else 0) = s := by
  obtain ⟨s, hs, ht, hp⟩ := ok_area h
  refine ⟨s, hs, res_of (ok_simp h) hs ?_, hp, ?_⟩
  · have : tot crF (ring l) = tw l := by rw [tw_tot]; rfl
    rw [this]
    exact hp
  · rcases hs with rfl | rfl
    · rw [if_neg (by omega), if_pos (by omega)]
    · rw [if_pos (by omega)]
/-- Triangles that are together the polygon. -/
structure TrisOk (l : List Pt) (s : Int) (T : List (Int × Int × Int)) : Prop where
  len : T.length + 2 = l.length
  tri : ∀ t ∈ T, TriOk l s t
  sum : ∀ F : Pt → Pt → Int, (∀ a b, F b a = - F a b) → tot F (ring l) = triS F l T

set_option maxRecDepth 100000 in
set_option maxHeartbeats 4000000 in
theorem Triangles_ok (b o ca : Nat) (l : List Pt) (s : Int) (w : World) (hp : PtsAt w b o l) (hok : Ok l) (hs : s = 1 ∨ s = -1) (hR : Res l s) (hsg : (if tw l < 0 then (-1 : Int) else if 0 < tw l then 1 else 0) = s) :
    Calls Try.prog 44 #[.slice (some ⟨b, o, none⟩) l.length ca] w fun e w' => ∃ v T, e = .returned (.tuple #[v, (Value.int .i64 (0))]) ∧ w'.ownsRow w.heap.size 60 3 v T.length (trsV T) ∧ TrisOk l s T ∧ Below w.heap.size w w' := by
  have hl10 := hok.1
  have hS := ok_simp hok
  have hpt := Lib.hid hok.2.1
  have hchk := Lib.hid fun (V : World) (h : Below w.heap.size w V) => Check_any (some ⟨b, o, none⟩) ca l V (.inr ⟨b, o, rfl, hp.below h⟩) (by omega)
  rw [chk_ok hok] at hchk
  have htw := Lib.hid fun (V : World) (h : Below w.heap.size w V) => tw_any b o ca l V (by omega) hl10.2 (hp.below h) hpt.out
  have hcmp := Lib.hid fun (V : World) => compare_any (tw l) V
  rw [hsg] at hcmp
  have hI0 := Lib.hid (inv_first hS hR)
  clear hok hS hR hsg
  obtain ⟨i0, hi0, hz0, hz1, hz2⟩ := info_parts infoInt
  obtain ⟨j0, hj0, hy0, hy1, hy2⟩ := info_parts infoTrs
  go_enter Try.func44, Try.ntmps44
  go_wp2_with (first | (go_at_call 22; with_reducible refine Calls.mono (hchk.out _ (by (repeat (first | with_reducible exact Below.refl _ _ | with_reducible apply bl_alloc | with_reducible apply bl_drew | with_reducible apply bl_after | (with_reducible refine bl_call ?_ (by assumption)))))) ?_; rintro e w1 ⟨rfl, hb1⟩; first | ((with_reducible apply kp_in_step (hb := hb1)); (with_reducible assumption); rintro ⟨hk, hc, hf, hzc, hzf⟩) | ((with_reducible refine kp_in_first hb1 ?_); rintro ⟨hk, hc, hf, hzc, hzf⟩)) | (go_at_call 46; with_reducible refine Calls.mono (htw.out _ (by (repeat (first | with_reducible exact Below.refl _ _ | with_reducible apply bl_alloc | with_reducible apply bl_drew | with_reducible apply bl_after | (with_reducible refine bl_call ?_ (by assumption)))))) ?_; rintro e w1 ⟨rfl, hb1⟩; first | ((with_reducible apply kp_in_step (hb := hb1)); (with_reducible assumption); rintro ⟨hk, hc, hf, hzc, hzf⟩) | ((with_reducible refine kp_in_first hb1 ?_); rintro ⟨hk, hc, hf, hzc, hzf⟩)) | (go_at_call 76; with_reducible refine Calls.mono (hcmp.out _) ?_; rintro e w' ⟨rfl, rfl⟩))
  have hb0 : Below w.heap.size w w' := by (repeat (first | with_reducible exact Below.refl _ _ | with_reducible apply bl_alloc | with_reducible apply bl_drew | with_reducible apply bl_after | (with_reducible refine bl_call ?_ (by assumption))))
  clear hk hc hf hzc hzf hb1
  clear hk hc hf hzc hzf hb1
  clear hchk htw hcmp
  go_loopg [6, 22] l.length (fun g v x wr => ∃ k : Nat, k ≤ l.length ∧ g = l.length - k ∧ x = (Value.int .i64 ((k : Int))) ∧ wr.ownsRow w.heap.size 3 1 v k (intsV (nums k)) ∧ Below w.heap.size w wr)
  case atStart => exact ⟨0, Nat.zero_le _, rfl, rfl, World.ownsRow_nil _ _ _ _, hb0⟩
  case round =>
    obtain ⟨k, kn, rfl, rfl, hO, hbw⟩ := hrel
    clear hb0
    by_cases hlt : k < l.length
    · go_wp2_with (at_builtin; refine wpList_append_own _ rfl (.tmp 25) (.tmp 27) 68 rfl w.heap.size 3 i0 _ 1 8 undInts hi0 hz0 hz1 hz2 rfl (by decide) _ _ _ rfl (World.ownsRow.alloc hO _) ⟨wr.heap.size, 0, none⟩ 1 1 [(Value.int .i64 ((k : Int)))] rfl rfl (tg_news _ [(Value.int .i64 ((k : Int)))] _) (tg_one _) (by unfold maxLen; omega) (by omega) (by have := hbw.size; simp; omega) ?_)
      intro v' w9 hown hgrow _
      have hb9 : Below w.heap.size w w9 := bl_grown (bl_alloc hbw) (World.ownsRow.alloc hO _) hgrow
      have e : intsV (nums k) ++ [(Value.int .i64 ((k : Int)))] = intsV (nums (k + 1)) := by rw [nums_next, intsV_append]; rfl
      rw [e] at hown
      go_wp2
      go_roundg (l.length - (k + 1))
      case measure => omega
      case rel => exact ⟨k + 1, by omega, rfl, by go_num, hown, hb9⟩
    · obtain rfl : k = l.length := by omega
      obtain ⟨g, cap, cur, rfl, -⟩ := hO.2.resolve_left (fun h => by omega)
      obtain ⟨-, hL⟩ := LeftAt.of_row hO hbw.size
      obtain ⟨B2, hB2⟩ : ∃ B2, B2 = wr.heap.size := ⟨_, rfl⟩
      have hgB : g < B2 := by rw [hB2]; exact hL.lt
      have hBB : B2 ≤ wr.heap.size := Nat.le_of_eq hB2
      have hwB : w.heap.size ≤ B2 := by rw [hB2]; exact hbw.size
      replace hL := Lib.hid hL
      clear hO hlt kn hB2
      go_wp2
      go_loopg [6, 8, 9] l.length (fun gh v6 v8 v9 wr => ∃ ls T, gh = ls.length ∧ v6 = .slice (some ⟨g, 0, none⟩) ls.length cap ∧ v9 = (Value.int .i64 ((ls.length : Int))) ∧ LeftAt wr w.heap.size g cap ls ∧ wr.ownsRow B2 60 3 v8 T.length (trsV T) ∧ B2 ≤ wr.heap.size ∧ Hid (Inv l s ls T) ∧ Below w.heap.size w wr)
      case atStart => exact ⟨nums l.length, [], (nums_len _).symm, by rw [nums_len], by rw [nums_len], hL.out, World.ownsRow_nil _ _ _ _, hBB, hI0, hbw⟩
      case round =>
        clear hL hbw hI0 hBB
        obtain ⟨ls, T, rfl, rfl, rfl, hL, hT, hBr, hI, hbw⟩ := hrel
        have h2 := hI.out.two
        have h1 := hI.out.len
        by_cases h3 : 3 ≤ ls.length
        · have h3' : (3 : Int) ≤ (ls.length : Int) := by omega
          have hrng : ∀ k, k < ls.length → 0 ≤ iat ls k ∧ iat ls k < l.length := fun j hj => hI.out.rng _ (by rw [← iat_eq hj]; exact List.getElem_mem _)
          have hcl := clip_any b o ca g 0 cap l ls s wr (hp.below hbw) hL.ints h3 (by omega) hrng (by omega) hpt.out (by omega) (clip_ex (hI.out.smp h3).1 (hI.out.smp h3).2)
          go_upto_region 16 with (go_at_call 82; (with_reducible refine Calls.mono hcl ?_); rintro e w5 ⟨⟨i, rfl, hC⟩, hb5⟩)
          have hL5 := hL.below hb5
          have hT5 := own_below hT hb5
          have hbw5 := bl_call hbw hb5
          have hb5s := hb5.size
          have hi := hC.1
          have hsrt := Lib.hid (srt3_sort (ls := ls) hI.out.inc h3 hi)
          have hstep := Lib.hid (inv_step hI.out h3 hC)
          have hlenE := List.length_eraseIdx_of_lt hi
          have hpl := prv_lt (n := ls.length) (i := i) (by omega)
          have hnl := nxn_lt (n := ls.length) (i := i) (by omega)
          have ee1 : ((i : Int) + (ls.length : Int) - 1).tmod (ls.length : Int) = (prv ls.length i : Int) := by
            unfold prv
            rw [Int.tmod_eq_emod_of_nonneg (by omega), Int.natCast_emod]
            congr 1
            omega
          have ee2 : ((i : Int) + 1).tmod (ls.length : Int) = (nxn ls.length i : Int) := by
            unfold nxn
            rw [Int.tmod_eq_emod_of_nonneg (by omega), Int.natCast_emod]
            congr 1
          have x1 := (holds_get hL5.hold hpl).1
          have x2 := (holds_get hL5.hold hi).1
          have x3 := (holds_get hL5.hold hnl).1
          have l2 := hL5.lt
          clear hL hT hbw hb5 hcl hrng
          generalize prv ls.length i = pr at *
          generalize nxn ls.length i = nx at *
          have nz : (ls = []) = False := by rw [eq_iff_iff, iff_false]; intro q; rw [q] at hi; simp at hi
          have n1 : (pr : Int) < (ls.length : Int) := by omega
          have n2 : (nx : Int) < (ls.length : Int) := by omega
          have n3 : (i : Int) < (ls.length : Int) := by omega
          have hw1 : -9000000000000000000 ≤ ((i : Int) + (ls.length : Int)) ∧ ((i : Int) + (ls.length : Int)) ≤ 9000000000000000000 := by omega
          have hw2 : -9000000000000000000 ≤ ((i : Int) + (ls.length : Int) - 1) ∧ ((i : Int) + (ls.length : Int) - 1) ≤ 9000000000000000000 := by omega
          have hw3 : -9000000000000000000 ≤ ((i : Int) + 1) ∧ ((i : Int) + 1) ≤ 9000000000000000000 := by omega
          have hw4 : -9000000000000000000 ≤ (pr : Int) ∧ (pr : Int) ≤ 9000000000000000000 := by omega
          have hw5 : -9000000000000000000 ≤ (nx : Int) ∧ (nx : Int) ≤ 9000000000000000000 := by omega
          have k1 : IntKind.i64.wrap ((i : Int) + (ls.length : Int)) = (i : Int) + (ls.length : Int) := wrapK hw1
          have k2 : IntKind.i64.wrap ((i : Int) + (ls.length : Int) - 1) = (i : Int) + (ls.length : Int) - 1 := wrapK hw2
          have k3 : IntKind.i64.wrap ((i : Int) + 1) = (i : Int) + 1 := wrapK hw3
          have k4 : IntKind.i64.wrap (pr : Int) = (pr : Int) := wrapK hw4
          have k5 : IntKind.i64.wrap (nx : Int) = (nx : Int) := wrapK hw5
          refine wp_region_C (fun w' => ∃ z : After w5, w' = z.val) (by kernel_rfl) ?_
          change wpAnyC _ _ _ _ _ _ _ (World.drew w5)
          refine wpAnyC_take (i := 0) (v := ?v0u) rfl (by kernel_rfl) (by kernel_rfl) (by kernel_rfl) ?q0u rfl ?y0u ?r0u; (case q0u => exact fun _ _ _ h => h); (case y0u => ((rintro _ ⟨z, rfl⟩); (go_simp); (try with_reducible rfl))); simp only [Act.put, List.getElem_toArray, List.getElem_cons_succ, List.getElem_cons_zero, List.setIfInBounds_toArray, List.set_cons_succ, List.set_cons_zero]
          refine wpAnyC_take (i := 1) (v := ?v1u) rfl (by kernel_rfl) (by kernel_rfl) (by kernel_rfl) ?q1u rfl ?y1u ?r1u; (case q1u => exact fun _ _ _ h => h); (case y1u => ((rintro _ ⟨z, rfl⟩); (go_simp); (try with_reducible rfl))); simp only [Act.put, List.getElem_toArray, List.getElem_cons_succ, List.getElem_cons_zero, List.setIfInBounds_toArray, List.set_cons_succ, List.set_cons_zero]
          refine wpAnyC_take (i := 2) (v := ?v2u) rfl (by kernel_rfl) (by kernel_rfl) (by kernel_rfl) ?q2u rfl ?y2u ?r2u; (case q2u => exact fun _ _ _ h => h); (case y2u => ((rintro _ ⟨z, rfl⟩); (go_simp); (try with_reducible rfl))); simp only [Act.put, List.getElem_toArray, List.getElem_cons_succ, List.getElem_cons_zero, List.setIfInBounds_toArray, List.set_cons_succ, List.set_cons_zero]
          refine wpAnyC_take (i := 3) (v := ?v3u) rfl (by kernel_rfl) (by kernel_rfl) (by kernel_rfl) ?q3u rfl ?y3u ?r3u; (case q3u => exact fun _ _ _ h => h); (case y3u => ((rintro _ ⟨z, rfl⟩); (go_simp); (try with_reducible rfl))); simp only [Act.put, List.getElem_toArray, List.getElem_cons_succ, List.getElem_cons_zero, List.setIfInBounds_toArray, List.set_cons_succ, List.set_cons_zero]
          refine wpAnyC_take (i := 4) (v := ?v4u) rfl (by kernel_rfl) (by kernel_rfl) (by kernel_rfl) ?q4u rfl ?y4u ?r4u; (case q4u => exact fun _ _ _ h => h); (case y4u => ((rintro _ ⟨z, rfl⟩); (go_simp); (try with_reducible rfl))); simp only [Act.put, List.getElem_toArray, List.getElem_cons_succ, List.getElem_cons_zero, List.setIfInBounds_toArray, List.set_cons_succ, List.set_cons_zero]
          refine wpAnyC_take (i := 5) (v := ?v5u) rfl (by kernel_rfl) (by kernel_rfl) (by kernel_rfl) ?q5u rfl ?y5u ?r5u; (case q5u => exact fun _ _ _ h => h); (case y5u => ((rintro _ ⟨z, rfl⟩); (go_simp); (try with_reducible rfl))); simp only [Act.put, List.getElem_toArray, List.getElem_cons_succ, List.getElem_cons_zero, List.setIfInBounds_toArray, List.set_cons_succ, List.set_cons_zero]
          refine wpAnyC_take (i := 6) (v := ?v6u) rfl (by kernel_rfl) (by kernel_rfl) (by kernel_rfl) ?q6u rfl ?y6u ?r6u; (case q6u => exact fun _ _ _ h => h); (case y6u => ((rintro _ ⟨z, rfl⟩); (go_simp); (try with_reducible rfl))); simp only [Act.put, List.getElem_toArray, List.getElem_cons_succ, List.getElem_cons_zero, List.setIfInBounds_toArray, List.set_cons_succ, List.set_cons_zero]
          refine wpAnyC_take (i := 7) (v := ?v7u) rfl (by kernel_rfl) (by kernel_rfl) (by kernel_rfl) ?q7u rfl ?y7u ?r7u; (case q7u => exact fun _ _ _ h => h); (case y7u => ((rintro _ ⟨z, rfl⟩); (go_simp); (try with_reducible rfl))); simp only [Act.put, List.getElem_toArray, List.getElem_cons_succ, List.getElem_cons_zero, List.setIfInBounds_toArray, List.set_cons_succ, List.set_cons_zero]
          refine wpAnyC_take (i := 8) (v := ?v8u) rfl (by kernel_rfl) (by kernel_rfl) (by kernel_rfl) ?q8u rfl ?y8u ?r8u; (case q8u => exact fun _ _ _ h => h); (case y8u => ((rintro _ ⟨z, rfl⟩); (go_simp); (try with_reducible rfl))); simp only [Act.put, List.getElem_toArray, List.getElem_cons_succ, List.getElem_cons_zero, List.setIfInBounds_toArray, List.set_cons_succ, List.set_cons_zero]
          refine wpAnyC_take (i := 9) (v := ?v9u) rfl (by kernel_rfl) (by kernel_rfl) (by kernel_rfl) ?q9u rfl ?y9u ?r9u; (case q9u => exact fun _ _ _ h => h); (case y9u => ((rintro _ ⟨z, rfl⟩); (go_simp); (try with_reducible rfl))); simp only [Act.put, List.getElem_toArray, List.getElem_cons_succ, List.getElem_cons_zero, List.setIfInBounds_toArray, List.set_cons_succ, List.set_cons_zero]
          refine wpAnyC_take (i := 10) (v := ?v10u) rfl (by kernel_rfl) (by kernel_rfl) (by kernel_rfl) ?q10u rfl ?y10u ?r10u; (case q10u => exact fun _ _ _ h => h); (case y10u => ((rintro _ ⟨z, rfl⟩); (go_simp); (try with_reducible rfl))); simp only [Act.put, List.getElem_toArray, List.getElem_cons_succ, List.getElem_cons_zero, List.setIfInBounds_toArray, List.set_cons_succ, List.set_cons_zero]
          refine wpAnyC_take (i := 11) (v := ?v11u) rfl (by kernel_rfl) (by kernel_rfl) (by kernel_rfl) ?q11u rfl ?y11u ?r11u; (case q11u => exact fun _ _ _ h => h); (case y11u => ((rintro _ ⟨z, rfl⟩); (go_simp); (try with_reducible rfl))); simp only [Act.put, List.getElem_toArray, List.getElem_cons_succ, List.getElem_cons_zero, List.setIfInBounds_toArray, List.set_cons_succ, List.set_cons_zero]
          refine wpAnyC_take (i := 12) (v := ?v12u) rfl (by kernel_rfl) (by kernel_rfl) (by kernel_rfl) ?q12u rfl ?y12u ?r12u; (case q12u => exact fun _ _ _ h => h); (case y12u => ((rintro _ ⟨z, rfl⟩); (go_simp); (try with_reducible rfl))); simp only [Act.put, List.getElem_toArray, List.getElem_cons_succ, List.getElem_cons_zero, List.setIfInBounds_toArray, List.set_cons_succ, List.set_cons_zero]
          refine wpAnyC_take (i := 13) (v := ?v13u) rfl (by kernel_rfl) (by kernel_rfl) (by kernel_rfl) ?q13u rfl ?y13u ?r13u; (case q13u => exact fun _ _ _ h => h); (case y13u => ((rintro _ ⟨z, rfl⟩); (go_simp); (try with_reducible rfl))); simp only [Act.put, List.getElem_toArray, List.getElem_cons_succ, List.getElem_cons_zero, List.setIfInBounds_toArray, List.set_cons_succ, List.set_cons_zero]
          refine wpAnyC_take (i := 14) (v := ?v14u) rfl (by kernel_rfl) (by kernel_rfl) (by kernel_rfl) ?q14u rfl ?y14u ?r14u; (case q14u => exact fun _ _ _ h => h); (case y14u => ((rintro _ ⟨z, rfl⟩); (go_simp); (try with_reducible rfl))); simp only [Act.put, List.getElem_toArray, List.getElem_cons_succ, List.getElem_cons_zero, List.setIfInBounds_toArray, List.set_cons_succ, List.set_cons_zero]
          refine wpAnyC_take (i := 15) (v := ?v15u) rfl (by kernel_rfl) (by kernel_rfl) (by kernel_rfl) ?q15u rfl ?y15u ?r15u; (case q15u => exact fun _ _ _ h => h); (case y15u => ((rintro _ ⟨z, rfl⟩); (go_simp); (try with_reducible rfl))); simp only [Act.put, List.getElem_toArray, List.getElem_cons_succ, List.getElem_cons_zero, List.setIfInBounds_toArray, List.set_cons_succ, List.set_cons_zero]
          refine wpAnyC_take (i := 16) (v := ?v16u) rfl (by kernel_rfl) (by kernel_rfl) (by kernel_rfl) ?q16u rfl ?y16u ?r16u; (case q16u => exact fun _ _ _ h => h); (case y16u => ((rintro _ ⟨z, rfl⟩); (go_simp); (try with_reducible rfl))); simp only [Act.put, List.getElem_toArray, List.getElem_cons_succ, List.getElem_cons_zero, List.setIfInBounds_toArray, List.set_cons_succ, List.set_cons_zero]
          refine wpAnyC_take (i := 17) (v := ?v17u) rfl (by kernel_rfl) (by kernel_rfl) (by kernel_rfl) ?q17u rfl ?y17u ?r17u; (case q17u => exact fun _ _ _ h => h); (case y17u => ((rintro _ ⟨z, rfl⟩); (go_simp); (try with_reducible rfl))); simp only [Act.put, List.getElem_toArray, List.getElem_cons_succ, List.getElem_cons_zero, List.setIfInBounds_toArray, List.set_cons_succ, List.set_cons_zero]
          refine wpAnyC_take (i := 18) (v := ?v18u) rfl (by kernel_rfl) (by kernel_rfl) (by kernel_rfl) ?q18u rfl ?y18u ?r18u; (case q18u => exact fun _ _ _ h => h); (case y18u => ((rintro _ ⟨z, rfl⟩); (go_simp); (try with_reducible rfl))); simp only [Act.put, List.getElem_toArray, List.getElem_cons_succ, List.getElem_cons_zero, List.setIfInBounds_toArray, List.set_cons_succ, List.set_cons_zero]
          refine wpAnyC_take (i := 19) (v := ?v19u) rfl (by kernel_rfl) (by kernel_rfl) (by kernel_rfl) ?q19u rfl ?y19u ?r19u; (case q19u => exact fun _ _ _ h => h); (case y19u => ((rintro _ ⟨z, rfl⟩); (go_simp); (try with_reducible rfl))); simp only [Act.put, List.getElem_toArray, List.getElem_cons_succ, List.getElem_cons_zero, List.setIfInBounds_toArray, List.set_cons_succ, List.set_cons_zero]
          refine wpAnyC_take (i := 20) (v := ?v20u) rfl (by kernel_rfl) (by kernel_rfl) (by kernel_rfl) ?q20u rfl ?y20u ?r20u; (case q20u => exact fun _ _ _ h => h); (case y20u => ((rintro _ ⟨z, rfl⟩); (go_simp); (try with_reducible rfl))); simp only [Act.put, List.getElem_toArray, List.getElem_cons_succ, List.getElem_cons_zero, List.setIfInBounds_toArray, List.set_cons_succ, List.set_cons_zero]
          clear x1 x2 x3 k1 k2 k4 k5 hw1 hw2 hw3 hw4 hw5 ee1 ee2
          have hd0 : Below w5.heap.size w5 w5.drew := bl_drew (Below.refl _ _)
          refine wpAnyC_one (i := 21) (by kernel_rfl) rfl ⟨⟨_, hd0⟩, rfl⟩ rfl (fun K hK => ?_)
          (go_simp; refine hK _ _ ?_; clear hK K)
          have hd1 : Below w5.heap.size w5 (w5.alloc (.cells #[(Value.int .i64 (0)), (Value.int .i64 (0)), (Value.int .i64 (0))] 60)).drew := bl_drew (bl_alloc (Below.refl _ _))
          have t1 : Blk (w5.alloc (.cells #[(Value.int .i64 (0)), (Value.int .i64 (0)), (Value.int .i64 (0))] 60)).drew w5.heap.size 60 #[(Value.int .i64 (0)), (Value.int .i64 (0)), (Value.int .i64 (0))] := Blk.new w5 _ _
          generalize (w5.alloc (.cells #[(Value.int .i64 (0)), (Value.int .i64 (0)), (Value.int .i64 (0))] 60)).drew = V1 at *
          refine wpAnyC_one (i := 22) (by kernel_rfl) rfl ⟨⟨_, hd1⟩, rfl⟩ rfl (fun K hK => ?_)
          refine wp_store_row 60 _ _ rfl w5.heap.size #[(Value.int .i64 (iat ls pr)), (Value.int .i64 (iat ls i)), (Value.int .i64 (iat ls nx))] rfl rfl 60 _ t1 (by kernel_rfl) rfl (by simp [Value.oneCell']) (hK _ _ ?_)
          clear hK K
          have hd2 := bl_row (cs := #[(Value.int .i64 (iat ls pr)), (Value.int .i64 (iat ls i)), (Value.int .i64 (iat ls nx))]) hd1 (Nat.le_refl _)
          have t2 := blk_row (cs := #[(Value.int .i64 (iat ls pr)), (Value.int .i64 (iat ls i)), (Value.int .i64 (iat ls nx))]) t1
          clear t1 hd1 hd0
          generalize V1.setRow w5.heap.size #[(Value.int .i64 (iat ls pr)), (Value.int .i64 (iat ls i)), (Value.int .i64 (iat ls nx))] = V2 at *
          refine wpAnyC_done (by kernel_rfl) ⟨⟨_, hd2⟩, rfl⟩ ?_ _
          have L6 := hL5.below hd2
          have T6 := own_below hT5 hd2
          have b6 := bl_call hbw5 hd2
          have s6 : B2 ≤ w5.heap.size := Nat.le_trans hBr hb5s
          have hH6 : Holds (Value.int .i64) V2 w5.heap.size 0 [iat ls pr, iat ls i, iat ls nx].toArray := holds_of fun j hj => by
            match j, hj with
            | 0, _ => exact ⟨t2.cell 0, t2.frozen 0⟩
            | 1, _ => exact ⟨t2.cell 1, t2.frozen 1⟩
            | 2, _ => exact ⟨t2.cell 2, t2.frozen 2⟩
          have hso : Calls Try.prog 83 #[.slice (some ⟨w5.heap.size, 0, none⟩) 3 3] V2 fun e w' => e = .returned (.tuple #[]) ∧ V2.grownBy w' (some w5.heap.size) ∧ Holds (Value.int .i64) w' w5.heap.size 0 ([iat ls pr, iat ls i, iat ls nx].mergeSort fun x y => decide (x ≤ y)).toArray := sort_ok w5.heap.size 3 [iat ls pr, iat ls i, iat ls nx] V2 hH6 t2.lt (by simp)
          rw [hsrt.out] at hso
          have tl := t2.lt
          go_upto_region 18 with (go_at_call 83; (with_reducible refine Calls.mono hso ?_); rintro e w7 ⟨rfl, hg7, hH7⟩)
          have b7 : Below w.heap.size w w7 := b6.grown hg7 b6.size fun k hk => by cases hk; exact hbw5.size
          have hgt : g < w5.heap.size := by omega
          have L7 := L6.kept hg7 (by intro q; cases q; omega)
          have T7 : w7.ownsRow B2 60 3 u8 T.length (trsV T) := T6.kept hg7 (by
            cases hq : u8.ownBlock with
            | none => exact .inl rfl
            | some k =>
              refine .inr fun q => ?_
              cases q
              have := (hT5.lt _ hq).2
              omega)
          have s7 := hg7.size
          have y1 := (holds_get hH7 (i := 0) (by simp)).1
          have y2 := (holds_get hH7 (i := 1) (by simp)).1
          have y3 := (holds_get hH7 (i := 2) (by simp)).1
          have r1 : iat [(srt3 ls i).1, (srt3 ls i).2.1, (srt3 ls i).2.2] 0 = (srt3 ls i).1 := rfl
          have r2 : iat [(srt3 ls i).1, (srt3 ls i).2.1, (srt3 ls i).2.2] 1 = (srt3 ls i).2.1 := rfl
          have r3 : iat [(srt3 ls i).1, (srt3 ls i).2.1, (srt3 ls i).2.2] 2 = (srt3 ls i).2.2 := rfl
          rw [r1] at y1
          rw [r2] at y2
          rw [r3] at y3
          have tl7 : w5.heap.size < w7.heap.size := Nat.lt_of_lt_of_le tl s7
          clear r1 r2 r3 hH7 hso hH6 t2 L6 T6 hL5 hT5 hsrt b6
          have hone : ∀ u ∈ [(Value.int .i64 ((srt3 ls i).1)), (Value.int .i64 ((srt3 ls i).2.1)), (Value.int .i64 ((srt3 ls i).2.2))], u.oneCell' = true := fun u hu => trsV_one [srt3 ls i] u hu
          go_wp2_with (at_builtin; refine wpList_append_own _ rfl (.tmp 63) (.tmp 65) 57 rfl B2 60 j0 _ 3 24 undTrs hj0 hy0 hy1 hy2 rfl (by decide) _ _ _ rfl (World.ownsRow.alloc T7 _) ⟨w7.heap.size, 0, none⟩ 1 1 [(Value.int .i64 ((srt3 ls i).1)), (Value.int .i64 ((srt3 ls i).2.1)), (Value.int .i64 ((srt3 ls i).2.2))] rfl rfl (tg_news _ [(Value.int .i64 ((srt3 ls i).1)), (Value.int .i64 ((srt3 ls i).2.1)), (Value.int .i64 ((srt3 ls i).2.2))] _) hone (by unfold maxLen; omega) (by omega) (by simp; omega) ?_)
          intro v' w9 hown hgrow _
          have A7 := World.ownsRow.alloc T7 (.cells #[(Value.int .i64 ((srt3 ls i).1)), (Value.int .i64 ((srt3 ls i).2.1)), (Value.int .i64 ((srt3 ls i).2.2))] 60)
          have b9 : Below w.heap.size w w9 := (bl_alloc (o := .cells #[(Value.int .i64 ((srt3 ls i).1)), (Value.int .i64 ((srt3 ls i).2.1)), (Value.int .i64 ((srt3 ls i).2.2))] 60) b7).grown hgrow (by have := b7.size; simp; omega) fun k hk => by
            have := (A7.lt k hk).1
            omega
          have L9 : LeftAt w9 w.heap.size g cap ls := (L7.below ((Below.refl _ w7).alloc (Nat.le_refl _) _)).kept hgrow (fun q => by
            have := (A7.lt g q.symm).1
            omega)
          have e3 : trsV T ++ [(Value.int .i64 ((srt3 ls i).1)), (Value.int .i64 ((srt3 ls i).2.1)), (Value.int .i64 ((srt3 ls i).2.2))] = trsV (T ++ [srt3 ls i]) := by rw [trsV_append]; rfl
          have e4 : T.length + 1 = (T ++ [srt3 ls i]).length := by simp
          rw [e3, e4] at hown
          have s9 : B2 ≤ w9.heap.size := by
            have := hgrow.size
            simp at this
            omega
          clear hgrow A7 L7 T7 y1 y2 y3 e3 e4 b7 hg7
          have hde := del_ok w.heap.size g cap i ls w9 L9 hi
          have hw3 : IntKind.i64.wrap ((i : Int) + 1) = (i : Int) + 1 := k3
          go_wp2_with (go_at_call 84; (with_reducible refine Calls.mono hde ?_); rintro e w10 ⟨rfl, hg10, hL10⟩)
          have b10 : Below w.heap.size w w10 := b9.grown hg10 b9.size fun k hk => by cases hk; exact L9.base
          have T10 : w10.ownsRow B2 60 3 v' (T ++ [srt3 ls i]).length (trsV (T ++ [srt3 ls i])) := hown.kept hg10 (by
            cases hq : v'.ownBlock with
            | none => exact .inl rfl
            | some k =>
              refine .inr fun q => ?_
              cases q
              have := (hown.lt _ hq).1
              omega)
          have s10 := hg10.size
          go_roundg (ls.eraseIdx i).length
          case measure => omega
          case rel => exact ⟨ls.eraseIdx i, T ++ [srt3 ls i], rfl, by rw [hlenE], by rw [hlenE]; go_num, hL10, T10, by omega, hstep, b10⟩
        · have h3' : ¬ ((3 : Int) ≤ (ls.length : Int)) := by omega
          go_wp2
          (try simp only [Exit.inBlock, Exit.then])
          refine bodyPost_ret (v := .tuple #[u8, (Value.int .i64 (0))]) (by simp [results, Try.results44, go_sem]) rfl ?_
          exact ⟨u8, rfl, T, own_mono hT hwB, ⟨by omega, hI.out.tri, fun F hF => inv_last hI.out (by omega) F hF⟩, hbw⟩
end Go.Proofs.Ytijpolfmiajenaa
