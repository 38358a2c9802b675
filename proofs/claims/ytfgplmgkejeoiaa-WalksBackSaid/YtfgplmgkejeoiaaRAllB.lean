/- The reference's all answers all elbows that begin with some places. -/
import Derived.Test.YtfgplmgkejeoiaaRAll
import Derived.Lib.SmallJoins
namespace Go.Proofs.Ytfgplmgkejeoiaa
open Go.RowKit
attribute [local go_sem] After.cell After.frozen

theorem blk_new_at {w : World} {g : Nat} {t : TypeId} {cs : Array Value} (hg : g = w.heap.size) : Blk (w.alloc (.cells cs t)) g t cs := by subst hg; exact Blk.new w t cs
theorem blk_drew {w : World} {g : Nat} {t : TypeId} {cs : Array Value} (h : Blk w g t cs) : Blk w.drew g t cs := h
theorem own_drew {w : World} {B e n : Nat} {v : Value} {xs : List Value} (h : w.ownsRow B e 1 v n xs) : w.drew.ownsRow B e 1 v n xs := h
theorem own_made {w : World} {B g : Nat} (hB : B ≤ w.heap.size) (hg : g = w.heap.size) : (w.alloc (.cells #[] 3)).ownsRow B 3 1 (.slice (some ⟨g, 0, none⟩) 0 0) 0 [] := by
  subst hg
  exact World.ownsRow_made (base := B) (e := 3) (size := 1) w #[] 0 hB (by decide) rfl
theorem mem_snoc {first : List Nat} {k n : Nat} (h : ∀ q ∈ first, q < n) (hk : k < n) : ∀ q ∈ first ++ [k], q < n := fun q hq => by
  rcases List.mem_append.1 hq with h1 | h1
  · exact h q h1
  · rw [List.mem_singleton.1 h1]; exact hk
theorem allQTo_bd {T : Trk} {m : List Pt} {r k : Nat} {first : List Nat} (hT : T.pts.length ≤ 8) (hk : k ≤ T.pts.length) (hr : r + 1 ≤ 8) : (allQTo T m r first k).length ≤ 16777216 := by
  have h1 : ∀ k, k ≤ T.pts.length → (allQTo T m r first k).length ≤ k * 8 ^ r := fun k => by
    induction k with
    | zero => intro _; simp [allQTo]
    | succ k ih =>
      intro hk
      have h2 := ih (by omega)
      cases hv : reachB T k (pat m first.length) with
      | true =>
        rw [allQTo_yes hv, List.length_append]
        have h3 := allQ_len (T := T) (m := m) hT r (first ++ [k])
        rw [Nat.succ_mul]
        exact Nat.add_le_add h2 h3
      | false =>
        rw [allQTo_no hv]
        exact Nat.le_trans h2 (Nat.mul_le_mul_right _ (Nat.le_succ k))
  have h2 := h1 k hk
  have h3 : k * 8 ^ r ≤ 8 * 8 ^ r := Nat.mul_le_mul_right _ (by omega)
  have h4 : 8 * 8 ^ r ≤ 8 ^ 8 := by
    rw [Nat.mul_comm, ← Nat.pow_succ]
    exact Nat.pow_le_pow_right (by decide) hr
  exact Nat.le_trans h2 (Nat.le_trans h3 (Nat.le_trans h4 (by decide)))
theorem srcFirst {X : World} {F : Option Addr} {cf : Nat} {first : List Nat} (h : Ints X F (ints first)) (hc : F = none → cf = 0) :
    (first.length = 0 ∧ Value.slice F first.length cf = .slice none 0 0) ∨ ∃ ad c, Value.slice F first.length cf = .slice (some ad) first.length c ∧ ∀ j u, (intsV (ints first))[j]? = some u → X.cell? (ad.add j) = some u := by
  have h1 := srcInts h hc
  rwa [ints_len] at h1
theorem own_first {X : World} {B : Nat} {v : Value} {first : List Nat} {k : Nat} (h : X.ownsRow B 3 1 v (first.length + 1) (intsV (ints first) ++ [(Value.int .i64 ((k : Int)))])) :
    ∃ A ca, v = .slice A (first ++ [k]).length ca ∧ (Ints X A (ints (first ++ [k])) ∧ (A = none → ca = 0)) ∧ TypI X A := by
  have h' : X.ownsRow B 3 1 v (first.length + 1) (intsV (ints (first ++ [k]))) := by
    rw [ints_snoc, intsV_append]
    exact h
  obtain ⟨hn, A, ca, rfl, hI, hA⟩ := own_ints h'
  refine ⟨A, ca, by rw [ints_len], ⟨hI, fun e => ?_⟩, fun a e => ?_⟩
  · have h1 := hA e
    simp [ints] at h1
  · rcases h.2 with ⟨e1, _⟩ | ⟨g, cap, cur, e1, _, h2, _⟩
    · simp only [Value.slice.injEq] at e1
      rw [e1.1] at e
      cases e
    · simp only [Value.slice.injEq] at e1
      rw [e1.1, Option.some.injEq] at e
      subst e
      exact ⟨cur, h2⟩
theorem one_cell {X : World} {g : Nat} {t : TypeId} {v : Value} (h : Blk X g t #[v]) : ∀ j u, [v][j]? = some u → X.cell? ((⟨g, 0, none⟩ : Addr).add j) = some u := fun j u hj => by
  have hj0 : j = 0 := by
    have := (List.getElem?_eq_some_iff.1 hj).1
    simp at this
    exact this
  subst hj0
  have h1 := h.cell 0
  rw [add_at]
  exact h1.trans hj

set_option maxRecDepth 100000 in
set_option maxHeartbeats 4000000 in
theorem all_ref {b o ca bm om cm : Nat} {T : Trk} {m : List Pt} (hT : trkB T = true) (hm : walkB m = true) : ∀ (r : Nat) (first : List Nat) (F : Option Addr) (cf : Nat) (w : World), PtsAt w b o T.pts → PtsAt w bm om m → first.length + r = m.length → (∀ q ∈ first, q < T.pts.length) → Ints w F (ints first) → TypI w F → (F = none → cf = 0) →
    Calls Try.prog 93 #[(Value.agg #[.slice (some ⟨b, o, none⟩) T.pts.length ca, (Value.int .i64 (T.closed)), (Value.int .i64 (T.lo)), (Value.int .i64 (T.hi))]), .slice (some ⟨bm, om, none⟩) m.length cm, .slice F first.length cf] w fun e w' => (∃ v, e = .returned v ∧ RefP (allQ T m r first) w.heap.size w' v) ∧ Below w.heap.size w w'
  | 0, first, F, cf, w, hp, hq, hl, hr, hI, hY, hcf => by
    have hmb := walkB_bd hm
    have eL : ((first.length : Int) == (m.length : Int)) = true := by rw [beq_iff_eq]; omega
    have hA := fun (W : World) (h : Below w.heap.size w W) => AreElbows_any b o ca bm om cm F cf T m (ints first) W (hp.below h) (hq.below h) (hI.below h) (by rw [ints_len]; omega) hT hm
    rw [ints_len, areB_of (by omega) (fun i hi => hr _ (nat_mem hi))] at hA
    clear hmb hp hq hl hr
    have eT : Blk (w.alloc (.cells #[.slice (some ⟨b, o, none⟩) T.pts.length ca, (Value.int .i64 (T.closed)), (Value.int .i64 (T.lo)), (Value.int .i64 (T.hi))] 36)) w.heap.size 36 #[.slice (some ⟨b, o, none⟩) T.pts.length ca, (Value.int .i64 (T.closed)), (Value.int .i64 (T.lo)), (Value.int .i64 (T.hi))] := Blk.new _ _ _
    have lT := eT.lt
    have y0 := eT.cell 0
    have y1 := eT.cell 1
    have y2 := eT.cell 2
    have y3 := eT.cell 3
    simp only [List.getElem?_toArray, List.getElem?_cons_zero, List.getElem?_cons_succ] at y0 y1 y2 y3
    cases hv : areN T m first with
    | true =>
      have hQ : Hid (allQ T m 0 first = [first]) := Lib.hid (by rw [allQ, if_pos hv])
      rw [hv] at hA
      replace hA := Lib.hid hA
      have HI := Lib.hid hI
      have HY := Lib.hid hY
      clear hv hI hY hcf
      go_enter Try.func93, Try.ntmps93
      go_wp2_with ((go_at_call 40); (with_reducible refine Calls.mono (hA.out _ (by (repeat (first | with_reducible exact Below.refl _ _ | with_reducible apply bl_alloc | with_reducible apply bl_drew | with_reducible apply bl_after | (with_reducible refine bl_call ?_ (by assumption)))))) ?_); rintro e w1 ⟨rfl, hb1⟩; first | ((with_reducible apply kp_in_step (hb := hb1)); (with_reducible assumption); rintro ⟨hk, hc, hf, hzc, hzf⟩) | ((with_reducible refine kp_in_first hb1 ?_); rintro ⟨hk, hc, hf, hzc, hzf⟩))
      go_ret
      have hbw : Below w.heap.size w w1 := by (repeat (first | with_reducible exact Below.refl _ _ | with_reducible apply bl_alloc | with_reducible apply bl_drew | with_reducible apply bl_after | (with_reducible refine bl_call ?_ (by assumption))))
      have hbx : Below w.heap.size w (w1.alloc (.cells #[.slice F first.length cf] 37)) := bl_alloc hbw
      exact ⟨⟨_, rfl, by rw [hQ.out]; exact ⟨[.slice F first.length cf], own_one hbw.size, ⟨F, cf, rfl, HI.out.below hbx, HY.out.below hbx⟩, trivial⟩⟩, hbx⟩
    | false =>
      have hQ : Hid (allQ T m 0 first = []) := Lib.hid (by rw [allQ, if_neg (by rw [hv]; exact Bool.false_ne_true)])
      rw [hv] at hA
      replace hA := Lib.hid hA
      clear hv hI hY hcf
      go_enter Try.func93, Try.ntmps93
      go_wp2_with ((go_at_call 40); (with_reducible refine Calls.mono (hA.out _ (by (repeat (first | with_reducible exact Below.refl _ _ | with_reducible apply bl_alloc | with_reducible apply bl_drew | with_reducible apply bl_after | (with_reducible refine bl_call ?_ (by assumption)))))) ?_); rintro e w1 ⟨rfl, hb1⟩; first | ((with_reducible apply kp_in_step (hb := hb1)); (with_reducible assumption); rintro ⟨hk, hc, hf, hzc, hzf⟩) | ((with_reducible refine kp_in_first hb1 ?_); rintro ⟨hk, hc, hf, hzc, hzf⟩))
      go_ret
      exact ⟨⟨_, rfl, by rw [hQ.out]; exact ⟨[], World.ownsRow_nil _ _ _ _, trivial⟩⟩, by (repeat (first | with_reducible exact Below.refl _ _ | with_reducible apply bl_alloc | with_reducible apply bl_drew | with_reducible apply bl_after | (with_reducible refine bl_call ?_ (by assumption))))⟩
  | r + 1, first, F, cf, w, hp, hq, hl, hr, hI, hY, hcf => by
    have hmb := walkB_bd hm
    have htb := trkB_bd hT
    have IH := Lib.hid (all_ref (b := b) (o := o) (ca := ca) (bm := bm) (om := om) (cm := cm) hT hm r)
    have hlt : first.length < m.length := by omega
    have f8 : first.length ≤ 8 := by omega
    have t8 : T.pts.length ≤ 8 := by omega
    have eL : ((first.length : Int) == (m.length : Int)) = false := by rw [beq_eq_false_iff_ne]; omega
    have HR := Lib.hid fun (W : World) (h : Below w.heap.size w W) (k : Nat) (hk : k < T.pts.length) => r5Reaches_any b o ca T k (pat m first.length) W (hp.below h) hk (by omega) ((walkB_bd (l := T.pts) (by have h := hT; simp only [trkB, Bool.and_eq_true] at h; exact h.1.1.1.1)).2 k hk) (hmb.2 _ hlt)
    have HN := Lib.hid (show ∀ k, k ≤ T.pts.length → (allQTo T m r first k).length ≤ 16777216 from fun k hk => allQTo_bd t8 hk (by omega))
    have HL := Lib.hid hl
    have HP := Lib.hid hp
    have HI := Lib.hid hI
    have HF := Lib.hid hcf
    have HY := Lib.hid hY
    have HQ := Lib.hid hr
    clear hl hr hmb htb hp hI hY hcf
    go_enter Try.func93, Try.ntmps93
    have eT : Blk (w.alloc (.cells #[.slice (some ⟨b, o, none⟩) T.pts.length ca, (Value.int .i64 (T.closed)), (Value.int .i64 (T.lo)), (Value.int .i64 (T.hi))] 36)) w.heap.size 36 #[.slice (some ⟨b, o, none⟩) T.pts.length ca, (Value.int .i64 (T.closed)), (Value.int .i64 (T.lo)), (Value.int .i64 (T.hi))] := Blk.new _ _ _
    have hbW : Below w.heap.size w (w.alloc (.cells #[.slice (some ⟨b, o, none⟩) T.pts.length ca, (Value.int .i64 (T.closed)), (Value.int .i64 (T.lo)), (Value.int .i64 (T.hi))] 36)) := by (repeat (first | with_reducible exact Below.refl _ _ | with_reducible apply bl_alloc | with_reducible apply bl_drew | with_reducible apply bl_after | (with_reducible refine bl_call ?_ (by assumption))))
    go_wp2
    generalize w.alloc (.cells #[.slice (some ⟨b, o, none⟩) T.pts.length ca, (Value.int .i64 (T.closed)), (Value.int .i64 (T.lo)), (Value.int .i64 (T.hi))] 36) = W at eT hbW ⊢
    have hbW2 := hbW.size
    go_loopw [7, 8] (fun v i wr => ∃ k : Nat, k ≤ T.pts.length ∧ i = (Value.int .i64 ((k : Int))) ∧ RefP (allQTo T m r first k) W.heap.size wr v ∧ Below W.heap.size W wr) (fun _ i _ => T.pts.length - (intOf i).toNat)
    case atStart => exact ⟨0, Nat.zero_le _, rfl, ⟨[], World.ownsRow_nil _ _ _ _, trivial⟩, by (repeat (first | with_reducible exact Below.refl _ _ | with_reducible apply bl_alloc | with_reducible apply bl_drew | with_reducible apply bl_after | (with_reducible refine bl_call ?_ (by assumption))))⟩
    case round =>
      obtain ⟨k, kn, rfl, hR, hbr⟩ := hrel
      have eT2 := eT.below hbr
      have lT := eT2.lt
      have y0 := eT2.cell 0
      have y1 := eT2.cell 1
      have y2 := eT2.cell 2
      have y3 := eT2.cell 3
      simp only [List.getElem?_toArray, List.getElem?_cons_zero, List.getElem?_cons_succ] at y0 y1 y2 y3
      by_cases hk : k < T.pts.length
      · have hk9 := hk
        have hbwr : Below w.heap.size w wr := hbW.trans (hbr.mono hbW2)
        have pm := hq.below hbwr
        have lm := pm.lt
        have x1 := pm.xp (i := first.length) (by omega)
        have x2 := pm.yp (i := first.length) (by omega)
        have hC := fun (V : World) (h : Below wr.heap.size wr V) => HR.out V (hbwr.trans (h.mono hbwr.size)) k hk
        have i1 : (0 : Int) ≤ (first.length : Int) := by omega
        have i2 : (first.length : Int) < (m.length : Int) := by omega
        have H2 := Lib.hid hR
        clear hR pm
        cases hv : reachB T k (pat m first.length) with
        | false =>
          rw [hv] at hC
          replace hC := Lib.hid hC
          have HE := Lib.hid (allQTo_no (r := r) hv)
          clear hv
          go_wp2
          refine wp_region_after (by kernel_rfl) (by kernel_rfl) ?_; (repeat (go_big_quiet_step (((go_at_call 78; with_reducible exact calls_after (hC.out _ (by (repeat (first | with_reducible assumption | with_reducible exact Below.refl _ _ | with_reducible apply bl_alloc | with_reducible apply bl_drew | with_reducible apply bl_after | (with_reducible refine bl_call ?_ (by assumption)) | (with_reducible refine bl_setc ?_ (by omega))))))))))); refine wpQuiet_nil ?_; rintro _ ⟨z, rfl⟩; (first | ((with_reducible apply kp_in_after (z := z)); (with_reducible assumption); rintro ⟨hk, hc, hf, hzc, hzf⟩) | ((with_reducible refine kp_in_after0 z ?_); rintro ⟨hk, hc, hf, hzc, hzf⟩))
          go_wp2
          go_roundw
          case rel => exact ⟨k + 1, by omega, by go_num, by rw [HE.out]; exact H2.out.below (by (repeat (first | with_reducible assumption | with_reducible exact Below.refl _ _ | with_reducible apply bl_alloc | with_reducible apply bl_drew | with_reducible apply bl_after | (with_reducible refine bl_call ?_ (by assumption)) | (with_reducible refine bl_setc ?_ (by omega))))), hbr.trans ((show Below wr.heap.size wr z.val by (repeat (first | with_reducible assumption | with_reducible exact Below.refl _ _ | with_reducible apply bl_alloc | with_reducible apply bl_drew | with_reducible apply bl_after | (with_reducible refine bl_call ?_ (by assumption)) | (with_reducible refine bl_setc ?_ (by omega))))).mono hbr.size)⟩
          case measure => simp [intOf]; omega
        | true =>
          rw [hv] at hC
          replace hC := Lib.hid hC
          have HE := Lib.hid (allQTo_yes (r := r) hv)
          clear hv
          go_wp2
          refine wp_region_after (by kernel_rfl) (by kernel_rfl) ?_; (repeat (go_big_quiet_step (((go_at_call 78; with_reducible exact calls_after (hC.out _ (by (repeat (first | with_reducible assumption | with_reducible exact Below.refl _ _ | with_reducible apply bl_alloc | with_reducible apply bl_drew | with_reducible apply bl_after | (with_reducible refine bl_call ?_ (by assumption)) | (with_reducible refine bl_setc ?_ (by omega))))))))))); refine wpQuiet_nil ?_; rintro _ ⟨z, rfl⟩; (first | ((with_reducible apply kp_in_after (z := z)); (with_reducible assumption); rintro ⟨hk, hc, hf, hzc, hzf⟩) | ((with_reducible refine kp_in_after0 z ?_); rintro ⟨hk, hc, hf, hzc, hzf⟩))
          have hbz : Below wr.heap.size wr z.val := by (repeat (first | with_reducible assumption | with_reducible exact Below.refl _ _ | with_reducible apply bl_alloc | with_reducible apply bl_drew | with_reducible apply bl_after | (with_reducible refine bl_call ?_ (by assumption)) | (with_reducible refine bl_setc ?_ (by omega))))
          have hbx : Below W.heap.size W z.val := hbr.trans (hbz.mono hbr.size)
          have hR3 := Lib.hid (H2.out.below hbz)
          have eT3 := eT.below hbx
          clear x1 x2 lm y0 y1 y2 y3 eT2 lT hC H2 hk hc hf hzc hzf
          have hbwz : Below w.heap.size w z.val := hbW.trans (hbx.mono hbW2)
          generalize z.val = wz at hbx hR3 eT3 hbwz ⊢
          clear hbz
          have lT := eT.lt
          have y0 := eT.cell 0
          have y1 := eT.cell 1
          have y2 := eT.cell 2
          have y3 := eT.cell 3
          simp only [List.getElem?_toArray, List.getElem?_cons_zero, List.getElem?_cons_succ] at y0 y1 y2 y3
          go_wp2
          obtain ⟨vs, hvs, hrs⟩ := hR3.out
          refine wp_region_C (fun w' => ∃ z : After W, w' = z.val) (by kernel_rfl) ?_
          change wpAnyC _ _ _ _ _ _ _ (World.drew wz)
          refine wpAnyC_take (i := 0) (v := ?v0u) rfl (by kernel_rfl) (by kernel_rfl) (by kernel_rfl) ?q0u rfl ?y0u ?r0u; (case q0u => exact fun _ _ _ h => h); (case y0u => ((rintro _ ⟨z, rfl⟩); (go_simp); (try with_reducible rfl))); simp only [Act.put, List.getElem_toArray, List.getElem_cons_succ, List.getElem_cons_zero, List.setIfInBounds_toArray, List.set_cons_succ, List.set_cons_zero]
          refine wpAnyC_take (i := 1) (v := ?v1u) rfl (by kernel_rfl) (by kernel_rfl) (by kernel_rfl) ?q1u rfl ?y1u ?r1u; (case q1u => exact fun _ _ _ h => h); (case y1u => ((rintro _ ⟨z, rfl⟩); (go_simp); (try with_reducible rfl))); simp only [Act.put, List.getElem_toArray, List.getElem_cons_succ, List.getElem_cons_zero, List.setIfInBounds_toArray, List.set_cons_succ, List.set_cons_zero]
          refine wpAnyC_take (i := 2) (v := ?v2u) rfl (by kernel_rfl) (by kernel_rfl) (by kernel_rfl) ?q2u rfl ?y2u ?r2u; (case q2u => exact fun _ _ _ h => h); (case y2u => ((rintro _ ⟨z, rfl⟩); (go_simp); (try with_reducible rfl))); simp only [Act.put, List.getElem_toArray, List.getElem_cons_succ, List.getElem_cons_zero, List.setIfInBounds_toArray, List.set_cons_succ, List.set_cons_zero]
          refine wpAnyC_take (i := 4) (v := ?v4u) rfl (by kernel_rfl) (by kernel_rfl) (by kernel_rfl) ?q4u rfl ?y4u ?r4u; (case q4u => exact fun _ _ _ h => h); (case y4u => ((rintro _ ⟨z, rfl⟩); (go_simp); (try with_reducible rfl))); simp only [Act.put, List.getElem_toArray, List.getElem_cons_succ, List.getElem_cons_zero, List.setIfInBounds_toArray, List.set_cons_succ, List.set_cons_zero]
          refine wpAnyC_take (i := 6) (v := ?v6u) rfl (by kernel_rfl) (by kernel_rfl) (by kernel_rfl) ?q6u rfl ?y6u ?r6u; (case q6u => exact fun _ _ _ h => h); (case y6u => ((rintro _ ⟨z, rfl⟩); (go_simp); (try with_reducible rfl))); simp only [Act.put, List.getElem_toArray, List.getElem_cons_succ, List.getElem_cons_zero, List.setIfInBounds_toArray, List.set_cons_succ, List.set_cons_zero]
          have hd0 : Below wz.heap.size wz wz.drew := bl_drew (Below.refl _ _)
          refine wpAnyC_two (i := 3) (j := 7) (by kernel_rfl) rfl rfl ⟨⟨_, (hbx.trans ((hd0).mono hbx.size))⟩, rfl⟩ rfl rfl (fun K hK => ?_) (fun K hK => ?_)
          · (go_simp; refine hK _ _ ?_; clear hK K)
            have ho3 := World.ownsRow_made (base := wz.heap.size) (e := 3) (size := 1) wz.drew #[] 0 (Nat.le_refl _) (by decide) rfl
            refine wpAnyC_two (i := 5) (j := 7) (by kernel_rfl) rfl rfl ⟨⟨_, (hbx.trans ((bl_alloc hd0).mono hbx.size))⟩, rfl⟩ rfl rfl (fun K hK => ?_) (fun K hK => ?_)
            · refine app_any (w0 := wz) (.tmp 38) (.tmp 39) 37 3 (.int .i64 0) 8 rfl infoInt undInts rfl (by decide) (bl_alloc hd0) _ 0 first.length [] (intsV (ints first)) rfl ho3 (by rw [intsV_len, ints_len, Nat.mul_one]) (srcFirst (HI.out.below (hbwz.trans ((bl_alloc hd0).mono hbwz.size))) HF.out) (intsV_one _) (by omega) (fun v5 w5 ho5 hb5 hg5 => hK _ _ ?_)
              clear hK K
              simp only [Act.put, List.getElem_toArray, List.getElem_cons_succ, List.getElem_cons_zero, List.setIfInBounds_toArray, List.set_cons_succ, List.set_cons_zero]
              rw [Nat.zero_add, List.nil_append] at ho5
              refine wpAnyC_one (i := 7) (by kernel_rfl) rfl ⟨⟨_, (hbx.trans ((hb5).mono hbx.size))⟩, rfl⟩ rfl (fun K hK => ?_)
              (go_simp; refine hK _ _ ?_; clear hK K)
              ((have ho8 := ho5.alloc (.cells #[(Value.int .i64 ((k : Int)))] 3)); (have hb8 := (bl_alloc hb5 : Below wz.heap.size wz (w5.alloc (.cells #[(Value.int .i64 ((k : Int)))] 3)))); (have hB8 := Blk.new w5 3 #[(Value.int .i64 ((k : Int)))]); refine wpAnyC_one (i := 8) (by kernel_rfl) rfl ⟨⟨_, (hbx.trans ((hb8).mono hbx.size))⟩, rfl⟩ rfl (fun K hK => ?_); refine app_any (w0 := wz) (.tmp 40) (.tmp 42) 37 3 (.int .i64 0) 8 rfl infoInt undInts rfl (by decide) hb8 _ _ 1 _ [(Value.int .i64 ((k : Int)))] rfl ho8 rfl (.inr ⟨_, _, rfl, one_cell hB8⟩) (intsV_one [(k : Int)]) (by omega) (fun v9 w9 ho9 hb9 _ => hK _ _ ?_); clear hK K; simp only [Act.put, List.getElem_toArray, List.getElem_cons_succ, List.getElem_cons_zero, List.setIfInBounds_toArray, List.set_cons_succ, List.set_cons_zero]; obtain ⟨A9, ca9, rfl, ⟨hI9, hn9⟩, hY9⟩ := own_first ho9; refine wpAnyC_one (i := 9) (by kernel_rfl) rfl ⟨⟨_, (hbx.trans ((hb9).mono hbx.size))⟩, rfl⟩ rfl (fun K hK => ?_); go_simp; go_at_call 93; (have hcl := IH.out (first ++ [k]) A9 ca9 w9 (HP.out.below (hbwz.trans (hb9.mono hbwz.size))) (hq.below (hbwz.trans (hb9.mono hbwz.size))) (by have := HL.out; simp; omega) (mem_snoc HQ.out hk9) hI9 hY9 hn9); rw [List.length_append, List.length_singleton] at hcl; (with_reducible refine Calls.mono hcl ?_); rintro e w10 ⟨⟨v10, rfl, us, hu, hru⟩, hb10⟩; refine hK _ _ ?_; clear hK K; (have hb11 := bl_call hb9 hb10); refine wpAnyC_one (i := 10) (by kernel_rfl) rfl ⟨⟨_, (hbx.trans ((hb11).mono hbx.size))⟩, rfl⟩ rfl (fun K hK => ?_); refine app_any (w0 := W) (.tmp 35) (.tmp 44) 89 37 (.slice none 0 0) 24 rfl infoIS undIS rfl (by decide) (hbx.trans ((hb11).mono hbx.size)) _ _ _ vs us rfl (own_below hvs hb11) hru.len (srcRow hu) hru.one (by have h1 := HN.out (k + 1) (by omega); rw [HE.out, List.length_append] at h1; omega) (fun v12 w12 ho12 hb12 hg12 => hK _ _ ?_); clear hK K; simp only [Act.put, List.getElem_toArray, List.getElem_cons_succ, List.getElem_cons_zero, List.setIfInBounds_toArray, List.set_cons_succ, List.set_cons_zero]; refine wpAnyC_one (i := 11) (by kernel_rfl) rfl ⟨⟨_, hb12⟩, rfl⟩ rfl (fun K hK => ?_); (go_simp; refine hK _ _ ?_; clear hK K); refine wpAnyC_done (by kernel_rfl) ⟨⟨_, hb12⟩, rfl⟩ ?_ _; (have hfin : Hid (RefP (allQTo T m r first (k + 1)) W.heap.size w12 v12) := Lib.hid (by rw [HE.out]; exact ⟨vs ++ us, by rw [List.length_append]; exact ho12, RowsP.app (RowsP.grow (own_below hvs hb11) hg12 hru) (RowsP.grow (own_below hvs hb11) hg12 (hrs.below hb11))⟩)); clear ho12 hg12 hru hu hvs hrs ho9 hB8 ho8; go_wp2; go_roundw; (case rel => exact ⟨k + 1, by omega, by go_num, hfin.out, hb12⟩); (case measure => simp [intOf]; omega))
            · (go_simp; refine hK _ _ ?_; clear hK K)
              (refine wpAnyC_one (i := 5) (by kernel_rfl) rfl ⟨⟨_, (hbx.trans (((bl_drew (bl_alloc (bl_alloc (Below.refl _ _))))).mono hbx.size))⟩, rfl⟩ rfl (fun K hK => ?_); refine app_any (w0 := wz) (.tmp 38) (.tmp 39) 37 3 (.int .i64 0) 8 rfl infoInt undInts rfl (by decide) ((bl_drew (bl_alloc (bl_alloc (Below.refl _ _))))) (.slice (some ⟨wz.heap.size, 0, none⟩) 0 0) 0 first.length [] (intsV (ints first)) rfl (own_drew ((own_made (Nat.le_refl _) rfl).alloc _)) (by rw [intsV_len, ints_len, Nat.mul_one]) (srcFirst (HI.out.below (hbwz.trans (((bl_drew (bl_alloc (bl_alloc (Below.refl _ _))))).mono hbwz.size))) HF.out) (intsV_one _) (by omega) (fun v5 w5 ho5 hb5 hg5 => hK _ _ ?_); clear hK K; simp only [Act.put, List.getElem_toArray, List.getElem_cons_succ, List.getElem_cons_zero, List.setIfInBounds_toArray, List.set_cons_succ, List.set_cons_zero]; rw [Nat.zero_add, List.nil_append] at ho5)
              ((have ho8 := ho5); (have hb8 := hb5); (have hB8 := hg5 (wz.heap.size + 1) _ _ (blk_drew (blk_new_at (by simp))) (by simp [Value.ownBlock])); refine wpAnyC_one (i := 8) (by kernel_rfl) rfl ⟨⟨_, (hbx.trans ((hb8).mono hbx.size))⟩, rfl⟩ rfl (fun K hK => ?_); refine app_any (w0 := wz) (.tmp 40) (.tmp 42) 37 3 (.int .i64 0) 8 rfl infoInt undInts rfl (by decide) hb8 _ _ 1 _ [(Value.int .i64 ((k : Int)))] rfl ho8 rfl (.inr ⟨_, _, rfl, one_cell hB8⟩) (intsV_one [(k : Int)]) (by omega) (fun v9 w9 ho9 hb9 _ => hK _ _ ?_); clear hK K; simp only [Act.put, List.getElem_toArray, List.getElem_cons_succ, List.getElem_cons_zero, List.setIfInBounds_toArray, List.set_cons_succ, List.set_cons_zero]; obtain ⟨A9, ca9, rfl, ⟨hI9, hn9⟩, hY9⟩ := own_first ho9; refine wpAnyC_one (i := 9) (by kernel_rfl) rfl ⟨⟨_, (hbx.trans ((hb9).mono hbx.size))⟩, rfl⟩ rfl (fun K hK => ?_); go_simp; go_at_call 93; (have hcl := IH.out (first ++ [k]) A9 ca9 w9 (HP.out.below (hbwz.trans (hb9.mono hbwz.size))) (hq.below (hbwz.trans (hb9.mono hbwz.size))) (by have := HL.out; simp; omega) (mem_snoc HQ.out hk9) hI9 hY9 hn9); rw [List.length_append, List.length_singleton] at hcl; (with_reducible refine Calls.mono hcl ?_); rintro e w10 ⟨⟨v10, rfl, us, hu, hru⟩, hb10⟩; refine hK _ _ ?_; clear hK K; (have hb11 := bl_call hb9 hb10); refine wpAnyC_one (i := 10) (by kernel_rfl) rfl ⟨⟨_, (hbx.trans ((hb11).mono hbx.size))⟩, rfl⟩ rfl (fun K hK => ?_); refine app_any (w0 := W) (.tmp 35) (.tmp 44) 89 37 (.slice none 0 0) 24 rfl infoIS undIS rfl (by decide) (hbx.trans ((hb11).mono hbx.size)) _ _ _ vs us rfl (own_below hvs hb11) hru.len (srcRow hu) hru.one (by have h1 := HN.out (k + 1) (by omega); rw [HE.out, List.length_append] at h1; omega) (fun v12 w12 ho12 hb12 hg12 => hK _ _ ?_); clear hK K; simp only [Act.put, List.getElem_toArray, List.getElem_cons_succ, List.getElem_cons_zero, List.setIfInBounds_toArray, List.set_cons_succ, List.set_cons_zero]; refine wpAnyC_one (i := 11) (by kernel_rfl) rfl ⟨⟨_, hb12⟩, rfl⟩ rfl (fun K hK => ?_); (go_simp; refine hK _ _ ?_; clear hK K); refine wpAnyC_done (by kernel_rfl) ⟨⟨_, hb12⟩, rfl⟩ ?_ _; (have hfin : Hid (RefP (allQTo T m r first (k + 1)) W.heap.size w12 v12) := Lib.hid (by rw [HE.out]; exact ⟨vs ++ us, by rw [List.length_append]; exact ho12, RowsP.app (RowsP.grow (own_below hvs hb11) hg12 hru) (RowsP.grow (own_below hvs hb11) hg12 (hrs.below hb11))⟩)); clear ho12 hg12 hru hu hvs hrs ho9 hB8 ho8; go_wp2; go_roundw; (case rel => exact ⟨k + 1, by omega, by go_num, hfin.out, hb12⟩); (case measure => simp [intOf]; omega))
          · (go_simp; refine hK _ _ ?_; clear hK K)
            refine wpAnyC_one (i := 3) (by kernel_rfl) rfl ⟨⟨_, (hbx.trans ((bl_alloc hd0).mono hbx.size))⟩, rfl⟩ rfl (fun K hK => ?_)
            (go_simp; refine hK _ _ ?_; clear hK K)
            (refine wpAnyC_one (i := 5) (by kernel_rfl) rfl ⟨⟨_, (hbx.trans (((bl_drew (bl_alloc (bl_alloc (Below.refl _ _))))).mono hbx.size))⟩, rfl⟩ rfl (fun K hK => ?_); refine app_any (w0 := wz) (.tmp 38) (.tmp 39) 37 3 (.int .i64 0) 8 rfl infoInt undInts rfl (by decide) ((bl_drew (bl_alloc (bl_alloc (Below.refl _ _))))) (.slice (some ⟨wz.heap.size + 1, 0, none⟩) 0 0) 0 first.length [] (intsV (ints first)) rfl (own_drew (own_made (by simp) (by simp))) (by rw [intsV_len, ints_len, Nat.mul_one]) (srcFirst (HI.out.below (hbwz.trans (((bl_drew (bl_alloc (bl_alloc (Below.refl _ _))))).mono hbwz.size))) HF.out) (intsV_one _) (by omega) (fun v5 w5 ho5 hb5 hg5 => hK _ _ ?_); clear hK K; simp only [Act.put, List.getElem_toArray, List.getElem_cons_succ, List.getElem_cons_zero, List.setIfInBounds_toArray, List.set_cons_succ, List.set_cons_zero]; rw [Nat.zero_add, List.nil_append] at ho5)
            ((have ho8 := ho5); (have hb8 := hb5); (have hB8 := hg5 wz.heap.size _ _ (blk_drew ((Blk.new wz _ _).alloc _)) (by simp [Value.ownBlock])); refine wpAnyC_one (i := 8) (by kernel_rfl) rfl ⟨⟨_, (hbx.trans ((hb8).mono hbx.size))⟩, rfl⟩ rfl (fun K hK => ?_); refine app_any (w0 := wz) (.tmp 40) (.tmp 42) 37 3 (.int .i64 0) 8 rfl infoInt undInts rfl (by decide) hb8 _ _ 1 _ [(Value.int .i64 ((k : Int)))] rfl ho8 rfl (.inr ⟨_, _, rfl, one_cell hB8⟩) (intsV_one [(k : Int)]) (by omega) (fun v9 w9 ho9 hb9 _ => hK _ _ ?_); clear hK K; simp only [Act.put, List.getElem_toArray, List.getElem_cons_succ, List.getElem_cons_zero, List.setIfInBounds_toArray, List.set_cons_succ, List.set_cons_zero]; obtain ⟨A9, ca9, rfl, ⟨hI9, hn9⟩, hY9⟩ := own_first ho9; refine wpAnyC_one (i := 9) (by kernel_rfl) rfl ⟨⟨_, (hbx.trans ((hb9).mono hbx.size))⟩, rfl⟩ rfl (fun K hK => ?_); go_simp; go_at_call 93; (have hcl := IH.out (first ++ [k]) A9 ca9 w9 (HP.out.below (hbwz.trans (hb9.mono hbwz.size))) (hq.below (hbwz.trans (hb9.mono hbwz.size))) (by have := HL.out; simp; omega) (mem_snoc HQ.out hk9) hI9 hY9 hn9); rw [List.length_append, List.length_singleton] at hcl; (with_reducible refine Calls.mono hcl ?_); rintro e w10 ⟨⟨v10, rfl, us, hu, hru⟩, hb10⟩; refine hK _ _ ?_; clear hK K; (have hb11 := bl_call hb9 hb10); refine wpAnyC_one (i := 10) (by kernel_rfl) rfl ⟨⟨_, (hbx.trans ((hb11).mono hbx.size))⟩, rfl⟩ rfl (fun K hK => ?_); refine app_any (w0 := W) (.tmp 35) (.tmp 44) 89 37 (.slice none 0 0) 24 rfl infoIS undIS rfl (by decide) (hbx.trans ((hb11).mono hbx.size)) _ _ _ vs us rfl (own_below hvs hb11) hru.len (srcRow hu) hru.one (by have h1 := HN.out (k + 1) (by omega); rw [HE.out, List.length_append] at h1; omega) (fun v12 w12 ho12 hb12 hg12 => hK _ _ ?_); clear hK K; simp only [Act.put, List.getElem_toArray, List.getElem_cons_succ, List.getElem_cons_zero, List.setIfInBounds_toArray, List.set_cons_succ, List.set_cons_zero]; refine wpAnyC_one (i := 11) (by kernel_rfl) rfl ⟨⟨_, hb12⟩, rfl⟩ rfl (fun K hK => ?_); (go_simp; refine hK _ _ ?_; clear hK K); refine wpAnyC_done (by kernel_rfl) ⟨⟨_, hb12⟩, rfl⟩ ?_ _; (have hfin : Hid (RefP (allQTo T m r first (k + 1)) W.heap.size w12 v12) := Lib.hid (by rw [HE.out]; exact ⟨vs ++ us, by rw [List.length_append]; exact ho12, RowsP.app (RowsP.grow (own_below hvs hb11) hg12 hru) (RowsP.grow (own_below hvs hb11) hg12 (hrs.below hb11))⟩)); clear ho12 hg12 hru hu hvs hrs ho9 hB8 ho8; go_wp2; go_roundw; (case rel => exact ⟨k + 1, by omega, by go_num, hfin.out, hb12⟩); (case measure => simp [intOf]; omega))
      · obtain rfl : k = T.pts.length := by omega
        have hfin : Hid (RefP (allQ T m (r + 1) first) w.heap.size wr u7) := Lib.hid (by
          obtain ⟨vs, h1, h2⟩ := hR
          exact ⟨vs, Joins.ownsRow_le h1 hbW2, h2⟩)
        clear hR
        go_wp2
        go_ret
        exact ⟨⟨_, rfl, hfin.out⟩, hbW.trans (hbr.mono hbW2)⟩
end Go.Proofs.Ytfgplmgkejeoiaa
