/- The law WalksMeter answers true for any track, walk and elbows, and leaves them as they were. -/
import Derived.Test.YtfgplmgkejeoiaaMetIn
import Derived.Test.YtfgplmgkejeoiaaOpw
import Derived.Test.YtfgplmgkejeoiaaRows
namespace Go.Proofs.Ytfgplmgkejeoiaa
open Go.ChangeShapes Go.WideShapes Go.RowKit Go.Deep
attribute [local go_sem] After.cell After.frozen

set_option maxRecDepth 100000 in
set_option maxHeartbeats 2000000 in
theorem meter_off (A B E F : Option Addr) (ca cb ce cf : Nat) (T : Trk) (m : List Pt) (l r : List Int) (w : World) (ha : Pts w A T.pts) (hla : T.pts.length ≤ 9223372036854775807) (hb : Pts w B m) (hlb : m.length ≤ 9223372036854775807) (hle : l.length ≤ 9223372036854775807) (hlf : r.length ≤ 9223372036854775807)
    (hbad : 40 < T.pts.length ∨ 40 < m.length ∨ 40 < l.length ∨ 40 < r.length ∨ chkT T m ≠ 0) :
    Calls Try.prog 11 #[(Value.agg #[.slice A T.pts.length ca, (Value.int .i64 (T.closed)), (Value.int .i64 (T.lo)), (Value.int .i64 (T.hi))]), .slice B m.length cb, .agg #[.slice E l.length ce, .slice F r.length cf]] w fun e w' => e = .returned (.bool true) ∧ Below w.heap.size w w' := by
  have eT : Blk ((w.alloc (.cells #[.slice A T.pts.length ca, (Value.int .i64 (T.closed)), (Value.int .i64 (T.lo)), (Value.int .i64 (T.hi))] 36)).alloc (.cells #[.slice E l.length ce, .slice F r.length cf] 60)) w.heap.size 36 #[.slice A T.pts.length ca, (Value.int .i64 (T.closed)), (Value.int .i64 (T.lo)), (Value.int .i64 (T.hi))] := (Blk.new w _ _).alloc _
  have eX : Blk ((w.alloc (.cells #[.slice A T.pts.length ca, (Value.int .i64 (T.closed)), (Value.int .i64 (T.lo)), (Value.int .i64 (T.hi))] 36)).alloc (.cells #[.slice E l.length ce, .slice F r.length cf] 60)) (w.heap.size + 1) 60 #[.slice E l.length ce, .slice F r.length cf] := Blk.new_at (by simp)
  have ya := eT.cell 0
  have ye := eX.cell 0
  have yf := eX.cell 1
  simp only [List.getElem?_toArray, List.getElem?_cons_zero, List.getElem?_cons_succ] at ya ye yf
  by_cases h : 40 < T.pts.length ∨ 40 < m.length ∨ 40 < l.length ∨ 40 < r.length
  · clear hbad ha hb
    rcases h with h | h | h | h
    all_goals
      go_enter Try.func11, Try.ntmps11
      go_wp2_with ((go_at_call 14); (with_reducible refine Calls.mono (works_any _) ?_); rintro e w1 ⟨rfl, hb1⟩)
      all_goals go_ret
      all_goals exact ⟨rfl, by (repeat (first | with_reducible exact Below.refl _ _ | with_reducible apply bl_alloc | with_reducible apply bl_drew | with_reducible apply bl_after | (with_reducible refine bl_call ?_ (by assumption))))⟩
  · have hn : (chkT T m != 0) = true := by rw [bne_iff_ne]; omega
    have hc := Lib.hid fun (W : World) (h : Below w.heap.size w W) => r5Check_any A B ca cb T m W (ha.below h) (by omega) (hb.below h) (by omega)
    have k1 : T.pts.length ≤ 40 := by omega
    have k2 : m.length ≤ 40 := by omega
    have k3 : l.length ≤ 40 := by omega
    have k4 : r.length ≤ 40 := by omega
    clear hbad h ha hb
    go_enter Try.func11, Try.ntmps11
    go_wp2_with (first | ((go_at_call 24); (with_reducible refine Calls.mono (hc.out _ (by (repeat (first | with_reducible exact Below.refl _ _ | with_reducible apply bl_alloc | with_reducible apply bl_drew | with_reducible apply bl_after | (with_reducible refine bl_call ?_ (by assumption)))))) ?_); rintro e w1 ⟨rfl, hb1⟩; first | ((with_reducible apply kp_in_step (hb := hb1)); (with_reducible assumption); rintro ⟨hk, hc, hf, hzc, hzf⟩) | ((with_reducible refine kp_in_first hb1 ?_); rintro ⟨hk, hc, hf, hzc, hzf⟩)) | ((go_at_call 14); (with_reducible refine Calls.mono (works_any _) ?_); rintro e w2 ⟨rfl, hb2⟩))
    go_ret
    exact ⟨rfl, by (repeat (first | with_reducible exact Below.refl _ _ | with_reducible apply bl_alloc | with_reducible apply bl_drew | with_reducible apply bl_after | (with_reducible refine bl_call ?_ (by assumption))))⟩
theorem lawMeter_any (A B E F : Option Addr) (ca cb ce cf : Nat) (T : Trk) (m : List Pt) (l r : List Int) (w : World) (ha : Pts w A T.pts) (hla : T.pts.length ≤ 9223372036854775807) (hb : Pts w B m) (hlb : m.length ≤ 9223372036854775807) (he : Ints w E l) (hle : l.length ≤ 9223372036854775807) (hf : Ints w F r) (hlf : r.length ≤ 9223372036854775807) :
    Calls Try.prog 11 #[(Value.agg #[.slice A T.pts.length ca, (Value.int .i64 (T.closed)), (Value.int .i64 (T.lo)), (Value.int .i64 (T.hi))]), .slice B m.length cb, .agg #[.slice E l.length ce, .slice F r.length cf]] w fun e w' => e = .returned (.bool true) ∧ Below w.heap.size w w' := by
  by_cases hbad : 40 < T.pts.length ∨ 40 < m.length ∨ 40 < l.length ∨ 40 < r.length ∨ chkT T m ≠ 0
  · exact meter_off A B E F ca cb ce cf T m l r w ha hla hb hlb hle hlf hbad
  · obtain ⟨hT, hm⟩ := chk_zero_inv (show chkT T m = 0 by omega)
    obtain ⟨b, o, rfl, hp⟩ := ha.at_ (k := 0) (by have := (trkB_bd hT).1; omega)
    obtain ⟨bm, om, rfl, hq⟩ := hb.at_ (k := 0) (by have := walkB_bd hm; omega)
    exact meter_in b o ca bm om cb E F ce cf T m l r w hp hq he (by omega) hf (by omega) hT hm
section
variable {H : Type} {enc : TypeId × Value → H}
set_option maxRecDepth 100000 in
theorem open_two {W : World} {r : Reach} {b0 : Nat} {v : Value} {d : DataW H} {p : List MemPlace} (hv : Value.okWide Try.prog W r b0 60 v) (h : DataW.Trod enc Try.prog W 0 (fun _ => true) true 60 v d p) :
    ∃ (E F : Option Addr) (ce cf : Nat) (l r : List Int), v = .agg #[.slice E l.length ce, .slice F r.length cf] ∧ Ints W E l ∧ l.length ≤ 9223372036854775807 ∧ Ints W F r ∧ r.length ≤ 9223372036854775807 := by
  obtain ⟨c0, c1, y0, y1, m, rfl, rfl, rfl, h0, h1⟩ := Go.Joins.open_agg2 Try.underlying60 (by kernel_rfl) (by kernel_rfl) hv h
  obtain ⟨E, ce, l, rfl, h2, h3⟩ := numbers_f h0
  obtain ⟨F, cf, r, rfl, h4, h5⟩ := numbers_f h1
  exact ⟨E, F, ce, cf, l, r, rfl, h2, h3, h4, h5⟩
end
section
open Go.ChangeAt
set_option maxRecDepth 100000 in
theorem walksMeter_lifted (os : Os) (started : os.Started) (H : Type) (enc : TypeId × Value → H) :
    ReturnsInHanded {} Try.checked os 11 .any (Rows.walksMeterSpec.pre6 enc Try.prog Try.f11 Rows.walksMeterRow.domain false) (Rows.walksMeterSpec.post enc Try.prog Try.f11 false true false false) := by
  refine returnsInHanded_of_change (C := Try.checked) own_knob started (by kernel_rfl) Try.func11
    (ChangeSpec.witness6 (enc := enc) (C := Try.checked) false ⟨#[], #[.agg #[.slice none 0 0, .int .i64 0, .int .i64 0, .int .i64 0], .slice none 0 0, .agg #[.slice none 0 0, .slice none 0 0]], []⟩ 8 (by kernel_rfl) (by kernel_rfl) (by kernel_rfl) (by kernel_rfl)) ?_
  intro W base args ds gs before hval0 hW hcnd _
  have hval : ∀ (j : Nat) t v, Try.f11.params[j]? = some t → args[j]? = some v → Value.okWide Try.prog W .any base t v := hval0
  have hW2 := hW
  obtain ⟨p, q, hA0, hV, rfl, hfz, hnd⟩ := hW
  have hA : DataW.TrodAll enc Try.prog W 0 (fun _ => true) true Try.f11.params.toList args.toList ds p := hA0
  rw [Try.params11] at hA hval
  obtain ⟨v0, v1, v2, d0, d1, d2, p0, p1, p2, rfl, rfl, rfl, h0, h1, h2⟩ := trodAll_three hA; obtain ⟨A, ca, T, rfl, hP0, hl0, hT1, hT2, hT3⟩ := open_track (hval 0 _ _ rfl rfl) h0; obtain ⟨B, cb, m, rfl, hP1, hl1⟩ := open_points (okWide_slice undPts (hval 1 _ _ rfl rfl)) h1; obtain ⟨E, F, ce, cf, l, r, rfl, hP2, hl2, hP3, hl3⟩ := open_two (hval 2 _ _ rfl rfl) h2
  obtain ⟨rfl, rfl⟩ := trodVars_none hV
  clear hA0 hval0
  simp only [List.append_nil, List.nil_append] at hW2
  (try simp only [List.append_nil, List.nil_append] at hA)
  refine (lawMeter_any A B E F ca cb ce cf T m l r W hP0 hl0 hP1 hl1 hP2 hl2 hP3 hl3).mono fun e W2 ⟨he, hb⟩ => ?_
  subst he
  refine ⟨_, rfl, post_of_below (pa := _) (pv := []) hW2 (fun _ _ _ => trodAll_mk1 (shut_bool und_bool _)) (fun sp hs => args_stay hb (by rw [Try.params11]; intro t ht; simp at ht; (try rcases ht with rfl | rfl | rfl) <;> (try rcases ht with rfl | rfl) <;> (try subst ht) <;> exact ⟨by kernel_rfl, by decide +kernel⟩) (by rw [Try.params11]; exact hA) hs) (fun _ _ => rfl) (by simp) hb (ok_one (by kernel_rfl) rfl (okWide_bool_mk und_bool _))⟩

theorem walksMeter_holds : Rows.WalksMeterSaid :=
  OpenClaim.holds_of_wide 11 Try.f11 rfl rfl rfl rfl rfl rfl rfl ⟨rfl, rfl, rfl, rfl, rfl⟩ rfl rfl rfl rfl rfl (by kernel_rfl) Try.func11 (by kernel_rfl)
    (of_decide_eq_true (by kernel_rfl)) (by unfold Func.isWrapper; first | (rw [if_pos (by decide +kernel)]; kernel_rfl) | (rw [if_neg (by decide +kernel)]; exact ⟨rfl, rfl⟩))
    (fun os started H enc _ => walksMeter_lifted os started H enc)
end
end Go.Proofs.Ytfgplmgkejeoiaa
