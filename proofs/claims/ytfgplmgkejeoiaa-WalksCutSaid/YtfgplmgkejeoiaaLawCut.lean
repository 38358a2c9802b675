/- The law WalksCut answers true for any points and any two numbers, and leaves them as they were. -/
import Derived.Test.YtfgplmgkejeoiaaCutB
import Derived.Test.YtfgplmgkejeoiaaOpw
import Derived.Test.YtfgplmgkejeoiaaRows
namespace Go.Proofs.Ytfgplmgkejeoiaa
open Go.ChangeShapes Go.WideShapes Go.RowKit Go.Deep

theorem slice_len_cap {H : Type} {enc : TypeId × Value → H} {W : World} {t e : TypeId} (ht : Try.prog.underlying t = some (.slice e)) {A : Option Addr} {n ca : Nat} {d : DataW H} {p : List MemPlace} (h : DataW.Trod enc Try.prog W 0 (fun _ => true) true t (.slice A n ca) d p) : n ≤ ca := by
  obtain ⟨fuel, hf⟩ := h
  rcases open_slice ht hf with ⟨hcs, _⟩ | ⟨a, len, cap, m, n', D, Pl, hcs, _, hl, _⟩
  · simp only [Value.cells, List.cons.injEq, Value.slice.injEq, and_true] at hcs
    omega
  · simp only [Value.cells, List.cons.injEq, Value.slice.injEq, and_true] at hcs
    omega
theorem lawCut_any (A : Option Addr) (ca : Nat) (l : List Pt) (x y : Int) (w : World) (ha : Pts w A l) (hla : l.length ≤ 9223372036854775807) (hcap : l.length ≤ ca) :
    Calls Try.prog 3 #[.slice A l.length ca, .agg #[(Value.int .i64 (x)), (Value.int .i64 (y))]] w fun e w' => e = .returned (.bool true) ∧ Below w.heap.size w w' := by
  by_cases hbad : 40 < l.length ∨ walkB l = false ∨ x < 0 ∨ y ≤ x ∨ (l.length : Int) ≤ y
  · exact cut_off A ca l x y w ha hla hbad
  · have hw : walkB l = true := by
      cases h : walkB l with
      | true => rfl
      | false => exact absurd (.inr (.inl h)) hbad
    have h2 : 0 ≤ x ∧ x < y ∧ y < (l.length : Int) := by
      exact ⟨Int.not_lt.1 fun h => hbad (.inr (.inr (.inl h))), Int.not_le.1 fun h => hbad (.inr (.inr (.inr (.inl h)))), Int.not_le.1 fun h => hbad (.inr (.inr (.inr (.inr h))))⟩
    obtain ⟨b, o, rfl, hp⟩ := ha.at_ (k := 0) (by omega)
    obtain ⟨i, rfl⟩ := Int.eq_ofNat_of_zero_le h2.1
    obtain ⟨j, rfl⟩ := Int.eq_ofNat_of_zero_le (show 0 ≤ y by omega)
    exact cut_in b o ca l i j w hp hw hcap (by omega) (by omega)
section
open Go.ChangeAt
set_option maxRecDepth 100000 in
theorem walksCut_lifted (os : Os) (started : os.Started) (H : Type) (enc : TypeId × Value → H) :
    ReturnsInHanded {} Try.checked os 3 .any (Rows.walksCutSpec.pre6 enc Try.prog Try.f3 Rows.walksCutRow.domain false) (Rows.walksCutSpec.post enc Try.prog Try.f3 false true false false) := by
  refine returnsInHanded_of_change (C := Try.checked) own_knob started (by kernel_rfl) Try.func3
    (ChangeSpec.witness6 (enc := enc) (C := Try.checked) false ⟨#[], #[.slice none 0 0, .agg #[.int .i64 0, .int .i64 0]], []⟩ 8 (by kernel_rfl) (by kernel_rfl) (by kernel_rfl) (by kernel_rfl)) ?_
  intro W base args ds gs before hval0 hW hcnd _
  have hval : ∀ (j : Nat) t v, Try.f3.params[j]? = some t → args[j]? = some v → Value.okWide Try.prog W .any base t v := hval0
  have hW2 := hW
  obtain ⟨p, q, hA0, hV, rfl, hfz, hnd⟩ := hW
  have hA : DataW.TrodAll enc Try.prog W 0 (fun _ => true) true Try.f3.params.toList args.toList ds p := hA0
  rw [Try.params3] at hA hval
  obtain ⟨v0, v1, d0, d1, p0, p1, rfl, rfl, rfl, h0, h1⟩ := trodAll_two hA; obtain ⟨A, ca, l, rfl, hP0, hl0⟩ := open_points (okWide_slice undPts (hval 0 _ _ rfl rfl)) h0; obtain ⟨x, y, rfl, hx, hy⟩ := open_cut (hval 1 _ _ rfl rfl) h1; have hcp := slice_len_cap undPts h0
  obtain ⟨rfl, rfl⟩ := trodVars_none hV
  clear hA0 hval0
  simp only [List.append_nil, List.nil_append] at hW2
  (try simp only [List.append_nil, List.nil_append] at hA)
  refine (lawCut_any A ca l x y W hP0 hl0 hcp).mono fun e W2 ⟨he, hb⟩ => ?_
  subst he
  refine ⟨_, rfl, post_of_below (pa := _) (pv := []) hW2 (fun _ _ _ => trodAll_mk1 (shut_bool und_bool _)) (fun sp hs => args_stay hb (by rw [Try.params3]; intro t ht; simp at ht; (try rcases ht with rfl | rfl | rfl) <;> (try rcases ht with rfl | rfl) <;> (try subst ht) <;> exact ⟨by kernel_rfl, by decide +kernel⟩) (by rw [Try.params3]; exact hA) hs) (fun _ _ => rfl) (by simp) hb (ok_one (by kernel_rfl) rfl (okWide_bool_mk und_bool _))⟩

theorem walksCut_holds : Rows.WalksCutSaid :=
  OpenClaim.holds_of_wide 3 Try.f3 rfl rfl rfl rfl rfl rfl rfl ⟨rfl, rfl, rfl, rfl, rfl⟩ rfl rfl rfl rfl rfl (by kernel_rfl) Try.func3 (by kernel_rfl)
    (of_decide_eq_true (by kernel_rfl)) (by unfold Func.isWrapper; first | (rw [if_pos (by decide +kernel)]; kernel_rfl) | (rw [if_neg (by decide +kernel)]; exact ⟨rfl, rfl⟩))
    (fun os started H enc _ => walksCut_lifted os started H enc)
end
end Go.Proofs.Ytfgplmgkejeoiaa
