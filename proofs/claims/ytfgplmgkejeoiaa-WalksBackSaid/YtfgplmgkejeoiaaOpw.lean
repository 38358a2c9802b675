/- How the arguments of a law of walks are read: a track, a walk, a slice of numbers, structs of numbers and of slices. -/
import Derived.Test.YtfgplmgkejeoiaaOpen
import Derived.Test.YtfgplmgkejeoiaaInts
import Derived.Test.YtfgplmgkejeoiaaTrk
namespace Go.Proofs.Ytfgplmgkejeoiaa
open Go.ChangeShapes Go.WideShapes Go.Deep Go.RowKit

theorem cellsInt : Try.prog.cellsOf 3 = 1 := by kernel_rfl
section
variable {H : Type} {enc : TypeId × Value → H}
theorem open_numbers {W : World} {v : Value} {d : DataW H} {p : List MemPlace} (hv : ∃ a len cap, v = .slice a len cap) (h : DataW.Trod enc Try.prog W 0 (fun _ => true) true 37 v d p) :
    ∃ A ca l, v = .slice A l.length ca ∧ Ints W A l ∧ l.length ≤ 9223372036854775807 := by
  obtain ⟨fuel, hf⟩ := h
  obtain ⟨a0, n0, c0, rfl⟩ := hv
  rcases open_ints undInts und_int cellsInt hf with ⟨hcs, _⟩ | ⟨a, len, cap, zs, hcs, _, hl, hm, hz, _, hc, _⟩
  · simp only [Value.cells, List.cons.injEq, Value.slice.injEq, and_true] at hcs
    obtain ⟨rfl, rfl, rfl⟩ := hcs
    exact ⟨none, 0, [], rfl, .inl rfl, by simp⟩
  · simp only [Value.cells, List.cons.injEq, Value.slice.injEq, and_true] at hcs
    obtain ⟨rfl, rfl, rfl⟩ := hcs
    simp only [if_true] at hz
    have hML : maxLen ≤ 9223372036854775807 := by unfold maxLen; omega
    have e1 : (zs.take n0).length = n0 := by simp; omega
    refine ⟨some a, c0, zs.take n0, by rw [e1], ?_, by omega⟩
    rcases Nat.eq_zero_or_pos n0 with rfl | hpos
    · exact .inl (by simp)
    · obtain ⟨b, o, spot⟩ := a
      have hs : spot = none := by
        have e0 := hc 0 (by omega)
        simpa [Addr.add] using World.cell?_spot e0
      subst hs
      refine .inr ⟨b, o, rfl, ?_, fun i n hi => ?_⟩
      · have e0 := hc 0 (by omega)
        rw [add_at] at e0
        exact cell_lt e0
      · have hin : i < n0 := by
          have := (List.getElem?_eq_some_iff.1 hi).1
          omega
        have e0 := hc i (by omega)
        rw [add_at] at e0
        rw [e0]
        rw [List.getElem?_take_of_lt hin] at hi
        simp [List.getD, hi]
theorem slice_cap0 {W : World} {t e : TypeId} (ht : Try.prog.underlying t = some (.slice e)) {A : Option Addr} {n ca : Nat} {d : DataW H} {p : List MemPlace} (h : DataW.Trod enc Try.prog W 0 (fun _ => true) true t (.slice A n ca) d p) : A = none → ca = 0 := by
  intro hA
  subst hA
  obtain ⟨fuel, hf⟩ := h
  rcases open_slice ht hf with ⟨hcs, _⟩ | ⟨a, len, cap, m, n', D, Pl, hcs, _⟩
  · simp only [Value.cells, List.cons.injEq, Value.slice.injEq, and_true] at hcs
    exact hcs.2.2
  · simp [Value.cells] at hcs
theorem points_f {W : World} {c : Value} {n : Nat} {y : DataW H × List MemPlace} (h : DataW.trod enc Try.prog W 0 (fun _ => true) true n 22 [c] = some y) :
    ∃ A ca l, c = .slice A l.length ca ∧ Pts W A l ∧ l.length ≤ 9223372036854775807 := by
  obtain ⟨a, l, k, e⟩ := Go.Joins.slice_form undPts h
  simp only [List.cons.injEq, and_true] at e
  subst e
  exact open_points ⟨_, _, _, rfl⟩ ⟨n, by simpa [Value.cells] using h⟩
theorem numbers_f {W : World} {c : Value} {n : Nat} {y : DataW H × List MemPlace} (h : DataW.trod enc Try.prog W 0 (fun _ => true) true n 37 [c] = some y) :
    ∃ A ca l, c = .slice A l.length ca ∧ Ints W A l ∧ l.length ≤ 9223372036854775807 := by
  obtain ⟨a, l, k, e⟩ := Go.Joins.slice_form undInts h
  simp only [List.cons.injEq, and_true] at e
  subst e
  exact open_numbers ⟨_, _, _, rfl⟩ ⟨n, by simpa [Value.cells] using h⟩
theorem int_f {W : World} {c : Value} {n : Nat} {y : DataW H × List MemPlace} (h : DataW.trod enc Try.prog W 0 (fun _ => true) true n 3 [c] = some y) :
    ∃ x : Int, c = (Value.int .i64 (x)) ∧ -9223372036854775808 ≤ x ∧ x ≤ 9223372036854775807 := by
  obtain ⟨x, e, _, wx⟩ := DataW.trod_int und_int h
  simp only [List.cons.injEq, and_true] at e
  refine ⟨x, e, ?_⟩
  simp [Lit.wf, IntKind.min, IntKind.max, IntKind.bits, IntKind.signed] at wx
  omega

set_option maxRecDepth 100000 in
theorem open_cut {W : World} {r : Reach} {b0 : Nat} {v : Value} {d : DataW H} {p : List MemPlace} (hv : Value.okWide Try.prog W r b0 24 v) (h : DataW.Trod enc Try.prog W 0 (fun _ => true) true 24 v d p) :
    ∃ a b : Int, v = .agg #[(Value.int .i64 (a)), (Value.int .i64 (b))] ∧ (-9223372036854775808 ≤ a ∧ a ≤ 9223372036854775807) ∧ (-9223372036854775808 ≤ b ∧ b ≤ 9223372036854775807) := by
  obtain ⟨c0, c1, y0, y1, m, rfl, rfl, rfl, h0, h1⟩ := Go.Joins.open_agg2 Try.underlying24 (by kernel_rfl) (by kernel_rfl) hv h
  obtain ⟨a, rfl, ha⟩ := int_f h0
  obtain ⟨b, rfl, hb⟩ := int_f h1
  exact ⟨a, b, rfl, ha, hb⟩
set_option maxRecDepth 100000 in
theorem open_track {W : World} {r : Reach} {b0 : Nat} {v : Value} {d : DataW H} {p : List MemPlace} (hv : Value.okWide Try.prog W r b0 36 v) (h : DataW.Trod enc Try.prog W 0 (fun _ => true) true 36 v d p) :
    ∃ (A : Option Addr) (ca : Nat) (T : Trk), v = (Value.agg #[.slice A T.pts.length ca, (Value.int .i64 (T.closed)), (Value.int .i64 (T.lo)), (Value.int .i64 (T.hi))]) ∧ Pts W A T.pts ∧ T.pts.length ≤ 9223372036854775807 ∧ (-9223372036854775808 ≤ T.closed ∧ T.closed ≤ 9223372036854775807) ∧ (-9223372036854775808 ≤ T.lo ∧ T.lo ≤ 9223372036854775807) ∧ (-9223372036854775808 ≤ T.hi ∧ T.hi ≤ 9223372036854775807) := by
  obtain ⟨cs, rfl, hsz⟩ := okWide_struct Try.underlying36 hv
  obtain ⟨c0, c1, c2, c3, rfl⟩ := Go.Joins.array4 (hsz.trans (by kernel_rfl))
  obtain ⟨fuel, hf⟩ := h
  obtain ⟨y0, y1, y2, n, hx, _, h0, h1, h2⟩ := Go.Deep.trod_struct3 Try.underlying36 hf
  have k0 : Try.prog.cellsOf 22 = 1 := by kernel_rfl
  have k2 : Try.prog.cellsOf 34 = 2 := by kernel_rfl
  simp only [Value.cells, k0, k2, cellsInt, List.drop_zero, List.take_succ_cons, List.take_zero, List.drop_succ_cons] at h0 h1 h2
  obtain ⟨z0, z1, n2, hx2, _, g0, g1⟩ := trod_struct2 Try.underlying34 h2
  simp only [cellsInt, List.drop_zero, List.take_succ_cons, List.take_zero, List.drop_succ_cons] at g0 g1
  obtain ⟨A, ca, l, rfl, hP, hl⟩ := points_f h0
  obtain ⟨c, rfl, hc⟩ := int_f h1
  obtain ⟨lo, rfl, hlo⟩ := int_f g0
  obtain ⟨hi, rfl, hhi⟩ := int_f g1
  exact ⟨A, ca, ⟨l, c, lo, hi⟩, rfl, hP, hl, hc, hlo, hhi⟩
end
end Go.Proofs.Ytfgplmgkejeoiaa
