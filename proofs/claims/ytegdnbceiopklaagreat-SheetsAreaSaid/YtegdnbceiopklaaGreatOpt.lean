/- How a law of sheets reads an array of two points. -/
import Derived.Test.YtegdnbceiopklaaGreatOpc
namespace Go.Proofs.YtegdnbceiopklaaGreat
open Go.ChangeShapes Go.WideShapes Go.Deep Go.RowKit

section
variable {H : Type} {enc : TypeId × Value → H}
theorem okWide_arr {P : Program} {w : World} {r : Reach} {base n : Nat} {t e : TypeId} {v : Value} (ht : P.underlying t = some (.array n e)) (h : Value.okWide P w r base t v) : ∃ cs, v = .agg cs ∧ cs.size = P.cellsOf t := by
  simp only [Value.okWide, ht] at h
  obtain ⟨cs, h1, h2, _⟩ := h
  exact ⟨cs, h1, h2⟩
set_option maxRecDepth 100000 in
theorem open_two {W : World} {r : Reach} {b0 : Nat} {v : Value} {d : DataW H} {p : List MemPlace} (hv : Value.okWide Tryz.prog W r b0 30 v) (h : DataW.Trod enc Tryz.prog W 0 (fun _ => true) true 30 v d p) :
    ∃ a b : Pt, v = .agg #[(Value.int .i64 (a.1)), (Value.int .i64 (a.2)), (Value.int .i64 (b.1)), (Value.int .i64 (b.2))] := by
  obtain ⟨cs, rfl, hsz⟩ := okWide_arr Tryz.underlying30 hv
  obtain ⟨c0, c1, c2, c3, rfl⟩ := Go.Joins.array4 (hsz.trans (by kernel_rfl))
  obtain ⟨fuel, hf⟩ := h
  obtain ⟨xs, m, _, _, _, hx, hi⟩ := DataW.trod_array Tryz.underlying30 hf
  have k2 : Tryz.prog.cellsOf 29 = 2 := by kernel_rfl
  obtain ⟨y0, y1, rfl⟩ : ∃ y0 y1, xs = [y0, y1] := by
    match xs, hx with
    | [y0, y1], _ => exact ⟨y0, y1, rfl⟩
  have h0 := hi 0 (by decide)
  have h1 := hi 1 (by decide)
  simp only [k2, Value.cells, Nat.zero_mul, Nat.one_mul, List.drop_zero, List.take_succ_cons, List.take_zero, List.drop_succ_cons, List.getElem?_cons_zero, List.getElem?_cons_succ] at h0 h1
  obtain ⟨z4, z5, m3, _, _, g4, g5⟩ := trod_struct2 Tryz.underlying29 h0
  obtain ⟨z6, z7, m4, _, _, g6, g7⟩ := trod_struct2 Tryz.underlying29 h1
  simp only [cellsInt, List.drop_zero, List.take_succ_cons, List.take_zero, List.drop_succ_cons] at g4 g5 g6 g7
  obtain ⟨x4, rfl, _⟩ := int_f g4
  obtain ⟨x5, rfl, _⟩ := int_f g5
  obtain ⟨x6, rfl, _⟩ := int_f g6
  obtain ⟨x7, rfl, _⟩ := int_f g7
  exact ⟨(x4, x5), (x6, x7), rfl⟩
end
end Go.Proofs.YtegdnbceiopklaaGreat
