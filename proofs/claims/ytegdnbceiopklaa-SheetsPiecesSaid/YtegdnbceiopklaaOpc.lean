/- How the arguments of a law of sheets are read: controls, a sheet, structs of numbers. -/
import Derived.Test.YtegdnbceiopklaaOpen
import Derived.Test.YtegdnbceiopklaaInts
import Derived.Test.YtegdnbceiopklaaShL
namespace Go.Proofs.Ytegdnbceiopklaa
open Go.ChangeShapes Go.WideShapes Go.Deep Go.RowKit

theorem cellsInt : Try.prog.cellsOf 3 = 1 := by kernel_rfl
theorem undCtl : Try.prog.underlying 24 = some (.slice 67) := by kernel_rfl
theorem array6 {α : Type} {cs : Array α} (h : cs.size = 6) : ∃ c0 c1 c2 c3 c4 c5, cs = #[c0, c1, c2, c3, c4, c5] := by
  obtain ⟨l⟩ := cs
  simp only [List.size_toArray] at h
  match l, h with
  | [a, b, c, d, e, f], _ => exact ⟨a, b, c, d, e, f, rfl⟩
theorem recAt_of {α : Type} {enc : α → List Int} {K : Nat} (hK : ∀ a, (enc a).length = K) (hp : 0 < K) {w : World} {b o : Nat} {l : List α} (hlt : b < w.heap.size)
    (h : ∀ i a, l[i]? = some a → ∀ jj n, (enc a)[jj]? = some n → w.cell? ⟨b, o + (i * K + jj), none⟩ = some (Value.int .i64 (n))) : RecAt enc w b o l := by
  refine ⟨hlt, fun j u hj => ?_⟩
  have hjl := (List.getElem?_eq_some_iff.1 hj).1
  rw [recV_len hK] at hjl
  have hi : j / K < l.length := Nat.div_lt_of_lt_mul (by rw [Nat.mul_comm]; exact hjl)
  have hjj := Nat.mod_lt j hp
  have he : j = j / K * K + j % K := by rw [Nat.mul_comm]; exact (Nat.div_add_mod j K).symm
  have ha : l[j / K]? = some l[j / K] := List.getElem?_eq_getElem hi
  rw [he, recV_at hK l _ _ _ ha hjj] at hj
  obtain ⟨n, hn, rfl⟩ := Option.map_eq_some_iff.1 hj
  rw [he]
  exact h _ _ ha _ _ hn
section
variable {H : Type} {enc : TypeId × Value → H}
theorem int_f {W : World} {c : Value} {n : Nat} {y : DataW H × List MemPlace} (h : DataW.trod enc Try.prog W 0 (fun _ => true) true n 3 [c] = some y) :
    ∃ x : Int, c = (Value.int .i64 (x)) ∧ -9223372036854775808 ≤ x ∧ x ≤ 9223372036854775807 := by
  obtain ⟨x, e, _, wx⟩ := DataW.trod_int und_int h
  simp only [List.cons.injEq, and_true] at e
  refine ⟨x, e, ?_⟩
  simp [Lit.wf, IntKind.min, IntKind.max, IntKind.bits, IntKind.signed] at wx
  omega
set_option maxHeartbeats 1000000 in
theorem open_ctls {W : World} {v : Value} {d : DataW H} {p : List MemPlace} (hv : ∃ a len cap, v = .slice a len cap) (h : DataW.Trod enc Try.prog W 0 (fun _ => true) true 24 v d p) :
    ∃ A ca l, v = .slice A l.length ca ∧ Cts W A l ∧ l.length ≤ 9223372036854775807 := by
  obtain ⟨fuel, hf⟩ := h
  obtain ⟨a0, n0, c0, rfl⟩ := hv
  obtain ⟨fs, hfs, hfz, h0, h1, h2, h3, hone⟩ : ∃ fs, Try.prog.underlying 67 = some (.struct fs) ∧ fs.size = 4 ∧ (fs[0]?.map (·.type)) = some 3 ∧ (fs[1]?.map (·.type)) = some 3 ∧ (fs[2]?.map (·.type)) = some 3 ∧ (fs[3]?.map (·.type)) = some 3 ∧ oneCellFields Try.prog fs = true := ⟨_, Try.underlying67, by kernel_rfl, by kernel_rfl, by kernel_rfl, by kernel_rfl, by kernel_rfl, by kernel_rfl⟩
  rcases open_slice_fields undCtl hfs hone (by rw [hfz]; kernel_rfl) hf with ⟨hcs, _⟩ | ⟨a, len, cap, m, D, Pl, hcs, _, hl, hm, hmm, _, hi⟩
  · simp only [Value.cells, List.cons.injEq, Value.slice.injEq, and_true] at hcs
    obtain ⟨rfl, rfl, rfl⟩ := hcs
    exact ⟨none, 0, [], rfl, .inl rfl, by simp⟩
  · simp only [Value.cells, List.cons.injEq, Value.slice.injEq, and_true] at hcs
    obtain ⟨rfl, rfl, rfl⟩ := hcs
    simp only [if_true] at hmm
    subst hmm
    have hX : ∀ i, i < n0 → ∀ j, j < 4 → ∃ x : Int, W.cell? (a.add (i * 4 + j)) = some (Value.int .i64 (x)) := by
      intro i hin j hj4
      obtain ⟨ys, n, _, _, _, hj⟩ := hi i (by omega)
      obtain ⟨f, hf, ht⟩ : ∃ f, fs[j]? = some f ∧ f.type = 3 := by
        rcases j with _ | _ | _ | _ | j
        · exact Option.map_eq_some_iff.1 h0
        · exact Option.map_eq_some_iff.1 h1
        · exact Option.map_eq_some_iff.1 h2
        · exact Option.map_eq_some_iff.1 h3
        · omega
      obtain ⟨v0, y0, e0, _, r0⟩ := hj j f hf
      rw [ht] at r0
      rw [hfz] at e0
      obtain ⟨x, ex, _, _⟩ := DataW.trod_int und_int r0
      simp only [List.cons.injEq, and_true] at ex
      subst ex
      exact ⟨x, e0⟩
    have hML : maxLen ≤ 9223372036854775807 := by unfold maxLen; omega
    refine ⟨some a, m, (List.range n0).map fun i => ⟨((W.cell? (a.add (i * 4 + 0))).map intOfV).getD 0, ((W.cell? (a.add (i * 4 + 1))).map intOfV).getD 0, ((W.cell? (a.add (i * 4 + 2))).map intOfV).getD 0, ((W.cell? (a.add (i * 4 + 3))).map intOfV).getD 0⟩, by simp, ?_, by simp; omega⟩
    rcases Nat.eq_zero_or_pos n0 with rfl | hpos
    · exact .inl rfl
    · obtain ⟨b, o, spot⟩ := a
      have hs : spot = none := by
        obtain ⟨x, e0⟩ := hX 0 hpos 0 (by decide)
        simpa [Addr.add] using World.cell?_spot e0
      subst hs
      refine .inr ⟨b, o, rfl, recAt_of ctlE_len (by decide) ?_ fun i c hc jj n hn => ?_⟩
      · obtain ⟨x, e0⟩ := hX 0 hpos 0 (by decide)
        rw [add_at] at e0
        exact cell_lt e0
      · have hin : i < n0 := by
          have := (List.getElem?_eq_some_iff.1 hc).1
          simpa using this
        have hj4 : jj < 4 := by
          have := (List.getElem?_eq_some_iff.1 hn).1
          rwa [ctlE_len] at this
        simp only [List.getElem?_map, List.getElem?_range hin, Option.map_some, Option.some.injEq] at hc
        subst hc
        obtain ⟨x, e0⟩ := hX i hin jj hj4
        have e1 := e0
        rw [add_at] at e1
        rw [e1]
        rcases jj with _ | _ | _ | _ | jj
        all_goals first | omega | (simp only [ctlE, List.getElem?_cons_zero, List.getElem?_cons_succ, Option.some.injEq, Nat.zero_add, Nat.add_zero] at hn e0; subst hn; rw [e0]; rfl)
theorem ctls_f {W : World} {c : Value} {n : Nat} {y : DataW H × List MemPlace} (h : DataW.trod enc Try.prog W 0 (fun _ => true) true n 24 [c] = some y) :
    ∃ A ca l, c = .slice A l.length ca ∧ Cts W A l ∧ l.length ≤ 9223372036854775807 := by
  obtain ⟨a, l, k, e⟩ := Go.Joins.slice_form undCtl h
  simp only [List.cons.injEq, and_true] at e
  subst e
  exact open_ctls ⟨_, _, _, rfl⟩ ⟨n, by simpa [Value.cells] using h⟩
set_option maxRecDepth 100000 in
theorem open_deed {W : World} {r : Reach} {b0 : Nat} {v : Value} {d : DataW H} {p : List MemPlace} (hv : Value.okWide Try.prog W r b0 29 v) (h : DataW.Trod enc Try.prog W 0 (fun _ => true) true 29 v d p) :
    ∃ a b : Int, v = .agg #[(Value.int .i64 (a)), (Value.int .i64 (b))] ∧ (-9223372036854775808 ≤ a ∧ a ≤ 9223372036854775807) ∧ (-9223372036854775808 ≤ b ∧ b ≤ 9223372036854775807) := by
  obtain ⟨c0, c1, y0, y1, m, rfl, rfl, rfl, h0, h1⟩ := Go.Joins.open_agg2 Try.underlying29 (by kernel_rfl) (by kernel_rfl) hv h
  obtain ⟨a, rfl, ha⟩ := int_f h0
  obtain ⟨b, rfl, hb⟩ := int_f h1
  exact ⟨a, b, rfl, ha, hb⟩
def I64 (n : Int) : Prop := -9223372036854775808 ≤ n ∧ n ≤ 9223372036854775807
set_option maxRecDepth 100000 in
theorem open_sheet {W : World} {r : Reach} {b0 : Nat} {v : Value} {d : DataW H} {p : List MemPlace} (hv : Value.okWide Try.prog W r b0 26 v) (h : DataW.Trod enc Try.prog W 0 (fun _ => true) true 26 v d p) :
    ∃ (A : Option Addr) (ca : Nat) (S : Sht), v = (Value.agg #[(Value.int .i64 (S.xlo)), (Value.int .i64 (S.xhi)), (Value.int .i64 (S.ylo)), (Value.int .i64 (S.yhi)), .slice A S.cs.length ca, (Value.int .i64 (S.wrong))]) ∧ Cts W A S.cs ∧ S.cs.length ≤ 9223372036854775807 ∧ I64 S.xlo ∧ I64 S.xhi ∧ I64 S.ylo ∧ I64 S.yhi ∧ I64 S.wrong := by
  obtain ⟨cs, rfl, hsz⟩ := okWide_struct Try.underlying26 hv
  obtain ⟨c0, c1, c2, c3, c4, c5, rfl⟩ := array6 (hsz.trans (by kernel_rfl))
  obtain ⟨fuel, hf⟩ := h
  obtain ⟨y0, y1, y2, y3, n, hx, _, h0, h1, h2, h3⟩ := Go.Joins.trod_struct4 Try.underlying26 hf
  have k0 : Try.prog.cellsOf 24 = 1 := by kernel_rfl
  have k2 : Try.prog.cellsOf 23 = 2 := by kernel_rfl
  simp only [Value.cells, k0, k2, cellsInt, List.drop_zero, List.take_succ_cons, List.take_zero, List.drop_succ_cons] at h0 h1 h2 h3
  obtain ⟨z0, z1, n2, hx2, _, g0, g1⟩ := trod_struct2 Try.underlying23 h0
  obtain ⟨z2, z3, n3, hx3, _, g2, g3⟩ := trod_struct2 Try.underlying23 h1
  simp only [cellsInt, List.drop_zero, List.take_succ_cons, List.take_zero, List.drop_succ_cons] at g0 g1 g2 g3
  obtain ⟨A, ca, l, rfl, hP, hl⟩ := ctls_f h2
  obtain ⟨x1, rfl, b1⟩ := int_f g0
  obtain ⟨x2, rfl, b2⟩ := int_f g1
  obtain ⟨x3, rfl, b3⟩ := int_f g2
  obtain ⟨x4, rfl, b4⟩ := int_f g3
  obtain ⟨x5, rfl, b5⟩ := int_f h3
  exact ⟨A, ca, ⟨x1, x2, x3, x4, l, x5⟩, rfl, hP, hl, b1, b2, b3, b4, b5⟩
end
end Go.Proofs.Ytegdnbceiopklaa
