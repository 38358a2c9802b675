/- How the arguments of a law of disputes are read. -/
import Derived.Test.YthijegacjboclaaGreatOpen
import Derived.Test.YthijegacjboclaaGreatInts
import Derived.Test.YthijegacjboclaaGreatWhC
import Derived.Test.YthijegacjboclaaGreatDsr
namespace Go.Proofs.YthijegacjboclaaGreat
open Go.ChangeShapes Go.WideShapes Go.Deep Go.RowKit

theorem cellsInt : Tryz.prog.cellsOf 3 = 1 := by kernel_rfl
theorem undWks : Tryz.prog.underlying 28 = some (.slice 88) := by kernel_rfl
theorem recAt_of {α : Type} {enc : α → List Int} {K : Nat} (hK : ∀ a, (enc a).length = K) (hp : 0 < K) {w : World} {b o : Nat} {l : List α} (hlt : b < w.heap.size)
    (h : ∀ i a, l[i]? = some a → ∀ jj n, (enc a)[jj]? = some n → w.cell? ⟨b, o + (i * K + jj), none⟩ = some (Value.int .i64 (n))) : RecAt enc w b o l := by
  refine ⟨hlt, fun j u hj => ?_⟩
  have hjl := (List.getElem?_eq_some_iff.1 hj).1
  rw [recV_len hK] at hjl
  have hi : j / K < l.length := Nat.div_lt_of_lt_mul (by rw [Nat.mul_comm]; exact hjl)
  have hjj := Nat.mod_lt j hp
  have he : j = j / K * K + j % K := by rw [Nat.mul_comm]; exact (Nat.div_add_mod j K).symm
  have ha : l[j / K]? = some l[j / K] := List.getElem?_eq_getElem hi
  rw [he, recV_at hK l _ _ _ ha hjj] at hj
  obtain ⟨n, hn, rfl⟩ := Option.map_eq_some_iff.1 hj
  rw [he]
  exact h _ _ ha _ _ hn
section
variable {H : Type} {enc : TypeId × Value → H}
theorem int_f {W : World} {c : Value} {n : Nat} {y : DataW H × List MemPlace} (h : DataW.trod enc Tryz.prog W 0 (fun _ => true) true n 3 [c] = some y) :
    ∃ x : Int, c = (Value.int .i64 (x)) ∧ -9223372036854775808 ≤ x ∧ x ≤ 9223372036854775807 := by
  obtain ⟨x, e, _, wx⟩ := DataW.trod_int und_int h
  simp only [List.cons.injEq, and_true] at e
  refine ⟨x, e, ?_⟩
  simp [Lit.wf, IntKind.min, IntKind.max, IntKind.bits, IntKind.signed] at wx
  omega
set_option maxHeartbeats 1000000 in
theorem open_numbers {W : World} {v : Value} {d : DataW H} {p : List MemPlace} (hv : ∃ a len cap, v = .slice a len cap) (h : DataW.Trod enc Tryz.prog W 0 (fun _ => true) true 23 v d p) :
    ∃ A ca l, v = .slice A l.length ca ∧ Ints W A l ∧ l.length ≤ 9223372036854775807 := by
  obtain ⟨fuel, hf⟩ := h
  obtain ⟨a0, n0, c0, rfl⟩ := hv
  rcases open_ints undInts und_int cellsInt hf with ⟨hcs, _⟩ | ⟨a, len, cap, zs, hcs, _, hl, hm, hz, _, hc, _⟩
  · simp only [Value.cells, List.cons.injEq, Value.slice.injEq, and_true] at hcs
    obtain ⟨rfl, rfl, rfl⟩ := hcs
    exact ⟨none, 0, [], rfl, .inl rfl, by simp⟩
  · simp only [Value.cells, List.cons.injEq, Value.slice.injEq, and_true] at hcs
    obtain ⟨rfl, rfl, rfl⟩ := hcs
    simp only [if_true] at hz
    have hML : maxLen ≤ 9223372036854775807 := by unfold maxLen; omega
    have e1 : (zs.take n0).length = n0 := by simp; omega
    refine ⟨some a, c0, zs.take n0, by rw [e1], ?_, by omega⟩
    rcases Nat.eq_zero_or_pos n0 with rfl | hpos
    · exact .inl (by simp)
    · obtain ⟨b, o, spot⟩ := a
      have hs : spot = none := by
        have e0 := hc 0 (by omega)
        simpa [Addr.add] using World.cell?_spot e0
      subst hs
      refine .inr ⟨b, o, rfl, ?_, fun i n hi => ?_⟩
      · have e0 := hc 0 (by omega)
        rw [add_at] at e0
        exact cell_lt e0
      · have hin : i < n0 := by
          have := (List.getElem?_eq_some_iff.1 hi).1
          omega
        have e0 := hc i (by omega)
        rw [add_at] at e0
        rw [e0]
        rw [List.getElem?_take_of_lt hin] at hi
        simp [List.getD, hi]
theorem points_f {W : World} {c : Value} {n : Nat} {y : DataW H × List MemPlace} (h : DataW.trod enc Tryz.prog W 0 (fun _ => true) true n 22 [c] = some y) :
    ∃ A ca l, c = .slice A l.length ca ∧ Pts W A l ∧ l.length ≤ 9223372036854775807 := by
  obtain ⟨a, l, k, e⟩ := Go.Joins.slice_form undPts h
  simp only [List.cons.injEq, and_true] at e
  subst e
  exact open_points ⟨_, _, _, rfl⟩ ⟨n, by simpa [Value.cells] using h⟩
theorem numbers_f {W : World} {c : Value} {n : Nat} {y : DataW H × List MemPlace} (h : DataW.trod enc Tryz.prog W 0 (fun _ => true) true n 23 [c] = some y) :
    ∃ A ca l, c = .slice A l.length ca ∧ Ints W A l ∧ l.length ≤ 9223372036854775807 := by
  obtain ⟨a, l, k, e⟩ := Go.Joins.slice_form undInts h
  simp only [List.cons.injEq, and_true] at e
  subst e
  exact open_numbers ⟨_, _, _, rfl⟩ ⟨n, by simpa [Value.cells] using h⟩
set_option maxHeartbeats 1000000 in
theorem open_wks {W : World} {v : Value} {d : DataW H} {p : List MemPlace} (hv : ∃ a len cap, v = .slice a len cap) (h : DataW.Trod enc Tryz.prog W 0 (fun _ => true) true 28 v d p) :
    ∃ A ca l, v = .slice A l.length ca ∧ Wks W A l ∧ l.length ≤ 9223372036854775807 := by
  obtain ⟨fuel, hf⟩ := h
  obtain ⟨a0, n0, c0, rfl⟩ := hv
  obtain ⟨fs, hfs, hfz, h0, h1, h2, h3, h4, hone⟩ : ∃ fs, Tryz.prog.underlying 88 = some (.struct fs) ∧ fs.size = 5 ∧ (fs[0]?.map (·.type)) = some 3 ∧ (fs[1]?.map (·.type)) = some 3 ∧ (fs[2]?.map (·.type)) = some 3 ∧ (fs[3]?.map (·.type)) = some 3 ∧ (fs[4]?.map (·.type)) = some 3 ∧ oneCellFields Tryz.prog fs = true := ⟨_, Tryz.underlying88, by kernel_rfl, by kernel_rfl, by kernel_rfl, by kernel_rfl, by kernel_rfl, by kernel_rfl, by kernel_rfl⟩
  rcases open_slice_fields undWks hfs hone (by rw [hfz]; kernel_rfl) hf with ⟨hcs, _⟩ | ⟨a, len, cap, m, D, Pl, hcs, _, hl, hm, hmm, _, hi⟩
  · simp only [Value.cells, List.cons.injEq, Value.slice.injEq, and_true] at hcs
    obtain ⟨rfl, rfl, rfl⟩ := hcs
    exact ⟨none, 0, [], rfl, .inl rfl, by simp⟩
  · simp only [Value.cells, List.cons.injEq, Value.slice.injEq, and_true] at hcs
    obtain ⟨rfl, rfl, rfl⟩ := hcs
    simp only [if_true] at hmm
    subst hmm
    have hX : ∀ i, i < n0 → ∀ j, j < 5 → ∃ x : Int, W.cell? (a.add (i * 5 + j)) = some (Value.int .i64 (x)) := by
      intro i hin j hj5
      obtain ⟨ys, n, _, _, _, hj⟩ := hi i (by omega)
      obtain ⟨f, hf, ht⟩ : ∃ f, fs[j]? = some f ∧ f.type = 3 := by
        rcases j with _ | _ | _ | _ | _ | j
        · exact Option.map_eq_some_iff.1 h0
        · exact Option.map_eq_some_iff.1 h1
        · exact Option.map_eq_some_iff.1 h2
        · exact Option.map_eq_some_iff.1 h3
        · exact Option.map_eq_some_iff.1 h4
        · omega
      obtain ⟨v0, y0, e0, _, r0⟩ := hj j f hf
      rw [ht] at r0
      rw [hfz] at e0
      obtain ⟨x, ex, _, _⟩ := DataW.trod_int und_int r0
      simp only [List.cons.injEq, and_true] at ex
      subst ex
      exact ⟨x, e0⟩
    have hML : maxLen ≤ 9223372036854775807 := by unfold maxLen; omega
    refine ⟨some a, m, (List.range n0).map fun i => ⟨((W.cell? (a.add (i * 5 + 0))).map intOfV).getD 0, ((W.cell? (a.add (i * 5 + 1))).map intOfV).getD 0, ((W.cell? (a.add (i * 5 + 2))).map intOfV).getD 0, ((W.cell? (a.add (i * 5 + 3))).map intOfV).getD 0, ((W.cell? (a.add (i * 5 + 4))).map intOfV).getD 0⟩, by simp, ?_, by simp; omega⟩
    rcases Nat.eq_zero_or_pos n0 with rfl | hpos
    · exact .inl rfl
    · obtain ⟨b, o, spot⟩ := a
      have hs : spot = none := by
        obtain ⟨x, e0⟩ := hX 0 hpos 0 (by decide)
        simpa [Addr.add] using World.cell?_spot e0
      subst hs
      refine .inr ⟨b, o, rfl, recAt_of wkE_len (by decide) ?_ fun i c hc jj n hn => ?_⟩
      · obtain ⟨x, e0⟩ := hX 0 hpos 0 (by decide)
        rw [add_at] at e0
        exact cell_lt e0
      · have hin : i < n0 := by
          have := (List.getElem?_eq_some_iff.1 hc).1
          simpa using this
        have hj5 : jj < 5 := by
          have := (List.getElem?_eq_some_iff.1 hn).1
          rwa [wkE_len] at this
        simp only [List.getElem?_map, List.getElem?_range hin, Option.map_some, Option.some.injEq] at hc
        subst hc
        obtain ⟨x, e0⟩ := hX i hin jj hj5
        have e1 := e0
        rw [add_at] at e1
        rw [e1]
        rcases jj with _ | _ | _ | _ | _ | jj
        all_goals first | omega | (simp only [wkE, List.getElem?_cons_zero, List.getElem?_cons_succ, Option.some.injEq, Nat.zero_add, Nat.add_zero] at hn e0; subst hn; rw [e0]; rfl)
theorem wks_f {W : World} {c : Value} {n : Nat} {y : DataW H × List MemPlace} (h : DataW.trod enc Tryz.prog W 0 (fun _ => true) true n 28 [c] = some y) :
    ∃ A ca l, c = .slice A l.length ca ∧ Wks W A l ∧ l.length ≤ 9223372036854775807 := by
  obtain ⟨a, l, k, e⟩ := Go.Joins.slice_form undWks h
  simp only [List.cons.injEq, and_true] at e
  subst e
  exact open_wks ⟨_, _, _, rfl⟩ ⟨n, by simpa [Value.cells] using h⟩
def I64 (n : Int) : Prop := -9223372036854775808 ≤ n ∧ n ≤ 9223372036854775807
set_option maxRecDepth 100000 in
theorem wheel_f {W : World} {n : Nat} {c0 c1 c2 c3 c4 c5 c6 c7 : Value} {y : DataW H × List MemPlace} (h : DataW.trod enc Tryz.prog W 0 (fun _ => true) true n 27 [c0, c1, c2, c3, c4, c5, c6, c7] = some y) :
    ∃ v : Whl, c0 = (Value.int .i64 (v.full)) ∧ c1 = (Value.int .i64 (v.read)) ∧ c2 = (Value.int .i64 (v.slip)) ∧ c3 = (Value.int .i64 (v.skew)) ∧ c4 = (Value.int .i64 (v.circle)) ∧ c5 = (Value.int .i64 (v.glo)) ∧ c6 = (Value.int .i64 (v.ghi)) ∧ c7 = (Value.int .i64 (v.wrong)) := by
  obtain ⟨xs, m, _, _, _, hlen, hf⟩ := DataW.trod_struct Tryz.underlying27 h
  match xs, hlen with
  | [y0, y1, y2, y3, y4, y5, y6], _ =>
    have g0 := hf 0 _ rfl
    have g1 := hf 1 _ rfl
    have g2 := hf 2 _ rfl
    have g3 := hf 3 _ rfl
    have g4 := hf 4 _ rfl
    have g5 := hf 5 _ rfl
    have g6 := hf 6 _ rfl
    have k2 : Tryz.prog.cellsOf 25 = 2 := by kernel_rfl
    simp only [k2, cellsInt, List.drop_zero, List.take_succ_cons, List.take_zero, List.drop_succ_cons, List.getElem?_cons_zero, List.getElem?_cons_succ] at g0 g1 g2 g3 g4 g5 g6
    obtain ⟨z0, z1, n2, hx2, _, e0, e1⟩ := trod_struct2 Tryz.underlying25 g5
    simp only [cellsInt, List.drop_zero, List.take_succ_cons, List.take_zero, List.drop_succ_cons] at e0 e1
    obtain ⟨x0, rfl, _⟩ := int_f g0
    obtain ⟨x1, rfl, _⟩ := int_f g1
    obtain ⟨x2, rfl, _⟩ := int_f g2
    obtain ⟨x3, rfl, _⟩ := int_f g3
    obtain ⟨x4, rfl, _⟩ := int_f g4
    obtain ⟨x5, rfl, _⟩ := int_f e0
    obtain ⟨x6, rfl, _⟩ := int_f e1
    obtain ⟨x7, rfl, _⟩ := int_f g6
    exact ⟨⟨x0, x1, x2, x3, x4, x5, x6, x7⟩, rfl, rfl, rfl, rfl, rfl, rfl, rfl, rfl⟩
set_option maxRecDepth 100000 in
theorem open_dispute {W : World} {r : Reach} {b0 : Nat} {v : Value} {d : DataW H} {p : List MemPlace} (hv : Value.okWide Tryz.prog W r b0 30 v) (h : DataW.Trod enc Tryz.prog W 0 (fun _ => true) true 30 v d p) :
    ∃ (A B C : Option Addr) (ca cb cc : Nat) (D : Dsp), v = (Value.agg #[.slice A D.cs.length ca, .slice B D.offs.length cb, (Value.int .i64 (D.unit)), (Value.int .i64 (D.wh.full)), (Value.int .i64 (D.wh.read)), (Value.int .i64 (D.wh.slip)), (Value.int .i64 (D.wh.skew)), (Value.int .i64 (D.wh.circle)), (Value.int .i64 (D.wh.glo)), (Value.int .i64 (D.wh.ghi)), (Value.int .i64 (D.wh.wrong)), .slice C D.wks.length cc]) ∧ Pts W A D.cs ∧ Ints W B D.offs ∧ Wks W C D.wks ∧ D.cs.length ≤ 9223372036854775807 ∧ D.offs.length ≤ 9223372036854775807 ∧ D.wks.length ≤ 9223372036854775807 := by
  obtain ⟨cs, rfl, hsz⟩ := okWide_struct Tryz.underlying30 hv
  obtain ⟨cl⟩ := cs
  have hsz2 : cl.length = 12 := hsz.trans (by kernel_rfl)
  match cl, hsz2 with
  | [c0, c1, c2, c3, c4, c5, c6, c7, c8, c9, c10, c11], _ =>
    obtain ⟨fuel, hf⟩ := h
    obtain ⟨xs, m, _, _, _, hlen, hf⟩ := DataW.trod_struct Tryz.underlying30 hf
    match xs, hlen with
    | [y0, y1, y2, y3, y4], _ =>
      have g0 := hf 0 _ rfl
      have g1 := hf 1 _ rfl
      have g2 := hf 2 _ rfl
      have g3 := hf 3 _ rfl
      have g4 := hf 4 _ rfl
      have k0 : Tryz.prog.cellsOf 22 = 1 := by kernel_rfl
      have k1 : Tryz.prog.cellsOf 23 = 1 := by kernel_rfl
      have k3 : Tryz.prog.cellsOf 27 = 8 := by kernel_rfl
      have k4 : Tryz.prog.cellsOf 28 = 1 := by kernel_rfl
      simp only [Value.cells, k0, k1, k3, k4, cellsInt, List.drop_zero, List.take_succ_cons, List.take_zero, List.drop_succ_cons, List.getElem?_cons_zero, List.getElem?_cons_succ] at g0 g1 g2 g3 g4
      obtain ⟨A, ca, l, rfl, hP, hl⟩ := points_f g0
      obtain ⟨B, cb, f, rfl, hI, hfl⟩ := numbers_f g1
      obtain ⟨u, rfl, _⟩ := int_f g2
      obtain ⟨w, rfl, rfl, rfl, rfl, rfl, rfl, rfl, rfl⟩ := wheel_f g3
      obtain ⟨C, cc, k, rfl, hK, hkl⟩ := wks_f g4
      exact ⟨A, B, C, ca, cb, cc, ⟨l, f, u, w, k⟩, rfl, hP, hI, hK, hl, hfl, hkl⟩
end
end Go.Proofs.YthijegacjboclaaGreat
