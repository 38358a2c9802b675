/- Kinds of fields, and stories, as keys of maps. -/
import Derived.Test.YthijegacjboclaaGreatFmp
import Derived.Test.YthijegacjboclaaGreatDsr
import Derived.Test.YthijegacjboclaaGreatBts
import Derived.Test.YthijegacjboclaaGreatOpen
import Derived.DeepKeys4
namespace Go.Proofs.YthijegacjboclaaGreat
open Go.Maps (Keyed)

theorem undUint : Tryz.prog.underlying 71 = some (.int .u64) := by kernel_rfl
theorem cellsUint : Tryz.prog.cellsOf 71 = 1 := by kernel_rfl
theorem cellsI : Tryz.prog.cellsOf 3 = 1 := by kernel_rfl
theorem keyLits_one {P : Program} {t : TypeId} {q : IntKind} {n : Int} (hu : P.underlying t = some (.int q)) (hw : (Lit.int q n).wf = true) (m : Nat) : P.keyLits (m + 1) t [.int q n] = some [.int q n] := by
  simp [Program.keyLits, hu, hw]
theorem keyLits_struct {P : Program} {t : TypeId} {fs : Array Field} {cs : List Value} (hu : P.underlying t = some (.struct fs)) (m : Nat) :
    P.keyLits (m + 1) t cs = if cs.length = P.cellsOf t ∧ fs.all (·.name != "_") = true then (fs.toList.mapM fun f => P.keyLits m f.type ((cs.drop f.offset).take (P.cellsOf f.type))).map List.flatten else none := by
  simp only [Program.keyLits, hu]
set_option maxRecDepth 100000 in
theorem wf_u64 {n : Nat} (h : n < 256) : (Lit.int .u64 (n : Int)).wf = true := by
  simp [Lit.wf, IntKind.min, IntKind.max, IntKind.bits, IntKind.signed]; omega
set_option maxRecDepth 100000 in
theorem wf_i64 {n : Int} (h : -1000000000000 ≤ n ∧ n ≤ 1000000000000) : (Lit.int .i64 n).wf = true := by
  simp [Lit.wf, IntKind.min, IntKind.max, IntKind.bits, IntKind.signed]; omega
set_option maxRecDepth 100000 in
theorem kdRow : (115 : TypeId) < Tryz.prog.types.size := by
  have h : Nat.ble (115 + 1) Tryz.prog.types.size = true := by kernel_rfl
  exact Nat.le_of_ble_eq_true h
theorem kdWide : (match Tryz.prog.underlying 115 with | some (.array _ _) | some (.struct _) => true | _ => false) = true := by kernel_rfl
set_option maxRecDepth 100000 in
theorem kdKeyed : Keyed Tryz.prog 115 := Keyed.of_law (deep_law_laid laid_out (m := 2) (by omega) kdRow (by kernel_rfl) kdWide)
def kdV (x : Nat × Int) : Value := .agg #[.int .u64 (x.1 : Int), (Value.int .i64 (x.2))]
def kdL (x : Nat × Int) : Lit := .string (keyBytes [.int .u64 (x.1 : Int), .int .i64 x.2])
theorem kdV_inj (x y : Nat × Int) (h : kdV x = kdV y) : x = y := by
  obtain ⟨a, b⟩ := x
  obtain ⟨c, d⟩ := y
  simp only [kdV, Value.agg.injEq, Array.mk.injEq, List.cons.injEq, Value.int.injEq, true_and, and_true] at h
  exact Prod.ext (Int.ofNat.inj h.1) h.2
theorem kd_key {x : Nat × Int} (h1 : x.1 < 256) (h2 : -1000000000000 ≤ x.2 ∧ x.2 ≤ 1000000000000) : keyOf Tryz.prog 115 (kdV x) = some (kdL x) := by
  have hk : Tryz.prog.keyType 115 = true := by kernel_rfl
  have hc : Tryz.prog.cellsOf 115 = 2 := by kernel_rfl
  obtain ⟨m, hm⟩ : ∃ m, Tryz.prog.types.size + 1 = m + 2 := ⟨Tryz.prog.types.size - 1, by have h : (115 : Nat) < Tryz.prog.types.size := kdRow; omega⟩
  have k1 := keyLits_one undUint (wf_u64 h1) m
  have k2 := keyLits_one und_int (wf_i64 h2) m
  unfold keyOf
  rw [hm, show m + 2 = (m + 1) + 1 from rfl, keyLits_struct Tryz.underlying115]
  simp only [Tryz.underlying115, hk, kdV, Value.formed, hc, Value.cells, List.mapM_cons, List.mapM_nil, cellsUint, cellsI]
  simp [k1, k2, kdL, cellsUint, cellsI]
set_option maxRecDepth 100000 in
theorem stRow : (75 : TypeId) < Tryz.prog.types.size := by
  have h : Nat.ble (75 + 1) Tryz.prog.types.size = true := by kernel_rfl
  exact Nat.le_of_ble_eq_true h
theorem stWide : (match Tryz.prog.underlying 75 with | some (.array _ _) | some (.struct _) => true | _ => false) = true := by kernel_rfl
set_option maxRecDepth 100000 in
theorem stKeyed : Keyed Tryz.prog 75 := Keyed.of_law (deep_law_laid laid_out (m := 3) (by omega) stRow (by kernel_rfl) stWide)
def stV (x : Nat × Nat × Int) : Value := .agg #[.int .u64 (x.1 : Int), .int .u64 (x.2.1 : Int), (Value.int .i64 (x.2.2))]
def stL (x : Nat × Nat × Int) : Lit := .string (keyBytes [.int .u64 (x.1 : Int), .int .u64 (x.2.1 : Int), .int .i64 x.2.2])
theorem stV_inj (x y : Nat × Nat × Int) (h : stV x = stV y) : x = y := by
  obtain ⟨a, b, c⟩ := x
  obtain ⟨d, e, f⟩ := y
  simp only [stV, Value.agg.injEq, Array.mk.injEq, List.cons.injEq, Value.int.injEq, true_and, and_true] at h
  exact Prod.ext (Int.ofNat.inj h.1) (Prod.ext (Int.ofNat.inj h.2.1) h.2.2)
theorem st_key {x : Nat × Nat × Int} (h1 : x.1 < 256) (h2 : x.2.1 < 256) (h3 : -1000000000000 ≤ x.2.2 ∧ x.2.2 ≤ 1000000000000) : keyOf Tryz.prog 75 (stV x) = some (stL x) := by
  have hk : Tryz.prog.keyType 75 = true := by kernel_rfl
  have hc : Tryz.prog.cellsOf 75 = 3 := by kernel_rfl
  have hf : Tryz.prog.cellsOf 73 = 2 := by kernel_rfl
  obtain ⟨m, hm⟩ : ∃ m, Tryz.prog.types.size + 1 = m + 3 := ⟨Tryz.prog.types.size - 2, by have h : (75 : Nat) < Tryz.prog.types.size := stRow; omega⟩
  have k1 := keyLits_one undUint (wf_u64 h1) m
  have k2 := keyLits_one undUint (wf_u64 h2) m
  have k3 := keyLits_one und_int (wf_i64 h3) (m + 1)
  unfold keyOf
  have kf : Tryz.prog.keyLits (m + 2) 73 [.int .u64 (x.1 : Int), .int .u64 (x.2.1 : Int)] = some [.int .u64 (x.1 : Int), .int .u64 (x.2.1 : Int)] := by
    rw [show m + 2 = (m + 1) + 1 from rfl, keyLits_struct Tryz.underlying73]
    simp only [Tryz.underlying73, hf, List.mapM_cons, List.mapM_nil, cellsUint]
    simp [k1, k2, cellsUint]
  rw [hm, show m + 3 = (m + 2) + 1 from rfl, keyLits_struct Tryz.underlying75]
  simp only [Tryz.underlying75, hk, stV, Value.formed, hc, hf, Value.cells, List.mapM_cons, List.mapM_nil, cellsI]
  simp [kf, k3, stL, hf, cellsI]
end Go.Proofs.YthijegacjboclaaGreat
