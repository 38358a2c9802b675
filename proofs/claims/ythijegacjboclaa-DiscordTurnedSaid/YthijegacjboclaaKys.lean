/- Kinds of fields, and stories, as keys of maps. -/
import Derived.Test.YthijegacjboclaaFmp
import Derived.Test.YthijegacjboclaaDsr
import Derived.Test.YthijegacjboclaaBts
import Derived.Test.YthijegacjboclaaOpen
import Derived.DeepKeys4
namespace Go.Proofs.Ythijegacjboclaa
open Go.Maps (Keyed)

theorem undUint : Try.prog.underlying 61 = some (.int .u64) := by kernel_rfl
theorem cellsUint : Try.prog.cellsOf 61 = 1 := by kernel_rfl
theorem cellsI : Try.prog.cellsOf 3 = 1 := by kernel_rfl
theorem keyLits_one {P : Program} {t : TypeId} {q : IntKind} {n : Int} (hu : P.underlying t = some (.int q)) (hw : (Lit.int q n).wf = true) (m : Nat) : P.keyLits (m + 1) t [.int q n] = some [.int q n] := by
  simp [Program.keyLits, hu, hw]
theorem keyLits_struct {P : Program} {t : TypeId} {fs : Array Field} {cs : List Value} (hu : P.underlying t = some (.struct fs)) (m : Nat) :
    P.keyLits (m + 1) t cs = if cs.length = P.cellsOf t ∧ fs.all (·.name != "_") = true then (fs.toList.mapM fun f => P.keyLits m f.type ((cs.drop f.offset).take (P.cellsOf f.type))).map List.flatten else none := by
  simp only [Program.keyLits, hu]
set_option maxRecDepth 100000 in
theorem wf_u64 {n : Nat} (h : n < 256) : (Lit.int .u64 (n : Int)).wf = true := by
  simp [Lit.wf, IntKind.min, IntKind.max, IntKind.bits, IntKind.signed]; omega
set_option maxRecDepth 100000 in
theorem wf_i64 {n : Int} (h : -1000000000000 ≤ n ∧ n ≤ 1000000000000) : (Lit.int .i64 n).wf = true := by
  simp [Lit.wf, IntKind.min, IntKind.max, IntKind.bits, IntKind.signed]; omega
set_option maxRecDepth 100000 in
theorem kdRow : (86 : TypeId) < Try.prog.types.size := by
  have h : Nat.ble (86 + 1) Try.prog.types.size = true := by kernel_rfl
  exact Nat.le_of_ble_eq_true h
theorem kdWide : (match Try.prog.underlying 86 with | some (.array _ _) | some (.struct _) => true | _ => false) = true := by kernel_rfl
set_option maxRecDepth 100000 in
theorem kdKeyed : Keyed Try.prog 86 := Keyed.of_law (deep_law_laid laid_out (m := 2) (by omega) kdRow (by kernel_rfl) kdWide)
def kdV (x : Nat × Int) : Value := .agg #[.int .u64 (x.1 : Int), (Value.int .i64 (x.2))]
def kdL (x : Nat × Int) : Lit := .string (keyBytes [.int .u64 (x.1 : Int), .int .i64 x.2])
theorem kdV_inj (x y : Nat × Int) (h : kdV x = kdV y) : x = y := by
  obtain ⟨a, b⟩ := x
  obtain ⟨c, d⟩ := y
  simp only [kdV, Value.agg.injEq, Array.mk.injEq, List.cons.injEq, Value.int.injEq, true_and, and_true] at h
  exact Prod.ext (Int.ofNat.inj h.1) h.2
theorem kd_key {x : Nat × Int} (h1 : x.1 < 256) (h2 : -1000000000000 ≤ x.2 ∧ x.2 ≤ 1000000000000) : keyOf Try.prog 86 (kdV x) = some (kdL x) := by
  have hk : Try.prog.keyType 86 = true := by kernel_rfl
  have hc : Try.prog.cellsOf 86 = 2 := by kernel_rfl
  obtain ⟨m, hm⟩ : ∃ m, Try.prog.types.size + 1 = m + 2 := ⟨Try.prog.types.size - 1, by have h : (86 : Nat) < Try.prog.types.size := kdRow; omega⟩
  have k1 := keyLits_one undUint (wf_u64 h1) m
  have k2 := keyLits_one und_int (wf_i64 h2) m
  unfold keyOf
  rw [hm, show m + 2 = (m + 1) + 1 from rfl, keyLits_struct Try.underlying86]
  simp only [Try.underlying86, hk, kdV, Value.formed, hc, Value.cells, List.mapM_cons, List.mapM_nil, cellsUint, cellsI]
  simp [k1, k2, kdL, cellsUint, cellsI]
set_option maxRecDepth 100000 in
theorem stRow : (65 : TypeId) < Try.prog.types.size := by
  have h : Nat.ble (65 + 1) Try.prog.types.size = true := by kernel_rfl
  exact Nat.le_of_ble_eq_true h
theorem stWide : (match Try.prog.underlying 65 with | some (.array _ _) | some (.struct _) => true | _ => false) = true := by kernel_rfl
set_option maxRecDepth 100000 in
theorem stKeyed : Keyed Try.prog 65 := Keyed.of_law (deep_law_laid laid_out (m := 3) (by omega) stRow (by kernel_rfl) stWide)
def stV (x : Nat × Nat × Int) : Value := .agg #[.int .u64 (x.1 : Int), .int .u64 (x.2.1 : Int), (Value.int .i64 (x.2.2))]
def stL (x : Nat × Nat × Int) : Lit := .string (keyBytes [.int .u64 (x.1 : Int), .int .u64 (x.2.1 : Int), .int .i64 x.2.2])
theorem stV_inj (x y : Nat × Nat × Int) (h : stV x = stV y) : x = y := by
  obtain ⟨a, b, c⟩ := x
  obtain ⟨d, e, f⟩ := y
  simp only [stV, Value.agg.injEq, Array.mk.injEq, List.cons.injEq, Value.int.injEq, true_and, and_true] at h
  exact Prod.ext (Int.ofNat.inj h.1) (Prod.ext (Int.ofNat.inj h.2.1) h.2.2)
theorem st_key {x : Nat × Nat × Int} (h1 : x.1 < 256) (h2 : x.2.1 < 256) (h3 : -1000000000000 ≤ x.2.2 ∧ x.2.2 ≤ 1000000000000) : keyOf Try.prog 65 (stV x) = some (stL x) := by
  have hk : Try.prog.keyType 65 = true := by kernel_rfl
  have hc : Try.prog.cellsOf 65 = 3 := by kernel_rfl
  have hf : Try.prog.cellsOf 63 = 2 := by kernel_rfl
  obtain ⟨m, hm⟩ : ∃ m, Try.prog.types.size + 1 = m + 3 := ⟨Try.prog.types.size - 2, by have h : (65 : Nat) < Try.prog.types.size := stRow; omega⟩
  have k1 := keyLits_one undUint (wf_u64 h1) m
  have k2 := keyLits_one undUint (wf_u64 h2) m
  have k3 := keyLits_one und_int (wf_i64 h3) (m + 1)
  unfold keyOf
  have kf : Try.prog.keyLits (m + 2) 63 [.int .u64 (x.1 : Int), .int .u64 (x.2.1 : Int)] = some [.int .u64 (x.1 : Int), .int .u64 (x.2.1 : Int)] := by
    rw [show m + 2 = (m + 1) + 1 from rfl, keyLits_struct Try.underlying63]
    simp only [Try.underlying63, hf, List.mapM_cons, List.mapM_nil, cellsUint]
    simp [k1, k2, cellsUint]
  rw [hm, show m + 3 = (m + 2) + 1 from rfl, keyLits_struct Try.underlying65]
  simp only [Try.underlying65, hk, stV, Value.formed, hc, hf, Value.cells, List.mapM_cons, List.mapM_nil, cellsI]
  simp [kf, k3, stL, hf, cellsI]
end Go.Proofs.Ythijegacjboclaa
