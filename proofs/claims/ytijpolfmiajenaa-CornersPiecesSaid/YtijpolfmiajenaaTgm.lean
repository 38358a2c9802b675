/- Rows of whole numbers that are changed in place, by slices.Sort and slices.Delete; rows of triples. -/
import Derived.Test.YtijpolfmiajenaaSrI
import Derived.Test.YtijpolfmiajenaaTgl
namespace Go.Proofs.Ytijpolfmiajenaa
open Go.RowKit Go.Sort Go.Shelf

/-- A row of numbers in a block that the call made. -/
structure LeftAt (W : World) (B g cap : Nat) (ls : List Int) : Prop where
  base : B ≤ g
  lt : g < W.heap.size
  le : ls.length ≤ cap
  mx : cap ≤ 9223372036854775807
  hold : Holds (Value.int .i64) W g 0 ls.toArray
theorem holds_get {W : World} {g : Nat} {ls : List Int} (h : Holds (Value.int .i64) W g 0 ls.toArray) {i : Nat} (hi : i < ls.length) : W.cell? ⟨g, i, none⟩ = some (Value.int .i64 (iat ls i)) ∧ W.frozen? ⟨g, i, none⟩ = false := by
  have := h i (by simpa using hi)
  rw [Nat.zero_add] at this
  refine ⟨this.1.trans ?_, this.2⟩
  simp [iat, List.getD, hi]
theorem holds_of {W : World} {g : Nat} {ls : List Int} (h : ∀ i, i < ls.length → W.cell? ⟨g, i, none⟩ = some (Value.int .i64 (iat ls i)) ∧ W.frozen? ⟨g, i, none⟩ = false) : Holds (Value.int .i64) W g 0 ls.toArray := fun j hj => by
  have hj2 : j < ls.length := by simpa using hj
  have := h j hj2
  rw [Nat.zero_add]
  refine ⟨this.1.trans ?_, this.2⟩
  simp [iat, List.getD, hj2]
theorem LeftAt.ints {W : World} {B g cap : Nat} {ls : List Int} (h : LeftAt W B g cap ls) : IntsAt W g 0 ls := by
  refine ⟨h.lt, fun i n hi => ?_⟩
  obtain ⟨h1, h2⟩ := List.getElem?_eq_some_iff.1 hi
  have := (holds_get h.hold h1).1
  rw [Nat.zero_add, this, ← h2, iat_eq h1]
theorem LeftAt.kept {W W' : World} {B g cap : Nat} {ls : List Int} {row : Option Nat} (h : LeftAt W B g cap ls) (hg : W.grownBy W' row) (hne : some g ≠ row) : LeftAt W' B g cap ls := by
  have hb := hg.block g h.lt hne
  refine ⟨h.base, Nat.lt_of_lt_of_le h.lt hg.size, h.le, h.mx, fun j hj => ?_⟩
  have := h.hold j hj
  exact ⟨(World.cell?_of_block (w := W) (w' := W') (a := ⟨g, 0 + j, none⟩) hb).trans this.1, (World.frozen?_of_block (w := W) (w' := W') (a := ⟨g, 0 + j, none⟩) hb).trans this.2⟩
theorem below_grown {W W' : World} (h : Below W.heap.size W W') : W.grownBy W' none := ⟨h.os, h.tape, h.output, h.size, fun k hk _ => h.block k hk⟩
theorem LeftAt.below {W W' : World} {B g cap : Nat} {ls : List Int} (h : LeftAt W B g cap ls) (hb : Below W.heap.size W W') : LeftAt W' B g cap ls := h.kept (below_grown hb) (by simp)
theorem blk_kept {W W' : World} {g : Nat} {t : TypeId} {us : Array Value} {row : Option Nat} (h : Blk W g t us) (hg : W.grownBy W' row) (hne : some g ≠ row) : Blk W' g t us := (hg.block g h.lt hne).trans h
/-- A row written anew: all other blocks are as they were. -/
theorem put_grown (W : World) (g q : Nat) (d : Array Int) (os : Array Obj) : W.grownBy (grow (putRow (Value.int .i64) (Sort.ahead W q) g 0 d) os) (some g) := by
  refine ⟨rfl, rfl, rfl, by simp [Sort.ahead], fun k hk hne => ?_⟩
  have hkg : g ≠ k := fun e => hne (by rw [e])
  simp only [grow]
  rw [Array.getElem?_append_left (by simpa [Sort.ahead] using hk)]
  unfold putRow mapBlock Sort.ahead
  simp [Array.getElem?_modify, hkg]
theorem put_grown' (W : World) (g q : Nat) (d : Array Int) : W.grownBy (putRow (Value.int .i64) (Sort.ahead W q) g 0 d) (some g) := by
  have := put_grown W g q d #[]
  simpa using this
theorem LeftAt.del {W : World} {B g cap i q : Nat} {ls : List Int} (h : LeftAt W B g cap ls) (hi : i < ls.length) : LeftAt (putRow (Value.int .i64) (Sort.ahead W q) g 0 (ls.eraseIdx i ++ [0]).toArray) B g cap (ls.eraseIdx i) := by
  have hlen := List.length_eraseIdx_of_lt hi
  have h1 : Holds (Value.int .i64) (Sort.ahead W q) g 0 ls.toArray := h.hold
  have h2 := holds_putRow (Value.int .i64) (Sort.ahead W q) g 0 ls.toArray (ls.eraseIdx i ++ [0]).toArray h1 (by simp; omega)
  have hle := h.le
  refine ⟨h.base, by rw [size_putRow]; exact h.lt, by omega, h.mx, holds_of fun j hj => ?_⟩
  have h3 := holds_get h2 (i := j) (by simp; omega)
  rw [h3.1]
  refine ⟨?_, h3.2⟩
  have : iat (ls.eraseIdx i ++ [0]) j = iat (ls.eraseIdx i) j := by
    simp only [iat, List.getD_eq_getElem?_getD]
    rw [List.getElem?_append_left hj]
  rw [this]
theorem LeftAt.of_row {W : World} {B g cap n : Nat} {ls : List Int} (h : W.ownsRow B 3 1 (.slice (some ⟨g, 0, none⟩) n cap) n (intsV ls)) (hB : B ≤ W.heap.size) : n = ls.length ∧ LeftAt W B g cap ls := by
  have hn : n = ls.length := by
    have h1 := h.1
    rw [intsV_len] at h1
    omega
  refine ⟨hn, ?_⟩
  obtain ⟨k1, k2⟩ := h.lt g rfl
  rcases h.2 with ⟨h0, _⟩ | ⟨g', cap', cur, h0, hb, hc, hle, hm, -⟩
  · simp at h0
  · simp at h0
    obtain ⟨rfl, rfl⟩ := h0
    refine ⟨k1, k2, by omega, by unfold maxLen at hm; omega, holds_of fun j hj => ⟨?_, h.frozenAt j⟩⟩
    have := h.cells (g := g) rfl j (Value.int .i64 (iat ls j)) (by simp [intsV, iat, List.getD, hj])
    rwa [add_at, Nat.zero_add] at this
/-- The cells of triples. -/
def trsV : List (Int × Int × Int) → List Value
  | [] => []
  | t :: T => (Value.int .i64 (t.1)) :: (Value.int .i64 (t.2.1)) :: (Value.int .i64 (t.2.2)) :: trsV T
theorem trsV_len : ∀ T, (trsV T).length = T.length * 3
  | [] => rfl
  | t :: T => by simp [trsV, trsV_len T]; omega
theorem trsV_append : ∀ T U, trsV (T ++ U) = trsV T ++ trsV U
  | [], U => rfl
  | t :: T, U => by rw [List.cons_append, trsV, trsV, trsV_append T U]; rfl
theorem trsV_one : ∀ T, ∀ u ∈ trsV T, u.oneCell' = true
  | [], u, h => by simp [trsV] at h
  | t :: T, u, h => by
    simp only [trsV, List.mem_cons] at h
    rcases h with rfl | rfl | rfl | h
    · rfl
    · rfl
    · rfl
    · exact trsV_one T u h
def tat (T : List (Int × Int × Int)) (i : Nat) : Int × Int × Int := T.getD i (0, 0, 0)
def tnum (t : Int × Int × Int) : Nat → Int
  | 0 => t.1
  | 1 => t.2.1
  | _ => t.2.2
theorem trsV_get : ∀ (T : List (Int × Int × Int)) (i k : Nat), i < T.length → k < 3 → (trsV T)[i * 3 + k]? = some (Value.int .i64 (tnum (tat T i) k))
  | [], i, k, h, _ => by simp at h
  | t :: T, 0, k, _, hk => by
    match k, hk with
    | 0, _ => rfl
    | 1, _ => rfl
    | 2, _ => rfl
  | t :: T, i + 1, k, h, hk => by
    have := trsV_get T i k (by simpa using h) hk
    rw [show (i + 1) * 3 + k = i * 3 + k + 1 + 1 + 1 by omega]
    simpa [trsV, tat] using this
theorem undTrs : Try.prog.underlying 57 = some (.slice 60) := by kernel_rfl
theorem infoTrs : (Try.prog.info? 60).map (fun i => (i.zero, i.size, i.bytes)) = some (some (.agg #[.int .i64 0, .int .i64 0, .int .i64 0]), 3, 24) := by kernel_rfl
theorem holds_grow {X : World} {g : Nat} {d : Array Int} {os : Array Obj} (h : Holds (Value.int .i64) X g 0 d) (hg : g < X.heap.size) : Holds (Value.int .i64) (grow X os) g 0 d := fun j hj => by
  have hb : (grow X os).heap[g]? = X.heap[g]? := by
    simp only [grow]
    rw [Array.getElem?_append_left hg]
  have := h j hj
  exact ⟨(World.cell?_of_block (w := X) (w' := grow X os) (a := ⟨g, 0 + j, none⟩) hb).trans this.1, (World.frozen?_of_block (w := X) (w' := grow X os) (a := ⟨g, 0 + j, none⟩) hb).trans this.2⟩
theorem sort_ok (g cap : Nat) (zs : List Int) (w : World) (hH : Holds (Value.int .i64) w g 0 zs.toArray) (hg : g < w.heap.size) (hsz : zs.length < 4611686018427387904) :
    Calls Try.prog 83 #[.slice (some ⟨g, 0, none⟩) zs.length cap] w fun e w' => e = .returned (.tuple #[]) ∧ w.grownBy w' (some g) ∧ Holds (Value.int .i64) w' g 0 (zs.mergeSort fun x y => decide (x ≤ y)).toArray := by
  refine (sort_any g cap zs w hH hg hsz).mono ?_
  rintro e w' ⟨rfl, n, os, rfl⟩
  have h1 : Holds (Value.int .i64) (Sort.ahead w n) g 0 zs.toArray := hH
  have h2 := holds_putRow (Value.int .i64) (Sort.ahead w n) g 0 zs.toArray (zs.mergeSort fun x y => decide (x ≤ y)).toArray h1 (by simp)
  exact ⟨rfl, put_grown w g n _ os, holds_grow h2 (by rw [size_putRow]; exact hg)⟩
theorem del_ok (B g cap i : Nat) (ls : List Int) (w : World) (h : LeftAt w B g cap ls) (hi : i < ls.length) :
    Calls Try.prog 84 #[.slice (some ⟨g, 0, none⟩) ls.length cap, (Value.int .i64 ((i : Int))), (Value.int .i64 ((i : Int) + 1))] w fun e w' => e = .returned (.slice (some ⟨g, 0, none⟩) (ls.eraseIdx i).length cap) ∧ w.grownBy w' (some g) ∧ LeftAt w' B g cap (ls.eraseIdx i) := by
  refine (del_any g cap i ls w h.hold h.le h.mx hi).mono ?_
  rintro e w' ⟨rfl, q, rfl⟩
  exact ⟨rfl, put_grown' w g q _, h.del hi⟩
theorem tg_news (w : World) (us : List Value) (t : TypeId) : ∀ j u, us[j]? = some u → (w.alloc (.cells us.toArray t)).cell? ((⟨w.heap.size, 0, none⟩ : Addr).add j) = some u := fun j u hj => by
  rw [add_at, Nat.zero_add]
  exact ((Blk.new w t us.toArray).cell j).trans (by rw [List.getElem?_toArray]; exact hj)
theorem tg_one (n : Int) : ∀ u ∈ [(Value.int .i64 (n))], u.oneCell' = true := fun u hu => by rw [List.mem_singleton.1 hu]; rfl
theorem own_mono {w : World} {b b' : Nat} {e : TypeId} {size n : Nat} {v : Value} {xs : List Value} (h : w.ownsRow b e size v n xs) (hb : b' ≤ b) : w.ownsRow b' e size v n xs :=
  ⟨h.1, h.2.imp id fun ⟨g, cap, cur, e, hg, r⟩ => ⟨g, cap, cur, e, Nat.le_trans hb hg, r⟩⟩
end Go.Proofs.Ytijpolfmiajenaa
