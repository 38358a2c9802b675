/- A map of points that the call makes: what its operations do. -/
import Derived.Test.YthijegacjboclaaGreatRf
import Derived.MapKept
namespace Go.Proofs.YthijegacjboclaaGreat
open Go.RowKit

/-- The entries of a map that has got these keys, in this order, with these values; the first one was born at 'at'. -/
def entsFrom : Nat → List (Pt × Int) → List MapEntry
  | _, [] => []
  | n, x :: xs => { key := (Value.agg #[.int .i64 x.1.1, .int .i64 x.1.2]), val := (Value.int .i64 (x.2)), born := n } :: entsFrom (n + 1) xs
def ents (xs : List (Pt × Int)) : Array MapEntry := (entsFrom 0 xs).toArray
/-- The place and the value of a key. -/
def findEnt (p : Pt) : List (Pt × Int) → Nat → Option (Nat × Value)
  | [], _ => none
  | x :: xs, i => if p = x.1 then some (i, (Value.int .i64 (x.2))) else findEnt p xs (i + 1)
def valEnt (p : Pt) (xs : List (Pt × Int)) : Int := match xs.find? (fun x => decide (p = x.1)) with | some x => x.2 | none => 0

theorem entsFrom_len (n : Nat) (xs : List (Pt × Int)) : (entsFrom n xs).length = xs.length := by
  induction xs generalizing n with
  | nil => rfl
  | cons x xs ih => simp [entsFrom, ih]
theorem entsFrom_append (n : Nat) (xs ys : List (Pt × Int)) : entsFrom n (xs ++ ys) = entsFrom n xs ++ entsFrom (n + xs.length) ys := by
  induction xs generalizing n with
  | nil => simp [entsFrom]
  | cons x xs ih => simp [entsFrom, ih, Nat.add_assoc, Nat.add_comm 1]

theorem run_findAsking (p : Pt) (w : World) : ∀ (xs : List (Pt × Int)) (n i : Nat), (Instr.findAsking 98 (Value.agg #[.int .i64 p.1, .int .i64 p.2]) (entsFrom n xs) i).run Tryz.prog w = .ok (findEnt p xs i) w
  | [], _, _ => by simp [entsFrom, Instr.findAsking, findEnt]
  | x :: xs, n, i => by
    have h := run_eqIn_pt 9998 p x.1 w
    simp only [entsFrom, Instr.findAsking, Sem.run_bind, Op.equal, Op.maxDepth]
    rw [show (10000 : Nat) = 9998 + 2 from rfl, h]
    by_cases hp : p = x.1
    · simp [hp, findEnt, Result.andThen]
    · simp only [hp, decide_false, Result.andThen, findEnt, if_false, Bool.false_eq_true]
      exact run_findAsking p w xs (n + 1) (i + 1)

theorem findNow_pt (p : Pt) (d : TypeDesc) (xs : List (Pt × Int)) (n : Nat) (i : Nat) : Instr.findNow d (Value.agg #[.int .i64 p.1, .int .i64 p.2]) (entsFrom n xs) i = if xs = [] then some none else none := by
  cases xs with
  | nil => simp [entsFrom, Instr.findNow]
  | cons x xs => cases d <;> simp [entsFrom, Instr.findNow, Instr.sameNow]

theorem run_findKey_pt (p : Pt) (w : World) (xs : List (Pt × Int)) : (Instr.findKey 98 (Value.agg #[.int .i64 p.1, .int .i64 p.2]) (ents xs).toList).run Tryz.prog w = .ok (findEnt p xs 0) w := by
  have hd := Tryz.underlying98
  have hl : (ents xs).toList = entsFrom 0 xs := rfl
  simp only [Instr.findKey, Sem.run_bind, run_underlying hd, Result.andThen, hl, findNow_pt]
  by_cases hx : xs = []
  · subst hx; simp [findEnt]
  · simp only [hx, if_false]; exact run_findAsking p w xs 0 0

theorem run_checkKey_pt (e : Bool) (p : Pt) (w : World) : (Instr.checkKey e 10000 98 (Value.agg #[.int .i64 p.1, .int .i64 p.2])).run Tryz.prog w = .ok () w := by
  have h : ∀ n : Nat, (Instr.checkKey e (n + 2) 98 (Value.agg #[.int .i64 p.1, .int .i64 p.2])).run Tryz.prog w = .ok () w := fun n => by simp [go_sem, Instr.checkKey]
  exact h 9998

theorem findEnt_new {p : Pt} : ∀ {xs : List (Pt × Int)} {i : Nat}, (∀ x ∈ xs, p ≠ x.1) → findEnt p xs i = none
  | [], _, _ => rfl
  | x :: xs, i, h => by
    unfold findEnt
    rw [if_neg (h x (by simp))]
    exact findEnt_new fun y hy => h y (by simp [hy])
theorem findEnt_at {p : Pt} : ∀ {xs ys : List (Pt × Int)} {v : Int} {i : Nat}, (∀ x ∈ xs, p ≠ x.1) → findEnt p (xs ++ (p, v) :: ys) i = some (i + xs.length, (Value.int .i64 (v)))
  | [], ys, v, i, _ => by simp [findEnt]
  | x :: xs, ys, v, i, h => by
    simp only [List.cons_append, findEnt]
    rw [if_neg (h x (by simp)), findEnt_at fun y hy => h y (by simp [hy])]
    simp; omega

def MapAt (W : World) (r : Nat) (xs : List (Pt × Int)) : Prop := W.heap[r]? = some (.map (ents xs) xs.length)
theorem MapAt.lt {W : World} {r : Nat} {xs : List (Pt × Int)} (h : MapAt W r xs) : r < W.heap.size := (Array.getElem?_eq_some_iff.1 h).1
theorem MapAt.below {W W' : World} {r : Nat} {xs : List (Pt × Int)} (h : MapAt W r xs) (hb : Below W.heap.size W W') : MapAt W' r xs := (hb.block r h.lt).trans h

theorem run_lookup_new {W : World} {r : Nat} {xs : List (Pt × Int)} {p : Pt} (h : MapAt W r xs) (hp : ∀ x ∈ xs, p ≠ x.1) :
    (Instr.lookup 130 (.map (some r)) (Value.agg #[.int .i64 p.1, .int .i64 p.2]) false).run Tryz.prog W = .ok (Value.int .i64 (0)) W := by
  obtain ⟨k, e, ht⟩ : ∃ k e, Tryz.prog.underlying 130 = some (.map k e) ∧ k = 98 ∧ e = 3 := ⟨_, _, by kernel_rfl, rfl, rfl⟩
  obtain ⟨ht, rfl, rfl⟩ := ht
  have hz : (zeroValue 3).run Tryz.prog W = .ok (Value.int .i64 (0)) W := by kernel_rfl
  simp [Instr.lookup, run_underlying ht, MapKept.run_getObj_map h, run_checkKey_pt, run_findKey_pt, findEnt_new hp, hz, Result.andThen]
theorem run_lookup_at {W : World} {r : Nat} {xs ys : List (Pt × Int)} {p : Pt} {v : Int} (h : MapAt W r (xs ++ (p, v) :: ys)) (hp : ∀ x ∈ xs, p ≠ x.1) :
    (Instr.lookup 130 (.map (some r)) (Value.agg #[.int .i64 p.1, .int .i64 p.2]) false).run Tryz.prog W = .ok (Value.int .i64 (v)) W := by
  obtain ⟨k, e, ht⟩ : ∃ k e, Tryz.prog.underlying 130 = some (.map k e) ∧ k = 98 ∧ e = 3 := ⟨_, _, by kernel_rfl, rfl, rfl⟩
  obtain ⟨ht, rfl, rfl⟩ := ht
  simp [Instr.lookup, run_underlying ht, MapKept.run_getObj_map h, run_checkKey_pt, run_findKey_pt, findEnt_at hp, Result.andThen]

theorem putObj_eq (W : World) (r : Nat) (o : Obj) : { W with heap := W.heap.setIfInBounds r o } = W.putObj r o := rfl
theorem ents_snoc (xs : List (Pt × Int)) (p : Pt) (v : Int) : (ents xs).push { key := (Value.agg #[.int .i64 p.1, .int .i64 p.2]), val := (Value.int .i64 (v)), born := xs.length } = ents (xs ++ [(p, v)]) := by
  simp [ents, entsFrom_append, entsFrom]

theorem run_entry_new {W : World} {r : Nat} {xs : List (Pt × Int)} {p : Pt} (h : MapAt W r xs) (hp : ∀ x ∈ xs, p ≠ x.1) :
    (Instr.mapEntry 130 (.map (some r)) (Value.agg #[.int .i64 p.1, .int .i64 p.2])).run Tryz.prog W = .ok (.tuple #[(Value.int .i64 (0)), (Value.int .i64 ((xs.length : Int)))]) (W.putObj r (.map (ents (xs ++ [(p, 0)])) (xs.length + 1))) := by
  obtain ⟨k, e, ht⟩ : ∃ k e, Tryz.prog.underlying 130 = some (.map k e) ∧ k = 98 ∧ e = 3 := ⟨_, _, by kernel_rfl, rfl, rfl⟩
  obtain ⟨ht, rfl, rfl⟩ := ht
  have hz : (zeroValue 3).run Tryz.prog W = .ok (Value.int .i64 (0)) W := by kernel_rfl
  simp [Instr.mapEntry, run_underlying ht, MapKept.run_getObj_map h, run_checkKey_pt, run_findKey_pt, findEnt_new hp, hz, Result.andThen, MapKept.run_setObj_map _ h, putObj_eq, ents_snoc, goInt]

theorem mapAt_put {W : World} {r : Nat} {o : Obj} {xs : List (Pt × Int)} {n : Nat} (h : W.heap[r]? = some o) (hn : n = xs.length) : MapAt (W.putObj r (.map (ents xs) n)) r xs := by
  subst hn
  exact World.putObj_heap_same (heap_lt h)

theorem entsFrom_get (n : Nat) (xs ys : List (Pt × Int)) (x : Pt × Int) : (entsFrom n (xs ++ x :: ys))[xs.length]? = some { key := (Value.agg #[.int .i64 x.1.1, .int .i64 x.1.2]), val := (Value.int .i64 (x.2)), born := n + xs.length } := by
  rw [entsFrom_append, List.getElem?_append_right (by rw [entsFrom_len]; exact Nat.le_refl _)]
  simp [entsFrom_len, entsFrom]
theorem run_entry_at {W : World} {r : Nat} {xs ys : List (Pt × Int)} {p : Pt} {v : Int} (h : MapAt W r (xs ++ (p, v) :: ys)) (hp : ∀ x ∈ xs, p ≠ x.1) :
    (Instr.mapEntry 130 (.map (some r)) (Value.agg #[.int .i64 p.1, .int .i64 p.2])).run Tryz.prog W = .ok (.tuple #[(Value.int .i64 (v)), (Value.int .i64 ((xs.length : Int)))]) (W.putObj r (.map (ents (xs ++ (p, v) :: ys)) (xs ++ (p, v) :: ys).length)) := by
  obtain ⟨k, e, ht⟩ : ∃ k e, Tryz.prog.underlying 130 = some (.map k e) ∧ k = 98 ∧ e = 3 := ⟨_, _, by kernel_rfl, rfl, rfl⟩
  obtain ⟨ht, rfl, rfl⟩ := ht
  have hg : (ents (xs ++ (p, v) :: ys))[xs.length]? = some { key := (Value.agg #[.int .i64 p.1, .int .i64 p.2]), val := (Value.int .i64 (v)), born := xs.length } := by
    have := entsFrom_get 0 xs ys (p, v)
    simpa [ents] using this
  have hm : (ents (xs ++ (p, v) :: ys)).modify xs.length (fun e => { e with key := (Value.agg #[.int .i64 p.1, .int .i64 p.2]) }) = ents (xs ++ (p, v) :: ys) := by
    apply Array.ext_getElem?
    intro i
    rw [Array.getElem?_modify]
    by_cases hi : xs.length = i
    · subst hi
      rw [if_pos rfl, hg]
      rfl
    · rw [if_neg hi]
  have hk : (Instr.keyThatStays (Value.agg #[.int .i64 p.1, .int .i64 p.2]) (Value.agg #[.int .i64 p.1, .int .i64 p.2])).run Tryz.prog W = .ok (Value.agg #[.int .i64 p.1, .int .i64 p.2]) W := by
    have hs : Instr.sameBits 10000 (Value.agg #[.int .i64 p.1, .int .i64 p.2]) (Value.agg #[.int .i64 p.1, .int .i64 p.2]) = true := by simp [Instr.sameBits]
    simp [Instr.keyThatStays, hs]
  simp [Instr.mapEntry, run_underlying ht, MapKept.run_getObj_map h, run_checkKey_pt, run_findKey_pt, findEnt_at hp, Result.andThen, hg, hk, MapKept.run_setObj_map _ h, putObj_eq, hm, goInt]

theorem entsFrom_find {n m : Nat} : ∀ {xs ys : List (Pt × Int)} {x : Pt × Int}, m = n + xs.length → (entsFrom n (xs ++ x :: ys)).findIdx? (fun e => (e.born : Int) == (m : Int)) = some xs.length
  | [], ys, x, h => by subst h; simp [entsFrom, List.findIdx?_cons]
  | y :: xs, ys, x, h => by
    simp only [List.cons_append, entsFrom, List.findIdx?_cons]
    have h1 : ((n : Int) == (m : Int)) = false := by simp at h; simp; omega
    rw [h1, entsFrom_find (n := n + 1) (by simp at h; omega)]
    simp
theorem run_entryStore_at {W : World} {r n : Nat} {xs ys : List (Pt × Int)} {p : Pt} {v u : Int} (h : MapAt W r (xs ++ (p, v) :: ys)) (hn : n = xs.length) :
    (Instr.entryStore 130 (.map (some r)) (Value.int .i64 ((n : Int))) (Value.int .i64 (u))).run Tryz.prog W = .ok () (W.putObj r (.map (ents (xs ++ (p, u) :: ys)) (xs ++ (p, u) :: ys).length)) := by
  subst hn
  have hf : (ents (xs ++ (p, v) :: ys)).findIdx? (fun e => (e.born : Int) == (xs.length : Int)) = some xs.length := by
    have := entsFrom_find (n := 0) (m := xs.length) (xs := xs) (ys := ys) (x := (p, v)) (by simp)
    simpa [ents] using this
  have hm : (ents (xs ++ (p, v) :: ys)).modify xs.length (fun e => { e with val := (Value.int .i64 (u)) }) = ents (xs ++ (p, u) :: ys) := by
    apply Array.ext_getElem?
    intro i
    rw [Array.getElem?_modify]
    have e1 : ∀ z : Int, ents (xs ++ (p, z) :: ys) = (entsFrom 0 xs ++ { key := (Value.agg #[.int .i64 p.1, .int .i64 p.2]), val := (Value.int .i64 (z)), born := xs.length } :: entsFrom (xs.length + 1) ys).toArray := fun z => by
      simp [ents, entsFrom_append, entsFrom]
    rw [e1, e1]
    by_cases hi : xs.length = i
    · subst hi
      simp [entsFrom_len]
    · rw [if_neg hi]
      simp only [List.getElem?_toArray]
      rcases Nat.lt_or_ge i xs.length with hlt | hge
      · rw [List.getElem?_append_left (by rw [entsFrom_len]; exact hlt), List.getElem?_append_left (by rw [entsFrom_len]; exact hlt)]
      · obtain ⟨j, rfl⟩ : ∃ j, i = xs.length + (j + 1) := ⟨i - xs.length - 1, by omega⟩
        rw [List.getElem?_append_right (by rw [entsFrom_len]; omega), List.getElem?_append_right (by rw [entsFrom_len]; omega), entsFrom_len]
        simp
  simp [Instr.entryStore, MapKept.run_getObj_map h, asInt, asIntOf, goInt, hf, Result.andThen, MapKept.run_setObj_map _ h, putObj_eq, hm]
end Go.Proofs.YthijegacjboclaaGreat
