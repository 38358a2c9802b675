/- A stage of a region that draws its order, walked once for each operation, whatever the order: any operations, each behind some others. An append to an empty slice that was just made, in such a stage. No conditions of the program's. -/
import Derived.Test.YthijegacjboclaaQst
import Derived.Laws.AppendOwnNone
namespace Go.Proofs.Ythijegacjboclaa
open Go.RowKit

def setB (l : Array Bool) : List Nat → List Bool → Array Bool
  | i :: is, b :: bs => setB (if b then l.setIfInBounds i true else l) is bs
  | _, _ => l
def okB (deps : List (List Nat)) (b : List Bool) : Bool := (deps.zip b).all fun x => !x.2 || x.1.all fun d => b.getD d false
def rdyL (deps : List (List Nat)) (b : List Bool) : List Nat := (List.range b.length).filter fun j => !b.getD j true && (deps.getD j []).all fun d => b.getD d false
def allB : Nat → List (List Bool)
  | 0 => [[]]
  | n + 1 => (allB n).map (false :: ·) ++ (allB n).map (true :: ·)
theorem mem_allB : ∀ (b : List Bool), b ∈ allB b.length
  | [] => by simp [allB]
  | c :: b => by
    have := mem_allB b
    cases c <;> simp [allB, this]
/-- Whether the stage's operations are ready just as the list says. -/
def stgAll (ops : Array Oper) (base : Array Bool) (idx : List Nat) (deps : List (List Nat)) : Bool :=
  (allB idx.length).all fun b => !okB deps b || b.all id ||
    (Region.ready .any ops (setB base idx b) == (rdyL deps b).map (fun j => idx.getD j 0) && !(rdyL deps b).isEmpty &&
      (rdyL deps b).all fun j => setB base idx (b.set j true) == (setB base idx b).setIfInBounds (idx.getD j 0) true && okB deps (b.set j true))
/-- An activation with slots given anew. -/
def putL : List Nat → List Value → Act → Act
  | d :: ds, v :: vs, a => putL ds vs (a.put (some d) v)
  | _, _, a => a
theorem putL_self : ∀ (ds : List Nat) (a : Act), putL ds (ds.map fun d => a.tmps.getD d undef) a = a
  | [], a => rfl
  | d :: ds, a => by
    rw [List.map_cons, putL, put_self]
    exact putL_self ds a
def fals (b : List Bool) : Nat := (b.filter (!·)).length
theorem fals_cons (c : Bool) (b : List Bool) : fals (c :: b) = (if c = true then 0 else 1) + fals b := by
  unfold fals
  cases c
  · rw [List.filter_cons_of_pos (by rfl), List.length_cons, Nat.add_comm]
    rfl
  · rw [List.filter_cons_of_neg (by decide)]
    simp
theorem fals_set : ∀ (b : List Bool) (j : Nat), b.getD j true = false → fals b = fals (b.set j true) + 1
  | [], j, h => by simp at h
  | c :: b, 0, h => by
    rw [List.getD_cons_zero] at h
    subst h
    rw [List.set_cons_zero, fals_cons, fals_cons]
    simp
    omega
  | c :: b, j + 1, h => by
    rw [List.getD_cons_succ] at h
    have ih := fals_set b j h
    rw [List.set_cons_succ, fals_cons, fals_cons]
    omega
theorem all_fals (b : List Bool) (h : b.all id = true) : fals b = 0 := by
  unfold fals
  rw [List.length_eq_zero_iff, List.filter_eq_nil_iff]
  intro x hx
  have := List.all_eq_true.1 h x hx
  simp only [id] at this
  simp [this]
theorem fals_all (b : List Bool) (h : fals b = 0) : b = List.replicate b.length true := by
  refine List.eq_replicate_iff.2 ⟨rfl, fun x hx => ?_⟩
  unfold fals at h
  rw [List.length_eq_zero_iff, List.filter_eq_nil_iff] at h
  simpa using h x hx
section
variable {P : Program} {ops : Array Oper} {Q : Exit → Act → World → Prop} {C : World → Prop}
theorem wpAnyC_stg (idx : List Nat) (deps : List (List Nat)) (dst : List Nat) (J : List Bool → List Value → World → Prop) {n f0 : Nat} {base : Array Bool} {a0 : Act} {w0 : World} (hr : stgAll ops base idx deps = true)
    (hn : idx.length = n) (hd : dst.length = n) (hb0 : setB base idx (List.replicate n false) = base) (hok : okB deps (List.replicate n false) = true)
    (hC : ∀ b vs w, J b vs w → C w) (h0 : ∀ vs, vs.length = n → J (List.replicate n false) vs w0)
    (hs : ∀ j b vs w, j < n → b.length = n → vs.length = n → okB deps b = true → b.getD j true = false → ((deps.getD j []).all fun d => b.getD d false) = true → J b vs w →
      wpOp P ops Q (idx.getD j 0) (fun a' w' => ∃ v, a' = putL dst (vs.set j v) a0 ∧ J (b.set j true) (vs.set j v) w') (putL dst vs a0) w)
    (hf : ∀ vs w, vs.length = n → J (List.replicate n true) vs w → wpAnyC P ops Q C f0 (setB base idx (List.replicate n true)) (putL dst vs a0) w) :
    wpAnyC P ops Q C (f0 + n) base a0 w0 := by
  subst hn
  refine wpAnyC_stage (fun m l a w => ∃ b vs, b.length = idx.length ∧ vs.length = idx.length ∧ l = setB base idx b ∧ okB deps b = true ∧ m = fals b ∧ a = putL dst vs a0 ∧ J b vs w) f0 ?_ ?_ ?_ idx.length base a0 w0
    ⟨List.replicate idx.length false, dst.map fun d => a0.tmps.getD d undef, by simp, by simpa using hd, hb0.symm, hok, by simp [fals], (putL_self dst a0).symm, h0 _ (by simpa using hd)⟩
  · rintro m l a w ⟨b, vs, -, -, -, -, -, -, hJ⟩
    exact hC _ _ _ hJ
  · rintro l a w ⟨b, vs, hb, hv, rfl, -, hm, rfl, hJ⟩
    have e := fals_all b hm.symm
    rw [hb] at e
    rw [e] at hJ ⊢
    exact hf vs w hv hJ
  · rintro m l a w ⟨b, vs, hb, hv, rfl, ho, hm, rfl, hJ⟩
    have h1 := List.all_eq_true.1 hr b (by rw [← hb]; exact mem_allB b)
    have hnall : b.all id = false := by
      rw [← Bool.not_eq_true]
      intro h
      rw [all_fals b h] at hm
      omega
    simp only [ho, hnall, Bool.not_true, Bool.false_or, Bool.and_eq_true, beq_iff_eq] at h1
    obtain ⟨⟨h2, h3⟩, h4⟩ := h1
    rw [h2]
    refine ⟨?_, fun i hi => ?_⟩
    · intro h
      rw [List.map_eq_nil_iff] at h
      rw [h] at h3
      simp at h3
    · obtain ⟨j, hj, rfl⟩ := List.mem_map.1 hi
      have h5 := List.all_eq_true.1 h4 j hj
      simp only [Bool.and_eq_true, beq_iff_eq] at h5
      unfold rdyL at hj
      rw [List.mem_filter, List.mem_range] at hj
      obtain ⟨hjl, hj2⟩ := hj
      simp only [Bool.and_eq_true, Bool.not_eq_true'] at hj2
      refine wpOp_mono ?_ (hs j b vs w (by omega) hb hv ho hj2.1 hj2.2 hJ)
      rintro a' w' ⟨v, rfl, hJ'⟩
      refine ⟨b.set j true, vs.set j v, by simpa using hb, by simpa using hv, h5.1.symm, h5.2, ?_, rfl, hJ'⟩
      have := fals_set b j hj2.1
      omega
end

/-! ### an append to an empty slice that was just made -/
section
variable {P : Program} {w : World}
theorem run_append_nil (base : Nat) (t ty e : TypeId) (i : TypeInfo) (size : Nat) (ht : P.underlying t = some (.slice e)) (hi : P.info? e = some i)
    (v : Value) (n c : Nat) (xs : List Value) (hown : w.ownsRow base e size v n xs) :
    (Builtin.append_ #[t, t] ty #[v, .slice none 0 c]).run P w = .ok v w := by
  rcases hown.2 with ⟨rfl, rfl⟩ | ⟨g, cap, cur, rfl, _, _, hnc, _⟩
  · simp [Builtin.append_, run_underlying ht, sizeOf, typeInfo, hi, Builtin.lenOf, Builtin.firstCells]
  · simp [Builtin.append_, run_underlying ht, sizeOf, typeInfo, hi, Builtin.lenOf, Builtin.firstCells, hnc, storeCells]
theorem wp_copy_own {o : Oper} {a : Act} {K : Act → World → Prop} {Q : Exit → Act → World → Prop} (s x : Operand) (t : TypeId)
    (ho : o.op = .call { callee := .builtin .append, args := #[s, x], argTypes := #[t, t] })
    (base : Nat) (e : TypeId) (i : TypeInfo) (z : Value) (size bytes : Nat) (ht : P.underlying t = some (.slice e)) (hi : P.info? e = some i) (hz : i.zero = some z)
    (hsize : i.size = size) (hby : i.bytes = bytes) (hzs : z.cells.size = size) (hsz : 0 < size) (hb1 : bytes ≤ 1000)
    (g : Nat) (hs : a.eval s = .slice (some ⟨g, 0, none⟩) 0 0) (hown : w.ownsRow base e size (.slice (some ⟨g, 0, none⟩) 0 0) 0 [])
    (B : Option Addr) (n cb : Nat) (xs : List Value) (hx : a.eval x = .slice B n cb) (hl : xs.length = n * size) (hc : n = 0 ∨ ∃ ad, B = some ad) (hcs : ∀ ad, B = some ad → ∀ j u, xs[j]? = some u → w.cell? (ad.add j) = some u) (h1 : ∀ u ∈ xs, u.oneCell' = true)
    (hn : n ≤ 1000000) (hbase : base ≤ w.heap.size)
    (h : ∀ v' w', w'.ownsRow base e size v' n xs → w.grownBy w' (some g) → K (a.put o.dst v') w') : o.wp P a w K Q := by
  cases B with
  | none =>
    have hn0 : n = 0 := by
      rcases hc with h | ⟨ad, h⟩
      · exact h
      · cases h
    subst hn0
    have hx0 : xs = [] := by
      rw [Nat.zero_mul] at hl
      exact List.eq_nil_of_length_eq_zero hl
    subst hx0
    have hr := run_append_nil (P := P) base t o.type e i size ht hi _ 0 cb [] hown
    unfold Oper.wp execOp
    simp only [ho, resolve, invoke, builtin, Sem.run_bind, Sem.run_pure, Result.andThen_ok, List.map_toArray, List.map_cons, List.map_nil, hs, hx, hr]
    exact h _ _ hown ⟨rfl, rfl, rfl, Nat.le_refl _, fun k _ _ => rfl⟩
  | some ad =>
    refine wp_append_own w s x t ho base e i z size bytes ht hi hz hsize hby hzs hsz _ 0 [] hs hown ad n cb xs hx hl (hcs ad rfl) h1 (by unfold maxLen; omega) ?_ hbase fun v' w' h2 h3 _ => h v' w' (by simpa using h2) h3
    rw [Nat.zero_add]
    exact Nat.le_trans (Nat.mul_le_mul hn hb1) (by omega)
/-- Rows of elements of two types have no block in common. -/
theorem own_ne_type {base base' e e' size size' n n' : Nat} {v v' : Value} {xs ys : List Value} (h : w.ownsRow base e size v n xs) (h' : w.ownsRow base' e' size' v' n' ys) (hne : e ≠ e') : v.ownBlock = none ∨ v.ownBlock ≠ v'.ownBlock := by
  rcases h.2 with ⟨rfl, _⟩ | ⟨g, cap, cur, rfl, _, hc, _⟩
  · exact .inl rfl
  · refine .inr fun he => ?_
    rcases h'.2 with ⟨rfl, _⟩ | ⟨g', cap', cur', rfl, _, hc', _⟩
    · cases he
    · simp only [Value.ownBlock, Option.some.injEq] at he
      subst he
      rw [hc] at hc'
      simp only [Option.some.injEq, Obj.cells.injEq] at hc'
      exact hne hc'.2.1
end
end Go.Proofs.Ythijegacjboclaa
