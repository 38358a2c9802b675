/- Plain geometry of points with whole numbers. -/

namespace Go.Proofs.YthijegacjboclaaGreat

abbrev Pt := Int × Int

def turn (a b c : Pt) : Int := (b.1 - a.1) * (c.2 - a.2) - (b.2 - a.2) * (c.1 - a.1)
def within (n l h : Int) : Bool := decide (l ≤ n) && decide (n ≤ h)
def isPt (p : Pt) : Bool := within p.1 (-200) 200 && within p.2 (-200) 200
def has (a b p : Pt) : Bool := (turn a b p == 0) && within p.1 (min a.1 b.1) (max a.1 b.1) && within p.2 (min a.2 b.2) (max a.2 b.2)
def apart (a b p q : Pt) : Bool := (decide (turn a b p < 0) && decide (0 < turn a b q)) || (decide (0 < turn a b p) && decide (turn a b q < 0))
def meets (a b c d : Pt) : Bool := has a b c || has a b d || has c d a || has c d b || (apart a b c d && apart c d a b)

theorem mul_bd {x y A B : Int} (h1 : -A ≤ x) (h2 : x ≤ A) (h3 : -B ≤ y) (h4 : y ≤ B) : -(A * B) ≤ x * y ∧ x * y ≤ A * B := by
  have h5 : (x.natAbs : Int) * (y.natAbs : Int) ≤ A * B := Int.mul_le_mul (by omega) (by omega) (by omega) (by omega)
  have h6 : ((x * y).natAbs : Int) = (x.natAbs : Int) * (y.natAbs : Int) := by rw [Int.natAbs_mul]; exact Int.natCast_mul _ _
  omega

theorem isPt_bd {p : Pt} (h : isPt p = true) : (-200 ≤ p.1 ∧ p.1 ≤ 200) ∧ (-200 ≤ p.2 ∧ p.2 ≤ 200) := by
  simpa [isPt, within] using h

theorem cross_bd {a b c d : Int} (h1 : -400 ≤ a ∧ a ≤ 400) (h2 : -400 ≤ b ∧ b ≤ 400) (h3 : -400 ≤ c ∧ c ≤ 400) (h4 : -400 ≤ d ∧ d ≤ 400) :
    (-160000 ≤ a * b ∧ a * b ≤ 160000) ∧ (-160000 ≤ c * d ∧ c * d ≤ 160000) :=
  ⟨mul_bd (A := 400) (B := 400) h1.1 h1.2 h2.1 h2.2, mul_bd (A := 400) (B := 400) h3.1 h3.2 h4.1 h4.2⟩

theorem turn_parts {a b c : Pt} (ha : isPt a = true) (hb : isPt b = true) (hc : isPt c = true) :
    (-160000 ≤ (b.1 - a.1) * (c.2 - a.2) ∧ (b.1 - a.1) * (c.2 - a.2) ≤ 160000) ∧ (-160000 ≤ (b.2 - a.2) * (c.1 - a.1) ∧ (b.2 - a.2) * (c.1 - a.1) ≤ 160000) := by
  have := isPt_bd ha
  have := isPt_bd hb
  have := isPt_bd hc
  exact cross_bd (by omega) (by omega) (by omega) (by omega)

theorem turn_bd {a b c : Pt} (ha : isPt a = true) (hb : isPt b = true) (hc : isPt c = true) : -320000 ≤ turn a b c ∧ turn a b c ≤ 320000 := by
  have := turn_parts ha hb hc
  unfold turn
  omega

def sgn (n : Int) : Int := if n < 0 then -1 else min n 1
theorem sgn_bd (n : Int) : -1 ≤ sgn n ∧ sgn n ≤ 1 := by unfold sgn; omega
theorem sgn_apart (m n : Int) : decide (sgn m * sgn n < 0) = ((decide (m < 0) && decide (0 < n)) || (decide (0 < m) && decide (n < 0))) := by
  have h : ∀ k : Int, (k < 0 ∧ sgn k = -1) ∨ (k = 0 ∧ sgn k = 0) ∨ (0 < k ∧ sgn k = 1) := fun k => by unfold sgn; omega
  rw [Bool.eq_iff_iff]
  rcases h m with ⟨h1, h2⟩ | ⟨h1, h2⟩ | ⟨h1, h2⟩ <;> rcases h n with ⟨h3, h4⟩ | ⟨h3, h4⟩ | ⟨h3, h4⟩ <;> simp [h2, h4] <;> omega

/-- Corner number i, and the side from it. -/
def pat (l : List Pt) (i : Nat) : Pt := l.getD i (0, 0)
def nxt (l : List Pt) (i : Nat) : Nat := (i + 1) % l.length

theorem pat_get {l : List Pt} {i : Nat} (h : i < l.length) : l[i]? = some (pat l i) := by
  simp [pat, List.getD, h]
theorem pat_eq {l : List Pt} {i : Nat} (h : i < l.length) : l[i] = pat l i := by
  simp [pat, List.getD, h]
theorem nxt_lt {l : List Pt} (i : Nat) (h : 0 < l.length) : nxt l i < l.length := Nat.mod_lt _ h

theorem nxt_ne {l : List Pt} {k : Nat} (hn : 3 ≤ l.length) (hk : k < l.length) : nxt l k ≠ k := by
  unfold nxt
  rcases Nat.lt_or_ge (k + 1) l.length with h | h
  · rw [Nat.mod_eq_of_lt h]; omega
  · have : k + 1 = l.length := by omega
    rw [this, Nat.mod_self]; omega

/-- The corners are a valid polygon. -/
def Ok (l : List Pt) : Prop :=
  (3 ≤ l.length ∧ l.length ≤ 10) ∧ (∀ i, i < l.length → isPt (pat l i) = true) ∧ (∀ i, i < l.length → ∀ k, k < i → pat l k ≠ pat l i) ∧
  (∀ i, i < l.length → has (pat l i) (pat l (nxt l i)) (pat l (nxt l (nxt l i))) = false ∧ has (pat l (nxt l i)) (pat l (nxt l (nxt l i))) (pat l i) = false) ∧
  (∀ i, i < l.length → ∀ k, k < l.length → k = i ∨ k = nxt l i ∨ nxt l k = i ∨ meets (pat l i) (pat l (nxt l i)) (pat l k) (pat l (nxt l k)) = false)
instance (l : List Pt) : Decidable (Ok l) := by unfold Ok; infer_instance
def chk (l : List Pt) : Int := if Ok l then 0 else 20
theorem chk_ok {l : List Pt} (h : Ok l) : chk l = 0 := if_pos h
theorem chk_no {l : List Pt} (h : ¬ Ok l) : chk l = 20 := if_neg h

/-- What the sides from corner i on must not have in common with the others. -/
def RowOk (l : List Pt) (i : Nat) : Prop :=
  (has (pat l i) (pat l (nxt l i)) (pat l (nxt l (nxt l i))) = false ∧ has (pat l (nxt l i)) (pat l (nxt l (nxt l i))) (pat l i) = false) ∧
  ∀ k, k < l.length → k = i ∨ k = nxt l i ∨ nxt l k = i ∨ meets (pat l i) (pat l (nxt l i)) (pat l k) (pat l (nxt l k)) = false
def Simple (l : List Pt) : Prop := ∀ i, i < l.length → RowOk l i
theorem ok_iff (l : List Pt) : Ok l ↔ (3 ≤ l.length ∧ l.length ≤ 10) ∧ (∀ i, i < l.length → isPt (pat l i) = true) ∧ (∀ i, i < l.length → ∀ k, k < i → pat l k ≠ pat l i) ∧ Simple l :=
  ⟨fun h => ⟨h.1, h.2.1, h.2.2.1, fun i hi => ⟨h.2.2.2.1 i hi, h.2.2.2.2 i hi⟩⟩, fun h => ⟨h.1, h.2.1, h.2.2.1, fun i hi => (h.2.2.2 i hi).1, fun i hi => (h.2.2.2 i hi).2⟩⟩
end Go.Proofs.YthijegacjboclaaGreat
