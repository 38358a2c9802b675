/- Maps of fields: keys that are structs of numbers, elements that are slices of points; a range over such a map. -/
import Derived.Maps.RangeWalk
import Derived.WalkKit
namespace Go.Proofs.YthijegacjboclaaGreat
open Go.Maps (Keyed has size IsMap)

/-- How an element reads: a nil slice, or one of n points from its block's beginning. -/
def fldR (n : Nat) : Value → Option (DataW (Nat × Nat) × List MemPlace)
  | .slice none 0 0 => some (.nil, [])
  | .slice (some ⟨b, 0, none⟩) k c => if k = n then some (.held (b, c), []) else none
  | _ => none
theorem fldR_nil (n : Nat) : fldR n (.slice none 0 0) = some (.nil, []) := rfl
theorem fldR_mk (n b c : Nat) : fldR n (.slice (some ⟨b, 0, none⟩) n c) = some (.held (b, c), []) := by simp [fldR]
theorem fldR_held {n : Nat} {v : Value} {y : DataW (Nat × Nat) × List MemPlace} {bc : Nat × Nat} (h : fldR n v = some y) (hy : y.1 = .held bc) : v = .slice (some ⟨bc.1, 0, none⟩) n bc.2 := by
  unfold fldR at h
  split at h
  · cases h; cases hy
  · split at h
    · cases h; cases hy; rename_i e; subst e; rfl
    · cases h
  · cases h
section
variable {P : Program} {w : World} {k : TypeId} {b n nn : Nat} {D : DataW (Nat × Nat)}
/-- What stands at a key: nil if the key is not there. -/
theorem fld_look {t e : TypeId} (h : w.ownsMap P k (fldR n) b nn D) (K : Keyed P k) (ht : P.underlying t = some (.map k e)) (hz : (zeroValue e).run P w = .ok (.slice none 0 0) w) {key : Value} {kl : Lit} (hkey : keyOf P k key = some kl) :
    (D.atKey kl .nil = .nil ∧ (Instr.lookup t (.map (some b)) key false).run P w = .ok (.slice none 0 0) w) ∨ ∃ bc : Nat × Nat, D.atKey kl .nil = .held bc ∧ (Instr.lookup t (.map (some b)) key false).run P w = .ok (.slice (some ⟨bc.1, 0, none⟩) n bc.2) w := by
  obtain ⟨v, ps, hrun, hv⟩ := h.lookup K ht hz (fldR_nil n) hkey
  generalize D.atKey kl .nil = d at hv ⊢
  unfold fldR at hv
  split at hv
  · cases hv; exact .inl ⟨rfl, hrun⟩
  · split at hv
    · cases hv; rename_i e; subst e; exact .inr ⟨_, rfl, hrun⟩
    · cases hv
  · cases hv
end
section
variable {K : Type} (kv : K → Value) (kl : K → Lit)
/-- A map's keys are just those of a set, and each has a slice at it. -/
structure MapOf (P : Program) (k : TypeId) (D : DataW (Nat × Nat)) (S : K → Prop) : Prop where
  isM : IsMap D
  key : ∀ x, S x → keyOf P k (kv x) = some (kl x)
  all : ∀ l, has D l = true → ∃ x, S x ∧ l = kl x
  held : ∀ x, S x → ∃ bc, D.atKey (kl x) .nil = .held bc
theorem has_of_held {D : DataW (Nat × Nat)} {l : Lit} {bc : Nat × Nat} (h : D.atKey l .nil = .held bc) : has D l = true := by
  cases hh : has D l with
  | true => rfl
  | false =>
    have := Maps.atKey_of_not_has hh (.nil : DataW (Nat × Nat))
    rw [h] at this
    cases this
variable {kv kl} {P : Program} {k : TypeId} {D : DataW (Nat × Nat)} {S : K → Prop}
theorem MapOf.has_ (h : MapOf kv kl P k D S) {x : K} (hx : S x) : has D (kl x) = true := by
  obtain ⟨bc, hbc⟩ := h.held x hx
  exact has_of_held hbc
theorem MapOf.empty : MapOf kv kl P k (.map []) (fun _ : K => False) :=
  ⟨Maps.isMap_empty, fun x h => h.elim, fun l h => by simp [has] at h, fun x h => h.elim⟩
/-- A key more, or one that is there. -/
theorem MapOf.put (KK : Keyed P k) (h : MapOf kv kl P k D S) {x : K} (hx : keyOf P k (kv x) = some (kl x)) (bc : Nat × Nat) {S' : K → Prop} (hS : ∀ y, S' y ↔ S y ∨ y = x) : MapOf kv kl P k (D.put (kl x) (.held bc)) S' := by
  have hkl := KK.key hx
  refine ⟨h.isM.put _ _, fun y hy => ?_, fun l hl => ?_, fun y hy => ?_⟩
  · rcases (hS y).1 hy with hy | rfl
    · exact h.key y hy
    · exact hx
  · by_cases e : l = kl x
    · exact ⟨x, (hS x).2 (.inr rfl), e⟩
    · rw [Maps.has_put_other e] at hl
      obtain ⟨y, hy, rfl⟩ := h.all l hl
      exact ⟨y, (hS y).2 (.inl hy), rfl⟩
  · by_cases e : kl y = kl x
    · exact ⟨bc, by rw [e]; exact Maps.atKey_put_same h.isM hkl _ _⟩
    · rcases (hS y).1 hy with hy | rfl
      · obtain ⟨c, hc⟩ := h.held y hy
        exact ⟨c, by rw [Maps.atKey_put_other e]; exact hc⟩
      · exact absurd rfl e
theorem MapOf.congr {S' : K → Prop} (h : MapOf kv kl P k D S) (hS : ∀ y, S' y ↔ S y) : MapOf kv kl P k D S' := by
  have e : S' = S := funext fun y => propext (hS y)
  rw [e]; exact h
/-- The keys that a range has passed. -/
def passed (kl : K → Lit) (S : K → Prop) (left : Lit → Bool) (x : K) : Prop := S x ∧ left (kl x) = false
theorem passed_start (h : MapOf kv kl P k D S) (x : K) : ¬ passed kl S (has D) x := fun hp => by
  have := h.has_ hp.1
  rw [hp.2] at this
  cases this
theorem passed_end {left : Lit → Bool} (hl : ∀ l, left l = false) (x : K) : passed kl S left x ↔ S x := ⟨fun h => h.1, fun h => ⟨h, hl _⟩⟩
theorem passed_next (KK : Keyed P k) (h : MapOf kv kl P k D S) (hkv : ∀ x y : K, kv x = kv y → x = y) {left : Lit → Bool} {x : K} (hx : S x) (y : K) :
    passed kl S (fun z => left z && !z.sameKey (kl x)) y ↔ passed kl S left y ∨ y = x := by
  have hkx := KK.key (h.key x hx)
  constructor
  · rintro ⟨hy, hl⟩
    simp only [Bool.and_eq_false_iff, Bool.not_eq_false'] at hl
    rcases hl with hl | hl
    · exact .inl ⟨hy, hl⟩
    · have e := WideAt.sameKey_eq hl
      refine .inr (hkv _ _ (KK.inj (h.key y hy) ?_))
      rw [e]; exact h.key x hx
  · rintro (⟨hy, hl⟩ | rfl)
    · exact ⟨hy, by simp [hl]⟩
    · exact ⟨hx, by simp [WideAt.sameKey_self hkx]⟩
end
section
variable {P : Program} (w : World) {ops : Array Oper} {rest : List Oper} {o : Oper} {a : Act} {Q : Exit → Act → World → Prop} {K : Type} {kv : K → Value} {kl : K → Lit}
theorem wpList_next_fld (hg : o.guard = none) (it : Operand) (hop : o.op = Op.next it false) (k : TypeId) (KK : Keyed P k) (n b r nn : Nat) (D : DataW (Nat × Nat)) (S : K → Prop) (hM : MapOf kv kl P k D S) (left : Lit → Bool) (cnt : Nat) (hl : ∀ l, left l = true → has D l = true)
    (hit : a.eval it = .pointer (some ⟨r, 0, none⟩)) (h : w.ranges P k (fldR n) b r nn D left cnt)
    (hDone : (∀ l, left l = false) → wpList P ops Q rest (a.put o.dst (.tuple #[.bool false])) w)
    (hMore : ∀ (x : K) (bc : Nat × Nat) (w' : World) (cnt' : Nat), S x → left (kl x) = true → D.atKey (kl x) .nil = .held bc → w'.ranges P k (fldR n) b r nn D (fun z => left z && !z.sameKey (kl x)) cnt' → cnt' < cnt →
      w.grownBy w' (some r) → w'.heap.size = w.heap.size → (Instr.entry (.pointer (some ⟨r, 0, none⟩))).run P w' = .ok (.tuple #[kv x, .slice (some ⟨bc.1, 0, none⟩) n bc.2]) w' → wpList P ops Q rest (a.put o.dst (.tuple #[.bool true, kv x, .slice (some ⟨bc.1, 0, none⟩) n bc.2])) w') :
    wpList P ops Q (o :: rest) a w := by
  refine wpList_plain hg fun K' hK' => ?_
  unfold Oper.wp
  rcases h.next KK o.type with ⟨h0, hl0, hrun⟩ | ⟨key, v, l, y, w', cnt', hkey, hlk, hv, hat, hrun, hrg, hlt, hgr, hsz, hen⟩
  · simp [execOp, hop, hit, hrun, Result.andThen]
    exact hK' _ _ (hDone hl0)
  · obtain ⟨x, hx, rfl⟩ := hM.all l (hl l hlk)
    obtain ⟨bc, hbc⟩ := hM.held x hx
    obtain rfl := KK.inj hkey (hM.key x hx)
    obtain rfl := fldR_held hv ((hat .nil).symm.trans hbc)
    simp [execOp, hop, hit, hrun, Result.andThen]
    exact hK' _ _ (hMore x bc w' cnt' hx hlk hbc hrg hlt hgr hsz hen)
end
end Go.Proofs.YthijegacjboclaaGreat
