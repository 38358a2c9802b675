/- The reference's all: all elbows of a walk that begin with some places. -/
import Derived.Test.YtfgplmgkejeoiaaMeter
import Derived.Test.YtfgplmgkejeoiaaQc
import Derived.Test.YtfgplmgkejeoiaaApp5
import Derived.Test.YtfgplmgkejeoiaaRAre
namespace Go.Proofs.Ytfgplmgkejeoiaa
open Go.RowKit

def allQ (T : Trk) (m : List Pt) : Nat → List Nat → List (List Nat)
  | 0, first => if areN T m first = true then [first] else []
  | r + 1, first => (List.range T.pts.length).flatMap fun k => if reachB T k (pat m first.length) = true then allQ T m r (first ++ [k]) else []
/-- What the first k places give. -/
def allQTo (T : Trk) (m : List Pt) (r : Nat) (first : List Nat) (k : Nat) : List (List Nat) :=
  (List.range k).flatMap fun k => if reachB T k (pat m first.length) = true then allQ T m r (first ++ [k]) else []
theorem allQTo_full (T : Trk) (m : List Pt) (r : Nat) (first : List Nat) : allQTo T m r first T.pts.length = allQ T m (r + 1) first := rfl
theorem allQTo_yes {T : Trk} {m : List Pt} {r : Nat} {first : List Nat} {k : Nat} (h : reachB T k (pat m first.length) = true) : allQTo T m r first (k + 1) = allQTo T m r first k ++ allQ T m r (first ++ [k]) := by
  simp [allQTo, List.range_succ, List.flatMap_append, h]
theorem allQTo_no {T : Trk} {m : List Pt} {r : Nat} {first : List Nat} {k : Nat} (h : reachB T k (pat m first.length) = false) : allQTo T m r first (k + 1) = allQTo T m r first k := by
  simp [allQTo, List.range_succ, List.flatMap_append, h]
theorem flat_filter {α β : Type} (p : α → Bool) (f : α → List β) : ∀ l : List α, (l.filter p).flatMap f = l.flatMap fun x => if p x = true then f x else []
  | [] => rfl
  | a :: t => by
    rw [List.filter_cons, List.flatMap_cons, ← flat_filter p f t]
    split
    · rw [List.flatMap_cons]
    · rw [List.nil_append]
theorem flat_none {α β : Type} {f : α → List β} : ∀ {l : List α}, (∀ x ∈ l, f x = []) → l.flatMap f = []
  | [], _ => rfl
  | a :: t, h => by
    rw [List.flatMap_cons, h a List.mem_cons_self, flat_none fun x hx => h x (List.mem_cons_of_mem _ hx)]
    rfl
theorem flat_same {α β : Type} {f g : α → List β} : ∀ {l : List α}, (∀ x ∈ l, f x = g x) → l.flatMap f = l.flatMap g
  | [], _ => rfl
  | a :: t, h => by rw [List.flatMap_cons, List.flatMap_cons, h a List.mem_cons_self, flat_same fun x hx => h x (List.mem_cons_of_mem _ hx)]
theorem allQ_bad {T : Trk} {m : List Pt} {i : Nat} (h0 : i ≠ 0) : ∀ (r : Nat) (first : List Nat), i < first.length → (stepV T (nat first (i - 1)) (nat first i)).2 = false → allQ T m r first = []
  | 0, first, hi, hs => by
    rw [allQ, if_neg]
    rw [areN_no (j := i - 1) (by omega)]
    · exact Bool.false_ne_true
    · rw [elOk, nx, show i - 1 + 1 = i by omega, Nat.mod_eq_of_lt hi, hs]
      rfl
  | r + 1, first, hi, hs => by
    rw [allQ]
    refine flat_none fun k _ => ?_
    split
    · refine allQ_bad h0 r _ (by rw [List.length_append]; omega) ?_
      rw [nat_left (by omega), nat_left hi]
      exact hs
    · rfl
theorem allQ_allR {T : Trk} {m : List Pt} : ∀ (r : Nat) (first : List Nat), 0 < first.length + r → (∀ i, i < first.length → reachB T (nat first i) (pat m i) = true ∧ (i ≠ 0 → (stepV T (nat first (i - 1)) (nat first i)).2 = true)) → allQ T m r first = allR T m r first
  | 0, first, hp, ho => by
    rw [allQ, allR]
    have h1 : areN T m first = (stepV T (nat first (first.length - 1)) (nat first 0)).2 := by
      cases hs : (stepV T (nat first (first.length - 1)) (nat first 0)).2 with
      | true =>
        refine areN_yes fun j hj => ?_
        rw [elOk, (ho j hj).1, Bool.and_true, nx]
        by_cases h2 : j + 1 = first.length
        · rw [h2, Nat.mod_self, show j = first.length - 1 by omega]
          exact hs
        · rw [Nat.mod_eq_of_lt (by omega)]
          exact (ho (j + 1) (by omega)).2 (by omega)
      | false =>
        refine areN_no (j := first.length - 1) (by omega) ?_
        rw [elOk, nx, show first.length - 1 + 1 = first.length by omega, Nat.mod_self, hs]
        rfl
    rw [h1]
  | r + 1, first, hp, ho => by
    rw [allQ, allR, plcN, flat_filter]
    refine flat_same fun k _ => ?_
    split
    · rename_i hk
      split
      · rename_i hs
        refine allQ_allR r _ (by rw [List.length_append, List.length_singleton]; omega) fun i hi => ?_
        rw [List.length_append, List.length_singleton] at hi
        by_cases h1 : i = first.length
        · subst h1
          rw [nat_app]
          refine ⟨hk, fun h0 => ?_⟩
          rw [nat_left (by omega)]
          rcases hs with hs | hs
          · exact absurd hs h0
          · exact hs
        · rw [nat_left (by omega)]
          refine ⟨(ho i (by omega)).1, fun h0 => ?_⟩
          rw [nat_left (by omega)]
          exact (ho i (by omega)).2 h0
      · rename_i hs
        rw [not_or] at hs
        refine allQ_bad hs.1 r _ (by simp) ?_
        rw [nat_app, nat_left (by omega)]
        exact Bool.eq_false_iff.2 hs.2
    · rfl
theorem allQ_elbs {T : Trk} {m : List Pt} (hm : 0 < m.length) : allQ T m m.length [] = elbs T m := allQ_allR m.length [] (by simpa using hm) (fun i hi => absurd hi (Nat.not_lt_zero _))
end Go.Proofs.Ytfgplmgkejeoiaa
namespace Go.Proofs.Ytfgplmgkejeoiaa
open Go.RowKit
attribute [local go_sem] After.cell After.frozen

theorem infoIS : (Try.prog.info? 37).map (fun i => (i.zero, i.size, i.bytes)) = some (some (.slice none 0 0), 1, 24) := by kernel_rfl
theorem undIS : Try.prog.underlying 89 = some (.slice 37) := by kernel_rfl
/-- The block of a slice holds numbers. -/
def TypI (w : World) (A : Option Addr) : Prop := ∀ a, A = some a → ∃ cs, Blk w a.block 3 cs
theorem TypI.below {w w' : World} {A : Option Addr} (h : TypI w A) (hb : Below w.heap.size w w') : TypI w' A := fun a e => let ⟨cs, hc⟩ := h a e; ⟨cs, hc.below hb⟩
/-- Slices of numbers in memory, one after the other. -/
def RowsP (w : World) : List Value → List (List Nat) → Prop
  | [], [] => True
  | v :: vs, l :: ls => (∃ A ca, v = .slice A l.length ca ∧ Ints w A (ints l) ∧ TypI w A) ∧ RowsP w vs ls
  | [], _ :: _ => False
  | _ :: _, [] => False
theorem RowsP.len {w : World} : ∀ {vs : List Value} {ls : List (List Nat)}, RowsP w vs ls → vs.length = ls.length
  | [], [], _ => rfl
  | _ :: _, _ :: _, h => by rw [List.length_cons, List.length_cons, RowsP.len h.2]
  | [], _ :: _, h => h.elim
  | _ :: _, [], h => h.elim
theorem RowsP.below {w w' : World} (hb : Below w.heap.size w w') : ∀ {vs : List Value} {ls : List (List Nat)}, RowsP w vs ls → RowsP w' vs ls
  | [], [], _ => trivial
  | _ :: _, _ :: _, ⟨⟨A, ca, e, hI, hY⟩, h⟩ => ⟨⟨A, ca, e, hI.below hb, hY.below hb⟩, RowsP.below hb h⟩
  | [], _ :: _, h => h.elim
  | _ :: _, [], h => h.elim
theorem RowsP.app {w : World} {us : List Value} {ks : List (List Nat)} (h2 : RowsP w us ks) : ∀ {vs : List Value} {ls : List (List Nat)}, RowsP w vs ls → RowsP w (vs ++ us) (ls ++ ks)
  | [], [], _ => h2
  | _ :: _, _ :: _, ⟨h, h1⟩ => ⟨h, RowsP.app h2 h1⟩
  | [], _ :: _, h => h.elim
  | _ :: _, [], h => h.elim
theorem RowsP.one {w : World} : ∀ {vs : List Value} {ls : List (List Nat)}, RowsP w vs ls → ∀ u ∈ vs, u.oneCell' = true
  | [], [], _, u, hu => by cases hu
  | v :: vs, l :: ls, ⟨⟨A, ca, e, _⟩, h⟩, u, hu => by
    rcases List.mem_cons.1 hu with rfl | hu
    · subst e; rfl
    · exact RowsP.one h u hu
  | [], _ :: _, h, _, _ => h.elim
  | _ :: _, [], h, _, _ => h.elim
theorem RowsP.get {w : World} : ∀ {vs : List Value} {ls : List (List Nat)} {i : Nat} {l : List Nat}, RowsP w vs ls → ls[i]? = some l → ∃ A ca, vs[i]? = some (.slice A l.length ca) ∧ Ints w A (ints l)
  | [], [], _, _, _, h => by simp at h
  | v :: vs, l :: ls, 0, x, ⟨⟨A, ca, e, hI, _⟩, _⟩, h => by
    simp only [List.getElem?_cons_zero, Option.some.injEq] at h ⊢
    subst h
    exact ⟨A, ca, e, hI⟩
  | v :: vs, l :: ls, i + 1, x, ⟨_, h1⟩, h => by
    simp only [List.getElem?_cons_succ] at h ⊢
    exact RowsP.get h1 h
  | [], _ :: _, _, _, h, _ => h.elim
  | _ :: _, [], _, _, h, _ => h.elim
theorem Ints.same {w w' : World} {A : Option Addr} {l : List Int} (h : Ints w A l) (he : ∀ a, A = some a → w'.heap[a.block]? = w.heap[a.block]?) : Ints w' A l := by
  rcases h with rfl | ⟨b, o, rfl, hI⟩
  · exact .inl rfl
  · have h1 : w'.heap[b]? = w.heap[b]? := he _ rfl
    refine .inr ⟨b, o, rfl, ?_, fun i n hi => (World.cell?_of_block (a := ⟨b, o + i, none⟩) h1).trans (hI.x i n hi)⟩
    have h2 := hI.lt
    have h3 : w.heap[b]? = some w.heap[b] := Array.getElem?_eq_getElem h2
    exact heap_lt (h1.trans h3)
theorem RowsP.grow {X w' : World} {B n : Nat} {v : Value} {xs : List Value} (hown : X.ownsRow B 37 1 v n xs) (hg : ∀ g t cs, Blk X g t cs → v.ownBlock ≠ some g → Blk w' g t cs) : ∀ {vs : List Value} {ls : List (List Nat)}, RowsP X vs ls → RowsP w' vs ls
  | [], [], _ => trivial
  | _ :: _, l :: _, ⟨⟨A, ca, e, hI, hY⟩, h⟩ => by
    have h1 : ∀ a cs, A = some a → Blk X a.block 3 cs → Blk w' a.block 3 cs := fun a cs ha hB => hg _ _ _ hB fun hv => by
      rcases hown.2 with ⟨rfl, _⟩ | ⟨g, cap, cur, rfl, _, h2, _⟩
      · cases hv
      · simp only [Value.ownBlock, Option.some.injEq] at hv
        subst hv
        have h3 := hB.symm.trans h2
        simp at h3
    refine ⟨⟨A, ca, e, hI.same fun a ha => ?_, fun a ha => ?_⟩, RowsP.grow hown hg h⟩
    · obtain ⟨cs, hB⟩ := hY a ha
      exact (h1 a cs ha hB).trans hB.symm
    · obtain ⟨cs, hB⟩ := hY a ha
      exact ⟨cs, h1 a cs ha hB⟩
  | [], _ :: _, h => h.elim
  | _ :: _, [], h => h.elim
def RefP (ls : List (List Nat)) (B : Nat) (w : World) (v : Value) : Prop := ∃ vs, w.ownsRow B 37 1 v ls.length vs ∧ RowsP w vs ls
theorem RefP.below {ls : List (List Nat)} {B : Nat} {w w' : World} {v : Value} (h : RefP ls B w v) (hb : Below w.heap.size w w') : RefP ls B w' v :=
  let ⟨vs, h1, h2⟩ := h
  ⟨vs, own_below h1 hb, h2.below hb⟩

/-- An append to what the walk owns, as one step: of a nil slice, too. -/
theorem app_any {o : Oper} {a : Act} {K : Act → World → Prop} {Q : Exit → Act → World → Prop} {w0 X : World} (s x : Operand) (t e : TypeId) (z : Value) (bytes : Nat) (ho : o.op = .call { callee := .builtin .append, args := #[s, x], argTypes := #[t, t] })
    (hinfo : (Try.prog.info? e).map (fun i => (i.zero, i.size, i.bytes)) = some (some z, 1, bytes)) (hund : Try.prog.underlying t = some (.slice e)) (hz : z.cells.size = 1) (hbt : bytes ≤ 24)
    (hb : Below w0.heap.size w0 X) (v : Value) (n k : Nat) (xs news : List Value) (hs : a.eval s = v) (hown : X.ownsRow w0.heap.size e 1 v n xs)
    (hk : news.length = k) (hsrc : (k = 0 ∧ a.eval x = .slice none 0 0) ∨ ∃ ad c, a.eval x = .slice (some ad) k c ∧ ∀ j u, news[j]? = some u → X.cell? (ad.add j) = some u) (h1 : ∀ u ∈ news, u.oneCell' = true) (hl : n + k ≤ 100000000)
    (h : ∀ v' w', w'.ownsRow w0.heap.size e 1 v' (n + k) (xs ++ news) → Below w0.heap.size w0 w' → (∀ g t cs, Blk X g t cs → v.ownBlock ≠ some g → Blk w' g t cs) → K (a.put o.dst v') w') : o.wp Try.prog a X K Q := by
  obtain ⟨i0, hi, hz0, hz1, hz2⟩ := info_parts hinfo
  rcases hsrc with ⟨hk0, hx⟩ | ⟨ad, c, hx, hc⟩
  · subst hk0
    have hn := List.eq_nil_of_length_eq_zero hk
    subst hn
    have hrun := run_append_owned_none (P := Try.prog) (w := X) w0.heap.size t o.type e i0 1 hund hi v n xs hown
    unfold Oper.wp
    simp [execOp, ho, resolve, invoke, builtin, hs, hx, hrun, Result.andThen]
    exact h _ _ (by simpa using hown) hb fun g t cs hg _ => hg
  · refine wp_append_own X s x t ho w0.heap.size e i0 z 1 bytes hund hi hz0 hz1 hz2 hz (by decide) v n xs hs hown ad k c news hx (by omega) hc h1 (by unfold maxLen; omega) ?_ hb.size ?_
    · exact Nat.le_trans (Nat.mul_le_mul hl hbt) (by decide)
    · intro v' w' g1 g2 g3
      exact h v' w' g1 (bl_grown hb hown g2) fun g t cs hg hne => (g2.block g hg.lt (fun e => hne e.symm)).trans hg
theorem srcInts {X : World} {A : Option Addr} {ca : Nat} {l : List Int} (h : Ints X A l) (hc : A = none → ca = 0) :
    (l.length = 0 ∧ Value.slice A l.length ca = .slice none 0 0) ∨ ∃ ad c, Value.slice A l.length ca = .slice (some ad) l.length c ∧ ∀ j u, (intsV l)[j]? = some u → X.cell? (ad.add j) = some u := by
  rcases A with _ | ad
  · have h0 := h.nil
    subst h0
    exact .inl ⟨rfl, by rw [hc rfl]; rfl⟩
  · exact .inr ⟨ad, ca, rfl, h.cellsV⟩
theorem srcRow {X : World} {B e n : Nat} {v : Value} {xs : List Value} (h : X.ownsRow B e 1 v n xs) :
    (n = 0 ∧ v = .slice none 0 0) ∨ ∃ ad c, v = .slice (some ad) n c ∧ ∀ j u, xs[j]? = some u → X.cell? (ad.add j) = some u := by
  rcases h.2 with ⟨rfl, rfl⟩ | ⟨g, cap, cur, rfl, _⟩
  · exact .inl ⟨rfl, rfl⟩
  · exact .inr ⟨_, _, rfl, h.cells (g := g) rfl⟩
theorem own_one {w : World} {B e : Nat} {v : Value} (hB : B ≤ w.heap.size) : (w.alloc (.cells #[v] e)).ownsRow B e 1 (.slice (some ⟨w.heap.size, 0, none⟩) 1 1) 1 [v] :=
  ⟨by simp, .inr ⟨w.heap.size, 1, #[v], rfl, hB, heap_alloc_new w _, Nat.le_refl _, by decide, by simp, by simp⟩⟩
theorem allQ_len {T : Trk} {m : List Pt} (hT : T.pts.length ≤ 8) : ∀ (r : Nat) (first : List Nat), (allQ T m r first).length ≤ 8 ^ r
  | 0, first => by rw [allQ]; split <;> simp
  | r + 1, first => by
    rw [allQ, List.length_flatMap]
    have h1 : ∀ (l : List Nat), ((l.map fun k => (if reachB T k (pat m first.length) = true then allQ T m r (first ++ [k]) else []).length).sum) ≤ l.length * 8 ^ r := fun l => by
      induction l with
      | nil => simp
      | cons a t ih =>
        rw [List.map_cons, List.sum_cons, List.length_cons, Nat.add_mul, Nat.one_mul]
        have h2 : (if reachB T a (pat m first.length) = true then allQ T m r (first ++ [a]) else []).length ≤ 8 ^ r := by
          split
          · exact allQ_len hT r _
          · simp
        omega
    have h3 := h1 (List.range T.pts.length)
    rw [List.length_range] at h3
    exact Nat.le_trans h3 (by rw [Nat.pow_succ, Nat.mul_comm]; exact Nat.mul_le_mul_left _ hT)
end Go.Proofs.Ytfgplmgkejeoiaa
