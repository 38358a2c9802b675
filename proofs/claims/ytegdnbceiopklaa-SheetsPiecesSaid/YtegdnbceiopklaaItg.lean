/-
Ranges over a function whose iterator itself ranges over a function: the iterator's contract says to its rounds that they leave cells from B on, and all else from behind the loop's record on, as they lie; the loop outside a round. Under the wide fence.
-/
import Derived.Test.YtegdnbceiopklaaRg
namespace Go.Proofs.Ytegdnbceiopklaa
open Go.RowKit

theorem Step.mono {B C : Nat} {W W' : World} (h : Step C W W') (hBC : B ≤ C) : Step B W W' := ⟨h.os, h.tape, h.output, h.size, fun k o hk ho => h.same k o hk (ho.imp id fun h => Nat.lt_of_lt_of_le h hBC)⟩
theorem kf_mono {B C : Nat} {W W' : World} (h : KeepsFrom B W W') (hBC : B ≤ C) : KeepsFrom C W W' := ⟨h.size, fun k o hk => h.same k o (Nat.le_trans hBC hk)⟩

/-- A function value is an iterator over xs, as long as the rounds leave the cells from B on, all that is no cells behind the loop's record, and Keep, as they are. -/
def IterG (P : Program) (gf : Nat) (pre lb : Array Value) {α : Type} (Arg : α → Array Value → World → Prop) (xs : List α) (Keep : World → Prop) : Prop :=
  ∀ (l B : Nat) (J : Nat → World → Prop) (Jx : World → Prop) (W : World), B ≤ W.heap.size → l < W.heap.size →
    (∀ k W, J k W → Keep W) → (∀ k V V', J k V → Step W.heap.size V V' → J k V') → (∀ V V', Jx V → Step W.heap.size V V' → Jx V') →
    (∀ k x args W1, xs[k]? = some x → Arg x args W1 → J k W1 → YieldAt Fence.wide 0 P l args W1 fun e W' =>
      (e = .returned (.bool true) ∧ J (k + 1) W' ∧ CellsFrom B W1 W' ∧ KeepsFrom (l + 1) W1 W') ∨ (e = .returned (.bool false) ∧ Jx W' ∧ KeepsFrom (l + 1) W1 W')) →
    J 0 W →
    CallsIn Fence.wide 0 P gf (pre ++ #[.func (.yield l) #[] #[]] ++ lb) W fun e W' => (∃ v, e = .returned v) ∧ (J xs.length W' ∨ Jx W')

section
variable {P : Program} {n : Nat}

/-- THE LOOP, outside a round. -/
theorem range_g {α : Type} {g : Operand} {ps : Array Tmp} {assign body : Code} {Q : Exit → Act → World → Prop} {a : Act} {w : World} {gf : Nat} {pre lb : Array Value}
    (hg : a.eval g = .func (.func gf) pre lb) (eg : ∀ args w, (callFunc gf args).run P w = .ok (.enter gf args) w)
    {Arg : α → Array Value → World → Prop} {xs : List α} {Keep : World → Prop} (hit : IterG P gf pre lb Arg xs Keep) (hps : ∀ x args W, Arg x args W → args.size = ps.size)
    (I : Nat → World → Prop) (Ix : Code → World → Prop) (hI : ∀ k W W', I k W → Step w.heap.size W W' → I k W') (hIx : ∀ c W W', Ix c W → Step w.heap.size W W' → Ix c W')
    (hIb : ∀ k W, I k W → Keep W) (h0 : I 0 w)
    (hround : ∀ l k x args W, xs[k]? = some x → Arg x args W → w.heap.size ≤ l → (∃ r, W.heap[l]? = some (.loop r)) → I k W →
      assign.wpIn (Fence.wide.inRound l) 0 P (Exit.then (fun a1 W1 => KeepsFrom w.heap.size W W1 ∧ CellsFrom w.heap.size W W1 ∧ ∀ r r', W1.heap[l]? = some (.loop r) → body.wpIn (Fence.wide.inRound l) 0 P (roundEndF w.heap.size I Ix k (W1.putObj l (.loop r'))) a1 (W1.putObj l (.loop r'))) (fun _ _ _ => False))
        { tmps := (ps.zip args).foldl (fun t (p, v) => t.setIfInBounds p v) a.tmps, defers := [] } W)
    (hdone : ∀ (D : Nat) (W : World), w.heap.size ≤ D → I xs.length W → W.heap[D]? = some (.deferred (some [])) → Q .normal { a with defers := { target := .collected D, args := #[] } :: a.defers } W)
    (hstop : ∀ (D : Nat) (c : Code) (W : World), w.heap.size ≤ D → Ix c W → W.heap[D]? = some (.deferred (some [])) → c.wpIn Fence.wide n P Q { a with defers := { target := .collected D, args := #[] } :: a.defers } W) :
    (Code.rangeFunc g ps assign body).wpIn Fence.wide n P Q a w := by
  refine wpIn_rangeFunc ?_
  intro fn hfn
  obtain ⟨rec, hrec⟩ : ∃ rec : LoopState → Option Code → Loop, rec = fun st pe => { state := st, pending := pe, fn, tmps := a.tmps, params := ps, assign, body, defers := w.heap.size } := ⟨_, rfl⟩
  have hrec' : ∀ st pe, (rec st pe).state = st ∧ (rec st pe).pending = pe ∧ (∀ st', { rec st pe with state := st' } = rec st' pe) ∧ (∀ st' pe', { rec st pe with state := st', pending := pe' } = rec st' pe') := fun st pe => by
    rw [hrec]; exact ⟨rfl, rfl, fun _ => rfl, fun _ _ => rfl⟩
  obtain ⟨W1, hW1⟩ : ∃ W1, (w.alloc (.deferred (some []))).alloc (.loop (rec .ready none)) = W1 := ⟨_, rfl⟩
  have hL1 : W1.heap[w.heap.size + 1]? = some (.loop (rec .ready none)) := by
    rw [← hW1]; have := World.alloc_heap_new (w.alloc (.deferred (some []))) (.loop (rec .ready none)); rwa [World.size_alloc] at this
  have hK1 : W1.heap[w.heap.size]? = some (.deferred (some [])) := by
    rw [← hW1]; exact (Below.heap_alloc _ _ _ (by simp)).trans (World.alloc_heap_new w _)
  have hbW : Below w.heap.size w W1 := by
    rw [← hW1]; exact ((Below.refl _ w).alloc (Nat.le_refl _) _).alloc (by simp) _
  have hI1 : I 0 W1 := hI _ _ _ h0 (Step.of_below hbW)
  refine ⟨w.heap.size + 1, [{ target := .collected w.heap.size, args := #[] }], W1, { target := .fn (.func gf) lb, args := pre ++ #[.func (.yield (w.heap.size + 1)) #[] #[]] }, W1, gf,
    pre ++ #[.func (.yield (w.heap.size + 1)) #[] #[]] ++ lb, W1, ?_, ?_, fun _ _ => trivial, ?_, fun hh => (by cases hh), ?_⟩
  · rw [← hW1, hrec]; exact run_enterLoop_outer _ _ _ _ _
  · simp only [resolve, hg]
    simp [go_sem]
  · simp [invoke, go_sem, eg]
  · refine callsWide ((hit (w.heap.size + 1) w.heap.size
      (fun k W => I k W ∧ W.heap[w.heap.size + 1]? = some (.loop (rec .ready none)) ∧ W.heap[w.heap.size]? = some (.deferred (some [])))
      (fun W => ∃ c, Ix c W ∧ W.heap[w.heap.size + 1]? = some (.loop (rec .done (some c))) ∧ W.heap[w.heap.size]? = some (.deferred (some [])))
      W1 hbW.size (heap_lt hL1) (fun k W h => hIb k W h.1)
      (fun k W W' h hb => ⟨hI _ _ _ h.1 (hb.mono hbW.size), hb.same _ _ h.2.1 (.inr (heap_lt hL1)), hb.same _ _ h.2.2 (.inr (heap_lt hK1))⟩)
      (fun W W' h hb => by
        obtain ⟨c, h1, h2, h3⟩ := h
        exact ⟨c, hIx _ _ _ h1 (hb.mono hbW.size), hb.same _ _ h2 (.inr (heap_lt hL1)), hb.same _ _ h3 (.inr (heap_lt hK1))⟩)
      ?_ ⟨hI1, hL1, hK1⟩).mono ?_)
    · rintro k x args W hx hArg ⟨hi, hl, hk⟩
      have hy := run_yield (P := P) (args := args) hl (by rw [hrec]; exact hps x args W hArg)
      have e1 : (rec .ready none).fn = fn ∧ (rec .ready none).params = ps ∧ (rec .ready none).tmps = a.tmps ∧ (rec .ready none).assign = assign ∧ (rec .ready none).body = body := by rw [hrec]; exact ⟨rfl, rfl, rfl, rfl, rfl⟩
      rw [e1.1, e1.2.1, e1.2.2.1, e1.2.2.2.1, e1.2.2.2.2] at hy
      refine ⟨fn, _, assign, body, hy, (round_f (B := w.heap.size) hrec' (by omega) hI hIx hl fn (hround _ k x args W hx hArg (by omega) ⟨_, hl⟩ hi)).mono ?_⟩
      rintro e W' (⟨rfl, hkp, hkb, hcf, hi', hl'⟩ | ⟨rfl, hkp, hkb, c, hc, hl'⟩)
      · exact .inl ⟨rfl, ⟨hi', hl', hkb _ _ (Nat.le_refl _) (by omega) hk rfl⟩, hcf, hkp⟩
      · exact .inr ⟨rfl, ⟨c, hc, hl', hkb _ _ (Nat.le_refl _) (by omega) hk rfl⟩, hkp⟩
    · rintro e W2 ⟨⟨v, rfl⟩, (⟨hi, hl, hk⟩ | ⟨c, hc, hl, hk⟩)⟩
      · have hr := run_endLoop (P := P) hl (by rw [(hrec' _ _).1]; simp)
        rw [(hrec' _ _).2.2.1, (hrec' _ _).2.1] at hr
        exact ⟨none, _, hr, hdone _ _ (Nat.le_refl _) (hI _ _ _ hi (Step.put hl rfl (by omega))) ((World.putObj_heap_other (by omega)).trans hk)⟩
      · have hr := run_endLoop (P := P) hl (by rw [(hrec' _ _).1]; simp)
        rw [(hrec' _ _).2.2.1, (hrec' _ _).2.1] at hr
        exact ⟨some c, _, hr, hstop _ c _ (Nat.le_refl _) (hIx _ _ _ hc (Step.put hl rfl (by omega))) ((World.putObj_heap_other (by omega)).trans hk)⟩

end
end Go.Proofs.Ytegdnbceiopklaa
