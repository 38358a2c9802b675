/-
Ranges over a function (a method's value too) whose iterator hands over values that are told by a relation, and whose own cells the rounds leave as they lie: the iterator's contract, one round, and the loop outside a round and in one. Under the wide fence.
-/
import Derived.Test.YthijegacjboclaaGreatRf
namespace Go.Proofs.YthijegacjboclaaGreat
open Go.RowKit

/-- All cells from block B on lie as they lay. -/
structure CellsFrom (B : Nat) (W W' : World) : Prop where
  size : W.heap.size ≤ W'.heap.size
  same : ∀ k o, B ≤ k → W.heap[k]? = some o → o.isCells = true → W'.heap[k]? = some o
theorem CellsFrom.refl (B : Nat) (W : World) : CellsFrom B W W := ⟨Nat.le_refl _, fun _ _ _ h _ => h⟩
theorem CellsFrom.trans {B : Nat} {X Y Z : World} (h : CellsFrom B X Y) (g : CellsFrom B Y Z) : CellsFrom B X Z :=
  ⟨Nat.le_trans h.size g.size, fun k o hk ho hc => g.same k o hk (h.same k o hk ho hc) hc⟩
theorem cf_below {B : Nat} {W W' : World} (h : Below W.heap.size W W') : CellsFrom B W W' := ⟨h.size, fun k _ _ hk _ => (h.block k (heap_lt hk)).trans hk⟩
theorem cf_call {B : Nat} {W X Y : World} (h : CellsFrom B W X) (hb : Below X.heap.size X Y) : CellsFrom B W Y := h.trans (cf_below hb)
theorem cf_alloc {B : Nat} {W X : World} {o : Obj} (h : CellsFrom B W X) : CellsFrom B W (X.alloc o) := cf_call h ((Below.refl _ _).alloc (Nat.le_refl _) _)
theorem cf_drew {B : Nat} {W X : World} (h : CellsFrom B W X) : CellsFrom B W X.drew := ⟨h.size, h.same⟩
theorem cf_after {B : Nat} {W X : World} (z : After X) (h : CellsFrom B W X) : CellsFrom B W z.val := cf_call h z.ok
theorem cf_set {B : Nat} {W X : World} {p : Addr} {v : Value} (hp : p.block < B) (h : CellsFrom B W X) : CellsFrom B W (X.setCell p v) :=
  ⟨by simpa using h.size, fun k o hk ho hc => (Below.heap_setCell X p v k (by omega)).trans (h.same k o hk ho hc)⟩
theorem cf_put {B l : Nat} {W X : World} {o o' : Obj} (h : CellsFrom B W X) (hl : X.heap[l]? = some o) (ho : o.isCells = false) : CellsFrom B W (X.putObj l o') :=
  ⟨by simpa using h.size, fun k o2 hk h2 hc => by
    have h3 := h.same k o2 hk h2 hc
    refine (World.putObj_heap_other ?_).trans h3
    rintro rfl
    rw [hl] at h3
    cases h3
    rw [ho] at hc
    cases hc⟩
theorem CellsFrom.mono {B C : Nat} {W W' : World} (h : CellsFrom B W W') (hBC : B ≤ C) : CellsFrom C W W' := ⟨h.size, fun k o hk => h.same k o (by omega)⟩
theorem CellsFrom.blk {B b : Nat} {W W' : World} {t : TypeId} {cs : Array Value} (h : CellsFrom B W W') (hB : B ≤ b) (hb : Blk W b t cs) : Blk W' b t cs := h.same b _ hB hb rfl

/-- HOW THE BODY OF A ROUND MAY BE LEFT. -/
def roundEndF (B : Nat) (I : Nat → World → Prop) (Ix : Code → World → Prop) (k : Nat) (W : World) : Exit → Act → World → Prop
  | .normal, _, W' => KeepsFrom B W W' ∧ CellsFrom B W W' ∧ I (k + 1) W'
  | .ret, _, W' => KeepsFrom B W W' ∧ Ix .ret W'
  | .exit id, _, W' => KeepsFrom B W W' ∧ Ix (.exit id) W'
  | .goto t, _, W' => KeepsFrom B W W' ∧ Ix (.goto t) W'
  | .panic _, _, _ => False
  | .outgrown, _, _ => False

/-- A function value (with the arguments that it bears ahead) is an iterator over xs, as long as the rounds leave the cells from B on, and Keep, as they are. -/
def IterF (P : Program) (gf : Nat) (pre lb : Array Value) {α : Type} (Arg : α → Array Value → World → Prop) (xs : List α) (Keep : World → Prop) : Prop :=
  ∀ (l B : Nat) (J : Nat → World → Prop) (Jx : World → Prop) (W : World), B ≤ W.heap.size →
    (∀ k W, J k W → Keep W) → (∀ k W W', J k W → Below W.heap.size W W' → J k W') → (∀ W W', Jx W → Below W.heap.size W W' → Jx W') →
    (∀ k x args W1, xs[k]? = some x → Arg x args W1 → J k W1 → YieldAt Fence.wide 0 P l args W1 fun e W' =>
      (e = .returned (.bool true) ∧ J (k + 1) W' ∧ CellsFrom B W1 W') ∨ (e = .returned (.bool false) ∧ Jx W')) →
    J 0 W →
    CallsIn Fence.wide 0 P gf (pre ++ #[.func (.yield l) #[] #[]] ++ lb) W fun e W' => (∃ v, e = .returned v) ∧ (J xs.length W' ∨ Jx W')

section
variable {P : Program} {n : Nat}

/-- ONE ROUND, out of the body's walk. rec: the loop's record. -/
theorem round_f {B l : Nat} {rec : LoopState → Option Code → Loop} (hrec : ∀ st pe, (rec st pe).state = st ∧ (rec st pe).pending = pe ∧ (∀ st', { rec st pe with state := st' } = rec st' pe) ∧ (∀ st' pe', { rec st pe with state := st', pending := pe' } = rec st' pe'))
    {tmps : Array Value} {assign body : Code} {W : World} {k : Nat} {I : Nat → World → Prop} {Ix : Code → World → Prop} (hB : B ≤ l)
    (hI : ∀ k W W', I k W → Step B W W' → I k W') (hIx : ∀ c W W', Ix c W → Step B W W' → Ix c W')
    (hL : W.heap[l]? = some (.loop (rec .ready none))) (fn : FuncId)
    (h : assign.wpIn (Fence.wide.inRound l) n P (Exit.then (fun a1 W1 => KeepsFrom B W W1 ∧ CellsFrom B W W1 ∧ ∀ r r', W1.heap[l]? = some (.loop r) → body.wpIn (Fence.wide.inRound l) n P (roundEndF B I Ix k (W1.putObj l (.loop r'))) a1 (W1.putObj l (.loop r'))) (fun _ _ _ => False)) { tmps := tmps, defers := [] } W) :
    RoundIn Fence.wide n P l fn tmps assign body W fun e W' =>
      (e = .returned (.bool true) ∧ KeepsFrom (l + 1) W W' ∧ (∀ k o, B ≤ k → k < l → W.heap[k]? = some o → o.isCells = false → W'.heap[k]? = some o) ∧ CellsFrom B W W' ∧ I (k + 1) W' ∧ W'.heap[l]? = some (.loop (rec .ready none))) ∨
      (e = .returned (.bool false) ∧ KeepsFrom (l + 1) W W' ∧ (∀ k o, B ≤ k → k < l → W.heap[k]? = some o → o.isCells = false → W'.heap[k]? = some o) ∧ ∃ c, Ix c W' ∧ W'.heap[l]? = some (.loop (rec .done (some c)))) := by
  refine roundIn_of_wpIn trivial (wpIn_mono h ?_)
  intro e a1 W1 hp
  cases e with
  | normal =>
    obtain ⟨hk1, hc1, hb⟩ := hp
    have hl1 := hk1.same l _ hB hL rfl
    have hlt1 := heap_lt hl1
    refine ⟨_, run_beginRound hl1 (hrec _ _).1, ?_⟩
    rw [(hrec _ _).2.2.1]
    refine wpIn_mono (hb _ (rec .busy none) hl1) ?_
    have hl2 : (W1.putObj l (.loop (rec .busy none))).heap[l]? = some (.loop (rec .busy none)) := World.putObj_heap_same hlt1
    have fin : ∀ (jump : Option Code) (W3 : World), KeepsFrom B (W1.putObj l (.loop (rec .busy none))) W3 →
        (Instr.endRound l jump).run P W3 = .ok (.bool jump.isNone) (W3.putObj l (.loop (rec (if jump.isNone then .ready else .done) jump))) ∧
        W3.heap[l]? = some (.loop (rec .busy none)) ∧
        (W3.putObj l (.loop (rec (if jump.isNone then .ready else .done) jump))).heap[l]? = some (.loop (rec (if jump.isNone then .ready else .done) jump)) ∧
        KeepsFrom (l + 1) W (W3.putObj l (.loop (rec (if jump.isNone then .ready else .done) jump))) ∧
        (∀ k o, B ≤ k → k < l → W.heap[k]? = some o → o.isCells = false → (W3.putObj l (.loop (rec (if jump.isNone then .ready else .done) jump))).heap[k]? = some o) := fun jump W3 hk3 => by
      have hl3 := hk3.same l _ hB hl2 rfl
      have hr := run_endRound (P := P) jump hl3
      rw [(hrec _ _).2.2.2] at hr
      have hs : W.heap.size ≤ W3.heap.size := by have h1 := hk1.size; have h2 := hk3.size; rw [World.putObj_size] at h2; omega
      have hsame : ∀ k o, B ≤ k → k ≠ l → W.heap[k]? = some o → o.isCells = false → W3.heap[k]? = some o := fun k o hBk hkl hko ho =>
        hk3.same k o hBk ((World.putObj_heap_other hkl).trans (hk1.same k o hBk hko ho)) ho
      refine ⟨hr, hl3, World.putObj_heap_same (heap_lt hl3), ⟨by rw [World.putObj_size]; exact hs, fun k o hBk hko ho => ?_⟩, fun k o hBk hkl hko ho => ?_⟩
      · exact (World.putObj_heap_other (by omega)).trans (hsame k o (by omega) (by omega) hko ho)
      · exact (World.putObj_heap_other (by omega)).trans (hsame k o hBk (by omega) hko ho)
    intro e a3 W3 hp
    cases e with
    | normal =>
      obtain ⟨hk3, hc3, hi3⟩ := hp
      obtain ⟨hr, hl3, hl4, hkk, hkb⟩ := fin none W3 hk3
      exact ⟨_, _, hr, .inl ⟨rfl, hkk, hkb, cf_put (((cf_put hc1 hl1 rfl).trans hc3)) hl3 rfl, hI _ _ _ hi3 (Step.put hl3 rfl hB), hl4⟩⟩
    | ret =>
      obtain ⟨hk3, hi3⟩ := hp
      obtain ⟨hr, hl3, hl4, hkk, hkb⟩ := fin (some .ret) W3 hk3
      exact ⟨_, _, hr, .inr ⟨rfl, hkk, hkb, .ret, hIx _ _ _ hi3 (Step.put hl3 rfl hB), hl4⟩⟩
    | exit id =>
      obtain ⟨hk3, hi3⟩ := hp
      obtain ⟨hr, hl3, hl4, hkk, hkb⟩ := fin (some (.exit id)) W3 hk3
      exact ⟨_, _, hr, .inr ⟨rfl, hkk, hkb, .exit id, hIx _ _ _ hi3 (Step.put hl3 rfl hB), hl4⟩⟩
    | goto t =>
      obtain ⟨hk3, hi3⟩ := hp
      obtain ⟨hr, hl3, hl4, hkk, hkb⟩ := fin (some (.goto t)) W3 hk3
      exact ⟨_, _, hr, .inr ⟨rfl, hkk, hkb, .goto t, hIx _ _ _ hi3 (Step.put hl3 rfl hB), hl4⟩⟩
    | panic ch => exact hp.elim
    | outgrown => exact hp.elim
  | ret => exact hp.elim
  | exit id => exact hp.elim
  | goto t => exact hp.elim
  | panic ch => exact hp.elim
  | outgrown => exact hp.elim

/-- THE LOOP, outside a round. -/
theorem range_f {α : Type} {g : Operand} {ps : Array Tmp} {assign body : Code} {Q : Exit → Act → World → Prop} {a : Act} {w : World} {gf : Nat} {pre lb : Array Value}
    (hg : a.eval g = .func (.func gf) pre lb) (eg : ∀ args w, (callFunc gf args).run P w = .ok (.enter gf args) w)
    {Arg : α → Array Value → World → Prop} {xs : List α} {Keep : World → Prop} (hit : IterF P gf pre lb Arg xs Keep) (hps : ∀ x args W, Arg x args W → args.size = ps.size)
    (I : Nat → World → Prop) (Ix : Code → World → Prop) (hI : ∀ k W W', I k W → Step w.heap.size W W' → I k W') (hIx : ∀ c W W', Ix c W → Step w.heap.size W W' → Ix c W')
    (hIb : ∀ k W, I k W → Keep W) (h0 : I 0 w)
    (hround : ∀ l k x args W, xs[k]? = some x → Arg x args W → w.heap.size ≤ l → (∃ r, W.heap[l]? = some (.loop r)) → I k W →
      assign.wpIn (Fence.wide.inRound l) 0 P (Exit.then (fun a1 W1 => KeepsFrom w.heap.size W W1 ∧ CellsFrom w.heap.size W W1 ∧ ∀ r r', W1.heap[l]? = some (.loop r) → body.wpIn (Fence.wide.inRound l) 0 P (roundEndF w.heap.size I Ix k (W1.putObj l (.loop r'))) a1 (W1.putObj l (.loop r'))) (fun _ _ _ => False))
        { tmps := (ps.zip args).foldl (fun t (p, v) => t.setIfInBounds p v) a.tmps, defers := [] } W)
    (hdone : ∀ (D : Nat) (W : World), w.heap.size ≤ D → I xs.length W → W.heap[D]? = some (.deferred (some [])) → Q .normal { a with defers := { target := .collected D, args := #[] } :: a.defers } W)
    (hstop : ∀ (D : Nat) (c : Code) (W : World), w.heap.size ≤ D → Ix c W → W.heap[D]? = some (.deferred (some [])) → c.wpIn Fence.wide n P Q { a with defers := { target := .collected D, args := #[] } :: a.defers } W) :
    (Code.rangeFunc g ps assign body).wpIn Fence.wide n P Q a w := by
  refine wpIn_rangeFunc ?_
  intro fn hfn
  obtain ⟨rec, hrec⟩ : ∃ rec : LoopState → Option Code → Loop, rec = fun st pe => { state := st, pending := pe, fn, tmps := a.tmps, params := ps, assign, body, defers := w.heap.size } := ⟨_, rfl⟩
  have hrec' : ∀ st pe, (rec st pe).state = st ∧ (rec st pe).pending = pe ∧ (∀ st', { rec st pe with state := st' } = rec st' pe) ∧ (∀ st' pe', { rec st pe with state := st', pending := pe' } = rec st' pe') := fun st pe => by
    rw [hrec]; exact ⟨rfl, rfl, fun _ => rfl, fun _ _ => rfl⟩
  obtain ⟨W1, hW1⟩ : ∃ W1, (w.alloc (.deferred (some []))).alloc (.loop (rec .ready none)) = W1 := ⟨_, rfl⟩
  have hL1 : W1.heap[w.heap.size + 1]? = some (.loop (rec .ready none)) := by
    rw [← hW1]; have := World.alloc_heap_new (w.alloc (.deferred (some []))) (.loop (rec .ready none)); rwa [World.size_alloc] at this
  have hK1 : W1.heap[w.heap.size]? = some (.deferred (some [])) := by
    rw [← hW1]; exact (Below.heap_alloc _ _ _ (by simp)).trans (World.alloc_heap_new w _)
  have hbW : Below w.heap.size w W1 := by
    rw [← hW1]; exact ((Below.refl _ w).alloc (Nat.le_refl _) _).alloc (by simp) _
  have hI1 : I 0 W1 := hI _ _ _ h0 (Step.of_below hbW)
  refine ⟨w.heap.size + 1, [{ target := .collected w.heap.size, args := #[] }], W1, { target := .fn (.func gf) lb, args := pre ++ #[.func (.yield (w.heap.size + 1)) #[] #[]] }, W1, gf,
    pre ++ #[.func (.yield (w.heap.size + 1)) #[] #[]] ++ lb, W1, ?_, ?_, fun _ _ => trivial, ?_, fun hh => (by cases hh), ?_⟩
  · rw [← hW1, hrec]; exact run_enterLoop_outer _ _ _ _ _
  · simp only [resolve, hg]
    simp [go_sem]
  · simp [invoke, go_sem, eg]
  · refine callsWide ((hit (w.heap.size + 1) w.heap.size
      (fun k W => I k W ∧ W.heap[w.heap.size + 1]? = some (.loop (rec .ready none)) ∧ W.heap[w.heap.size]? = some (.deferred (some [])))
      (fun W => ∃ c, Ix c W ∧ W.heap[w.heap.size + 1]? = some (.loop (rec .done (some c))) ∧ W.heap[w.heap.size]? = some (.deferred (some [])))
      W1 hbW.size (fun k W h => hIb k W h.1)
      (fun k W W' h hb => ⟨hI _ _ _ h.1 (Step.of_below hb), (hb.block _ (heap_lt h.2.1)).trans h.2.1, (hb.block _ (heap_lt h.2.2)).trans h.2.2⟩)
      (fun W W' h hb => by
        obtain ⟨c, h1, h2, h3⟩ := h
        exact ⟨c, hIx _ _ _ h1 (Step.of_below hb), (hb.block _ (heap_lt h2)).trans h2, (hb.block _ (heap_lt h3)).trans h3⟩)
      ?_ ⟨hI1, hL1, hK1⟩).mono ?_)
    · rintro k x args W hx hArg ⟨hi, hl, hk⟩
      have hy := run_yield (P := P) (args := args) hl (by rw [hrec]; exact hps x args W hArg)
      have e1 : (rec .ready none).fn = fn ∧ (rec .ready none).params = ps ∧ (rec .ready none).tmps = a.tmps ∧ (rec .ready none).assign = assign ∧ (rec .ready none).body = body := by rw [hrec]; exact ⟨rfl, rfl, rfl, rfl, rfl⟩
      rw [e1.1, e1.2.1, e1.2.2.1, e1.2.2.2.1, e1.2.2.2.2] at hy
      refine ⟨fn, _, assign, body, hy, (round_f (B := w.heap.size) hrec' (by omega) hI hIx hl fn (hround _ k x args W hx hArg (by omega) ⟨_, hl⟩ hi)).mono ?_⟩
      rintro e W' (⟨rfl, _, hkb, hcf, hi', hl'⟩ | ⟨rfl, _, hkb, c, hc, hl'⟩)
      · exact .inl ⟨rfl, ⟨hi', hl', hkb _ _ (Nat.le_refl _) (by omega) hk rfl⟩, hcf⟩
      · exact .inr ⟨rfl, c, hc, hl', hkb _ _ (Nat.le_refl _) (by omega) hk rfl⟩
    · rintro e W2 ⟨⟨v, rfl⟩, (⟨hi, hl, hk⟩ | ⟨c, hc, hl, hk⟩)⟩
      · have hr := run_endLoop (P := P) hl (by rw [(hrec' _ _).1]; simp)
        rw [(hrec' _ _).2.2.1, (hrec' _ _).2.1] at hr
        exact ⟨none, _, hr, hdone _ _ (Nat.le_refl _) (hI _ _ _ hi (Step.put hl rfl (by omega))) ((World.putObj_heap_other (by omega)).trans hk)⟩
      · have hr := run_endLoop (P := P) hl (by rw [(hrec' _ _).1]; simp)
        rw [(hrec' _ _).2.2.1, (hrec' _ _).2.1] at hr
        exact ⟨some c, _, hr, hstop _ c _ (Nat.le_refl _) (hIx _ _ _ hc (Step.put hl rfl (by omega))) ((World.putObj_heap_other (by omega)).trans hk)⟩

/-- THE LOOP, in a round of loop l₀. -/
theorem range_f_in {α : Type} {l₀ : Nat} {r₀ : Loop} {g : Operand} {ps : Array Tmp} {assign body : Code} {Q : Exit → Act → World → Prop} {a : Act} {w : World} {gf : Nat} {pre lb : Array Value}
    (hl₀ : w.heap[l₀]? = some (.loop r₀))
    (hg : a.eval g = .func (.func gf) pre lb) (eg : ∀ args w, (callFunc gf args).run P w = .ok (.enter gf args) w)
    {Arg : α → Array Value → World → Prop} {xs : List α} {Keep : World → Prop} (hit : IterF P gf pre lb Arg xs Keep) (hps : ∀ x args W, Arg x args W → args.size = ps.size)
    (I : Nat → World → Prop) (Ix : Code → World → Prop) (hI : ∀ k W W', I k W → Step w.heap.size W W' → I k W') (hIx : ∀ c W W', Ix c W → Step w.heap.size W W' → Ix c W')
    (hIb : ∀ k W, I k W → Keep W) (h0 : I 0 w)
    (hround : ∀ l k x args W, xs[k]? = some x → Arg x args W → w.heap.size ≤ l → (∃ r, W.heap[l]? = some (.loop r)) → I k W →
      assign.wpIn (Fence.wide.inRound l) 0 P (Exit.then (fun a1 W1 => KeepsFrom w.heap.size W W1 ∧ CellsFrom w.heap.size W W1 ∧ ∀ r r', W1.heap[l]? = some (.loop r) → body.wpIn (Fence.wide.inRound l) 0 P (roundEndF w.heap.size I Ix k (W1.putObj l (.loop r'))) a1 (W1.putObj l (.loop r'))) (fun _ _ _ => False))
        { tmps := (ps.zip args).foldl (fun t (p, v) => t.setIfInBounds p v) a.tmps, defers := [] } W)
    (hdone : ∀ (W : World), I xs.length W → Q .normal a W)
    (hstop : ∀ (c : Code) (W : World), Ix c W → c.wpIn (Fence.wide.inRound l₀) n P Q a W) :
    (Code.rangeFunc g ps assign body).wpIn (Fence.wide.inRound l₀) n P Q a w := by
  refine wpIn_rangeFunc ?_
  intro fn hfn
  obtain ⟨rec, hrec⟩ : ∃ rec : LoopState → Option Code → Loop, rec = fun st pe => { state := st, pending := pe, fn, tmps := a.tmps, params := ps, assign, body, defers := r₀.defers } := ⟨_, rfl⟩
  have hrec' : ∀ st pe, (rec st pe).state = st ∧ (rec st pe).pending = pe ∧ (∀ st', { rec st pe with state := st' } = rec st' pe) ∧ (∀ st' pe', { rec st pe with state := st', pending := pe' } = rec st' pe') := fun st pe => by
    rw [hrec]; exact ⟨rfl, rfl, fun _ => rfl, fun _ _ => rfl⟩
  obtain ⟨W1, hW1⟩ : ∃ W1, w.alloc (.loop (rec .ready none)) = W1 := ⟨_, rfl⟩
  have hL1 : W1.heap[w.heap.size]? = some (.loop (rec .ready none)) := by rw [← hW1]; exact World.alloc_heap_new w _
  have hbW : Below w.heap.size w W1 := by
    rw [← hW1]; exact (Below.refl _ w).alloc (Nat.le_refl _) _
  have hI1 : I 0 W1 := hI _ _ _ h0 (Step.of_below hbW)
  refine ⟨w.heap.size, [], W1, { target := .fn (.func gf) lb, args := pre ++ #[.func (.yield w.heap.size) #[] #[]] }, W1, gf,
    pre ++ #[.func (.yield w.heap.size) #[] #[]] ++ lb, W1, ?_, ?_, fun _ _ => trivial, ?_, fun hh => (by cases hh), ?_⟩
  · rw [← hW1, hrec]; exact run_enterLoop_inner hl₀ _ _ _ _ _
  · simp only [resolve, hg]
    simp [go_sem]
  · simp [invoke, go_sem, eg]
  · refine CallsIn.inRound l₀ (callsWide ((hit w.heap.size w.heap.size
      (fun k W => I k W ∧ W.heap[w.heap.size]? = some (.loop (rec .ready none)))
      (fun W => ∃ c, Ix c W ∧ W.heap[w.heap.size]? = some (.loop (rec .done (some c))))
      W1 hbW.size (fun k W h => hIb k W h.1)
      (fun k W W' h hb => ⟨hI _ _ _ h.1 (Step.of_below hb), (hb.block _ (heap_lt h.2)).trans h.2⟩)
      (fun W W' h hb => by
        obtain ⟨c, h1, h2⟩ := h
        exact ⟨c, hIx _ _ _ h1 (Step.of_below hb), (hb.block _ (heap_lt h2)).trans h2⟩)
      ?_ ⟨hI1, hL1⟩).mono ?_))
    · rintro k x args W hx hArg ⟨hi, hl⟩
      have hy := run_yield (P := P) (args := args) hl (by rw [hrec]; exact hps x args W hArg)
      have e1 : (rec .ready none).fn = fn ∧ (rec .ready none).params = ps ∧ (rec .ready none).tmps = a.tmps ∧ (rec .ready none).assign = assign ∧ (rec .ready none).body = body := by rw [hrec]; exact ⟨rfl, rfl, rfl, rfl, rfl⟩
      rw [e1.1, e1.2.1, e1.2.2.1, e1.2.2.2.1, e1.2.2.2.2] at hy
      refine ⟨fn, _, assign, body, hy, (round_f (B := w.heap.size) hrec' (Nat.le_refl _) hI hIx hl fn (hround _ k x args W hx hArg (Nat.le_refl _) ⟨_, hl⟩ hi)).mono ?_⟩
      rintro e W' (⟨rfl, _, hkb, hcf, hi', hl'⟩ | ⟨rfl, _, hkb, c, hc, hl'⟩)
      · exact .inl ⟨rfl, ⟨hi', hl'⟩, hcf⟩
      · exact .inr ⟨rfl, c, hc, hl'⟩
    · rintro e W2 ⟨⟨v, rfl⟩, (⟨hi, hl⟩ | ⟨c, hc, hl⟩)⟩
      · have hr := run_endLoop (P := P) hl (by rw [(hrec' _ _).1]; simp)
        rw [(hrec' _ _).2.2.1, (hrec' _ _).2.1] at hr
        exact ⟨none, _, hr, hdone _ (hI _ _ _ hi (Step.put hl rfl (Nat.le_refl _)))⟩
      · have hr := run_endLoop (P := P) hl (by rw [(hrec' _ _).1]; simp)
        rw [(hrec' _ _).2.2.1, (hrec' _ _).2.1] at hr
        exact ⟨some c, _, hr, hstop c _ (hIx _ _ _ hc (Step.put hl rfl (Nat.le_refl _)))⟩
end
end Go.Proofs.YthijegacjboclaaGreat
