/-
Ranges over a function whose iterator hands over a known list: one law for the iterator's contract, two for the loop (outside a round, in a round). Under the wide fence.
-/
import Derived.Test.YthijegacjboclaaGreatSl
import Derived.RangeFuncNested
import Derived.RangeFuncBound
import Derived.RangeFuncCalls
import Derived.RangeFuncLeaves
namespace Go.Proofs.YthijegacjboclaaGreat
open Go.RowKit

theorem wide_fn (f : FuncId) : Fence.wide.fn f = True := rfl
theorem wide_depth : Fence.wide.depth = none := rfl
theorem callsIn_rnd {l n : Nat} {P : Program} {f : FuncId} {args : Array Value} {w : World} {R : Ending → World → Prop} (h : Calls P f args w R) : CallsIn (Fence.wide.inRound l) n P f args w R := CallsIn.inRound l (callsIn_wide.2 h)

/-- Whatever is cells, and whatever lay below B, lies as it lay. -/
structure Step (B : Nat) (W W' : World) : Prop where
  os : W'.os = W.os
  tape : W'.tape = W.tape
  output : W'.output = W.output
  size : W.heap.size ≤ W'.heap.size
  same : ∀ k o, W.heap[k]? = some o → (o.isCells = true ∨ k < B) → W'.heap[k]? = some o

theorem heap_lt {W : World} {k : Nat} {o : Obj} (h : W.heap[k]? = some o) : k < W.heap.size := (Array.getElem?_eq_some_iff.1 h).1
theorem Step.of_below {B : Nat} {W W' : World} (h : Below W.heap.size W W') : Step B W W' := ⟨h.os, h.tape, h.output, h.size, fun k _ hk _ => (h.block k (heap_lt hk)).trans hk⟩
theorem Step.put {B l : Nat} {W : World} {o o' : Obj} (hl : W.heap[l]? = some o) (ho : o.isCells = false) (hB : B ≤ l) : Step B W (W.putObj l o') :=
  ⟨rfl, rfl, rfl, by simp, fun k o2 hk h => (World.putObj_heap_other (by
    rintro rfl
    rw [hl] at hk
    cases hk
    rcases h with h | h
    · rw [ho] at h; cases h
    · omega)).trans hk⟩
theorem Step.trans {B : Nat} {X Y Z : World} (h : Step B X Y) (k : Step B Y Z) : Step B X Z :=
  ⟨k.os.trans h.os, k.tape.trans h.tape, k.output.trans h.output, Nat.le_trans h.size k.size, fun i o hi ho => k.same i o (h.same i o hi ho) ho⟩
theorem Step.below {B : Nat} {base W W' : World} (h : Step B W W') (hb : Below base.heap.size base W) (hB : base.heap.size ≤ B) : Below base.heap.size base W' :=
  ⟨h.os.trans hb.os, h.tape.trans hb.tape, h.output.trans hb.output, Nat.le_trans hb.size h.size, fun k hk => by
    have h1 := hb.block k hk
    have h2 : k < W.heap.size := Nat.lt_of_lt_of_le hk hb.size
    rw [← h1]
    obtain ⟨o, ho⟩ : ∃ o, W.heap[k]? = some o := ⟨W.heap[k], by simp [h2]⟩
    rw [ho]
    exact h.same k o ho (.inr (by omega))⟩
theorem Step.cells {B b : Nat} {W W' : World} {cs : Array Value} {t : TypeId} {f : Nat × Nat} (h : Step B W W') (hb : W.heap[b]? = some (.cells cs t f)) : W'.heap[b]? = some (.cells cs t f) := h.same b _ hb (.inl rfl)
theorem Step.blk {B b : Nat} {W W' : World} {cs : Array Value} {t : TypeId} (h : Step B W W') (hb : Blk W b t cs) : Blk W' b t cs := h.cells hb
theorem Step.boxed {B b : Nat} {W W' : World} {v : Value} {t : TypeId} (h : Step B W W') (hb : Boxed W b t v) : Boxed W' b t v := h.cells hb

theorem Step.keeps {B B' : Nat} {W2 W W' : World} (h : Step B' W W') (hk : KeepsFrom B W2 W) (hB : W2.heap.size ≤ B') : KeepsFrom B W2 W' :=
  ⟨Nat.le_trans hk.size h.size, fun k o hBk ho hc => h.same k o (hk.same k o hBk ho hc) (.inr (Nat.lt_of_lt_of_le (heap_lt ho) hB))⟩
theorem bl_put {w W : World} {D : Nat} {o o' : Obj} (h : Below w.heap.size w W) (_ : W.heap[D]? = some o) (hD : w.heap.size ≤ D) : Below w.heap.size w (W.putObj D o') :=
  h.trans ⟨rfl, rfl, rfl, by simp, fun k hk => World.putObj_heap_other (by omega)⟩

theorem keepsFrom_below {B : Nat} {W W' : World} (h : Below W.heap.size W W') : KeepsFrom B W W' := ⟨h.size, fun k _ _ hk _ => (h.block k (heap_lt hk)).trans hk⟩
theorem kf_alloc {B : Nat} {W X : World} (o : Obj) (h : KeepsFrom B W X) : KeepsFrom B W (X.alloc o) := h.trans ((KeepsOthers.alloc _ _).from _)
theorem kf_set {B : Nat} {W X : World} (p : Addr) (v : Value) (h : KeepsFrom B W X) : KeepsFrom B W (X.setCell p v) := h.trans ((KeepsOthers.setCell _ _ _).from _)
theorem kf_drew {B : Nat} {W X : World} (h : KeepsFrom B W X) : KeepsFrom B W X.drew := ⟨h.size, h.same⟩
theorem kf_after {B : Nat} {W X : World} (z : After X) (h : KeepsFrom B W X) : KeepsFrom B W z.val := h.trans (keepsFrom_below z.ok)
theorem kf_call {B : Nat} {W X Y : World} (h : KeepsFrom B W X) (hb : Below X.heap.size X Y) : KeepsFrom B W Y := h.trans (keepsFrom_below hb)
theorem kf_grown {B : Nat} {W X Y : World} {row : Option Nat} (h : KeepsFrom B W X) (hg : X.grownBy Y row) (hr : ∀ r, row = some r → ∃ o, X.heap[r]? = some o ∧ o.isCells = true) : KeepsFrom B W Y :=
  h.trans ⟨hg.size, fun k o _ hk ho => (hg.block k (heap_lt hk) (fun e => by
    obtain ⟨o', h1, h2⟩ := hr k e.symm
    rw [hk] at h1; cases h1; rw [ho] at h2; cases h2)).trans hk⟩

/-- A function value is an iterator over xs, as long as Keep holds between the rounds. -/
def IterOn (P : Program) (gf : Nat) (lb : Array Value) {α : Type} (encs : α → Array Value) (xs : List α) (Keep : World → Prop) : Prop :=
  ∀ (l : Nat) (J : Nat → World → Prop) (Jx : World → Prop) (W : World),
    (∀ k W, J k W → Keep W) → (∀ k W W', J k W → Below W.heap.size W W' → J k W') → (∀ W W', Jx W → Below W.heap.size W W' → Jx W') →
    (∀ k x W1, xs[k]? = some x → J k W1 → YieldAt Fence.wide 0 P l (encs x) W1 fun e W' =>
      (e = .returned (.bool true) ∧ J (k + 1) W') ∨ (e = .returned (.bool false) ∧ Jx W')) →
    J 0 W →
    CallsIn Fence.wide 0 P gf (#[.func (.yield l) #[] #[]] ++ lb) W fun e W' => (∃ v, e = .returned v) ∧ (J xs.length W' ∨ Jx W')

/-- HOW THE BODY OF A ROUND MAY BE LEFT. -/
def roundEnd (B : Nat) (I : Nat → World → Prop) (Ix : Code → World → Prop) (k : Nat) (W : World) : Exit → Act → World → Prop
  | .normal, _, W' => KeepsFrom B W W' ∧ I (k + 1) W'
  | .ret, _, W' => KeepsFrom B W W' ∧ Ix .ret W'
  | .exit id, _, W' => KeepsFrom B W W' ∧ Ix (.exit id) W'
  | .goto t, _, W' => KeepsFrom B W W' ∧ Ix (.goto t) W'
  | .panic _, _, _ => False
  | .outgrown, _, _ => False

theorem callsWide {n m : Nat} {P : Program} {f : FuncId} {args : Array Value} {w : World} {R : Ending → World → Prop} (h : CallsIn Fence.wide n P f args w R) : CallsIn Fence.wide m P f args w R := callsIn_wide.2 (callsIn_wide.1 h)
theorem wideRoom (ro : Option Nat) (n : Nat) : ({ Fence.wide with round := ro } : Fence).room n := fun _ h => by simp [Fence.wide] at h
theorem roundWide {n m : Nat} {ro ro' : Option Nat} {P : Program} {l : Nat} {f : FuncId} {tmps : Array Value} {assign body : Code} {w : World} {R : Ending → World → Prop}
    (h : RoundIn { Fence.wide with round := ro } n P l f tmps assign body w R) : RoundIn { Fence.wide with round := ro' } m P l f tmps assign body w R :=
  ⟨trivial, fun c cs _ => h.2 c cs (wideRoom _ _)⟩
theorem roundW {n m : Nat} {P : Program} {l : Nat} {f : FuncId} {tmps : Array Value} {assign body : Code} {w : World} {R : Ending → World → Prop}
    (h : RoundIn Fence.wide n P l f tmps assign body w R) : RoundIn Fence.wide m P l f tmps assign body w R := roundWide (ro := none) (ro' := none) h
theorem wpWide {n m : Nat} {ro : Option Nat} {P : Program} {c : Code} {Q : Exit → Act → World → Prop} {a : Act} {w : World}
    (h : c.wpIn { Fence.wide with round := ro } n P Q a w) : c.wpIn { Fence.wide with round := ro } m P Q a w := fun b k cs hro _ _ => h b k cs hro trivial (wideRoom _ _)

section
variable {P : Program} {n : Nat}

/-- ONE ROUND, out of the body's walk. rec: the loop's record. -/
theorem round_list {B l : Nat} {rec : LoopState → Option Code → Loop} (hrec : ∀ st pe, (rec st pe).state = st ∧ (rec st pe).pending = pe ∧ (∀ st', { rec st pe with state := st' } = rec st' pe) ∧ (∀ st' pe', { rec st pe with state := st', pending := pe' } = rec st' pe'))
    {tmps : Array Value} {assign body : Code} {W : World} {k : Nat} {I : Nat → World → Prop} {Ix : Code → World → Prop} (hB : B ≤ l)
    (hI : ∀ k W W', I k W → Step B W W' → I k W') (hIx : ∀ c W W', Ix c W → Step B W W' → Ix c W')
    (hL : W.heap[l]? = some (.loop (rec .ready none))) (fn : FuncId)
    (h : assign.wpIn (Fence.wide.inRound l) n P (Exit.then (fun a1 W1 => KeepsFrom B W W1 ∧ ∀ r r', W1.heap[l]? = some (.loop r) → body.wpIn (Fence.wide.inRound l) n P (roundEnd B I Ix k (W1.putObj l (.loop r'))) a1 (W1.putObj l (.loop r'))) (fun _ _ _ => False)) { tmps := tmps, defers := [] } W) :
    RoundIn Fence.wide n P l fn tmps assign body W fun e W' =>
      (e = .returned (.bool true) ∧ KeepsFrom (l + 1) W W' ∧ (∀ k o, B ≤ k → k < l → W.heap[k]? = some o → o.isCells = false → W'.heap[k]? = some o) ∧ I (k + 1) W' ∧ W'.heap[l]? = some (.loop (rec .ready none))) ∨
      (e = .returned (.bool false) ∧ KeepsFrom (l + 1) W W' ∧ (∀ k o, B ≤ k → k < l → W.heap[k]? = some o → o.isCells = false → W'.heap[k]? = some o) ∧ ∃ c, Ix c W' ∧ W'.heap[l]? = some (.loop (rec .done (some c)))) := by
  refine roundIn_of_wpIn trivial (wpIn_mono h ?_)
  intro e a1 W1 hp
  cases e with
  | normal =>
    obtain ⟨hk1, hb⟩ := hp
    have hl1 := hk1.same l _ hB hL rfl
    have hlt1 := heap_lt hl1
    refine ⟨_, run_beginRound hl1 (hrec _ _).1, ?_⟩
    rw [(hrec _ _).2.2.1]
    refine wpIn_mono (hb _ (rec .busy none) hl1) ?_
    have hl2 : (W1.putObj l (.loop (rec .busy none))).heap[l]? = some (.loop (rec .busy none)) := World.putObj_heap_same hlt1
    have fin : ∀ (jump : Option Code) (W3 : World), KeepsFrom B (W1.putObj l (.loop (rec .busy none))) W3 →
        (Instr.endRound l jump).run P W3 = .ok (.bool jump.isNone) (W3.putObj l (.loop (rec (if jump.isNone then .ready else .done) jump))) ∧
        W3.heap[l]? = some (.loop (rec .busy none)) ∧
        (W3.putObj l (.loop (rec (if jump.isNone then .ready else .done) jump))).heap[l]? = some (.loop (rec (if jump.isNone then .ready else .done) jump)) ∧
        KeepsFrom (l + 1) W (W3.putObj l (.loop (rec (if jump.isNone then .ready else .done) jump))) ∧
        (∀ k o, B ≤ k → k < l → W.heap[k]? = some o → o.isCells = false → (W3.putObj l (.loop (rec (if jump.isNone then .ready else .done) jump))).heap[k]? = some o) := fun jump W3 hk3 => by
      have hl3 := hk3.same l _ hB hl2 rfl
      have hr := run_endRound (P := P) jump hl3
      rw [(hrec _ _).2.2.2] at hr
      have hs : W.heap.size ≤ W3.heap.size := by have h1 := hk1.size; have h2 := hk3.size; rw [World.putObj_size] at h2; omega
      have hsame : ∀ k o, B ≤ k → k ≠ l → W.heap[k]? = some o → o.isCells = false → W3.heap[k]? = some o := fun k o hBk hkl hko ho =>
        hk3.same k o hBk ((World.putObj_heap_other hkl).trans (hk1.same k o hBk hko ho)) ho
      refine ⟨hr, hl3, World.putObj_heap_same (heap_lt hl3), ⟨by rw [World.putObj_size]; exact hs, fun k o hBk hko ho => ?_⟩, fun k o hBk hkl hko ho => ?_⟩
      · exact (World.putObj_heap_other (by omega)).trans (hsame k o (by omega) (by omega) hko ho)
      · exact (World.putObj_heap_other (by omega)).trans (hsame k o hBk (by omega) hko ho)
    intro e a3 W3 hp
    cases e with
    | normal =>
      obtain ⟨hk3, hi3⟩ := hp
      obtain ⟨hr, hl3, hl4, hkk, hkb⟩ := fin none W3 hk3
      exact ⟨_, _, hr, .inl ⟨rfl, hkk, hkb, hI _ _ _ hi3 (Step.put hl3 rfl hB), hl4⟩⟩
    | ret =>
      obtain ⟨hk3, hi3⟩ := hp
      obtain ⟨hr, hl3, hl4, hkk, hkb⟩ := fin (some .ret) W3 hk3
      exact ⟨_, _, hr, .inr ⟨rfl, hkk, hkb, .ret, hIx _ _ _ hi3 (Step.put hl3 rfl hB), hl4⟩⟩
    | exit id =>
      obtain ⟨hk3, hi3⟩ := hp
      obtain ⟨hr, hl3, hl4, hkk, hkb⟩ := fin (some (.exit id)) W3 hk3
      exact ⟨_, _, hr, .inr ⟨rfl, hkk, hkb, .exit id, hIx _ _ _ hi3 (Step.put hl3 rfl hB), hl4⟩⟩
    | goto t =>
      obtain ⟨hk3, hi3⟩ := hp
      obtain ⟨hr, hl3, hl4, hkk, hkb⟩ := fin (some (.goto t)) W3 hk3
      exact ⟨_, _, hr, .inr ⟨rfl, hkk, hkb, .goto t, hIx _ _ _ hi3 (Step.put hl3 rfl hB), hl4⟩⟩
    | panic ch => exact hp.elim
    | outgrown => exact hp.elim
  | ret => exact hp.elim
  | exit id => exact hp.elim
  | goto t => exact hp.elim
  | panic ch => exact hp.elim
  | outgrown => exact hp.elim

/-- THE LOOP, outside a round. -/
theorem range_list {α : Type} {g : Operand} {ps : Array Tmp} {assign body : Code} {Q : Exit → Act → World → Prop} {a : Act} {w : World} {gf : Nat} {lb : Array Value}
    (hg : a.eval g = .func (.func gf) #[] lb) (eg : ∀ args w, (callFunc gf args).run P w = .ok (.enter gf args) w)
    {encs : α → Array Value} {xs : List α} {Keep : World → Prop} (hit : IterOn P gf lb encs xs Keep) (hps : ∀ x, (encs x).size = ps.size)
    (I : Nat → World → Prop) (Ix : Code → World → Prop) (hI : ∀ k W W', I k W → Step w.heap.size W W' → I k W') (hIx : ∀ c W W', Ix c W → Step w.heap.size W W' → Ix c W')
    (hIb : ∀ k W, I k W → Keep W) (h0 : I 0 w)
    (hround : ∀ l k x W, xs[k]? = some x → w.heap.size ≤ l → (∃ r, W.heap[l]? = some (.loop r)) → I k W →
      assign.wpIn (Fence.wide.inRound l) 0 P (Exit.then (fun a1 W1 => KeepsFrom w.heap.size W W1 ∧ ∀ r r', W1.heap[l]? = some (.loop r) → body.wpIn (Fence.wide.inRound l) 0 P (roundEnd w.heap.size I Ix k (W1.putObj l (.loop r'))) a1 (W1.putObj l (.loop r'))) (fun _ _ _ => False))
        { tmps := (ps.zip (encs x)).foldl (fun t (p, v) => t.setIfInBounds p v) a.tmps, defers := [] } W)
    (hdone : ∀ (D : Nat) (W : World), w.heap.size ≤ D → I xs.length W → W.heap[D]? = some (.deferred (some [])) → Q .normal { a with defers := { target := .collected D, args := #[] } :: a.defers } W)
    (hstop : ∀ (D : Nat) (c : Code) (W : World), w.heap.size ≤ D → Ix c W → W.heap[D]? = some (.deferred (some [])) → c.wpIn Fence.wide n P Q { a with defers := { target := .collected D, args := #[] } :: a.defers } W) :
    (Code.rangeFunc g ps assign body).wpIn Fence.wide n P Q a w := by
  refine wpIn_rangeFunc ?_
  intro fn hfn
  obtain ⟨rec, hrec⟩ : ∃ rec : LoopState → Option Code → Loop, rec = fun st pe => { state := st, pending := pe, fn, tmps := a.tmps, params := ps, assign, body, defers := w.heap.size } := ⟨_, rfl⟩
  have hrec' : ∀ st pe, (rec st pe).state = st ∧ (rec st pe).pending = pe ∧ (∀ st', { rec st pe with state := st' } = rec st' pe) ∧ (∀ st' pe', { rec st pe with state := st', pending := pe' } = rec st' pe') := fun st pe => by
    rw [hrec]; exact ⟨rfl, rfl, fun _ => rfl, fun _ _ => rfl⟩
  obtain ⟨W1, hW1⟩ : ∃ W1, (w.alloc (.deferred (some []))).alloc (.loop (rec .ready none)) = W1 := ⟨_, rfl⟩
  have hL1 : W1.heap[w.heap.size + 1]? = some (.loop (rec .ready none)) := by
    rw [← hW1]; have := World.alloc_heap_new (w.alloc (.deferred (some []))) (.loop (rec .ready none)); rwa [World.size_alloc] at this
  have hK1 : W1.heap[w.heap.size]? = some (.deferred (some [])) := by
    rw [← hW1]; exact (Below.heap_alloc _ _ _ (by simp)).trans (World.alloc_heap_new w _)
  have hbW : Below w.heap.size w W1 := by
    rw [← hW1]; exact ((Below.refl _ w).alloc (Nat.le_refl _) _).alloc (by simp) _
  have hI1 : I 0 W1 := hI _ _ _ h0 (Step.of_below hbW)
  refine ⟨w.heap.size + 1, [{ target := .collected w.heap.size, args := #[] }], W1, { target := .fn (.func gf) lb, args := #[.func (.yield (w.heap.size + 1)) #[] #[]] }, W1, gf,
    #[.func (.yield (w.heap.size + 1)) #[] #[]] ++ lb, W1, ?_, ?_, fun _ _ => trivial, ?_, fun hh => (by cases hh), ?_⟩
  · rw [← hW1, hrec]; exact run_enterLoop_outer _ _ _ _ _
  · simp only [resolve, hg]
    simp [go_sem]
  · simp [invoke, go_sem, eg]
  · refine callsWide ((hit (w.heap.size + 1)
      (fun k W => I k W ∧ W.heap[w.heap.size + 1]? = some (.loop (rec .ready none)) ∧ W.heap[w.heap.size]? = some (.deferred (some [])))
      (fun W => ∃ c, Ix c W ∧ W.heap[w.heap.size + 1]? = some (.loop (rec .done (some c))) ∧ W.heap[w.heap.size]? = some (.deferred (some [])))
      W1 (fun k W h => hIb k W h.1)
      (fun k W W' h hb => ⟨hI _ _ _ h.1 (Step.of_below hb), (hb.block _ (heap_lt h.2.1)).trans h.2.1, (hb.block _ (heap_lt h.2.2)).trans h.2.2⟩)
      (fun W W' h hb => by
        obtain ⟨c, h1, h2, h3⟩ := h
        exact ⟨c, hIx _ _ _ h1 (Step.of_below hb), (hb.block _ (heap_lt h2)).trans h2, (hb.block _ (heap_lt h3)).trans h3⟩)
      ?_ ⟨hI1, hL1, hK1⟩).mono ?_)
    · rintro k x W hx ⟨hi, hl, hk⟩
      have hy := run_yield (P := P) (args := encs x) hl (by rw [hrec]; exact hps x)
      have e1 : (rec .ready none).fn = fn ∧ (rec .ready none).params = ps ∧ (rec .ready none).tmps = a.tmps ∧ (rec .ready none).assign = assign ∧ (rec .ready none).body = body := by rw [hrec]; exact ⟨rfl, rfl, rfl, rfl, rfl⟩
      rw [e1.1, e1.2.1, e1.2.2.1, e1.2.2.2.1, e1.2.2.2.2] at hy
      refine ⟨fn, _, assign, body, hy, (round_list (B := w.heap.size) hrec' (by omega) hI hIx hl fn (hround _ k x W hx (by omega) ⟨_, hl⟩ hi)).mono ?_⟩
      rintro e W' (⟨rfl, _, hkb, hi', hl'⟩ | ⟨rfl, _, hkb, c, hc, hl'⟩)
      · exact .inl ⟨rfl, hi', hl', hkb _ _ (Nat.le_refl _) (by omega) hk rfl⟩
      · exact .inr ⟨rfl, c, hc, hl', hkb _ _ (Nat.le_refl _) (by omega) hk rfl⟩
    · rintro e W2 ⟨⟨v, rfl⟩, (⟨hi, hl, hk⟩ | ⟨c, hc, hl, hk⟩)⟩
      · have hr := run_endLoop (P := P) hl (by rw [(hrec' _ _).1]; simp)
        rw [(hrec' _ _).2.2.1, (hrec' _ _).2.1] at hr
        exact ⟨none, _, hr, hdone _ _ (Nat.le_refl _) (hI _ _ _ hi (Step.put hl rfl (by omega))) ((World.putObj_heap_other (by omega)).trans hk)⟩
      · have hr := run_endLoop (P := P) hl (by rw [(hrec' _ _).1]; simp)
        rw [(hrec' _ _).2.2.1, (hrec' _ _).2.1] at hr
        exact ⟨some c, _, hr, hstop _ c _ (Nat.le_refl _) (hIx _ _ _ hc (Step.put hl rfl (by omega))) ((World.putObj_heap_other (by omega)).trans hk)⟩

/-- THE LOOP, in a round of loop l₀. -/
theorem range_list_in {α : Type} {l₀ : Nat} {r₀ : Loop} {g : Operand} {ps : Array Tmp} {assign body : Code} {Q : Exit → Act → World → Prop} {a : Act} {w : World} {gf : Nat} {lb : Array Value}
    (hl₀ : w.heap[l₀]? = some (.loop r₀))
    (hg : a.eval g = .func (.func gf) #[] lb) (eg : ∀ args w, (callFunc gf args).run P w = .ok (.enter gf args) w)
    {encs : α → Array Value} {xs : List α} {Keep : World → Prop} (hit : IterOn P gf lb encs xs Keep) (hps : ∀ x, (encs x).size = ps.size)
    (I : Nat → World → Prop) (Ix : Code → World → Prop) (hI : ∀ k W W', I k W → Step w.heap.size W W' → I k W') (hIx : ∀ c W W', Ix c W → Step w.heap.size W W' → Ix c W')
    (hIb : ∀ k W, I k W → Keep W) (h0 : I 0 w)
    (hround : ∀ l k x W, xs[k]? = some x → w.heap.size ≤ l → (∃ r, W.heap[l]? = some (.loop r)) → I k W →
      assign.wpIn (Fence.wide.inRound l) 0 P (Exit.then (fun a1 W1 => KeepsFrom w.heap.size W W1 ∧ ∀ r r', W1.heap[l]? = some (.loop r) → body.wpIn (Fence.wide.inRound l) 0 P (roundEnd w.heap.size I Ix k (W1.putObj l (.loop r'))) a1 (W1.putObj l (.loop r'))) (fun _ _ _ => False))
        { tmps := (ps.zip (encs x)).foldl (fun t (p, v) => t.setIfInBounds p v) a.tmps, defers := [] } W)
    (hdone : ∀ (W : World), I xs.length W → Q .normal a W)
    (hstop : ∀ (c : Code) (W : World), Ix c W → c.wpIn (Fence.wide.inRound l₀) n P Q a W) :
    (Code.rangeFunc g ps assign body).wpIn (Fence.wide.inRound l₀) n P Q a w := by
  refine wpIn_rangeFunc ?_
  intro fn hfn
  obtain ⟨rec, hrec⟩ : ∃ rec : LoopState → Option Code → Loop, rec = fun st pe => { state := st, pending := pe, fn, tmps := a.tmps, params := ps, assign, body, defers := r₀.defers } := ⟨_, rfl⟩
  have hrec' : ∀ st pe, (rec st pe).state = st ∧ (rec st pe).pending = pe ∧ (∀ st', { rec st pe with state := st' } = rec st' pe) ∧ (∀ st' pe', { rec st pe with state := st', pending := pe' } = rec st' pe') := fun st pe => by
    rw [hrec]; exact ⟨rfl, rfl, fun _ => rfl, fun _ _ => rfl⟩
  obtain ⟨W1, hW1⟩ : ∃ W1, w.alloc (.loop (rec .ready none)) = W1 := ⟨_, rfl⟩
  have hL1 : W1.heap[w.heap.size]? = some (.loop (rec .ready none)) := by rw [← hW1]; exact World.alloc_heap_new w _
  have hbW : Below w.heap.size w W1 := by
    rw [← hW1]; exact (Below.refl _ w).alloc (Nat.le_refl _) _
  have hI1 : I 0 W1 := hI _ _ _ h0 (Step.of_below hbW)
  refine ⟨w.heap.size, [], W1, { target := .fn (.func gf) lb, args := #[.func (.yield w.heap.size) #[] #[]] }, W1, gf,
    #[.func (.yield w.heap.size) #[] #[]] ++ lb, W1, ?_, ?_, fun _ _ => trivial, ?_, fun hh => (by cases hh), ?_⟩
  · rw [← hW1, hrec]; exact run_enterLoop_inner hl₀ _ _ _ _ _
  · simp only [resolve, hg]
    simp [go_sem]
  · simp [invoke, go_sem, eg]
  · refine CallsIn.inRound l₀ (callsWide ((hit w.heap.size
      (fun k W => I k W ∧ W.heap[w.heap.size]? = some (.loop (rec .ready none)))
      (fun W => ∃ c, Ix c W ∧ W.heap[w.heap.size]? = some (.loop (rec .done (some c))))
      W1 (fun k W h => hIb k W h.1)
      (fun k W W' h hb => ⟨hI _ _ _ h.1 (Step.of_below hb), (hb.block _ (heap_lt h.2)).trans h.2⟩)
      (fun W W' h hb => by
        obtain ⟨c, h1, h2⟩ := h
        exact ⟨c, hIx _ _ _ h1 (Step.of_below hb), (hb.block _ (heap_lt h2)).trans h2⟩)
      ?_ ⟨hI1, hL1⟩).mono ?_))
    · rintro k x W hx ⟨hi, hl⟩
      have hy := run_yield (P := P) (args := encs x) hl (by rw [hrec]; exact hps x)
      have e1 : (rec .ready none).fn = fn ∧ (rec .ready none).params = ps ∧ (rec .ready none).tmps = a.tmps ∧ (rec .ready none).assign = assign ∧ (rec .ready none).body = body := by rw [hrec]; exact ⟨rfl, rfl, rfl, rfl, rfl⟩
      rw [e1.1, e1.2.1, e1.2.2.1, e1.2.2.2.1, e1.2.2.2.2] at hy
      refine ⟨fn, _, assign, body, hy, (round_list (B := w.heap.size) hrec' (Nat.le_refl _) hI hIx hl fn (hround _ k x W hx (Nat.le_refl _) ⟨_, hl⟩ hi)).mono ?_⟩
      rintro e W' (⟨rfl, _, hkb, hi', hl'⟩ | ⟨rfl, _, hkb, c, hc, hl'⟩)
      · exact .inl ⟨rfl, hi', hl'⟩
      · exact .inr ⟨rfl, c, hc, hl'⟩
    · rintro e W2 ⟨⟨v, rfl⟩, (⟨hi, hl⟩ | ⟨c, hc, hl⟩)⟩
      · have hr := run_endLoop (P := P) hl (by rw [(hrec' _ _).1]; simp)
        rw [(hrec' _ _).2.2.1, (hrec' _ _).2.1] at hr
        exact ⟨none, _, hr, hdone _ (hI _ _ _ hi (Step.put hl rfl (Nat.le_refl _)))⟩
      · have hr := run_endLoop (P := P) hl (by rw [(hrec' _ _).1]; simp)
        rw [(hrec' _ _).2.2.1, (hrec' _ _).2.1] at hr
        exact ⟨some c, _, hr, hstop c _ (hIx _ _ _ hc (Step.put hl rfl (Nat.le_refl _)))⟩
end
end Go.Proofs.YthijegacjboclaaGreat
