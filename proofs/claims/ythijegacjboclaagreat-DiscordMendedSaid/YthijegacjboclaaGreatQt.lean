/-
Regions that draw their order, walked once in the order of the text, in the class of worlds in which nothing that lay before has turned; with a tail that writes; in a round of a range over a function too. No conditions of the program's.
-/
import Derived.BigQuiet
import Derived.StillTail
import Derived.OrdersIn
import Derived.Below
import Derived.RangeFuncOwn
import Derived.RangeFuncCalls
import Derived.TacticsIn
namespace Go.Proofs.YthijegacjboclaaGreat
open Go.RowKit

/-- A world in which all that lay in w lies as it lay. -/
structure After (w : World) where
  val : World
  ok : Below w.heap.size w val

def After.self (w : World) : After w := ⟨w, Below.refl _ _⟩
instance (w : World) : Nonempty (After w) := ⟨After.self w⟩

theorem After.cell {w : World} (z : After w) (b o : Nat) (h : b < w.heap.size) : z.val.cell? ⟨b, o, none⟩ = w.cell? ⟨b, o, none⟩ := z.ok.cell (p := ⟨b, o, none⟩) h
theorem After.frozen {w : World} (z : After w) (b o : Nat) (h : b < w.heap.size) : z.val.frozen? ⟨b, o, none⟩ = w.frozen? ⟨b, o, none⟩ := z.ok.frozen (p := ⟨b, o, none⟩) h

theorem calls_after {P : Program} {f : FuncId} {args : Array Value} {w : World} {z : After w} {v : Value}
    (h : Calls P f args z.val fun e w' => e = .returned v ∧ Below z.val.heap.size z.val w') :
    Calls P f args z.val fun e w'' => e = .returned v ∧ ∃ z' : After w, w'' = z'.val :=
  h.mono fun _ w' ⟨he, hb⟩ => ⟨he, ⟨w', z.ok.trans (hb.mono z.ok.size)⟩, rfl⟩

theorem calls_after_same {P : Program} {f : FuncId} {args : Array Value} {w : World} {z : After w} {v : Value}
    (h : Calls P f args z.val fun e w' => e = .returned v ∧ z.val = w') :
    Calls P f args z.val fun e w'' => e = .returned v ∧ ∃ z' : After w, w'' = z'.val :=
  h.mono fun _ _ ⟨he, hb⟩ => ⟨he, z, hb.symm⟩

theorem bcell {W w1 : World} (hb : Below W.heap.size W w1) : (∀ b o, b < W.heap.size → w1.cell? ⟨b, o, none⟩ = W.cell? ⟨b, o, none⟩) ∧ (∀ b o, b < W.heap.size → w1.frozen? ⟨b, o, none⟩ = W.frozen? ⟨b, o, none⟩) :=
  ⟨fun b o h => hb.cell (p := ⟨b, o, none⟩) h, fun b o h => hb.frozen (p := ⟨b, o, none⟩) h⟩
/-- All that lay in X lies in w as it lay: the walk's word for a world that callees have left. -/
structure KP (X w : World) : Prop where
  b : Below X.heap.size X w
theorem kp_rules {X w : World} (h : KP X w) : KP X w ∧ (∀ b o, b < X.heap.size → w.cell? ⟨b, o, none⟩ = X.cell? ⟨b, o, none⟩) ∧ (∀ b o, b < X.heap.size → w.frozen? ⟨b, o, none⟩ = X.frozen? ⟨b, o, none⟩) :=
  ⟨h, bcell h.b⟩
theorem kp_first {X w : World} (hb : Below X.heap.size X w) : KP X w ∧ (∀ b o, b < X.heap.size → w.cell? ⟨b, o, none⟩ = X.cell? ⟨b, o, none⟩) ∧ (∀ b o, b < X.heap.size → w.frozen? ⟨b, o, none⟩ = X.frozen? ⟨b, o, none⟩) := kp_rules ⟨hb⟩
theorem kp_step {X w w1 : World} (h : KP X w) (hb : Below w.heap.size w w1) : KP X w1 ∧ (∀ b o, b < X.heap.size → w1.cell? ⟨b, o, none⟩ = X.cell? ⟨b, o, none⟩) ∧ (∀ b o, b < X.heap.size → w1.frozen? ⟨b, o, none⟩ = X.frozen? ⟨b, o, none⟩) :=
  kp_rules ⟨h.b.trans (hb.mono h.b.size)⟩

/-- What the walk is told of a kept world: the cells of X in it, and in whatever world comes behind it. -/
structure Rules (X w : World) : Prop where
  k : KP X w
  c : ∀ b o, b < X.heap.size → w.cell? ⟨b, o, none⟩ = X.cell? ⟨b, o, none⟩
  f : ∀ b o, b < X.heap.size → w.frozen? ⟨b, o, none⟩ = X.frozen? ⟨b, o, none⟩
  zc : ∀ (z : After w) b o, b < X.heap.size → z.val.cell? ⟨b, o, none⟩ = X.cell? ⟨b, o, none⟩
  zf : ∀ (z : After w) b o, b < X.heap.size → z.val.frozen? ⟨b, o, none⟩ = X.frozen? ⟨b, o, none⟩
theorem rules_of {X w : World} (h : KP X w) : Rules X w :=
  ⟨h, (bcell h.b).1, (bcell h.b).2, fun z b o hb => (z.ok.cell (p := ⟨b, o, none⟩) (Nat.lt_of_lt_of_le hb h.b.size)).trans ((bcell h.b).1 b o hb),
    fun z b o hb => (z.ok.frozen (p := ⟨b, o, none⟩) (Nat.lt_of_lt_of_le hb h.b.size)).trans ((bcell h.b).2 b o hb)⟩
theorem kp_in_first {X w : World} {G : Prop} (hb : Below X.heap.size X w) (k : Rules X w → G) : G := k (rules_of ⟨hb⟩)
theorem kp_in_step {X w w1 : World} {G : Prop} (h0 : KP X w) (hb : Below w.heap.size w w1) (k : Rules X w1 → G) : G := k (rules_of (kp_step h0 hb).1)
theorem kp_in_after {X w : World} {G : Prop} (h0 : KP X w) (z : After w) (k : Rules X z.val → G) : G := k (rules_of (kp_step h0 z.ok).1)
theorem kp_in_after0 {w : World} {G : Prop} (z : After w) (k : Rules w z.val → G) : G := k (rules_of ⟨z.ok⟩)
theorem KP.alloc {X w : World} (h : KP X w) (o : Obj) : KP X (w.alloc o) := ⟨h.b.alloc h.b.size _⟩
theorem KP.drew {X w : World} (h : KP X w) : KP X w.drew := ⟨h.b.drew⟩
theorem KP.refl (X : World) : KP X X := ⟨Below.refl _ _⟩

theorem bl_alloc {w X : World} {o : Obj} (h : Below w.heap.size w X) : Below w.heap.size w (X.alloc o) := h.alloc h.size _
theorem bl_drew {w X : World} (h : Below w.heap.size w X) : Below w.heap.size w X.drew := h.drew
theorem bl_after {w X : World} (z : After X) (h : Below w.heap.size w X) : Below w.heap.size w z.val := h.trans (z.ok.mono h.size)
theorem bl_call {w X Y : World} (h : Below w.heap.size w X) (hb : Below X.heap.size X Y) : Below w.heap.size w Y := h.trans (hb.mono h.size)

section
variable {P : Program} {ops : Array Oper} {md : Region.Mode} {C : World → Prop}

/-- ONE WALK OF THE LEXICAL ORDER SERVES EVERY ORDER, in the class of the worlds behind w. -/
theorem wp_region_after {id : Nat} {Q : Exit → Act → World → Prop} {a : Act} {w : World} {l : List Oper} (hm : P.follows .mixedOrders = true) (hB : Region.lexB .any l.toArray = true)
    (h : wpQuiet P l.toArray (fun w' => ∃ z : After w, w' = z.val) (fun a' => ∀ w', (∃ z : After w, w' = z.val) → Q .normal a' w') l a) : (Code.region id l.toArray true).wp P Q a w :=
  wp_region_quiet (C := fun w' => ∃ z : After w, w' = z.val) hm hB ⟨⟨_, (Below.refl _ _).drew⟩, rfl⟩ (by simpa using h)

def wpAnyLQ (P : Program) (md : Region.Mode) (ops : Array Oper) (C : World → Prop) (n : Nat) (L : Array Bool → Act → Prop) : Nat → Array Bool → Act → Prop
  | 0, listed, a => L listed a
  | f + 1, listed, a =>
    Region.ready md ops listed ≠ [] ∧ ∀ i ∈ Region.ready md ops listed, i < n ∧ qOp P ops C i (wpAnyLQ P md ops C n L f (listed.setIfInBounds i true)) a

theorem wpAny_of_headQ {n g : Nat} {L : Array Bool → Act → Prop} {Q' : Exit → Act → World → Prop} (hL : ∀ listed a w, C w → L listed a → wpAny P md ops Q' g listed a w) :
    ∀ (f : Nat) (listed : Array Bool) (a : Act) (w : World), C w → wpAnyLQ P md ops C n L f listed a → wpAny P md ops Q' (f + g) listed a w
  | 0, listed, a, w, hw, h => by rw [Nat.zero_add]; exact hL _ _ _ hw h
  | f + 1, listed, a, w, hw, h => by
    rw [show f + 1 + g = (f + g) + 1 by omega]
    exact ⟨fun h0 => absurd h0 h.1, fun i hi => wpOp_of_qOp hw (fun a' w' hw' h' => wpAny_of_headQ hL f _ a' w' hw' h') (h.2 i hi).2⟩

theorem wpAnyLQ_first {n i : Nat} {oi : Oper} {v : Value} {L : Array Bool → Act → Prop} (hi : ops[i]? = some oi) (hsel : ∀ (j : Nat) (o : Oper) cs b, ops[j]? = some o → o.op ≠ .select cs b)
    (hs : Region.sinkB md ops n = true) (hc : Region.chainB md ops n = true) (hn : n < ops.size) (hin : i < n)
    (hdone : ∀ listed a, L listed a → ∀ j ∈ Region.ready md ops listed, n ≤ j) :
    ∀ (f : Nat) (listed : Array Bool) (a : Act), HeadInv md ops n listed →
      (∀ j oj, ops[j]? = some oj → j ≠ i → listed.getD j true = false → (∀ e ∈ oj.after, Region.binds md e = true → e.on ≠ i) → oi.apart ops oj = true) →
      i ∈ Region.ready md ops listed → YieldsIn P ops C oi v a →
      wpAnyLQ P md ops C n L f (listed.setIfInBounds i true) (a.put oi.dst v) → wpAnyLQ P md ops C n L (f + 1) listed a := by
  intro f
  induction f with
  | zero =>
    intro listed a inv _ hr hy H
    have hun := (mem_ready.1 hr).1
    refine ⟨fun h => (by rw [h] at hr; cases hr), fun j hj => ?_⟩
    have hjn : j < n := by
      rcases Nat.lt_or_ge j n with h | h
      · exact h
      · exact absurd hj (tail_waits hs hc hn inv _ i rfl hin hun j h)
    refine ⟨hjn, ?_⟩
    by_cases hji : j = i
    · subst hji; exact hy.qOp hi H
    · have := hdone _ _ H j (ready_mono hj hji)
      omega
  | succ f ih =>
    intro listed a inv hfree hr hy H
    have hun := (mem_ready.1 hr).1
    refine ⟨fun h => (by rw [h] at hr; cases hr), fun j hj => ?_⟩
    have hjn : j < n := by
      rcases Nat.lt_or_ge j n with h | h
      · exact h
      · exact absurd hj (tail_waits hs hc hn inv _ i rfl hin hun j h)
    refine ⟨hjn, ?_⟩
    by_cases hji : j = i
    · subst hji; exact hy.qOp hi H
    · have h1 := (H.2 j (ready_mono hj hji)).2
      obtain ⟨hjun, oj, hoj, hall⟩ := mem_ready.1 hj
      have hnot : ∀ e ∈ oj.after, Region.binds md e = true → e.on ≠ i := fun e he hb heq => by
        have h1 := hall e he hb
        rw [heq, getD_both hun] at h1
        cases h1
      have h2 := qOp_put hoj (hfree j oj hoj hji hjun hnot) (fun cs b => hsel i oi cs b hi) (fun cs b => hsel j oj cs b hoj) hy h1
      have hfree' : ∀ k ok, ops[k]? = some ok → k ≠ i → (listed.setIfInBounds j true).getD k true = false →
          (∀ e ∈ ok.after, Region.binds md e = true → e.on ≠ i) → oi.apart ops ok = true := fun k ok hk hki hun hno => by
        refine hfree k ok hk hki ?_ hno
        by_cases hjk : j = k
        · subst hjk; exact hjun
        · rw [getD_set_ne true hjk] at hun; exact hun
      refine qOp_mono (fun a' h3 => ih (listed.setIfInBounds j true) a' (inv.set hj hjn) hfree' (ready_mono hr (Ne.symm hji)) h3.1 ?_) h2
      rw [Array.setIfInBounds_comm _ _ hji]
      exact h3.2

theorem wpAnyLQ_lex {n g : Nat} {Lq : Act → Prop} (hsel : Region.noSelect ops = true) (hs : Region.sinkB md ops n = true) (hc : Region.chainB md ops n = true) (hn : n < ops.size) :
    ∀ (l : List Oper) (k : Nat) (listed : Array Bool) (a : Act), (∀ j, j < l.length → l[j]? = ops[k + j]?) → k + l.length = n → HeadInv md ops n listed →
    Region.lexHead md ops g l.length k listed = true → wpQuiet P ops C Lq l a →
    wpAnyLQ P md ops C n (fun listed' a' => Region.seqB md ops g n listed' = true ∧ Lq a') l.length listed a
  | [], k, listed, a, _, hk, _, hB, h => by
    have : k = n := by simpa using hk
    subst this
    exact ⟨by simpa [Region.lexHead] using hB, h⟩
  | o :: l, k, listed, a, hl, hk, inv, hB, h => by
    have h0 : ops[k]? = some o := by simpa using (hl 0 (by simp)).symm
    simp only [List.length_cons, Region.lexHead, Bool.and_eq_true] at hB
    obtain ⟨⟨hr, hf⟩, hB'⟩ := hB
    have hkn : k < n := by simp only [List.length_cons] at hk; omega
    have hr' : k ∈ Region.ready md ops listed := by simpa using hr
    have hst : qOp P ops C k (wpQuiet P ops C Lq l) a := by unfold qOp; simp only [h0]; exact h
    obtain ⟨v, hy, hK⟩ := yieldsIn_of_qOp h0 hst
    exact wpAnyLQ_first h0 (Region.noSelect_spec hsel) hs hc hn hkn (fun listed' a' hL => seqB_ready hL.1) l.length listed a inv (Region.free_spec h0 hf) hr' hy
      (wpAnyLQ_lex hsel hs hc hn l (k + 1) _ _ (fun j hj => by have := hl (j + 1) (by simp; omega); simpa [Nat.add_assoc, Nat.add_comm 1 j] using this) (by simp only [List.length_cons] at hk; omega) (inv.set hr' hkn) hB' hK)

/-- THE SAME WITH A TAIL: all but the operations from number n on read or call quietly; those come last, in one order. -/
theorem wpAny_tail {Q : Exit → Act → World → Prop} {a : Act} {w : World} {l : List Oper} (n : Nat) (hC : C w) (hB : Region.lexTailB .any l.toArray n = true)
    (h : wpQuiet P l.toArray C (fun a' => ∀ w', C w' → wpList P l.toArray Q (l.drop n) a' w') (l.take n) a) : wpAny P .any l.toArray Q l.toArray.size (Array.replicate l.toArray.size false) a w := by
  simp only [Region.lexTailB, Bool.and_eq_true, decide_eq_true_eq] at hB
  obtain ⟨⟨⟨⟨hsel, hn⟩, hs⟩, hc⟩, hlex⟩ := hB
  have hn' : n < l.length := by simpa using hn
  have htl : (l.take n).length = n := by simp; omega
  have hdl : (l.drop n).length = l.toArray.size - n := by simp
  have inv0 : HeadInv .any l.toArray n (Array.replicate l.toArray.size false) :=
    ⟨by simp, fun j oj _ hl => (by rw [getD_replicate_false] at hl; cases hl), fun t _ ht => getD_in (by simpa using ht) (getD_replicate_false _ _)⟩
  have H := wpAnyLQ_lex (md := .any) (g := l.toArray.size - n) hsel hs hc hn (l.take n) 0 _ a (fun j hj => by
    have hj' : j < n := by rw [htl] at hj; exact hj
    simp [hj']) (by simpa using htl) inv0 (by rw [htl]; exact hlex) h
  have := wpAny_of_headQ (Q' := Q) (g := l.toArray.size - n) (fun listed a' w1 hw1 hL => by
    have := wpAny_of_seq (md := .any) (Q' := Q) (l.drop n) n listed a' w1 (fun j => by simp [List.getElem?_drop]) (by rw [hdl]; exact hL.1) (hL.2 w1 hw1)
    rwa [hdl] at this) _ _ _ w hC H
  rw [htl, show n + (l.toArray.size - n) = l.toArray.size by omega] at this
  exact this

theorem wp_region_after_tail {id : Nat} {Q : Exit → Act → World → Prop} {a : Act} {w : World} {l : List Oper} (n : Nat) (hm : P.follows .mixedOrders = true) (hB : Region.lexTailB .any l.toArray n = true)
    (h : wpQuiet P l.toArray (fun w' => ∃ z : After w, w' = z.val) (fun a' => ∀ w', (∃ z : After w, w' = z.val) → wpList P l.toArray Q (l.drop n) a' w') (l.take n) a) : (Code.region id l.toArray true).wp P Q a w :=
  wp_region_any hm (wpAny_tail n ⟨⟨_, (Below.refl _ _).drew⟩, rfl⟩ hB h)

/-! In a round, under the wide fence. -/
def noDefer (ops : Array Oper) : Bool := ops.all fun o => match o.op with | .defer _ => false | _ => true

theorem noDefer_spec (h : noDefer ops = true) {j : Nat} {o : Oper} (ho : ops[j]? = some o) (c : _) : o.op ≠ .defer c := by
  intro heq
  have := Array.all_eq_true_iff_forall_mem.1 h o (Array.mem_of_getElem? ho)
  simp [heq] at this

theorem wpOpsIn_of {l n : Nat} {Q : Exit → Act → World → Prop} (hd : noDefer ops = true) (hout : ∀ a w, ¬ Q .outgrown a w) :
    ∀ (is : List Nat) (a : Act) (w : World), wpOps P ops Q is a w → wpOpsIn (Fence.wide.inRound l) n P ops Q is a w
  | [], _, _, h => h
  | i :: rest, a, w, h => by
    simp only [wpOps, wpOpsIn] at *
    cases ho : ops[i]? with
    | none => simp only [ho] at h; exact wpOpsIn_of hd hout rest a w h
    | some o =>
      simp only [ho] at h
      by_cases hw : Region.wanted o (yielded ops a.tmps) = true
      · simp only [hw, if_true] at h ⊢
        have hlo : ¬ LetsOut Q := fun ⟨a0, w0, hq⟩ => hout a0 w0 hq
        have h : o.wp P a w (wpOps P ops Q rest) Q := h.resolve_right fun hr => hlo hr.2
        refine ⟨fun _ _ => trivial, ?_⟩
        rw [Oper.semAt_eq _ _ _ (fun c => noDefer_spec hd ho c)]
        unfold Oper.wp at h
        generalize (execOp a.eval o).run P w = r at *
        cases r with
        | ok x w' =>
          cases x <;> simp only [Oper.upon] at h <;> simp only [Oper.uponIn]
          case value v => exact wpOpsIn_of hd hout rest _ _ h
          case skip => exact wpOpsIn_of hd hout rest _ _ h
          case defer d => exact wpOpsIn_of hd hout rest _ _ h
          case enter f args =>
            refine ⟨fun hh => (by cases hh), CallsIn.inRound l (callsIn_wide.2 (h.mono fun e w'' he => ?_))⟩
            cases e with
            | returned v => exact wpOpsIn_of hd hout rest _ _ he
            | panicked c => exact he
            | outgrown => exact he
          case row row args =>
            refine ⟨fun hh => (by cases hh), fun c cs _ => ?_⟩
            obtain ⟨v, w'', hr, hs⟩ := h c cs
            exact ⟨v, w'', wpOpsIn_of hd hout rest _ _ hr, (stepsIn_wide (P := P)).2 hs⟩
          all_goals exact h.elim
        | halt x w' => cases x <;> simp only [Oper.upon] at h <;> simp only [Oper.uponIn] <;> first | exact h | exact h.elim
      · simp only [hw] at h ⊢
        exact ⟨fun _ _ => trivial, wpOpsIn_of hd hout rest _ _ h⟩

theorem wpIn_region_of_any {l n id : Nat} {Q : Exit → Act → World → Prop} {a : Act} {w : World} (hm : P.follows .mixedOrders = true) (hd : noDefer ops = true) (hout : ∀ a w, ¬ Q .outgrown a w)
    (h : wpAny P .any ops Q ops.size (Array.replicate ops.size false) a w.drew) : (Code.region id ops true).wpIn (Fence.wide.inRound l) n P Q a w :=
  wpIn_region_draw fun t => wpOpsIn_of hd hout _ _ _ (by
    simp only [Region.schedule, hm, Bool.true_or, if_true]
    exact wpAny_sound ops.size t _ a _ h)

/-! THE TAIL UNDER THE WIDE FENCE, in a round or not. -/
theorem wpOpIn_of_qOp {ro : Option Nat} {n i : Nat} {a : Act} {K : Act → Prop} {K' : Act → World → Prop} {Q' : Exit → Act → World → Prop} {w : World} (hd : noDefer ops = true) (hC : C w)
    (h : ∀ a w', C w' → K a → K' a w') (hh : qOp P ops C i K a) : wpOpIn { Fence.wide with round := ro } n P ops Q' i K' a w := by
  unfold qOp at hh
  unfold wpOpIn
  split
  · rename_i ho; simp only [ho] at hh; exact h _ _ hC hh
  · rename_i o ho
    simp only [ho] at hh
    split
    · rename_i hw
      simp only [hw, if_true] at hh
      obtain ⟨v, h1, h2⟩ := hh
      have h3 := h1 w hC
      refine ⟨fun _ _ => trivial, ?_⟩
      rw [Oper.semAt_eq _ _ _ (fun c => noDefer_spec hd ho c)]
      unfold Oper.quietAt at h3
      generalize (execOp a.eval o).run P w = r at *
      cases r with
      | ok nx w' =>
        cases nx <;> simp only [Oper.quietUpon] at h3 <;> simp only [Oper.uponIn]
        case value u =>
          obtain ⟨e1, e2⟩ := h3
          rw [e1, e2]
          exact h _ _ hC h2
        case skip =>
          obtain ⟨e1, e2⟩ := h3
          rw [e1, ← e2]
          exact h _ _ hC h2
        case enter f args =>
          obtain ⟨e1, hc⟩ := h3
          rw [e1]
          refine ⟨fun hh => (by cases hh), ?_⟩
          refine CallsIn.mono (R := fun e w'' => e = .returned v ∧ C w'') ⟨trivial, fun cs _ => (callsIn_wide (n := 0)).2 hc |>.2 cs (fun _ hx => by simp [Fence.wide] at hx)⟩ ?_
          rintro e w'' ⟨rfl, hw''⟩
          exact h _ _ hw'' h2
      | halt x w' => simp only [Oper.quietUpon] at h3
    · rename_i hw; simp only [hw] at hh; exact ⟨fun _ _ => trivial, h _ _ hC hh⟩

theorem wpAnyIn_of_headQ {ro : Option Nat} {n m g : Nat} {L : Array Bool → Act → Prop} {Q' : Exit → Act → World → Prop} (hd : noDefer ops = true)
    (hL : ∀ listed a w, C w → L listed a → wpAnyIn { Fence.wide with round := ro } m P md ops Q' g listed a w) :
    ∀ (f : Nat) (listed : Array Bool) (a : Act) (w : World), C w → wpAnyLQ P md ops C n L f listed a → wpAnyIn { Fence.wide with round := ro } m P md ops Q' (f + g) listed a w
  | 0, listed, a, w, hw, h => by rw [Nat.zero_add]; exact hL _ _ _ hw h
  | f + 1, listed, a, w, hw, h => by
    rw [show f + 1 + g = (f + g) + 1 by omega]
    exact ⟨fun h0 => absurd h0 h.1, fun i hi => wpOpIn_of_qOp hd hw (fun a' w' hw' h' => wpAnyIn_of_headQ hd hL f _ a' w' hw' h') (h.2 i hi).2⟩

theorem wpAnyIn_of_seq {F : Fence} {m : Nat} {Q' : Exit → Act → World → Prop} : ∀ (l : List Oper) (k : Nat) (listed : Array Bool) (a : Act) (w : World), (∀ j, l[j]? = ops[k + j]?) →
    Region.seqB md ops l.length k listed = true → wpListIn F m P ops Q' l a w → wpAnyIn F m P md ops Q' l.length listed a w
  | [], _, _, _, _, _, hB, h => ⟨by simpa [Region.seqB] using hB, h⟩
  | o :: l, k, listed, a, w, hl, hB, h => by
    have h0 : ops[k]? = some o := by simpa using (hl 0).symm
    simp only [List.length_cons, Region.seqB, Bool.and_eq_true, decide_eq_true_eq] at hB
    refine ⟨fun h1 => (by rw [hB.1] at h1; cases h1), fun i hi => ?_⟩
    rw [hB.1] at hi
    have hik : i = k := by simpa using hi
    subst hik
    have hw : wpOpIn F m P ops Q' i (wpListIn F m P ops Q' l) a w := by unfold wpOpIn; simp only [h0]; exact h
    exact wpOpIn_mono (fun a' w' h' => wpAnyIn_of_seq l (i + 1) _ a' w' (fun j => by have := hl (j + 1); simpa [Nat.add_assoc, Nat.add_comm 1 j] using this) hB.2 h') hw

theorem wpIn_region_after_tail {ro : Option Nat} {id m : Nat} {Q : Exit → Act → World → Prop} {a : Act} {w : World} {l : List Oper} (n : Nat) (hm : P.follows .mixedOrders = true) (hd : noDefer l.toArray = true) (hB : Region.lexTailB .any l.toArray n = true)
    (h : wpQuiet P l.toArray (fun w' => ∃ z : After w, w' = z.val) (fun a' => ∀ w', (∃ z : After w, w' = z.val) → wpListIn { Fence.wide with round := ro } m P l.toArray Q (l.drop n) a' w') (l.take n) a) :
    (Code.region id l.toArray true).wpIn { Fence.wide with round := ro } m P Q a w := by
  simp only [Region.lexTailB, Bool.and_eq_true, decide_eq_true_eq] at hB
  obtain ⟨⟨⟨⟨hsel, hn⟩, hs⟩, hc⟩, hlex⟩ := hB
  have hn' : n < l.length := by simpa using hn
  have htl : (l.take n).length = n := by simp; omega
  have hdl : (l.drop n).length = l.toArray.size - n := by simp
  have inv0 : HeadInv .any l.toArray n (Array.replicate l.toArray.size false) :=
    ⟨by simp, fun j oj _ hl => (by rw [getD_replicate_false] at hl; cases hl), fun t _ ht => getD_in (by simpa using ht) (getD_replicate_false _ _)⟩
  have H := wpAnyLQ_lex (md := .any) (g := l.toArray.size - n) hsel hs hc hn (l.take n) 0 _ a (fun j hj => by
    have hj' : j < n := by rw [htl] at hj; exact hj
    simp [hj']) (by simpa using htl) inv0 (by rw [htl]; exact hlex) h
  refine wpIn_region_any hm ?_
  have := wpAnyIn_of_headQ (ro := ro) (m := m) (Q' := Q) (g := l.toArray.size - n) hd (fun listed a' w1 hw1 hL => by
    have := wpAnyIn_of_seq (md := .any) (Q' := Q) (l.drop n) n listed a' w1 (fun j => by simp [List.getElem?_drop]) (by rw [hdl]; exact hL.1) (hL.2 w1 hw1)
    rwa [hdl] at this) _ _ _ { w with drawn := w.drawn + 1 } ⟨⟨_, (Below.refl _ _).drew⟩, rfl⟩ H
  rw [htl, show n + (l.toArray.size - n) = l.toArray.size by omega] at this
  exact this

/-- Without a tail. -/
theorem wpIn_region_after {ro : Option Nat} {id m : Nat} {Q : Exit → Act → World → Prop} {a : Act} {w : World} {l : List Oper} (hm : P.follows .mixedOrders = true) (hd : noDefer l.toArray = true) (hB : Region.lexB .any l.toArray = true)
    (h : wpQuiet P l.toArray (fun w' => ∃ z : After w, w' = z.val) (fun a' => ∀ w', (∃ z : After w, w' = z.val) → Q .normal a' w') l a) :
    (Code.region id l.toArray true).wpIn { Fence.wide with round := ro } m P Q a w := by
  simp only [Region.lexB, Bool.and_eq_true] at hB
  have H := wpAnyQ_lex (C := fun w' => ∃ z : After w, w' = z.val) (md := .any) hB.1 l.toArray.toList 0 (Array.replicate l.toArray.size false) a (by simp) (by simpa using hB.2) h
  refine wpIn_region_any hm ?_
  have key : ∀ (fuel : Nat) (listed : Array Bool) (a : Act) (w1 : World), (∃ z : After w, w1 = z.val) →
      wpAnyQ P .any l.toArray (fun w' => ∃ z : After w, w' = z.val) (fun a' => ∀ w', (∃ z : After w, w' = z.val) → Q .normal a' w') fuel listed a → wpAnyIn { Fence.wide with round := ro } m P .any l.toArray Q fuel listed a w1 := by
    intro fuel
    induction fuel with
    | zero => exact fun _ _ _ hw h => ⟨h.1, h.2 _ hw⟩
    | succ fuel ih => exact fun _ _ _ hw h => ⟨fun h0 => h.1 h0 _ hw, fun i hi => wpOpIn_of_qOp hd hw (fun a' w' hw' h' => ih _ a' w' hw' h') (h.2 i hi)⟩
  exact key _ _ _ { w with drawn := w.drawn + 1 } ⟨⟨_, (Below.refl _ _).drew⟩, rfl⟩ H
theorem wpIn_tail_w {id m : Nat} {Q : Exit → Act → World → Prop} {a : Act} {w : World} {l : List Oper} (n : Nat) (hm : P.follows .mixedOrders = true) (hd : noDefer l.toArray = true) (hB : Region.lexTailB .any l.toArray n = true)
    (h : wpQuiet P l.toArray (fun w' => ∃ z : After w, w' = z.val) (fun a' => ∀ w', (∃ z : After w, w' = z.val) → wpListIn Fence.wide m P l.toArray Q (l.drop n) a' w') (l.take n) a) :
    (Code.region id l.toArray true).wpIn Fence.wide m P Q a w := wpIn_region_after_tail (ro := none) n hm hd hB h
theorem wpIn_tail_r {lp id m : Nat} {Q : Exit → Act → World → Prop} {a : Act} {w : World} {l : List Oper} (n : Nat) (hm : P.follows .mixedOrders = true) (hd : noDefer l.toArray = true) (hB : Region.lexTailB .any l.toArray n = true)
    (h : wpQuiet P l.toArray (fun w' => ∃ z : After w, w' = z.val) (fun a' => ∀ w', (∃ z : After w, w' = z.val) → wpListIn (Fence.wide.inRound lp) m P l.toArray Q (l.drop n) a' w') (l.take n) a) :
    (Code.region id l.toArray true).wpIn (Fence.wide.inRound lp) m P Q a w := wpIn_region_after_tail (ro := some lp) n hm hd hB h
theorem wpIn_after_w {id m : Nat} {Q : Exit → Act → World → Prop} {a : Act} {w : World} {l : List Oper} (hm : P.follows .mixedOrders = true) (hd : noDefer l.toArray = true) (hB : Region.lexB .any l.toArray = true)
    (h : wpQuiet P l.toArray (fun w' => ∃ z : After w, w' = z.val) (fun a' => ∀ w', (∃ z : After w, w' = z.val) → Q .normal a' w') l a) :
    (Code.region id l.toArray true).wpIn Fence.wide m P Q a w := wpIn_region_after (ro := none) hm hd hB h
theorem wpIn_after_r {lp id m : Nat} {Q : Exit → Act → World → Prop} {a : Act} {w : World} {l : List Oper} (hm : P.follows .mixedOrders = true) (hd : noDefer l.toArray = true) (hB : Region.lexB .any l.toArray = true)
    (h : wpQuiet P l.toArray (fun w' => ∃ z : After w, w' = z.val) (fun a' => ∀ w', (∃ z : After w, w' = z.val) → Q .normal a' w') l a) :
    (Code.region id l.toArray true).wpIn (Fence.wide.inRound lp) m P Q a w := wpIn_region_after (ro := some lp) hm hd hB h
end
end Go.Proofs.YthijegacjboclaaGreat
