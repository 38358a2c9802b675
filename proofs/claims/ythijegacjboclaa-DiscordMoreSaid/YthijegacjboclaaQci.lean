/- A region that draws its order, walked by hand in a class of worlds, under the wide fence. No conditions of the program's. -/
import Derived.Test.YthijegacjboclaaQc
namespace Go.Proofs.Ythijegacjboclaa
open Go.RowKit

section
variable {P : Program} {ops : Array Oper}
theorem wpOpsIn_wide {n : Nat} {Q : Exit → Act → World → Prop} (hd : noDefer ops = true) (hout : ∀ a w, ¬ Q .outgrown a w) :
    ∀ (is : List Nat) (a : Act) (w : World), wpOps P ops Q is a w → wpOpsIn Fence.wide n P ops Q is a w
  | [], _, _, h => h
  | i :: rest, a, w, h => by
    simp only [wpOps, wpOpsIn] at *
    cases ho : ops[i]? with
    | none => simp only [ho] at h; exact wpOpsIn_wide hd hout rest a w h
    | some o =>
      simp only [ho] at h
      by_cases hw : Region.wanted o (yielded ops a.tmps) = true
      · simp only [hw, if_true] at h ⊢
        have hlo : ¬ LetsOut Q := fun ⟨a0, w0, hq⟩ => hout a0 w0 hq
        have h : o.wp P a w (wpOps P ops Q rest) Q := h.resolve_right fun hr => hlo hr.2
        refine ⟨fun _ _ => trivial, ?_⟩
        rw [Oper.semAt_eq _ _ _ (fun c => noDefer_spec hd ho c)]
        unfold Oper.wp at h
        generalize (execOp a.eval o).run P w = r at *
        cases r with
        | ok x w' =>
          cases x <;> simp only [Oper.upon] at h <;> simp only [Oper.uponIn]
          case value v => exact wpOpsIn_wide hd hout rest _ _ h
          case skip => exact wpOpsIn_wide hd hout rest _ _ h
          case defer d => exact wpOpsIn_wide hd hout rest _ _ h
          case enter f args =>
            refine ⟨fun hh => (by cases hh), callsIn_wide.2 (h.mono fun e w'' he => ?_)⟩
            cases e with
            | returned v => exact wpOpsIn_wide hd hout rest _ _ he
            | panicked c => exact he
            | outgrown => exact he
          case row row args =>
            refine ⟨fun hh => (by cases hh), fun c cs _ => ?_⟩
            obtain ⟨v, w'', hr, hs⟩ := h c cs
            exact ⟨v, w'', wpOpsIn_wide hd hout rest _ _ hr, (stepsIn_wide (P := P)).2 hs⟩
          all_goals exact h.elim
        | halt x w' => cases x <;> simp only [Oper.upon] at h <;> simp only [Oper.uponIn] <;> first | exact h | exact h.elim
      · simp only [hw] at h ⊢
        exact ⟨fun _ _ => trivial, wpOpsIn_wide hd hout rest _ _ h⟩
theorem wpIn_region_CW {n id : Nat} {Q : Exit → Act → World → Prop} {a : Act} {w : World} (C : World → Prop) (hm : P.follows .mixedOrders = true) (hd : noDefer ops = true) (hout : ∀ a w, ¬ Q .outgrown a w)
    (h : wpAnyC P ops Q C ops.size (Array.replicate ops.size false) a w.drew) : (Code.region id ops true).wpIn Fence.wide n P Q a w :=
  wpIn_region_draw fun t => wpOpsIn_wide hd hout _ _ _ (by
    simp only [Region.schedule, hm, Bool.true_or, if_true]
    exact wpAny_sound ops.size t _ a _ (wpAny_of_C _ _ _ _ h))
/-- What a region that only ends normally owes. -/
def nrm (K : Act → World → Prop) : Exit → Act → World → Prop
  | .normal, a, w => K a w
  | _, _, _ => False
theorem nrm_mono {Q : Exit → Act → World → Prop} : ∀ (e : Exit) (a : Act) (w : World), nrm (Q .normal) e a w → Q e a w
  | .normal, _, _, h => h
  | .ret, _, _, h => h.elim
  | .exit _, _, _, h => h.elim
  | .goto _, _, _, h => h.elim
  | .panic _, _, _, h => h.elim
  | .outgrown, _, _, h => h.elim
theorem wpIn_region_CN {n id : Nat} {Q : Exit → Act → World → Prop} {a : Act} {w : World} (C : World → Prop) (hm : P.follows .mixedOrders = true) (hd : noDefer ops = true)
    (h : wpAnyC P ops (nrm (Q .normal)) C ops.size (Array.replicate ops.size false) a w.drew) : (Code.region id ops true).wpIn Fence.wide n P Q a w :=
  wpIn_mono (wpIn_region_CW C hm hd (fun _ _ h => h) h) nrm_mono
theorem wp_region_CN {id : Nat} {Q : Exit → Act → World → Prop} {a : Act} {w : World} (C : World → Prop) (hm : P.follows .mixedOrders = true)
    (h : wpAnyC P ops (nrm (Q .normal)) C ops.size (Array.replicate ops.size false) a w.drew) : (Code.region id ops true).wp P Q a w :=
  wp_mono (wp_region_C C hm h) nrm_mono
theorem wpAnyC_doneN {K : Act → World → Prop} {C : World → Prop} {listed : Array Bool} {a : Act} {w : World} (hr : Region.ready .any ops listed = []) (hC : C w) (h : K a w) (fuel : Nat) : wpAnyC P ops (nrm K) C fuel listed a w :=
  wpAnyC_done hr hC h fuel
theorem wpIn_region_CR {l n id : Nat} {Q : Exit → Act → World → Prop} {a : Act} {w : World} (C : World → Prop) (hm : P.follows .mixedOrders = true) (hd : noDefer ops = true) (hout : ∀ a w, ¬ Q .outgrown a w)
    (h : wpAnyC P ops Q C ops.size (Array.replicate ops.size false) a w.drew) : (Code.region id ops true).wpIn (Fence.wide.inRound l) n P Q a w :=
  wpIn_region_of_any hm hd hout (wpAny_of_C _ _ _ _ h)
theorem wpIn_region_CNR {l n id : Nat} {Q : Exit → Act → World → Prop} {a : Act} {w : World} (C : World → Prop) (hm : P.follows .mixedOrders = true) (hd : noDefer ops = true)
    (h : wpAnyC P ops (nrm (Q .normal)) C ops.size (Array.replicate ops.size false) a w.drew) : (Code.region id ops true).wpIn (Fence.wide.inRound l) n P Q a w :=
  wpIn_mono (wpIn_region_CR C hm hd (fun _ _ h => h) h) nrm_mono
end
end Go.Proofs.Ythijegacjboclaa
