/- The function corners.clip answers a corner that can be cut off: a straight one, or an ear, if there is one. -/
import Derived.Test.YtegdnbceiopklaaInts
import Derived.Test.YtegdnbceiopklaaJQsk
import Derived.StillTactics
import Derived.IntWalk
import Derived.BigRegion
import Derived.Deep.LoopGhost
import Derived.Deep.DeepCutAuto
import Derived.Deep.RegionHeld3
namespace Go.Proofs.Ytegdnbceiopklaa
open Go.RowKit
attribute [local go_sem] After.cell After.frozen

theorem wrapK {x : Int} (h : -9000000000000000000 ≤ x ∧ x ≤ 9000000000000000000) : IntKind.i64.wrap x = x := IntWalk.i64_in x (by omega)
theorem bl_row {w0 w : World} {g : Nat} {cs : Array Value} (h : Below w0.heap.size w0 w) (hg : w0.heap.size ≤ g) : Below w0.heap.size w0 (w.setRow g cs) := h.trans ⟨rfl, rfl, rfl, by simp [World.setRow], fun k hk => setRow_other w g k _ (by omega)⟩
theorem blk_row {w : World} {g : Nat} {t : TypeId} {us cs : Array Value} (h : Blk w g t us) : Blk (w.setRow g cs) g t cs := setRow_heap w g _ _ _ _ h
theorem blk_row_far {w : World} {g k : Nat} {t : TypeId} {us cs : Array Value} (h : Blk w k t us) (hne : k ≠ g) : Blk (w.setRow g cs) k t us := (setRow_other w g k _ hne).trans h
def prv (n i : Nat) : Nat := (i + n - 1) % n
def nxn (n i : Nat) : Nat := (i + 1) % n
/-- Corner number i of those that are left. -/
def lpt (l : List Pt) (ls : List Int) (i : Nat) : Pt := pat l (iat ls i).toNat
def trn (l : List Pt) (ls : List Int) (i : Nat) : Int := turn (lpt l ls (prv ls.length i)) (lpt l ls i) (lpt l ls (nxn ls.length i))
theorem prv_lt {n i : Nat} (h : 0 < n) : prv n i < n := Nat.mod_lt _ h
theorem nxn_lt {n i : Nat} (h : 0 < n) : nxn n i < n := Nat.mod_lt _ h

set_option maxRecDepth 100000 in
set_option maxHeartbeats 2000000 in
theorem clipOf_any (b o ca b2 o2 ca2 g1 g2 g3 : Nat) (l : List Pt) (ls : List Int) (i : Nat) (w : World) (hp : PtsAt w b o l) (hl : IntsAt w b2 o2 ls) (h1 : Blk w g1 27 #[.slice (some ⟨b, o, none⟩) l.length ca]) (h2 : Blk w g2 55 #[.slice (some ⟨b2, o2, none⟩) ls.length ca2]) (h3 : Blk w g3 3 #[(Value.int .i64 ((ls.length : Int)))])
    (hi : i < ls.length) (hn : ls.length ≤ 1000) (hin : ∀ k, k < ls.length → 0 ≤ iat ls k ∧ iat ls k < l.length) (hll : l.length ≤ 1000) :
    Calls Try.prog 107 #[(Value.int .i64 ((i : Int))), .pointer (some ⟨g1, 0, none⟩), .pointer (some ⟨g2, 0, none⟩), .pointer (some ⟨g3, 0, none⟩)] w fun e w' => e = .returned (.tuple #[(Value.agg #[.int .i64 (lpt l ls (prv ls.length i)).1, .int .i64 (lpt l ls (prv ls.length i)).2]), (Value.agg #[.int .i64 (lpt l ls i).1, .int .i64 (lpt l ls i).2]), (Value.agg #[.int .i64 (lpt l ls (nxn ls.length i)).1, .int .i64 (lpt l ls (nxn ls.length i)).2])]) ∧ Below w.heap.size w w' := by
  have hpl := prv_lt (n := ls.length) (i := i) (by omega)
  have hnl := nxn_lt (n := ls.length) (i := i) (by omega)
  obtain ⟨a1, a2⟩ := hin _ hpl
  obtain ⟨b1, b2'⟩ := hin _ hi
  obtain ⟨c1, c2⟩ := hin _ hnl
  have e1 : ((i : Int) + (ls.length : Int) - 1).tmod (ls.length : Int) = (prv ls.length i : Int) := by
    unfold prv
    rw [Int.tmod_eq_emod_of_nonneg (by omega), Int.natCast_emod]
    congr 1
    omega
  have e2 : ((i : Int) + 1).tmod (ls.length : Int) = (nxn ls.length i : Int) := by
    unfold nxn
    rw [Int.tmod_eq_emod_of_nonneg (by omega), Int.natCast_emod]
    congr 1
  obtain ⟨j1, ej1⟩ : ∃ j : Nat, iat ls (prv ls.length i) = j := ⟨(iat ls (prv ls.length i)).toNat, by omega⟩
  obtain ⟨j2, ej2⟩ : ∃ j : Nat, iat ls i = j := ⟨(iat ls i).toNat, by omega⟩
  obtain ⟨j3, ej3⟩ : ∃ j : Nat, iat ls (nxn ls.length i) = j := ⟨(iat ls (nxn ls.length i)).toNat, by omega⟩
  have f1 : lpt l ls (prv ls.length i) = pat l j1 := by unfold lpt; rw [ej1]; rfl
  have f2 : lpt l ls i = pat l j2 := by unfold lpt; rw [ej2]; rfl
  have f3 : lpt l ls (nxn ls.length i) = pat l j3 := by unfold lpt; rw [ej3]; rfl
  rw [f1, f2, f3]
  rw [ej1] at a1 a2
  rw [ej2] at b1 b2'
  rw [ej3] at c1 c2
  have x1 := hl.xi hpl
  have x2 := hl.xi hi
  have x3 := hl.xi hnl
  rw [ej1] at x1
  rw [ej2] at x2
  rw [ej3] at x3
  have y1 := hp.xp (i := j1) (by omega)
  have y2 := hp.yp (i := j1) (by omega)
  have y3 := hp.xp (i := j2) (by omega)
  have y4 := hp.yp (i := j2) (by omega)
  have y5 := hp.xp (i := j3) (by omega)
  have y6 := hp.yp (i := j3) (by omega)
  have z1 := h1.cell 0
  have z2 := h2.cell 0
  have z3 := h3.cell 0
  have l1 := hp.lt
  have l2 := hl.lt
  have m1 := h1.lt
  have m2 := h2.lt
  have m3 := h3.lt
  simp only [List.getElem?_toArray, List.getElem?_cons_zero] at z1 z2 z3
  generalize prv ls.length i = pr at *
  generalize nxn ls.length i = nx at *
  go_enter Try.func107, Try.ntmps107
  go_upto_region 1 with fail
  have t1 := ((Blk.new w 42 #[(Value.int .i64 (0)), (Value.int .i64 (0))]).alloc (.cells #[(Value.int .i64 (0)), (Value.int .i64 (0))] 42)).alloc (.cells #[(Value.int .i64 (0)), (Value.int .i64 (0))] 42)
  have t2 := (Blk.new (w.alloc (.cells #[(Value.int .i64 (0)), (Value.int .i64 (0))] 42)) 42 #[(Value.int .i64 (0)), (Value.int .i64 (0))]).alloc (.cells #[(Value.int .i64 (0)), (Value.int .i64 (0))] 42)
  have t3 := Blk.new ((w.alloc (.cells #[(Value.int .i64 (0)), (Value.int .i64 (0))] 42)).alloc (.cells #[(Value.int .i64 (0)), (Value.int .i64 (0))] 42)) 42 #[(Value.int .i64 (0)), (Value.int .i64 (0))]
  have hbW : Below w.heap.size w (((w.alloc (.cells #[(Value.int .i64 (0)), (Value.int .i64 (0))] 42)).alloc (.cells #[(Value.int .i64 (0)), (Value.int .i64 (0))] 42)).alloc (.cells #[(Value.int .i64 (0)), (Value.int .i64 (0))] 42)) := by (repeat (first | with_reducible exact Below.refl _ _ | with_reducible apply bl_alloc | with_reducible apply bl_drew | with_reducible apply bl_after | (with_reducible refine bl_call ?_ (by assumption))))
  simp only [World.size_alloc] at t2 t3
  generalize ((w.alloc (.cells #[(Value.int .i64 (0)), (Value.int .i64 (0))] 42)).alloc (.cells #[(Value.int .i64 (0)), (Value.int .i64 (0))] 42)).alloc (.cells #[(Value.int .i64 (0)), (Value.int .i64 (0))] 42) = W1 at t1 t2 t3 hbW ⊢
  have hw1 : -9000000000000000000 ≤ ((i : Int) + (ls.length : Int)) ∧ ((i : Int) + (ls.length : Int)) ≤ 9000000000000000000 := by omega
  have hw2 : -9000000000000000000 ≤ ((i : Int) + (ls.length : Int) - 1) ∧ ((i : Int) + (ls.length : Int) - 1) ≤ 9000000000000000000 := by omega
  have hw3 : -9000000000000000000 ≤ ((i : Int) + 1) ∧ ((i : Int) + 1) ≤ 9000000000000000000 := by omega
  have hw4 : -9000000000000000000 ≤ ((pr : Int)) ∧ ((pr : Int)) ≤ 9000000000000000000 := by omega
  have hw5 : -9000000000000000000 ≤ ((nx : Int)) ∧ ((nx : Int)) ≤ 9000000000000000000 := by omega
  have nz : (ls = []) = False := by rw [eq_iff_iff, iff_false]; intro q; rw [q] at hi; simp at hi
  have n1 : (pr : Int) < (ls.length : Int) := by omega
  have n2 : (nx : Int) < (ls.length : Int) := by omega
  have n3 : (i : Int) < (ls.length : Int) := by omega
  have w1 : IntKind.i64.wrap ((i : Int) + (ls.length : Int)) = (i : Int) + (ls.length : Int) := wrapK hw1
  have w2 : IntKind.i64.wrap ((i : Int) + (ls.length : Int) - 1) = (i : Int) + (ls.length : Int) - 1 := wrapK hw2
  have w3 : IntKind.i64.wrap ((i : Int) + 1) = (i : Int) + 1 := wrapK hw3
  have w4 : IntKind.i64.wrap ((pr : Int)) = (pr : Int) := wrapK hw4
  have w5 : IntKind.i64.wrap ((nx : Int)) = (nx : Int) := wrapK hw5
  refine wp_region_C (fun w' => ∃ z : After w, w' = z.val) (by kernel_rfl) ?_
  change wpAnyC _ _ _ _ _ _ _ (World.drew W1)
  refine wpAnyC_take (i := 0) (v := ?v0u) rfl (by kernel_rfl) (by kernel_rfl) (by kernel_rfl) ?q0u rfl ?y0u ?r0u; (case q0u => exact fun _ _ _ h => h); (case y0u => ((rintro _ ⟨z, rfl⟩); (go_simp); (try with_reducible rfl))); simp only [Act.put, List.getElem_toArray, List.getElem_cons_succ, List.getElem_cons_zero, List.setIfInBounds_toArray, List.set_cons_succ, List.set_cons_zero]
  refine wpAnyC_take (i := 1) (v := ?v1u) rfl (by kernel_rfl) (by kernel_rfl) (by kernel_rfl) ?q1u rfl ?y1u ?r1u; (case q1u => exact fun _ _ _ h => h); (case y1u => ((rintro _ ⟨z, rfl⟩); (go_simp); (try with_reducible rfl))); simp only [Act.put, List.getElem_toArray, List.getElem_cons_succ, List.getElem_cons_zero, List.setIfInBounds_toArray, List.set_cons_succ, List.set_cons_zero]
  refine wpAnyC_take (i := 2) (v := ?v2u) rfl (by kernel_rfl) (by kernel_rfl) (by kernel_rfl) ?q2u rfl ?y2u ?r2u; (case q2u => exact fun _ _ _ h => h); (case y2u => ((rintro _ ⟨z, rfl⟩); (go_simp); (try with_reducible rfl))); simp only [Act.put, List.getElem_toArray, List.getElem_cons_succ, List.getElem_cons_zero, List.setIfInBounds_toArray, List.set_cons_succ, List.set_cons_zero]
  refine wpAnyC_take (i := 3) (v := ?v3u) rfl (by kernel_rfl) (by kernel_rfl) (by kernel_rfl) ?q3u rfl ?y3u ?r3u; (case q3u => exact fun _ _ _ h => h); (case y3u => ((rintro _ ⟨z, rfl⟩); (go_simp); (try with_reducible rfl))); simp only [Act.put, List.getElem_toArray, List.getElem_cons_succ, List.getElem_cons_zero, List.setIfInBounds_toArray, List.set_cons_succ, List.set_cons_zero]
  refine wpAnyC_take (i := 4) (v := ?v4u) rfl (by kernel_rfl) (by kernel_rfl) (by kernel_rfl) ?q4u rfl ?y4u ?r4u; (case q4u => exact fun _ _ _ h => h); (case y4u => ((rintro _ ⟨z, rfl⟩); (go_simp); (try with_reducible rfl))); simp only [Act.put, List.getElem_toArray, List.getElem_cons_succ, List.getElem_cons_zero, List.setIfInBounds_toArray, List.set_cons_succ, List.set_cons_zero]
  refine wpAnyC_take (i := 5) (v := ?v5u) rfl (by kernel_rfl) (by kernel_rfl) (by kernel_rfl) ?q5u rfl ?y5u ?r5u; (case q5u => exact fun _ _ _ h => h); (case y5u => ((rintro _ ⟨z, rfl⟩); (go_simp); (try with_reducible rfl))); simp only [Act.put, List.getElem_toArray, List.getElem_cons_succ, List.getElem_cons_zero, List.setIfInBounds_toArray, List.set_cons_succ, List.set_cons_zero]
  refine wpAnyC_take (i := 6) (v := ?v6u) rfl (by kernel_rfl) (by kernel_rfl) (by kernel_rfl) ?q6u rfl ?y6u ?r6u; (case q6u => exact fun _ _ _ h => h); (case y6u => ((rintro _ ⟨z, rfl⟩); (go_simp); (try with_reducible rfl))); simp only [Act.put, List.getElem_toArray, List.getElem_cons_succ, List.getElem_cons_zero, List.setIfInBounds_toArray, List.set_cons_succ, List.set_cons_zero]
  refine wpAnyC_take (i := 7) (v := ?v7u) rfl (by kernel_rfl) (by kernel_rfl) (by kernel_rfl) ?q7u rfl ?y7u ?r7u; (case q7u => exact fun _ _ _ h => h); (case y7u => ((rintro _ ⟨z, rfl⟩); (go_simp); (try with_reducible rfl))); simp only [Act.put, List.getElem_toArray, List.getElem_cons_succ, List.getElem_cons_zero, List.setIfInBounds_toArray, List.set_cons_succ, List.set_cons_zero]
  refine wpAnyC_take (i := 8) (v := ?v8u) rfl (by kernel_rfl) (by kernel_rfl) (by kernel_rfl) ?q8u rfl ?y8u ?r8u; (case q8u => exact fun _ _ _ h => h); (case y8u => ((rintro _ ⟨z, rfl⟩); (go_simp); (try with_reducible rfl))); simp only [Act.put, List.getElem_toArray, List.getElem_cons_succ, List.getElem_cons_zero, List.setIfInBounds_toArray, List.set_cons_succ, List.set_cons_zero]
  refine wpAnyC_take (i := 9) (v := ?v9u) rfl (by kernel_rfl) (by kernel_rfl) (by kernel_rfl) ?q9u rfl ?y9u ?r9u; (case q9u => exact fun _ _ _ h => h); (case y9u => ((rintro _ ⟨z, rfl⟩); (go_simp); (try with_reducible rfl))); simp only [Act.put, List.getElem_toArray, List.getElem_cons_succ, List.getElem_cons_zero, List.setIfInBounds_toArray, List.set_cons_succ, List.set_cons_zero]
  refine wpAnyC_take (i := 10) (v := ?v10u) rfl (by kernel_rfl) (by kernel_rfl) (by kernel_rfl) ?q10u rfl ?y10u ?r10u; (case q10u => exact fun _ _ _ h => h); (case y10u => ((rintro _ ⟨z, rfl⟩); (go_simp); (try with_reducible rfl))); simp only [Act.put, List.getElem_toArray, List.getElem_cons_succ, List.getElem_cons_zero, List.setIfInBounds_toArray, List.set_cons_succ, List.set_cons_zero]
  refine wpAnyC_take (i := 11) (v := ?v11u) rfl (by kernel_rfl) (by kernel_rfl) (by kernel_rfl) ?q11u rfl ?y11u ?r11u; (case q11u => exact fun _ _ _ h => h); (case y11u => ((rintro _ ⟨z, rfl⟩); (go_simp); (try with_reducible rfl))); simp only [Act.put, List.getElem_toArray, List.getElem_cons_succ, List.getElem_cons_zero, List.setIfInBounds_toArray, List.set_cons_succ, List.set_cons_zero]
  refine wpAnyC_take (i := 12) (v := ?v12u) rfl (by kernel_rfl) (by kernel_rfl) (by kernel_rfl) ?q12u rfl ?y12u ?r12u; (case q12u => exact fun _ _ _ h => h); (case y12u => ((rintro _ ⟨z, rfl⟩); (go_simp); (try with_reducible rfl))); simp only [Act.put, List.getElem_toArray, List.getElem_cons_succ, List.getElem_cons_zero, List.setIfInBounds_toArray, List.set_cons_succ, List.set_cons_zero]
  refine wpAnyC_take (i := 13) (v := ?v13u) rfl (by kernel_rfl) (by kernel_rfl) (by kernel_rfl) ?q13u rfl ?y13u ?r13u; (case q13u => exact fun _ _ _ h => h); (case y13u => ((rintro _ ⟨z, rfl⟩); (go_simp); (try with_reducible rfl))); simp only [Act.put, List.getElem_toArray, List.getElem_cons_succ, List.getElem_cons_zero, List.setIfInBounds_toArray, List.set_cons_succ, List.set_cons_zero]
  refine wpAnyC_take (i := 14) (v := ?v14u) rfl (by kernel_rfl) (by kernel_rfl) (by kernel_rfl) ?q14u rfl ?y14u ?r14u; (case q14u => exact fun _ _ _ h => h); (case y14u => ((rintro _ ⟨z, rfl⟩); (go_simp); (try with_reducible rfl))); simp only [Act.put, List.getElem_toArray, List.getElem_cons_succ, List.getElem_cons_zero, List.setIfInBounds_toArray, List.set_cons_succ, List.set_cons_zero]
  refine wpAnyC_take (i := 15) (v := ?v15u) rfl (by kernel_rfl) (by kernel_rfl) (by kernel_rfl) ?q15u rfl ?y15u ?r15u; (case q15u => exact fun _ _ _ h => h); (case y15u => ((rintro _ ⟨z, rfl⟩); (go_simp); (try with_reducible rfl))); simp only [Act.put, List.getElem_toArray, List.getElem_cons_succ, List.getElem_cons_zero, List.setIfInBounds_toArray, List.set_cons_succ, List.set_cons_zero]
  refine wpAnyC_take (i := 16) (v := ?v16u) rfl (by kernel_rfl) (by kernel_rfl) (by kernel_rfl) ?q16u rfl ?y16u ?r16u; (case q16u => exact fun _ _ _ h => h); (case y16u => ((rintro _ ⟨z, rfl⟩); (go_simp); (try with_reducible rfl))); simp only [Act.put, List.getElem_toArray, List.getElem_cons_succ, List.getElem_cons_zero, List.setIfInBounds_toArray, List.set_cons_succ, List.set_cons_zero]
  refine wpAnyC_take (i := 17) (v := ?v17u) rfl (by kernel_rfl) (by kernel_rfl) (by kernel_rfl) ?q17u rfl ?y17u ?r17u; (case q17u => exact fun _ _ _ h => h); (case y17u => ((rintro _ ⟨z, rfl⟩); (go_simp); (try with_reducible rfl))); simp only [Act.put, List.getElem_toArray, List.getElem_cons_succ, List.getElem_cons_zero, List.setIfInBounds_toArray, List.set_cons_succ, List.set_cons_zero]
  refine wpAnyC_take (i := 18) (v := ?v18u) rfl (by kernel_rfl) (by kernel_rfl) (by kernel_rfl) ?q18u rfl ?y18u ?r18u; (case q18u => exact fun _ _ _ h => h); (case y18u => ((rintro _ ⟨z, rfl⟩); (go_simp); (try with_reducible rfl))); simp only [Act.put, List.getElem_toArray, List.getElem_cons_succ, List.getElem_cons_zero, List.setIfInBounds_toArray, List.set_cons_succ, List.set_cons_zero]
  refine wpAnyC_take (i := 19) (v := ?v19u) rfl (by kernel_rfl) (by kernel_rfl) (by kernel_rfl) ?q19u rfl ?y19u ?r19u; (case q19u => exact fun _ _ _ h => h); (case y19u => ((rintro _ ⟨z, rfl⟩); (go_simp); (try with_reducible rfl))); simp only [Act.put, List.getElem_toArray, List.getElem_cons_succ, List.getElem_cons_zero, List.setIfInBounds_toArray, List.set_cons_succ, List.set_cons_zero]
  refine wpAnyC_take (i := 20) (v := ?v20u) rfl (by kernel_rfl) (by kernel_rfl) (by kernel_rfl) ?q20u rfl ?y20u ?r20u; (case q20u => exact fun _ _ _ h => h); (case y20u => ((rintro _ ⟨z, rfl⟩); (go_simp); (try with_reducible rfl))); simp only [Act.put, List.getElem_toArray, List.getElem_cons_succ, List.getElem_cons_zero, List.setIfInBounds_toArray, List.set_cons_succ, List.set_cons_zero]
  refine wpAnyC_take (i := 21) (v := ?v21u) rfl (by kernel_rfl) (by kernel_rfl) (by kernel_rfl) ?q21u rfl ?y21u ?r21u; (case q21u => exact fun _ _ _ h => h); (case y21u => ((rintro _ ⟨z, rfl⟩); (go_simp); (try with_reducible rfl))); simp only [Act.put, List.getElem_toArray, List.getElem_cons_succ, List.getElem_cons_zero, List.setIfInBounds_toArray, List.set_cons_succ, List.set_cons_zero]
  refine wpAnyC_take (i := 22) (v := ?v22u) rfl (by kernel_rfl) (by kernel_rfl) (by kernel_rfl) ?q22u rfl ?y22u ?r22u; (case q22u => exact fun _ _ _ h => h); (case y22u => ((rintro _ ⟨z, rfl⟩); (go_simp); (try with_reducible rfl))); simp only [Act.put, List.getElem_toArray, List.getElem_cons_succ, List.getElem_cons_zero, List.setIfInBounds_toArray, List.set_cons_succ, List.set_cons_zero]
  refine wpAnyC_take (i := 23) (v := ?v23u) rfl (by kernel_rfl) (by kernel_rfl) (by kernel_rfl) ?q23u rfl ?y23u ?r23u; (case q23u => exact fun _ _ _ h => h); (case y23u => ((rintro _ ⟨z, rfl⟩); (go_simp); (try with_reducible rfl))); simp only [Act.put, List.getElem_toArray, List.getElem_cons_succ, List.getElem_cons_zero, List.setIfInBounds_toArray, List.set_cons_succ, List.set_cons_zero]
  refine wpAnyC_take (i := 24) (v := ?v24u) rfl (by kernel_rfl) (by kernel_rfl) (by kernel_rfl) ?q24u rfl ?y24u ?r24u; (case q24u => exact fun _ _ _ h => h); (case y24u => ((rintro _ ⟨z, rfl⟩); (go_simp); (try with_reducible rfl))); simp only [Act.put, List.getElem_toArray, List.getElem_cons_succ, List.getElem_cons_zero, List.setIfInBounds_toArray, List.set_cons_succ, List.set_cons_zero]
  refine wpAnyC_take (i := 25) (v := ?v25u) rfl (by kernel_rfl) (by kernel_rfl) (by kernel_rfl) ?q25u rfl ?y25u ?r25u; (case q25u => exact fun _ _ _ h => h); (case y25u => ((rintro _ ⟨z, rfl⟩); (go_simp); (try with_reducible rfl))); simp only [Act.put, List.getElem_toArray, List.getElem_cons_succ, List.getElem_cons_zero, List.setIfInBounds_toArray, List.set_cons_succ, List.set_cons_zero]
  refine wpAnyC_take (i := 26) (v := ?v26u) rfl (by kernel_rfl) (by kernel_rfl) (by kernel_rfl) ?q26u rfl ?y26u ?r26u; (case q26u => exact fun _ _ _ h => h); (case y26u => ((rintro _ ⟨z, rfl⟩); (go_simp); (try with_reducible rfl))); simp only [Act.put, List.getElem_toArray, List.getElem_cons_succ, List.getElem_cons_zero, List.setIfInBounds_toArray, List.set_cons_succ, List.set_cons_zero]
  refine wpAnyC_take (i := 27) (v := ?v27u) rfl (by kernel_rfl) (by kernel_rfl) (by kernel_rfl) ?q27u rfl ?y27u ?r27u; (case q27u => exact fun _ _ _ h => h); (case y27u => ((rintro _ ⟨z, rfl⟩); (go_simp); (try with_reducible rfl))); simp only [Act.put, List.getElem_toArray, List.getElem_cons_succ, List.getElem_cons_zero, List.setIfInBounds_toArray, List.set_cons_succ, List.set_cons_zero]
  refine wpAnyC_take (i := 28) (v := ?v28u) rfl (by kernel_rfl) (by kernel_rfl) (by kernel_rfl) ?q28u rfl ?y28u ?r28u; (case q28u => exact fun _ _ _ h => h); (case y28u => ((rintro _ ⟨z, rfl⟩); (go_simp); (try with_reducible rfl))); simp only [Act.put, List.getElem_toArray, List.getElem_cons_succ, List.getElem_cons_zero, List.setIfInBounds_toArray, List.set_cons_succ, List.set_cons_zero]
  have hd0 : Below w.heap.size w W1.drew := bl_drew hbW
  replace t1 : Blk W1.drew w.heap.size 42 #[(Value.int .i64 (0)), (Value.int .i64 (0))] := t1
  replace t2 : Blk W1.drew (w.heap.size + 1) 42 #[(Value.int .i64 (0)), (Value.int .i64 (0))] := t2
  replace t3 : Blk W1.drew (w.heap.size + 1 + 1) 42 #[(Value.int .i64 (0)), (Value.int .i64 (0))] := t3
  generalize W1.drew = V0 at *
  refine wpAnyC_one (i := 29) (by kernel_rfl) rfl ⟨⟨_, hd0⟩, rfl⟩ rfl (fun K hK => ?_)
  refine wp_store_row 42 _ _ rfl w.heap.size #[(Value.int .i64 ((pat l j1).1)), (Value.int .i64 ((pat l j1).2))] rfl rfl 42 _ t1 (by kernel_rfl) rfl (by simp [Value.oneCell']) (hK _ _ ?_)
  clear hK K
  have hd1 := bl_row (cs := #[(Value.int .i64 ((pat l j1).1)), (Value.int .i64 ((pat l j1).2))]) hd0 (Nat.le_refl _)
  replace t2 := blk_row_far (cs := #[(Value.int .i64 ((pat l j1).1)), (Value.int .i64 ((pat l j1).2))]) t2 (k := w.heap.size + 1) (g := w.heap.size) (by omega)
  replace t3 := blk_row_far (cs := #[(Value.int .i64 ((pat l j1).1)), (Value.int .i64 ((pat l j1).2))]) t3 (k := w.heap.size + 1 + 1) (g := w.heap.size) (by omega)
  have v1 := blk_row (cs := #[(Value.int .i64 ((pat l j1).1)), (Value.int .i64 ((pat l j1).2))]) t1
  clear t1 hd0
  generalize V0.setRow w.heap.size #[(Value.int .i64 ((pat l j1).1)), (Value.int .i64 ((pat l j1).2))] = V1 at *
  refine wpAnyC_one (i := 30) (by kernel_rfl) rfl ⟨⟨_, hd1⟩, rfl⟩ rfl (fun K hK => ?_)
  refine wp_store_row 42 _ _ rfl (w.heap.size + 1) #[(Value.int .i64 ((pat l j2).1)), (Value.int .i64 ((pat l j2).2))] rfl rfl 42 _ t2 (by kernel_rfl) rfl (by simp [Value.oneCell']) (hK _ _ ?_)
  clear hK K
  have hd2 := bl_row (cs := #[(Value.int .i64 ((pat l j2).1)), (Value.int .i64 ((pat l j2).2))]) hd1 (show w.heap.size ≤ w.heap.size + 1 by omega)
  replace v1 := blk_row_far (cs := #[(Value.int .i64 ((pat l j2).1)), (Value.int .i64 ((pat l j2).2))]) v1 (k := w.heap.size) (g := w.heap.size + 1) (by omega)
  replace t3 := blk_row_far (cs := #[(Value.int .i64 ((pat l j2).1)), (Value.int .i64 ((pat l j2).2))]) t3 (k := w.heap.size + 1 + 1) (g := w.heap.size + 1) (by omega)
  have v2 := blk_row (cs := #[(Value.int .i64 ((pat l j2).1)), (Value.int .i64 ((pat l j2).2))]) t2
  clear t2 hd1
  generalize V1.setRow (w.heap.size + 1) #[(Value.int .i64 ((pat l j2).1)), (Value.int .i64 ((pat l j2).2))] = V2 at *
  refine wpAnyC_one (i := 31) (by kernel_rfl) rfl ⟨⟨_, hd2⟩, rfl⟩ rfl (fun K hK => ?_)
  refine wp_store_row 42 _ _ rfl (w.heap.size + 1 + 1) #[(Value.int .i64 ((pat l j3).1)), (Value.int .i64 ((pat l j3).2))] rfl rfl 42 _ t3 (by kernel_rfl) rfl (by simp [Value.oneCell']) (hK _ _ ?_)
  clear hK K
  have hd3 := bl_row (cs := #[(Value.int .i64 ((pat l j3).1)), (Value.int .i64 ((pat l j3).2))]) hd2 (show w.heap.size ≤ w.heap.size + 1 + 1 by omega)
  replace v1 := blk_row_far (cs := #[(Value.int .i64 ((pat l j3).1)), (Value.int .i64 ((pat l j3).2))]) v1 (k := w.heap.size) (g := w.heap.size + 1 + 1) (by omega)
  replace v2 := blk_row_far (cs := #[(Value.int .i64 ((pat l j3).1)), (Value.int .i64 ((pat l j3).2))]) v2 (k := w.heap.size + 1) (g := w.heap.size + 1 + 1) (by omega)
  have v3 := blk_row (cs := #[(Value.int .i64 ((pat l j3).1)), (Value.int .i64 ((pat l j3).2))]) t3
  clear t3 hd2
  generalize V2.setRow (w.heap.size + 1 + 1) #[(Value.int .i64 ((pat l j3).1)), (Value.int .i64 ((pat l j3).2))] = V3 at *
  refine wpAnyC_done (by kernel_rfl) ⟨⟨_, hd3⟩, rfl⟩ ?_ _
  have r1 := v1.cell 0
  have r2 := v1.cell 1
  have r3 := v2.cell 0
  have r4 := v2.cell 1
  have r5 := v3.cell 0
  have r6 := v3.cell 1
  go_wp2
  (try simp only [Exit.inBlock, Exit.then])
  refine bodyPost_ret (v := .tuple #[(Value.agg #[.int .i64 (pat l j1).1, .int .i64 (pat l j1).2]), (Value.agg #[.int .i64 (pat l j2).1, .int .i64 (pat l j2).2]), (Value.agg #[.int .i64 (pat l j3).1, .int .i64 (pat l j3).2])]) (by simp [results, Try.results107, go_sem, r1, r2, r3, r4, r5, r6]) rfl ?_
  exact ⟨rfl, hd3⟩
end Go.Proofs.Ytegdnbceiopklaa
/- The function corners.clip answers a corner that can be cut off: a straight one, or an ear, if there is one. -/
namespace Go.Proofs.Ytegdnbceiopklaa
open Go.RowKit
attribute [local go_sem] After.cell After.frozen
attribute [local go_sem high] run_eql_pt run_neq_pt

/-- A point lies in the closed triangle, and is none of its corners. -/
def inT3 (s : Int) (a b c q : Pt) : Prop := q ≠ a ∧ q ≠ b ∧ q ≠ c ∧ 0 ≤ turn a b q * s ∧ 0 ≤ turn b c q * s ∧ 0 ≤ turn c a q * s
/-- Corner i can be cut off: no other one is in its triangle. -/
def EarI (l : List Pt) (ls : List Int) (s : Int) (i : Nat) : Prop := 0 ≤ trn l ls i * s ∧ ∀ k, k < ls.length → ¬ inT3 s (lpt l ls (prv ls.length i)) (lpt l ls i) (lpt l ls (nxn ls.length i)) (lpt l ls k)
def ClipI (l : List Pt) (ls : List Int) (s : Int) (i : Nat) : Prop := i < ls.length ∧ (trn l ls i = 0 ∨ ((∀ j, j < ls.length → trn l ls j ≠ 0) ∧ EarI l ls s i))
theorem turn_s {a b c : Pt} {s : Int} (ha : isPt a = true) (hb : isPt b = true) (hc : isPt c = true) (hs : -1 ≤ s ∧ s ≤ 1) : wrap64 (turn a b c * s) = turn a b c * s := by
  have h1 := turn_bd ha hb hc
  have h2 := mul_bd (A := 320000) (B := 1) h1.1 h1.2 hs.1 hs.2
  exact wrap64_in (by omega) (by omega)

set_option maxRecDepth 100000 in
set_option maxHeartbeats 4000000 in
theorem clip_any (b o ca b2 o2 ca2 : Nat) (l : List Pt) (ls : List Int) (s : Int) (w : World) (hp : PtsAt w b o l) (hl : IntsAt w b2 o2 ls) (hn3 : 3 ≤ ls.length) (hn : ls.length ≤ 1000) (hin : ∀ k, k < ls.length → 0 ≤ iat ls k ∧ iat ls k < l.length) (hll : l.length ≤ 1000)
    (hpt : ∀ i, i < l.length → isPt (pat l i) = true) (hs : -1 ≤ s ∧ s ≤ 1) (hex : ∃ i, i < ls.length ∧ (trn l ls i = 0 ∨ EarI l ls s i)) :
    Calls Try.prog 88 #[.slice (some ⟨b, o, none⟩) l.length ca, .slice (some ⟨b2, o2, none⟩) ls.length ca2, (Value.int .i64 (s))] w fun e w' => (∃ i : Nat, e = .returned (Value.int .i64 ((i : Int))) ∧ ClipI l ls s i) ∧ Below w.heap.size w w' := by
  have hlp : ∀ k, k < ls.length → isPt (lpt l ls k) = true := fun k hk => by
    have := hin k hk
    exact hpt _ (by omega)
  replace hlp := Lib.hid hlp
  have hpl := Lib.hid fun (i : Nat) => prv_lt (n := ls.length) (i := i) (by omega)
  have hnl := Lib.hid fun (i : Nat) => nxn_lt (n := ls.length) (i := i) (by omega)
  have hinh := Lib.hid hin
  replace hex := Lib.hid hex
  clear hpt hin
  go_enter Try.func88, Try.ntmps88
  go_wp2
  go_step3
  go_wp2
  have c1 := ((Blk.new w 27 #[.slice (some ⟨b, o, none⟩) l.length ca]).alloc (.cells #[.slice (some ⟨b2, o2, none⟩) ls.length ca2] 55)).alloc (.cells #[(Value.int .i64 ((ls.length : Int)))] 3)
  have c2 := (Blk.new (w.alloc (.cells #[.slice (some ⟨b, o, none⟩) l.length ca] 27)) 55 #[.slice (some ⟨b2, o2, none⟩) ls.length ca2]).alloc (.cells #[(Value.int .i64 ((ls.length : Int)))] 3)
  have c3 := Blk.new ((w.alloc (.cells #[.slice (some ⟨b, o, none⟩) l.length ca] 27)).alloc (.cells #[.slice (some ⟨b2, o2, none⟩) ls.length ca2] 55)) 3 #[(Value.int .i64 ((ls.length : Int)))]
  have hbW : Below w.heap.size w (((w.alloc (.cells #[.slice (some ⟨b, o, none⟩) l.length ca] 27)).alloc (.cells #[.slice (some ⟨b2, o2, none⟩) ls.length ca2] 55)).alloc (.cells #[(Value.int .i64 ((ls.length : Int)))] 3)) := by (repeat (first | with_reducible exact Below.refl _ _ | with_reducible apply bl_alloc | with_reducible apply bl_drew | with_reducible apply bl_after | (with_reducible refine bl_call ?_ (by assumption))))
  simp only [World.size_alloc] at c2 c3
  generalize ((w.alloc (.cells #[.slice (some ⟨b, o, none⟩) l.length ca] 27)).alloc (.cells #[.slice (some ⟨b2, o2, none⟩) ls.length ca2] 55)).alloc (.cells #[(Value.int .i64 ((ls.length : Int)))] 3) = W1 at c1 c2 c3 hbW ⊢
  have hOf := Lib.hid fun (V : World) (h : Below w.heap.size w V) (q1 : Blk V w.heap.size 27 #[.slice (some ⟨b, o, none⟩) l.length ca]) (q2 : Blk V (w.heap.size + 1) 55 #[.slice (some ⟨b2, o2, none⟩) ls.length ca2]) (q3 : Blk V (w.heap.size + 1 + 1) 3 #[(Value.int .i64 ((ls.length : Int)))]) (k : Nat) (hk : k < ls.length) => clipOf_any b o ca b2 o2 ca2 _ _ _ l ls k V (hp.below h) (hl.below h) q1 q2 q3 hk hn hinh.out hll
  go_loopg [25] ls.length (fun g x wr => ∃ k : Nat, k ≤ ls.length ∧ g = ls.length - k ∧ x = (Value.int .i64 ((k : Int))) ∧ (∀ j, j < k → trn l ls j ≠ 0) ∧ Blk wr w.heap.size 27 #[.slice (some ⟨b, o, none⟩) l.length ca] ∧ Blk wr (w.heap.size + 1) 55 #[.slice (some ⟨b2, o2, none⟩) ls.length ca2] ∧ Blk wr (w.heap.size + 1 + 1) 3 #[(Value.int .i64 ((ls.length : Int)))] ∧ Below w.heap.size w wr)
  case atStart => exact ⟨0, Nat.zero_le _, rfl, rfl, (fun j hj => by omega), c1, c2, c3, hbW⟩
  case round =>
    obtain ⟨k, kn, rfl, rfl, hS, e1, e2, e3, hbw⟩ := hrel
    clear c1 c2 c3 hbW
    replace hS := Lib.hid hS
    by_cases hlt : k < ls.length
    · have t1 := hlp.out _ (hpl.out k)
      have t2 := hlp.out _ hlt
      have t3 := hlp.out _ (hnl.out k)
      have ho := hOf.out wr hbw e1 e2 e3 k hlt
      have htr : trn l ls k = turn (lpt l ls (prv ls.length k)) (lpt l ls k) (lpt l ls (nxn ls.length k)) := rfl
      by_cases hz : trn l ls k = 0
      · rw [htr] at hz
        go_wp2_with (first | (go_at_call 107; with_reducible refine Calls.mono (ho) ?_; rintro e w1 ⟨rfl, hb1⟩; first | ((with_reducible apply kp_in_step (hb := hb1)); (with_reducible assumption); rintro ⟨hk, hc, hf, hzc, hzf⟩) | ((with_reducible refine kp_in_first hb1 ?_); rintro ⟨hk, hc, hf, hzc, hzf⟩)) | (go_at_call 108; with_reducible refine Calls.mono (turn_any _ _ _ t1 t2 t3 _) ?_; rintro e w1 ⟨rfl, hb1⟩; first | ((with_reducible apply kp_in_step (hb := hb1)); (with_reducible assumption); rintro ⟨hk, hc, hf, hzc, hzf⟩) | ((with_reducible refine kp_in_first hb1 ?_); rintro ⟨hk, hc, hf, hzc, hzf⟩)))
        (try rw [Exit.noGoto_ret])
        go_ret
        exact ⟨⟨k, rfl, hlt, .inl (htr.trans hz)⟩, by (repeat (first | with_reducible exact Below.refl _ _ | with_reducible apply bl_alloc | with_reducible apply bl_drew | with_reducible apply bl_after | (with_reducible refine bl_call ?_ (by assumption))))⟩
      · rw [htr] at hz
        go_wp2_with (first | (go_at_call 107; with_reducible refine Calls.mono (ho) ?_; rintro e w1 ⟨rfl, hb1⟩; first | ((with_reducible apply kp_in_step (hb := hb1)); (with_reducible assumption); rintro ⟨hk, hc, hf, hzc, hzf⟩) | ((with_reducible refine kp_in_first hb1 ?_); rintro ⟨hk, hc, hf, hzc, hzf⟩)) | (go_at_call 108; with_reducible refine Calls.mono (turn_any _ _ _ t1 t2 t3 _) ?_; rintro e w1 ⟨rfl, hb1⟩; first | ((with_reducible apply kp_in_step (hb := hb1)); (with_reducible assumption); rintro ⟨hk, hc, hf, hzc, hzf⟩) | ((with_reducible refine kp_in_first hb1 ?_); rintro ⟨hk, hc, hf, hzc, hzf⟩)))
        go_roundg (ls.length - (k + 1))
        case measure => omega
        case rel => exact ⟨k + 1, by omega, rfl, by go_num, (fun j hj => by rcases Nat.lt_succ_iff_lt_or_eq.1 hj with h | h; exact hS.out j h; subst h; rw [htr]; exact hz), e1.below (by (repeat (first | with_reducible exact Below.refl _ _ | with_reducible apply bl_alloc | with_reducible apply bl_drew | with_reducible apply bl_after | (with_reducible refine bl_call ?_ (by assumption))))), e2.below (by (repeat (first | with_reducible exact Below.refl _ _ | with_reducible apply bl_alloc | with_reducible apply bl_drew | with_reducible apply bl_after | (with_reducible refine bl_call ?_ (by assumption))))), e3.below (by (repeat (first | with_reducible exact Below.refl _ _ | with_reducible apply bl_alloc | with_reducible apply bl_drew | with_reducible apply bl_after | (with_reducible refine bl_call ?_ (by assumption))))), by (repeat (first | with_reducible exact Below.refl _ _ | with_reducible apply bl_alloc | with_reducible apply bl_drew | with_reducible apply bl_after | (with_reducible refine bl_call ?_ (by assumption))))⟩
    · obtain rfl : k = ls.length := by omega
      have hex2 : ∃ i, i < ls.length ∧ EarI l ls s i := by
        obtain ⟨i, hi, h⟩ := hex.out
        rcases h with h | h
        · exact absurd h (hS.out i hi)
        · exact ⟨i, hi, h⟩
      replace hex2 := Lib.hid hex2
      clear hlt kn hex
      have y2 := e2.cell 0
      have l2 := e2.lt
      simp only [List.getElem?_toArray, List.getElem?_cons_zero] at y2
      go_wp2
      go_step3
      go_wp2
      clear y2 l2
      go_loopg [44] ls.length (fun g x wr => ∃ k : Nat, k ≤ ls.length ∧ g = ls.length - k ∧ x = (Value.int .i64 ((k : Int))) ∧ (∀ j, j < k → ¬ EarI l ls s j) ∧ Blk wr w.heap.size 27 #[.slice (some ⟨b, o, none⟩) l.length ca] ∧ Blk wr (w.heap.size + 1) 55 #[.slice (some ⟨b2, o2, none⟩) ls.length ca2] ∧ Blk wr (w.heap.size + 1 + 1) 3 #[(Value.int .i64 ((ls.length : Int)))] ∧ Below w.heap.size w wr)
      case atStart => exact ⟨0, Nat.zero_le _, rfl, rfl, (fun j hj => by omega), e1, e2, e3, hbw⟩
      case round =>
        obtain ⟨k, kn, rfl, rfl, hE, e1, e2, e3, hbw⟩ := hrel
        replace hE := Lib.hid hE
        by_cases hlt : k < ls.length
        · have t1 := hlp.out _ (hpl.out k)
          have t2 := hlp.out _ hlt
          have t3 := hlp.out _ (hnl.out k)
          have ho := hOf.out wr hbw e1 e2 e3 k hlt
          have htr : trn l ls k = turn (lpt l ls (prv ls.length k)) (lpt l ls k) (lpt l ls (nxn ls.length k)) := rfl
          have m1 := turn_s t1 t2 t3 hs
          by_cases hz : trn l ls k * s < 0
          · rw [htr] at hz
            go_wp2_with (first | (go_at_call 107; with_reducible refine Calls.mono (ho) ?_; rintro e w1 ⟨rfl, hb1⟩; first | ((with_reducible apply kp_in_step (hb := hb1)); (with_reducible assumption); rintro ⟨hk, hc, hf, hzc, hzf⟩) | ((with_reducible refine kp_in_first hb1 ?_); rintro ⟨hk, hc, hf, hzc, hzf⟩)) | (go_at_call 108; with_reducible refine Calls.mono (turn_any _ _ _ t1 t2 t3 _) ?_; rintro e w1 ⟨rfl, hb1⟩; first | ((with_reducible apply kp_in_step (hb := hb1)); (with_reducible assumption); rintro ⟨hk, hc, hf, hzc, hzf⟩) | ((with_reducible refine kp_in_first hb1 ?_); rintro ⟨hk, hc, hf, hzc, hzf⟩)))
            go_roundg (ls.length - (k + 1))
            case measure => omega
            case rel => exact ⟨k + 1, by omega, rfl, by go_num, (fun j hj => by rcases Nat.lt_succ_iff_lt_or_eq.1 hj with h | h; exact hE.out j h; subst h; exact fun q => by have := q.1; rw [htr] at this; omega), e1.below (by (repeat (first | with_reducible exact Below.refl _ _ | with_reducible apply bl_alloc | with_reducible apply bl_drew | with_reducible apply bl_after | (with_reducible refine bl_call ?_ (by assumption))))), e2.below (by (repeat (first | with_reducible exact Below.refl _ _ | with_reducible apply bl_alloc | with_reducible apply bl_drew | with_reducible apply bl_after | (with_reducible refine bl_call ?_ (by assumption))))), e3.below (by (repeat (first | with_reducible exact Below.refl _ _ | with_reducible apply bl_alloc | with_reducible apply bl_drew | with_reducible apply bl_after | (with_reducible refine bl_call ?_ (by assumption))))), by (repeat (first | with_reducible exact Below.refl _ _ | with_reducible apply bl_alloc | with_reducible apply bl_drew | with_reducible apply bl_after | (with_reducible refine bl_call ?_ (by assumption))))⟩
          · rw [htr] at hz
            go_upto_region 14 with (first | (go_at_call 107; with_reducible refine Calls.mono (ho) ?_; rintro e w1 ⟨rfl, hb1⟩; first | ((with_reducible apply kp_in_step (hb := hb1)); (with_reducible assumption); rintro ⟨hk, hc, hf, hzc, hzf⟩) | ((with_reducible refine kp_in_first hb1 ?_); rintro ⟨hk, hc, hf, hzc, hzf⟩)))
            have hEk : (∃ m, m < ls.length ∧ inT3 s (lpt l ls (prv ls.length k)) (lpt l ls k) (lpt l ls (nxn ls.length k)) (lpt l ls m)) → ¬ EarI l ls s k := fun ⟨m, hm, h⟩ q => q.2 m hm h
            have hEy : (∀ m, m < ls.length → ¬ inT3 s (lpt l ls (prv ls.length k)) (lpt l ls k) (lpt l ls (nxn ls.length k)) (lpt l ls m)) → EarI l ls s k := fun h => ⟨by rw [htr]; omega, h⟩
            replace hEk := Lib.hid hEk
            replace hEy := Lib.hid hEy
            clear htr ho
            generalize lpt l ls (prv ls.length k) = pa at *
            generalize lpt l ls k = pb at *
            generalize lpt l ls (nxn ls.length k) = pc at *
            have d1 := ((Blk.new w1 42 #[(Value.int .i64 (pa.1)), (Value.int .i64 (pa.2))]).alloc (.cells #[(Value.int .i64 (pb.1)), (Value.int .i64 (pb.2))] 42)).alloc (.cells #[(Value.int .i64 (pc.1)), (Value.int .i64 (pc.2))] 42)
            have d2 := (Blk.new (w1.alloc (.cells #[(Value.int .i64 (pa.1)), (Value.int .i64 (pa.2))] 42)) 42 #[(Value.int .i64 (pb.1)), (Value.int .i64 (pb.2))]).alloc (.cells #[(Value.int .i64 (pc.1)), (Value.int .i64 (pc.2))] 42)
            have d3 := Blk.new ((w1.alloc (.cells #[(Value.int .i64 (pa.1)), (Value.int .i64 (pa.2))] 42)).alloc (.cells #[(Value.int .i64 (pb.1)), (Value.int .i64 (pb.2))] 42)) 42 #[(Value.int .i64 (pc.1)), (Value.int .i64 (pc.2))]
            have hbV : Below wr.heap.size wr (((w1.alloc (.cells #[(Value.int .i64 (pa.1)), (Value.int .i64 (pa.2))] 42)).alloc (.cells #[(Value.int .i64 (pb.1)), (Value.int .i64 (pb.2))] 42)).alloc (.cells #[(Value.int .i64 (pc.1)), (Value.int .i64 (pc.2))] 42)) := by (repeat (first | with_reducible exact Below.refl _ _ | with_reducible apply bl_alloc | with_reducible apply bl_drew | with_reducible apply bl_after | (with_reducible refine bl_call ?_ (by assumption))))
            simp only [World.size_alloc] at d2 d3
            replace e1 := e1.below hbV
            replace e2 := e2.below hbV
            replace e3 := e3.below hbV
            replace hbw := bl_call hbw hbV
            clear hk hc hf hzc hzf hb1 hbV
            generalize ((w1.alloc (.cells #[(Value.int .i64 (pa.1)), (Value.int .i64 (pa.2))] 42)).alloc (.cells #[(Value.int .i64 (pb.1)), (Value.int .i64 (pb.2))] 42)).alloc (.cells #[(Value.int .i64 (pc.1)), (Value.int .i64 (pc.2))] 42) = W3 at *
            generalize w1.heap.size = g14 at *
            have v1 := d1.cell 0
            have v2 := d1.cell 1
            have v3 := d2.cell 0
            have v4 := d2.cell 1
            have v5 := d3.cell 0
            have v6 := d3.cell 1
            have f1 := d1.lt
            have f2 := d2.lt
            have f3 := d3.lt
            have y2 := e2.cell 0
            have l2 := e2.lt
            simp only [List.getElem?_toArray, List.getElem?_cons_zero, List.getElem?_cons_succ] at v1 v2 v3 v4 v5 v6 y2
            go_wp2_with (go_at_call 108; with_reducible refine Calls.mono (turn_any _ _ _ t1 t2 t3 _) ?_; rintro e w1 ⟨rfl, hb1⟩; first | ((with_reducible apply kp_in_step (hb := hb1)); (with_reducible assumption); rintro ⟨hk, hc, hf, hzc, hzf⟩) | ((with_reducible refine kp_in_first hb1 ?_); rintro ⟨hk, hc, hf, hzc, hzf⟩))
            have hbV : Below W3.heap.size W3 w1 := by (repeat (first | with_reducible exact Below.refl _ _ | with_reducible apply bl_alloc | with_reducible apply bl_drew | with_reducible apply bl_after | (with_reducible refine bl_call ?_ (by assumption))))
            replace e1 := e1.below hbV
            replace e2 := e2.below hbV
            replace e3 := e3.below hbV
            replace d1 := d1.below hbV
            replace d2 := d2.below hbV
            replace d3 := d3.below hbV
            replace hbw := bl_call hbw hbV
            clear hk hc hf hzc hzf hb1 hbV v1 v2 v3 v4 v5 v6 f1 f2 f3 y2 l2 m1
            go_loopg [63] ls.length (fun g x wr => ∃ m : Nat, m ≤ ls.length ∧ g = ls.length - m ∧ x = (Value.int .i64 ((m : Int))) ∧ (∀ j, j < m → ¬ inT3 s pa pb pc (lpt l ls j)) ∧ Blk wr w.heap.size 27 #[.slice (some ⟨b, o, none⟩) l.length ca] ∧ Blk wr (w.heap.size + 1) 55 #[.slice (some ⟨b2, o2, none⟩) ls.length ca2] ∧ Blk wr (w.heap.size + 1 + 1) 3 #[(Value.int .i64 ((ls.length : Int)))] ∧ Blk wr g14 42 #[(Value.int .i64 (pa.1)), (Value.int .i64 (pa.2))] ∧ Blk wr (g14 + 1) 42 #[(Value.int .i64 (pb.1)), (Value.int .i64 (pb.2))] ∧ Blk wr (g14 + 1 + 1) 42 #[(Value.int .i64 (pc.1)), (Value.int .i64 (pc.2))] ∧ Below w.heap.size w wr)
            case atStart => exact ⟨0, Nat.zero_le _, rfl, rfl, (fun j hj => by omega), e1, e2, e3, d1, d2, d3, hbw⟩
            case round =>
              obtain ⟨m, mn, rfl, rfl, hT, e1, e2, e3, d1, d2, d3, hbw⟩ := hrel
              replace hT := Lib.hid hT
              by_cases hltm : m < ls.length
              · obtain ⟨i1, i2⟩ := hinh.out m hltm
                have tq := hlp.out m hltm
                have x1 := (hl.below hbw).xi hltm
                obtain ⟨j, ej⟩ : ∃ j : Nat, iat ls m = j := ⟨(iat ls m).toNat, by omega⟩
                have eq1 : lpt l ls m = pat l j := by unfold lpt; rw [ej]; rfl
                have hTm : inT3 s pa pb pc (pat l j) → ¬ EarI l ls s k := fun h => hEk.out ⟨m, hltm, by rw [eq1]; exact h⟩
                have hTn : ¬ inT3 s pa pb pc (pat l j) → ∀ i, i < m + 1 → ¬ inT3 s pa pb pc (lpt l ls i) := fun h i hi => by
                  rcases Nat.lt_succ_iff_lt_or_eq.1 hi with q | q
                  · exact hT.out i q
                  · subst q; rw [eq1]; exact h
                replace hTm := Lib.hid hTm
                replace hTn := Lib.hid hTn
                rw [ej] at x1 i1 i2
                rw [eq1] at tq
                clear ej eq1
                have j1 : j < l.length := by omega
                have x2 := (hp.below hbw).xp j1
                have x3 := (hp.below hbw).yp j1
                have lb1 := (hl.below hbw).lt
                have lb2 := (hp.below hbw).lt
                have y1 := e1.cell 0
                have l1 := e1.lt
                have v1 := d1.cell 0
                have v2 := d1.cell 1
                have v3 := d2.cell 0
                have v4 := d2.cell 1
                have v5 := d3.cell 0
                have v6 := d3.cell 1
                have f1 := d1.lt
                have f2 := d2.lt
                have f3 := d3.lt
                simp only [List.getElem?_toArray, List.getElem?_cons_zero, List.getElem?_cons_succ] at y1 v1 v2 v3 v4 v5 v6
                generalize pat l j = q at *
                have m2 := turn_s t1 t2 tq hs
                have m3 := turn_s t2 t3 tq hs
                have m4 := turn_s t3 t1 tq hs
                by_cases c1 : q = pa
                · have bq1 : decide (q = pa) = true := by simpa using c1
                  replace c1 := Lib.hid c1
                  go_wp2_with (first | (go_at_call 108; with_reducible refine Calls.mono (turn_any _ _ _ t1 t2 tq _) ?_; rintro e w1 ⟨rfl, hb1⟩; first | ((with_reducible apply kp_in_step (hb := hb1)); (with_reducible assumption); rintro ⟨hk, hc, hf, hzc, hzf⟩) | ((with_reducible refine kp_in_first hb1 ?_); rintro ⟨hk, hc, hf, hzc, hzf⟩)) | (go_at_call 108; with_reducible refine Calls.mono (turn_any _ _ _ t2 t3 tq _) ?_; rintro e w1 ⟨rfl, hb1⟩; first | ((with_reducible apply kp_in_step (hb := hb1)); (with_reducible assumption); rintro ⟨hk, hc, hf, hzc, hzf⟩) | ((with_reducible refine kp_in_first hb1 ?_); rintro ⟨hk, hc, hf, hzc, hzf⟩)) | (go_at_call 108; with_reducible refine Calls.mono (turn_any _ _ _ t3 t1 tq _) ?_; rintro e w1 ⟨rfl, hb1⟩; first | ((with_reducible apply kp_in_step (hb := hb1)); (with_reducible assumption); rintro ⟨hk, hc, hf, hzc, hzf⟩) | ((with_reducible refine kp_in_first hb1 ?_); rintro ⟨hk, hc, hf, hzc, hzf⟩)))
                  all_goals (go_roundg (ls.length - (m + 1)); (case measure => omega); (case rel => exact ⟨m + 1, by omega, rfl, by go_num, hTn.out (fun h => h.1 c1.out), e1.below (by (repeat (first | with_reducible exact Below.refl _ _ | with_reducible apply bl_alloc | with_reducible apply bl_drew | with_reducible apply bl_after | (with_reducible refine bl_call ?_ (by assumption))))), e2.below (by (repeat (first | with_reducible exact Below.refl _ _ | with_reducible apply bl_alloc | with_reducible apply bl_drew | with_reducible apply bl_after | (with_reducible refine bl_call ?_ (by assumption))))), e3.below (by (repeat (first | with_reducible exact Below.refl _ _ | with_reducible apply bl_alloc | with_reducible apply bl_drew | with_reducible apply bl_after | (with_reducible refine bl_call ?_ (by assumption))))), d1.below (by (repeat (first | with_reducible exact Below.refl _ _ | with_reducible apply bl_alloc | with_reducible apply bl_drew | with_reducible apply bl_after | (with_reducible refine bl_call ?_ (by assumption))))), d2.below (by (repeat (first | with_reducible exact Below.refl _ _ | with_reducible apply bl_alloc | with_reducible apply bl_drew | with_reducible apply bl_after | (with_reducible refine bl_call ?_ (by assumption))))), d3.below (by (repeat (first | with_reducible exact Below.refl _ _ | with_reducible apply bl_alloc | with_reducible apply bl_drew | with_reducible apply bl_after | (with_reducible refine bl_call ?_ (by assumption))))), by (repeat (first | with_reducible exact Below.refl _ _ | with_reducible apply bl_alloc | with_reducible apply bl_drew | with_reducible apply bl_after | (with_reducible refine bl_call ?_ (by assumption))))⟩))
                · have bq1 : decide (q = pa) = false := by simpa using c1
                  replace c1 := Lib.hid c1
                  by_cases c2 : q = pb
                  · have bq2 : decide (q = pb) = true := by simpa using c2
                    replace c2 := Lib.hid c2
                    go_wp2_with (first | (go_at_call 108; with_reducible refine Calls.mono (turn_any _ _ _ t1 t2 tq _) ?_; rintro e w1 ⟨rfl, hb1⟩; first | ((with_reducible apply kp_in_step (hb := hb1)); (with_reducible assumption); rintro ⟨hk, hc, hf, hzc, hzf⟩) | ((with_reducible refine kp_in_first hb1 ?_); rintro ⟨hk, hc, hf, hzc, hzf⟩)) | (go_at_call 108; with_reducible refine Calls.mono (turn_any _ _ _ t2 t3 tq _) ?_; rintro e w1 ⟨rfl, hb1⟩; first | ((with_reducible apply kp_in_step (hb := hb1)); (with_reducible assumption); rintro ⟨hk, hc, hf, hzc, hzf⟩) | ((with_reducible refine kp_in_first hb1 ?_); rintro ⟨hk, hc, hf, hzc, hzf⟩)) | (go_at_call 108; with_reducible refine Calls.mono (turn_any _ _ _ t3 t1 tq _) ?_; rintro e w1 ⟨rfl, hb1⟩; first | ((with_reducible apply kp_in_step (hb := hb1)); (with_reducible assumption); rintro ⟨hk, hc, hf, hzc, hzf⟩) | ((with_reducible refine kp_in_first hb1 ?_); rintro ⟨hk, hc, hf, hzc, hzf⟩)))
                    all_goals (go_roundg (ls.length - (m + 1)); (case measure => omega); (case rel => exact ⟨m + 1, by omega, rfl, by go_num, hTn.out (fun h => h.2.1 c2.out), e1.below (by (repeat (first | with_reducible exact Below.refl _ _ | with_reducible apply bl_alloc | with_reducible apply bl_drew | with_reducible apply bl_after | (with_reducible refine bl_call ?_ (by assumption))))), e2.below (by (repeat (first | with_reducible exact Below.refl _ _ | with_reducible apply bl_alloc | with_reducible apply bl_drew | with_reducible apply bl_after | (with_reducible refine bl_call ?_ (by assumption))))), e3.below (by (repeat (first | with_reducible exact Below.refl _ _ | with_reducible apply bl_alloc | with_reducible apply bl_drew | with_reducible apply bl_after | (with_reducible refine bl_call ?_ (by assumption))))), d1.below (by (repeat (first | with_reducible exact Below.refl _ _ | with_reducible apply bl_alloc | with_reducible apply bl_drew | with_reducible apply bl_after | (with_reducible refine bl_call ?_ (by assumption))))), d2.below (by (repeat (first | with_reducible exact Below.refl _ _ | with_reducible apply bl_alloc | with_reducible apply bl_drew | with_reducible apply bl_after | (with_reducible refine bl_call ?_ (by assumption))))), d3.below (by (repeat (first | with_reducible exact Below.refl _ _ | with_reducible apply bl_alloc | with_reducible apply bl_drew | with_reducible apply bl_after | (with_reducible refine bl_call ?_ (by assumption))))), by (repeat (first | with_reducible exact Below.refl _ _ | with_reducible apply bl_alloc | with_reducible apply bl_drew | with_reducible apply bl_after | (with_reducible refine bl_call ?_ (by assumption))))⟩))
                  · have bq2 : decide (q = pb) = false := by simpa using c2
                    replace c2 := Lib.hid c2
                    by_cases c3 : q = pc
                    · have bq3 : decide (q = pc) = true := by simpa using c3
                      replace c3 := Lib.hid c3
                      go_wp2_with (first | (go_at_call 108; with_reducible refine Calls.mono (turn_any _ _ _ t1 t2 tq _) ?_; rintro e w1 ⟨rfl, hb1⟩; first | ((with_reducible apply kp_in_step (hb := hb1)); (with_reducible assumption); rintro ⟨hk, hc, hf, hzc, hzf⟩) | ((with_reducible refine kp_in_first hb1 ?_); rintro ⟨hk, hc, hf, hzc, hzf⟩)) | (go_at_call 108; with_reducible refine Calls.mono (turn_any _ _ _ t2 t3 tq _) ?_; rintro e w1 ⟨rfl, hb1⟩; first | ((with_reducible apply kp_in_step (hb := hb1)); (with_reducible assumption); rintro ⟨hk, hc, hf, hzc, hzf⟩) | ((with_reducible refine kp_in_first hb1 ?_); rintro ⟨hk, hc, hf, hzc, hzf⟩)) | (go_at_call 108; with_reducible refine Calls.mono (turn_any _ _ _ t3 t1 tq _) ?_; rintro e w1 ⟨rfl, hb1⟩; first | ((with_reducible apply kp_in_step (hb := hb1)); (with_reducible assumption); rintro ⟨hk, hc, hf, hzc, hzf⟩) | ((with_reducible refine kp_in_first hb1 ?_); rintro ⟨hk, hc, hf, hzc, hzf⟩)))
                      all_goals (go_roundg (ls.length - (m + 1)); (case measure => omega); (case rel => exact ⟨m + 1, by omega, rfl, by go_num, hTn.out (fun h => h.2.2.1 c3.out), e1.below (by (repeat (first | with_reducible exact Below.refl _ _ | with_reducible apply bl_alloc | with_reducible apply bl_drew | with_reducible apply bl_after | (with_reducible refine bl_call ?_ (by assumption))))), e2.below (by (repeat (first | with_reducible exact Below.refl _ _ | with_reducible apply bl_alloc | with_reducible apply bl_drew | with_reducible apply bl_after | (with_reducible refine bl_call ?_ (by assumption))))), e3.below (by (repeat (first | with_reducible exact Below.refl _ _ | with_reducible apply bl_alloc | with_reducible apply bl_drew | with_reducible apply bl_after | (with_reducible refine bl_call ?_ (by assumption))))), d1.below (by (repeat (first | with_reducible exact Below.refl _ _ | with_reducible apply bl_alloc | with_reducible apply bl_drew | with_reducible apply bl_after | (with_reducible refine bl_call ?_ (by assumption))))), d2.below (by (repeat (first | with_reducible exact Below.refl _ _ | with_reducible apply bl_alloc | with_reducible apply bl_drew | with_reducible apply bl_after | (with_reducible refine bl_call ?_ (by assumption))))), d3.below (by (repeat (first | with_reducible exact Below.refl _ _ | with_reducible apply bl_alloc | with_reducible apply bl_drew | with_reducible apply bl_after | (with_reducible refine bl_call ?_ (by assumption))))), by (repeat (first | with_reducible exact Below.refl _ _ | with_reducible apply bl_alloc | with_reducible apply bl_drew | with_reducible apply bl_after | (with_reducible refine bl_call ?_ (by assumption))))⟩))
                    · have bq3 : decide (q = pc) = false := by simpa using c3
                      replace c3 := Lib.hid c3
                      by_cases c4 : turn pa pb q * s < 0
                      · have bq4 : decide (0 ≤ turn pa pb q * s) = false := by simpa using c4
                        replace c4 := Lib.hid c4
                        go_wp2_with (first | (go_at_call 108; with_reducible refine Calls.mono (turn_any _ _ _ t1 t2 tq _) ?_; rintro e w1 ⟨rfl, hb1⟩; first | ((with_reducible apply kp_in_step (hb := hb1)); (with_reducible assumption); rintro ⟨hk, hc, hf, hzc, hzf⟩) | ((with_reducible refine kp_in_first hb1 ?_); rintro ⟨hk, hc, hf, hzc, hzf⟩)) | (go_at_call 108; with_reducible refine Calls.mono (turn_any _ _ _ t2 t3 tq _) ?_; rintro e w1 ⟨rfl, hb1⟩; first | ((with_reducible apply kp_in_step (hb := hb1)); (with_reducible assumption); rintro ⟨hk, hc, hf, hzc, hzf⟩) | ((with_reducible refine kp_in_first hb1 ?_); rintro ⟨hk, hc, hf, hzc, hzf⟩)) | (go_at_call 108; with_reducible refine Calls.mono (turn_any _ _ _ t3 t1 tq _) ?_; rintro e w1 ⟨rfl, hb1⟩; first | ((with_reducible apply kp_in_step (hb := hb1)); (with_reducible assumption); rintro ⟨hk, hc, hf, hzc, hzf⟩) | ((with_reducible refine kp_in_first hb1 ?_); rintro ⟨hk, hc, hf, hzc, hzf⟩)))
                        all_goals (go_roundg (ls.length - (m + 1)); (case measure => omega); (case rel => exact ⟨m + 1, by omega, rfl, by go_num, hTn.out (fun h => by have := h.2.2.2.1; have := c4.out; omega), e1.below (by (repeat (first | with_reducible exact Below.refl _ _ | with_reducible apply bl_alloc | with_reducible apply bl_drew | with_reducible apply bl_after | (with_reducible refine bl_call ?_ (by assumption))))), e2.below (by (repeat (first | with_reducible exact Below.refl _ _ | with_reducible apply bl_alloc | with_reducible apply bl_drew | with_reducible apply bl_after | (with_reducible refine bl_call ?_ (by assumption))))), e3.below (by (repeat (first | with_reducible exact Below.refl _ _ | with_reducible apply bl_alloc | with_reducible apply bl_drew | with_reducible apply bl_after | (with_reducible refine bl_call ?_ (by assumption))))), d1.below (by (repeat (first | with_reducible exact Below.refl _ _ | with_reducible apply bl_alloc | with_reducible apply bl_drew | with_reducible apply bl_after | (with_reducible refine bl_call ?_ (by assumption))))), d2.below (by (repeat (first | with_reducible exact Below.refl _ _ | with_reducible apply bl_alloc | with_reducible apply bl_drew | with_reducible apply bl_after | (with_reducible refine bl_call ?_ (by assumption))))), d3.below (by (repeat (first | with_reducible exact Below.refl _ _ | with_reducible apply bl_alloc | with_reducible apply bl_drew | with_reducible apply bl_after | (with_reducible refine bl_call ?_ (by assumption))))), by (repeat (first | with_reducible exact Below.refl _ _ | with_reducible apply bl_alloc | with_reducible apply bl_drew | with_reducible apply bl_after | (with_reducible refine bl_call ?_ (by assumption))))⟩))
                      · have bq4 : decide (0 ≤ turn pa pb q * s) = true := by simpa using c4
                        replace c4 := Lib.hid c4
                        by_cases c5 : turn pb pc q * s < 0
                        · have bq5 : decide (0 ≤ turn pb pc q * s) = false := by simpa using c5
                          replace c5 := Lib.hid c5
                          go_wp2_with (first | (go_at_call 108; with_reducible refine Calls.mono (turn_any _ _ _ t1 t2 tq _) ?_; rintro e w1 ⟨rfl, hb1⟩; first | ((with_reducible apply kp_in_step (hb := hb1)); (with_reducible assumption); rintro ⟨hk, hc, hf, hzc, hzf⟩) | ((with_reducible refine kp_in_first hb1 ?_); rintro ⟨hk, hc, hf, hzc, hzf⟩)) | (go_at_call 108; with_reducible refine Calls.mono (turn_any _ _ _ t2 t3 tq _) ?_; rintro e w1 ⟨rfl, hb1⟩; first | ((with_reducible apply kp_in_step (hb := hb1)); (with_reducible assumption); rintro ⟨hk, hc, hf, hzc, hzf⟩) | ((with_reducible refine kp_in_first hb1 ?_); rintro ⟨hk, hc, hf, hzc, hzf⟩)) | (go_at_call 108; with_reducible refine Calls.mono (turn_any _ _ _ t3 t1 tq _) ?_; rintro e w1 ⟨rfl, hb1⟩; first | ((with_reducible apply kp_in_step (hb := hb1)); (with_reducible assumption); rintro ⟨hk, hc, hf, hzc, hzf⟩) | ((with_reducible refine kp_in_first hb1 ?_); rintro ⟨hk, hc, hf, hzc, hzf⟩)))
                          all_goals (go_roundg (ls.length - (m + 1)); (case measure => omega); (case rel => exact ⟨m + 1, by omega, rfl, by go_num, hTn.out (fun h => by have := h.2.2.2.2.1; have := c5.out; omega), e1.below (by (repeat (first | with_reducible exact Below.refl _ _ | with_reducible apply bl_alloc | with_reducible apply bl_drew | with_reducible apply bl_after | (with_reducible refine bl_call ?_ (by assumption))))), e2.below (by (repeat (first | with_reducible exact Below.refl _ _ | with_reducible apply bl_alloc | with_reducible apply bl_drew | with_reducible apply bl_after | (with_reducible refine bl_call ?_ (by assumption))))), e3.below (by (repeat (first | with_reducible exact Below.refl _ _ | with_reducible apply bl_alloc | with_reducible apply bl_drew | with_reducible apply bl_after | (with_reducible refine bl_call ?_ (by assumption))))), d1.below (by (repeat (first | with_reducible exact Below.refl _ _ | with_reducible apply bl_alloc | with_reducible apply bl_drew | with_reducible apply bl_after | (with_reducible refine bl_call ?_ (by assumption))))), d2.below (by (repeat (first | with_reducible exact Below.refl _ _ | with_reducible apply bl_alloc | with_reducible apply bl_drew | with_reducible apply bl_after | (with_reducible refine bl_call ?_ (by assumption))))), d3.below (by (repeat (first | with_reducible exact Below.refl _ _ | with_reducible apply bl_alloc | with_reducible apply bl_drew | with_reducible apply bl_after | (with_reducible refine bl_call ?_ (by assumption))))), by (repeat (first | with_reducible exact Below.refl _ _ | with_reducible apply bl_alloc | with_reducible apply bl_drew | with_reducible apply bl_after | (with_reducible refine bl_call ?_ (by assumption))))⟩))
                        · have bq5 : decide (0 ≤ turn pb pc q * s) = true := by simpa using c5
                          replace c5 := Lib.hid c5
                          by_cases c6 : turn pc pa q * s < 0
                          · have bq6 : decide (0 ≤ turn pc pa q * s) = false := by simpa using c6
                            replace c6 := Lib.hid c6
                            go_wp2_with (first | (go_at_call 108; with_reducible refine Calls.mono (turn_any _ _ _ t1 t2 tq _) ?_; rintro e w1 ⟨rfl, hb1⟩; first | ((with_reducible apply kp_in_step (hb := hb1)); (with_reducible assumption); rintro ⟨hk, hc, hf, hzc, hzf⟩) | ((with_reducible refine kp_in_first hb1 ?_); rintro ⟨hk, hc, hf, hzc, hzf⟩)) | (go_at_call 108; with_reducible refine Calls.mono (turn_any _ _ _ t2 t3 tq _) ?_; rintro e w1 ⟨rfl, hb1⟩; first | ((with_reducible apply kp_in_step (hb := hb1)); (with_reducible assumption); rintro ⟨hk, hc, hf, hzc, hzf⟩) | ((with_reducible refine kp_in_first hb1 ?_); rintro ⟨hk, hc, hf, hzc, hzf⟩)) | (go_at_call 108; with_reducible refine Calls.mono (turn_any _ _ _ t3 t1 tq _) ?_; rintro e w1 ⟨rfl, hb1⟩; first | ((with_reducible apply kp_in_step (hb := hb1)); (with_reducible assumption); rintro ⟨hk, hc, hf, hzc, hzf⟩) | ((with_reducible refine kp_in_first hb1 ?_); rintro ⟨hk, hc, hf, hzc, hzf⟩)))
                            all_goals (go_roundg (ls.length - (m + 1)); (case measure => omega); (case rel => exact ⟨m + 1, by omega, rfl, by go_num, hTn.out (fun h => by have := h.2.2.2.2.2; have := c6.out; omega), e1.below (by (repeat (first | with_reducible exact Below.refl _ _ | with_reducible apply bl_alloc | with_reducible apply bl_drew | with_reducible apply bl_after | (with_reducible refine bl_call ?_ (by assumption))))), e2.below (by (repeat (first | with_reducible exact Below.refl _ _ | with_reducible apply bl_alloc | with_reducible apply bl_drew | with_reducible apply bl_after | (with_reducible refine bl_call ?_ (by assumption))))), e3.below (by (repeat (first | with_reducible exact Below.refl _ _ | with_reducible apply bl_alloc | with_reducible apply bl_drew | with_reducible apply bl_after | (with_reducible refine bl_call ?_ (by assumption))))), d1.below (by (repeat (first | with_reducible exact Below.refl _ _ | with_reducible apply bl_alloc | with_reducible apply bl_drew | with_reducible apply bl_after | (with_reducible refine bl_call ?_ (by assumption))))), d2.below (by (repeat (first | with_reducible exact Below.refl _ _ | with_reducible apply bl_alloc | with_reducible apply bl_drew | with_reducible apply bl_after | (with_reducible refine bl_call ?_ (by assumption))))), d3.below (by (repeat (first | with_reducible exact Below.refl _ _ | with_reducible apply bl_alloc | with_reducible apply bl_drew | with_reducible apply bl_after | (with_reducible refine bl_call ?_ (by assumption))))), by (repeat (first | with_reducible exact Below.refl _ _ | with_reducible apply bl_alloc | with_reducible apply bl_drew | with_reducible apply bl_after | (with_reducible refine bl_call ?_ (by assumption))))⟩))
                          · have bq6 : decide (0 ≤ turn pc pa q * s) = true := by simpa using c6
                            replace c6 := Lib.hid c6
                            go_wp2_with (first | (go_at_call 108; with_reducible refine Calls.mono (turn_any _ _ _ t1 t2 tq _) ?_; rintro e w1 ⟨rfl, hb1⟩; first | ((with_reducible apply kp_in_step (hb := hb1)); (with_reducible assumption); rintro ⟨hk, hc, hf, hzc, hzf⟩) | ((with_reducible refine kp_in_first hb1 ?_); rintro ⟨hk, hc, hf, hzc, hzf⟩)) | (go_at_call 108; with_reducible refine Calls.mono (turn_any _ _ _ t2 t3 tq _) ?_; rintro e w1 ⟨rfl, hb1⟩; first | ((with_reducible apply kp_in_step (hb := hb1)); (with_reducible assumption); rintro ⟨hk, hc, hf, hzc, hzf⟩) | ((with_reducible refine kp_in_first hb1 ?_); rintro ⟨hk, hc, hf, hzc, hzf⟩)) | (go_at_call 108; with_reducible refine Calls.mono (turn_any _ _ _ t3 t1 tq _) ?_; rintro e w1 ⟨rfl, hb1⟩; first | ((with_reducible apply kp_in_step (hb := hb1)); (with_reducible assumption); rintro ⟨hk, hc, hf, hzc, hzf⟩) | ((with_reducible refine kp_in_first hb1 ?_); rintro ⟨hk, hc, hf, hzc, hzf⟩)))
                            all_goals (go_roundg (ls.length - (k + 1)); (case measure => omega); (case rel => exact ⟨k + 1, by omega, rfl, by go_num, (fun j hj => by rcases Nat.lt_succ_iff_lt_or_eq.1 hj with h | h; exact hE.out j h; subst h; exact hTm.out ⟨c1.out, c2.out, c3.out, by have := c4.out; omega, by have := c5.out; omega, by have := c6.out; omega⟩), e1.below (by (repeat (first | with_reducible exact Below.refl _ _ | with_reducible apply bl_alloc | with_reducible apply bl_drew | with_reducible apply bl_after | (with_reducible refine bl_call ?_ (by assumption))))), e2.below (by (repeat (first | with_reducible exact Below.refl _ _ | with_reducible apply bl_alloc | with_reducible apply bl_drew | with_reducible apply bl_after | (with_reducible refine bl_call ?_ (by assumption))))), e3.below (by (repeat (first | with_reducible exact Below.refl _ _ | with_reducible apply bl_alloc | with_reducible apply bl_drew | with_reducible apply bl_after | (with_reducible refine bl_call ?_ (by assumption))))), by (repeat (first | with_reducible exact Below.refl _ _ | with_reducible apply bl_alloc | with_reducible apply bl_drew | with_reducible apply bl_after | (with_reducible refine bl_call ?_ (by assumption))))⟩))
              · obtain rfl : m = ls.length := by omega
                go_wp2
                (try rw [Exit.noGoto_ret])
                go_ret
                exact ⟨⟨k, rfl, hlt, .inr ⟨hS.out, hEy.out hT.out⟩⟩, by (repeat (first | with_reducible exact Below.refl _ _ | with_reducible apply bl_alloc | with_reducible apply bl_drew | with_reducible apply bl_after | (with_reducible refine bl_call ?_ (by assumption))))⟩
        · obtain rfl : k = ls.length := by omega
          obtain ⟨i, hi, h⟩ := hex2.out
          exact absurd h (hE.out i hi)
end Go.Proofs.Ytegdnbceiopklaa
