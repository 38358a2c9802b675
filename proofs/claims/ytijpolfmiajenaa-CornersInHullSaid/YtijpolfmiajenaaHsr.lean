/- slices.SortFunc at points, laid at this program; the order of corners.Hull. -/
import Derived.Shelf.SlSortCmp.NoneTotal
import Derived.Test.YtijpolfmiajenaaPv
import Derived.Test.YtijpolfmiajenaaQc
import Derived.Test.YtijpolfmiajenaaLeaf
import Derived.BigRegion
import Derived.Deep.RegionHeld3
import Derived.RegionTactic
import Derived.Deep.LoopGhost
import Derived.Deep.DeepCutAuto
namespace Go.Proofs.Ytijpolfmiajenaa
open Go.RowKit Go.Sort Go.Shelf
attribute [local go_sem] After.cell After.frozen

def hsA_ren : Go.Shelf.Ren := ⟨fun | 6 => 78 | 14 => 91 | 15 => 92 | 20 => 96 | 21 => 97 | 22 => 98 | 23 => 99 | 24 => 100 | 25 => 101 | 26 => 102 | 27 => 103 | 28 => 104 | 29 => 105 | 46 => 115 | 47 => 116 | 48 => 117 | 49 => 118 | 50 => 119 | 57 => 123 | n => n, fun | 0 => 0 | 3 => 3 | 4 => 4 | 5 => 5 | 9 => 9 | 22 => 22 | 24 => 33 | 25 => 79 | 39 => 98 | 45 => 103 | 46 => 104 | 50 => 108 | 53 => 111 | 55 => 113 | 66 => 120 | 70 => 124 | 76 => 128 | 77 => 129 | n => n, fun n => n⟩
theorem hsA : SlLaysF0.n6 Try.prog hsA_ren := {
  mixed := by kernel_rfl,
  f6 := ⟨Try.f78.name, by decide, Try.func78.trans (congrArg some (by kernel_rfl))⟩,
  f14 := ⟨Try.f91.name, by decide, Try.func91.trans (congrArg some (by kernel_rfl))⟩,
  f15 := Try.func92.trans (congrArg some (by kernel_rfl)),
  f20 := ⟨Try.f96.name, by decide, Try.func96.trans (congrArg some (by kernel_rfl))⟩,
  f21 := ⟨Try.f97.name, by decide, Try.func97.trans (congrArg some (by kernel_rfl))⟩,
  f22 := ⟨Try.f98.name, by decide, Try.func98.trans (congrArg some (by kernel_rfl))⟩,
  f23 := ⟨Try.f99.name, by decide, Try.func99.trans (congrArg some (by kernel_rfl))⟩,
  f24 := ⟨Try.f100.name, by decide, Try.func100.trans (congrArg some (by kernel_rfl))⟩,
  f25 := ⟨Try.f101.name, by decide, Try.func101.trans (congrArg some (by kernel_rfl))⟩,
  f26 := ⟨Try.f102.name, by decide, Try.func102.trans (congrArg some (by kernel_rfl))⟩,
  f27 := ⟨Try.f103.name, by decide, Try.func103.trans (congrArg some (by kernel_rfl))⟩,
  f28 := Try.func104.trans (congrArg some (by kernel_rfl)),
  f29 := Try.func105.trans (congrArg some (by kernel_rfl)),
  f46 := ⟨Try.f115.name, by decide, Try.func115.trans (congrArg some (by kernel_rfl))⟩,
  f47 := Try.func116.trans (congrArg some (by kernel_rfl)),
  f48 := Try.func117.trans (congrArg some (by kernel_rfl)),
  f49 := ⟨Try.f118.name, by decide, Try.func118.trans (congrArg some (by kernel_rfl))⟩,
  f50 := ⟨Try.f119.name, by decide, Try.func119.trans (congrArg some (by kernel_rfl))⟩,
  f57 := ⟨Try.f123.name, by decide, Try.func123.trans (congrArg some (by kernel_rfl))⟩,
  t0 := Try.underlying0,
  a0 := Try.isAgg0,
  z0 := Try.sizeOf0,
  v0 := Try.zeroValue0,
  t3 := Try.underlying3,
  a3 := Try.isAgg3,
  z3 := Try.sizeOf3,
  v3 := Try.zeroValue3,
  t4 := Try.underlying4,
  a4 := Try.isAgg4,
  z4 := Try.sizeOf4,
  v4 := Try.zeroValue4,
  t5 := Try.underlying5,
  a5 := Try.isAgg5,
  z5 := Try.sizeOf5,
  v5 := Try.zeroValue5,
  t9 := Try.underlying9,
  a9 := Try.isAgg9,
  z9 := Try.sizeOf9,
  v9 := Try.zeroValue9,
  t22 := Try.underlying22,
  a22 := Try.isAgg22,
  z22 := Try.sizeOf22,
  v22 := Try.zeroValue22,
  t25 := Try.underlying79,
  a25 := Try.isAgg79,
  z25 := Try.sizeOf79,
  v25 := Try.zeroValue79,
  t39 := Try.underlying98,
  a39 := Try.isAgg98,
  z39 := Try.sizeOf98,
  v39 := Try.zeroValue98,
  t45 := Try.underlying103,
  a45 := Try.isAgg103,
  z45 := Try.sizeOf103,
  v45 := Try.zeroValue103,
  t46 := Try.underlying104,
  a46 := Try.isAgg104,
  z46 := Try.sizeOf104,
  v46 := Try.zeroValue104,
  t50 := Try.underlying108,
  a50 := Try.isAgg108,
  z50 := Try.sizeOf108,
  v50 := Try.zeroValue108,
  t53 := Try.underlying111,
  a53 := Try.isAgg111,
  z53 := Try.sizeOf111,
  v53 := Try.zeroValue111,
  t55 := Try.underlying113,
  a55 := Try.isAgg113,
  z55 := Try.sizeOf113,
  v55 := Try.zeroValue113,
  t66 := Try.underlying120,
  a66 := Try.isAgg120,
  z66 := Try.sizeOf120,
  v66 := Try.zeroValue120,
  t70 := Try.underlying124,
  a70 := Try.isAgg124,
  z70 := Try.sizeOf124,
  v70 := Try.zeroValue124,
  t76 := Try.underlying128,
  a76 := Try.isAgg128,
  z76 := Try.sizeOf128,
  v76 := Try.zeroValue128,
  t77 := Try.underlying129,
  a77 := Try.isAgg129,
  z77 := Try.sizeOf129,
  v77 := Try.zeroValue129 }
def cmpN (x y : Int) : Int := if x < y then -1 else if y < x then 1 else 0
theorem nanN_any (x : Int) (w : World) : Calls Try.prog 90 #[(Value.int .i64 (x))] w fun e w' => e = .returned (.bool false) ∧ w' = w := by
  go_enter Try.func90, Try.ntmps90
  go_wp2
  go_ret
  exact ⟨rfl, rfl⟩
theorem cmpN_any (x y : Int) (w : World) : Calls Try.prog 76 #[(Value.int .i64 (x)), (Value.int .i64 (y))] w fun e w' => e = .returned (Value.int .i64 (cmpN x y)) ∧ w' = w := by
  unfold cmpN
  rcases Int.lt_trichotomy x y with h | h | h
  · rw [if_pos h]
    go_enter Try.func76, Try.ntmps76
    go_wp2_with (go_at_call 90; with_reducible refine Calls.mono (nanN_any _ _) ?_; rintro e w' ⟨rfl, rfl⟩)
    go_ret
    exact ⟨rfl, rfl⟩
  · subst h
    rw [if_neg (by omega), if_neg (by omega)]
    go_enter Try.func76, Try.ntmps76
    go_wp2_with (go_at_call 90; with_reducible refine Calls.mono (nanN_any _ _) ?_; rintro e w' ⟨rfl, rfl⟩)
    go_ret
    exact ⟨rfl, rfl⟩
  · rw [if_neg (by omega), if_pos h]
    have h' : ¬ x < y := by omega
    go_enter Try.func76, Try.ntmps76
    go_wp2_with (go_at_call 90; with_reducible refine Calls.mono (nanN_any _ _) ?_; rintro e w' ⟨rfl, rfl⟩)
    go_ret
    exact ⟨rfl, rfl⟩
/-- The first of two numbers that is not 0. -/
def orN (x y : Int) : Int := if x = 0 then y else x
theorem orN_any (g : Nat) (x y : Int) (w : World) (h : Blk w g 3 #[(Value.int .i64 (x)), (Value.int .i64 (y))]) : Calls Try.prog 75 #[.slice (some ⟨g, 0, none⟩) 2 2] w fun e w' => e = .returned (Value.int .i64 (orN x y)) ∧ w' = w := by
  have y0 := h.cell 0
  have y1 := h.cell 1
  simp only [List.getElem?_toArray, List.getElem?_cons_zero, List.getElem?_cons_succ] at y0 y1
  have hlt := h.lt
  clear h
  have l0 : g < w.heap.size := hlt
  go_enter Try.func75, Try.ntmps75
  go_wp2
  go_loopg [8] 2 (fun gh i wr => ∃ k : Nat, k ≤ 2 ∧ gh = 2 - k ∧ i = (Value.int .i64 ((k : Int))) ∧ (0 < k → x = 0) ∧ (1 < k → y = 0) ∧ wr = w)
  case atStart => exact ⟨0, by omega, rfl, rfl, fun h => by omega, fun h => by omega, rfl⟩
  case round =>
    obtain ⟨k, kn, rfl, rfl, hx, hy, rfl⟩ := hrel
    have hk : k = 0 ∨ k = 1 ∨ k = 2 := by omega
    rcases hk with rfl | rfl | rfl
    · by_cases h0 : x = 0
      · have b0 : (x == 0) = true := by simpa using h0
        have b1 : (x != 0) = false := by simpa using h0
        replace h0 := Lib.hid h0
        clear hx hy
        go_wp2
        go_roundg 1
        case measure => omega
        case rel => exact ⟨1, by omega, rfl, rfl, fun _ => h0.out, fun h => by omega, rfl⟩
      · have b1 : (x != 0) = true := by simpa using h0
        have e : orN x y = x := if_neg h0
        replace h0 := Lib.hid h0
        clear hx hy
        go_wp2
        go_ret
        exact ⟨ret_int e.symm, rfl⟩
    · have h0 := hx (by omega)
      by_cases h1 : y = 0
      · have b1 : (y != 0) = false := by simpa using h1
        replace h0 := Lib.hid h0
        replace h1 := Lib.hid h1
        clear hx hy
        go_wp2
        go_roundg 0
        case measure => omega
        case rel => exact ⟨2, by omega, rfl, rfl, fun _ => h0.out, fun _ => h1.out, rfl⟩
      · have b1 : (y != 0) = true := by simpa using h1
        have e : orN x y = y := if_pos h0
        replace h0 := Lib.hid h0
        replace h1 := Lib.hid h1
        clear hx hy
        go_wp2
        go_ret
        exact ⟨ret_int e.symm, rfl⟩
    · have h0 := hx (by omega)
      have h1 := hy (by omega)
      have e : orN x y = 0 := (if_pos h0).trans h1
      replace h0 := Lib.hid h0
      replace h1 := Lib.hid h1
      clear hx hy
      go_wp2
      go_ret
      exact ⟨ret_int e.symm, rfl⟩
/-- The order of points: by Y, then by X. -/
def lowN (a b : Pt) : Int := orN (cmpN a.2 b.2) (cmpN a.1 b.1)
set_option maxRecDepth 100000 in
set_option maxHeartbeats 2000000 in
theorem lower_any (a b : Pt) (w : World) : Calls Try.prog 74 #[(Value.agg #[.int .i64 a.1, .int .i64 a.2]), (Value.agg #[.int .i64 b.1, .int .i64 b.2])] w fun e w' => e = .returned (Value.int .i64 (lowN a b)) ∧ ∃ q os', w' = grow (w.drewN q) os' := by
  have h1 := Lib.hid fun (V : World) => cmpN_any a.2 b.2 V
  have h2 := Lib.hid fun (V : World) => cmpN_any a.1 b.1 V
  go_enter Try.func74, Try.ntmps74
  go_upto_region 1 with fail
  have c1 := (Blk.new w 33 #[(Value.int .i64 (a.1)), (Value.int .i64 (a.2))]).alloc (.cells #[(Value.int .i64 (b.1)), (Value.int .i64 (b.2))] 33)
  have c2 := Blk.new (w.alloc (.cells #[(Value.int .i64 (a.1)), (Value.int .i64 (a.2))] 33)) 33 #[(Value.int .i64 (b.1)), (Value.int .i64 (b.2))]
  simp only [World.size_alloc] at c2
  have hG : ∃ os, (w.alloc (.cells #[(Value.int .i64 (a.1)), (Value.int .i64 (a.2))] 33)).alloc (.cells #[(Value.int .i64 (b.1)), (Value.int .i64 (b.2))] 33) = grow w os := ⟨_, by rw [alloc_eq_grow, alloc_eq_grow, grow_grow]⟩
  generalize (w.alloc (.cells #[(Value.int .i64 (a.1)), (Value.int .i64 (a.2))] 33)).alloc (.cells #[(Value.int .i64 (b.1)), (Value.int .i64 (b.2))] 33) = W1 at *
  obtain ⟨os, hG⟩ := hG
  have y1 := c1.cell 0
  have y2 := c1.cell 1
  have y3 := c2.cell 0
  have y4 := c2.cell 1
  have l1 := c1.lt
  have l2 := c2.lt
  simp only [List.getElem?_toArray, List.getElem?_cons_zero, List.getElem?_cons_succ] at y1 y2 y3 y4
  replace hG := Lib.hid hG
  refine wp_region_C (fun w' => ∃ z : After W1, w' = z.val) (by kernel_rfl) ?_
  change wpAnyC _ _ _ _ _ _ _ (World.drew W1)
  have hd0 : Below W1.heap.size W1 W1.drew := bl_drew (Below.refl _ _)
  refine wpAnyC_take (i := 0) (v := ?v0u) rfl (by kernel_rfl) (by kernel_rfl) (by kernel_rfl) ?q0u rfl ?y0u ?r0u; (case q0u => exact fun _ _ _ h => h); (case y0u => ((rintro _ ⟨z, rfl⟩); (go_simp); (try with_reducible rfl))); simp only [Act.put, List.getElem_toArray, List.getElem_cons_succ, List.getElem_cons_zero, List.setIfInBounds_toArray, List.set_cons_succ, List.set_cons_zero]
  refine wpAnyC_take (i := 1) (v := ?v1u) rfl (by kernel_rfl) (by kernel_rfl) (by kernel_rfl) ?q1u rfl ?y1u ?r1u; (case q1u => exact fun _ _ _ h => h); (case y1u => ((rintro _ ⟨z, rfl⟩); (go_simp); (try with_reducible rfl))); simp only [Act.put, List.getElem_toArray, List.getElem_cons_succ, List.getElem_cons_zero, List.setIfInBounds_toArray, List.set_cons_succ, List.set_cons_zero]
  refine wpAnyC_take (i := 2) (v := ?v2u) rfl (by kernel_rfl) (by kernel_rfl) (by kernel_rfl) ?q2u rfl ?y2u ?r2u; (case q2u => exact fun _ _ _ h => h); (case y2u => ((rintro _ ⟨z, rfl⟩); (go_simp); (try with_reducible rfl))); simp only [Act.put, List.getElem_toArray, List.getElem_cons_succ, List.getElem_cons_zero, List.setIfInBounds_toArray, List.set_cons_succ, List.set_cons_zero]
  refine wpAnyC_take (i := 3) (v := ?v3u) rfl (by kernel_rfl) (by kernel_rfl) (by kernel_rfl) ?q3u rfl ?y3u ?r3u; (case q3u => exact fun _ _ _ h => h); (case y3u => ((rintro _ ⟨z, rfl⟩); (go_simp); (try with_reducible rfl))); simp only [Act.put, List.getElem_toArray, List.getElem_cons_succ, List.getElem_cons_zero, List.setIfInBounds_toArray, List.set_cons_succ, List.set_cons_zero]
  refine wpAnyC_take (i := 5) (v := ?v5u) rfl (by kernel_rfl) (by kernel_rfl) (by kernel_rfl) ?q5u rfl ?y5u ?r5u; (case q5u => exact fun _ _ _ h => h); (case y5u => ((rintro _ ⟨z, rfl⟩); (go_simp); (try with_reducible rfl))); simp only [Act.put, List.getElem_toArray, List.getElem_cons_succ, List.getElem_cons_zero, List.setIfInBounds_toArray, List.set_cons_succ, List.set_cons_zero]
  refine wpAnyC_take (i := 6) (v := ?v6u) rfl (by kernel_rfl) (by kernel_rfl) (by kernel_rfl) ?q6u rfl ?y6u ?r6u; (case q6u => exact fun _ _ _ h => h); (case y6u => ((rintro _ ⟨z, rfl⟩); (go_simp); (try with_reducible rfl))); simp only [Act.put, List.getElem_toArray, List.getElem_cons_succ, List.getElem_cons_zero, List.setIfInBounds_toArray, List.set_cons_succ, List.set_cons_zero]
  refine wpAnyC_take (i := 7) (v := ?v7u) rfl (by kernel_rfl) (by kernel_rfl) (by kernel_rfl) ?q7u rfl ?y7u ?r7u; (case q7u => exact fun _ _ _ h => h); (case y7u => ((rintro _ ⟨z, rfl⟩); (go_simp); (try with_reducible rfl))); simp only [Act.put, List.getElem_toArray, List.getElem_cons_succ, List.getElem_cons_zero, List.setIfInBounds_toArray, List.set_cons_succ, List.set_cons_zero]
  refine wpAnyC_take (i := 8) (v := ?v8u) rfl (by kernel_rfl) (by kernel_rfl) (by kernel_rfl) ?q8u rfl ?y8u ?r8u; (case q8u => exact fun _ _ _ h => h); (case y8u => ((rintro _ ⟨z, rfl⟩); (go_simp); (try with_reducible rfl))); simp only [Act.put, List.getElem_toArray, List.getElem_cons_succ, List.getElem_cons_zero, List.setIfInBounds_toArray, List.set_cons_succ, List.set_cons_zero]
  (refine wpAnyC_one (i := 4) (by kernel_rfl) rfl ⟨⟨_, hd0⟩, rfl⟩ rfl (fun K hK => ?_); go_simp; go_at_call 76; (with_reducible refine Calls.mono (h1.out _) ?_); rintro e w' ⟨rfl, rfl⟩; refine hK _ _ ?_; clear hK K)
  (refine wpAnyC_one (i := 9) (by kernel_rfl) rfl ⟨⟨_, hd0⟩, rfl⟩ rfl (fun K hK => ?_); go_simp; go_at_call 76; (with_reducible refine Calls.mono (h2.out _) ?_); rintro e w' ⟨rfl, rfl⟩; refine hK _ _ ?_; clear hK K)
  refine wpAnyC_one (i := 10) (by kernel_rfl) rfl ⟨⟨_, hd0⟩, rfl⟩ rfl (fun K hK => ?_)
  (go_simp; refine hK _ _ ?_; clear hK K)
  have hd1 : Below W1.heap.size W1 (W1.alloc (.cells #[(Value.int .i64 (cmpN a.2 b.2)), (Value.int .i64 (cmpN a.1 b.1))] 3)).drew := bl_drew (bl_alloc (Below.refl _ _))
  have h3 := orN_any W1.heap.size (cmpN a.2 b.2) (cmpN a.1 b.1) (W1.alloc (.cells #[(Value.int .i64 (cmpN a.2 b.2)), (Value.int .i64 (cmpN a.1 b.1))] 3)).drew (Blk.new W1 _ _)
  (refine wpAnyC_one (i := 11) (by kernel_rfl) rfl ⟨⟨_, hd1⟩, rfl⟩ rfl (fun K hK => ?_); go_simp; go_at_call 75; (with_reducible refine Calls.mono (h3) ?_); rintro e w' ⟨rfl, rfl⟩; refine hK _ _ ?_; clear hK K)
  refine wpAnyC_take (i := 12) (v := ?v12u) rfl (by kernel_rfl) (by kernel_rfl) (by kernel_rfl) ?q12u rfl ?y12u ?r12u; (case q12u => exact fun _ _ _ h => h); (case y12u => ((rintro _ ⟨z, rfl⟩); (go_simp); (try with_reducible rfl))); simp only [Act.put, List.getElem_toArray, List.getElem_cons_succ, List.getElem_cons_zero, List.setIfInBounds_toArray, List.set_cons_succ, List.set_cons_zero]
  refine wpAnyC_done (by kernel_rfl) ⟨⟨_, hd1⟩, rfl⟩ ?_ _
  go_wp2
  go_ret
  refine ⟨rfl, 1, os ++ #[.cells #[(Value.int .i64 (cmpN a.2 b.2)), (Value.int .i64 (cmpN a.1 b.1))] 3], ?_⟩
  rw [hG.out, alloc_eq_grow, grow_grow, drew_grow]
  rfl
theorem low_lt (a b : Pt) : lowN a b < 0 ↔ a.2 < b.2 ∨ (a.2 = b.2 ∧ a.1 < b.1) := by
  unfold lowN orN cmpN
  split <;> split <;> (try split) <;> (try split) <;> omega
theorem low_swo : SWO (ltOf lowN) where
  irrefl x := by simp only [ltOf, decide_eq_false_iff_not, low_lt]; omega
  trans x y z h1 h2 := by simp only [ltOf, decide_eq_true_eq, low_lt] at *; omega
  ntrans x y z h1 h2 := by simp only [ltOf, decide_eq_false_iff_not, low_lt] at *; omega
def encP (p : Pt) : List Value := [(Value.int .i64 (p.1)), (Value.int .i64 (p.2))]
def leP (x y : Pt) : Bool := !(ltOf lowN) y x
theorem sortF_any (g cap : Nat) (l : List Pt) (w : World) (hH : HoldsK encP 2 w g 0 l.toArray) (hg : g < w.heap.size) (hsz : l.length < 4611686018427387904) :
    Calls Try.prog 78 #[.slice (some ⟨g, 0, none⟩) l.length cap, .func (.func 74) #[] #[]] w fun e w' => e = .returned (.tuple #[]) ∧ ∃ n os, w' = sortWorldK encP 2 w g 0 n (l.mergeSort leP).toArray os :=
  AnyQ.slices_SortFunc_total hsA 2 Try.isAgg33 Try.sizeOf33 encP (fun _ => rfl) (fun x v hv => by simp [encP] at hv; rcases hv with rfl | rfl <;> rfl) lowN low_swo 74 #[] g 0 cap l.toArray w (enters_of Try.func74 (by kernel_rfl) rfl) (fun _ _ _ _ x y => lower_any x y _) hH hg hsz (fun x y h1 h2 => by
    simp only [ltOf, decide_eq_false_iff_not, low_lt] at h1 h2
    exact Prod.ext (by omega) (by omega))
end Go.Proofs.Ytijpolfmiajenaa
