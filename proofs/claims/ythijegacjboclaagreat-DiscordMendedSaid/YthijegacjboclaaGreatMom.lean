/- The sums of corners (twice, and those of First and Second) are what the plain sums say, for at most ten points with numbers up to 200. -/
import Derived.Test.YthijegacjboclaaGreatSum
import Derived.Test.YthijegacjboclaaGreatCheck
namespace Go.Proofs.YthijegacjboclaaGreat
open Go.RowKit
attribute [local go_sem] After.cell After.frozen

def oneF (_ _ : Pt) : Int := 1
def fxF (a b : Pt) : Int := a.1 + b.1
def fyF (a b : Pt) : Int := a.2 + b.2
def sqF (a b : Int) : Int := a * a + a * b + b * b
def xxF (a b : Pt) : Int := sqF a.1 b.1
def xyF (a b : Pt) : Int := a.1 * (2 * a.2 + b.2) + b.1 * (2 * b.2 + a.2)
def yyF (a b : Pt) : Int := sqF a.2 b.2

theorem sq_parts {a b : Int} (h1 : -200 ≤ a ∧ a ≤ 200) (h2 : -200 ≤ b ∧ b ≤ 200) : (-40000 ≤ a * a ∧ a * a ≤ 40000) ∧ (-40000 ≤ a * b ∧ a * b ≤ 40000) ∧ (-40000 ≤ b * b ∧ b * b ≤ 40000) :=
  ⟨mul_bd (A := 200) (B := 200) h1.1 h1.2 h1.1 h1.2, mul_bd (A := 200) (B := 200) h1.1 h1.2 h2.1 h2.2, mul_bd (A := 200) (B := 200) h2.1 h2.2 h2.1 h2.2⟩
theorem xy_parts {a b : Pt} (ha : isPt a = true) (hb : isPt b = true) : (-120000 ≤ a.1 * (2 * a.2 + b.2) ∧ a.1 * (2 * a.2 + b.2) ≤ 120000) ∧ (-120000 ≤ b.1 * (2 * b.2 + a.2) ∧ b.1 * (2 * b.2 + a.2) ≤ 120000) := by
  have a0 := isPt_bd ha
  have b0 := isPt_bd hb
  exact ⟨mul_bd (A := 200) (B := 600) (by omega) (by omega) (by omega) (by omega), mul_bd (A := 200) (B := 600) (by omega) (by omega) (by omega) (by omega)⟩
theorem one_bd (a b : Pt) (_ : isPt a = true) (_ : isPt b = true) : -1000000 ≤ oneF a b ∧ oneF a b ≤ 1000000 := by unfold oneF; omega
theorem fx_bd (a b : Pt) (ha : isPt a = true) (hb : isPt b = true) : -1000000 ≤ fxF a b ∧ fxF a b ≤ 1000000 := by
  have a0 := isPt_bd ha
  have b0 := isPt_bd hb
  unfold fxF; omega
theorem fy_bd (a b : Pt) (ha : isPt a = true) (hb : isPt b = true) : -1000000 ≤ fyF a b ∧ fyF a b ≤ 1000000 := by
  have a0 := isPt_bd ha
  have b0 := isPt_bd hb
  unfold fyF; omega
theorem xx_bd (a b : Pt) (ha : isPt a = true) (hb : isPt b = true) : -1000000 ≤ xxF a b ∧ xxF a b ≤ 1000000 := by
  have := sq_parts (isPt_bd ha).1 (isPt_bd hb).1
  unfold xxF sqF; omega
theorem yy_bd (a b : Pt) (ha : isPt a = true) (hb : isPt b = true) : -1000000 ≤ yyF a b ∧ yyF a b ≤ 1000000 := by
  have := sq_parts (isPt_bd ha).2 (isPt_bd hb).2
  unfold yyF sqF; omega
theorem xy_bd (a b : Pt) (ha : isPt a = true) (hb : isPt b = true) : -1000000 ≤ xyF a b ∧ xyF a b ≤ 1000000 := by
  have := xy_parts ha hb
  unfold xyF; omega

def tw (l : List Pt) : Int := sumOf oneF l
def mx (l : List Pt) : Int := sumOf fxF l
def my (l : List Pt) : Int := sumOf fyF l
def mxx (l : List Pt) : Int := sumOf xxF l
def mxy (l : List Pt) : Int := sumOf xyF l
def myy (l : List Pt) : Int := sumOf yyF l

theorem sumOf_bd {f : Pt → Pt → Int} {l : List Pt} (hl : l.length ≤ 10) (h : ∀ i, i < l.length → isPt (pat l i) = true) (hf : ∀ a b, isPt a = true → isPt b = true → -1000000 ≤ f a b ∧ f a b ≤ 1000000) : -800000000000 ≤ sumOf f l ∧ sumOf f l ≤ 800000000000 := by
  have := sumTo_bd h hf l.length (Nat.le_refl _)
  unfold sumOf
  omega

set_option maxHeartbeats 400000 in
theorem twice1_any (a b : Pt) (w : World) : Calls Tryz.prog 124 #[(Value.agg #[.int .i64 a.1, .int .i64 a.2]), (Value.agg #[.int .i64 b.1, .int .i64 b.2])] w fun e w' => e = .returned (Value.int .i64 (oneF a b)) ∧ Below w.heap.size w w' := by
  go_enter Tryz.func124, Tryz.ntmps124
  go_wp2
  go_ret
  exact ⟨rfl, by (repeat (first | with_reducible exact Below.refl _ _ | with_reducible apply bl_alloc | with_reducible apply bl_drew | with_reducible apply bl_after | (with_reducible refine bl_call ?_ (by assumption))))⟩

set_option maxHeartbeats 400000 in
theorem tw_any (b o ca : Nat) (l : List Pt) (w : World) (hn : 0 < l.length) (hl : l.length ≤ 10) (hp : PtsAt w b o l) (hpt : ∀ i, i < l.length → isPt (pat l i) = true) :
    Calls Tryz.prog 107 #[.slice (some ⟨b, o, none⟩) l.length ca] w fun e w' => e = .returned (Value.int .i64 (tw l)) ∧ Below w.heap.size w w' := by
  have hs := sum_any b o ca l 124 #[] oneF w hn hl hp hpt one_bd (enters_of Tryz.func124 (by kernel_rfl) rfl) (fun p q W _ _ _ => twice1_any p q W)
  clear hp hpt
  go_enter Tryz.func107, Tryz.ntmps107
  go_wp2_with ((with_reducible refine Calls.mono hs ?_); rintro e w1 ⟨rfl, hb1⟩)
  go_ret
  exact ⟨rfl, by (repeat (first | with_reducible exact Below.refl _ _ | with_reducible apply bl_alloc | with_reducible apply bl_drew | with_reducible apply bl_after | (with_reducible refine bl_call ?_ (by assumption))))⟩

set_option maxHeartbeats 400000 in
theorem Twice_ok (b o ca : Nat) (l : List Pt) (w : World) (hp : PtsAt w b o l) (hok : Ok l) :
    Calls Tryz.prog 94 #[.slice (some ⟨b, o, none⟩) l.length ca] w fun e w' => e = .returned (.tuple #[(Value.int .i64 (tw l)), (Value.int .i64 (0))]) ∧ Below w.heap.size w w' := by
  have hc := Check_any (some ⟨b, o, none⟩) ca l w (.inr ⟨b, o, rfl, hp⟩) (by have := hok.1; omega)
  rw [chk_ok hok] at hc
  have ht : ∀ W, Below w.heap.size w W → _ := fun W hW => tw_any b o ca l W (by have := hok.1; omega) hok.1.2 (hp.below hW) hok.2.1
  replace ht := Lib.hid ht
  clear hp hok
  go_enter Tryz.func94, Tryz.ntmps94
  go_wp2_with (first | ((with_reducible refine Calls.mono hc ?_); rintro e w1 ⟨rfl, hb1⟩) | (go_at_call 107; (with_reducible refine Calls.mono (ht.out _ (by assumption)) ?_); rintro e w2 ⟨rfl, hb2⟩))
  go_ret2
  exact ⟨rfl, by (repeat (first | with_reducible exact Below.refl _ _ | with_reducible apply bl_alloc | with_reducible apply bl_drew | with_reducible apply bl_after | (with_reducible refine bl_call ?_ (by assumption))))⟩
set_option maxHeartbeats 400000 in
theorem Twice_no (A : Option Addr) (ca : Nat) (l : List Pt) (w : World) (ha : Pts w A l) (hla : l.length ≤ 1000000) (hok : ¬ Ok l) :
    Calls Tryz.prog 94 #[.slice A l.length ca] w fun e w' => e = .returned (.tuple #[(Value.int .i64 (0)), (Value.int .i64 (20))]) ∧ Below w.heap.size w w' := by
  have hc := Check_any A ca l w ha hla
  rw [chk_no hok] at hc
  clear ha hok
  go_enter Tryz.func94, Tryz.ntmps94
  go_wp2_with ((with_reducible refine Calls.mono hc ?_); rintro e w1 ⟨rfl, hb1⟩)
  go_ret2
  exact ⟨rfl, by (repeat (first | with_reducible exact Below.refl _ _ | with_reducible apply bl_alloc | with_reducible apply bl_drew | with_reducible apply bl_after | (with_reducible refine bl_call ?_ (by assumption))))⟩
end Go.Proofs.YthijegacjboclaaGreat
