/- The function Fewest of sheets answers the least number of wrong controls. -/
import Derived.Test.YtegdnbceiopklaaGreatMn4
import Derived.Sort.CutIn
import Derived.Stop.RegionWithIn
import Derived.Test.YtegdnbceiopklaaGreatQci
namespace Go.Proofs.YtegdnbceiopklaaGreat
open Go.RowKit Go.Shelf
attribute [local go_sem] After.cell After.frozen Oper.semAt_some wide_fn wide_depth Fence.inRound_fn Fence.inRound_depth

theorem alS_at {S : Sht} {k : Nat} {x : Pt × Int} (hx : (alS S)[k]? = some x) : (prs S)[k]? = some x.1 ∧ x.2 = wrg S x.1 := by
  rw [alS, List.getElem?_map] at hx
  cases h : (prs S)[k]? with
  | none => rw [h] at hx; cases hx
  | some y => rw [h] at hx; cases hx; exact ⟨rfl, rfl⟩
/-- The least number of wrong controls with one of the first k factors. -/
def fwTo (S : Sht) (k : Nat) : Int := ((prs S).take k).foldl (fun m f => min m (wrg S f)) (S.cs.length : Int)
theorem fwTo_succ {S : Sht} {k : Nat} {x : Pt} (h : (prs S)[k]? = some x) : fwTo S (k + 1) = min (fwTo S k) (wrg S x) := by
  unfold fwTo
  rw [List.take_add_one, h, List.foldl_append]
  rfl
theorem fold_min_bd (g : Pt → Int) (hg : ∀ f, 0 ≤ g f) : ∀ (l : List Pt) (m : Int), 0 ≤ m → 0 ≤ l.foldl (fun m f => min m (g f)) m ∧ l.foldl (fun m f => min m (g f)) m ≤ m
  | [], m, h => ⟨h, Int.le_refl _⟩
  | a :: l, m, h => by
    have h1 := hg a
    have h2 : 0 ≤ min m (g a) ∧ min m (g a) ≤ m := by omega
    have := fold_min_bd g hg l _ h2.1
    rw [List.foldl_cons]
    omega
theorem fwTo_bd (S : Sht) (k : Nat) : 0 ≤ fwTo S k ∧ fwTo S k ≤ (S.cs.length : Int) := fold_min_bd _ (fun f => (wrg_bd S f).1) _ _ (by omega)
def fwS (S : Sht) : Int := fwTo S (prs S).length
def fwV (S : Sht) : Int := if shtB S = true then fwS S else 0
end Go.Proofs.YtegdnbceiopklaaGreat
