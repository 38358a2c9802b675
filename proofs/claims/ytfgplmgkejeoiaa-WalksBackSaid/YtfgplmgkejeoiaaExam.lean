/- The function knurllaw05.Example answers the tracks and the walks of the chapter's examples. -/
import Derived.Test.YtfgplmgkejeoiaaWSwp
import Derived.BigRegion
namespace Go.Proofs.Ytfgplmgkejeoiaa
open Go.RowKit
attribute [local go_sem] After.cell After.frozen

def exK : Trk := ⟨[(0, 0), (2, 0), (4, 0)], 0, 1, 13⟩
def exA : List Pt := [(0, 2), (4, 2), (4, 3), (0, 3)]
def exC : Trk := ⟨[(0, 0), (2, 0), (2, 2), (0, 2)], 1, 1, 2⟩
def exB : List Pt := [(-1, -1), (3, -1), (3, 3), (-1, 3)]
theorem Blk.new_at {w : World} {g : Nat} {t : TypeId} {cs : Array Value} (hg : g = w.heap.size) : Blk (w.alloc (.cells cs t)) g t cs := by subst hg; exact Blk.new w t cs
theorem Blk.drew_ {w : World} {g : Nat} {t : TypeId} {cs : Array Value} (h : Blk w g t cs) : Blk w.drew g t cs := h
set_option maxRecDepth 100000 in
set_option maxHeartbeats 2000000 in
theorem Example_any (w : World) : Calls Try.prog 50 #[] w fun e w' => (∃ bk ba bc bb : Nat, e = .returned (.tuple #[(Value.agg #[.slice (some ⟨bk, 0, none⟩) exK.pts.length 3, (Value.int .i64 (exK.closed)), (Value.int .i64 (exK.lo)), (Value.int .i64 (exK.hi))]), .slice (some ⟨ba, 0, none⟩) exA.length 4, (Value.agg #[.slice (some ⟨bc, 0, none⟩) exC.pts.length 4, (Value.int .i64 (exC.closed)), (Value.int .i64 (exC.lo)), (Value.int .i64 (exC.hi))]), .slice (some ⟨bb, 0, none⟩) exB.length 4]) ∧ PtsAt w' bk 0 exK.pts ∧ PtsAt w' ba 0 exA ∧ PtsAt w' bc 0 exC.pts ∧ PtsAt w' bb 0 exB) ∧ Below w.heap.size w w' := by
  go_enter Try.func50, Try.ntmps50
  go_wp2
  go_big_region
  all_goals go_wp2
  · refine bodyPost_ret (v := .tuple #[(Value.agg #[.slice (some ⟨w.heap.size + 1 + 1, 0, none⟩) exK.pts.length 3, (Value.int .i64 (exK.closed)), (Value.int .i64 (exK.lo)), (Value.int .i64 (exK.hi))]), .slice (some ⟨w.heap.size + 1 + 1 + 1 + 1, 0, none⟩) exA.length 4, (Value.agg #[.slice (some ⟨w.heap.size + 1 + 1 + 1, 0, none⟩) exC.pts.length 4, (Value.int .i64 (exC.closed)), (Value.int .i64 (exC.lo)), (Value.int .i64 (exC.hi))]), .slice (some ⟨w.heap.size + 1 + 1 + 1 + 1 + 1, 0, none⟩) exB.length 4]) (by simp [results, Try.results50, go_sem, exK, exC, exA, exB]) rfl ⟨⟨w.heap.size + 1 + 1, w.heap.size + 1 + 1 + 1 + 1, w.heap.size + 1 + 1 + 1, w.heap.size + 1 + 1 + 1 + 1 + 1, rfl, ptsAt_blk (l := exK.pts) (t := 31) ?_, ptsAt_blk (l := exA) (t := 31) ?_, ptsAt_blk (l := exC.pts) (t := 31) ?_, ptsAt_blk (l := exB) (t := 31) ?_⟩, by (repeat (first | with_reducible exact Below.refl _ _ | with_reducible apply bl_alloc | with_reducible apply bl_drew | with_reducible apply bl_after | (with_reducible refine bl_call ?_ (by assumption))))⟩ <;> (repeat (first | exact Blk.new_at (by simp) | refine Blk.drew_ ?_ | refine Blk.alloc ?_ _))
  · refine bodyPost_ret (v := .tuple #[(Value.agg #[.slice (some ⟨w.heap.size + 1 + 1, 0, none⟩) exK.pts.length 3, (Value.int .i64 (exK.closed)), (Value.int .i64 (exK.lo)), (Value.int .i64 (exK.hi))]), .slice (some ⟨w.heap.size + 1 + 1 + 1 + 1 + 1, 0, none⟩) exA.length 4, (Value.agg #[.slice (some ⟨w.heap.size + 1 + 1 + 1, 0, none⟩) exC.pts.length 4, (Value.int .i64 (exC.closed)), (Value.int .i64 (exC.lo)), (Value.int .i64 (exC.hi))]), .slice (some ⟨w.heap.size + 1 + 1 + 1 + 1, 0, none⟩) exB.length 4]) (by simp [results, Try.results50, go_sem, exK, exC, exA, exB]) rfl ⟨⟨w.heap.size + 1 + 1, w.heap.size + 1 + 1 + 1 + 1 + 1, w.heap.size + 1 + 1 + 1, w.heap.size + 1 + 1 + 1 + 1, rfl, ptsAt_blk (l := exK.pts) (t := 31) ?_, ptsAt_blk (l := exA) (t := 31) ?_, ptsAt_blk (l := exC.pts) (t := 31) ?_, ptsAt_blk (l := exB) (t := 31) ?_⟩, by (repeat (first | with_reducible exact Below.refl _ _ | with_reducible apply bl_alloc | with_reducible apply bl_drew | with_reducible apply bl_after | (with_reducible refine bl_call ?_ (by assumption))))⟩ <;> (repeat (first | exact Blk.new_at (by simp) | refine Blk.drew_ ?_ | refine Blk.alloc ?_ _))
end Go.Proofs.Ytfgplmgkejeoiaa
