/- The reference's function Copy of sheets: an equal sheet whose controls the call owns. -/
import Derived.Test.YtegdnbceiopklaaGreatRa4
import Derived.Test.YtegdnbceiopklaaGreatOp4
import Derived.Maps.AppendAt
namespace Go.Proofs.YtegdnbceiopklaaGreat
open Go.RowKit Go.Shelf
attribute [local go_sem] After.cell After.frozen

theorem infoCtl : (Tryz.prog.info? 67).map (fun i => (i.zero, i.size, i.bytes)) = some (some (.agg #[.int .i64 0, .int .i64 0, .int .i64 0, .int .i64 0]), 4, 32) := by kernel_rfl
theorem undCtls : Tryz.prog.underlying 24 = some (.slice 67) := by kernel_rfl
abbrev RowC (w : World) (B : Nat) (v : Value) (l : List Ctl) : Prop := RowR ctlE 67 4 w B v l
theorem own_far4 {W : World} {B e s n : Nat} {v : Value} {xs : List Value} (h : W.ownsRow B e s v n xs) {p : Addr} (hp : p.block < B) (u : Value) : (W.setCell p u).ownsRow B e s v n xs := by
  refine ⟨h.1, ?_⟩
  rcases h.2 with h0 | ⟨g, cap, cur, hv, hg, hc, hr⟩
  · exact .inl h0
  · exact .inr ⟨g, cap, cur, hv, hg, (Below.heap_setCell W p u g (by omega)).trans hc, hr⟩
theorem own_le4 {W : World} {B B' e s n : Nat} {v : Value} {xs : List Value} (h : W.ownsRow B e s v n xs) (hb : B' ≤ B) : W.ownsRow B' e s v n xs := by
  refine ⟨h.1, ?_⟩
  rcases h.2 with h0 | ⟨g, cap, cur, hv, hg, hc, hr⟩
  · exact .inl h0
  · exact .inr ⟨g, cap, cur, hv, Nat.le_trans hb hg, hc, hr⟩
theorem RowR.parts4 {w : World} {B : Nat} {v : Value} {l : List Ctl} (h : RowC w B v l) : ∃ A ca, v = .slice A l.length ca ∧ Cts w A l := (ownR_parts ctlE_len (by decide) h).2
set_option maxRecDepth 100000 in
set_option maxHeartbeats 2000000 in
theorem Copy_own4 (ad : Addr) (ca : Nat) (S : Sht) (w : World) (ha : Cts w (some ad) S.cs) (hl : S.cs.length ≤ 1000) :
    Calls Tryz.prog 8 #[(Value.agg #[(Value.int .i64 (S.xlo)), (Value.int .i64 (S.xhi)), (Value.int .i64 (S.ylo)), (Value.int .i64 (S.yhi)), .slice (some ad) S.cs.length ca, (Value.int .i64 (S.wrong))])] w fun e w' => (∃ A' ca', e = .returned (Value.agg #[(Value.int .i64 (S.xlo)), (Value.int .i64 (S.xhi)), (Value.int .i64 (S.ylo)), (Value.int .i64 (S.yhi)), .slice A' S.cs.length ca', (Value.int .i64 (S.wrong))]) ∧ RowC w' w.heap.size (.slice A' S.cs.length ca') S.cs) ∧ Below w.heap.size w w' := by
  obtain ⟨i0, hi, hz0, hz1, hz2⟩ := info_parts infoCtl
  have c1 : Blk (((w.alloc (.cells #[(Value.int .i64 (S.xlo)), (Value.int .i64 (S.xhi)), (Value.int .i64 (S.ylo)), (Value.int .i64 (S.yhi)), .slice (some ad) S.cs.length ca, (Value.int .i64 (S.wrong))] 26)).alloc (.cells #[(Value.int .i64 (0)), (Value.int .i64 (0)), (Value.int .i64 (0)), (Value.int .i64 (0)), .slice none 0 0, (Value.int .i64 (0))] 26)).alloc (.cells #[(Value.int .i64 (S.xlo)), (Value.int .i64 (S.xhi)), (Value.int .i64 (S.ylo)), (Value.int .i64 (S.yhi)), .slice (some ad) S.cs.length ca, (Value.int .i64 (S.wrong))] 26)) (w.heap.size + 1) 26 #[(Value.int .i64 (0)), (Value.int .i64 (0)), (Value.int .i64 (0)), (Value.int .i64 (0)), .slice none 0 0, (Value.int .i64 (0))] := (Blk.new_at (by simp)).alloc _
  have c3 : Blk (((w.alloc (.cells #[(Value.int .i64 (S.xlo)), (Value.int .i64 (S.xhi)), (Value.int .i64 (S.ylo)), (Value.int .i64 (S.yhi)), .slice (some ad) S.cs.length ca, (Value.int .i64 (S.wrong))] 26)).alloc (.cells #[(Value.int .i64 (0)), (Value.int .i64 (0)), (Value.int .i64 (0)), (Value.int .i64 (0)), .slice none 0 0, (Value.int .i64 (0))] 26)).alloc (.cells #[(Value.int .i64 (S.xlo)), (Value.int .i64 (S.xhi)), (Value.int .i64 (S.ylo)), (Value.int .i64 (S.yhi)), .slice (some ad) S.cs.length ca, (Value.int .i64 (S.wrong))] 26)) (w.heap.size + 1 + 1) 26 #[(Value.int .i64 (S.xlo)), (Value.int .i64 (S.xhi)), (Value.int .i64 (S.ylo)), (Value.int .i64 (S.yhi)), .slice (some ad) S.cs.length ca, (Value.int .i64 (S.wrong))] := Blk.new_at (by simp)
  have hbX : Below w.heap.size w (((w.alloc (.cells #[(Value.int .i64 (S.xlo)), (Value.int .i64 (S.xhi)), (Value.int .i64 (S.ylo)), (Value.int .i64 (S.yhi)), .slice (some ad) S.cs.length ca, (Value.int .i64 (S.wrong))] 26)).alloc (.cells #[(Value.int .i64 (0)), (Value.int .i64 (0)), (Value.int .i64 (0)), (Value.int .i64 (0)), .slice none 0 0, (Value.int .i64 (0))] 26)).alloc (.cells #[(Value.int .i64 (S.xlo)), (Value.int .i64 (S.xhi)), (Value.int .i64 (S.ylo)), (Value.int .i64 (S.yhi)), .slice (some ad) S.cs.length ca, (Value.int .i64 (S.wrong))] 26)) := by (repeat (first | with_reducible exact Below.refl _ _ | with_reducible apply bl_alloc | with_reducible apply bl_drew | with_reducible apply bl_after | (with_reducible refine bl_call ?_ (by assumption))))
  have hP : Cts (((w.alloc (.cells #[(Value.int .i64 (S.xlo)), (Value.int .i64 (S.xhi)), (Value.int .i64 (S.ylo)), (Value.int .i64 (S.yhi)), .slice (some ad) S.cs.length ca, (Value.int .i64 (S.wrong))] 26)).alloc (.cells #[(Value.int .i64 (0)), (Value.int .i64 (0)), (Value.int .i64 (0)), (Value.int .i64 (0)), .slice none 0 0, (Value.int .i64 (0))] 26)).alloc (.cells #[(Value.int .i64 (S.xlo)), (Value.int .i64 (S.xhi)), (Value.int .i64 (S.ylo)), (Value.int .i64 (S.yhi)), .slice (some ad) S.cs.length ca, (Value.int .i64 (S.wrong))] 26)) (some ad) S.cs := ha.below hbX
  have ho := World.ownsRow_made (base := ((((w.alloc (.cells #[(Value.int .i64 (S.xlo)), (Value.int .i64 (S.xhi)), (Value.int .i64 (S.ylo)), (Value.int .i64 (S.yhi)), .slice (some ad) S.cs.length ca, (Value.int .i64 (S.wrong))] 26)).alloc (.cells #[(Value.int .i64 (0)), (Value.int .i64 (0)), (Value.int .i64 (0)), (Value.int .i64 (0)), .slice none 0 0, (Value.int .i64 (0))] 26)).alloc (.cells #[(Value.int .i64 (S.xlo)), (Value.int .i64 (S.xhi)), (Value.int .i64 (S.ylo)), (Value.int .i64 (S.yhi)), .slice (some ad) S.cs.length ca, (Value.int .i64 (S.wrong))] 26))).heap.size) (e := 67) (size := 4) (((w.alloc (.cells #[(Value.int .i64 (S.xlo)), (Value.int .i64 (S.xhi)), (Value.int .i64 (S.ylo)), (Value.int .i64 (S.yhi)), .slice (some ad) S.cs.length ca, (Value.int .i64 (S.wrong))] 26)).alloc (.cells #[(Value.int .i64 (0)), (Value.int .i64 (0)), (Value.int .i64 (0)), (Value.int .i64 (0)), .slice none 0 0, (Value.int .i64 (0))] 26)).alloc (.cells #[(Value.int .i64 (S.xlo)), (Value.int .i64 (S.xhi)), (Value.int .i64 (S.ylo)), (Value.int .i64 (S.yhi)), .slice (some ad) S.cs.length ca, (Value.int .i64 (S.wrong))] 26)) #[] 0 (Nat.le_refl _) (by decide) rfl
  have hs : ((((w.alloc (.cells #[(Value.int .i64 (S.xlo)), (Value.int .i64 (S.xhi)), (Value.int .i64 (S.ylo)), (Value.int .i64 (S.yhi)), .slice (some ad) S.cs.length ca, (Value.int .i64 (S.wrong))] 26)).alloc (.cells #[(Value.int .i64 (0)), (Value.int .i64 (0)), (Value.int .i64 (0)), (Value.int .i64 (0)), .slice none 0 0, (Value.int .i64 (0))] 26)).alloc (.cells #[(Value.int .i64 (S.xlo)), (Value.int .i64 (S.xhi)), (Value.int .i64 (S.ylo)), (Value.int .i64 (S.yhi)), .slice (some ad) S.cs.length ca, (Value.int .i64 (S.wrong))] 26))).heap.size = w.heap.size + 1 + 1 + 1 := by simp
  have ho2 := ho
  rw [hs] at ho2
  clear ha
  go_enter Tryz.func8, Tryz.ntmps8
  go_wp2_with (at_builtin; refine wpList_append_own _ rfl (.tmp 5) (.tmp 7) 24 rfl (w.heap.size + 1 + 1 + 1) 67 i0 _ 4 32 undCtls hi hz0 hz1 hz2 rfl (by decide) _ 0 [] rfl ho2 ad S.cs.length ca (recV ctlE S.cs) rfl (recV_len ctlE_len S.cs) (hP.alloc _).cellsV (recV_one S.cs) (by unfold maxLen; omega) (by omega) (by simp) ?_)
  intro v' w1 hown hgrow _
  have hb : Below ((((w.alloc (.cells #[(Value.int .i64 (S.xlo)), (Value.int .i64 (S.xhi)), (Value.int .i64 (S.ylo)), (Value.int .i64 (S.yhi)), .slice (some ad) S.cs.length ca, (Value.int .i64 (S.wrong))] 26)).alloc (.cells #[(Value.int .i64 (0)), (Value.int .i64 (0)), (Value.int .i64 (0)), (Value.int .i64 (0)), .slice none 0 0, (Value.int .i64 (0))] 26)).alloc (.cells #[(Value.int .i64 (S.xlo)), (Value.int .i64 (S.xhi)), (Value.int .i64 (S.ylo)), (Value.int .i64 (S.yhi)), .slice (some ad) S.cs.length ca, (Value.int .i64 (S.wrong))] 26))).heap.size (((w.alloc (.cells #[(Value.int .i64 (S.xlo)), (Value.int .i64 (S.xhi)), (Value.int .i64 (S.ylo)), (Value.int .i64 (S.yhi)), .slice (some ad) S.cs.length ca, (Value.int .i64 (S.wrong))] 26)).alloc (.cells #[(Value.int .i64 (0)), (Value.int .i64 (0)), (Value.int .i64 (0)), (Value.int .i64 (0)), .slice none 0 0, (Value.int .i64 (0))] 26)).alloc (.cells #[(Value.int .i64 (S.xlo)), (Value.int .i64 (S.xhi)), (Value.int .i64 (S.ylo)), (Value.int .i64 (S.yhi)), .slice (some ad) S.cs.length ca, (Value.int .i64 (S.wrong))] 26)) w1 := (bl_alloc (Below.refl _ _)).grown hgrow (by simp) (fun k hk => by rw [hs]; exact (ho2.lt k hk).1)
  obtain ⟨_, A', ca', rfl, _⟩ := ownR_parts ctlE_len (by decide) hown
  have e1 := c1.below hb
  have e3 := c3.below hb
  have hbw := bl_call hbX hb
  have HO := Lib.hid hown
  clear hown hgrow hb c1 c3 ho ho2 hP hbX hs
  (have ly := e3.lt); (have yy0 := e3.cell 0); (have yy1 := e3.cell 1); (have yy2 := e3.cell 2); (have yy3 := e3.cell 3); (have yy4 := e3.cell 4); (have yy5 := e3.cell 5); simp only [List.getElem?_toArray, List.getElem?_cons_zero, List.getElem?_cons_succ] at yy0 yy1 yy2 yy3 yy4 yy5
  (have lu := e1.lt); (have yu0 := e1.cell 0); (have yu1 := e1.cell 1); (have yu2 := e1.cell 2); (have yu3 := e1.cell 3); (have yu4 := e1.cell 4); (have yu5 := e1.cell 5); simp only [List.getElem?_toArray, List.getElem?_cons_zero, List.getElem?_cons_succ] at yu0 yu1 yu2 yu3 yu4 yu5
  have f3 := e3.frozen 4
  have f10 := e1.frozen 0
  have f11 := e1.frozen 1
  have f12 := e1.frozen 2
  have f13 := e1.frozen 3
  have f14 := e1.frozen 4
  have f15 := e1.frozen 5
  go_wp2
  have d1 : Blk (((((((w1.setCell ⟨w.heap.size + 1 + 1, 4, none⟩ (.slice A' S.cs.length ca')).setCell ⟨w.heap.size + 1, 0, none⟩ (Value.int .i64 (S.xlo))).setCell ⟨w.heap.size + 1, 1, none⟩ (Value.int .i64 (S.xhi))).setCell ⟨w.heap.size + 1, 2, none⟩ (Value.int .i64 (S.ylo))).setCell ⟨w.heap.size + 1, 3, none⟩ (Value.int .i64 (S.yhi))).setCell ⟨w.heap.size + 1, 4, none⟩ (.slice A' S.cs.length ca')).setCell ⟨w.heap.size + 1, 5, none⟩ (Value.int .i64 (S.wrong))) (w.heap.size + 1) 26 #[(Value.int .i64 (S.xlo)), (Value.int .i64 (S.xhi)), (Value.int .i64 (S.ylo)), (Value.int .i64 (S.yhi)), .slice A' S.cs.length ca', (Value.int .i64 (S.wrong))] := by
    have h := (((((((e1.far (p := ⟨w.heap.size + 1 + 1, 4, none⟩) (by simp) (.slice A' S.cs.length ca')).set_ 0 (Value.int .i64 (S.xlo))).set_ 1 (Value.int .i64 (S.xhi))).set_ 2 (Value.int .i64 (S.ylo))).set_ 3 (Value.int .i64 (S.yhi))).set_ 4 (.slice A' S.cs.length ca')).set_ 5 (Value.int .i64 (S.wrong)))
    simpa using h
  have hbX : Below w.heap.size w (((((((w1.setCell ⟨w.heap.size + 1 + 1, 4, none⟩ (.slice A' S.cs.length ca')).setCell ⟨w.heap.size + 1, 0, none⟩ (Value.int .i64 (S.xlo))).setCell ⟨w.heap.size + 1, 1, none⟩ (Value.int .i64 (S.xhi))).setCell ⟨w.heap.size + 1, 2, none⟩ (Value.int .i64 (S.ylo))).setCell ⟨w.heap.size + 1, 3, none⟩ (Value.int .i64 (S.yhi))).setCell ⟨w.heap.size + 1, 4, none⟩ (.slice A' S.cs.length ca')).setCell ⟨w.heap.size + 1, 5, none⟩ (Value.int .i64 (S.wrong))) := bl_setc (bl_setc (bl_setc (bl_setc (bl_setc (bl_setc (bl_setc hbw (by omega)) (by omega)) (by omega)) (by omega)) (by omega)) (by omega)) (by omega)
  have hOX : ((((((((w1.setCell ⟨w.heap.size + 1 + 1, 4, none⟩ (.slice A' S.cs.length ca')).setCell ⟨w.heap.size + 1, 0, none⟩ (Value.int .i64 (S.xlo))).setCell ⟨w.heap.size + 1, 1, none⟩ (Value.int .i64 (S.xhi))).setCell ⟨w.heap.size + 1, 2, none⟩ (Value.int .i64 (S.ylo))).setCell ⟨w.heap.size + 1, 3, none⟩ (Value.int .i64 (S.yhi))).setCell ⟨w.heap.size + 1, 4, none⟩ (.slice A' S.cs.length ca')).setCell ⟨w.heap.size + 1, 5, none⟩ (Value.int .i64 (S.wrong)))).ownsRow (w.heap.size + 1 + 1 + 1) 67 4 (.slice A' S.cs.length ca') S.cs.length (recV ctlE S.cs) := by
    have q1 : w.heap.size + 1 + 1 < w.heap.size + 1 + 1 + 1 := by omega
    have q2 : w.heap.size + 1 < w.heap.size + 1 + 1 + 1 := by omega
    exact own_far4 (own_far4 (own_far4 (own_far4 (own_far4 (own_far4 (own_far4 HO.out q1 _) q2 _) q2 _) q2 _) q2 _) q2 _) q2 _
  replace hOX := own_le4 hOX (show w.heap.size ≤ w.heap.size + 1 + 1 + 1 by omega)
  generalize (((((((w1.setCell ⟨w.heap.size + 1 + 1, 4, none⟩ (.slice A' S.cs.length ca')).setCell ⟨w.heap.size + 1, 0, none⟩ (Value.int .i64 (S.xlo))).setCell ⟨w.heap.size + 1, 1, none⟩ (Value.int .i64 (S.xhi))).setCell ⟨w.heap.size + 1, 2, none⟩ (Value.int .i64 (S.ylo))).setCell ⟨w.heap.size + 1, 3, none⟩ (Value.int .i64 (S.yhi))).setCell ⟨w.heap.size + 1, 4, none⟩ (.slice A' S.cs.length ca')).setCell ⟨w.heap.size + 1, 5, none⟩ (Value.int .i64 (S.wrong))) = X at d1 hbX hOX ⊢
  clear ly yy0 yy1 yy2 yy3 yy4 yy5 lu yu0 yu1 yu2 yu3 yu4 yu5
  (have lz := d1.lt); (have yz0 := d1.cell 0); (have yz1 := d1.cell 1); (have yz2 := d1.cell 2); (have yz3 := d1.cell 3); (have yz4 := d1.cell 4); (have yz5 := d1.cell 5); simp only [List.getElem?_toArray, List.getElem?_cons_zero, List.getElem?_cons_succ] at yz0 yz1 yz2 yz3 yz4 yz5
  refine bodyPost_ret (v := .agg #[(Value.int .i64 (S.xlo)), (Value.int .i64 (S.xhi)), (Value.int .i64 (S.ylo)), (Value.int .i64 (S.yhi)), .slice A' S.cs.length ca', (Value.int .i64 (S.wrong))]) (by simp [results, Tryz.results8, go_sem, yz0, yz1, yz2, yz3, yz4, yz5]) rfl ⟨⟨A', ca', rfl, hOX⟩, hbX⟩
set_option maxRecDepth 100000 in
set_option maxHeartbeats 1000000 in
theorem rCopy4 (A : Option Addr) (ca : Nat) (S : Sht) (w : World) (ha : Cts w A S.cs) (hl : S.cs.length ≤ 1000) :
    Calls Tryz.prog 8 #[(Value.agg #[(Value.int .i64 (S.xlo)), (Value.int .i64 (S.xhi)), (Value.int .i64 (S.ylo)), (Value.int .i64 (S.yhi)), .slice A S.cs.length ca, (Value.int .i64 (S.wrong))])] w fun e w' => (∃ A' ca', e = .returned (Value.agg #[(Value.int .i64 (S.xlo)), (Value.int .i64 (S.xhi)), (Value.int .i64 (S.ylo)), (Value.int .i64 (S.yhi)), .slice A' S.cs.length ca', (Value.int .i64 (S.wrong))]) ∧ RowC w' w.heap.size (.slice A' S.cs.length ca') S.cs) ∧ Below w.heap.size w w' := by
  rcases A with _ | ad
  · have h0 := ha.nil
    obtain ⟨x1, x2, x3, x4, cs, x5⟩ := S
    simp only at h0
    subst h0
    clear hl ha
    go_enter Tryz.func8, Tryz.ntmps8
    go_wp2
    refine bodyPost_ret (v := .agg #[(Value.int .i64 (x1)), (Value.int .i64 (x2)), (Value.int .i64 (x3)), (Value.int .i64 (x4)), .slice (some ⟨w.heap.size + 1 + 1 + 1, 0, none⟩) 0 0, (Value.int .i64 (x5))]) (by simp [results, Tryz.results8, go_sem]) rfl ⟨⟨_, _, rfl, ?_⟩, ?_⟩
    · have h := World.ownsRow_made (base := w.heap.size) (e := 67) (size := 4) (((w.alloc (.cells #[(Value.int .i64 (x1)), (Value.int .i64 (x2)), (Value.int .i64 (x3)), (Value.int .i64 (x4)), .slice none 0 ca, (Value.int .i64 (x5))] 26)).alloc (.cells #[(Value.int .i64 (x1)), (Value.int .i64 (x2)), (Value.int .i64 (x3)), (Value.int .i64 (x4)), .slice (some ⟨w.heap.size + 1 + 1 + 1, 0, none⟩) 0 0, (Value.int .i64 (x5))] 26)).alloc (.cells #[(Value.int .i64 (x1)), (Value.int .i64 (x2)), (Value.int .i64 (x3)), (Value.int .i64 (x4)), .slice (some ⟨w.heap.size + 1 + 1 + 1, 0, none⟩) 0 0, (Value.int .i64 (x5))] 26)) #[] 0 (by simp; omega) (by decide) rfl
      have hs : (((w.alloc (.cells #[(Value.int .i64 (x1)), (Value.int .i64 (x2)), (Value.int .i64 (x3)), (Value.int .i64 (x4)), .slice none 0 ca, (Value.int .i64 (x5))] 26)).alloc (.cells #[(Value.int .i64 (x1)), (Value.int .i64 (x2)), (Value.int .i64 (x3)), (Value.int .i64 (x4)), .slice (some ⟨w.heap.size + 1 + 1 + 1, 0, none⟩) 0 0, (Value.int .i64 (x5))] 26)).alloc (.cells #[(Value.int .i64 (x1)), (Value.int .i64 (x2)), (Value.int .i64 (x3)), (Value.int .i64 (x4)), .slice (some ⟨w.heap.size + 1 + 1 + 1, 0, none⟩) 0 0, (Value.int .i64 (x5))] 26)).heap.size = w.heap.size + 1 + 1 + 1 := by simp
      rw [hs] at h
      exact h
    · (repeat (first | with_reducible exact Below.refl _ _ | with_reducible apply bl_alloc | with_reducible apply bl_drew | with_reducible apply bl_after | (with_reducible refine bl_call ?_ (by assumption))))
  · exact Copy_own4 ad ca S w ha hl
end Go.Proofs.YtegdnbceiopklaaGreat
