/- The function turned of the laws of sheets: points whose X and Y are exchanged; controls in memory whose directions are turned one by one. -/
import Derived.Test.YtegdnbceiopklaaTu4
import Derived.Test.YtegdnbceiopklaaPv
import Derived.Test.YtegdnbceiopklaaCp4
import Derived.Deep.AppendLies
import Derived.Deep.DeepCutAuto
import Derived.Deep.RegionHeld3
namespace Go.Proofs.Ytegdnbceiopklaa
open Go.RowKit Go.Shelf
attribute [local go_sem] After.cell After.frozen

/-- Controls of which the first k are turned. -/
def swTo (l : List Ctl) (k : Nat) : List Ctl := (l.take k).map swC ++ l.drop k
theorem swTo_zero (l : List Ctl) : swTo l 0 = l := by simp [swTo]
theorem swTo_all (l : List Ctl) : swTo l l.length = l.map swC := by simp [swTo]
theorem swTo_len (l : List Ctl) (k : Nat) : (swTo l k).length = l.length := by
  simp [swTo]
  omega
theorem swTo_at {l : List Ctl} {k : Nat} (h : k < l.length) : (swTo l k)[k]? = some (cat l k) := by
  unfold swTo
  rw [List.getElem?_append_right (by simp; omega)]
  simp only [List.length_map, List.length_take]
  rw [show k - min k l.length = 0 by omega, List.getElem?_drop, Nat.add_zero, cat_get h]
theorem swTo_succ {l : List Ctl} {k : Nat} (h : k < l.length) : (swTo l k).set k (swC (cat l k)) = swTo l (k + 1) := by
  unfold swTo
  rw [List.set_append_right _ _ (by simp; omega)]
  simp only [List.length_map, List.length_take]
  rw [show k - min k l.length = 0 by omega, List.drop_eq_getElem_cons h, List.set_cons_zero, List.take_add_one, cat_get h]
  simp
theorem recV_set0 : ∀ (l : List Ctl) (k : Nat) (c : Ctl) (x : Int), l[k]? = some c → (recV ctlE l).set (k * 4) (Value.int .i64 (x)) = recV ctlE (l.set k ⟨x, c.tru, c.read, c.off⟩)
  | [], k, c, x, h => by simp at h
  | b :: l, 0, c, x, h => by
    simp only [List.getElem?_cons_zero, Option.some.injEq] at h
    subst h
    simp [recV, ctlE]
  | b :: l, k + 1, c, x, h => by
    simp only [List.getElem?_cons_succ] at h
    have ih := recV_set0 l k c x h
    rw [List.set_cons_succ]
    simp only [recV, ctlE, List.map_cons, List.map_nil, List.cons_append, List.nil_append]
    rw [show (k + 1) * 4 = k * 4 + 1 + 1 + 1 + 1 by omega, List.set_cons_succ, List.set_cons_succ, List.set_cons_succ, List.set_cons_succ, ih]
/-- The way of control k of a row that the walk owns is turned. -/
theorem row_sw {w : World} {B g ca : Nat} {l : List Ctl} {k : Nat} (hk : k < l.length) (h : w.ownsRow B 67 4 (.slice (some ⟨g, 0, none⟩) l.length ca) l.length (recV ctlE (swTo l k))) :
    (w.setCell ⟨g, k * 4, none⟩ (Value.int .i64 (3 - (cat l k).way))).ownsRow B 67 4 (.slice (some ⟨g, 0, none⟩) l.length ca) l.length (recV ctlE (swTo l (k + 1))) := by
  have h1 := (h.stored (k * 4) (Value.int .i64 (3 - (cat l k).way))).1
  rw [recV_set0 _ _ _ _ (swTo_at hk)] at h1
  rw [← swTo_succ hk]
  exact h1
theorem row_cts {w : World} {B n ca : Nat} {A : Option Addr} {l : List Ctl} (h : w.ownsRow B 67 4 (.slice A n ca) n (recV ctlE l)) : Cts w A l := by
  obtain ⟨hn, A', ca', e, hN⟩ := ownR_parts ctlE_len (by decide) h
  simp only [Value.slice.injEq] at e
  obtain ⟨rfl, _, _⟩ := e
  exact hN
set_option maxRecDepth 100000 in
set_option maxHeartbeats 4000000 in
theorem turned4 (A : Option Addr) (ca : Nat) (l : List Pt) (w : World) (ha : Pts w A l) (hl : l.length ≤ 1000) :
    Calls Try.prog 45 #[.slice A l.length ca] w fun e w' => (∃ A' ca', e = .returned (.slice A' l.length ca') ∧ Pts w' A' (l.map swp)) ∧ Below w.heap.size w w' := by
  obtain ⟨i0, hi, hz0, hz1, hz2⟩ := info_parts infoPt
  go_enter Try.func45, Try.ntmps45
  go_wp2
  go_loopg [3, 4] l.length (fun g v i wr => ∃ k : Nat, k ≤ l.length ∧ g = l.length - k ∧ i = (Value.int .i64 ((k : Int))) ∧ wr.ownsRow w.heap.size 42 2 v k (ptsV ((l.take k).map swp)) ∧ Below w.heap.size w wr)
  case atStart => exact ⟨0, by omega, rfl, rfl, World.ownsRow_nil _ _ _ _, by (repeat (first | with_reducible exact Below.refl _ _ | with_reducible apply bl_alloc | with_reducible apply bl_drew | with_reducible apply bl_after | (with_reducible refine bl_call ?_ (by assumption))))⟩
  case round =>
    obtain ⟨k, kn, rfl, rfl, hown, hbw⟩ := hrel
    by_cases hlt : k < l.length
    · obtain ⟨b, o, rfl, p0⟩ := ha.at_ hlt
      have pa := p0.below hbw
      have lb := pa.lt
      have lb0 := p0.lt
      have x1 := pa.xp hlt
      have x2 := pa.yp hlt
      have hne : u3.ownBlock ≠ some b := fun h => by have h1 := (hown.lt b h).1; omega
      have hgm := hbw.size
      have HB := Lib.hid hbw
      clear hbw pa
      have i1 : (0 : Int) ≤ (k : Int) := by omega
      have i2 : (k : Int) < (l.length : Int) := by omega
      go_upto_region 5 with fail
      go_region_held3 (fun w' => w'.cell? ⟨b, o + k * 2, none⟩ = some (Value.int .i64 ((pat l k).1)) ∧ w'.cell? ⟨b, o + k * 2 + 1, none⟩ = some (Value.int .i64 ((pat l k).2)))
        (first
          | go_keep
          | (go_split_ands
             refine ⟨?_, ?_⟩ <;> (first | (rw [hgrow.cell_far _ (by simp; omega) (Ne.symm hne)]; assumption))))
        ((refine step_append_lies _ (by rfl) _ _ _ (by rfl) w.heap.size 42 i0 _ 2 16 undPts hi hz0 hz1 hz2 rfl (by omega) u3 k (ptsV ((l.take k).map swp)) (by rfl) ((hown.alloc _).drew) ⟨wr.heap.size, 0, none⟩ 1 1 (ptsV [swp (pat l k)]) (by rfl) (by rfl) (World.news_of_block (cs := (ptsV [swp (pat l k)]).toArray) (t := 42) (fr := (0, 0)) (heap_alloc_new wr _)) (ptsV_one _) (by omega) (by unfold maxLen; omega) (by omega) (by simp; omega) (wr.heap.size + 1) (by simp) ?_; intro gg cap w1 hown1 hgrow hat hltt))
      have hb1 : Below w.heap.size w w1 := (((Below.alloc HB.out HB.out.size _).drew).grown hgrow (by simp; omega) (fun g hg => (hown.lt g hg).1))
      rw [← ptsV_append] at hown1
      have hown2 : w1.ownsRow w.heap.size 42 2 (.slice (some ⟨gg, 0, none⟩) (k + 1) cap) (k + 1) (ptsV ((l.take (k + 1)).map swp)) := by
        rw [List.take_add_one, pat_get hlt]
        simpa using hown1
      clear x1 x2 hgrow hat lb hown hne hown1
      go_wp2
      go_roundg (l.length - (k + 1))
      case measure => omega
      case rel => exact ⟨k + 1, by omega, rfl, by go_num, hown2, hb1⟩
    · obtain rfl : k = l.length := by omega
      rw [List.take_length] at hown
      obtain ⟨hn, A1, ca1, rfl, hP1⟩ := own_parts hown
      rw [List.length_map]
      clear hown hn ha
      go_wp2
      go_ret
      exact ⟨⟨A1, ca1, rfl, hP1⟩, by (repeat (first | with_reducible exact Below.refl _ _ | with_reducible apply bl_alloc | with_reducible apply bl_drew | with_reducible apply bl_after | (with_reducible refine bl_call ?_ (by assumption))))⟩
end Go.Proofs.Ytegdnbceiopklaa
