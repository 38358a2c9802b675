/- Slices of points that a call owns, and points in memory as rows of cells. -/
import Derived.Test.YthijegacjboclaaGreatSl
import Derived.Laws.AppendOwnNone
import Derived.Test.YthijegacjboclaaGreatRefCheck
namespace Go.Proofs.YthijegacjboclaaGreat
open Go.RowKit

/-- The cells of points, one behind the other. -/
def ptsV : List Pt → List Value
  | [] => []
  | p :: l => (Value.int .i64 (p.1)) :: (Value.int .i64 (p.2)) :: ptsV l
theorem ptsV_len : ∀ l : List Pt, (ptsV l).length = l.length * 2
  | [] => rfl
  | p :: l => by simp [ptsV, ptsV_len l]; omega
theorem ptsV_x : ∀ (l : List Pt) (i : Nat), (ptsV l)[i * 2]? = l[i]?.map fun p => (Value.int .i64 (p.1))
  | [], i => by simp [ptsV]
  | p :: l, 0 => by simp [ptsV]
  | p :: l, i + 1 => by
    rw [show (i + 1) * 2 = i * 2 + 1 + 1 by omega]
    simpa [ptsV] using ptsV_x l i
theorem ptsV_y : ∀ (l : List Pt) (i : Nat), (ptsV l)[i * 2 + 1]? = l[i]?.map fun p => (Value.int .i64 (p.2))
  | [], i => by simp [ptsV]
  | p :: l, 0 => by simp [ptsV]
  | p :: l, i + 1 => by
    rw [show (i + 1) * 2 + 1 = (i * 2 + 1) + 1 + 1 by omega]
    simpa [ptsV] using ptsV_y l i
theorem ptsV_one : ∀ (l : List Pt), ∀ u ∈ ptsV l, u.oneCell' = true
  | [], u, h => by simp [ptsV] at h
  | p :: l, u, h => by
    simp only [ptsV, List.mem_cons] at h
    rcases h with rfl | rfl | h
    · rfl
    · rfl
    · exact ptsV_one l u h
theorem ptsV_append : ∀ (l m : List Pt), ptsV (l ++ m) = ptsV l ++ ptsV m
  | [], m => rfl
  | p :: l, m => by simp [ptsV, ptsV_append l m]
theorem add_at (b o j : Nat) : (⟨b, o, none⟩ : Addr).add j = ⟨b, o + j, none⟩ := by
  unfold Addr.add; split <;> simp_all
theorem PtsAt.cellsV {w : World} {b o : Nat} {l : List Pt} (h : PtsAt w b o l) : ∀ j u, (ptsV l)[j]? = some u → w.cell? ((⟨b, o, none⟩ : Addr).add j) = some u := by
  intro j u hj
  rw [add_at]
  obtain ⟨i, rfl | rfl⟩ : ∃ i, j = i * 2 ∨ j = i * 2 + 1 := ⟨j / 2, by omega⟩
  · rw [ptsV_x] at hj
    obtain ⟨p, hp, rfl⟩ := Option.map_eq_some_iff.1 hj
    exact h.x i p hp
  · rw [ptsV_y] at hj
    obtain ⟨p, hp, rfl⟩ := Option.map_eq_some_iff.1 hj
    exact h.y i p hp
theorem ptsAt_own {w : World} {B g ca n : Nat} {l : List Pt} (h : w.ownsRow B 98 2 (.slice (some ⟨g, 0, none⟩) n ca) n (ptsV l)) : PtsAt w g 0 l := by
  have hc := h.cells (g := g) rfl
  refine ⟨(h.lt g rfl).2, fun i p hi => ?_, fun i p hi => ?_⟩
  · have := hc (i * 2) (Value.int .i64 (p.1)) (by rw [ptsV_x, hi]; rfl)
    rwa [add_at] at this
  · have := hc (i * 2 + 1) (Value.int .i64 (p.2)) (by rw [ptsV_y, hi]; rfl)
    rwa [add_at] at this
/-- A slice that owns its points, as a slice in memory. -/
theorem own_parts {w : World} {B n : Nat} {v : Value} {l : List Pt} (h : w.ownsRow B 98 2 v n (ptsV l)) : n = l.length ∧ ∃ A ca, v = .slice A l.length ca ∧ Pts w A l := by
  have hn : n = l.length := by
    have h1 := h.1
    rw [ptsV_len] at h1
    omega
  subst hn
  refine ⟨rfl, ?_⟩
  rcases h.2 with ⟨rfl, h0⟩ | ⟨g, cap, cur, rfl, hr⟩
  · refine ⟨none, 0, by rw [h0], .inl (List.eq_nil_of_length_eq_zero h0)⟩
  · exact ⟨_, _, rfl, .inr ⟨_, _, rfl, ptsAt_own h⟩⟩
theorem bl_grown {w X Y : World} {e : TypeId} {s n : Nat} {v : Value} {xs : List Value} (h : Below w.heap.size w X) (ho : X.ownsRow w.heap.size e s v n xs) (hg : X.grownBy Y v.ownBlock) : Below w.heap.size w Y :=
  h.grown hg h.size fun k hk => (ho.lt k hk).1

theorem infoPt : (Tryz.prog.info? 98).map (fun i => (i.zero, i.size, i.bytes)) = some (some (.agg #[.int .i64 0, .int .i64 0]), 2, 16) := by kernel_rfl
theorem undPts : Tryz.prog.underlying 22 = some (.slice 98) := by kernel_rfl

theorem Pts.nil {w : World} {l : List Pt} (h : Pts w none l) : l = [] := by
  rcases h with h | ⟨b, o, h, _⟩
  · exact h
  · cases h
theorem Pts.cellsV {w : World} {ad : Addr} {l : List Pt} (h : Pts w (some ad) l) : ∀ j u, (ptsV l)[j]? = some u → w.cell? (ad.add j) = some u := by
  rcases h with rfl | ⟨b, o, h, hp⟩
  · intro j u hj; simp [ptsV] at hj
  · cases h; exact hp.cellsV
theorem Pts.alloc {w : World} {A : Option Addr} {l : List Pt} (h : Pts w A l) (o : Obj) : Pts (w.alloc o) A l := h.below ((Below.refl _ w).alloc (Nat.le_refl _) o)
end Go.Proofs.YthijegacjboclaaGreat
/- The functions knurlref02.Copy, knurllaw02.Far and Same answer a copy, the size and the equality, for points in memory. -/
namespace Go.Proofs.YthijegacjboclaaGreat
open Go.RowKit
attribute [local go_sem] After.cell After.frozen
attribute [local go_sem high] run_eql_pt run_neq_pt



theorem pt_ext {l m : List Pt} (h : l.length = m.length) (e : ∀ j, j < l.length → pat l j = pat m j) : l = m := by
  refine List.ext_getElem h fun i h1 h2 => ?_
  rw [pat_eq h1, pat_eq h2]
  exact e i h1

set_option maxRecDepth 100000 in
set_option maxHeartbeats 1000000 in
theorem Same_any (A B : Option Addr) (ca cb : Nat) (l m : List Pt) (w : World) (ha : Pts w A l) (hb : Pts w B m) (hl : l.length ≤ 1000000) (hm : m.length ≤ 1000000) :
    Calls Tryz.prog 45 #[.slice A l.length ca, .slice B m.length cb] w fun e w' => e = .returned (.bool (decide (l = m))) ∧ Below w.heap.size w w' := by
  by_cases hlm : l.length = m.length
  · go_enter Tryz.func45, Tryz.ntmps45
    go_wp2
    go_loopw [5] (fun i wr => ∃ k : Nat, k ≤ l.length ∧ i = (Value.int .i64 ((k : Int))) ∧ (∀ j, j < k → pat l j = pat m j) ∧ Below w.heap.size w wr) (fun i _ => l.length - (intOf i).toNat)
    case atStart => exact ⟨0, Nat.zero_le _, rfl, (fun j hj => by omega), by (repeat (first | with_reducible exact Below.refl _ _ | with_reducible apply bl_alloc | with_reducible apply bl_drew | with_reducible apply bl_after | (with_reducible refine bl_call ?_ (by assumption))))⟩
    case round =>
      obtain ⟨k, kn, rfl, HR, hbw⟩ := hrel
      replace HR := Lib.hid HR
      by_cases hlt : k < l.length
      · obtain ⟨b, o, rfl, pa⟩ := (ha.below hbw).at_ hlt
        have hlt2 : k < m.length := by omega
        obtain ⟨b', o', rfl, pb⟩ := (hb.below hbw).at_ hlt2
        have x1 := pa.xp hlt
        have x2 := pa.yp hlt
        have lb := pa.lt
        have x3 := pb.xp hlt2
        have x4 := pb.yp hlt2
        have lb2 := pb.lt
        by_cases he : pat l k = pat m k
        · have he' : decide (pat l k = pat m k) = true := by simpa using he
          go_wp2
          refine wp_region_after (by kernel_rfl) (by kernel_rfl) ?_; (repeat (go_big_quiet_step ((fail)))); refine wpQuiet_nil ?_; rintro _ ⟨z, rfl⟩; (first | ((with_reducible apply kp_in_after (z := z)); (with_reducible assumption); rintro ⟨hk, hc, hf, hzc, hzf⟩) | ((with_reducible refine kp_in_after0 z ?_); rintro ⟨hk, hc, hf, hzc, hzf⟩))
          go_wp2
          go_roundw
          case rel => exact ⟨k + 1, by omega, by go_num, (fun j hj => by rcases Nat.lt_succ_iff_lt_or_eq.1 hj with h | h; exact HR.out j h; subst h; exact he), by (repeat (first | with_reducible exact Below.refl _ _ | with_reducible apply bl_alloc | with_reducible apply bl_drew | with_reducible apply bl_after | (with_reducible refine bl_call ?_ (by assumption))))⟩
          case measure => simp [intOf]; omega
        · have he' : decide (pat l k = pat m k) = false := by simpa using he
          go_wp2
          refine wp_region_after (by kernel_rfl) (by kernel_rfl) ?_; (repeat (go_big_quiet_step ((fail)))); refine wpQuiet_nil ?_; rintro _ ⟨z, rfl⟩; (first | ((with_reducible apply kp_in_after (z := z)); (with_reducible assumption); rintro ⟨hk, hc, hf, hzc, hzf⟩) | ((with_reducible refine kp_in_after0 z ?_); rintro ⟨hk, hc, hf, hzc, hzf⟩))
          go_wp2
          go_ret
          refine ⟨ret_bool (decide_eq_false fun h => he (by rw [h])).symm, by (repeat (first | with_reducible exact Below.refl _ _ | with_reducible apply bl_alloc | with_reducible apply bl_drew | with_reducible apply bl_after | (with_reducible refine bl_call ?_ (by assumption))))⟩
      · go_wp2
        go_ret
        obtain rfl : k = l.length := by omega
        refine ⟨ret_bool (decide_eq_true (pt_ext hlm HR.out)).symm, by (repeat (first | with_reducible exact Below.refl _ _ | with_reducible apply bl_alloc | with_reducible apply bl_drew | with_reducible apply bl_after | (with_reducible refine bl_call ?_ (by assumption))))⟩
  · go_enter Tryz.func45, Tryz.ntmps45
    have h : ¬ l = m := fun h => hlm (by rw [h])
    go_wp2
    go_ret
    refine ⟨ret_bool (decide_eq_false h).symm, by (repeat (first | with_reducible exact Below.refl _ _ | with_reducible apply bl_alloc | with_reducible apply bl_drew | with_reducible apply bl_after | (with_reducible refine bl_call ?_ (by assumption))))⟩
end Go.Proofs.YthijegacjboclaaGreat
