/- Rows of points that the call made, changed in place by slices.SortFunc and slices.Reverse; slices.Clone of points. -/
import Derived.Shelf.SlicesQ.Reverse
import Derived.Test.YtijpolfmiajenaaHsr
import Derived.Test.YtijpolfmiajenaaHpl
import Derived.Test.YtijpolfmiajenaaFind
import Derived.Lib.SliceRun
import Derived.Deep.AppendLies
namespace Go.Proofs.Ytijpolfmiajenaa
open Go.RowKit Go.Sort Go.Shelf
attribute [local go_sem] After.cell After.frozen

def revA_ren : Go.Shelf.Ren := ⟨fun | 35 => 80 | n => n, fun | 0 => 0 | 3 => 3 | 4 => 4 | 22 => 22 | 23 => 33 | n => n, fun n => n⟩
theorem revA : SlLaysE0.n35 Try.prog revA_ren := {
  mixed := by kernel_rfl,
  f35 := ⟨Try.f80.name, by decide, Try.func80.trans (congrArg some (by kernel_rfl))⟩,
  t0 := Try.underlying0,
  a0 := Try.isAgg0,
  z0 := Try.sizeOf0,
  v0 := Try.zeroValue0,
  t3 := Try.underlying3,
  a3 := Try.isAgg3,
  z3 := Try.sizeOf3,
  v3 := Try.zeroValue3,
  t4 := Try.underlying4,
  a4 := Try.isAgg4,
  z4 := Try.sizeOf4,
  v4 := Try.zeroValue4,
  t22 := Try.underlying22,
  a22 := Try.isAgg22,
  z22 := Try.sizeOf22,
  v22 := Try.zeroValue22 }

/-- A row of points in a block that the call made. -/
structure PtRow (W : World) (B g cap : Nat) (ls : List Pt) : Prop where
  base : B ≤ g
  lt : g < W.heap.size
  le : ls.length ≤ cap
  mx : cap ≤ 9223372036854775807
  hold : HoldsK encP 2 W g 0 ls.toArray
theorem encP_len (x : Pt) : (encP x).length = 2 := rfl
theorem encP_one (x : Pt) : ∀ v ∈ encP x, v.oneCell' = true := fun v hv => by
  simp [encP] at hv
  rcases hv with rfl | rfl <;> rfl
theorem holdsP_get {W : World} {g : Nat} {ls : List Pt} (h : HoldsK encP 2 W g 0 ls.toArray) {i : Nat} (hi : i < ls.length) : W.cell? ⟨g, i * 2, none⟩ = some (Value.int .i64 ((pat ls i).1)) ∧ W.cell? ⟨g, i * 2 + 1, none⟩ = some (Value.int .i64 ((pat ls i).2)) := by
  have h0 := (HoldsK.cell h (i := i) (c := 0) (by simpa using hi) (by decide)).1
  have h1 := (HoldsK.cell h (i := i) (c := 1) (by simpa using hi) (by decide)).1
  rw [Nat.zero_add] at h0 h1
  have e : ls.toArray[i]! = pat ls i := by simp [pat, List.getD, hi]
  rw [e] at h0 h1
  exact ⟨h0, h1⟩
theorem PtRow.pts {W : World} {B g cap : Nat} {ls : List Pt} (h : PtRow W B g cap ls) : PtsAt W g 0 ls := by
  refine ⟨h.lt, fun i p hi => ?_, fun i p hi => ?_⟩
  · obtain ⟨h1, h2⟩ := List.getElem?_eq_some_iff.1 hi
    rw [Nat.zero_add, (holdsP_get h.hold h1).1, ← h2, pat_eq h1]
  · obtain ⟨h1, h2⟩ := List.getElem?_eq_some_iff.1 hi
    rw [Nat.zero_add, (holdsP_get h.hold h1).2, ← h2, pat_eq h1]
theorem PtRow.of_row {W : World} {B g cap n : Nat} {ls : List Pt} (h : W.ownsRow B 33 2 (.slice (some ⟨g, 0, none⟩) n cap) n (ptsV ls)) : n = ls.length ∧ PtRow W B g cap ls := by
  have hn : n = ls.length := by
    have h1 := h.1
    rw [ptsV_len] at h1
    omega
  refine ⟨hn, ?_⟩
  have hp := ptsAt_own h
  obtain ⟨k1, k2⟩ := h.lt g rfl
  rcases h.2 with ⟨h0, _⟩ | ⟨g', cap', cur, h0, hb, hc, hle, hm, -⟩
  · simp at h0
  · simp at h0
    obtain ⟨rfl, rfl⟩ := h0
    refine ⟨k1, k2, by omega, by unfold maxLen at hm; omega, fun j hj => ?_⟩
    rw [size_flatK] at hj
    rw [getElem!_pos _ j (by rw [size_flatK]; exact hj)] at *
    have hgf := get_flatK encP 2 ls.toArray j hj
    rw [getElem!_pos _ j (by rw [size_flatK]; exact hj)] at hgf
    have hj2 : j / 2 < ls.length := by simp at hj; omega
    have e : ls.toArray[j / 2]! = pat ls (j / 2) := by simp [pat, List.getD, hj2]
    rw [hgf, e]
    refine ⟨?_, h.frozenAt _⟩
    rcases Nat.mod_two_eq_zero_or_one j with q | q
    · have := hp.xp hj2
      rw [show 0 + j / 2 * 2 = 0 + j by omega] at this
      rw [this, q]
      rfl
    · have := hp.yp hj2
      rw [show 0 + j / 2 * 2 + 1 = 0 + j by omega] at this
      rw [this, q]
      rfl
theorem holdsP_block {W W' : World} {g : Nat} {d : Array Pt} (h : HoldsK encP 2 W g 0 d) (hb : W'.heap[g]? = W.heap[g]?) : HoldsK encP 2 W' g 0 d := fun j hj => by
  have := h j hj
  exact ⟨(World.cell?_of_block (w := W) (w' := W') (a := ⟨g, 0 + j, none⟩) hb).trans this.1, (World.frozen?_of_block (w := W) (w' := W') (a := ⟨g, 0 + j, none⟩) hb).trans this.2⟩
theorem PtRow.kept {W W' : World} {B g cap : Nat} {ls : List Pt} {row : Option Nat} (h : PtRow W B g cap ls) (hg : W.grownBy W' row) (hne : some g ≠ row) : PtRow W' B g cap ls :=
  ⟨h.base, Nat.lt_of_lt_of_le h.lt hg.size, h.le, h.mx, holdsP_block h.hold (hg.block g h.lt hne)⟩
theorem putK_grown (W : World) (g q : Nat) (d : Array Pt) (os : Array Obj) : W.grownBy (grow (putRowK encP 2 (Sort.ahead W q) g 0 d) os) (some g) := by
  refine ⟨rfl, rfl, rfl, by simp [putRowK, putRow, mapBlock, grow, Sort.ahead], fun k hk hne => ?_⟩
  have hkg : g ≠ k := fun e => hne (by rw [e])
  simp only [grow]
  rw [Array.getElem?_append_left (by simpa [putRowK, putRow, mapBlock, Sort.ahead] using hk)]
  unfold putRowK putRow mapBlock Sort.ahead
  simp [Array.getElem?_modify, hkg]
theorem sortP_ok (B g cap : Nat) (l : List Pt) (w : World) (h : PtRow w B g cap l) (hsz : l.length < 4611686018427387904) :
    Calls Try.prog 78 #[.slice (some ⟨g, 0, none⟩) l.length cap, .func (.func 74) #[] #[]] w fun e w' => e = .returned (.tuple #[]) ∧ w.grownBy w' (some g) ∧ PtRow w' B g cap (srt2 l) := by
  refine (sortF_any g cap l w h.hold h.lt hsz).mono ?_
  rintro e w' ⟨rfl, n, os, rfl⟩
  have hlen := srt2_len l
  refine ⟨rfl, putK_grown w g n _ os, h.base, lt_sortWorldK encP 2 w g 0 n _ os h.lt, by rw [hlen]; exact h.le, h.mx, ?_⟩
  exact holdsK_sortWorldK encP 2 w g 0 n l.toArray (srt2 l).toArray os h.lt h.hold (by simp [hlen])
theorem sortP_none (A : Option Addr) (cap : Nat) (w : World) :
    Calls Try.prog 78 #[.slice A 0 cap, .func (.func 74) #[] #[]] w fun e w' => e = .returned (.tuple #[]) ∧ w' = w :=
  AnyF.slices_SortFunc_none hsA A cap _ w
theorem revP_ok (B g cap : Nat) (l : List Pt) (w : World) (h : PtRow w B g cap l) (hsz : l.length < 4611686018427387904) :
    Calls Try.prog 80 #[.slice (some ⟨g, 0, none⟩) l.length cap] w fun e w' => e = .returned (.tuple #[]) ∧ w.grownBy w' (some g) ∧ PtRow w' B g cap l.reverse := by
  have hr := AnyQ.slices_Reverse revA 2 Try.isAgg33 Try.sizeOf33 encP encP_len encP_one g 0 cap l.toArray w h.hold (by simp; omega)
  refine (show Calls Try.prog 80 #[.slice (some ⟨g, 0, none⟩) l.length cap] w _ from hr).mono ?_
  rintro e w' ⟨rfl, n, rfl⟩
  have hg := putK_grown w g n l.toArray.reverse #[]
  rw [grow_empty] at hg
  have h2 := holdsK_putRowK encP 2 (Sort.ahead w n) g 0 l.toArray l.toArray.reverse (holdsK_ahead encP 2 w n g 0 _ h.hold) (by simp)
  refine ⟨rfl, hg, h.base, Nat.lt_of_lt_of_le h.lt hg.size, by simpa using h.le, h.mx, ?_⟩
  have e : l.reverse.toArray = l.toArray.reverse := by simp
  rw [e]
  exact h2
theorem revP_none (A : Option Addr) (cap : Nat) (w : World) :
    Calls Try.prog 80 #[.slice A 0 cap] w fun e w' => e = .returned (.tuple #[]) ∧ w' = w :=
  AnyQ.slices_Reverse_empty revA A cap w

theorem eqlP_some (ad : Addr) (n c : Nat) (w : World) : (binOp .eql 22 (.slice (some ad) n c) (.slice none 0 0)).run Try.prog w = .ok (.bool false) w := Lib.run_eql_slice_nil w _ _ _ _ _ _ _ undPts
theorem eqlP_none (n c : Nat) (w : World) : (binOp .eql 22 (.slice none n c) (.slice none 0 0)).run Try.prog w = .ok (.bool true) w := Lib.run_eql_slice_nil w _ _ _ _ _ _ _ undPts
attribute [local go_sem high] eqlP_some eqlP_none

set_option maxRecDepth 100000 in
set_option maxHeartbeats 1000000 in
theorem cloneP_any (A : Option Addr) (ca : Nat) (l : List Pt) (w : World) (hp : Pts w A l) (hl : l.length ≤ 1000) :
    Calls Try.prog 77 #[.slice A l.length ca] w fun e w' => (∃ v, e = .returned v ∧ w'.ownsRow w.heap.size 33 2 v l.length (ptsV l)) ∧ Below w.heap.size w w' := by
  obtain ⟨ti, hi0, hz0, hz1, hz2⟩ := info_parts infoPt
  cases A with
  | none =>
    have h0 := hp.nil
    subst h0
    go_enter Try.func77, Try.ntmps77
    go_wp2
    go_ret
    exact ⟨⟨_, rfl, rfl, .inl ⟨rfl, rfl⟩⟩, by (repeat (first | with_reducible exact Below.refl _ _ | with_reducible apply bl_alloc | with_reducible apply bl_drew | with_reducible apply bl_after | (with_reducible refine bl_call ?_ (by assumption))))⟩
  | some ad =>
    go_enter Try.func77, Try.ntmps77
    have ho := World.ownsRow_made (base := w.heap.size) (e := 33) (size := 2) w #[] 0 (Nat.le_refl _) (by decide) rfl
    go_wp2_with (at_builtin; refine wpList_append_own _ rfl (.tmp 5) (.tmp 6) 22 rfl w.heap.size 33 ti _ 2 16 undPts hi0 hz0 hz1 hz2 rfl (by decide) _ 0 [] rfl ho ad l.length ca (ptsV l) rfl (ptsV_len l) (hp.alloc _).cellsV (ptsV_one l) (by unfold maxLen; omega) (by omega) (by simp) ?_)
    intro v' w1 hown hgrow _
    have hb : Below w.heap.size w w1 := bl_grown (by (repeat (first | with_reducible exact Below.refl _ _ | with_reducible apply bl_alloc | with_reducible apply bl_drew | with_reducible apply bl_after | (with_reducible refine bl_call ?_ (by assumption))))) ho hgrow
    (try rw [Nat.zero_add] at hown)
    have hfin : Hid (w1.ownsRow w.heap.size 33 2 v' l.length (ptsV l)) := Lib.hid (by simpa using hown)
    clear hown hgrow
    go_wp2
    go_ret
    exact ⟨⟨v', rfl, hfin.out⟩, hb⟩
theorem grown_refl (w : World) (row : Option Nat) : w.grownBy w row := ⟨rfl, rfl, rfl, Nat.le_refl _, fun _ _ _ => rfl⟩
theorem sortP_any (B c : Nat) (A : Option Addr) (l : List Pt) (w : World) (h : w.ownsRow B 33 2 (.slice A l.length c) l.length (ptsV l)) (hsz : l.length ≤ 1000) :
    Calls Try.prog 78 #[.slice A l.length c, .func (.func 74) #[] #[]] w fun e w' => e = .returned (.tuple #[]) ∧ w.grownBy w' (Value.slice A l.length c).ownBlock ∧ Pts w' A (srt2 l) := by
  rcases Nat.eq_zero_or_pos l.length with h0 | h0
  · have := List.eq_nil_of_length_eq_zero h0
    subst this
    refine (sortP_none A c w).mono ?_
    rintro e w' ⟨rfl, rfl⟩
    exact ⟨rfl, grown_refl _ _, .inl (by simp [srt2])⟩
  · obtain ⟨g, cap, e, -, -⟩ := h.form (by omega)
    cases e
    obtain ⟨-, hr⟩ := PtRow.of_row h
    refine (sortP_ok B g c l w hr (by omega)).mono ?_
    rintro e w' ⟨rfl, h1, h2⟩
    exact ⟨rfl, h1, .inr ⟨g, 0, rfl, h2.pts⟩⟩
theorem revP_any (B c : Nat) (A : Option Addr) (l : List Pt) (w : World) (h : w.ownsRow B 33 2 (.slice A l.length c) l.length (ptsV l)) (hsz : l.length ≤ 1000) :
    Calls Try.prog 80 #[.slice A l.length c] w fun e w' => e = .returned (.tuple #[]) ∧ w.grownBy w' (Value.slice A l.length c).ownBlock ∧ Pts w' A l.reverse := by
  rcases Nat.eq_zero_or_pos l.length with h0 | h0
  · have := List.eq_nil_of_length_eq_zero h0
    subst this
    refine (revP_none A c w).mono ?_
    rintro e w' ⟨rfl, rfl⟩
    exact ⟨rfl, grown_refl _ _, .inl rfl⟩
  · obtain ⟨g, cap, e, -, -⟩ := h.form (by omega)
    cases e
    obtain ⟨-, hr⟩ := PtRow.of_row h
    refine (revP_ok B g c l w hr (by omega)).mono ?_
    rintro e w' ⟨rfl, h1, h2⟩
    exact ⟨rfl, h1, .inr ⟨g, 0, rfl, h2.pts⟩⟩
theorem Hull1_any (p : Pt) (w : World) : Calls Try.prog 73 #[(Value.agg #[.int .i64 p.1, .int .i64 p.2])] w fun e w' => e = .returned (.bool (!isPt p)) ∧ Below w.heap.size w w' := by
  go_enter Try.func73, Try.ntmps73
  go_wp2_with (go_at_call 52; with_reducible refine Calls.mono (isPoint_any _ _) ?_; rintro e w1 ⟨rfl, hb1⟩; first | ((with_reducible apply kp_in_step (hb := hb1)); (with_reducible assumption); rintro ⟨hk, hc, hf, hzc, hzf⟩) | ((with_reducible refine kp_in_first hb1 ?_); rintro ⟨hk, hc, hf, hzc, hzf⟩))
  go_ret
  exact ⟨rfl, by (repeat (first | with_reducible exact Below.refl _ _ | with_reducible apply bl_alloc | with_reducible apply bl_drew | with_reducible apply bl_after | (with_reducible refine bl_call ?_ (by assumption))))⟩
end Go.Proofs.Ytijpolfmiajenaa
