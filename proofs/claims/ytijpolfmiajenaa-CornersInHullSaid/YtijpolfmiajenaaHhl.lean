/- The function corners.Hull: two chains over the sorted points, if these are at most 10 and within bounds. -/
import Derived.Test.YtijpolfmiajenaaHrw
import Derived.Test.YtijpolfmiajenaaHhf
import Derived.Test.YtijpolfmiajenaaCheck
namespace Go.Proofs.Ytijpolfmiajenaa
open Go.RowKit Go.Sort
attribute [local go_sem] After.cell After.frozen

theorem HF.bl {w X Y : World} {go : Nat} {row : Option Nat} (h : HF X Y go row) (hb : Below w.heap.size w X) (hg : w.heap.size ≤ go) (hr : ∀ k, row = some k → w.heap.size ≤ k) : Below w.heap.size w Y :=
  ⟨h.os.trans hb.os, h.tape.trans hb.tape, h.output.trans hb.output, Nat.le_trans hb.size h.size, fun k hk => (h.block k (Nat.lt_of_lt_of_le hk hb.size) (by omega) (fun q => by have := hr k q.symm; omega)).trans (hb.block k hk)⟩
theorem Pts.hf {w X : World} {go : Nat} {row : Option Nat} {A : Option Addr} {l : List Pt} (h : HF w X go row) (hp : Pts w A l) (hs : ∀ b o, A = some ⟨b, o, none⟩ → b ≠ go ∧ some b ≠ row) : Pts X A l := by
  rcases hp with rfl | ⟨b, o, rfl, hp⟩
  · exact .inl rfl
  · obtain ⟨h1, h2⟩ := hs b o rfl
    exact .inr ⟨b, o, rfl, h.pts hp h1 h2⟩
theorem Pts.take {w : World} {A : Option Addr} {l : List Pt} (h : Pts w A l) : Pts w A l.dropLast := by
  rcases h with rfl | ⟨b, o, rfl, hp⟩
  · exact .inl rfl
  · refine .inr ⟨b, o, rfl, hp.lt, fun i p hi => ?_, fun i p hi => ?_⟩
    · rw [List.getElem?_dropLast] at hi
      split at hi
      · exact hp.x i p hi
      · simp at hi
    · rw [List.getElem?_dropLast] at hi
      split at hi
      · exact hp.y i p hi
      · simp at hi
/-- What Hull answers. -/
def hullA (l : List Pt) : List Pt := if PtsB l ∧ 3 ≤ (hullL (srt2 l)).length then hullL (srt2 l) else []
def hullE (l : List Pt) : Int := if PtsB l then (if 3 ≤ (hullL (srt2 l)).length then 0 else 3) else 1

set_option maxRecDepth 100000 in
set_option maxHeartbeats 2000000 in
theorem Hull_bad (A : Option Addr) (ca : Nat) (l : List Pt) (w : World) (hp : Pts w A l) (hl : l.length ≤ 1000) (hB : ¬ PtsB l) :
    Calls Try.prog 41 #[.slice A l.length ca] w fun e w' => e = .returned (.tuple #[.slice none 0 0, (Value.int .i64 (1))]) ∧ Below w.heap.size w w' := by
  have hCF := Lib.hid (ContainsFunc_any A ca 73 #[] (fun p => !isPt p) l w hp (by omega) (enters_of Try.func73 (by kernel_rfl) rfl) (fun p W _ => Hull1_any p W))
  by_cases h10 : l.length ≤ 10
  · have hany : (l.any fun p => !isPt p) = true := by
      rcases hb : (l.any fun p => !isPt p) with _ | _
      · exact absurd ⟨h10, fun i hi => Classical.byContradiction fun q => by have := (anyNot l).2 (fun h => q (h i hi)); rw [hb] at this; cases this⟩ hB
      · rfl
    rw [hany] at hCF
    clear hany hB
    have z1 : decide ((10 : Int) < (l.length : Int)) = false := by simp; omega
    go_enter Try.func41, Try.ntmps41
    go_wp2_with (go_at_call 50; with_reducible refine Calls.mono (hCF.out) ?_; rintro e w1 ⟨rfl, hb1⟩; first | ((with_reducible apply kp_in_step (hb := hb1)); (with_reducible assumption); rintro ⟨hk, hc, hf, hzc, hzf⟩) | ((with_reducible refine kp_in_first hb1 ?_); rintro ⟨hk, hc, hf, hzc, hzf⟩))
    go_ret2
    exact ⟨rfl, by (repeat (first | with_reducible exact Below.refl _ _ | with_reducible apply bl_alloc | with_reducible apply bl_drew | with_reducible apply bl_after | (with_reducible refine bl_call ?_ (by assumption))))⟩
  · have z1 : decide ((10 : Int) < (l.length : Int)) = true := by simp; omega
    clear hB hCF
    go_enter Try.func41, Try.ntmps41
    go_wp2
    go_ret2
    exact ⟨rfl, by (repeat (first | with_reducible exact Below.refl _ _ | with_reducible apply bl_alloc | with_reducible apply bl_drew | with_reducible apply bl_after | (with_reducible refine bl_call ?_ (by assumption))))⟩

/-- The points K, if there are three at least; else none and ErrNone. -/
def HullR (K : List Pt) (e : Ending) (w' : World) : Prop := if 3 ≤ K.length then (∃ g c, e = .returned (.tuple #[.slice (some ⟨g, 0, none⟩) K.length c, (Value.int .i64 (0))]) ∧ PtsAt w' g 0 K) else e = .returned (.tuple #[.slice none 0 0, (Value.int .i64 (3))])
theorem own_mono3 {w : World} {b b' : Nat} {e : TypeId} {size n : Nat} {v : Value} {xs : List Value} (h : w.ownsRow b e size v n xs) (hb : b' ≤ b) : w.ownsRow b' e size v n xs :=
  ⟨h.1, h.2.imp id fun ⟨g, cap, cur, e, hg, r⟩ => ⟨g, cap, cur, e, Nat.le_trans hb hg, r⟩⟩
theorem own_cap {w : World} {b : Nat} {e : TypeId} {size n c : Nat} {A : Option Addr} {xs : List Value} (h : w.ownsRow b e size (.slice A n c) n xs) : n ≤ c := by
  rcases h.2 with ⟨h0, h1⟩ | ⟨g, cap, cur, h0, -, -, hc, -⟩
  · omega
  · injection h0 with h1 h2 h3; omega
theorem blk_grown2 {W W' : World} {g : Nat} {t : TypeId} {us : Array Value} {row : Option Nat} (h : Blk W g t us) (hg : W.grownBy W' row) (hne : some g ≠ row) : Blk W' g t us := (hg.block g h.lt hne).trans h

set_option maxRecDepth 100000 in
set_option maxHeartbeats 8000000 in
theorem Hull_nil (A : Option Addr) (ca : Nat) (w : World) :
    Calls Try.prog 41 #[.slice A 0 ca] w fun e w' => e = .returned (.tuple #[.slice none 0 0, (Value.int .i64 (3))]) ∧ Below w.heap.size w w' := by
  have hCF := Lib.hid (ContainsFunc_any A ca 73 #[] (fun p => !isPt p) [] w (.inl rfl) (by decide) (enters_of Try.func73 (by kernel_rfl) rfl) (fun p W _ => Hull1_any p W))
  rw [show ([] : List Pt).any (fun p => !isPt p) = false from rfl, List.length_nil] at hCF
  have hcl := Lib.hid fun (V : World) (h : Below w.heap.size w V) => cloneP_any A ca [] V (.inl rfl) (by decide)
  simp only [List.length_nil] at hcl
  go_enter Try.func41, Try.ntmps41
  go_upto_region 4 with (go_at_call 50; with_reducible refine Calls.mono (hCF.out) ?_; rintro e w1 ⟨rfl, hb1⟩; first | ((with_reducible apply kp_in_step (hb := hb1)); (with_reducible assumption); rintro ⟨hk, hc, hf, hzc, hzf⟩) | ((with_reducible refine kp_in_first hb1 ?_); rintro ⟨hk, hc, hf, hzc, hzf⟩))
  go_upto_region 5 with ((go_at_call 77); (with_reducible refine Calls.mono (hcl.out _ (by (repeat (first | with_reducible exact Below.refl _ _ | with_reducible apply bl_alloc | with_reducible apply bl_drew | with_reducible apply bl_after | (with_reducible refine bl_call ?_ (by assumption)))))) ?_); rintro e wn ⟨⟨v, rfl, hown⟩, hbn⟩; first | ((with_reducible apply kp_in_step (hb := hbn)); (with_reducible assumption); rintro ⟨hk, hc, hf, hzc, hzf⟩) | ((with_reducible refine kp_in_first hbn ?_); rintro ⟨hk, hc, hf, hzc, hzf⟩))
  have hb2 : Below w.heap.size w wn := by (repeat (first | with_reducible exact Below.refl _ _ | with_reducible apply bl_alloc | with_reducible apply bl_drew | with_reducible apply bl_after | (with_reducible refine bl_call ?_ (by assumption))))
  ((try clear hk hc hf hzc hzf); (try clear hk hc hf hzc hzf); (try clear hk hc hf hzc hzf); (try clear hk hc hf hzc hzf))
  obtain ⟨A1, c1, rfl⟩ := own_form hown
  have hA1 : ∀ b o, A1 = some ⟨b, o, none⟩ → b < wn.heap.size := fun b o e => (hown.lt b (by rw [e]; rfl)).2
  clear hown hbn hb1
  generalize wn = w2 at *
  go_upto_region 6 with ((go_at_call 78); (with_reducible refine Calls.mono (sortP_none _ _ _) ?_); rintro e w2 ⟨rfl, rfl⟩)
  go_upto_region 8 with fail
  have c3 := Blk.new w2 22 #[.slice none 0 0]
  have hb3 : Below w.heap.size w (w2.alloc (.cells #[.slice none 0 0] 22)) := hb2.alloc hb2.size _
  have hO3 := World.ownsRow_nil (w2.alloc (.cells #[.slice none 0 0] 22)) (w2.heap.size + 1) 33 2
  have hs3 : (w2.alloc (.cells #[.slice none 0 0] 22)).heap.size = w2.heap.size + 1 := by simp
  have hfl := Lib.hid (half_any A1 c1 w2.heap.size (w2.heap.size + 1) [] [] [] (.slice none 0 0) _ (.inl rfl) (fun b o e => ⟨by have := hA1 b o e; omega, by simp [Value.ownBlock]⟩) c3 hO3 (by omega) (by omega) (fun i h => absurd h (by simp)) (by simp) (by simp))
  simp only [List.length_nil] at hfl
  have hgo : w.heap.size ≤ w2.heap.size := hb2.size
  clear hO3 hs3 hA1 hb2
  generalize w2.alloc (.cells #[.slice none 0 0] 22) = w3 at *
  generalize w2.heap.size = go at *
  go_upto_region 9 with ((go_at_call 79); (with_reducible refine Calls.mono hfl.out ?_); rintro e w4 ⟨rfl, v4, st4, hst4, c4, hO4, hF4, hR4⟩)
  have hb4 := hF4.bl hb3 hgo (fun k h => by simp [Value.ownBlock] at h)
  rw [List.foldl_nil] at hst4
  subst hst4
  obtain ⟨A4, n4, rfl⟩ := own_form hO4
  have y0 := c4.cell 0
  have l0 := c4.lt
  simp only [List.getElem?_toArray, List.getElem?_cons_zero, List.length_nil, Nat.add_zero] at y0
  clear hfl hO4 hF4 hR4 c4 c3 hb3
  go_wp2
  go_ret2
  exact ⟨rfl, hb4⟩

set_option maxRecDepth 100000 in
set_option maxHeartbeats 8000000 in
theorem Hull_some (A : Option Addr) (ca m : Nat) (l : List Pt) (w : World) (hp : Pts w A l) (hB : PtsB l) (hm : l.length = m + 1) :
    Calls Try.prog 41 #[.slice A (m + 1) ca] w fun e w' => HullR (hullL (srt2 l)) e w' ∧ Below w.heap.size w w' := by
  have h10 : m + 1 ≤ 10 := hm ▸ hB.1
  have hany : (l.any fun p => !isPt p) = false := by
    rcases hb : (l.any fun p => !isPt p) with _ | _
    · rfl
    · exact absurd hB.2 ((anyNot l).1 hb)
  have hCF := Lib.hid (ContainsFunc_any A ca 73 #[] (fun p => !isPt p) l w hp (by omega) (enters_of Try.func73 (by kernel_rfl) rfl) (fun p W _ => Hull1_any p W))
  rw [hany, hm] at hCF
  clear hany
  have hcl := Lib.hid fun (V : World) (h : Below w.heap.size w V) => cloneP_any A ca l V (hp.below h) (by omega)
  simp only [hm] at hcl
  have hsl : (srt2 l).length = m + 1 := by rw [srt2_len, hm]
  have hsp : ∀ i, i < (srt2 l).length → isPt (pat (srt2 l) i) = true := fun i hi => by
    obtain ⟨j, hj, e⟩ := mem_pat2 (srt2_mem.1 (pat_inl hi))
    rw [← e]
    exact hB.2 j hj
  obtain ⟨t, ht⟩ := fold_top (srt2 l) [] (fun e => by rw [e] at hsl; simp at hsl)
  have hPB := Lib.hid (And.intro hsp (And.intro hsl (And.intro ht hm)))
  clear hB hp hsp hsl ht
  have z1 : decide ((10 : Int) < (m : Int) + 1) = false := by simp; omega
  go_enter Try.func41, Try.ntmps41
  go_upto_region 4 with (go_at_call 50; with_reducible refine Calls.mono (hCF.out) ?_; rintro e w1 ⟨rfl, hb1⟩; first | ((with_reducible apply kp_in_step (hb := hb1)); (with_reducible assumption); rintro ⟨hk, hc, hf, hzc, hzf⟩) | ((with_reducible refine kp_in_first hb1 ?_); rintro ⟨hk, hc, hf, hzc, hzf⟩))
  go_upto_region 5 with ((go_at_call 77); (with_reducible refine Calls.mono (hcl.out _ (by (repeat (first | with_reducible exact Below.refl _ _ | with_reducible apply bl_alloc | with_reducible apply bl_drew | with_reducible apply bl_after | (with_reducible refine bl_call ?_ (by assumption)))))) ?_); rintro e wn ⟨⟨v, rfl, hown⟩, hbn⟩; first | ((with_reducible apply kp_in_step (hb := hbn)); (with_reducible assumption); rintro ⟨hk, hc, hf, hzc, hzf⟩) | ((with_reducible refine kp_in_first hbn ?_); rintro ⟨hk, hc, hf, hzc, hzf⟩))
  have hb1' : Below w.heap.size w wn := by (repeat (first | with_reducible exact Below.refl _ _ | with_reducible apply bl_alloc | with_reducible apply bl_drew | with_reducible apply bl_after | (with_reducible refine bl_call ?_ (by assumption))))
  ((try clear hk hc hf hzc hzf); (try clear hk hc hf hzc hzf); (try clear hk hc hf hzc hzf); (try clear hk hc hf hzc hzf))
  replace hown := own_mono3 hown hb1.size
  clear hbn hb1
  obtain ⟨b1, c1, rfl, -, -⟩ := hown.form (by omega)
  have hcap := own_cap hown
  have hso := Lib.hid (by have := sortP_any w.heap.size c1 (some ⟨b1, 0, none⟩) l wn (by rw [hm]; exact hown) (by omega); rw [hm] at this; exact this)
  go_upto_region 6 with ((go_at_call 78); (with_reducible refine Calls.mono hso.out ?_); rintro e w2 ⟨rfl, hg2, hP2⟩)
  have hb2 : Below w.heap.size w w2 := bl_grown hb1' hown hg2
  have hA1 : b1 < w2.heap.size := Nat.lt_of_lt_of_le (hown.lt b1 rfl).2 hg2.size
  clear hso hg2 hown hb1' hCF hcl
  go_upto_region 8 with fail
  have c3 := Blk.new w2 22 #[.slice none 0 0]
  have hb3 : Below w.heap.size w (w2.alloc (.cells #[.slice none 0 0] 22)) := hb2.alloc hb2.size _
  have hO3 := World.ownsRow_nil (w2.alloc (.cells #[.slice none 0 0] 22)) (w2.heap.size + 1) 33 2
  have hs3 : (w2.alloc (.cells #[.slice none 0 0] 22)).heap.size = w2.heap.size + 1 := by simp
  have hP3 := hP2.alloc (.cells #[.slice none 0 0] 22)
  have hfl := Lib.hid (half_any (some ⟨b1, 0, none⟩) c1 w2.heap.size (w2.heap.size + 1) (srt2 l) [] [] (.slice none 0 0) _ hP3 (fun b o e => ⟨by cases e; omega, by simp [Value.ownBlock]⟩) c3 hO3 (by omega) (by omega) hPB.out.1 (by simp) (by rw [hPB.out.2.1]; simp; omega))
  simp only [hPB.out.2.1, List.length_nil] at hfl
  have hgo : w.heap.size ≤ w2.heap.size := hb2.size
  clear hO3 hs3 hb2 hP2
  generalize w2.alloc (.cells #[.slice none 0 0] 22) = w3 at *
  generalize w2.heap.size = go at *
  go_upto_region 9 with ((go_at_call 79); (with_reducible refine Calls.mono hfl.out ?_); rintro e w4 ⟨rfl, v4, st4, hst4, c4, hO4, hF4, hR4⟩)
  have hb4 := hF4.bl hb3 hgo (fun k h => by simp [Value.ownBlock] at h)
  have hP4 := hP3.hf hF4 (fun b o e => ⟨by cases e; omega, by simp [Value.ownBlock]⟩)
  rw [hPB.out.2.2.1] at hst4
  subst hst4
  clear hfl hF4 hR4 hb3 hP3 c3
  have hO4' : w4.ownsRow (go + 1) 33 2 v4 (t.length + 1) (ptsV (t.reverse ++ [lastP (srt2 l)])) := by simpa [lastP] using hO4
  clear hO4
  obtain ⟨g4, d4, rfl, hg4, hl4⟩ := hO4'.form (by omega)
  have hTL : t.length ≤ m := by
    have h1 := fold_len (srt2 l) []
    rw [hPB.out.2.2.1, hPB.out.2.1] at h1
    simp at h1
    omega
  have hcl2 := Lib.hid (by have := cloneP_any (some ⟨b1, 0, none⟩) c1 (srt2 l).dropLast w4 hP4.take (by rw [List.length_dropLast, hPB.out.2.1]; omega); rw [List.length_dropLast, hPB.out.2.1, Nat.add_sub_cancel] at this; exact this)
  have y0 := c4.cell 0
  have l0 := c4.lt
  simp only [List.getElem?_toArray, List.getElem?_cons_zero] at y0
  have k1 : m ≤ c1 := by omega
  have k2 : (m : Int) ≤ (c1 : Int) := by omega
  have k3 : ((m : Int) + 1 - 1) = (m : Int) := by omega
  have k4 : decide ((0 : Int) < (t.length : Int) + 1) = true := decide_eq_true (by omega)
  have hN := Lib.hid (show t.length = t.length from rfl)
  go_upto_region 11 with ((go_at_call 77); (with_reducible refine Calls.mono hcl2.out ?_); rintro e w5 ⟨⟨v, rfl, hown⟩, hb5⟩)
  obtain ⟨A5, c5, rfl⟩ := own_form hown
  have hrv := Lib.hid (by have := revP_any w4.heap.size c5 A5 (srt2 l).dropLast w5 (by rw [List.length_dropLast, hPB.out.2.1, Nat.add_sub_cancel]; exact hown) (by rw [List.length_dropLast, hPB.out.2.1]; omega); rw [List.length_dropLast, hPB.out.2.1, Nat.add_sub_cancel] at this; exact this)
  go_upto_region 12 with ((go_at_call 80); (with_reducible refine Calls.mono hrv.out ?_); rintro e w6 ⟨rfl, hg6, hP6⟩)
  have hb6 : Below w4.heap.size w4 w6 := bl_grown hb5 hown hg6
  have hbw6 : Below w.heap.size w w6 := bl_call hb4 hb6
  have hA5 : ∀ b o, A5 = some ⟨b, o, none⟩ → w4.heap.size ≤ b := fun b o e => (hown.lt b (by rw [e]; rfl)).1
  have c6 := c4.below hb6
  have hO6 := own_below hO4' hb6
  have hs6 : go + 1 ≤ w6.heap.size := by have := hb6.size; omega
  have hfl := Lib.hid (half_any A5 c5 go (go + 1) (srt2 l).dropLast.reverse t.reverse [lastP (srt2 l)] (.slice (some ⟨g4, 0, none⟩) (t.length + 1) d4) w6 hP6 (fun b o e => ⟨by have := hA5 b o e; omega, fun q => by have h1 := hA5 b o e; have h2 : b = g4 := (by injection q); omega⟩) c6 (by simpa using hO6) (by omega) hs6 (fun i hi => by
    have h1 := List.mem_reverse.1 (pat_inl hi)
    obtain ⟨j, hj, e⟩ := mem_pat2 (List.dropLast_subset _ h1)
    rw [← e]
    exact hPB.out.1 j hj) (fun x hx => by
    rw [List.mem_singleton.1 hx]
    obtain ⟨j, hj, e⟩ := mem_pat2 (lastP_mem (L := srt2 l) (fun e => by have := hPB.out.2.1; rw [e] at this; simp at this))
    rw [← e]
    exact hPB.out.1 j hj) (by simp [hPB.out.2.1]; omega))
  simp only [List.length_reverse, List.length_dropLast, hPB.out.2.1, Nat.add_sub_cancel] at hfl
  have y0 := c6.cell 0
  have l0 := c6.lt
  simp only [List.getElem?_toArray, List.getElem?_cons_zero] at y0
  clear hrv hcl2 hown hb5 hg6 hb6 hP6 hO6 hO4' hb4 hP4 c4 hA5
  go_upto_region 13 with ((go_at_call 79); (with_reducible refine Calls.mono hfl.out ?_); rintro e w7 ⟨rfl, v7, st7, hst7, c7, hO7, hF7, hR7⟩)
  have hb7 := hF7.bl hbw6 hgo (fun k h => by have h2 : g4 = k := (by injection h); omega)
  have e7 : t.reverse ++ st7.reverse = hullL (srt2 l) ++ [(t.reverse ++ st7.reverse).getLast?.getD (0, 0)] ∧ t.length + st7.length = (hullL (srt2 l)).length + 1 := by
    have e1 : (upC (srt2 l)).reverse.dropLast = t.reverse := by
      unfold upC
      rw [hPB.out.2.2.1, List.reverse_cons, List.dropLast_concat]
    have e2 : hullL (srt2 l) = (t.reverse ++ st7.reverse).dropLast := by
      unfold hullL dnC
      rw [e1, hst7]
    have e3 : 0 < st7.length := by
      rw [hst7]
      rcases List.eq_nil_or_concat (srt2 l).dropLast.reverse with q | ⟨u, x, q⟩
      · rw [q]; simp
      · obtain ⟨t2, q2⟩ := fold_top (srt2 l).dropLast.reverse [lastP (srt2 l)] (by rw [q]; simp)
        rw [q2]; simp
    have e4 : t.reverse ++ st7.reverse ≠ [] := fun q => by
      have := congrArg List.length q
      rw [List.length_append, List.length_reverse, List.length_reverse, List.length_nil] at this
      omega
    rw [e2]
    refine ⟨?_, by simp; omega⟩
    rw [List.getLast?_eq_some_getLast e4]
    exact (List.dropLast_concat_getLast e4).symm
  obtain ⟨e7, e8⟩ := e7
  generalize (t.reverse ++ st7.reverse).getLast?.getD (0, 0) = zz at e7
  rw [e7, e8] at hO7
  clear e7 e8 hst7 hF7 hR7 hfl c6
  obtain ⟨g7, d7, rfl, hg7, hl7⟩ := hO7.form (by omega)
  have hO8 := own_cut hO7
  have hc7 := own_cap hO8
  have hk3 : (hullL (srt2 l)).length ≤ 1000 := by
    have l1 := fold_len (srt2 l) []
    have l2 := fold_len (srt2 l).dropLast.reverse [lastP (srt2 l)]
    have l3 := hPB.out.2.1
    unfold hullL upC dnC
    simp only [List.length_dropLast, List.length_append, List.length_reverse, List.length_cons, List.length_nil] at *
    omega
  generalize hKl : hullL (srt2 l) = K at *
  replace hKl := Lib.hid hKl
  generalize hKn : K.length = n at *
  replace hKn := Lib.hid hKn
  have y0 := c7.cell 0
  have l0 := c7.lt
  simp only [List.getElem?_toArray, List.getElem?_cons_zero] at y0
  have k1 : n ≤ d7 := by omega
  have k2 : (n : Int) ≤ (d7 : Int) := by omega
  have k3 : ((n : Int) + 1 - 1) = (n : Int) := by omega
  have k5 : max (0 : Int) (n : Int) = (n : Int) := by omega
  have f0 := c7.frozen 0
  go_upto_region 14 with fail
  have hb8 := hb7.setCell (p := ⟨go, 0, none⟩) hgo (.slice (some ⟨g7, 0, none⟩) n d7)
  have c8 := c7.set_ 0 (.slice (some ⟨g7, 0, none⟩) n d7)
  have hO9 := ownsRow_setCell_below hO8 (a := ⟨go, 0, none⟩) (by simp) (.slice (some ⟨g7, 0, none⟩) n d7)
  have hpF := Lib.hid (ptsAt_own hO9)
  clear hO7 hO8 hO9 hb7 c7 y0 l0 f0
  generalize w7.setCell ⟨go, 0, none⟩ (.slice (some ⟨g7, 0, none⟩) n d7) = w8 at *
  have y0 := c8.cell 0
  have l0 := c8.lt
  simp at y0
  by_cases h3 : 3 ≤ n
  · have k6 : decide ((n : Int) < 3) = false := decide_eq_false (by omega)
    replace h3 := Lib.hid h3
    clear c8
    go_wp2
    go_ret2
    have e9 := hKn.out
    subst e9
    rw [hKl.out]
    refine ⟨?_, hb8⟩
    unfold HullR
    rw [if_pos h3.out]
    exact ⟨g7, d7, rfl, hpF.out⟩
  · have k6 : decide ((n : Int) < 3) = true := decide_eq_true (by omega)
    replace h3 := Lib.hid h3
    clear c8
    go_wp2
    go_ret2
    have e9 := hKn.out
    subst e9
    rw [hKl.out]
    refine ⟨?_, hb8⟩
    unfold HullR
    rw [if_neg h3.out]
    rfl
theorem Hull_ok (A : Option Addr) (ca : Nat) (l : List Pt) (w : World) (hp : Pts w A l) (hB : PtsB l) :
    Calls Try.prog 41 #[.slice A l.length ca] w fun e w' => HullR (hullL (srt2 l)) e w' ∧ Below w.heap.size w w' := by
  rcases Nat.eq_zero_or_pos l.length with h0 | h0
  · have := List.eq_nil_of_length_eq_zero h0
    subst this
    refine (Hull_nil A ca w).mono ?_
    rintro e w' ⟨rfl, hb⟩
    have : HullR (hullL (srt2 [])) (.returned (.tuple #[.slice none 0 0, (Value.int .i64 (3))])) w' := by
      unfold HullR
      rw [if_neg (by simp [hullL, srt2, upC, dnC])]
    exact ⟨this, hb⟩
  · obtain ⟨m, hm⟩ : ∃ m, l.length = m + 1 := ⟨l.length - 1, by omega⟩
    rw [hm]
    exact Hull_some A ca m l w hp hB hm
end Go.Proofs.Ytijpolfmiajenaa
