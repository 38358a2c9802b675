/- The function half of corners.Hull puts points on the stack, from a place on, and strikes those at which it would not turn to the left. -/
import Derived.Test.YtijpolfmiajenaaInts
import Derived.Test.YtijpolfmiajenaaHul
import Derived.Deep.LoopGhost
import Derived.Deep.DeepCutAuto
import Derived.Deep.AppendLies
namespace Go.Proofs.Ytijpolfmiajenaa
open Go.RowKit
attribute [local go_sem] After.cell After.frozen

/-- All blocks that were there are as they were, but the box of the stack and its row. -/
structure HF (w w' : World) (go : Nat) (row : Option Nat) : Prop where
  os : w'.os = w.os
  tape : w'.tape = w.tape
  output : w'.output = w.output
  size : w.heap.size ≤ w'.heap.size
  block : ∀ k, k < w.heap.size → k ≠ go → some k ≠ row → w'.heap[k]? = w.heap[k]?
theorem HF.refl (w : World) (go : Nat) (row : Option Nat) : HF w w go row := ⟨rfl, rfl, rfl, Nat.le_refl _, fun _ _ _ _ => rfl⟩
theorem HF.below {w X Y : World} {go : Nat} {row : Option Nat} (h : HF w X go row) (hb : Below X.heap.size X Y) : HF w Y go row :=
  ⟨hb.os.trans h.os, hb.tape.trans h.tape, hb.output.trans h.output, Nat.le_trans h.size hb.size, fun k hk h1 h2 => (hb.block k (Nat.lt_of_lt_of_le hk h.size)).trans (h.block k hk h1 h2)⟩
theorem HF.set {w X : World} {go : Nat} {row : Option Nat} (h : HF w X go row) (u : Value) : HF w (X.setCell ⟨go, 0, none⟩ u) go row :=
  ⟨h.os, h.tape, h.output, by simpa using h.size, fun k hk h1 h2 => (Below.heap_setCell X ⟨go, 0, none⟩ u k h1).trans (h.block k hk h1 h2)⟩
/-- The row of the stack is the first one, or a new one. -/
def RowIs (w : World) (row v : Option Nat) : Prop := v = row ∨ ∀ k, v = some k → w.heap.size ≤ k
theorem HF.grown {w X Y : World} {go : Nat} {row v : Option Nat} (h : HF w X go row) (hr : RowIs w row v) (hg : X.grownBy Y v) : HF w Y go row :=
  ⟨hg.os.trans h.os, hg.tape.trans h.tape, hg.output.trans h.output, Nat.le_trans h.size hg.size, fun k hk h1 h2 => (hg.block k (Nat.lt_of_lt_of_le hk h.size) (fun q => by
    rcases hr with rfl | hr
    · exact h2 q
    · have := hr k q.symm; omega)).trans (h.block k hk h1 h2)⟩
theorem HF.pts {w X : World} {go b o : Nat} {row : Option Nat} {l : List Pt} (h : HF w X go row) (hp : PtsAt w b o l) (h1 : b ≠ go) (h2 : some b ≠ row) : PtsAt X b o l := by
  have hb := h.block b hp.lt h1 h2
  refine ⟨Nat.lt_of_lt_of_le hp.lt h.size, fun i q hi => ?_, fun i q hi => ?_⟩
  · exact (World.cell?_of_block (w := w) (w' := X) (a := ⟨b, o + i * 2, none⟩) hb).trans (hp.x i q hi)
  · exact (World.cell?_of_block (w := w) (w' := X) (a := ⟨b, o + i * 2 + 1, none⟩) hb).trans (hp.y i q hi)
theorem own_form {w : World} {B n : Nat} {e : TypeId} {v : Value} {xs : List Value} {size : Nat} (h : w.ownsRow B e size v n xs) : ∃ A c, v = .slice A n c := by
  rcases h.2 with ⟨rfl, rfl⟩ | ⟨g, c, cur, rfl, -⟩
  · exact ⟨none, 0, rfl⟩
  · exact ⟨_, _, rfl⟩
/-- A row cut by its last point. -/
theorem own_cut {w : World} {B n c : Nat} {A : Option Addr} {F : List Pt} {p : Pt} (h : w.ownsRow B 33 2 (.slice A (n + 1) c) (n + 1) (ptsV (F ++ [p]))) : w.ownsRow B 33 2 (.slice A n c) n (ptsV F) := by
  have hn : F.length = n := by
    have := h.1
    rw [ptsV_len] at this
    simp at this
    omega
  refine ⟨by rw [ptsV_len, hn], ?_⟩
  rcases h.2 with ⟨_, h0⟩ | ⟨g, cap, cur, e, h1, h2, h3, h4, h5, h6⟩
  · omega
  · injection e with e1 e2 e3
    subst e1
    subst e3
    refine .inr ⟨g, c, cur, rfl, h1, h2, by omega, h4, h5, ?_⟩
    have : cur.toList.take (n * 2) = (cur.toList.take ((n + 1) * 2)).take (n * 2) := by
      rw [List.take_take, Nat.min_eq_left (by omega)]
    rw [this, h6]
    have e2 : ∀ l m : List Pt, ptsV (l ++ m) = ptsV l ++ ptsV m := fun l m => by
      induction l with
      | nil => rfl
      | cons x l ih => rw [List.cons_append, ptsV, ptsV, ih]; rfl
    rw [e2, List.take_append_of_le_length (by rw [ptsV_len]; omega), List.take_of_length_le (by rw [ptsV_len]; omega)]
theorem pat_two {F0 t : List Pt} {a b : Pt} : pat (F0 ++ (b :: a :: t).reverse) (F0.length + t.length) = a ∧ pat (F0 ++ (b :: a :: t).reverse) (F0.length + t.length + 1) = b := by
  have e : F0 ++ (b :: a :: t).reverse = (F0 ++ t.reverse) ++ [a, b] := by simp
  rw [e]
  constructor
  · simp only [pat, List.getD_eq_getElem?_getD]
    rw [List.getElem?_append_right (by simp)]
    simp
  · simp only [pat, List.getD_eq_getElem?_getD]
    rw [List.getElem?_append_right (by simp)]
    simp
theorem ptsV_snoc (l : List Pt) (p : Pt) : ptsV (l ++ [p]) = ptsV l ++ ptsV [p] := by
  induction l with
  | nil => rfl
  | cons x l ih => rw [List.cons_append, ptsV, ptsV, ih]; rfl
theorem row_next {w : World} {row : Option Nat} {v : Value} {g n c H : Nat} (h : RowIs w row v.ownBlock) (hat : v.ownBlock = some g ∨ g = H) (hH : w.heap.size ≤ H) : RowIs w row (Value.slice (some ⟨g, 0, none⟩) n c).ownBlock := by
  rcases hat with q | q
  · have : (Value.slice (some ⟨g, 0, none⟩) n c).ownBlock = v.ownBlock := by rw [q]; rfl
    rw [this]
    exact h
  · refine .inr fun k hk => ?_
    have : g = k := by simpa [Value.ownBlock] using hk
    omega
theorem popst_sub (p : Pt) : ∀ (st : List Pt), ∀ x ∈ popst st p, x ∈ st
  | [], x, h => by simp [popst] at h
  | [c], x, h => by simpa [popst] using h
  | b :: a :: t, x, h => by
    by_cases k : turn a b p ≤ 0
    · rw [popst, if_pos k] at h
      exact List.mem_cons_of_mem _ (popst_sub p (a :: t) x h)
    · rw [popst, if_neg k] at h
      exact h
theorem popst_len (p : Pt) : ∀ (st : List Pt), (popst st p).length ≤ st.length
  | [] => by simp [popst]
  | [c] => by simp [popst]
  | b :: a :: t => by
    by_cases k : turn a b p ≤ 0
    · rw [popst, if_pos k]
      have := popst_len p (a :: t)
      simp only [List.length_cons] at this ⊢
      omega
    · rw [popst, if_neg k]
      exact Nat.le_refl _

set_option maxRecDepth 100000 in
set_option maxHeartbeats 8000000 in
theorem half_any (A : Option Addr) (ca go B : Nat) (ps F0 st : List Pt) (v0 : Value) (w : World) (hp : Pts w A ps) (hsep : ∀ b o, A = some ⟨b, o, none⟩ → b ≠ go ∧ some b ≠ v0.ownBlock) (hbx : Blk w go 22 #[v0]) (hO : w.ownsRow B 33 2 v0 (F0.length + st.length) (ptsV (F0 ++ st.reverse)))
    (hgB : go < B) (hBw : B ≤ w.heap.size) (h1 : ∀ i, i < ps.length → isPt (pat ps i) = true) (h2 : ∀ x ∈ st, isPt x = true) (hlen : F0.length + st.length + ps.length ≤ 1000) :
    Calls Try.prog 79 #[(Value.int .i64 ((F0.length : Int))), .slice A ps.length ca, .pointer (some ⟨go, 0, none⟩)] w fun e w' => e = .returned (.tuple #[]) ∧ ∃ v' st', st' = ps.foldl pushst st ∧ Blk w' go 22 #[v'] ∧ w'.ownsRow B 33 2 v' (F0.length + st'.length) (ptsV (F0 ++ st'.reverse)) ∧ HF w w' go v0.ownBlock ∧ RowIs w v0.ownBlock v'.ownBlock := by
  have HP := Lib.hid h1
  obtain ⟨ti, hi0, hz0, hz1, hz2⟩ := info_parts infoPt
  go_enter Try.func79, Try.ntmps79
  go_wp2
  go_loopg [9] ps.length (fun g x wr => ∃ (k : Nat) (v : Value) (s : List Pt), k ≤ ps.length ∧ g = ps.length - k ∧ x = (Value.int .i64 ((k : Int))) ∧ s = (ps.take k).foldl pushst st ∧ s.length ≤ st.length + k ∧ (∀ x ∈ s, isPt x = true) ∧ Blk wr go 22 #[v] ∧ wr.ownsRow B 33 2 v (F0.length + s.length) (ptsV (F0 ++ s.reverse)) ∧ HF w wr go v0.ownBlock ∧ RowIs w v0.ownBlock v.ownBlock ∧ B ≤ wr.heap.size)
  case atStart => exact ⟨0, v0, st, Nat.zero_le _, rfl, rfl, rfl, by omega, h2, hbx, hO, HF.refl _ _ _, .inl rfl, hBw⟩
  case round =>
    clear hbx hO h2 hBw
    obtain ⟨k, v, s, kn, rfl, rfl, hs, hsl, hsp, hbx, hO, hF, hR, hBr⟩ := hrel
    by_cases hlt : k < ps.length
    · obtain ⟨b, o, rfl, hpp⟩ := hp.at_ hlt
      obtain ⟨q1, q2⟩ := hsep b o rfl
      have pa := hF.pts hpp q1 q2
      have x1 := pa.xp hlt
      have x2 := pa.yp hlt
      have lb := pa.lt
      have ppt := HP.out k hlt
      have hs1 : pushst s (pat ps k) = (ps.take (k + 1)).foldl pushst st := by
        rw [List.take_succ_eq_append_getElem hlt, List.foldl_append, ← hs, pat_eq hlt]
        rfl
      replace hs1 := Lib.hid hs1
      generalize pat ps k = p at *
      go_wp2
      have hpl := popst_len p s
      have hn6 : wr.heap.size ≠ go := by have := hbx.lt; omega
      have d6 := Blk.new wr 33 #[(Value.int .i64 (p.1)), (Value.int .i64 (p.2))]
      replace hbx := hbx.alloc (.cells #[(Value.int .i64 (p.1)), (Value.int .i64 (p.2))] 33)
      replace hO := hO.alloc (.cells #[(Value.int .i64 (p.1)), (Value.int .i64 (p.2))] 33)
      replace hF := hF.below ((Below.refl _ wr).alloc (Nat.le_refl _) (.cells #[(Value.int .i64 (p.1)), (Value.int .i64 (p.2))] 33))
      replace hBr : B ≤ (wr.alloc (.cells #[(Value.int .i64 (p.1)), (Value.int .i64 (p.2))] 33)).heap.size := by simp; omega
      clear pa x1 x2 lb
      generalize wr.alloc (.cells #[(Value.int .i64 (p.1)), (Value.int .i64 (p.2))] 33) = W5 at *
      generalize wr.heap.size = g6 at *
      go_loopg [] s.length (fun gh wr => ∃ (v2 : Value) (s2 : List Pt), gh = s2.length ∧ s2.length ≤ s.length ∧ popst s2 p = popst s p ∧ (∀ x ∈ s2, isPt x = true) ∧ Blk wr go 22 #[v2] ∧ wr.ownsRow B 33 2 v2 (F0.length + s2.length) (ptsV (F0 ++ s2.reverse)) ∧ HF w wr go v0.ownBlock ∧ RowIs w v0.ownBlock v2.ownBlock ∧ B ≤ wr.heap.size ∧ Blk wr g6 33 #[(Value.int .i64 (p.1)), (Value.int .i64 (p.2))])
      case atStart => exact ⟨v, s, rfl, Nat.le_refl _, rfl, hsp, hbx, hO, hF, hR, hBr, d6⟩
      case round =>
        clear hbx hO hF hR hBr hsp d6
        obtain ⟨v2, s2, rfl, hl2, hps, hsp, hbx, hO, hF, hR, hBr, d6⟩ := hrel
        by_cases hpop : ∃ b2 a t, s2 = b2 :: a :: t ∧ turn a b2 p ≤ 0
        · obtain ⟨b2, a, t, rfl, hle⟩ := hpop
          have hn2 : F0.length + (b2 :: a :: t).length = F0.length + t.length + 1 + 1 := by simp only [List.length_cons]; omega
          have hO2 := hO
          rw [hn2] at hO2
          obtain ⟨g7, c7, cur, rfl, -, -, hcap, -⟩ := hO2.2.resolve_left (fun h => by omega)
          have ho := ptsAt_own hO2
          have hgl := (hO2.lt g7 rfl).2
          have hgb := (hO2.lt g7 rfl).1
          have hpl2 : (F0 ++ (b2 :: a :: t).reverse).length = F0.length + t.length + 1 + 1 := by simp; omega
          have u1 := ho.xp (i := F0.length + t.length) (by omega)
          have u2 := ho.yp (i := F0.length + t.length) (by omega)
          have u3 := ho.xp (i := F0.length + t.length + 1) (by omega)
          have u4 := ho.yp (i := F0.length + t.length + 1) (by omega)
          rw [pat_two.1, Nat.zero_add] at u1 u2
          rw [pat_two.2, Nat.zero_add] at u3 u4
          have pa1 := hsp a (by simp)
          have pb1 := hsp b2 (by simp)
          have hTL : F0.length + t.length + 1 + 1 ≤ 1000 := by simp only [List.length_cons] at hl2; omega
          clear ho hpl2
          generalize hN : F0.length + t.length = N at *
          have y0 := hbx.cell 0
          have f0 := hbx.frozen 0
          have l0 := hbx.lt
          have y1 := d6.cell 0
          have y2 := d6.cell 1
          have l6 := d6.lt
          simp only [List.getElem?_toArray, List.getElem?_cons_zero, List.getElem?_cons_succ] at y0 y1 y2
          have k1 : N + 1 ≤ c7 := by omega
          have k2 : (N : Int) + 1 ≤ (c7 : Int) := by omega
          have k3 : ((N : Int) + 1).toNat = N + 1 := by omega
          have w1 : ((N : Int) + 1 + 1 - 2) = (N : Int) := by omega
          have w2 : ((N : Int) + 1 + 1 - 1) = (N : Int) + 1 := by omega
          have w3 : (F0.length : Int) + 2 ≤ (N : Int) + 1 + 1 := by omega
          have w4 : decide ((F0.length : Int) + 2 ≤ (N : Int) + 1 + 1) = true := by simpa using w3
          go_wp2
          refine wp_region_after (by kernel_rfl) (by kernel_rfl) ?_; (repeat (go_big_quiet_step (((go_at_call 60; with_reducible exact calls_after (turn_any _ _ _ pa1 pb1 ppt _)))))); refine wpQuiet_nil ?_; rintro _ ⟨z, rfl⟩; (first | ((with_reducible apply kp_in_after (z := z)); (with_reducible assumption); rintro ⟨hk, hc, hf, hzc, hzf⟩) | ((with_reducible refine kp_in_after0 z ?_); rintro ⟨hk, hc, hf, hzc, hzf⟩))
          go_wp2
          have hps2 : popst (a :: t) p = popst s p := by rw [← hps, popst, if_pos hle]
          have hOz := own_below hO2 z.ok
          have er : F0 ++ (b2 :: a :: t).reverse = (F0 ++ (a :: t).reverse) ++ [b2] := by simp
          rw [er] at hOz
          have hOc := own_cut hOz
          have hOs := ownsRow_setCell_below hOc (a := ⟨go, 0, none⟩) hgB (.slice (some ⟨g7, 0, none⟩) (N + 1) c7)
          have en : N + 1 = F0.length + (a :: t).length := by simp only [List.length_cons]; omega
          go_roundg (a :: t).length
          case measure => simp only [List.length_cons]; omega
          case rel => exact ⟨_, a :: t, rfl, by simp only [List.length_cons] at hl2 ⊢; omega, hps2, fun x hx => hsp x (List.mem_cons_of_mem _ hx), (hbx.below z.ok).set_ 0 (.slice (some ⟨g7, 0, none⟩) (N + 1) c7), by rw [← en]; exact hOs, (hF.below z.ok).set _, hR, by simpa using Nat.le_trans hBr z.ok.size, (d6.below z.ok).far (p := ⟨go, 0, none⟩) hn6 _⟩
        · skip
          have hend : popst s2 p = s2 ∧ (s2.length ≤ 1 ∨ ∃ b2 a t, s2 = b2 :: a :: t ∧ 0 < turn a b2 p) := by
            match s2, hpop with
            | [], _ => exact ⟨rfl, .inl (by simp)⟩
            | [c], _ => exact ⟨rfl, .inl (by simp)⟩
            | b2 :: a :: t, hpop =>
              have : ¬ turn a b2 p ≤ 0 := fun h => hpop ⟨b2, a, t, rfl, h⟩
              exact ⟨by rw [popst, if_neg this], .inr ⟨b2, a, t, rfl, by omega⟩⟩
          obtain ⟨hend1, hend2⟩ := hend
          have hsn : pushst s p = p :: s2 := by unfold pushst; rw [← hps, hend1]
          replace hsn := Lib.hid hsn
          have hl3 : F0.length + s2.length ≤ 999 := by omega
          rcases hend2 with hs1l | ⟨b2, a, t, rfl, hgt⟩
          · obtain ⟨A2, c2, rfl⟩ := own_form hO
            have y0 := hbx.cell 0
            have f0 := hbx.frozen 0
            have l0 := hbx.lt
            have y1 := d6.cell 0
            have y2 := d6.cell 1
            have l6 := d6.lt
            simp only [List.getElem?_toArray, List.getElem?_cons_zero, List.getElem?_cons_succ] at y0 y1 y2
            have w3 : ¬ (F0.length : Int) + 2 ≤ (F0.length : Int) + (s2.length : Int) := by omega
            have w4 : decide ((F0.length : Int) + 2 ≤ (F0.length : Int) + (s2.length : Int)) = false := by simpa using w3
            have w5 : ¬ (2 : Int) ≤ (s2.length : Int) := by omega
            generalize hN : F0.length + s2.length = N at *
            have w6 : decide ((F0.length : Int) + 2 ≤ (N : Int)) = false := by simp; omega
            go_wp2
            refine wp_region_after (by kernel_rfl) (by kernel_rfl) ?_; (repeat (go_big_quiet_step ((fail)))); refine wpQuiet_nil ?_; rintro _ ⟨z, rfl⟩; (first | ((with_reducible apply kp_in_after (z := z)); (with_reducible assumption); rintro ⟨hk, hc, hf, hzc, hzf⟩) | ((with_reducible refine kp_in_after0 z ?_); rintro ⟨hk, hc, hf, hzc, hzf⟩))
            go_wp2_with (at_builtin; refine wpList_append_lies _ rfl (.tmp 40) (.tmp 42) 22 rfl B 33 ti _ 2 16 undPts hi0 hz0 hz1 hz2 rfl (by omega) _ N _ rfl ((own_below hO z.ok).alloc _) ⟨z.val.heap.size, 0, none⟩ 1 1 (ptsV [p]) rfl rfl (World.news_of_block (cs := (ptsV [p]).toArray) (t := 33) (fr := (0, 0)) (heap_alloc_new z.val _)) (ptsV_one _) (by omega) (by unfold maxLen; omega) (by omega) (by have := z.ok.size; simp; omega) (z.val.heap.size + 1) (by simp) ?_; intro g1 cap1 w9 hown hgrow hat hlt1; have A7 := (own_below hO z.ok).alloc (.cells (ptsV [p]).toArray 33); have X9 : Blk w9 go 22 #[_] := (hgrow.block go (by have := z.ok.size; simp; omega) (fun q => by have := (A7.lt go q.symm).1; omega)).trans ((hbx.below z.ok).alloc (.cells (ptsV [p]).toArray 33)); have y9 := X9.cell 0; have f9 := X9.frozen 0; have l9 := X9.lt; simp only [List.getElem?_toArray, List.getElem?_cons_zero] at y9)
            have F7 := (hF.below z.ok).below ((Below.refl _ z.val).alloc (Nat.le_refl _) (.cells (ptsV [p]).toArray 33))
            have F9 := F7.grown hR hgrow
            have s9 : B ≤ w9.heap.size := by
              have h1 := hgrow.size
              have h2 := z.ok.size
              simp at h1
              omega
            have hR9 : RowIs w v0.ownBlock (Value.slice (some ⟨g1, 0, none⟩) (N + 1) cap1).ownBlock := row_next hR hat (by have := hF.size; have := z.ok.size; omega)
            have hOs := ownsRow_setCell_below hown (a := ⟨go, 0, none⟩) hgB (.slice (some ⟨g1, 0, none⟩) (N + 1) cap1)
            have ex : ptsV (F0 ++ s2.reverse) ++ ptsV [p] = ptsV (F0 ++ (p :: s2).reverse) := by rw [List.reverse_cons, ← List.append_assoc]; exact (ptsV_snoc _ _).symm
            rw [ex] at hOs
            have en : N + 1 = F0.length + (p :: s2).length := by simp only [List.length_cons] at *; omega
            go_roundg (ps.length - (k + 1))
            case measure => omega
            case rel => exact ⟨k + 1, _, p :: s2, by omega, rfl, by go_num, by rw [← hsn.out]; exact hs1.out, by simp only [List.length_cons] at *; omega, fun x hx => (List.mem_cons.1 hx).elim (fun q => q ▸ ppt) (fun q => hsp x q), X9.set_ 0 (.slice (some ⟨g1, 0, none⟩) (N + 1) cap1), by rw [← en]; exact hOs, F9.set _, hR9, by simpa using s9⟩
          · skip
            have hn2 : F0.length + (b2 :: a :: t).length = F0.length + t.length + 1 + 1 := by simp only [List.length_cons]; omega
            have hO2 := hO
            rw [hn2] at hO2
            obtain ⟨g7, c7, cur, rfl, -, -, hcap, -⟩ := hO2.2.resolve_left (fun h => by omega)
            have ho := ptsAt_own hO2
            have hgl := (hO2.lt g7 rfl).2
            have hgb := (hO2.lt g7 rfl).1
            have hpl2 : (F0 ++ (b2 :: a :: t).reverse).length = F0.length + t.length + 1 + 1 := by simp; omega
            have u1 := ho.xp (i := F0.length + t.length) (by omega)
            have u2 := ho.yp (i := F0.length + t.length) (by omega)
            have u3 := ho.xp (i := F0.length + t.length + 1) (by omega)
            have u4 := ho.yp (i := F0.length + t.length + 1) (by omega)
            rw [pat_two.1, Nat.zero_add] at u1 u2
            rw [pat_two.2, Nat.zero_add] at u3 u4
            have pa1 := hsp a (by simp)
            have pb1 := hsp b2 (by simp)
            have hTL : F0.length + t.length + 1 + 1 ≤ 999 := by simp only [List.length_cons] at hl3; omega
            clear ho hpl2
            generalize hN : F0.length + t.length = N at *
            have y0 := hbx.cell 0
            have f0 := hbx.frozen 0
            have l0 := hbx.lt
            have y1 := d6.cell 0
            have y2 := d6.cell 1
            have l6 := d6.lt
            simp only [List.getElem?_toArray, List.getElem?_cons_zero, List.getElem?_cons_succ] at y0 y1 y2
            have k1 : N + 1 ≤ c7 := by omega
            have k2 : (N : Int) + 1 ≤ (c7 : Int) := by omega
            have k3 : ((N : Int) + 1).toNat = N + 1 := by omega
            have w1 : ((N : Int) + 1 + 1 - 2) = (N : Int) := by omega
            have w2 : ((N : Int) + 1 + 1 - 1) = (N : Int) + 1 := by omega
            have w3 : (F0.length : Int) + 2 ≤ (N : Int) + 1 + 1 := by omega
            have w4 : decide ((F0.length : Int) + 2 ≤ (N : Int) + 1 + 1) = true := by simpa using w3
            have w5 : decide (turn a b2 p ≤ 0) = false := by simp; omega
            go_wp2
            refine wp_region_after (by kernel_rfl) (by kernel_rfl) ?_; (repeat (go_big_quiet_step (((go_at_call 60; with_reducible exact calls_after (turn_any _ _ _ pa1 pb1 ppt _)))))); refine wpQuiet_nil ?_; rintro _ ⟨z, rfl⟩; (first | ((with_reducible apply kp_in_after (z := z)); (with_reducible assumption); rintro ⟨hk, hc, hf, hzc, hzf⟩) | ((with_reducible refine kp_in_after0 z ?_); rintro ⟨hk, hc, hf, hzc, hzf⟩))
            go_wp2_with (at_builtin; refine wpList_append_lies _ rfl (.tmp 40) (.tmp 42) 22 rfl B 33 ti _ 2 16 undPts hi0 hz0 hz1 hz2 rfl (by omega) _ (N + 1 + 1) _ rfl ((own_below hO2 z.ok).alloc _) ⟨z.val.heap.size, 0, none⟩ 1 1 (ptsV [p]) rfl rfl (World.news_of_block (cs := (ptsV [p]).toArray) (t := 33) (fr := (0, 0)) (heap_alloc_new z.val _)) (ptsV_one _) (by omega) (by unfold maxLen; omega) (by omega) (by have := z.ok.size; simp; omega) (z.val.heap.size + 1) (by simp) ?_; intro g1 cap1 w9 hown hgrow hat hlt1; have A7 := (own_below hO2 z.ok).alloc (.cells (ptsV [p]).toArray 33); have X9 : Blk w9 go 22 #[_] := (hgrow.block go (by have := z.ok.size; simp; omega) (fun q => by have := (A7.lt go q.symm).1; omega)).trans ((hbx.below z.ok).alloc (.cells (ptsV [p]).toArray 33)); have y9 := X9.cell 0; have f9 := X9.frozen 0; have l9 := X9.lt; simp only [List.getElem?_toArray, List.getElem?_cons_zero] at y9)
            have F7 := (hF.below z.ok).below ((Below.refl _ z.val).alloc (Nat.le_refl _) (.cells (ptsV [p]).toArray 33))
            have F9 := F7.grown hR hgrow
            have s9 : B ≤ w9.heap.size := by
              have h1 := hgrow.size
              have h2 := z.ok.size
              simp at h1
              omega
            have hR9 : RowIs w v0.ownBlock (Value.slice (some ⟨g1, 0, none⟩) (N + 1 + 1 + 1) cap1).ownBlock := row_next hR hat (by have := hF.size; have := z.ok.size; omega)
            have hOs := ownsRow_setCell_below hown (a := ⟨go, 0, none⟩) hgB (.slice (some ⟨g1, 0, none⟩) (N + 1 + 1 + 1) cap1)
            have ex : ptsV (F0 ++ (b2 :: a :: t).reverse) ++ ptsV [p] = ptsV (F0 ++ (p :: (b2 :: a :: t)).reverse) := by rw [← ptsV_snoc]; congr 1; simp
            rw [ex] at hOs
            have en : N + 1 + 1 + 1 = F0.length + (p :: (b2 :: a :: t)).length := by simp only [List.length_cons] at *; omega
            go_roundg (ps.length - (k + 1))
            case measure => omega
            case rel => exact ⟨k + 1, _, p :: (b2 :: a :: t), by omega, rfl, by go_num, by rw [← hsn.out]; exact hs1.out, by simp only [List.length_cons] at *; omega, fun x hx => (List.mem_cons.1 hx).elim (fun q => q ▸ ppt) (fun q => hsp x q), X9.set_ 0 (.slice (some ⟨g1, 0, none⟩) (N + 1 + 1 + 1) cap1), by rw [← en]; exact hOs, F9.set _, hR9, by simpa using s9⟩
    · obtain rfl : k = ps.length := by omega
      rw [List.take_length] at hs
      go_wp2
      go_end0
      exact ⟨rfl, v, s, hs, hbx, hO, hF, hR⟩
end Go.Proofs.Ytijpolfmiajenaa
