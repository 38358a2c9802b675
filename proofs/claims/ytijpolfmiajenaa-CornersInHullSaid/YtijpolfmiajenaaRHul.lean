/- The function knurlref02.Hull answers the corners of a hull, one after the other, if each one's next one is known. -/
import Derived.Test.YtijpolfmiajenaaRCp
import Derived.Test.YtijpolfmiajenaaPv
import Derived.Test.YtijpolfmiajenaaOwn
import Derived.Test.YtijpolfmiajenaaInts
namespace Go.Proofs.Ytijpolfmiajenaa
open Go.RowKit
attribute [local go_sem] After.cell After.frozen
attribute [local go_sem high] run_eql_pt run_neq_pt

def begB (a b : Pt) : Bool := decide (a.2 < b.2) || (decide (a.2 = b.2) && decide (a.1 < b.1))
def firstTo (l : List Pt) : Nat → Pt
  | 0 => pat l 0
  | k + 1 => if begB (pat l k) (firstTo l k) = true then pat l k else firstTo l k
def takeB (now best s : Pt) : Bool := decide (best = now) || (decide (turn now best s < 0) || (decide (turn now best s = 0) && has now s best))
def bestTo (l : List Pt) (now : Pt) : Nat → Pt
  | 0 => now
  | k + 1 => if pat l k = now then bestTo l now k else if takeB now (bestTo l now k) (pat l k) = true then pat l k else bestTo l now k
/-- The corners of a hull as the reference finds them. -/
structure Gift (l K : List Pt) : Prop where
  len : 1 ≤ K.length
  le : K.length ≤ 1000
  first : pat K 0 = firstTo l l.length
  step : ∀ m, m < K.length → bestTo l (pat K m) l.length = pat K ((m + 1) % K.length)
  fresh : ∀ m, 0 < m → m < K.length → pat K m ≠ pat K 0
theorem Blk.far2 {w : World} {g h : Nat} {t : TypeId} {us : Array Value} {a b : Value} (hh : Blk w g t us) (hne : g ≠ h) : Blk ((w.setCell ⟨h, 0, none⟩ a).setCell ⟨h, 1, none⟩ b) g t us := (hh.far (p := ⟨h, 0, none⟩) hne a).far (p := ⟨h, 1, none⟩) hne b
theorem set_two {w : World} {g : Nat} {t : TypeId} {x y a b : Value} (h : Blk w g t #[x, y]) : Blk ((w.setCell ⟨g, 0, none⟩ a).setCell ⟨g, 1, none⟩ b) g t #[a, b] := by
  have := (h.set_ 0 a).set_ 1 b
  exact this
theorem bl_set2 {w X : World} {g : Nat} {a b : Value} (h : Below w.heap.size w X) (hg : w.heap.size ≤ g) : Below w.heap.size w ((X.setCell ⟨g, 0, none⟩ a).setCell ⟨g, 1, none⟩ b) := (h.setCell (p := ⟨g, 0, none⟩) hg a).setCell (p := ⟨g, 1, none⟩) hg b
theorem own_set {w : World} {B e size n g h c : Nat} {xs : List Value} {a b : Value} (ho : w.ownsRow B e size (.slice (some ⟨g, 0, none⟩) n c) n xs) (hne : g ≠ h) : ((w.setCell ⟨h, 0, none⟩ a).setCell ⟨h, 1, none⟩ b).ownsRow B e size (.slice (some ⟨g, 0, none⟩) n c) n xs :=
  ho.kept (row := some h) ⟨rfl, rfl, rfl, by simp, fun k _ hk => (Below.heap_setCell _ ⟨h, 1, none⟩ b k (fun q => hk (by rw [q]))).trans (Below.heap_setCell w ⟨h, 0, none⟩ a k (fun q => hk (by rw [q])))⟩ (.inr (by simp [Value.ownBlock, hne]))
theorem two_news (w : World) (x y : Value) (t : TypeId) : ∀ j u, [x, y][j]? = some u → (w.alloc (.cells #[x, y] t)).cell? ((⟨w.heap.size, 0, none⟩ : Addr).add j) = some u := fun j u hj => by
  rw [add_at, Nat.zero_add]
  exact ((Blk.new w t #[x, y]).cell j).trans (by rw [List.getElem?_toArray]; exact hj)
theorem two_one (x y : Int) : ∀ u ∈ [(Value.int .i64 (x)), (Value.int .i64 (y))], u.oneCell' = true := fun u hu => by
  simp only [List.mem_cons, List.not_mem_nil, or_false] at hu
  rcases hu with rfl | rfl <;> rfl
theorem ptsV_app : ∀ l m : List Pt, ptsV (l ++ m) = ptsV l ++ ptsV m
  | [], m => rfl
  | p :: l, m => by rw [List.cons_append, ptsV, ptsV, ptsV_app l m]; rfl
theorem take_ptsV {K : List Pt} {m : Nat} (h : m < K.length) : ptsV (K.take m) ++ [(Value.int .i64 ((pat K m).1)), (Value.int .i64 ((pat K m).2))] = ptsV (K.take (m + 1)) := by
  have e : K.take (m + 1) = K.take m ++ [pat K m] := by
    rw [List.take_succ_eq_append_getElem h, pat_eq h]
  rw [e, ptsV_app]
  rfl
theorem firstTo_pt {l : List Pt} (h : ∀ i, i < l.length → isPt (pat l i) = true) (h0 : 0 < l.length) : ∀ k, k ≤ l.length → isPt (firstTo l k) = true
  | 0, _ => h 0 h0
  | k + 1, hk => by
    unfold firstTo
    split
    · exact h k (by omega)
    · exact firstTo_pt h h0 k (by omega)
theorem bestTo_pt {l : List Pt} (h : ∀ i, i < l.length → isPt (pat l i) = true) {now : Pt} (hn : isPt now = true) : ∀ k, k ≤ l.length → isPt (bestTo l now k) = true
  | 0, _ => hn
  | k + 1, hk => by
    unfold bestTo
    split
    · exact bestTo_pt h hn k (by omega)
    · split
      · exact h k (by omega)
      · exact bestTo_pt h hn k (by omega)
set_option maxHeartbeats 1000000 in
theorem begins_any (a b : Pt) (w : World) : Calls Try.prog 81 #[(Value.agg #[.int .i64 a.1, .int .i64 a.2]), (Value.agg #[.int .i64 b.1, .int .i64 b.2])] w fun e w' => e = .returned (.bool (begB a b)) ∧ Below w.heap.size w w' := by
  by_cases h1 : a.2 < b.2
  · have e : begB a b = true := by simp [begB, h1]
    go_enter Try.func81, Try.ntmps81
    go_wp2
    go_ret
    exact ⟨by first | rfl | (rw [e]; rfl) | (rw [e]) | simp [e], by (repeat (first | with_reducible exact Below.refl _ _ | with_reducible apply bl_alloc | with_reducible apply bl_drew | with_reducible apply bl_after | (with_reducible refine bl_call ?_ (by assumption))))⟩
  · by_cases h2 : a.2 = b.2
    · by_cases h3 : a.1 < b.1
      · have e : begB a b = true := by simp [begB, h2, h3]
        have d2 : (a.2 == b.2) = true := by simpa using h2
        clear h2
        go_enter Try.func81, Try.ntmps81
        go_wp2
        all_goals (go_ret; exact ⟨by first | rfl | (rw [e]; rfl) | (rw [e]) | simp [e], by (repeat (first | with_reducible exact Below.refl _ _ | with_reducible apply bl_alloc | with_reducible apply bl_drew | with_reducible apply bl_after | (with_reducible refine bl_call ?_ (by assumption))))⟩)
      · have e : begB a b = false := by simp [begB, h2]; omega
        have d2 : (a.2 == b.2) = true := by simpa using h2
        clear h2
        go_enter Try.func81, Try.ntmps81
        go_wp2
        all_goals (go_ret; exact ⟨by first | rfl | (rw [e]; rfl) | (rw [e]) | simp [e], by (repeat (first | with_reducible exact Below.refl _ _ | with_reducible apply bl_alloc | with_reducible apply bl_drew | with_reducible apply bl_after | (with_reducible refine bl_call ?_ (by assumption))))⟩)
    · have e : begB a b = false := by simp [begB, h1, h2]
      have d2 : (a.2 == b.2) = false := by simpa using h2
      go_enter Try.func81, Try.ntmps81
      go_wp2
      all_goals (go_ret; exact ⟨by first | rfl | (rw [e]; rfl) | (rw [e]) | simp [e], by (repeat (first | with_reducible exact Below.refl _ _ | with_reducible apply bl_alloc | with_reducible apply bl_drew | with_reducible apply bl_after | (with_reducible refine bl_call ?_ (by assumption))))⟩)

set_option maxRecDepth 100000 in
set_option maxHeartbeats 8000000 in
theorem rHull_ok (b o ca : Nat) (l K : List Pt) (w : World) (hp : PtsAt w b o l) (hB : PtsB l) (hL : ¬ LineB l) (hG : Gift l K) :
    Calls Try.prog 43 #[.slice (some ⟨b, o, none⟩) l.length ca] w fun e w' => (∃ g c, e = .returned (.tuple #[.slice (some ⟨g, 0, none⟩) K.length c, (Value.int .i64 (0))]) ∧ PtsAt w' g 0 K) ∧ Below w.heap.size w w' := by
  have h0 : 0 < l.length := by
    refine Nat.pos_of_ne_zero fun q => hL fun i hi => ?_
    omega
  have h10 : l.length ≤ 10 := hB.1
  have HP := Lib.hid hB.2
  have hchk := Lib.hid fun (V : World) (h : Below w.heap.size w V) => rCheckPoints_any (some ⟨b, o, none⟩) ca l V (.inr ⟨b, o, rfl, hp.below h⟩) (by omega)
  have e0 : Go.Proofs.Ytijpolfmiajenaa.hchk l = 0 := by unfold Go.Proofs.Ytijpolfmiajenaa.hchk; rw [if_pos hB, if_neg hL]
  rw [e0] at hchk
  clear hB hL e0
  have hFP := Lib.hid (firstTo_pt HP.out h0)
  have x1 := hp.xp h0
  have x2 := hp.yp h0
  simp only [Nat.zero_mul, Nat.add_zero] at x1 x2
  have lb := hp.lt
  have i0 : (0 : Int) < (l.length : Int) := by omega
  go_enter Try.func43, Try.ntmps43
  go_upto_region 5 with (go_at_call 40; with_reducible refine Calls.mono (hchk.out _ (by (repeat (first | with_reducible exact Below.refl _ _ | with_reducible apply bl_alloc | with_reducible apply bl_drew | with_reducible apply bl_after | (with_reducible refine bl_call ?_ (by assumption)))))) ?_; rintro e w1 ⟨rfl, hb1⟩; first | ((with_reducible apply kp_in_step (hb := hb1)); (with_reducible assumption); rintro ⟨hk, hc, hf, hzc, hzf⟩) | ((with_reducible refine kp_in_first hb1 ?_); rintro ⟨hk, hc, hf, hzc, hzf⟩))
  have c5 := Blk.new w1 33 #[(Value.int .i64 ((pat l 0).1)), (Value.int .i64 ((pat l 0).2))]
  have hbW : Below w.heap.size w (w1.alloc (.cells #[(Value.int .i64 ((pat l 0).1)), (Value.int .i64 ((pat l 0).2))] 33)) := by (repeat (first | with_reducible exact Below.refl _ _ | with_reducible apply bl_alloc | with_reducible apply bl_drew | with_reducible apply bl_after | (with_reducible refine bl_call ?_ (by assumption))))
  have hg5 : w.heap.size ≤ w1.heap.size := hb1.size
  clear hk hc hf hzc hzf hb1 x1 x2 lb hchk
  generalize w1.alloc (.cells #[(Value.int .i64 ((pat l 0).1)), (Value.int .i64 ((pat l 0).2))] 33) = W1 at c5 hbW ⊢
  generalize w1.heap.size = g5 at c5 hg5 ⊢
  go_wp2
  go_loopg [6] l.length (fun g i wr => ∃ k : Nat, k ≤ l.length ∧ g = l.length - k ∧ i = (Value.int .i64 ((k : Int))) ∧ Blk wr g5 33 #[(Value.int .i64 ((firstTo l k).1)), (Value.int .i64 ((firstTo l k).2))] ∧ Below w.heap.size w wr)
  case atStart => exact ⟨0, Nat.zero_le _, rfl, rfl, c5, hbW⟩
  case round =>
    clear c5 hbW
    obtain ⟨k, kn, rfl, rfl, c5, hbw⟩ := hrel
    by_cases hlt : k < l.length
    · have pa := hp.below hbw
      have x1 := pa.xp hlt
      have x2 := pa.yp hlt
      have lb := pa.lt
      have y0 := c5.cell 0
      have y1 := c5.cell 1
      have f0 := c5.frozen 0
      have f1 := c5.frozen 1
      have l5 := c5.lt
      have i1 : (k : Int) < (l.length : Int) := by omega
      simp only [List.getElem?_toArray, List.getElem?_cons_zero, List.getElem?_cons_succ] at y0 y1
      have hb := Lib.hid fun (V : World) => begins_any (pat l k) (firstTo l k) V
      have hs1 : firstTo l (k + 1) = if begB (pat l k) (firstTo l k) = true then pat l k else firstTo l k := rfl
      cases hbb : begB (pat l k) (firstTo l k)
      · rw [hbb, if_neg (by decide)] at hs1
        rw [hbb] at hb
        go_wp2
        refine wp_region_after (by kernel_rfl) (by kernel_rfl) ?_; (repeat (go_big_quiet_step (((go_at_call 81; with_reducible exact calls_after (hb.out _)))))); refine wpQuiet_nil ?_; rintro _ ⟨z, rfl⟩; (first | ((with_reducible apply kp_in_after (z := z)); (with_reducible assumption); rintro ⟨hk, hc, hf, hzc, hzf⟩) | ((with_reducible refine kp_in_after0 z ?_); rintro ⟨hk, hc, hf, hzc, hzf⟩))
        go_wp2
        go_roundg (l.length - (k + 1))
        case measure => omega
        case rel => exact ⟨k + 1, by omega, rfl, by go_num, by rw [hs1]; exact c5.below z.ok, bl_call hbw z.ok⟩
      · rw [hbb, if_pos rfl] at hs1
        rw [hbb] at hb
        go_wp2
        refine wp_region_after (by kernel_rfl) (by kernel_rfl) ?_; (repeat (go_big_quiet_step (((go_at_call 81; with_reducible exact calls_after (hb.out _)))))); refine wpQuiet_nil ?_; rintro _ ⟨z, rfl⟩; (first | ((with_reducible apply kp_in_after (z := z)); (with_reducible assumption); rintro ⟨hk, hc, hf, hzc, hzf⟩) | ((with_reducible refine kp_in_after0 z ?_); rintro ⟨hk, hc, hf, hzc, hzf⟩))
        go_wp2
        go_roundg (l.length - (k + 1))
        case measure => omega
        case rel => exact ⟨k + 1, by omega, rfl, by go_num, by rw [hs1]; have h := (((c5.below z.ok).set_ 0 (Value.int .i64 ((pat l k).1))).set_ 1 (Value.int .i64 ((pat l k).2))); exact h, ((bl_call hbw z.ok).setCell (p := ⟨g5, 0, none⟩) hg5 _).setCell (p := ⟨g5, 1, none⟩) hg5 _⟩
    · obtain rfl : k = l.length := by omega
      rw [← hG.first] at c5
      have hF0 : isPt (pat K 0) = true := by rw [hG.first]; exact hFP.out _ (Nat.le_refl _)
      clear hlt kn hFP
      have y0 := c5.cell 0
      have y1 := c5.cell 1
      have l5 := c5.lt
      simp only [List.getElem?_toArray, List.getElem?_cons_zero, List.getElem?_cons_succ] at y0 y1
      obtain ⟨B7, hB7⟩ : ∃ B7, B7 = wr.heap.size := ⟨_, rfl⟩
      have h57 : g5 < B7 := by rw [hB7]; exact l5
      have hwB : w.heap.size ≤ B7 := by rw [hB7]; exact hbw.size
      have hBB : B7 ≤ wr.heap.size := Nat.le_of_eq hB7
      obtain ⟨ti, hi0, hz0, hz1, hz2⟩ := info_parts infoPt
      go_wp2
      have hO := World.ownsRow_lit (base := B7) (size := 2) (e := 33) wr #[(Value.int .i64 ((pat K 0).1)), (Value.int .i64 ((pat K 0).2))] 1 hBB (by unfold maxLen; omega) rfl
      have hk1 : ptsV (K.take 1) = [(Value.int .i64 ((pat K 0).1)), (Value.int .i64 ((pat K 0).2))] := by
        have := hG.len
        cases K with
        | nil => simp at this
        | cons x t => rfl
      change World.ownsRow _ _ _ _ _ _ [(Value.int .i64 ((pat K 0).1)), (Value.int .i64 ((pat K 0).2))] at hO
      replace c5 := c5.alloc (.cells #[(Value.int .i64 ((pat K 0).1)), (Value.int .i64 ((pat K 0).2))] 33)
      replace hbw := bl_alloc (o := .cells #[(Value.int .i64 ((pat K 0).1)), (Value.int .i64 ((pat K 0).2))] 33) hbw
      have hs7 : B7 ≤ (wr.alloc (.cells #[(Value.int .i64 ((pat K 0).1)), (Value.int .i64 ((pat K 0).2))] 33)).heap.size := by simp; omega
      clear y0 y1 l5 hB7 hBB
      go_loopg [7] K.length (fun gh v wr => ∃ m : Nat, m < K.length ∧ gh = K.length - m ∧ wr.ownsRow B7 33 2 v (m + 1) (ptsV (K.take (m + 1))) ∧ Blk wr g5 33 #[(Value.int .i64 ((pat K 0).1)), (Value.int .i64 ((pat K 0).2))] ∧ B7 ≤ wr.heap.size ∧ Below w.heap.size w wr ∧ isPt (pat K m) = true)
      case atStart => exact ⟨0, by have := hG.len; omega, rfl, by rw [show ptsV (K.take (0 + 1)) = [(Value.int .i64 ((pat K 0).1)), (Value.int .i64 ((pat K 0).2))] from hk1]; exact hO, c5, hs7, hbw, hF0⟩
      case round =>
        clear hO c5 hs7 hbw hk1
        obtain ⟨m, hm, rfl, hO, c5, hBr, hbw, hpm⟩ := hrel
        obtain ⟨g7, c7, cur, rfl, -⟩ := hO.2.resolve_left (fun h => by omega)
        have ho := ptsAt_own hO
        have hgl := (hO.lt g7 rfl).2
        have hgb := (hO.lt g7 rfl).1
        have lt1 : (K.take (m + 1)).length = m + 1 := by rw [List.length_take]; omega
        have ep : pat (K.take (m + 1)) m = pat K m := by
          simp only [pat, List.getD_eq_getElem?_getD]
          rw [List.getElem?_take_of_lt (by omega)]
        have z1 := ho.xp (i := m) (by omega)
        have z2 := ho.yp (i := m) (by omega)
        rw [ep, Nat.zero_add] at z1 z2
        have hKle := hG.le
        have hm1 : ((m : Int) + 1 - 1) = (m : Int) := by omega
        clear ep lt1 ho
        go_upto_region 13 with fail
        have hstep := hG.step m hm
        have hBP := Lib.hid (bestTo_pt HP.out hpm)
        have d8 := (Blk.new wr 33 #[(Value.int .i64 ((pat K m).1)), (Value.int .i64 ((pat K m).2))]).alloc (.cells #[(Value.int .i64 ((pat K m).1)), (Value.int .i64 ((pat K m).2))] 33)
        have d9 := Blk.new (wr.alloc (.cells #[(Value.int .i64 ((pat K m).1)), (Value.int .i64 ((pat K m).2))] 33)) 33 #[(Value.int .i64 ((pat K m).1)), (Value.int .i64 ((pat K m).2))]
        have hbV : Below wr.heap.size wr ((wr.alloc (.cells #[(Value.int .i64 ((pat K m).1)), (Value.int .i64 ((pat K m).2))] 33)).alloc (.cells #[(Value.int .i64 ((pat K m).1)), (Value.int .i64 ((pat K m).2))] 33)) := by (repeat (first | with_reducible exact Below.refl _ _ | with_reducible apply bl_alloc | with_reducible apply bl_drew | with_reducible apply bl_after | (with_reducible refine bl_call ?_ (by assumption))))
        simp only [World.size_alloc] at d9
        replace hO := own_below hO hbV
        replace c5 := c5.below hbV
        replace hbw := bl_call hbw hbV
        have h8B : B7 ≤ wr.heap.size := hBr
        replace hBr : B7 ≤ ((wr.alloc (.cells #[(Value.int .i64 ((pat K m).1)), (Value.int .i64 ((pat K m).2))] 33)).alloc (.cells #[(Value.int .i64 ((pat K m).1)), (Value.int .i64 ((pat K m).2))] 33)).heap.size := Nat.le_trans hBr hbV.size
        clear z1 z2 hbV hm1
        generalize (wr.alloc (.cells #[(Value.int .i64 ((pat K m).1)), (Value.int .i64 ((pat K m).2))] 33)).alloc (.cells #[(Value.int .i64 ((pat K m).1)), (Value.int .i64 ((pat K m).2))] 33) = V at *
        generalize wr.heap.size = g8 at *
        generalize hnow : pat K m = now at *
        go_wp2
        go_loopg [10] l.length (fun gh i wr => ∃ k : Nat, k ≤ l.length ∧ gh = l.length - k ∧ i = (Value.int .i64 ((k : Int))) ∧ wr.ownsRow B7 33 2 (.slice (some ⟨g7, 0, none⟩) (m + 1) c7) (m + 1) (ptsV (K.take (m + 1))) ∧ Blk wr g5 33 #[(Value.int .i64 ((pat K 0).1)), (Value.int .i64 ((pat K 0).2))] ∧ Blk wr g8 33 #[(Value.int .i64 (now.1)), (Value.int .i64 (now.2))] ∧ Blk wr (g8 + 1) 33 #[(Value.int .i64 ((bestTo l now k).1)), (Value.int .i64 ((bestTo l now k).2))] ∧ B7 ≤ wr.heap.size ∧ Below w.heap.size w wr)
        case atStart => exact ⟨0, Nat.zero_le _, rfl, rfl, hO, c5, d8, d9, hBr, hbw⟩
        case round =>
          clear hO c5 d8 d9 hBr hbw
          obtain ⟨k, kn, rfl, rfl, hO, c5, d8, d9, hBr, hbw⟩ := hrel
          by_cases hlt : k < l.length
          · have pa := hp.below hbw
            have x1 := pa.xp hlt
            have x2 := pa.yp hlt
            have lb := pa.lt
            have y0 := d8.cell 0
            have y1 := d8.cell 1
            have y2 := d9.cell 0
            have y3 := d9.cell 1
            have f2 := d9.frozen 0
            have f3 := d9.frozen 1
            have l8 := d8.lt
            have l9 := d9.lt
            have i1 : (k : Int) < (l.length : Int) := by omega
            simp only [List.getElem?_toArray, List.getElem?_cons_zero, List.getElem?_cons_succ] at y0 y1 y2 y3
            have ps := HP.out k hlt
            have pb := hBP.out k kn
            have hs1 : bestTo l now (k + 1) = if pat l k = now then bestTo l now k else if takeB now (bestTo l now k) (pat l k) = true then pat l k else bestTo l now k := rfl
            have h7n : g7 ≠ g8 + 1 := by omega
            have h5n : g5 ≠ g8 + 1 := by omega
            have h8n : g8 ≠ g8 + 1 := by omega
            have hw9 : w.heap.size ≤ g8 + 1 := by omega
            have nb9 : b ≠ g8 + 1 := by have := hp.lt; omega
            generalize pat l k = q at *
            generalize bestTo l now k = bst at *
            by_cases hq : q = now
            · rw [if_pos hq] at hs1
              have bq : decide (q = now) = true := by simpa using hq
              replace hq := Lib.hid hq
              go_wp2
              refine wp_region_after (by kernel_rfl) (by kernel_rfl) ?_; (repeat (go_big_quiet_step ((fail)))); refine wpQuiet_nil ?_; rintro _ ⟨za, rfl⟩; (first | ((with_reducible apply kp_in_after (z := za)); (with_reducible assumption); rintro ⟨hk, hc, hf, hzc, hzf⟩) | ((with_reducible refine kp_in_after0 za ?_); rintro ⟨hk, hc, hf, hzc, hzf⟩))
              go_wp2
              have hbz : Below wr.heap.size wr za.val := bl_after za (Below.refl _ _)
              go_roundg (l.length - (k + 1))
              case measure => omega
              case rel => exact ⟨k + 1, by omega, rfl, by go_num, own_below hO hbz, c5.below hbz, d8.below hbz, by rw [hs1]; exact d9.below hbz, Nat.le_trans hBr hbz.size, bl_call hbw hbz⟩
            · rw [if_neg hq] at hs1
              have bq : decide (q = now) = false := by simpa using hq
              replace hq := Lib.hid hq
              have hon := Lib.hid fun (W : World) => rOn_any now q bst hpm ps pb W
              by_cases c1 : bst = now
              · have tk : takeB now bst q = true := by simp [takeB, c1]
                rw [tk, if_pos rfl] at hs1
                have bq1 : decide (bst = now) = true := by simpa using c1
                replace c1 := Lib.hid c1
                clear tk
                go_wp2
                refine wp_region_after (by kernel_rfl) (by kernel_rfl) ?_; (repeat (go_big_quiet_step ((fail)))); refine wpQuiet_nil ?_; rintro _ ⟨za, rfl⟩; (first | ((with_reducible apply kp_in_after (z := za)); (with_reducible assumption); rintro ⟨hk, hc, hf, hzc, hzf⟩) | ((with_reducible refine kp_in_after0 za ?_); rintro ⟨hk, hc, hf, hzc, hzf⟩))
                go_wp2
                refine wp_region_after (by kernel_rfl) (by kernel_rfl) ?_; (repeat (go_big_quiet_step (((go_at_call 42; with_reducible exact calls_after (rTurn_any _ _ _ hpm pb ps _)))))); refine wpQuiet_nil ?_; rintro _ ⟨zb, rfl⟩; (first | ((with_reducible apply kp_in_after (z := zb)); (with_reducible assumption); rintro ⟨hk, hc, hf, hzc, hzf⟩) | ((with_reducible refine kp_in_after0 zb ?_); rintro ⟨hk, hc, hf, hzc, hzf⟩))
                go_wp2
                refine wp_region_after (by kernel_rfl) (by kernel_rfl) ?_; (repeat (go_big_quiet_step (((go_at_call 56; with_reducible exact calls_after (hon.out _)))))); refine wpQuiet_nil ?_; rintro _ ⟨zc, rfl⟩; (first | ((with_reducible apply kp_in_after (z := zc)); (with_reducible assumption); rintro ⟨hk, hc, hf, hzc, hzf⟩) | ((with_reducible refine kp_in_after0 zc ?_); rintro ⟨hk, hc, hf, hzc, hzf⟩))
                go_wp2
                have hbz : Below wr.heap.size wr zc.val := bl_after zc (bl_after zb (bl_after za (Below.refl _ _)))
                go_roundg (l.length - (k + 1))
                case measure => omega
                case rel => exact ⟨k + 1, by omega, rfl, by go_num, own_set (own_below hO hbz) h7n, (c5.below hbz).far2 h5n, (d8.below hbz).far2 h8n, by rw [hs1]; exact set_two (d9.below hbz), by simpa using Nat.le_trans hBr hbz.size, bl_set2 (bl_call hbw hbz) hw9⟩
              · have bq1 : decide (bst = now) = false := by simpa using c1
                by_cases c2 : turn now bst q < 0
                · have tk : takeB now bst q = true := by simp [takeB, c2]
                  rw [tk, if_pos rfl] at hs1
                  replace c1 := Lib.hid c1
                  clear tk
                  go_wp2
                  refine wp_region_after (by kernel_rfl) (by kernel_rfl) ?_; (repeat (go_big_quiet_step ((fail)))); refine wpQuiet_nil ?_; rintro _ ⟨za, rfl⟩; (first | ((with_reducible apply kp_in_after (z := za)); (with_reducible assumption); rintro ⟨hk, hc, hf, hzc, hzf⟩) | ((with_reducible refine kp_in_after0 za ?_); rintro ⟨hk, hc, hf, hzc, hzf⟩))
                  go_wp2
                  refine wp_region_after (by kernel_rfl) (by kernel_rfl) ?_; (repeat (go_big_quiet_step (((go_at_call 42; with_reducible exact calls_after (rTurn_any _ _ _ hpm pb ps _)))))); refine wpQuiet_nil ?_; rintro _ ⟨zb, rfl⟩; (first | ((with_reducible apply kp_in_after (z := zb)); (with_reducible assumption); rintro ⟨hk, hc, hf, hzc, hzf⟩) | ((with_reducible refine kp_in_after0 zb ?_); rintro ⟨hk, hc, hf, hzc, hzf⟩))
                  go_wp2
                  refine wp_region_after (by kernel_rfl) (by kernel_rfl) ?_; (repeat (go_big_quiet_step (((go_at_call 56; with_reducible exact calls_after (hon.out _)))))); refine wpQuiet_nil ?_; rintro _ ⟨zc, rfl⟩; (first | ((with_reducible apply kp_in_after (z := zc)); (with_reducible assumption); rintro ⟨hk, hc, hf, hzc, hzf⟩) | ((with_reducible refine kp_in_after0 zc ?_); rintro ⟨hk, hc, hf, hzc, hzf⟩))
                  go_wp2
                  have hbz : Below wr.heap.size wr zc.val := bl_after zc (bl_after zb (bl_after za (Below.refl _ _)))
                  go_roundg (l.length - (k + 1))
                  case measure => omega
                  case rel => exact ⟨k + 1, by omega, rfl, by go_num, own_set (own_below hO hbz) h7n, (c5.below hbz).far2 h5n, (d8.below hbz).far2 h8n, by rw [hs1]; exact set_two (d9.below hbz), by simpa using Nat.le_trans hBr hbz.size, bl_set2 (bl_call hbw hbz) hw9⟩
                · by_cases c3 : turn now bst q = 0
                  · cases ch : has now q bst
                    · have tk : takeB now bst q = false := by simp [takeB, c1, c3, ch]
                      rw [tk, if_neg (by decide)] at hs1
                      rw [ch] at hon
                      have bq3 : (turn now bst q == 0) = true := by simpa using c3
                      have bq2 : decide (turn now bst q < 0) = false := by simpa using c2
                      replace c1 := Lib.hid c1
                      clear tk c3 c2
                      go_wp2
                      refine wp_region_after (by kernel_rfl) (by kernel_rfl) ?_; (repeat (go_big_quiet_step ((fail)))); refine wpQuiet_nil ?_; rintro _ ⟨za, rfl⟩; (first | ((with_reducible apply kp_in_after (z := za)); (with_reducible assumption); rintro ⟨hk, hc, hf, hzc, hzf⟩) | ((with_reducible refine kp_in_after0 za ?_); rintro ⟨hk, hc, hf, hzc, hzf⟩))
                      go_wp2
                      refine wp_region_after (by kernel_rfl) (by kernel_rfl) ?_; (repeat (go_big_quiet_step (((go_at_call 42; with_reducible exact calls_after (rTurn_any _ _ _ hpm pb ps _)))))); refine wpQuiet_nil ?_; rintro _ ⟨zb, rfl⟩; (first | ((with_reducible apply kp_in_after (z := zb)); (with_reducible assumption); rintro ⟨hk, hc, hf, hzc, hzf⟩) | ((with_reducible refine kp_in_after0 zb ?_); rintro ⟨hk, hc, hf, hzc, hzf⟩))
                      go_wp2
                      refine wp_region_after (by kernel_rfl) (by kernel_rfl) ?_; (repeat (go_big_quiet_step (((go_at_call 56; with_reducible exact calls_after (hon.out _)))))); refine wpQuiet_nil ?_; rintro _ ⟨zc, rfl⟩; (first | ((with_reducible apply kp_in_after (z := zc)); (with_reducible assumption); rintro ⟨hk, hc, hf, hzc, hzf⟩) | ((with_reducible refine kp_in_after0 zc ?_); rintro ⟨hk, hc, hf, hzc, hzf⟩))
                      go_wp2
                      have hbz : Below wr.heap.size wr zc.val := bl_after zc (bl_after zb (bl_after za (Below.refl _ _)))
                      go_roundg (l.length - (k + 1))
                      case measure => omega
                      case rel => exact ⟨k + 1, by omega, rfl, by go_num, own_below hO hbz, c5.below hbz, d8.below hbz, by rw [hs1]; exact d9.below hbz, Nat.le_trans hBr hbz.size, bl_call hbw hbz⟩
                    · have tk : takeB now bst q = true := by simp [takeB, c3, ch]
                      rw [tk, if_pos rfl] at hs1
                      rw [ch] at hon
                      have bq3 : (turn now bst q == 0) = true := by simpa using c3
                      have bq2 : decide (turn now bst q < 0) = false := by simpa using c2
                      replace c1 := Lib.hid c1
                      clear tk c3 c2
                      go_wp2
                      refine wp_region_after (by kernel_rfl) (by kernel_rfl) ?_; (repeat (go_big_quiet_step ((fail)))); refine wpQuiet_nil ?_; rintro _ ⟨za, rfl⟩; (first | ((with_reducible apply kp_in_after (z := za)); (with_reducible assumption); rintro ⟨hk, hc, hf, hzc, hzf⟩) | ((with_reducible refine kp_in_after0 za ?_); rintro ⟨hk, hc, hf, hzc, hzf⟩))
                      go_wp2
                      refine wp_region_after (by kernel_rfl) (by kernel_rfl) ?_; (repeat (go_big_quiet_step (((go_at_call 42; with_reducible exact calls_after (rTurn_any _ _ _ hpm pb ps _)))))); refine wpQuiet_nil ?_; rintro _ ⟨zb, rfl⟩; (first | ((with_reducible apply kp_in_after (z := zb)); (with_reducible assumption); rintro ⟨hk, hc, hf, hzc, hzf⟩) | ((with_reducible refine kp_in_after0 zb ?_); rintro ⟨hk, hc, hf, hzc, hzf⟩))
                      go_wp2
                      refine wp_region_after (by kernel_rfl) (by kernel_rfl) ?_; (repeat (go_big_quiet_step (((go_at_call 56; with_reducible exact calls_after (hon.out _)))))); refine wpQuiet_nil ?_; rintro _ ⟨zc, rfl⟩; (first | ((with_reducible apply kp_in_after (z := zc)); (with_reducible assumption); rintro ⟨hk, hc, hf, hzc, hzf⟩) | ((with_reducible refine kp_in_after0 zc ?_); rintro ⟨hk, hc, hf, hzc, hzf⟩))
                      go_wp2
                      have hbz : Below wr.heap.size wr zc.val := bl_after zc (bl_after zb (bl_after za (Below.refl _ _)))
                      go_roundg (l.length - (k + 1))
                      case measure => omega
                      case rel => exact ⟨k + 1, by omega, rfl, by go_num, own_set (own_below hO hbz) h7n, (c5.below hbz).far2 h5n, (d8.below hbz).far2 h8n, by rw [hs1]; exact set_two (d9.below hbz), by simpa using Nat.le_trans hBr hbz.size, bl_set2 (bl_call hbw hbz) hw9⟩
                  · have tk : takeB now bst q = false := by simp [takeB, c1, c3]; omega
                    rw [tk, if_neg (by decide)] at hs1
                    have bq3 : (turn now bst q == 0) = false := by simpa using c3
                    have bq2 : decide (turn now bst q < 0) = false := by simpa using c2
                    replace c1 := Lib.hid c1
                    clear tk c3 c2
                    go_wp2
                    refine wp_region_after (by kernel_rfl) (by kernel_rfl) ?_; (repeat (go_big_quiet_step ((fail)))); refine wpQuiet_nil ?_; rintro _ ⟨za, rfl⟩; (first | ((with_reducible apply kp_in_after (z := za)); (with_reducible assumption); rintro ⟨hk, hc, hf, hzc, hzf⟩) | ((with_reducible refine kp_in_after0 za ?_); rintro ⟨hk, hc, hf, hzc, hzf⟩))
                    go_wp2
                    refine wp_region_after (by kernel_rfl) (by kernel_rfl) ?_; (repeat (go_big_quiet_step (((go_at_call 42; with_reducible exact calls_after (rTurn_any _ _ _ hpm pb ps _)))))); refine wpQuiet_nil ?_; rintro _ ⟨zb, rfl⟩; (first | ((with_reducible apply kp_in_after (z := zb)); (with_reducible assumption); rintro ⟨hk, hc, hf, hzc, hzf⟩) | ((with_reducible refine kp_in_after0 zb ?_); rintro ⟨hk, hc, hf, hzc, hzf⟩))
                    go_wp2
                    refine wp_region_after (by kernel_rfl) (by kernel_rfl) ?_; (repeat (go_big_quiet_step (((go_at_call 56; with_reducible exact calls_after (hon.out _)))))); refine wpQuiet_nil ?_; rintro _ ⟨zc, rfl⟩; (first | ((with_reducible apply kp_in_after (z := zc)); (with_reducible assumption); rintro ⟨hk, hc, hf, hzc, hzf⟩) | ((with_reducible refine kp_in_after0 zc ?_); rintro ⟨hk, hc, hf, hzc, hzf⟩))
                    go_wp2
                    have hbz : Below wr.heap.size wr zc.val := bl_after zc (bl_after zb (bl_after za (Below.refl _ _)))
                    go_roundg (l.length - (k + 1))
                    case measure => omega
                    case rel => exact ⟨k + 1, by omega, rfl, by go_num, own_below hO hbz, c5.below hbz, d8.below hbz, by rw [hs1]; exact d9.below hbz, Nat.le_trans hBr hbz.size, bl_call hbw hbz⟩
          · obtain rfl : k = l.length := by omega
            rw [hstep] at d9
            have y0 := c5.cell 0
            have y1 := c5.cell 1
            have y2 := d9.cell 0
            have y3 := d9.cell 1
            have l5 := c5.lt
            have l9 := d9.lt
            simp only [List.getElem?_toArray, List.getElem?_cons_zero, List.getElem?_cons_succ] at y0 y1 y2 y3
            clear hlt kn hBP
            by_cases hlast : m + 1 = K.length
            · have e1 : (m + 1) % K.length = 0 := by rw [hlast, Nat.mod_self]
              rw [e1] at y2 y3
              have e2 : K.take (m + 1) = K := List.take_of_length_le (by omega)
              rw [e2] at hO
              have hKO := ptsAt_own hO
              have e3 : m + 1 = K.length := hlast
              go_wp2
              (try simp only [Exit.inBlock, Exit.then])
              refine bodyPost_ret (v := .tuple #[.slice (some ⟨g7, 0, none⟩) (m + 1) c7, (Value.int .i64 (0))]) (by simp [results, Try.results43, go_sem]) rfl ?_
              exact ⟨⟨g7, c7, by rw [← e3], hKO⟩, hbw⟩
            · have e1 : (m + 1) % K.length = m + 1 := Nat.mod_eq_of_lt (by omega)
              rw [e1] at y2 y3 d9
              have hfr := hG.fresh (m + 1) (by omega) (by omega)
              have bf : decide (pat K (m + 1) = pat K 0) = false := by simpa using hfr
              replace hfr := Lib.hid hfr
              have hpn : isPt (pat K (m + 1)) = true := by
                rw [← e1, ← hstep]
                exact bestTo_pt HP.out (by assumption) _ (Nat.le_refl _)
              have hlen2 : m + 1 ≤ 1000 := by omega
              go_wp2_with (at_builtin; refine wpList_append_own _ rfl (.tmp 92) (.tmp 94) 22 rfl B7 33 ti _ 2 16 undPts hi0 hz0 hz1 hz2 rfl (by decide) _ _ _ rfl (World.ownsRow.alloc hO _) ⟨wr.heap.size, 0, none⟩ 1 1 [(Value.int .i64 ((pat K (m + 1)).1)), (Value.int .i64 ((pat K (m + 1)).2))] rfl rfl (two_news _ _ _ _) (two_one _ _) (by unfold maxLen; omega) (by omega) (by simp; omega) ?_)
              intro v' w9 hown hgrow _
              have A7 := World.ownsRow.alloc hO (.cells #[(Value.int .i64 ((pat K (m + 1)).1)), (Value.int .i64 ((pat K (m + 1)).2))] 33)
              have b9 : Below w.heap.size w w9 := (bl_alloc (o := .cells #[(Value.int .i64 ((pat K (m + 1)).1)), (Value.int .i64 ((pat K (m + 1)).2))] 33) hbw).grown hgrow (by have := hbw.size; simp; omega) fun q hq => by
                have := (A7.lt q hq).1
                omega
              have s9 : B7 ≤ w9.heap.size := by
                have := hgrow.size
                simp at this
                omega
              have r5 : Blk w9 g5 33 #[(Value.int .i64 ((pat K 0).1)), (Value.int .i64 ((pat K 0).2))] := (hgrow.block g5 (by simp; omega) (fun q => by
                have := (A7.lt g5 q.symm).1
                omega)).trans (c5.alloc (.cells #[(Value.int .i64 ((pat K (m + 1)).1)), (Value.int .i64 ((pat K (m + 1)).2))] 33))
              have e4 : ptsV (K.take (m + 1)) ++ [(Value.int .i64 ((pat K (m + 1)).1)), (Value.int .i64 ((pat K (m + 1)).2))] = ptsV (K.take (m + 1 + 1)) := take_ptsV (by omega)
              rw [e4] at hown
              go_wp2
              go_roundg (K.length - (m + 1))
              case measure => omega
              case rel => exact ⟨m + 1, by omega, rfl, hown, r5, s9, b9, hpn⟩
end Go.Proofs.Ytijpolfmiajenaa
