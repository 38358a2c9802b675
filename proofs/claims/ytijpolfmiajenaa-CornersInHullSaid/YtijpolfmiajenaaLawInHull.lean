/- The law CornersInHull answers true for any points, and leaves them as they were. -/
import Derived.Test.YtijpolfmiajenaaIh4
import Derived.Test.YtijpolfmiajenaaHhl
import Derived.Test.YtijpolfmiajenaaWorks
import Derived.Test.YtijpolfmiajenaaOpen
import Derived.Test.YtijpolfmiajenaaReady
import Derived.Test.YtijpolfmiajenaaRows
namespace Go.Proofs.Ytijpolfmiajenaa
open Go.ChangeShapes Go.WideShapes Go.RowKit
attribute [local go_sem] After.cell After.frozen
attribute [local go_sem high] run_eql_pt run_neq_pt

def seenB (l : List Pt) (c : Pt) : Nat → Bool
  | 0 => false
  | k + 1 => seenB l c k || decide (pat l k = c)
theorem seenB_mem {l : List Pt} {c : Pt} : ∀ k, (∃ i, i < k ∧ pat l i = c) → seenB l c k = true
  | 0, ⟨i, hi, _⟩ => by omega
  | k + 1, ⟨i, hi, he⟩ => by
    rw [seenB]
    rcases Nat.lt_succ_iff_lt_or_eq.1 hi with q | rfl
    · rw [seenB_mem k ⟨i, q, he⟩, Bool.true_or]
    · rw [decide_eq_true he, Bool.or_true]
def inB (K l : List Pt) : Nat → Bool
  | 0 => false
  | k + 1 => inB K l k || decide (whereOf K (pat l k) = 1)
theorem inB_iff {K l : List Pt} : ∀ k, inB K l k = true ↔ ∃ i, i < k ∧ whereOf K (pat l i) = 1
  | 0 => by simp [inB]
  | k + 1 => by
    rw [inB, Bool.or_eq_true, inB_iff k, decide_eq_true_eq]
    constructor
    · rintro (⟨i, hi, h⟩ | h)
      · exact ⟨i, by omega, h⟩
      · exact ⟨k, by omega, h⟩
    · rintro ⟨i, hi, h⟩
      rcases Nat.lt_succ_iff_lt_or_eq.1 hi with q | rfl
      · exact .inl ⟨i, q, h⟩
      · exact .inr h
theorem ihHull (A : Option Addr) (ca : Nat) (l : List Pt) (w : World) (ha : Pts w A l) (hB : PtsB l) (hL : ¬ LineB l) :
    Calls Try.prog 41 #[.slice A l.length ca] w fun e w' => (∃ g c, e = .returned (.tuple #[.slice (some ⟨g, 0, none⟩) (hullL (srt2 l)).length c, (Value.int .i64 (0))]) ∧ PtsAt w' g 0 (hullL (srt2 l))) ∧ Below w.heap.size w w' := by
  obtain ⟨p0, -, hG, h3⟩ := hull_gift hB hL
  refine (Hull_ok A ca l w ha hB).mono fun e w' ⟨h1, h2⟩ => ⟨?_, h2⟩
  unfold HullR at h1
  rwa [if_pos h3] at h1
theorem ih_cases (l : List Pt) : (hchk l = 1 ∨ hchk l = 3) ∨ (hchk l = 0 ∧ PtsB l ∧ ¬ LineB l) := by
  unfold hchk
  by_cases hB : PtsB l
  · by_cases hL : LineB l
    · rw [if_pos hB, if_pos hL]; exact .inl (.inr rfl)
    · rw [if_pos hB, if_neg hL]; exact .inr ⟨rfl, hB, hL⟩
  · rw [if_neg hB]; exact .inl (.inl rfl)
theorem ihPts {w : World} {b o : Nat} {l : List Pt} (h : PtsAt w b o l) : Pts w (some ⟨b, o, none⟩) l := .inr ⟨b, o, rfl, h⟩
theorem ih_third {l K : List Pt} (H : Hull l K) {k : Nat} (hk : k < K.length) : 0 < turn (pat K k) (pat K ((k + 1) % K.length)) (pat K ((k + 2) % K.length)) := by
  have h3 := H.len
  have e := ring_at hk
  have m1 : (k + 1) % K.length < K.length := Nat.mod_lt _ (by omega)
  have m2 : (k + 2) % K.length < K.length := Nat.mod_lt _ (by omega)
  refine H.strict e (pat_inl m2) (fun q => ?_) (fun q => ?_)
  · have := ih_inj H.nodup m2 hk q
    rcases Nat.lt_or_ge (k + 2) K.length with z | z
    · rw [Nat.mod_eq_of_lt z] at this; omega
    · rw [Nat.mod_eq_sub_mod z, Nat.mod_eq_of_lt (by omega)] at this; omega
  · have := ih_inj H.nodup m2 m1 q
    rcases Nat.lt_or_ge (k + 2) K.length with z | z
    · rw [Nat.mod_eq_of_lt z, Nat.mod_eq_of_lt (by omega)] at this; omega
    · rcases Nat.lt_or_ge (k + 1) K.length with y | y
      · rw [Nat.mod_eq_sub_mod z, Nat.mod_eq_of_lt y, Nat.mod_eq_of_lt (by omega)] at this; omega
      · rw [Nat.mod_eq_sub_mod z, Nat.mod_eq_sub_mod y, Nat.mod_eq_of_lt (by omega), Nat.mod_eq_of_lt (by omega)] at this; omega

set_option maxRecDepth 100000 in
set_option maxHeartbeats 8000000 in
theorem lawInHull_ok (b o ca : Nat) (l : List Pt) (w : World) (hp : PtsAt w b o l) (hB : PtsB l) (hL : ¬ LineB l) :
    Calls Try.prog 11 #[.slice (some ⟨b, o, none⟩) l.length ca] w fun e w' => e = .returned (.bool true) ∧ Below w.heap.size w w' := by
  have hla : l.length ≤ 9223372036854775807 := by have := hB.1; omega
  have hl10 := hB.1
  have hcp := Lib.hid fun (V : World) (h : Below w.heap.size w V) => rCheckPoints_any (some ⟨b, o, none⟩) ca l V (.inr ⟨b, o, rfl, hp.below h⟩) (by omega)
  have e0 : hchk l = 0 := by unfold hchk; rw [if_pos hB, if_neg hL]
  rw [e0] at hcp
  have H := Lib.hid (hull_of hB hL)
  have hHu := Lib.hid fun (V : World) (h : Below w.heap.size w V) => ihHull (some ⟨b, o, none⟩) ca l V (.inr ⟨b, o, rfl, hp.below h⟩) hB hL
  have hKo := Lib.hid (H.out.ok hB)
  have hKl := H.out.le
  have hPB := Lib.hid hB
  generalize hullL (srt2 l) = K at *
  have hKn : ¬ l.length < K.length := by omega
  have z1 : decide ((l.length : Int) < (K.length : Int)) = false := by simp; omega
  have zf : decide (40 < l.length) = false := by simp; omega
  clear hB hL e0
  go_enter Try.func11, Try.ntmps11
  go_upto_region 3 with (first | (go_at_call 20; with_reducible refine Calls.mono (Far_any _ _ _ _ hla) ?_; rintro e w' ⟨rfl, rfl⟩) | (go_at_call 40; with_reducible refine Calls.mono (hcp.out _ (by (repeat (first | with_reducible exact Below.refl _ _ | with_reducible apply bl_alloc | with_reducible apply bl_drew | with_reducible apply bl_after | (with_reducible refine bl_call ?_ (by assumption)))))) ?_; rintro e w1 ⟨rfl, hb1⟩; first | ((with_reducible apply kp_in_step (hb := hb1)); (with_reducible assumption); rintro ⟨hk, hc, hf, hzc, hzf⟩) | ((with_reducible refine kp_in_first hb1 ?_); rintro ⟨hk, hc, hf, hzc, hzf⟩)))
  go_upto_region 4 with ((go_at_call 41); (with_reducible refine Calls.mono (hHu.out _ (by (repeat (first | with_reducible exact Below.refl _ _ | with_reducible apply bl_alloc | with_reducible apply bl_drew | with_reducible apply bl_after | (with_reducible refine bl_call ?_ (by assumption)))))) ?_); rintro e w2 ⟨⟨g2, d2, rfl, H2⟩, hb2⟩; first | ((with_reducible apply kp_in_step (hb := hb2)); (with_reducible assumption); rintro ⟨hk, hc, hf, hzc, hzf⟩) | ((with_reducible refine kp_in_first hb2 ?_); rintro ⟨hk, hc, hf, hzc, hzf⟩))
  have hb3 : Below w.heap.size w w2 := by (repeat (first | with_reducible exact Below.refl _ _ | with_reducible apply bl_alloc | with_reducible apply bl_drew | with_reducible apply bl_after | (with_reducible refine bl_call ?_ (by assumption))))
  ((try clear hk hc hf hzc hzf); (try clear hk hc hf hzc hzf); (try clear hk hc hf hzc hzf); (try clear hk hc hf hzc hzf))
  clear hb1 hb2
  have hck := Lib.hid (rCheck_any (some ⟨g2, 0, none⟩) d2 K w2 (ihPts H2) (by omega))
  rw [chk_ok hKo.out] at hck
  go_upto_region 6 with (go_at_call 23; with_reducible refine Calls.mono (hck.out) ?_; rintro e w1 ⟨rfl, hb1⟩; first | ((with_reducible apply kp_in_step (hb := hb1)); (with_reducible assumption); rintro ⟨hk, hc, hf, hzc, hzf⟩) | ((with_reducible refine kp_in_first hb1 ?_); rintro ⟨hk, hc, hf, hzc, hzf⟩))
  have hbK := hb1
  ((try clear hk hc hf hzc hzf); (try clear hk hc hf hzc hzf); (try clear hk hc hf hzc hzf); (try clear hk hc hf hzc hzf))
  clear hb1 hck hHu hcp
  go_wp2
  go_loopg [5] K.length (fun g i wr => ∃ k : Nat, k ≤ K.length ∧ g = K.length - k ∧ i = (Value.int .i64 ((k : Int))) ∧ Below w2.heap.size w2 wr)
  case atStart => exact ⟨0, Nat.zero_le _, rfl, rfl, hbK⟩
  case round =>
    clear hbK
    obtain ⟨k, kn, rfl, rfl, hbr⟩ := hrel
    by_cases hlt : k < K.length
    · have i1 : (k : Int) < (K.length : Int) := by omega
      go_wp2
      go_loopg [6, 7] l.length (fun g f i wr => ∃ j : Nat, j ≤ l.length ∧ g = l.length - j ∧ i = (Value.int .i64 ((j : Int))) ∧ f = .bool (seenB l (pat K k) j) ∧ Below w2.heap.size w2 wr)
      case atStart => exact ⟨0, Nat.zero_le _, rfl, rfl, rfl, hbr⟩
      case round =>
        clear hbr
        obtain ⟨j, jn, rfl, rfl, rfl, hbj⟩ := hrel
        by_cases hlj : j < l.length
        · have i2 : (j : Int) < (l.length : Int) := by omega
          have hs1 : seenB l (pat K k) (j + 1) = (seenB l (pat K k) j || decide (pat l j = pat K k)) := rfl
          cases hsv : seenB l (pat K k) j
          · rw [hsv, Bool.false_or] at hs1
            replace hs1 := Lib.hid hs1
            have pa := hp.below (bl_call hb3 hbj)
            have x1 := pa.xp hlj
            have x2 := pa.yp hlj
            have lb := pa.lt
            have pk := H2.below hbj
            have x3 := pk.xp hlt
            have x4 := pk.yp hlt
            have lk := pk.lt
            simp only [Nat.zero_add] at x3 x4
            go_wp2
            refine wp_region_after (by kernel_rfl) (by kernel_rfl) ?_; (repeat (go_big_quiet_step ((fail)))); refine wpQuiet_nil ?_; rintro _ ⟨z, rfl⟩; (first | ((with_reducible apply kp_in_after (z := z)); (with_reducible assumption); rintro ⟨hk, hc, hf, hzc, hzf⟩) | ((with_reducible refine kp_in_after0 z ?_); rintro ⟨hk, hc, hf, hzc, hzf⟩))
            go_wp2
            go_roundg (l.length - (j + 1))
            case measure => omega
            case rel => exact ⟨j + 1, by omega, rfl, by go_num, by rw [hs1.out], bl_call hbj z.ok⟩
          · rw [hsv, Bool.true_or] at hs1
            replace hs1 := Lib.hid hs1
            go_wp2
            refine wp_region_after (by kernel_rfl) (by kernel_rfl) ?_; (repeat (go_big_quiet_step ((fail)))); refine wpQuiet_nil ?_; rintro _ ⟨z, rfl⟩; (first | ((with_reducible apply kp_in_after (z := z)); (with_reducible assumption); rintro ⟨hk, hc, hf, hzc, hzf⟩) | ((with_reducible refine kp_in_after0 z ?_); rintro ⟨hk, hc, hf, hzc, hzf⟩))
            go_wp2
            go_roundg (l.length - (j + 1))
            case measure => omega
            case rel => exact ⟨j + 1, by omega, rfl, by go_num, by rw [hs1.out], bl_call hbj z.ok⟩
        · obtain rfl : j = l.length := by omega
          have hse : seenB l (pat K k) l.length = true := by
            obtain ⟨i, hi, he⟩ := mem_pat2 (H.out.sub (pat_inl hlt))
            exact seenB_mem _ ⟨i, hi, he⟩
          rw [hse]
          have hT := ih_third H.out hlt
          have h3 := H.out.len
          have m1 : (k + 1) % K.length < K.length := Nat.mod_lt _ (by omega)
          have m2 : (k + 2) % K.length < K.length := Nat.mod_lt _ (by omega)
          obtain ⟨k1, hk1⟩ : ∃ k1, k1 = (k + 1) % K.length := ⟨_, rfl⟩
          obtain ⟨k2, hk2⟩ : ∃ k2, k2 = (k + 2) % K.length := ⟨_, rfl⟩
          have e1 : ((k : Int) + 1) % (K.length : Int) = (k1 : Int) := by rw [hk1]; simp
          have e2 : ((k : Int) + 2) % (K.length : Int) = (k2 : Int) := by rw [hk2]; simp
          rw [← hk1] at m1 hT
          rw [← hk2] at m2 hT
          have pk := H2.below hbj
          have x1 := pk.xp hlt
          have x2 := pk.yp hlt
          have x3 := pk.xp m1
          have x4 := pk.yp m1
          have x5 := pk.xp m2
          have x6 := pk.yp m2
          have lk := pk.lt
          simp only [Nat.zero_add] at x1 x2 x3 x4 x5 x6
          have hTd : decide (turn (pat K k) (pat K k1) (pat K k2) ≤ 0) = false := by simp; omega
          have p1 := hKo.out.2.1 k hlt
          have p2 := hKo.out.2.1 k1 m1
          have p3 := hKo.out.2.1 k2 m2
          have i3 : (k1 : Int) < (K.length : Int) := by omega
          have i4 : (k2 : Int) < (K.length : Int) := by omega
          clear hk1 hk2 hT hse
          go_wp2
          refine wp_region_after (by kernel_rfl) (by kernel_rfl) ?_; (repeat (go_big_quiet_step (((go_at_call 42; with_reducible exact calls_after (rTurn_any _ _ _ p1 p2 p3 _)))))); refine wpQuiet_nil ?_; rintro _ ⟨z, rfl⟩; (first | ((with_reducible apply kp_in_after (z := z)); (with_reducible assumption); rintro ⟨hk, hc, hf, hzc, hzf⟩) | ((with_reducible refine kp_in_after0 z ?_); rintro ⟨hk, hc, hf, hzc, hzf⟩))
          go_wp2
          go_roundg (K.length - (k + 1))
          case measure => omega
          case rel => exact ⟨k + 1, by omega, rfl, by go_num, bl_call hbj z.ok⟩
    · obtain rfl : k = K.length := by omega
      go_wp2
      go_loopg [8, 9] l.length (fun g f i wr => ∃ j : Nat, j ≤ l.length ∧ g = l.length - j ∧ i = (Value.int .i64 ((j : Int))) ∧ f = .bool (inB K l j) ∧ Below w2.heap.size w2 wr)
      case atStart => exact ⟨0, Nat.zero_le _, rfl, rfl, rfl, hbr⟩
      case round =>
        clear hbr
        obtain ⟨j, jn, rfl, rfl, rfl, hbj⟩ := hrel
        by_cases hlj : j < l.length
        · have i2 : (j : Int) < (l.length : Int) := by omega
          have hs1 : inB K l (j + 1) = (inB K l j || decide (whereOf K (pat l j) = 1)) := rfl
          have pa := hp.below (bl_call hb3 hbj)
          have x1 := pa.xp hlj
          have x2 := pa.yp hlj
          have lb := pa.lt
          have hW := Lib.hid fun (V : World) (h : Below w2.heap.size w2 V) => Where_ok g2 0 d2 K (pat l j) V (H2.below h) hKo.out (hPB.out.2 j hlj)
          have hv := H.out.where_ (pat_inl hlj)
          by_cases ho : onSome K (pat l j)
          · rw [if_pos ho] at hv
            rw [hv] at hW hs1
            cases hiv : inB K l j
            · rw [hiv, Bool.false_or] at hs1
              replace hs1 := Lib.hid hs1
              go_wp2_with ((go_at_call 25); (with_reducible refine Calls.mono (hW.out _ (by (repeat (first | with_reducible exact Below.refl _ _ | with_reducible apply bl_alloc | with_reducible apply bl_drew | with_reducible apply bl_after | (with_reducible refine bl_call ?_ (by assumption)))))) ?_); rintro e wn ⟨rfl, hbn⟩; first | ((with_reducible apply kp_in_step (hb := hbn)); (with_reducible assumption); rintro ⟨hk, hc, hf, hzc, hzf⟩) | ((with_reducible refine kp_in_first hbn ?_); rintro ⟨hk, hc, hf, hzc, hzf⟩))
              have hbn2 : Below w2.heap.size w2 wn := by (repeat (first | with_reducible exact Below.refl _ _ | with_reducible apply bl_alloc | with_reducible apply bl_drew | with_reducible apply bl_after | (with_reducible refine bl_call ?_ (by assumption))))
              ((try clear hk hc hf hzc hzf); (try clear hk hc hf hzc hzf); (try clear hk hc hf hzc hzf); (try clear hk hc hf hzc hzf))
              go_roundg (l.length - (j + 1))
              case measure => omega
              case rel => exact ⟨j + 1, by omega, rfl, by go_num, by rw [hs1.out]; rfl, hbn2⟩
            · rw [hiv, Bool.true_or] at hs1
              replace hs1 := Lib.hid hs1
              go_wp2_with ((go_at_call 25); (with_reducible refine Calls.mono (hW.out _ (by (repeat (first | with_reducible exact Below.refl _ _ | with_reducible apply bl_alloc | with_reducible apply bl_drew | with_reducible apply bl_after | (with_reducible refine bl_call ?_ (by assumption)))))) ?_); rintro e wn ⟨rfl, hbn⟩; first | ((with_reducible apply kp_in_step (hb := hbn)); (with_reducible assumption); rintro ⟨hk, hc, hf, hzc, hzf⟩) | ((with_reducible refine kp_in_first hbn ?_); rintro ⟨hk, hc, hf, hzc, hzf⟩))
              have hbn2 : Below w2.heap.size w2 wn := by (repeat (first | with_reducible exact Below.refl _ _ | with_reducible apply bl_alloc | with_reducible apply bl_drew | with_reducible apply bl_after | (with_reducible refine bl_call ?_ (by assumption))))
              ((try clear hk hc hf hzc hzf); (try clear hk hc hf hzc hzf); (try clear hk hc hf hzc hzf); (try clear hk hc hf hzc hzf))
              go_roundg (l.length - (j + 1))
              case measure => omega
              case rel => exact ⟨j + 1, by omega, rfl, by go_num, by rw [hs1.out], hbn2⟩
          · rw [if_neg ho] at hv
            rw [hv] at hW hs1
            cases hiv : inB K l j
            · rw [hiv, Bool.false_or] at hs1
              replace hs1 := Lib.hid hs1
              go_wp2_with ((go_at_call 25); (with_reducible refine Calls.mono (hW.out _ (by (repeat (first | with_reducible exact Below.refl _ _ | with_reducible apply bl_alloc | with_reducible apply bl_drew | with_reducible apply bl_after | (with_reducible refine bl_call ?_ (by assumption)))))) ?_); rintro e wn ⟨rfl, hbn⟩; first | ((with_reducible apply kp_in_step (hb := hbn)); (with_reducible assumption); rintro ⟨hk, hc, hf, hzc, hzf⟩) | ((with_reducible refine kp_in_first hbn ?_); rintro ⟨hk, hc, hf, hzc, hzf⟩))
              have hbn2 : Below w2.heap.size w2 wn := by (repeat (first | with_reducible exact Below.refl _ _ | with_reducible apply bl_alloc | with_reducible apply bl_drew | with_reducible apply bl_after | (with_reducible refine bl_call ?_ (by assumption))))
              ((try clear hk hc hf hzc hzf); (try clear hk hc hf hzc hzf); (try clear hk hc hf hzc hzf); (try clear hk hc hf hzc hzf))
              go_roundg (l.length - (j + 1))
              case measure => omega
              case rel => exact ⟨j + 1, by omega, rfl, by go_num, by rw [hs1.out]; rfl, hbn2⟩
            · rw [hiv, Bool.true_or] at hs1
              replace hs1 := Lib.hid hs1
              go_wp2_with ((go_at_call 25); (with_reducible refine Calls.mono (hW.out _ (by (repeat (first | with_reducible exact Below.refl _ _ | with_reducible apply bl_alloc | with_reducible apply bl_drew | with_reducible apply bl_after | (with_reducible refine bl_call ?_ (by assumption)))))) ?_); rintro e wn ⟨rfl, hbn⟩; first | ((with_reducible apply kp_in_step (hb := hbn)); (with_reducible assumption); rintro ⟨hk, hc, hf, hzc, hzf⟩) | ((with_reducible refine kp_in_first hbn ?_); rintro ⟨hk, hc, hf, hzc, hzf⟩))
              have hbn2 : Below w2.heap.size w2 wn := by (repeat (first | with_reducible exact Below.refl _ _ | with_reducible apply bl_alloc | with_reducible apply bl_drew | with_reducible apply bl_after | (with_reducible refine bl_call ?_ (by assumption))))
              ((try clear hk hc hf hzc hzf); (try clear hk hc hf hzc hzf); (try clear hk hc hf hzc hzf); (try clear hk hc hf hzc hzf))
              go_roundg (l.length - (j + 1))
              case measure => omega
              case rel => exact ⟨j + 1, by omega, rfl, by go_num, by rw [hs1.out], hbn2⟩
        · obtain rfl : j = l.length := by omega
          have hbw := bl_call hb3 hbj
          have pl := hp.below hbw
          have pk := H2.below hbj
          have hbH := Lib.hid hbw
          clear hbw hbj hb3
          rename World => wf
          have hrc := Lib.hid fun (V : World) (h : Below wf.heap.size wf V) => rCheck_any (some ⟨b, o, none⟩) ca l V (ihPts (pl.below h)) (by omega)
          by_cases hok : Ok l
          · rw [chk_ok hok] at hrc
            obtain ⟨ar1, ar2⟩ := H.out.area hok
            have hin : inB K l l.length = true ↔ ¬ ∀ v ∈ l, onSome K v := by
              rw [inB_iff]
              constructor
              · rintro ⟨i, hi, h⟩ hall
                rw [H.out.where_ (pat_inl hi), if_pos (hall _ (pat_inl hi))] at h
                cases h
              · intro h
                refine Classical.byContradiction fun k => h fun v hv => Classical.byContradiction fun z => k ?_
                obtain ⟨i, hi, rfl⟩ := mem_pat2 hv
                exact ⟨i, hi, by rw [H.out.where_ hv, if_neg z]⟩
            have b1 : -800000000000 ≤ tw l ∧ tw l ≤ 800000000000 := sumOf_bd hok.1.2 hok.2.1 one_bd
            have b2 : -800000000000 ≤ tw K ∧ tw K ≤ 800000000000 := sumOf_bd hKo.out.1.2 hKo.out.2.1 one_bd
            have hT1 := Lib.hid fun (V : World) (h : Below wf.heap.size wf V) => Twice_ok b o ca l V (pl.below h) hok
            have hT2 := Lib.hid fun (V : World) (h : Below wf.heap.size wf V) => Twice_ok g2 0 d2 K V (pk.below h) hKo.out
            have q1 : decide (tw K ≥ max (tw l) (- tw l)) = true := by simp; omega
            have q2 : decide (max (tw l) (- tw l) ≤ tw K) = true := by simp; omega
            generalize tw l = n at *
            generalize tw K = m at *
            cases hI : inB K l l.length
            · have hq : m = max n (-n) := ar2.2 (Classical.byContradiction fun z => by rw [hin.2 z] at hI; cases hI)
              have q3 : (m == max n (-n)) = true := by simpa using hq
              have q4 : decide (m = max n (-n)) = true := by simpa using hq
              clear hq ar2 hin
              replace hok := Lib.hid hok
              go_wp2_with (first | ((go_at_call 23); (with_reducible refine Calls.mono (hrc.out _ (by (repeat (first | with_reducible exact Below.refl _ _ | with_reducible apply bl_alloc | with_reducible apply bl_drew | with_reducible apply bl_after | (with_reducible refine bl_call ?_ (by assumption)))))) ?_); rintro e wn ⟨rfl, hbn⟩; first | ((with_reducible apply kp_in_step (hb := hbn)); (with_reducible assumption); rintro ⟨hk, hc, hf, hzc, hzf⟩) | ((with_reducible refine kp_in_first hbn ?_); rintro ⟨hk, hc, hf, hzc, hzf⟩)) | ((go_at_call 16); (with_reducible refine Calls.mono (hT1.out _ (by (repeat (first | with_reducible exact Below.refl _ _ | with_reducible apply bl_alloc | with_reducible apply bl_drew | with_reducible apply bl_after | (with_reducible refine bl_call ?_ (by assumption)))))) ?_); rintro e wn ⟨rfl, hbn⟩; first | ((with_reducible apply kp_in_step (hb := hbn)); (with_reducible assumption); rintro ⟨hk, hc, hf, hzc, hzf⟩) | ((with_reducible refine kp_in_first hbn ?_); rintro ⟨hk, hc, hf, hzc, hzf⟩)) | ((go_at_call 16); (with_reducible refine Calls.mono (hT2.out _ (by (repeat (first | with_reducible exact Below.refl _ _ | with_reducible apply bl_alloc | with_reducible apply bl_drew | with_reducible apply bl_after | (with_reducible refine bl_call ?_ (by assumption)))))) ?_); rintro e wn ⟨rfl, hbn⟩; first | ((with_reducible apply kp_in_step (hb := hbn)); (with_reducible assumption); rintro ⟨hk, hc, hf, hzc, hzf⟩) | ((with_reducible refine kp_in_first hbn ?_); rintro ⟨hk, hc, hf, hzc, hzf⟩)) | (go_at_call 18; with_reducible refine Calls.mono (sane2 (Blk.new _ _ _) (by unfold big; omega) (by unfold big; omega)) ?_; rintro e w' ⟨rfl, rfl⟩) | (go_at_call 19; with_reducible refine Calls.mono (abs_any _ _ (by omega) (by omega)) ?_; rintro e w' ⟨rfl, rfl⟩) | ((go_at_call 15); (with_reducible refine Calls.mono (works_any _) ?_); rintro e wn ⟨rfl, hbn⟩; first | ((with_reducible apply kp_in_step (hb := hbn)); (with_reducible assumption); rintro ⟨hk, hc, hf, hzc, hzf⟩) | ((with_reducible refine kp_in_first hbn ?_); rintro ⟨hk, hc, hf, hzc, hzf⟩)))
              go_ret
              exact ⟨rfl, bl_call hbH.out (by (repeat (first | with_reducible exact Below.refl _ _ | with_reducible apply bl_alloc | with_reducible apply bl_drew | with_reducible apply bl_after | (with_reducible refine bl_call ?_ (by assumption)))))⟩
            · have hq : m ≠ max n (-n) := fun e => hin.1 hI (ar2.1 e)
              have q3 : (m == max n (-n)) = false := by simpa using hq
              have q4 : decide (m = max n (-n)) = false := by simpa using hq
              clear hq ar2 hin
              replace hok := Lib.hid hok
              go_wp2_with (first | ((go_at_call 23); (with_reducible refine Calls.mono (hrc.out _ (by (repeat (first | with_reducible exact Below.refl _ _ | with_reducible apply bl_alloc | with_reducible apply bl_drew | with_reducible apply bl_after | (with_reducible refine bl_call ?_ (by assumption)))))) ?_); rintro e wn ⟨rfl, hbn⟩; first | ((with_reducible apply kp_in_step (hb := hbn)); (with_reducible assumption); rintro ⟨hk, hc, hf, hzc, hzf⟩) | ((with_reducible refine kp_in_first hbn ?_); rintro ⟨hk, hc, hf, hzc, hzf⟩)) | ((go_at_call 16); (with_reducible refine Calls.mono (hT1.out _ (by (repeat (first | with_reducible exact Below.refl _ _ | with_reducible apply bl_alloc | with_reducible apply bl_drew | with_reducible apply bl_after | (with_reducible refine bl_call ?_ (by assumption)))))) ?_); rintro e wn ⟨rfl, hbn⟩; first | ((with_reducible apply kp_in_step (hb := hbn)); (with_reducible assumption); rintro ⟨hk, hc, hf, hzc, hzf⟩) | ((with_reducible refine kp_in_first hbn ?_); rintro ⟨hk, hc, hf, hzc, hzf⟩)) | ((go_at_call 16); (with_reducible refine Calls.mono (hT2.out _ (by (repeat (first | with_reducible exact Below.refl _ _ | with_reducible apply bl_alloc | with_reducible apply bl_drew | with_reducible apply bl_after | (with_reducible refine bl_call ?_ (by assumption)))))) ?_); rintro e wn ⟨rfl, hbn⟩; first | ((with_reducible apply kp_in_step (hb := hbn)); (with_reducible assumption); rintro ⟨hk, hc, hf, hzc, hzf⟩) | ((with_reducible refine kp_in_first hbn ?_); rintro ⟨hk, hc, hf, hzc, hzf⟩)) | (go_at_call 18; with_reducible refine Calls.mono (sane2 (Blk.new _ _ _) (by unfold big; omega) (by unfold big; omega)) ?_; rintro e w' ⟨rfl, rfl⟩) | (go_at_call 19; with_reducible refine Calls.mono (abs_any _ _ (by omega) (by omega)) ?_; rintro e w' ⟨rfl, rfl⟩) | ((go_at_call 15); (with_reducible refine Calls.mono (works_any _) ?_); rintro e wn ⟨rfl, hbn⟩; first | ((with_reducible apply kp_in_step (hb := hbn)); (with_reducible assumption); rintro ⟨hk, hc, hf, hzc, hzf⟩) | ((with_reducible refine kp_in_first hbn ?_); rintro ⟨hk, hc, hf, hzc, hzf⟩)))
              go_ret
              exact ⟨rfl, bl_call hbH.out (by (repeat (first | with_reducible exact Below.refl _ _ | with_reducible apply bl_alloc | with_reducible apply bl_drew | with_reducible apply bl_after | (with_reducible refine bl_call ?_ (by assumption)))))⟩
          · rw [chk_no hok] at hrc
            replace hok := Lib.hid hok
            go_wp2_with (first | ((go_at_call 23); (with_reducible refine Calls.mono (hrc.out _ (by (repeat (first | with_reducible exact Below.refl _ _ | with_reducible apply bl_alloc | with_reducible apply bl_drew | with_reducible apply bl_after | (with_reducible refine bl_call ?_ (by assumption)))))) ?_); rintro e wn ⟨rfl, hbn⟩; first | ((with_reducible apply kp_in_step (hb := hbn)); (with_reducible assumption); rintro ⟨hk, hc, hf, hzc, hzf⟩) | ((with_reducible refine kp_in_first hbn ?_); rintro ⟨hk, hc, hf, hzc, hzf⟩)) | ((go_at_call 15); (with_reducible refine Calls.mono (works_any _) ?_); rintro e wn ⟨rfl, hbn⟩; first | ((with_reducible apply kp_in_step (hb := hbn)); (with_reducible assumption); rintro ⟨hk, hc, hf, hzc, hzf⟩) | ((with_reducible refine kp_in_first hbn ?_); rintro ⟨hk, hc, hf, hzc, hzf⟩)))
            go_ret
            exact ⟨rfl, bl_call hbH.out (by (repeat (first | with_reducible exact Below.refl _ _ | with_reducible apply bl_alloc | with_reducible apply bl_drew | with_reducible apply bl_after | (with_reducible refine bl_call ?_ (by assumption)))))⟩
set_option maxRecDepth 100000 in
set_option maxHeartbeats 4000000 in
theorem lawInHull_any (A : Option Addr) (ca : Nat) (l : List Pt) (w : World) (ha : Pts w A l) (hla : l.length ≤ 9223372036854775807) :
    Calls Try.prog 11 #[.slice A l.length ca] w fun e w' => e = .returned (.bool true) ∧ Below w.heap.size w w' := by
  by_cases hfar : 40 < l.length
  · go_enter Try.func11, Try.ntmps11
    go_wp2_with (first | (go_at_call 20; with_reducible refine Calls.mono (Far_any _ _ _ _ hla) ?_; rintro e w' ⟨rfl, rfl⟩) | ((go_at_call 15); (with_reducible refine Calls.mono (works_any _) ?_); rintro e w1 ⟨rfl, hb1⟩))
    go_ret
    exact ⟨rfl, by (repeat (first | with_reducible exact Below.refl _ _ | with_reducible apply bl_alloc | with_reducible apply bl_drew | with_reducible apply bl_after | (with_reducible refine bl_call ?_ (by assumption))))⟩
  · rcases ih_cases l with hno | ⟨-, hB, hL⟩
    · have hcp := Lib.hid fun (V : World) (h : Below w.heap.size w V) => rCheckPoints_any A ca l V (ha.below h) (by omega)
      have hd : (hchk l != 0) = true := by rcases hno with h | h <;> rw [h] <;> rfl
      have hd2 : decide (hchk l = 0) = false := by rcases hno with h | h <;> rw [h] <;> rfl
      generalize hchk l = n at *
      rcases hno with rfl | rfl
      all_goals
        go_enter Try.func11, Try.ntmps11
        go_wp2_with (first | (go_at_call 20; with_reducible refine Calls.mono (Far_any _ _ _ _ hla) ?_; rintro e w' ⟨rfl, rfl⟩) | ((go_at_call 40); (with_reducible refine Calls.mono (hcp.out _ (by (repeat (first | with_reducible exact Below.refl _ _ | with_reducible apply bl_alloc | with_reducible apply bl_drew | with_reducible apply bl_after | (with_reducible refine bl_call ?_ (by assumption)))))) ?_); rintro e wn ⟨rfl, hbn⟩; first | ((with_reducible apply kp_in_step (hb := hbn)); (with_reducible assumption); rintro ⟨hk, hc, hf, hzc, hzf⟩) | ((with_reducible refine kp_in_first hbn ?_); rintro ⟨hk, hc, hf, hzc, hzf⟩)) | ((go_at_call 15); (with_reducible refine Calls.mono (works_any _) ?_); rintro e wn ⟨rfl, hbn⟩; first | ((with_reducible apply kp_in_step (hb := hbn)); (with_reducible assumption); rintro ⟨hk, hc, hf, hzc, hzf⟩) | ((with_reducible refine kp_in_first hbn ?_); rintro ⟨hk, hc, hf, hzc, hzf⟩)))
        go_ret
        exact ⟨rfl, by (repeat (first | with_reducible exact Below.refl _ _ | with_reducible apply bl_alloc | with_reducible apply bl_drew | with_reducible apply bl_after | (with_reducible refine bl_call ?_ (by assumption))))⟩
    · have h0 : 0 < l.length := by
        refine Nat.pos_of_ne_zero fun q => hL fun i hi => ?_
        omega
      obtain ⟨b, o, rfl, hp⟩ := ha.at_ h0
      exact lawInHull_ok b o ca l w hp hB hL
section
open Go.ChangeAt
set_option maxRecDepth 100000 in
theorem cornersInHull_lifted (os : Os) (started : os.Started) (H : Type) (enc : TypeId × Value → H) :
    ReturnsInHanded {} Try.checked os 11 .any (Rows.cornersInHullSpec.pre6 enc Try.prog Try.f11 Rows.cornersInHullRow.domain false) (Rows.cornersInHullSpec.post enc Try.prog Try.f11 false true false false) := by
  refine returnsInHanded_of_change (C := Try.checked) own_knob started (by kernel_rfl) Try.func11
    (ChangeSpec.witness6 (enc := enc) (C := Try.checked) false ⟨#[], #[.slice none 0 0], []⟩ 8 (by kernel_rfl) (by kernel_rfl) (by kernel_rfl) (by kernel_rfl)) ?_
  intro W base args ds gs before hval0 hW hcnd _
  have hval : ∀ (j : Nat) t v, Try.f11.params[j]? = some t → args[j]? = some v → Value.okWide Try.prog W .any base t v := hval0
  have hW2 := hW
  obtain ⟨p, q, hA0, hV, rfl, hfz, hnd⟩ := hW
  have hA : DataW.TrodAll enc Try.prog W 0 (fun _ => true) true Try.f11.params.toList args.toList ds p := hA0
  rw [Try.params11] at hA hval
  obtain ⟨v0, d0, rfl, rfl, h0⟩ := trodAll_one hA
  obtain ⟨rfl, rfl⟩ := trodVars_none hV
  obtain ⟨A, ca, l, rfl, hP, hl⟩ := open_points (okWide_slice undPts (hval 0 _ _ rfl rfl)) h0
  clear hA0 hval0
  simp only [List.append_nil, List.nil_append] at hW2
  (try simp only [List.append_nil, List.nil_append] at hA)
  refine (lawInHull_any A ca l W hP hl).mono fun e W2 ⟨he, hb⟩ => ?_
  subst he
  refine ⟨_, rfl, post_of_below (pa := _) (pv := []) hW2 (fun _ _ _ => trodAll_mk1 (shut_bool und_bool _)) (fun sp hs => args_stay hb (by rw [Try.params11]; intro t ht; simp at ht; (try rcases ht with rfl | rfl | rfl) <;> (try rcases ht with rfl | rfl) <;> (try subst ht) <;> exact ⟨by kernel_rfl, by decide +kernel⟩) (by rw [Try.params11]; exact hA) hs) (fun _ _ => rfl) (by simp) hb (ok_one (by kernel_rfl) rfl (okWide_bool_mk und_bool _))⟩

theorem cornersInHull_holds : Rows.CornersInHullSaid :=
  OpenClaim.holds_of_wide 11 Try.f11 rfl rfl rfl rfl rfl rfl rfl ⟨rfl, rfl, rfl, rfl, rfl⟩ rfl rfl rfl rfl rfl (by kernel_rfl) Try.func11 (by kernel_rfl)
    (of_decide_eq_true (by kernel_rfl)) (by unfold Func.isWrapper; first | (rw [if_pos (by decide +kernel)]; kernel_rfl) | (rw [if_neg (by decide +kernel)]; exact ⟨rfl, rfl⟩))
    (fun os started H enc _ => cornersInHull_lifted os started H enc)
end
end Go.Proofs.Ytijpolfmiajenaa
