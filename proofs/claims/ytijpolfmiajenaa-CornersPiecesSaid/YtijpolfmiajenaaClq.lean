/- The function corners.clip answers a corner that can be cut off: a straight one, or an ear, if there is one. -/
import Derived.Test.YtijpolfmiajenaaClp
namespace Go.Proofs.Ytijpolfmiajenaa
open Go.RowKit
attribute [local go_sem] After.cell After.frozen
attribute [local go_sem high] run_eql_pt run_neq_pt

/-- A point lies in the closed triangle, and is none of its corners. -/
def inT3 (s : Int) (a b c q : Pt) : Prop := q ≠ a ∧ q ≠ b ∧ q ≠ c ∧ 0 ≤ turn a b q * s ∧ 0 ≤ turn b c q * s ∧ 0 ≤ turn c a q * s
/-- Corner i can be cut off: no other one is in its triangle. -/
def EarI (l : List Pt) (ls : List Int) (s : Int) (i : Nat) : Prop := 0 ≤ trn l ls i * s ∧ ∀ k, k < ls.length → ¬ inT3 s (lpt l ls (prv ls.length i)) (lpt l ls i) (lpt l ls (nxn ls.length i)) (lpt l ls k)
def ClipI (l : List Pt) (ls : List Int) (s : Int) (i : Nat) : Prop := i < ls.length ∧ (trn l ls i = 0 ∨ ((∀ j, j < ls.length → trn l ls j ≠ 0) ∧ EarI l ls s i))
theorem turn_s {a b c : Pt} {s : Int} (ha : isPt a = true) (hb : isPt b = true) (hc : isPt c = true) (hs : -1 ≤ s ∧ s ≤ 1) : wrap64 (turn a b c * s) = turn a b c * s := by
  have h1 := turn_bd ha hb hc
  have h2 := mul_bd (A := 320000) (B := 1) h1.1 h1.2 hs.1 hs.2
  exact wrap64_in (by omega) (by omega)

set_option maxRecDepth 100000 in
set_option maxHeartbeats 4000000 in
theorem clip_any (b o ca b2 o2 ca2 : Nat) (l : List Pt) (ls : List Int) (s : Int) (w : World) (hp : PtsAt w b o l) (hl : IntsAt w b2 o2 ls) (hn3 : 3 ≤ ls.length) (hn : ls.length ≤ 1000) (hin : ∀ k, k < ls.length → 0 ≤ iat ls k ∧ iat ls k < l.length) (hll : l.length ≤ 1000)
    (hpt : ∀ i, i < l.length → isPt (pat l i) = true) (hs : -1 ≤ s ∧ s ≤ 1) (hex : ∃ i, i < ls.length ∧ (trn l ls i = 0 ∨ EarI l ls s i)) :
    Calls Try.prog 82 #[.slice (some ⟨b, o, none⟩) l.length ca, .slice (some ⟨b2, o2, none⟩) ls.length ca2, (Value.int .i64 (s))] w fun e w' => (∃ i : Nat, e = .returned (Value.int .i64 ((i : Int))) ∧ ClipI l ls s i) ∧ Below w.heap.size w w' := by
  have hlp : ∀ k, k < ls.length → isPt (lpt l ls k) = true := fun k hk => by
    have := hin k hk
    exact hpt _ (by omega)
  replace hlp := Lib.hid hlp
  have hpl := Lib.hid fun (i : Nat) => prv_lt (n := ls.length) (i := i) (by omega)
  have hnl := Lib.hid fun (i : Nat) => nxn_lt (n := ls.length) (i := i) (by omega)
  have hinh := Lib.hid hin
  replace hex := Lib.hid hex
  clear hpt hin
  go_enter Try.func82, Try.ntmps82
  go_wp2
  go_step3
  go_wp2
  have c1 := ((Blk.new w 22 #[.slice (some ⟨b, o, none⟩) l.length ca]).alloc (.cells #[.slice (some ⟨b2, o2, none⟩) ls.length ca2] 68)).alloc (.cells #[(Value.int .i64 ((ls.length : Int)))] 3)
  have c2 := (Blk.new (w.alloc (.cells #[.slice (some ⟨b, o, none⟩) l.length ca] 22)) 68 #[.slice (some ⟨b2, o2, none⟩) ls.length ca2]).alloc (.cells #[(Value.int .i64 ((ls.length : Int)))] 3)
  have c3 := Blk.new ((w.alloc (.cells #[.slice (some ⟨b, o, none⟩) l.length ca] 22)).alloc (.cells #[.slice (some ⟨b2, o2, none⟩) ls.length ca2] 68)) 3 #[(Value.int .i64 ((ls.length : Int)))]
  have hbW : Below w.heap.size w (((w.alloc (.cells #[.slice (some ⟨b, o, none⟩) l.length ca] 22)).alloc (.cells #[.slice (some ⟨b2, o2, none⟩) ls.length ca2] 68)).alloc (.cells #[(Value.int .i64 ((ls.length : Int)))] 3)) := by (repeat (first | with_reducible exact Below.refl _ _ | with_reducible apply bl_alloc | with_reducible apply bl_drew | with_reducible apply bl_after | (with_reducible refine bl_call ?_ (by assumption))))
  simp only [World.size_alloc] at c2 c3
  generalize ((w.alloc (.cells #[.slice (some ⟨b, o, none⟩) l.length ca] 22)).alloc (.cells #[.slice (some ⟨b2, o2, none⟩) ls.length ca2] 68)).alloc (.cells #[(Value.int .i64 ((ls.length : Int)))] 3) = W1 at c1 c2 c3 hbW ⊢
  have hOf := Lib.hid fun (V : World) (h : Below w.heap.size w V) (q1 : Blk V w.heap.size 22 #[.slice (some ⟨b, o, none⟩) l.length ca]) (q2 : Blk V (w.heap.size + 1) 68 #[.slice (some ⟨b2, o2, none⟩) ls.length ca2]) (q3 : Blk V (w.heap.size + 1 + 1) 3 #[(Value.int .i64 ((ls.length : Int)))]) (k : Nat) (hk : k < ls.length) => clipOf_any b o ca b2 o2 ca2 _ _ _ l ls k V (hp.below h) (hl.below h) q1 q2 q3 hk hn hinh.out hll
  go_loopg [25] ls.length (fun g x wr => ∃ k : Nat, k ≤ ls.length ∧ g = ls.length - k ∧ x = (Value.int .i64 ((k : Int))) ∧ (∀ j, j < k → trn l ls j ≠ 0) ∧ Blk wr w.heap.size 22 #[.slice (some ⟨b, o, none⟩) l.length ca] ∧ Blk wr (w.heap.size + 1) 68 #[.slice (some ⟨b2, o2, none⟩) ls.length ca2] ∧ Blk wr (w.heap.size + 1 + 1) 3 #[(Value.int .i64 ((ls.length : Int)))] ∧ Below w.heap.size w wr)
  case atStart => exact ⟨0, Nat.zero_le _, rfl, rfl, (fun j hj => by omega), c1, c2, c3, hbW⟩
  case round =>
    obtain ⟨k, kn, rfl, rfl, hS, e1, e2, e3, hbw⟩ := hrel
    clear c1 c2 c3 hbW
    replace hS := Lib.hid hS
    by_cases hlt : k < ls.length
    · have t1 := hlp.out _ (hpl.out k)
      have t2 := hlp.out _ hlt
      have t3 := hlp.out _ (hnl.out k)
      have ho := hOf.out wr hbw e1 e2 e3 k hlt
      have htr : trn l ls k = turn (lpt l ls (prv ls.length k)) (lpt l ls k) (lpt l ls (nxn ls.length k)) := rfl
      by_cases hz : trn l ls k = 0
      · rw [htr] at hz
        go_wp2_with (first | (go_at_call 93; with_reducible refine Calls.mono (ho) ?_; rintro e w1 ⟨rfl, hb1⟩; first | ((with_reducible apply kp_in_step (hb := hb1)); (with_reducible assumption); rintro ⟨hk, hc, hf, hzc, hzf⟩) | ((with_reducible refine kp_in_first hb1 ?_); rintro ⟨hk, hc, hf, hzc, hzf⟩)) | (go_at_call 60; with_reducible refine Calls.mono (turn_any _ _ _ t1 t2 t3 _) ?_; rintro e w1 ⟨rfl, hb1⟩; first | ((with_reducible apply kp_in_step (hb := hb1)); (with_reducible assumption); rintro ⟨hk, hc, hf, hzc, hzf⟩) | ((with_reducible refine kp_in_first hb1 ?_); rintro ⟨hk, hc, hf, hzc, hzf⟩)))
        (try rw [Exit.noGoto_ret])
        go_ret
        exact ⟨⟨k, rfl, hlt, .inl (htr.trans hz)⟩, by (repeat (first | with_reducible exact Below.refl _ _ | with_reducible apply bl_alloc | with_reducible apply bl_drew | with_reducible apply bl_after | (with_reducible refine bl_call ?_ (by assumption))))⟩
      · rw [htr] at hz
        go_wp2_with (first | (go_at_call 93; with_reducible refine Calls.mono (ho) ?_; rintro e w1 ⟨rfl, hb1⟩; first | ((with_reducible apply kp_in_step (hb := hb1)); (with_reducible assumption); rintro ⟨hk, hc, hf, hzc, hzf⟩) | ((with_reducible refine kp_in_first hb1 ?_); rintro ⟨hk, hc, hf, hzc, hzf⟩)) | (go_at_call 60; with_reducible refine Calls.mono (turn_any _ _ _ t1 t2 t3 _) ?_; rintro e w1 ⟨rfl, hb1⟩; first | ((with_reducible apply kp_in_step (hb := hb1)); (with_reducible assumption); rintro ⟨hk, hc, hf, hzc, hzf⟩) | ((with_reducible refine kp_in_first hb1 ?_); rintro ⟨hk, hc, hf, hzc, hzf⟩)))
        go_roundg (ls.length - (k + 1))
        case measure => omega
        case rel => exact ⟨k + 1, by omega, rfl, by go_num, (fun j hj => by rcases Nat.lt_succ_iff_lt_or_eq.1 hj with h | h; exact hS.out j h; subst h; rw [htr]; exact hz), e1.below (by (repeat (first | with_reducible exact Below.refl _ _ | with_reducible apply bl_alloc | with_reducible apply bl_drew | with_reducible apply bl_after | (with_reducible refine bl_call ?_ (by assumption))))), e2.below (by (repeat (first | with_reducible exact Below.refl _ _ | with_reducible apply bl_alloc | with_reducible apply bl_drew | with_reducible apply bl_after | (with_reducible refine bl_call ?_ (by assumption))))), e3.below (by (repeat (first | with_reducible exact Below.refl _ _ | with_reducible apply bl_alloc | with_reducible apply bl_drew | with_reducible apply bl_after | (with_reducible refine bl_call ?_ (by assumption))))), by (repeat (first | with_reducible exact Below.refl _ _ | with_reducible apply bl_alloc | with_reducible apply bl_drew | with_reducible apply bl_after | (with_reducible refine bl_call ?_ (by assumption))))⟩
    · obtain rfl : k = ls.length := by omega
      have hex2 : ∃ i, i < ls.length ∧ EarI l ls s i := by
        obtain ⟨i, hi, h⟩ := hex.out
        rcases h with h | h
        · exact absurd h (hS.out i hi)
        · exact ⟨i, hi, h⟩
      replace hex2 := Lib.hid hex2
      clear hlt kn hex
      have y2 := e2.cell 0
      have l2 := e2.lt
      simp only [List.getElem?_toArray, List.getElem?_cons_zero] at y2
      go_wp2
      go_step3
      go_wp2
      clear y2 l2
      go_loopg [44] ls.length (fun g x wr => ∃ k : Nat, k ≤ ls.length ∧ g = ls.length - k ∧ x = (Value.int .i64 ((k : Int))) ∧ (∀ j, j < k → ¬ EarI l ls s j) ∧ Blk wr w.heap.size 22 #[.slice (some ⟨b, o, none⟩) l.length ca] ∧ Blk wr (w.heap.size + 1) 68 #[.slice (some ⟨b2, o2, none⟩) ls.length ca2] ∧ Blk wr (w.heap.size + 1 + 1) 3 #[(Value.int .i64 ((ls.length : Int)))] ∧ Below w.heap.size w wr)
      case atStart => exact ⟨0, Nat.zero_le _, rfl, rfl, (fun j hj => by omega), e1, e2, e3, hbw⟩
      case round =>
        obtain ⟨k, kn, rfl, rfl, hE, e1, e2, e3, hbw⟩ := hrel
        replace hE := Lib.hid hE
        by_cases hlt : k < ls.length
        · have t1 := hlp.out _ (hpl.out k)
          have t2 := hlp.out _ hlt
          have t3 := hlp.out _ (hnl.out k)
          have ho := hOf.out wr hbw e1 e2 e3 k hlt
          have htr : trn l ls k = turn (lpt l ls (prv ls.length k)) (lpt l ls k) (lpt l ls (nxn ls.length k)) := rfl
          have m1 := turn_s t1 t2 t3 hs
          by_cases hz : trn l ls k * s < 0
          · rw [htr] at hz
            go_wp2_with (first | (go_at_call 93; with_reducible refine Calls.mono (ho) ?_; rintro e w1 ⟨rfl, hb1⟩; first | ((with_reducible apply kp_in_step (hb := hb1)); (with_reducible assumption); rintro ⟨hk, hc, hf, hzc, hzf⟩) | ((with_reducible refine kp_in_first hb1 ?_); rintro ⟨hk, hc, hf, hzc, hzf⟩)) | (go_at_call 60; with_reducible refine Calls.mono (turn_any _ _ _ t1 t2 t3 _) ?_; rintro e w1 ⟨rfl, hb1⟩; first | ((with_reducible apply kp_in_step (hb := hb1)); (with_reducible assumption); rintro ⟨hk, hc, hf, hzc, hzf⟩) | ((with_reducible refine kp_in_first hb1 ?_); rintro ⟨hk, hc, hf, hzc, hzf⟩)))
            go_roundg (ls.length - (k + 1))
            case measure => omega
            case rel => exact ⟨k + 1, by omega, rfl, by go_num, (fun j hj => by rcases Nat.lt_succ_iff_lt_or_eq.1 hj with h | h; exact hE.out j h; subst h; exact fun q => by have := q.1; rw [htr] at this; omega), e1.below (by (repeat (first | with_reducible exact Below.refl _ _ | with_reducible apply bl_alloc | with_reducible apply bl_drew | with_reducible apply bl_after | (with_reducible refine bl_call ?_ (by assumption))))), e2.below (by (repeat (first | with_reducible exact Below.refl _ _ | with_reducible apply bl_alloc | with_reducible apply bl_drew | with_reducible apply bl_after | (with_reducible refine bl_call ?_ (by assumption))))), e3.below (by (repeat (first | with_reducible exact Below.refl _ _ | with_reducible apply bl_alloc | with_reducible apply bl_drew | with_reducible apply bl_after | (with_reducible refine bl_call ?_ (by assumption))))), by (repeat (first | with_reducible exact Below.refl _ _ | with_reducible apply bl_alloc | with_reducible apply bl_drew | with_reducible apply bl_after | (with_reducible refine bl_call ?_ (by assumption))))⟩
          · rw [htr] at hz
            go_upto_region 14 with (first | (go_at_call 93; with_reducible refine Calls.mono (ho) ?_; rintro e w1 ⟨rfl, hb1⟩; first | ((with_reducible apply kp_in_step (hb := hb1)); (with_reducible assumption); rintro ⟨hk, hc, hf, hzc, hzf⟩) | ((with_reducible refine kp_in_first hb1 ?_); rintro ⟨hk, hc, hf, hzc, hzf⟩)))
            have hEk : (∃ m, m < ls.length ∧ inT3 s (lpt l ls (prv ls.length k)) (lpt l ls k) (lpt l ls (nxn ls.length k)) (lpt l ls m)) → ¬ EarI l ls s k := fun ⟨m, hm, h⟩ q => q.2 m hm h
            have hEy : (∀ m, m < ls.length → ¬ inT3 s (lpt l ls (prv ls.length k)) (lpt l ls k) (lpt l ls (nxn ls.length k)) (lpt l ls m)) → EarI l ls s k := fun h => ⟨by rw [htr]; omega, h⟩
            replace hEk := Lib.hid hEk
            replace hEy := Lib.hid hEy
            clear htr ho
            generalize lpt l ls (prv ls.length k) = pa at *
            generalize lpt l ls k = pb at *
            generalize lpt l ls (nxn ls.length k) = pc at *
            have d1 := ((Blk.new w1 33 #[(Value.int .i64 (pa.1)), (Value.int .i64 (pa.2))]).alloc (.cells #[(Value.int .i64 (pb.1)), (Value.int .i64 (pb.2))] 33)).alloc (.cells #[(Value.int .i64 (pc.1)), (Value.int .i64 (pc.2))] 33)
            have d2 := (Blk.new (w1.alloc (.cells #[(Value.int .i64 (pa.1)), (Value.int .i64 (pa.2))] 33)) 33 #[(Value.int .i64 (pb.1)), (Value.int .i64 (pb.2))]).alloc (.cells #[(Value.int .i64 (pc.1)), (Value.int .i64 (pc.2))] 33)
            have d3 := Blk.new ((w1.alloc (.cells #[(Value.int .i64 (pa.1)), (Value.int .i64 (pa.2))] 33)).alloc (.cells #[(Value.int .i64 (pb.1)), (Value.int .i64 (pb.2))] 33)) 33 #[(Value.int .i64 (pc.1)), (Value.int .i64 (pc.2))]
            have hbV : Below wr.heap.size wr (((w1.alloc (.cells #[(Value.int .i64 (pa.1)), (Value.int .i64 (pa.2))] 33)).alloc (.cells #[(Value.int .i64 (pb.1)), (Value.int .i64 (pb.2))] 33)).alloc (.cells #[(Value.int .i64 (pc.1)), (Value.int .i64 (pc.2))] 33)) := by (repeat (first | with_reducible exact Below.refl _ _ | with_reducible apply bl_alloc | with_reducible apply bl_drew | with_reducible apply bl_after | (with_reducible refine bl_call ?_ (by assumption))))
            simp only [World.size_alloc] at d2 d3
            replace e1 := e1.below hbV
            replace e2 := e2.below hbV
            replace e3 := e3.below hbV
            replace hbw := bl_call hbw hbV
            clear hk hc hf hzc hzf hb1 hbV
            generalize ((w1.alloc (.cells #[(Value.int .i64 (pa.1)), (Value.int .i64 (pa.2))] 33)).alloc (.cells #[(Value.int .i64 (pb.1)), (Value.int .i64 (pb.2))] 33)).alloc (.cells #[(Value.int .i64 (pc.1)), (Value.int .i64 (pc.2))] 33) = W3 at *
            generalize w1.heap.size = g14 at *
            have v1 := d1.cell 0
            have v2 := d1.cell 1
            have v3 := d2.cell 0
            have v4 := d2.cell 1
            have v5 := d3.cell 0
            have v6 := d3.cell 1
            have f1 := d1.lt
            have f2 := d2.lt
            have f3 := d3.lt
            have y2 := e2.cell 0
            have l2 := e2.lt
            simp only [List.getElem?_toArray, List.getElem?_cons_zero, List.getElem?_cons_succ] at v1 v2 v3 v4 v5 v6 y2
            go_wp2_with (go_at_call 60; with_reducible refine Calls.mono (turn_any _ _ _ t1 t2 t3 _) ?_; rintro e w1 ⟨rfl, hb1⟩; first | ((with_reducible apply kp_in_step (hb := hb1)); (with_reducible assumption); rintro ⟨hk, hc, hf, hzc, hzf⟩) | ((with_reducible refine kp_in_first hb1 ?_); rintro ⟨hk, hc, hf, hzc, hzf⟩))
            have hbV : Below W3.heap.size W3 w1 := by (repeat (first | with_reducible exact Below.refl _ _ | with_reducible apply bl_alloc | with_reducible apply bl_drew | with_reducible apply bl_after | (with_reducible refine bl_call ?_ (by assumption))))
            replace e1 := e1.below hbV
            replace e2 := e2.below hbV
            replace e3 := e3.below hbV
            replace d1 := d1.below hbV
            replace d2 := d2.below hbV
            replace d3 := d3.below hbV
            replace hbw := bl_call hbw hbV
            clear hk hc hf hzc hzf hb1 hbV v1 v2 v3 v4 v5 v6 f1 f2 f3 y2 l2 m1
            go_loopg [63] ls.length (fun g x wr => ∃ m : Nat, m ≤ ls.length ∧ g = ls.length - m ∧ x = (Value.int .i64 ((m : Int))) ∧ (∀ j, j < m → ¬ inT3 s pa pb pc (lpt l ls j)) ∧ Blk wr w.heap.size 22 #[.slice (some ⟨b, o, none⟩) l.length ca] ∧ Blk wr (w.heap.size + 1) 68 #[.slice (some ⟨b2, o2, none⟩) ls.length ca2] ∧ Blk wr (w.heap.size + 1 + 1) 3 #[(Value.int .i64 ((ls.length : Int)))] ∧ Blk wr g14 33 #[(Value.int .i64 (pa.1)), (Value.int .i64 (pa.2))] ∧ Blk wr (g14 + 1) 33 #[(Value.int .i64 (pb.1)), (Value.int .i64 (pb.2))] ∧ Blk wr (g14 + 1 + 1) 33 #[(Value.int .i64 (pc.1)), (Value.int .i64 (pc.2))] ∧ Below w.heap.size w wr)
            case atStart => exact ⟨0, Nat.zero_le _, rfl, rfl, (fun j hj => by omega), e1, e2, e3, d1, d2, d3, hbw⟩
            case round =>
              obtain ⟨m, mn, rfl, rfl, hT, e1, e2, e3, d1, d2, d3, hbw⟩ := hrel
              replace hT := Lib.hid hT
              by_cases hltm : m < ls.length
              · obtain ⟨i1, i2⟩ := hinh.out m hltm
                have tq := hlp.out m hltm
                have x1 := (hl.below hbw).xi hltm
                obtain ⟨j, ej⟩ : ∃ j : Nat, iat ls m = j := ⟨(iat ls m).toNat, by omega⟩
                have eq1 : lpt l ls m = pat l j := by unfold lpt; rw [ej]; rfl
                have hTm : inT3 s pa pb pc (pat l j) → ¬ EarI l ls s k := fun h => hEk.out ⟨m, hltm, by rw [eq1]; exact h⟩
                have hTn : ¬ inT3 s pa pb pc (pat l j) → ∀ i, i < m + 1 → ¬ inT3 s pa pb pc (lpt l ls i) := fun h i hi => by
                  rcases Nat.lt_succ_iff_lt_or_eq.1 hi with q | q
                  · exact hT.out i q
                  · subst q; rw [eq1]; exact h
                replace hTm := Lib.hid hTm
                replace hTn := Lib.hid hTn
                rw [ej] at x1 i1 i2
                rw [eq1] at tq
                clear ej eq1
                have j1 : j < l.length := by omega
                have x2 := (hp.below hbw).xp j1
                have x3 := (hp.below hbw).yp j1
                have lb1 := (hl.below hbw).lt
                have lb2 := (hp.below hbw).lt
                have y1 := e1.cell 0
                have l1 := e1.lt
                have v1 := d1.cell 0
                have v2 := d1.cell 1
                have v3 := d2.cell 0
                have v4 := d2.cell 1
                have v5 := d3.cell 0
                have v6 := d3.cell 1
                have f1 := d1.lt
                have f2 := d2.lt
                have f3 := d3.lt
                simp only [List.getElem?_toArray, List.getElem?_cons_zero, List.getElem?_cons_succ] at y1 v1 v2 v3 v4 v5 v6
                generalize pat l j = q at *
                have m2 := turn_s t1 t2 tq hs
                have m3 := turn_s t2 t3 tq hs
                have m4 := turn_s t3 t1 tq hs
                by_cases c1 : q = pa
                · have bq1 : decide (q = pa) = true := by simpa using c1
                  replace c1 := Lib.hid c1
                  go_wp2_with (first | (go_at_call 60; with_reducible refine Calls.mono (turn_any _ _ _ t1 t2 tq _) ?_; rintro e w1 ⟨rfl, hb1⟩; first | ((with_reducible apply kp_in_step (hb := hb1)); (with_reducible assumption); rintro ⟨hk, hc, hf, hzc, hzf⟩) | ((with_reducible refine kp_in_first hb1 ?_); rintro ⟨hk, hc, hf, hzc, hzf⟩)) | (go_at_call 60; with_reducible refine Calls.mono (turn_any _ _ _ t2 t3 tq _) ?_; rintro e w1 ⟨rfl, hb1⟩; first | ((with_reducible apply kp_in_step (hb := hb1)); (with_reducible assumption); rintro ⟨hk, hc, hf, hzc, hzf⟩) | ((with_reducible refine kp_in_first hb1 ?_); rintro ⟨hk, hc, hf, hzc, hzf⟩)) | (go_at_call 60; with_reducible refine Calls.mono (turn_any _ _ _ t3 t1 tq _) ?_; rintro e w1 ⟨rfl, hb1⟩; first | ((with_reducible apply kp_in_step (hb := hb1)); (with_reducible assumption); rintro ⟨hk, hc, hf, hzc, hzf⟩) | ((with_reducible refine kp_in_first hb1 ?_); rintro ⟨hk, hc, hf, hzc, hzf⟩)))
                  all_goals (go_roundg (ls.length - (m + 1)); (case measure => omega); (case rel => exact ⟨m + 1, by omega, rfl, by go_num, hTn.out (fun h => h.1 c1.out), e1.below (by (repeat (first | with_reducible exact Below.refl _ _ | with_reducible apply bl_alloc | with_reducible apply bl_drew | with_reducible apply bl_after | (with_reducible refine bl_call ?_ (by assumption))))), e2.below (by (repeat (first | with_reducible exact Below.refl _ _ | with_reducible apply bl_alloc | with_reducible apply bl_drew | with_reducible apply bl_after | (with_reducible refine bl_call ?_ (by assumption))))), e3.below (by (repeat (first | with_reducible exact Below.refl _ _ | with_reducible apply bl_alloc | with_reducible apply bl_drew | with_reducible apply bl_after | (with_reducible refine bl_call ?_ (by assumption))))), d1.below (by (repeat (first | with_reducible exact Below.refl _ _ | with_reducible apply bl_alloc | with_reducible apply bl_drew | with_reducible apply bl_after | (with_reducible refine bl_call ?_ (by assumption))))), d2.below (by (repeat (first | with_reducible exact Below.refl _ _ | with_reducible apply bl_alloc | with_reducible apply bl_drew | with_reducible apply bl_after | (with_reducible refine bl_call ?_ (by assumption))))), d3.below (by (repeat (first | with_reducible exact Below.refl _ _ | with_reducible apply bl_alloc | with_reducible apply bl_drew | with_reducible apply bl_after | (with_reducible refine bl_call ?_ (by assumption))))), by (repeat (first | with_reducible exact Below.refl _ _ | with_reducible apply bl_alloc | with_reducible apply bl_drew | with_reducible apply bl_after | (with_reducible refine bl_call ?_ (by assumption))))⟩))
                · have bq1 : decide (q = pa) = false := by simpa using c1
                  replace c1 := Lib.hid c1
                  by_cases c2 : q = pb
                  · have bq2 : decide (q = pb) = true := by simpa using c2
                    replace c2 := Lib.hid c2
                    go_wp2_with (first | (go_at_call 60; with_reducible refine Calls.mono (turn_any _ _ _ t1 t2 tq _) ?_; rintro e w1 ⟨rfl, hb1⟩; first | ((with_reducible apply kp_in_step (hb := hb1)); (with_reducible assumption); rintro ⟨hk, hc, hf, hzc, hzf⟩) | ((with_reducible refine kp_in_first hb1 ?_); rintro ⟨hk, hc, hf, hzc, hzf⟩)) | (go_at_call 60; with_reducible refine Calls.mono (turn_any _ _ _ t2 t3 tq _) ?_; rintro e w1 ⟨rfl, hb1⟩; first | ((with_reducible apply kp_in_step (hb := hb1)); (with_reducible assumption); rintro ⟨hk, hc, hf, hzc, hzf⟩) | ((with_reducible refine kp_in_first hb1 ?_); rintro ⟨hk, hc, hf, hzc, hzf⟩)) | (go_at_call 60; with_reducible refine Calls.mono (turn_any _ _ _ t3 t1 tq _) ?_; rintro e w1 ⟨rfl, hb1⟩; first | ((with_reducible apply kp_in_step (hb := hb1)); (with_reducible assumption); rintro ⟨hk, hc, hf, hzc, hzf⟩) | ((with_reducible refine kp_in_first hb1 ?_); rintro ⟨hk, hc, hf, hzc, hzf⟩)))
                    all_goals (go_roundg (ls.length - (m + 1)); (case measure => omega); (case rel => exact ⟨m + 1, by omega, rfl, by go_num, hTn.out (fun h => h.2.1 c2.out), e1.below (by (repeat (first | with_reducible exact Below.refl _ _ | with_reducible apply bl_alloc | with_reducible apply bl_drew | with_reducible apply bl_after | (with_reducible refine bl_call ?_ (by assumption))))), e2.below (by (repeat (first | with_reducible exact Below.refl _ _ | with_reducible apply bl_alloc | with_reducible apply bl_drew | with_reducible apply bl_after | (with_reducible refine bl_call ?_ (by assumption))))), e3.below (by (repeat (first | with_reducible exact Below.refl _ _ | with_reducible apply bl_alloc | with_reducible apply bl_drew | with_reducible apply bl_after | (with_reducible refine bl_call ?_ (by assumption))))), d1.below (by (repeat (first | with_reducible exact Below.refl _ _ | with_reducible apply bl_alloc | with_reducible apply bl_drew | with_reducible apply bl_after | (with_reducible refine bl_call ?_ (by assumption))))), d2.below (by (repeat (first | with_reducible exact Below.refl _ _ | with_reducible apply bl_alloc | with_reducible apply bl_drew | with_reducible apply bl_after | (with_reducible refine bl_call ?_ (by assumption))))), d3.below (by (repeat (first | with_reducible exact Below.refl _ _ | with_reducible apply bl_alloc | with_reducible apply bl_drew | with_reducible apply bl_after | (with_reducible refine bl_call ?_ (by assumption))))), by (repeat (first | with_reducible exact Below.refl _ _ | with_reducible apply bl_alloc | with_reducible apply bl_drew | with_reducible apply bl_after | (with_reducible refine bl_call ?_ (by assumption))))⟩))
                  · have bq2 : decide (q = pb) = false := by simpa using c2
                    replace c2 := Lib.hid c2
                    by_cases c3 : q = pc
                    · have bq3 : decide (q = pc) = true := by simpa using c3
                      replace c3 := Lib.hid c3
                      go_wp2_with (first | (go_at_call 60; with_reducible refine Calls.mono (turn_any _ _ _ t1 t2 tq _) ?_; rintro e w1 ⟨rfl, hb1⟩; first | ((with_reducible apply kp_in_step (hb := hb1)); (with_reducible assumption); rintro ⟨hk, hc, hf, hzc, hzf⟩) | ((with_reducible refine kp_in_first hb1 ?_); rintro ⟨hk, hc, hf, hzc, hzf⟩)) | (go_at_call 60; with_reducible refine Calls.mono (turn_any _ _ _ t2 t3 tq _) ?_; rintro e w1 ⟨rfl, hb1⟩; first | ((with_reducible apply kp_in_step (hb := hb1)); (with_reducible assumption); rintro ⟨hk, hc, hf, hzc, hzf⟩) | ((with_reducible refine kp_in_first hb1 ?_); rintro ⟨hk, hc, hf, hzc, hzf⟩)) | (go_at_call 60; with_reducible refine Calls.mono (turn_any _ _ _ t3 t1 tq _) ?_; rintro e w1 ⟨rfl, hb1⟩; first | ((with_reducible apply kp_in_step (hb := hb1)); (with_reducible assumption); rintro ⟨hk, hc, hf, hzc, hzf⟩) | ((with_reducible refine kp_in_first hb1 ?_); rintro ⟨hk, hc, hf, hzc, hzf⟩)))
                      all_goals (go_roundg (ls.length - (m + 1)); (case measure => omega); (case rel => exact ⟨m + 1, by omega, rfl, by go_num, hTn.out (fun h => h.2.2.1 c3.out), e1.below (by (repeat (first | with_reducible exact Below.refl _ _ | with_reducible apply bl_alloc | with_reducible apply bl_drew | with_reducible apply bl_after | (with_reducible refine bl_call ?_ (by assumption))))), e2.below (by (repeat (first | with_reducible exact Below.refl _ _ | with_reducible apply bl_alloc | with_reducible apply bl_drew | with_reducible apply bl_after | (with_reducible refine bl_call ?_ (by assumption))))), e3.below (by (repeat (first | with_reducible exact Below.refl _ _ | with_reducible apply bl_alloc | with_reducible apply bl_drew | with_reducible apply bl_after | (with_reducible refine bl_call ?_ (by assumption))))), d1.below (by (repeat (first | with_reducible exact Below.refl _ _ | with_reducible apply bl_alloc | with_reducible apply bl_drew | with_reducible apply bl_after | (with_reducible refine bl_call ?_ (by assumption))))), d2.below (by (repeat (first | with_reducible exact Below.refl _ _ | with_reducible apply bl_alloc | with_reducible apply bl_drew | with_reducible apply bl_after | (with_reducible refine bl_call ?_ (by assumption))))), d3.below (by (repeat (first | with_reducible exact Below.refl _ _ | with_reducible apply bl_alloc | with_reducible apply bl_drew | with_reducible apply bl_after | (with_reducible refine bl_call ?_ (by assumption))))), by (repeat (first | with_reducible exact Below.refl _ _ | with_reducible apply bl_alloc | with_reducible apply bl_drew | with_reducible apply bl_after | (with_reducible refine bl_call ?_ (by assumption))))⟩))
                    · have bq3 : decide (q = pc) = false := by simpa using c3
                      replace c3 := Lib.hid c3
                      by_cases c4 : turn pa pb q * s < 0
                      · have bq4 : decide (0 ≤ turn pa pb q * s) = false := by simpa using c4
                        replace c4 := Lib.hid c4
                        go_wp2_with (first | (go_at_call 60; with_reducible refine Calls.mono (turn_any _ _ _ t1 t2 tq _) ?_; rintro e w1 ⟨rfl, hb1⟩; first | ((with_reducible apply kp_in_step (hb := hb1)); (with_reducible assumption); rintro ⟨hk, hc, hf, hzc, hzf⟩) | ((with_reducible refine kp_in_first hb1 ?_); rintro ⟨hk, hc, hf, hzc, hzf⟩)) | (go_at_call 60; with_reducible refine Calls.mono (turn_any _ _ _ t2 t3 tq _) ?_; rintro e w1 ⟨rfl, hb1⟩; first | ((with_reducible apply kp_in_step (hb := hb1)); (with_reducible assumption); rintro ⟨hk, hc, hf, hzc, hzf⟩) | ((with_reducible refine kp_in_first hb1 ?_); rintro ⟨hk, hc, hf, hzc, hzf⟩)) | (go_at_call 60; with_reducible refine Calls.mono (turn_any _ _ _ t3 t1 tq _) ?_; rintro e w1 ⟨rfl, hb1⟩; first | ((with_reducible apply kp_in_step (hb := hb1)); (with_reducible assumption); rintro ⟨hk, hc, hf, hzc, hzf⟩) | ((with_reducible refine kp_in_first hb1 ?_); rintro ⟨hk, hc, hf, hzc, hzf⟩)))
                        all_goals (go_roundg (ls.length - (m + 1)); (case measure => omega); (case rel => exact ⟨m + 1, by omega, rfl, by go_num, hTn.out (fun h => by have := h.2.2.2.1; have := c4.out; omega), e1.below (by (repeat (first | with_reducible exact Below.refl _ _ | with_reducible apply bl_alloc | with_reducible apply bl_drew | with_reducible apply bl_after | (with_reducible refine bl_call ?_ (by assumption))))), e2.below (by (repeat (first | with_reducible exact Below.refl _ _ | with_reducible apply bl_alloc | with_reducible apply bl_drew | with_reducible apply bl_after | (with_reducible refine bl_call ?_ (by assumption))))), e3.below (by (repeat (first | with_reducible exact Below.refl _ _ | with_reducible apply bl_alloc | with_reducible apply bl_drew | with_reducible apply bl_after | (with_reducible refine bl_call ?_ (by assumption))))), d1.below (by (repeat (first | with_reducible exact Below.refl _ _ | with_reducible apply bl_alloc | with_reducible apply bl_drew | with_reducible apply bl_after | (with_reducible refine bl_call ?_ (by assumption))))), d2.below (by (repeat (first | with_reducible exact Below.refl _ _ | with_reducible apply bl_alloc | with_reducible apply bl_drew | with_reducible apply bl_after | (with_reducible refine bl_call ?_ (by assumption))))), d3.below (by (repeat (first | with_reducible exact Below.refl _ _ | with_reducible apply bl_alloc | with_reducible apply bl_drew | with_reducible apply bl_after | (with_reducible refine bl_call ?_ (by assumption))))), by (repeat (first | with_reducible exact Below.refl _ _ | with_reducible apply bl_alloc | with_reducible apply bl_drew | with_reducible apply bl_after | (with_reducible refine bl_call ?_ (by assumption))))⟩))
                      · have bq4 : decide (0 ≤ turn pa pb q * s) = true := by simpa using c4
                        replace c4 := Lib.hid c4
                        by_cases c5 : turn pb pc q * s < 0
                        · have bq5 : decide (0 ≤ turn pb pc q * s) = false := by simpa using c5
                          replace c5 := Lib.hid c5
                          go_wp2_with (first | (go_at_call 60; with_reducible refine Calls.mono (turn_any _ _ _ t1 t2 tq _) ?_; rintro e w1 ⟨rfl, hb1⟩; first | ((with_reducible apply kp_in_step (hb := hb1)); (with_reducible assumption); rintro ⟨hk, hc, hf, hzc, hzf⟩) | ((with_reducible refine kp_in_first hb1 ?_); rintro ⟨hk, hc, hf, hzc, hzf⟩)) | (go_at_call 60; with_reducible refine Calls.mono (turn_any _ _ _ t2 t3 tq _) ?_; rintro e w1 ⟨rfl, hb1⟩; first | ((with_reducible apply kp_in_step (hb := hb1)); (with_reducible assumption); rintro ⟨hk, hc, hf, hzc, hzf⟩) | ((with_reducible refine kp_in_first hb1 ?_); rintro ⟨hk, hc, hf, hzc, hzf⟩)) | (go_at_call 60; with_reducible refine Calls.mono (turn_any _ _ _ t3 t1 tq _) ?_; rintro e w1 ⟨rfl, hb1⟩; first | ((with_reducible apply kp_in_step (hb := hb1)); (with_reducible assumption); rintro ⟨hk, hc, hf, hzc, hzf⟩) | ((with_reducible refine kp_in_first hb1 ?_); rintro ⟨hk, hc, hf, hzc, hzf⟩)))
                          all_goals (go_roundg (ls.length - (m + 1)); (case measure => omega); (case rel => exact ⟨m + 1, by omega, rfl, by go_num, hTn.out (fun h => by have := h.2.2.2.2.1; have := c5.out; omega), e1.below (by (repeat (first | with_reducible exact Below.refl _ _ | with_reducible apply bl_alloc | with_reducible apply bl_drew | with_reducible apply bl_after | (with_reducible refine bl_call ?_ (by assumption))))), e2.below (by (repeat (first | with_reducible exact Below.refl _ _ | with_reducible apply bl_alloc | with_reducible apply bl_drew | with_reducible apply bl_after | (with_reducible refine bl_call ?_ (by assumption))))), e3.below (by (repeat (first | with_reducible exact Below.refl _ _ | with_reducible apply bl_alloc | with_reducible apply bl_drew | with_reducible apply bl_after | (with_reducible refine bl_call ?_ (by assumption))))), d1.below (by (repeat (first | with_reducible exact Below.refl _ _ | with_reducible apply bl_alloc | with_reducible apply bl_drew | with_reducible apply bl_after | (with_reducible refine bl_call ?_ (by assumption))))), d2.below (by (repeat (first | with_reducible exact Below.refl _ _ | with_reducible apply bl_alloc | with_reducible apply bl_drew | with_reducible apply bl_after | (with_reducible refine bl_call ?_ (by assumption))))), d3.below (by (repeat (first | with_reducible exact Below.refl _ _ | with_reducible apply bl_alloc | with_reducible apply bl_drew | with_reducible apply bl_after | (with_reducible refine bl_call ?_ (by assumption))))), by (repeat (first | with_reducible exact Below.refl _ _ | with_reducible apply bl_alloc | with_reducible apply bl_drew | with_reducible apply bl_after | (with_reducible refine bl_call ?_ (by assumption))))⟩))
                        · have bq5 : decide (0 ≤ turn pb pc q * s) = true := by simpa using c5
                          replace c5 := Lib.hid c5
                          by_cases c6 : turn pc pa q * s < 0
                          · have bq6 : decide (0 ≤ turn pc pa q * s) = false := by simpa using c6
                            replace c6 := Lib.hid c6
                            go_wp2_with (first | (go_at_call 60; with_reducible refine Calls.mono (turn_any _ _ _ t1 t2 tq _) ?_; rintro e w1 ⟨rfl, hb1⟩; first | ((with_reducible apply kp_in_step (hb := hb1)); (with_reducible assumption); rintro ⟨hk, hc, hf, hzc, hzf⟩) | ((with_reducible refine kp_in_first hb1 ?_); rintro ⟨hk, hc, hf, hzc, hzf⟩)) | (go_at_call 60; with_reducible refine Calls.mono (turn_any _ _ _ t2 t3 tq _) ?_; rintro e w1 ⟨rfl, hb1⟩; first | ((with_reducible apply kp_in_step (hb := hb1)); (with_reducible assumption); rintro ⟨hk, hc, hf, hzc, hzf⟩) | ((with_reducible refine kp_in_first hb1 ?_); rintro ⟨hk, hc, hf, hzc, hzf⟩)) | (go_at_call 60; with_reducible refine Calls.mono (turn_any _ _ _ t3 t1 tq _) ?_; rintro e w1 ⟨rfl, hb1⟩; first | ((with_reducible apply kp_in_step (hb := hb1)); (with_reducible assumption); rintro ⟨hk, hc, hf, hzc, hzf⟩) | ((with_reducible refine kp_in_first hb1 ?_); rintro ⟨hk, hc, hf, hzc, hzf⟩)))
                            all_goals (go_roundg (ls.length - (m + 1)); (case measure => omega); (case rel => exact ⟨m + 1, by omega, rfl, by go_num, hTn.out (fun h => by have := h.2.2.2.2.2; have := c6.out; omega), e1.below (by (repeat (first | with_reducible exact Below.refl _ _ | with_reducible apply bl_alloc | with_reducible apply bl_drew | with_reducible apply bl_after | (with_reducible refine bl_call ?_ (by assumption))))), e2.below (by (repeat (first | with_reducible exact Below.refl _ _ | with_reducible apply bl_alloc | with_reducible apply bl_drew | with_reducible apply bl_after | (with_reducible refine bl_call ?_ (by assumption))))), e3.below (by (repeat (first | with_reducible exact Below.refl _ _ | with_reducible apply bl_alloc | with_reducible apply bl_drew | with_reducible apply bl_after | (with_reducible refine bl_call ?_ (by assumption))))), d1.below (by (repeat (first | with_reducible exact Below.refl _ _ | with_reducible apply bl_alloc | with_reducible apply bl_drew | with_reducible apply bl_after | (with_reducible refine bl_call ?_ (by assumption))))), d2.below (by (repeat (first | with_reducible exact Below.refl _ _ | with_reducible apply bl_alloc | with_reducible apply bl_drew | with_reducible apply bl_after | (with_reducible refine bl_call ?_ (by assumption))))), d3.below (by (repeat (first | with_reducible exact Below.refl _ _ | with_reducible apply bl_alloc | with_reducible apply bl_drew | with_reducible apply bl_after | (with_reducible refine bl_call ?_ (by assumption))))), by (repeat (first | with_reducible exact Below.refl _ _ | with_reducible apply bl_alloc | with_reducible apply bl_drew | with_reducible apply bl_after | (with_reducible refine bl_call ?_ (by assumption))))⟩))
                          · have bq6 : decide (0 ≤ turn pc pa q * s) = true := by simpa using c6
                            replace c6 := Lib.hid c6
                            go_wp2_with (first | (go_at_call 60; with_reducible refine Calls.mono (turn_any _ _ _ t1 t2 tq _) ?_; rintro e w1 ⟨rfl, hb1⟩; first | ((with_reducible apply kp_in_step (hb := hb1)); (with_reducible assumption); rintro ⟨hk, hc, hf, hzc, hzf⟩) | ((with_reducible refine kp_in_first hb1 ?_); rintro ⟨hk, hc, hf, hzc, hzf⟩)) | (go_at_call 60; with_reducible refine Calls.mono (turn_any _ _ _ t2 t3 tq _) ?_; rintro e w1 ⟨rfl, hb1⟩; first | ((with_reducible apply kp_in_step (hb := hb1)); (with_reducible assumption); rintro ⟨hk, hc, hf, hzc, hzf⟩) | ((with_reducible refine kp_in_first hb1 ?_); rintro ⟨hk, hc, hf, hzc, hzf⟩)) | (go_at_call 60; with_reducible refine Calls.mono (turn_any _ _ _ t3 t1 tq _) ?_; rintro e w1 ⟨rfl, hb1⟩; first | ((with_reducible apply kp_in_step (hb := hb1)); (with_reducible assumption); rintro ⟨hk, hc, hf, hzc, hzf⟩) | ((with_reducible refine kp_in_first hb1 ?_); rintro ⟨hk, hc, hf, hzc, hzf⟩)))
                            all_goals (go_roundg (ls.length - (k + 1)); (case measure => omega); (case rel => exact ⟨k + 1, by omega, rfl, by go_num, (fun j hj => by rcases Nat.lt_succ_iff_lt_or_eq.1 hj with h | h; exact hE.out j h; subst h; exact hTm.out ⟨c1.out, c2.out, c3.out, by have := c4.out; omega, by have := c5.out; omega, by have := c6.out; omega⟩), e1.below (by (repeat (first | with_reducible exact Below.refl _ _ | with_reducible apply bl_alloc | with_reducible apply bl_drew | with_reducible apply bl_after | (with_reducible refine bl_call ?_ (by assumption))))), e2.below (by (repeat (first | with_reducible exact Below.refl _ _ | with_reducible apply bl_alloc | with_reducible apply bl_drew | with_reducible apply bl_after | (with_reducible refine bl_call ?_ (by assumption))))), e3.below (by (repeat (first | with_reducible exact Below.refl _ _ | with_reducible apply bl_alloc | with_reducible apply bl_drew | with_reducible apply bl_after | (with_reducible refine bl_call ?_ (by assumption))))), by (repeat (first | with_reducible exact Below.refl _ _ | with_reducible apply bl_alloc | with_reducible apply bl_drew | with_reducible apply bl_after | (with_reducible refine bl_call ?_ (by assumption))))⟩))
              · obtain rfl : m = ls.length := by omega
                go_wp2
                (try rw [Exit.noGoto_ret])
                go_ret
                exact ⟨⟨k, rfl, hlt, .inr ⟨hS.out, hEy.out hT.out⟩⟩, by (repeat (first | with_reducible exact Below.refl _ _ | with_reducible apply bl_alloc | with_reducible apply bl_drew | with_reducible apply bl_after | (with_reducible refine bl_call ?_ (by assumption))))⟩
        · obtain rfl : k = ls.length := by omega
          obtain ⟨i, hi, h⟩ := hex2.out
          exact absurd h (hE.out i hi)
end Go.Proofs.Ytijpolfmiajenaa
