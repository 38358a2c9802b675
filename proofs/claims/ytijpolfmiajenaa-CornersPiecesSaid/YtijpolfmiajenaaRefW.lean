/- The function knurlref02.where answers how a point lies to a valid polygon, for points with numbers up to 200. -/
import Derived.Test.YtijpolfmiajenaaRefCheck
import Derived.Test.YtijpolfmiajenaaWhere
namespace Go.Proofs.Ytijpolfmiajenaa
open Go.RowKit
attribute [local go_sem] After.cell After.frozen

theorem whereOf_on {l : List Pt} {q : Pt} {k : Nat} (hk : k < l.length) (h : has (pat l k) (pat l (nxt l k)) q = true) : whereOf l q = 2 := if_pos ⟨k, hk, h⟩
theorem whereOf_in {l : List Pt} {q : Pt} (hn : ∀ j, j < l.length → has (pat l j) (pat l (nxt l j)) q = false) (h : cntTo l q l.length % 2 = 1) : whereOf l q = 1 := by
  rw [whereOf, if_neg (fun ⟨i, hi, h⟩ => by rw [hn i hi] at h; cases h), if_pos h]
theorem whereOf_out {l : List Pt} {q : Pt} (hn : ∀ j, j < l.length → has (pat l j) (pat l (nxt l j)) q = false) (h : ¬ cntTo l q l.length % 2 = 1) : whereOf l q = 3 := by
  rw [whereOf, if_neg (fun ⟨i, hi, h⟩ => by rw [hn i hi] at h; cases h), if_neg h]
theorem cnt_no {l : List Pt} {q : Pt} {k : Nat} (h : crs (pat l k) (pat l (nxt l k)) q = false) : cntTo l q (k + 1) = cntTo l q k := by simp [cntTo, h]
theorem cnt_yes {l : List Pt} {q : Pt} {k : Nat} (h : crs (pat l k) (pat l (nxt l k)) q = true) : cntTo l q (k + 1) = cntTo l q k + 1 := by simp [cntTo, h]

set_option maxRecDepth 100000 in
set_option maxHeartbeats 1000000 in
theorem rwhere_any (b o ca : Nat) (l : List Pt) (q : Pt) (w : World) (hp : PtsAt w b o l) (hok : Ok l) (hq : isPt q = true) :
    Calls Try.prog 61 #[.slice (some ⟨b, o, none⟩) l.length ca, (Value.agg #[.int .i64 q.1, .int .i64 q.2])] w fun e w' => e = .returned (Value.int .i64 (whereOf l q)) ∧ Below w.heap.size w w' := by
  have h0l : 0 < l.length := by have := hok.1; omega
  have hl10 : l.length ≤ 10 := by have := hok.1; omega
  have HP := Lib.hid hok.2.1
  clear hok
  go_enter Try.func61, Try.ntmps61
  go_wp2
  go_loopg [5, 6] l.length (fun g c i wr => ∃ k : Nat, k ≤ l.length ∧ g = l.length - k ∧ c = (Value.int .i64 ((cntTo l q k : Int))) ∧ i = (Value.int .i64 ((k : Int))) ∧ (∀ j, j < k → has (pat l j) (pat l (nxt l j)) q = false) ∧ Blk wr w.heap.size 33 #[(Value.int .i64 (q.1)), (Value.int .i64 (q.2))] ∧ Below w.heap.size w wr)
  case atStart => exact ⟨0, Nat.zero_le _, rfl, rfl, rfl, (fun j hj => by omega), Blk.new _ _ _, by (repeat (first | with_reducible exact Below.refl _ _ | with_reducible apply bl_alloc | with_reducible apply bl_drew | with_reducible apply bl_after | (with_reducible refine bl_call ?_ (by assumption))))⟩
  case round =>
    obtain ⟨k, kn, rfl, rfl, rfl, HS, c0, hbw⟩ := hrel
    replace HS := Lib.hid HS
    have hcn := cntTo_le l q k
    by_cases hlt : k < l.length
    · have hn1k : nxt l k < l.length := nxt_lt k h0l
      have pa := hp.below hbw
      have x1 := pa.xp hlt
      have x2 := pa.yp hlt
      have x3 := pa.xp hn1k
      have x4 := pa.yp hn1k
      have lb := pa.lt
      have y1 := c0.cell 0
      have y2 := c0.cell 1
      have l0 := c0.lt
      go_upto_region 5 with fail
      go_cut [7, 8] (fun s6 s7 wx => ∃ g6 g7 : Nat, s6 = .pointer (some ⟨g6, 0, none⟩) ∧ s7 = .pointer (some ⟨g7, 0, none⟩) ∧ PtBox wx g6 (pat l k) ∧ PtBox wx g7 (pat l (nxt l k)) ∧ Blk wx w.heap.size 33 #[(Value.int .i64 (q.1)), (Value.int .i64 (q.2))] ∧ Below w.heap.size w wx)
      case first =>
        go_region_held3 (fun w' => w'.cell? ⟨b, o + k * 2, none⟩ = some (Value.int .i64 ((pat l k).1)) ∧ w'.cell? ⟨b, o + k * 2 + 1, none⟩ = some (Value.int .i64 ((pat l k).2)) ∧ w'.cell? ⟨b, o + nxt l k * 2, none⟩ = some (Value.int .i64 ((pat l (nxt l k)).1)) ∧ w'.cell? ⟨b, o + nxt l k * 2 + 1, none⟩ = some (Value.int .i64 ((pat l (nxt l k)).2))) (go_keep) ((first | (go_at_call 55; with_reducible refine Calls.mono (rNext_any _ _ _ _ _ h0l (by omega) (by omega)) ?_; rintro e w' ⟨rfl, rfl⟩) | fail))
        all_goals (go_wp2_with fail; go_meet; exact ⟨_, _, rfl, rfl, ⟨by simp <;> omega, by simp [go_sem], by simp [go_sem]⟩, ⟨by simp <;> omega, by simp [go_sem], by simp [go_sem]⟩, (by first | exact ((c0.alloc _).alloc _) | exact ((c0.alloc _).alloc _).drew), by (repeat (first | with_reducible exact Below.refl _ _ | with_reducible apply bl_alloc | with_reducible apply bl_drew | with_reducible apply bl_after | (with_reducible refine bl_call ?_ (by assumption))))⟩)
      case rest =>
        obtain ⟨g6, g7, rfl, rfl, q6, q7, c0, hbc⟩ := hcut
        clear x1 x2 x3 x4 lb pa hbw y1 y2 l0
        have p1 := HP.out k hlt
        have p2 := HP.out _ hn1k
        have c1 := q6.1
        have c2 := q6.2.1
        have c3 := q6.2.2
        have c4 := q7.1
        have c5 := q7.2.1
        have c6 := q7.2.2
        have y1 := c0.cell 0
        have y2 := c0.cell 1
        have l0 := c0.lt
        by_cases hh1 : has (pat l k) (pat l (nxt l k)) q = true
        · go_wp2_with (go_at_call 56; with_reducible refine Calls.mono (rOn_any _ _ _ p1 p2 hq _) ?_; rintro e w1 ⟨rfl, hb1⟩; first | ((with_reducible apply kp_in_step (hb := hb1)); (with_reducible assumption); rintro ⟨hk, hc, hf, hzc, hzf⟩) | ((with_reducible refine kp_in_first hb1 ?_); rintro ⟨hk, hc, hf, hzc, hzf⟩))
          go_ret
          exact ⟨ret_int (whereOf_on hlt hh1).symm, by (repeat (first | with_reducible exact Below.refl _ _ | with_reducible apply bl_alloc | with_reducible apply bl_drew | with_reducible apply bl_after | (with_reducible refine bl_call ?_ (by assumption))))⟩
        · have hh1' : has (pat l k) (pat l (nxt l k)) q = false := by simpa using hh1
          have HN : ∀ j, j < k + 1 → has (pat l j) (pat l (nxt l j)) q = false := fun j hj => by
            rcases Nat.lt_succ_iff_lt_or_eq.1 hj with h | h
            · exact HS.out j h
            · subst h; exact hh1'
          replace HN := Lib.hid HN
          go_wp2_with (first | (go_at_call 56; with_reducible refine Calls.mono (rOn_any _ _ _ p1 p2 hq _) ?_; rintro e w1 ⟨rfl, hb1⟩; first | ((with_reducible apply kp_in_step (hb := hb1)); (with_reducible assumption); rintro ⟨hk, hc, hf, hzc, hzf⟩) | ((with_reducible refine kp_in_first hb1 ?_); rintro ⟨hk, hc, hf, hzc, hzf⟩)) | (go_at_call 42; with_reducible refine Calls.mono (rTurn_any _ _ _ p1 p2 hq _) ?_; rintro e w1 ⟨rfl, hb1⟩; first | ((with_reducible apply kp_in_step (hb := hb1)); (with_reducible assumption); rintro ⟨hk, hc, hf, hzc, hzf⟩) | ((with_reducible refine kp_in_first hb1 ?_); rintro ⟨hk, hc, hf, hzc, hzf⟩)))
          · have h3 : (decide (q.2 < (pat l k).2) == decide (q.2 < (pat l (nxt l k)).2)) = true := by assumption
            have hcr : crs (pat l k) (pat l (nxt l k)) q = false := by
              simp only [beq_iff_eq] at h3
              simp [crs, h3]
            go_roundg (l.length - (k + 1))
            case measure => omega
            case rel => exact ⟨k + 1, by omega, rfl, by rw [cnt_no hcr], by go_num, HN.out, c0.below (by assumption), by (repeat (first | with_reducible exact Below.refl _ _ | with_reducible apply bl_alloc | with_reducible apply bl_drew | with_reducible apply bl_after | (with_reducible refine bl_call ?_ (by assumption))))⟩
          · have h3 : (decide (q.2 < (pat l k).2) == decide (q.2 < (pat l (nxt l k)).2)) = false := by assumption
            have h4 : (decide (0 < turn (pat l k) (pat l (nxt l k)) q) == decide ((pat l k).2 < (pat l (nxt l k)).2)) = true := by assumption
            have hcr : crs (pat l k) (pat l (nxt l k)) q = true := by
              simp only [crs, bne, h3, h4]; rfl
            go_roundg (l.length - (k + 1))
            case measure => omega
            case rel => exact ⟨k + 1, by omega, rfl, by rw [cnt_yes hcr]; rfl, by go_num, HN.out, (c0.below (by assumption)).below (by assumption), by (repeat (first | with_reducible exact Below.refl _ _ | with_reducible apply bl_alloc | with_reducible apply bl_drew | with_reducible apply bl_after | (with_reducible refine bl_call ?_ (by assumption))))⟩
          · have h3 : (decide (q.2 < (pat l k).2) == decide (q.2 < (pat l (nxt l k)).2)) = false := by assumption
            have h4 : (decide (0 < turn (pat l k) (pat l (nxt l k)) q) == decide ((pat l k).2 < (pat l (nxt l k)).2)) = false := by assumption
            have hcr : crs (pat l k) (pat l (nxt l k)) q = false := by
              simp only [crs, bne, h3, h4]; rfl
            go_roundg (l.length - (k + 1))
            case measure => omega
            case rel => exact ⟨k + 1, by omega, rfl, by rw [cnt_no hcr], by go_num, HN.out, (c0.below (by assumption)).below (by assumption), by (repeat (first | with_reducible exact Below.refl _ _ | with_reducible apply bl_alloc | with_reducible apply bl_drew | with_reducible apply bl_after | (with_reducible refine bl_call ?_ (by assumption))))⟩
    · obtain rfl : k = l.length := by omega
      clear hlt kn
      go_wp2
      · have h3 : ((cntTo l q l.length : Int) % 2 == 1) = true := by assumption
        simp only [beq_iff_eq] at h3
        go_ret
        exact ⟨ret_int (whereOf_in HS.out (by omega)).symm, by (repeat (first | with_reducible exact Below.refl _ _ | with_reducible apply bl_alloc | with_reducible apply bl_drew | with_reducible apply bl_after | (with_reducible refine bl_call ?_ (by assumption))))⟩
      · have h3 : ((cntTo l q l.length : Int) % 2 == 1) = false := by assumption
        simp only [beq_eq_false_iff_ne, ne_eq] at h3
        go_ret
        exact ⟨ret_int (whereOf_out HS.out (by omega)).symm, by (repeat (first | with_reducible exact Below.refl _ _ | with_reducible apply bl_alloc | with_reducible apply bl_drew | with_reducible apply bl_after | (with_reducible refine bl_call ?_ (by assumption))))⟩
end Go.Proofs.Ytijpolfmiajenaa
