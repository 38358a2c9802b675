/- The function knurlref02.Check answers OK just for a valid polygon, for slices of at most a million points. -/
import Derived.Test.YthijegacjboclaaGreatSl
import Derived.Test.YthijegacjboclaaGreatRefLeaf
import Derived.Deep.RegionHeld3
import Derived.Deep.DeepCutAuto
import Derived.Deep.LoopGhost
namespace Go.Proofs.YthijegacjboclaaGreat
open Go.RowKit
attribute [local go_sem] After.cell After.frozen
attribute [local go_sem high] run_eql_pt run_neq_pt

set_option maxRecDepth 100000 in
set_option maxHeartbeats 1000000 in
theorem rNext_any (A : Option Addr) (ca : Nat) (l : List Pt) (i : Nat) (w : World) (h0 : 0 < l.length) (h1 : l.length ≤ 1000000) (h2 : i < 1000000) :
    Calls Tryz.prog 78 #[.slice A l.length ca, (Value.int .i64 ((i : Int)))] w fun e w' => e = .returned (Value.int .i64 ((nxt l i : Int))) ∧ w = w' := by
  go_enter Tryz.func78, Tryz.ntmps78
  go_wp2
  go_ret
  exact ⟨ret_int (by simp [nxt]), rfl⟩

set_option maxRecDepth 100000 in
set_option maxHeartbeats 1000000 in
theorem rCheck_any (A : Option Addr) (ca : Nat) (l : List Pt) (w : World) (ha : Pts w A l) (hla : l.length ≤ 1000000) :
    Calls Tryz.prog 58 #[.slice A l.length ca] w fun e w' => e = .returned (Value.int .i64 (chk l)) ∧ Below w.heap.size w w' := by
  by_cases hn : 3 ≤ l.length ∧ l.length ≤ 10
  · obtain ⟨hn1, hn2⟩ := hn
    have hwi : within (l.length : Int) 3 10 = true := by simp [within]; omega
    go_enter Tryz.func58, Tryz.ntmps58
    go_wp2_with (go_at_call 73; with_reducible refine Calls.mono (rWithin_any _ _ _ _) ?_; rintro e w' ⟨rfl, rfl⟩)
    go_loopw [3] (fun i wr => ∃ k : Nat, k ≤ l.length ∧ i = (Value.int .i64 ((k : Int))) ∧ (∀ j, j < k → isPt (pat l j) = true ∧ ∀ m, m < j → pat l m ≠ pat l j) ∧ Below w.heap.size w wr) (fun i _ => l.length - (intOf i).toNat)
    case atStart => exact ⟨0, Nat.zero_le _, rfl, (fun j hj => by omega), by (repeat (first | with_reducible exact Below.refl _ _ | with_reducible apply bl_alloc | with_reducible apply bl_drew | with_reducible apply bl_after | (with_reducible refine bl_call ?_ (by assumption))))⟩
    case round =>
      obtain ⟨k, kn, rfl, HR, hbw⟩ := hrel
      replace HR := Lib.hid HR
      by_cases hlt : k < l.length
      · obtain ⟨b, o, rfl, pa⟩ := (ha.below hbw).at_ hlt
        have x1 := pa.xp hlt
        have x2 := pa.yp hlt
        have lb := pa.lt
        by_cases hp : isPt (pat l k) = true
        · go_wp2_with (go_at_call 77; with_reducible refine Calls.mono (rIsPoint_any _ _) ?_; rintro e w1 ⟨rfl, hb1⟩; first | ((with_reducible apply kp_in_step (hb := hb1)); (with_reducible assumption); rintro ⟨hk, hc, hf, hzc, hzf⟩) | ((with_reducible refine kp_in_first hb1 ?_); rintro ⟨hk, hc, hf, hzc, hzf⟩))
          go_loopw [4] (fun i wr => ∃ m : Nat, m ≤ k ∧ i = (Value.int .i64 ((m : Int))) ∧ (∀ j, j < m → pat l j ≠ pat l k) ∧ Below w.heap.size w wr) (fun i _ => k - (intOf i).toNat)
          case atStart => exact ⟨0, Nat.zero_le _, rfl, (fun j hj => by omega), by (repeat (first | with_reducible exact Below.refl _ _ | with_reducible apply bl_alloc | with_reducible apply bl_drew | with_reducible apply bl_after | (with_reducible refine bl_call ?_ (by assumption))))⟩
          case round =>
            clear hb1 hk hc hf hzc hzf x1 x2 lb pa
            obtain ⟨m, mn, rfl, HM, hbw2⟩ := hrel
            replace HM := Lib.hid HM
            by_cases hlt2 : m < k
            · have pa := (ha.below hbw2).fix hlt
              have x1 := pa.xp hlt
              have x2 := pa.yp hlt
              have x3 := pa.xp (i := m) (by omega)
              have x4 := pa.yp (i := m) (by omega)
              have lb := pa.lt
              have hml : m < l.length := by omega
              by_cases he : pat l m = pat l k
              · have he' : decide (pat l m = pat l k) = true := by simpa using he
                go_wp2
                refine wp_region_after (by kernel_rfl) (by kernel_rfl) ?_; (repeat (go_big_quiet_step ((fail)))); refine wpQuiet_nil ?_; rintro _ ⟨z, rfl⟩; (first | ((with_reducible apply kp_in_after (z := z)); (with_reducible assumption); rintro ⟨hk, hc, hf, hzc, hzf⟩) | ((with_reducible refine kp_in_after0 z ?_); rintro ⟨hk, hc, hf, hzc, hzf⟩))
                go_wp2
                go_ret
                refine ⟨ret_int (chk_no fun h => h.2.2.1 k hlt m hlt2 he).symm, by (repeat (first | with_reducible exact Below.refl _ _ | with_reducible apply bl_alloc | with_reducible apply bl_drew | with_reducible apply bl_after | (with_reducible refine bl_call ?_ (by assumption))))⟩
              · have he' : decide (pat l m = pat l k) = false := by simpa using he
                go_wp2
                refine wp_region_after (by kernel_rfl) (by kernel_rfl) ?_; (repeat (go_big_quiet_step ((fail)))); refine wpQuiet_nil ?_; rintro _ ⟨z, rfl⟩; (first | ((with_reducible apply kp_in_after (z := z)); (with_reducible assumption); rintro ⟨hk, hc, hf, hzc, hzf⟩) | ((with_reducible refine kp_in_after0 z ?_); rintro ⟨hk, hc, hf, hzc, hzf⟩))
                go_wp2
                go_roundw
                case rel => exact ⟨m + 1, by omega, by go_num, (fun j hj => by rcases Nat.lt_succ_iff_lt_or_eq.1 hj with h | h; exact HM.out j h; subst h; exact he), by (repeat (first | with_reducible exact Below.refl _ _ | with_reducible apply bl_alloc | with_reducible apply bl_drew | with_reducible apply bl_after | (with_reducible refine bl_call ?_ (by assumption))))⟩
                case measure => simp [intOf]; omega
            · go_wp2
              go_roundw
              case rel => exact ⟨k + 1, by omega, by go_num, (fun j hj => by rcases Nat.lt_succ_iff_lt_or_eq.1 hj with h | h; exact HR.out j h; subst h; exact ⟨hp, fun q hq => HM.out q (by omega)⟩), by (repeat (first | with_reducible exact Below.refl _ _ | with_reducible apply bl_alloc | with_reducible apply bl_drew | with_reducible apply bl_after | (with_reducible refine bl_call ?_ (by assumption))))⟩
              case measure => simp [intOf]; omega
        · have hp' : isPt (pat l k) = false := by simpa using hp
          go_wp2_with (go_at_call 77; with_reducible refine Calls.mono (rIsPoint_any _ _) ?_; rintro e w1 ⟨rfl, hb1⟩; first | ((with_reducible apply kp_in_step (hb := hb1)); (with_reducible assumption); rintro ⟨hk, hc, hf, hzc, hzf⟩) | ((with_reducible refine kp_in_first hb1 ?_); rintro ⟨hk, hc, hf, hzc, hzf⟩))
          go_ret
          refine ⟨ret_int (chk_no fun h => hp (h.2.1 k hlt)).symm, by (repeat (first | with_reducible exact Below.refl _ _ | with_reducible apply bl_alloc | with_reducible apply bl_drew | with_reducible apply bl_after | (with_reducible refine bl_call ?_ (by assumption))))⟩
      · go_wp2
        obtain rfl : k = l.length := by omega
        clear hlt kn
        have h0l : 0 < l.length := by omega
        have HP : Hid (∀ j, j < l.length → isPt (pat l j) = true) := fun j hj => (HR.out j hj).1
        go_loopg [5] l.length (fun g i wr => ∃ k : Nat, k ≤ l.length ∧ g = l.length - k ∧ i = (Value.int .i64 ((k : Int))) ∧ (∀ j, j < k → (has (pat l j) (pat l (nxt l j)) (pat l (nxt l (nxt l j))) = false ∧ has (pat l (nxt l j)) (pat l (nxt l (nxt l j))) (pat l j) = false) ∧ ∀ m, m < l.length → (m = j ∨ m = nxt l j ∨ nxt l m = j ∨ meets (pat l j) (pat l (nxt l j)) (pat l m) (pat l (nxt l m)) = false)) ∧ Below w.heap.size w wr)
        case atStart => exact ⟨0, Nat.zero_le _, rfl, rfl, (fun j hj => by omega), by (repeat (first | with_reducible exact Below.refl _ _ | with_reducible apply bl_alloc | with_reducible apply bl_drew | with_reducible apply bl_after | (with_reducible refine bl_call ?_ (by assumption))))⟩
        case round =>
          clear hbw
          obtain ⟨k, kn, rfl, rfl, HS, hbw⟩ := hrel
          replace HS := Lib.hid HS
          by_cases hlt : k < l.length
          · obtain ⟨b, o, rfl, pa⟩ := (ha.below hbw).at_ hlt
            have hn1k : nxt l k < l.length := nxt_lt k h0l
            have x1 := pa.xp hlt
            have x2 := pa.yp hlt
            have x3 := pa.xp hn1k
            have x4 := pa.yp hn1k
            have lb := pa.lt
            go_upto_region 16 with fail
            go_cut [6, 7] (fun s6 s7 wx => ∃ g6 g7 : Nat, s6 = .pointer (some ⟨g6, 0, none⟩) ∧ s7 = .pointer (some ⟨g7, 0, none⟩) ∧ PtBox wx g6 (pat l k) ∧ PtBox wx g7 (pat l (nxt l k)) ∧ Below w.heap.size w wx)
            case first =>
              go_region_held3 (fun w' => w'.cell? ⟨b, o + k * 2, none⟩ = some (Value.int .i64 ((pat l k).1)) ∧ w'.cell? ⟨b, o + k * 2 + 1, none⟩ = some (Value.int .i64 ((pat l k).2)) ∧ w'.cell? ⟨b, o + nxt l k * 2, none⟩ = some (Value.int .i64 ((pat l (nxt l k)).1)) ∧ w'.cell? ⟨b, o + nxt l k * 2 + 1, none⟩ = some (Value.int .i64 ((pat l (nxt l k)).2))) (go_keep) ((first | (go_at_call 78; with_reducible refine Calls.mono (rNext_any _ _ _ _ _ h0l (by omega) (by omega)) ?_; rintro e w' ⟨rfl, rfl⟩) | fail))
              all_goals (go_wp2_with fail; go_meet; exact ⟨_, _, rfl, rfl, ⟨by simp <;> omega, by simp [go_sem], by simp [go_sem]⟩, ⟨by simp <;> omega, by simp [go_sem], by simp [go_sem]⟩, by (repeat (first | with_reducible exact Below.refl _ _ | with_reducible apply bl_alloc | with_reducible apply bl_drew | with_reducible apply bl_after | (with_reducible refine bl_call ?_ (by assumption))))⟩)
            case rest =>
              obtain ⟨g6, g7, rfl, rfl, q6, q7, hbc⟩ := hcut
              clear x1 x2 x3 x4 lb pa hbw
              have hn2k : nxt l (nxt l k) < l.length := nxt_lt _ h0l
              have pa := (ha.below hbc).fix hn2k
              have x1 := pa.xp hn2k
              have x2 := pa.yp hn2k
              have lb := pa.lt
              have c1 := q6.1
              have c2 := q6.2.1
              have c3 := q6.2.2
              have c4 := q7.1
              have c5 := q7.2.1
              have c6 := q7.2.2
              by_cases hh1 : has (pat l k) (pat l (nxt l k)) (pat l (nxt l (nxt l k))) = true
              · go_wp2_with (first | (go_at_call 78; with_reducible refine Calls.mono (rNext_any _ _ _ _ _ h0l (by omega) (by omega)) ?_; rintro e w' ⟨rfl, rfl⟩) | (go_at_call 79; with_reducible refine Calls.mono (rOn_any _ _ _ (HP.out _ hlt) (HP.out _ hn1k) (HP.out _ hn2k) _) ?_; rintro e w1 ⟨rfl, hb1⟩; first | ((with_reducible apply kp_in_step (hb := hb1)); (with_reducible assumption); rintro ⟨hk, hc, hf, hzc, hzf⟩) | ((with_reducible refine kp_in_first hb1 ?_); rintro ⟨hk, hc, hf, hzc, hzf⟩)))
                go_ret
                exact ⟨ret_int (chk_no fun h => by rw [(h.2.2.2.1 k hlt).1] at hh1; cases hh1).symm, by (repeat (first | with_reducible exact Below.refl _ _ | with_reducible apply bl_alloc | with_reducible apply bl_drew | with_reducible apply bl_after | (with_reducible refine bl_call ?_ (by assumption))))⟩
              · have hh1' : has (pat l k) (pat l (nxt l k)) (pat l (nxt l (nxt l k))) = false := by simpa using hh1
                by_cases hh2 : has (pat l (nxt l k)) (pat l (nxt l (nxt l k))) (pat l k) = true
                · go_wp2_with (first | (go_at_call 78; with_reducible refine Calls.mono (rNext_any _ _ _ _ _ h0l (by omega) (by omega)) ?_; rintro e w' ⟨rfl, rfl⟩) | (go_at_call 79; with_reducible refine Calls.mono (rOn_any _ _ _ (HP.out _ (by assumption)) (HP.out _ (by assumption)) (HP.out _ (by assumption)) _) ?_; rintro e w1 ⟨rfl, hb1⟩; first | ((with_reducible apply kp_in_step (hb := hb1)); (with_reducible assumption); rintro ⟨hk, hc, hf, hzc, hzf⟩) | ((with_reducible refine kp_in_first hb1 ?_); rintro ⟨hk, hc, hf, hzc, hzf⟩)))
                  go_ret
                  exact ⟨ret_int (chk_no fun h => by rw [(h.2.2.2.1 k hlt).2] at hh2; cases hh2).symm, by (repeat (first | with_reducible exact Below.refl _ _ | with_reducible apply bl_alloc | with_reducible apply bl_drew | with_reducible apply bl_after | (with_reducible refine bl_call ?_ (by assumption))))⟩
                · have hh2' : has (pat l (nxt l k)) (pat l (nxt l (nxt l k))) (pat l k) = false := by simpa using hh2
                  go_wp2_with (first | (go_at_call 78; with_reducible refine Calls.mono (rNext_any _ _ _ _ _ h0l (by omega) (by omega)) ?_; rintro e w' ⟨rfl, rfl⟩) | (go_at_call 79; with_reducible refine Calls.mono (rOn_any _ _ _ (HP.out _ (by assumption)) (HP.out _ (by assumption)) (HP.out _ (by assumption)) _) ?_; rintro e w1 ⟨rfl, hb1⟩; first | ((with_reducible apply kp_in_step (hb := hb1)); (with_reducible assumption); rintro ⟨hk, hc, hf, hzc, hzf⟩) | ((with_reducible refine kp_in_first hb1 ?_); rintro ⟨hk, hc, hf, hzc, hzf⟩)))
                  go_loopg [9] l.length (fun g i wr => ∃ m : Nat, m ≤ l.length ∧ g = l.length - m ∧ i = (Value.int .i64 ((m : Int))) ∧ (∀ j, j < m → (j = k ∨ j = nxt l k ∨ nxt l j = k ∨ meets (pat l k) (pat l (nxt l k)) (pat l j) (pat l (nxt l j)) = false)) ∧ Below w.heap.size w wr ∧ KP wc wr)
                  case atStart => exact ⟨0, Nat.zero_le _, rfl, rfl, (fun j hj => by omega), by (repeat (first | with_reducible exact Below.refl _ _ | with_reducible apply bl_alloc | with_reducible apply bl_drew | with_reducible apply bl_after | (with_reducible refine bl_call ?_ (by assumption)))), ⟨by (repeat (first | with_reducible exact Below.refl _ _ | with_reducible apply bl_alloc | with_reducible apply bl_drew | with_reducible apply bl_after | (with_reducible refine bl_call ?_ (by assumption))))⟩⟩
                  case round =>
                    clear hb1 hk hc hf hzc hzf
                    clear hb1 hk hc hf hzc hzf
                    clear x1 x2
                    obtain ⟨m, mn, rfl, rfl, HM, hbw2, hkp⟩ := hrel
                    obtain ⟨hk, hc, hf, hzc, hzf⟩ := rules_of hkp
                    clear hkp
                    replace HM := Lib.hid HM
                    by_cases hltm : m < l.length
                    · have hnm : nxt l m < l.length := nxt_lt _ h0l
                      have pm := pa.xp hltm
                      have pm' := pa.yp hltm
                      have pn := pa.xp hnm
                      have pn' := pa.yp hnm
                      have lb2 : b < wr.heap.size := Nat.lt_of_lt_of_le lb hk.b.size
                      go_wp2_with (go_at_call 78; with_reducible refine Calls.mono (rNext_any _ _ _ _ _ h0l (by omega) (by omega)) ?_; rintro e w' ⟨rfl, rfl⟩)
                      · go_roundg (l.length - (m + 1))
                        case measure => omega
                        case rel => exact ⟨m + 1, by omega, rfl, by go_num, (fun j hj => by rcases Nat.lt_succ_iff_lt_or_eq.1 hj with h | h; exact HM.out j h; subst h; exact .inl (by omega)), hbw2, hk⟩
                      · go_roundg (l.length - (m + 1))
                        case measure => omega
                        case rel => exact ⟨m + 1, by omega, rfl, by go_num, (fun j hj => by rcases Nat.lt_succ_iff_lt_or_eq.1 hj with h | h; exact HM.out j h; subst h; exact .inr (.inl (by omega))), hbw2, hk⟩
                      · have h3 : (((m : Int) == (k : Int)) = true ∨ ((m : Int) == (nxt l k : Int)) = true) ∨ ((nxt l m : Int) == (k : Int)) = true := by assumption
                        simp only [beq_iff_eq] at h3
                        go_roundg (l.length - (m + 1))
                        case measure => omega
                        case rel => exact ⟨m + 1, by omega, rfl, by go_num, (fun j hj => by rcases Nat.lt_succ_iff_lt_or_eq.1 hj with h | h; exact HM.out j h; subst h; omega), hbw2, hk⟩
                      · have h3 : (((m : Int) == (k : Int)) = false ∧ ((m : Int) == (nxt l k : Int)) = false) ∧ ((nxt l m : Int) == (k : Int)) = false := by assumption
                        refine wp_region_after (by kernel_rfl) (by kernel_rfl) ?_; (repeat (go_big_quiet_step (((first | (go_at_call 78; with_reducible exact calls_after_same (rNext_any _ _ _ _ _ h0l (by omega) (by omega))) | (go_at_call 80; with_reducible exact calls_after (rMeet_any _ _ _ _ (HP.out _ (by assumption)) (HP.out _ (by assumption)) (HP.out _ (by assumption)) (HP.out _ (by assumption)) _))))))); refine wpQuiet_nil ?_; rintro _ ⟨z, rfl⟩; (first | ((with_reducible apply kp_in_after (z := z)); (with_reducible assumption); rintro ⟨hk, hc, hf, hzc, hzf⟩) | ((with_reducible refine kp_in_after0 z ?_); rintro ⟨hk, hc, hf, hzc, hzf⟩))
                        go_wp2
                        · have hm : meets (pat l k) (pat l (nxt l k)) (pat l m) (pat l (nxt l m)) = true := by assumption
                          simp only [beq_eq_false_iff_ne, ne_eq] at h3
                          go_ret
                          exact ⟨ret_int (chk_no fun h => by rcases h.2.2.2.2 k hlt m hltm with h | h | h | h <;> first | omega | (rw [h] at hm; cases hm)).symm, by (repeat (first | with_reducible exact Below.refl _ _ | with_reducible apply bl_alloc | with_reducible apply bl_drew | with_reducible apply bl_after | (with_reducible refine bl_call ?_ (by assumption))))⟩
                        · have hm : meets (pat l k) (pat l (nxt l k)) (pat l m) (pat l (nxt l m)) = false := by assumption
                          go_roundg (l.length - (m + 1))
                          case measure => omega
                          case rel => exact ⟨m + 1, by omega, rfl, by go_num, (fun j hj => by rcases Nat.lt_succ_iff_lt_or_eq.1 hj with h | h; exact HM.out j h; subst h; exact .inr (.inr (.inr hm))), by (repeat (first | with_reducible exact Below.refl _ _ | with_reducible apply bl_alloc | with_reducible apply bl_drew | with_reducible apply bl_after | (with_reducible refine bl_call ?_ (by assumption)))), by assumption⟩
                    · go_wp2
                      go_roundg (l.length - (k + 1))
                      case measure => omega
                      case rel => exact ⟨k + 1, by omega, rfl, by go_num, (fun j hj => by rcases Nat.lt_succ_iff_lt_or_eq.1 hj with h | h; exact HS.out j h; subst h; exact ⟨⟨hh1', hh2'⟩, fun q hq => HM.out q (by omega)⟩), hbw2⟩
          · go_wp2
            go_ret
            obtain rfl : k = l.length := by omega
            refine ⟨ret_int (chk_ok ⟨⟨hn1, hn2⟩, fun i hi => (HR.out i hi).1, fun i hi k hk => (HR.out i hi).2 k hk, fun i hi => (HS.out i hi).1, fun i hi k hk => (HS.out i hi).2 k hk⟩).symm, by (repeat (first | with_reducible exact Below.refl _ _ | with_reducible apply bl_alloc | with_reducible apply bl_drew | with_reducible apply bl_after | (with_reducible refine bl_call ?_ (by assumption))))⟩
  · have hwi : within (l.length : Int) 3 10 = false := by simp [within]; omega
    go_enter Tryz.func58, Tryz.ntmps58
    go_wp2_with (go_at_call 73; with_reducible refine Calls.mono (rWithin_any _ _ _ _) ?_; rintro e w' ⟨rfl, rfl⟩)
    go_ret
    exact ⟨ret_int (chk_no fun h => hn h.1).symm, by (repeat (first | with_reducible exact Below.refl _ _ | with_reducible apply bl_alloc | with_reducible apply bl_drew | with_reducible apply bl_after | (with_reducible refine bl_call ?_ (by assumption))))⟩
end Go.Proofs.YthijegacjboclaaGreat
