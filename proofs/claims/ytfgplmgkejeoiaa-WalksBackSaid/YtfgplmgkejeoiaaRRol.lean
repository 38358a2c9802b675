/- The reference's Rolls answers the sweeps of all elbows, each once, in order. -/
import Derived.Test.YtfgplmgkejeoiaaRLeast
import Derived.Test.YtfgplmgkejeoiaaOrd
import Derived.Test.YtfgplmgkejeoiaaRolls
import Derived.Test.YtfgplmgkejeoiaaRSwp
import Derived.Maps.AppendAt
namespace Go.Proofs.Ytfgplmgkejeoiaa
open Go.RowKit
attribute [local go_sem] After.cell After.frozen

/-- Two slices do not lie in one block. -/
def Apt (a b : Value) : Prop := a.ownBlock = none ∨ a.ownBlock ≠ b.ownBlock
theorem Apt.flip {a b : Value} (h : Apt a b) : Apt b a := by
  unfold Apt at *
  cases hb : b.ownBlock with
  | none => exact .inl rfl
  | some g =>
    rcases h with h | h
    · rw [h]; exact .inr (by simp)
    · rw [hb] at h; exact .inr fun e => h e.symm
theorem Apt.new {X : World} {B e n s : Nat} {a b v : Value} {ys : List Value} (hb : X.ownsRow B e 1 b n ys) (h : Apt b a) (hat : v.ownBlock = a.ownBlock ∨ v.ownBlock = some s) (hs : X.heap.size ≤ s) : Apt b v := by
  rcases hat with hat | hat
  · unfold Apt; rw [hat]; exact h
  · unfold Apt
    cases hg : b.ownBlock with
    | none => exact .inl rfl
    | some g =>
      refine .inr fun e => ?_
      rw [hat] at e
      cases e
      have := (hb.lt _ hg).2
      omega
def bef (n : Int) (l : List Int) (q : Nat) : List Int := (l.take q).filter fun x => decide (x < n)
def beh (n : Int) (l : List Int) (q : Nat) : List Int := (l.take q).filter fun x => !decide (x < n)
theorem take_iat {l : List Int} {q : Nat} (h : q < l.length) : l.take (q + 1) = l.take q ++ [iat l q] := by
  rw [List.take_add_one, iat_get h]; rfl
theorem bef_yes {n : Int} {l : List Int} {q : Nat} (h : q < l.length) (hn : iat l q < n) : bef n l (q + 1) = bef n l q ++ [iat l q] ∧ beh n l (q + 1) = beh n l q := by
  unfold bef beh
  rw [take_iat h, List.filter_append, List.filter_append]
  simp [hn]
theorem bef_no {n : Int} {l : List Int} {q : Nat} (h : q < l.length) (hn : ¬ iat l q < n) : bef n l (q + 1) = bef n l q ∧ beh n l (q + 1) = beh n l q ++ [iat l q] := by
  unfold bef beh
  rw [take_iat h, List.filter_append, List.filter_append]
  simp [hn]
theorem bef_len (n : Int) (l : List Int) (q : Nat) : (bef n l q).length ≤ l.length ∧ (beh n l q).length ≤ l.length := by
  unfold bef beh
  have h1 := List.length_filter_le (fun x => decide (x < n)) (l.take q)
  have h2 := List.length_filter_le (fun x => !decide (x < n)) (l.take q)
  rw [List.length_take] at h1 h2
  omega
theorem ins_no {n : Int} {l : List Int} (h : n ∉ l) : ins n l = bef n l l.length ++ n :: beh n l l.length := by
  rw [ins, if_neg h, bef, beh, List.take_length]
theorem sws_len (T : Trk) (m : List Pt) (k : Nat) : (srt (sws T m k)).length ≤ k := by
  rw [srt_len]
  have h1 : ∀ l : List Int, (ddp l).length ≤ l.length := fun l => by
    induction l with
    | nil => exact Nat.le_refl _
    | cons a t ih =>
      rw [ddp]
      split <;> simp <;> omega
  have h2 := h1 (sws T m k)
  unfold sws at h2 ⊢
  rw [List.length_map, List.length_take] at h2
  omega
theorem intsV_snoc (l : List Int) (n : Int) : intsV l ++ [(Value.int .i64 (n))] = intsV (l ++ [n]) := by simp [intsV]
def RowI (w : World) (B : Nat) (v : Value) (l : List Int) : Prop := w.ownsRow B 3 1 v l.length (intsV l)
theorem RowI.below {w w' : World} {B : Nat} {v : Value} {l : List Int} (h : RowI w B v l) (hb : Below w.heap.size w w') : RowI w' B v l := own_below h hb
theorem rowI_nil (w : World) (B : Nat) : RowI w B (.slice none 0 0) [] := World.ownsRow_nil _ _ _ _
theorem RowI.snoc {w : World} {B n : Nat} {v : Value} {l : List Int} {x : Int} (h : w.ownsRow B 3 1 v (n + 1) (intsV l ++ [(Value.int .i64 (x))])) (hn : n = l.length) : RowI w B v (l ++ [x]) := by
  unfold RowI
  subst hn
  rw [← intsV_snoc, List.length_append]
  exact h
theorem RowI.join {w : World} {B n k : Nat} {v : Value} {l m : List Int} (h : w.ownsRow B 3 1 v (n + k) (intsV l ++ intsV m)) (hn : n = l.length := by rfl) (hk : k = m.length := by rfl) : RowI w B v (l ++ m) := by
  unfold RowI
  subst hn
  subst hk
  rw [intsV_append, List.length_append]
  exact h
theorem RowI.srcI {w : World} {B c : Nat} {ad : Addr} {l : List Int} (h : RowI w B (.slice (some ad) l.length c) l) : ∀ j u, (intsV l)[j]? = some u → w.cell? (ad.add j) = some u := by
  rcases srcRow h with ⟨_, h1⟩ | ⟨ad', c', h1, h2⟩
  · cases h1
  · cases h1
    exact h2

set_option maxRecDepth 100000 in
set_option maxHeartbeats 4000000 in
theorem r5Rolls_ok (b o ca bm om cm : Nat) (T : Trk) (m : List Pt) (w : World) (hp : PtsAt w b o T.pts) (hq : PtsAt w bm om m) (hT : trkB T = true) (hm : walkB m = true) (h0 : opE T m = 0) :
    Calls Try.prog 36 #[(Value.agg #[.slice (some ⟨b, o, none⟩) T.pts.length ca, (Value.int .i64 (T.closed)), (Value.int .i64 (T.lo)), (Value.int .i64 (T.hi))]), .slice (some ⟨bm, om, none⟩) m.length cm] w fun e w' => (∃ v, e = .returned (.tuple #[v, (Value.int .i64 (0))]) ∧ RowI w' w.heap.size v (rolS T m)) ∧ Below w.heap.size w w' := by
  obtain ⟨i0, hi, hz0, hz1, hz2⟩ := info_parts infoInt
  have hK := fun (W : World) (h : Below w.heap.size w W) => known_any (some ⟨b, o, none⟩) (some ⟨bm, om, none⟩) ca cm T m W (.inr ⟨b, o, rfl, hp.below h⟩) (by have := (trkB_bd hT).1; omega) (.inr ⟨bm, om, rfl, hq.below h⟩) (by have := walkB_bd hm; omega)
  rw [h0, show knl T m = elbs T m by rw [knl, if_pos h0]] at hK
  replace hK := Lib.hid hK
  have hlen := elbs_len hT hm
  have HP := Lib.hid hp
  have HQ := Lib.hid hq
  clear h0 hp hq
  have eT : Blk (w.alloc (.cells #[.slice (some ⟨b, o, none⟩) T.pts.length ca, (Value.int .i64 (T.closed)), (Value.int .i64 (T.lo)), (Value.int .i64 (T.hi))] 36)) w.heap.size 36 #[.slice (some ⟨b, o, none⟩) T.pts.length ca, (Value.int .i64 (T.closed)), (Value.int .i64 (T.lo)), (Value.int .i64 (T.hi))] := Blk.new _ _ _
  go_enter Try.func36, Try.ntmps36
  go_wp2_with ((go_at_call 73); (with_reducible refine Calls.mono (hK.out _ (by (repeat (first | with_reducible exact Below.refl _ _ | with_reducible apply bl_alloc | with_reducible apply bl_drew | with_reducible apply bl_after | (with_reducible refine bl_call ?_ (by assumption)))))) ?_); rintro e w2 ⟨⟨A', ca', rfl, hR⟩, hb2⟩; (have eT2 := eT.below hb2); (have hbw : Below w.heap.size w w2 := by (repeat (first | with_reducible exact Below.refl _ _ | with_reducible apply bl_alloc | with_reducible apply bl_drew | with_reducible apply bl_after | (with_reducible refine bl_call ?_ (by assumption))))); first | ((with_reducible apply kp_in_step (hb := hb2)); (with_reducible assumption); rintro ⟨hk, hc, hf, hzc, hzf⟩) | ((with_reducible refine kp_in_first hb2 ?_); rintro ⟨hk, hc, hf, hzc, hzf⟩))
  have HR := Lib.hid hR
  clear hR hK hb2 hk hc hf hzc hzf eT
  go_loopw [8, 9] (fun v i wr => ∃ k : Nat, k ≤ (elbs T m).length ∧ i = (Value.int .i64 ((k : Int))) ∧ RowI wr w2.heap.size v (srt (sws T m k)) ∧ Below w2.heap.size w2 wr) (fun _ i _ => (elbs T m).length - (intOf i).toNat)
  case atStart => exact ⟨0, Nat.zero_le _, rfl, by rw [show sws T m 0 = [] from rfl, srt_nil]; exact rowI_nil _ _, Below.refl _ _⟩
  case round =>
    obtain ⟨k, kn, rfl, hO, hbr⟩ := hrel
    have HO := Lib.hid hO
    clear hO
    by_cases hlt : k < (elbs T m).length
    · obtain ⟨g, rfl, lg, E, ce, yc, hI⟩ := refP_at (HR.out.below hbr) hlt
      have hx : (elbs T m)[k]? = some ((elbs T m).getD k []) := by simp [List.getD, hlt]
      have hSs := sws_succ (T := T) (m := m) hx
      have hll := sws_len T m k
      obtain ⟨hxl, hxn⟩ := mem_elbs (List.mem_of_getElem? hx)
      generalize (elbs T m).getD k [] = x at *
      obtain ⟨be, oe, rfl, hIx⟩ := hI.at_ (k := 0) (by rw [ints_len]; have := walkB_bd hm; omega)
      have hbwr : Below w.heap.size w wr := hbw.trans (hbr.mono hbw.size)
      have hS := Lib.hid fun (V : World) (h : Below wr.heap.size wr V) => SweepOf_any b o ca bm om cm be oe ce T m x V ((HP.out.below hbwr).below h) ((HQ.out.below hbwr).below h) (hIx.below h) hT hm hxl hxn
      have eTr := eT2.below hbr
      have lT := eTr.lt
      have y0 := eTr.cell 0
      have y1 := eTr.cell 1
      have y2 := eTr.cell 2
      have y3 := eTr.cell 3
      simp only [List.getElem?_toArray, List.getElem?_cons_zero, List.getElem?_cons_succ] at y0 y1 y2 y3
      have hJ := srt_snoc (sws T m k) (swp T m x)
      rw [← hSs] at hJ
      clear hSs
      have j0 : (0 : Int) ≤ (k : Int) := by omega
      have j1 : (k : Int) < ((elbs T m).length : Int) := by omega
      have hHO : RowI wr w2.heap.size u8 (srt (sws T m k)) := HO.out
      have HJ := Lib.hid hJ
      clear hJ hx hI hIx hxl hxn HO
      generalize swp T m x = n at *
      generalize srt (sws T m k) = l at *
      have HO := Lib.hid hHO
      clear hHO
      go_wp2
      refine wp_region_after (by kernel_rfl) (by kernel_rfl) ?_; (repeat (go_big_quiet_step (((go_at_call 56; with_reducible exact calls_after (hS.out _ (by (repeat (first | with_reducible assumption | with_reducible exact Below.refl _ _ | with_reducible apply bl_alloc | with_reducible apply bl_drew | with_reducible apply bl_after | (with_reducible refine bl_call ?_ (by assumption)) | (with_reducible refine bl_setc ?_ (by omega))))))))))); refine wpQuiet_nil ?_; rintro _ ⟨z, rfl⟩; (first | ((with_reducible apply kp_in_after (z := z)); (with_reducible assumption); rintro ⟨hk, hc, hf, hzc, hzf⟩) | ((with_reducible refine kp_in_after0 z ?_); rintro ⟨hk, hc, hf, hzc, hzf⟩))
      have hbz : Below w2.heap.size w2 z.val := hbr.trans ((show Below wr.heap.size wr z.val by (repeat (first | with_reducible assumption | with_reducible exact Below.refl _ _ | with_reducible apply bl_alloc | with_reducible apply bl_drew | with_reducible apply bl_after | (with_reducible refine bl_call ?_ (by assumption)) | (with_reducible refine bl_setc ?_ (by omega))))).mono hbr.size)
      have HO2 := Lib.hid (HO.out.below (show Below wr.heap.size wr z.val by (repeat (first | with_reducible assumption | with_reducible exact Below.refl _ _ | with_reducible apply bl_alloc | with_reducible apply bl_drew | with_reducible apply bl_after | (with_reducible refine bl_call ?_ (by assumption)) | (with_reducible refine bl_setc ?_ (by omega))))))
      clear hS y0 y1 y2 y3 lT eTr hk hc hf hzc hzf yc lg HO hbwr
      generalize z.val = wz at *
      go_wp2
      have hbz0 := hbz.size
      go_loopw [11, 12, 13, 14] (fun vb vh vi j wt => ∃ (q : Nat) (bi : Bool), q ≤ l.length ∧ j = (Value.int .i64 ((q : Int))) ∧ vi = .bool bi ∧ Hid (bi = decide (n ∈ l.take q)) ∧ Hid (RowI wt wz.heap.size vb (bef n l q)) ∧ Hid (RowI wt wz.heap.size vh (beh n l q)) ∧ Hid (Apt vh vb) ∧ Below wz.heap.size wz wt) (fun _ _ _ j _ => l.length - (intOf j).toNat)
      case atStart => exact ⟨0, false, Nat.zero_le _, rfl, rfl, Lib.hid (by simp), Lib.hid (rowI_nil _ _), Lib.hid (rowI_nil _ _), Lib.hid (.inl rfl), Below.refl _ _⟩
      case round =>
        obtain ⟨q, bi, qn, rfl, rfl, hbi, hvb, hvh, hap, hbt⟩ := hrel
        have hbl := bef_len n l q
        obtain ⟨_, A3, ca3, rfl, hI3, _⟩ := own_ints (HO2.out.below hbt)
        by_cases hql : q < l.length
        · have hpos : 0 < l.length := by omega
          obtain ⟨b3, o3, rfl, pI⟩ := hI3.at_ hql
          have x3 := pI.xi hql
          have l3 := pI.lt
          have q0 : (0 : Int) ≤ (q : Int) := by omega
          have q1 : (q : Int) < (l.length : Int) := by omega
          have hone : ∀ u ∈ [(Value.int .i64 (iat l q))], u.oneCell' = true := fun u hu => by rw [List.mem_singleton.1 hu]; rfl
          clear pI hI3
          by_cases hn : iat l q < n
          · have d1 : decide (iat l q < n) = true := decide_eq_true hn
            have d2 : (iat l q == n) = false := by rw [beq_eq_false_iff_ne]; omega
            have hB := Lib.hid (bef_yes hql hn)
            have hbj : Hid (bi = decide (n ∈ l.take (q + 1))) := Lib.hid (by
              rw [hbi.out, take_iat hql]
              congr 1
              rw [List.mem_append, List.mem_singleton]
              exact propext ⟨.inl, fun h => h.elim id fun e => by omega⟩)
            clear hn hbi
            cases bi
            all_goals
              go_wp2_with (at_builtin; refine wpList_append_own_at _ rfl (.tmp 55) (.tmp 60) 37 rfl wz.heap.size 3 i0 _ 1 8 undInts hi hz0 hz1 hz2 rfl (by decide) _ _ _ rfl (hvb.out.alloc _) ⟨wr.heap.size, 0, none⟩ 1 1 [(Value.int .i64 (iat l q))] rfl rfl (cell_one_new _ _ _) hone (by unfold maxLen; omega) (by omega) (by have := hbt.size; simp; omega) ?_)
              intro v' w5 hown hgrow _ hat
              have hb5 : Below wz.heap.size wz w5 := bl_grown (bl_alloc hbt) (hvb.out.alloc _) hgrow
              have HV := Lib.hid (RowI.snoc hown rfl)
              have HH := Lib.hid (show RowI w5 wz.heap.size u12 (beh n l q) from (hvh.out.alloc _).kept hgrow hap.out)
              have HA := Lib.hid (Apt.new hvh.out hap.out hat (Nat.le_succ _))
              clear hown hgrow hat
              go_wp2
              go_roundw
              case rel => exact ⟨q + 1, _, by omega, by go_num, rfl, hbj, Lib.hid (by rw [hB.out.1]; exact HV.out), Lib.hid (by rw [hB.out.2]; exact HH.out), HA, hb5⟩
              case measure => simp [intOf]; omega
          · have d1 : decide (iat l q < n) = false := decide_eq_false hn
            have hB := Lib.hid (bef_no hql hn)
            by_cases he : iat l q = n
            · have d2 : (iat l q == n) = true := beq_iff_eq.2 he
              have hbj : Hid (true = decide (n ∈ l.take (q + 1))) := Lib.hid (decide_eq_true (by rw [take_iat hql, he]; simp)).symm
              clear hn hbi he
              cases bi
              all_goals (go_wp2_with (at_builtin; refine wpList_append_own_at _ rfl (.tmp 62) (.tmp 67) 37 rfl wz.heap.size 3 i0 _ 1 8 undInts hi hz0 hz1 hz2 rfl (by decide) _ _ _ rfl (hvh.out.alloc _) ⟨wr.heap.size, 0, none⟩ 1 1 [(Value.int .i64 (iat l q))] rfl rfl (cell_one_new _ _ _) hone (by unfold maxLen; omega) (by omega) (by have := hbt.size; simp; omega) ?_); intro v' w5 hown hgrow _ hat; (have hb5 : Below wz.heap.size wz w5 := bl_grown (bl_alloc hbt) (hvh.out.alloc _) hgrow); (have HH := Lib.hid (RowI.snoc hown rfl)); (have HV := Lib.hid (show RowI w5 wz.heap.size u11 (bef n l q) from (hvb.out.alloc _).kept hgrow hap.out.flip)); (have HA := Lib.hid (Apt.new hvb.out hap.out.flip hat (Nat.le_succ _)).flip); clear hown hgrow hat; go_wp2; go_roundw; (case rel => exact ⟨q + 1, true, by omega, by go_num, rfl, hbj, Lib.hid (by rw [hB.out.1]; exact HV.out), Lib.hid (by rw [hB.out.2]; exact HH.out), HA, hb5⟩); (case measure => simp [intOf]; omega))
            · have d2 : (iat l q == n) = false := by rw [beq_eq_false_iff_ne]; exact he
              have hbj : Hid (bi = decide (n ∈ l.take (q + 1))) := Lib.hid (by
                rw [hbi.out, take_iat hql]
                congr 1
                rw [List.mem_append, List.mem_singleton]
                exact propext ⟨.inl, fun h => h.elim id fun e => absurd e.symm he⟩)
              clear hn hbi he
              cases bi
              all_goals (go_wp2_with (at_builtin; refine wpList_append_own_at _ rfl (.tmp 62) (.tmp 67) 37 rfl wz.heap.size 3 i0 _ 1 8 undInts hi hz0 hz1 hz2 rfl (by decide) _ _ _ rfl (hvh.out.alloc _) ⟨wr.heap.size, 0, none⟩ 1 1 [(Value.int .i64 (iat l q))] rfl rfl (cell_one_new _ _ _) hone (by unfold maxLen; omega) (by omega) (by have := hbt.size; simp; omega) ?_); intro v' w5 hown hgrow _ hat; (have hb5 : Below wz.heap.size wz w5 := bl_grown (bl_alloc hbt) (hvh.out.alloc _) hgrow); (have HH := Lib.hid (RowI.snoc hown rfl)); (have HV := Lib.hid (show RowI w5 wz.heap.size u11 (bef n l q) from (hvb.out.alloc _).kept hgrow hap.out.flip)); (have HA := Lib.hid (Apt.new hvb.out hap.out.flip hat (Nat.le_succ _)).flip); clear hown hgrow hat; go_wp2; go_roundw; (case rel => exact ⟨q + 1, _, by omega, by go_num, rfl, hbj, Lib.hid (by rw [hB.out.1]; exact HV.out), Lib.hid (by rw [hB.out.2]; exact HH.out), HA, hb5⟩); (case measure => simp [intOf]; omega))
        · obtain rfl : q = l.length := by omega
          rw [List.take_length] at hbi
          clear hI3
          have hhd := srcRow hvh.out
          cases bi with
          | true =>
            have hin : Hid (srt (sws T m (k + 1)) = l) := Lib.hid (by
              have h1 := hbi.out
              rw [eq_comm, decide_eq_true_eq] at h1
              rw [HJ.out, ins, if_pos h1])
            clear hbi HJ hhd
            go_wp2
            go_roundw
            case rel => exact ⟨k + 1, by omega, by go_num, by rw [hin.out]; exact HO2.out.below hbt, hbz.trans (hbt.mono hbz0)⟩
            case measure => simp [intOf]; omega
          | false =>
            have hin : Hid (srt (sws T m (k + 1)) = bef n l l.length ++ [n] ++ beh n l l.length) := Lib.hid (by
              have h1 := hbi.out
              rw [eq_comm, decide_eq_false_iff_not] at h1
              rw [HJ.out, ins_no h1, List.append_assoc, List.singleton_append])
            clear hbi HJ
            have hone : ∀ u ∈ [(Value.int .i64 (n))], u.oneCell' = true := fun u hu => by rw [List.mem_singleton.1 hu]; rfl
            rcases hhd with ⟨hz, rfl⟩ | ⟨ad, c, rfl, hsrc⟩
            · have hh0 := Lib.hid (List.eq_nil_of_length_eq_zero hz)
              clear hz
              go_wp2_with ((first | (at_builtin; refine wpList_append_own_at _ rfl (.tmp 71) (.tmp 73) 37 rfl wz.heap.size 3 i0 _ 1 8 undInts hi hz0 hz1 hz2 rfl (by decide) _ _ _ rfl (hvb.out.alloc _) ⟨wr.heap.size, 0, none⟩ 1 1 [(Value.int .i64 (n))] rfl rfl (cell_one_new _ _ _) hone (by unfold maxLen; omega) (by omega) (by have := hbt.size; simp; omega) ?_; intro v' w5 hown hgrow _ hat; (have HV := RowI.snoc hown rfl); (have hb5 : Below wz.heap.size wz w5 := bl_grown (bl_alloc hbt) (hvb.out.alloc _) hgrow)) | (at_builtin; refine wpList_append_own_none rfl (.tmp 74) (.tmp 75) 37 rfl wz.heap.size 3 i0 1 undInts hi _ _ _ rfl HV rfl ?_)))
              go_roundw
              case rel => exact ⟨k + 1, by omega, by go_num, by rw [hin.out, hh0.out, List.append_nil]; exact Joins.ownsRow_le HV hbz0, hbz.trans (hb5.mono hbz0)⟩
              case measure => simp [intOf]; omega
            · go_wp2_with ((first | (at_builtin; refine wpList_append_own_at _ rfl (.tmp 71) (.tmp 73) 37 rfl wz.heap.size 3 i0 _ 1 8 undInts hi hz0 hz1 hz2 rfl (by decide) _ _ _ rfl (hvb.out.alloc _) ⟨wr.heap.size, 0, none⟩ 1 1 [(Value.int .i64 (n))] rfl rfl (cell_one_new _ _ _) hone (by unfold maxLen; omega) (by omega) (by have := hbt.size; simp; omega) ?_; intro v' w5 hown hgrow _ hat; (have HV := RowI.snoc hown rfl); (have hb5 : Below wz.heap.size wz w5 := bl_grown (bl_alloc hbt) (hvb.out.alloc _) hgrow); (have HH : RowI w5 wz.heap.size (.slice (some ad) (beh n l l.length).length c) (beh n l l.length) := (hvh.out.alloc _).kept hgrow hap.out); (have hsr := HH.srcI); clear hown hgrow hat) | (at_builtin; refine wpList_append_own_at _ rfl (.tmp 74) (.tmp 75) 37 rfl wz.heap.size 3 i0 _ 1 8 undInts hi hz0 hz1 hz2 rfl (by decide) _ _ _ rfl HV ad _ c (intsV (beh n l l.length)) rfl (intsV_len _) hsr (intsV_one _) (by rw [List.length_append]; unfold maxLen; simp; omega) (by rw [List.length_append]; simp; omega) hb5.size ?_; intro v6 w6 hown6 hgrow6 _ _; (have hb6 : Below wz.heap.size wz w6 := bl_grown hb5 HV hgrow6); (have HW := RowI.join hown6); clear hown6 hgrow6)))
              go_roundw
              case rel => exact ⟨k + 1, by omega, by go_num, by rw [hin.out]; exact Joins.ownsRow_le HW hbz0, hbz.trans (hb6.mono hbz0)⟩
              case measure => simp [intOf]; omega
    · obtain rfl : k = (elbs T m).length := by omega
      go_wp2
      go_ret2
      exact ⟨⟨_, rfl, Joins.ownsRow_le HO.out hbw.size⟩, hbw.trans (hbr.mono hbw.size)⟩
set_option maxRecDepth 100000 in
set_option maxHeartbeats 1000000 in
theorem r5Rolls_no (A B : Option Addr) (ca cb : Nat) (T : Trk) (m : List Pt) (w : World) (ha : Pts w A T.pts) (hla : T.pts.length ≤ 1000000) (hb : Pts w B m) (hlb : m.length ≤ 1000000) (hne : opE T m ≠ 0) :
    Calls Try.prog 36 #[(Value.agg #[.slice A T.pts.length ca, (Value.int .i64 (T.closed)), (Value.int .i64 (T.lo)), (Value.int .i64 (T.hi))]), .slice B m.length cb] w fun e w' => e = .returned (.tuple #[.slice none 0 0, (Value.int .i64 (opE T m))]) ∧ Below w.heap.size w w' := by
  have hK := fun (W : World) (h : Below w.heap.size w W) => known_any A B ca cb T m W (ha.below h) hla (hb.below h) hlb
  rw [show knl T m = [] by rw [knl, if_neg hne]] at hK
  replace hK := Lib.hid hK
  clear ha hb hne
  go_enter Try.func36, Try.ntmps36
  go_wp2_with ((go_at_call 73); (with_reducible refine Calls.mono (hK.out _ (by (repeat (first | with_reducible exact Below.refl _ _ | with_reducible apply bl_alloc | with_reducible apply bl_drew | with_reducible apply bl_after | (with_reducible refine bl_call ?_ (by assumption)))))) ?_); rintro e w2 ⟨⟨A', ca', rfl, hR⟩, hb2⟩; (have hbw : Below w.heap.size w w2 := by (repeat (first | with_reducible exact Below.refl _ _ | with_reducible apply bl_alloc | with_reducible apply bl_drew | with_reducible apply bl_after | (with_reducible refine bl_call ?_ (by assumption))))); first | ((with_reducible apply kp_in_step (hb := hb2)); (with_reducible assumption); rintro ⟨hk, hc, hf, hzc, hzf⟩) | ((with_reducible refine kp_in_first hb2 ?_); rintro ⟨hk, hc, hf, hzc, hzf⟩))
  clear hR hK hb2 hk hc hf hzc hzf
  go_loopw [8, 9] (fun v i wr => v = .slice none 0 0 ∧ i = (Value.int .i64 (0)) ∧ Below w.heap.size w wr) (fun _ _ _ => 0)
  case atStart => exact ⟨rfl, rfl, hbw⟩
  case round =>
    obtain ⟨rfl, rfl, hbr⟩ := hrel
    go_wp2
    go_ret2
    exact ⟨rfl, hbr⟩
theorem r5Rolls_any (A B : Option Addr) (ca cb : Nat) (T : Trk) (m : List Pt) (w : World) (ha : Pts w A T.pts) (hla : T.pts.length ≤ 1000000) (hb : Pts w B m) (hlb : m.length ≤ 1000000) :
    Calls Try.prog 36 #[(Value.agg #[.slice A T.pts.length ca, (Value.int .i64 (T.closed)), (Value.int .i64 (T.lo)), (Value.int .i64 (T.hi))]), .slice B m.length cb] w fun e w' => (∃ A' ca', e = .returned (.tuple #[.slice A' (rolV T m).length ca', (Value.int .i64 (opE T m))]) ∧ Ints w' A' (rolV T m)) ∧ Below w.heap.size w w' := by
  by_cases h : opE T m = 0
  · have hc : chkT T m = 0 := by
      have h' := h
      unfold opE at h'
      split at h'
      · assumption
      · exact h'
    obtain ⟨hT, hm⟩ := chk_zero_inv hc
    obtain ⟨b, o, rfl, hp⟩ := ha.at_ (k := 0) (by have := (trkB_bd hT).1; omega)
    obtain ⟨bm, om, rfl, hq⟩ := hb.at_ (k := 0) (by have := walkB_bd hm; omega)
    rw [rolV, if_pos h, h]
    exact (r5Rolls_ok b o ca bm om cb T m w hp hq hT hm h).mono fun e w' ⟨⟨v, e1, h1⟩, h2⟩ => by
      obtain ⟨_, A', ca', rfl, h3, _⟩ := own_ints h1
      exact ⟨⟨A', ca', e1, h3⟩, h2⟩
  · rw [rolV, if_neg h]
    exact (r5Rolls_no A B ca cb T m w ha hla hb hlb h).mono fun e w' ⟨h1, h2⟩ => ⟨⟨none, 0, h1, .inl rfl⟩, h2⟩
end Go.Proofs.Ytfgplmgkejeoiaa
