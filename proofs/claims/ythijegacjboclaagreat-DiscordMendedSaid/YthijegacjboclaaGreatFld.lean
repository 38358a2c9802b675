/- The method fields of discord's file finds all kinds of fields that begin with some corners, with a field for each. -/
import Derived.Test.YthijegacjboclaaGreatSto
import Derived.Test.YthijegacjboclaaGreatTwp
import Derived.Deep.LoopGhost
import Derived.Deep.DeepCutAuto
import Derived.StillTactics
import Derived.BigRegion
import Derived.IntWalk
import Derived.ArgAppend
import Derived.Laws.Tables
namespace Go.Proofs.YthijegacjboclaaGreat
open Go.RowKit Go.Maps
attribute [local go_sem] After.cell After.frozen AfterM.cell AfterM.frozen

theorem eqlP_some (ad : Addr) (n c : Nat) (w : World) : (binOp .eql 22 (.slice (some ad) n c) (.slice none 0 0)).run Tryz.prog w = .ok (.bool false) w := Lib.run_eql_slice_nil w _ _ _ _ _ _ _ undPts
theorem eqlP_none (n c : Nat) (w : World) : (binOp .eql 22 (.slice none n c) (.slice none 0 0)).run Tryz.prog w = .ok (.bool true) w := Lib.run_eql_slice_nil w _ _ _ _ _ _ _ undPts
attribute [local go_sem high] eqlP_some eqlP_none

set_option maxRecDepth 100000 in
set_option maxHeartbeats 1000000 in
theorem clone8 (b c : Nat) (l : List Pt) (w : World) (hp : Pts w (some ⟨b, 0, none⟩) l) (h0 : 0 < l.length) (hl : l.length ≤ 1000) :
    Calls Tryz.prog 95 #[.slice (some ⟨b, 0, none⟩) l.length c] w fun e w' => (∃ g cap, e = .returned (.slice (some ⟨g, 0, none⟩) l.length cap) ∧ PtsAt w' g 0 l ∧ w.heap.size ≤ g) ∧ Below w.heap.size w w' := by
  obtain ⟨ti, hi0, hz0, hz1, hz2⟩ := info_parts infoPt
  go_enter Tryz.func95, Tryz.ntmps95
  have ho := World.ownsRow_made (base := w.heap.size) (e := 98) (size := 2) w #[] 0 (Nat.le_refl _) (by decide) rfl
  go_wp2_with (at_builtin; refine wpList_append_own _ rfl (.tmp 5) (.tmp 6) 22 rfl w.heap.size 98 ti _ 2 16 undPts hi0 hz0 hz1 hz2 rfl (by decide) _ 0 [] rfl ho ⟨b, 0, none⟩ l.length c (ptsV l) rfl (ptsV_len l) (hp.alloc _).cellsV (ptsV_one l) (by unfold maxLen; omega) (by omega) (by simp) ?_)
  intro v' w1 hown hgrow _
  have hb : Below w.heap.size w w1 := bl_grown (by (repeat (first | with_reducible exact Below.refl _ _ | with_reducible apply bl_alloc | with_reducible apply bl_drew | with_reducible apply bl_after | (with_reducible refine bl_call ?_ (by assumption))))) ho hgrow
  (try rw [Nat.zero_add] at hown)
  have hfin : Hid (w1.ownsRow w.heap.size 98 2 v' l.length (ptsV l)) := Lib.hid (by simpa using hown)
  clear hown hgrow
  go_wp2
  go_ret
  have hO := hfin.out
  rcases hO.2 with ⟨_, h⟩ | ⟨g, cap, cur, rfl, hg, hr⟩
  · omega
  · exact ⟨⟨g, cap, rfl, ptsAt_own hO, hg⟩, hb⟩

/-- A point appended to a slice without room. -/
theorem app_full {ty : TypeId} (A1 : Option Addr) (l : List Pt) (p : Pt) (g : Nat) (W : World) (hP : Pts W A1 l) (hl : l.length ≤ 1000) (hg : Blk W g 98 #[(Value.int .i64 (p.1)), (Value.int .i64 (p.2))]) :
    ∃ g' cap w', (Builtin.append_ #[22, 22] ty #[.slice A1 l.length l.length, .slice (some ⟨g, 0, none⟩) 1 1]).run Tryz.prog W = .ok (.slice (some ⟨g', 0, none⟩) (l.length + 1) cap) w' ∧ PtsAt w' g' 0 (l ++ [p]) ∧ W.heap.size ≤ g' ∧ l.length + 1 ≤ cap ∧ W.grownBy w' none := by
  obtain ⟨ti, hi0, hz0, hz1, hz2⟩ := info_parts infoPt
  have hn : ∀ j u, [(Value.int .i64 (p.1)), (Value.int .i64 (p.2))][j]? = some u → W.cell? ((⟨g, 0, none⟩ : Addr).add j) = some u := fun j u hj => by
    rw [add_at, Nat.zero_add, hg.cell]
    simpa using hj
  have fin : ∀ v' w', w'.ownsRow W.heap.size 98 2 v' (l.length + 1) (ptsV l ++ [(Value.int .i64 (p.1)), (Value.int .i64 (p.2))]) → ∃ g' cap, v' = .slice (some ⟨g', 0, none⟩) (l.length + 1) cap ∧ PtsAt w' g' 0 (l ++ [p]) ∧ W.heap.size ≤ g' ∧ l.length + 1 ≤ cap := fun v' w' h => by
    have e : ptsV l ++ [(Value.int .i64 (p.1)), (Value.int .i64 (p.2))] = ptsV (l ++ [p]) := by rw [ptsV_append]; rfl
    rw [e] at h
    rcases h.2 with ⟨_, h0⟩ | ⟨g', cap, cur, rfl, hg', hr⟩
    · omega
    · exact ⟨g', cap, rfl, ptsAt_own h, hg', hr.2.1⟩
  cases A1 with
  | some ad =>
    obtain ⟨v', w', hrun, r1, r2⟩ := run_append_arg_grows (P := Tryz.prog) W 22 ty 98 ti _ 2 16 undPts hi0 hz0 hz1 hz2 rfl (by decide) ad l.length l.length (ptsV l) (ptsV_len l) hP.cellsV ⟨g, 0, none⟩ 1 1 [(Value.int .i64 (p.1)), (Value.int .i64 (p.2))] rfl hn (by omega) (by unfold maxLen; omega) (by omega)
    obtain ⟨g', cap, rfl, h1, h2, h3⟩ := fin v' w' r1
    exact ⟨g', cap, w', hrun, h1, h2, h3, r2⟩
  | none =>
    have h0 := hP.nil
    subst h0
    obtain ⟨v', w', hrun, r1, r2, _⟩ := run_append_own (P := Tryz.prog) W W.heap.size 22 ty 98 ti _ 2 16 undPts hi0 hz0 hz1 hz2 rfl (by decide) (.slice none 0 0) 0 [] (World.ownsRow_nil W _ _ 2) ⟨g, 0, none⟩ 1 1 [(Value.int .i64 (p.1)), (Value.int .i64 (p.2))] rfl hn (fun u hu => by simp only [List.mem_cons, List.not_mem_nil, or_false] at hu; rcases hu with rfl | rfl <;> rfl) (by unfold maxLen; omega) (by omega) (Nat.le_refl _)
    obtain ⟨g', cap, rfl, h1, h2, h3⟩ := fin v' w' r1
    exact ⟨g', cap, w', hrun, h1, h2, h3, r2⟩

theorem app_full_wp {o : Oper} {a : Act} {K : Act → World → Prop} {Q : Exit → Act → World → Prop} (W : World) (s x : Operand) (ho : o.op = .call { callee := .builtin .append, args := #[s, x], argTypes := #[22, 22] })
    (A1 : Option Addr) (l : List Pt) (p : Pt) (g : Nat) (hs : a.eval s = .slice A1 l.length l.length) (hx : a.eval x = .slice (some ⟨g, 0, none⟩) 1 1) (hP : Pts W A1 l) (hl : l.length ≤ 1000) (hg : Blk W g 98 #[(Value.int .i64 (p.1)), (Value.int .i64 (p.2))])
    (h : ∀ g' cap w', PtsAt w' g' 0 (l ++ [p]) → W.heap.size ≤ g' → l.length + 1 ≤ cap → W.grownBy w' none → K (a.put o.dst (.slice (some ⟨g', 0, none⟩) (l.length + 1) cap)) w') : o.wp Tryz.prog a W K Q := by
  obtain ⟨g', cap, w', hrun, h1, h2, h3, h4⟩ := app_full (ty := o.type) A1 l p g W hP hl hg
  unfold Oper.wp
  simp [execOp, ho, resolve, invoke, builtin, hs, hx, hrun, Result.andThen]
  exact h g' cap w' h1 h2 h3 h4
section
variable {A B C : Option Addr} {ca cb cc : Nat} {D : Dsp} {gf st bm : Nat}
/-- Fields that begin with some corners. -/
def begF (D : Dsp) (l1 : List Pt) (k : Nat × Int) : Prop := ∃ l, fldP D l ∧ l1 <+: l ∧ k = kdOf D l
theorem begF_full {l1 : List Pt} (h : l1.length = D.cs.length) (k : Nat × Int) : begF D l1 k ↔ fldP D l1 ∧ k = kdOf D l1 := by
  constructor
  · rintro ⟨l, hl, hp, rfl⟩
    have e : l1 = l := hp.eq_of_length (by rw [h, hl.1])
    subst e
    exact ⟨hl, rfl⟩
  · rintro ⟨h1, rfl⟩
    exact ⟨l1, h1, List.prefix_refl _, rfl⟩
set_option maxRecDepth 100000 in
set_option maxHeartbeats 4000000 in
theorem fields_leaf (hD : DspOk D) (l1 : List Pt) (b1 c1 nn : Nat) (w : World) (F : DataW (Nat × Nat)) (S : Nat × Int → Prop) (hl : l1.length = D.cs.length) (hnear : ∀ i, i < l1.length → near D l1 i)
    (hE : EnvF A ca B cb C cc D gf st bm w) (hP : PtsX w 0 (some bm) (some ⟨b1, 0, none⟩) l1) (hF : Fnd D w bm nn F S) (hnn : nn ≤ 1000000000) :
    Calls Tryz.prog 66 #[.pointer (some ⟨gf, 0, none⟩), .map (some bm), .int .u64 ((msk (wcB D l1) l1.length : Nat) : Int), .slice (some ⟨b1, 0, none⟩) l1.length c1] w fun e w' => e = .returned (.tuple #[]) ∧ (∃ F' nn', nn' ≤ nn + 1 ∧ Fnd D w' bm nn' F' (fun k => S k ∨ begF D l1 k)) ∧ w.grownBy w' (some bm) := by
  have hn3 := hD.ok.1
  have h6 := hD.l6
  have hu0 := hD.u0
  have hTw := Lib.hid (Twice_pts (some ⟨b1, 0, none⟩) c1 l1 w hP.pts (by omega))
  have hf := hE.f
  have e25 : w.cell? ⟨gf, 0, none⟩ = some (.slice A D.cs.length ca) := hf.cell 0
  have hlt := hf.lt
  have e27 : w.cell? ⟨gf, 2, none⟩ = some (Value.int .i64 (D.unit)) := hf.cell 2
  have hu : (D.unit == 0) = false := by simp; omega
  by_cases hok : Ok l1
  · have hfld : fldP D l1 := ⟨hl, fun i hi => hnear i (by omega), hok⟩
    have htw := twd_bd hok
    have hTw := Twice_pts (some ⟨b1, 0, none⟩) c1 l1 w hP.pts (by omega)
    rw [okN, if_pos hok, chk_ok hok] at hTw
    replace hTw := Lib.hid hTw
    have har := arD_bd hD hok
    have hkl := kd_lt hD hok
    have e1 : kdV (kdOf D l1) = .agg #[.int .u64 ((msk (wcB D l1) l1.length : Nat) : Int), (Value.int .i64 ((max (tw l1) (-tw l1)).tdiv D.unit))] := by unfold kdV kdOf arD; rw [hl]
    have har2 : 0 ≤ (max (tw l1) (-tw l1)).tdiv D.unit ∧ (max (tw l1) (-tw l1)).tdiv D.unit ≤ 800000000000 := har
    replace e1 := Lib.hid e1
    have z1 := wrap64_in (x := -tw l1) (by omega) (by omega)
    have z2 := wrap64_in (x := (max (tw l1) (-tw l1)).tdiv D.unit) (by omega) (by omega)
    have HF := Lib.hid hF
    have HE := Lib.hid hE
    have HX := Lib.hid (And.intro hfld (And.intro hok hkl))
    have HP := Lib.hid hP
    have hlb : ((l1.length : Int) == (D.cs.length : Int)) = true := by simp [hl]
    replace hl := Lib.hid hl
    clear hfld hok har hkl hF hE hP hf hnear htw
    go_enter Tryz.func66, Tryz.ntmps66
    go_upto_region 4 with (go_at_call 94; (with_reducible refine Calls.mono (hTw.out) ?_); rintro e w1 ⟨rfl, hb1⟩; first | ((with_reducible apply kp_in_step (hb := hb1)); (with_reducible assumption); rintro ⟨hk, hc, hf, hzc, hzf⟩) | ((with_reducible refine kp_in_first hb1 ?_); rintro ⟨hk, hc, hf, hzc, hzf⟩))
    have hb2 : Below w.heap.size w (w1.alloc (.cells #[.int .u64 ((msk (wcB D l1) l1.length : Nat) : Int), (Value.int .i64 ((max (tw l1) (-tw l1)).tdiv D.unit))] 115)) := by (repeat (first | with_reducible exact Below.refl _ _ | with_reducible apply bl_alloc | with_reducible apply bl_drew | with_reducible apply bl_after | (with_reducible refine bl_call ?_ (by assumption))))
    have c11 := Blk.new w1 115 #[.int .u64 ((msk (wcB D l1) l1.length : Nat) : Int), (Value.int .i64 ((max (tw l1) (-tw l1)).tdiv D.unit))]
    have hF2 := HF.out.below hb2
    have hg1 : w.heap.size ≤ w1.heap.size := by
      have h : Below w.heap.size w w1 := by (repeat (first | with_reducible exact Below.refl _ _ | with_reducible apply bl_alloc | with_reducible apply bl_drew | with_reducible apply bl_after | (with_reducible refine bl_call ?_ (by assumption))))
      exact h.size
    have hbm := HF.out.own.lt
    have hne : w1.heap.size ≠ bm := by omega
    clear hb1 hbm hg1
    ((try clear hk hc hf hzc hzf); (try clear hk hc hf hzc hzf); (try clear hk hc hf hzc hzf); (try clear hk hc hf hzc hzf))
    generalize w1.alloc (.cells #[.int .u64 ((msk (wcB D l1) l1.length : Nat) : Int), (Value.int .i64 ((max (tw l1) (-tw l1)).tdiv D.unit))] 115) = W at *
    generalize w1.heap.size = g11 at *
    obtain ⟨hfld, hok, hkl⟩ := HX.out
    have hkey := kd_key hkl.1 hkl.2
    rcases fld_look hF2.own kdKeyed undKinds (zeroPts _) hkey with ⟨hh, hrun⟩ | ⟨bc, hh, hrun⟩
    · rw [e1.out] at hrun
      clear hkey hkl hok
      (have la := c11.lt); (have ya0 := c11.cell 0); (have ya1 := c11.cell 1); simp only [List.getElem?_toArray, List.getElem?_cons_zero, List.getElem?_cons_succ] at ya0 ya1
      have C11 := Lib.hid c11
      have HF2 := Lib.hid hF2
      have HH := Lib.hid hh
      clear c11 hF2 hh
      go_upto_region 5 with fail
      refine wp_region_CN (fun w' => ∃ z : AfterM W bm, w' = z.val) (by kernel_rfl) ?_
      change wpAnyC _ _ _ _ _ _ _ (World.drew W)
      have hd0 : Below W.heap.size W W.drew := bl_drew (Below.refl _ _)
      refine wpAnyC_take (i := 0) (v := ?v0u) rfl (by kernel_rfl) (by kernel_rfl) (by kernel_rfl) ?q0u rfl ?y0u ?r0u; (case q0u => exact fun _ _ _ h => h); (case y0u => ((rintro _ ⟨z, rfl⟩); (go_simp); (try with_reducible rfl))); simp only [Act.put, List.getElem_toArray, List.getElem_cons_succ, List.getElem_cons_zero, List.setIfInBounds_toArray, List.set_cons_succ, List.set_cons_zero]
      refine wpAnyC_take (i := 1) (v := ?v1u) rfl (by kernel_rfl) (by kernel_rfl) (by kernel_rfl) ?q1u rfl ?y1u ?r1u; (case q1u => exact fun _ _ _ h => h); (case y1u => ((rintro _ ⟨z, rfl⟩); (go_simp); (try with_reducible rfl))); simp only [Act.put, List.getElem_toArray, List.getElem_cons_succ, List.getElem_cons_zero, List.setIfInBounds_toArray, List.set_cons_succ, List.set_cons_zero]
      refine wpAnyC_take (i := 2) (v := ?v2u) rfl (by kernel_rfl) (by kernel_rfl) (by kernel_rfl) ?q2u rfl ?y2u ?r2u; (case q2u => exact fun _ _ _ h => h); (case y2u => ((rintro _ ⟨z, rfl⟩); (go_simp); (try with_reducible rfl))); simp only [Act.put, List.getElem_toArray, List.getElem_cons_succ, List.getElem_cons_zero, List.setIfInBounds_toArray, List.set_cons_succ, List.set_cons_zero]
      refine wpAnyC_one (i := 3) (by kernel_rfl) rfl ⟨⟨_, grown_below hd0⟩, rfl⟩ rfl (fun K hK => ?_)
      go_simp
      go_at_call 95
      (with_reducible refine Calls.mono (clone8 b1 c1 l1 _ ((HP.out.below hb2).below hd0).pts (by have := hl.out; omega) (by have := hl.out; omega)) ?_)
      rintro e2 w2 ⟨⟨g, cap, rfl, hp2, hg2⟩, hb3⟩
      refine hK _ _ ?_
      clear hK K
      have hd1 := hd0.trans (hb3.mono hd0.size)
      have hF3 := HF2.out.below hd1
      obtain ⟨hfld, hok, hkl⟩ := HX.out
      obtain ⟨w3, hrun3, hown3, hgr3⟩ := hF3.own.update kdKeyed undKinds (by unfold maxLen; omega) (kd_key hkl.1 hkl.2) (fldR_mk D.cs.length g cap)
      have hF4 := Lib.hid (hF3.put (S' := fun k => S k ∨ begF D l1 k) hD hfld hp2 (show g ≠ bm by have h1 := HF2.out.own.lt; have h2 := hd0.size; omega) hown3 hgr3 fun k => by
        rw [begF_full hl.out]
        exact ⟨fun h => h.imp id (fun h => h.2), fun h => h.imp id (fun h => ⟨hfld, h⟩)⟩)
      have hgF : w.grownBy w3 (some bm) := ((grown_below hb2).trans (grown_below hd1)).trans hgr3
      have hgC : W.grownBy w3 (some bm) := (grown_below hd1).trans hgr3
      rw [← hl.out, e1.out] at hrun3
      clear hF3 hown3 hgr3 hfld hok hkl hp2 hg2 hb3
      refine wpAnyC_one (i := 4) (by kernel_rfl) rfl ⟨⟨_, grown_below hd1⟩, rfl⟩ rfl (fun K hK => ?_)
      go_simp
      refine hK _ _ ?_
      clear hK K
      refine wpAnyC_doneN (by kernel_rfl) ⟨⟨_, hgC⟩, rfl⟩ ?_ _
      go_wp2
      (refine bodyPost_ret (results_none rfl _ _ _) rfl ?_)
      exact ⟨rfl, ⟨_, nn + 1, Nat.le_refl _, hF4.out⟩, hgF⟩
    · rw [e1.out] at hrun
      have hS := hF2.there hD hfld hh
      have HF2 := Lib.hid (show Fnd D W bm nn F (fun k => S k ∨ begF D l1 k) from hF2.congr fun k => ⟨fun h => h.elim id fun h => by obtain ⟨_, rfl⟩ := (begF_full hl.out k).1 h; exact hS, fun h => .inl h⟩)
      clear hkey hkl hok hh hS hF2 hfld
      (have la := c11.lt); (have ya0 := c11.cell 0); (have ya1 := c11.cell 1); simp only [List.getElem?_toArray, List.getElem?_cons_zero, List.getElem?_cons_succ] at ya0 ya1
      go_wp2
      (refine bodyPost_ret (results_none rfl _ _ _) rfl ?_)
      exact ⟨rfl, ⟨F, nn, by omega, HF2.out⟩, grown_below hb2⟩
  · have hTw := Twice_pts (some ⟨b1, 0, none⟩) c1 l1 w hP.pts (by omega)
    rw [okN, if_neg hok, chk_no hok] at hTw
    replace hTw := Lib.hid hTw
    have hFc : Fnd D w bm nn F (fun k => S k ∨ begF D l1 k) := hF.congr fun k => ⟨fun h => h.elim id fun h => absurd ((begF_full hl k).1 h).1.2.2 hok, fun h => .inl h⟩
    have HF := Lib.hid hFc
    have z0 : (max (0 : Int) (-0)).tdiv D.unit = 0 := by simp
    have hlb : ((l1.length : Int) == (D.cs.length : Int)) = true := by simp [hl]
    replace hl := Lib.hid hl
    clear hok hF hFc hE hP hf hnear
    go_enter Tryz.func66, Tryz.ntmps66
    go_wp2_with (go_at_call 94; (with_reducible refine Calls.mono (hTw.out) ?_); rintro e w1 ⟨rfl, hb1⟩; first | ((with_reducible apply kp_in_step (hb := hb1)); (with_reducible assumption); rintro ⟨hk, hc, hf, hzc, hzf⟩) | ((with_reducible refine kp_in_first hb1 ?_); rintro ⟨hk, hc, hf, hzc, hzf⟩))
    have hb2 : Below w.heap.size w (w1.alloc (.cells #[.int .u64 ((msk (wcB D l1) l1.length : Nat) : Int), (Value.int .i64 (0))] 115)) := by (repeat (first | with_reducible exact Below.refl _ _ | with_reducible apply bl_alloc | with_reducible apply bl_drew | with_reducible apply bl_after | (with_reducible refine bl_call ?_ (by assumption))))
    (refine bodyPost_ret (results_none rfl _ _ _) rfl ?_)
    exact ⟨rfl, ⟨F, nn, by omega, HF.out.below hb2⟩, grown_below hb2⟩
/-- Fields that begin with some corners, and whose next corner comes before a place. -/
def upF (D : Dsp) (l1 : List Pt) (x y : Int) (k : Nat × Int) : Prop := ∃ l, fldP D l ∧ l1 <+: l ∧ ((pat l l1.length).1 < x ∨ ((pat l l1.length).1 = x ∧ (pat l l1.length).2 < y)) ∧ k = kdOf D l
theorem prefix_snoc {l1 l : List Pt} {p : Pt} (h : l1 <+: l) (hl : l1.length < l.length) : l1 ++ [p] <+: l ↔ pat l l1.length = p := by
  obtain ⟨t, rfl⟩ := h
  cases t with
  | nil => simp at hl
  | cons a t =>
    have e : pat (l1 ++ a :: t) l1.length = a := by simp [pat]
    rw [e]
    constructor
    · rintro ⟨u, hu⟩
      rw [List.append_assoc] at hu
      have := List.append_cancel_left hu
      simp only [List.singleton_append, List.cons.injEq] at this
      exact this.1.symm
    · rintro rfl
      exact ⟨t, by simp⟩
theorem upF_next {l1 : List Pt} (hk : l1.length < D.cs.length) (x y : Int) (k : Nat × Int) : upF D l1 x (y + 1) k ↔ upF D l1 x y k ∨ begF D (l1 ++ [(x, y)]) k := by
  constructor
  · rintro ⟨l, hl, hp, h, rfl⟩
    by_cases e : (pat l l1.length).1 = x ∧ (pat l l1.length).2 = y
    · exact .inr ⟨l, hl, (prefix_snoc hp (by rw [hl.1]; exact hk)).2 (Prod.ext e.1 e.2), rfl⟩
    · exact .inl ⟨l, hl, hp, by omega, rfl⟩
  · rintro (⟨l, hl, hp, h, rfl⟩ | ⟨l, hl, hp, rfl⟩)
    · exact ⟨l, hl, hp, by omega, rfl⟩
    · have hp1 : l1 <+: l := (List.prefix_append _ _).trans hp
      have e := (prefix_snoc hp1 (by rw [hl.1]; exact hk)).1 hp
      exact ⟨l, hl, hp1, by rw [e]; exact .inr ⟨rfl, by show y < y + 1; omega⟩, rfl⟩
theorem upF_row {l1 : List Pt} (hk : l1.length < D.cs.length) {o : Int} (ho : oat D l1.length = o) (x : Int) (k : Nat × Int) : upF D l1 x ((pat D.cs l1.length).2 - o + (2 * o + 1)) k ↔ upF D l1 (x + 1) ((pat D.cs l1.length).2 - o) k := by
  constructor
  · rintro ⟨l, hl, hp, h, rfl⟩
    have hn := hl.2.1 _ hk
    unfold near at hn
    exact ⟨l, hl, hp, by omega, rfl⟩
  · rintro ⟨l, hl, hp, h, rfl⟩
    have hn := hl.2.1 _ hk
    unfold near at hn
    exact ⟨l, hl, hp, by omega, rfl⟩
theorem upF_start {l1 : List Pt} (hk : l1.length < D.cs.length) {o : Int} (ho : oat D l1.length = o) (k : Nat × Int) : ¬ upF D l1 ((pat D.cs l1.length).1 - o) ((pat D.cs l1.length).2 - o) k := by
  rintro ⟨l, hl, hp, h, rfl⟩
  have hn := hl.2.1 _ hk
  unfold near at hn
  omega
theorem upF_end {l1 : List Pt} (hk : l1.length < D.cs.length) {o : Int} (ho : oat D l1.length = o) (k : Nat × Int) : upF D l1 ((pat D.cs l1.length).1 - o + (2 * o + 1)) ((pat D.cs l1.length).2 - o) k ↔ begF D l1 k := by
  constructor
  · rintro ⟨l, hl, hp, h, rfl⟩
    exact ⟨l, hl, hp, rfl⟩
  · rintro ⟨l, hl, hp, rfl⟩
    have hn := hl.2.1 _ hk
    unfold near at hn
    exact ⟨l, hl, hp, by omega, rfl⟩
theorem near_snoc {l1 : List Pt} (h : ∀ i, i < l1.length → near D l1 i) {p : Pt} (hp : (pat D.cs l1.length).1 - oat D l1.length ≤ p.1 ∧ p.1 ≤ (pat D.cs l1.length).1 + oat D l1.length ∧ (pat D.cs l1.length).2 - oat D l1.length ≤ p.2 ∧ p.2 ≤ (pat D.cs l1.length).2 + oat D l1.length) :
    ∀ i, i < (l1 ++ [p]).length → near D (l1 ++ [p]) i := fun i hi => by
  rw [List.length_append, List.length_singleton] at hi
  by_cases e : i = l1.length
  · subst e
    unfold near
    rw [pat_last]
    exact hp
  · have := h i (by omega)
    unfold near at this ⊢
    rw [pat_app (by omega)]
    exact this
theorem run_neq_xy (x y z u : Int) (w : World) : (binOp .neq 98 (.agg #[(Value.int .i64 (x)), (Value.int .i64 (y))]) (.agg #[(Value.int .i64 (z)), (Value.int .i64 (u))])).run Tryz.prog w = .ok (.bool (!decide (((x, y) : Pt) = (z, u)))) w := run_neq_pt (x, y) (z, u) w
attribute [local go_sem high] run_neq_xy
end
end Go.Proofs.YthijegacjboclaaGreat
