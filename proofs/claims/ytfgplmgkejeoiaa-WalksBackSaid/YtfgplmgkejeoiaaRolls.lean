/- The function Rolls of walks answers the sweeps of all elbows, each once, in order, or the error of a track and a walk. -/
import Derived.Test.YtfgplmgkejeoiaaElbows
import Derived.Test.YtfgplmgkejeoiaaSorted
import Derived.Test.YtfgplmgkejeoiaaExam
import Derived.Lib.SmallJoins
namespace Go.Proofs.Ytfgplmgkejeoiaa
open Go.RowKit Go.Shelf
attribute [local go_sem] After.cell After.frozen Oper.semAt_some wide_fn wide_depth Fence.inRound_fn Fence.inRound_depth

theorem kf_grownM {B r : Nat} {W X Y : World} (h : KeepsFrom B W X) (hg : X.grownBy Y (some r)) (hr : r < B) : KeepsFrom B W Y :=
  ⟨Nat.le_trans h.size hg.size, fun k o hk ho hc => by
    have h1 := h.same k o hk ho hc
    exact (hg.block k (heap_lt h1) (by intro e; cases e; omega)).trans h1⟩
theorem cf_grown {B r : Nat} {W X Y : World} (h : CellsFrom B W X) (hg : X.grownBy Y (some r)) (hr : r < B) : CellsFrom B W Y :=
  ⟨Nat.le_trans h.size hg.size, fun k o hk ho hc => by
    have h1 := h.same k o hk ho hc
    exact (hg.block k (heap_lt h1) (by intro e; cases e; omega)).trans h1⟩
theorem blk_grown {r g : Nat} {X Y : World} {t : TypeId} {cs : Array Value} (h : Blk X g t cs) (hg : X.grownBy Y (some r)) (hr : g ≠ r) : Blk Y g t cs := (hg.block g h.lt (by intro e; cases e; exact hr rfl)).trans h
theorem wf64 (y : Int) : (Lit.int .i64 (wrap64 y)).wf = true := by
  simp [Lit.wf, wrap64, IntKind.min, IntKind.max, IntKind.signed, IntKind.bits]
  omega
def OwnM (W : World) (r k : Nat) (D : DataW Unit) : Prop := W.ownsMap Try.prog 3 (plainElem Try.prog 3) r k D
theorem OwnM.step {W W' : World} {r k B : Nat} {D : DataW Unit} (h : OwnM W r k D) (hs : Step B W W') (hr : r < B) : OwnM W' r k D := by
  obtain ⟨es, clock, hb, F, hz, hD⟩ := h
  exact ⟨es, clock, hs.same r _ hb (.inr hr), F, hz, hD⟩
theorem OwnM.below {W W' : World} {r k : Nat} {D : DataW Unit} (h : OwnM W r k D) (hb : Below W.heap.size W W') : OwnM W' r k D := by
  have hl := World.ownsMap.lt h
  obtain ⟨es, clock, hb0, F, hz, hD⟩ := h
  exact ⟨es, clock, (hb.block r hl).trans hb0, F, hz, hD⟩
theorem und_map : Try.prog.underlying 92 = some (.map 3 3) := by kernel_rfl
/-- The sweeps of the first k elbows. -/
def sws (T : Trk) (m : List Pt) (k : Nat) : List Int := ((elbs T m).take k).map (swp T m)
def rolS (T : Trk) (m : List Pt) : List Int := srt (sws T m (elbs T m).length)
def rolV (T : Trk) (m : List Pt) : List Int := if opE T m = 0 then rolS T m else []
theorem sws_succ {T : Trk} {m : List Pt} {k : Nat} {x : List Nat} (h : (elbs T m)[k]? = some x) : sws T m (k + 1) = sws T m k ++ [swp T m x] := by
  unfold sws
  rw [List.take_add_one, h]
  simp
/-- What the map holds after k elbows. -/
def RlAt (T : Trk) (m : List Pt) (r k : Nat) (W : World) : Prop := ∃ D : DataW Unit, OwnM W r k D ∧ ∀ x, Maps.has D (.int .i64 x) = decide (x ∈ sws T m k)
theorem swp_wf {T : Trk} {m : List Pt} {x : List Nat} (hT : trkB T = true) (hm : walkB m = true) (hx : x ∈ elbs T m) : (Lit.int .i64 (swp T m x)).wf = true := by
  have h1 := mem_elbs hx
  have htb := (trkB_bd hT).1
  have hmb := walkB_bd hm
  have h2 := swpTo_bd htb.2 hmb.2 h1.1 h1.2 x.length (Nat.le_refl _)
  have h3 : -9000000000 ≤ swp T m x ∧ swp T m x ≤ 9000000000 := by unfold swp; omega
  simp [Lit.wf, IntKind.min, IntKind.max, IntKind.bits, IntKind.signed]
  omega

set_option maxRecDepth 100000 in
set_option maxHeartbeats 4000000 in
theorem Rolls_ok (b o ca bm om cm : Nat) (T : Trk) (m : List Pt) (w : World) (hp : PtsAt w b o T.pts) (hq : PtsAt w bm om m) (hT : trkB T = true) (hm : walkB m = true) (h0 : opE T m = 0) :
    Calls Try.prog 35 #[(Value.agg #[.slice (some ⟨b, o, none⟩) T.pts.length ca, (Value.int .i64 (T.closed)), (Value.int .i64 (T.lo)), (Value.int .i64 (T.hi))]), .slice (some ⟨bm, om, none⟩) m.length cm] w fun e w' => (∃ A' ca', e = .returned (.tuple #[.slice A' (rolS T m).length ca', (Value.int .i64 (0))]) ∧ IntsN w.heap.size w' A' ca' (rolS T m)) ∧ Below w.heap.size w w' := by
  have hc := fun (W : World) (h : Below w.heap.size w W) => open_any (some ⟨b, o, none⟩) (some ⟨bm, om, none⟩) ca cm T m W (.inr ⟨b, o, rfl, hp.below h⟩) (by have := (trkB_bd hT).1; omega) (.inr ⟨bm, om, rfl, hq.below h⟩) (by have := walkB_bd hm; omega)
  rw [h0] at hc
  replace hc := Lib.hid hc
  clear h0
  have hmk := @run_makeMap Try.prog
  refine (callsIn_wide (n := 0)).1 ?_; refine callsIn_of_wp_marks Try.func35 rfl trivial ?_ rfl; simp only [Try.ntmps35, List.size_toArray, List.length_cons, List.length_nil, Nat.reduceAdd, Nat.reduceSub, Array.replicate_succ, Array.replicate_zero, List.push_toArray, List.append_toArray, List.nil_append, List.cons_append]
  gi_wp2_with (gi_at_call 71; (first | with_reducible refine CallsIn.mono (callsIn_wide.2 (hc.out _ (by (repeat (first | with_reducible exact Below.refl _ _ | with_reducible apply bl_alloc | with_reducible apply bl_drew | with_reducible apply bl_after | (with_reducible refine bl_call ?_ (by assumption))))))) ?_ | with_reducible refine CallsIn.mono (callsIn_rnd (hc.out _ (by (repeat (first | with_reducible exact Below.refl _ _ | with_reducible apply bl_alloc | with_reducible apply bl_drew | with_reducible apply bl_after | (with_reducible refine bl_call ?_ (by assumption))))))) ?_); rintro e w1 ⟨rfl, hb1⟩; first | ((with_reducible apply kp_in_step (hb := hb1)); (with_reducible assumption); rintro ⟨hk, hc, hf, hzc, hzf⟩) | ((with_reducible refine kp_in_first hb1 ?_); rintro ⟨hk, hc, hf, hzc, hzf⟩))
  have hbV : Below w.heap.size w w1 := by (repeat (first | with_reducible exact Below.refl _ _ | with_reducible apply bl_alloc | with_reducible apply bl_drew | with_reducible apply bl_after | (with_reducible refine bl_call ?_ (by assumption))))
  have c6 : Blk (((w1.alloc (.cells #[.slice (some ⟨b, o, none⟩) T.pts.length ca, (Value.int .i64 (T.closed)), (Value.int .i64 (T.lo)), (Value.int .i64 (T.hi)), .slice (some ⟨bm, om, none⟩) m.length cm] 72)).alloc (.map #[] 0)).alloc (.cells #[.map (some (w1.heap.size + 1))] 92)) w1.heap.size 72 #[.slice (some ⟨b, o, none⟩) T.pts.length ca, (Value.int .i64 (T.closed)), (Value.int .i64 (T.lo)), (Value.int .i64 (T.hi)), .slice (some ⟨bm, om, none⟩) m.length cm] := ((Blk.new _ _ _).alloc _).alloc _
  have c8 : Blk (((w1.alloc (.cells #[.slice (some ⟨b, o, none⟩) T.pts.length ca, (Value.int .i64 (T.closed)), (Value.int .i64 (T.lo)), (Value.int .i64 (T.hi)), .slice (some ⟨bm, om, none⟩) m.length cm] 72)).alloc (.map #[] 0)).alloc (.cells #[.map (some (w1.heap.size + 1))] 92)) (w1.heap.size + 1 + 1) 92 #[.map (some (w1.heap.size + 1))] := Blk.new_at (by simp)
  have hM0 : OwnM (((w1.alloc (.cells #[.slice (some ⟨b, o, none⟩) T.pts.length ca, (Value.int .i64 (T.closed)), (Value.int .i64 (T.lo)), (Value.int .i64 (T.hi)), .slice (some ⟨bm, om, none⟩) m.length cm] 72)).alloc (.map #[] 0)).alloc (.cells #[.map (some (w1.heap.size + 1))] 92)) (w1.heap.size + 1) 0 (.map []) := by
    have h := (World.ownsMap_made (H := Unit) (w1.alloc (.cells #[.slice (some ⟨b, o, none⟩) T.pts.length ca, (Value.int .i64 (T.closed)), (Value.int .i64 (T.lo)), (Value.int .i64 (T.hi)), .slice (some ⟨bm, om, none⟩) m.length cm] 72)) Try.prog 3 (plainElem Try.prog 3)).alloc (.cells #[.map (some (w1.heap.size + 1))] 92)
    rw [World.size_alloc] at h
    exact h
  have hbW := bl_alloc (o := .cells #[.map (some (w1.heap.size + 1))] 92) (bl_alloc (o := .map #[] 0) (bl_alloc (o := .cells #[.slice (some ⟨b, o, none⟩) T.pts.length ca, (Value.int .i64 (T.closed)), (Value.int .i64 (T.lo)), (Value.int .i64 (T.hi)), .slice (some ⟨bm, om, none⟩) m.length cm] 72) hbV))
  have hg6 : w.heap.size ≤ w1.heap.size := hbV.size
  have hgr : w.heap.size ≤ w1.heap.size + 1 := by omega
  have hg8 : w.heap.size ≤ w1.heap.size + 1 + 1 := by omega
  have d6r : w1.heap.size ≠ w1.heap.size + 1 := by omega
  have d8r : w1.heap.size + 1 + 1 ≠ w1.heap.size + 1 := by omega
  have hsz : (((w1.alloc (.cells #[.slice (some ⟨b, o, none⟩) T.pts.length ca, (Value.int .i64 (T.closed)), (Value.int .i64 (T.lo)), (Value.int .i64 (T.hi)), .slice (some ⟨bm, om, none⟩) m.length cm] 72)).alloc (.map #[] 0)).alloc (.cells #[.map (some (w1.heap.size + 1))] 92)).heap.size = w1.heap.size + 1 + 1 + 1 := by simp
  have hrB : w1.heap.size + 1 < (((w1.alloc (.cells #[.slice (some ⟨b, o, none⟩) T.pts.length ca, (Value.int .i64 (T.closed)), (Value.int .i64 (T.lo)), (Value.int .i64 (T.hi)), .slice (some ⟨bm, om, none⟩) m.length cm] 72)).alloc (.map #[] 0)).alloc (.cells #[.map (some (w1.heap.size + 1))] 92)).heap.size := by omega
  clear hc hbV hb1 hk hf hzc hzf hsz
  clear hc
  generalize (((w1.alloc (.cells #[.slice (some ⟨b, o, none⟩) T.pts.length ca, (Value.int .i64 (T.closed)), (Value.int .i64 (T.lo)), (Value.int .i64 (T.hi)), .slice (some ⟨bm, om, none⟩) m.length cm] 72)).alloc (.map #[] 0)).alloc (.cells #[.map (some (w1.heap.size + 1))] 92)) = W1 at c6 c8 hM0 hbW hrB ⊢
  generalize w1.heap.size + 1 + 1 = g8 at c8 hg8 d8r ⊢
  generalize w1.heap.size + 1 = r at c8 hM0 hgr d6r d8r hrB ⊢
  generalize w1.heap.size = g6 at c6 hg6 d6r ⊢
  have hlen := elbs_len hT hm
  refine range_f (gf := 72) (pre := #[(Value.agg #[.slice (some ⟨b, o, none⟩) T.pts.length ca, (Value.int .i64 (T.closed)), (Value.int .i64 (T.lo)), (Value.int .i64 (T.hi)), .slice (some ⟨bm, om, none⟩) m.length cm])]) (lb := #[]) rfl (enters_of Try.func72 (by kernel_rfl) rfl) (elbows_iter b o ca bm om cm T m hT hm) (fun x args W h => by obtain ⟨A, ca, rfl, _⟩ := h; rfl)
    (fun k W => RlAt T m r k W ∧ Blk W g6 72 #[.slice (some ⟨b, o, none⟩) T.pts.length ca, (Value.int .i64 (T.closed)), (Value.int .i64 (T.lo)), (Value.int .i64 (T.hi)), .slice (some ⟨bm, om, none⟩) m.length cm] ∧ Blk W g8 92 #[.map (some r)] ∧ Below w.heap.size w W)
    (fun _ _ => False)
    (fun k W W' h hs => ⟨by obtain ⟨D, h1, h2⟩ := h.1; exact ⟨D, h1.step hs hrB, h2⟩, hs.blk h.2.1, hs.blk h.2.2.1, hs.below h.2.2.2 hbW.size⟩)
    (fun _ _ _ h _ => h)
    (fun k W h => ⟨hp.below h.2.2.2, hq.below h.2.2.2⟩)
    ⟨⟨.map [], hM0, fun x => by simp [sws, Maps.has_eq]⟩, c6, c8, hbW⟩ ?round ?done (fun _ _ _ _ h _ => h.elim)
  case round =>
    rintro lp k x args W hx ⟨A', ca', rfl, hI⟩ hle ⟨r0, hr⟩ ⟨hL, e6, e8, hbk⟩
    gi_wp2
    refine ⟨KeepsFrom.refl _ _, CellsFrom.refl _ _, fun r1 r2 hr1 => ?_⟩
    have st := Step.put (o' := .loop r2) hr1 rfl hle
    obtain ⟨D, hM, hD⟩ := hL
    replace hM := hM.step st hrB
    replace e6 := st.blk e6
    replace e8 := st.blk e8
    replace hbk := st.below hbk hbW.size
    replace hI := hI.step st
    obtain ⟨hxl, hxn⟩ := mem_elbs (List.mem_of_getElem? hx)
    have hkl : k < (elbs T m).length := (List.getElem?_eq_some_iff.1 hx).1
    obtain ⟨bx, ox, rfl, hIx⟩ := hI.at_ (k := 0) (by rw [ints_len]; have := walkB_bd hm; omega)
    have hSs := Lib.hid (sws_succ (T := T) (m := m) hx)
    have hwf := swp_wf hT hm (List.mem_of_getElem? hx)
    generalize W.putObj lp (.loop r2) = W2 at hM e6 e8 hbk hIx ⊢
    have hS := Lib.hid fun (V : World) (h : Below W2.heap.size W2 V) => sweep_any b o ca bm om cm bx ox ca' T m x V ((hp.below hbk).below h) ((hq.below hbk).below h) (hIx.below h) hT hm hxl hxn
    have hkey := Maps.keyOf_int_mk (P := Try.prog) Try.underlying3 hwf
    obtain ⟨c, _, hc1, hc2⟩ := World.ownsMap.lookup_int hM (Maps.int_keyed Try.underlying3) und_map Try.underlying3 (by kernel_rfl) hkey
    have hlk : ∀ z : After W2, (Instr.lookup 92 (.map (some r)) (Value.int .i64 (swp T m x)) false).run Try.prog z.val = .ok (Value.int .i64 (c)) z.val := fun z => by
      obtain ⟨c', h1, h2, _⟩ := World.ownsMap.lookup_int (hM.below z.ok) (Maps.int_keyed Try.underlying3) und_map Try.underlying3 (by kernel_rfl) hkey
      rw [hc1] at h2
      cases h2
      exact h1
    clear st hr1 hx hr hI hxl hxn hIx
    have l6 := e6.lt
    have l8 := e8.lt
    have y0 := e6.cell 0
    have y1 := e6.cell 1
    have y2 := e6.cell 2
    have y3 := e6.cell 3
    have y4 := e6.cell 4
    have y8 := e8.cell 0
    simp only [List.getElem?_toArray, List.getElem?_cons_zero, List.getElem?_cons_succ] at y0 y1 y2 y3 y4 y8
    gi_wp2
    (first | refine wpIn_tail_w 6 (by kernel_rfl) (by kernel_rfl) (by kernel_rfl) ?_ | refine wpIn_tail_r 6 (by kernel_rfl) (by kernel_rfl) (by kernel_rfl) ?_); simp only [List.take_succ_cons, List.take_zero, List.drop_succ_cons, List.drop_zero]; (repeat (go_big_quiet_step (((go_at_call 54; with_reducible exact calls_after (hS.out _ (by (repeat (first | with_reducible assumption | with_reducible exact Below.refl _ _ | with_reducible apply bl_alloc | with_reducible apply bl_drew | with_reducible apply bl_after | (with_reducible refine bl_call ?_ (by assumption)) | (with_reducible refine bl_setc ?_ (by omega))))))))))); refine wpQuiet_nil ?_; rintro _ ⟨z, rfl⟩; (first | ((with_reducible apply kp_in_after (z := z)); (with_reducible assumption); rintro ⟨hk, hc, hf, hzc, hzf⟩) | ((with_reducible refine kp_in_after0 z ?_); rintro ⟨hk, hc, hf, hzc, hzf⟩))
    have hrs : r ≠ g6 ∧ r ≠ g8 := ⟨fun h => d6r h.symm, fun h => d8r h.symm⟩
    obtain ⟨W5, hrun, hM5, hg5⟩ := World.ownsMap.update (hM.below z.ok) (Maps.int_keyed Try.underlying3) und_map (Nat.lt_of_lt_of_le (show k < 16777217 by omega) (by decide)) hkey (plainElem_int (a := wrap64 (c + 1)) Try.underlying3 (wf64 (c + 1)))
    have hfin : Hid (∀ x', Maps.has (D.put (.int .i64 (swp T m x)) (.lit (.int .i64 (wrap64 (c + 1))))) (.int .i64 x') = decide (x' ∈ sws T m (k + 1))) := Lib.hid fun x' => by
      rw [hSs.out]
      by_cases hxx : x' = swp T m x
      · subst hxx
        rw [Maps.has_put_same (World.ownsMap.isMap hM) (show WideAt.IsKeyLit (.int .i64 (swp T m x)) from trivial)]
        simp
      · rw [Maps.has_put_other (by intro h; cases h; exact hxx rfl), hD x']
        simp [hxx]
    have HM5 := Lib.hid hM5
    have e6' := blk_grown (e6.below z.ok) hg5 hrs.1.symm
    have e8' := blk_grown (e8.below z.ok) hg5 hrs.2.symm
    have hb5 : Below w.heap.size w W5 := (bl_after z hbk).grown hg5 (bl_after z hbk).size (fun j hj => by cases hj; exact hgr)
    have hk5 : KeepsFrom W1.heap.size W2 W5 := kf_grownM (kf_after z (KeepsFrom.refl _ _)) hg5 hrB
    have hc5 : CellsFrom W1.heap.size W2 W5 := cf_grown (cf_after z (CellsFrom.refl _ _)) hg5 hrB
    clear hM5 hg5 hD hM hS hlk hkey
    gi_wp2
    exact ⟨hk5, hc5, ⟨_, HM5.out, hfin.out⟩, e6', e8', hb5⟩
  case done =>
    rintro Dd W hDd ⟨⟨D, hM, hD⟩, e6, e8, hbk⟩ hK
    have l8 := e8.lt
    have y8 := e8.cell 0
    simp only [List.getElem?_toArray, List.getElem?_cons_zero] at y8
    have hsl := World.ownsMap.size_le hM
    have hmax : Maps.size D ≤ maxLen := Nat.le_trans (show Maps.size D ≤ 16777216 by omega) (by decide)
    have hS := Lib.hid (sorted_any r (elbs T m).length D (plainElem Try.prog 3) W hM hmax (by omega))
    have hKS := Lib.hid fun (ss : List Int) (h : ss.Perm (intKeys D)) => keys_srt hM hD h
    clear hM hD hmax
    gi_wp2_with (first | ((gi_at_call 75); (with_reducible refine CallsIn.mono (callsIn_wide.2 (keys_any _ _)) ?_); rintro e w' ⟨rfl, rfl⟩) | ((gi_at_call 74); (with_reducible refine CallsIn.mono (callsIn_wide.2 hS.out) ?_); rintro e w5 ⟨v, ss, rfl, hpm, hrow, hnil, hb5⟩))
    have hK2 : (W.alloc (.cells #[.map (some r)] 92)).heap[Dd]? = some (.deferred (some [])) := (Below.heap_alloc _ _ Dd (heap_lt hK)).trans hK
    have hK5 : w5.heap[Dd]? = some (.deferred (some [])) := (hb5.block Dd (heap_lt hK2)).trans hK2
    have hbw5 : Below w.heap.size w w5 := bl_call (bl_alloc hbk) hb5
    have hs := hKS.out ss hpm
    have hl : (rolS T m).length = ss.length := by
      unfold rolS sws
      have h9 := hs
      unfold sws at h9
      rw [← h9, List.length_mergeSort]
    have hrow2 : w5.ownsRow w.heap.size 3 1 v (rolS T m).length (intsV (rolS T m)) := by
      rw [hl]
      have h1 := Joins.ownsRow_le hrow (show w.heap.size ≤ _ from (bl_alloc hbk).size)
      rw [hs] at h1
      exact h1
    obtain ⟨A5, ca5, rfl, hN5⟩ := intsN_own hrow2 (fun h => hnil.2 (by
      rw [h] at hl
      exact List.eq_nil_of_length_eq_zero hl.symm))
    have st := Step.put (B := W1.heap.size) (o' := .deferred none) hK5 rfl hDd
    refine ⟨by simp, .inl ⟨_, _, rfl, run_takeDeferred hK5, ?_⟩⟩
    exact ⟨.tuple #[.slice A5 (rolS T m).length ca5, (Value.int .i64 (0))], by simp [results, Try.results35, go_sem], ⟨⟨_, _, rfl, hN5.step st⟩, bl_put hbw5 hK5 (by have := hbW.size; omega)⟩⟩
theorem Rolls_no (A B : Option Addr) (ca cb : Nat) (T : Trk) (m : List Pt) (w : World) (ha : Pts w A T.pts) (hla : T.pts.length ≤ 1000000) (hb : Pts w B m) (hlb : m.length ≤ 1000000) (hne : opE T m ≠ 0) :
    Calls Try.prog 35 #[(Value.agg #[.slice A T.pts.length ca, (Value.int .i64 (T.closed)), (Value.int .i64 (T.lo)), (Value.int .i64 (T.hi))]), .slice B m.length cb] w fun e w' => e = .returned (.tuple #[.slice none 0 0, (Value.int .i64 (opE T m))]) ∧ Below w.heap.size w w' := by
  have hc := Lib.hid fun (W : World) (h : Below w.heap.size w W) => open_any A B ca cb T m W (ha.below h) hla (hb.below h) hlb
  have h0 : (opE T m != 0) = true := by rw [bne_iff_ne]; exact hne
  clear hne ha hb
  go_enter Try.func35, Try.ntmps35
  go_wp2_with (go_at_call 71; with_reducible refine Calls.mono (hc.out _ (by (repeat (first | with_reducible exact Below.refl _ _ | with_reducible apply bl_alloc | with_reducible apply bl_drew | with_reducible apply bl_after | (with_reducible refine bl_call ?_ (by assumption)))))) ?_; rintro e w1 ⟨rfl, hb1⟩; first | ((with_reducible apply kp_in_step (hb := hb1)); (with_reducible assumption); rintro ⟨hk, hc, hf, hzc, hzf⟩) | ((with_reducible refine kp_in_first hb1 ?_); rintro ⟨hk, hc, hf, hzc, hzf⟩))
  refine bodyPost_ret (v := .tuple #[.slice none 0 0, (Value.int .i64 (opE T m))]) (by simp [results, Try.results35, go_sem]) rfl ⟨rfl, by (repeat (first | with_reducible exact Below.refl _ _ | with_reducible apply bl_alloc | with_reducible apply bl_drew | with_reducible apply bl_after | (with_reducible refine bl_call ?_ (by assumption))))⟩
theorem Rolls_any (A B : Option Addr) (ca cb : Nat) (T : Trk) (m : List Pt) (w : World) (ha : Pts w A T.pts) (hla : T.pts.length ≤ 1000000) (hb : Pts w B m) (hlb : m.length ≤ 1000000) :
    Calls Try.prog 35 #[(Value.agg #[.slice A T.pts.length ca, (Value.int .i64 (T.closed)), (Value.int .i64 (T.lo)), (Value.int .i64 (T.hi))]), .slice B m.length cb] w fun e w' => (∃ A' ca', e = .returned (.tuple #[.slice A' (rolV T m).length ca', (Value.int .i64 (opE T m))]) ∧ IntsN w.heap.size w' A' ca' (rolV T m)) ∧ Below w.heap.size w w' := by
  by_cases h : opE T m = 0
  · have hc : chkT T m = 0 := by
      have h' := h
      unfold opE at h'
      split at h'
      · assumption
      · exact h'
    obtain ⟨hT, hm⟩ := chk_zero_inv hc
    obtain ⟨b, o, rfl, hp⟩ := ha.at_ (k := 0) (by have := (trkB_bd hT).1; omega)
    obtain ⟨bm, om, rfl, hq⟩ := hb.at_ (k := 0) (by have := walkB_bd hm; omega)
    rw [rolV, if_pos h, h]
    exact Rolls_ok b o ca bm om cb T m w hp hq hT hm h
  · rw [rolV, if_neg h]
    exact (Rolls_no A B ca cb T m w ha hla hb hlb h).mono fun e w' ⟨h1, h2⟩ => ⟨⟨none, 0, h1, intsN_nil _ _⟩, h2⟩
end Go.Proofs.Ytfgplmgkejeoiaa
