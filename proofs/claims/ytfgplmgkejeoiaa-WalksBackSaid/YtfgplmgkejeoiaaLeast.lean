/- The functions least and Least of walks: elbows with the fewest moves, and how many these are. -/
import Derived.Test.YtfgplmgkejeoiaaTold5
import Derived.Lib.SliceRun
namespace Go.Proofs.Ytfgplmgkejeoiaa
open Go.RowKit Go.Shelf
attribute [local go_sem] After.cell After.frozen Oper.semAt_some wide_fn wide_depth Fence.inRound_fn Fence.inRound_depth

theorem cell_cells {W : World} {b o : Nat} {v : Value} (h : W.cell? ⟨b, o, none⟩ = some v) : ∃ ob, W.heap[b]? = some ob ∧ ob.isCells = true := by
  cases hb : W.heap[b]? with
  | none => simp [World.cell?, hb] at h
  | some ob => refine ⟨ob, rfl, ?_⟩; cases ob <;> simp_all [World.cell?, Obj.isCells]
theorem Ints.step {B : Nat} {W W' : World} {A : Option Addr} {l : List Int} (h : Ints W A l) (hs : Step B W W') : Ints W' A l := by
  rcases h with h | ⟨b, o, rfl, hI⟩
  · exact .inl h
  · refine .inr ⟨b, o, rfl, Nat.lt_of_lt_of_le hI.lt hs.size, fun i n hi => ?_⟩
    obtain ⟨ob, h1, h2⟩ := cell_cells (hI.x i n hi)
    exact (World.cell?_of_block ((hs.same b ob h1 (.inl h2)).trans h1.symm)).trans (hI.x i n hi)
theorem IntsN.step {B C : Nat} {W W' : World} {A : Option Addr} {ca : Nat} {l : List Int} (h : IntsN C W A ca l) (hs : Step B W W') : IntsN C W' A ca l :=
  ⟨h.ints.step hs, h.nil, h.none_, fun a e => by obtain ⟨h1, ob, h2, h3⟩ := h.own a e; exact ⟨h1, ob, hs.same _ _ h2 (.inl h3), h3⟩⟩
theorem IntsN.far {C : Nat} {W : World} {A : Option Addr} {ca : Nat} {l : List Int} (h : IntsN C W A ca l) {p : Addr} (hp : p.block < C) (v : Value) : IntsN C (W.setCell p v) A ca l := by
  refine ⟨?_, h.nil, h.none_, fun a e => ?_⟩
  · rcases h.ints with h0 | ⟨b, o, rfl, hI⟩
    · exact .inl h0
    · have h1 := (h.own _ rfl).1
      exact .inr ⟨b, o, rfl, by simpa using hI.lt, fun i n hi => (World.cell?_of_block (Below.heap_setCell W p v b (by simp at h1; omega))).trans (hI.x i n hi)⟩
  · obtain ⟨h1, ob, h2, h3⟩ := h.own a e
    exact ⟨h1, ob, (Below.heap_setCell W p v _ (by omega)).trans h2, h3⟩

theorem eql_nil_some (b o n c : Nat) (w : World) : (binOp .eql 37 (.slice (some ⟨b, o, none⟩) n c) (.slice none 0 0)).run Try.prog w = .ok (.bool false) w := Lib.run_eql_slice_nil w _ _ _ _ _ _ _ undInts
theorem eql_nil_none (w : World) : (binOp .eql 37 (.slice none 0 0) (.slice none 0 0)).run Try.prog w = .ok (.bool true) w := Lib.run_eql_slice_nil w _ _ _ _ _ _ _ undInts
attribute [local go_sem high] eql_nil_some eql_nil_none

set_option maxRecDepth 100000 in
set_option maxHeartbeats 1000000 in
theorem Clone_any (b o ca : Nat) (l : List Int) (w : World) (hI : IntsAt w b o l) (hpos : 0 < l.length) (hl : l.length ≤ 1000) :
    Calls Try.prog 97 #[.slice (some ⟨b, o, none⟩) l.length ca] w fun e w' => (∃ g ca', e = .returned (.slice (some ⟨g, 0, none⟩) l.length ca') ∧ IntsN w.heap.size w' (some ⟨g, 0, none⟩) ca' l) ∧ Below w.heap.size w w' := by
  obtain ⟨i0, hi, hz0, hz1, hz2⟩ := info_parts infoInt
  have hN : Ints w (some ⟨b, o, none⟩) l := .inr ⟨b, o, rfl, hI⟩
  clear hI
  go_enter Try.func97, Try.ntmps97
  have ho := World.ownsRow_made (base := w.heap.size) (e := 3) (size := 1) w #[] 0 (Nat.le_refl _) (by decide) rfl
  go_wp2_with (at_builtin; refine wpList_append_own _ rfl (.tmp 5) (.tmp 6) 37 rfl w.heap.size 3 i0 _ 1 8 undInts hi hz0 hz1 hz2 rfl (by decide) _ 0 [] rfl ho ⟨b, o, none⟩ l.length ca (intsV l) rfl (intsV_len l) (hN.alloc _).cellsV (intsV_one l) (by unfold maxLen; omega) (by omega) (by simp) ?_)
  intro v' w1 hown hgrow _
  have hb : Below w.heap.size w w1 := bl_grown (by (repeat (first | with_reducible exact Below.refl _ _ | with_reducible apply bl_alloc | with_reducible apply bl_drew | with_reducible apply bl_after | (with_reducible refine bl_call ?_ (by assumption))))) ho hgrow
  have hO := hown
  obtain ⟨g, cap, rfl, hg1, hg2⟩ := hown.form (by omega)
  (try rw [Nat.zero_add] at hO)
  have hfin : Hid (IntsN w.heap.size w1 (some ⟨g, 0, none⟩) cap l) := Lib.hid ⟨.inr ⟨g, 0, rfl, intsAt_own hO⟩, (fun e => by rw [e] at hpos; simp at hpos), (fun e => by cases e), ownA_row hO⟩
  clear hO hown hgrow
  (try rw [Nat.zero_add])
  go_wp2
  go_ret
  exact ⟨⟨g, cap, rfl, hfin.out⟩, hb⟩

theorem mem_allR {T : Trk} {m : List Pt} : ∀ (r : Nat) (first x : List Nat), (∀ q ∈ first, q < T.pts.length) → x ∈ allR T m r first → x.length = first.length + r ∧ ∀ q ∈ x, q < T.pts.length
  | 0, first, x, h, hx => by
    rw [allR] at hx
    split at hx
    · rw [List.mem_singleton] at hx; subst hx; exact ⟨rfl, h⟩
    · cases hx
  | r + 1, first, x, h, hx => by
    rw [allR, List.mem_flatMap] at hx
    obtain ⟨q, hq, hx⟩ := hx
    split at hx
    · have h2 := mem_allR r (first ++ [q]) x (fun p hp => by
        rcases List.mem_append.1 hp with h3 | h3
        · exact h p h3
        · rw [List.mem_singleton.1 h3]; exact plcN_lt hq) hx
      rw [List.length_append, List.length_singleton] at h2
      exact ⟨by omega, h2.2⟩
    · cases hx
theorem mem_elbs {T : Trk} {m : List Pt} {x : List Nat} (h : x ∈ elbs T m) : x.length = m.length ∧ ∀ i, i < x.length → nat x i < T.pts.length := by
  have h1 := mem_allR m.length [] x (fun q hq => by cases hq) h
  exact ⟨by simpa using h1.1, fun i hi => h1.2 _ (nat_mem hi)⟩

/-- The better one of two elbows, the first one if none is better. -/
def bst (T : Trk) (o : Option (List Nat)) (x : List Nat) : Option (List Nat) := match o with | none => some x | some b => if mvV T x < mvV T b then some x else some b
def best (T : Trk) (xs : List (List Nat)) (k : Nat) : Option (List Nat) := (xs.take k).foldl (bst T) none
theorem best_zero (T : Trk) (xs : List (List Nat)) : best T xs 0 = none := rfl
theorem best_succ {T : Trk} {xs : List (List Nat)} {k : Nat} {x : List Nat} (h : xs[k]? = some x) : best T xs (k + 1) = bst T (best T xs k) x := by
  unfold best
  rw [List.take_add_one, h, List.foldl_append]
  rfl
def lsO (T : Trk) (m : List Pt) : Option (List Nat) := best T (elbs T m) (elbs T m).length
def lsB (T : Trk) (m : List Pt) : List Nat := (lsO T m).getD []
def lsV (T : Trk) (m : List Pt) : Int := mvV T (lsB T m)

/-- What the two variables hold after k elbows. -/
def LsAt (T : Trk) (m : List Pt) (B g9 g10 k : Nat) (W : World) : Prop :=
  (k = 0 ∧ Blk W g9 37 #[.slice none 0 0] ∧ Blk W g10 3 #[(Value.int .i64 (0))]) ∨
  ∃ (ns : List Nat) (g ca : Nat), best T (elbs T m) k = some ns ∧ ns ∈ elbs T m ∧ Blk W g9 37 #[.slice (some ⟨g, 0, none⟩) ns.length ca] ∧ Blk W g10 3 #[(Value.int .i64 (mvV T ns))] ∧ IntsN B W (some ⟨g, 0, none⟩) ca (ints ns)
theorem LsAt.step {T : Trk} {m : List Pt} {B g9 g10 k C : Nat} {W W' : World} (h : LsAt T m B g9 g10 k W) (hs : Step C W W') : LsAt T m B g9 g10 k W' := by
  rcases h with ⟨h1, h2, h3⟩ | ⟨ns, g, ca, h1, h2, h3, h4, h5⟩
  · exact .inl ⟨h1, hs.blk h2, hs.blk h3⟩
  · exact .inr ⟨ns, g, ca, h1, h2, hs.blk h3, hs.blk h4, h5.step hs⟩

set_option maxRecDepth 100000 in
set_option maxHeartbeats 4000000 in
theorem least_ok (b o ca bm om cm : Nat) (T : Trk) (m : List Pt) (w : World) (hp : PtsAt w b o T.pts) (hq : PtsAt w bm om m) (hT : trkB T = true) (hm : walkB m = true) (h0 : opE T m = 0) :
    Calls Try.prog 76 #[(Value.agg #[.slice (some ⟨b, o, none⟩) T.pts.length ca, (Value.int .i64 (T.closed)), (Value.int .i64 (T.lo)), (Value.int .i64 (T.hi))]), .slice (some ⟨bm, om, none⟩) m.length cm] w fun e w' => (∃ A' ca', e = .returned (.tuple #[.slice A' (lsB T m).length ca', (Value.int .i64 (lsV T m)), (Value.int .i64 (0))]) ∧ IntsN w.heap.size w' A' ca' (ints (lsB T m))) ∧ Below w.heap.size w w' := by
  have hne : Hid (elbs T m ≠ []) := Lib.hid fun he => by
    unfold opE at h0
    rw [if_pos (chk_zero hT hm), elbE, if_pos he] at h0
    omega
  have hc := fun (W : World) (h : Below w.heap.size w W) => open_any (some ⟨b, o, none⟩) (some ⟨bm, om, none⟩) ca cm T m W (.inr ⟨b, o, rfl, hp.below h⟩) (by have := (trkB_bd hT).1; omega) (.inr ⟨bm, om, rfl, hq.below h⟩) (by have := walkB_bd hm; omega)
  rw [h0] at hc
  replace hc := Lib.hid hc
  clear h0
  refine (callsIn_wide (n := 0)).1 ?_; refine callsIn_of_wp_marks Try.func76 rfl trivial ?_ rfl; simp only [Try.ntmps76, List.size_toArray, List.length_cons, List.length_nil, Nat.reduceAdd, Nat.reduceSub, Array.replicate_succ, Array.replicate_zero, List.push_toArray, List.append_toArray, List.nil_append, List.cons_append]
  gi_wp2_with (gi_at_call 71; (first | with_reducible refine CallsIn.mono (callsIn_wide.2 (hc.out _ (by (repeat (first | with_reducible exact Below.refl _ _ | with_reducible apply bl_alloc | with_reducible apply bl_drew | with_reducible apply bl_after | (with_reducible refine bl_call ?_ (by assumption))))))) ?_ | with_reducible refine CallsIn.mono (callsIn_rnd (hc.out _ (by (repeat (first | with_reducible exact Below.refl _ _ | with_reducible apply bl_alloc | with_reducible apply bl_drew | with_reducible apply bl_after | (with_reducible refine bl_call ?_ (by assumption))))))) ?_); rintro e w1 ⟨rfl, hb1⟩; first | ((with_reducible apply kp_in_step (hb := hb1)); (with_reducible assumption); rintro ⟨hk, hc, hf, hzc, hzf⟩) | ((with_reducible refine kp_in_first hb1 ?_); rintro ⟨hk, hc, hf, hzc, hzf⟩))
  have hbV : Below w.heap.size w w1 := by (repeat (first | with_reducible exact Below.refl _ _ | with_reducible apply bl_alloc | with_reducible apply bl_drew | with_reducible apply bl_after | (with_reducible refine bl_call ?_ (by assumption))))
  have c7 : Blk (((w1.alloc (.cells #[.slice (some ⟨b, o, none⟩) T.pts.length ca, (Value.int .i64 (T.closed)), (Value.int .i64 (T.lo)), (Value.int .i64 (T.hi)), .slice (some ⟨bm, om, none⟩) m.length cm] 72)).alloc (.cells #[.slice none 0 0] 37)).alloc (.cells #[(Value.int .i64 (0))] 3)) w1.heap.size 72 #[.slice (some ⟨b, o, none⟩) T.pts.length ca, (Value.int .i64 (T.closed)), (Value.int .i64 (T.lo)), (Value.int .i64 (T.hi)), .slice (some ⟨bm, om, none⟩) m.length cm] := ((Blk.new _ _ _).alloc _).alloc _
  have c9 : Blk (((w1.alloc (.cells #[.slice (some ⟨b, o, none⟩) T.pts.length ca, (Value.int .i64 (T.closed)), (Value.int .i64 (T.lo)), (Value.int .i64 (T.hi)), .slice (some ⟨bm, om, none⟩) m.length cm] 72)).alloc (.cells #[.slice none 0 0] 37)).alloc (.cells #[(Value.int .i64 (0))] 3)) (w1.heap.size + 1) 37 #[.slice none 0 0] := by
    have h := (Blk.new (w1.alloc (.cells #[.slice (some ⟨b, o, none⟩) T.pts.length ca, (Value.int .i64 (T.closed)), (Value.int .i64 (T.lo)), (Value.int .i64 (T.hi)), .slice (some ⟨bm, om, none⟩) m.length cm] 72)) 37 #[.slice none 0 0]).alloc (.cells #[(Value.int .i64 (0))] 3)
    simpa using h
  have c10 : Blk (((w1.alloc (.cells #[.slice (some ⟨b, o, none⟩) T.pts.length ca, (Value.int .i64 (T.closed)), (Value.int .i64 (T.lo)), (Value.int .i64 (T.hi)), .slice (some ⟨bm, om, none⟩) m.length cm] 72)).alloc (.cells #[.slice none 0 0] 37)).alloc (.cells #[(Value.int .i64 (0))] 3)) (w1.heap.size + 1 + 1) 3 #[(Value.int .i64 (0))] := by
    have h := Blk.new ((w1.alloc (.cells #[.slice (some ⟨b, o, none⟩) T.pts.length ca, (Value.int .i64 (T.closed)), (Value.int .i64 (T.lo)), (Value.int .i64 (T.hi)), .slice (some ⟨bm, om, none⟩) m.length cm] 72)).alloc (.cells #[.slice none 0 0] 37)) 3 #[(Value.int .i64 (0))]
    simpa using h
  have hbW := bl_alloc (o := .cells #[(Value.int .i64 (0))] 3) (bl_alloc (o := .cells #[.slice none 0 0] 37) (bl_alloc (o := .cells #[.slice (some ⟨b, o, none⟩) T.pts.length ca, (Value.int .i64 (T.closed)), (Value.int .i64 (T.lo)), (Value.int .i64 (T.hi)), .slice (some ⟨bm, om, none⟩) m.length cm] 72) hbV))
  have hg7 : w.heap.size ≤ w1.heap.size := hbV.size
  have hg9 : w.heap.size ≤ w1.heap.size + 1 := by omega
  have hg10 : w.heap.size ≤ w1.heap.size + 1 + 1 := by omega
  have d79 : w1.heap.size ≠ w1.heap.size + 1 := by omega
  have d710 : w1.heap.size ≠ w1.heap.size + 1 + 1 := by omega
  have d910 : w1.heap.size + 1 ≠ w1.heap.size + 1 + 1 := by omega
  clear hc hbV hb1 hk hf hzc hzf
  clear hc
  generalize (((w1.alloc (.cells #[.slice (some ⟨b, o, none⟩) T.pts.length ca, (Value.int .i64 (T.closed)), (Value.int .i64 (T.lo)), (Value.int .i64 (T.hi)), .slice (some ⟨bm, om, none⟩) m.length cm] 72)).alloc (.cells #[.slice none 0 0] 37)).alloc (.cells #[(Value.int .i64 (0))] 3)) = W1 at c7 c9 c10 hbW ⊢
  have hd10 : Hid (w1.heap.size + 1 + 1 = w1.heap.size + 1 + 1) := Lib.hid rfl
  generalize w1.heap.size + 1 + 1 = g10 at c10 hg10 d710 d910 ⊢
  generalize w1.heap.size + 1 = g9 at c9 hg9 d79 d910 ⊢
  generalize w1.heap.size = g7 at c7 hg7 d79 d710 ⊢
  clear hd10
  have htb := (trkB_bd hT).1
  have hmb := walkB_bd hm
  refine range_f (gf := 72) (pre := #[(Value.agg #[.slice (some ⟨b, o, none⟩) T.pts.length ca, (Value.int .i64 (T.closed)), (Value.int .i64 (T.lo)), (Value.int .i64 (T.hi)), .slice (some ⟨bm, om, none⟩) m.length cm])]) (lb := #[]) rfl (enters_of Try.func72 (by kernel_rfl) rfl) (elbows_iter b o ca bm om cm T m hT hm) (fun x args W h => by obtain ⟨A, ca, rfl, _⟩ := h; rfl)
    (fun k W => LsAt T m w.heap.size g9 g10 k W ∧ Blk W g7 72 #[.slice (some ⟨b, o, none⟩) T.pts.length ca, (Value.int .i64 (T.closed)), (Value.int .i64 (T.lo)), (Value.int .i64 (T.hi)), .slice (some ⟨bm, om, none⟩) m.length cm] ∧ Below w.heap.size w W)
    (fun _ _ => False)
    (fun k W W' h hs => ⟨h.1.step hs, hs.blk h.2.1, hs.below h.2.2 hbW.size⟩)
    (fun _ _ _ h _ => h)
    (fun k W h => ⟨hp.below h.2.2, hq.below h.2.2⟩)
    ⟨.inl ⟨rfl, c9, c10⟩, c7, hbW⟩ ?round ?done (fun _ _ _ _ h _ => h.elim)
  case round =>
    rintro lp k x args W hx ⟨A', ca', rfl, hI⟩ hle ⟨r, hr⟩ ⟨hL, e7, hbk⟩
    gi_wp2
    refine ⟨KeepsFrom.refl _ _, CellsFrom.refl _ _, fun r1 r2 hr1 => ?_⟩
    have st := Step.put (o' := .loop r2) hr1 rfl hle
    replace hL := hL.step st
    replace e7 := st.blk e7
    replace hbk := st.below hbk hbW.size
    replace hI := hI.step st
    obtain ⟨hxl, hxn⟩ := mem_elbs (List.mem_of_getElem? hx)
    obtain ⟨bx, ox, rfl, hIx⟩ := hI.at_ (k := 0) (by rw [ints_len]; omega)
    have hBs := Lib.hid (best_succ (T := T) hx)
    have hXm := Lib.hid (List.mem_of_getElem? hx)
    generalize W.putObj lp (.loop r2) = W2 at hL e7 hbk hIx ⊢
    have hM := Lib.hid (moves_any (some ⟨b, o, none⟩) ca bx ox ca' T (.slice (some ⟨bm, om, none⟩) m.length cm) x W2 hIx (by omega) (by omega) (by omega) hxn)
    have hC := Lib.hid fun (V : World) (h : Below W2.heap.size W2 V) => (show Calls Try.prog 97 #[.slice (some ⟨bx, ox, none⟩) x.length ca'] V fun e w' => (∃ g ca', e = .returned (.slice (some ⟨g, 0, none⟩) x.length ca') ∧ IntsN V.heap.size w' (some ⟨g, 0, none⟩) ca' (ints x)) ∧ Below V.heap.size V w' by
      have h2 := Clone_any bx ox ca' (ints x) V (hIx.below h) (by rw [ints_len]; omega) (by rw [ints_len]; omega)
      rw [ints_len] at h2
      exact h2)
    clear st hr1 hx hr hI hxl hxn hIx
    have l7 := e7.lt
    have y0 := e7.cell 0
    have y1 := e7.cell 1
    have y2 := e7.cell 2
    have y3 := e7.cell 3
    have y4 := e7.cell 4
    simp only [List.getElem?_toArray, List.getElem?_cons_zero, List.getElem?_cons_succ] at y0 y1 y2 y3 y4
    rcases hL with ⟨rfl, e9, e10⟩ | ⟨ns, g, cb, hbest, hmem, e9, e10, hN⟩
    · have l9 := e9.lt
      have l10 := e10.lt
      have u9 := e9.cell 0
      have f9 := e9.frozen 0
      have u10 := e10.cell 0
      have f10 := e10.frozen 0
      simp only [List.getElem?_toArray, List.getElem?_cons_zero] at u9 u10
      gi_wp2_with (first | (gi_at_call 57; (first | with_reducible refine CallsIn.mono (callsIn_wide.2 (hM.out)) ?_ | with_reducible refine CallsIn.mono (callsIn_rnd (hM.out)) ?_); rintro e w1 ⟨rfl, hb1⟩; first | ((with_reducible apply kp_in_step (hb := hb1)); (with_reducible assumption); rintro ⟨hk, hc, hf, hzc, hzf⟩) | ((with_reducible refine kp_in_first hb1 ?_); rintro ⟨hk, hc, hf, hzc, hzf⟩)) | ((gi_at_call 97); (with_reducible refine CallsIn.mono (callsIn_rnd (hC.out _ (by (repeat (first | with_reducible assumption | with_reducible exact Below.refl _ _ | with_reducible apply bl_alloc | with_reducible apply bl_drew | with_reducible apply bl_after | (with_reducible refine bl_call ?_ (by assumption)) | (with_reducible refine bl_setc ?_ (by omega))))))) ?_); rintro e w2 ⟨⟨g2, ca2, rfl, hN2⟩, hb2⟩; have hbb := hb1.trans (hb2.mono hb1.size); ((with_reducible apply kp_in_step (hb := hb2)); (with_reducible assumption); rintro ⟨hk, hc, hf, hzc, hzf⟩)))
      have HB1 : best T (elbs T m) (0 + 1) = some x := by rw [hBs.out, best_zero]; rfl
      (have s1 := hb1.size); (have lc9 := c9.lt); (have lc10 := c10.lt); (have hN3 := ((hN2.far (p := ⟨g9, 0, none⟩) (by simp; omega) (.slice (some ⟨g2, 0, none⟩) x.length ca2)).far (p := ⟨g10, 0, none⟩) (by simp; omega) (Value.int .i64 (mvV T x))).mono (show w.heap.size ≤ w1.heap.size by have := hbk.size; omega)); (have e9' : Blk ((w2.setCell ⟨g9, 0, none⟩ (.slice (some ⟨g2, 0, none⟩) x.length ca2)).setCell ⟨g10, 0, none⟩ (Value.int .i64 (mvV T x))) g9 37 #[.slice (some ⟨g2, 0, none⟩) x.length ca2] := (by (have h := ((e9.below hbb).set_ 0 (.slice (some ⟨g2, 0, none⟩) x.length ca2)).far (p := ⟨g10, 0, none⟩) (by simp; omega) (Value.int .i64 (mvV T x))); simpa using h)); (have e10' : Blk ((w2.setCell ⟨g9, 0, none⟩ (.slice (some ⟨g2, 0, none⟩) x.length ca2)).setCell ⟨g10, 0, none⟩ (Value.int .i64 (mvV T x))) g10 3 #[(Value.int .i64 (mvV T x))] := (by (have h := ((e10.below hbb).far (p := ⟨g9, 0, none⟩) (by simp; omega) (.slice (some ⟨g2, 0, none⟩) x.length ca2)).set_ 0 (Value.int .i64 (mvV T x))); simpa using h)); (have e7' := ((e7.below hbb).far (p := ⟨g9, 0, none⟩) (by simp; omega) (.slice (some ⟨g2, 0, none⟩) x.length ca2)).far (p := ⟨g10, 0, none⟩) (by simp; omega) (Value.int .i64 (mvV T x))); (have hbX := bl_setc (bl_setc (bl_call hbk hbb) hg9 (o := 0) (v := (.slice (some ⟨g2, 0, none⟩) x.length ca2))) hg10 (o := 0) (v := (Value.int .i64 (mvV T x))))
      exact ⟨by (repeat (first | with_reducible exact KeepsFrom.refl _ _ | with_reducible apply kf_alloc | with_reducible apply kf_set | with_reducible apply kf_drew | with_reducible apply kf_after | (with_reducible refine kf_call ?_ (by assumption)))), by (repeat (first | with_reducible exact CellsFrom.refl _ _ | with_reducible apply cf_alloc | with_reducible apply cf_drew | with_reducible apply cf_after | (with_reducible refine cf_set (by simp; omega) ?_) | (with_reducible refine cf_call ?_ (by assumption)))), .inr ⟨x, g2, ca2, HB1, hXm.out, e9', e10', hN3⟩, e7', hbX⟩
    · have l9 := e9.lt
      have l10 := e10.lt
      have u9 := e9.cell 0
      have f9 := e9.frozen 0
      have u10 := e10.cell 0
      have f10 := e10.frozen 0
      simp only [List.getElem?_toArray, List.getElem?_cons_zero] at u9 u10
      by_cases hlt : mvV T x < mvV T ns
      · have hd : decide (mvV T x < mvV T ns) = true := decide_eq_true hlt
        have HB1 : Hid (best T (elbs T m) (k + 1) = some x) := Lib.hid (by rw [hBs.out, hbest]; simp only [bst]; rw [if_pos hlt])
        clear hlt hbest hN
        gi_wp2_with (first | (gi_at_call 57; (first | with_reducible refine CallsIn.mono (callsIn_wide.2 (hM.out)) ?_ | with_reducible refine CallsIn.mono (callsIn_rnd (hM.out)) ?_); rintro e w1 ⟨rfl, hb1⟩; first | ((with_reducible apply kp_in_step (hb := hb1)); (with_reducible assumption); rintro ⟨hk, hc, hf, hzc, hzf⟩) | ((with_reducible refine kp_in_first hb1 ?_); rintro ⟨hk, hc, hf, hzc, hzf⟩)) | ((gi_at_call 97); (with_reducible refine CallsIn.mono (callsIn_rnd (hC.out _ (by (repeat (first | with_reducible assumption | with_reducible exact Below.refl _ _ | with_reducible apply bl_alloc | with_reducible apply bl_drew | with_reducible apply bl_after | (with_reducible refine bl_call ?_ (by assumption)) | (with_reducible refine bl_setc ?_ (by omega))))))) ?_); rintro e w2 ⟨⟨g2, ca2, rfl, hN2⟩, hb2⟩; have hbb := hb1.trans (hb2.mono hb1.size); ((with_reducible apply kp_in_step (hb := hb2)); (with_reducible assumption); rintro ⟨hk, hc, hf, hzc, hzf⟩)))
        (have s1 := hb1.size); (have lc9 := c9.lt); (have lc10 := c10.lt); (have hN3 := ((hN2.far (p := ⟨g9, 0, none⟩) (by simp; omega) (.slice (some ⟨g2, 0, none⟩) x.length ca2)).far (p := ⟨g10, 0, none⟩) (by simp; omega) (Value.int .i64 (mvV T x))).mono (show w.heap.size ≤ w1.heap.size by have := hbk.size; omega)); (have e9' : Blk ((w2.setCell ⟨g9, 0, none⟩ (.slice (some ⟨g2, 0, none⟩) x.length ca2)).setCell ⟨g10, 0, none⟩ (Value.int .i64 (mvV T x))) g9 37 #[.slice (some ⟨g2, 0, none⟩) x.length ca2] := (by (have h := ((e9.below hbb).set_ 0 (.slice (some ⟨g2, 0, none⟩) x.length ca2)).far (p := ⟨g10, 0, none⟩) (by simp; omega) (Value.int .i64 (mvV T x))); simpa using h)); (have e10' : Blk ((w2.setCell ⟨g9, 0, none⟩ (.slice (some ⟨g2, 0, none⟩) x.length ca2)).setCell ⟨g10, 0, none⟩ (Value.int .i64 (mvV T x))) g10 3 #[(Value.int .i64 (mvV T x))] := (by (have h := ((e10.below hbb).far (p := ⟨g9, 0, none⟩) (by simp; omega) (.slice (some ⟨g2, 0, none⟩) x.length ca2)).set_ 0 (Value.int .i64 (mvV T x))); simpa using h)); (have e7' := ((e7.below hbb).far (p := ⟨g9, 0, none⟩) (by simp; omega) (.slice (some ⟨g2, 0, none⟩) x.length ca2)).far (p := ⟨g10, 0, none⟩) (by simp; omega) (Value.int .i64 (mvV T x))); (have hbX := bl_setc (bl_setc (bl_call hbk hbb) hg9 (o := 0) (v := (.slice (some ⟨g2, 0, none⟩) x.length ca2))) hg10 (o := 0) (v := (Value.int .i64 (mvV T x))))
        exact ⟨by (repeat (first | with_reducible exact KeepsFrom.refl _ _ | with_reducible apply kf_alloc | with_reducible apply kf_set | with_reducible apply kf_drew | with_reducible apply kf_after | (with_reducible refine kf_call ?_ (by assumption)))), by (repeat (first | with_reducible exact CellsFrom.refl _ _ | with_reducible apply cf_alloc | with_reducible apply cf_drew | with_reducible apply cf_after | (with_reducible refine cf_set (by simp; omega) ?_) | (with_reducible refine cf_call ?_ (by assumption)))), .inr ⟨x, g2, ca2, HB1.out, hXm.out, e9', e10', hN3⟩, e7', hbX⟩
      · have hd : decide (mvV T x < mvV T ns) = false := decide_eq_false hlt
        have HB1 : Hid (best T (elbs T m) (k + 1) = some ns) := Lib.hid (by rw [hBs.out, hbest]; simp only [bst]; rw [if_neg hlt])
        clear hlt hbest
        have HN := Lib.hid hN
        clear hN
        gi_wp2_with (gi_at_call 57; (first | with_reducible refine CallsIn.mono (callsIn_wide.2 (hM.out)) ?_ | with_reducible refine CallsIn.mono (callsIn_rnd (hM.out)) ?_); rintro e w1 ⟨rfl, hb1⟩; first | ((with_reducible apply kp_in_step (hb := hb1)); (with_reducible assumption); rintro ⟨hk, hc, hf, hzc, hzf⟩) | ((with_reducible refine kp_in_first hb1 ?_); rintro ⟨hk, hc, hf, hzc, hzf⟩))
        exact ⟨by (repeat (first | with_reducible exact KeepsFrom.refl _ _ | with_reducible apply kf_alloc | with_reducible apply kf_set | with_reducible apply kf_drew | with_reducible apply kf_after | (with_reducible refine kf_call ?_ (by assumption)))), by (repeat (first | with_reducible exact CellsFrom.refl _ _ | with_reducible apply cf_alloc | with_reducible apply cf_drew | with_reducible apply cf_after | (with_reducible refine cf_set (by simp; omega) ?_) | (with_reducible refine cf_call ?_ (by assumption)))), .inr ⟨ns, g, cb, HB1.out, hmem, e9.below hb1, e10.below hb1, HN.out.below hb1⟩, e7.below hb1, bl_call hbk hb1⟩
  case done =>
    rintro D W hD ⟨hL, e7, hbk⟩ hK
    rcases hL with ⟨hz, _⟩ | ⟨ns, g, cb, hbest, hmem, e9, e10, hN⟩
    · exact absurd (List.eq_nil_of_length_eq_zero hz) hne.out
    · have eB : lsB T m = ns := by unfold lsB lsO; rw [hbest]; rfl
      have eV : lsV T m = mvV T ns := by unfold lsV; rw [eB]
      have HN := Lib.hid hN
      have HE := Lib.hid (And.intro eB eV)
      clear hN hbest eB eV
      have l9 := e9.lt
      have l10 := e10.lt
      have u9 := e9.cell 0
      have u10 := e10.cell 0
      simp only [List.getElem?_toArray, List.getElem?_cons_zero] at u9 u10
      gi_wp2
      (first | refine wpIn_after_w (by kernel_rfl) (by kernel_rfl) (by kernel_rfl) ?_ | refine wpIn_after_r (by kernel_rfl) (by kernel_rfl) (by kernel_rfl) ?_); (repeat (go_big_quiet_step ((fail)))); refine wpQuiet_nil ?_; rintro _ ⟨z, rfl⟩; (first | ((with_reducible apply kp_in_after (z := z)); (with_reducible assumption); rintro ⟨hk, hc, hf, hzc, hzf⟩) | ((with_reducible refine kp_in_after0 z ?_); rintro ⟨hk, hc, hf, hzc, hzf⟩))
      gi_wp2
      have hK2 : z.val.heap[D]? = some (.deferred (some [])) := (z.ok.block D (heap_lt hK)).trans hK
      have hbz : Below w.heap.size w z.val := bl_after z hbk
      have st := Step.put (B := W1.heap.size) (o' := .deferred none) hK2 rfl hD
      refine ⟨by simp, .inl ⟨_, _, rfl, run_takeDeferred hK2, ?_⟩⟩
      exact ⟨.tuple #[.slice (some ⟨g, 0, none⟩) ns.length cb, (Value.int .i64 (mvV T ns)), (Value.int .i64 (0))], by simp [results, Try.results76, go_sem], ⟨_, _, by rw [HE.out.1, HE.out.2], by rw [HE.out.1]; exact (HN.out.below z.ok).step st⟩, bl_put hbz hK2 (by have := hbW.size; omega)⟩
end Go.Proofs.Ytfgplmgkejeoiaa
