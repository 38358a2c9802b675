/- The functions of walks and of its reference that tell whether the arm reaches a point, from which places, and how an elbow steps, for a valid track. -/
import Derived.Test.YtfgplmgkejeoiaaDbl
import Derived.Test.YtfgplmgkejeoiaaInts
import Derived.Deep.AppendLies
namespace Go.Proofs.Ytfgplmgkejeoiaa
open Go.RowKit
attribute [local go_sem] After.cell After.frozen

def reachB (T : Trk) (k : Nat) (p : Pt) : Bool := within (((pat T.pts k).1 - p.1) * ((pat T.pts k).1 - p.1) + ((pat T.pts k).2 - p.2) * ((pat T.pts k).2 - p.2)) T.lo T.hi
theorem sq_bd {x : Int} (h : -400 ≤ x ∧ x ≤ 400) : 0 ≤ x * x ∧ x * x ≤ 160000 := by
  have h1 := mul_bd (A := 400) (B := 400) (x := x) (y := x) (by omega) (by omega) (by omega) (by omega)
  have h2 : 0 ≤ x * x := by
    rcases Int.le_total 0 x with h | h
    · exact Int.mul_nonneg h h
    · exact Int.mul_nonneg_of_nonpos_of_nonpos h h
  omega

set_option maxRecDepth 100000 in
set_option maxHeartbeats 1000000 in
theorem reaches_any (b o ca : Nat) (T : Trk) (V : Value) (k : Nat) (p : Pt) (w : World) (hp : PtsAt w b o T.pts) (hk : k < T.pts.length) (hl : T.pts.length ≤ 1000) (h1 : isPt (pat T.pts k) = true) (h2 : isPt p = true) :
    Calls Try.prog 85 #[.agg #[.slice (some ⟨b, o, none⟩) T.pts.length ca, (Value.int .i64 (T.closed)), (Value.int .i64 (T.lo)), (Value.int .i64 (T.hi)), V], (Value.int .i64 ((k : Int))), (Value.agg #[.int .i64 p.1, .int .i64 p.2])] w fun e w' => e = .returned (.bool (reachB T k p)) ∧ Below w.heap.size w w' := by
  have x1 := hp.xp hk
  have x2 := hp.yp hk
  have lb := hp.lt
  have a0 := isPt_bd h1
  have b0 := isPt_bd h2
  have q1 := sq_bd (x := (pat T.pts k).1 - p.1) (by omega)
  have q2 := sq_bd (x := (pat T.pts k).2 - p.2) (by omega)
  have m0 := wrap64_in (x := (pat T.pts k).1 - p.1) (by omega) (by omega)
  have m0' := wrap64_in (x := (pat T.pts k).2 - p.2) (by omega) (by omega)
  have m1 := wrap64_in (x := ((pat T.pts k).1 - p.1) * ((pat T.pts k).1 - p.1)) (by omega) (by omega)
  have m2 := wrap64_in (x := ((pat T.pts k).2 - p.2) * ((pat T.pts k).2 - p.2)) (by omega) (by omega)
  have m3 := wrap64_in (x := ((pat T.pts k).1 - p.1) * ((pat T.pts k).1 - p.1) + ((pat T.pts k).2 - p.2) * ((pat T.pts k).2 - p.2)) (by omega) (by omega)
  clear hp h1 h2
  go_enter Try.func85, Try.ntmps85
  go_wp2
  (try go_big_region)
  go_wp2_with (go_at_call 81; with_reducible refine Calls.mono (wWithin_any _ _ _ _) ?_; rintro e w' ⟨rfl, rfl⟩)
  go_ret
  exact ⟨rfl, by (repeat (first | with_reducible exact Below.refl _ _ | with_reducible apply bl_alloc | with_reducible apply bl_drew | with_reducible apply bl_after | (with_reducible refine bl_call ?_ (by assumption))))⟩
set_option maxRecDepth 100000 in
set_option maxHeartbeats 1000000 in
theorem r5Reaches_any (b o ca : Nat) (T : Trk) (k : Nat) (p : Pt) (w : World) (hp : PtsAt w b o T.pts) (hk : k < T.pts.length) (hl : T.pts.length ≤ 1000) (h1 : isPt (pat T.pts k) = true) (h2 : isPt p = true) :
    Calls Try.prog 78 #[(Value.agg #[.slice (some ⟨b, o, none⟩) T.pts.length ca, (Value.int .i64 (T.closed)), (Value.int .i64 (T.lo)), (Value.int .i64 (T.hi))]), (Value.int .i64 ((k : Int))), (Value.agg #[.int .i64 p.1, .int .i64 p.2])] w fun e w' => e = .returned (.bool (reachB T k p)) ∧ Below w.heap.size w w' := by
  have x1 := hp.xp hk
  have x2 := hp.yp hk
  have lb := hp.lt
  have a0 := isPt_bd h1
  have b0 := isPt_bd h2
  have q1 := sq_bd (x := (pat T.pts k).1 - p.1) (by omega)
  have q2 := sq_bd (x := (pat T.pts k).2 - p.2) (by omega)
  have m0 := wrap64_in (x := (pat T.pts k).1 - p.1) (by omega) (by omega)
  have m0' := wrap64_in (x := (pat T.pts k).2 - p.2) (by omega) (by omega)
  have m1 := wrap64_in (x := ((pat T.pts k).1 - p.1) * ((pat T.pts k).1 - p.1)) (by omega) (by omega)
  have m2 := wrap64_in (x := ((pat T.pts k).2 - p.2) * ((pat T.pts k).2 - p.2)) (by omega) (by omega)
  have m3 := wrap64_in (x := ((pat T.pts k).1 - p.1) * ((pat T.pts k).1 - p.1) + ((pat T.pts k).2 - p.2) * ((pat T.pts k).2 - p.2)) (by omega) (by omega)
  clear hp h1 h2
  go_enter Try.func78, Try.ntmps78
  go_wp2
  (try go_big_region)
  go_wp2_with (go_at_call 77; with_reducible refine Calls.mono (r5Within_any _ _ _ _) ?_; rintro e w' ⟨rfl, rfl⟩)
  go_ret
  exact ⟨rfl, by (repeat (first | with_reducible exact Below.refl _ _ | with_reducible apply bl_alloc | with_reducible apply bl_drew | with_reducible apply bl_after | (with_reducible refine bl_call ?_ (by assumption))))⟩

/-- The places from which the arm reaches a point, of the first k. -/
def plcTo (T : Trk) (p : Pt) (k : Nat) : List Int := ((List.range k).filter fun i => reachB T i p).map fun i : Nat => (i : Int)
def plc (T : Trk) (p : Pt) : List Int := plcTo T p T.pts.length
theorem plc_yes {T : Trk} {p : Pt} {k : Nat} (h : reachB T k p = true) : plcTo T p (k + 1) = plcTo T p k ++ [(k : Int)] := by
  simp [plcTo, List.range_succ, List.filter_append, h]
theorem plc_no {T : Trk} {p : Pt} {k : Nat} (h : reachB T k p = false) : plcTo T p (k + 1) = plcTo T p k := by
  simp [plcTo, List.range_succ, List.filter_append, h]
theorem plc_len (T : Trk) (p : Pt) (k : Nat) : (plcTo T p k).length ≤ k := by
  have := List.length_filter_le (fun i => reachB T i p) (List.range k)
  simp only [plcTo, List.length_map]
  simpa using this
/-- What lies behind the address is cells, from block B on. -/
def OwnA (B : Nat) (w : World) (A : Option Addr) : Prop := ∀ a, A = some a → B ≤ a.block ∧ ∃ ob, w.heap[a.block]? = some ob ∧ ob.isCells = true
theorem OwnA.below {B : Nat} {w w' : World} {A : Option Addr} (h : OwnA B w A) (hb : Below w.heap.size w w') : OwnA B w' A := fun a e => by
  obtain ⟨h1, ob, h2, h3⟩ := h a e
  exact ⟨h1, ob, (hb.block _ (Array.getElem?_eq_some_iff.1 h2).1).trans h2, h3⟩
theorem OwnA.mono {B C : Nat} {w : World} {A : Option Addr} (h : OwnA C w A) (hB : B ≤ C) : OwnA B w A := fun a e => ⟨Nat.le_trans hB (h a e).1, (h a e).2⟩
theorem ownA_row {B n : Nat} {w : World} {A : Option Addr} {k ca size : Nat} {e : TypeId} {xs : List Value} (h : w.ownsRow B e size (.slice A k ca) n xs) : OwnA B w A := by
  rcases h.2 with ⟨h1, _⟩ | ⟨g, cap, cur, h1, hg, hh, _⟩
  · simp only [Value.slice.injEq] at h1
    rw [h1.1]
    intro a e
    cases e
  · simp only [Value.slice.injEq] at h1
    rw [h1.1]
    intro a e
    cases e
    exact ⟨hg, _, hh, rfl⟩
/-- Numbers in memory, in cells from block B on; a nil slice if there are none. -/
structure IntsN (B : Nat) (w : World) (A : Option Addr) (ca : Nat) (l : List Int) : Prop where
  ints : Ints w A l
  nil : l = [] → A = none ∧ ca = 0
  none_ : A = none → l = []
  own : OwnA B w A
theorem IntsN.below {B : Nat} {w w' : World} {A : Option Addr} {ca : Nat} {l : List Int} (h : IntsN B w A ca l) (hb : Below w.heap.size w w') : IntsN B w' A ca l := ⟨h.ints.below hb, h.nil, h.none_, h.own.below hb⟩
theorem IntsN.mono {B C : Nat} {w : World} {A : Option Addr} {ca : Nat} {l : List Int} (h : IntsN C w A ca l) (hB : B ≤ C) : IntsN B w A ca l := ⟨h.ints, h.nil, h.none_, h.own.mono hB⟩
theorem intsN_own {w : World} {B n : Nat} {v : Value} {l : List Int} (h : w.ownsRow B 3 1 v n (intsV l)) (hnil : l = [] → v = .slice none 0 0) : ∃ A ca, v = .slice A l.length ca ∧ IntsN B w A ca l := by
  obtain ⟨_, A, ca, rfl, hi, hn⟩ := own_ints h
  exact ⟨A, ca, rfl, hi, fun e => by have h1 := hnil e; simp only [Value.slice.injEq] at h1; exact ⟨h1.1, h1.2.2⟩, hn, ownA_row h⟩

set_option maxRecDepth 100000 in
set_option maxHeartbeats 2000000 in
theorem places_any (b o ca : Nat) (T : Trk) (V : Value) (p : Pt) (w : World) (hp : PtsAt w b o T.pts) (hl : T.pts.length ≤ 1000) (h1 : ∀ i, i < T.pts.length → isPt (pat T.pts i) = true) (h2 : isPt p = true) :
    Calls Try.prog 63 #[.agg #[.slice (some ⟨b, o, none⟩) T.pts.length ca, (Value.int .i64 (T.closed)), (Value.int .i64 (T.lo)), (Value.int .i64 (T.hi)), V], (Value.agg #[.int .i64 p.1, .int .i64 p.2])] w fun e w' => (∃ A' ca', e = .returned (.slice A' (plc T p).length ca') ∧ IntsN w.heap.size w' A' ca' (plc T p)) ∧ Below w.heap.size w w' := by
  obtain ⟨i0, hi, hz0, hz1, hz2⟩ := info_parts infoInt
  have HR := Lib.hid fun (W : World) (h : Below w.heap.size w W) (k : Nat) (hk : k < T.pts.length) => reaches_any b o ca T V k p W (hp.below h) hk hl (h1 k hk) h2
  clear h1 h2 hp
  go_enter Try.func63, Try.ntmps63
  have c2 : Blk ((w.alloc (.cells #[.slice (some ⟨b, o, none⟩) T.pts.length ca, (Value.int .i64 (T.closed)), (Value.int .i64 (T.lo)), (Value.int .i64 (T.hi)), V] 72)).alloc (.cells #[(Value.int .i64 (p.1)), (Value.int .i64 (p.2))] 31)) w.heap.size 72 #[.slice (some ⟨b, o, none⟩) T.pts.length ca, (Value.int .i64 (T.closed)), (Value.int .i64 (T.lo)), (Value.int .i64 (T.hi)), V] := (Blk.new _ _ _).alloc _
  have c3 : Blk ((w.alloc (.cells #[.slice (some ⟨b, o, none⟩) T.pts.length ca, (Value.int .i64 (T.closed)), (Value.int .i64 (T.lo)), (Value.int .i64 (T.hi)), V] 72)).alloc (.cells #[(Value.int .i64 (p.1)), (Value.int .i64 (p.2))] 31)) (w.heap.size + 1) 31 #[(Value.int .i64 (p.1)), (Value.int .i64 (p.2))] := by
    have h := Blk.new (w.alloc (.cells #[.slice (some ⟨b, o, none⟩) T.pts.length ca, (Value.int .i64 (T.closed)), (Value.int .i64 (T.lo)), (Value.int .i64 (T.hi)), V] 72)) 31 #[(Value.int .i64 (p.1)), (Value.int .i64 (p.2))]
    simpa using h
  have hbW : Below w.heap.size w ((w.alloc (.cells #[.slice (some ⟨b, o, none⟩) T.pts.length ca, (Value.int .i64 (T.closed)), (Value.int .i64 (T.lo)), (Value.int .i64 (T.hi)), V] 72)).alloc (.cells #[(Value.int .i64 (p.1)), (Value.int .i64 (p.2))] 31)) := by (repeat (first | with_reducible exact Below.refl _ _ | with_reducible apply bl_alloc | with_reducible apply bl_drew | with_reducible apply bl_after | (with_reducible refine bl_call ?_ (by assumption))))
  go_wp2
  generalize (w.alloc (.cells #[.slice (some ⟨b, o, none⟩) T.pts.length ca, (Value.int .i64 (T.closed)), (Value.int .i64 (T.lo)), (Value.int .i64 (T.hi)), V] 72)).alloc (.cells #[(Value.int .i64 (p.1)), (Value.int .i64 (p.2))] 31) = W at c2 c3 hbW ⊢
  have hbW2 := hbW.size
  go_loopw [4, 10] (fun v i wr => ∃ k : Nat, k ≤ T.pts.length ∧ i = (Value.int .i64 ((k : Int))) ∧ wr.ownsRow W.heap.size 3 1 v (plcTo T p k).length (intsV (plcTo T p k)) ∧ Hid (plcTo T p k = [] → v = .slice none 0 0) ∧ Below W.heap.size W wr) (fun _ i _ => T.pts.length - (intOf i).toNat)
  case atStart => exact ⟨0, Nat.zero_le _, rfl, (show W.ownsRow W.heap.size 3 1 (.slice none 0 0) 0 [] from World.ownsRow_nil _ _ _ _), Lib.hid fun _ => rfl, by (repeat (first | with_reducible exact Below.refl _ _ | with_reducible apply bl_alloc | with_reducible apply bl_drew | with_reducible apply bl_after | (with_reducible refine bl_call ?_ (by assumption))))⟩
  case round =>
    obtain ⟨k, kn, rfl, hown, hnil, hbw⟩ := hrel
    have e2 := c2.below hbw
    have e3 := c3.below hbw
    have l2 := e2.lt
    have l3 := e3.lt
    have y0 := e2.cell 0
    have y1 := e2.cell 1
    have y2 := e2.cell 2
    have y3 := e2.cell 3
    have y4 := e2.cell 4
    have z0 := e3.cell 0
    have z1 := e3.cell 1
    simp only [List.getElem?_toArray, List.getElem?_cons_zero, List.getElem?_cons_succ] at y0 y1 y2 y3 y4 z0 z1
    by_cases hlt : k < T.pts.length
    · have hr := HR.out wr (hbW.trans (hbw.mono hbW2)) k hlt
      have hpl := plc_len T p k
      have hgm := hbw.size
      cases hv : reachB T k p with
      | true =>
        rw [hv] at hr
        have HN := Lib.hid (plc_yes hv)
        clear hv hnil
        have HB := Lib.hid hbw
        clear hbw
        go_wp2_with (first | ((go_at_call 85); (with_reducible refine Calls.mono hr ?_); rintro e w1 ⟨rfl, hb1⟩; (have hown1 := Lib.hid (own_below hown hb1)); clear hown) | (at_builtin; refine wpList_append_lies _ rfl (.tmp 17) (.tmp 19) 37 rfl W.heap.size 3 i0 _ 1 8 undInts hi hz0 hz1 hz2 rfl (by omega) u4 _ (intsV (plcTo T p k)) rfl (hown1.out.alloc _) ⟨w1.heap.size, 0, none⟩ 1 1 (intsV [(k : Int)]) rfl rfl (World.news_of_block (cs := (intsV [(k : Int)]).toArray) (t := 3) (fr := (0, 0)) (heap_alloc_new w1 _)) (intsV_one _) (by omega) (by unfold maxLen; omega) (by omega) (by have := hb1.size; simp; omega) (w1.heap.size + 1) (by simp) ?_))
        intro g cap w2 hown2 hgrow hat hlt2
        have hb2 : Below W.heap.size W w2 := (Below.alloc (HB.out.trans (hb1.mono hgm)) (by have := hb1.size; omega) _).grown hgrow (by have := hb1.size; simp; omega) (fun g hg => (hown1.out.lt g hg).1)
        rw [← intsV_append, ← HN.out] at hown2
        have e9 : (plcTo T p k).length + 1 = (plcTo T p (k + 1)).length := by rw [HN.out]; simp
        have hne : Hid (plcTo T p (k + 1) = [] → (Value.slice (some ⟨g, 0, none⟩) ((plcTo T p k).length + 1) cap) = .slice none 0 0) := Lib.hid fun h => by rw [HN.out] at h; simp at h
        have hown3 : w2.ownsRow W.heap.size 3 1 (.slice (some ⟨g, 0, none⟩) ((plcTo T p k).length + 1) cap) (plcTo T p (k + 1)).length (intsV (plcTo T p (k + 1))) := by rw [← e9]; exact hown2
        have H3 := Lib.hid hown3
        clear e9 hown2 hown3 hgrow hat hown1 HB hb1
        go_wp2
        go_roundw
        case rel => exact ⟨k + 1, by omega, by go_num, H3.out, hne, hb2⟩
        case measure => simp [intOf]; omega
      | false =>
        rw [hv] at hr
        have HN := Lib.hid (plc_no hv)
        clear hv
        have HB := Lib.hid hbw
        have HO := Lib.hid hown
        clear hbw hown
        go_wp2_with ((go_at_call 85); (with_reducible refine Calls.mono hr ?_); rintro e w1 ⟨rfl, hb1⟩)
        go_roundw
        case rel => exact ⟨k + 1, by omega, by go_num, by rw [HN.out]; exact own_below HO.out hb1, by rw [HN.out]; exact hnil, HB.out.trans (hb1.mono hgm)⟩
        case measure => simp [intOf]; omega
    · obtain rfl : k = T.pts.length := by omega
      have hfin : Hid (∃ A' ca', u4 = .slice A' (plc T p).length ca' ∧ IntsN w.heap.size wr A' ca' (plc T p)) := Lib.hid (by obtain ⟨A', ca', e, h⟩ := intsN_own hown hnil.out; exact ⟨A', ca', e, h.mono hbW2⟩)
      clear hown hnil
      go_wp2
      go_ret
      obtain ⟨A', ca', e1, hN⟩ := hfin.out
      exact ⟨⟨A', ca', by rw [← e1]; rfl, hN⟩, hbW.trans (hbw.mono hbW2)⟩

set_option maxRecDepth 100000 in
set_option maxHeartbeats 2000000 in
theorem r5reach_any (b o ca : Nat) (T : Trk) (p : Pt) (w : World) (hp : PtsAt w b o T.pts) (hl : T.pts.length ≤ 1000) (h1 : ∀ i, i < T.pts.length → isPt (pat T.pts i) = true) (h2 : isPt p = true) :
    Calls Try.prog 64 #[.agg #[.slice (some ⟨b, o, none⟩) T.pts.length ca, (Value.int .i64 (T.closed)), (Value.int .i64 (T.lo)), (Value.int .i64 (T.hi))], (Value.agg #[.int .i64 p.1, .int .i64 p.2])] w fun e w' => (∃ A' ca', e = .returned (.slice A' (plc T p).length ca') ∧ IntsN w.heap.size w' A' ca' (plc T p)) ∧ Below w.heap.size w w' := by
  obtain ⟨i0, hi, hz0, hz1, hz2⟩ := info_parts infoInt
  have HR := Lib.hid fun (W : World) (h : Below w.heap.size w W) (k : Nat) (hk : k < T.pts.length) => r5Reaches_any b o ca T k p W (hp.below h) hk hl (h1 k hk) h2
  clear h1 h2 hp
  go_enter Try.func64, Try.ntmps64
  have c2 : Blk ((w.alloc (.cells #[.slice (some ⟨b, o, none⟩) T.pts.length ca, (Value.int .i64 (T.closed)), (Value.int .i64 (T.lo)), (Value.int .i64 (T.hi))] 36)).alloc (.cells #[(Value.int .i64 (p.1)), (Value.int .i64 (p.2))] 31)) w.heap.size 36 #[.slice (some ⟨b, o, none⟩) T.pts.length ca, (Value.int .i64 (T.closed)), (Value.int .i64 (T.lo)), (Value.int .i64 (T.hi))] := (Blk.new _ _ _).alloc _
  have c3 : Blk ((w.alloc (.cells #[.slice (some ⟨b, o, none⟩) T.pts.length ca, (Value.int .i64 (T.closed)), (Value.int .i64 (T.lo)), (Value.int .i64 (T.hi))] 36)).alloc (.cells #[(Value.int .i64 (p.1)), (Value.int .i64 (p.2))] 31)) (w.heap.size + 1) 31 #[(Value.int .i64 (p.1)), (Value.int .i64 (p.2))] := by
    have h := Blk.new (w.alloc (.cells #[.slice (some ⟨b, o, none⟩) T.pts.length ca, (Value.int .i64 (T.closed)), (Value.int .i64 (T.lo)), (Value.int .i64 (T.hi))] 36)) 31 #[(Value.int .i64 (p.1)), (Value.int .i64 (p.2))]
    simpa using h
  have hbW : Below w.heap.size w ((w.alloc (.cells #[.slice (some ⟨b, o, none⟩) T.pts.length ca, (Value.int .i64 (T.closed)), (Value.int .i64 (T.lo)), (Value.int .i64 (T.hi))] 36)).alloc (.cells #[(Value.int .i64 (p.1)), (Value.int .i64 (p.2))] 31)) := by (repeat (first | with_reducible exact Below.refl _ _ | with_reducible apply bl_alloc | with_reducible apply bl_drew | with_reducible apply bl_after | (with_reducible refine bl_call ?_ (by assumption))))
  go_wp2
  generalize (w.alloc (.cells #[.slice (some ⟨b, o, none⟩) T.pts.length ca, (Value.int .i64 (T.closed)), (Value.int .i64 (T.lo)), (Value.int .i64 (T.hi))] 36)).alloc (.cells #[(Value.int .i64 (p.1)), (Value.int .i64 (p.2))] 31) = W at c2 c3 hbW ⊢
  have hbW2 := hbW.size
  go_loopw [5, 6] (fun v i wr => ∃ k : Nat, k ≤ T.pts.length ∧ i = (Value.int .i64 ((k : Int))) ∧ wr.ownsRow W.heap.size 3 1 v (plcTo T p k).length (intsV (plcTo T p k)) ∧ Hid (plcTo T p k = [] → v = .slice none 0 0) ∧ Below W.heap.size W wr) (fun _ i _ => T.pts.length - (intOf i).toNat)
  case atStart => exact ⟨0, Nat.zero_le _, rfl, (show W.ownsRow W.heap.size 3 1 (.slice none 0 0) 0 [] from World.ownsRow_nil _ _ _ _), Lib.hid fun _ => rfl, by (repeat (first | with_reducible exact Below.refl _ _ | with_reducible apply bl_alloc | with_reducible apply bl_drew | with_reducible apply bl_after | (with_reducible refine bl_call ?_ (by assumption))))⟩
  case round =>
    obtain ⟨k, kn, rfl, hown, hnil, hbw⟩ := hrel
    have e2 := c2.below hbw
    have e3 := c3.below hbw
    have l2 := e2.lt
    have l3 := e3.lt
    have y0 := e2.cell 0
    have y1 := e2.cell 1
    have y2 := e2.cell 2
    have y3 := e2.cell 3
    have z0 := e3.cell 0
    have z1 := e3.cell 1
    simp only [List.getElem?_toArray, List.getElem?_cons_zero, List.getElem?_cons_succ] at y0 y1 y2 y3 z0 z1
    by_cases hlt : k < T.pts.length
    · have hr := HR.out wr (hbW.trans (hbw.mono hbW2)) k hlt
      have hpl := plc_len T p k
      have hgm := hbw.size
      cases hv : reachB T k p with
      | true =>
        rw [hv] at hr
        have HN := Lib.hid (plc_yes hv)
        clear hv hnil
        have HB := Lib.hid hbw
        clear hbw
        go_wp2_with (first | ((go_at_call 78); (with_reducible refine Calls.mono hr ?_); rintro e w1 ⟨rfl, hb1⟩; (have hown1 := Lib.hid (own_below hown hb1)); clear hown) | (at_builtin; refine wpList_append_lies _ rfl (.tmp 18) (.tmp 20) 37 rfl W.heap.size 3 i0 _ 1 8 undInts hi hz0 hz1 hz2 rfl (by omega) u5 _ (intsV (plcTo T p k)) rfl (hown1.out.alloc _) ⟨w1.heap.size, 0, none⟩ 1 1 (intsV [(k : Int)]) rfl rfl (World.news_of_block (cs := (intsV [(k : Int)]).toArray) (t := 3) (fr := (0, 0)) (heap_alloc_new w1 _)) (intsV_one _) (by omega) (by unfold maxLen; omega) (by omega) (by have := hb1.size; simp; omega) (w1.heap.size + 1) (by simp) ?_))
        intro g cap w2 hown2 hgrow hat hlt2
        have hb2 : Below W.heap.size W w2 := (Below.alloc (HB.out.trans (hb1.mono hgm)) (by have := hb1.size; omega) _).grown hgrow (by have := hb1.size; simp; omega) (fun g hg => (hown1.out.lt g hg).1)
        rw [← intsV_append, ← HN.out] at hown2
        have e9 : (plcTo T p k).length + 1 = (plcTo T p (k + 1)).length := by rw [HN.out]; simp
        have hne : Hid (plcTo T p (k + 1) = [] → (Value.slice (some ⟨g, 0, none⟩) ((plcTo T p k).length + 1) cap) = .slice none 0 0) := Lib.hid fun h => by rw [HN.out] at h; simp at h
        have hown3 : w2.ownsRow W.heap.size 3 1 (.slice (some ⟨g, 0, none⟩) ((plcTo T p k).length + 1) cap) (plcTo T p (k + 1)).length (intsV (plcTo T p (k + 1))) := by rw [← e9]; exact hown2
        have H3 := Lib.hid hown3
        clear e9 hown2 hown3 hgrow hat hown1 HB hb1
        go_wp2
        go_roundw
        case rel => exact ⟨k + 1, by omega, by go_num, H3.out, hne, hb2⟩
        case measure => simp [intOf]; omega
      | false =>
        rw [hv] at hr
        have HN := Lib.hid (plc_no hv)
        clear hv
        have HB := Lib.hid hbw
        have HO := Lib.hid hown
        clear hbw hown
        go_wp2_with ((go_at_call 78); (with_reducible refine Calls.mono hr ?_); rintro e w1 ⟨rfl, hb1⟩)
        go_roundw
        case rel => exact ⟨k + 1, by omega, by go_num, by rw [HN.out]; exact own_below HO.out hb1, by rw [HN.out]; exact hnil, HB.out.trans (hb1.mono hgm)⟩
        case measure => simp [intOf]; omega
    · obtain rfl : k = T.pts.length := by omega
      have hfin : Hid (∃ A' ca', u5 = .slice A' (plc T p).length ca' ∧ IntsN w.heap.size wr A' ca' (plc T p)) := Lib.hid (by obtain ⟨A', ca', e, h⟩ := intsN_own hown hnil.out; exact ⟨A', ca', e, h.mono hbW2⟩)
      clear hown hnil
      go_wp2
      go_ret
      obtain ⟨A', ca', e1, hN⟩ := hfin.out
      exact ⟨⟨A', ca', by rw [← e1]; rfl, hN⟩, hbW.trans (hbw.mono hbW2)⟩

end Go.Proofs.Ytfgplmgkejeoiaa
