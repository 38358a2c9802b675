/- The function corners.isSimple answers whether no two sides meet wrongly, for three to ten points with numbers up to 200. -/
import Derived.Test.YthijegacjboclaaGreatSides
namespace Go.Proofs.YthijegacjboclaaGreat
open Go.RowKit Go.Shelf
attribute [local go_sem] After.cell After.frozen Oper.semAt_some wide_fn wide_depth Fence.inRound_fn Fence.inRound_depth

set_option maxRecDepth 100000 in
set_option maxHeartbeats 2000000 in
theorem isSimple_any (b o ca : Nat) (l : List Pt) (w : World) (hn : 3 ≤ l.length) (hl : l.length ≤ 10) (hp : PtsAt w b o l) (hpt : ∀ i, i < l.length → isPt (pat l i) = true) :
    Calls Tryz.prog 85 #[.slice (some ⟨b, o, none⟩) l.length ca] w fun e w' => (∃ t : Bool, e = .returned (.bool t) ∧ (t = true ↔ Simple l)) ∧ Below w.heap.size w w' := by
  have h0l : 0 < l.length := by omega
  have HP := Lib.hid hpt
  clear hpt
  refine (callsIn_wide (n := 0)).1 ?_; refine callsIn_of_wp_marks Tryz.func85 rfl trivial ?_ rfl; simp only [Tryz.ntmps85, List.size_toArray, List.length_cons, List.length_nil, Nat.reduceAdd, Nat.reduceSub, Array.replicate_succ, Array.replicate_zero, List.push_toArray, List.append_toArray, List.nil_append, List.cons_append]
  gi_wp2_with (gi_at_call 101; (first | with_reducible refine CallsIn.mono (callsIn_wide.2 (sides_any _ _ _ _)) ?_ | with_reducible refine CallsIn.mono (callsIn_rnd (sides_any _ _ _ _)) ?_); rintro e w' ⟨rfl, rfl⟩)
  have b0 : Blk ((((w.alloc (.cells #[.slice (some ⟨b, o, none⟩) l.length ca] 22)).alloc (.cells #[.bool false] 4)).alloc (.cells #[(Value.int .i64 ((l.length : Int)))] 3)).alloc (.cells #[.slice (some ⟨b, o, none⟩) l.length ca] 22)) w.heap.size 22 #[.slice (some ⟨b, o, none⟩) l.length ca] := (((Blk.new _ _ _).alloc _).alloc _).alloc _
  have b1 : Blk ((((w.alloc (.cells #[.slice (some ⟨b, o, none⟩) l.length ca] 22)).alloc (.cells #[.bool false] 4)).alloc (.cells #[(Value.int .i64 ((l.length : Int)))] 3)).alloc (.cells #[.slice (some ⟨b, o, none⟩) l.length ca] 22)) (w.heap.size + 1) 4 #[.bool false] := by have h := ((Blk.new (w.alloc (.cells #[.slice (some ⟨b, o, none⟩) l.length ca] 22)) 4 #[.bool false]).alloc (.cells #[(Value.int .i64 ((l.length : Int)))] 3)).alloc (.cells #[.slice (some ⟨b, o, none⟩) l.length ca] 22); simpa using h
  have b2 : Blk ((((w.alloc (.cells #[.slice (some ⟨b, o, none⟩) l.length ca] 22)).alloc (.cells #[.bool false] 4)).alloc (.cells #[(Value.int .i64 ((l.length : Int)))] 3)).alloc (.cells #[.slice (some ⟨b, o, none⟩) l.length ca] 22)) (w.heap.size + 1 + 1) 3 #[(Value.int .i64 ((l.length : Int)))] := by have h := (Blk.new ((w.alloc (.cells #[.slice (some ⟨b, o, none⟩) l.length ca] 22)).alloc (.cells #[.bool false] 4)) 3 #[(Value.int .i64 ((l.length : Int)))]).alloc (.cells #[.slice (some ⟨b, o, none⟩) l.length ca] 22); simpa using h
  have b3 : Blk ((((w.alloc (.cells #[.slice (some ⟨b, o, none⟩) l.length ca] 22)).alloc (.cells #[.bool false] 4)).alloc (.cells #[(Value.int .i64 ((l.length : Int)))] 3)).alloc (.cells #[.slice (some ⟨b, o, none⟩) l.length ca] 22)) (w.heap.size + 1 + 1 + 1) 22 #[.slice (some ⟨b, o, none⟩) l.length ca] := by have h := Blk.new (((w.alloc (.cells #[.slice (some ⟨b, o, none⟩) l.length ca] 22)).alloc (.cells #[.bool false] 4)).alloc (.cells #[(Value.int .i64 ((l.length : Int)))] 3)) 22 #[.slice (some ⟨b, o, none⟩) l.length ca]; simpa using h
  have hbW : Below w.heap.size w ((((w.alloc (.cells #[.slice (some ⟨b, o, none⟩) l.length ca] 22)).alloc (.cells #[.bool false] 4)).alloc (.cells #[(Value.int .i64 ((l.length : Int)))] 3)).alloc (.cells #[.slice (some ⟨b, o, none⟩) l.length ca] 22)) := by (repeat (first | with_reducible exact Below.refl _ _ | with_reducible apply bl_alloc | with_reducible apply bl_drew | with_reducible apply bl_after | (with_reducible refine bl_call ?_ (by assumption))))
  generalize (((w.alloc (.cells #[.slice (some ⟨b, o, none⟩) l.length ca] 22)).alloc (.cells #[.bool false] 4)).alloc (.cells #[(Value.int .i64 ((l.length : Int)))] 3)).alloc (.cells #[.slice (some ⟨b, o, none⟩) l.length ca] 22) = W0 at b0 b1 b2 b3 hbW ⊢
  refine range_list (gf := 119) (lb := #[.pointer (some ⟨w.heap.size + 1 + 1 + 1, 0, none⟩)]) rfl (enters_of Tryz.func119 (by kernel_rfl) rfl) (sides_iter (w.heap.size + 1 + 1 + 1) b o ca l h0l (by omega)) (fun _ => rfl)
    (fun k W => (Blk W w.heap.size 22 #[.slice (some ⟨b, o, none⟩) l.length ca] ∧ Blk W (w.heap.size + 1) 4 #[.bool false] ∧ Blk W (w.heap.size + 1 + 1) 3 #[(Value.int .i64 ((l.length : Int)))] ∧ Blk W (w.heap.size + 1 + 1 + 1) 22 #[.slice (some ⟨b, o, none⟩) l.length ca] ∧ Below w.heap.size w W) ∧ ∀ i, i < k → RowOk l i)
    (fun c W => c = .ret ∧ Blk W (w.heap.size + 1) 4 #[.bool false] ∧ Below w.heap.size w W ∧ ¬ Simple l)
    (fun k W W' h hs => ⟨⟨hs.blk h.1.1, hs.blk h.1.2.1, hs.blk h.1.2.2.1, hs.blk h.1.2.2.2.1, hs.below h.1.2.2.2.2 hbW.size⟩, h.2⟩)
    (fun c W W' h hs => ⟨h.1, hs.blk h.2.1, hs.below h.2.2.1 hbW.size, h.2.2.2⟩)
    (fun k W h => ⟨h.1.2.2.2.1.cell 0, h.1.2.2.2.1.lt, hp.below h.1.2.2.2.2⟩)
    ⟨⟨b0, b1, b2, b3, hbW⟩, fun i hi => absurd hi (by omega)⟩ ?round ?done ?stop
  case done =>
    rintro D W hD ⟨⟨c0, c1, c2, c3, hbk⟩, hrow⟩ hK
    have hrow := Lib.hid hrow
    rw [sidesOf_len] at hrow
    have x1 := c1.cell 0
    have f1 := c1.frozen 0
    have c4 := c1.set_ 0 (.bool true)
    have hK2 : (W.setCell ⟨w.heap.size + 1, 0, none⟩ (.bool true)).heap[D]? = some (.deferred (some [])) := (KeepsOthers.setCell _ _ _).same _ _ hK rfl
    have c5 := (Step.put (B := W0.heap.size) (o' := .deferred none) hK2 rfl hD).blk c4
    have x5 := c5.cell 0
    have hb5 := bl_put (o' := .deferred none) (hbk.setCell (p := ⟨w.heap.size + 1, 0, none⟩) (by simp) (.bool true)) hK2 (by have := hbW.size; omega)
    gi_wp2
    refine ⟨by simp, .inl ⟨_, _, rfl, run_takeDeferred hK2, ?_⟩⟩
    exact ⟨.bool true, by simp [results, Tryz.results85, go_sem, x5], ⟨true, rfl, fun _ => hrow.out, fun _ => rfl⟩, hb5⟩
  case stop =>
    rintro D c W hD ⟨rfl, c1, hbk, hns⟩ hK
    have c5 := (Step.put (B := W0.heap.size) (o' := .deferred none) hK rfl hD).blk c1
    have x5 := c5.cell 0
    have hb5 := bl_put (o' := .deferred none) hbk hK (by have := hbW.size; omega)
    gi_wp2
    refine ⟨by simp, .inl ⟨_, _, rfl, run_takeDeferred hK, ?_⟩⟩
    exact ⟨.bool false, by simp [results, Tryz.results85, go_sem, x5], ⟨false, rfl, (by rintro ⟨⟩), fun h => absurd h hns⟩, hb5⟩
  case round =>
    rintro lp k x W hx hle ⟨r, hr⟩ ⟨⟨c0, c1, c2, c3, hbk⟩, hrow⟩
    have hkl : k < l.length := by
      have := (List.getElem?_eq_some_iff.1 hx).1
      rwa [sidesOf_len] at this
    rw [sidesOf_get hkl] at hx
    cases hx
    have hkn : nxt l k < l.length := nxt_lt k h0l
    replace hrow := Lib.hid hrow
    dsimp only [sideArgs]
    gi_wp2
    refine ⟨by (repeat (first | with_reducible exact KeepsFrom.refl _ _ | with_reducible apply kf_alloc | with_reducible apply kf_set | with_reducible apply kf_drew | with_reducible apply kf_after | (with_reducible refine kf_call ?_ (by assumption)))), fun r1 r2 hr1 => ?_⟩
    have st := Step.put (o' := .loop r2) hr1 rfl hle
    have z0 := c0.lt
    have z1 := c1.lt
    have z2 := c2.lt
    have z3 := c3.lt
    replace c0 := st.blk ((c0.alloc _).alloc _)
    replace c1 := st.blk ((c1.alloc _).alloc _)
    replace c2 := st.blk ((c2.alloc _).alloc _)
    replace c3 := st.blk ((c3.alloc _).alloc _)
    have c4 := st.blk ((Blk.new W 3 #[(Value.int .i64 ((k : Int)))]).alloc (.cells #[(Value.int .i64 ((pat l k).1)), (Value.int .i64 ((pat l k).2)), (Value.int .i64 ((pat l (nxt l k)).1)), (Value.int .i64 ((pat l (nxt l k)).2))] 146))
    have c5 := st.blk (Blk.new (W.alloc (.cells #[(Value.int .i64 ((k : Int)))] 3)) 146 #[(Value.int .i64 ((pat l k).1)), (Value.int .i64 ((pat l k).2)), (Value.int .i64 ((pat l (nxt l k)).1)), (Value.int .i64 ((pat l (nxt l k)).2))])
    have hlp : (((W.alloc (.cells #[(Value.int .i64 ((k : Int)))] 3)).alloc (.cells #[(Value.int .i64 ((pat l k).1)), (Value.int .i64 ((pat l k).2)), (Value.int .i64 ((pat l (nxt l k)).1)), (Value.int .i64 ((pat l (nxt l k)).2))] 146)).putObj lp (.loop r2)).heap[lp]? = some (.loop r2) := World.putObj_heap_same (heap_lt hr1)
    simp only [World.size_alloc] at c5
    replace hbk := st.below (bl_alloc (bl_alloc hbk)) hbW.size
    have hszW : W.heap.size = W.heap.size := rfl
    generalize ((W.alloc (.cells #[(Value.int .i64 ((k : Int)))] 3)).alloc (.cells #[(Value.int .i64 ((pat l k).1)), (Value.int .i64 ((pat l k).2)), (Value.int .i64 ((pat l (nxt l k)).1)), (Value.int .i64 ((pat l (nxt l k)).2))] 146)).putObj lp (.loop r2) = W2 at c0 c1 c2 c3 c4 c5 hlp hbk ⊢
    clear st hr1
    have x0 := c0.cell 0
    have l0 := c0.lt
    gi_wp2_with (gi_at_call 101; (first | with_reducible refine CallsIn.mono (callsIn_wide.2 (sides_any _ _ _ _)) ?_ | with_reducible refine CallsIn.mono (callsIn_rnd (sides_any _ _ _ _)) ?_); rintro e w' ⟨rfl, rfl⟩)
    have d6 := Blk.new W2 22 #[.slice (some ⟨b, o, none⟩) l.length ca]
    have hbi : Below w.heap.size w (W2.alloc (.cells #[.slice (some ⟨b, o, none⟩) l.length ca] 22)) := bl_alloc hbk
    have HSZ : Hid ((W2.alloc (.cells #[.slice (some ⟨b, o, none⟩) l.length ca] 22)).heap.size = W2.heap.size + 1) := Lib.hid (by simp)
    have hki : KeepsFrom W0.heap.size W2 (W2.alloc (.cells #[.slice (some ⟨b, o, none⟩) l.length ca] 22)) := by (repeat (first | with_reducible exact KeepsFrom.refl _ _ | with_reducible apply kf_alloc | with_reducible apply kf_set | with_reducible apply kf_drew | with_reducible apply kf_after | (with_reducible refine kf_call ?_ (by assumption))))
    have hlpi : (W2.alloc (.cells #[.slice (some ⟨b, o, none⟩) l.length ca] 22)).heap[lp]? = some (.loop r2) := (Below.heap_alloc W2 _ lp (heap_lt hlp)).trans hlp
    replace c0 := c0.alloc (.cells #[.slice (some ⟨b, o, none⟩) l.length ca] 22)
    replace c1 := c1.alloc (.cells #[.slice (some ⟨b, o, none⟩) l.length ca] 22)
    replace c2 := c2.alloc (.cells #[.slice (some ⟨b, o, none⟩) l.length ca] 22)
    replace c3 := c3.alloc (.cells #[.slice (some ⟨b, o, none⟩) l.length ca] 22)
    replace c4 := c4.alloc (.cells #[.slice (some ⟨b, o, none⟩) l.length ca] 22)
    replace c5 := c5.alloc (.cells #[.slice (some ⟨b, o, none⟩) l.length ca] 22)
    generalize W2.alloc (.cells #[.slice (some ⟨b, o, none⟩) l.length ca] 22) = W3 at c0 c1 c2 c3 c4 c5 d6 hbi HSZ hki hlpi ⊢
    clear x0 l0 hbk
    refine range_list_in (l₀ := lp) (r₀ := r2) hlpi (gf := 119) (lb := #[.pointer (some ⟨W2.heap.size, 0, none⟩)]) rfl (enters_of Tryz.func119 (by kernel_rfl) rfl) (sides_iter W2.heap.size b o ca l h0l (by omega)) (fun _ => rfl)
      (fun m W' => ((Blk W' w.heap.size 22 #[.slice (some ⟨b, o, none⟩) l.length ca] ∧ Blk W' (w.heap.size + 1) 4 #[.bool false] ∧ Blk W' (w.heap.size + 1 + 1) 3 #[(Value.int .i64 ((l.length : Int)))] ∧ Blk W' (w.heap.size + 1 + 1 + 1) 22 #[.slice (some ⟨b, o, none⟩) l.length ca] ∧ Below w.heap.size w W') ∧
        (Blk W' W.heap.size 3 #[(Value.int .i64 ((k : Int)))] ∧ Blk W' (W.heap.size + 1) 146 #[(Value.int .i64 ((pat l k).1)), (Value.int .i64 ((pat l k).2)), (Value.int .i64 ((pat l (nxt l k)).1)), (Value.int .i64 ((pat l (nxt l k)).2))] ∧ Blk W' W2.heap.size 22 #[.slice (some ⟨b, o, none⟩) l.length ca] ∧ KeepsFrom W0.heap.size W2 W')) ∧
        ∀ j, j < m → (j = nxt l k → (has (pat l k) (pat l (nxt l k)) (pat l (nxt l (nxt l k))) = false ∧ has (pat l (nxt l k)) (pat l (nxt l (nxt l k))) (pat l k) = false)) ∧ (j = k ∨ j = nxt l k ∨ nxt l j = k ∨ meets (pat l k) (pat l (nxt l k)) (pat l j) (pat l (nxt l j)) = false))
      (fun c W' => c = .ret ∧ Blk W' (w.heap.size + 1) 4 #[.bool false] ∧ Below w.heap.size w W' ∧ ¬ Simple l ∧ KeepsFrom W0.heap.size W2 W')
      (fun m W' W'' h hs => ⟨⟨⟨hs.blk h.1.1.1, hs.blk h.1.1.2.1, hs.blk h.1.1.2.2.1, hs.blk h.1.1.2.2.2.1, hs.below h.1.1.2.2.2.2 hbi.size⟩, hs.blk h.1.2.1, hs.blk h.1.2.2.1, hs.blk h.1.2.2.2.1, hs.keeps h.1.2.2.2.2 (by have := HSZ.out; omega)⟩, h.2⟩)
      (fun c W' W'' h hs => ⟨h.1, hs.blk h.2.1, hs.below h.2.2.1 hbi.size, h.2.2.2.1, hs.keeps h.2.2.2.2 (by have := HSZ.out; omega)⟩)
      (fun m W' h => ⟨h.1.2.2.2.1.cell 0, h.1.2.2.2.1.lt, hp.below h.1.1.2.2.2.2⟩)
      ⟨⟨⟨c0, c1, c2, c3, hbi⟩, c4, c5, d6, hki⟩, fun j hj => absurd hj (by omega)⟩ ?round2 ?done2 ?stop2
    case done2 =>
      rintro W' ⟨⟨⟨e0, e1, e2, e3, hb'⟩, e4, e5, e6, hk'⟩, hj⟩
      rw [sidesOf_len] at hj
      replace hj := Lib.hid hj
      gi_wp2
      refine ⟨hk', ⟨e0, e1, e2, e3, hb'⟩, fun i hi => ?_⟩
      rcases Nat.lt_succ_iff_lt_or_eq.1 hi with h | h
      · exact hrow.out i h
      · subst h
        exact ⟨(hj.out _ hkn).1 rfl, fun m hm => (hj.out m hm).2⟩
    case stop2 =>
      rintro c W' ⟨rfl, e1, hb', hns, hk'⟩
      gi_wp2
      exact ⟨hk', rfl, e1, hb', hns⟩
    case round2 =>
      have hs3 := hbi.size
      clear c0 c1 c2 c3 c4 c5 d6 hbi hki hlpi
      rintro lp2 m x W' hx hle2 ⟨r3, hr3⟩ ⟨⟨⟨e0, e1, e2, e3, hb'⟩, e4, e5, e6, hk'⟩, hj⟩
      have hml : m < l.length := by
        have := (List.getElem?_eq_some_iff.1 hx).1
        rwa [sidesOf_len] at this
      rw [sidesOf_get hml] at hx
      cases hx
      have hmn : nxt l m < l.length := nxt_lt m h0l
      replace hj := Lib.hid hj
      dsimp only [sideArgs]
      gi_wp2
      refine ⟨by (repeat (first | with_reducible exact KeepsFrom.refl _ _ | with_reducible apply kf_alloc | with_reducible apply kf_set | with_reducible apply kf_drew | with_reducible apply kf_after | (with_reducible refine kf_call ?_ (by assumption)))), fun r4 r5 hr4 => ?_⟩
      have st := Step.put (o' := .loop r5) hr4 rfl hle2
      have y4 := e4.lt
      have y5 := e5.lt
      replace e0 := st.blk (e0.alloc _)
      replace e1 := st.blk (e1.alloc _)
      replace e2 := st.blk (e2.alloc _)
      replace e3 := st.blk (e3.alloc _)
      replace e4 := st.blk (e4.alloc _)
      replace e5 := st.blk (e5.alloc _)
      replace e6 := st.blk (e6.alloc _)
      have e7 := st.blk (Blk.new W' 146 #[(Value.int .i64 ((pat l m).1)), (Value.int .i64 ((pat l m).2)), (Value.int .i64 ((pat l (nxt l m)).1)), (Value.int .i64 ((pat l (nxt l m)).2))])
      replace hb' := st.below (bl_alloc hb') hs3
      replace hk' := st.keeps (kf_alloc _ hk') (by have := HSZ.out; omega)
      generalize (W'.alloc (.cells #[(Value.int .i64 ((pat l m).1)), (Value.int .i64 ((pat l m).2)), (Value.int .i64 ((pat l (nxt l m)).1)), (Value.int .i64 ((pat l (nxt l m)).2))] 146)).putObj lp2 (.loop r5) = W4 at e0 e1 e2 e3 e4 e5 e6 e7 hb' hk' ⊢
      clear st hr4
      have x2 := e2.cell 0
      have l2 := e2.lt
      have x1 := e1.cell 0
      have f1 := e1.frozen 0
      have l1 := e1.lt
      have x4 := e4.cell 0
      have l4 := e4.lt
      have x5 := e5.cell 0
      have x51 := e5.cell 1
      have x52 := e5.cell 2
      have x53 := e5.cell 3
      have l5 := e5.lt
      have x7 := e7.cell 0
      have x71 := e7.cell 1
      have x72 := e7.cell 2
      have x73 := e7.cell 3
      have l7 := e7.lt
      have g1 : ((k : Int) + 1) % (l.length : Int) = (nxt l k : Int) := by simp [nxt]
      have g2 : ((m : Int) + 1) % (l.length : Int) = (nxt l m : Int) := by simp [nxt]
      have G := Lib.hid (And.intro g1 g2)
      clear g1 g2
      have FIN : ∀ V : World, Below W4.heap.size W4 V → ((m = nxt l k → (has (pat l k) (pat l (nxt l k)) (pat l (nxt l (nxt l k))) = false ∧ has (pat l (nxt l k)) (pat l (nxt l (nxt l k))) (pat l k) = false)) ∧ (m = k ∨ m = nxt l k ∨ nxt l m = k ∨ meets (pat l k) (pat l (nxt l k)) (pat l m) (pat l (nxt l m)) = false)) →
          KeepsFrom W3.heap.size W4 V ∧ (((Blk V w.heap.size 22 #[.slice (some ⟨b, o, none⟩) l.length ca] ∧ Blk V (w.heap.size + 1) 4 #[.bool false] ∧ Blk V (w.heap.size + 1 + 1) 3 #[(Value.int .i64 ((l.length : Int)))] ∧ Blk V (w.heap.size + 1 + 1 + 1) 22 #[.slice (some ⟨b, o, none⟩) l.length ca] ∧ Below w.heap.size w V) ∧
        (Blk V W.heap.size 3 #[(Value.int .i64 ((k : Int)))] ∧ Blk V (W.heap.size + 1) 146 #[(Value.int .i64 ((pat l k).1)), (Value.int .i64 ((pat l k).2)), (Value.int .i64 ((pat l (nxt l k)).1)), (Value.int .i64 ((pat l (nxt l k)).2))] ∧ Blk V W2.heap.size 22 #[.slice (some ⟨b, o, none⟩) l.length ca] ∧ KeepsFrom W0.heap.size W2 V)) ∧
        ∀ j, j < m + 1 → (j = nxt l k → (has (pat l k) (pat l (nxt l k)) (pat l (nxt l (nxt l k))) = false ∧ has (pat l (nxt l k)) (pat l (nxt l (nxt l k))) (pat l k) = false)) ∧ (j = k ∨ j = nxt l k ∨ nxt l j = k ∨ meets (pat l k) (pat l (nxt l k)) (pat l j) (pat l (nxt l j)) = false)) :=
        fun V hV hrw => ⟨keepsFrom_below hV, ⟨⟨e0.below hV, e1.below hV, e2.below hV, e3.below hV, bl_call hb' hV⟩, e4.below hV, e5.below hV, e6.below hV, kf_call hk' hV⟩,
          fun j hjm => by rcases Nat.lt_succ_iff_lt_or_eq.1 hjm with h | h; exact hj.out j h; subst h; exact hrw⟩
      have BAD : ∀ V : World, Below W4.heap.size W4 V → ¬ Simple l → KeepsFrom W3.heap.size W4 (V.setCell ⟨w.heap.size + 1, 0, none⟩ (.bool false)) ∧ (Blk (V.setCell ⟨w.heap.size + 1, 0, none⟩ (.bool false)) (w.heap.size + 1) 4 #[.bool false] ∧ Below w.heap.size w (V.setCell ⟨w.heap.size + 1, 0, none⟩ (.bool false)) ∧ ¬ Simple l ∧ KeepsFrom W0.heap.size W2 (V.setCell ⟨w.heap.size + 1, 0, none⟩ (.bool false))) :=
        fun V hV hns => ⟨kf_set _ _ (keepsFrom_below hV), by have h := (e1.below hV).set_ 0 (.bool false); simpa using h, (bl_call hb' hV).setCell (p := ⟨w.heap.size + 1, 0, none⟩) (by simp) _, hns, kf_set _ _ (kf_call hk' hV)⟩
      replace FIN := Lib.hid FIN
      replace BAD := Lib.hid BAD
      gi_wp2_with (first | (gi_at_call 102; (first | with_reducible refine CallsIn.mono (callsIn_wide.2 (has_any _ _ _ (HP.out _ (by assumption)) (HP.out _ (by assumption)) (HP.out _ (by assumption)) _)) ?_ | with_reducible refine CallsIn.mono (callsIn_rnd (has_any _ _ _ (HP.out _ (by assumption)) (HP.out _ (by assumption)) (HP.out _ (by assumption)) _)) ?_); rintro e w1 ⟨rfl, hb1⟩; first | ((with_reducible apply kp_in_step (hb := hb1)); (with_reducible assumption); rintro ⟨hk, hc, hf, hzc, hzf⟩) | ((with_reducible refine kp_in_first hb1 ?_); rintro ⟨hk, hc, hf, hzc, hzf⟩)) | (gi_at_call 103; (first | with_reducible refine CallsIn.mono (callsIn_wide.2 (meets_any _ _ _ _ (HP.out _ (by assumption)) (HP.out _ (by assumption)) (HP.out _ (by assumption)) (HP.out _ (by assumption)) _)) ?_ | with_reducible refine CallsIn.mono (callsIn_rnd (meets_any _ _ _ _ (HP.out _ (by assumption)) (HP.out _ (by assumption)) (HP.out _ (by assumption)) (HP.out _ (by assumption)) _)) ?_); rintro e w1 ⟨rfl, hb1⟩; first | ((with_reducible apply kp_in_step (hb := hb1)); (with_reducible assumption); rintro ⟨hk, hc, hf, hzc, hzf⟩) | ((with_reducible refine kp_in_first hb1 ?_); rintro ⟨hk, hc, hf, hzc, hzf⟩)))
      · have h1 : ((k : Int) == (m : Int)) = true := by assumption
        simp only [beq_iff_eq] at h1
        have h2 : m = k := by omega
        exact FIN.out _ (by (repeat (first | with_reducible exact Below.refl _ _ | with_reducible apply bl_alloc | with_reducible apply bl_drew | with_reducible apply bl_after | (with_reducible refine bl_call ?_ (by assumption))))) ⟨fun h => absurd (h2.symm.trans h) (nxt_ne hn hkl).symm, .inl h2⟩
      · have h1 : ((m : Int) == ((k : Int) + 1) % (l.length : Int)) = true := by assumption
        have h3 : has (pat l k) (pat l (nxt l k)) (pat l (nxt l m)) = true := by assumption
        rw [G.out.1] at h1
        simp only [beq_iff_eq] at h1
        obtain rfl : m = nxt l k := by omega
        have hbad := BAD.out w1 (by (repeat (first | with_reducible exact Below.refl _ _ | with_reducible apply bl_alloc | with_reducible apply bl_drew | with_reducible apply bl_after | (with_reducible refine bl_call ?_ (by assumption))))) fun h => by rw [(h k hkl).1.1] at h3; cases h3
        exact ⟨hbad.1, rfl, hbad.2⟩
      · have h1 : ((m : Int) == ((k : Int) + 1) % (l.length : Int)) = true := by assumption
        have h3 : has (pat l m) (pat l (nxt l m)) (pat l k) = true := by assumption
        rw [G.out.1] at h1
        simp only [beq_iff_eq] at h1
        obtain rfl : m = nxt l k := by omega
        have hbad := BAD.out w1 (by (repeat (first | with_reducible exact Below.refl _ _ | with_reducible apply bl_alloc | with_reducible apply bl_drew | with_reducible apply bl_after | (with_reducible refine bl_call ?_ (by assumption))))) fun h => by rw [(h k hkl).1.2] at h3; cases h3
        exact ⟨hbad.1, rfl, hbad.2⟩
      · have h1 : ((m : Int) == ((k : Int) + 1) % (l.length : Int)) = true := by assumption
        have h3 : ¬ has (pat l k) (pat l (nxt l k)) (pat l (nxt l m)) = true := by assumption
        have h4 : has (pat l m) (pat l (nxt l m)) (pat l k) = false := by assumption
        rw [G.out.1] at h1
        simp only [beq_iff_eq] at h1
        obtain rfl : m = nxt l k := by omega
        exact FIN.out _ (by (repeat (first | with_reducible exact Below.refl _ _ | with_reducible apply bl_alloc | with_reducible apply bl_drew | with_reducible apply bl_after | (with_reducible refine bl_call ?_ (by assumption))))) ⟨fun _ => ⟨by simpa using h3, h4⟩, .inr (.inl rfl)⟩
      · have h1 : ((m : Int) == ((k : Int) + 1) % (l.length : Int)) = false := by assumption
        rw [G.out.1] at h1
        simp only [beq_eq_false_iff_ne, ne_eq] at h1
        have h1' : m ≠ nxt l k := by omega
        (first | refine wpIn_after_w (by kernel_rfl) (by kernel_rfl) (by kernel_rfl) ?_ | refine wpIn_after_r (by kernel_rfl) (by kernel_rfl) (by kernel_rfl) ?_); (repeat (go_big_quiet_step ((fail)))); refine wpQuiet_nil ?_; rintro _ ⟨z, rfl⟩; (first | ((with_reducible apply kp_in_after (z := z)); (with_reducible assumption); rintro ⟨hk, hc, hf, hzc, hzf⟩) | ((with_reducible refine kp_in_after0 z ?_); rintro ⟨hk, hc, hf, hzc, hzf⟩))
        gi_wp2_with (gi_at_call 103; (first | with_reducible refine CallsIn.mono (callsIn_wide.2 (meets_any _ _ _ _ (HP.out _ (by assumption)) (HP.out _ (by assumption)) (HP.out _ (by assumption)) (HP.out _ (by assumption)) _)) ?_ | with_reducible refine CallsIn.mono (callsIn_rnd (meets_any _ _ _ _ (HP.out _ (by assumption)) (HP.out _ (by assumption)) (HP.out _ (by assumption)) (HP.out _ (by assumption)) _)) ?_); rintro e w1 ⟨rfl, hb1⟩; first | ((with_reducible apply kp_in_step (hb := hb1)); (with_reducible assumption); rintro ⟨hk, hc, hf, hzc, hzf⟩) | ((with_reducible refine kp_in_first hb1 ?_); rintro ⟨hk, hc, hf, hzc, hzf⟩))
        · have h2 : ((k : Int) == ((m : Int) + 1) % (l.length : Int)) = true := by assumption
          rw [G.out.2] at h2
          simp only [beq_iff_eq] at h2
          exact FIN.out _ (by (repeat (first | with_reducible exact Below.refl _ _ | with_reducible apply bl_alloc | with_reducible apply bl_drew | with_reducible apply bl_after | (with_reducible refine bl_call ?_ (by assumption))))) ⟨fun h => absurd h h1', .inr (.inr (.inl (by omega)))⟩
        · have h0 : ((k : Int) == (m : Int)) = false := by assumption
          have h2 : ((k : Int) == ((m : Int) + 1) % (l.length : Int)) = false := by assumption
          have h3 : meets (pat l k) (pat l (nxt l k)) (pat l m) (pat l (nxt l m)) = true := by assumption
          rw [G.out.2] at h2
          simp only [beq_eq_false_iff_ne, ne_eq] at h0 h2
          have hbad := BAD.out w1 (by (repeat (first | with_reducible exact Below.refl _ _ | with_reducible apply bl_alloc | with_reducible apply bl_drew | with_reducible apply bl_after | (with_reducible refine bl_call ?_ (by assumption))))) fun h => by rcases (h k hkl).2 m hml with h | h | h | h <;> first | omega | (rw [h] at h3; cases h3)
          exact ⟨hbad.1, rfl, hbad.2⟩
        · have h3 : meets (pat l k) (pat l (nxt l k)) (pat l m) (pat l (nxt l m)) = false := by assumption
          exact FIN.out _ (by (repeat (first | with_reducible exact Below.refl _ _ | with_reducible apply bl_alloc | with_reducible apply bl_drew | with_reducible apply bl_after | (with_reducible refine bl_call ?_ (by assumption))))) ⟨fun h => absurd h h1', .inr (.inr (.inr h3))⟩
end Go.Proofs.YthijegacjboclaaGreat
