/- A law reads its arguments as points and numbers, and reads the same behind a call that changes nothing old, for any arguments. -/
import Derived.Test.YthijegacjboclaaGreatJOwn
import Derived.ProofKit
import Derived.Below
import Derived.Deep.Slices
import Derived.Deep.Fields
import Derived.Lib.SmallJoins
/- How the arguments of a law are read: a slice of points, a point, numbers; and that they read the same behind the call. -/
namespace Go.Proofs.YthijegacjboclaaGreat
open Go.ChangeShapes Go.WideShapes Go.Deep Go.RowKit

theorem own_knob : ownKnob Tryz.prog.godebug = none := by kernel_rfl
theorem laid_out : laidOutB Tryz.prog = true := by kernel_rfl
theorem und_int : Tryz.prog.underlying 3 = some (.int .i64) := by kernel_rfl
theorem und_bool : Tryz.prog.underlying 4 = some .bool := by kernel_rfl
theorem cellsPt : Tryz.prog.cellsOf 98 = 2 := by kernel_rfl

section
variable {H : Type} {enc : TypeId × Value → H} {P : Program} {w : World} {base : Nat} {spare : Nat → Bool} {held : Bool}
theorem open_slice_fields {t e : TypeId} {fs : Array Field} {fuel : Nat} {cs : List Value} {x : DataW H × List MemPlace} (ht : P.underlying t = some (.slice e)) (he : P.underlying e = some (.struct fs))
    (hone : oneCellFields P fs = true) (hC : P.cellsOf e = fs.size) (h : DataW.trod enc P w base spare held fuel t cs = some x) :
    (cs = [.slice none 0 0] ∧ x = (.nil, [])) ∨
    ∃ (a : Addr) (len cap m : Nat) (D : Nat → DataW H) (Pl : Nat → List MemPlace), cs = [.slice (some a) len cap] ∧ base ≤ a.block ∧ len ≤ cap ∧ cap ≤ maxLen ∧ m = (if spare a.block then cap else len) ∧
      x = (.slice ((List.range len).map D) ((List.range (m - len)).map fun j => D (len + j)), MemPlace.row a (m * fs.size) ++ (List.range m).flatMap Pl) ∧
      ∀ i, i < m → ∃ (ys : List (DataW H × List MemPlace)) (n : Nat), D i = .agg (ys.map (·.1)) ∧ Pl i = ys.flatMap (·.2) ∧ ys.length = fs.size ∧
        ∀ (j : Nat) (f : Field), fs[j]? = some f → ∃ (v : Value) (y : DataW H × List MemPlace), w.cell? (a.add (i * fs.size + j)) = some v ∧ ys[j]? = some y ∧ DataW.trod enc P w base spare held n f.type [v] = some y := by
  rcases open_slice ht h with h0 | ⟨a, len, cap, m, n, D, Pl, hcs, hb, hl, hm, hmm, hx, hi⟩
  · exact .inl h0
  · refine .inr ⟨a, len, cap, m, D, Pl, hcs, hb, hl, hm, hmm, by rw [hC] at hx; exact hx, fun i him => ?_⟩
    obtain ⟨cs', hc, ht'⟩ := hi i him
    rw [hC] at hc
    obtain ⟨ys, n', hn', hy, hlen, hyl, hf⟩ := DataW.trod_struct he ht'
    obtain ⟨_, hcl, hat⟩ := World.cells?_some hc
    simp only [Prod.mk.injEq] at hy
    refine ⟨ys, n', hy.1, hy.2, hyl, fun j f hj => ?_⟩
    obtain ⟨ho, hk⟩ := hone_of hone j f hj
    have hjl : j < fs.size := (Array.getElem?_eq_some_iff.1 hj).1
    have hcell := hat j hjl
    have hv : cs'[j]? = some (cs'[j]'(by omega)) := List.getElem?_eq_getElem (by omega)
    have h1 := hf j f hj
    rw [ho, hk] at h1
    have hone' : (cs'.drop j).take 1 = [cs'[j]'(by omega)] := by
      rw [List.drop_eq_getElem_cons (by omega)]
      rfl
    rw [hone'] at h1
    have hys : ys[j]? = some (ys[j]'(by omega)) := List.getElem?_eq_getElem (by omega)
    refine ⟨_, _, ?_, hys, h1.trans hys⟩
    rw [← Go.Deep.add_add, hcell, hv]

theorem cell_lt {W : World} {b o : Nat} {v : Value} (h : W.cell? ⟨b, o, none⟩ = some v) : b < W.heap.size := by
  refine Nat.not_le.1 fun hn => ?_
  simp [World.cell?, Array.getElem?_eq_none hn] at h
/-- The numbers of a cell, or nothing. -/
def intOfV : Value → Int
  | .int .i64 n => n
  | _ => 0
theorem open_points {W : World} {v : Value} {d : DataW H} {p : List MemPlace} (hv : ∃ a len cap, v = .slice a len cap) (h : DataW.Trod enc Tryz.prog W 0 (fun _ => true) true 22 v d p) :
    ∃ A ca l, v = .slice A l.length ca ∧ Pts W A l ∧ l.length ≤ 9223372036854775807 := by
  obtain ⟨fuel, hf⟩ := h
  obtain ⟨a0, n0, c0, rfl⟩ := hv
  obtain ⟨fs, hfs, hfz, h0, h1, hone⟩ : ∃ fs, Tryz.prog.underlying 98 = some (.struct fs) ∧ fs.size = 2 ∧ (fs[0]?.map (·.type)) = some 3 ∧ (fs[1]?.map (·.type)) = some 3 ∧ oneCellFields Tryz.prog fs = true := ⟨_, Tryz.underlying98, by kernel_rfl, by kernel_rfl, by kernel_rfl, by kernel_rfl⟩
  rcases open_slice_fields undPts hfs hone (by rw [hfz]; exact cellsPt) hf with ⟨hcs, _⟩ | ⟨a, len, cap, m, D, Pl, hcs, _, hl, hm, hmm, _, hi⟩
  · simp only [Value.cells, List.cons.injEq, Value.slice.injEq, and_true] at hcs
    obtain ⟨rfl, rfl, rfl⟩ := hcs
    exact ⟨none, 0, [], rfl, .inl rfl, by simp⟩
  · simp only [Value.cells, List.cons.injEq, Value.slice.injEq, and_true] at hcs
    obtain ⟨rfl, rfl, rfl⟩ := hcs
    simp only [if_true] at hmm
    subst hmm
    obtain ⟨f0, hf0, t0⟩ := Option.map_eq_some_iff.1 h0
    obtain ⟨f1, hf1, t1⟩ := Option.map_eq_some_iff.1 h1
    have hX : ∀ i, i < n0 → ∃ x y : Int, W.cell? (a.add (i * 2)) = some (Value.int .i64 (x)) ∧ W.cell? (a.add (i * 2 + 1)) = some (Value.int .i64 (y)) := by
      intro i hin
      obtain ⟨ys, n, _, _, _, hj⟩ := hi i (by omega)
      obtain ⟨v0, y0, e0, _, r0⟩ := hj 0 f0 hf0
      obtain ⟨v1, y1, e1, _, r1⟩ := hj 1 f1 hf1
      rw [t0] at r0
      rw [t1] at r1
      rw [hfz] at e0 e1
      obtain ⟨x, ex, _, _⟩ := DataW.trod_int und_int r0
      obtain ⟨y, ey, _, _⟩ := DataW.trod_int und_int r1
      simp only [List.cons.injEq, and_true] at ex ey
      subst ex; subst ey
      exact ⟨x, y, e0, e1⟩
    have hML : maxLen ≤ 9223372036854775807 := by unfold maxLen; omega
    refine ⟨some a, m, (List.range n0).map fun i => (((W.cell? (a.add (i * 2))).map intOfV).getD 0, ((W.cell? (a.add (i * 2 + 1))).map intOfV).getD 0), by simp, ?_, by simp; omega⟩
    rcases Nat.eq_zero_or_pos n0 with rfl | hpos
    · exact .inl rfl
    · obtain ⟨b, o, spot⟩ := a
      have hs : spot = none := by
        obtain ⟨x, y, e0, _⟩ := hX 0 hpos
        simpa [Addr.add] using World.cell?_spot e0
      subst hs
      refine .inr ⟨b, o, rfl, ?_, fun i p hp => ?_, fun i p hp => ?_⟩
      · obtain ⟨x, y, e0, _⟩ := hX 0 hpos
        rw [add_at] at e0
        exact cell_lt e0
      all_goals
        have hin : i < n0 := by
          have := (List.getElem?_eq_some_iff.1 hp).1
          simpa using this
        obtain ⟨x, y, e0, e1⟩ := hX i hin
        simp only [List.getElem?_map, List.getElem?_range hin, Option.map_some, Option.some.injEq] at hp
        subst hp
        rw [e0, e1]
        rw [add_at] at e0 e1
        first | exact e0 | exact e1

set_option maxRecDepth 100000 in
theorem open_point {W : World} {r : Reach} {b0 : Nat} {v : Value} {d : DataW H} {p : List MemPlace} (hv : Value.okWide Tryz.prog W r b0 98 v) (h : DataW.Trod enc Tryz.prog W 0 (fun _ => true) true 98 v d p) :
    ∃ q : Pt, v = (Value.agg #[.int .i64 q.1, .int .i64 q.2]) ∧ (Lit.int .i64 q.1).wf = true ∧ (Lit.int .i64 q.2).wf = true := by
  obtain ⟨c0, c1, y0, y1, m, rfl, rfl, rfl, h0, h1⟩ := Go.Joins.open_agg2 Tryz.underlying98 (by kernel_rfl) cellsPt hv h
  obtain ⟨x, ex, _, wx⟩ := DataW.trod_int und_int h0
  obtain ⟨y, ey, _, wy⟩ := DataW.trod_int und_int h1
  simp only [List.cons.injEq, and_true] at ex ey
  subst ex; subst ey
  exact ⟨(x, y), rfl, wx, wy⟩

theorem args_stay {W W' : World} (hb : Below W.heap.size W W') {sp : Nat → Bool} : ∀ {ts : List TypeId} {vs : List Value} {ds : List (DataW H)} {ps : List MemPlace}, (∀ t ∈ ts, Tryz.prog.readableRec t = true ∧ t < Tryz.prog.types.size) →
    DataW.TrodAll enc Tryz.prog W 0 (fun _ => true) true ts vs ds ps → (∀ p ∈ ps, sp p.block = true) → DataW.TrodAll enc Tryz.prog W' 0 sp true ts vs ds ps
  | [], [], [], _, _, h, _ => h
  | [], _ :: _, _, _, _, h, _ => by cases (trodAll_nil h).1
  | [], [], _ :: _, _, _, h, _ => by cases (trodAll_nil h).2.1
  | _ :: _, [], _, _, _, h, _ => by obtain ⟨_, _, _, _, _, _, e, _⟩ := trodAll_cons h; cases e
  | _ :: _, _ :: _, [], _, _, h, _ => by obtain ⟨_, _, _, _, _, _, _, e, _⟩ := trodAll_cons h; cases e
  | t :: ts, v :: vs, d :: ds, ps, hr, h, hs => by
    have hlt := DataW.TrodAll.lt h
    obtain ⟨p, q, h1, h2, rfl⟩ := h
    refine ⟨p, q, WideElems.Trod_stays laid_out (hr t (by simp)).1 (hr t (by simp)).2 h1 (fun x hx => hb.same (hlt x (by simp [hx]))) (fun x hx => hs x (by simp [hx])), ?_, rfl⟩
    exact args_stay hb (fun t ht => hr t (by simp [ht])) h2 (fun x hx => hs x (by simp [hx]))

theorem post_of_below {f : Func} {s : ChangeSpec} {apart fresh handsOn again : Bool} {W W' : World} {args : Array Value} {v : Value} {ds gs : List (DataW H)} {before pa pv : List MemPlace}
    (hW : DataW.Whole enc P f.params.toList s.vars apart W args.toList ds gs before)
    (hres : ∀ (b : Nat) (sp : Nat → Bool) (hd : Bool), DataW.TrodAll enc P W' b sp hd f.resultTypes.toList (v.resultList f.resultTypes.size) (s.fn H (ds ++ gs)).results [])
    (hargs : ∀ sp : Nat → Bool, (∀ p ∈ before, sp p.block = true) → DataW.TrodAll enc P W' 0 sp true f.params.toList args.toList (s.fn H (ds ++ gs)).args pa)
    (hvars : ∀ sp : Nat → Bool, (∀ p ∈ before, sp p.block = true) → DataW.TrodVars enc P W' sp s.vars (s.fn H (ds ++ gs)).vars pv)
    (hps : before = pa ++ pv) (hb : Below W.heap.size W W')
    (hok : ∀ (j : Nat) (t : TypeId) (r : Value), f.resultTypes[j]? = some t → (v.resultList f.resultTypes.size)[j]? = some r → Value.okWide P W' .any 0 t r) :
    s.post enc P f apart fresh handsOn again W args v W' := by
  have hlt : ∀ p ∈ before, p.block < W.heap.size := fun p hp => hW.lt p hp
  have hold : ∀ p ∈ before, (fun b => decide (b < W.heap.size)) p.block = true := fun p hp => by simpa using hlt p hp
  refine ⟨ds, gs, before, [], pa, pv, hW, hres _ _ _, hargs _ hold, hvars _ hold, World.keptBut_mono (fun p hp => ⟨hp, ?_⟩) (hb.frame (· ∈ before)), fun _ => ?_⟩
  · rw [hps, List.mem_append] at hp
    exact Or.inr hp
  · obtain ⟨_, _, _, _, _, hz, hn⟩ := hW
    refine ⟨hok, _, _, ([] ++ pa) ++ pv, ⟨[] ++ pa, pv, trodAll_append (hargs _ (fun _ _ => rfl)) (hres _ _ _), hvars _ (fun _ _ => rfl), rfl, ?_, ?_⟩, ?_⟩
    · intro b off hp
      have hin : MemPlace.cell b off ∈ before := by rw [hps]; simpa using hp
      rw [hb.frozen (hlt _ hin)]
      exact hz b off hin
    · intro ha
      have := hn ha
      rw [hps] at this
      simpa using this
    · intro p hp _
      rw [hps]
      simpa using hp
end
end Go.Proofs.YthijegacjboclaaGreat
