/- The function open of discord answers the file of a dispute with all its stories. -/
import Derived.Test.YthijegacjboclaaGreatSto
import Derived.Test.YthijegacjboclaaGreatFle
import Derived.Test.YthijegacjboclaaGreatDck
import Derived.Test.YthijegacjboclaaGreatLs8
namespace Go.Proofs.YthijegacjboclaaGreat
open Go.RowKit Go.Maps
attribute [local go_sem] After.cell After.frozen AfterM.cell AfterM.frozen

theorem pts_ne_obj {w : World} {b g : Nat} {l : List Pt} (hp : PtsAt w b 0 l) (hl : 0 < l.length) (hg : ∀ v, w.cell? ⟨g, 0, none⟩ ≠ some v) : b ≠ g := fun e => by
  subst e
  have h1 := hp.xp hl
  rw [Nat.zero_mul, Nat.zero_add] at h1
  exact hg _ h1
theorem map_no_cell {w : World} {P : Program} {k : TypeId} {R : Value → Option (DataW (Nat × Nat) × List MemPlace)} {g nn : Nat} {F : DataW (Nat × Nat)} (h : w.ownsMap P k R g nn F) (v : Value) : w.cell? ⟨g, 0, none⟩ ≠ some v := by
  obtain ⟨es, c, hb, _⟩ := h
  simp [World.cell?, hb]
theorem iter_no_cell {w : World} {P : Program} {k : TypeId} {R : Value → Option (DataW (Nat × Nat) × List MemPlace)} {b g nn : Nat} {F : DataW (Nat × Nat)} {left : Lit → Bool} {cnt : Nat} (h : w.ranges P k R b g nn F left cnt) (v : Value) : w.cell? ⟨g, 0, none⟩ ≠ some v := by
  obtain ⟨es, c, s, sn, c0, _, _, _, _, hb, _⟩ := h
  simp [World.cell?, hb]
theorem Fnd.off {D : Dsp} {w w' : World} {bm nn r : Nat} {F : DataW (Nat × Nat)} {S : Nat × Int → Prop} (h : Fnd D w bm nn F S) (hm : ∀ v, w.cell? ⟨r, 0, none⟩ ≠ some v) (hg : w.grownBy w' (some r)) (hr : bm ≠ r) : Fnd D w' bm nn F S :=
  h.grown hg hr fun x bc hx hb => by
    obtain ⟨_, l, h2, h3⟩ := h.good x bc hx hb
    exact pts_ne_obj h2 (by have := h3.1.2.2.1; omega) hm
theorem Sto.off {D : Dsp} {w w' : World} {st nn r : Nat} {F : DataW (Nat × Nat)} {S : Nat × Nat × Int → Prop} (h : Sto D w st nn F S) (hm : ∀ v, w.cell? ⟨r, 0, none⟩ ≠ some v) (hg : w.grownBy w' (some r)) (hr : st ≠ r) : Sto D w' st nn F S :=
  ⟨h.own.kept hg (by simpa using hr), h.map, fun k bc hk hbc => by
    obtain ⟨h1, l, h2, h3⟩ := h.good k bc hk hbc
    exact ⟨h1, l, h2.grown hg (by simpa using pts_ne_obj h2 (by have := h3.1.2.2.1; omega) hm), h3⟩⟩
/-- What the loop over all kinds keeps. -/
structure OpI (A : Option Addr) (ca : Nat) (B : Option Addr) (cb : Nat) (C : Option Addr) (cc : Nat) (D : Dsp) (w0 : World) (gf st bm r nn : Nat) (F : DataW (Nat × Nat)) (left : Lit → Bool) (cnt nS : Nat) (G : DataW (Nat × Nat)) (T : Nat × Nat × Int → Prop) (w : World) : Prop where
  rg : w.ranges Tryz.prog 115 (fldR D.cs.length) bm r nn F left cnt
  fnd : Fnd D w bm nn F (begF D [])
  sto : Sto D w st nS G T
  c1 : Blk w w0.heap.size 30 #[.slice A D.cs.length ca, .slice B D.offs.length cb, (Value.int .i64 (D.unit)), (Value.int .i64 (D.wh.full)), (Value.int .i64 (D.wh.read)), (Value.int .i64 (D.wh.slip)), (Value.int .i64 (D.wh.skew)), (Value.int .i64 (D.wh.circle)), (Value.int .i64 (D.wh.glo)), (Value.int .i64 (D.wh.ghi)), (Value.int .i64 (D.wh.wrong)), .slice C D.wks.length cc]
  cF : Blk w gf 70 #[.slice A D.cs.length ca, .slice B D.offs.length cb, (Value.int .i64 (D.unit)), (Value.int .i64 (D.wh.full)), (Value.int .i64 (D.wh.read)), (Value.int .i64 (D.wh.slip)), (Value.int .i64 (D.wh.skew)), (Value.int .i64 (D.wh.circle)), (Value.int .i64 (D.wh.glo)), (Value.int .i64 (D.wh.ghi)), (Value.int .i64 (D.wh.wrong)), .slice C D.wks.length cc, .map (some st)]
  bw : Below w0.heap.size w0 w
section
variable {A B C : Option Addr} {ca cb cc : Nat} {D : Dsp} {w0 : World} {gf st bm r nn : Nat} {F : DataW (Nat × Nat)} {left : Lit → Bool} {cnt nS : Nat} {G : DataW (Nat × Nat)} {T : Nat × Nat × Int → Prop} {w w' : World}
theorem OpI.below (h : OpI A ca B cb C cc D w0 gf st bm r nn F left cnt nS G T w) (hb : Below w.heap.size w w') : OpI A ca B cb C cc D w0 gf st bm r nn F left cnt nS G T w' :=
  ⟨h.rg.kept (grown_below (r := none) hb) (by simp) (by simp), h.fnd.below hb, h.sto.below hb, h.c1.below hb, h.cF.below hb, bl_call h.bw hb⟩
theorem OpI.congr {T' : Nat × Nat × Int → Prop} (h : OpI A ca B cb C cc D w0 gf st bm r nn F left cnt nS G T w) (hT : ∀ k, T' k ↔ T k) : OpI A ca B cb C cc D w0 gf st bm r nn F left cnt nS G T' w :=
  ⟨h.rg, h.fnd, h.sto.congr hT, h.c1, h.cF, h.bw⟩
/-- One kind comes out of the map. -/
theorem OpI.next {left' : Lit → Bool} {cnt' : Nat} (h : OpI A ca B cb C cc D w0 gf st bm r nn F left cnt nS G T w) (hg : w.grownBy w' (some r)) (hrg : w'.ranges Tryz.prog 115 (fldR D.cs.length) bm r nn F left' cnt') (hr : w0.heap.size < r ∧ gf ≠ r ∧ st ≠ r) : OpI A ca B cb C cc D w0 gf st bm r nn F left' cnt' nS G T w' :=
  ⟨hrg, h.fnd.off (iter_no_cell h.rg) hg h.rg.ne.symm, h.sto.off (iter_no_cell h.rg) hg hr.2.2, h.c1.grown_ hg (by simp only [ne_eq, Option.some.injEq]; omega), h.cF.grown_ hg (by simpa using hr.2.1),
    ⟨hg.os.trans h.bw.os, hg.tape.trans h.bw.tape, hg.output.trans h.bw.output, Nat.le_trans h.bw.size hg.size, fun k hk => (hg.block k (by have := h.bw.size; omega) (by simp only [ne_eq, Option.some.injEq]; omega)).trans (h.bw.block k hk)⟩⟩
/-- A story more. -/
theorem OpI.put {T' : Nat × Nat × Int → Prop} {nS' : Nat} {G' : DataW (Nat × Nat)} (h : OpI A ca B cb C cc D w0 gf st bm r nn F left cnt nS G T w) (hg : w.grownBy w' (some st)) (hS : Sto D w' st nS' G' T') (hr : w0.heap.size < st ∧ gf ≠ st ∧ bm ≠ st ∧ r ≠ st) : OpI A ca B cb C cc D w0 gf st bm r nn F left cnt nS' G' T' w' :=
  ⟨h.rg.kept hg (by simpa using hr.2.2.1) (by simpa using hr.2.2.2), h.fnd.off (map_no_cell h.sto.own) hg hr.2.2.1, hS, h.c1.grown_ hg (by simp only [ne_eq, Option.some.injEq]; omega), h.cF.grown_ hg (by simpa using hr.2.1),
    ⟨hg.os.trans h.bw.os, hg.tape.trans h.bw.tape, hg.output.trans h.bw.output, Nat.le_trans h.bw.size hg.size, fun k hk => (hg.block k (by have := h.bw.size; omega) (by simp only [ne_eq, Option.some.injEq]; omega)).trans (h.bw.block k hk)⟩⟩
end
theorem bl_setc8 {w X : World} {b o : Nat} {v : Value} (h : Below w.heap.size w X) (hb : w.heap.size ≤ b) : Below w.heap.size w (X.setCell ⟨b, o, none⟩ v) := h.setCell (p := ⟨b, o, none⟩) hb v
theorem pass_split {S : Nat × Int → Prop} {F : DataW (Nat × Nat)} {left : Lit → Bool} {x : Nat × Int} {Q : Nat × Int → Prop} (hM : MapOf kdV kdL Tryz.prog 115 F S) (hx : S x) : (∃ y, passed kdL S (fun z => left z && !z.sameKey (kdL x)) y ∧ Q y) ↔ (∃ y, passed kdL S left y ∧ Q y) ∨ Q x := by
  constructor
  · rintro ⟨y, hy, hq⟩
    rcases (passed_next kdKeyed hM kdV_inj hx y).1 hy with hy | rfl
    · exact .inl ⟨y, hy, hq⟩
    · exact .inr hq
  · rintro (⟨y, hy, hq⟩ | hq)
    · exact ⟨y, (passed_next kdKeyed hM kdV_inj hx y).2 (.inl hy), hq⟩
    · exact ⟨x, (passed_next kdKeyed hM kdV_inj hx x).2 (.inr rfl), hq⟩
theorem sto_size {D : Dsp} {w : World} {st nn : Nat} {G : DataW (Nat × Nat)} {S : Nat × Nat × Int → Prop} (h : Sto D w st nn G S) : Maps.size G = 0 ↔ ∀ k, ¬ S k := by
  obtain ⟨es, rfl, _, hk⟩ := h.own.entries stKeyed
  constructor
  · intro hz k hS
    have h1 := h.map.has_ hS
    have : es = [] := List.eq_nil_of_length_eq_zero hz
    subst this
    simp [Maps.has] at h1
  · intro hno
    match es, hk with
    | [], _ => rfl
    | p :: t, hk =>
      have h1 : Maps.has (DataW.map (p :: t)) p.1 = true := by
        simp only [Maps.has, List.any_cons, Bool.or_eq_true]
        exact .inl (WideAt.sameKey_self (hk p List.mem_cons_self))
      obtain ⟨x, hx, _⟩ := h.map.all _ h1
      exact absurd hx (hno x)
section
variable (A B C : Option Addr) (ca cb cc : Nat) (D : Dsp) (w : World) (ha : Pts w A D.cs) (hb : Ints w B D.offs) (hc : Wks w C D.wks)
include ha hb hc
set_option maxRecDepth 100000 in
set_option maxHeartbeats 2000000 in
theorem open_bad (is : Bool) (hD : dspB D = false) :
    Calls Tryz.prog 38 #[(Value.agg #[.slice A D.cs.length ca, .slice B D.offs.length cb, (Value.int .i64 (D.unit)), (Value.int .i64 (D.wh.full)), (Value.int .i64 (D.wh.read)), (Value.int .i64 (D.wh.slip)), (Value.int .i64 (D.wh.skew)), (Value.int .i64 (D.wh.circle)), (Value.int .i64 (D.wh.glo)), (Value.int .i64 (D.wh.ghi)), (Value.int .i64 (D.wh.wrong)), .slice C D.wks.length cc]), .bool is] w fun e w' => e = .returned (.tuple #[.pointer none, (Value.int .i64 (80))]) ∧ Below w.heap.size w w' := by
  have c0 : Blk (w.alloc (.cells #[.slice A D.cs.length ca, .slice B D.offs.length cb, (Value.int .i64 (D.unit)), (Value.int .i64 (D.wh.full)), (Value.int .i64 (D.wh.read)), (Value.int .i64 (D.wh.slip)), (Value.int .i64 (D.wh.skew)), (Value.int .i64 (D.wh.circle)), (Value.int .i64 (D.wh.glo)), (Value.int .i64 (D.wh.ghi)), (Value.int .i64 (D.wh.wrong)), .slice C D.wks.length cc] 30)) w.heap.size 30 #[.slice A D.cs.length ca, .slice B D.offs.length cb, (Value.int .i64 (D.unit)), (Value.int .i64 (D.wh.full)), (Value.int .i64 (D.wh.read)), (Value.int .i64 (D.wh.slip)), (Value.int .i64 (D.wh.skew)), (Value.int .i64 (D.wh.circle)), (Value.int .i64 (D.wh.glo)), (Value.int .i64 (D.wh.ghi)), (Value.int .i64 (D.wh.wrong)), .slice C D.wks.length cc] := Blk.new _ _ _
  (have la := c0.lt); (have ya0 := c0.cell 0); (have ya1 := c0.cell 1); (have ya2 := c0.cell 2); (have ya3 := c0.cell 3); (have ya4 := c0.cell 4); (have ya5 := c0.cell 5); (have ya6 := c0.cell 6); (have ya7 := c0.cell 7); (have ya8 := c0.cell 8); (have ya9 := c0.cell 9); (have ya10 := c0.cell 10); (have ya11 := c0.cell 11); simp only [List.getElem?_toArray, List.getElem?_cons_zero, List.getElem?_cons_succ] at ya0 ya1 ya2 ya3 ya4 ya5 ya6 ya7 ya8 ya9 ya10 ya11
  have hC := fun (W : World) (h : Below w.heap.size w W) => dCheck_any A B C ca cb cc D W (ha.below h) (hb.below h) (hc.below h)
  have e1 : chkD D = 80 := by rw [chkD, hD]; rfl
  rw [e1] at hC
  replace hC := Lib.hid hC
  clear ha hb hc hD e1
  go_enter Tryz.func38, Tryz.ntmps38
  go_wp2_with ((go_at_call 31); (with_reducible refine Calls.mono (hC.out _ (by (repeat (first | with_reducible exact Below.refl _ _ | with_reducible apply bl_alloc | with_reducible apply bl_drew | with_reducible apply bl_after | (with_reducible refine bl_call ?_ (by assumption)))))) ?_); rintro e wn ⟨rfl, hbn⟩; first | ((with_reducible apply kp_in_step (hb := hbn)); (with_reducible assumption); rintro ⟨hk, hc, hf, hzc, hzf⟩) | ((with_reducible refine kp_in_first hbn ?_); rintro ⟨hk, hc, hf, hzc, hzf⟩))
  go_ret2
  exact ⟨rfl, by (repeat (first | with_reducible exact Below.refl _ _ | with_reducible apply bl_alloc | with_reducible apply bl_drew | with_reducible apply bl_after | (with_reducible refine bl_call ?_ (by assumption))))⟩
set_option maxRecDepth 100000 in
set_option maxHeartbeats 2000000 in
theorem open_arg (hD : dspB D = true) :
    Calls Tryz.prog 38 #[(Value.agg #[.slice A D.cs.length ca, .slice B D.offs.length cb, (Value.int .i64 (D.unit)), (Value.int .i64 (D.wh.full)), (Value.int .i64 (D.wh.read)), (Value.int .i64 (D.wh.slip)), (Value.int .i64 (D.wh.skew)), (Value.int .i64 (D.wh.circle)), (Value.int .i64 (D.wh.glo)), (Value.int .i64 (D.wh.ghi)), (Value.int .i64 (D.wh.wrong)), .slice C D.wks.length cc]), .bool false] w fun e w' => e = .returned (.tuple #[.pointer none, (Value.int .i64 (1))]) ∧ Below w.heap.size w w' := by
  have c0 : Blk (w.alloc (.cells #[.slice A D.cs.length ca, .slice B D.offs.length cb, (Value.int .i64 (D.unit)), (Value.int .i64 (D.wh.full)), (Value.int .i64 (D.wh.read)), (Value.int .i64 (D.wh.slip)), (Value.int .i64 (D.wh.skew)), (Value.int .i64 (D.wh.circle)), (Value.int .i64 (D.wh.glo)), (Value.int .i64 (D.wh.ghi)), (Value.int .i64 (D.wh.wrong)), .slice C D.wks.length cc] 30)) w.heap.size 30 #[.slice A D.cs.length ca, .slice B D.offs.length cb, (Value.int .i64 (D.unit)), (Value.int .i64 (D.wh.full)), (Value.int .i64 (D.wh.read)), (Value.int .i64 (D.wh.slip)), (Value.int .i64 (D.wh.skew)), (Value.int .i64 (D.wh.circle)), (Value.int .i64 (D.wh.glo)), (Value.int .i64 (D.wh.ghi)), (Value.int .i64 (D.wh.wrong)), .slice C D.wks.length cc] := Blk.new _ _ _
  (have la := c0.lt); (have ya0 := c0.cell 0); (have ya1 := c0.cell 1); (have ya2 := c0.cell 2); (have ya3 := c0.cell 3); (have ya4 := c0.cell 4); (have ya5 := c0.cell 5); (have ya6 := c0.cell 6); (have ya7 := c0.cell 7); (have ya8 := c0.cell 8); (have ya9 := c0.cell 9); (have ya10 := c0.cell 10); (have ya11 := c0.cell 11); simp only [List.getElem?_toArray, List.getElem?_cons_zero, List.getElem?_cons_succ] at ya0 ya1 ya2 ya3 ya4 ya5 ya6 ya7 ya8 ya9 ya10 ya11
  have hC := fun (W : World) (h : Below w.heap.size w W) => dCheck_any A B C ca cb cc D W (ha.below h) (hb.below h) (hc.below h)
  have e1 : chkD D = 0 := by rw [chkD, hD]; rfl
  rw [e1] at hC
  replace hC := Lib.hid hC
  clear ha hb hc hD e1
  go_enter Tryz.func38, Tryz.ntmps38
  go_wp2_with ((go_at_call 31); (with_reducible refine Calls.mono (hC.out _ (by (repeat (first | with_reducible exact Below.refl _ _ | with_reducible apply bl_alloc | with_reducible apply bl_drew | with_reducible apply bl_after | (with_reducible refine bl_call ?_ (by assumption)))))) ?_); rintro e wn ⟨rfl, hbn⟩; first | ((with_reducible apply kp_in_step (hb := hbn)); (with_reducible assumption); rintro ⟨hk, hc, hf, hzc, hzf⟩) | ((with_reducible refine kp_in_first hbn ?_); rintro ⟨hk, hc, hf, hzc, hzf⟩))
  go_ret2
  exact ⟨rfl, by (repeat (first | with_reducible exact Below.refl _ _ | with_reducible apply bl_alloc | with_reducible apply bl_drew | with_reducible apply bl_after | (with_reducible refine bl_call ?_ (by assumption))))⟩
/-- A file whose map holds all stories. -/
def FileOk (A : Option Addr) (ca : Nat) (B : Option Addr) (cb : Nat) (C : Option Addr) (cc : Nat) (D : Dsp) (lo : Nat) (w : World) (gf : Nat) : Prop :=
  lo ≤ gf ∧ ∃ st nn F, nn ≤ 100000000000 ∧ lo ≤ st ∧ Blk w gf 70 #[.slice A D.cs.length ca, .slice B D.offs.length cb, (Value.int .i64 (D.unit)), (Value.int .i64 (D.wh.full)), (Value.int .i64 (D.wh.read)), (Value.int .i64 (D.wh.slip)), (Value.int .i64 (D.wh.skew)), (Value.int .i64 (D.wh.circle)), (Value.int .i64 (D.wh.glo)), (Value.int .i64 (D.wh.ghi)), (Value.int .i64 (D.wh.wrong)), .slice C D.wks.length cc, .map (some st)] ∧ Sto D w st nn F (isK D)
set_option maxRecDepth 100000 in
set_option maxHeartbeats 8000000 in
theorem open_ok (hD : dspB D = true) :
    Calls Tryz.prog 38 #[(Value.agg #[.slice A D.cs.length ca, .slice B D.offs.length cb, (Value.int .i64 (D.unit)), (Value.int .i64 (D.wh.full)), (Value.int .i64 (D.wh.read)), (Value.int .i64 (D.wh.slip)), (Value.int .i64 (D.wh.skew)), (Value.int .i64 (D.wh.circle)), (Value.int .i64 (D.wh.glo)), (Value.int .i64 (D.wh.ghi)), (Value.int .i64 (D.wh.wrong)), .slice C D.wks.length cc]), .bool true] w fun e w' => (((∃ k, isK D k) ∧ (∃ gf, e = .returned (.tuple #[.pointer (some ⟨gf, 0, none⟩), (Value.int .i64 (0))]) ∧ FileOk A ca B cb C cc D w.heap.size w' gf)) ∨ (∀ k, ¬ isK D k) ∧ e = .returned (.tuple #[.pointer none, (Value.int .i64 (3))])) ∧ Below w.heap.size w w' := by
  have hok := dsp_ok hD
  have c0 : Blk (w.alloc (.cells #[.slice A D.cs.length ca, .slice B D.offs.length cb, (Value.int .i64 (D.unit)), (Value.int .i64 (D.wh.full)), (Value.int .i64 (D.wh.read)), (Value.int .i64 (D.wh.slip)), (Value.int .i64 (D.wh.skew)), (Value.int .i64 (D.wh.circle)), (Value.int .i64 (D.wh.glo)), (Value.int .i64 (D.wh.ghi)), (Value.int .i64 (D.wh.wrong)), .slice C D.wks.length cc] 30)) w.heap.size 30 #[.slice A D.cs.length ca, .slice B D.offs.length cb, (Value.int .i64 (D.unit)), (Value.int .i64 (D.wh.full)), (Value.int .i64 (D.wh.read)), (Value.int .i64 (D.wh.slip)), (Value.int .i64 (D.wh.skew)), (Value.int .i64 (D.wh.circle)), (Value.int .i64 (D.wh.glo)), (Value.int .i64 (D.wh.ghi)), (Value.int .i64 (D.wh.wrong)), .slice C D.wks.length cc] := Blk.new _ _ _
  have hbw0 : Below w.heap.size w (w.alloc (.cells #[.slice A D.cs.length ca, .slice B D.offs.length cb, (Value.int .i64 (D.unit)), (Value.int .i64 (D.wh.full)), (Value.int .i64 (D.wh.read)), (Value.int .i64 (D.wh.slip)), (Value.int .i64 (D.wh.skew)), (Value.int .i64 (D.wh.circle)), (Value.int .i64 (D.wh.glo)), (Value.int .i64 (D.wh.ghi)), (Value.int .i64 (D.wh.wrong)), .slice C D.wks.length cc] 30)) := by (repeat (first | with_reducible exact Below.refl _ _ | with_reducible apply bl_alloc | with_reducible apply bl_drew | with_reducible apply bl_after | (with_reducible refine bl_call ?_ (by assumption))))
  (have la := c0.lt); (have ya0 := c0.cell 0); (have ya1 := c0.cell 1); (have ya2 := c0.cell 2); (have ya3 := c0.cell 3); (have ya4 := c0.cell 4); (have ya5 := c0.cell 5); (have ya6 := c0.cell 6); (have ya7 := c0.cell 7); (have ya8 := c0.cell 8); (have ya9 := c0.cell 9); (have ya10 := c0.cell 10); (have ya11 := c0.cell 11); simp only [List.getElem?_toArray, List.getElem?_cons_zero, List.getElem?_cons_succ] at ya0 ya1 ya2 ya3 ya4 ya5 ya6 ya7 ya8 ya9 ya10 ya11
  have hC := fun (W : World) (h : Below w.heap.size w W) => dCheck_any A B C ca cb cc D W (ha.below h) (hb.below h) (hc.below h)
  have e1 : chkD D = 0 := by rw [chkD, hD]; rfl
  rw [e1] at hC
  replace hC := Lib.hid hC
  have HA := Lib.hid ha
  have HB := Lib.hid hb
  have HCc := Lib.hid hc
  have hmm := @run_makeMap Tryz.prog
  clear ha hb hc hD e1
  go_enter Tryz.func38, Tryz.ntmps38
  go_upto_region 6 with ((go_at_call 31); (with_reducible refine Calls.mono (hC.out _ (by (repeat (first | with_reducible exact Below.refl _ _ | with_reducible apply bl_alloc | with_reducible apply bl_drew | with_reducible apply bl_after | (with_reducible refine bl_call ?_ (by assumption)))))) ?_); rintro e wn ⟨rfl, hbn⟩; first | ((with_reducible apply kp_in_step (hb := hbn)); (with_reducible assumption); rintro ⟨hk, hc, hf, hzc, hzf⟩) | ((with_reducible refine kp_in_first hbn ?_); rintro ⟨hk, hc, hf, hzc, hzf⟩))
  have hbb : Below (w.alloc (.cells #[.slice A D.cs.length ca, .slice B D.offs.length cb, (Value.int .i64 (D.unit)), (Value.int .i64 (D.wh.full)), (Value.int .i64 (D.wh.read)), (Value.int .i64 (D.wh.slip)), (Value.int .i64 (D.wh.skew)), (Value.int .i64 (D.wh.circle)), (Value.int .i64 (D.wh.glo)), (Value.int .i64 (D.wh.ghi)), (Value.int .i64 (D.wh.wrong)), .slice C D.wks.length cc] 30)).heap.size (w.alloc (.cells #[.slice A D.cs.length ca, .slice B D.offs.length cb, (Value.int .i64 (D.unit)), (Value.int .i64 (D.wh.full)), (Value.int .i64 (D.wh.read)), (Value.int .i64 (D.wh.slip)), (Value.int .i64 (D.wh.skew)), (Value.int .i64 (D.wh.circle)), (Value.int .i64 (D.wh.glo)), (Value.int .i64 (D.wh.ghi)), (Value.int .i64 (D.wh.wrong)), .slice C D.wks.length cc] 30)) wn := by (repeat (first | with_reducible exact Below.refl _ _ | with_reducible apply bl_alloc | with_reducible apply bl_drew | with_reducible apply bl_after | (with_reducible refine bl_call ?_ (by assumption))))
  have c1 := c0.below hbb
  have hbw := bl_call hbw0 hbb
  clear la ya0 ya1 ya2 ya3 ya4 ya5 ya6 ya7 ya8 ya9 ya10 ya11 c0 hbb hbn hC hbw0
  ((try clear hk hc hf hzc hzf); (try clear hk hc hf hzc hzf); (try clear hk hc hf hzc hzf); (try clear hk hc hf hzc hzf))
  (have la := c1.lt); (have ya0 := c1.cell 0); (have ya1 := c1.cell 1); (have ya2 := c1.cell 2); (have ya3 := c1.cell 3); (have ya4 := c1.cell 4); (have ya5 := c1.cell 5); (have ya6 := c1.cell 6); (have ya7 := c1.cell 7); (have ya8 := c1.cell 8); (have ya9 := c1.cell 9); (have ya10 := c1.cell 10); (have ya11 := c1.cell 11); simp only [List.getElem?_toArray, List.getElem?_cons_zero, List.getElem?_cons_succ] at ya0 ya1 ya2 ya3 ya4 ya5 ya6 ya7 ya8 ya9 ya10 ya11
  go_upto_region 8 with fail
  have hst : w.heap.size < wn.heap.size := c1.lt
  have hS0 : Sto D (((wn.alloc (.map #[] 0)).alloc (.cells #[.slice A D.cs.length ca, .slice B D.offs.length cb, (Value.int .i64 (D.unit)), (Value.int .i64 (D.wh.full)), (Value.int .i64 (D.wh.read)), (Value.int .i64 (D.wh.slip)), (Value.int .i64 (D.wh.skew)), (Value.int .i64 (D.wh.circle)), (Value.int .i64 (D.wh.glo)), (Value.int .i64 (D.wh.ghi)), (Value.int .i64 (D.wh.wrong)), .slice C D.wks.length cc, .map (some wn.heap.size)] 70)).alloc (.map #[] 0)) wn.heap.size 0 (.map []) (fun _ => False) := ((sto_made wn).below ((Below.refl _ _).alloc (Nat.le_refl _) _)).below ((Below.refl _ _).alloc (Nat.le_refl _) _)
  have cF : Blk (((wn.alloc (.map #[] 0)).alloc (.cells #[.slice A D.cs.length ca, .slice B D.offs.length cb, (Value.int .i64 (D.unit)), (Value.int .i64 (D.wh.full)), (Value.int .i64 (D.wh.read)), (Value.int .i64 (D.wh.slip)), (Value.int .i64 (D.wh.skew)), (Value.int .i64 (D.wh.circle)), (Value.int .i64 (D.wh.glo)), (Value.int .i64 (D.wh.ghi)), (Value.int .i64 (D.wh.wrong)), .slice C D.wks.length cc, .map (some wn.heap.size)] 70)).alloc (.map #[] 0)) (wn.heap.size + 1) 70 #[.slice A D.cs.length ca, .slice B D.offs.length cb, (Value.int .i64 (D.unit)), (Value.int .i64 (D.wh.full)), (Value.int .i64 (D.wh.read)), (Value.int .i64 (D.wh.slip)), (Value.int .i64 (D.wh.skew)), (Value.int .i64 (D.wh.circle)), (Value.int .i64 (D.wh.glo)), (Value.int .i64 (D.wh.ghi)), (Value.int .i64 (D.wh.wrong)), .slice C D.wks.length cc, .map (some wn.heap.size)] := (blk_new_at (by simp)).alloc _
  have hF0 : Fnd D (((wn.alloc (.map #[] 0)).alloc (.cells #[.slice A D.cs.length ca, .slice B D.offs.length cb, (Value.int .i64 (D.unit)), (Value.int .i64 (D.wh.full)), (Value.int .i64 (D.wh.read)), (Value.int .i64 (D.wh.slip)), (Value.int .i64 (D.wh.skew)), (Value.int .i64 (D.wh.circle)), (Value.int .i64 (D.wh.glo)), (Value.int .i64 (D.wh.ghi)), (Value.int .i64 (D.wh.wrong)), .slice C D.wks.length cc, .map (some wn.heap.size)] 70)).alloc (.map #[] 0)) (wn.heap.size + 1 + 1) 0 (.map []) (fun _ => False) := by
    have h1 := fnd_made (D := D) ((wn.alloc (.map #[] 0)).alloc (.cells #[.slice A D.cs.length ca, .slice B D.offs.length cb, (Value.int .i64 (D.unit)), (Value.int .i64 (D.wh.full)), (Value.int .i64 (D.wh.read)), (Value.int .i64 (D.wh.slip)), (Value.int .i64 (D.wh.skew)), (Value.int .i64 (D.wh.circle)), (Value.int .i64 (D.wh.glo)), (Value.int .i64 (D.wh.ghi)), (Value.int .i64 (D.wh.wrong)), .slice C D.wks.length cc, .map (some wn.heap.size)] 70))
    simpa using h1
  have c1' := ((c1.alloc (.map #[] 0)).alloc (.cells #[.slice A D.cs.length ca, .slice B D.offs.length cb, (Value.int .i64 (D.unit)), (Value.int .i64 (D.wh.full)), (Value.int .i64 (D.wh.read)), (Value.int .i64 (D.wh.slip)), (Value.int .i64 (D.wh.skew)), (Value.int .i64 (D.wh.circle)), (Value.int .i64 (D.wh.glo)), (Value.int .i64 (D.wh.ghi)), (Value.int .i64 (D.wh.wrong)), .slice C D.wks.length cc, .map (some wn.heap.size)] 70)).alloc (.map #[] 0)
  have hbw3 : Below w.heap.size w (((wn.alloc (.map #[] 0)).alloc (.cells #[.slice A D.cs.length ca, .slice B D.offs.length cb, (Value.int .i64 (D.unit)), (Value.int .i64 (D.wh.full)), (Value.int .i64 (D.wh.read)), (Value.int .i64 (D.wh.slip)), (Value.int .i64 (D.wh.skew)), (Value.int .i64 (D.wh.circle)), (Value.int .i64 (D.wh.glo)), (Value.int .i64 (D.wh.ghi)), (Value.int .i64 (D.wh.wrong)), .slice C D.wks.length cc, .map (some wn.heap.size)] 70)).alloc (.map #[] 0)) := bl_alloc (bl_alloc (bl_alloc hbw))
  clear la ya0 ya1 ya2 ya3 ya4 ya5 ya6 ya7 ya8 ya9 ya10 ya11 c1 hbw
  generalize ((wn.alloc (.map #[] 0)).alloc (.cells #[.slice A D.cs.length ca, .slice B D.offs.length cb, (Value.int .i64 (D.unit)), (Value.int .i64 (D.wh.full)), (Value.int .i64 (D.wh.read)), (Value.int .i64 (D.wh.slip)), (Value.int .i64 (D.wh.skew)), (Value.int .i64 (D.wh.circle)), (Value.int .i64 (D.wh.glo)), (Value.int .i64 (D.wh.ghi)), (Value.int .i64 (D.wh.wrong)), .slice C D.wks.length cc, .map (some wn.heap.size)] 70)).alloc (.map #[] 0) = W3 at *
  generalize wn.heap.size = st at *
  generalize hgf : st + 1 = gf at *
  generalize hbm : gf + 1 = bm at *
  have hE : EnvF A ca B cb C cc D gf st bm W3 := ⟨cF, by omega, (HA.out.below hbw3).imp id (fun ⟨b, o, e, hp⟩ => ⟨b, o, e, Nat.zero_le _, by
    have h1 := (HA.out.imp id (fun (h : ∃ b o, A = some ⟨b, o, none⟩ ∧ PtsAt w b o D.cs) => h))
    subst e
    have hl := hok.ok.1
    have h2 := (HA.out.fix (k := 0) (by omega)).lt
    simp only [ne_eq, Option.some.injEq]
    omega, hp⟩), (HB.out.below hbw3).imp id (fun ⟨b, o, e, hp⟩ => ⟨b, o, e, Nat.zero_le _, by
    subst e
    have hl := hok.ok.1
    have hlo := hok.lo
    obtain ⟨b', o', e', h2⟩ := HB.out.at_ (k := 0) (by omega)
    cases e'
    have h3 := h2.lt
    simp only [ne_eq, Option.some.injEq]
    omega, hp⟩)⟩
  have h6 := hok.l6
  have hpow : 25 ^ D.cs.length ≤ 25 ^ 6 := Nat.pow_le_pow_right (by omega) h6
  have hfl : Calls Tryz.prog 66 #[.pointer (some ⟨gf, 0, none⟩), .map (some bm), .int .u64 0, .slice none 0 0] W3 fun e w' => e = .returned (.tuple #[]) ∧ (∃ F' nn', nn' ≤ 0 + 25 ^ D.cs.length ∧ Fnd D w' bm nn' F' (fun k => False ∨ begF D [] k)) ∧ W3.grownBy w' (some bm) :=
    fields_ok hok A B D.cs.length [] none 0 0 W3 (.map []) (fun _ => False) (by simp) (fun i hi => by simp at hi) (.inl ⟨rfl, rfl, rfl⟩) (Nat.le_refl _) hE (.inl rfl) hF0 (by omega)
  have HE := Lib.hid hE
  have HS0 := Lib.hid hS0
  clear hE hS0 hF0 cF
  go_upto_region 9 with (go_at_call 66; (with_reducible refine Calls.mono hfl ?_); rintro e w5 ⟨rfl, ⟨F, nn, hnn, hF⟩, hg5⟩)
  have hF : Fnd D w5 bm nn F (begF D []) := hF.congr fun k => by simp
  have hS5 : Sto D w5 st 0 (.map []) (fun _ => False) := ⟨HS0.out.own.kept hg5 (by simp only [ne_eq, Option.some.injEq]; omega), HS0.out.map, fun k bc hk => hk.elim⟩
  have cF := HE.out.f.grown_ hg5 (by simpa using HE.out.gf)
  have c1 := c1'.grown_ hg5 (by simp only [ne_eq, Option.some.injEq]; omega)
  have hbw5 : Below w.heap.size w w5 := ⟨hg5.os.trans hbw3.os, hg5.tape.trans hbw3.tape, hg5.output.trans hbw3.output, Nat.le_trans hbw3.size hg5.size, fun k hk => (hg5.block k (by have := hbw3.size; omega) (by simp only [ne_eq, Option.some.injEq]; omega)).trans (hbw3.block k hk)⟩
  clear hfl HS0 hbw3 c1' hg5 HE
  (have la := c1.lt); (have ya0 := c1.cell 0); (have ya1 := c1.cell 1); (have ya2 := c1.cell 2); (have ya3 := c1.cell 3); (have ya4 := c1.cell 4); (have ya5 := c1.cell 5); (have ya6 := c1.cell 6); (have ya7 := c1.cell 7); (have ya8 := c1.cell 8); (have ya9 := c1.cell 9); (have ya10 := c1.cell 10); (have ya11 := c1.cell 11); simp only [List.getElem?_toArray, List.getElem?_cons_zero, List.getElem?_cons_succ] at ya0 ya1 ya2 ya3 ya4 ya5 ya6 ya7 ya8 ya9 ya10 ya11
  have cF12 : w5.cell? ⟨gf, 12, none⟩ = some (.map (some st)) := cF.cell 12
  have lF := cF.lt
  go_wp2_with (at_range; refine wpList_range_own _ rfl _ 112 rfl 115 22 kdKeyed undKinds (fldR D.cs.length) bm nn F rfl hF.own ?_; intro w6 hrg hg6 hs6)
  have hF6 := hF.below (below_grown hg6)
  have hS6 := hS5.below (below_grown hg6)
  have cF6 := cF.below (below_grown hg6)
  have c6 := c1.below (below_grown hg6)
  have hbw6 := bl_call hbw5 (below_grown hg6)
  have hsz := hF.own.size_le
  have hM := hF.map
  have hbr := hF.own.lt
  clear la ya0 ya1 ya2 ya3 ya4 ya5 ya6 ya7 ya8 ya9 ya10 ya11 cF12 lF hF hS5 cF c1 hbw5 hg6 hs6
  generalize hr : w5.heap.size = r at *
  have hI6 : OpI A ca B cb C cc D w gf st bm r nn F (Maps.has F) (Maps.size F) 0 (.map []) (fun _ => False) w6 := ⟨hrg, hF6, hS6, c6, cF6, hbw6⟩
  have hrr : w.heap.size < r ∧ gf ≠ r ∧ st ≠ r := by omega
  have hss : w.heap.size < st ∧ gf ≠ st ∧ bm ≠ st ∧ r ≠ st := ⟨hst, by omega, by omega, hrr.2.2.symm⟩
  clear hrg hF6 hS6 c6 cF6 hbw6
  go_frame
  go_loopg [] (Maps.size F) (fun gh wr => ∃ left cnt nS G, cnt = gh ∧ OpI A ca B cb C cc D w gf st bm r nn F left cnt nS G (fun k => ∃ x, passed kdL (begF D []) left x ∧ kdSt D x (D.wh.skew + 1) k) wr ∧ (∀ l, left l = true → Maps.has F l = true) ∧ nS + 41 * cnt ≤ 41 * Maps.size F)
  case atStart => exact ⟨_, _, 0, _, rfl, hI6.congr fun k => ⟨fun ⟨x, h, _⟩ => absurd h (passed_start hM x), fun h => h.elim⟩, fun l h => h, by omega⟩
  case round =>
    clear hI6
    obtain ⟨left, cnt, nS, G, rfl, hI, hleft, hnS⟩ := hrel
    go_wp2_with (at_next; refine wpList_next_fld _ rfl _ rfl 115 kdKeyed D.cs.length bm r nn F (begF D []) hM left cnt hleft rfl hI.rg ?_ ?_)
    · intro hl0
      have hIK := hI.congr (T' := isK D) fun k => by
        rw [← all_sto D (S := begF D []) (fun x => ⟨fun ⟨l, h1, _, h3⟩ => ⟨l, h1, h3⟩, fun ⟨l, h1, h3⟩ => ⟨l, h1, List.nil_prefix, h3⟩⟩) k]
        exact ⟨fun ⟨x, h1, h2⟩ => ⟨x, (passed_end hl0 x).2 h1, h2⟩, fun ⟨x, h1, h2⟩ => ⟨x, (passed_end hl0 x).1 h1, h2⟩⟩
      have hsz2 := sto_size hIK.sto
      have hlen := hIK.sto.own.len undStos 3
      have cF12 : wr.cell? ⟨gf, 12, none⟩ = some (.map (some st)) := hI.cF.cell 12
      have lF := hI.cF.lt
      by_cases hex : ∃ k, isK D k
      · have hz : ((Maps.size G : Int) == 0) = false := by
          simp only [beq_eq_false_iff_ne, ne_eq]
          intro e
          obtain ⟨k, hk⟩ := hex
          exact hsz2.1 (by omega) k hk
        have HI := Lib.hid hIK
        have HX := Lib.hid hex
        clear hex hIK hI hsz2
        go_wp2
        go_ret2
        exact ⟨.inl ⟨HX.out, gf, rfl, by omega, st, nS, G, by omega, by omega, HI.out.cF, HI.out.sto⟩, HI.out.bw⟩
      · have hz0 : Maps.size G = 0 := hsz2.2 fun k hk => hex ⟨k, hk⟩
        rw [hz0] at hlen
        have HI := Lib.hid hIK
        have HX := Lib.hid hex
        clear hex hIK hI hsz2 hz0
        go_wp2
        go_ret2
        exact ⟨.inr ⟨fun k hk => HX.out ⟨k, hk⟩, rfl⟩, HI.out.bw⟩
    · intro xa xb b7 c7 w7 cnt' hx hlx hbc hrg7 hlt7 hg7 hs7 hen
      have hI7 := hI.next hg7 hrg7 hrr
      simp only [kdV] at hen
      obtain ⟨l0, hl0, _, hk0⟩ := hx
      have hkl := kd_lt hok hl0.2.2
      rw [← hk0] at hkl
      have hxa : xa < 256 := hkl.1
      have hx : begF D [] (xa, xb) := ⟨l0, hl0, List.nil_prefix, hk0⟩
      clear hk0 hl0
      have hleft' : ∀ l, (left l && !l.sameKey (kdL (xa, xb))) = true → Maps.has F l = true := fun l h => hleft l (by simp only [Bool.and_eq_true] at h; exact h.1)
      have lr := hI7.rg.lt
      clear hI hlx hg7 hs7 hleft hrg7
      go_upto_region 12 with fail
      have hb8 : Below w7.heap.size w7 (w7.alloc (.cells #[.int .u64 (xa : Int), (Value.int .i64 (xb))] 115)) := by (repeat (first | with_reducible exact Below.refl _ _ | with_reducible apply bl_alloc | with_reducible apply bl_drew | with_reducible apply bl_after | (with_reducible refine bl_call ?_ (by assumption))))
      have c9 := Blk.new w7 115 #[.int .u64 (xa : Int), (Value.int .i64 (xb))]
      have hI8 := hI7.below hb8
      have h9s : st < w7.heap.size := hI7.sto.own.lt
      clear hI7 hb8 hen lr
      generalize w7.alloc (.cells #[.int .u64 (xa : Int), (Value.int .i64 (xb))] 115) = w8 at *
      generalize w7.heap.size = g9 at *
      have c1 := hI8.c1
      (have la := c1.lt); (have ya0 := c1.cell 0); (have ya1 := c1.cell 1); (have ya2 := c1.cell 2); (have ya3 := c1.cell 3); (have ya4 := c1.cell 4); (have ya5 := c1.cell 5); (have ya6 := c1.cell 6); (have ya7 := c1.cell 7); (have ya8 := c1.cell 8); (have ya9 := c1.cell 9); (have ya10 := c1.cell 10); (have ya11 := c1.cell 11); simp only [List.getElem?_toArray, List.getElem?_cons_zero, List.getElem?_cons_succ] at ya0 ya1 ya2 ya3 ya4 ya5 ya6 ya7 ya8 ya9 ya10 ya11
      (have lb := c9.lt); (have yb0 := c9.cell 0); (have yb1 := c9.cell 1); simp only [List.getElem?_toArray, List.getElem?_cons_zero, List.getElem?_cons_succ] at yb0 yb1
      clear c1
      by_cases hge : within xb D.wh.glo D.wh.ghi = true
      · have hgP : gesP D xb := by simp only [within, Bool.and_eq_true, decide_eq_true_eq] at hge; exact hge
        have hk0' := hok.wh.k0
        have hk1' := hok.wh.k1
        obtain ⟨sk, hsk⟩ : ∃ sk : Nat, D.wh.skew = (sk : Int) := ⟨D.wh.skew.toNat, by omega⟩
        have hsk2 : sk ≤ 20 := by omega
        have hsk' := Lib.hid hsk
        have z1 : IntKind.i64.wrap (-D.wh.skew) = -D.wh.skew := IntWalk.i64_in _ (by omega)
        have z1' := wrap64_in (x := -D.wh.skew) (by omega) (by omega)
        clear hsk
        have hI9 := Lib.hid hI8
        clear hI8
        go_wp2_with (go_at_call 39; with_reducible refine Calls.mono (dWithin_any _ _ _ _) ?_; rintro e w' ⟨rfl, rfl⟩)
        go_loopg [11] (2 * sk + 1) (fun gh v wr => ∃ i n2 G2, i ≤ 2 * sk + 1 ∧ gh = 2 * sk + 1 - i ∧ v = (Value.int .i64 (-D.wh.skew + (i : Int))) ∧ n2 ≤ nS + i ∧ OpI A ca B cb C cc D w gf st bm r nn F (fun z => left z && !z.sameKey (kdL (xa, xb))) cnt' n2 G2 (fun k => (∃ x, passed kdL (begF D []) left x ∧ kdSt D x (D.wh.skew + 1) k) ∨ kdSt D (xa, xb) (-D.wh.skew + (i : Int)) k) wr ∧ Blk wr g9 115 #[.int .u64 (xa : Int), (Value.int .i64 (xb))])
        case atStart => exact ⟨0, nS, G, by omega, by omega, by simp, by omega, hI9.out.congr fun k => ⟨fun h => h.elim id fun h => (kdSt_start D (xa, xb) k (by simpa using h)).elim, fun h => .inl h⟩, c9⟩
        case round =>
          clear hI9 c9 la ya0 ya1 ya2 ya3 ya4 ya5 ya6 ya7 ya8 ya9 ya10 ya11 lb yb0 yb1
          rename World => w3
          obtain ⟨i, n2, G2, hi, rfl, rfl, hn2, hI, c9⟩ := hrel
          have h8 := hok.l8
          have c1 := hI.c1
          (have la := c1.lt); (have ya0 := c1.cell 0); (have ya1 := c1.cell 1); (have ya2 := c1.cell 2); (have ya3 := c1.cell 3); (have ya4 := c1.cell 4); (have ya5 := c1.cell 5); (have ya6 := c1.cell 6); (have ya7 := c1.cell 7); (have ya8 := c1.cell 8); (have ya9 := c1.cell 9); (have ya10 := c1.cell 10); (have ya11 := c1.cell 11); simp only [List.getElem?_toArray, List.getElem?_cons_zero, List.getElem?_cons_succ] at ya0 ya1 ya2 ya3 ya4 ya5 ya6 ya7 ya8 ya9 ya10 ya11
          (have lb := c9.lt); (have yb0 := c9.cell 0); (have yb1 := c9.cell 1); simp only [List.getElem?_toArray, List.getElem?_cons_zero, List.getElem?_cons_succ] at yb0 yb1
          clear c1
          by_cases hlt : i < 2 * sk + 1
          · have hle : -D.wh.skew + (i : Int) ≤ D.wh.skew := by rw [hsk'.out]; omega
            have zi : IntKind.i64.wrap (-D.wh.skew + (i : Int) + 1) = -D.wh.skew + (i : Int) + 1 := IntWalk.i64_in _ (by omega)
            have HI := Lib.hid hI
            clear hI
            have C9 := Lib.hid c9
            have hb12 : Below w3.heap.size w3 (w3.alloc (.cells #[.int .u64 (xa : Int), .int .u64 (0 : Int), (Value.int .i64 (xb))] 75)) := by (repeat (first | with_reducible exact Below.refl _ _ | with_reducible apply bl_alloc | with_reducible apply bl_drew | with_reducible apply bl_after | (with_reducible refine bl_call ?_ (by assumption))))
            have c12 : Blk (w3.alloc (.cells #[.int .u64 (xa : Int), .int .u64 (0 : Int), (Value.int .i64 (xb))] 75)) w3.heap.size 75 #[.int .u64 (xa : Int), .int .u64 (0 : Int), (Value.int .i64 (xb))] := Blk.new _ _ _
            clear c9
            go_wp2
            go_loopg [69] D.wks.length (fun gh v w2 => ∃ q : Nat, q ≤ D.wks.length ∧ gh = D.wks.length - q ∧ v = (Value.int .i64 ((q : Int))) ∧ Below w3.heap.size w3 w2 ∧ Blk w2 w3.heap.size 75 #[.int .u64 (xa : Int), .int .u64 ((msk (wwB D xb (-D.wh.skew + (i : Int))) q : Nat) : Int), (Value.int .i64 (xb))])
            case atStart => exact ⟨0, Nat.zero_le _, rfl, rfl, hb12, c12⟩
            case round =>
              clear la ya0 ya1 ya2 ya3 ya4 ya5 ya6 ya7 ya8 ya9 ya10 ya11 lb yb0 yb1 hb12 c12
              rename World => w2
              obtain ⟨q, hq, rfl, rfl, hb2, c12⟩ := hrel
              by_cases hlq : q < D.wks.length
              · have c1 := HI.out.c1.below hb2
                have c9 := C9.out.below hb2
                (have la := c1.lt); (have ya0 := c1.cell 0); (have ya1 := c1.cell 1); (have ya2 := c1.cell 2); (have ya3 := c1.cell 3); (have ya4 := c1.cell 4); (have ya5 := c1.cell 5); (have ya6 := c1.cell 6); (have ya7 := c1.cell 7); (have ya8 := c1.cell 8); (have ya9 := c1.cell 9); (have ya10 := c1.cell 10); (have ya11 := c1.cell 11); simp only [List.getElem?_toArray, List.getElem?_cons_zero, List.getElem?_cons_succ] at ya0 ya1 ya2 ya3 ya4 ya5 ya6 ya7 ya8 ya9 ya10 ya11
                (have lb := c9.lt); (have yb0 := c9.cell 0); (have yb1 := c9.cell 1); simp only [List.getElem?_toArray, List.getElem?_cons_zero, List.getElem?_cons_succ] at yb0 yb1
                (have lc := c12.lt); (have yc0 := c12.cell 0); (have yc1 := c12.cell 1); (have yc2 := c12.cell 2); simp only [List.getElem?_toArray, List.getElem?_cons_zero, List.getElem?_cons_succ] at yc0 yc1 yc2
                clear c1 c9
                obtain ⟨bc, oc, rfl, pk⟩ := (HCc.out.below (bl_call HI.out.bw hb2)).at_ hlq
                obtain ⟨k0, k1, k2, k3, k4, k5⟩ := wk_cells pk hlq
                have hRt := Lib.hid fun (V : World) => isRight_any D.wh (wat D.wks q) xb (-D.wh.skew + (i : Int)) V hok.wh (hok.wk q hlq) ⟨by have := hok.wh.g0; have := hgP.1; omega, by have := hok.wh.g2; have := hgP.2; omega⟩ ⟨by rw [hsk'.out]; omega, by rw [hsk'.out]; omega⟩
                have hst := msk_step (wwB D xb (-D.wh.skew + (i : Int))) q
                have C12 := Lib.hid c12
                clear c12 pk
                by_cases hrt : rgtB D.wh (wat D.wks q) xb (-D.wh.skew + (i : Int)) = true
                · rw [hrt] at hRt
                  have hww : wwB D xb (-D.wh.skew + (i : Int)) q = false := by rw [wwB, hrt]; rfl
                  rw [if_neg (by simp [hww])] at hst
                  replace hst := Lib.hid hst
                  clear hrt hww
                  go_wp2_with ((go_at_call 67); (with_reducible refine Calls.mono (hRt.out _) ?_); rintro e wn ⟨rfl, hbn⟩; first | ((with_reducible apply kp_in_step (hb := hbn)); (with_reducible assumption); rintro ⟨hk, hc, hf, hzc, hzf⟩) | ((with_reducible refine kp_in_first hbn ?_); rintro ⟨hk, hc, hf, hzc, hzf⟩))
                  have hbn' : Below w2.heap.size w2 wn := by (repeat (first | with_reducible exact Below.refl _ _ | with_reducible apply bl_alloc | with_reducible apply bl_drew | with_reducible apply bl_after | (with_reducible refine bl_call ?_ (by assumption))))
                  go_roundg (D.wks.length - (q + 1))
                  case measure => omega
                  case rel => exact ⟨q + 1, by omega, rfl, by go_num, bl_call hb2 hbn', by rw [hst.out]; exact C12.out.below hbn'⟩
                · have hrt' : rgtB D.wh (wat D.wks q) xb (-D.wh.skew + (i : Int)) = false := by simpa using hrt
                  rw [hrt'] at hRt
                  have hww : wwB D xb (-D.wh.skew + (i : Int)) q = true := by rw [wwB, hrt']; rfl
                  rw [if_pos hww] at hst
                  have hor : bits .or .u64 ((msk (wwB D xb (-D.wh.skew + (i : Int))) q : Nat) : Int) (IntKind.u64.wrap (2 ^ q)) = ((msk (wwB D xb (-D.wh.skew + (i : Int))) (q + 1) : Nat) : Int) := by
                    have h8 := hok.l8
                    have h1 := pow_u64 (n := q) (by omega)
                    rw [Int.one_mul] at h1
                    have h2 : 2 ^ q < 2 ^ 8 := Nat.pow_lt_pow_right (by omega) (by omega)
                    rw [h1, hst]
                    exact or_u64 (Nat.lt_trans (msk_lt _ _) (by omega)) (by omega)
                  clear hrt hrt' hww hst
                  go_upto_region 21 with ((go_at_call 67); (with_reducible refine Calls.mono (hRt.out _) ?_); rintro e wn ⟨rfl, hbn⟩; first | ((with_reducible apply kp_in_step (hb := hbn)); (with_reducible assumption); rintro ⟨hk, hc, hf, hzc, hzf⟩) | ((with_reducible refine kp_in_first hbn ?_); rintro ⟨hk, hc, hf, hzc, hzf⟩))
                  have hbn' : Below w2.heap.size w2 wn := by (repeat (first | with_reducible exact Below.refl _ _ | with_reducible apply bl_alloc | with_reducible apply bl_drew | with_reducible apply bl_after | (with_reducible refine bl_call ?_ (by assumption))))
                  have c12 := C12.out.below hbn'
                  have f0 := c12.frozen 0
                  have f1 := c12.frozen 1
                  have f2 := c12.frozen 2
                  have hbm2 := bl_call hb2 hbn'
                  clear lc yc0 yc1 yc2 la ya0 ya1 ya2 ya3 ya4 ya5 ya6 ya7 ya8 ya9 ya10 ya11 lb yb0 yb1 k0 k1 k2 k3 k4 k5 hbn hb2 hbn' C12 hRt
                  ((try clear hk hc hf hzc hzf); (try clear hk hc hf hzc hzf); (try clear hk hc hf hzc hzf); (try clear hk hc hf hzc hzf))
                  (have lc := c12.lt); (have yc0 := c12.cell 0); (have yc1 := c12.cell 1); (have yc2 := c12.cell 2); simp only [List.getElem?_toArray, List.getElem?_cons_zero, List.getElem?_cons_succ] at yc0 yc1 yc2
                  refine wp_region_CN (fun w' => ∃ z : After w3, w' = z.val) (by kernel_rfl) ?_
                  change wpAnyC _ _ _ _ _ _ _ (World.drew wn)
                  have hd0 : Below w3.heap.size w3 wn.drew := bl_drew hbm2
                  refine wpAnyC_take (i := 0) (v := ?v0a) rfl (by kernel_rfl) (by kernel_rfl) (by kernel_rfl) ?q0a rfl ?y0a ?r0a; (case q0a => exact fun _ _ _ h => h); (case y0a => ((rintro _ ⟨z, rfl⟩); (go_simp); (try with_reducible rfl))); simp only [Act.put, List.getElem_toArray, List.getElem_cons_succ, List.getElem_cons_zero, List.setIfInBounds_toArray, List.set_cons_succ, List.set_cons_zero]
                  refine wpAnyC_take (i := 1) (v := ?v1a) rfl (by kernel_rfl) (by kernel_rfl) (by kernel_rfl) ?q1a rfl ?y1a ?r1a; (case q1a => exact fun _ _ _ h => h); (case y1a => ((rintro _ ⟨z, rfl⟩); (go_simp); (try with_reducible rfl))); simp only [Act.put, List.getElem_toArray, List.getElem_cons_succ, List.getElem_cons_zero, List.setIfInBounds_toArray, List.set_cons_succ, List.set_cons_zero]
                  refine wpAnyC_take (i := 3) (v := ?v3a) rfl (by kernel_rfl) (by kernel_rfl) (by kernel_rfl) ?q3a rfl ?y3a ?r3a; (case q3a => exact fun _ _ _ h => h); (case y3a => ((rintro _ ⟨z, rfl⟩); (go_simp); (try with_reducible rfl))); simp only [Act.put, List.getElem_toArray, List.getElem_cons_succ, List.getElem_cons_zero, List.setIfInBounds_toArray, List.set_cons_succ, List.set_cons_zero]
                  refine wpAnyC_take (i := 4) (v := ?v4a) rfl (by kernel_rfl) (by kernel_rfl) (by kernel_rfl) ?q4a rfl ?y4a ?r4a; (case q4a => exact fun _ _ _ h => h); (case y4a => ((rintro _ ⟨z, rfl⟩); (go_simp); (try with_reducible rfl))); simp only [Act.put, List.getElem_toArray, List.getElem_cons_succ, List.getElem_cons_zero, List.setIfInBounds_toArray, List.set_cons_succ, List.set_cons_zero]
                  refine wpAnyC_one (i := 2) (by kernel_rfl) rfl ⟨⟨_, hd0⟩, rfl⟩ rfl (fun K hK => ?_)
                  go_simp
                  refine hK _ _ ?_
                  clear hK K
                  refine wpAnyC_take (i := 5) (v := ?v5a) rfl (by kernel_rfl) (by kernel_rfl) (by kernel_rfl) ?q5a rfl ?y5a ?r5a; (case q5a => exact fun _ _ _ h => h); (case y5a => ((rintro _ ⟨z, rfl⟩); (go_simp); (try with_reducible rfl))); simp only [Act.put, List.getElem_toArray, List.getElem_cons_succ, List.getElem_cons_zero, List.setIfInBounds_toArray, List.set_cons_succ, List.set_cons_zero]
                  refine wpAnyC_take (i := 6) (v := ?v6a) rfl (by kernel_rfl) (by kernel_rfl) (by kernel_rfl) ?q6a rfl ?y6a ?r6a; (case q6a => exact fun _ _ _ h => h); (case y6a => ((rintro _ ⟨z, rfl⟩); (go_simp); (try with_reducible rfl))); simp only [Act.put, List.getElem_toArray, List.getElem_cons_succ, List.getElem_cons_zero, List.setIfInBounds_toArray, List.set_cons_succ, List.set_cons_zero]
                  refine wpAnyC_take (i := 7) (v := ?v7a) rfl (by kernel_rfl) (by kernel_rfl) (by kernel_rfl) ?q7a rfl ?y7a ?r7a; (case q7a => exact fun _ _ _ h => h); (case y7a => ((rintro _ ⟨z, rfl⟩); (go_simp); (try with_reducible rfl))); simp only [Act.put, List.getElem_toArray, List.getElem_cons_succ, List.getElem_cons_zero, List.setIfInBounds_toArray, List.set_cons_succ, List.set_cons_zero]
                  refine wpAnyC_one (i := 8) (by kernel_rfl) rfl ⟨⟨_, hd0⟩, rfl⟩ rfl (fun K hK => ?_)
                  go_simp
                  refine hK _ _ ?_
                  clear hK K
                  have hd9 : Below w3.heap.size w3 (wn.drew.setCell ⟨w3.heap.size, 1, none⟩ (.int .u64 ((msk (wwB D xb (-D.wh.skew + (i : Int))) (q + 1) : Nat) : Int))) := bl_setc8 hd0 (Nat.le_refl _)
                  have c12n : Blk (wn.drew.setCell ⟨w3.heap.size, 1, none⟩ (.int .u64 ((msk (wwB D xb (-D.wh.skew + (i : Int))) (q + 1) : Nat) : Int))) w3.heap.size 75 #[.int .u64 (xa : Int), .int .u64 ((msk (wwB D xb (-D.wh.skew + (i : Int))) (q + 1) : Nat) : Int), (Value.int .i64 (xb))] := by
                    have h := Blk.set_ (w := wn.drew) c12 1 (.int .u64 ((msk (wwB D xb (-D.wh.skew + (i : Int))) (q + 1) : Nat) : Int))
                    exact h
                  refine wpAnyC_doneN (by kernel_rfl) ⟨⟨_, hd9⟩, rfl⟩ ?_ _
                  clear lc yc0 yc1 yc2 f0 f1 f2 hd0 hbm2 c12 hor
                  go_wp2
                  go_roundg (D.wks.length - (q + 1))
                  case measure => omega
                  case rel => exact ⟨q + 1, by omega, rfl, by go_num, hd9, c12n⟩
              · obtain rfl : q = D.wks.length := by omega
                have c12' := Lib.hid c12
                have cF := HI.out.cF.below hb2
                have cF12 : w2.cell? ⟨gf, 12, none⟩ = some (.map (some st)) := cF.cell 12
                have lF := cF.lt
                (have lc := c12.lt); (have yc0 := c12.cell 0); (have yc1 := c12.cell 1); (have yc2 := c12.cell 2); simp only [List.getElem?_toArray, List.getElem?_cons_zero, List.getElem?_cons_succ] at yc0 yc1 yc2
                clear cF c12
                go_upto_region 23 with fail
                have hbD : Below w3.heap.size w3 w2.drew := bl_drew hb2
                have hI2 := HI.out.below hbD
                obtain ⟨-, l, hp, hfl, hke⟩ := hI2.fnd.good (xa, xb) (b7, c7) hx hbc
                have hka : xa = msk (wcB D l) D.cs.length := congrArg Prod.fst hke
                have hkb : xb = arD D l := congrArg Prod.snd hke
                have hsto : stoP D (xa, msk (wwB D xb (-D.wh.skew + (i : Int))) D.wks.length, xb) l := ⟨hfl, by rw [← hkb]; exact hgP, -D.wh.skew + (i : Int), ⟨by omega, hle⟩, by unfold kyOf; rw [← hka, ← hkb]⟩
                obtain ⟨w9, hrun, hown, hg9⟩ := hI2.sto.own.update stKeyed undStos (by unfold maxLen; omega) (isK_key hok hsto.isK) (fldR_mk D.cs.length b7 c7)
                have hne7 : b7 ≠ st := pts_ne_obj hp (by have := hfl.2.2.1; omega) (map_no_cell hI2.sto.own)
                have ei : -D.wh.skew + ((i + 1 : Nat) : Int) = -D.wh.skew + (i : Int) + 1 := by omega
                have hS9 := hI2.sto.put (S' := fun k => (∃ x, passed kdL (begF D []) left x ∧ kdSt D x (D.wh.skew + 1) k) ∨ kdSt D (xa, xb) (-D.wh.skew + ((i + 1 : Nat) : Int)) k) hok hsto hp hne7 hown hg9 fun k => by rw [ei, kdSt_next D (xa, xb) _ hgP (by omega), or_assoc]
                have hI9 := Lib.hid (hI2.put hg9 hS9 hss)
                have h12s : w3.heap.size ≠ st := by have := HI.out.sto.own.lt; omega
                have c9n := Lib.hid ((C9.out.below hbD).grown_ hg9 (by simp only [ne_eq, Option.some.injEq]; omega))
                have hgC : w2.grownBy w9 (some st) := (grown_below (bl_drew (Below.refl _ _))).trans hg9
                have hgs : gf ≠ st := hss.2.1
                simp only [stV] at hrun
                clear hI2 hfl hp hke hka hkb hsto hown hne7 hS9 ei hbD
                refine wp_region_CN (fun w' => ∃ z : AfterM w2 st, w' = z.val) (by kernel_rfl) ?_
                change wpAnyC _ _ _ _ _ _ _ (World.drew w2)
                have hd0 : Below w2.heap.size w2 w2.drew := bl_drew (Below.refl _ _)
                refine wpAnyC_take (i := 0) (v := ?v0b) rfl (by kernel_rfl) (by kernel_rfl) (by kernel_rfl) ?q0b rfl ?y0b ?r0b; (case q0b => exact fun _ _ _ h => h); (case y0b => ((rintro _ ⟨z, rfl⟩); (go_simp); (try with_reducible rfl))); simp only [Act.put, List.getElem_toArray, List.getElem_cons_succ, List.getElem_cons_zero, List.setIfInBounds_toArray, List.set_cons_succ, List.set_cons_zero]
                refine wpAnyC_take (i := 1) (v := ?v1b) rfl (by kernel_rfl) (by kernel_rfl) (by kernel_rfl) ?q1b rfl ?y1b ?r1b; (case q1b => exact fun _ _ _ h => h); (case y1b => ((rintro _ ⟨z, rfl⟩); (go_simp); (try with_reducible rfl))); simp only [Act.put, List.getElem_toArray, List.getElem_cons_succ, List.getElem_cons_zero, List.setIfInBounds_toArray, List.set_cons_succ, List.set_cons_zero]
                refine wpAnyC_take (i := 2) (v := ?v2b) rfl (by kernel_rfl) (by kernel_rfl) (by kernel_rfl) ?q2b rfl ?y2b ?r2b; (case q2b => exact fun _ _ _ h => h); (case y2b => ((rintro _ ⟨z, rfl⟩); (go_simp); (try with_reducible rfl))); simp only [Act.put, List.getElem_toArray, List.getElem_cons_succ, List.getElem_cons_zero, List.setIfInBounds_toArray, List.set_cons_succ, List.set_cons_zero]
                refine wpAnyC_take (i := 3) (v := ?v3b) rfl (by kernel_rfl) (by kernel_rfl) (by kernel_rfl) ?q3b rfl ?y3b ?r3b; (case q3b => exact fun _ _ _ h => h); (case y3b => ((rintro _ ⟨z, rfl⟩); (go_simp); (try with_reducible rfl))); simp only [Act.put, List.getElem_toArray, List.getElem_cons_succ, List.getElem_cons_zero, List.setIfInBounds_toArray, List.set_cons_succ, List.set_cons_zero]
                refine wpAnyC_take (i := 4) (v := ?v4b) rfl (by kernel_rfl) (by kernel_rfl) (by kernel_rfl) ?q4b rfl ?y4b ?r4b; (case q4b => exact fun _ _ _ h => h); (case y4b => ((rintro _ ⟨z, rfl⟩); (go_simp); (try with_reducible rfl))); simp only [Act.put, List.getElem_toArray, List.getElem_cons_succ, List.getElem_cons_zero, List.setIfInBounds_toArray, List.set_cons_succ, List.set_cons_zero]
                refine wpAnyC_take (i := 5) (v := ?v5b) rfl (by kernel_rfl) (by kernel_rfl) (by kernel_rfl) ?q5b rfl ?y5b ?r5b; (case q5b => exact fun _ _ _ h => h); (case y5b => ((rintro _ ⟨z, rfl⟩); (go_simp); (try with_reducible rfl))); simp only [Act.put, List.getElem_toArray, List.getElem_cons_succ, List.getElem_cons_zero, List.setIfInBounds_toArray, List.set_cons_succ, List.set_cons_zero]
                refine wpAnyC_one (i := 6) (by kernel_rfl) rfl ⟨⟨_, grown_below hd0⟩, rfl⟩ rfl (fun K hK => ?_)
                go_simp
                refine hK _ _ ?_
                clear hK K hrun
                refine wpAnyC_doneN (by kernel_rfl) ⟨⟨_, hgC⟩, rfl⟩ ?_ _
                clear lc yc0 yc1 yc2 cF12 lF hgC hd0 hg9
                go_wp2
                go_roundg (2 * sk + 1 - (i + 1))
                case measure => omega
                case rel => exact ⟨i + 1, n2 + 1, _, by omega, rfl, by go_num, by omega, hI9.out, c9n.out⟩
          · have hle : ¬ (-D.wh.skew + (i : Int) ≤ D.wh.skew) := by rw [hsk'.out]; omega
            obtain rfl : i = 2 * sk + 1 := by omega
            have HI := Lib.hid hI
            clear hI
            go_wp2
            go_roundg cnt'
            case measure => exact hlt7
            case rel =>
              refine ⟨_, cnt', n2, G2, rfl, HI.out.congr fun k => ?_, hleft', by omega⟩
              have e : -D.wh.skew + ((2 * sk + 1 : Nat) : Int) = D.wh.skew + 1 := by rw [hsk'.out]; omega
              rw [pass_split hM hx, e]
      · have hge' : within xb D.wh.glo D.wh.ghi = false := by simpa using hge
        have HI := Lib.hid hI8
        clear hI8
        go_wp2_with (go_at_call 39; with_reducible refine Calls.mono (dWithin_any _ _ _ _) ?_; rintro e w' ⟨rfl, rfl⟩)
        go_roundg cnt'
        case measure => exact hlt7
        case rel =>
          refine ⟨_, cnt', nS, G, rfl, HI.out.congr fun k => ?_, hleft', by omega⟩
          rw [pass_split hM hx]
          refine ⟨fun h => h.elim id fun h => ?_, fun h => .inl h⟩
          obtain ⟨hg, _⟩ := h
          exact absurd (show within xb D.wh.glo D.wh.ghi = true by simp only [within, Bool.and_eq_true, decide_eq_true_eq]; exact hg) hge
end
end Go.Proofs.YthijegacjboclaaGreat
