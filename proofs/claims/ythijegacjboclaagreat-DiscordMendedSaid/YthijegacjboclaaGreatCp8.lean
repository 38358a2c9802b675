/- The reference's function Copy of disputes: an equal dispute whose corners, Offs and walks the call owns. -/
import Derived.Test.YthijegacjboclaaGreatDck
import Derived.Test.YthijegacjboclaaGreatJQtb
import Derived.Test.YthijegacjboclaaGreatJOwn
import Derived.Test.YthijegacjboclaaGreatRowI
import Derived.Test.YthijegacjboclaaGreatWhC
import Derived.Test.YthijegacjboclaaGreatSto
import Derived.Laws.Tables
namespace Go.Proofs.YthijegacjboclaaGreat
open Go.RowKit Go.Shelf
attribute [local go_sem] AfterM.cell AfterM.frozen

theorem infoWk : (Tryz.prog.info? 88).map (fun i => (i.zero, i.size, i.bytes)) = some (some (.agg #[.int .i64 0, .int .i64 0, .int .i64 0, .int .i64 0, .int .i64 0]), 5, 40) := by kernel_rfl
theorem undWk8 : Tryz.prog.underlying 28 = some (.slice 88) := by kernel_rfl
abbrev RowW (w : World) (B : Nat) (v : Value) (l : List Wk) : Prop := RowR wkE 88 5 w B v l
def RowP (w : World) (B : Nat) (v : Value) (l : List Pt) : Prop := w.ownsRow B 98 2 v l.length (ptsV l)
theorem RowP.below {w w' : World} {B : Nat} {v : Value} {l : List Pt} (h : RowP w B v l) (hb : Below w.heap.size w w') : RowP w' B v l := own_below h hb
theorem RowP.parts {w : World} {B : Nat} {v : Value} {l : List Pt} (h : RowP w B v l) : ∃ A ca, v = .slice A l.length ca ∧ Pts w A l := (own_parts h).2
theorem RowR.parts8 {w : World} {B : Nat} {v : Value} {l : List Wk} (h : RowW w B v l) : ∃ A ca, v = .slice A l.length ca ∧ Wks w A l := (ownR_parts wkE_len (by decide) h).2
/-- What a copy is made of, at each moment. -/
structure Cp8 (D : Dsp) (W : World) (b0 b3 b4 b7 b8 b9 : Bool) (v0 v3 v4 v7 v8 v9 : Value) (w : World) : Prop where
  low : Below W.heap.size W w
  x0 : b0 = true → b3 = false → ∃ g, v0 = .slice (some ⟨g, 0, none⟩) 0 0 ∧ w.ownsRow W.heap.size 98 2 (.slice (some ⟨g, 0, none⟩) 0 0) 0 []
  x3 : b3 = true → RowP w W.heap.size v3 D.cs
  x4 : b4 = true → b7 = false → ∃ g, v4 = .slice (some ⟨g, 0, none⟩) 0 0 ∧ w.ownsRow W.heap.size 3 1 (.slice (some ⟨g, 0, none⟩) 0 0) 0 []
  x7 : b7 = true → RowI w W.heap.size v7 D.offs
  x8 : b8 = true → b9 = false → ∃ g, v8 = .slice (some ⟨g, 0, none⟩) 0 0 ∧ w.ownsRow W.heap.size 88 5 (.slice (some ⟨g, 0, none⟩) 0 0) 0 []
  x9 : b9 = true → RowW w W.heap.size v9 D.wks
section
variable {D : Dsp} {W : World} {b0 b3 b4 b7 b8 b9 : Bool} {v0 v3 v4 v7 v8 v9 : Value} {w : World}
theorem cp8_zero (w : World) : Cp8 D w false false false false false false v0 v3 v4 v7 v8 v9 w.drew := by
  constructor
  case low => exact bl_drew (Below.refl _ _)
  all_goals (intro h; cases h)
/-- All rows stay while one of another type turns. -/
theorem cp8_low {w' : World} {e size n g : Nat} {xs : List Value} (h : Below W.heap.size W w) (ho : w.ownsRow W.heap.size e size (.slice (some ⟨g, 0, none⟩) 0 0) n xs) (hg : w.grownBy w' (some g)) : Below W.heap.size W w' :=
  h.grown hg h.size fun k hk => by
    cases hk
    exact (ho.lt g rfl).1
theorem cp8_keep {w' : World} {base e e' size size' n n' g : Nat} {v : Value} {xs ys : List Value} (h : w.ownsRow base e size v n xs) (ho : w.ownsRow base e' size' (.slice (some ⟨g, 0, none⟩) 0 0) n' ys) (hg : w.grownBy w' (some g)) (hne : e ≠ e') : w'.ownsRow base e size v n xs :=
  h.kept hg (own_ne_type h ho hne)
theorem cp8_m0 (h : Cp8 D W false false b4 b7 b8 b9 v0 v3 v4 v7 v8 v9 w) : Cp8 D W true false b4 b7 b8 b9 (.slice (some ⟨w.heap.size, 0, none⟩) 0 0) v3 v4 v7 v8 v9 (w.alloc (.cells #[] 98)) := by
  constructor
  case low => exact bl_alloc h.low
  case x0 => exact fun _ _ => ⟨_, rfl, World.ownsRow_made w #[] 0 h.low.size (by decide) rfl⟩
  case x3 => intro e; cases e
  case x4 => exact fun e e' => by obtain ⟨g, h1, h2⟩ := h.x4 e e'; exact ⟨g, h1, World.ownsRow.alloc h2 _⟩
  case x7 => exact fun e => by first | exact (h.x7 e).alloc _ | exact RowR.alloc (h.x7 e) _ | exact World.ownsRow.alloc (h.x7 e) _
  case x8 => exact fun e e' => by obtain ⟨g, h1, h2⟩ := h.x8 e e'; exact ⟨g, h1, World.ownsRow.alloc h2 _⟩
  case x9 => exact fun e => by first | exact (h.x9 e).alloc _ | exact RowR.alloc (h.x9 e) _ | exact World.ownsRow.alloc (h.x9 e) _
theorem cp8_m4 (h : Cp8 D W b0 b3 false false b8 b9 v0 v3 v4 v7 v8 v9 w) : Cp8 D W b0 b3 true false b8 b9 v0 v3 (.slice (some ⟨w.heap.size, 0, none⟩) 0 0) v7 v8 v9 (w.alloc (.cells #[] 3)) := by
  constructor
  case low => exact bl_alloc h.low
  case x0 => exact fun e e' => by obtain ⟨g, h1, h2⟩ := h.x0 e e'; exact ⟨g, h1, World.ownsRow.alloc h2 _⟩
  case x3 => exact fun e => by first | exact (h.x3 e).alloc _ | exact RowR.alloc (h.x3 e) _ | exact World.ownsRow.alloc (h.x3 e) _
  case x4 => exact fun _ _ => ⟨_, rfl, World.ownsRow_made w #[] 0 h.low.size (by decide) rfl⟩
  case x7 => intro e; cases e
  case x8 => exact fun e e' => by obtain ⟨g, h1, h2⟩ := h.x8 e e'; exact ⟨g, h1, World.ownsRow.alloc h2 _⟩
  case x9 => exact fun e => by first | exact (h.x9 e).alloc _ | exact RowR.alloc (h.x9 e) _ | exact World.ownsRow.alloc (h.x9 e) _
theorem cp8_m8 (h : Cp8 D W b0 b3 b4 b7 false false v0 v3 v4 v7 v8 v9 w) : Cp8 D W b0 b3 b4 b7 true false v0 v3 v4 v7 (.slice (some ⟨w.heap.size, 0, none⟩) 0 0) v9 (w.alloc (.cells #[] 88)) := by
  constructor
  case low => exact bl_alloc h.low
  case x0 => exact fun e e' => by obtain ⟨g, h1, h2⟩ := h.x0 e e'; exact ⟨g, h1, World.ownsRow.alloc h2 _⟩
  case x3 => exact fun e => by first | exact (h.x3 e).alloc _ | exact RowR.alloc (h.x3 e) _ | exact World.ownsRow.alloc (h.x3 e) _
  case x4 => exact fun e e' => by obtain ⟨g, h1, h2⟩ := h.x4 e e'; exact ⟨g, h1, World.ownsRow.alloc h2 _⟩
  case x7 => exact fun e => by first | exact (h.x7 e).alloc _ | exact RowR.alloc (h.x7 e) _ | exact World.ownsRow.alloc (h.x7 e) _
  case x8 => exact fun _ _ => ⟨_, rfl, World.ownsRow_made w #[] 0 h.low.size (by decide) rfl⟩
  case x9 => intro e; cases e
theorem cp8_a3 {w' : World} {g : Nat} (h : Cp8 D W true false b4 b7 b8 b9 v0 v3 v4 v7 v8 v9 w) (ho : w.ownsRow W.heap.size 98 2 (.slice (some ⟨g, 0, none⟩) 0 0) 0 []) (hg : w.grownBy w' (some g)) {v : Value} (hv : RowP w' W.heap.size v D.cs) :
    Cp8 D W true true b4 b7 b8 b9 v0 v v4 v7 v8 v9 w' := by
  constructor
  case low => exact cp8_low h.low ho hg
  case x0 => intro _ e; cases e
  case x3 => exact fun _ => hv
  case x4 => exact fun e e' => by obtain ⟨g', h1, h2⟩ := h.x4 e e'; exact ⟨g', h1, cp8_keep h2 ho hg (by decide)⟩
  case x7 => exact fun e => cp8_keep (h.x7 e) ho hg (by decide)
  case x8 => exact fun e e' => by obtain ⟨g', h1, h2⟩ := h.x8 e e'; exact ⟨g', h1, cp8_keep h2 ho hg (by decide)⟩
  case x9 => exact fun e => cp8_keep (h.x9 e) ho hg (by decide)
theorem cp8_a7 {w' : World} {g : Nat} (h : Cp8 D W b0 b3 true false b8 b9 v0 v3 v4 v7 v8 v9 w) (ho : w.ownsRow W.heap.size 3 1 (.slice (some ⟨g, 0, none⟩) 0 0) 0 []) (hg : w.grownBy w' (some g)) {v : Value} (hv : RowI w' W.heap.size v D.offs) :
    Cp8 D W b0 b3 true true b8 b9 v0 v3 v4 v v8 v9 w' := by
  constructor
  case low => exact cp8_low h.low ho hg
  case x0 => exact fun e e' => by obtain ⟨g', h1, h2⟩ := h.x0 e e'; exact ⟨g', h1, cp8_keep h2 ho hg (by decide)⟩
  case x3 => exact fun e => cp8_keep (h.x3 e) ho hg (by decide)
  case x4 => intro _ e; cases e
  case x7 => exact fun _ => hv
  case x8 => exact fun e e' => by obtain ⟨g', h1, h2⟩ := h.x8 e e'; exact ⟨g', h1, cp8_keep h2 ho hg (by decide)⟩
  case x9 => exact fun e => cp8_keep (h.x9 e) ho hg (by decide)
theorem cp8_a9 {w' : World} {g : Nat} (h : Cp8 D W b0 b3 b4 b7 true false v0 v3 v4 v7 v8 v9 w) (ho : w.ownsRow W.heap.size 88 5 (.slice (some ⟨g, 0, none⟩) 0 0) 0 []) (hg : w.grownBy w' (some g)) {v : Value} (hv : RowW w' W.heap.size v D.wks) :
    Cp8 D W b0 b3 b4 b7 true true v0 v3 v4 v7 v8 v w' := by
  constructor
  case low => exact cp8_low h.low ho hg
  case x0 => exact fun e e' => by obtain ⟨g', h1, h2⟩ := h.x0 e e'; exact ⟨g', h1, cp8_keep h2 ho hg (by decide)⟩
  case x3 => exact fun e => cp8_keep (h.x3 e) ho hg (by decide)
  case x4 => exact fun e e' => by obtain ⟨g', h1, h2⟩ := h.x4 e e'; exact ⟨g', h1, cp8_keep h2 ho hg (by decide)⟩
  case x7 => exact fun e => cp8_keep (h.x7 e) ho hg (by decide)
  case x8 => intro _ e; cases e
  case x9 => exact fun _ => hv
end
theorem grown_set8 {w w' : World} {r o : Nat} {v : Value} (h : w.grownBy w' (some r)) : w.grownBy (w'.setCell ⟨r, o, none⟩ v) (some r) :=
  ⟨h.os, h.tape, h.output, by simpa using h.size, fun k hk hne => (Below.heap_setCell w' ⟨r, o, none⟩ v k (fun e => hne (by rw [e]))).trans (h.block k hk hne)⟩
theorem bl_set8c {w X : World} {b o : Nat} {v : Value} (h : Below w.heap.size w X) (hb : w.heap.size ≤ b) : Below w.heap.size w (X.setCell ⟨b, o, none⟩ v) := h.setCell (p := ⟨b, o, none⟩) hb v
theorem results_cell1 {P : Program} {fn : Func} {p : Tmp} {ty : TypeId} (h : fn.results = #[.cell p ty]) (tmps : Array Value) (w : World) (g : Nat) (t : TypeId) (cs : Array Value) (fr : Nat × Nat) (d : TypeDesc)
    (hp : tmps.getD p undef = .pointer (some ⟨g, 0, none⟩)) (hg : w.heap[g]? = some (.cells cs t fr))
    (hu : P.underlying ty = some d) (hd : (match d with | .struct _ | .array _ _ => true | _ => false) = true) (hi : (P.info? ty).map (·.size) = some cs.size) :
    (results fn tmps).run P w = .ok (.agg cs) w := by
  have hp' : tmps[p]?.getD undef = .pointer (some ⟨g, 0, none⟩) := by simpa using hp
  simp [results, h, hp', asAddr, run_loadVar_row w g t ty cs fr d hg hu hd hi, Sem.run_bind, Result.andThen]
theorem own_far8 {W : World} {B e s n : Nat} {v : Value} {xs : List Value} (h : W.ownsRow B e s v n xs) {p : Addr} (hp : p.block < B) (u : Value) : (W.setCell p u).ownsRow B e s v n xs := by
  refine ⟨h.1, ?_⟩
  rcases h.2 with h0 | ⟨g, cap, cur, hv, hg, hc, hr⟩
  · exact .inl h0
  · exact .inr ⟨g, cap, cur, hv, hg, (Below.heap_setCell W p u g (by omega)).trans hc, hr⟩
theorem own_le8 {W : World} {B B' e s n : Nat} {v : Value} {xs : List Value} (h : W.ownsRow B e s v n xs) (hb : B' ≤ B) : W.ownsRow B' e s v n xs := by
  refine ⟨h.1, ?_⟩
  rcases h.2 with h0 | ⟨g, cap, cur, hv, hg, hc, hr⟩
  · exact .inl h0
  · exact .inr ⟨g, cap, cur, hv, Nat.le_trans hb hg, hc, hr⟩
theorem bl_setRow8 {w0 w : World} {g : Nat} {cs : Array Value} (h : Below w0.heap.size w0 w) (hg : w0.heap.size ≤ g) : Below w0.heap.size w0 (w.setRow g cs) := h.trans ⟨rfl, rfl, rfl, by simp [World.setRow], fun k hk => setRow_other w g k _ (by omega)⟩
theorem blk_setRow8 {w : World} {g : Nat} {t : TypeId} {us cs : Array Value} (h : Blk w g t us) : Blk (w.setRow g cs) g t cs := setRow_heap w g _ _ _ _ h
theorem own_setRow8 {W : World} {B e s n g : Nat} {v : Value} {xs : List Value} {cs : Array Value} (h : W.ownsRow B e s v n xs) (hg : g < B) : (W.setRow g cs).ownsRow B e s v n xs := by
  refine ⟨h.1, ?_⟩
  rcases h.2 with h0 | ⟨g', cap, cur, hv, hb, hc, hr⟩
  · exact .inl h0
  · exact .inr ⟨g', cap, cur, hv, hb, (setRow_other W g g' _ (by omega)).trans hc, hr⟩
/-- The same, by lists. -/
def Cp8L (D : Dsp) (W : World) (g : Nat) (b : List Bool) (v : List Value) (w : World) : Prop := (b.getD 6 false = true → v.getD 6 undef = .pointer (some ⟨g, 0, none⟩)) ∧ Cp8 D W (b.getD 0 false) (b.getD 1 false) (b.getD 2 false) (b.getD 3 false) (b.getD 4 false) (b.getD 5 false) (v.getD 0 undef) (v.getD 1 undef) (v.getD 2 undef) (v.getD 3 undef) (v.getD 4 undef) (v.getD 5 undef) w
theorem seven_list {α : Type} {b : List α} (h : b.length = 7) : ∃ b0 b1 b2 b3 b4 b5 b6, b = [b0, b1, b2, b3, b4, b5, b6] := by
  match b, h with
  | [b0, b1, b2, b3, b4, b5, b6], _ => exact ⟨b0, b1, b2, b3, b4, b5, b6, rfl⟩
theorem Recs.or {α : Type} {enc : α → List Int} {w : World} {A : Option Addr} {l : List α} (h : Recs enc w A l) : l.length = 0 ∨ ∃ ad, A = some ad := by
  rcases h with rfl | ⟨b, o, rfl, _⟩
  · exact .inl rfl
  · exact .inr ⟨_, rfl⟩
theorem Pts.or {w : World} {A : Option Addr} {l : List Pt} (h : Pts w A l) : l.length = 0 ∨ ∃ ad, A = some ad := by
  rcases h with rfl | ⟨b, o, rfl, _⟩
  · exact .inl rfl
  · exact .inr ⟨_, rfl⟩
theorem Ints.or {w : World} {A : Option Addr} {l : List Int} (h : Ints w A l) : l.length = 0 ∨ ∃ ad, A = some ad := by
  rcases h with rfl | ⟨b, o, rfl, _⟩
  · exact .inl rfl
  · exact .inr ⟨_, rfl⟩
theorem seven_pos {j : Nat} (h : j < 7) : j = 0 ∨ j = 1 ∨ j = 2 ∨ j = 3 ∨ j = 4 ∨ j = 5 ∨ j = 6 := by omega
section
variable (A B C : Option Addr) (ca cb cc : Nat) (D : Dsp) (w : World) (ha : Pts w A D.cs) (hb : Ints w B D.offs) (hc : Wks w C D.wks)
include ha hb hc
set_option maxRecDepth 100000 in
set_option maxHeartbeats 4000000 in
theorem rCopy8 (l1 : D.cs.length ≤ 1000) (l2 : D.offs.length ≤ 1000) (l3 : D.wks.length ≤ 1000) :
    Calls Tryz.prog 11 #[(Value.agg #[.slice A D.cs.length ca, .slice B D.offs.length cb, (Value.int .i64 (D.unit)), (Value.int .i64 (D.wh.full)), (Value.int .i64 (D.wh.read)), (Value.int .i64 (D.wh.slip)), (Value.int .i64 (D.wh.skew)), (Value.int .i64 (D.wh.circle)), (Value.int .i64 (D.wh.glo)), (Value.int .i64 (D.wh.ghi)), (Value.int .i64 (D.wh.wrong)), .slice C D.wks.length cc])] w fun e w' => (∃ A' ca' B' cb' C' cc', e = .returned (Value.agg #[.slice A' D.cs.length ca', .slice B' D.offs.length cb', (Value.int .i64 (D.unit)), (Value.int .i64 (D.wh.full)), (Value.int .i64 (D.wh.read)), (Value.int .i64 (D.wh.slip)), (Value.int .i64 (D.wh.skew)), (Value.int .i64 (D.wh.circle)), (Value.int .i64 (D.wh.glo)), (Value.int .i64 (D.wh.ghi)), (Value.int .i64 (D.wh.wrong)), .slice C' D.wks.length cc']) ∧ RowP w' w.heap.size (.slice A' D.cs.length ca') D.cs ∧ RowI w' w.heap.size (.slice B' D.offs.length cb') D.offs ∧ RowW w' w.heap.size (.slice C' D.wks.length cc') D.wks) ∧ Below w.heap.size w w' := by
  obtain ⟨ip, pi, pz0, pz1, pz2⟩ := info_parts infoPt
  obtain ⟨ii, ni, nz0, nz1, nz2⟩ := info_parts infoInt
  obtain ⟨iw, wi, wz0, wz1, wz2⟩ := info_parts infoWk
  have e1 : Blk (((w.alloc (.cells #[.slice A D.cs.length ca, .slice B D.offs.length cb, (Value.int .i64 (D.unit)), (Value.int .i64 (D.wh.full)), (Value.int .i64 (D.wh.read)), (Value.int .i64 (D.wh.slip)), (Value.int .i64 (D.wh.skew)), (Value.int .i64 (D.wh.circle)), (Value.int .i64 (D.wh.glo)), (Value.int .i64 (D.wh.ghi)), (Value.int .i64 (D.wh.wrong)), .slice C D.wks.length cc] 30)).alloc (.cells #[.slice none 0 0, .slice none 0 0, (Value.int .i64 (0)), (Value.int .i64 (0)), (Value.int .i64 (0)), (Value.int .i64 (0)), (Value.int .i64 (0)), (Value.int .i64 (0)), (Value.int .i64 (0)), (Value.int .i64 (0)), (Value.int .i64 (0)), .slice none 0 0] 30)).alloc (.cells #[.slice A D.cs.length ca, .slice B D.offs.length cb, (Value.int .i64 (D.unit)), (Value.int .i64 (D.wh.full)), (Value.int .i64 (D.wh.read)), (Value.int .i64 (D.wh.slip)), (Value.int .i64 (D.wh.skew)), (Value.int .i64 (D.wh.circle)), (Value.int .i64 (D.wh.glo)), (Value.int .i64 (D.wh.ghi)), (Value.int .i64 (D.wh.wrong)), .slice C D.wks.length cc] 30)) (w.heap.size + 1) 30 #[.slice none 0 0, .slice none 0 0, (Value.int .i64 (0)), (Value.int .i64 (0)), (Value.int .i64 (0)), (Value.int .i64 (0)), (Value.int .i64 (0)), (Value.int .i64 (0)), (Value.int .i64 (0)), (Value.int .i64 (0)), (Value.int .i64 (0)), .slice none 0 0] := (blk_new_at (by simp)).alloc _
  have e2 : Blk (((w.alloc (.cells #[.slice A D.cs.length ca, .slice B D.offs.length cb, (Value.int .i64 (D.unit)), (Value.int .i64 (D.wh.full)), (Value.int .i64 (D.wh.read)), (Value.int .i64 (D.wh.slip)), (Value.int .i64 (D.wh.skew)), (Value.int .i64 (D.wh.circle)), (Value.int .i64 (D.wh.glo)), (Value.int .i64 (D.wh.ghi)), (Value.int .i64 (D.wh.wrong)), .slice C D.wks.length cc] 30)).alloc (.cells #[.slice none 0 0, .slice none 0 0, (Value.int .i64 (0)), (Value.int .i64 (0)), (Value.int .i64 (0)), (Value.int .i64 (0)), (Value.int .i64 (0)), (Value.int .i64 (0)), (Value.int .i64 (0)), (Value.int .i64 (0)), (Value.int .i64 (0)), .slice none 0 0] 30)).alloc (.cells #[.slice A D.cs.length ca, .slice B D.offs.length cb, (Value.int .i64 (D.unit)), (Value.int .i64 (D.wh.full)), (Value.int .i64 (D.wh.read)), (Value.int .i64 (D.wh.slip)), (Value.int .i64 (D.wh.skew)), (Value.int .i64 (D.wh.circle)), (Value.int .i64 (D.wh.glo)), (Value.int .i64 (D.wh.ghi)), (Value.int .i64 (D.wh.wrong)), .slice C D.wks.length cc] 30)) (w.heap.size + 1 + 1) 30 #[.slice A D.cs.length ca, .slice B D.offs.length cb, (Value.int .i64 (D.unit)), (Value.int .i64 (D.wh.full)), (Value.int .i64 (D.wh.read)), (Value.int .i64 (D.wh.slip)), (Value.int .i64 (D.wh.skew)), (Value.int .i64 (D.wh.circle)), (Value.int .i64 (D.wh.glo)), (Value.int .i64 (D.wh.ghi)), (Value.int .i64 (D.wh.wrong)), .slice C D.wks.length cc] := blk_new_at (by simp)
  have e0 : Blk (((w.alloc (.cells #[.slice A D.cs.length ca, .slice B D.offs.length cb, (Value.int .i64 (D.unit)), (Value.int .i64 (D.wh.full)), (Value.int .i64 (D.wh.read)), (Value.int .i64 (D.wh.slip)), (Value.int .i64 (D.wh.skew)), (Value.int .i64 (D.wh.circle)), (Value.int .i64 (D.wh.glo)), (Value.int .i64 (D.wh.ghi)), (Value.int .i64 (D.wh.wrong)), .slice C D.wks.length cc] 30)).alloc (.cells #[.slice none 0 0, .slice none 0 0, (Value.int .i64 (0)), (Value.int .i64 (0)), (Value.int .i64 (0)), (Value.int .i64 (0)), (Value.int .i64 (0)), (Value.int .i64 (0)), (Value.int .i64 (0)), (Value.int .i64 (0)), (Value.int .i64 (0)), .slice none 0 0] 30)).alloc (.cells #[.slice A D.cs.length ca, .slice B D.offs.length cb, (Value.int .i64 (D.unit)), (Value.int .i64 (D.wh.full)), (Value.int .i64 (D.wh.read)), (Value.int .i64 (D.wh.slip)), (Value.int .i64 (D.wh.skew)), (Value.int .i64 (D.wh.circle)), (Value.int .i64 (D.wh.glo)), (Value.int .i64 (D.wh.ghi)), (Value.int .i64 (D.wh.wrong)), .slice C D.wks.length cc] 30)) w.heap.size 30 #[.slice A D.cs.length ca, .slice B D.offs.length cb, (Value.int .i64 (D.unit)), (Value.int .i64 (D.wh.full)), (Value.int .i64 (D.wh.read)), (Value.int .i64 (D.wh.slip)), (Value.int .i64 (D.wh.skew)), (Value.int .i64 (D.wh.circle)), (Value.int .i64 (D.wh.glo)), (Value.int .i64 (D.wh.ghi)), (Value.int .i64 (D.wh.wrong)), .slice C D.wks.length cc] := ((Blk.new _ _ _).alloc _).alloc _
  have hbX : Below w.heap.size w (((w.alloc (.cells #[.slice A D.cs.length ca, .slice B D.offs.length cb, (Value.int .i64 (D.unit)), (Value.int .i64 (D.wh.full)), (Value.int .i64 (D.wh.read)), (Value.int .i64 (D.wh.slip)), (Value.int .i64 (D.wh.skew)), (Value.int .i64 (D.wh.circle)), (Value.int .i64 (D.wh.glo)), (Value.int .i64 (D.wh.ghi)), (Value.int .i64 (D.wh.wrong)), .slice C D.wks.length cc] 30)).alloc (.cells #[.slice none 0 0, .slice none 0 0, (Value.int .i64 (0)), (Value.int .i64 (0)), (Value.int .i64 (0)), (Value.int .i64 (0)), (Value.int .i64 (0)), (Value.int .i64 (0)), (Value.int .i64 (0)), (Value.int .i64 (0)), (Value.int .i64 (0)), .slice none 0 0] 30)).alloc (.cells #[.slice A D.cs.length ca, .slice B D.offs.length cb, (Value.int .i64 (D.unit)), (Value.int .i64 (D.wh.full)), (Value.int .i64 (D.wh.read)), (Value.int .i64 (D.wh.slip)), (Value.int .i64 (D.wh.skew)), (Value.int .i64 (D.wh.circle)), (Value.int .i64 (D.wh.glo)), (Value.int .i64 (D.wh.ghi)), (Value.int .i64 (D.wh.wrong)), .slice C D.wks.length cc] 30)) := by (repeat (first | with_reducible exact Below.refl _ _ | with_reducible apply bl_alloc | with_reducible apply bl_drew | with_reducible apply bl_after | (with_reducible refine bl_call ?_ (by assumption))))
  go_enter Tryz.func11, Tryz.ntmps11
  go_upto_region 2 with fail
  have hP := ha.below hbX
  have hI := hb.below hbX
  have hK3 := hc.below hbX
  have hsz : ((((w.alloc (.cells #[.slice A D.cs.length ca, .slice B D.offs.length cb, (Value.int .i64 (D.unit)), (Value.int .i64 (D.wh.full)), (Value.int .i64 (D.wh.read)), (Value.int .i64 (D.wh.slip)), (Value.int .i64 (D.wh.skew)), (Value.int .i64 (D.wh.circle)), (Value.int .i64 (D.wh.glo)), (Value.int .i64 (D.wh.ghi)), (Value.int .i64 (D.wh.wrong)), .slice C D.wks.length cc] 30)).alloc (.cells #[.slice none 0 0, .slice none 0 0, (Value.int .i64 (0)), (Value.int .i64 (0)), (Value.int .i64 (0)), (Value.int .i64 (0)), (Value.int .i64 (0)), (Value.int .i64 (0)), (Value.int .i64 (0)), (Value.int .i64 (0)), (Value.int .i64 (0)), .slice none 0 0] 30)).alloc (.cells #[.slice A D.cs.length ca, .slice B D.offs.length cb, (Value.int .i64 (D.unit)), (Value.int .i64 (D.wh.full)), (Value.int .i64 (D.wh.read)), (Value.int .i64 (D.wh.slip)), (Value.int .i64 (D.wh.skew)), (Value.int .i64 (D.wh.circle)), (Value.int .i64 (D.wh.glo)), (Value.int .i64 (D.wh.ghi)), (Value.int .i64 (D.wh.wrong)), .slice C D.wks.length cc] 30))).heap.size = w.heap.size + 1 + 1 + 1 := by simp
  clear ha hb hc
  generalize (((w.alloc (.cells #[.slice A D.cs.length ca, .slice B D.offs.length cb, (Value.int .i64 (D.unit)), (Value.int .i64 (D.wh.full)), (Value.int .i64 (D.wh.read)), (Value.int .i64 (D.wh.slip)), (Value.int .i64 (D.wh.skew)), (Value.int .i64 (D.wh.circle)), (Value.int .i64 (D.wh.glo)), (Value.int .i64 (D.wh.ghi)), (Value.int .i64 (D.wh.wrong)), .slice C D.wks.length cc] 30)).alloc (.cells #[.slice none 0 0, .slice none 0 0, (Value.int .i64 (0)), (Value.int .i64 (0)), (Value.int .i64 (0)), (Value.int .i64 (0)), (Value.int .i64 (0)), (Value.int .i64 (0)), (Value.int .i64 (0)), (Value.int .i64 (0)), (Value.int .i64 (0)), .slice none 0 0] 30)).alloc (.cells #[.slice A D.cs.length ca, .slice B D.offs.length cb, (Value.int .i64 (D.unit)), (Value.int .i64 (D.wh.full)), (Value.int .i64 (D.wh.read)), (Value.int .i64 (D.wh.slip)), (Value.int .i64 (D.wh.skew)), (Value.int .i64 (D.wh.circle)), (Value.int .i64 (D.wh.glo)), (Value.int .i64 (D.wh.ghi)), (Value.int .i64 (D.wh.wrong)), .slice C D.wks.length cc] 30)) = W at *
  generalize hg2 : w.heap.size + 1 + 1 = g2 at *
  have HS := Lib.hid (And.intro hg2 hsz)
  have hne : w.heap.size ≠ g2 := by omega
  have hne' : ¬ w.heap.size = g2 := by omega
  have hq : g2 < W.heap.size := by omega
  clear hg2 hsz
  (have la := e0.lt); (have ya0 := e0.cell 0); (have ya1 := e0.cell 1); (have ya2 := e0.cell 2); (have ya3 := e0.cell 3); (have ya4 := e0.cell 4); (have ya5 := e0.cell 5); (have ya6 := e0.cell 6); (have ya7 := e0.cell 7); (have ya8 := e0.cell 8); (have ya9 := e0.cell 9); (have ya10 := e0.cell 10); (have ya11 := e0.cell 11); simp only [List.getElem?_toArray, List.getElem?_cons_zero, List.getElem?_cons_succ] at ya0 ya1 ya2 ya3 ya4 ya5 ya6 ya7 ya8 ya9 ya10 ya11
  clear e0
  refine wp_region_CN (fun w' => ∃ z : AfterM W (g2), w' = z.val) (by kernel_rfl) ?_
  change wpAnyC _ _ _ _ _ _ _ (World.drew W)
  refine wpAnyC_take (i := 1) (v := ?v1u) rfl (by kernel_rfl) (by kernel_rfl) (by kernel_rfl) ?q1u rfl ?y1u ?r1u; (case q1u => exact fun _ _ _ h => h); (case y1u => ((rintro _ ⟨z, rfl⟩); (go_simp); (try with_reducible rfl))); simp only [Act.put, List.getElem_toArray, List.getElem_cons_succ, List.getElem_cons_zero, List.setIfInBounds_toArray, List.set_cons_succ, List.set_cons_zero]
  refine wpAnyC_take (i := 2) (v := ?v2u) rfl (by kernel_rfl) (by kernel_rfl) (by kernel_rfl) ?q2u rfl ?y2u ?r2u; (case q2u => exact fun _ _ _ h => h); (case y2u => ((rintro _ ⟨z, rfl⟩); (go_simp); (try with_reducible rfl))); simp only [Act.put, List.getElem_toArray, List.getElem_cons_succ, List.getElem_cons_zero, List.setIfInBounds_toArray, List.set_cons_succ, List.set_cons_zero]
  refine wpAnyC_take (i := 5) (v := ?v5u) rfl (by kernel_rfl) (by kernel_rfl) (by kernel_rfl) ?q5u rfl ?y5u ?r5u; (case q5u => exact fun _ _ _ h => h); (case y5u => ((rintro _ ⟨z, rfl⟩); (go_simp); (try with_reducible rfl))); simp only [Act.put, List.getElem_toArray, List.getElem_cons_succ, List.getElem_cons_zero, List.setIfInBounds_toArray, List.set_cons_succ, List.set_cons_zero]
  refine wpAnyC_take (i := 6) (v := ?v6u) rfl (by kernel_rfl) (by kernel_rfl) (by kernel_rfl) ?q6u rfl ?y6u ?r6u; (case q6u => exact fun _ _ _ h => h); (case y6u => ((rintro _ ⟨z, rfl⟩); (go_simp); (try with_reducible rfl))); simp only [Act.put, List.getElem_toArray, List.getElem_cons_succ, List.getElem_cons_zero, List.setIfInBounds_toArray, List.set_cons_succ, List.set_cons_zero]
  refine wpAnyC_take (i := 9) (v := ?v9u) rfl (by kernel_rfl) (by kernel_rfl) (by kernel_rfl) ?q9u rfl ?y9u ?r9u; (case q9u => exact fun _ _ _ h => h); (case y9u => ((rintro _ ⟨z, rfl⟩); (go_simp); (try with_reducible rfl))); simp only [Act.put, List.getElem_toArray, List.getElem_cons_succ, List.getElem_cons_zero, List.setIfInBounds_toArray, List.set_cons_succ, List.set_cons_zero]
  refine wpAnyC_take (i := 10) (v := ?v10u) rfl (by kernel_rfl) (by kernel_rfl) (by kernel_rfl) ?q10u rfl ?y10u ?r10u; (case q10u => exact fun _ _ _ h => h); (case y10u => ((rintro _ ⟨z, rfl⟩); (go_simp); (try with_reducible rfl))); simp only [Act.put, List.getElem_toArray, List.getElem_cons_succ, List.getElem_cons_zero, List.setIfInBounds_toArray, List.set_cons_succ, List.set_cons_zero]
  refine wpAnyC_stg [0, 3, 4, 7, 8, 11, 12] [[], [0], [], [1, 2], [], [3, 4], [1]] [5, 8, 9, 12, 13, 16, 17] (Cp8L D W (g2)) (f0 := 5) (by kernel_rfl) rfl rfl (by kernel_rfl) rfl ?hC (fun vs _ => ⟨(fun h => by cases h), cp8_zero W⟩) ?hs ?hf
  case hC => exact fun b vs w7 h => ⟨⟨_, grown_below h.2.low⟩, rfl⟩
  case hs =>
    intro j b vs w7 hj hbl hvl hok hbj hdp hJ
    obtain ⟨b0, b1, b2, b3, b4, b5, b6, rfl⟩ := seven_list hbl
    obtain ⟨v0, v1, v2, v3, v4, v5, v6, rfl⟩ := seven_list hvl
    obtain ⟨hv6, hJ⟩ : (b6 = true → v6 = .pointer (some ⟨g2, 0, none⟩)) ∧ Cp8 D W b0 b1 b2 b3 b4 b5 v0 v1 v2 v3 v4 v5 w7 := hJ
    have hlow := hJ.low
    simp only [okB, List.zip_cons_cons, List.zip_nil_right, List.all_cons, List.all_nil, List.getD_cons_zero, List.getD_cons_succ, Bool.and_true, Bool.true_and, Bool.or_true, Bool.and_eq_true, Bool.or_eq_true, Bool.not_eq_true'] at hok
    clear hbl hvl
    rcases seven_pos hj with rfl | rfl | rfl | rfl | rfl | rfl | rfl
    · obtain rfl : b0 = false := hbj
      obtain rfl : b1 = false := by simpa using hok.1
      (refine wpOp_of rfl rfl (fun K hK => ?_)); simp only [putL, Act.put, List.getElem_toArray, List.getElem_cons_succ, List.getElem_cons_zero, List.setIfInBounds_toArray, List.set_cons_succ, List.set_cons_zero, List.getD_cons_zero, List.getD_cons_succ]; go_simp; (refine hK _ _ ⟨_, ?_, hv6, cp8_m0 hJ⟩); rfl
    · obtain rfl : b0 = true := by simpa using hdp
      obtain rfl : b1 = false := hbj
      obtain ⟨g, rfl, ho⟩ := hJ.x0 rfl rfl
      refine wpOp_of rfl rfl (fun K hK => ?_)
      simp only [putL, Act.put, List.getElem_toArray, List.getElem_cons_succ, List.getElem_cons_zero, List.setIfInBounds_toArray, List.set_cons_succ, List.set_cons_zero, List.getD_cons_zero, List.getD_cons_succ]
      refine wp_copy_own (.tmp 5) (.tmp 7) 22 rfl W.heap.size 98 ip _ 2 16 undPts pi pz0 pz1 pz2 rfl (by decide) (by decide) g rfl ho A D.cs.length ca (ptsV D.cs) rfl (ptsV_len D.cs) hP.or (fun ad hA => by subst hA; exact (hP.below hlow).cellsV) (ptsV_one D.cs) (by omega) hlow.size ?_
      intro v' w' hown hgrow
      exact hK _ _ ⟨v', rfl, hv6, cp8_a3 hJ ho hgrow hown⟩
    · obtain rfl : b2 = false := hbj
      obtain rfl : b3 = false := by simpa using hok.2.1
      (refine wpOp_of rfl rfl (fun K hK => ?_)); simp only [putL, Act.put, List.getElem_toArray, List.getElem_cons_succ, List.getElem_cons_zero, List.setIfInBounds_toArray, List.set_cons_succ, List.set_cons_zero, List.getD_cons_zero, List.getD_cons_succ]; go_simp; (refine hK _ _ ⟨_, ?_, hv6, cp8_m4 hJ⟩); rfl
    · obtain ⟨rfl, rfl⟩ : b1 = true ∧ b2 = true := by simpa using hdp
      obtain rfl : b3 = false := hbj
      obtain ⟨g, rfl, ho⟩ := hJ.x4 rfl rfl
      refine wpOp_of rfl rfl (fun K hK => ?_)
      simp only [putL, Act.put, List.getElem_toArray, List.getElem_cons_succ, List.getElem_cons_zero, List.setIfInBounds_toArray, List.set_cons_succ, List.set_cons_zero, List.getD_cons_zero, List.getD_cons_succ]
      refine wp_copy_own (.tmp 9) (.tmp 11) 23 rfl W.heap.size 3 ii _ 1 8 undInts ni nz0 nz1 nz2 rfl (by decide) (by decide) g rfl ho B D.offs.length cb (intsV D.offs) rfl (intsV_len D.offs) hI.or (fun ad hA => by subst hA; exact (hI.below hlow).cellsV) (intsV_one D.offs) (by omega) hlow.size ?_
      intro v' w' hown hgrow
      exact hK _ _ ⟨v', rfl, hv6, cp8_a7 hJ ho hgrow hown⟩
    · obtain rfl : b4 = false := hbj
      obtain rfl : b5 = false := by simpa using hok.2.2.1
      (refine wpOp_of rfl rfl (fun K hK => ?_)); simp only [putL, Act.put, List.getElem_toArray, List.getElem_cons_succ, List.getElem_cons_zero, List.setIfInBounds_toArray, List.set_cons_succ, List.set_cons_zero, List.getD_cons_zero, List.getD_cons_succ]; go_simp; (refine hK _ _ ⟨_, ?_, hv6, cp8_m8 hJ⟩); rfl
    · obtain ⟨rfl, rfl⟩ : b3 = true ∧ b4 = true := by simpa using hdp
      obtain rfl : b5 = false := hbj
      obtain ⟨g, rfl, ho⟩ := hJ.x8 rfl rfl
      refine wpOp_of rfl rfl (fun K hK => ?_)
      simp only [putL, Act.put, List.getElem_toArray, List.getElem_cons_succ, List.getElem_cons_zero, List.setIfInBounds_toArray, List.set_cons_succ, List.set_cons_zero, List.getD_cons_zero, List.getD_cons_succ]
      refine wp_copy_own (.tmp 13) (.tmp 15) 28 rfl W.heap.size 88 iw _ 5 40 undWk8 wi wz0 wz1 wz2 rfl (by decide) (by decide) g rfl ho C D.wks.length cc (recV wkE D.wks) rfl (recV_len wkE_len D.wks) hK3.or (fun ad hA => by subst hA; exact (hK3.below hlow).cellsV) (recV_one D.wks) (by omega) hlow.size ?_
      intro v' w' hown hgrow
      exact hK _ _ ⟨v', rfl, hv6, cp8_a9 hJ ho hgrow hown⟩
    · refine wpOp_of rfl rfl (fun K hK => ?_)
      simp only [putL, Act.put, List.getElem_toArray, List.getElem_cons_succ, List.getElem_cons_zero, List.setIfInBounds_toArray, List.set_cons_succ, List.set_cons_zero, List.getD_cons_zero, List.getD_cons_succ]
      go_simp
      refine hK _ _ ⟨_, ?_, (fun _ => rfl), hJ⟩
      rfl
  case hf =>
    intro vs w7 hvl hJ
    obtain ⟨v0, v1, v2, v3, v4, v5, v6, rfl⟩ := seven_list hvl
    obtain ⟨hv6, hJ⟩ : (true = true → v6 = .pointer (some ⟨g2, 0, none⟩)) ∧ Cp8 D W true true true true true true v0 v1 v2 v3 v4 v5 w7 := hJ
    obtain rfl := hv6 rfl
    have hr1 := hJ.x3 rfl
    have hr2 := hJ.x7 rfl
    have hr3 := hJ.x9 rfl
    have hlow := hJ.low
    obtain ⟨A1, c1, rfl, -⟩ := hr1.parts
    obtain ⟨A2, c2, rfl, -⟩ := hr2.parts
    obtain ⟨A3, c3, rfl, -⟩ := RowR.parts8 hr3
    have hg0 := grown_below (r := some (g2)) hlow
    have e27 := e2.below hlow
    have e17 := e1.below hlow
    have hbw := bl_call hbX hlow
    have f0 := e27.frozen 0
    clear hJ hv6 hvl la ya0 ya1 ya2 ya3 ya4 ya5 ya6 ya7 ya8 ya9 ya10 ya11 e1 e2 hP hI hK3 hlow hbX
    simp only [putL, Act.put, List.getElem_toArray, List.getElem_cons_succ, List.getElem_cons_zero, List.setIfInBounds_toArray, List.set_cons_succ, List.set_cons_zero, List.getD_cons_zero, List.getD_cons_succ]
    have HR := Lib.hid (And.intro hr1 (And.intro hr2 hr3))
    have HE := Lib.hid e27
    clear hr1 hr2 hr3
    (have la := e27.lt); (have ya0 := e27.cell 0); (have ya1 := e27.cell 1); (have ya2 := e27.cell 2); (have ya3 := e27.cell 3); (have ya4 := e27.cell 4); (have ya5 := e27.cell 5); (have ya6 := e27.cell 6); (have ya7 := e27.cell 7); (have ya8 := e27.cell 8); (have ya9 := e27.cell 9); (have ya10 := e27.cell 10); (have ya11 := e27.cell 11); simp only [List.getElem?_toArray, List.getElem?_cons_zero, List.getElem?_cons_succ] at ya0 ya1 ya2 ya3 ya4 ya5 ya6 ya7 ya8 ya9 ya10 ya11
    clear e27
    have hle2 : w.heap.size ≤ g2 := by have := HS.out.1; omega
    have hne1 : w.heap.size + 1 ≠ g2 := by have := HS.out.1; omega
    have HLe := Lib.hid (And.intro hle2 hne1)
    refine wpAnyC_one (i := 13) (by kernel_rfl) rfl ⟨⟨_, hg0⟩, rfl⟩ rfl (fun K hK => ?_)
    go_simp
    refine hK _ _ ?_
    clear hK K la ya0 ya1 ya2 ya3 ya4 ya5 ya6 ya7 ya8 ya9 ya10 ya11 f0
    replace hg0 := grown_set8 (o := 0) (v := .slice A1 D.cs.length c1) hg0
    have HE := Lib.hid (HE.out.set_ 0 (.slice A1 D.cs.length c1))
    have HR := Lib.hid (And.intro (own_far8 HR.out.1 (p := ⟨g2, 0, none⟩) hq (.slice A1 D.cs.length c1)) (And.intro (own_far8 HR.out.2.1 (p := ⟨g2, 0, none⟩) hq (.slice A1 D.cs.length c1)) (own_far8 HR.out.2.2 (p := ⟨g2, 0, none⟩) hq (.slice A1 D.cs.length c1))))
    replace e17 := e17.far (p := ⟨g2, 0, none⟩) hne1 (.slice A1 D.cs.length c1)
    replace hbw := bl_set8c (o := 0) (v := .slice A1 D.cs.length c1) hbw hle2
    generalize w7.setCell ⟨g2, 0, none⟩ (.slice A1 D.cs.length c1) = w8 at *
    refine wpAnyC_take (i := 14) (v := ?v14u) rfl (by kernel_rfl) (by kernel_rfl) (by kernel_rfl) ?q14u rfl ?y14u ?r14u; (case q14u => exact fun _ _ _ h => h); (case y14u => ((rintro _ ⟨z, rfl⟩); (go_simp); (try with_reducible rfl))); simp only [Act.put, List.getElem_toArray, List.getElem_cons_succ, List.getElem_cons_zero, List.setIfInBounds_toArray, List.set_cons_succ, List.set_cons_zero]
    have e28 : Blk w8 g2 30 #[.slice A1 D.cs.length c1, .slice B D.offs.length cb, (Value.int .i64 (D.unit)), (Value.int .i64 (D.wh.full)), (Value.int .i64 (D.wh.read)), (Value.int .i64 (D.wh.slip)), (Value.int .i64 (D.wh.skew)), (Value.int .i64 (D.wh.circle)), (Value.int .i64 (D.wh.glo)), (Value.int .i64 (D.wh.ghi)), (Value.int .i64 (D.wh.wrong)), .slice C D.wks.length cc] := HE.out
    have f1 := e28.frozen 1
    (have la := e28.lt); (have ya0 := e28.cell 0); (have ya1 := e28.cell 1); (have ya2 := e28.cell 2); (have ya3 := e28.cell 3); (have ya4 := e28.cell 4); (have ya5 := e28.cell 5); (have ya6 := e28.cell 6); (have ya7 := e28.cell 7); (have ya8 := e28.cell 8); (have ya9 := e28.cell 9); (have ya10 := e28.cell 10); (have ya11 := e28.cell 11); simp only [List.getElem?_toArray, List.getElem?_cons_zero, List.getElem?_cons_succ] at ya0 ya1 ya2 ya3 ya4 ya5 ya6 ya7 ya8 ya9 ya10 ya11
    clear e28
    refine wpAnyC_one (i := 15) (by kernel_rfl) rfl ⟨⟨_, hg0⟩, rfl⟩ rfl (fun K hK => ?_)
    go_simp
    refine hK _ _ ?_
    clear hK K la ya0 ya1 ya2 ya3 ya4 ya5 ya6 ya7 ya8 ya9 ya10 ya11 f1
    replace hg0 := grown_set8 (o := 1) (v := .slice A2 D.offs.length c2) hg0
    have HE := Lib.hid (HE.out.set_ 1 (.slice A2 D.offs.length c2))
    have HR := Lib.hid (And.intro (own_far8 HR.out.1 (p := ⟨g2, 1, none⟩) hq (.slice A2 D.offs.length c2)) (And.intro (own_far8 HR.out.2.1 (p := ⟨g2, 1, none⟩) hq (.slice A2 D.offs.length c2)) (own_far8 HR.out.2.2 (p := ⟨g2, 1, none⟩) hq (.slice A2 D.offs.length c2))))
    replace e17 := e17.far (p := ⟨g2, 1, none⟩) hne1 (.slice A2 D.offs.length c2)
    replace hbw := bl_set8c (o := 1) (v := .slice A2 D.offs.length c2) hbw hle2
    generalize w8.setCell ⟨g2, 1, none⟩ (.slice A2 D.offs.length c2) = w9 at *
    refine wpAnyC_take (i := 16) (v := ?v16u) rfl (by kernel_rfl) (by kernel_rfl) (by kernel_rfl) ?q16u rfl ?y16u ?r16u; (case q16u => exact fun _ _ _ h => h); (case y16u => ((rintro _ ⟨z, rfl⟩); (go_simp); (try with_reducible rfl))); simp only [Act.put, List.getElem_toArray, List.getElem_cons_succ, List.getElem_cons_zero, List.setIfInBounds_toArray, List.set_cons_succ, List.set_cons_zero]
    have e28 : Blk w9 g2 30 #[.slice A1 D.cs.length c1, .slice A2 D.offs.length c2, (Value.int .i64 (D.unit)), (Value.int .i64 (D.wh.full)), (Value.int .i64 (D.wh.read)), (Value.int .i64 (D.wh.slip)), (Value.int .i64 (D.wh.skew)), (Value.int .i64 (D.wh.circle)), (Value.int .i64 (D.wh.glo)), (Value.int .i64 (D.wh.ghi)), (Value.int .i64 (D.wh.wrong)), .slice C D.wks.length cc] := HE.out
    have f11 := e28.frozen 11
    (have la := e28.lt); (have ya0 := e28.cell 0); (have ya1 := e28.cell 1); (have ya2 := e28.cell 2); (have ya3 := e28.cell 3); (have ya4 := e28.cell 4); (have ya5 := e28.cell 5); (have ya6 := e28.cell 6); (have ya7 := e28.cell 7); (have ya8 := e28.cell 8); (have ya9 := e28.cell 9); (have ya10 := e28.cell 10); (have ya11 := e28.cell 11); simp only [List.getElem?_toArray, List.getElem?_cons_zero, List.getElem?_cons_succ] at ya0 ya1 ya2 ya3 ya4 ya5 ya6 ya7 ya8 ya9 ya10 ya11
    clear e28
    refine wpAnyC_one (i := 17) (by kernel_rfl) rfl ⟨⟨_, hg0⟩, rfl⟩ rfl (fun K hK => ?_)
    go_simp
    refine hK _ _ ?_
    clear hK K la ya0 ya1 ya2 ya3 ya4 ya5 ya6 ya7 ya8 ya9 ya10 ya11 f11
    replace hg0 := grown_set8 (o := 11) (v := .slice A3 D.wks.length c3) hg0
    have HE := Lib.hid (HE.out.set_ 11 (.slice A3 D.wks.length c3))
    have HR := Lib.hid (And.intro (own_far8 HR.out.1 (p := ⟨g2, 11, none⟩) hq (.slice A3 D.wks.length c3)) (And.intro (own_far8 HR.out.2.1 (p := ⟨g2, 11, none⟩) hq (.slice A3 D.wks.length c3)) (own_far8 HR.out.2.2 (p := ⟨g2, 11, none⟩) hq (.slice A3 D.wks.length c3))))
    replace e17 := e17.far (p := ⟨g2, 11, none⟩) hne1 (.slice A3 D.wks.length c3)
    replace hbw := bl_set8c (o := 11) (v := .slice A3 D.wks.length c3) hbw hle2
    generalize w9.setCell ⟨g2, 11, none⟩ (.slice A3 D.wks.length c3) = w10 at *
    refine wpAnyC_doneN (by kernel_rfl) ⟨⟨_, hg0⟩, rfl⟩ ?_ _
    have HE2 : Blk w10 g2 30 #[.slice A1 D.cs.length c1, .slice A2 D.offs.length c2, (Value.int .i64 (D.unit)), (Value.int .i64 (D.wh.full)), (Value.int .i64 (D.wh.read)), (Value.int .i64 (D.wh.slip)), (Value.int .i64 (D.wh.skew)), (Value.int .i64 (D.wh.circle)), (Value.int .i64 (D.wh.glo)), (Value.int .i64 (D.wh.ghi)), (Value.int .i64 (D.wh.wrong)), .slice A3 D.wks.length c3] := HE.out
    (have la := HE2.lt); (have ya0 := HE2.cell 0); (have ya1 := HE2.cell 1); (have ya2 := HE2.cell 2); (have ya3 := HE2.cell 3); (have ya4 := HE2.cell 4); (have ya5 := HE2.cell 5); (have ya6 := HE2.cell 6); (have ya7 := HE2.cell 7); (have ya8 := HE2.cell 8); (have ya9 := HE2.cell 9); (have ya10 := HE2.cell 10); (have ya11 := HE2.cell 11); simp only [List.getElem?_toArray, List.getElem?_cons_zero, List.getElem?_cons_succ] at ya0 ya1 ya2 ya3 ya4 ya5 ya6 ya7 ya8 ya9 ya10 ya11
    clear HE2 HE
    go_wp2_with (refine wpList_store_row rfl 30 _ _ rfl (w.heap.size + 1) #[.slice A1 D.cs.length c1, .slice A2 D.offs.length c2, (Value.int .i64 (D.unit)), (Value.int .i64 (D.wh.full)), (Value.int .i64 (D.wh.read)), (Value.int .i64 (D.wh.slip)), (Value.int .i64 (D.wh.skew)), (Value.int .i64 (D.wh.circle)), (Value.int .i64 (D.wh.glo)), (Value.int .i64 (D.wh.ghi)), (Value.int .i64 (D.wh.wrong)), .slice A3 D.wks.length c3] rfl rfl 30 _ e17 (by kernel_rfl) rfl (by simp [Value.oneCell']) ?_)
    have hW1 : w.heap.size + 1 < W.heap.size := by have := HS.out.2; omega
    have hW0 : w.heap.size ≤ W.heap.size := by omega
    exact bodyPost_ret (results_cell1 rfl _ _ (w.heap.size + 1) _ _ _ _ rfl (blk_setRow8 e17) Tryz.underlying30 rfl (by kernel_rfl)) rfl ⟨⟨A1, c1, A2, c2, A3, c3, rfl, own_le8 (own_setRow8 HR.out.1 hW1) hW0, own_le8 (own_setRow8 HR.out.2.1 hW1) hW0, own_le8 (own_setRow8 HR.out.2.2 hW1) hW0⟩, bl_setRow8 hbw (Nat.le_succ _)⟩
end
end Go.Proofs.YthijegacjboclaaGreat
