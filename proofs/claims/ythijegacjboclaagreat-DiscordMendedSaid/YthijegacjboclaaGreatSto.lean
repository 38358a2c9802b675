/- The map of all stories of a dispute, in memory. -/
import Derived.Test.YthijegacjboclaaGreatPtx
import Derived.Test.YthijegacjboclaaGreatKys
import Derived.Test.YthijegacjboclaaGreatJQtb
namespace Go.Proofs.YthijegacjboclaaGreat
open Go.RowKit Go.Maps

theorem grown_below {w w' : World} {r : Option Nat} (h : Below w.heap.size w w') : w.grownBy w' r := ⟨h.os, h.tape, h.output, h.size, fun k hk _ => h.block k hk⟩
theorem Blk.grown_ {w w' : World} {g : Nat} {t : TypeId} {cs : Array Value} {r : Option Nat} (h : Blk w g t cs) (hg : w.grownBy w' r) (hr : some g ≠ r) : Blk w' g t cs := (hg.block g h.lt hr).trans h
/-- A world in which all but a map's block lies as it lay in w. -/
structure AfterM (w : World) (r : Nat) where
  val : World
  ok : w.grownBy val (some r)
theorem AfterM.cell {w : World} {r : Nat} (z : AfterM w r) (b o : Nat) (h : b < w.heap.size) (hr : b ≠ r) : z.val.cell? ⟨b, o, none⟩ = w.cell? ⟨b, o, none⟩ :=
  World.cell?_of_block (a := ⟨b, o, none⟩) (z.ok.block b h (by simpa using hr))
theorem AfterM.frozen {w : World} {r : Nat} (z : AfterM w r) (b o : Nat) (h : b < w.heap.size) (hr : b ≠ r) : z.val.frozen? ⟨b, o, none⟩ = w.frozen? ⟨b, o, none⟩ :=
  World.frozen?_of_block (a := ⟨b, o, none⟩) (z.ok.block b h (by simpa using hr))

theorem twd_bd {l : List Pt} (h : Ok l) : -800000000000 ≤ tw l ∧ tw l ≤ 800000000000 := sumOf_bd h.1.2 h.2.1 one_bd
theorem arD_bd {D : Dsp} (h : DspOk D) {l : List Pt} (hl : Ok l) : 0 ≤ arD D l ∧ arD D l ≤ 800000000000 := by
  have := twd_bd hl
  have hu := h.u0
  unfold arD
  have h0 : 0 ≤ max (tw l) (-tw l) := by omega
  have h1 : 0 ≤ (max (tw l) (-tw l)).tdiv D.unit := Int.tdiv_nonneg h0 (by omega)
  rw [Int.tdiv_eq_ediv_of_nonneg h0] at h1 ⊢
  have h3 := Int.ediv_le_self D.unit h0
  omega
theorem kd_lt {D : Dsp} (h : DspOk D) {l : List Pt} (hl : Ok l) : (kdOf D l).1 < 256 ∧ -1000000000000 ≤ (kdOf D l).2 ∧ (kdOf D l).2 ≤ 1000000000000 := by
  have a1 := msk_lt (wcB D l) D.cs.length
  have b1 : 2 ^ D.cs.length ≤ 2 ^ 8 := Nat.pow_le_pow_right (by omega) (by have := h.l6; omega)
  have a2 := arD_bd h hl
  unfold kdOf
  exact ⟨by omega, by omega, by omega⟩

section
variable (D : Dsp)
/-- A map of fields, in block bm: its keys are those of S, each with a field of this kind off the map's block. -/
structure Fnd (w : World) (bm nn : Nat) (F : DataW (Nat × Nat)) (S : Nat × Int → Prop) : Prop where
  own : w.ownsMap Tryz.prog 115 (fldR D.cs.length) bm nn F
  map : MapOf kdV kdL Tryz.prog 115 F S
  good : ∀ k bc, S k → F.atKey (kdL k) .nil = .held bc → bc.1 ≠ bm ∧ ∃ l, PtsAt w bc.1 0 l ∧ fldP D l ∧ k = kdOf D l
variable {D} {w w' : World} {bm nn : Nat} {F : DataW (Nat × Nat)} {S : Nat × Int → Prop}
theorem Fnd.below (h : Fnd D w bm nn F S) (hb : Below w.heap.size w w') : Fnd D w' bm nn F S :=
  ⟨h.own.kept (grown_below (r := none) hb) (by simp), h.map, fun k bc hk hbc => by
    obtain ⟨h1, l, h2, h3⟩ := h.good k bc hk hbc
    exact ⟨h1, l, h2.below hb, h3⟩⟩
theorem Fnd.congr {S' : Nat × Int → Prop} (h : Fnd D w bm nn F S) (hS : ∀ y, S' y ↔ S y) : Fnd D w bm nn F S' := by
  have e : S' = S := funext fun y => propext (hS y)
  rw [e]; exact h
theorem Fnd.mono (h : Fnd D w bm nn F S) {n' : Nat} (hn : nn ≤ n') : Fnd D w bm n' F S := ⟨h.own.mono hn, h.map, h.good⟩
theorem Fnd.put {S' : Nat × Int → Prop} (h : Fnd D w bm nn F S) (hD : DspOk D) {l : List Pt} (hl : fldP D l) {bc : Nat × Nat} (hp : PtsAt w bc.1 0 l) (hbc : bc.1 ≠ bm) (hown : w'.ownsMap Tryz.prog 115 (fldR D.cs.length) bm (nn + 1) (F.put (kdL (kdOf D l)) (.held bc))) (hg : w.grownBy w' (some bm)) (hS : ∀ y, S' y ↔ S y ∨ y = kdOf D l) :
    Fnd D w' bm (nn + 1) (F.put (kdL (kdOf D l)) (.held bc)) S' := by
  have hkl := kd_lt hD hl.2.2
  have hkey := kd_key hkl.1 hkl.2
  refine ⟨hown, h.map.put kdKeyed hkey bc hS, fun k bc' hk hb' => ?_⟩
  by_cases e : kdL k = kdL (kdOf D l)
  · rw [e, atKey_put_same h.map.isM (kdKeyed.key hkey)] at hb'
    simp only [DataW.held.injEq] at hb'
    subst hb'
    refine ⟨hbc, l, hp.grown hg (by simpa using hbc), hl, ?_⟩
    rcases (hS k).1 hk with hk | hk
    · have h1 := h.map.key k hk
      rw [e] at h1
      exact kdV_inj _ _ (kdKeyed.inj h1 hkey)
    · exact hk
  · rw [atKey_put_other e] at hb'
    have hk' : S k := by
      rcases (hS k).1 hk with hk | rfl
      · exact hk
      · exact absurd rfl e
    obtain ⟨h1, l', h2, h3⟩ := h.good k bc' hk' hb'
    exact ⟨h1, l', h2.grown hg (by simpa using h1), h3⟩
/-- A key that is there. -/
theorem Fnd.there (h : Fnd D w bm nn F S) (hD : DspOk D) {l : List Pt} (hl : fldP D l) {bc : Nat × Nat} (hh : F.atKey (kdL (kdOf D l)) .nil = .held bc) : S (kdOf D l) := by
  have hkl := kd_lt hD hl.2.2
  have hkey := kd_key hkl.1 hkl.2
  obtain ⟨x, hx, e⟩ := h.map.all _ (has_of_held hh)
  have h1 := h.map.key x hx
  rw [← e] at h1
  have := kdV_inj _ _ (kdKeyed.inj hkey h1)
  rw [this]; exact hx
end
/-- A dispute's file, at block gf, and what it leads to, off the map's block. -/
structure EnvF (A : Option Addr) (ca : Nat) (B : Option Addr) (cb : Nat) (C : Option Addr) (cc : Nat) (D : Dsp) (gf st bm : Nat) (w : World) : Prop where
  f : Blk w gf 70 #[.slice A D.cs.length ca, .slice B D.offs.length cb, (Value.int .i64 (D.unit)), (Value.int .i64 (D.wh.full)), (Value.int .i64 (D.wh.read)), (Value.int .i64 (D.wh.slip)), (Value.int .i64 (D.wh.skew)), (Value.int .i64 (D.wh.circle)), (Value.int .i64 (D.wh.glo)), (Value.int .i64 (D.wh.ghi)), (Value.int .i64 (D.wh.wrong)), .slice C D.wks.length cc, .map (some st)]
  gf : gf ≠ bm
  P : PtsX w 0 (some bm) A D.cs
  O : IntsX w 0 (some bm) B D.offs
theorem EnvF.grown {A B C : Option Addr} {ca cb cc gf st bm : Nat} {D : Dsp} {w w' : World} (h : EnvF A ca B cb C cc D gf st bm w) (hg : w.grownBy w' (some bm)) : EnvF A ca B cb C cc D gf st bm w' :=
  ⟨h.f.grown_ hg (by simpa using h.gf), h.gf, h.P.grown hg, h.O.grown hg⟩
theorem undKinds : Tryz.prog.underlying 112 = some (.map 115 22) := by kernel_rfl
theorem zeroPts (w : World) : (zeroValue 22).run Tryz.prog w = .ok (.slice none 0 0) w := by kernel_rfl
end Go.Proofs.YthijegacjboclaaGreat
namespace Go.Proofs.YthijegacjboclaaGreat
open Go.RowKit Go.Maps

theorem isK_key {D : Dsp} (h : DspOk D) {k : Nat × Nat × Int} (hk : isK D k) : keyOf Tryz.prog 75 (stV k) = some (stL k) := by
  obtain ⟨h1, h2, h3, h4⟩ := isK_lt h hk
  have := h.wh.g0
  have := h.wh.g2
  exact st_key h1 h2 (by omega)
/-- A story's field, with some skew. -/
def stoP (D : Dsp) (k : Nat × Nat × Int) (l : List Pt) : Prop := fldP D l ∧ gesP D (arD D l) ∧ ∃ s, skwP D s ∧ k = kyOf D l s
theorem stoP.isK {D : Dsp} {k : Nat × Nat × Int} {l : List Pt} (h : stoP D k l) : isK D k := by
  obtain ⟨h1, h2, s, h3, h4⟩ := h
  exact ⟨l, s, h1, h2, h3, h4⟩
/-- A map of stories, in block bm: its keys are those of S, each with a field of this story. -/
structure Sto (D : Dsp) (w : World) (bm nn : Nat) (F : DataW (Nat × Nat)) (S : Nat × Nat × Int → Prop) : Prop where
  own : w.ownsMap Tryz.prog 75 (fldR D.cs.length) bm nn F
  map : MapOf stV stL Tryz.prog 75 F S
  good : ∀ k bc, S k → F.atKey (stL k) .nil = .held bc → bc.1 ≠ bm ∧ ∃ l, PtsAt w bc.1 0 l ∧ stoP D k l
section
variable {D : Dsp} {w w' : World} {bm nn : Nat} {F : DataW (Nat × Nat)} {S : Nat × Nat × Int → Prop}
theorem Sto.below (h : Sto D w bm nn F S) (hb : Below w.heap.size w w') : Sto D w' bm nn F S :=
  ⟨h.own.kept (grown_below (r := none) hb) (by simp), h.map, fun k bc hk hbc => by
    obtain ⟨h1, l, h2, h3⟩ := h.good k bc hk hbc
    exact ⟨h1, l, h2.below hb, h3⟩⟩
theorem Sto.congr {S' : Nat × Nat × Int → Prop} (h : Sto D w bm nn F S) (hS : ∀ y, S' y ↔ S y) : Sto D w bm nn F S' := by
  have e : S' = S := funext fun y => propext (hS y)
  rw [e]; exact h
theorem Sto.isK (h : Sto D w bm nn F S) {k : Nat × Nat × Int} (hk : S k) : isK D k := by
  obtain ⟨bc, hbc⟩ := h.map.held k hk
  obtain ⟨_, l, _, h3⟩ := h.good k bc hk hbc
  exact h3.isK
theorem sto_made (w : World) : Sto D (w.alloc (.map #[] 0)) w.heap.size 0 (.map []) (fun _ => False) :=
  ⟨World.ownsMap_made _ _ _ _, MapOf.empty, fun k bc hk => hk.elim⟩
theorem Sto.put {S' : Nat × Nat × Int → Prop} (h : Sto D w bm nn F S) (hD : DspOk D) {k : Nat × Nat × Int} {l : List Pt} (hl : stoP D k l) {bc : Nat × Nat} (hp : PtsAt w bc.1 0 l) (hbc : bc.1 ≠ bm) (hown : w'.ownsMap Tryz.prog 75 (fldR D.cs.length) bm (nn + 1) (F.put (stL k) (.held bc))) (hg : w.grownBy w' (some bm)) (hS : ∀ y, S' y ↔ S y ∨ y = k) :
    Sto D w' bm (nn + 1) (F.put (stL k) (.held bc)) S' := by
  have hkey := isK_key hD hl.isK
  refine ⟨hown, h.map.put stKeyed hkey bc hS, fun j bc' hj hb' => ?_⟩
  by_cases e : stL j = stL k
  · rw [e, atKey_put_same h.map.isM (stKeyed.key hkey)] at hb'
    simp only [DataW.held.injEq] at hb'
    subst hb'
    have ej : j = k := by
      rcases (hS j).1 hj with hj | hj
      · have h1 := h.map.key j hj
        rw [e] at h1
        exact stV_inj _ _ (stKeyed.inj h1 hkey)
      · exact hj
    subst ej
    exact ⟨hbc, l, hp.grown hg (by simpa using hbc), hl⟩
  · rw [atKey_put_other e] at hb'
    have hj' : S j := by
      rcases (hS j).1 hj with hj | rfl
      · exact hj
      · exact absurd rfl e
    obtain ⟨h1, l', h2, h3⟩ := h.good j bc' hj' hb'
    exact ⟨h1, l', h2.grown hg (by simpa using h1), h3⟩
/-- A map of kinds, while something else turns. -/
theorem Fnd.grown {S : Nat × Int → Prop} {r : Nat} (h : Fnd D w bm nn F S) (hg : w.grownBy w' (some r)) (hr : bm ≠ r) (hv : ∀ k bc, S k → F.atKey (kdL k) .nil = .held bc → bc.1 ≠ r) : Fnd D w' bm nn F S :=
  ⟨h.own.kept hg (by simpa using hr), h.map, fun k bc hk hbc => by
    obtain ⟨h1, l, h2, h3⟩ := h.good k bc hk hbc
    exact ⟨h1, l, h2.grown hg (by simpa using hv k bc hk hbc), h3⟩⟩
theorem fnd_made (w : World) : Fnd D (w.alloc (.map #[] 0)) w.heap.size 0 (.map []) (fun _ => False) :=
  ⟨World.ownsMap_made _ _ _ _, MapOf.empty, fun k bc hk => hk.elim⟩
end
theorem undStos : Tryz.prog.underlying 68 = some (.map 75 22) := by kernel_rfl
/-- The stories of a kind of fields with skews below one. -/
def kdSt (D : Dsp) (x : Nat × Int) (s : Int) (k : Nat × Nat × Int) : Prop := gesP D x.2 ∧ ∃ t, -D.wh.skew ≤ t ∧ t < s ∧ k = (x.1, msk (wwB D x.2 t) D.wks.length, x.2)
theorem kdSt_start (D : Dsp) (x : Nat × Int) (k : Nat × Nat × Int) : ¬ kdSt D x (-D.wh.skew) k := by
  rintro ⟨_, t, h1, h2, _⟩
  omega
theorem kdSt_next (D : Dsp) (x : Nat × Int) (s : Int) (h : gesP D x.2) (hs : -D.wh.skew ≤ s) (k : Nat × Nat × Int) : kdSt D x (s + 1) k ↔ kdSt D x s k ∨ k = (x.1, msk (wwB D x.2 s) D.wks.length, x.2) := by
  constructor
  · rintro ⟨hg, t, h1, h2, rfl⟩
    by_cases e : t = s
    · subst e; exact .inr rfl
    · exact .inl ⟨hg, t, h1, by omega, rfl⟩
  · rintro (⟨hg, t, h1, h2, rfl⟩ | rfl)
    · exact ⟨hg, t, h1, by omega, rfl⟩
    · exact ⟨h, s, hs, by omega, rfl⟩
/-- All stories, from all kinds. -/
theorem all_sto (D : Dsp) {S : Nat × Int → Prop} (hS : ∀ x, S x ↔ ∃ l, fldP D l ∧ x = kdOf D l) (k : Nat × Nat × Int) : (∃ x, S x ∧ kdSt D x (D.wh.skew + 1) k) ↔ isK D k := by
  constructor
  · rintro ⟨x, hx, hg, t, h1, h2, rfl⟩
    obtain ⟨l, hl, rfl⟩ := (hS x).1 hx
    exact ⟨l, t, hl, hg, ⟨h1, by omega⟩, rfl⟩
  · rintro ⟨l, s, hl, hg, hs, rfl⟩
    exact ⟨kdOf D l, (hS _).2 ⟨l, hl, rfl⟩, hg, s, hs.1, by have := hs.2; omega, rfl⟩
end Go.Proofs.YthijegacjboclaaGreat
