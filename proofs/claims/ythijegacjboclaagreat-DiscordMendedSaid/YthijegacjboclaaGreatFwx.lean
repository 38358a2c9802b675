/- The method fewest of discord's file: the walk. -/
import Derived.Test.YthijegacjboclaaGreatOpn
namespace Go.Proofs.YthijegacjboclaaGreat
open Go.RowKit Go.Maps
attribute [local go_sem] After.cell After.frozen AfterM.cell AfterM.frozen

/-- Stories, one behind the other. -/
def stVs : List (Nat × Nat × Int) → List Value
  | [] => []
  | k :: L => [.int .u64 (k.1 : Int), .int .u64 (k.2.1 : Int), (Value.int .i64 (k.2.2))] ++ stVs L
theorem stVs_len : ∀ L, (stVs L).length = L.length * 3
  | [] => rfl
  | k :: L => by rw [stVs, List.length_append, stVs_len L, List.length_cons]; simp; omega
theorem stVs_append : ∀ L M, stVs (L ++ M) = stVs L ++ stVs M
  | [], M => rfl
  | k :: L, M => by rw [List.cons_append, stVs, stVs, stVs_append L M, List.append_assoc]
theorem stVs_one : ∀ L, ∀ u ∈ stVs L, u.oneCell' = true
  | [], u, h => by simp [stVs] at h
  | k :: L, u, h => by
    rw [stVs, List.mem_append] at h
    rcases h with h | h
    · simp only [List.mem_cons, List.not_mem_nil, or_false] at h
      rcases h with rfl | rfl | rfl <;> rfl
    · exact stVs_one L u h
def RowSt (w : World) (B : Nat) (v : Value) (L : List (Nat × Nat × Int)) : Prop := w.ownsRow B 75 3 v L.length (stVs L)
theorem rowSt_nil (w : World) (B : Nat) : RowSt w B (.slice none 0 0) [] := World.ownsRow_nil _ _ _ _
theorem RowSt.below {w w' : World} {B : Nat} {v : Value} {L : List (Nat × Nat × Int)} (h : RowSt w B v L) (hb : Below w.heap.size w w') : RowSt w' B v L := own_below h hb
theorem RowSt.form {w : World} {B : Nat} {v : Value} {L : List (Nat × Nat × Int)} (h : RowSt w B v L) : ∃ A ca, v = .slice A L.length ca := by
  rcases h.2 with ⟨rfl, hn⟩ | ⟨g, cap, cur, rfl, _⟩
  · rw [hn]; exact ⟨none, 0, rfl⟩
  · exact ⟨_, _, rfl⟩
theorem RowSt.head {w : World} {B : Nat} {v : Value} {y : Nat × Nat × Int} {L : List (Nat × Nat × Int)} (h : RowSt w B v (y :: L)) : ∃ g ca, v = .slice (some ⟨g, 0, none⟩) (y :: L).length ca ∧ g < w.heap.size ∧ B ≤ g ∧ w.cell? ⟨g, 0, none⟩ = some (.int .u64 (y.1 : Int)) ∧ w.cell? ⟨g, 1, none⟩ = some (.int .u64 (y.2.1 : Int)) ∧ w.cell? ⟨g, 2, none⟩ = some (Value.int .i64 (y.2.2)) := by
  have hx := h
  rcases h.2 with ⟨_, hn⟩ | ⟨g, cap, cur, rfl, hB, hc, _⟩
  · simp at hn
  · have hcl := World.ownsRow.cells hx (g := g) rfl
    have c0 := hcl 0 _ rfl
    have c1 := hcl 1 _ rfl
    have c2 := hcl 2 _ rfl
    rw [add_at] at c0 c1 c2
    exact ⟨g, cap, rfl, (Array.getElem?_eq_some_iff.1 hc).1, hB, by simpa using c0, by simpa using c1, by simpa using c2⟩
theorem infoSt : (Tryz.prog.info? 75).map (fun i => (i.zero, i.size, i.bytes)) = some (some (.agg #[.int .u64 0, .int .u64 0, (Value.int .i64 (0))]), 3, 24) := by kernel_rfl
theorem undSts : Tryz.prog.underlying 89 = some (.slice 75) := by kernel_rfl

/-- A list of all those with the fewest faults, of those of a set of which something is so. -/
def MinP (P : Nat × Nat × Int → Prop) (g : Nat × Nat × Int → Bool) (L : List (Nat × Nat × Int)) : Prop := ∀ k, k ∈ L ↔ (P k ∧ g k = true ∧ ∀ j, P j → g j = true → mny k ≤ mny j)
section
variable {P P' : Nat × Nat × Int → Prop} {g : Nat × Nat × Int → Bool} {L : List (Nat × Nat × Int)} {x : Nat × Nat × Int}
theorem MinP.congr (h : MinP P g L) (hP : ∀ k, P' k ↔ P k) : MinP P' g L := by
  have e : P' = P := funext fun k => propext (hP k)
  rw [e]; exact h
theorem MinP.none_ (h : MinP P g L) (hg : g x = false) (hP : ∀ k, P' k ↔ P k ∨ k = x) : MinP P' g L := fun k => by
  rw [h k]
  constructor
  · rintro ⟨h1, h2, h3⟩
    refine ⟨(hP k).2 (.inl h1), h2, fun j hj hgj => ?_⟩
    rcases (hP j).1 hj with hj | rfl
    · exact h3 j hj hgj
    · rw [hg] at hgj; cases hgj
  · rintro ⟨h1, h2, h3⟩
    rcases (hP k).1 h1 with h1 | rfl
    · exact ⟨h1, h2, fun j hj => h3 j ((hP j).2 (.inl hj))⟩
    · rw [hg] at h2; cases h2
/-- Nothing of the set is so, if the list is empty. -/
theorem least_in (P : Nat × Nat × Int → Prop) (g : Nat × Nat × Int → Bool) {k : Nat × Nat × Int} (h1 : P k) (h2 : g k = true) : ∃ j, P j ∧ g j = true ∧ ∀ i, P i → g i = true → mny j ≤ mny i := by
  obtain ⟨b, hb, hm⟩ := least_ex (fun k => P k ∧ g k = true) mny _ k ⟨h1, h2⟩ (Nat.le_refl _)
  exact ⟨b, hb.1, hb.2, fun i hi hgi => hm i ⟨hi, hgi⟩⟩
theorem MinP.first (h : MinP P g []) (hg : g x = true) (hP : ∀ k, P' k ↔ P k ∨ k = x) : MinP P' g [x] := fun k => by
  have hno : ∀ j, P j → g j = true → False := fun j h1 h2 => by
    obtain ⟨b, hb⟩ := least_in P g h1 h2
    have := (h b).2 hb
    simp at this
  rw [List.mem_singleton]
  constructor
  · rintro rfl
    refine ⟨(hP _).2 (.inr rfl), hg, fun j hj hgj => ?_⟩
    rcases (hP j).1 hj with hj | rfl
    · exact (hno j hj hgj).elim
    · exact Nat.le_refl _
  · rintro ⟨h1, h2, _⟩
    rcases (hP k).1 h1 with h1 | rfl
    · exact (hno k h1 h2).elim
    · rfl
variable {y : Nat × Nat × Int}
theorem MinP.less (h : MinP P g (y :: L)) (hg : g x = true) (hP : ∀ k, P' k ↔ P k ∨ k = x) (hlt : mny x < mny y) : MinP P' g [x] := fun k => by
  have hy := (h y).1 List.mem_cons_self
  rw [List.mem_singleton]
  constructor
  · rintro rfl
    refine ⟨(hP _).2 (.inr rfl), hg, fun j hj hgj => ?_⟩
    rcases (hP j).1 hj with hj | rfl
    · have := hy.2.2 j hj hgj; omega
    · exact Nat.le_refl _
  · rintro ⟨h1, h2, h3⟩
    rcases (hP k).1 h1 with h1 | rfl
    · have a1 := hy.2.2 k h1 h2
      have a2 := h3 x ((hP x).2 (.inr rfl)) hg
      omega
    · rfl
theorem MinP.same (h : MinP P g (y :: L)) (hg : g x = true) (hP : ∀ k, P' k ↔ P k ∨ k = x) (he : mny x = mny y) : MinP P' g ((y :: L) ++ [x]) := fun k => by
  have hy := (h y).1 List.mem_cons_self
  rw [List.mem_append, List.mem_singleton, h k]
  constructor
  · rintro (⟨h1, h2, h3⟩ | rfl)
    · refine ⟨(hP k).2 (.inl h1), h2, fun j hj hgj => ?_⟩
      rcases (hP j).1 hj with hj | rfl
      · exact h3 j hj hgj
      · have := h3 y hy.1 hy.2.1; omega
    · refine ⟨(hP _).2 (.inr rfl), hg, fun j hj hgj => ?_⟩
      rcases (hP j).1 hj with hj | rfl
      · have := hy.2.2 j hj hgj; omega
      · exact Nat.le_refl _
  · rintro ⟨h1, h2, h3⟩
    rcases (hP k).1 h1 with h1 | rfl
    · exact .inl ⟨h1, h2, fun j hj => h3 j ((hP j).2 (.inl hj))⟩
    · exact .inr rfl
theorem MinP.more (h : MinP P g (y :: L)) (hP : ∀ k, P' k ↔ P k ∨ k = x) (hlt : mny y < mny x) : MinP P' g (y :: L) := fun k => by
  have hy := (h y).1 List.mem_cons_self
  rw [h k]
  constructor
  · rintro ⟨h1, h2, h3⟩
    refine ⟨(hP k).2 (.inl h1), h2, fun j hj hgj => ?_⟩
    rcases (hP j).1 hj with hj | rfl
    · exact h3 j hj hgj
    · have := h3 y hy.1 hy.2.1; omega
  · rintro ⟨h1, h2, h3⟩
    rcases (hP k).1 h1 with h1 | rfl
    · exact ⟨h1, h2, fun j hj => h3 j ((hP j).2 (.inl hj))⟩
    · have := h3 y ((hP y).2 (.inl hy.1)) hy.2.1; omega
end
end Go.Proofs.YthijegacjboclaaGreat
namespace Go.Proofs.YthijegacjboclaaGreat
open Go.RowKit Go.Maps
attribute [local go_sem] After.cell After.frozen AfterM.cell AfterM.frozen

theorem news8 (w : World) (us : List Value) (t : TypeId) : ∀ j u, us[j]? = some u → (w.alloc (.cells us.toArray t)).cell? ((⟨w.heap.size, 0, none⟩ : Addr).add j) = some u := fun j u hj => by
  rw [add_at, Nat.zero_add]
  exact ((Blk.new w t us.toArray).cell j).trans (by rw [List.getElem?_toArray]; exact hj)
theorem own_ne_iter {w : World} {B e sz r : Nat} {n : Nat} {v : Value} {xs : List Value} {P : Program} {k : TypeId} {R : Value → Option (DataW (Nat × Nat) × List MemPlace)} {b nn : Nat} {F : DataW (Nat × Nat)} {left : Lit → Bool} {cnt : Nat} (h : w.ownsRow B e sz v n xs) (hg : w.ranges P k R b r nn F left cnt) : v.ownBlock ≠ some r := fun e => by
  obtain ⟨es, c, s, sn, c0, _, _, _, _, hb, _⟩ := hg
  rcases h.2 with ⟨rfl, _⟩ | ⟨g, cap, cur, rfl, _, hc, _⟩
  · cases e
  · simp only [Value.ownBlock, Option.some.injEq] at e
    subst e
    rw [hc] at hb
    cases hb
section
variable {A B C : Option Addr} {ca cb cc : Nat} {D : Dsp}
/-- What the loop over all stories keeps. -/
structure FwI (A : Option Addr) (ca : Nat) (B : Option Addr) (cb : Nat) (C : Option Addr) (cc : Nat) (D : Dsp) (w0 : World) (gf st r nn : Nat) (F : DataW (Nat × Nat)) (left : Lit → Bool) (cnt : Nat) (w : World) : Prop where
  rg : w.ranges Tryz.prog 75 (fldR D.cs.length) st r nn F left cnt
  bw : Below w0.heap.size w0 w
theorem FwI.below {w0 w w' : World} {gf st r nn cnt : Nat} {F : DataW (Nat × Nat)} {left : Lit → Bool} (h : FwI A ca B cb C cc D w0 gf st r nn F left cnt w) (hb : Below w.heap.size w w') : FwI A ca B cb C cc D w0 gf st r nn F left cnt w' :=
  ⟨h.rg.kept (grown_below (r := none) hb) (by simp) (by simp), bl_call h.bw hb⟩
theorem FwI.grown {w0 w w' : World} {gf st r nn cnt n : Nat} {F : DataW (Nat × Nat)} {left : Lit → Bool} {e sz : Nat} {v : Value} {xs : List Value} (h : FwI A ca B cb C cc D w0 gf st r nn F left cnt w) (ho : w.ownsRow r e sz v n xs) (hg : w.grownBy w' v.ownBlock) (hr : w0.heap.size ≤ r) : FwI A ca B cb C cc D w0 gf st r nn F left cnt w' := by
  have h1 := own_ne_iter ho h.rg
  have h2 : v.ownBlock ≠ some st := fun e => by
    obtain ⟨es, c, hb, _⟩ := h.rg.owns
    rcases ho.2 with ⟨rfl, _⟩ | ⟨g, cap, cur, rfl, _, hc, _⟩
    · cases e
    · simp only [Value.ownBlock, Option.some.injEq] at e
      subst e
      rw [hc] at hb
      cases hb
  refine ⟨h.rg.kept hg h2.symm h1.symm, h.bw.grown hg h.bw.size fun q hq => ?_⟩
  have := (ho.lt q hq).1
  omega
theorem RowSt.snoc {w : World} {B : Nat} {v : Value} {L : List (Nat × Nat × Int)} {x : Nat × Nat × Int} (h : w.ownsRow B 75 3 v (L.length + 1) (stVs L ++ [.int .u64 (x.1 : Int), .int .u64 (x.2.1 : Int), (Value.int .i64 (x.2.2))])) : RowSt w B v (L ++ [x]) := by
  unfold RowSt
  have e : stVs (L ++ [x]) = stVs L ++ [.int .u64 (x.1 : Int), .int .u64 (x.2.1 : Int), (Value.int .i64 (x.2.2))] := by rw [stVs_append]; rfl
  rw [List.length_append, List.length_singleton, e]
  exact h
set_option maxRecDepth 100000 in
set_option maxHeartbeats 8000000 in
theorem fewest_any (hD : DspOk D) (cf : Nat) (g : Nat × Nat × Int → Bool) (lo gf : Nat) (w : World) (hf : FileOk A ca B cb C cc D lo w gf)
    (eg : ∀ args w, (callFunc cf args).run Tryz.prog w = .ok (.enter cf args) w)
    (hcf : ∀ (k : Nat × Nat × Int) (W : World), isK D k → Calls Tryz.prog cf #[stV k] W fun e w' => e = .returned (.bool (g k)) ∧ Below W.heap.size W w') :
    Calls Tryz.prog 46 #[.pointer (some ⟨gf, 0, none⟩), .func (.func cf) #[] #[]] w fun e w' => (∃ v L, e = .returned (.tuple #[v, .bool (decide (0 < L.length))]) ∧ RowSt w' w.heap.size v L ∧ MinP (isK D) g L ∧ L.length ≤ 100000000000) ∧ Below w.heap.size w w' := by
  obtain ⟨-, st, nn, F, hnn, -, hblk, hS⟩ := hf
  have hM := hS.map
  have hsz := hS.own.size_le
  have cF12 : w.cell? ⟨gf, 12, none⟩ = some (.map (some st)) := hblk.cell 12
  have lF := hblk.lt
  have hst := hS.own.lt
  obtain ⟨i0, hi0, hz0, hz1, hz2⟩ := info_parts infoSt
  go_enter Tryz.func46, Tryz.ntmps46
  go_wp2_with (at_range; refine wpList_range_own _ rfl _ 68 rfl 75 22 stKeyed undStos (fldR D.cs.length) st nn F rfl hS.own ?_; intro w6 hrg hg6 hs6)
  have hI6 : FwI A ca B cb C cc D w gf st w.heap.size nn F (Maps.has F) (Maps.size F) w6 := ⟨hrg, below_grown hg6⟩
  clear hrg hg6 hs6 cF12 lF hblk
  generalize hr : w.heap.size = r at *
  go_frame
  go_loopg [6] (Maps.size F) (fun gh v wr => ∃ left cnt L, cnt = gh ∧ FwI A ca B cb C cc D w gf st r nn F left cnt wr ∧ RowSt wr r v L ∧ MinP (fun k => passed stL (isK D) left k) g L ∧ (∀ l, left l = true → Maps.has F l = true) ∧ L.length + cnt ≤ Maps.size F)
  case atStart => exact ⟨_, _, [], rfl, hI6, rowSt_nil _ _, fun k => ⟨fun h => by simp at h, fun ⟨h, _⟩ => absurd h (passed_start hM k)⟩, fun l h => h, by simp⟩
  case round =>
    clear hI6
    obtain ⟨left, cnt, L, rfl, hI, hR, hL, hleft, hLc⟩ := hrel
    go_wp2_with (at_next; refine wpList_next_fld _ rfl _ rfl 75 stKeyed D.cs.length st r nn F (isK D) hM left cnt hleft rfl hI.rg ?_ ?_)
    · intro hl0
      have hL2 := Lib.hid (hL.congr (P' := isK D) fun k => (passed_end hl0 k).symm)
      obtain ⟨A9, c9, rfl⟩ := hR.form
      have HR := Lib.hid hR
      have HI := Lib.hid hI
      clear hR hL hI
      go_wp2
      go_ret2
      exact ⟨⟨.slice A9 L.length c9, L, by simp, by rw [hr]; exact HR.out, hL2.out, by omega⟩, HI.out.bw⟩
    · intro xa xb xc b7 c7 w7 cnt' hx hlx hbc hrg7 hlt7 hg7 hs7 hen
      have hne : u6.ownBlock ≠ some r := own_ne_iter hR hI.rg
      have hI7 : FwI A ca B cb C cc D w gf st r nn F (fun z => left z && !z.sameKey (stL (xa, xb, xc))) cnt' w7 := ⟨hrg7, ⟨hg7.os.trans hI.bw.os, hg7.tape.trans hI.bw.tape, hg7.output.trans hI.bw.output, Nat.le_trans hI.bw.size hg7.size, fun k hk => (hg7.block k (by have := hI.bw.size; omega) (by simp only [ne_eq, Option.some.injEq]; omega)).trans (hI.bw.block k hk)⟩⟩
      have hR7 : RowSt w7 r u6 L := World.ownsRow.kept hR hg7 (.inr hne)
      have hleft' : ∀ l, (left l && !l.sameKey (stL (xa, xb, xc))) = true → Maps.has F l = true := fun l h => hleft l (by simp only [Bool.and_eq_true] at h; exact h.1)
      have hP := Lib.hid fun k => passed_next stKeyed hM stV_inj (left := left) hx k
      have hlt3 := isK_lt hD hx
      have hc0 := fun (W : World) => hcf (xa, xb, xc) W hx
      simp only [stV] at hen hc0
      have hx1 : xa < 256 := hlt3.1
      have hx2 : xb < 256 := hlt3.2.1
      have hL0 := Lib.hid hL
      clear hI hR hne hlx hg7 hs7 hleft hrg7 hlt3 hL
      go_upto_region 5 with fail
      have hb8 : Below w7.heap.size w7 (w7.alloc (.cells #[.int .u64 (xa : Int), .int .u64 (xb : Int), (Value.int .i64 (xc))] 75)) := by (repeat (first | with_reducible exact Below.refl _ _ | with_reducible apply bl_alloc | with_reducible apply bl_drew | with_reducible apply bl_after | (with_reducible refine bl_call ?_ (by assumption))))
      have hI8 := hI7.below hb8
      have hR8 := hR7.below hb8
      have c8 := Blk.new w7 75 #[.int .u64 (xa : Int), .int .u64 (xb : Int), (Value.int .i64 (xc))]
      clear hI7 hR7 hb8 hen
      generalize w7.alloc (.cells #[.int .u64 (xa : Int), .int .u64 (xb : Int), (Value.int .i64 (xc))] 75) = w8 at *
      generalize w7.heap.size = g8 at *
      (have la := c8.lt); (have ya0 := c8.cell 0); (have ya1 := c8.cell 1); (have ya2 := c8.cell 2); simp only [List.getElem?_toArray, List.getElem?_cons_zero, List.getElem?_cons_succ] at ya0 ya1 ya2
      by_cases hgx : g (xa, xb, xc) = true
      · rw [hgx] at hc0
        obtain ⟨m1, hm1⟩ : ∃ m1 : Nat, m1 = (bitL xa).length + (bitL xb).length := ⟨_, rfl⟩
        have hmx : ∀ W : World, Calls Tryz.prog 40 #[.agg #[.int .u64 (xa : Int), .int .u64 (xb : Int)]] W fun e w' => e = .returned (Value.int .i64 ((m1 : Int))) ∧ Below W.heap.size W w' := by rw [hm1]; exact fun W => many_any xa xb hx1 hx2 W
        replace hmx := Lib.hid hmx
        replace hm1 := Lib.hid hm1
        go_upto_region 6 with ((with_reducible refine Calls.mono (hc0 _) ?_); rintro e w1 ⟨rfl, hb1⟩)
        have HI := Lib.hid (hI8.below hb1)
        have HR := Lib.hid (hR8.below hb1)
        have HG := Lib.hid hgx
        replace c8 := c8.below hb1
        have hbr := (hI8.below hb1).bw.size
        have C8 := Lib.hid c8
        clear la ya0 ya1 ya2 hb1 hI8 hR8 hgx hc0
        (have la := c8.lt); (have ya0 := c8.cell 0); (have ya1 := c8.cell 1); (have ya2 := c8.cell 2); simp only [List.getElem?_toArray, List.getElem?_cons_zero, List.getElem?_cons_succ] at ya0 ya1 ya2
        clear c8
        cases L with
        | nil =>
          obtain ⟨A9, c9, rfl⟩ := HR.out.form
          refine wp_region_after (by kernel_rfl) (by kernel_rfl) ?_; (repeat (go_big_quiet_step ((fail)))); refine wpQuiet_nil ?_; rintro _ ⟨z, rfl⟩; (first | ((with_reducible apply kp_in_after (z := z)); (with_reducible assumption); rintro ⟨hk, hc, hf, hzc, hzf⟩) | ((with_reducible refine kp_in_after0 z ?_); rintro ⟨hk, hc, hf, hzc, hzf⟩))
          go_wp2
          refine wp_region_after (by kernel_rfl) (by kernel_rfl) ?_; (repeat (go_big_quiet_step ((fail)))); refine wpQuiet_nil ?_; rintro _ ⟨z2, rfl⟩; (first | ((with_reducible apply kp_in_after (z := z2)); (with_reducible assumption); rintro ⟨hk, hc, hf, hzc, hzf⟩) | ((with_reducible refine kp_in_after0 z2 ?_); rintro ⟨hk, hc, hf, hzc, hzf⟩))
          · have HRA := Lib.hid ((HR.out.below z.ok).below z2.ok)
            have HIA := Lib.hid ((HI.out.below z.ok).below z2.ok)
            have hszA := HIA.out.bw.size
            go_wp2_with (at_builtin; (refine wpList_append_own _ rfl (.tmp 49) (.tmp 51) 89 rfl r 75 i0 _ 3 24 undSts hi0 hz0 hz1 hz2 rfl (by decide) _ _ _ rfl (World.ownsRow.alloc HRA.out _) ⟨z2.val.heap.size, 0, none⟩ 1 1 [.int .u64 (xa : Int), .int .u64 (xb : Int), (Value.int .i64 (xc))] rfl rfl (news8 _ [.int .u64 (xa : Int), .int .u64 (xb : Int), (Value.int .i64 (xc))] _) (stVs_one [(xa, xb, xc)]) (by unfold maxLen; simp) (by simp) (by simp; omega) ?_))
            intro v' w9 hown hgrow _
            have HI9 := Lib.hid ((HIA.out.below ((Below.refl _ _).alloc (Nat.le_refl _) (.cells #[.int .u64 (xa : Int), .int .u64 (xb : Int), (Value.int .i64 (xc))] 75))).grown (World.ownsRow.alloc HRA.out _) hgrow (by omega))
            have HR9 := Lib.hid (RowSt.snoc (L := []) (x := (xa, xb, xc)) hown)
            clear hown hgrow
            go_wp2
            go_roundg cnt'
            case measure => exact hlt7
            case rel => exact ⟨_, cnt', _, rfl, HI9.out, HR9.out, hL0.out.first HG.out hP.out, hleft', by simp at hLc ⊢; omega⟩
        | cons y L =>
          obtain ⟨g9, ca9, rfl, lg, hBg, q0, q1, q2⟩ := HR.out.head
          have hy := ((hL0.out y).1 List.mem_cons_self).1.1
          have hy3 := isK_lt hD hy
          obtain ⟨m2, hm2⟩ : ∃ m2 : Nat, m2 = (bitL y.1).length + (bitL y.2.1).length := ⟨_, rfl⟩
          have hmy : ∀ W : World, Calls Tryz.prog 40 #[.agg #[.int .u64 (y.1 : Int), .int .u64 (y.2.1 : Int)]] W fun e w' => e = .returned (Value.int .i64 ((m2 : Int))) ∧ Below W.heap.size W w' := by rw [hm2]; exact fun W => many_any y.1 y.2.1 hy3.1 hy3.2.1 W
          replace hmy := Lib.hid hmy
          replace hm2 := Lib.hid hm2
          clear hy hy3
          have hln : (0 : Int) < ((y :: L).length : Int) := by simp
          have hl0 : ((L.length : Int) + 1 == 0) = false := by simp; omega
          rcases Nat.lt_trichotomy m1 m2 with hcm | hcm | hcm
          · have hd1 : decide (m1 < m2) = true := by simpa using hcm
            refine wp_region_after (by kernel_rfl) (by kernel_rfl) ?_; (repeat (go_big_quiet_step (((first | (go_at_call 40; with_reducible exact calls_after (hmx.out _)) | (go_at_call 40; with_reducible exact calls_after (hmy.out _))))))); refine wpQuiet_nil ?_; rintro _ ⟨z, rfl⟩; (first | ((with_reducible apply kp_in_after (z := z)); (with_reducible assumption); rintro ⟨hk, hc, hf, hzc, hzf⟩) | ((with_reducible refine kp_in_after0 z ?_); rintro ⟨hk, hc, hf, hzc, hzf⟩))
            go_wp2
            refine wp_region_after (by kernel_rfl) (by kernel_rfl) ?_; (repeat (go_big_quiet_step (((first | (go_at_call 40; with_reducible exact calls_after (hmx.out _)) | (go_at_call 40; with_reducible exact calls_after (hmy.out _))))))); refine wpQuiet_nil ?_; rintro _ ⟨z2, rfl⟩; (first | ((with_reducible apply kp_in_after (z := z2)); (with_reducible assumption); rintro ⟨hk, hc, hf, hzc, hzf⟩) | ((with_reducible refine kp_in_after0 z2 ?_); rintro ⟨hk, hc, hf, hzc, hzf⟩))
            have HM := Lib.hid (hL0.out.less HG.out hP.out (show mny (xa, xb, xc) < mny y by unfold mny; simp only; rw [← hm1.out, ← hm2.out]; exact hcm))
            have HRA := Lib.hid ((rowSt_nil z2.val r : RowSt z2.val r (.slice none 0 0) []))
            have HIA := Lib.hid ((HI.out.below z.ok).below z2.ok)
            have hszA := HIA.out.bw.size
            go_wp2_with (at_builtin; (refine wpList_append_own _ rfl (.tmp 49) (.tmp 51) 89 rfl r 75 i0 _ 3 24 undSts hi0 hz0 hz1 hz2 rfl (by decide) _ _ _ rfl (World.ownsRow.alloc HRA.out _) ⟨z2.val.heap.size, 0, none⟩ 1 1 [.int .u64 (xa : Int), .int .u64 (xb : Int), (Value.int .i64 (xc))] rfl rfl (news8 _ [.int .u64 (xa : Int), .int .u64 (xb : Int), (Value.int .i64 (xc))] _) (stVs_one [(xa, xb, xc)]) (by unfold maxLen; simp) (by simp) (by simp; omega) ?_))
            intro v' w9 hown hgrow _
            have HI9 := Lib.hid ((HIA.out.below ((Below.refl _ _).alloc (Nat.le_refl _) (.cells #[.int .u64 (xa : Int), .int .u64 (xb : Int), (Value.int .i64 (xc))] 75))).grown (World.ownsRow.alloc HRA.out _) hgrow (by omega))
            have HR9 := Lib.hid (RowSt.snoc (L := []) (x := (xa, xb, xc)) hown)
            clear hown hgrow
            go_wp2
            go_roundg cnt'
            case measure => exact hlt7
            case rel => exact ⟨_, cnt', _, rfl, HI9.out, HR9.out, HM.out, hleft', by simp at hLc ⊢; omega⟩
          · have hd1 : decide (m1 < m2) = false := by simp; omega
            have hd2 : (m1 == m2) = true := by simpa using hcm
            refine wp_region_after (by kernel_rfl) (by kernel_rfl) ?_; (repeat (go_big_quiet_step (((first | (go_at_call 40; with_reducible exact calls_after (hmx.out _)) | (go_at_call 40; with_reducible exact calls_after (hmy.out _))))))); refine wpQuiet_nil ?_; rintro _ ⟨z, rfl⟩; (first | ((with_reducible apply kp_in_after (z := z)); (with_reducible assumption); rintro ⟨hk, hc, hf, hzc, hzf⟩) | ((with_reducible refine kp_in_after0 z ?_); rintro ⟨hk, hc, hf, hzc, hzf⟩))
            go_wp2
            refine wp_region_after (by kernel_rfl) (by kernel_rfl) ?_; (repeat (go_big_quiet_step (((first | (go_at_call 40; with_reducible exact calls_after (hmx.out _)) | (go_at_call 40; with_reducible exact calls_after (hmy.out _))))))); refine wpQuiet_nil ?_; rintro _ ⟨z2, rfl⟩; (first | ((with_reducible apply kp_in_after (z := z2)); (with_reducible assumption); rintro ⟨hk, hc, hf, hzc, hzf⟩) | ((with_reducible refine kp_in_after0 z2 ?_); rintro ⟨hk, hc, hf, hzc, hzf⟩))
            have HM := Lib.hid (hL0.out.same HG.out hP.out (show mny (xa, xb, xc) = mny y by unfold mny; simp only; rw [← hm1.out, ← hm2.out]; exact hcm))
            have HRA := Lib.hid ((HR.out.below z.ok).below z2.ok)
            have HIA := Lib.hid ((HI.out.below z.ok).below z2.ok)
            have hszA := HIA.out.bw.size
            go_wp2_with (at_builtin; (refine wpList_append_own _ rfl (.tmp 49) (.tmp 51) 89 rfl r 75 i0 _ 3 24 undSts hi0 hz0 hz1 hz2 rfl (by decide) _ _ _ rfl (World.ownsRow.alloc HRA.out _) ⟨z2.val.heap.size, 0, none⟩ 1 1 [.int .u64 (xa : Int), .int .u64 (xb : Int), (Value.int .i64 (xc))] rfl rfl (news8 _ [.int .u64 (xa : Int), .int .u64 (xb : Int), (Value.int .i64 (xc))] _) (stVs_one [(xa, xb, xc)]) (by unfold maxLen; omega) (by omega) (by simp; omega) ?_))
            intro v' w9 hown hgrow _
            have HI9 := Lib.hid ((HIA.out.below ((Below.refl _ _).alloc (Nat.le_refl _) (.cells #[.int .u64 (xa : Int), .int .u64 (xb : Int), (Value.int .i64 (xc))] 75))).grown (World.ownsRow.alloc HRA.out _) hgrow (by omega))
            have HR9 := Lib.hid (RowSt.snoc (L := y :: L) (x := (xa, xb, xc)) hown)
            clear hown hgrow
            go_wp2
            go_roundg cnt'
            case measure => exact hlt7
            case rel => exact ⟨_, cnt', _, rfl, HI9.out, HR9.out, HM.out, hleft', by simp at hLc ⊢; omega⟩
          · have hd1 : decide (m1 < m2) = false := by simp; omega
            have hd2 : (m1 == m2) = false := by simp; omega
            refine wp_region_after (by kernel_rfl) (by kernel_rfl) ?_; (repeat (go_big_quiet_step (((first | (go_at_call 40; with_reducible exact calls_after (hmx.out _)) | (go_at_call 40; with_reducible exact calls_after (hmy.out _))))))); refine wpQuiet_nil ?_; rintro _ ⟨z, rfl⟩; (first | ((with_reducible apply kp_in_after (z := z)); (with_reducible assumption); rintro ⟨hk, hc, hf, hzc, hzf⟩) | ((with_reducible refine kp_in_after0 z ?_); rintro ⟨hk, hc, hf, hzc, hzf⟩))
            go_wp2
            refine wp_region_after (by kernel_rfl) (by kernel_rfl) ?_; (repeat (go_big_quiet_step (((first | (go_at_call 40; with_reducible exact calls_after (hmx.out _)) | (go_at_call 40; with_reducible exact calls_after (hmy.out _))))))); refine wpQuiet_nil ?_; rintro _ ⟨z2, rfl⟩; (first | ((with_reducible apply kp_in_after (z := z2)); (with_reducible assumption); rintro ⟨hk, hc, hf, hzc, hzf⟩) | ((with_reducible refine kp_in_after0 z2 ?_); rintro ⟨hk, hc, hf, hzc, hzf⟩))
            have HM := Lib.hid (hL0.out.more (x := (xa, xb, xc)) hP.out (show mny y < mny (xa, xb, xc) by unfold mny; simp only; rw [← hm1.out, ← hm2.out]; exact hcm))
            have HR9 := Lib.hid ((HR.out.below z.ok).below z2.ok)
            have HI9 := Lib.hid ((HI.out.below z.ok).below z2.ok)
            go_wp2
            go_roundg cnt'
            case measure => exact hlt7
            case rel => exact ⟨_, cnt', _, rfl, HI9.out, HR9.out, HM.out, hleft', by omega⟩
      · have hgx' : g (xa, xb, xc) = false := by simpa using hgx
        rw [hgx'] at hc0
        have hLn := Lib.hid (hL0.out.none_ (x := (xa, xb, xc)) hgx' hP.out)
        have HI := Lib.hid hI8
        have HR := Lib.hid hR8
        clear hI8 hR8 hgx hgx'
        go_wp2_with ((with_reducible refine Calls.mono (hc0 _) ?_); rintro e w1 ⟨rfl, hb1⟩)
        go_roundg cnt'
        case measure => exact hlt7
        case rel => exact ⟨_, cnt', L, rfl, HI.out.below hb1, HR.out.below hb1, hLn.out, hleft', by omega⟩
end
end Go.Proofs.YthijegacjboclaaGreat
