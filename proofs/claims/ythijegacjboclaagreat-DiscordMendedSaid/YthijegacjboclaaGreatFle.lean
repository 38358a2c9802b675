/- The method fields of discord's file: the step from some corners to one more. -/
import Derived.Test.YthijegacjboclaaGreatFld
namespace Go.Proofs.YthijegacjboclaaGreat
open Go.RowKit Go.Maps
attribute [local go_sem] After.cell After.frozen AfterM.cell AfterM.frozen
attribute [local go_sem high] run_neq_xy
theorem below_grown {w w' : World} (h : w.grownBy w' none) : Below w.heap.size w w' := ⟨h.os, h.tape, h.output, h.size, fun k hk => h.block k hk (by simp)⟩
section
variable {C : Option Addr} {ca cb cc : Nat} {D : Dsp} {gf st bm : Nat}
def FieldsOk (A : Option Addr) (ca : Nat) (B : Option Addr) (cb : Nat) (C : Option Addr) (cc : Nat) (D : Dsp) (gf st bm : Nat) (m : Nat) : Prop :=
  ∀ (l1 : List Pt) (A1 : Option Addr) (c1 nn : Nat) (w : World) (F : DataW (Nat × Nat)) (S : Nat × Int → Prop), l1.length + m = D.cs.length → (∀ i, i < l1.length → near D l1 i) → ((A1 = none ∧ c1 = 0 ∧ l1 = []) ∨ ∃ b1, A1 = some ⟨b1, 0, none⟩) → l1.length ≤ c1 →
    EnvF A ca B cb C cc D gf st bm w → PtsX w 0 (some bm) A1 l1 → Fnd D w bm nn F S → nn + 25 ^ m ≤ 1000000000 →
    Calls Tryz.prog 66 #[.pointer (some ⟨gf, 0, none⟩), .map (some bm), .int .u64 ((msk (wcB D l1) l1.length : Nat) : Int), .slice A1 l1.length c1] w fun e w' => e = .returned (.tuple #[]) ∧ (∃ F' nn', nn' ≤ nn + 25 ^ m ∧ Fnd D w' bm nn' F' (fun k => S k ∨ begF D l1 k)) ∧ w.grownBy w' (some bm)
set_option maxRecDepth 100000 in
set_option maxHeartbeats 8000000 in
theorem fields_step (hD : DspOk D) (A B : Option Addr) (m : Nat) (ih : FieldsOk A ca B cb C cc D gf st bm m) : FieldsOk A ca B cb C cc D gf st bm (m + 1) := by
  intro l1 A1 c1 nn w F S hl hnear hA hc1 hE hP hF hnn
  have IH := Lib.hid ih
  have hn3 := hD.ok.1
  have h6 := hD.l6
  have hlo := hD.lo
  have hk : l1.length < D.cs.length := by omega
  have hoff := hD.off l1.length (by omega)
  have hpt := isPt_bd (hD.ok.2.1 l1.length hk)
  obtain ⟨bp, op, hAp, pp⟩ := hE.P.pts.at_ hk
  subst hAp
  obtain ⟨bo, oo, hBo, po⟩ := hE.O.ints.at_ (k := l1.length) (by omega)
  subst hBo
  have hf := hE.f
  have e0 : w.cell? ⟨gf, 0, none⟩ = some (.slice (some ⟨bp, op, none⟩) D.cs.length ca) := hf.cell 0
  have e1 : w.cell? ⟨gf, 1, none⟩ = some (.slice (some ⟨bo, oo, none⟩) D.offs.length cb) := hf.cell 1
  have hlt := hf.lt
  have x1 := pp.xp hk
  have x2 := pp.yp hk
  have x3 := po.xi (i := l1.length) (by omega)
  have l1' := pp.lt
  have l2' := po.lt
  have hnk : ((l1.length : Int) == (D.cs.length : Int)) = false := by simp; omega
  have hko : l1.length < D.offs.length := by omega
  replace hlo := Lib.hid hlo
  replace hl := Lib.hid hl
  have HF := Lib.hid hF
  have HE := Lib.hid hE
  have HP := Lib.hid hP
  clear hF hE hP hf
  go_enter Tryz.func66, Tryz.ntmps66
  go_upto_region 6 with fail
  go_big_region
  have c13 : Blk (w.alloc (.cells #[(Value.int .i64 ((pat D.cs l1.length).1)), (Value.int .i64 ((pat D.cs l1.length).2))] 98)).drew w.heap.size 98 #[(Value.int .i64 ((pat D.cs l1.length).1)), (Value.int .i64 ((pat D.cs l1.length).2))] := Blk.new _ _ _
  have hb1 : Below w.heap.size w (w.alloc (.cells #[(Value.int .i64 ((pat D.cs l1.length).1)), (Value.int .i64 ((pat D.cs l1.length).2))] 98)).drew := by (repeat (first | with_reducible exact Below.refl _ _ | with_reducible apply bl_alloc | with_reducible apply bl_drew | with_reducible apply bl_after | (with_reducible refine bl_call ?_ (by assumption))))
  have hF1 := HF.out.below hb1
  have hg1 : w.grownBy _ (some bm) := grown_below hb1
  have h13 : w.heap.size ≠ bm := by have := HF.out.own.lt; omega
  obtain ⟨o, ho⟩ : ∃ o : Nat, oat D l1.length = (o : Int) := ⟨(oat D l1.length).toNat, by omega⟩
  have ho' : iat D.offs l1.length = (o : Int) := ho
  rw [ho']
  have ho2 : o ≤ 2 := by omega
  replace ho := Lib.hid ho
  clear ho' hoff hb1 e0 e1 x1 x2 x3 l1' l2' hlt pp po hko hnk
  generalize (w.alloc (.cells #[(Value.int .i64 ((pat D.cs l1.length).1)), (Value.int .i64 ((pat D.cs l1.length).2))] 98)).drew = W1 at *
  generalize hg13 : w.heap.size = g13 at *
  obtain ⟨cx, hcx⟩ : ∃ cx, cx = (pat D.cs l1.length).1 := ⟨_, rfl⟩
  obtain ⟨cy, hcy⟩ : ∃ cy, cy = (pat D.cs l1.length).2 := ⟨_, rfl⟩
  rw [← hcx] at hpt c13
  rw [← hcy] at hpt c13
  have HC := Lib.hid (And.intro hcx hcy)
  have hor : bits .or .u64 ((msk (wcB D l1) l1.length : Nat) : Int) (IntKind.u64.wrap (2 ^ l1.length)) = ((msk (wcB D l1) l1.length ||| 2 ^ l1.length : Nat) : Int) := by
    have h1 := pow_u64 (n := l1.length) (by omega)
    rw [Int.one_mul] at h1
    have h2 : 2 ^ l1.length < 2 ^ 8 := Nat.pow_lt_pow_right (by omega) (by omega)
    rw [h1]
    exact or_u64 (Nat.lt_trans (msk_lt _ _) (by omega)) (by omega)
  clear hcx hcy
  have z0 : IntKind.i64.wrap (cx - (o : Int)) = cx - (o : Int) := IntWalk.i64_in _ (by omega)
  have z1 : IntKind.i64.wrap (cx + (o : Int)) = cx + (o : Int) := IntWalk.i64_in _ (by omega)
  have z2 : IntKind.i64.wrap (cy - (o : Int)) = cy - (o : Int) := IntWalk.i64_in _ (by omega)
  have z3 : IntKind.i64.wrap (cy + (o : Int)) = cy + (o : Int) := IntWalk.i64_in _ (by omega)
  (have la := c13.lt); (have ya0 := c13.cell 0); (have ya1 := c13.cell 1); simp only [List.getElem?_toArray, List.getElem?_cons_zero, List.getElem?_cons_succ] at ya0 ya1
  go_wp2
  go_loopg [14] (2 * o + 1) (fun gh x wr => ∃ i : Nat, i ≤ 2 * o + 1 ∧ gh = 2 * o + 1 - i ∧ x = (Value.int .i64 (cx - (o : Int) + (i : Int))) ∧ Blk wr g13 98 #[(Value.int .i64 (cx)), (Value.int .i64 (cy))] ∧ w.grownBy wr (some bm) ∧ ∃ F' nn', nn' ≤ nn + 5 * i * 25 ^ m ∧ Fnd D wr bm nn' F' (fun k => S k ∨ upF D l1 (cx - (o : Int) + (i : Int)) (cy - (o : Int)) k))
  case atStart => exact ⟨0, by omega, by omega, by simp, c13, hg1, F, nn, by omega, hF1.congr fun k => ⟨fun h => h.elim id fun h => absurd h (by have h1 := upF_start hk ho.out k; rw [← HC.out.1, ← HC.out.2] at h1; simpa using h1), fun h => .inl h⟩⟩
  case round =>
    clear ya0 ya1 la c13 hg1 hF1
    obtain ⟨i, hi, rfl, rfl, c13, hgr, F', nn', hnn', hF'⟩ := hrel
    have HF' := Lib.hid hF'
    clear hF'
    (have la := c13.lt); (have ya0 := c13.cell 0); (have ya1 := c13.cell 1); simp only [List.getElem?_toArray, List.getElem?_cons_zero, List.getElem?_cons_succ] at ya0 ya1
    have zx : IntKind.i64.wrap (cx - (o : Int) + (i : Int) + 1) = cx - (o : Int) + (i : Int) + 1 := IntWalk.i64_in _ (by omega)
    by_cases hlt : i < 2 * o + 1
    · have hle : cx - (o : Int) + (i : Int) ≤ cx + (o : Int) := by omega
      clear ih
      go_wp2
      go_loopg [15] (2 * o + 1) (fun gh y wr => ∃ j : Nat, j ≤ 2 * o + 1 ∧ gh = 2 * o + 1 - j ∧ y = (Value.int .i64 (cy - (o : Int) + (j : Int))) ∧ Blk wr g13 98 #[(Value.int .i64 (cx)), (Value.int .i64 (cy))] ∧ w.grownBy wr (some bm) ∧ ∃ F' nn', nn' ≤ nn + (5 * i + j) * 25 ^ m ∧ Fnd D wr bm nn' F' (fun k => S k ∨ upF D l1 (cx - (o : Int) + (i : Int)) (cy - (o : Int) + (j : Int)) k))
      case atStart => exact ⟨0, by omega, by omega, by simp, c13, hgr, F', nn', by simpa using hnn', HF'.out.congr fun k => by simp⟩
      case round =>
        clear ya0 ya1 la c13 hgr HF' hnn' F' nn'
        obtain ⟨j, hj, rfl, rfl, c13, hgr, F', nn', hnn', hF'⟩ := hrel
        have HF' := Lib.hid hF'
        clear hF'
        (have la := c13.lt); (have ya0 := c13.cell 0); (have ya1 := c13.cell 1); simp only [List.getElem?_toArray, List.getElem?_cons_zero, List.getElem?_cons_succ] at ya0 ya1
        have zy : IntKind.i64.wrap (cy - (o : Int) + (j : Int) + 1) = cy - (o : Int) + (j : Int) + 1 := IntWalk.i64_in _ (by omega)
        by_cases hlj : j < 2 * o + 1
        · have hle2 : cy - (o : Int) + (j : Int) ≤ cy + (o : Int) := by omega
          by_cases hpc : ((cx - (o : Int) + (i : Int), cy - (o : Int) + (j : Int)) : Pt) = (cx, cy)
          · have hpc' : ((cx - (o : Int) + (i : Int), cy - (o : Int) + (j : Int)) : Pt) = pat D.cs l1.length := by rw [hpc]; exact Prod.ext HC.out.1 HC.out.2
            go_upto_region 16 with fail
            have hb16 : Below wr.heap.size wr (wr.alloc (.cells #[(Value.int .i64 ((cx - (o : Int) + (i : Int)))), (Value.int .i64 ((cy - (o : Int) + (j : Int))))] 98)) := by (repeat (first | with_reducible exact Below.refl _ _ | with_reducible apply bl_alloc | with_reducible apply bl_drew | with_reducible apply bl_after | (with_reducible refine bl_call ?_ (by assumption))))
            have c16 := Blk.new wr 98 #[(Value.int .i64 ((cx - (o : Int) + (i : Int)))), (Value.int .i64 ((cy - (o : Int) + (j : Int))))]
            have hbmw := HF'.out.own.lt
            have h16 : wr.heap.size ≠ bm := by omega
            have hFX := Lib.hid (HF'.out.below hb16)
            have HgX : Hid (w.grownBy (wr.alloc (.cells #[(Value.int .i64 ((cx - (o : Int) + (i : Int)))), (Value.int .i64 ((cy - (o : Int) + (j : Int))))] 98)) (some bm)) := Lib.hid (hgr.trans (grown_below hb16))
            have C13 := Lib.hid (c13.below hb16)
            clear ya0 ya1 la c13 hb16 hgr hbmw
            generalize wr.alloc (.cells #[(Value.int .i64 ((cx - (o : Int) + (i : Int)))), (Value.int .i64 ((cy - (o : Int) + (j : Int))))] 98) = X at *
            generalize wr.heap.size = g16 at *
            (have lb := c16.lt); (have yb0 := c16.cell 0); (have yb1 := c16.cell 1); simp only [List.getElem?_toArray, List.getElem?_cons_zero, List.getElem?_cons_succ] at yb0 yb1
            refine wp_region_CN (fun w' => ∃ z : AfterM X bm, w' = z.val) (by kernel_rfl) ?_
            change wpAnyC _ _ _ _ _ _ _ (World.drew X)
            have hd0 : Below X.heap.size X X.drew := bl_drew (Below.refl _ _)
            refine wpAnyC_take (i := 0) (v := ?v0u) rfl (by kernel_rfl) (by kernel_rfl) (by kernel_rfl) ?q0u rfl ?y0u ?r0u; (case q0u => exact fun _ _ _ h => h); (case y0u => ((rintro _ ⟨z, rfl⟩); (go_simp); (try with_reducible rfl))); simp only [Act.put, List.getElem_toArray, List.getElem_cons_succ, List.getElem_cons_zero, List.setIfInBounds_toArray, List.set_cons_succ, List.set_cons_zero]
            refine wpAnyC_take (i := 1) (v := ?v1u) rfl (by kernel_rfl) (by kernel_rfl) (by kernel_rfl) ?q1u rfl ?y1u ?r1u; (case q1u => exact fun _ _ _ h => h); (case y1u => ((rintro _ ⟨z, rfl⟩); (go_simp); (try with_reducible rfl))); simp only [Act.put, List.getElem_toArray, List.getElem_cons_succ, List.getElem_cons_zero, List.setIfInBounds_toArray, List.set_cons_succ, List.set_cons_zero]
            refine wpAnyC_take (i := 2) (v := ?v2u) rfl (by kernel_rfl) (by kernel_rfl) (by kernel_rfl) ?q2u rfl ?y2u ?r2u; (case q2u => exact fun _ _ _ h => h); (case y2u => ((rintro _ ⟨z, rfl⟩); (go_simp); (try with_reducible rfl))); simp only [Act.put, List.getElem_toArray, List.getElem_cons_succ, List.getElem_cons_zero, List.setIfInBounds_toArray, List.set_cons_succ, List.set_cons_zero]
            refine wpAnyC_take (i := 3) (v := ?v3u) rfl (by kernel_rfl) (by kernel_rfl) (by kernel_rfl) ?q3u rfl ?y3u ?r3u; (case q3u => exact fun _ _ _ h => h); (case y3u => ((rintro _ ⟨z, rfl⟩); (go_simp); (try with_reducible rfl))); simp only [Act.put, List.getElem_toArray, List.getElem_cons_succ, List.getElem_cons_zero, List.setIfInBounds_toArray, List.set_cons_succ, List.set_cons_zero]
            refine wpAnyC_take (i := 4) (v := ?v4u) rfl (by kernel_rfl) (by kernel_rfl) (by kernel_rfl) ?q4u rfl ?y4u ?r4u; (case q4u => exact fun _ _ _ h => h); (case y4u => ((rintro _ ⟨z, rfl⟩); (go_simp); (try with_reducible rfl))); simp only [Act.put, List.getElem_toArray, List.getElem_cons_succ, List.getElem_cons_zero, List.setIfInBounds_toArray, List.set_cons_succ, List.set_cons_zero]
            refine wpAnyC_take (i := 5) (v := ?v5u) rfl (by kernel_rfl) (by kernel_rfl) (by kernel_rfl) ?q5u rfl ?y5u ?r5u; (case q5u => exact fun _ _ _ h => h); (case y5u => ((rintro _ ⟨z, rfl⟩); (go_simp); (try with_reducible rfl))); simp only [Act.put, List.getElem_toArray, List.getElem_cons_succ, List.getElem_cons_zero, List.setIfInBounds_toArray, List.set_cons_succ, List.set_cons_zero]
            refine wpAnyC_take (i := 6) (v := ?v6u) rfl (by kernel_rfl) (by kernel_rfl) (by kernel_rfl) ?q6u rfl ?y6u ?r6u; (case q6u => exact fun _ _ _ h => h); (case y6u => ((rintro _ ⟨z, rfl⟩); (go_simp); (try with_reducible rfl))); simp only [Act.put, List.getElem_toArray, List.getElem_cons_succ, List.getElem_cons_zero, List.setIfInBounds_toArray, List.set_cons_succ, List.set_cons_zero]
            refine wpAnyC_take (i := 7) (v := ?v7u) rfl (by kernel_rfl) (by kernel_rfl) (by kernel_rfl) ?q7u rfl ?y7u ?r7u; (case q7u => exact fun _ _ _ h => h); (case y7u => ((rintro _ ⟨z, rfl⟩); (go_simp); (try with_reducible rfl))); simp only [Act.put, List.getElem_toArray, List.getElem_cons_succ, List.getElem_cons_zero, List.setIfInBounds_toArray, List.set_cons_succ, List.set_cons_zero]
            refine wpAnyC_one (i := 8) (by kernel_rfl) rfl ⟨⟨_, grown_below hd0⟩, rfl⟩ rfl (fun K hK => ?_)
            go_simp
            refine hK _ _ ?_
            clear hK K
            have hd8 : Below X.heap.size X (X.alloc (.cells #[(Value.int .i64 ((cx - (o : Int) + (i : Int)))), (Value.int .i64 ((cy - (o : Int) + (j : Int))))] 98)).drew := by (repeat (first | with_reducible exact Below.refl _ _ | with_reducible apply bl_alloc | with_reducible apply bl_drew | with_reducible apply bl_after | (with_reducible refine bl_call ?_ (by assumption))))
            have hB8 : Blk (X.alloc (.cells #[(Value.int .i64 ((cx - (o : Int) + (i : Int)))), (Value.int .i64 ((cy - (o : Int) + (j : Int))))] 98)).drew X.heap.size 98 #[(Value.int .i64 ((cx - (o : Int) + (i : Int)))), (Value.int .i64 ((cy - (o : Int) + (j : Int))))] := Blk.new X _ _
            refine wpAnyC_one (i := 9) (by kernel_rfl) rfl ⟨⟨_, grown_below hd8⟩, rfl⟩ rfl (fun K hK => ?_)
            refine app_full_wp _ (.tmp 114) (.tmp 116) rfl A1 l1 ((cx - (o : Int) + (i : Int)), (cy - (o : Int) + (j : Int))) X.heap.size rfl rfl (HP.out.grown (HgX.out.trans (grown_below hd8))).pts (by omega) hB8 ?_
            intro g9 cap w9 hp9 hg9 hcap hgr9
            have hd9 : Below X.heap.size X w9 := hd8.trans ((below_grown hgr9).mono hd8.size)
            have h9 : g9 ≠ bm := by have h1 := hFX.out.own.lt; have h2 := hd8.size; omega
            refine hK _ _ ?_
            clear hK K hB8
            simp only [Act.put, List.getElem_toArray, List.getElem_cons_succ, List.getElem_cons_zero, List.setIfInBounds_toArray, List.set_cons_succ, List.set_cons_zero]
            have hmul : (5 * i + j + 1) * 25 ^ m ≤ 25 * 25 ^ m := Nat.mul_le_mul_right _ (by omega)
            have hpow : 25 ^ (m + 1) = 25 * 25 ^ m := by rw [Nat.pow_succ, Nat.mul_comm]
            have hsuc : (5 * i + j + 1) * 25 ^ m = (5 * i + j) * 25 ^ m + 25 ^ m := Nat.succ_mul _ _
            have hcl := IH.out (l1 ++ [((cx - (o : Int) + (i : Int)), (cy - (o : Int) + (j : Int)))]) (some ⟨g9, 0, none⟩) cap nn' w9 F' _ (by have := hl.out; simp; omega) (near_snoc hnear (by rw [ho.out, ← HC.out.1, ← HC.out.2]; exact ⟨by show _ ≤ (cx - (o : Int) + (i : Int)); omega, by show (cx - (o : Int) + (i : Int)) ≤ _; omega, by show _ ≤ (cy - (o : Int) + (j : Int)); omega, by show (cy - (o : Int) + (j : Int)) ≤ _; omega⟩)) (.inr ⟨g9, rfl⟩) (by simpa using hcap) (HE.out.grown (HgX.out.trans (grown_below hd9))) (.inr ⟨g9, 0, rfl, Nat.zero_le _, by simpa using h9, hp9⟩) (hFX.out.below hd9) (by omega)
            rw [List.length_append, List.length_singleton, wc_step, if_pos hpc'] at hcl
            refine wpAnyC_one (i := 10) (by kernel_rfl) rfl ⟨⟨_, grown_below hd9⟩, rfl⟩ rfl (fun K hK => ?_)
            go_simp
            go_at_call 66
            (with_reducible refine Calls.mono hcl ?_)
            rintro e w10 ⟨rfl, ⟨F2, n2, hn2, hF2⟩, hg10⟩
            refine hK _ _ ?_
            clear hK K hcl
            have hgT : X.grownBy w10 (some bm) := (grown_below hd9).trans hg10
            refine wpAnyC_doneN (by kernel_rfl) ⟨⟨_, hgT⟩, rfl⟩ ?_ _
            have ey : cy - (o : Int) + ((j + 1 : Nat) : Int) = cy - (o : Int) + (j : Int) + 1 := by omega
            have HR := Lib.hid (And.intro (show n2 ≤ nn + (5 * i + (j + 1)) * 25 ^ m by rw [← Nat.add_assoc]; omega) (show Fnd D w10 bm n2 F2 (fun k => S k ∨ upF D l1 (cx - (o : Int) + (i : Int)) (cy - (o : Int) + ((j + 1 : Nat) : Int)) k) from hF2.congr fun k => by rw [ey, upF_next hk, or_assoc]))
            have C13' := Lib.hid (C13.out.grown_ hgT (by simpa using h13))
            have HgT := Lib.hid (HgX.out.trans hgT)
            clear hF2 hn2 hg10 hgT hd0 hd8 hd9 hp9 hg9 hgr9 C13 HgX hFX lb yb0 yb1 hmul hpow hsuc ey
            go_wp2
            go_roundg (2 * o + 1 - (j + 1))
            case measure => omega
            case rel => exact ⟨j + 1, by omega, rfl, by go_num, C13'.out, HgT.out, F2, n2, HR.out.1, HR.out.2⟩
          · have hpc' : ¬ ((cx - (o : Int) + (i : Int), cy - (o : Int) + (j : Int)) : Pt) = pat D.cs l1.length := fun h => hpc (h.trans (Prod.ext HC.out.1.symm HC.out.2.symm))
            go_upto_region 16 with fail
            have hb16 : Below wr.heap.size wr (wr.alloc (.cells #[(Value.int .i64 ((cx - (o : Int) + (i : Int)))), (Value.int .i64 ((cy - (o : Int) + (j : Int))))] 98)) := by (repeat (first | with_reducible exact Below.refl _ _ | with_reducible apply bl_alloc | with_reducible apply bl_drew | with_reducible apply bl_after | (with_reducible refine bl_call ?_ (by assumption))))
            have c16 := Blk.new wr 98 #[(Value.int .i64 ((cx - (o : Int) + (i : Int)))), (Value.int .i64 ((cy - (o : Int) + (j : Int))))]
            have hbmw := HF'.out.own.lt
            have h16 : wr.heap.size ≠ bm := by omega
            have hFX := Lib.hid (HF'.out.below hb16)
            have HgX : Hid (w.grownBy (wr.alloc (.cells #[(Value.int .i64 ((cx - (o : Int) + (i : Int)))), (Value.int .i64 ((cy - (o : Int) + (j : Int))))] 98)) (some bm)) := Lib.hid (hgr.trans (grown_below hb16))
            have C13 := Lib.hid (c13.below hb16)
            clear ya0 ya1 la c13 hb16 hgr hbmw
            generalize wr.alloc (.cells #[(Value.int .i64 ((cx - (o : Int) + (i : Int)))), (Value.int .i64 ((cy - (o : Int) + (j : Int))))] 98) = X at *
            generalize wr.heap.size = g16 at *
            (have lb := c16.lt); (have yb0 := c16.cell 0); (have yb1 := c16.cell 1); simp only [List.getElem?_toArray, List.getElem?_cons_zero, List.getElem?_cons_succ] at yb0 yb1
            refine wp_region_CN (fun w' => ∃ z : AfterM X bm, w' = z.val) (by kernel_rfl) ?_
            change wpAnyC _ _ _ _ _ _ _ (World.drew X)
            have hd0 : Below X.heap.size X X.drew := bl_drew (Below.refl _ _)
            refine wpAnyC_take (i := 0) (v := ?v0v) rfl (by kernel_rfl) (by kernel_rfl) (by kernel_rfl) ?q0v rfl ?y0v ?r0v; (case q0v => exact fun _ _ _ h => h); (case y0v => ((rintro _ ⟨z, rfl⟩); (go_simp); (try with_reducible rfl))); simp only [Act.put, List.getElem_toArray, List.getElem_cons_succ, List.getElem_cons_zero, List.setIfInBounds_toArray, List.set_cons_succ, List.set_cons_zero]
            refine wpAnyC_take (i := 1) (v := ?v1v) rfl (by kernel_rfl) (by kernel_rfl) (by kernel_rfl) ?q1v rfl ?y1v ?r1v; (case q1v => exact fun _ _ _ h => h); (case y1v => ((rintro _ ⟨z, rfl⟩); (go_simp); (try with_reducible rfl))); simp only [Act.put, List.getElem_toArray, List.getElem_cons_succ, List.getElem_cons_zero, List.setIfInBounds_toArray, List.set_cons_succ, List.set_cons_zero]
            refine wpAnyC_take (i := 2) (v := ?v2v) rfl (by kernel_rfl) (by kernel_rfl) (by kernel_rfl) ?q2v rfl ?y2v ?r2v; (case q2v => exact fun _ _ _ h => h); (case y2v => ((rintro _ ⟨z, rfl⟩); (go_simp); (try with_reducible rfl))); simp only [Act.put, List.getElem_toArray, List.getElem_cons_succ, List.getElem_cons_zero, List.setIfInBounds_toArray, List.set_cons_succ, List.set_cons_zero]
            refine wpAnyC_take (i := 3) (v := ?v3v) rfl (by kernel_rfl) (by kernel_rfl) (by kernel_rfl) ?q3v rfl ?y3v ?r3v; (case q3v => exact fun _ _ _ h => h); (case y3v => ((rintro _ ⟨z, rfl⟩); (go_simp); (try with_reducible rfl))); simp only [Act.put, List.getElem_toArray, List.getElem_cons_succ, List.getElem_cons_zero, List.setIfInBounds_toArray, List.set_cons_succ, List.set_cons_zero]
            refine wpAnyC_take (i := 4) (v := ?v4v) rfl (by kernel_rfl) (by kernel_rfl) (by kernel_rfl) ?q4v rfl ?y4v ?r4v; (case q4v => exact fun _ _ _ h => h); (case y4v => ((rintro _ ⟨z, rfl⟩); (go_simp); (try with_reducible rfl))); simp only [Act.put, List.getElem_toArray, List.getElem_cons_succ, List.getElem_cons_zero, List.setIfInBounds_toArray, List.set_cons_succ, List.set_cons_zero]
            refine wpAnyC_take (i := 5) (v := ?v5v) rfl (by kernel_rfl) (by kernel_rfl) (by kernel_rfl) ?q5v rfl ?y5v ?r5v; (case q5v => exact fun _ _ _ h => h); (case y5v => ((rintro _ ⟨z, rfl⟩); (go_simp); (try with_reducible rfl))); simp only [Act.put, List.getElem_toArray, List.getElem_cons_succ, List.getElem_cons_zero, List.setIfInBounds_toArray, List.set_cons_succ, List.set_cons_zero]
            refine wpAnyC_take (i := 6) (v := ?v6v) rfl (by kernel_rfl) (by kernel_rfl) (by kernel_rfl) ?q6v rfl ?y6v ?r6v; (case q6v => exact fun _ _ _ h => h); (case y6v => ((rintro _ ⟨z, rfl⟩); (go_simp); (try with_reducible rfl))); simp only [Act.put, List.getElem_toArray, List.getElem_cons_succ, List.getElem_cons_zero, List.setIfInBounds_toArray, List.set_cons_succ, List.set_cons_zero]
            refine wpAnyC_take (i := 7) (v := ?v7v) rfl (by kernel_rfl) (by kernel_rfl) (by kernel_rfl) ?q7v rfl ?y7v ?r7v; (case q7v => exact fun _ _ _ h => h); (case y7v => ((rintro _ ⟨z, rfl⟩); (go_simp); (try with_reducible rfl))); simp only [Act.put, List.getElem_toArray, List.getElem_cons_succ, List.getElem_cons_zero, List.setIfInBounds_toArray, List.set_cons_succ, List.set_cons_zero]
            refine wpAnyC_one (i := 8) (by kernel_rfl) rfl ⟨⟨_, grown_below hd0⟩, rfl⟩ rfl (fun K hK => ?_)
            go_simp
            refine hK _ _ ?_
            clear hK K
            have hd8 : Below X.heap.size X (X.alloc (.cells #[(Value.int .i64 ((cx - (o : Int) + (i : Int)))), (Value.int .i64 ((cy - (o : Int) + (j : Int))))] 98)).drew := by (repeat (first | with_reducible exact Below.refl _ _ | with_reducible apply bl_alloc | with_reducible apply bl_drew | with_reducible apply bl_after | (with_reducible refine bl_call ?_ (by assumption))))
            have hB8 : Blk (X.alloc (.cells #[(Value.int .i64 ((cx - (o : Int) + (i : Int)))), (Value.int .i64 ((cy - (o : Int) + (j : Int))))] 98)).drew X.heap.size 98 #[(Value.int .i64 ((cx - (o : Int) + (i : Int)))), (Value.int .i64 ((cy - (o : Int) + (j : Int))))] := Blk.new X _ _
            refine wpAnyC_one (i := 9) (by kernel_rfl) rfl ⟨⟨_, grown_below hd8⟩, rfl⟩ rfl (fun K hK => ?_)
            refine app_full_wp _ (.tmp 114) (.tmp 116) rfl A1 l1 ((cx - (o : Int) + (i : Int)), (cy - (o : Int) + (j : Int))) X.heap.size rfl rfl (HP.out.grown (HgX.out.trans (grown_below hd8))).pts (by omega) hB8 ?_
            intro g9 cap w9 hp9 hg9 hcap hgr9
            have hd9 : Below X.heap.size X w9 := hd8.trans ((below_grown hgr9).mono hd8.size)
            have h9 : g9 ≠ bm := by have h1 := hFX.out.own.lt; have h2 := hd8.size; omega
            refine hK _ _ ?_
            clear hK K hB8
            simp only [Act.put, List.getElem_toArray, List.getElem_cons_succ, List.getElem_cons_zero, List.setIfInBounds_toArray, List.set_cons_succ, List.set_cons_zero]
            have hmul : (5 * i + j + 1) * 25 ^ m ≤ 25 * 25 ^ m := Nat.mul_le_mul_right _ (by omega)
            have hpow : 25 ^ (m + 1) = 25 * 25 ^ m := by rw [Nat.pow_succ, Nat.mul_comm]
            have hsuc : (5 * i + j + 1) * 25 ^ m = (5 * i + j) * 25 ^ m + 25 ^ m := Nat.succ_mul _ _
            have hcl := IH.out (l1 ++ [((cx - (o : Int) + (i : Int)), (cy - (o : Int) + (j : Int)))]) (some ⟨g9, 0, none⟩) cap nn' w9 F' _ (by have := hl.out; simp; omega) (near_snoc hnear (by rw [ho.out, ← HC.out.1, ← HC.out.2]; exact ⟨by show _ ≤ (cx - (o : Int) + (i : Int)); omega, by show (cx - (o : Int) + (i : Int)) ≤ _; omega, by show _ ≤ (cy - (o : Int) + (j : Int)); omega, by show (cy - (o : Int) + (j : Int)) ≤ _; omega⟩)) (.inr ⟨g9, rfl⟩) (by simpa using hcap) (HE.out.grown (HgX.out.trans (grown_below hd9))) (.inr ⟨g9, 0, rfl, Nat.zero_le _, by simpa using h9, hp9⟩) (hFX.out.below hd9) (by omega)
            rw [List.length_append, List.length_singleton, wc_step, if_neg hpc'] at hcl
            refine wpAnyC_one (i := 10) (by kernel_rfl) rfl ⟨⟨_, grown_below hd9⟩, rfl⟩ rfl (fun K hK => ?_)
            go_simp
            go_at_call 66
            (with_reducible refine Calls.mono hcl ?_)
            rintro e w10 ⟨rfl, ⟨F2, n2, hn2, hF2⟩, hg10⟩
            refine hK _ _ ?_
            clear hK K hcl
            have hgT : X.grownBy w10 (some bm) := (grown_below hd9).trans hg10
            refine wpAnyC_doneN (by kernel_rfl) ⟨⟨_, hgT⟩, rfl⟩ ?_ _
            have ey : cy - (o : Int) + ((j + 1 : Nat) : Int) = cy - (o : Int) + (j : Int) + 1 := by omega
            have HR := Lib.hid (And.intro (show n2 ≤ nn + (5 * i + (j + 1)) * 25 ^ m by rw [← Nat.add_assoc]; omega) (show Fnd D w10 bm n2 F2 (fun k => S k ∨ upF D l1 (cx - (o : Int) + (i : Int)) (cy - (o : Int) + ((j + 1 : Nat) : Int)) k) from hF2.congr fun k => by rw [ey, upF_next hk, or_assoc]))
            have C13' := Lib.hid (C13.out.grown_ hgT (by simpa using h13))
            have HgT := Lib.hid (HgX.out.trans hgT)
            clear hF2 hn2 hg10 hgT hd0 hd8 hd9 hp9 hg9 hgr9 C13 HgX hFX lb yb0 yb1 hmul hpow hsuc ey
            go_wp2
            go_roundg (2 * o + 1 - (j + 1))
            case measure => omega
            case rel => exact ⟨j + 1, by omega, rfl, by go_num, C13'.out, HgT.out, F2, n2, HR.out.1, HR.out.2⟩
        · have hle2 : ¬ (cy - (o : Int) + (j : Int) ≤ cy + (o : Int)) := by omega
          obtain rfl : j = 2 * o + 1 := by omega
          go_wp2
          go_roundg (2 * o + 1 - (i + 1))
          case measure => omega
          case rel =>
            refine ⟨i + 1, by omega, rfl, by go_num, c13, hgr, F', nn', ?_, HF'.out.congr fun k => ?_⟩
            · have := Nat.mul_le_mul_right (25 ^ m) (show 5 * i + (2 * o + 1) ≤ 5 * (i + 1) by omega)
              omega
            · have h1 := upF_row hk ho.out (cx - (o : Int) + (i : Int)) k
              rw [← HC.out.2] at h1
              have ex : cx - (o : Int) + ((i + 1 : Nat) : Int) = cx - (o : Int) + (i : Int) + 1 := by omega
              have ey : cy - (o : Int) + ((2 * o + 1 : Nat) : Int) = cy - (o : Int) + (2 * (o : Int) + 1) := by omega
              rw [ex, ey, h1]
    · have hle : ¬ (cx - (o : Int) + (i : Int) ≤ cx + (o : Int)) := by omega
      obtain rfl : i = 2 * o + 1 := by omega
      go_wp2
      go_end0
      refine ⟨rfl, ⟨F', nn', ?_, HF'.out.congr fun k => ?_⟩, hgr⟩
      · have h1 := Nat.mul_le_mul_right (25 ^ m) (show 5 * (2 * o + 1) ≤ 25 by omega)
        have hpow : 25 ^ (m + 1) = 25 * 25 ^ m := by rw [Nat.pow_succ, Nat.mul_comm]
        omega
      · have h1 := upF_end hk ho.out k
        rw [← HC.out.1, ← HC.out.2] at h1
        have ex : cx - (o : Int) + ((2 * o + 1 : Nat) : Int) = cx - (o : Int) + (2 * (o : Int) + 1) := by omega
        rw [ex, h1]
theorem fields_ok (hD : DspOk D) (A B : Option Addr) : ∀ m, FieldsOk A ca B cb C cc D gf st bm m
  | 0 => fun l1 A1 c1 nn w F S hl hnear hA hc1 hE hP hF hnn => by
    have hn3 := hD.ok.1
    rcases hA with ⟨_, _, rfl⟩ | ⟨b1, rfl⟩
    · simp at hl; omega
    · exact fields_leaf hD l1 b1 c1 nn w F S (by omega) hnear hE hP hF (by omega)
  | m + 1 => fields_step hD A B m (fields_ok hD A B m)
end
end Go.Proofs.YthijegacjboclaaGreat
