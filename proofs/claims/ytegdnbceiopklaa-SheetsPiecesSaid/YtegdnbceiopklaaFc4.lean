/- The function Factors of sheets answers all factors of a direction, each once, in order, or the error of a sheet. -/
import Derived.Test.YtegdnbceiopklaaSt4
import Derived.Test.YtegdnbceiopklaaMapI
import Derived.Test.YtegdnbceiopklaaJQsk
namespace Go.Proofs.Ytegdnbceiopklaa
open Go.RowKit Go.Shelf
attribute [local go_sem] After.cell After.frozen Oper.semAt_some wide_fn wide_depth Fence.inRound_fn Fence.inRound_depth

/-- The factors of a direction in the first k truths. -/
def fcTo (S : Sht) (way : Int) (k : Nat) : List Int := ((trs S).take k).map fun f => fac f way
theorem fcTo_succ {S : Sht} {way : Int} {k : Nat} {x : Pt} (h : (trs S)[k]? = some x) : fcTo S way (k + 1) = fcTo S way k ++ [fac x way] := by
  unfold fcTo
  rw [List.take_add_one, h]
  simp
def fcS (S : Sht) (way : Int) : List Int := srt (fcTo S way (trs S).length)
def fcV (S : Sht) (way : Int) : List Int := if opS S (wayB way) = 0 then fcS S way else []
def FcAt (S : Sht) (way : Int) (r k : Nat) (W : World) : Prop := ∃ D : DataW Unit, OwnM W r k D ∧ ∀ x, Maps.has D (.int .i64 x) = decide (x ∈ fcTo S way k)
theorem ShKeep.grown {g : Nat} {A : Option Addr} {ca : Nat} {S : Sht} {W W' : World} {r : Nat} (h : ShKeep g A ca S W) (hg : W.grownBy W' (some r)) (hgr : g ≠ r) (hA : CtsLow A S r) : ShKeep g A ca S W' := by
  refine ⟨blk_grown h.blk hg hgr, ?_⟩
  rcases h.cts with h0 | ⟨b, o, rfl, hI⟩
  · exact .inl h0
  · by_cases hn : S.cs = []
    · exact .inl hn
    · have hb := hA _ rfl hn
      exact .inr ⟨b, o, rfl, Nat.lt_of_lt_of_le hI.lt hg.size, fun j u hj => (World.cell?_of_block (hg.block b hI.lt (by intro e; cases e; exact absurd hb (Nat.lt_irrefl _)))).trans (hI.x j u hj)⟩
theorem Blk.drew_ {w : World} {g : Nat} {t : TypeId} {cs : Array Value} (h : Blk w g t cs) : Blk w.drew g t cs := h
theorem fac_wf {S : Sht} (hS : ShtOk S) {f : Pt} (hf : f ∈ trs S) (way : Int) : (Lit.int .i64 (fac f way)).wf = true := by
  have := fac_bd (trs_ok hS hf) way
  simp [Lit.wf, IntKind.min, IntKind.max, IntKind.bits, IntKind.signed]
  omega
set_option maxRecDepth 100000 in
set_option maxHeartbeats 4000000 in
theorem Factors_no (A : Option Addr) (ca : Nat) (S : Sht) (way : Int) (w : World) (ha : Cts w A S.cs) (hne : opS S (wayB way) ≠ 0) :
    Calls Try.prog 33 #[(Value.agg #[(Value.int .i64 (S.xlo)), (Value.int .i64 (S.xhi)), (Value.int .i64 (S.ylo)), (Value.int .i64 (S.yhi)), .slice A S.cs.length ca, (Value.int .i64 (S.wrong))]), (Value.int .i64 (way))] w fun e w' => e = .returned (.tuple #[.slice none 0 0, (Value.int .i64 (opS S (wayB way)))]) ∧ Below w.heap.size w w' := by
  have HOP := Lib.hid fun (W : World) (h : Below w.heap.size w W) => open_any4 A ca S (wayB way) W (ha.below h)
  have c2 : Blk ((w.alloc (.cells #[(Value.int .i64 (S.xlo)), (Value.int .i64 (S.xhi)), (Value.int .i64 (S.ylo)), (Value.int .i64 (S.yhi)), .slice A S.cs.length ca, (Value.int .i64 (S.wrong))] 26)).alloc (.cells #[(Value.int .i64 (way))] 3)) w.heap.size 26 #[(Value.int .i64 (S.xlo)), (Value.int .i64 (S.xhi)), (Value.int .i64 (S.ylo)), (Value.int .i64 (S.yhi)), .slice A S.cs.length ca, (Value.int .i64 (S.wrong))] := (Blk.new _ _ _).alloc _
  have c3 : Blk ((w.alloc (.cells #[(Value.int .i64 (S.xlo)), (Value.int .i64 (S.xhi)), (Value.int .i64 (S.ylo)), (Value.int .i64 (S.yhi)), .slice A S.cs.length ca, (Value.int .i64 (S.wrong))] 26)).alloc (.cells #[(Value.int .i64 (way))] 3)) (w.heap.size + 1) 3 #[(Value.int .i64 (way))] := Blk.new_at (by simp)
  have hb0 : Below w.heap.size w ((w.alloc (.cells #[(Value.int .i64 (S.xlo)), (Value.int .i64 (S.xhi)), (Value.int .i64 (S.ylo)), (Value.int .i64 (S.yhi)), .slice A S.cs.length ca, (Value.int .i64 (S.wrong))] 26)).alloc (.cells #[(Value.int .i64 (way))] 3)) := by (repeat (first | with_reducible exact Below.refl _ _ | with_reducible apply bl_alloc | with_reducible apply bl_drew | with_reducible apply bl_after | (with_reducible refine bl_call ?_ (by assumption))))
  (have la := c2.lt); (have ya0 := c2.cell 0); (have ya1 := c2.cell 1); (have ya2 := c2.cell 2); (have ya3 := c2.cell 3); (have ya4 := c2.cell 4); (have ya5 := c2.cell 5); simp only [List.getElem?_toArray, List.getElem?_cons_zero, List.getElem?_cons_succ] at ya0 ya1 ya2 ya3 ya4 ya5
  (have lb := c3.lt); (have yb0 := c3.cell 0); simp only [List.getElem?_toArray, List.getElem?_cons_zero] at yb0
  have h1 : (opS S (wayB way) != 0) = true := by rw [bne_iff_ne]; exact hne
  clear hne
  go_enter Try.func33, Try.ntmps33
  go_upto_region 1 with fail
  refine wp_region_CN (fun w' => ∃ z : After ((w.alloc (.cells #[(Value.int .i64 (S.xlo)), (Value.int .i64 (S.xhi)), (Value.int .i64 (S.ylo)), (Value.int .i64 (S.yhi)), .slice A S.cs.length ca, (Value.int .i64 (S.wrong))] 26)).alloc (.cells #[(Value.int .i64 (way))] 3)), w' = z.val) (by kernel_rfl) ?_
  (change wpAnyC _ _ _ _ _ _ _ (World.drew ((w.alloc (.cells #[(Value.int .i64 (S.xlo)), (Value.int .i64 (S.xhi)), (Value.int .i64 (S.ylo)), (Value.int .i64 (S.yhi)), .slice A S.cs.length ca, (Value.int .i64 (S.wrong))] 26)).alloc (.cells #[(Value.int .i64 (way))] 3))); (have hd0 : Below (((w.alloc (.cells #[(Value.int .i64 (S.xlo)), (Value.int .i64 (S.xhi)), (Value.int .i64 (S.ylo)), (Value.int .i64 (S.yhi)), .slice A S.cs.length ca, (Value.int .i64 (S.wrong))] 26)).alloc (.cells #[(Value.int .i64 (way))] 3))).heap.size ((w.alloc (.cells #[(Value.int .i64 (S.xlo)), (Value.int .i64 (S.xhi)), (Value.int .i64 (S.ylo)), (Value.int .i64 (S.yhi)), .slice A S.cs.length ca, (Value.int .i64 (S.wrong))] 26)).alloc (.cells #[(Value.int .i64 (way))] 3)) (((w.alloc (.cells #[(Value.int .i64 (S.xlo)), (Value.int .i64 (S.xhi)), (Value.int .i64 (S.ylo)), (Value.int .i64 (S.yhi)), .slice A S.cs.length ca, (Value.int .i64 (S.wrong))] 26)).alloc (.cells #[(Value.int .i64 (way))] 3))).drew := bl_drew (Below.refl _ _)); refine wpAnyC_take (i := 0) (v := ?v0u) rfl (by kernel_rfl) (by kernel_rfl) (by kernel_rfl) ?q0u rfl ?y0u ?r0u; (case q0u => exact fun _ _ _ h => h); (case y0u => ((rintro _ ⟨z, rfl⟩); (go_simp); (try with_reducible rfl))); simp only [Act.put, List.getElem_toArray, List.getElem_cons_succ, List.getElem_cons_zero, List.setIfInBounds_toArray, List.set_cons_succ, List.set_cons_zero]; refine wpAnyC_take (i := 1) (v := ?v1u) rfl (by kernel_rfl) (by kernel_rfl) (by kernel_rfl) ?q1u rfl ?y1u ?r1u; (case q1u => exact fun _ _ _ h => h); (case y1u => ((rintro _ ⟨z, rfl⟩); (go_simp); (try with_reducible rfl))); simp only [Act.put, List.getElem_toArray, List.getElem_cons_succ, List.getElem_cons_zero, List.setIfInBounds_toArray, List.set_cons_succ, List.set_cons_zero]; refine wpAnyC_one (i := 2) (by kernel_rfl) rfl ⟨⟨_, hd0⟩, rfl⟩ rfl (fun K hK => ?_); go_simp; go_at_call 68; (with_reducible refine Calls.mono (isWay_any _ _) ?_); rintro e w' ⟨rfl, rfl⟩; refine hK _ _ ?_; clear hK K; refine wpAnyC_one (i := 3) (by kernel_rfl) rfl ⟨⟨_, hd0⟩, rfl⟩ rfl (fun K hK => ?_); go_simp; go_at_call 51; (with_reducible refine Calls.mono (HOP.out _ (bl_drew hb0)) ?_); rintro e w1 ⟨⟨p, rfl, hO⟩, hb1⟩; refine hK _ _ ?_; clear hK K; (have hd1 := hd0.trans (hb1.mono hd0.size)); refine wpAnyC_take (i := 4) (v := ?v4u) rfl (by kernel_rfl) (by kernel_rfl) (by kernel_rfl) ?q4u rfl ?y4u ?r4u; (case q4u => exact fun _ _ _ h => h); (case y4u => ((rintro _ ⟨z, rfl⟩); (go_simp); (try with_reducible rfl))); simp only [Act.put, List.getElem_toArray, List.getElem_cons_succ, List.getElem_cons_zero, List.setIfInBounds_toArray, List.set_cons_succ, List.set_cons_zero]; refine wpAnyC_take (i := 5) (v := ?v5u) rfl (by kernel_rfl) (by kernel_rfl) (by kernel_rfl) ?q5u rfl ?y5u ?r5u; (case q5u => exact fun _ _ _ h => h); (case y5u => ((rintro _ ⟨z, rfl⟩); (go_simp); (try with_reducible rfl))); simp only [Act.put, List.getElem_toArray, List.getElem_cons_succ, List.getElem_cons_zero, List.setIfInBounds_toArray, List.set_cons_succ, List.set_cons_zero]; refine wpAnyC_take (i := 6) (v := ?v6u) rfl (by kernel_rfl) (by kernel_rfl) (by kernel_rfl) ?q6u rfl ?y6u ?r6u; (case q6u => exact fun _ _ _ h => h); (case y6u => ((rintro _ ⟨z, rfl⟩); (go_simp); (try with_reducible rfl))); simp only [Act.put, List.getElem_toArray, List.getElem_cons_succ, List.getElem_cons_zero, List.setIfInBounds_toArray, List.set_cons_succ, List.set_cons_zero]; refine wpAnyC_take (i := 7) (v := ?v7u) rfl (by kernel_rfl) (by kernel_rfl) (by kernel_rfl) ?q7u rfl ?y7u ?r7u; (case q7u => exact fun _ _ _ h => h); (case y7u => ((rintro _ ⟨z, rfl⟩); (go_simp); (try with_reducible rfl))); simp only [Act.put, List.getElem_toArray, List.getElem_cons_succ, List.getElem_cons_zero, List.setIfInBounds_toArray, List.set_cons_succ, List.set_cons_zero]; refine wpAnyC_take (i := 8) (v := ?v8u) rfl (by kernel_rfl) (by kernel_rfl) (by kernel_rfl) ?q8u rfl ?y8u ?r8u; (case q8u => exact fun _ _ _ h => h); (case y8u => ((rintro _ ⟨z, rfl⟩); (go_simp); (try with_reducible rfl))); simp only [Act.put, List.getElem_toArray, List.getElem_cons_succ, List.getElem_cons_zero, List.setIfInBounds_toArray, List.set_cons_succ, List.set_cons_zero])
  refine wpAnyC_doneN (by kernel_rfl) ⟨⟨_, hd1⟩, rfl⟩ ?_ _
  go_wp2
  go_ret2
  exact ⟨rfl, bl_call (bl_drew hb0) hb1⟩
set_option maxRecDepth 100000 in
set_option maxHeartbeats 4000000 in
theorem Factors_ok (A : Option Addr) (ca : Nat) (S : Sht) (way : Int) (w : World) (ha : Cts w A S.cs) (h0 : opS S (wayB way) = 0) :
    Calls Try.prog 33 #[(Value.agg #[(Value.int .i64 (S.xlo)), (Value.int .i64 (S.xhi)), (Value.int .i64 (S.ylo)), (Value.int .i64 (S.yhi)), .slice A S.cs.length ca, (Value.int .i64 (S.wrong))]), (Value.int .i64 (way))] w fun e w' => (∃ A' ca', e = .returned (.tuple #[.slice A' (fcS S way).length ca', (Value.int .i64 (0))]) ∧ Ints w' A' (fcS S way)) ∧ Below w.heap.size w w' := by
  have HOP := fun (W : World) (h : Below w.heap.size w W) => open_any4 A ca S (wayB way) W (ha.below h)
  have c2 : Blk ((w.alloc (.cells #[(Value.int .i64 (S.xlo)), (Value.int .i64 (S.xhi)), (Value.int .i64 (S.ylo)), (Value.int .i64 (S.yhi)), .slice A S.cs.length ca, (Value.int .i64 (S.wrong))] 26)).alloc (.cells #[(Value.int .i64 (way))] 3)) w.heap.size 26 #[(Value.int .i64 (S.xlo)), (Value.int .i64 (S.xhi)), (Value.int .i64 (S.ylo)), (Value.int .i64 (S.yhi)), .slice A S.cs.length ca, (Value.int .i64 (S.wrong))] := (Blk.new _ _ _).alloc _
  have c3 : Blk ((w.alloc (.cells #[(Value.int .i64 (S.xlo)), (Value.int .i64 (S.xhi)), (Value.int .i64 (S.ylo)), (Value.int .i64 (S.yhi)), .slice A S.cs.length ca, (Value.int .i64 (S.wrong))] 26)).alloc (.cells #[(Value.int .i64 (way))] 3)) (w.heap.size + 1) 3 #[(Value.int .i64 (way))] := Blk.new_at (by simp)
  have hb0 : Below w.heap.size w ((w.alloc (.cells #[(Value.int .i64 (S.xlo)), (Value.int .i64 (S.xhi)), (Value.int .i64 (S.ylo)), (Value.int .i64 (S.yhi)), .slice A S.cs.length ca, (Value.int .i64 (S.wrong))] 26)).alloc (.cells #[(Value.int .i64 (way))] 3)) := by (repeat (first | with_reducible exact Below.refl _ _ | with_reducible apply bl_alloc | with_reducible apply bl_drew | with_reducible apply bl_after | (with_reducible refine bl_call ?_ (by assumption))))
  (have la := c2.lt); (have ya0 := c2.cell 0); (have ya1 := c2.cell 1); (have ya2 := c2.cell 2); (have ya3 := c2.cell 3); (have ya4 := c2.cell 4); (have ya5 := c2.cell 5); simp only [List.getElem?_toArray, List.getElem?_cons_zero, List.getElem?_cons_succ] at ya0 ya1 ya2 ya3 ya4 ya5
  (have lb := c3.lt); (have yb0 := c3.cell 0); simp only [List.getElem?_toArray, List.getElem?_cons_zero] at yb0
  have hS := sht_ok (opS_zero h0).1
  have h0' := Lib.hid h0
  have hL := cts_low ha
  have hlen := trs_bd hS
  have hmk := @run_makeMap Try.prog
  rw [h0] at HOP
  replace HOP := Lib.hid HOP
  clear h0
  refine (callsIn_wide (n := 0)).1 ?_; refine callsIn_of_wp_marks Try.func33 rfl trivial ?_ rfl; simp only [Try.ntmps33, List.size_toArray, List.length_cons, List.length_nil, Nat.reduceAdd, Nat.reduceSub, Array.replicate_succ, Array.replicate_zero, List.push_toArray, List.append_toArray, List.nil_append, List.cons_append]
  gi_upto_region 1 with fail
  refine wpIn_region_CN (fun w' => ∃ z : After ((w.alloc (.cells #[(Value.int .i64 (S.xlo)), (Value.int .i64 (S.xhi)), (Value.int .i64 (S.ylo)), (Value.int .i64 (S.yhi)), .slice A S.cs.length ca, (Value.int .i64 (S.wrong))] 26)).alloc (.cells #[(Value.int .i64 (way))] 3)), w' = z.val) (by kernel_rfl) (by kernel_rfl) ?_
  (change wpAnyC _ _ _ _ _ _ _ (World.drew ((w.alloc (.cells #[(Value.int .i64 (S.xlo)), (Value.int .i64 (S.xhi)), (Value.int .i64 (S.ylo)), (Value.int .i64 (S.yhi)), .slice A S.cs.length ca, (Value.int .i64 (S.wrong))] 26)).alloc (.cells #[(Value.int .i64 (way))] 3))); (have hd0 : Below (((w.alloc (.cells #[(Value.int .i64 (S.xlo)), (Value.int .i64 (S.xhi)), (Value.int .i64 (S.ylo)), (Value.int .i64 (S.yhi)), .slice A S.cs.length ca, (Value.int .i64 (S.wrong))] 26)).alloc (.cells #[(Value.int .i64 (way))] 3))).heap.size ((w.alloc (.cells #[(Value.int .i64 (S.xlo)), (Value.int .i64 (S.xhi)), (Value.int .i64 (S.ylo)), (Value.int .i64 (S.yhi)), .slice A S.cs.length ca, (Value.int .i64 (S.wrong))] 26)).alloc (.cells #[(Value.int .i64 (way))] 3)) (((w.alloc (.cells #[(Value.int .i64 (S.xlo)), (Value.int .i64 (S.xhi)), (Value.int .i64 (S.ylo)), (Value.int .i64 (S.yhi)), .slice A S.cs.length ca, (Value.int .i64 (S.wrong))] 26)).alloc (.cells #[(Value.int .i64 (way))] 3))).drew := bl_drew (Below.refl _ _)); refine wpAnyC_take (i := 0) (v := ?v0u) rfl (by kernel_rfl) (by kernel_rfl) (by kernel_rfl) ?q0u rfl ?y0u ?r0u; (case q0u => exact fun _ _ _ h => h); (case y0u => ((rintro _ ⟨z, rfl⟩); (go_simp); (try with_reducible rfl))); simp only [Act.put, List.getElem_toArray, List.getElem_cons_succ, List.getElem_cons_zero, List.setIfInBounds_toArray, List.set_cons_succ, List.set_cons_zero]; refine wpAnyC_take (i := 1) (v := ?v1u) rfl (by kernel_rfl) (by kernel_rfl) (by kernel_rfl) ?q1u rfl ?y1u ?r1u; (case q1u => exact fun _ _ _ h => h); (case y1u => ((rintro _ ⟨z, rfl⟩); (go_simp); (try with_reducible rfl))); simp only [Act.put, List.getElem_toArray, List.getElem_cons_succ, List.getElem_cons_zero, List.setIfInBounds_toArray, List.set_cons_succ, List.set_cons_zero]; refine wpAnyC_one (i := 2) (by kernel_rfl) rfl ⟨⟨_, hd0⟩, rfl⟩ rfl (fun K hK => ?_); go_simp; go_at_call 68; (with_reducible refine Calls.mono (isWay_any _ _) ?_); rintro e w' ⟨rfl, rfl⟩; refine hK _ _ ?_; clear hK K; refine wpAnyC_one (i := 3) (by kernel_rfl) rfl ⟨⟨_, hd0⟩, rfl⟩ rfl (fun K hK => ?_); go_simp; go_at_call 51; (with_reducible refine Calls.mono (HOP.out _ (bl_drew hb0)) ?_); rintro e w1 ⟨⟨p, rfl, hO⟩, hb1⟩; refine hK _ _ ?_; clear hK K; (have hd1 := hd0.trans (hb1.mono hd0.size)); refine wpAnyC_take (i := 4) (v := ?v4u) rfl (by kernel_rfl) (by kernel_rfl) (by kernel_rfl) ?q4u rfl ?y4u ?r4u; (case q4u => exact fun _ _ _ h => h); (case y4u => ((rintro _ ⟨z, rfl⟩); (go_simp); (try with_reducible rfl))); simp only [Act.put, List.getElem_toArray, List.getElem_cons_succ, List.getElem_cons_zero, List.setIfInBounds_toArray, List.set_cons_succ, List.set_cons_zero]; refine wpAnyC_take (i := 5) (v := ?v5u) rfl (by kernel_rfl) (by kernel_rfl) (by kernel_rfl) ?q5u rfl ?y5u ?r5u; (case q5u => exact fun _ _ _ h => h); (case y5u => ((rintro _ ⟨z, rfl⟩); (go_simp); (try with_reducible rfl))); simp only [Act.put, List.getElem_toArray, List.getElem_cons_succ, List.getElem_cons_zero, List.setIfInBounds_toArray, List.set_cons_succ, List.set_cons_zero]; refine wpAnyC_take (i := 6) (v := ?v6u) rfl (by kernel_rfl) (by kernel_rfl) (by kernel_rfl) ?q6u rfl ?y6u ?r6u; (case q6u => exact fun _ _ _ h => h); (case y6u => ((rintro _ ⟨z, rfl⟩); (go_simp); (try with_reducible rfl))); simp only [Act.put, List.getElem_toArray, List.getElem_cons_succ, List.getElem_cons_zero, List.setIfInBounds_toArray, List.set_cons_succ, List.set_cons_zero]; refine wpAnyC_take (i := 7) (v := ?v7u) rfl (by kernel_rfl) (by kernel_rfl) (by kernel_rfl) ?q7u rfl ?y7u ?r7u; (case q7u => exact fun _ _ _ h => h); (case y7u => ((rintro _ ⟨z, rfl⟩); (go_simp); (try with_reducible rfl))); simp only [Act.put, List.getElem_toArray, List.getElem_cons_succ, List.getElem_cons_zero, List.setIfInBounds_toArray, List.set_cons_succ, List.set_cons_zero]; refine wpAnyC_take (i := 8) (v := ?v8u) rfl (by kernel_rfl) (by kernel_rfl) (by kernel_rfl) ?q8u rfl ?y8u ?r8u; (case q8u => exact fun _ _ _ h => h); (case y8u => ((rintro _ ⟨z, rfl⟩); (go_simp); (try with_reducible rfl))); simp only [Act.put, List.getElem_toArray, List.getElem_cons_succ, List.getElem_cons_zero, List.setIfInBounds_toArray, List.set_cons_succ, List.set_cons_zero])
  refine wpAnyC_doneN (by kernel_rfl) ⟨⟨_, hd1⟩, rfl⟩ ?_ _
  obtain ⟨g, rfl, cK⟩ := hO.ok h0'.out
  replace c3 := (c3.drew_).below hb1
  have hl3 := c3.lt
  have hbV := bl_call (bl_drew hb0) hb1
  clear hO HOP hd0 hd1 hb1 la ya0 ya1 ya2 ya3 ya4 ya5 lb yb0 c2 hb0
  gi_wp2
  have c8 : Blk ((w1.alloc (.map #[] 0)).alloc (.cells #[.map (some w1.heap.size)] 111)) (w1.heap.size + 1) 111 #[.map (some w1.heap.size)] := Blk.new_at (by simp)
  have hM0 : OwnM ((w1.alloc (.map #[] 0)).alloc (.cells #[.map (some w1.heap.size)] 111)) w1.heap.size 0 (.map []) := (World.ownsMap_made (H := Unit) w1 Try.prog 3 (plainElem Try.prog 3)).alloc (.cells #[.map (some w1.heap.size)] 111)
  have hbW := bl_alloc (o := .cells #[.map (some w1.heap.size)] 111) (bl_alloc (o := .map #[] 0) hbV)
  replace c3 := (c3.alloc (.map #[] 0)).alloc (.cells #[.map (some w1.heap.size)] 111)
  replace cK : ShKeep g A ca S ((w1.alloc (.map #[] 0)).alloc (.cells #[.map (some w1.heap.size)] 111)) := cK.below (by (repeat (first | with_reducible exact Below.refl _ _ | with_reducible apply bl_alloc | with_reducible apply bl_drew | with_reducible apply bl_after | (with_reducible refine bl_call ?_ (by assumption)))))
  have hg3 : w.heap.size + 1 ≠ w1.heap.size := by omega
  have hgr : w.heap.size ≤ w1.heap.size := hbV.size
  have hg8 : w.heap.size ≤ w1.heap.size + 1 := by omega
  have hrB : w1.heap.size < ((w1.alloc (.map #[] 0)).alloc (.cells #[.map (some w1.heap.size)] 111)).heap.size := by simp; omega
  have d8r : w1.heap.size + 1 ≠ w1.heap.size := by omega
  generalize (w1.alloc (.map #[] 0)).alloc (.cells #[.map (some w1.heap.size)] 111) = W1 at *
  generalize hg8q : w1.heap.size + 1 = g8 at *
  generalize hrq : w1.heap.size = r at *
  refine range_g (gf := 60) (pre := #[.pointer (some ⟨g, 0, none⟩)]) (lb := #[]) rfl (enters_of Try.func60 (by kernel_rfl) rfl) (truths_iter4 g A ca S hS) (fun x args W h => by rw [show args = _ from h]; rfl)
    (fun k W => FcAt S way r k W ∧ Blk W (w.heap.size + 1) 3 #[(Value.int .i64 (way))] ∧ Blk W g8 111 #[.map (some r)] ∧ ShKeep g A ca S W ∧ Below w.heap.size w W)
    (fun _ _ => False)
    (fun k W W' h hs => ⟨by obtain ⟨D, h1, h2⟩ := h.1; exact ⟨D, h1.step hs hrB, h2⟩, hs.blk h.2.1, hs.blk h.2.2.1, h.2.2.2.1.step hs, hs.below h.2.2.2.2 hbW.size⟩)
    (fun _ _ _ h _ => h)
    (fun k W h => h.2.2.2.1)
    ⟨⟨.map [], hM0, fun x => by simp [fcTo, Maps.has_eq]⟩, c3, c8, cK, hbW⟩ ?round ?done (fun _ _ _ _ h _ => h.elim)
  case round =>
    rintro lp k x args W hx hA hle ⟨r0, hr⟩ ⟨hL2, e3, e8, eK, hbk⟩
    obtain rfl : args = #[(Value.agg #[.int .i64 x.1, .int .i64 x.2])] := hA
    gi_wp2
    refine ⟨by (repeat (first | with_reducible exact KeepsFrom.refl _ _ | with_reducible apply kf_alloc | with_reducible apply kf_set | with_reducible apply kf_drew | with_reducible apply kf_after | (with_reducible refine kf_call ?_ (by assumption)))), by (repeat (first | with_reducible exact CellsFrom.refl _ _ | with_reducible apply cf_alloc | with_reducible apply cf_drew | with_reducible apply cf_after | (with_reducible refine cf_call ?_ (by assumption)) | (with_reducible refine cf_set (by simp; omega) ?_))), fun r1 r2 hr1 => ?_⟩
    have st := Step.put (o' := .loop r2) hr1 rfl hle
    have hbA : Below W.heap.size W (W.alloc (.cells #[(Value.int .i64 (x.1)), (Value.int .i64 (x.2))] 89)) := by (repeat (first | with_reducible exact Below.refl _ _ | with_reducible apply bl_alloc | with_reducible apply bl_drew | with_reducible apply bl_after | (with_reducible refine bl_call ?_ (by assumption))))
    obtain ⟨D, hM, hD⟩ := hL2
    have e9 := st.blk (Blk.new W 89 #[(Value.int .i64 (x.1)), (Value.int .i64 (x.2))])
    replace hM := (hM.below hbA).step st hrB
    replace e3 := st.blk (e3.below hbA)
    replace e8 := st.blk (e8.below hbA)
    replace eK := (eK.below hbA).step st
    replace hbk := st.below (bl_call hbk hbA) hbW.size
    have hxt : x ∈ trs S := List.mem_of_getElem? hx
    have hkl : k < (trs S).length := (List.getElem?_eq_some_iff.1 hx).1
    have hSs := Lib.hid (fcTo_succ (way := way) hx)
    have hwf := fac_wf hS hxt way
    generalize (W.alloc (.cells #[(Value.int .i64 (x.1)), (Value.int .i64 (x.2))] 89)).putObj lp (.loop r2) = W2 at *
    generalize W.heap.size = g9 at *
    have hof := Lib.hid fun (V : World) => of_any x way V
    have hkey := Maps.keyOf_int_mk (P := Try.prog) Try.underlying3 hwf
    obtain ⟨c, _, hc1, hc2⟩ := World.ownsMap.lookup_int hM (Maps.int_keyed Try.underlying3) und_map Try.underlying3 (by kernel_rfl) hkey
    have hlk : ∀ z : After W2, (Instr.lookup 111 (.map (some r)) (Value.int .i64 (fac x way)) false).run Try.prog z.val = .ok (Value.int .i64 (c)) z.val := fun z => by
      obtain ⟨c', h1, h2, _⟩ := World.ownsMap.lookup_int (hM.below z.ok) (Maps.int_keyed Try.underlying3) und_map Try.underlying3 (by kernel_rfl) hkey
      rw [hc1] at h2
      cases h2
      exact h1
    have hgr2 : g ≠ r := by
      intro e
      have h1 := eK.blk
      rw [e] at h1
      obtain ⟨es, clock, hb0, -, -⟩ := hM
      have h := h1.symm.trans hb0
      cases h
    have hAr : CtsLow A S r := fun a e hn => Nat.lt_of_lt_of_le (hL a e hn) hgr
    clear st hr1 hr hbA
    (have la := e3.lt); (have ya0 := e3.cell 0); simp only [List.getElem?_toArray, List.getElem?_cons_zero] at ya0
    (have lb := e8.lt); (have yb0 := e8.cell 0); simp only [List.getElem?_toArray, List.getElem?_cons_zero] at yb0
    (have ld := e9.lt); (have yd0 := e9.cell 0); (have yd1 := e9.cell 1); simp only [List.getElem?_toArray, List.getElem?_cons_zero, List.getElem?_cons_succ] at yd0 yd1
    gi_wp2
    (first | refine wpIn_tail_w 6 (by kernel_rfl) (by kernel_rfl) (by kernel_rfl) ?_ | refine wpIn_tail_r 6 (by kernel_rfl) (by kernel_rfl) (by kernel_rfl) ?_); simp only [List.take_succ_cons, List.take_zero, List.drop_succ_cons, List.drop_zero]; (repeat (go_big_quiet_step (((go_at_call 74; with_reducible exact calls_after (hof.out _)))))); refine wpQuiet_nil ?_; rintro _ ⟨z, rfl⟩; (first | ((with_reducible apply kp_in_after (z := z)); (with_reducible assumption); rintro ⟨hk, hc, hf, hzc, hzf⟩) | ((with_reducible refine kp_in_after0 z ?_); rintro ⟨hk, hc, hf, hzc, hzf⟩))
    obtain ⟨W5, hrun, hM5, hg5⟩ := World.ownsMap.update (hM.below z.ok) (Maps.int_keyed Try.underlying3) und_map (Nat.lt_of_lt_of_le (show k < 16777217 by omega) (by decide)) hkey (plainElem_int (a := wrap64 (c + 1)) Try.underlying3 (wf64 (c + 1)))
    have hfin : Hid (∀ x', Maps.has (D.put (.int .i64 (fac x way)) (.lit (.int .i64 (wrap64 (c + 1))))) (.int .i64 x') = decide (x' ∈ fcTo S way (k + 1))) := Lib.hid fun x' => by
      rw [hSs.out]
      by_cases hxx : x' = fac x way
      · subst hxx
        rw [Maps.has_put_same (World.ownsMap.isMap hM) (show WideAt.IsKeyLit (.int .i64 (fac x way)) from trivial)]
        simp
      · rw [Maps.has_put_other (by intro h; cases h; exact hxx rfl), hD x']
        simp [hxx]
    have HM5 := Lib.hid hM5
    have e3' := blk_grown (e3.below z.ok) hg5 hg3
    have e8' := blk_grown (e8.below z.ok) hg5 d8r
    have eK' := (eK.below z.ok).grown hg5 hgr2 hAr
    have hb5 : Below w.heap.size w W5 := (bl_after z hbk).grown hg5 (bl_after z hbk).size (fun j hj => by cases hj; exact hgr)
    have hk5 : KeepsFrom W1.heap.size W2 W5 := kf_grownM (kf_after z (KeepsFrom.refl _ _)) hg5 hrB
    have hc5 : CellsFrom W1.heap.size W2 W5 := cf_grown (cf_after z (CellsFrom.refl _ _)) hg5 hrB
    clear hM5 hg5 hD hM hlk hkey
    gi_wp2
    exact ⟨hk5, hc5, ⟨_, HM5.out, hfin.out⟩, e3', e8', eK', hb5⟩
  case done =>
    rintro Dd W hDd ⟨⟨D, hM, hD⟩, e3, e8, eK, hbk⟩ hK
    (have lb := e8.lt); (have yb0 := e8.cell 0); simp only [List.getElem?_toArray, List.getElem?_cons_zero] at yb0
    have hsl := World.ownsMap.size_le hM
    have hmax : Maps.size D ≤ maxLen := Nat.le_trans (show Maps.size D ≤ 16777216 by omega) (by decide)
    have hS2 := Lib.hid (sorted_any r (trs S).length D (plainElem Try.prog 3) W hM hmax (by omega))
    have hKS := Lib.hid fun (ss : List Int) (h : ss.Perm (intKeys D)) => keys_srt hM hD h
    clear hM hD hmax
    gi_wp2_with (first | ((gi_at_call 76); (with_reducible refine CallsIn.mono (callsIn_wide.2 (keys_any _ _)) ?_); rintro e w' ⟨rfl, rfl⟩) | ((gi_at_call 75); (with_reducible refine CallsIn.mono (callsIn_wide.2 hS2.out) ?_); rintro e w5 ⟨v, ss, rfl, hpm, hrow, hnil, hb5⟩))
    have hK2 : (W.alloc (.cells #[.map (some r)] 111)).heap[Dd]? = some (.deferred (some [])) := (Below.heap_alloc _ _ Dd (heap_lt hK)).trans hK
    have hK5 : w5.heap[Dd]? = some (.deferred (some [])) := (hb5.block Dd (heap_lt hK2)).trans hK2
    have hbw5 : Below w.heap.size w w5 := bl_call (bl_alloc hbk) hb5
    have hs := hKS.out ss hpm
    have hl : (fcS S way).length = ss.length := by
      unfold fcS fcTo
      have h9 := hs
      unfold fcTo at h9
      rw [← h9, List.length_mergeSort]
    have hrow2 : w5.ownsRow (W.alloc (.cells #[.map (some r)] 111)).heap.size 3 1 v (fcS S way).length (intsV (fcS S way)) := by
      rw [hl]
      have h1 := hrow
      rw [hs] at h1
      exact h1
    obtain ⟨A5, ca5, rfl, hN5⟩ := RowI.parts hrow2
    have st := Step.put (B := W1.heap.size) (o' := .deferred none) hK5 rfl hDd
    refine ⟨by simp, .inl ⟨_, _, rfl, run_takeDeferred hK5, ?_⟩⟩
    exact ⟨.tuple #[.slice A5 (fcS S way).length ca5, (Value.int .i64 (0))], by simp [results, Try.results33, go_sem], ⟨⟨_, _, rfl, hN5.step st⟩, bl_put hbw5 hK5 (by have := hbW.size; omega)⟩⟩
theorem Factors_any (A : Option Addr) (ca : Nat) (S : Sht) (way : Int) (w : World) (ha : Cts w A S.cs) :
    Calls Try.prog 33 #[(Value.agg #[(Value.int .i64 (S.xlo)), (Value.int .i64 (S.xhi)), (Value.int .i64 (S.ylo)), (Value.int .i64 (S.yhi)), .slice A S.cs.length ca, (Value.int .i64 (S.wrong))]), (Value.int .i64 (way))] w fun e w' => (∃ A' ca', e = .returned (.tuple #[.slice A' (fcV S way).length ca', (Value.int .i64 (opS S (wayB way)))]) ∧ Ints w' A' (fcV S way)) ∧ Below w.heap.size w w' := by
  by_cases h : opS S (wayB way) = 0
  · rw [fcV, if_pos h, h]
    exact Factors_ok A ca S way w ha h
  · rw [fcV, if_neg h]
    exact (Factors_no A ca S way w ha h).mono fun e w' ⟨h1, h2⟩ => ⟨⟨none, 0, h1, .inl rfl⟩, h2⟩
end Go.Proofs.Ytegdnbceiopklaa
