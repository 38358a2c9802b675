/- The functions Blamed and Sure of discord. -/
import Derived.Test.YthijegacjboclaaGreatBth
namespace Go.Proofs.YthijegacjboclaaGreat
open Go.RowKit Go.Maps
attribute [local go_sem] After.cell After.frozen AfterM.cell AfterM.frozen

/-- The faults of the first stories of a list, put together. -/
def foCS (y : Nat × Nat × Int) (L : List (Nat × Nat × Int)) (i : Nat) : Nat := ((L.take i).map (·.1)).foldl (fun a b => a &&& b) y.1
def foWS (y : Nat × Nat × Int) (L : List (Nat × Nat × Int)) (i : Nat) : Nat := ((L.take i).map (·.2.1)).foldl (fun a b => a &&& b) y.2.1
theorem foCS_succ (y : Nat × Nat × Int) (L : List (Nat × Nat × Int)) {i : Nat} (h : i < L.length) : foCS y L (i + 1) = foCS y L i &&& L[i].1 := by
  unfold foCS
  rw [List.take_add_one, List.getElem?_eq_getElem h, List.map_append, List.foldl_append]
  rfl
theorem foWS_succ (y : Nat × Nat × Int) (L : List (Nat × Nat × Int)) {i : Nat} (h : i < L.length) : foWS y L (i + 1) = foWS y L i &&& L[i].2.1 := by
  unfold foWS
  rw [List.take_add_one, List.getElem?_eq_getElem h, List.map_append, List.foldl_append]
  rfl
theorem foS_lt (y : Nat × Nat × Int) (L : List (Nat × Nat × Int)) (hy : y.1 < 256 ∧ y.2.1 < 256) (hL : ∀ k ∈ L, k.1 < 256 ∧ k.2.1 < 256) (i : Nat) : foCS y L i < 256 ∧ foWS y L i < 256 := by
  unfold foCS foWS
  exact ⟨foldand_lt _ _ hy.1, foldand_lt _ _ hy.2⟩
set_option maxHeartbeats 400000 in
theorem joinS_any (a b : Nat) (ha : a < 256) (hb : b < 256) (w : World) : Calls Tryz.prog 52 #[.int .u64 (a : Int), .int .u64 (b : Int)] w fun e w' => e = .returned (.int .u64 ((a &&& b : Nat) : Int)) ∧ Below w.heap.size w w' := by
  have h := and_u64 ha hb
  go_enter Tryz.func52, Tryz.ntmps52
  go_wp2
  go_ret
  refine ⟨?_, by (repeat (first | with_reducible exact Below.refl _ _ | with_reducible apply bl_alloc | with_reducible apply bl_drew | with_reducible apply bl_after | (with_reducible refine bl_call ?_ (by assumption))))⟩
  rw [← h]
  rfl
section
variable (A B C : Option Addr) (ca cb cc : Nat) (D : Dsp) (w : World) (ha : Pts w A D.cs) (hb : Ints w B D.offs) (hc : Wks w C D.wks)
include ha hb hc
set_option maxRecDepth 100000 in
set_option maxHeartbeats 4000000 in
theorem bothS_err (er : Int) (he : (dspB D = false ∧ er = 80) ∨ (dspB D = true ∧ (∀ k, ¬ isK D k) ∧ er = 3)) :
    Calls Tryz.prog 50 #[(Value.agg #[.slice A D.cs.length ca, .slice B D.offs.length cb, (Value.int .i64 (D.unit)), (Value.int .i64 (D.wh.full)), (Value.int .i64 (D.wh.read)), (Value.int .i64 (D.wh.slip)), (Value.int .i64 (D.wh.skew)), (Value.int .i64 (D.wh.circle)), (Value.int .i64 (D.wh.glo)), (Value.int .i64 (D.wh.ghi)), (Value.int .i64 (D.wh.wrong)), .slice C D.wks.length cc]), .func (.func 52) #[] #[]] w fun e w' => e = .returned (.tuple #[.slice none 0 0, .slice none 0 0, (Value.int .i64 (er))]) ∧ Below w.heap.size w w' := by
  have c0 : Blk (w.alloc (.cells #[.slice A D.cs.length ca, .slice B D.offs.length cb, (Value.int .i64 (D.unit)), (Value.int .i64 (D.wh.full)), (Value.int .i64 (D.wh.read)), (Value.int .i64 (D.wh.slip)), (Value.int .i64 (D.wh.skew)), (Value.int .i64 (D.wh.circle)), (Value.int .i64 (D.wh.glo)), (Value.int .i64 (D.wh.ghi)), (Value.int .i64 (D.wh.wrong)), .slice C D.wks.length cc] 30)) w.heap.size 30 #[.slice A D.cs.length ca, .slice B D.offs.length cb, (Value.int .i64 (D.unit)), (Value.int .i64 (D.wh.full)), (Value.int .i64 (D.wh.read)), (Value.int .i64 (D.wh.slip)), (Value.int .i64 (D.wh.skew)), (Value.int .i64 (D.wh.circle)), (Value.int .i64 (D.wh.glo)), (Value.int .i64 (D.wh.ghi)), (Value.int .i64 (D.wh.wrong)), .slice C D.wks.length cc] := Blk.new _ _ _
  have hb0 : Below w.heap.size w (w.alloc (.cells #[.slice A D.cs.length ca, .slice B D.offs.length cb, (Value.int .i64 (D.unit)), (Value.int .i64 (D.wh.full)), (Value.int .i64 (D.wh.read)), (Value.int .i64 (D.wh.slip)), (Value.int .i64 (D.wh.skew)), (Value.int .i64 (D.wh.circle)), (Value.int .i64 (D.wh.glo)), (Value.int .i64 (D.wh.ghi)), (Value.int .i64 (D.wh.wrong)), .slice C D.wks.length cc] 30)) := by (repeat (first | with_reducible exact Below.refl _ _ | with_reducible apply bl_alloc | with_reducible apply bl_drew | with_reducible apply bl_after | (with_reducible refine bl_call ?_ (by assumption))))
  have hO : ∀ W : World, Below w.heap.size w W → Calls Tryz.prog 38 #[(Value.agg #[.slice A D.cs.length ca, .slice B D.offs.length cb, (Value.int .i64 (D.unit)), (Value.int .i64 (D.wh.full)), (Value.int .i64 (D.wh.read)), (Value.int .i64 (D.wh.slip)), (Value.int .i64 (D.wh.skew)), (Value.int .i64 (D.wh.circle)), (Value.int .i64 (D.wh.glo)), (Value.int .i64 (D.wh.ghi)), (Value.int .i64 (D.wh.wrong)), .slice C D.wks.length cc]), .bool true] W fun e w' => e = .returned (.tuple #[.pointer none, (Value.int .i64 (er))]) ∧ Below W.heap.size W w' := fun W h => by
    rcases he with ⟨h1, rfl⟩ | ⟨h1, h2, rfl⟩
    · exact open_bad A B C ca cb cc D W (ha.below h) (hb.below h) (hc.below h) true h1
    · exact open_none A B C ca cb cc D W (ha.below h) (hb.below h) (hc.below h) h1 h2
  have hne : (er != 0) = true := by rcases he with ⟨_, rfl⟩ | ⟨_, _, rfl⟩ <;> rfl
  replace hO := Lib.hid hO
  (have la := c0.lt); (have ya0 := c0.cell 0); (have ya1 := c0.cell 1); (have ya2 := c0.cell 2); (have ya3 := c0.cell 3); (have ya4 := c0.cell 4); (have ya5 := c0.cell 5); (have ya6 := c0.cell 6); (have ya7 := c0.cell 7); (have ya8 := c0.cell 8); (have ya9 := c0.cell 9); (have ya10 := c0.cell 10); (have ya11 := c0.cell 11); simp only [List.getElem?_toArray, List.getElem?_cons_zero, List.getElem?_cons_succ] at ya0 ya1 ya2 ya3 ya4 ya5 ya6 ya7 ya8 ya9 ya10 ya11
  clear ha hb hc he
  go_enter Tryz.func50, Tryz.ntmps50
  go_wp2_with ((go_at_call 38); (with_reducible refine Calls.mono (hO.out _ hb0) ?_); rintro e wn ⟨rfl, hbn⟩; first | ((with_reducible apply kp_in_step (hb := hbn)); (with_reducible assumption); rintro ⟨hk, hc, hf, hzc, hzf⟩) | ((with_reducible refine kp_in_first hbn ?_); rintro ⟨hk, hc, hf, hzc, hzf⟩))
  go_ret3
  exact ⟨rfl, by (repeat (first | with_reducible exact Below.refl _ _ | with_reducible apply bl_alloc | with_reducible apply bl_drew | with_reducible apply bl_after | (with_reducible refine bl_call ?_ (by assumption))))⟩
set_option maxRecDepth 100000 in
set_option maxHeartbeats 8000000 in
theorem bothS_ok (hD : dspB D = true) (hex : ∃ k, isK D k) :
    Calls Tryz.prog 50 #[(Value.agg #[.slice A D.cs.length ca, .slice B D.offs.length cb, (Value.int .i64 (D.unit)), (Value.int .i64 (D.wh.full)), (Value.int .i64 (D.wh.read)), (Value.int .i64 (D.wh.slip)), (Value.int .i64 (D.wh.skew)), (Value.int .i64 (D.wh.circle)), (Value.int .i64 (D.wh.glo)), (Value.int .i64 (D.wh.ghi)), (Value.int .i64 (D.wh.wrong)), .slice C D.wks.length cc]), .func (.func 52) #[] #[]] w fun e w' => (∃ v1 v2, e = .returned (.tuple #[v1, v2, (Value.int .i64 (0))]) ∧ RowI w' w.heap.size v1 (natI ((List.range D.cs.length).filter (suC D))) ∧ RowI w' w.heap.size v2 (natI ((List.range D.wks.length).filter (suW D)))) ∧ Below w.heap.size w w' := by
  have hok := dsp_ok hD
  have c0 : Blk (w.alloc (.cells #[.slice A D.cs.length ca, .slice B D.offs.length cb, (Value.int .i64 (D.unit)), (Value.int .i64 (D.wh.full)), (Value.int .i64 (D.wh.read)), (Value.int .i64 (D.wh.slip)), (Value.int .i64 (D.wh.skew)), (Value.int .i64 (D.wh.circle)), (Value.int .i64 (D.wh.glo)), (Value.int .i64 (D.wh.ghi)), (Value.int .i64 (D.wh.wrong)), .slice C D.wks.length cc] 30)) w.heap.size 30 #[.slice A D.cs.length ca, .slice B D.offs.length cb, (Value.int .i64 (D.unit)), (Value.int .i64 (D.wh.full)), (Value.int .i64 (D.wh.read)), (Value.int .i64 (D.wh.slip)), (Value.int .i64 (D.wh.skew)), (Value.int .i64 (D.wh.circle)), (Value.int .i64 (D.wh.glo)), (Value.int .i64 (D.wh.ghi)), (Value.int .i64 (D.wh.wrong)), .slice C D.wks.length cc] := Blk.new _ _ _
  have hb0 : Below w.heap.size w (w.alloc (.cells #[.slice A D.cs.length ca, .slice B D.offs.length cb, (Value.int .i64 (D.unit)), (Value.int .i64 (D.wh.full)), (Value.int .i64 (D.wh.read)), (Value.int .i64 (D.wh.slip)), (Value.int .i64 (D.wh.skew)), (Value.int .i64 (D.wh.circle)), (Value.int .i64 (D.wh.glo)), (Value.int .i64 (D.wh.ghi)), (Value.int .i64 (D.wh.wrong)), .slice C D.wks.length cc] 30)) := by (repeat (first | with_reducible exact Below.refl _ _ | with_reducible apply bl_alloc | with_reducible apply bl_drew | with_reducible apply bl_after | (with_reducible refine bl_call ?_ (by assumption))))
  (have la := c0.lt); (have ya0 := c0.cell 0); (have ya1 := c0.cell 1); (have ya2 := c0.cell 2); (have ya3 := c0.cell 3); (have ya4 := c0.cell 4); (have ya5 := c0.cell 5); (have ya6 := c0.cell 6); (have ya7 := c0.cell 7); (have ya8 := c0.cell 8); (have ya9 := c0.cell 9); (have ya10 := c0.cell 10); (have ya11 := c0.cell 11); simp only [List.getElem?_toArray, List.getElem?_cons_zero, List.getElem?_cons_succ] at ya0 ya1 ya2 ya3 ya4 ya5 ya6 ya7 ya8 ya9 ya10 ya11
  have hO := fun (W : World) (h : Below w.heap.size w W) => open_some A B C ca cb cc D W (ha.below h) (hb.below h) (hc.below h) hD hex
  replace hO := Lib.hid hO
  have HX := Lib.hid hex
  clear ha hb hc hex
  go_enter Tryz.func50, Tryz.ntmps50
  go_upto_region 4 with ((go_at_call 38); (with_reducible refine Calls.mono (hO.out _ hb0) ?_); rintro e w2 ⟨⟨gf, rfl, hf⟩, hb2⟩)
  have hFw := Lib.hid (fewest_any hok 47 (fun _ => true) _ gf w2 hf (enters_of Tryz.func47 (by kernel_rfl) rfl) (fun k W _ => every_any k W))
  have hbw2 := bl_call hb0 hb2
  clear la ya0 ya1 ya2 ya3 ya4 ya5 ya6 ya7 ya8 ya9 ya10 ya11 c0 hO hf hb2 hb0
  go_upto_region 5 with ((go_at_call 46); (with_reducible refine Calls.mono hFw.out ?_); rintro e w3 ⟨⟨v, L, rfl, hR, hL, hLl⟩, hb3⟩)
  have hbw3 := bl_call hbw2 hb3
  obtain ⟨y, L', hLe⟩ : ∃ y L', L = y :: L' := by
    cases L with
    | nil =>
      obtain ⟨k, hk⟩ := HX.out
      obtain ⟨j, hj⟩ := least_in (isK D) (fun _ => true) hk rfl
      have := (hL j).2 hj
      simp at this
    | cons y L' => exact ⟨y, L', rfl⟩
  have hy : y ∈ L := by rw [hLe]; exact List.mem_cons_self
  obtain ⟨g9, c9, rfl, lg, -, q0, q1, q2⟩ : ∃ g ca, v = .slice (some ⟨g, 0, none⟩) L.length ca ∧ g < w3.heap.size ∧ w2.heap.size ≤ g ∧ w3.cell? ⟨g, 0, none⟩ = some (.int .u64 (y.1 : Int)) ∧ w3.cell? ⟨g, 1, none⟩ = some (.int .u64 (y.2.1 : Int)) ∧ w3.cell? ⟨g, 2, none⟩ = some (Value.int .i64 (y.2.2)) := by subst hLe; exact hR.head
  have hlpos : 0 < L.length := by rw [hLe]; simp
  have hKL := Lib.hid (fun k (hk : k ∈ L) => isK_lt hok ((hL k).1 hk).1)
  have hy3 := hKL.out y hy
  have HL := Lib.hid (show ∀ k, k ∈ L ↔ minK D (fun _ => true) k from hL)
  have HR := Lib.hid hR
  have HY := Lib.hid hy
  clear hLe hR hL hb3 hbw2 hFw hy
  go_upto_region 6 with fail
  have c10 := Blk.new w3 73 #[.int .u64 (y.1 : Int), .int .u64 (y.2.1 : Int)]
  have hb10 : Below w3.heap.size w3 (w3.alloc (.cells #[.int .u64 (y.1 : Int), .int .u64 (y.2.1 : Int)] 73)) := by (repeat (first | with_reducible exact Below.refl _ _ | with_reducible apply bl_alloc | with_reducible apply bl_drew | with_reducible apply bl_after | (with_reducible refine bl_call ?_ (by assumption))))
  clear q0 q1 q2
  go_wp2
  go_loopg [32] L.length (fun gh v wr => ∃ i : Nat, i ≤ L.length ∧ gh = L.length - i ∧ v = (Value.int .i64 ((i : Int))) ∧ Below w3.heap.size w3 wr ∧ Blk wr w3.heap.size 73 #[.int .u64 (foCS y L i : Int), .int .u64 (foWS y L i : Int)])
  case atStart => exact ⟨0, Nat.zero_le _, rfl, rfl, hb10, c10⟩
  case round =>
    clear hb10 c10
    obtain ⟨i, hi, rfl, rfl, hbr, c10⟩ := hrel
    by_cases hlt : i < L.length
    · obtain ⟨k0, k1, k2⟩ := (HR.out.below hbr).at_ hlt
      have hlg := Nat.lt_of_lt_of_le lg hbr.size
      have hfl := foS_lt y L ⟨hy3.1, hy3.2.1⟩ (fun k hk => ⟨(hKL.out k hk).1, (hKL.out k hk).2.1⟩) i
      have hk3 := hKL.out L[i] (List.getElem_mem hlt)
      have hjC := Lib.hid fun (W : World) => joinS_any (foCS y L i) L[i].1 hfl.1 hk3.1 W
      have hjW := Lib.hid fun (W : World) => joinS_any (foWS y L i) L[i].2.1 hfl.2 hk3.2.1 W
      have hsC := Lib.hid (foCS_succ y L hlt)
      have hsW := Lib.hid (foWS_succ y L hlt)
      have c10' := Lib.hid c10
      have f0 := c10.frozen 0
      have f1 := c10.frozen 1
      (have la := c10.lt); (have ya0 := c10.cell 0); (have ya1 := c10.cell 1); simp only [List.getElem?_toArray, List.getElem?_cons_zero, List.getElem?_cons_succ] at ya0 ya1
      clear hfl hk3 c10
      generalize L[i].1 = s0 at *
      generalize L[i].2.1 = s1 at *
      generalize L[i].2.2 = s2 at *
      go_upto_region 9 with fail
      refine wp_region_after_tail 15 (by kernel_rfl) (by kernel_rfl) ?_; simp only [List.take_succ_cons, List.take_zero, List.drop_succ_cons, List.drop_zero]; (repeat (go_big_quiet_step (((first | (go_at_call 52; with_reducible exact calls_after (hjC.out _)) | (go_at_call 52; with_reducible exact calls_after (hjW.out _))))))); refine wpQuiet_nil ?_; rintro _ ⟨z, rfl⟩; (first | ((with_reducible apply kp_in_after (z := z)); (with_reducible assumption); rintro ⟨hk, hc, hf, hzc, hzf⟩) | ((with_reducible refine kp_in_after0 z ?_); rintro ⟨hk, hc, hf, hzc, hzf⟩))
      have c10z := (c10'.out.alloc (.cells #[.int .u64 (s0 : Int), .int .u64 (s1 : Int), (Value.int .i64 (s2))] 75)).below z.ok
      have hbz : Below w3.heap.size w3 z.val := bl_after z (bl_alloc hbr)
      have g0 := c10z.frozen 0
      have g1 := c10z.frozen 1
      (have lb := c10z.lt); (have yb0 := c10z.cell 0); (have yb1 := c10z.cell 1); simp only [List.getElem?_toArray, List.getElem?_cons_zero, List.getElem?_cons_succ] at yb0 yb1
      go_wp2
      have c10f := (c10z.set_ 0 (.int .u64 ((foCS y L i &&& s0 : Nat) : Int))).set_ 1 (.int .u64 ((foWS y L i &&& s1 : Nat) : Int))
      have hbf := bl_setc8 (o := 1) (v := .int .u64 ((foWS y L i &&& s1 : Nat) : Int)) (bl_setc8 (o := 0) (v := .int .u64 ((foCS y L i &&& s0 : Nat) : Int)) hbz (Nat.le_refl w3.heap.size)) (Nat.le_refl w3.heap.size)
      go_roundg (L.length - (i + 1))
      case measure => omega
      case rel => exact ⟨i + 1, by omega, rfl, by go_num, hbf, by rw [hsC.out, hsW.out]; exact c10f⟩
    · obtain rfl : i = L.length := by omega
      have hfl := foS_lt y L ⟨hy3.1, hy3.2.1⟩ (fun k hk => ⟨(hKL.out k hk).1, (hKL.out k hk).2.1⟩) L.length
      have h1 := Lib.hid fun (W : World) => list_any (foCS y L L.length) hfl.1 W
      have h2 := Lib.hid fun (W : World) => list_any (foWS y L L.length) hfl.2 W
      (have la := c10.lt); (have ya0 := c10.cell 0); (have ya1 := c10.cell 1); simp only [List.getElem?_toArray, List.getElem?_cons_zero, List.getElem?_cons_succ] at ya0 ya1
      go_upto_region 11 with fail
      refine wp_region_CN (fun w' => ∃ z : After wr, w' = z.val) (by kernel_rfl) ?_
      change wpAnyC _ _ _ _ _ _ _ (World.drew wr)
      have hd0 : Below wr.heap.size wr wr.drew := bl_drew (Below.refl _ _)
      refine wpAnyC_take (i := 0) (v := ?v0c) rfl (by kernel_rfl) (by kernel_rfl) (by kernel_rfl) ?q0c rfl ?y0c ?r0c; (case q0c => exact fun _ _ _ h => h); (case y0c => ((rintro _ ⟨z, rfl⟩); (go_simp); (try with_reducible rfl))); simp only [Act.put, List.getElem_toArray, List.getElem_cons_succ, List.getElem_cons_zero, List.setIfInBounds_toArray, List.set_cons_succ, List.set_cons_zero]
      refine wpAnyC_take (i := 1) (v := ?v1c) rfl (by kernel_rfl) (by kernel_rfl) (by kernel_rfl) ?q1c rfl ?y1c ?r1c; (case q1c => exact fun _ _ _ h => h); (case y1c => ((rintro _ ⟨z, rfl⟩); (go_simp); (try with_reducible rfl))); simp only [Act.put, List.getElem_toArray, List.getElem_cons_succ, List.getElem_cons_zero, List.setIfInBounds_toArray, List.set_cons_succ, List.set_cons_zero]
      refine wpAnyC_take (i := 3) (v := ?v3c) rfl (by kernel_rfl) (by kernel_rfl) (by kernel_rfl) ?q3c rfl ?y3c ?r3c; (case q3c => exact fun _ _ _ h => h); (case y3c => ((rintro _ ⟨z, rfl⟩); (go_simp); (try with_reducible rfl))); simp only [Act.put, List.getElem_toArray, List.getElem_cons_succ, List.getElem_cons_zero, List.setIfInBounds_toArray, List.set_cons_succ, List.set_cons_zero]
      refine wpAnyC_take (i := 4) (v := ?v4c) rfl (by kernel_rfl) (by kernel_rfl) (by kernel_rfl) ?q4c rfl ?y4c ?r4c; (case q4c => exact fun _ _ _ h => h); (case y4c => ((rintro _ ⟨z, rfl⟩); (go_simp); (try with_reducible rfl))); simp only [Act.put, List.getElem_toArray, List.getElem_cons_succ, List.getElem_cons_zero, List.setIfInBounds_toArray, List.set_cons_succ, List.set_cons_zero]
      refine wpAnyC_one (i := 2) (by kernel_rfl) rfl ⟨⟨_, hd0⟩, rfl⟩ rfl (fun K hK => ?_)
      go_simp
      go_at_call 68
      (with_reducible refine Calls.mono (h1.out _) ?_)
      rintro e5 w5 ⟨⟨v5, rfl, hv5⟩, hb5⟩
      refine hK _ _ ?_
      clear hK K
      have hd5 := hd0.trans (hb5.mono hd0.size)
      refine wpAnyC_one (i := 5) (by kernel_rfl) rfl ⟨⟨_, hd5⟩, rfl⟩ rfl (fun K hK => ?_)
      go_simp
      go_at_call 68
      (with_reducible refine Calls.mono (h2.out _) ?_)
      rintro e6 w6 ⟨⟨v6, rfl, hv6⟩, hb6⟩
      refine hK _ _ ?_
      clear hK K
      have hd6 := hd5.trans (hb6.mono hd5.size)
      refine wpAnyC_take (i := 6) (v := ?v6c) rfl (by kernel_rfl) (by kernel_rfl) (by kernel_rfl) ?q6c rfl ?y6c ?r6c; (case q6c => exact fun _ _ _ h => h); (case y6c => ((rintro _ ⟨z, rfl⟩); (go_simp); (try with_reducible rfl))); simp only [Act.put, List.getElem_toArray, List.getElem_cons_succ, List.getElem_cons_zero, List.setIfInBounds_toArray, List.set_cons_succ, List.set_cons_zero]
      refine wpAnyC_take (i := 7) (v := ?v7c) rfl (by kernel_rfl) (by kernel_rfl) (by kernel_rfl) ?q7c rfl ?y7c ?r7c; (case q7c => exact fun _ _ _ h => h); (case y7c => ((rintro _ ⟨z, rfl⟩); (go_simp); (try with_reducible rfl))); simp only [Act.put, List.getElem_toArray, List.getElem_cons_succ, List.getElem_cons_zero, List.setIfInBounds_toArray, List.set_cons_succ, List.set_cons_zero]
      refine wpAnyC_take (i := 8) (v := ?v8c) rfl (by kernel_rfl) (by kernel_rfl) (by kernel_rfl) ?q8c rfl ?y8c ?r8c; (case q8c => exact fun _ _ _ h => h); (case y8c => ((rintro _ ⟨z, rfl⟩); (go_simp); (try with_reducible rfl))); simp only [Act.put, List.getElem_toArray, List.getElem_cons_succ, List.getElem_cons_zero, List.setIfInBounds_toArray, List.set_cons_succ, List.set_cons_zero]
      refine wpAnyC_doneN (by kernel_rfl) ⟨⟨_, hd6⟩, rfl⟩ ?_ _
      have e1 : bitL (foCS y L L.length) = (List.range D.cs.length).filter (suC D) := by unfold foCS; rw [List.take_length]; exact su_cor hok HL.out HY.out
      have e2 : bitL (foWS y L L.length) = (List.range D.wks.length).filter (suW D) := by unfold foWS; rw [List.take_length]; exact su_wlk hok HL.out HY.out
      rw [e1] at hv5
      rw [e2] at hv6
      have hbase : w.heap.size ≤ wr.heap.size := by have := hbw3.size; have := hbr.size; omega
      have HV := Lib.hid (And.intro (rowI_mono (hv5.below hb6) (Nat.le_trans hbase hd0.size)) (rowI_mono hv6 (Nat.le_trans hbase hd5.size)))
      have hbF := bl_call (bl_call hbw3 hbr) hd6
      clear hv5 hv6 hb5 hb6 hd0 hd5 hd6 e1 e2 h1 h2 hfl la ya0 ya1
      go_wp2
      go_ret3
      exact ⟨⟨v5, v6, rfl, HV.out.1, HV.out.2⟩, hbF⟩
end
end Go.Proofs.YthijegacjboclaaGreat
namespace Go.Proofs.YthijegacjboclaaGreat
open Go.RowKit Go.Maps
attribute [local go_sem] After.cell After.frozen

theorem lsE_zero {D : Dsp} (hD : dspB D = true) (hex : ∃ k, isK D k) : lsE D (fwO D) = 0 := by
  unfold lsE
  rw [if_pos hD]
  cases h : fwO D with
  | some m => rfl
  | none =>
    have h1 := lst_ok (isT D) Tld.many
    have h2 : lst (isT D) Tld.many = none := h
    rw [h2] at h1
    obtain ⟨k, hk⟩ := hex
    exact absurd ((isT_iff (dsp_ok hD)).2 ⟨k, hk, rfl⟩) (h1 _)
noncomputable def bcL (D : Dsp) : List Nat := if lsE D (fwO D) = 0 then (List.range D.cs.length).filter (blC D) else []
noncomputable def bwL (D : Dsp) : List Nat := if lsE D (fwO D) = 0 then (List.range D.wks.length).filter (blW D) else []
noncomputable def scL (D : Dsp) : List Nat := if lsE D (fwO D) = 0 then (List.range D.cs.length).filter (suC D) else []
noncomputable def swL (D : Dsp) : List Nat := if lsE D (fwO D) = 0 then (List.range D.wks.length).filter (suW D) else []
section
variable (A B C : Option Addr) (ca cb cc : Nat) (D : Dsp) (w : World)
set_option maxRecDepth 100000 in
set_option maxHeartbeats 2000000 in
theorem Blamed_any8 (ha : Pts w A D.cs) (hb : Ints w B D.offs) (hc : Wks w C D.wks) : Calls Tryz.prog 22 #[(Value.agg #[.slice A D.cs.length ca, .slice B D.offs.length cb, (Value.int .i64 (D.unit)), (Value.int .i64 (D.wh.full)), (Value.int .i64 (D.wh.read)), (Value.int .i64 (D.wh.slip)), (Value.int .i64 (D.wh.skew)), (Value.int .i64 (D.wh.circle)), (Value.int .i64 (D.wh.glo)), (Value.int .i64 (D.wh.ghi)), (Value.int .i64 (D.wh.wrong)), .slice C D.wks.length cc])] w fun e w' => (∃ v1 v2, e = .returned (.tuple #[v1, v2, (Value.int .i64 (lsE D (fwO D)))]) ∧ RowI w' w.heap.size v1 (natI (bcL D)) ∧ RowI w' w.heap.size v2 (natI (bwL D))) ∧ Below w.heap.size w w' := by
  have hb0 : Below w.heap.size w (w.alloc (.cells #[.slice A D.cs.length ca, .slice B D.offs.length cb, (Value.int .i64 (D.unit)), (Value.int .i64 (D.wh.full)), (Value.int .i64 (D.wh.read)), (Value.int .i64 (D.wh.slip)), (Value.int .i64 (D.wh.skew)), (Value.int .i64 (D.wh.circle)), (Value.int .i64 (D.wh.glo)), (Value.int .i64 (D.wh.ghi)), (Value.int .i64 (D.wh.wrong)), .slice C D.wks.length cc] 30)) := by (repeat (first | with_reducible exact Below.refl _ _ | with_reducible apply bl_alloc | with_reducible apply bl_drew | with_reducible apply bl_after | (with_reducible refine bl_call ?_ (by assumption))))
  have c0 : Blk (w.alloc (.cells #[.slice A D.cs.length ca, .slice B D.offs.length cb, (Value.int .i64 (D.unit)), (Value.int .i64 (D.wh.full)), (Value.int .i64 (D.wh.read)), (Value.int .i64 (D.wh.slip)), (Value.int .i64 (D.wh.skew)), (Value.int .i64 (D.wh.circle)), (Value.int .i64 (D.wh.glo)), (Value.int .i64 (D.wh.ghi)), (Value.int .i64 (D.wh.wrong)), .slice C D.wks.length cc] 30)) w.heap.size 30 #[.slice A D.cs.length ca, .slice B D.offs.length cb, (Value.int .i64 (D.unit)), (Value.int .i64 (D.wh.full)), (Value.int .i64 (D.wh.read)), (Value.int .i64 (D.wh.slip)), (Value.int .i64 (D.wh.skew)), (Value.int .i64 (D.wh.circle)), (Value.int .i64 (D.wh.glo)), (Value.int .i64 (D.wh.ghi)), (Value.int .i64 (D.wh.wrong)), .slice C D.wks.length cc] := Blk.new _ _ _
  have key : Calls Tryz.prog 50 #[(Value.agg #[.slice A D.cs.length ca, .slice B D.offs.length cb, (Value.int .i64 (D.unit)), (Value.int .i64 (D.wh.full)), (Value.int .i64 (D.wh.read)), (Value.int .i64 (D.wh.slip)), (Value.int .i64 (D.wh.skew)), (Value.int .i64 (D.wh.circle)), (Value.int .i64 (D.wh.glo)), (Value.int .i64 (D.wh.ghi)), (Value.int .i64 (D.wh.wrong)), .slice C D.wks.length cc]), .func (.func 51) #[] #[]] (w.alloc (.cells #[.slice A D.cs.length ca, .slice B D.offs.length cb, (Value.int .i64 (D.unit)), (Value.int .i64 (D.wh.full)), (Value.int .i64 (D.wh.read)), (Value.int .i64 (D.wh.slip)), (Value.int .i64 (D.wh.skew)), (Value.int .i64 (D.wh.circle)), (Value.int .i64 (D.wh.glo)), (Value.int .i64 (D.wh.ghi)), (Value.int .i64 (D.wh.wrong)), .slice C D.wks.length cc] 30)) fun e w' => (∃ v1 v2, e = .returned (.tuple #[v1, v2, (Value.int .i64 (lsE D (fwO D)))]) ∧ RowI w' w.heap.size v1 (natI (bcL D)) ∧ RowI w' w.heap.size v2 (natI (bwL D))) ∧ Below (w.alloc (.cells #[.slice A D.cs.length ca, .slice B D.offs.length cb, (Value.int .i64 (D.unit)), (Value.int .i64 (D.wh.full)), (Value.int .i64 (D.wh.read)), (Value.int .i64 (D.wh.slip)), (Value.int .i64 (D.wh.skew)), (Value.int .i64 (D.wh.circle)), (Value.int .i64 (D.wh.glo)), (Value.int .i64 (D.wh.ghi)), (Value.int .i64 (D.wh.wrong)), .slice C D.wks.length cc] 30)).heap.size (w.alloc (.cells #[.slice A D.cs.length ca, .slice B D.offs.length cb, (Value.int .i64 (D.unit)), (Value.int .i64 (D.wh.full)), (Value.int .i64 (D.wh.read)), (Value.int .i64 (D.wh.slip)), (Value.int .i64 (D.wh.skew)), (Value.int .i64 (D.wh.circle)), (Value.int .i64 (D.wh.glo)), (Value.int .i64 (D.wh.ghi)), (Value.int .i64 (D.wh.wrong)), .slice C D.wks.length cc] 30)) w' := by
    by_cases hD : dspB D = true
    · by_cases hex : ∃ k, isK D k
      · have e0 := lsE_zero hD hex
        have e1 : bcL D = (List.range D.cs.length).filter (blC D) := if_pos e0
        have e2 : bwL D = (List.range D.wks.length).filter (blW D) := if_pos e0
        rw [e0, e1, e2]
        exact (bothB_ok A B C ca cb cc D _ (ha.below hb0) (hb.below hb0) (hc.below hb0) hD hex).mono fun e w' ⟨⟨v1, v2, he, h1, h2⟩, hbw⟩ => ⟨⟨v1, v2, he, rowI_mono h1 hb0.size, rowI_mono h2 hb0.size⟩, hbw⟩
      · have hno : ∀ k, ¬ isK D k := fun k hk => hex ⟨k, hk⟩
        have e0 : lsE D (fwO D) = 3 := by unfold lsE; rw [if_pos hD, fwO_none (dsp_ok hD) hno]
        have e1 : bcL D = [] := if_neg (by rw [e0]; decide)
        have e2 : bwL D = [] := if_neg (by rw [e0]; decide)
        rw [e0, e1, e2]
        exact (bothB_err A B C ca cb cc D _ (ha.below hb0) (hb.below hb0) (hc.below hb0) 3 (.inr ⟨hD, hno, rfl⟩)).mono fun e w' ⟨he, hbw⟩ => ⟨⟨_, _, he, rowI_nil _ _, rowI_nil _ _⟩, hbw⟩
    · have e0 : lsE D (fwO D) = 80 := by unfold lsE; rw [if_neg hD]
      have e1 : bcL D = [] := if_neg (by rw [e0]; decide)
      have e2 : bwL D = [] := if_neg (by rw [e0]; decide)
      rw [e0, e1, e2]
      exact (bothB_err A B C ca cb cc D _ (ha.below hb0) (hb.below hb0) (hc.below hb0) 80 (.inl ⟨by simpa using hD, rfl⟩)).mono fun e w' ⟨he, hbw⟩ => ⟨⟨_, _, he, rowI_nil _ _, rowI_nil _ _⟩, hbw⟩
  (have la := c0.lt); (have ya0 := c0.cell 0); (have ya1 := c0.cell 1); (have ya2 := c0.cell 2); (have ya3 := c0.cell 3); (have ya4 := c0.cell 4); (have ya5 := c0.cell 5); (have ya6 := c0.cell 6); (have ya7 := c0.cell 7); (have ya8 := c0.cell 8); (have ya9 := c0.cell 9); (have ya10 := c0.cell 10); (have ya11 := c0.cell 11); simp only [List.getElem?_toArray, List.getElem?_cons_zero, List.getElem?_cons_succ] at ya0 ya1 ya2 ya3 ya4 ya5 ya6 ya7 ya8 ya9 ya10 ya11
  replace key := Lib.hid key
  clear ha hb hc
  go_enter Tryz.func22, Tryz.ntmps22
  go_wp2_with ((go_at_call 50); (with_reducible refine Calls.mono key.out ?_); rintro e w2 ⟨⟨v1, v2, rfl, h1, h2⟩, hb2⟩)
  go_ret3
  exact ⟨⟨v1, v2, rfl, h1, h2⟩, bl_call hb0 hb2⟩
set_option maxRecDepth 100000 in
set_option maxHeartbeats 2000000 in
theorem Sure_any8 (ha : Pts w A D.cs) (hb : Ints w B D.offs) (hc : Wks w C D.wks) : Calls Tryz.prog 23 #[(Value.agg #[.slice A D.cs.length ca, .slice B D.offs.length cb, (Value.int .i64 (D.unit)), (Value.int .i64 (D.wh.full)), (Value.int .i64 (D.wh.read)), (Value.int .i64 (D.wh.slip)), (Value.int .i64 (D.wh.skew)), (Value.int .i64 (D.wh.circle)), (Value.int .i64 (D.wh.glo)), (Value.int .i64 (D.wh.ghi)), (Value.int .i64 (D.wh.wrong)), .slice C D.wks.length cc])] w fun e w' => (∃ v1 v2, e = .returned (.tuple #[v1, v2, (Value.int .i64 (lsE D (fwO D)))]) ∧ RowI w' w.heap.size v1 (natI (scL D)) ∧ RowI w' w.heap.size v2 (natI (swL D))) ∧ Below w.heap.size w w' := by
  have hb0 : Below w.heap.size w (w.alloc (.cells #[.slice A D.cs.length ca, .slice B D.offs.length cb, (Value.int .i64 (D.unit)), (Value.int .i64 (D.wh.full)), (Value.int .i64 (D.wh.read)), (Value.int .i64 (D.wh.slip)), (Value.int .i64 (D.wh.skew)), (Value.int .i64 (D.wh.circle)), (Value.int .i64 (D.wh.glo)), (Value.int .i64 (D.wh.ghi)), (Value.int .i64 (D.wh.wrong)), .slice C D.wks.length cc] 30)) := by (repeat (first | with_reducible exact Below.refl _ _ | with_reducible apply bl_alloc | with_reducible apply bl_drew | with_reducible apply bl_after | (with_reducible refine bl_call ?_ (by assumption))))
  have c0 : Blk (w.alloc (.cells #[.slice A D.cs.length ca, .slice B D.offs.length cb, (Value.int .i64 (D.unit)), (Value.int .i64 (D.wh.full)), (Value.int .i64 (D.wh.read)), (Value.int .i64 (D.wh.slip)), (Value.int .i64 (D.wh.skew)), (Value.int .i64 (D.wh.circle)), (Value.int .i64 (D.wh.glo)), (Value.int .i64 (D.wh.ghi)), (Value.int .i64 (D.wh.wrong)), .slice C D.wks.length cc] 30)) w.heap.size 30 #[.slice A D.cs.length ca, .slice B D.offs.length cb, (Value.int .i64 (D.unit)), (Value.int .i64 (D.wh.full)), (Value.int .i64 (D.wh.read)), (Value.int .i64 (D.wh.slip)), (Value.int .i64 (D.wh.skew)), (Value.int .i64 (D.wh.circle)), (Value.int .i64 (D.wh.glo)), (Value.int .i64 (D.wh.ghi)), (Value.int .i64 (D.wh.wrong)), .slice C D.wks.length cc] := Blk.new _ _ _
  have key : Calls Tryz.prog 50 #[(Value.agg #[.slice A D.cs.length ca, .slice B D.offs.length cb, (Value.int .i64 (D.unit)), (Value.int .i64 (D.wh.full)), (Value.int .i64 (D.wh.read)), (Value.int .i64 (D.wh.slip)), (Value.int .i64 (D.wh.skew)), (Value.int .i64 (D.wh.circle)), (Value.int .i64 (D.wh.glo)), (Value.int .i64 (D.wh.ghi)), (Value.int .i64 (D.wh.wrong)), .slice C D.wks.length cc]), .func (.func 52) #[] #[]] (w.alloc (.cells #[.slice A D.cs.length ca, .slice B D.offs.length cb, (Value.int .i64 (D.unit)), (Value.int .i64 (D.wh.full)), (Value.int .i64 (D.wh.read)), (Value.int .i64 (D.wh.slip)), (Value.int .i64 (D.wh.skew)), (Value.int .i64 (D.wh.circle)), (Value.int .i64 (D.wh.glo)), (Value.int .i64 (D.wh.ghi)), (Value.int .i64 (D.wh.wrong)), .slice C D.wks.length cc] 30)) fun e w' => (∃ v1 v2, e = .returned (.tuple #[v1, v2, (Value.int .i64 (lsE D (fwO D)))]) ∧ RowI w' w.heap.size v1 (natI (scL D)) ∧ RowI w' w.heap.size v2 (natI (swL D))) ∧ Below (w.alloc (.cells #[.slice A D.cs.length ca, .slice B D.offs.length cb, (Value.int .i64 (D.unit)), (Value.int .i64 (D.wh.full)), (Value.int .i64 (D.wh.read)), (Value.int .i64 (D.wh.slip)), (Value.int .i64 (D.wh.skew)), (Value.int .i64 (D.wh.circle)), (Value.int .i64 (D.wh.glo)), (Value.int .i64 (D.wh.ghi)), (Value.int .i64 (D.wh.wrong)), .slice C D.wks.length cc] 30)).heap.size (w.alloc (.cells #[.slice A D.cs.length ca, .slice B D.offs.length cb, (Value.int .i64 (D.unit)), (Value.int .i64 (D.wh.full)), (Value.int .i64 (D.wh.read)), (Value.int .i64 (D.wh.slip)), (Value.int .i64 (D.wh.skew)), (Value.int .i64 (D.wh.circle)), (Value.int .i64 (D.wh.glo)), (Value.int .i64 (D.wh.ghi)), (Value.int .i64 (D.wh.wrong)), .slice C D.wks.length cc] 30)) w' := by
    by_cases hD : dspB D = true
    · by_cases hex : ∃ k, isK D k
      · have e0 := lsE_zero hD hex
        have e1 : scL D = (List.range D.cs.length).filter (suC D) := if_pos e0
        have e2 : swL D = (List.range D.wks.length).filter (suW D) := if_pos e0
        rw [e0, e1, e2]
        exact (bothS_ok A B C ca cb cc D _ (ha.below hb0) (hb.below hb0) (hc.below hb0) hD hex).mono fun e w' ⟨⟨v1, v2, he, h1, h2⟩, hbw⟩ => ⟨⟨v1, v2, he, rowI_mono h1 hb0.size, rowI_mono h2 hb0.size⟩, hbw⟩
      · have hno : ∀ k, ¬ isK D k := fun k hk => hex ⟨k, hk⟩
        have e0 : lsE D (fwO D) = 3 := by unfold lsE; rw [if_pos hD, fwO_none (dsp_ok hD) hno]
        have e1 : scL D = [] := if_neg (by rw [e0]; decide)
        have e2 : swL D = [] := if_neg (by rw [e0]; decide)
        rw [e0, e1, e2]
        exact (bothS_err A B C ca cb cc D _ (ha.below hb0) (hb.below hb0) (hc.below hb0) 3 (.inr ⟨hD, hno, rfl⟩)).mono fun e w' ⟨he, hbw⟩ => ⟨⟨_, _, he, rowI_nil _ _, rowI_nil _ _⟩, hbw⟩
    · have e0 : lsE D (fwO D) = 80 := by unfold lsE; rw [if_neg hD]
      have e1 : scL D = [] := if_neg (by rw [e0]; decide)
      have e2 : swL D = [] := if_neg (by rw [e0]; decide)
      rw [e0, e1, e2]
      exact (bothS_err A B C ca cb cc D _ (ha.below hb0) (hb.below hb0) (hc.below hb0) 80 (.inl ⟨by simpa using hD, rfl⟩)).mono fun e w' ⟨he, hbw⟩ => ⟨⟨_, _, he, rowI_nil _ _, rowI_nil _ _⟩, hbw⟩
  (have la := c0.lt); (have ya0 := c0.cell 0); (have ya1 := c0.cell 1); (have ya2 := c0.cell 2); (have ya3 := c0.cell 3); (have ya4 := c0.cell 4); (have ya5 := c0.cell 5); (have ya6 := c0.cell 6); (have ya7 := c0.cell 7); (have ya8 := c0.cell 8); (have ya9 := c0.cell 9); (have ya10 := c0.cell 10); (have ya11 := c0.cell 11); simp only [List.getElem?_toArray, List.getElem?_cons_zero, List.getElem?_cons_succ] at ya0 ya1 ya2 ya3 ya4 ya5 ya6 ya7 ya8 ya9 ya10 ya11
  replace key := Lib.hid key
  clear ha hb hc
  go_enter Tryz.func23, Tryz.ntmps23
  go_wp2_with ((go_at_call 50); (with_reducible refine Calls.mono key.out ?_); rintro e w2 ⟨⟨v1, v2, rfl, h1, h2⟩, hb2⟩)
  go_ret3
  exact ⟨⟨v1, v2, rfl, h1, h2⟩, bl_call hb0 hb2⟩
end
end Go.Proofs.YthijegacjboclaaGreat
