/- The functions Corners and Walks of discord answer the least numbers of wrong corners, and of wrong walks, alone. -/
import Derived.Test.YthijegacjboclaaGreatAsk
import Derived.Laws.CopyOwn
namespace Go.Proofs.YthijegacjboclaaGreat
open Go.RowKit Go.Maps
attribute [local go_sem] After.cell After.frozen AfterM.cell AfterM.frozen

theorem results_cell3 {P : Program} {fn : Func} {p u v : Tmp} {ty : TypeId} (h : fn.results = #[.cell p ty, .tmp u, .tmp v]) (tmps : Array Value) (w : World) (g : Nat) (t : TypeId) (cs : Array Value) (fr : Nat × Nat) (d : TypeDesc)
    (hp : tmps.getD p undef = .pointer (some ⟨g, 0, none⟩)) (hg : w.heap[g]? = some (.cells cs t fr))
    (hu : P.underlying ty = some d) (hd : (match d with | .struct _ | .array _ _ => true | _ => false) = true) (hi : (P.info? ty).map (·.size) = some cs.size) :
    (results fn tmps).run P w = .ok (.tuple #[.agg cs, tmps.getD u undef, tmps.getD v undef]) w := by
  have hp' : tmps[p]?.getD undef = .pointer (some ⟨g, 0, none⟩) := by simpa using hp
  simp [results, h, hp', asAddr, run_loadVar_row w g t ty cs fr d hg hu hd hi, Sem.run_bind, Result.andThen]
section
variable (A B C : Option Addr) (ca cb cc : Nat) (D : Dsp) (w : World) (ha : Pts w A D.cs) (hb : Ints w B D.offs) (hc : Wks w C D.wks) (cf : Nat) (g : Nat × Nat × Int → Bool)
  (eg : ∀ args w, (callFunc cf args).run Tryz.prog w = .ok (.enter cf args) w)
  (hcf : ∀ (k : Nat × Nat × Int) (W : World), isK D k → Calls Tryz.prog cf #[stV k] W fun e w' => e = .returned (.bool (g k)) ∧ Below W.heap.size W w')
include ha hb hc
set_option maxRecDepth 100000 in
set_option maxHeartbeats 4000000 in
theorem alone_err (er : Int) (he : (dspB D = false ∧ er = 80) ∨ (dspB D = true ∧ (∀ k, ¬ isK D k) ∧ er = 3)) :
    Calls Tryz.prog 56 #[(Value.agg #[.slice A D.cs.length ca, .slice B D.offs.length cb, (Value.int .i64 (D.unit)), (Value.int .i64 (D.wh.full)), (Value.int .i64 (D.wh.read)), (Value.int .i64 (D.wh.slip)), (Value.int .i64 (D.wh.skew)), (Value.int .i64 (D.wh.circle)), (Value.int .i64 (D.wh.glo)), (Value.int .i64 (D.wh.ghi)), (Value.int .i64 (D.wh.wrong)), .slice C D.wks.length cc]), .func (.func cf) #[] #[]] w fun e w' => e = .returned (.tuple #[.agg #[.int .u64 (0 : Int), .int .u64 (0 : Int), (Value.int .i64 (0))], .slice none 0 0, (Value.int .i64 (er))]) ∧ Below w.heap.size w w' := by
  have c0 : Blk ((w.alloc (.cells #[.slice A D.cs.length ca, .slice B D.offs.length cb, (Value.int .i64 (D.unit)), (Value.int .i64 (D.wh.full)), (Value.int .i64 (D.wh.read)), (Value.int .i64 (D.wh.slip)), (Value.int .i64 (D.wh.skew)), (Value.int .i64 (D.wh.circle)), (Value.int .i64 (D.wh.glo)), (Value.int .i64 (D.wh.ghi)), (Value.int .i64 (D.wh.wrong)), .slice C D.wks.length cc] 30)).alloc (.cells #[.int .u64 (0 : Int), .int .u64 (0 : Int), (Value.int .i64 (0))] 75)) w.heap.size 30 #[.slice A D.cs.length ca, .slice B D.offs.length cb, (Value.int .i64 (D.unit)), (Value.int .i64 (D.wh.full)), (Value.int .i64 (D.wh.read)), (Value.int .i64 (D.wh.slip)), (Value.int .i64 (D.wh.skew)), (Value.int .i64 (D.wh.circle)), (Value.int .i64 (D.wh.glo)), (Value.int .i64 (D.wh.ghi)), (Value.int .i64 (D.wh.wrong)), .slice C D.wks.length cc] := (Blk.new _ _ _).alloc _
  have c1 : Blk ((w.alloc (.cells #[.slice A D.cs.length ca, .slice B D.offs.length cb, (Value.int .i64 (D.unit)), (Value.int .i64 (D.wh.full)), (Value.int .i64 (D.wh.read)), (Value.int .i64 (D.wh.slip)), (Value.int .i64 (D.wh.skew)), (Value.int .i64 (D.wh.circle)), (Value.int .i64 (D.wh.glo)), (Value.int .i64 (D.wh.ghi)), (Value.int .i64 (D.wh.wrong)), .slice C D.wks.length cc] 30)).alloc (.cells #[.int .u64 (0 : Int), .int .u64 (0 : Int), (Value.int .i64 (0))] 75)) (w.heap.size + 1) 75 #[.int .u64 (0 : Int), .int .u64 (0 : Int), (Value.int .i64 (0))] := blk_new_at (by simp)
  have hb0 : Below w.heap.size w ((w.alloc (.cells #[.slice A D.cs.length ca, .slice B D.offs.length cb, (Value.int .i64 (D.unit)), (Value.int .i64 (D.wh.full)), (Value.int .i64 (D.wh.read)), (Value.int .i64 (D.wh.slip)), (Value.int .i64 (D.wh.skew)), (Value.int .i64 (D.wh.circle)), (Value.int .i64 (D.wh.glo)), (Value.int .i64 (D.wh.ghi)), (Value.int .i64 (D.wh.wrong)), .slice C D.wks.length cc] 30)).alloc (.cells #[.int .u64 (0 : Int), .int .u64 (0 : Int), (Value.int .i64 (0))] 75)) := by (repeat (first | with_reducible exact Below.refl _ _ | with_reducible apply bl_alloc | with_reducible apply bl_drew | with_reducible apply bl_after | (with_reducible refine bl_call ?_ (by assumption))))
  have hO : ∀ W : World, Below w.heap.size w W → Calls Tryz.prog 38 #[(Value.agg #[.slice A D.cs.length ca, .slice B D.offs.length cb, (Value.int .i64 (D.unit)), (Value.int .i64 (D.wh.full)), (Value.int .i64 (D.wh.read)), (Value.int .i64 (D.wh.slip)), (Value.int .i64 (D.wh.skew)), (Value.int .i64 (D.wh.circle)), (Value.int .i64 (D.wh.glo)), (Value.int .i64 (D.wh.ghi)), (Value.int .i64 (D.wh.wrong)), .slice C D.wks.length cc]), .bool true] W fun e w' => e = .returned (.tuple #[.pointer none, (Value.int .i64 (er))]) ∧ Below W.heap.size W w' := fun W h => by
    rcases he with ⟨h1, rfl⟩ | ⟨h1, h2, rfl⟩
    · exact open_bad A B C ca cb cc D W (ha.below h) (hb.below h) (hc.below h) true h1
    · exact open_none A B C ca cb cc D W (ha.below h) (hb.below h) (hc.below h) h1 h2
  have hne : (er != 0) = true := by rcases he with ⟨_, rfl⟩ | ⟨_, _, rfl⟩ <;> rfl
  replace hO := Lib.hid hO
  (have la := c0.lt); (have ya0 := c0.cell 0); (have ya1 := c0.cell 1); (have ya2 := c0.cell 2); (have ya3 := c0.cell 3); (have ya4 := c0.cell 4); (have ya5 := c0.cell 5); (have ya6 := c0.cell 6); (have ya7 := c0.cell 7); (have ya8 := c0.cell 8); (have ya9 := c0.cell 9); (have ya10 := c0.cell 10); (have ya11 := c0.cell 11); simp only [List.getElem?_toArray, List.getElem?_cons_zero, List.getElem?_cons_succ] at ya0 ya1 ya2 ya3 ya4 ya5 ya6 ya7 ya8 ya9 ya10 ya11
  clear ha hb hc he
  go_enter Tryz.func56, Tryz.ntmps56
  go_upto_region 3 with ((go_at_call 38); (with_reducible refine Calls.mono (hO.out _ hb0) ?_); rintro e wn ⟨rfl, hbn⟩; first | ((with_reducible apply kp_in_step (hb := hbn)); (with_reducible assumption); rintro ⟨hk, hc, hf, hzc, hzf⟩) | ((with_reducible refine kp_in_first hbn ?_); rintro ⟨hk, hc, hf, hzc, hzf⟩))
  have hW : Below (((w.alloc (.cells #[.slice A D.cs.length ca, .slice B D.offs.length cb, (Value.int .i64 (D.unit)), (Value.int .i64 (D.wh.full)), (Value.int .i64 (D.wh.read)), (Value.int .i64 (D.wh.slip)), (Value.int .i64 (D.wh.skew)), (Value.int .i64 (D.wh.circle)), (Value.int .i64 (D.wh.glo)), (Value.int .i64 (D.wh.ghi)), (Value.int .i64 (D.wh.wrong)), .slice C D.wks.length cc] 30)).alloc (.cells #[.int .u64 (0 : Int), .int .u64 (0 : Int), (Value.int .i64 (0))] 75))).heap.size ((w.alloc (.cells #[.slice A D.cs.length ca, .slice B D.offs.length cb, (Value.int .i64 (D.unit)), (Value.int .i64 (D.wh.full)), (Value.int .i64 (D.wh.read)), (Value.int .i64 (D.wh.slip)), (Value.int .i64 (D.wh.skew)), (Value.int .i64 (D.wh.circle)), (Value.int .i64 (D.wh.glo)), (Value.int .i64 (D.wh.ghi)), (Value.int .i64 (D.wh.wrong)), .slice C D.wks.length cc] 30)).alloc (.cells #[.int .u64 (0 : Int), .int .u64 (0 : Int), (Value.int .i64 (0))] 75)) wn := by (repeat (first | with_reducible exact Below.refl _ _ | with_reducible apply bl_alloc | with_reducible apply bl_drew | with_reducible apply bl_after | (with_reducible refine bl_call ?_ (by assumption))))
  have c1n := c1.below hW
  have hbn2 := bl_call hb0 hW
  have f0 := c1n.frozen 0
  have f1 := c1n.frozen 1
  have f2 := c1n.frozen 2
  clear la ya0 ya1 ya2 ya3 ya4 ya5 ya6 ya7 ya8 ya9 ya10 ya11 c0 hW hbn hO hb0 c1
  ((try clear hk hc hf hzc hzf); (try clear hk hc hf hzc hzf); (try clear hk hc hf hzc hzf); (try clear hk hc hf hzc hzf))
  (have lb := c1n.lt); (have yb0 := c1n.cell 0); (have yb1 := c1n.cell 1); (have yb2 := c1n.cell 2); simp only [List.getElem?_toArray, List.getElem?_cons_zero, List.getElem?_cons_succ] at yb0 yb1 yb2
  go_wp2
  have c2 := ((c1n.set_ 0 (.int .u64 0)).set_ 1 (.int .u64 0)).set_ 2 (Value.int .i64 (0))
  have hb2 := bl_setc8 (v := (Value.int .i64 (0))) (o := 2) (bl_setc8 (v := .int .u64 0) (o := 1) (bl_setc8 (v := .int .u64 0) (o := 0) hbn2 (Nat.le_succ w.heap.size)) (Nat.le_succ w.heap.size)) (Nat.le_succ w.heap.size)
  refine bodyPost_ret (results_cell3 rfl _ _ (w.heap.size + 1) _ _ _ _ rfl c2 Tryz.underlying75 rfl (by kernel_rfl)) rfl ⟨rfl, hb2⟩
include eg hcf
set_option maxRecDepth 100000 in
set_option maxHeartbeats 4000000 in
theorem alone_no (hD : dspB D = true) (hex : ∃ k, isK D k) (hno : ∀ k, isK D k → g k = false) :
    Calls Tryz.prog 56 #[(Value.agg #[.slice A D.cs.length ca, .slice B D.offs.length cb, (Value.int .i64 (D.unit)), (Value.int .i64 (D.wh.full)), (Value.int .i64 (D.wh.read)), (Value.int .i64 (D.wh.slip)), (Value.int .i64 (D.wh.skew)), (Value.int .i64 (D.wh.circle)), (Value.int .i64 (D.wh.glo)), (Value.int .i64 (D.wh.ghi)), (Value.int .i64 (D.wh.wrong)), .slice C D.wks.length cc]), .func (.func cf) #[] #[]] w fun e w' => e = .returned (.tuple #[.agg #[.int .u64 (0 : Int), .int .u64 (0 : Int), (Value.int .i64 (0))], .slice none 0 0, (Value.int .i64 (3))]) ∧ Below w.heap.size w w' := by
  have hok := dsp_ok hD
  have c0 : Blk ((w.alloc (.cells #[.slice A D.cs.length ca, .slice B D.offs.length cb, (Value.int .i64 (D.unit)), (Value.int .i64 (D.wh.full)), (Value.int .i64 (D.wh.read)), (Value.int .i64 (D.wh.slip)), (Value.int .i64 (D.wh.skew)), (Value.int .i64 (D.wh.circle)), (Value.int .i64 (D.wh.glo)), (Value.int .i64 (D.wh.ghi)), (Value.int .i64 (D.wh.wrong)), .slice C D.wks.length cc] 30)).alloc (.cells #[.int .u64 (0 : Int), .int .u64 (0 : Int), (Value.int .i64 (0))] 75)) w.heap.size 30 #[.slice A D.cs.length ca, .slice B D.offs.length cb, (Value.int .i64 (D.unit)), (Value.int .i64 (D.wh.full)), (Value.int .i64 (D.wh.read)), (Value.int .i64 (D.wh.slip)), (Value.int .i64 (D.wh.skew)), (Value.int .i64 (D.wh.circle)), (Value.int .i64 (D.wh.glo)), (Value.int .i64 (D.wh.ghi)), (Value.int .i64 (D.wh.wrong)), .slice C D.wks.length cc] := (Blk.new _ _ _).alloc _
  have c1 : Blk ((w.alloc (.cells #[.slice A D.cs.length ca, .slice B D.offs.length cb, (Value.int .i64 (D.unit)), (Value.int .i64 (D.wh.full)), (Value.int .i64 (D.wh.read)), (Value.int .i64 (D.wh.slip)), (Value.int .i64 (D.wh.skew)), (Value.int .i64 (D.wh.circle)), (Value.int .i64 (D.wh.glo)), (Value.int .i64 (D.wh.ghi)), (Value.int .i64 (D.wh.wrong)), .slice C D.wks.length cc] 30)).alloc (.cells #[.int .u64 (0 : Int), .int .u64 (0 : Int), (Value.int .i64 (0))] 75)) (w.heap.size + 1) 75 #[.int .u64 (0 : Int), .int .u64 (0 : Int), (Value.int .i64 (0))] := blk_new_at (by simp)
  have hb0 : Below w.heap.size w ((w.alloc (.cells #[.slice A D.cs.length ca, .slice B D.offs.length cb, (Value.int .i64 (D.unit)), (Value.int .i64 (D.wh.full)), (Value.int .i64 (D.wh.read)), (Value.int .i64 (D.wh.slip)), (Value.int .i64 (D.wh.skew)), (Value.int .i64 (D.wh.circle)), (Value.int .i64 (D.wh.glo)), (Value.int .i64 (D.wh.ghi)), (Value.int .i64 (D.wh.wrong)), .slice C D.wks.length cc] 30)).alloc (.cells #[.int .u64 (0 : Int), .int .u64 (0 : Int), (Value.int .i64 (0))] 75)) := by (repeat (first | with_reducible exact Below.refl _ _ | with_reducible apply bl_alloc | with_reducible apply bl_drew | with_reducible apply bl_after | (with_reducible refine bl_call ?_ (by assumption))))
  have hO := fun (W : World) (h : Below w.heap.size w W) => open_some A B C ca cb cc D W (ha.below h) (hb.below h) (hc.below h) hD hex
  replace hO := Lib.hid hO
  have HG := Lib.hid (And.intro eg hcf)
  have HN := Lib.hid hno
  (have la := c0.lt); (have ya0 := c0.cell 0); (have ya1 := c0.cell 1); (have ya2 := c0.cell 2); (have ya3 := c0.cell 3); (have ya4 := c0.cell 4); (have ya5 := c0.cell 5); (have ya6 := c0.cell 6); (have ya7 := c0.cell 7); (have ya8 := c0.cell 8); (have ya9 := c0.cell 9); (have ya10 := c0.cell 10); (have ya11 := c0.cell 11); simp only [List.getElem?_toArray, List.getElem?_cons_zero, List.getElem?_cons_succ] at ya0 ya1 ya2 ya3 ya4 ya5 ya6 ya7 ya8 ya9 ya10 ya11
  clear ha hb hc hno eg hcf hex
  go_enter Tryz.func56, Tryz.ntmps56
  go_upto_region 4 with ((go_at_call 38); (with_reducible refine Calls.mono (hO.out _ hb0) ?_); rintro e w2 ⟨⟨gf, rfl, hf⟩, hb2⟩)
  have hFw := Lib.hid (fewest_any hok cf g _ gf w2 hf HG.out.1 HG.out.2)
  have c1n := c1.below hb2
  have hbw2 := bl_call hb0 hb2
  clear la ya0 ya1 ya2 ya3 ya4 ya5 ya6 ya7 ya8 ya9 ya10 ya11 c0 hO hf hb2 hb0 c1
  go_upto_region 5 with ((go_at_call 46); (with_reducible refine Calls.mono hFw.out ?_); rintro e w3 ⟨⟨v, L, rfl, hR, hL, hLl⟩, hb3⟩)
  have hbw3 := bl_call hbw2 hb3
  obtain rfl : L = [] := by
    cases L with
    | nil => rfl
    | cons y L' =>
      have h1 := (hL y).1 List.mem_cons_self
      have h2 := HN.out y h1.1
      rw [h1.2.1] at h2
      cases h2
  have c1m := c1n.below hb3
  have f0 := c1m.frozen 0
  have f1 := c1m.frozen 1
  have f2 := c1m.frozen 2
  clear hR hL hLl hb3 hbw2 hFw c1n
  (have lb := c1m.lt); (have yb0 := c1m.cell 0); (have yb1 := c1m.cell 1); (have yb2 := c1m.cell 2); simp only [List.getElem?_toArray, List.getElem?_cons_zero, List.getElem?_cons_succ] at yb0 yb1 yb2
  go_wp2
  have c2 := ((c1m.set_ 0 (.int .u64 0)).set_ 1 (.int .u64 0)).set_ 2 (Value.int .i64 (0))
  have hb2 := bl_setc8 (v := (Value.int .i64 (0))) (o := 2) (bl_setc8 (v := .int .u64 0) (o := 1) (bl_setc8 (v := .int .u64 0) (o := 0) hbw3 (Nat.le_succ w.heap.size)) (Nat.le_succ w.heap.size)) (Nat.le_succ w.heap.size)
  refine bodyPost_ret (results_cell3 rfl _ _ (w.heap.size + 1) _ _ _ _ rfl c2 Tryz.underlying75 rfl (by kernel_rfl)) rfl ⟨rfl, hb2⟩
set_option maxRecDepth 100000 in
set_option maxHeartbeats 4000000 in
theorem alone_ok (hD : dspB D = true) (hex : ∃ k, isK D k ∧ g k = true) :
    Calls Tryz.prog 56 #[(Value.agg #[.slice A D.cs.length ca, .slice B D.offs.length cb, (Value.int .i64 (D.unit)), (Value.int .i64 (D.wh.full)), (Value.int .i64 (D.wh.read)), (Value.int .i64 (D.wh.slip)), (Value.int .i64 (D.wh.skew)), (Value.int .i64 (D.wh.circle)), (Value.int .i64 (D.wh.glo)), (Value.int .i64 (D.wh.ghi)), (Value.int .i64 (D.wh.wrong)), .slice C D.wks.length cc]), .func (.func cf) #[] #[]] w fun e w' => (∃ k b c l, e = .returned (.tuple #[stV k, .slice (some ⟨b, 0, none⟩) D.cs.length c, (Value.int .i64 (0))]) ∧ minK D g k ∧ PtsAt w' b 0 l ∧ stoP D k l) ∧ Below w.heap.size w w' := by
  have hok := dsp_ok hD
  have c0 : Blk ((w.alloc (.cells #[.slice A D.cs.length ca, .slice B D.offs.length cb, (Value.int .i64 (D.unit)), (Value.int .i64 (D.wh.full)), (Value.int .i64 (D.wh.read)), (Value.int .i64 (D.wh.slip)), (Value.int .i64 (D.wh.skew)), (Value.int .i64 (D.wh.circle)), (Value.int .i64 (D.wh.glo)), (Value.int .i64 (D.wh.ghi)), (Value.int .i64 (D.wh.wrong)), .slice C D.wks.length cc] 30)).alloc (.cells #[.int .u64 (0 : Int), .int .u64 (0 : Int), (Value.int .i64 (0))] 75)) w.heap.size 30 #[.slice A D.cs.length ca, .slice B D.offs.length cb, (Value.int .i64 (D.unit)), (Value.int .i64 (D.wh.full)), (Value.int .i64 (D.wh.read)), (Value.int .i64 (D.wh.slip)), (Value.int .i64 (D.wh.skew)), (Value.int .i64 (D.wh.circle)), (Value.int .i64 (D.wh.glo)), (Value.int .i64 (D.wh.ghi)), (Value.int .i64 (D.wh.wrong)), .slice C D.wks.length cc] := (Blk.new _ _ _).alloc _
  have c1 : Blk ((w.alloc (.cells #[.slice A D.cs.length ca, .slice B D.offs.length cb, (Value.int .i64 (D.unit)), (Value.int .i64 (D.wh.full)), (Value.int .i64 (D.wh.read)), (Value.int .i64 (D.wh.slip)), (Value.int .i64 (D.wh.skew)), (Value.int .i64 (D.wh.circle)), (Value.int .i64 (D.wh.glo)), (Value.int .i64 (D.wh.ghi)), (Value.int .i64 (D.wh.wrong)), .slice C D.wks.length cc] 30)).alloc (.cells #[.int .u64 (0 : Int), .int .u64 (0 : Int), (Value.int .i64 (0))] 75)) (w.heap.size + 1) 75 #[.int .u64 (0 : Int), .int .u64 (0 : Int), (Value.int .i64 (0))] := blk_new_at (by simp)
  have hb0 : Below w.heap.size w ((w.alloc (.cells #[.slice A D.cs.length ca, .slice B D.offs.length cb, (Value.int .i64 (D.unit)), (Value.int .i64 (D.wh.full)), (Value.int .i64 (D.wh.read)), (Value.int .i64 (D.wh.slip)), (Value.int .i64 (D.wh.skew)), (Value.int .i64 (D.wh.circle)), (Value.int .i64 (D.wh.glo)), (Value.int .i64 (D.wh.ghi)), (Value.int .i64 (D.wh.wrong)), .slice C D.wks.length cc] 30)).alloc (.cells #[.int .u64 (0 : Int), .int .u64 (0 : Int), (Value.int .i64 (0))] 75)) := by (repeat (first | with_reducible exact Below.refl _ _ | with_reducible apply bl_alloc | with_reducible apply bl_drew | with_reducible apply bl_after | (with_reducible refine bl_call ?_ (by assumption))))
  have hO := fun (W : World) (h : Below w.heap.size w W) => open_some A B C ca cb cc D W (ha.below h) (hb.below h) (hc.below h) hD (by obtain ⟨k, hk, _⟩ := hex; exact ⟨k, hk⟩)
  replace hO := Lib.hid hO
  have HG := Lib.hid (And.intro eg hcf)
  have HX := Lib.hid hex
  (have la := c0.lt); (have ya0 := c0.cell 0); (have ya1 := c0.cell 1); (have ya2 := c0.cell 2); (have ya3 := c0.cell 3); (have ya4 := c0.cell 4); (have ya5 := c0.cell 5); (have ya6 := c0.cell 6); (have ya7 := c0.cell 7); (have ya8 := c0.cell 8); (have ya9 := c0.cell 9); (have ya10 := c0.cell 10); (have ya11 := c0.cell 11); simp only [List.getElem?_toArray, List.getElem?_cons_zero, List.getElem?_cons_succ] at ya0 ya1 ya2 ya3 ya4 ya5 ya6 ya7 ya8 ya9 ya10 ya11
  clear ha hb hc eg hcf hex
  go_enter Tryz.func56, Tryz.ntmps56
  go_upto_region 4 with ((go_at_call 38); (with_reducible refine Calls.mono (hO.out _ hb0) ?_); rintro e w2 ⟨⟨gf, rfl, hf⟩, hb2⟩)
  have hFw := Lib.hid (fewest_any hok cf g _ gf w2 hf HG.out.1 HG.out.2)
  have c1n := c1.below hb2
  have hbw2 := bl_call hb0 hb2
  have hl2 := c1n.lt
  have HFl := Lib.hid hf
  clear la ya0 ya1 ya2 ya3 ya4 ya5 ya6 ya7 ya8 ya9 ya10 ya11 c0 hO hf hb2 hb0 c1
  go_upto_region 5 with ((go_at_call 46); (with_reducible refine Calls.mono hFw.out ?_); rintro e w3 ⟨⟨v, L, rfl, hR, hL, hLl⟩, hb3⟩)
  have hbw3 := bl_call hbw2 hb3
  obtain ⟨y, L', rfl⟩ : ∃ y L', L = y :: L' := by
    cases L with
    | nil =>
      obtain ⟨k, hk, hgk⟩ := HX.out
      obtain ⟨j, hj⟩ := least_in (isK D) g hk hgk
      have := (hL j).2 hj
      simp at this
    | cons y L' => exact ⟨y, L', rfl⟩
  obtain ⟨g9, c9, rfl, lg, hg9, q0, q1, q2⟩ := hR.head
  have hy := Lib.hid ((hL y).1 List.mem_cons_self)
  have c1m := c1n.below hb3
  have hf3 := HFl.out.below hb3
  obtain ⟨hlo, st, nn, F, hnn, hst, hblk, hS⟩ := hf3
  obtain ⟨bc, hbc⟩ := hS.map.held y hy.out.1
  obtain ⟨-, l, hp, hsto⟩ := hS.good y bc hy.out.1 hbc
  have hWs : (((w.alloc (.cells #[.slice A D.cs.length ca, .slice B D.offs.length cb, (Value.int .i64 (D.unit)), (Value.int .i64 (D.wh.full)), (Value.int .i64 (D.wh.read)), (Value.int .i64 (D.wh.slip)), (Value.int .i64 (D.wh.skew)), (Value.int .i64 (D.wh.circle)), (Value.int .i64 (D.wh.glo)), (Value.int .i64 (D.wh.ghi)), (Value.int .i64 (D.wh.wrong)), .slice C D.wks.length cc] 30)).alloc (.cells #[.int .u64 (0 : Int), .int .u64 (0 : Int), (Value.int .i64 (0))] 75))).heap.size = w.heap.size + 2 := by simp
  rw [hWs] at hlo hst
  have nF : gf ≠ w.heap.size + 1 := by omega
  have n9 : g9 ≠ w.heap.size + 1 := by omega
  have hlk : ∀ z : AfterM w3 (w.heap.size + 1), (Instr.lookup 68 (.map (some st)) (.agg #[.int .u64 (y.1 : Int), .int .u64 (y.2.1 : Int), (Value.int .i64 (y.2.2))]) false).run Tryz.prog z.val = .ok (.slice (some ⟨bc.1, 0, none⟩) D.cs.length bc.2) z.val := fun z => by
    rcases fld_look (hS.own.kept z.ok (by simp only [ne_eq, Option.some.injEq]; omega)) stKeyed undStos (zeroPts _) (isK_key hok hy.out.1) with ⟨h1, _⟩ | ⟨bc', h1, h2⟩
    · rw [hbc] at h1; cases h1
    · rw [hbc] at h1
      simp only [DataW.held.injEq] at h1
      subst h1
      exact h2
  have cF12 : w3.cell? ⟨gf, 12, none⟩ = some (.map (some st)) := hblk.cell 12
  have lF := hblk.lt
  have hln : decide (0 < (y :: L').length) = true := by simp
  rw [hln]
  have HP := Lib.hid (And.intro hp hsto)
  have HM := Lib.hid c1m
  clear hR hL hb3 hbw2 hFw c1n hS hblk hp hsto hbc HFl hln
  go_upto_region 7 with fail
  refine wp_region_CN (fun w' => ∃ z : AfterM w3 (w.heap.size + 1), w' = z.val) (by kernel_rfl) ?_
  change wpAnyC _ _ _ _ _ _ _ (World.drew w3)
  have hd0 : Below w3.heap.size w3 w3.drew := bl_drew (Below.refl _ _)
  refine wpAnyC_take (i := 0) (v := ?v0a) rfl (by kernel_rfl) (by kernel_rfl) (by kernel_rfl) ?q0a rfl ?y0a ?r0a; (case q0a => exact fun _ _ _ h => h); (case y0a => ((rintro _ ⟨z, rfl⟩); (go_simp); (try with_reducible rfl))); simp only [Act.put, List.getElem_toArray, List.getElem_cons_succ, List.getElem_cons_zero, List.setIfInBounds_toArray, List.set_cons_succ, List.set_cons_zero]
  refine wpAnyC_take (i := 1) (v := ?v1a) rfl (by kernel_rfl) (by kernel_rfl) (by kernel_rfl) ?q1a rfl ?y1a ?r1a; (case q1a => exact fun _ _ _ h => h); (case y1a => ((rintro _ ⟨z, rfl⟩); (go_simp); (try with_reducible rfl))); simp only [Act.put, List.getElem_toArray, List.getElem_cons_succ, List.getElem_cons_zero, List.setIfInBounds_toArray, List.set_cons_succ, List.set_cons_zero]
  refine wpAnyC_take (i := 2) (v := ?v2a) rfl (by kernel_rfl) (by kernel_rfl) (by kernel_rfl) ?q2a rfl ?y2a ?r2a; (case q2a => exact fun _ _ _ h => h); (case y2a => ((rintro _ ⟨z, rfl⟩); (go_simp); (try with_reducible rfl))); simp only [Act.put, List.getElem_toArray, List.getElem_cons_succ, List.getElem_cons_zero, List.setIfInBounds_toArray, List.set_cons_succ, List.set_cons_zero]
  refine wpAnyC_take (i := 3) (v := ?v3a) rfl (by kernel_rfl) (by kernel_rfl) (by kernel_rfl) ?q3a rfl ?y3a ?r3a; (case q3a => exact fun _ _ _ h => h); (case y3a => ((rintro _ ⟨z, rfl⟩); (go_simp); (try with_reducible rfl))); simp only [Act.put, List.getElem_toArray, List.getElem_cons_succ, List.getElem_cons_zero, List.setIfInBounds_toArray, List.set_cons_succ, List.set_cons_zero]
  refine wpAnyC_take (i := 4) (v := ?v4a) rfl (by kernel_rfl) (by kernel_rfl) (by kernel_rfl) ?q4a rfl ?y4a ?r4a; (case q4a => exact fun _ _ _ h => h); (case y4a => ((rintro _ ⟨z, rfl⟩); (go_simp); (try with_reducible rfl))); simp only [Act.put, List.getElem_toArray, List.getElem_cons_succ, List.getElem_cons_zero, List.setIfInBounds_toArray, List.set_cons_succ, List.set_cons_zero]
  refine wpAnyC_take (i := 5) (v := ?v5a) rfl (by kernel_rfl) (by kernel_rfl) (by kernel_rfl) ?q5a rfl ?y5a ?r5a; (case q5a => exact fun _ _ _ h => h); (case y5a => ((rintro _ ⟨z, rfl⟩); (go_simp); (try with_reducible rfl))); simp only [Act.put, List.getElem_toArray, List.getElem_cons_succ, List.getElem_cons_zero, List.setIfInBounds_toArray, List.set_cons_succ, List.set_cons_zero]
  refine wpAnyC_take (i := 6) (v := ?v6a) rfl (by kernel_rfl) (by kernel_rfl) (by kernel_rfl) ?q6a rfl ?y6a ?r6a; (case q6a => exact fun _ _ _ h => h); (case y6a => ((rintro _ ⟨z, rfl⟩); (go_simp); (try with_reducible rfl))); simp only [Act.put, List.getElem_toArray, List.getElem_cons_succ, List.getElem_cons_zero, List.setIfInBounds_toArray, List.set_cons_succ, List.set_cons_zero]
  refine wpAnyC_take (i := 7) (v := ?v7a) rfl (by kernel_rfl) (by kernel_rfl) (by kernel_rfl) ?q7a rfl ?y7a ?r7a; (case q7a => exact fun _ _ _ h => h); (case y7a => ((rintro _ ⟨z, rfl⟩); (go_simp); (try with_reducible rfl))); simp only [Act.put, List.getElem_toArray, List.getElem_cons_succ, List.getElem_cons_zero, List.setIfInBounds_toArray, List.set_cons_succ, List.set_cons_zero]
  refine wpAnyC_take (i := 8) (v := ?v8a) rfl (by kernel_rfl) (by kernel_rfl) (by kernel_rfl) ?q8a rfl ?y8a ?r8a; (case q8a => exact fun _ _ _ h => h); (case y8a => ((rintro _ ⟨z, rfl⟩); (go_simp); (try with_reducible rfl))); simp only [Act.put, List.getElem_toArray, List.getElem_cons_succ, List.getElem_cons_zero, List.setIfInBounds_toArray, List.set_cons_succ, List.set_cons_zero]
  refine wpAnyC_take (i := 9) (v := ?v9a) rfl (by kernel_rfl) (by kernel_rfl) (by kernel_rfl) ?q9a rfl ?y9a ?r9a; (case q9a => exact fun _ _ _ h => h); (case y9a => ((rintro _ ⟨z, rfl⟩); (go_simp); (try with_reducible rfl))); simp only [Act.put, List.getElem_toArray, List.getElem_cons_succ, List.getElem_cons_zero, List.setIfInBounds_toArray, List.set_cons_succ, List.set_cons_zero]
  refine wpAnyC_take (i := 10) (v := ?v10a) rfl (by kernel_rfl) (by kernel_rfl) (by kernel_rfl) ?q10a rfl ?y10a ?r10a; (case q10a => exact fun _ _ _ h => h); (case y10a => ((rintro _ ⟨z, rfl⟩); (go_simp); (try with_reducible rfl))); simp only [Act.put, List.getElem_toArray, List.getElem_cons_succ, List.getElem_cons_zero, List.setIfInBounds_toArray, List.set_cons_succ, List.set_cons_zero]
  refine wpAnyC_one (i := 11) (by kernel_rfl) rfl ⟨⟨_, grown_below hd0⟩, rfl⟩ rfl (fun K hK => ?_)
  refine wp_store_row 75 _ _ rfl (w.heap.size + 1) #[.int .u64 (y.1 : Int), .int .u64 (y.2.1 : Int), (Value.int .i64 (y.2.2))] rfl rfl 75 _ (show w3.drew.heap[w.heap.size + 1]? = _ from HM.out) (by kernel_rfl) rfl (by simp [Value.oneCell']) (hK _ _ ?_)
  clear hK K
  simp only [Act.put, List.getElem_toArray, List.getElem_cons_succ, List.getElem_cons_zero, List.setIfInBounds_toArray, List.set_cons_succ, List.set_cons_zero]
  have hgC : w3.grownBy (w3.drew.setRow (w.heap.size + 1) #[.int .u64 (y.1 : Int), .int .u64 (y.2.1 : Int), (Value.int .i64 (y.2.2))]) (some (w.heap.size + 1)) := ⟨rfl, rfl, rfl, by simp, fun k _ hk => setRow_other _ _ _ _ (fun e => hk (by rw [e]))⟩
  have hbC : Below w.heap.size w (w3.drew.setRow (w.heap.size + 1) #[.int .u64 (y.1 : Int), .int .u64 (y.2.1 : Int), (Value.int .i64 (y.2.2))]) := below_setRow (bl_drew hbw3) (Nat.le_succ _) _
  have hcC : Blk (w3.drew.setRow (w.heap.size + 1) #[.int .u64 (y.1 : Int), .int .u64 (y.2.1 : Int), (Value.int .i64 (y.2.2))]) (w.heap.size + 1) 75 #[.int .u64 (y.1 : Int), .int .u64 (y.2.1 : Int), (Value.int .i64 (y.2.2))] := setRow_heap w3.drew _ _ _ _ _ HM.out
  have hpl := HP.out.1
  have hnb : bc.1 ≠ w.heap.size + 1 := by
    intro e
    have h1 := hpl.xp (i := 0) (by have := HP.out.2.1.2.2.1; omega)
    rw [e, Nat.zero_mul, Nat.zero_add, HM.out.cell] at h1
    cases h1
  have hPF := hpl.grown hgC (by simpa using hnb)
  refine wpAnyC_take (i := 12) (v := ?v12a) rfl (by kernel_rfl) (by kernel_rfl) (by kernel_rfl) ?q12a rfl ?y12a ?r12a; (case q12a => exact fun _ _ _ h => h); (case y12a => ((rintro _ ⟨z, rfl⟩); (go_simp); (try with_reducible rfl))); simp only [Act.put, List.getElem_toArray, List.getElem_cons_succ, List.getElem_cons_zero, List.setIfInBounds_toArray, List.set_cons_succ, List.set_cons_zero]
  refine wpAnyC_take (i := 13) (v := ?v13a) rfl (by kernel_rfl) (by kernel_rfl) (by kernel_rfl) ?q13a rfl ?y13a ?r13a; (case q13a => exact fun _ _ _ h => h); (case y13a => ((rintro _ ⟨z, rfl⟩); (go_simp); (try with_reducible rfl))); simp only [Act.put, List.getElem_toArray, List.getElem_cons_succ, List.getElem_cons_zero, List.setIfInBounds_toArray, List.set_cons_succ, List.set_cons_zero]
  refine wpAnyC_doneN (by kernel_rfl) ⟨⟨_, hgC⟩, rfl⟩ ?_ _
  have HF := Lib.hid (And.intro hbC (And.intro hcC hPF))
  clear hgC hbC hcC hPF hd0 hlk hpl
  go_wp2
  refine bodyPost_ret (results_cell3 rfl _ _ (w.heap.size + 1) _ _ _ _ rfl HF.out.2.1 Tryz.underlying75 rfl (by kernel_rfl)) rfl ⟨⟨y, bc.1, bc.2, l, rfl, hy.out, HF.out.2.2, HP.out.2⟩, HF.out.1⟩
end
end Go.Proofs.YthijegacjboclaaGreat
namespace Go.Proofs.YthijegacjboclaaGreat
open Go.RowKit Go.Maps
attribute [local go_sem] After.cell After.frozen AfterM.cell AfterM.frozen

theorem bitL_nil {s : Nat} (h : s < 256) : bitL s = [] ↔ s = 0 := by
  constructor
  · intro hn
    apply Nat.eq_of_testBit_eq
    intro i
    rw [Nat.zero_testBit]
    by_cases hi : i < 8
    · cases hb : s.testBit i with
      | false => rfl
      | true =>
        have := mem_bitL.2 ⟨hi, hb⟩
        rw [hn] at this
        simp at this
    · exact Nat.testBit_lt_two_pow (Nat.lt_of_lt_of_le h (Nat.pow_le_pow_right (n := 2) (by omega) (show 8 ≤ i by omega)))
  · rintro rfl
    simp [bitL]
section
variable {D : Dsp} {g : Nat × Nat × Int → Bool} {Q : Tld → Prop}
theorem only_some (h : DspOk D) (hg : ∀ k, isK D k → (g k = true ↔ Q (toT k))) {k : Nat × Nat × Int} (hk : minK D g k) : lst (fun t => isT D t ∧ Q t) Tld.many = some (mny k) := by
  refine lst_of (P := fun t => isT D t ∧ Q t) ⟨⟨toT k, ⟨(isT_iff h).2 ⟨k, hk.1, rfl⟩, (hg k hk.1).1 hk.2.1⟩, rfl⟩, fun t ht => ?_⟩
  obtain ⟨j, hj, rfl⟩ := (isT_iff h).1 ht.1
  exact hk.2.2 j hj ((hg j hj).2 ht.2)
theorem only_none (h : DspOk D) (hg : ∀ k, isK D k → (g k = true ↔ Q (toT k))) (hno : ∀ k, isK D k → g k = false) : lst (fun t => isT D t ∧ Q t) Tld.many = none :=
  lst_of (P := fun t => isT D t ∧ Q t) (o := none) fun t ht => by
    obtain ⟨j, hj, rfl⟩ := (isT_iff h).1 ht.1
    have h1 := (hg j hj).2 ht.2
    rw [hno j hj] at h1
    cases h1
end
section
variable (A B C : Option Addr) (ca cb cc : Nat) (D : Dsp) (w : World)
set_option maxRecDepth 100000 in
set_option maxHeartbeats 4000000 in
theorem Corners_key (er v : Int)
    (hal : Calls Tryz.prog 56 #[(Value.agg #[.slice A D.cs.length ca, .slice B D.offs.length cb, (Value.int .i64 (D.unit)), (Value.int .i64 (D.wh.full)), (Value.int .i64 (D.wh.read)), (Value.int .i64 (D.wh.slip)), (Value.int .i64 (D.wh.skew)), (Value.int .i64 (D.wh.circle)), (Value.int .i64 (D.wh.glo)), (Value.int .i64 (D.wh.ghi)), (Value.int .i64 (D.wh.wrong)), .slice C D.wks.length cc]), .func (.func 64) #[] #[]] (w.alloc (.cells #[.slice A D.cs.length ca, .slice B D.offs.length cb, (Value.int .i64 (D.unit)), (Value.int .i64 (D.wh.full)), (Value.int .i64 (D.wh.read)), (Value.int .i64 (D.wh.slip)), (Value.int .i64 (D.wh.skew)), (Value.int .i64 (D.wh.circle)), (Value.int .i64 (D.wh.glo)), (Value.int .i64 (D.wh.ghi)), (Value.int .i64 (D.wh.wrong)), .slice C D.wks.length cc] 30)) fun e w' => (∃ (x y : Nat) (z : Int) (u1 : Option Addr) (u2 u3 : Nat), x < 256 ∧ y < 256 ∧ v = (((bitL x).length + (bitL y).length : Nat) : Int) ∧ e = .returned (.tuple #[.agg #[.int .u64 (x : Int), .int .u64 (y : Int), (Value.int .i64 (z))], .slice u1 u2 u3, (Value.int .i64 (er))])) ∧ Below (w.alloc (.cells #[.slice A D.cs.length ca, .slice B D.offs.length cb, (Value.int .i64 (D.unit)), (Value.int .i64 (D.wh.full)), (Value.int .i64 (D.wh.read)), (Value.int .i64 (D.wh.slip)), (Value.int .i64 (D.wh.skew)), (Value.int .i64 (D.wh.circle)), (Value.int .i64 (D.wh.glo)), (Value.int .i64 (D.wh.ghi)), (Value.int .i64 (D.wh.wrong)), .slice C D.wks.length cc] 30)).heap.size (w.alloc (.cells #[.slice A D.cs.length ca, .slice B D.offs.length cb, (Value.int .i64 (D.unit)), (Value.int .i64 (D.wh.full)), (Value.int .i64 (D.wh.read)), (Value.int .i64 (D.wh.slip)), (Value.int .i64 (D.wh.skew)), (Value.int .i64 (D.wh.circle)), (Value.int .i64 (D.wh.glo)), (Value.int .i64 (D.wh.ghi)), (Value.int .i64 (D.wh.wrong)), .slice C D.wks.length cc] 30)) w') :
    Calls Tryz.prog 33 #[(Value.agg #[.slice A D.cs.length ca, .slice B D.offs.length cb, (Value.int .i64 (D.unit)), (Value.int .i64 (D.wh.full)), (Value.int .i64 (D.wh.read)), (Value.int .i64 (D.wh.slip)), (Value.int .i64 (D.wh.skew)), (Value.int .i64 (D.wh.circle)), (Value.int .i64 (D.wh.glo)), (Value.int .i64 (D.wh.ghi)), (Value.int .i64 (D.wh.wrong)), .slice C D.wks.length cc])] w fun e w' => e = .returned (.tuple #[(Value.int .i64 (v)), (Value.int .i64 (er))]) ∧ Below w.heap.size w w' := by
  have c0 : Blk (w.alloc (.cells #[.slice A D.cs.length ca, .slice B D.offs.length cb, (Value.int .i64 (D.unit)), (Value.int .i64 (D.wh.full)), (Value.int .i64 (D.wh.read)), (Value.int .i64 (D.wh.slip)), (Value.int .i64 (D.wh.skew)), (Value.int .i64 (D.wh.circle)), (Value.int .i64 (D.wh.glo)), (Value.int .i64 (D.wh.ghi)), (Value.int .i64 (D.wh.wrong)), .slice C D.wks.length cc] 30)) w.heap.size 30 #[.slice A D.cs.length ca, .slice B D.offs.length cb, (Value.int .i64 (D.unit)), (Value.int .i64 (D.wh.full)), (Value.int .i64 (D.wh.read)), (Value.int .i64 (D.wh.slip)), (Value.int .i64 (D.wh.skew)), (Value.int .i64 (D.wh.circle)), (Value.int .i64 (D.wh.glo)), (Value.int .i64 (D.wh.ghi)), (Value.int .i64 (D.wh.wrong)), .slice C D.wks.length cc] := Blk.new _ _ _
  have hb0 : Below w.heap.size w (w.alloc (.cells #[.slice A D.cs.length ca, .slice B D.offs.length cb, (Value.int .i64 (D.unit)), (Value.int .i64 (D.wh.full)), (Value.int .i64 (D.wh.read)), (Value.int .i64 (D.wh.slip)), (Value.int .i64 (D.wh.skew)), (Value.int .i64 (D.wh.circle)), (Value.int .i64 (D.wh.glo)), (Value.int .i64 (D.wh.ghi)), (Value.int .i64 (D.wh.wrong)), .slice C D.wks.length cc] 30)) := by (repeat (first | with_reducible exact Below.refl _ _ | with_reducible apply bl_alloc | with_reducible apply bl_drew | with_reducible apply bl_after | (with_reducible refine bl_call ?_ (by assumption))))
  (have la := c0.lt); (have ya0 := c0.cell 0); (have ya1 := c0.cell 1); (have ya2 := c0.cell 2); (have ya3 := c0.cell 3); (have ya4 := c0.cell 4); (have ya5 := c0.cell 5); (have ya6 := c0.cell 6); (have ya7 := c0.cell 7); (have ya8 := c0.cell 8); (have ya9 := c0.cell 9); (have ya10 := c0.cell 10); (have ya11 := c0.cell 11); simp only [List.getElem?_toArray, List.getElem?_cons_zero, List.getElem?_cons_succ] at ya0 ya1 ya2 ya3 ya4 ya5 ya6 ya7 ya8 ya9 ya10 ya11
  have hal2 := Lib.hid hal
  clear hal
  go_enter Tryz.func33, Tryz.ntmps33
  go_upto_region 2 with ((go_at_call 56); (with_reducible refine Calls.mono hal2.out ?_); rintro e w2 ⟨⟨x, y, z, u1, u2, u3, hx, hy, hv, rfl⟩, hb2⟩)
  have hm := Lib.hid fun (W : World) => many_any x y hx hy W
  have HV := Lib.hid hv
  have c2 := Blk.new w2 75 #[.int .u64 (x : Int), .int .u64 (y : Int), (Value.int .i64 (z))]
  have hbw := bl_alloc (o := .cells #[.int .u64 (x : Int), .int .u64 (y : Int), (Value.int .i64 (z))] 75) (bl_call hb0 hb2)
  clear la ya0 ya1 ya2 ya3 ya4 ya5 ya6 ya7 ya8 ya9 ya10 ya11 c0 hb2 hal2 hb0 hv hx hy
  generalize w2.alloc (.cells #[.int .u64 (x : Int), .int .u64 (y : Int), (Value.int .i64 (z))] 75) = w3 at *
  generalize w2.heap.size = g2 at *
  (have lb := c2.lt); (have yb0 := c2.cell 0); (have yb1 := c2.cell 1); (have yb2 := c2.cell 2); simp only [List.getElem?_toArray, List.getElem?_cons_zero, List.getElem?_cons_succ] at yb0 yb1 yb2
  go_wp2_with ((go_at_call 40); (with_reducible refine Calls.mono (hm.out _) ?_); rintro e wn ⟨rfl, hbn⟩; first | ((with_reducible apply kp_in_step (hb := hbn)); (with_reducible assumption); rintro ⟨hk, hc, hf, hzc, hzf⟩) | ((with_reducible refine kp_in_first hbn ?_); rintro ⟨hk, hc, hf, hzc, hzf⟩))
  go_ret2
  refine ⟨?_, bl_call hbw (by (repeat (first | with_reducible exact Below.refl _ _ | with_reducible apply bl_alloc | with_reducible apply bl_drew | with_reducible apply bl_after | (with_reducible refine bl_call ?_ (by assumption)))))⟩
  rw [HV.out]
  rfl
theorem Corners_any8 (ha : Pts w A D.cs) (hb : Ints w B D.offs) (hc : Wks w C D.wks) : Calls Tryz.prog 33 #[(Value.agg #[.slice A D.cs.length ca, .slice B D.offs.length cb, (Value.int .i64 (D.unit)), (Value.int .i64 (D.wh.full)), (Value.int .i64 (D.wh.read)), (Value.int .i64 (D.wh.slip)), (Value.int .i64 (D.wh.skew)), (Value.int .i64 (D.wh.circle)), (Value.int .i64 (D.wh.glo)), (Value.int .i64 (D.wh.ghi)), (Value.int .i64 (D.wh.wrong)), .slice C D.wks.length cc])] w fun e w' => e = .returned (.tuple #[(Value.int .i64 (lsV D (cnO D))), (Value.int .i64 (lsE D (cnO D)))]) ∧ Below w.heap.size w w' := by
  have hb0 : Below w.heap.size w (w.alloc (.cells #[.slice A D.cs.length ca, .slice B D.offs.length cb, (Value.int .i64 (D.unit)), (Value.int .i64 (D.wh.full)), (Value.int .i64 (D.wh.read)), (Value.int .i64 (D.wh.slip)), (Value.int .i64 (D.wh.skew)), (Value.int .i64 (D.wh.circle)), (Value.int .i64 (D.wh.glo)), (Value.int .i64 (D.wh.ghi)), (Value.int .i64 (D.wh.wrong)), .slice C D.wks.length cc] 30)) := by (repeat (first | with_reducible exact Below.refl _ _ | with_reducible apply bl_alloc | with_reducible apply bl_drew | with_reducible apply bl_after | (with_reducible refine bl_call ?_ (by assumption))))
  have eg := enters_of Tryz.func64 (by kernel_rfl) rfl
  have hz : (0 : Int) = (((bitL 0).length + (bitL 0).length : Nat) : Int) := rfl
  refine Corners_key A B C ca cb cc D w _ _ ?_
  by_cases hD : dspB D = true
  · have hok := dsp_ok hD
    have hg : ∀ k, isK D k → ((fun k : Nat × Nat × Int => k.2.1 == 0) k = true ↔ (toT k).ww = []) := fun k hk => by
      have h3 := isK_lt hok hk
      simp only [beq_iff_eq]
      exact (bitL_nil (by omega)).symm
    by_cases hgx : ∃ k : Nat × Nat × Int, isK D k ∧ (k.2.1 == 0) = true
    · refine (alone_ok A B C ca cb cc D _ (ha.below hb0) (hb.below hb0) (hc.below hb0) 64 (fun k => k.2.1 == 0) eg (fun k W _ => noWalk_any k W) hD hgx).mono fun e w' ⟨⟨k, b, c, l, he, hk, _, _⟩, hbw⟩ => ⟨?_, hbw⟩
      have h3 := isK_lt hok hk.1
      have hmn : cnO D = some (mny k) := only_some (Q := fun t => t.ww = []) hok hg hk
      have e1 : lsV D (cnO D) = ((mny k : Nat) : Int) := by unfold lsV; rw [if_pos hD, hmn]
      have e2 : lsE D (cnO D) = 0 := by unfold lsE; rw [if_pos hD, hmn]
      rw [e1, e2]
      exact ⟨k.1, k.2.1, k.2.2, _, _, _, h3.1, h3.2.1, rfl, he⟩
    · have hno : ∀ k, isK D k → (fun k : Nat × Nat × Int => k.2.1 == 0) k = false := fun k hk => by
        cases h : (fun k : Nat × Nat × Int => k.2.1 == 0) k with
        | false => rfl
        | true => exact absurd ⟨k, hk, h⟩ hgx
      have hmn : cnO D = none := only_none (Q := fun t => t.ww = []) hok hg hno
      have e1 : lsV D (cnO D) = 0 := by unfold lsV; rw [if_pos hD, hmn]
      have e2 : lsE D (cnO D) = 3 := by unfold lsE; rw [if_pos hD, hmn]
      rw [e1, e2]
      by_cases hex : ∃ k, isK D k
      · exact (alone_no A B C ca cb cc D _ (ha.below hb0) (hb.below hb0) (hc.below hb0) 64 (fun k => k.2.1 == 0) eg (fun k W _ => noWalk_any k W) hD hex hno).mono fun e w' ⟨he, hbw⟩ => ⟨⟨0, 0, 0, none, 0, 0, by omega, by omega, hz, he⟩, hbw⟩
      · exact (alone_err A B C ca cb cc D _ (ha.below hb0) (hb.below hb0) (hc.below hb0) 64 3 (.inr ⟨hD, fun k hk => hex ⟨k, hk⟩, rfl⟩)).mono fun e w' ⟨he, hbw⟩ => ⟨⟨0, 0, 0, none, 0, 0, by omega, by omega, hz, he⟩, hbw⟩
  · have e1 : lsV D (cnO D) = 0 := by unfold lsV; rw [if_neg hD]
    have e2 : lsE D (cnO D) = 80 := by unfold lsE; rw [if_neg hD]
    rw [e1, e2]
    exact (alone_err A B C ca cb cc D _ (ha.below hb0) (hb.below hb0) (hc.below hb0) 64 80 (.inl ⟨by simpa using hD, rfl⟩)).mono fun e w' ⟨he, hbw⟩ => ⟨⟨0, 0, 0, none, 0, 0, by omega, by omega, hz, he⟩, hbw⟩
set_option maxRecDepth 100000 in
set_option maxHeartbeats 4000000 in
theorem Walks_key (er v : Int)
    (hal : Calls Tryz.prog 56 #[(Value.agg #[.slice A D.cs.length ca, .slice B D.offs.length cb, (Value.int .i64 (D.unit)), (Value.int .i64 (D.wh.full)), (Value.int .i64 (D.wh.read)), (Value.int .i64 (D.wh.slip)), (Value.int .i64 (D.wh.skew)), (Value.int .i64 (D.wh.circle)), (Value.int .i64 (D.wh.glo)), (Value.int .i64 (D.wh.ghi)), (Value.int .i64 (D.wh.wrong)), .slice C D.wks.length cc]), .func (.func 65) #[] #[]] (w.alloc (.cells #[.slice A D.cs.length ca, .slice B D.offs.length cb, (Value.int .i64 (D.unit)), (Value.int .i64 (D.wh.full)), (Value.int .i64 (D.wh.read)), (Value.int .i64 (D.wh.slip)), (Value.int .i64 (D.wh.skew)), (Value.int .i64 (D.wh.circle)), (Value.int .i64 (D.wh.glo)), (Value.int .i64 (D.wh.ghi)), (Value.int .i64 (D.wh.wrong)), .slice C D.wks.length cc] 30)) fun e w' => (∃ (x y : Nat) (z : Int) (u1 : Option Addr) (u2 u3 : Nat), x < 256 ∧ y < 256 ∧ v = (((bitL x).length + (bitL y).length : Nat) : Int) ∧ e = .returned (.tuple #[.agg #[.int .u64 (x : Int), .int .u64 (y : Int), (Value.int .i64 (z))], .slice u1 u2 u3, (Value.int .i64 (er))])) ∧ Below (w.alloc (.cells #[.slice A D.cs.length ca, .slice B D.offs.length cb, (Value.int .i64 (D.unit)), (Value.int .i64 (D.wh.full)), (Value.int .i64 (D.wh.read)), (Value.int .i64 (D.wh.slip)), (Value.int .i64 (D.wh.skew)), (Value.int .i64 (D.wh.circle)), (Value.int .i64 (D.wh.glo)), (Value.int .i64 (D.wh.ghi)), (Value.int .i64 (D.wh.wrong)), .slice C D.wks.length cc] 30)).heap.size (w.alloc (.cells #[.slice A D.cs.length ca, .slice B D.offs.length cb, (Value.int .i64 (D.unit)), (Value.int .i64 (D.wh.full)), (Value.int .i64 (D.wh.read)), (Value.int .i64 (D.wh.slip)), (Value.int .i64 (D.wh.skew)), (Value.int .i64 (D.wh.circle)), (Value.int .i64 (D.wh.glo)), (Value.int .i64 (D.wh.ghi)), (Value.int .i64 (D.wh.wrong)), .slice C D.wks.length cc] 30)) w') :
    Calls Tryz.prog 34 #[(Value.agg #[.slice A D.cs.length ca, .slice B D.offs.length cb, (Value.int .i64 (D.unit)), (Value.int .i64 (D.wh.full)), (Value.int .i64 (D.wh.read)), (Value.int .i64 (D.wh.slip)), (Value.int .i64 (D.wh.skew)), (Value.int .i64 (D.wh.circle)), (Value.int .i64 (D.wh.glo)), (Value.int .i64 (D.wh.ghi)), (Value.int .i64 (D.wh.wrong)), .slice C D.wks.length cc])] w fun e w' => e = .returned (.tuple #[(Value.int .i64 (v)), (Value.int .i64 (er))]) ∧ Below w.heap.size w w' := by
  have c0 : Blk (w.alloc (.cells #[.slice A D.cs.length ca, .slice B D.offs.length cb, (Value.int .i64 (D.unit)), (Value.int .i64 (D.wh.full)), (Value.int .i64 (D.wh.read)), (Value.int .i64 (D.wh.slip)), (Value.int .i64 (D.wh.skew)), (Value.int .i64 (D.wh.circle)), (Value.int .i64 (D.wh.glo)), (Value.int .i64 (D.wh.ghi)), (Value.int .i64 (D.wh.wrong)), .slice C D.wks.length cc] 30)) w.heap.size 30 #[.slice A D.cs.length ca, .slice B D.offs.length cb, (Value.int .i64 (D.unit)), (Value.int .i64 (D.wh.full)), (Value.int .i64 (D.wh.read)), (Value.int .i64 (D.wh.slip)), (Value.int .i64 (D.wh.skew)), (Value.int .i64 (D.wh.circle)), (Value.int .i64 (D.wh.glo)), (Value.int .i64 (D.wh.ghi)), (Value.int .i64 (D.wh.wrong)), .slice C D.wks.length cc] := Blk.new _ _ _
  have hb0 : Below w.heap.size w (w.alloc (.cells #[.slice A D.cs.length ca, .slice B D.offs.length cb, (Value.int .i64 (D.unit)), (Value.int .i64 (D.wh.full)), (Value.int .i64 (D.wh.read)), (Value.int .i64 (D.wh.slip)), (Value.int .i64 (D.wh.skew)), (Value.int .i64 (D.wh.circle)), (Value.int .i64 (D.wh.glo)), (Value.int .i64 (D.wh.ghi)), (Value.int .i64 (D.wh.wrong)), .slice C D.wks.length cc] 30)) := by (repeat (first | with_reducible exact Below.refl _ _ | with_reducible apply bl_alloc | with_reducible apply bl_drew | with_reducible apply bl_after | (with_reducible refine bl_call ?_ (by assumption))))
  (have la := c0.lt); (have ya0 := c0.cell 0); (have ya1 := c0.cell 1); (have ya2 := c0.cell 2); (have ya3 := c0.cell 3); (have ya4 := c0.cell 4); (have ya5 := c0.cell 5); (have ya6 := c0.cell 6); (have ya7 := c0.cell 7); (have ya8 := c0.cell 8); (have ya9 := c0.cell 9); (have ya10 := c0.cell 10); (have ya11 := c0.cell 11); simp only [List.getElem?_toArray, List.getElem?_cons_zero, List.getElem?_cons_succ] at ya0 ya1 ya2 ya3 ya4 ya5 ya6 ya7 ya8 ya9 ya10 ya11
  have hal2 := Lib.hid hal
  clear hal
  go_enter Tryz.func34, Tryz.ntmps34
  go_upto_region 2 with ((go_at_call 56); (with_reducible refine Calls.mono hal2.out ?_); rintro e w2 ⟨⟨x, y, z, u1, u2, u3, hx, hy, hv, rfl⟩, hb2⟩)
  have hm := Lib.hid fun (W : World) => many_any x y hx hy W
  have HV := Lib.hid hv
  have c2 := Blk.new w2 75 #[.int .u64 (x : Int), .int .u64 (y : Int), (Value.int .i64 (z))]
  have hbw := bl_alloc (o := .cells #[.int .u64 (x : Int), .int .u64 (y : Int), (Value.int .i64 (z))] 75) (bl_call hb0 hb2)
  clear la ya0 ya1 ya2 ya3 ya4 ya5 ya6 ya7 ya8 ya9 ya10 ya11 c0 hb2 hal2 hb0 hv hx hy
  generalize w2.alloc (.cells #[.int .u64 (x : Int), .int .u64 (y : Int), (Value.int .i64 (z))] 75) = w3 at *
  generalize w2.heap.size = g2 at *
  (have lb := c2.lt); (have yb0 := c2.cell 0); (have yb1 := c2.cell 1); (have yb2 := c2.cell 2); simp only [List.getElem?_toArray, List.getElem?_cons_zero, List.getElem?_cons_succ] at yb0 yb1 yb2
  go_wp2_with ((go_at_call 40); (with_reducible refine Calls.mono (hm.out _) ?_); rintro e wn ⟨rfl, hbn⟩; first | ((with_reducible apply kp_in_step (hb := hbn)); (with_reducible assumption); rintro ⟨hk, hc, hf, hzc, hzf⟩) | ((with_reducible refine kp_in_first hbn ?_); rintro ⟨hk, hc, hf, hzc, hzf⟩))
  go_ret2
  refine ⟨?_, bl_call hbw (by (repeat (first | with_reducible exact Below.refl _ _ | with_reducible apply bl_alloc | with_reducible apply bl_drew | with_reducible apply bl_after | (with_reducible refine bl_call ?_ (by assumption)))))⟩
  rw [HV.out]
  rfl
theorem Walks_any8 (ha : Pts w A D.cs) (hb : Ints w B D.offs) (hc : Wks w C D.wks) : Calls Tryz.prog 34 #[(Value.agg #[.slice A D.cs.length ca, .slice B D.offs.length cb, (Value.int .i64 (D.unit)), (Value.int .i64 (D.wh.full)), (Value.int .i64 (D.wh.read)), (Value.int .i64 (D.wh.slip)), (Value.int .i64 (D.wh.skew)), (Value.int .i64 (D.wh.circle)), (Value.int .i64 (D.wh.glo)), (Value.int .i64 (D.wh.ghi)), (Value.int .i64 (D.wh.wrong)), .slice C D.wks.length cc])] w fun e w' => e = .returned (.tuple #[(Value.int .i64 (lsV D (wlO D))), (Value.int .i64 (lsE D (wlO D)))]) ∧ Below w.heap.size w w' := by
  have hb0 : Below w.heap.size w (w.alloc (.cells #[.slice A D.cs.length ca, .slice B D.offs.length cb, (Value.int .i64 (D.unit)), (Value.int .i64 (D.wh.full)), (Value.int .i64 (D.wh.read)), (Value.int .i64 (D.wh.slip)), (Value.int .i64 (D.wh.skew)), (Value.int .i64 (D.wh.circle)), (Value.int .i64 (D.wh.glo)), (Value.int .i64 (D.wh.ghi)), (Value.int .i64 (D.wh.wrong)), .slice C D.wks.length cc] 30)) := by (repeat (first | with_reducible exact Below.refl _ _ | with_reducible apply bl_alloc | with_reducible apply bl_drew | with_reducible apply bl_after | (with_reducible refine bl_call ?_ (by assumption))))
  have eg := enters_of Tryz.func65 (by kernel_rfl) rfl
  have hz : (0 : Int) = (((bitL 0).length + (bitL 0).length : Nat) : Int) := rfl
  refine Walks_key A B C ca cb cc D w _ _ ?_
  by_cases hD : dspB D = true
  · have hok := dsp_ok hD
    have hg : ∀ k, isK D k → ((fun k : Nat × Nat × Int => k.1 == 0) k = true ↔ (toT k).wc = []) := fun k hk => by
      have h3 := isK_lt hok hk
      simp only [beq_iff_eq]
      exact (bitL_nil (by omega)).symm
    by_cases hgx : ∃ k : Nat × Nat × Int, isK D k ∧ (k.1 == 0) = true
    · refine (alone_ok A B C ca cb cc D _ (ha.below hb0) (hb.below hb0) (hc.below hb0) 65 (fun k => k.1 == 0) eg (fun k W _ => noCor_any k W) hD hgx).mono fun e w' ⟨⟨k, b, c, l, he, hk, _, _⟩, hbw⟩ => ⟨?_, hbw⟩
      have h3 := isK_lt hok hk.1
      have hmn : wlO D = some (mny k) := only_some (Q := fun t => t.wc = []) hok hg hk
      have e1 : lsV D (wlO D) = ((mny k : Nat) : Int) := by unfold lsV; rw [if_pos hD, hmn]
      have e2 : lsE D (wlO D) = 0 := by unfold lsE; rw [if_pos hD, hmn]
      rw [e1, e2]
      exact ⟨k.1, k.2.1, k.2.2, _, _, _, h3.1, h3.2.1, rfl, he⟩
    · have hno : ∀ k, isK D k → (fun k : Nat × Nat × Int => k.1 == 0) k = false := fun k hk => by
        cases h : (fun k : Nat × Nat × Int => k.1 == 0) k with
        | false => rfl
        | true => exact absurd ⟨k, hk, h⟩ hgx
      have hmn : wlO D = none := only_none (Q := fun t => t.wc = []) hok hg hno
      have e1 : lsV D (wlO D) = 0 := by unfold lsV; rw [if_pos hD, hmn]
      have e2 : lsE D (wlO D) = 3 := by unfold lsE; rw [if_pos hD, hmn]
      rw [e1, e2]
      by_cases hex : ∃ k, isK D k
      · exact (alone_no A B C ca cb cc D _ (ha.below hb0) (hb.below hb0) (hc.below hb0) 65 (fun k => k.1 == 0) eg (fun k W _ => noCor_any k W) hD hex hno).mono fun e w' ⟨he, hbw⟩ => ⟨⟨0, 0, 0, none, 0, 0, by omega, by omega, hz, he⟩, hbw⟩
      · exact (alone_err A B C ca cb cc D _ (ha.below hb0) (hb.below hb0) (hc.below hb0) 65 3 (.inr ⟨hD, fun k hk => hex ⟨k, hk⟩, rfl⟩)).mono fun e w' ⟨he, hbw⟩ => ⟨⟨0, 0, 0, none, 0, 0, by omega, by omega, hz, he⟩, hbw⟩
  · have e1 : lsV D (wlO D) = 0 := by unfold lsV; rw [if_neg hD]
    have e2 : lsE D (wlO D) = 80 := by unfold lsE; rw [if_neg hD]
    rw [e1, e2]
    exact (alone_err A B C ca cb cc D _ (ha.below hb0) (hb.below hb0) (hc.below hb0) 65 80 (.inl ⟨by simpa using hD, rfl⟩)).mono fun e w' ⟨he, hbw⟩ => ⟨⟨0, 0, 0, none, 0, 0, by omega, by omega, hz, he⟩, hbw⟩
end
end Go.Proofs.YthijegacjboclaaGreat
