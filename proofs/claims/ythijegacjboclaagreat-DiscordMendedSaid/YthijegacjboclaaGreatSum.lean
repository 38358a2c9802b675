/- The function corners.sum adds up what each side gives, for at most ten points with numbers up to 200. -/
import Derived.Test.YthijegacjboclaaGreatSides
namespace Go.Proofs.YthijegacjboclaaGreat
open Go.RowKit Go.Shelf
attribute [local go_sem] After.cell After.frozen Oper.semAt_some wide_fn wide_depth Fence.inRound_fn Fence.inRound_depth

def cross (a b : Pt) : Int := a.1 * b.2 - a.2 * b.1
/-- What the first k sides give. -/
def sumTo (f : Pt → Pt → Int) (l : List Pt) : Nat → Int
  | 0 => 0
  | k + 1 => sumTo f l k + f (pat l k) (pat l (nxt l k)) * cross (pat l k) (pat l (nxt l k))
def sumOf (f : Pt → Pt → Int) (l : List Pt) : Int := sumTo f l l.length

theorem cross_bd2 {a b : Pt} (ha : isPt a = true) (hb : isPt b = true) : (-40000 ≤ a.1 * b.2 ∧ a.1 * b.2 ≤ 40000) ∧ (-40000 ≤ a.2 * b.1 ∧ a.2 * b.1 ≤ 40000) := by
  have a0 := isPt_bd ha
  have b0 := isPt_bd hb
  exact ⟨mul_bd (A := 200) (B := 200) (by omega) (by omega) (by omega) (by omega), mul_bd (A := 200) (B := 200) (by omega) (by omega) (by omega) (by omega)⟩
theorem cross_bd1 {a b : Pt} (ha : isPt a = true) (hb : isPt b = true) : -80000 ≤ cross a b ∧ cross a b ≤ 80000 := by
  have := cross_bd2 ha hb
  unfold cross
  omega
theorem sumTo_bd {f : Pt → Pt → Int} {l : List Pt} (h : ∀ i, i < l.length → isPt (pat l i) = true) (hf : ∀ a b, isPt a = true → isPt b = true → -1000000 ≤ f a b ∧ f a b ≤ 1000000) :
    ∀ k, k ≤ l.length → -(80000000000 * (k : Int)) ≤ sumTo f l k ∧ sumTo f l k ≤ 80000000000 * (k : Int)
  | 0, _ => by simp [sumTo]
  | k + 1, hk => by
    have ih := sumTo_bd h hf k (by omega)
    have h1 := h k (by omega)
    have h2 := h (nxt l k) (nxt_lt k (by omega))
    have h3 := cross_bd1 h1 h2
    have h4 := hf _ _ h1 h2
    have h5 := mul_bd (A := 1000000) (B := 80000) h4.1 h4.2 h3.1 h3.2
    simp only [sumTo]
    omega

set_option maxRecDepth 100000 in
set_option maxHeartbeats 1000000 in
theorem sum_any (b o ca : Nat) (l : List Pt) (cf : Nat) (lb : Array Value) (f : Pt → Pt → Int) (w : World) (hn : 0 < l.length) (hl : l.length ≤ 10) (hp : PtsAt w b o l)
    (hpt : ∀ i, i < l.length → isPt (pat l i) = true) (hf : ∀ a b, isPt a = true → isPt b = true → -1000000 ≤ f a b ∧ f a b ≤ 1000000)
    (eg : ∀ args w, (callFunc cf args).run Tryz.prog w = .ok (.enter cf args) w)
    (hof : ∀ (p q : Pt) (W : World), isPt p = true → isPt q = true → Below w.heap.size w W → Calls Tryz.prog cf (#[(Value.agg #[.int .i64 p.1, .int .i64 p.2]), (Value.agg #[.int .i64 q.1, .int .i64 q.2])] ++ lb) W fun e w' => e = .returned (Value.int .i64 (f p q)) ∧ Below W.heap.size W w') :
    Calls Tryz.prog 123 #[.slice (some ⟨b, o, none⟩) l.length ca, .func (.func cf) #[] lb] w fun e w' => e = .returned (Value.int .i64 (sumOf f l)) ∧ Below w.heap.size w w' := by
  refine (callsIn_wide (n := 0)).1 ?_; refine callsIn_of_wp_marks Tryz.func123 rfl trivial ?_ rfl; simp only [Tryz.ntmps123, List.size_toArray, List.length_cons, List.length_nil, Nat.reduceAdd, Nat.reduceSub, Array.replicate_succ, Array.replicate_zero, List.push_toArray, List.append_toArray, List.nil_append, List.cons_append]
  gi_wp2_with (gi_at_call 101; (first | with_reducible refine CallsIn.mono (callsIn_wide.2 (sides_any _ _ _ _)) ?_ | with_reducible refine CallsIn.mono (callsIn_rnd (sides_any _ _ _ _)) ?_); rintro e w' ⟨rfl, rfl⟩)
  have b0 : Blk (((w.alloc (.cells #[.func (.func cf) #[] lb] 165)).alloc (.cells #[(Value.int .i64 (0))] 3)).alloc (.cells #[.slice (some ⟨b, o, none⟩) l.length ca] 22)) w.heap.size 165 #[.func (.func cf) #[] lb] := ((Blk.new _ _ _).alloc _).alloc _
  have b1 : Blk (((w.alloc (.cells #[.func (.func cf) #[] lb] 165)).alloc (.cells #[(Value.int .i64 (0))] 3)).alloc (.cells #[.slice (some ⟨b, o, none⟩) l.length ca] 22)) (w.heap.size + 1) 3 #[(Value.int .i64 (0))] := by have h := (Blk.new (w.alloc (.cells #[.func (.func cf) #[] lb] 165)) 3 #[(Value.int .i64 (0))]).alloc (.cells #[.slice (some ⟨b, o, none⟩) l.length ca] 22); simpa using h
  have b2 : Blk (((w.alloc (.cells #[.func (.func cf) #[] lb] 165)).alloc (.cells #[(Value.int .i64 (0))] 3)).alloc (.cells #[.slice (some ⟨b, o, none⟩) l.length ca] 22)) (w.heap.size + 1 + 1) 22 #[.slice (some ⟨b, o, none⟩) l.length ca] := by have h := Blk.new ((w.alloc (.cells #[.func (.func cf) #[] lb] 165)).alloc (.cells #[(Value.int .i64 (0))] 3)) 22 #[.slice (some ⟨b, o, none⟩) l.length ca]; simpa using h
  have hbW : Below w.heap.size w (((w.alloc (.cells #[.func (.func cf) #[] lb] 165)).alloc (.cells #[(Value.int .i64 (0))] 3)).alloc (.cells #[.slice (some ⟨b, o, none⟩) l.length ca] 22)) := by (repeat (first | with_reducible exact Below.refl _ _ | with_reducible apply bl_alloc | with_reducible apply bl_drew | with_reducible apply bl_after | (with_reducible refine bl_call ?_ (by assumption))))
  generalize ((w.alloc (.cells #[.func (.func cf) #[] lb] 165)).alloc (.cells #[(Value.int .i64 (0))] 3)).alloc (.cells #[.slice (some ⟨b, o, none⟩) l.length ca] 22) = W0 at b0 b1 b2 hbW ⊢
  refine range_list (gf := 119) (lb := #[.pointer (some ⟨w.heap.size + 1 + 1, 0, none⟩)]) rfl (enters_of Tryz.func119 (by kernel_rfl) rfl) (sides_iter (w.heap.size + 1 + 1) b o ca l hn (by omega)) (fun _ => rfl)
    (fun k W => Blk W w.heap.size 165 #[.func (.func cf) #[] lb] ∧ Blk W (w.heap.size + 1) 3 #[(Value.int .i64 (sumTo f l k))] ∧ Blk W (w.heap.size + 1 + 1) 22 #[.slice (some ⟨b, o, none⟩) l.length ca] ∧ Below w.heap.size w W)
    (fun _ _ => False)
    (fun k W W' h hs => ⟨hs.blk h.1, hs.blk h.2.1, hs.blk h.2.2.1, hs.below h.2.2.2 hbW.size⟩)
    (fun _ _ _ h _ => h)
    (fun k W h => ⟨h.2.2.1.cell 0, h.2.2.1.lt, hp.below h.2.2.2⟩)
    ⟨b0, b1, b2, hbW⟩ ?round ?done (fun _ _ _ _ h _ => h.elim)
  case round =>
    rintro lp k x W hx hle ⟨r, hr⟩ ⟨c0, c1, c2, hbk⟩
    have hkl : k < l.length := by
      have := (List.getElem?_eq_some_iff.1 hx).1
      rwa [sidesOf_len] at this
    rw [sidesOf_get hkl] at hx
    cases hx
    have hkn : nxt l k < l.length := nxt_lt k hn
    have p1 := hpt k hkl
    have p2 := hpt _ hkn
    have z0 := c0.lt
    have z1 := c1.lt
    dsimp only [sideArgs]
    gi_wp2
    refine ⟨by (repeat (first | with_reducible exact KeepsFrom.refl _ _ | with_reducible apply kf_alloc | with_reducible apply kf_set | with_reducible apply kf_drew | with_reducible apply kf_after | (with_reducible refine kf_call ?_ (by assumption)))), fun r1 r2 hr1 => ?_⟩
    have st := Step.put (o' := .loop r2) hr1 rfl hle
    replace c0 := st.blk (c0.alloc _)
    replace c1 := st.blk (c1.alloc _)
    replace c2 := st.blk (c2.alloc _)
    have c3 := st.blk (Blk.new W 146 #[(Value.int .i64 ((pat l k).1)), (Value.int .i64 ((pat l k).2)), (Value.int .i64 ((pat l (nxt l k)).1)), (Value.int .i64 ((pat l (nxt l k)).2))])
    replace hbk := st.below (bl_alloc hbk) hbW.size
    generalize (W.alloc (.cells #[(Value.int .i64 ((pat l k).1)), (Value.int .i64 ((pat l k).2)), (Value.int .i64 ((pat l (nxt l k)).1)), (Value.int .i64 ((pat l (nxt l k)).2))] 146)).putObj lp (.loop r2) = W2 at c0 c1 c2 c3 hbk ⊢
    have x0 := c0.cell 0
    have x1 := c1.cell 0
    have x3 := c3.cell 0
    have x4 := c3.cell 1
    have x5 := c3.cell 2
    have x6 := c3.cell 3
    have l0 := c0.lt
    have l1 := c1.lt
    have l3 := c3.lt
    have f1 := c1.frozen 0
    have q1 := cross_bd2 p1 p2
    have q2 := cross_bd1 p1 p2
    have q3 := hf _ _ p1 p2
    have q4 := mul_bd (A := 1000000) (B := 80000) q3.1 q3.2 q2.1 q2.2
    have q5 := sumTo_bd hpt hf k (by omega)
    unfold cross at q2 q4
    have m1 := wrap64_in (x := (pat l k).1 * (pat l (nxt l k)).2) (by omega) (by omega)
    have m2 := wrap64_in (x := (pat l k).2 * (pat l (nxt l k)).1) (by omega) (by omega)
    have m3 := wrap64_in (x := f (pat l k) (pat l (nxt l k)) * ((pat l k).1 * (pat l (nxt l k)).2 - (pat l k).2 * (pat l (nxt l k)).1)) (by omega) (by omega)
    gi_wp2
    (first | refine wpIn_tail_w 24 (by kernel_rfl) (by kernel_rfl) (by kernel_rfl) ?_ | refine wpIn_tail_r 24 (by kernel_rfl) (by kernel_rfl) (by kernel_rfl) ?_); simp only [List.take_succ_cons, List.take_zero, List.drop_succ_cons, List.drop_zero]; (repeat (go_big_quiet_step (((with_reducible exact calls_after (hof _ _ _ p1 p2 (by (repeat (first | with_reducible exact Below.refl _ _ | with_reducible apply bl_alloc | with_reducible apply bl_drew | with_reducible apply bl_after | (with_reducible refine bl_call ?_ (by assumption))))))))))); refine wpQuiet_nil ?_; rintro _ ⟨z, rfl⟩; (first | ((with_reducible apply kp_in_after (z := z)); (with_reducible assumption); rintro ⟨hk, hc, hf, hzc, hzf⟩) | ((with_reducible refine kp_in_after0 z ?_); rintro ⟨hk, hc, hf, hzc, hzf⟩))
    gi_wp2
    refine ⟨by (repeat (first | with_reducible exact KeepsFrom.refl _ _ | with_reducible apply kf_alloc | with_reducible apply kf_set | with_reducible apply kf_drew | with_reducible apply kf_after | (with_reducible refine kf_call ?_ (by assumption)))), (c0.below hk.b).far (by simp) _, ?_, (c2.below hk.b).far (by simp) _, ?_⟩
    · have h := (c1.below hk.b).set_ 0 (Value.int .i64 (sumTo f l (k + 1)))
      simpa [sumTo, cross] using h
    · exact (bl_after z hbk).setCell (p := ⟨w.heap.size + 1, 0, none⟩) (by simp) _
  case done =>
    rintro D W hD ⟨c0, c1, c2, hbk⟩ hK
    rw [sidesOf_len] at c1
    have x1 := c1.cell 0
    gi_wp2
    refine ⟨by simp, .inl ⟨_, _, rfl, run_takeDeferred hK, ?_⟩⟩
    exact ⟨_, results_tmp rfl _ _ _, rfl, bl_put hbk hK (by have := hbW.size; omega)⟩
end Go.Proofs.YthijegacjboclaaGreat
