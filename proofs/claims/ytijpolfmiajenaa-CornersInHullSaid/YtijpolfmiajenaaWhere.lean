/- The function corners.Where answers how a point lies to a valid polygon, and the errors else. -/
import Derived.Test.YtijpolfmiajenaaSides
import Derived.Test.YtijpolfmiajenaaCheck
namespace Go.Proofs.Ytijpolfmiajenaa
open Go.RowKit Go.Shelf
attribute [local go_sem] After.cell After.frozen Oper.semAt_some wide_fn wide_depth Fence.inRound_fn Fence.inRound_depth

/-- The side from a to b is crossed by what goes from q to the right. -/
def crs (a b q : Pt) : Bool := (decide (q.2 < a.2) != decide (q.2 < b.2)) && (decide (0 < turn a b q) == decide (a.2 < b.2))
def cntTo (l : List Pt) (q : Pt) : Nat → Nat
  | 0 => 0
  | k + 1 => cntTo l q k + (if crs (pat l k) (pat l (nxt l k)) q then 1 else 0)
def onSome (l : List Pt) (q : Pt) : Prop := ∃ i, i < l.length ∧ has (pat l i) (pat l (nxt l i)) q = true
instance (l : List Pt) (q : Pt) : Decidable (onSome l q) := decidable_of_iff (∃ i : Fin l.length, has (pat l i) (pat l (nxt l i)) q = true) ⟨fun ⟨i, h⟩ => ⟨i, i.2, h⟩, fun ⟨i, h, g⟩ => ⟨⟨i, h⟩, g⟩⟩
def whereOf (l : List Pt) (q : Pt) : Int := if onSome l q then 2 else if cntTo l q l.length % 2 = 1 then 1 else 3
theorem cntTo_le (l : List Pt) (q : Pt) : ∀ k, cntTo l q k ≤ k
  | 0 => Nat.le_refl 0
  | k + 1 => by
    have := cntTo_le l q k
    unfold cntTo
    split <;> omega

theorem turn_swap (a b q : Pt) : turn b a q = - turn a b q := by
  obtain ⟨a1, a2⟩ := a
  obtain ⟨b1, b2⟩ := b
  obtain ⟨q1, q2⟩ := q
  simp only [turn, Int.sub_mul, Int.mul_sub, Int.mul_comm b1 a2, Int.mul_comm b2 a1, Int.mul_comm b1 b2, Int.mul_comm a1 a2]
  omega
/-- A number times something above 0 lies between the bounds, if the number's times a lesser does. -/
theorem has_of_zero {a b q : Pt} (h : turn a b q = 0) (h2 : (b.2 ≤ q.2 ∧ q.2 < a.2) ∨ (a.2 ≤ q.2 ∧ q.2 < b.2)) : has a b q = true := by
  have key : ∀ x y u v : Int, u * v = x * y → 0 ≤ u → u ≤ x → 0 < x → (0 ≤ v → 0 ≤ y ∧ y ≤ v) ∧ (v ≤ 0 → v ≤ y ∧ y ≤ 0) := by
    intro x y u v e h0 h1 hx
    constructor
    · intro hv
      have h1' : 0 ≤ x * y := e ▸ Int.mul_nonneg h0 hv
      have h2' : 0 ≤ y := Int.not_lt.1 fun hy => by have := Int.mul_neg_of_pos_of_neg hx hy; omega
      have h3' : u * v ≤ x * v := Int.mul_le_mul_of_nonneg_right h1 hv
      exact ⟨h2', Int.le_of_mul_le_mul_left (a := x) (by omega) hx⟩
    · intro hv
      have h3 : x * v ≤ u * v := Int.mul_le_mul_of_nonpos_right h1 hv
      have h4 : x * y ≤ 0 := e ▸ Int.mul_nonpos_of_nonneg_of_nonpos h0 hv
      exact ⟨Int.le_of_mul_le_mul_left (a := x) (by omega) hx, Int.not_lt.1 fun hy => by have := Int.mul_pos hx hy; omega⟩
  unfold turn at h
  have hh := h
  unfold has turn within
  rcases h2 with ⟨h2, h3⟩ | ⟨h2, h3⟩
  · have k := key (a.2 - b.2) (q.1 - a.1) (a.2 - q.2) (b.1 - a.1) (by
      have e1 : (a.2 - q.2) * (b.1 - a.1) = -((b.1 - a.1) * (q.2 - a.2)) := by rw [Int.mul_comm, ← Int.mul_neg]; congr 1; omega
      have e2 : (a.2 - b.2) * (q.1 - a.1) = -((b.2 - a.2) * (q.1 - a.1)) := by rw [← Int.neg_mul]; congr 1; omega
      omega) (by omega) (by omega) (by omega)
    simp only [hh, Bool.and_eq_true, decide_eq_true_eq, beq_iff_eq, true_and]
    rcases Int.le_total 0 (b.1 - a.1) with hv | hv
    · have k1 := k.1 hv
      omega
    · have k1 := k.2 hv
      omega
  · have k := key (b.2 - a.2) (q.1 - a.1) (q.2 - a.2) (b.1 - a.1) (by rw [Int.mul_comm]; omega) (by omega) (by omega) (by omega)
    simp only [hh, Bool.and_eq_true, decide_eq_true_eq, beq_iff_eq, true_and]
    rcases Int.le_total 0 (b.1 - a.1) with hv | hv
    · have k1 := k.1 hv
      omega
    · have k1 := k.2 hv
      omega
theorem crs_down {a b q : Pt} (h : has a b q = false) (h1 : b.2 < a.2) : crs a b q = (decide (b.2 ≤ q.2) && decide (q.2 < a.2) && decide (0 < turn b a q)) := by
  unfold crs
  rw [turn_swap a b q, Bool.eq_iff_iff]
  simp only [Bool.and_eq_true, bne_iff_ne, ne_eq, beq_iff_eq, decide_eq_true_eq, decide_eq_decide]
  constructor
  · rintro ⟨h2, h3⟩
    have h4 : b.2 ≤ q.2 ∧ q.2 < a.2 := by by_cases q.2 < a.2 <;> by_cases q.2 < b.2 <;> simp_all <;> omega
    refine ⟨h4, ?_⟩
    have : turn a b q ≠ 0 := fun h0 => by rw [has_of_zero h0 (.inl h4)] at h; cases h
    have : ¬ (0 < turn a b q) := fun h5 => by have := h3.1 h5; omega
    omega
  · rintro ⟨h4, h5⟩
    refine ⟨fun h6 => ?_, ?_⟩
    · have := h6.1 h4.2; omega
    · constructor <;> intro <;> omega
theorem crs_up {a b q : Pt} (h1 : a.2 ≤ b.2) : crs a b q = (decide (a.2 ≤ q.2) && decide (q.2 < b.2) && decide (0 < turn a b q)) := by
  unfold crs
  rw [Bool.eq_iff_iff]
  simp only [Bool.and_eq_true, bne_iff_ne, ne_eq, beq_iff_eq, decide_eq_true_eq, decide_eq_decide]
  constructor
  · rintro ⟨h2, h3⟩
    have h4 : a.2 ≤ q.2 ∧ q.2 < b.2 := by by_cases q.2 < a.2 <;> by_cases q.2 < b.2 <;> simp_all <;> omega
    exact ⟨h4, h3.2 (by omega)⟩
  · rintro ⟨h4, h5⟩
    refine ⟨fun h6 => ?_, ?_⟩
    · have := h6.2 h4.2; omega
    · constructor <;> intro <;> omega

def SIDE (a b : Pt) : Array Value := #[(Value.int .i64 (a.1)), (Value.int .i64 (a.2)), (Value.int .i64 (b.1)), (Value.int .i64 (b.2))]

set_option maxRecDepth 100000 in
set_option maxHeartbeats 2000000 in
theorem Where_ok (b o ca : Nat) (l : List Pt) (q : Pt) (w : World) (hp : PtsAt w b o l) (hok : Ok l) (hq : isPt q = true) :
    Calls Try.prog 25 #[.slice (some ⟨b, o, none⟩) l.length ca, (Value.agg #[.int .i64 q.1, .int .i64 q.2])] w fun e w' => e = .returned (.tuple #[(Value.int .i64 (whereOf l q)), (Value.int .i64 (0))]) ∧ Below w.heap.size w w' := by
  have h0l : 0 < l.length := by have := hok.1; omega
  have hl10 : l.length ≤ 10 := by have := hok.1; omega
  have hc := fun W hW => Check_any (some ⟨b, o, none⟩) ca l W (.inr ⟨b, o, rfl, hp.below (w' := W) hW⟩) (by have := hok.1; omega)
  rw [chk_ok hok] at hc
  have HP := Lib.hid hok.2.1
  clear hok
  replace hc := Lib.hid hc
  refine (callsIn_wide (n := 0)).1 ?_; refine callsIn_of_wp_marks Try.func25 rfl trivial ?_ rfl; simp only [Try.ntmps25, List.size_toArray, List.length_cons, List.length_nil, Nat.reduceAdd, Nat.reduceSub, Array.replicate_succ, Array.replicate_zero, List.push_toArray, List.append_toArray, List.nil_append, List.cons_append]
  gi_wp2_with (first | (gi_at_call 22; (first | with_reducible refine CallsIn.mono (callsIn_wide.2 (hc.out _ (by (repeat (first | with_reducible exact Below.refl _ _ | with_reducible apply bl_alloc | with_reducible apply bl_drew | with_reducible apply bl_after | (with_reducible refine bl_call ?_ (by assumption))))))) ?_ | with_reducible refine CallsIn.mono (callsIn_rnd (hc.out _ (by (repeat (first | with_reducible exact Below.refl _ _ | with_reducible apply bl_alloc | with_reducible apply bl_drew | with_reducible apply bl_after | (with_reducible refine bl_call ?_ (by assumption))))))) ?_); rintro e w1 ⟨rfl, hb1⟩; first | ((with_reducible apply kp_in_step (hb := hb1)); (with_reducible assumption); rintro ⟨hk, hc, hf, hzc, hzf⟩) | ((with_reducible refine kp_in_first hb1 ?_); rintro ⟨hk, hc, hf, hzc, hzf⟩)) | (gi_at_call 52; (first | with_reducible refine CallsIn.mono (callsIn_wide.2 (isPoint_any _ _)) ?_ | with_reducible refine CallsIn.mono (callsIn_rnd (isPoint_any _ _)) ?_); rintro e w1 ⟨rfl, hb1⟩; first | ((with_reducible apply kp_in_step (hb := hb1)); (with_reducible assumption); rintro ⟨hk, hc, hf, hzc, hzf⟩) | ((with_reducible refine kp_in_first hb1 ?_); rintro ⟨hk, hc, hf, hzc, hzf⟩)) | (gi_at_call 47; (first | with_reducible refine CallsIn.mono (callsIn_wide.2 (sides_any _ _ _ _)) ?_ | with_reducible refine CallsIn.mono (callsIn_rnd (sides_any _ _ _ _)) ?_); rintro e w' ⟨rfl, rfl⟩))
  have b0 : Blk ((w1.alloc (.cells #[(Value.int .i64 (0))] 3)).alloc (.cells #[.slice (some ⟨b, o, none⟩) l.length ca] 22)) w.heap.size 33 #[(Value.int .i64 (q.1)), (Value.int .i64 (q.2))] := (((((((Blk.new w _ _).alloc _).alloc _)).below (by assumption)).below (by assumption)).alloc _).alloc _
  have b1 : Blk ((w1.alloc (.cells #[(Value.int .i64 (0))] 3)).alloc (.cells #[.slice (some ⟨b, o, none⟩) l.length ca] 22)) (w.heap.size + 1) 3 #[(Value.int .i64 (0))] := by
    have h := (((((Blk.new (w.alloc (.cells #[(Value.int .i64 (q.1)), (Value.int .i64 (q.2))] 33)) 3 #[(Value.int .i64 (0))]).alloc (.cells #[(Value.int .i64 (0))] 25)).below (by assumption)).below (w' := w1) (by assumption)).alloc (.cells #[(Value.int .i64 (0))] 3)).alloc (.cells #[.slice (some ⟨b, o, none⟩) l.length ca] 22)
    simpa using h
  have b2 : Blk ((w1.alloc (.cells #[(Value.int .i64 (0))] 3)).alloc (.cells #[.slice (some ⟨b, o, none⟩) l.length ca] 22)) (w.heap.size + 1 + 1) 25 #[(Value.int .i64 (0))] := by
    have h := ((((Blk.new ((w.alloc (.cells #[(Value.int .i64 (q.1)), (Value.int .i64 (q.2))] 33)).alloc (.cells #[(Value.int .i64 (0))] 3)) 25 #[(Value.int .i64 (0))]).below (by assumption)).below (w' := w1) (by assumption)).alloc (.cells #[(Value.int .i64 (0))] 3)).alloc (.cells #[.slice (some ⟨b, o, none⟩) l.length ca] 22)
    simpa using h
  have b3 : Blk ((w1.alloc (.cells #[(Value.int .i64 (0))] 3)).alloc (.cells #[.slice (some ⟨b, o, none⟩) l.length ca] 22)) w1.heap.size 3 #[(Value.int .i64 (0))] := (Blk.new _ _ _).alloc _
  have b4 : Blk ((w1.alloc (.cells #[(Value.int .i64 (0))] 3)).alloc (.cells #[.slice (some ⟨b, o, none⟩) l.length ca] 22)) (w1.heap.size + 1) 22 #[.slice (some ⟨b, o, none⟩) l.length ca] := by have h := Blk.new (w1.alloc (.cells #[(Value.int .i64 (0))] 3)) 22 #[.slice (some ⟨b, o, none⟩) l.length ca]; simpa using h
  have hbW : Below w.heap.size w ((w1.alloc (.cells #[(Value.int .i64 (0))] 3)).alloc (.cells #[.slice (some ⟨b, o, none⟩) l.length ca] 22)) := by (repeat (first | with_reducible exact Below.refl _ _ | with_reducible apply bl_alloc | with_reducible apply bl_drew | with_reducible apply bl_after | (with_reducible refine bl_call ?_ (by assumption))))
  have hsz : w.heap.size + 1 + 1 < w1.heap.size := by
    have h2 : Below w.heap.size w w1 := by (repeat (first | with_reducible exact Below.refl _ _ | with_reducible apply bl_alloc | with_reducible apply bl_drew | with_reducible apply bl_after | (with_reducible refine bl_call ?_ (by assumption))))
    have h1 := hk.1.size
    simp only [World.size_alloc] at h1
    omega
  generalize ((w1.alloc (.cells #[(Value.int .i64 (0))] 3)).alloc (.cells #[.slice (some ⟨b, o, none⟩) l.length ca] 22)) = W0 at b0 b1 b2 b3 b4 hbW ⊢
  generalize w1.heap.size = g3 at b3 b4 hsz ⊢
  clear hk hc hf hzc hzf hb1
  clear hk hc hf hzc hzf hb1
  clear hc
  refine range_list (gf := 86) (lb := #[.pointer (some ⟨g3 + 1, 0, none⟩)]) rfl (enters_of Try.func86 (by kernel_rfl) rfl) (sides_iter (g3 + 1) b o ca l h0l (by omega)) (fun _ => rfl)
    (fun k W => (Blk W w.heap.size 33 #[(Value.int .i64 (q.1)), (Value.int .i64 (q.2))] ∧ Blk W (w.heap.size + 1) 3 #[(Value.int .i64 (0))] ∧ Blk W (w.heap.size + 1 + 1) 25 #[(Value.int .i64 (0))] ∧ Blk W g3 3 #[(Value.int .i64 ((cntTo l q k : Int)))] ∧ Blk W (g3 + 1) 22 #[.slice (some ⟨b, o, none⟩) l.length ca] ∧ Below w.heap.size w W) ∧ ∀ i, i < k → has (pat l i) (pat l (nxt l i)) q = false)
    (fun c W => c = .ret ∧ Blk W (w.heap.size + 1) 3 #[(Value.int .i64 (2))] ∧ Blk W (w.heap.size + 1 + 1) 25 #[(Value.int .i64 (0))] ∧ Below w.heap.size w W ∧ onSome l q)
    (fun k W W' h hs => ⟨⟨hs.blk h.1.1, hs.blk h.1.2.1, hs.blk h.1.2.2.1, hs.blk h.1.2.2.2.1, hs.blk h.1.2.2.2.2.1, hs.below h.1.2.2.2.2.2 hbW.size⟩, h.2⟩)
    (fun c W W' h hs => ⟨h.1, hs.blk h.2.1, hs.blk h.2.2.1, hs.below h.2.2.2.1 hbW.size, h.2.2.2.2⟩)
    (fun k W h => ⟨h.1.2.2.2.2.1.cell 0, h.1.2.2.2.2.1.lt, hp.below h.1.2.2.2.2.2⟩)
    ⟨⟨b0, b1, b2, b3, b4, hbW⟩, fun i hi => absurd hi (by omega)⟩ ?round ?done ?stop
  case done =>
    rintro D W hD ⟨⟨c0, c1, c2, c3, c4, hbk⟩, hrow⟩ hK
    rw [sidesOf_len] at c3 hrow
    have hn : ¬ onSome l q := fun ⟨i, hi, h⟩ => by rw [hrow i hi] at h; cases h
    clear hrow
    have hcn := cntTo_le l q l.length
    have x3 := c3.cell 0
    have l3 := c3.lt
    have f1 := c1.frozen 0
    have f2 := c2.frozen 0
    have x1 := c1.cell 0
    have x2 := c2.cell 0
    have KEY : ∀ v : Int, ((W.setCell ⟨w.heap.size + 1, 0, none⟩ (Value.int .i64 (v))).setCell ⟨w.heap.size + 1 + 1, 0, none⟩ (Value.int .i64 (0))).heap[D]? = some (.deferred (some [])) ∧
        (((W.setCell ⟨w.heap.size + 1, 0, none⟩ (Value.int .i64 (v))).setCell ⟨w.heap.size + 1 + 1, 0, none⟩ (Value.int .i64 (0))).putObj D (.deferred none)).cell? ⟨w.heap.size + 1, 0, none⟩ = some (Value.int .i64 (v)) ∧
        (((W.setCell ⟨w.heap.size + 1, 0, none⟩ (Value.int .i64 (v))).setCell ⟨w.heap.size + 1 + 1, 0, none⟩ (Value.int .i64 (0))).putObj D (.deferred none)).cell? ⟨w.heap.size + 1 + 1, 0, none⟩ = some (Value.int .i64 (0)) ∧
        Below w.heap.size w (((W.setCell ⟨w.heap.size + 1, 0, none⟩ (Value.int .i64 (v))).setCell ⟨w.heap.size + 1 + 1, 0, none⟩ (Value.int .i64 (0))).putObj D (.deferred none)) := by
      intro v
      have hK2 : ((W.setCell ⟨w.heap.size + 1, 0, none⟩ (Value.int .i64 (v))).setCell ⟨w.heap.size + 1 + 1, 0, none⟩ (Value.int .i64 (0))).heap[D]? = some (.deferred (some [])) := (KeepsOthers.setCell _ _ _).same _ _ ((KeepsOthers.setCell _ _ _).same _ _ hK rfl) rfl
      have st := Step.put (B := W0.heap.size) (o' := .deferred none) hK2 rfl hD
      have e1 := (st.blk ((c1.set_ 0 (Value.int .i64 (v))).far (p := ⟨w.heap.size + 1 + 1, 0, none⟩) (by simp) (Value.int .i64 (0)))).cell 0
      have e2 := (st.blk ((c2.far (p := ⟨w.heap.size + 1, 0, none⟩) (by simp) (Value.int .i64 (v))).set_ 0 (Value.int .i64 (0)))).cell 0
      exact ⟨hK2, by simpa using e1, by simpa using e2, bl_put (o' := .deferred none) ((hbk.setCell (p := ⟨w.heap.size + 1, 0, none⟩) (by simp) (Value.int .i64 (v))).setCell (p := ⟨w.heap.size + 1 + 1, 0, none⟩) (by simp; omega) (Value.int .i64 (0))) hK2 (by have := hbW.size; omega)⟩
    replace KEY := Lib.hid KEY
    have l1 := c1.lt
    have l2 := c2.lt
    gi_wp2
    · have hq : ((cntTo l q l.length : Int) % 2 == 1) = true := by assumption
      simp only [beq_iff_eq] at hq
      obtain ⟨hK2, x5, x6, hb5⟩ := KEY.out 1
      refine ⟨by simp, .inl ⟨_, _, rfl, run_takeDeferred hK2, ?_⟩⟩
      exact ⟨.tuple #[(Value.int .i64 (1)), (Value.int .i64 (0))], by simp [results, Try.results25, go_sem, x5, x6], by rw [whereOf, if_neg hn, if_pos (show cntTo l q l.length % 2 = 1 by omega)], hb5⟩
    · have hq : ((cntTo l q l.length : Int) % 2 == 1) = false := by assumption
      simp only [beq_eq_false_iff_ne, ne_eq] at hq
      obtain ⟨hK2, x5, x6, hb5⟩ := KEY.out 3
      refine ⟨by simp, .inl ⟨_, _, rfl, run_takeDeferred hK2, ?_⟩⟩
      exact ⟨.tuple #[(Value.int .i64 (3)), (Value.int .i64 (0))], by simp [results, Try.results25, go_sem, x5, x6], by rw [whereOf, if_neg hn, if_neg (show ¬ cntTo l q l.length % 2 = 1 by omega)], hb5⟩
  case stop =>
    rintro D c W hD ⟨rfl, c1, c2, hbk, hns⟩ hK
    have c5 := (Step.put (B := W0.heap.size) (o' := .deferred none) hK rfl hD).blk c1
    have c6 := (Step.put (B := W0.heap.size) (o' := .deferred none) hK rfl hD).blk c2
    have x5 := c5.cell 0
    have x6 := c6.cell 0
    have hb5 := bl_put (o' := .deferred none) hbk hK (by have := hbW.size; omega)
    gi_wp2
    refine ⟨by simp, .inl ⟨_, _, rfl, run_takeDeferred hK, ?_⟩⟩
    exact ⟨.tuple #[(Value.int .i64 (2)), (Value.int .i64 (0))], by simp [results, Try.results25, go_sem, x5, x6], by rw [whereOf, if_pos hns], hb5⟩
  case round =>
    rintro lp k x W hx hle ⟨r, hr⟩ ⟨⟨c0, c1, c2, c3, c4, hbk⟩, hrow⟩
    have hkl : k < l.length := by
      have := (List.getElem?_eq_some_iff.1 hx).1
      rwa [sidesOf_len] at this
    rw [sidesOf_get hkl] at hx
    cases hx
    have hkn : nxt l k < l.length := nxt_lt k h0l
    have p1 := HP.out k hkl
    have p2 := HP.out _ hkn
    have hcn := cntTo_le l q k
    have hrow := Lib.hid hrow
    dsimp only [sideArgs]
    gi_wp2
    refine ⟨by (repeat (first | with_reducible exact KeepsFrom.refl _ _ | with_reducible apply kf_alloc | with_reducible apply kf_set | with_reducible apply kf_drew | with_reducible apply kf_after | (with_reducible refine kf_call ?_ (by assumption)))), fun r1 r2 hr1 => ?_⟩
    have st := Step.put (o' := .loop r2) hr1 rfl hle
    have z4 := c4.lt
    have z2 := c2.lt
    replace c0 := st.blk (c0.alloc _)
    replace c1 := st.blk (c1.alloc _)
    replace c2 := st.blk (c2.alloc _)
    replace c3 := st.blk (c3.alloc _)
    replace c4 := st.blk (c4.alloc _)
    have c5 := st.blk (Blk.new W 66 #[(Value.int .i64 ((pat l k).1)), (Value.int .i64 ((pat l k).2)), (Value.int .i64 ((pat l (nxt l k)).1)), (Value.int .i64 ((pat l (nxt l k)).2))])
    replace hbk := st.below (bl_alloc hbk) hbW.size
    generalize (W.alloc (.cells #[(Value.int .i64 ((pat l k).1)), (Value.int .i64 ((pat l k).2)), (Value.int .i64 ((pat l (nxt l k)).1)), (Value.int .i64 ((pat l (nxt l k)).2))] 66)).putObj lp (.loop r2) = W2 at c0 c1 c2 c3 c4 c5 hbk ⊢
    clear st hr1
    have x0 := c0.cell 0
    have x01 := c0.cell 1
    have x5 := c5.cell 0
    have x51 := c5.cell 1
    have x52 := c5.cell 2
    have x53 := c5.cell 3
    have x3 := c3.cell 0
    have x1 := c1.cell 0
    have x2 := c2.cell 0
    have l0 := c0.lt
    have l1 := c1.lt
    have l2 := c2.lt
    have l3 := c3.lt
    have l5 := c5.lt
    have f1 := c1.frozen 0
    have f2 := c2.frozen 0
    have f3 := c3.frozen 0
    have f5 := c5.frozen 0
    have f51 := c5.frozen 1
    have f52 := c5.frozen 2
    have f53 := c5.frozen 3
    have hWl : w.heap.size + 1 + 1 < W.heap.size ∧ g3 + 1 < W.heap.size := by
      have := z4
      have := z2
      exact ⟨z2, z4⟩
    have FIN : ∀ V : World, (∀ g t cs, g < W.heap.size → Blk W2 g t cs → Blk V g t cs) → KeepsFrom W0.heap.size W2 V → Below w.heap.size w V → has (pat l k) (pat l (nxt l k)) q = false →
        (crs (pat l k) (pat l (nxt l k)) q = false → KeepsFrom W0.heap.size W2 V ∧ ((Blk V w.heap.size 33 #[(Value.int .i64 (q.1)), (Value.int .i64 (q.2))] ∧ Blk V (w.heap.size + 1) 3 #[(Value.int .i64 (0))] ∧ Blk V (w.heap.size + 1 + 1) 25 #[(Value.int .i64 (0))] ∧ Blk V g3 3 #[(Value.int .i64 ((cntTo l q (k + 1) : Int)))] ∧ Blk V (g3 + 1) 22 #[.slice (some ⟨b, o, none⟩) l.length ca] ∧ Below w.heap.size w V) ∧ ∀ i, i < k + 1 → has (pat l i) (pat l (nxt l i)) q = false)) ∧
        (crs (pat l k) (pat l (nxt l k)) q = true → KeepsFrom W0.heap.size W2 (V.setCell ⟨g3, 0, none⟩ (Value.int .i64 ((cntTo l q k : Int) + 1))) ∧ ((Blk (V.setCell ⟨g3, 0, none⟩ (Value.int .i64 ((cntTo l q k : Int) + 1))) w.heap.size 33 #[(Value.int .i64 (q.1)), (Value.int .i64 (q.2))] ∧ Blk (V.setCell ⟨g3, 0, none⟩ (Value.int .i64 ((cntTo l q k : Int) + 1))) (w.heap.size + 1) 3 #[(Value.int .i64 (0))] ∧ Blk (V.setCell ⟨g3, 0, none⟩ (Value.int .i64 ((cntTo l q k : Int) + 1))) (w.heap.size + 1 + 1) 25 #[(Value.int .i64 (0))] ∧ Blk (V.setCell ⟨g3, 0, none⟩ (Value.int .i64 ((cntTo l q k : Int) + 1))) g3 3 #[(Value.int .i64 ((cntTo l q (k + 1) : Int)))] ∧ Blk (V.setCell ⟨g3, 0, none⟩ (Value.int .i64 ((cntTo l q k : Int) + 1))) (g3 + 1) 22 #[.slice (some ⟨b, o, none⟩) l.length ca] ∧ Below w.heap.size w (V.setCell ⟨g3, 0, none⟩ (Value.int .i64 ((cntTo l q k : Int) + 1)))) ∧ ∀ i, i < k + 1 → has (pat l i) (pat l (nxt l i)) q = false)) := by
      intro V hT hK hB hhh
      have e0 := hT _ _ _ (by omega) c0
      have e1 := hT _ _ _ (by omega) c1
      have e2 := hT _ _ _ (by omega) c2
      have e3 := hT _ _ _ (by omega) c3
      have e4 := hT _ _ _ (by omega) c4
      have hall : ∀ i, i < k + 1 → has (pat l i) (pat l (nxt l i)) q = false := fun i hi => by
        rcases Nat.lt_succ_iff_lt_or_eq.1 hi with h | h
        · exact hrow.out i h
        · subst h; exact hhh
      constructor
      · intro hc
        refine ⟨hK, ⟨e0, e1, e2, ?_, e4, hB⟩, hall⟩
        simp only [cntTo, hc]
        exact e3
      · intro hc
        refine ⟨kf_set _ _ hK, ⟨e0.far (by simp; omega) _, e1.far (by simp; omega) _, e2.far (by simp; omega) _, ?_, e4.far (by simp) _, hB.setCell (p := ⟨g3, 0, none⟩) (by simp; omega) _⟩, hall⟩
        have h := e3.set_ 0 (Value.int .i64 ((cntTo l q k : Int) + 1))
        simpa [cntTo, hc] using h
    replace FIN := Lib.hid FIN
    have n3 : W.heap.size ≠ g3 := by omega
    have n3' : g3 ≠ W.heap.size := by omega
    by_cases hh : has (pat l k) (pat l (nxt l k)) q = true
    · gi_wp2_with (gi_at_call 59; (first | with_reducible refine CallsIn.mono (callsIn_wide.2 (has_any _ _ _ p1 p2 hq _)) ?_ | with_reducible refine CallsIn.mono (callsIn_rnd (has_any _ _ _ p1 p2 hq _)) ?_); rintro e w1 ⟨rfl, hb1⟩; first | ((with_reducible apply kp_in_step (hb := hb1)); (with_reducible assumption); rintro ⟨hk, hc, hf, hzc, hzf⟩) | ((with_reducible refine kp_in_first hb1 ?_); rintro ⟨hk, hc, hf, hzc, hzf⟩))
      refine ⟨by (repeat (first | with_reducible exact KeepsFrom.refl _ _ | with_reducible apply kf_alloc | with_reducible apply kf_set | with_reducible apply kf_drew | with_reducible apply kf_after | (with_reducible refine kf_call ?_ (by assumption)))), rfl, ?_, ?_, ?_, ⟨k, hkl, hh⟩⟩
      · have h := ((c1.below hk.b).set_ 0 (Value.int .i64 (2))).far (p := ⟨w.heap.size + 1 + 1, 0, none⟩) (by simp) (Value.int .i64 (0))
        simpa using h
      · have h := ((c2.below hk.b).far (p := ⟨w.heap.size + 1, 0, none⟩) (by simp) (Value.int .i64 (2))).set_ 0 (Value.int .i64 (0))
        simpa using h
      · exact ((bl_call hbk hb1).setCell (p := ⟨w.heap.size + 1, 0, none⟩) (by simp) _).setCell (p := ⟨w.heap.size + 1 + 1, 0, none⟩) (by simp; omega) _
    · have hh' : has (pat l k) (pat l (nxt l k)) q = false := by simpa using hh
      clear hh
      by_cases hup : (pat l (nxt l k)).2 < (pat l k).2
      · have hcr := crs_down hh' hup
        gi_wp2_with (first | (gi_at_call 59; (first | with_reducible refine CallsIn.mono (callsIn_wide.2 (has_any _ _ _ p1 p2 hq _)) ?_ | with_reducible refine CallsIn.mono (callsIn_rnd (has_any _ _ _ p1 p2 hq _)) ?_); rintro e w1 ⟨rfl, hb1⟩; first | ((with_reducible apply kp_in_step (hb := hb1)); (with_reducible assumption); rintro ⟨hk, hc, hf, hzc, hzf⟩) | ((with_reducible refine kp_in_first hb1 ?_); rintro ⟨hk, hc, hf, hzc, hzf⟩)) | (gi_at_call 60; with_reducible refine CallsIn.mono (callsIn_rnd (turn_any _ _ _ p2 p1 hq _)) ?_; rintro e w2 ⟨rfl, hb2⟩; have T3 := (((((c3.below hk.b).far (p := ⟨W.heap.size, 0, none⟩) n3' _).far (p := ⟨W.heap.size, 1, none⟩) n3' _).far (p := ⟨W.heap.size, 2, none⟩) n3' _).far (p := ⟨W.heap.size, 3, none⟩) n3' _).below hb2; have y3 := T3.cell 0; have yf := T3.frozen 0; have yl := T3.lt))
        all_goals rw [Bool.eq_iff_iff] at hcr
        all_goals simp only [Bool.and_eq_true, decide_eq_true_eq] at hcr
        all_goals first
          | (refine (FIN.out w2 (fun g t cs hg h => (((((h.below hk.b).far (p := ⟨W.heap.size, 0, none⟩) (by simp; omega) _).far (p := ⟨W.heap.size, 1, none⟩) (by simp; omega) _).far (p := ⟨W.heap.size, 2, none⟩) (by simp; omega) _).far (p := ⟨W.heap.size, 3, none⟩) (by simp; omega) _).below hb2) (by (repeat (first | with_reducible exact KeepsFrom.refl _ _ | with_reducible apply kf_alloc | with_reducible apply kf_set | with_reducible apply kf_drew | with_reducible apply kf_after | (with_reducible refine kf_call ?_ (by assumption))))) (bl_call (((((bl_call hbk hb1).setCell (p := ⟨W.heap.size, 0, none⟩) (by simp; omega) _).setCell (p := ⟨W.heap.size, 1, none⟩) (by simp; omega) _).setCell (p := ⟨W.heap.size, 2, none⟩) (by simp; omega) _).setCell (p := ⟨W.heap.size, 3, none⟩) (by simp; omega) _) hb2) hh').2 ?_; rw [hcr]; exact ⟨⟨by assumption, by assumption⟩, by assumption⟩)
          | (refine (FIN.out _ (fun g t cs hg h => (((((h.below hk.b).far (p := ⟨W.heap.size, 0, none⟩) (by simp; omega) _).far (p := ⟨W.heap.size, 1, none⟩) (by simp; omega) _).far (p := ⟨W.heap.size, 2, none⟩) (by simp; omega) _).far (p := ⟨W.heap.size, 3, none⟩) (by simp; omega) _).below hb2) (by (repeat (first | with_reducible exact KeepsFrom.refl _ _ | with_reducible apply kf_alloc | with_reducible apply kf_set | with_reducible apply kf_drew | with_reducible apply kf_after | (with_reducible refine kf_call ?_ (by assumption))))) (bl_call (((((bl_call hbk hb1).setCell (p := ⟨W.heap.size, 0, none⟩) (by simp; omega) _).setCell (p := ⟨W.heap.size, 1, none⟩) (by simp; omega) _).setCell (p := ⟨W.heap.size, 2, none⟩) (by simp; omega) _).setCell (p := ⟨W.heap.size, 3, none⟩) (by simp; omega) _) hb2) hh').1 ?_; (rw [← Bool.not_eq_true, hcr]; omega))
          | (refine (FIN.out _ (fun g t cs hg h => ((((h.below hk.b).far (p := ⟨W.heap.size, 0, none⟩) (by simp; omega) _).far (p := ⟨W.heap.size, 1, none⟩) (by simp; omega) _).far (p := ⟨W.heap.size, 2, none⟩) (by simp; omega) _).far (p := ⟨W.heap.size, 3, none⟩) (by simp; omega) _) (by (repeat (first | with_reducible exact KeepsFrom.refl _ _ | with_reducible apply kf_alloc | with_reducible apply kf_set | with_reducible apply kf_drew | with_reducible apply kf_after | (with_reducible refine kf_call ?_ (by assumption))))) (((((bl_call hbk hb1).setCell (p := ⟨W.heap.size, 0, none⟩) (by simp; omega) _).setCell (p := ⟨W.heap.size, 1, none⟩) (by simp; omega) _).setCell (p := ⟨W.heap.size, 2, none⟩) (by simp; omega) _).setCell (p := ⟨W.heap.size, 3, none⟩) (by simp; omega) _) hh').1 ?_; (rw [← Bool.not_eq_true, hcr]; omega))
      · have hcr := crs_up (q := q) (Int.not_lt.1 hup)
        gi_wp2_with (first | (gi_at_call 59; (first | with_reducible refine CallsIn.mono (callsIn_wide.2 (has_any _ _ _ p1 p2 hq _)) ?_ | with_reducible refine CallsIn.mono (callsIn_rnd (has_any _ _ _ p1 p2 hq _)) ?_); rintro e w1 ⟨rfl, hb1⟩; first | ((with_reducible apply kp_in_step (hb := hb1)); (with_reducible assumption); rintro ⟨hk, hc, hf, hzc, hzf⟩) | ((with_reducible refine kp_in_first hb1 ?_); rintro ⟨hk, hc, hf, hzc, hzf⟩)) | (gi_at_call 60; with_reducible refine CallsIn.mono (callsIn_rnd (turn_any _ _ _ p1 p2 hq _)) ?_; rintro e w2 ⟨rfl, hb2⟩; have T3 := (c3.below hk.b).below hb2; have y3 := T3.cell 0; have yf := T3.frozen 0; have yl := T3.lt))
        all_goals rw [Bool.eq_iff_iff] at hcr
        all_goals simp only [Bool.and_eq_true, decide_eq_true_eq] at hcr
        all_goals first
          | (refine (FIN.out w2 (fun g t cs hg h => (h.below hk.b).below hb2) (by (repeat (first | with_reducible exact KeepsFrom.refl _ _ | with_reducible apply kf_alloc | with_reducible apply kf_set | with_reducible apply kf_drew | with_reducible apply kf_after | (with_reducible refine kf_call ?_ (by assumption))))) (bl_call (bl_call hbk hb1) hb2) hh').2 ?_; rw [hcr]; exact ⟨⟨by assumption, by assumption⟩, by assumption⟩)
          | (refine (FIN.out _ (fun g t cs hg h => (h.below hk.b).below hb2) (by (repeat (first | with_reducible exact KeepsFrom.refl _ _ | with_reducible apply kf_alloc | with_reducible apply kf_set | with_reducible apply kf_drew | with_reducible apply kf_after | (with_reducible refine kf_call ?_ (by assumption))))) (bl_call (bl_call hbk hb1) hb2) hh').1 ?_; (rw [← Bool.not_eq_true, hcr]; omega))
          | (refine (FIN.out _ (fun g t cs hg h => h.below hk.b) (by (repeat (first | with_reducible exact KeepsFrom.refl _ _ | with_reducible apply kf_alloc | with_reducible apply kf_set | with_reducible apply kf_drew | with_reducible apply kf_after | (with_reducible refine kf_call ?_ (by assumption))))) (bl_call hbk hb1) hh').1 ?_; (rw [← Bool.not_eq_true, hcr]; omega))

theorem two_cells {W : World} {g1 g2 : Nat} {t1 t2 : TypeId} {u1 u2 : Value} (h1 : Blk W g1 t1 #[u1]) (h2 : Blk W g2 t2 #[u2]) (hne : g1 ≠ g2) (a b : Value) :
    ((W.setCell ⟨g1, 0, none⟩ a).setCell ⟨g2, 0, none⟩ b).cell? ⟨g1, 0, none⟩ = some a ∧ ((W.setCell ⟨g1, 0, none⟩ a).setCell ⟨g2, 0, none⟩ b).cell? ⟨g2, 0, none⟩ = some b := by
  have e1 := ((h1.set_ 0 a).far (p := ⟨g2, 0, none⟩) hne b).cell 0
  have e2 := ((h2.far (p := ⟨g1, 0, none⟩) hne.symm a).set_ 0 b).cell 0
  exact ⟨by simpa using e1, by simpa using e2⟩
set_option maxRecDepth 100000 in
set_option maxHeartbeats 1000000 in
theorem Where_arg (b o ca : Nat) (l : List Pt) (q : Pt) (w : World) (hp : PtsAt w b o l) (hok : Ok l) (hq : isPt q = false) :
    Calls Try.prog 25 #[.slice (some ⟨b, o, none⟩) l.length ca, (Value.agg #[.int .i64 q.1, .int .i64 q.2])] w fun e w' => e = .returned (.tuple #[(Value.int .i64 (0)), (Value.int .i64 (1))]) ∧ Below w.heap.size w w' := by
  have hc := fun W hW => Check_any (some ⟨b, o, none⟩) ca l W (.inr ⟨b, o, rfl, hp.below (w' := W) hW⟩) (by have := hok.1; omega)
  rw [chk_ok hok] at hc
  clear hok
  replace hc := Lib.hid hc
  go_enter Try.func25, Try.ntmps25
  go_wp2_with (first | (go_at_call 22; with_reducible refine Calls.mono (hc.out _ (by (repeat (first | with_reducible exact Below.refl _ _ | with_reducible apply bl_alloc | with_reducible apply bl_drew | with_reducible apply bl_after | (with_reducible refine bl_call ?_ (by assumption)))))) ?_; rintro e w1 ⟨rfl, hb1⟩; first | ((with_reducible apply kp_in_step (hb := hb1)); (with_reducible assumption); rintro ⟨hk, hc, hf, hzc, hzf⟩) | ((with_reducible refine kp_in_first hb1 ?_); rintro ⟨hk, hc, hf, hzc, hzf⟩)) | (go_at_call 52; with_reducible refine Calls.mono (isPoint_any _ _) ?_; rintro e w1 ⟨rfl, hb1⟩; first | ((with_reducible apply kp_in_step (hb := hb1)); (with_reducible assumption); rintro ⟨hk, hc, hf, hzc, hzf⟩) | ((with_reducible refine kp_in_first hb1 ?_); rintro ⟨hk, hc, hf, hzc, hzf⟩)))
  have b1 : Blk w1 (w.heap.size + 1) 3 #[(Value.int .i64 (0))] := by
    have h := (((Blk.new (w.alloc (.cells #[(Value.int .i64 (q.1)), (Value.int .i64 (q.2))] 33)) 3 #[(Value.int .i64 (0))]).alloc (.cells #[(Value.int .i64 (0))] 25)).below (by assumption)).below (w' := w1) (by assumption)
    simpa using h
  have b2 : Blk w1 (w.heap.size + 1 + 1) 25 #[(Value.int .i64 (0))] := by
    have h := ((Blk.new ((w.alloc (.cells #[(Value.int .i64 (q.1)), (Value.int .i64 (q.2))] 33)).alloc (.cells #[(Value.int .i64 (0))] 3)) 25 #[(Value.int .i64 (0))]).below (by assumption)).below (w' := w1) (by assumption)
    simpa using h
  have hx := two_cells b1 b2 (by omega) (Value.int .i64 (0)) (Value.int .i64 (1))
  have hB : Below w.heap.size w w1 := by (repeat (first | with_reducible exact Below.refl _ _ | with_reducible apply bl_alloc | with_reducible apply bl_drew | with_reducible apply bl_after | (with_reducible refine bl_call ?_ (by assumption))))
  (try simp only [Exit.inBlock, Exit.then])
  refine bodyPost_ret (v := .tuple #[(Value.int .i64 (0)), (Value.int .i64 (1))]) (by simp [results, Try.results25, go_sem, hx.1, hx.2]) rfl ?_
  exact ⟨rfl, (hB.setCell (p := ⟨w.heap.size + 1, 0, none⟩) (by simp) _).setCell (p := ⟨w.heap.size + 1 + 1, 0, none⟩) (by simp; omega) _⟩
set_option maxRecDepth 100000 in
set_option maxHeartbeats 1000000 in
theorem Where_no (A : Option Addr) (ca : Nat) (l : List Pt) (q : Pt) (w : World) (ha : Pts w A l) (hla : l.length ≤ 1000000) (hok : ¬ Ok l) :
    Calls Try.prog 25 #[.slice A l.length ca, (Value.agg #[.int .i64 q.1, .int .i64 q.2])] w fun e w' => e = .returned (.tuple #[(Value.int .i64 (0)), (Value.int .i64 (20))]) ∧ Below w.heap.size w w' := by
  have hc := fun W hW => Check_any A ca l W (ha.below (w' := W) hW) hla
  rw [chk_no hok] at hc
  clear hok
  replace hc := Lib.hid hc
  go_enter Try.func25, Try.ntmps25
  go_wp2_with (first | (go_at_call 22; with_reducible refine Calls.mono (hc.out _ (by (repeat (first | with_reducible exact Below.refl _ _ | with_reducible apply bl_alloc | with_reducible apply bl_drew | with_reducible apply bl_after | (with_reducible refine bl_call ?_ (by assumption)))))) ?_; rintro e w1 ⟨rfl, hb1⟩; first | ((with_reducible apply kp_in_step (hb := hb1)); (with_reducible assumption); rintro ⟨hk, hc, hf, hzc, hzf⟩) | ((with_reducible refine kp_in_first hb1 ?_); rintro ⟨hk, hc, hf, hzc, hzf⟩)) | (go_at_call 52; with_reducible refine Calls.mono (isPoint_any _ _) ?_; rintro e w1 ⟨rfl, hb1⟩; first | ((with_reducible apply kp_in_step (hb := hb1)); (with_reducible assumption); rintro ⟨hk, hc, hf, hzc, hzf⟩) | ((with_reducible refine kp_in_first hb1 ?_); rintro ⟨hk, hc, hf, hzc, hzf⟩)))
  have b1 : Blk w1 (w.heap.size + 1) 3 #[(Value.int .i64 (0))] := by
    have h := ((Blk.new (w.alloc (.cells #[(Value.int .i64 (q.1)), (Value.int .i64 (q.2))] 33)) 3 #[(Value.int .i64 (0))]).alloc (.cells #[(Value.int .i64 (0))] 25)).below (w' := w1) (by assumption)
    simpa using h
  have b2 : Blk w1 (w.heap.size + 1 + 1) 25 #[(Value.int .i64 (0))] := by
    have h := (Blk.new ((w.alloc (.cells #[(Value.int .i64 (q.1)), (Value.int .i64 (q.2))] 33)).alloc (.cells #[(Value.int .i64 (0))] 3)) 25 #[(Value.int .i64 (0))]).below (w' := w1) (by assumption)
    simpa using h
  have hx := two_cells b1 b2 (by omega) (Value.int .i64 (0)) (Value.int .i64 (20))
  have hB : Below w.heap.size w w1 := by (repeat (first | with_reducible exact Below.refl _ _ | with_reducible apply bl_alloc | with_reducible apply bl_drew | with_reducible apply bl_after | (with_reducible refine bl_call ?_ (by assumption))))
  (try simp only [Exit.inBlock, Exit.then])
  refine bodyPost_ret (v := .tuple #[(Value.int .i64 (0)), (Value.int .i64 (20))]) (by simp [results, Try.results25, go_sem, hx.1, hx.2]) rfl ?_
  exact ⟨rfl, (hB.setCell (p := ⟨w.heap.size + 1, 0, none⟩) (by simp) _).setCell (p := ⟨w.heap.size + 1 + 1, 0, none⟩) (by simp; omega) _⟩
end Go.Proofs.Ytijpolfmiajenaa
