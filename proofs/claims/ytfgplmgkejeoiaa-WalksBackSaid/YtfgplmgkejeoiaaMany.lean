/- The function Many of walks answers the number of elbows, or the error of a track and a walk. -/
import Derived.Test.YtfgplmgkejeoiaaWOpen
namespace Go.Proofs.Ytfgplmgkejeoiaa
open Go.RowKit Go.Shelf
attribute [local go_sem] After.cell After.frozen Oper.semAt_some wide_fn wide_depth Fence.inRound_fn Fence.inRound_depth

/-- The error of a track and a walk of which elbows are asked for; how many there are. -/
def opE (T : Trk) (m : List Pt) : Int := if chkT T m = 0 then elbE T m else chkT T m
def mnV (T : Trk) (m : List Pt) : Int := if chkT T m = 0 then ((elbs T m).length : Int) else 0
theorem chk_zero_inv {T : Trk} {m : List Pt} (h : chkT T m = 0) : trkB T = true ∧ walkB m = true := by
  unfold chkT at h
  split at h
  · split at h
    · exact ⟨‹_›, ‹_›⟩
    · omega
  · omega
theorem open_any (A B : Option Addr) (ca cb : Nat) (T : Trk) (m : List Pt) (w : World) (ha : Pts w A T.pts) (hla : T.pts.length ≤ 1000000) (hb : Pts w B m) (hlb : m.length ≤ 1000000) :
    Calls Try.prog 71 #[(Value.agg #[.slice A T.pts.length ca, (Value.int .i64 (T.closed)), (Value.int .i64 (T.lo)), (Value.int .i64 (T.hi))]), .slice B m.length cb] w fun e w' => e = .returned (.tuple #[(Value.agg #[.slice A T.pts.length ca, (Value.int .i64 (T.closed)), (Value.int .i64 (T.lo)), (Value.int .i64 (T.hi)), .slice B m.length cb]), (Value.int .i64 (opE T m))]) ∧ Below w.heap.size w w' := by
  by_cases h : chkT T m = 0
  · obtain ⟨hT, hm⟩ := chk_zero_inv h
    obtain ⟨b, o, rfl, hp⟩ := ha.at_ (k := 0) (by have := (trkB_bd hT).1; omega)
    obtain ⟨bm, om, rfl, hq⟩ := hb.at_ (k := 0) (by have := walkB_bd hm; omega)
    rw [opE, if_pos h]
    exact open_ok b o ca bm om cb T m w hp hq hT hm
  · rw [opE, if_neg h]
    exact open_no A B ca cb T m w ha hla hb hlb h
theorem flat_len {α β : Type} (f : α → List β) (n : Nat) : ∀ l : List α, (∀ x ∈ l, (f x).length ≤ n) → (l.flatMap f).length ≤ l.length * n
  | [], _ => by simp
  | a :: t, h => by
    have h1 := h a List.mem_cons_self
    have h2 := flat_len f n t fun x hx => h x (List.mem_cons_of_mem _ hx)
    rw [List.flatMap_cons, List.length_append, List.length_cons, Nat.succ_mul]
    omega
theorem allR_len {T : Trk} (hT : T.pts.length ≤ 8) (m : List Pt) : ∀ (r : Nat) (first : List Nat), (allR T m r first).length ≤ 8 ^ r
  | 0, first => by rw [allR]; split <;> simp
  | r + 1, first => by
    rw [allR]
    refine Nat.le_trans (flat_len _ (8 ^ r) _ fun q _ => ?_) ?_
    · split
      · exact allR_len hT m r _
      · simp
    · have h1 : (plcN T (pat m first.length)).length ≤ 8 := by
        have := List.length_filter_le (fun i => reachB T i (pat m first.length)) (List.range T.pts.length)
        simp only [List.length_range] at this
        unfold plcN
        omega
      rw [Nat.pow_succ, Nat.mul_comm (8 ^ r)]
      exact Nat.mul_le_mul_right _ h1
theorem elbs_len {T : Trk} {m : List Pt} (hT : trkB T = true) (hm : walkB m = true) : (elbs T m).length ≤ 16777216 := by
  have h1 := allR_len (trkB_bd hT).1.1.2 m m.length []
  have h2 : (8 : Nat) ^ m.length ≤ 8 ^ 8 := Nat.pow_le_pow_right (by omega) (walkB_bd hm).1.2
  have h3 : (8 : Nat) ^ 8 = 16777216 := by decide
  unfold elbs
  omega

set_option maxRecDepth 100000 in
set_option maxHeartbeats 1000000 in
theorem Many_no (A B : Option Addr) (ca cb : Nat) (T : Trk) (m : List Pt) (w : World) (ha : Pts w A T.pts) (hla : T.pts.length ≤ 1000000) (hb : Pts w B m) (hlb : m.length ≤ 1000000) (hne : opE T m ≠ 0) :
    Calls Try.prog 33 #[(Value.agg #[.slice A T.pts.length ca, (Value.int .i64 (T.closed)), (Value.int .i64 (T.lo)), (Value.int .i64 (T.hi))]), .slice B m.length cb] w fun e w' => e = .returned (.tuple #[(Value.int .i64 (0)), (Value.int .i64 (opE T m))]) ∧ Below w.heap.size w w' := by
  have hc := Lib.hid fun (W : World) (h : Below w.heap.size w W) => open_any A B ca cb T m W (ha.below h) hla (hb.below h) hlb
  have h0 : (opE T m != 0) = true := by rw [bne_iff_ne]; exact hne
  clear hne ha hb
  go_enter Try.func33, Try.ntmps33
  go_wp2_with (go_at_call 71; with_reducible refine Calls.mono (hc.out _ (by (repeat (first | with_reducible exact Below.refl _ _ | with_reducible apply bl_alloc | with_reducible apply bl_drew | with_reducible apply bl_after | (with_reducible refine bl_call ?_ (by assumption)))))) ?_; rintro e w1 ⟨rfl, hb1⟩; first | ((with_reducible apply kp_in_step (hb := hb1)); (with_reducible assumption); rintro ⟨hk, hc, hf, hzc, hzf⟩) | ((with_reducible refine kp_in_first hb1 ?_); rintro ⟨hk, hc, hf, hzc, hzf⟩))
  go_ret2
  exact ⟨rfl, by (repeat (first | with_reducible exact Below.refl _ _ | with_reducible apply bl_alloc | with_reducible apply bl_drew | with_reducible apply bl_after | (with_reducible refine bl_call ?_ (by assumption))))⟩
set_option maxRecDepth 100000 in
set_option maxHeartbeats 4000000 in
theorem Many_ok (b o ca bm om cm : Nat) (T : Trk) (m : List Pt) (w : World) (hp : PtsAt w b o T.pts) (hq : PtsAt w bm om m) (hT : trkB T = true) (hm : walkB m = true) (h0 : opE T m = 0) :
    Calls Try.prog 33 #[(Value.agg #[.slice (some ⟨b, o, none⟩) T.pts.length ca, (Value.int .i64 (T.closed)), (Value.int .i64 (T.lo)), (Value.int .i64 (T.hi))]), .slice (some ⟨bm, om, none⟩) m.length cm] w fun e w' => e = .returned (.tuple #[(Value.int .i64 (((elbs T m).length : Int))), (Value.int .i64 (0))]) ∧ Below w.heap.size w w' := by
  have hc := fun (W : World) (h : Below w.heap.size w W) => open_any (some ⟨b, o, none⟩) (some ⟨bm, om, none⟩) ca cm T m W (.inr ⟨b, o, rfl, hp.below h⟩) (by have := (trkB_bd hT).1; omega) (.inr ⟨bm, om, rfl, hq.below h⟩) (by have := walkB_bd hm; omega)
  rw [h0] at hc
  replace hc := Lib.hid hc
  have hlen := elbs_len hT hm
  clear h0
  refine (callsIn_wide (n := 0)).1 ?_; refine callsIn_of_wp_marks Try.func33 rfl trivial ?_ rfl; simp only [Try.ntmps33, List.size_toArray, List.length_cons, List.length_nil, Nat.reduceAdd, Nat.reduceSub, Array.replicate_succ, Array.replicate_zero, List.push_toArray, List.append_toArray, List.nil_append, List.cons_append]
  gi_wp2_with (gi_at_call 71; (first | with_reducible refine CallsIn.mono (callsIn_wide.2 (hc.out _ (by (repeat (first | with_reducible exact Below.refl _ _ | with_reducible apply bl_alloc | with_reducible apply bl_drew | with_reducible apply bl_after | (with_reducible refine bl_call ?_ (by assumption))))))) ?_ | with_reducible refine CallsIn.mono (callsIn_rnd (hc.out _ (by (repeat (first | with_reducible exact Below.refl _ _ | with_reducible apply bl_alloc | with_reducible apply bl_drew | with_reducible apply bl_after | (with_reducible refine bl_call ?_ (by assumption))))))) ?_); rintro e w1 ⟨rfl, hb1⟩; first | ((with_reducible apply kp_in_step (hb := hb1)); (with_reducible assumption); rintro ⟨hk, hc, hf, hzc, hzf⟩) | ((with_reducible refine kp_in_first hb1 ?_); rintro ⟨hk, hc, hf, hzc, hzf⟩))
  have hbV : Below w.heap.size w w1 := by (repeat (first | with_reducible exact Below.refl _ _ | with_reducible apply bl_alloc | with_reducible apply bl_drew | with_reducible apply bl_after | (with_reducible refine bl_call ?_ (by assumption))))
  have c8 : Blk ((w1.alloc (.cells #[.slice (some ⟨b, o, none⟩) T.pts.length ca, (Value.int .i64 (T.closed)), (Value.int .i64 (T.lo)), (Value.int .i64 (T.hi)), .slice (some ⟨bm, om, none⟩) m.length cm] 72)).alloc (.cells #[(Value.int .i64 (0))] 3)) (w1.heap.size + 1) 3 #[(Value.int .i64 (0))] := by
    have h := Blk.new (w1.alloc (.cells #[.slice (some ⟨b, o, none⟩) T.pts.length ca, (Value.int .i64 (T.closed)), (Value.int .i64 (T.lo)), (Value.int .i64 (T.hi)), .slice (some ⟨bm, om, none⟩) m.length cm] 72)) 3 #[(Value.int .i64 (0))]
    simpa using h
  have hbW := bl_alloc (o := .cells #[(Value.int .i64 (0))] 3) (bl_alloc (o := .cells #[.slice (some ⟨b, o, none⟩) T.pts.length ca, (Value.int .i64 (T.closed)), (Value.int .i64 (T.lo)), (Value.int .i64 (T.hi)), .slice (some ⟨bm, om, none⟩) m.length cm] 72) hbV)
  have hg8 : w.heap.size ≤ w1.heap.size + 1 := by have := hbV.size; omega
  clear hc hbV hb1 hk hf hzc hzf
  clear hc
  generalize (w1.alloc (.cells #[.slice (some ⟨b, o, none⟩) T.pts.length ca, (Value.int .i64 (T.closed)), (Value.int .i64 (T.lo)), (Value.int .i64 (T.hi)), .slice (some ⟨bm, om, none⟩) m.length cm] 72)).alloc (.cells #[(Value.int .i64 (0))] 3) = W1 at c8 hbW ⊢
  generalize w1.heap.size + 1 = g8 at c8 hg8 ⊢
  refine range_f (gf := 72) (pre := #[(Value.agg #[.slice (some ⟨b, o, none⟩) T.pts.length ca, (Value.int .i64 (T.closed)), (Value.int .i64 (T.lo)), (Value.int .i64 (T.hi)), .slice (some ⟨bm, om, none⟩) m.length cm])]) (lb := #[]) rfl (enters_of Try.func72 (by kernel_rfl) rfl) (elbows_iter b o ca bm om cm T m hT hm) (fun x args W h => by obtain ⟨A, ca, rfl, _⟩ := h; rfl)
    (fun k W => Blk W g8 3 #[(Value.int .i64 ((k : Int)))] ∧ Below w.heap.size w W)
    (fun _ _ => False)
    (fun k W W' h hs => ⟨hs.blk h.1, hs.below h.2 hbW.size⟩)
    (fun _ _ _ h _ => h)
    (fun k W h => ⟨hp.below h.2, hq.below h.2⟩)
    ⟨c8, hbW⟩ ?round ?done (fun _ _ _ _ h _ => h.elim)
  case round =>
    rintro lp k x args W hx ⟨A', ca', rfl, hI⟩ hle ⟨r, hr⟩ ⟨e8, hbk⟩
    gi_wp2
    refine ⟨KeepsFrom.refl _ _, CellsFrom.refl _ _, fun r1 r2 hr1 => ?_⟩
    have st := Step.put (o' := .loop r2) hr1 rfl hle
    replace e8 := st.blk e8
    replace hbk := st.below hbk hbW.size
    have hkl : k < (elbs T m).length := (List.getElem?_eq_some_iff.1 hx).1
    generalize W.putObj lp (.loop r2) = W2 at e8 hbk ⊢
    clear st hr1 hx hr hI
    have l8 := e8.lt
    have l8' := c8.lt
    have u8 := e8.cell 0
    have fz8 := e8.frozen 0
    simp only [List.getElem?_toArray, List.getElem?_cons_zero] at u8
    gi_wp2
    refine ⟨by (repeat (first | with_reducible exact KeepsFrom.refl _ _ | with_reducible apply kf_alloc | with_reducible apply kf_set | with_reducible apply kf_drew | with_reducible apply kf_after | (with_reducible refine kf_call ?_ (by assumption)))), by (repeat (first | with_reducible exact CellsFrom.refl _ _ | with_reducible apply cf_alloc | with_reducible apply cf_drew | with_reducible apply cf_after | (with_reducible refine cf_call ?_ (by assumption)) | (with_reducible refine cf_set (by simp; omega) ?_))), ?_, bl_setc hbk hg8⟩
    have h := e8.set_ 0 (Value.int .i64 (((k + 1 : Nat) : Int)))
    simpa using h
  case done =>
    rintro D W hD ⟨e8, hbk⟩ hK
    have l8 := e8.lt
    have u8 := e8.cell 0
    simp only [List.getElem?_toArray, List.getElem?_cons_zero] at u8
    gi_wp2
    refine ⟨by simp, .inl ⟨_, _, rfl, run_takeDeferred hK, ?_⟩⟩
    exact ⟨.tuple #[(Value.int .i64 (((elbs T m).length : Int))), (Value.int .i64 (0))], by simp [results, Try.results33, go_sem], rfl, bl_put hbk hK (by have := hbW.size; omega)⟩
theorem Many_any (A B : Option Addr) (ca cb : Nat) (T : Trk) (m : List Pt) (w : World) (ha : Pts w A T.pts) (hla : T.pts.length ≤ 1000000) (hb : Pts w B m) (hlb : m.length ≤ 1000000) :
    Calls Try.prog 33 #[(Value.agg #[.slice A T.pts.length ca, (Value.int .i64 (T.closed)), (Value.int .i64 (T.lo)), (Value.int .i64 (T.hi))]), .slice B m.length cb] w fun e w' => e = .returned (.tuple #[(Value.int .i64 (mnV T m)), (Value.int .i64 (opE T m))]) ∧ Below w.heap.size w w' := by
  by_cases h : opE T m = 0
  · have hc : chkT T m = 0 := by
      unfold opE at h
      split at h
      · assumption
      · exact h
    obtain ⟨hT, hm⟩ := chk_zero_inv hc
    obtain ⟨b, o, rfl, hp⟩ := ha.at_ (k := 0) (by have := (trkB_bd hT).1; omega)
    obtain ⟨bm, om, rfl, hq⟩ := hb.at_ (k := 0) (by have := walkB_bd hm; omega)
    rw [mnV, if_pos hc, h]
    exact Many_ok b o ca bm om cb T m w hp hq hT hm h
  · have e : mnV T m = 0 := by
      unfold mnV
      split
      · rename_i hc
        rw [opE, if_pos hc, elbE] at h
        split at h
        · rename_i he; rw [he]; rfl
        · exact absurd rfl h
      · rfl
    rw [e]
    exact Many_no A B ca cb T m w ha hla hb hlb h
end Go.Proofs.Ytfgplmgkejeoiaa
