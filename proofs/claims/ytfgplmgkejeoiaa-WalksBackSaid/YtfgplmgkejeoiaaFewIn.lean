/- What the laws of a few places and points need of elbows, plain. -/
import Derived.Test.YtfgplmgkejeoiaaElf
import Derived.Test.YtfgplmgkejeoiaaHelp5
import Derived.Test.YtfgplmgkejeoiaaSame
namespace Go.Proofs.Ytfgplmgkejeoiaa
open Go.RowKit
attribute [local go_sem] After.cell After.frozen

theorem allR_lenN {T : Trk} {n : Nat} (hT : T.pts.length ≤ n) (m : List Pt) : ∀ (r : Nat) (first : List Nat), (allR T m r first).length ≤ n ^ r
  | 0, first => by rw [allR]; split <;> simp
  | r + 1, first => by
    rw [allR]
    refine Nat.le_trans (flat_len _ (n ^ r) _ fun q _ => ?_) ?_
    · split
      · exact allR_lenN hT m r _
      · simp
    · have h1 : (plcN T (pat m first.length)).length ≤ n := by
        have := List.length_filter_le (fun i => reachB T i (pat m first.length)) (List.range T.pts.length)
        simp only [List.length_range] at this
        unfold plcN
        omega
      rw [Nat.pow_succ, Nat.mul_comm (n ^ r)]
      exact Nat.mul_le_mul_right _ h1
theorem rdy_parts {T : Trk} {m : List Pt} (h : rdyB T m = true) : trkB T = true ∧ walkB m = true ∧ chkT T m = 0 ∧ T.pts.length ≤ 5 ∧ m.length ≤ 5 := by
  unfold rdyB farB at h
  rw [Bool.and_eq_true, Bool.not_eq_true', decide_eq_false_iff_not, decide_eq_true_eq] at h
  obtain ⟨h1, h2⟩ := h
  obtain ⟨h3, h4⟩ := chk_zero_inv h2
  exact ⟨h3, h4, h2, by omega, by omega⟩
theorem rolV_len5 {T : Trk} {m : List Pt} (h1 : T.pts.length ≤ 5) (h2 : m.length ≤ 5) : (rolV T m).length ≤ 3125 := by
  unfold rolV
  split
  · have h3 := allR_lenN h1 m m.length []
    have h4 : (5 : Nat) ^ m.length ≤ 5 ^ 5 := Nat.pow_le_pow_right (by omega) h2
    have h5 : (5 : Nat) ^ 5 = 3125 := by decide
    have h6 : (srt (sws T m (elbs T m).length)).length ≤ (elbs T m).length := by
      rw [srt_len]
      have h7 : ∀ l : List Int, (ddp l).length ≤ l.length := fun l => by
        induction l with
        | nil => exact Nat.le_refl _
        | cons a t ih =>
          rw [ddp]
          split <;> simp <;> omega
      have h8 := h7 (sws T m (elbs T m).length)
      unfold sws at h8 ⊢
      rw [List.length_map, List.length_take] at h8
      omega
    unfold rolS elbs at *
    omega
  · simp
theorem lb_elbs {T : Trk} {m : List Pt} (hc : chkT T m = 0) (h0 : opE T m = 0) : lbV T m ∈ elbs T m ∧ mvV T (lbV T m) = lvV T m ∧ ∀ x ∈ elbs T m, lvV T m ≤ mvV T x := by
  have h1 := ls_min ((opE_nil hc).1 h0)
  rw [lbV, lvV, if_pos h0, if_pos h0]
  exact ⟨h1.1, rfl, h1.2⟩
theorem elbs_are {T : Trk} {m : List Pt} (hm : 0 < m.length) {x : List Nat} (hx : x ∈ elbs T m) : areB T m (ints x) = true ∧ x.length = m.length ∧ mvV T x = (rmV x : Nat) := by
  obtain ⟨h1, h2, h3⟩ := (elbs_iff hm).1 hx
  exact ⟨by rw [areB_of h1 h2]; exact h3, h1, mv_rm hm hx⟩
theorem are_elbs {T : Trk} {m : List Pt} (hm : 0 < m.length) {l : List Int} (h : areB T m l = true) : ∃ x, l = ints x ∧ x ∈ elbs T m := by
  unfold areB at h
  rw [Bool.and_eq_true, Bool.and_eq_true, decide_eq_true_eq] at h
  obtain ⟨⟨h1, h2⟩, h3⟩ := h
  obtain ⟨h4, h5⟩ := inR_ints h2
  exact ⟨l.map Int.toNat, h4, (elbs_iff hm).2 ⟨by rw [List.length_map]; exact h1, fun i hi => h5 i (by rw [List.length_map] at hi; exact hi), h3⟩⟩
theorem nat_ints (x : List Nat) : (ints x).map Int.toNat = x := by
  unfold ints
  rw [List.map_map]
  have : ∀ l : List Nat, l.map (Int.toNat ∘ fun i : Nat => (i : Int)) = l := fun l => by
    induction l with
    | nil => rfl
    | cons a t ih => rw [List.map_cons, ih]; rfl
  exact this x
theorem sw_elbs {T : Trk} {m : List Pt} (hc : chkT T m = 0) (hm : 0 < m.length) {x : List Nat} (hx : x ∈ elbs T m) : tldE T m (ints x) = 0 ∧ swV T m (ints x) = swp T m x ∧ (opE T m = 0 → swp T m x ∈ rolV T m) := by
  have h1 := (elbs_are hm hx).1
  have h2 : tldE T m (ints x) = 0 := by rw [tldE, if_pos hc, if_pos h1]
  refine ⟨h2, by rw [swV, if_pos h2, nat_ints], fun h0 => ?_⟩
  rw [rolV, if_pos h0]
  exact mem_rolS.2 ⟨x, hx, rfl⟩
def stlB (T : Trk) (m : List Pt) : Bool := (List.range T.pts.length).any (stillB T m)
theorem stl_zero {T : Trk} {m : List Pt} (hc : chkT T m = 0) (hm : 0 < m.length) (h0 : opE T m = 0) : stlB T m = (lvV T m == 0) := by
  have h1 := still_iff (T := T) hm
  have hne := (opE_nil hc).1 h0
  rw [lvV, if_pos h0, Bool.eq_iff_iff, stlB, List.any_eq_true, beq_iff_eq]
  constructor
  · rintro ⟨p, h2, h3⟩
    exact (h1.2 ⟨p, List.mem_range.1 h2, h3⟩).2
  · intro h
    obtain ⟨p, h2, h3⟩ := h1.1 ⟨hne, h⟩
    exact ⟨p, List.mem_range.2 h2, h3⟩
theorem stl_none {T : Trk} {m : List Pt} (hc : chkT T m = 0) (hm : 0 < m.length) (h0 : opE T m ≠ 0) : stlB T m = false := by
  have h1 := still_iff (T := T) hm
  rw [Bool.eq_false_iff, stlB]
  intro h
  rw [List.any_eq_true] at h
  obtain ⟨p, h2, h3⟩ := h
  exact h0 ((opE_nil hc).2 (h1.2 ⟨p, List.mem_range.1 h2, h3⟩).1)
theorem mem_plc {T : Trk} {p : Pt} {k : Nat} (hk : k < T.pts.length) : decide ((k : Int) ∈ plc T p) = reachB T k p := by
  rw [plc_ints, Bool.eq_iff_iff, decide_eq_true_eq, ints, List.mem_map]
  constructor
  · rintro ⟨a, ha, e⟩
    have e2 : a = k := by omega
    subst e2
    simp only [plcN, List.mem_filter, List.mem_range] at ha
    exact ha.2
  · intro h
    exact ⟨k, by simp only [plcN, List.mem_filter, List.mem_range]; exact ⟨hk, h⟩, rfl⟩
theorem any_succ (f : Nat → Bool) (k : Nat) : (List.range (k + 1)).any f = ((List.range k).any f || f k) := by simp [List.range_succ, List.any_append]
theorem all_succ (f : Nat → Bool) (k : Nat) : (List.range (k + 1)).all f = ((List.range k).all f && f k) := by simp [List.range_succ, List.all_append]


theorem Reach_ok (A : Option Addr) (ca : Nat) (T : Trk) (p : Pt) (w : World) (ha : Pts w A T.pts) (hla : T.pts.length ≤ 1000000) (hT : trkB T = true) (hp : isPt p = true) :
    Calls Try.prog 26 #[(Value.agg #[.slice A T.pts.length ca, (Value.int .i64 (T.closed)), (Value.int .i64 (T.lo)), (Value.int .i64 (T.hi))]), (Value.agg #[.int .i64 p.1, .int .i64 p.2])] w fun e w' => (∃ A' ca', e = .returned (.tuple #[.slice A' (plc T p).length ca', (Value.int .i64 (0))]) ∧ Ints w' A' (plc T p)) ∧ Below w.heap.size w w' := by
  have h1 := Reach_any A ca T p w ha hla
  have e1 : rchV T p = plc T p := by rw [rchV, if_pos hT, if_pos hp]
  have e2 : rchE T p = 0 := by rw [rchE, if_pos hT, if_pos hp]
  rw [e1, e2] at h1
  exact h1.mono fun e w' h => ⟨let ⟨⟨A', c', e1, hN⟩, _⟩ := h; ⟨A', c', e1, hN.ints⟩, h.2⟩
end Go.Proofs.Ytfgplmgkejeoiaa
