/- The function TwiceOf of knurlref02 answers the doubled area. -/
import Derived.Test.YtegdnbceiopklaaFan
import Derived.Test.YtegdnbceiopklaaFanSum
namespace Go.Proofs.Ytegdnbceiopklaa
open Go.RowKit
attribute [local go_sem] After.cell After.frozen

theorem fan_cells {w : World} {B g c n : Nat} {l : List Pt} (h : w.ownsRow B 103 6 (.slice (some ⟨g, 0, none⟩) n c) n (fanV l n)) {k : Nat} (hk : k < n) :
    (w.cell? ⟨g, k * 6, none⟩ = some (Value.int .i64 ((pat l 0).1)) ∧ w.cell? ⟨g, k * 6 + 1, none⟩ = some (Value.int .i64 ((pat l 0).2))) ∧ (w.cell? ⟨g, k * 6 + 2, none⟩ = some (Value.int .i64 ((pat l (k + 1)).1)) ∧ w.cell? ⟨g, k * 6 + 2 + 1, none⟩ = some (Value.int .i64 ((pat l (k + 1)).2))) ∧
    (w.cell? ⟨g, k * 6 + 4, none⟩ = some (Value.int .i64 ((pat l (k + 2)).1)) ∧ w.cell? ⟨g, k * 6 + 4 + 1, none⟩ = some (Value.int .i64 ((pat l (k + 2)).2))) := by
  have hc := h.cells (g := g) rfl
  have key : ∀ j, j < 6 → ∀ u, (ptsV [pat l 0, pat l (k + 1), pat l (k + 2)])[j]? = some u → w.cell? ⟨g, k * 6 + j, none⟩ = some u := fun j hj u hu => by
    have := hc (k * 6 + j) u (by rw [fanV_get l n k j hk hj, hu])
    rwa [add_at, Nat.zero_add] at this
  exact ⟨⟨key 0 (by omega) _ rfl, key 1 (by omega) _ rfl⟩, ⟨key 2 (by omega) _ rfl, key 3 (by omega) _ rfl⟩, ⟨key 4 (by omega) _ rfl, key 5 (by omega) _ rfl⟩⟩
theorem fanTo_bd {F : Pt → Pt → Pt → Int} {M : Int} {l : List Pt} (hp : ∀ i, i < l.length → isPt (pat l i) = true) (hF : ∀ a b c, isPt a = true → isPt b = true → isPt c = true → -M ≤ F a b c ∧ F a b c ≤ M) (h0 : 0 < l.length) :
    ∀ k, k + 2 ≤ l.length → -(M * (k : Int)) ≤ fanTo F l k ∧ fanTo F l k ≤ M * (k : Int)
  | 0, _ => by simp [fanTo]
  | k + 1, h => by
    have h1 := fanTo_bd hp hF h0 k (by omega)
    have h2 := hF _ _ _ (hp 0 h0) (hp (k + 1) (by omega)) (hp (k + 2) (by omega))
    have e : M * ((k + 1 : Nat) : Int) = M * (k : Int) + M := by rw [Int.natCast_add, Int.mul_add]; omega
    rw [e]
    show -(M * (k : Int) + M) ≤ fanTo F l k + F (pat l 0) (pat l (k + 1)) (pat l (k + 2)) ∧ fanTo F l k + F (pat l 0) (pat l (k + 1)) (pat l (k + 2)) ≤ M * (k : Int) + M
    omega

set_option maxRecDepth 100000 in
set_option maxHeartbeats 1000000 in
theorem TwiceOf_any (b o ca : Nat) (l : List Pt) (w : World) (hp : PtsAt w b o l) (h3 : 3 ≤ l.length) (hl : l.length ≤ 10) (hpt : ∀ i, i < l.length → isPt (pat l i) = true) :
    Calls Try.prog 27 #[.slice (some ⟨b, o, none⟩) l.length ca] w fun e w' => e = .returned (Value.int .i64 (tw l)) ∧ Below w.heap.size w w' := by
  have hf := Fan_any b o ca l w hp h3 (by omega)
  have HB := Lib.hid (fanTo_bd (F := turn) (M := 320000) (l := l) hpt (fun a b c ha hb hc => turn_bd ha hb hc) (by omega))
  have HP := Lib.hid hpt
  have ht : tw l = fanTo turn l (l.length - 2) := tw_fan (by omega)
  rw [ht]
  clear hp hpt ht
  go_enter Try.func27, Try.ntmps27
  go_wp2_with ((with_reducible refine Calls.mono hf ?_); rintro e w1 ⟨g, c, rfl, hown, hb1⟩)
  go_loopg [3, 5] l.length (fun gg s i wr => ∃ k : Nat, k + 2 ≤ l.length ∧ gg = l.length - k ∧ s = (Value.int .i64 (fanTo turn l k)) ∧ i = (Value.int .i64 ((k : Int))) ∧ Below w1.heap.size w1 wr)
  case atStart => exact ⟨0, by omega, rfl, rfl, rfl, Below.refl _ _⟩
  case round =>
    obtain ⟨k, kn, rfl, rfl, rfl, hbw⟩ := hrel
    have hbd := HB.out k kn
    by_cases hlt : k + 2 < l.length
    · have hbd2 := HB.out (k + 1) (by omega)
      have e2 : fanTo turn l (k + 1) = fanTo turn l k + turn (pat l 0) (pat l (k + 1)) (pat l (k + 2)) := rfl
      rw [e2] at hbd2
      have p0 := HP.out 0 (by omega)
      have p1 := HP.out (k + 1) (by omega)
      have p2 := HP.out (k + 2) (by omega)
      have x := fan_cells hown (k := k) (by omega)
      obtain ⟨⟨x1, x2⟩, ⟨x3, x4⟩, x5, x6⟩ := x
      have lg := (hown.lt g rfl).2
      rw [← hbw.cell (p := ⟨g, _, none⟩) lg] at x1 x2 x3 x4 x5 x6
      have lg2 := Nat.lt_of_lt_of_le lg hbw.size
      go_wp2
      refine wp_region_after (by kernel_rfl) (by kernel_rfl) ?_; (repeat (go_big_quiet_step (((go_at_call 65; with_reducible exact calls_after (rTurn_any _ _ _ p0 p1 p2 _)))))); refine wpQuiet_nil ?_; rintro _ ⟨z, rfl⟩; (first | ((with_reducible apply kp_in_after (z := z)); (with_reducible assumption); rintro ⟨hk, hc, hf, hzc, hzf⟩) | ((with_reducible refine kp_in_after0 z ?_); rintro ⟨hk, hc, hf, hzc, hzf⟩))
      go_wp2
      go_roundg (l.length - (k + 1))
      case measure => omega
      case rel => exact ⟨k + 1, by omega, rfl, by rw [e2], by go_num, hbw.trans (z.ok.mono hbw.size)⟩
    · obtain rfl : k = l.length - 2 := by omega
      go_wp2
      go_ret
      exact ⟨rfl, hb1.trans (hbw.mono hb1.size)⟩

end Go.Proofs.Ytegdnbceiopklaa
