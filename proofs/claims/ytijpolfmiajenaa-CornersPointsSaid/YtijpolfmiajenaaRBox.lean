/- The function knurlref02.box answers the least and the greatest numbers of some points. -/
import Derived.Test.YtijpolfmiajenaaRefW
import Derived.StillTactics
import Derived.BigRegion
namespace Go.Proofs.Ytijpolfmiajenaa
open Go.RowKit
attribute [local go_sem] After.cell After.frozen

theorem Blk.drewR {w : World} {g : Nat} {t : TypeId} {cs : Array Value} (h : Blk w g t cs) : Blk w.drew g t cs := h
theorem bl_setR {w X : World} {b o : Nat} {v : Value} (h : Below w.heap.size w X) (hb : w.heap.size ≤ b) : Below w.heap.size w (X.setCell ⟨b, o, none⟩ v) := h.setCell (p := ⟨b, o, none⟩) hb v
def bxL (f : Pt → Int) (l : List Pt) : Nat → Int
  | 0 => f (pat l 0)
  | k + 1 => min (bxL f l k) (f (pat l k))
def bxH (f : Pt → Int) (l : List Pt) : Nat → Int
  | 0 => f (pat l 0)
  | k + 1 => max (bxH f l k) (f (pat l k))
theorem bxL_le (f : Pt → Int) (l : List Pt) : ∀ n k, k < n → bxL f l n ≤ f (pat l k)
  | 0, k, h => by omega
  | n + 1, k, h => by
    rcases Nat.lt_succ_iff_lt_or_eq.1 h with h | rfl
    · have := bxL_le f l n k h; simp only [bxL]; omega
    · simp only [bxL]; omega
theorem le_bxH (f : Pt → Int) (l : List Pt) : ∀ n k, k < n → f (pat l k) ≤ bxH f l n
  | 0, k, h => by omega
  | n + 1, k, h => by
    rcases Nat.lt_succ_iff_lt_or_eq.1 h with h | rfl
    · have := le_bxH f l n k h; simp only [bxH]; omega
    · simp only [bxH]; omega
theorem bx_bd {f : Pt → Int} {l : List Pt} (hl : 0 < l.length) (h : ∀ i, i < l.length → -200 ≤ f (pat l i) ∧ f (pat l i) ≤ 200) : ∀ k, k ≤ l.length → (-200 ≤ bxL f l k ∧ bxL f l k ≤ 200) ∧ (-200 ≤ bxH f l k ∧ bxH f l k ≤ 200) ∧ bxL f l k ≤ bxH f l k
  | 0, _ => by
    have := h 0 hl
    simp only [bxL, bxH]; omega
  | k + 1, hk => by
    have h1 := bx_bd hl h k (by omega)
    have h2 := h k (by omega)
    simp only [bxL, bxH]
    omega

set_option maxRecDepth 100000 in
set_option maxHeartbeats 4000000 in
theorem rbox_any (b o ca : Nat) (l : List Pt) (w : World) (hp : PtsAt w b o l) (h0 : 0 < l.length) (h1 : l.length ≤ 1000000) :
    Calls Try.prog 62 #[.slice (some ⟨b, o, none⟩) l.length ca] w fun e w' => e = .returned (.tuple #[(Value.agg #[.int .i64 (bxL (·.1) l l.length, bxL (·.2) l l.length).1, .int .i64 (bxL (·.1) l l.length, bxL (·.2) l l.length).2]), (Value.agg #[.int .i64 (bxH (·.1) l l.length, bxH (·.2) l l.length).1, .int .i64 (bxH (·.1) l l.length, bxH (·.2) l l.length).2])]) ∧ Below w.heap.size w w' := by
  have j2 : (0 : Int) < (l.length : Int) := by omega
  have lb := hp.lt
  go_enter Try.func62, Try.ntmps62
  go_upto_region 1 with fail
  have c2 := (Blk.new w 33 #[(Value.int .i64 (0)), (Value.int .i64 (0))]).alloc (.cells #[(Value.int .i64 (0)), (Value.int .i64 (0))] 33)
  have c3 := Blk.new (w.alloc (.cells #[(Value.int .i64 (0)), (Value.int .i64 (0))] 33)) 33 #[(Value.int .i64 (0)), (Value.int .i64 (0))]
  simp only [World.size_alloc] at c3
  have hbW : Below w.heap.size w ((w.alloc (.cells #[(Value.int .i64 (0)), (Value.int .i64 (0))] 33)).alloc (.cells #[(Value.int .i64 (0)), (Value.int .i64 (0))] 33)) := by (repeat (first | with_reducible exact Below.refl _ _ | with_reducible apply bl_alloc | with_reducible apply bl_drew | with_reducible apply bl_after | (with_reducible refine bl_call ?_ (by assumption))))
  generalize (w.alloc (.cells #[(Value.int .i64 (0)), (Value.int .i64 (0))] 33)).alloc (.cells #[(Value.int .i64 (0)), (Value.int .i64 (0))] 33) = W1 at c2 c3 hbW ⊢
  go_cut [] (fun wx => Blk wx w.heap.size 33 #[(Value.int .i64 ((pat l 0).1)), (Value.int .i64 ((pat l 0).2))] ∧ Blk wx (w.heap.size + 1) 33 #[(Value.int .i64 ((pat l 0).1)), (Value.int .i64 ((pat l 0).2))] ∧ Below w.heap.size w wx)
  case first =>
    as_aux_lemma =>
      have pa := hp.below hbW
      have x1 := pa.xp (i := 0) (by omega)
      have x2 := pa.yp (i := 0) (by omega)
      simp only [Nat.zero_mul, Nat.add_zero] at x1 x2
      have l2 := c2.lt
      have l3 := c3.lt
      have y0 := c2.cell 0
      have y1 := c2.cell 1
      have z0 := c3.cell 0
      have z1 := c3.cell 1
      have f0 := c2.frozen 0
      have f1 := c2.frozen 1
      have k0 := c3.frozen 0
      have k1 := c3.frozen 1
      simp only [List.getElem?_toArray, List.getElem?_cons_zero, List.getElem?_cons_succ] at y0 y1 z0 z1
      go_big_region
      go_wp2_with fail
      go_meet
      refine ⟨?_, ?_, ?_⟩
      · have h := ((((c2.set_ 0 (Value.int .i64 ((pat l 0).1))).set_ 1 (Value.int .i64 ((pat l 0).2))).far (p := ⟨w.heap.size + 1, 0, none⟩) (by simp) (Value.int .i64 ((pat l 0).1))).far (p := ⟨w.heap.size + 1, 1, none⟩) (by simp) (Value.int .i64 ((pat l 0).2))).drewR
        simpa using h
      · have h := ((((c3.far (p := ⟨w.heap.size, 0, none⟩) (by simp) (Value.int .i64 ((pat l 0).1))).far (p := ⟨w.heap.size, 1, none⟩) (by simp) (Value.int .i64 ((pat l 0).2))).set_ 0 (Value.int .i64 ((pat l 0).1))).set_ 1 (Value.int .i64 ((pat l 0).2))).drewR
        simpa using h
      · exact bl_drew (bl_setR (bl_setR (bl_setR (bl_setR hbW (Nat.le_refl _) (o := 0) (v := (Value.int .i64 ((pat l 0).1)))) (Nat.le_refl _) (o := 1) (v := (Value.int .i64 ((pat l 0).2)))) (by omega) (o := 0) (v := (Value.int .i64 ((pat l 0).1)))) (by omega) (o := 1) (v := (Value.int .i64 ((pat l 0).2))))
  case rest =>
    clear c2 c3 hbW
    obtain ⟨c2, c3, hbW⟩ := hcut
    go_wp2
    go_loopw [4] (fun i wr => ∃ k : Nat, k ≤ l.length ∧ i = (Value.int .i64 ((k : Int))) ∧ Blk wr w.heap.size 33 #[(Value.int .i64 (bxL (·.1) l k)), (Value.int .i64 (bxL (·.2) l k))] ∧ Blk wr (w.heap.size + 1) 33 #[(Value.int .i64 (bxH (·.1) l k)), (Value.int .i64 (bxH (·.2) l k))] ∧ Below w.heap.size w wr) (fun i _ => l.length - (intOf i).toNat)
    case atStart => exact ⟨0, Nat.zero_le _, rfl, c2, c3, hbW⟩
    case round =>
      obtain ⟨k, kn, rfl, e5, e6, hbw⟩ := hrel
      clear c2 c3 hbW
      by_cases hlt : k < l.length
      · have i1 : (0 : Int) ≤ (k : Int) := by omega
        have i2 : (k : Int) < (l.length : Int) := by omega
        have nb5 : b ≠ w.heap.size := by omega
        have nb6 : b ≠ w.heap.size + 1 := by omega
        go_upto_region 5 with fail
        go_cut [] (fun wx => Blk wx w.heap.size 33 #[(Value.int .i64 (bxL (·.1) l (k + 1))), (Value.int .i64 (bxL (·.2) l (k + 1)))] ∧ Blk wx (w.heap.size + 1) 33 #[(Value.int .i64 (bxH (·.1) l k)), (Value.int .i64 (bxH (·.2) l k))] ∧ Below w.heap.size w wx)
        case first =>
          as_aux_lemma =>
            have pa := hp.below hbw
            have lb := pa.lt
            have x1 := pa.xp hlt
            have x2 := pa.yp hlt
            have y0 := e5.cell 0
            have y1 := e5.cell 1
            have f0 := e5.frozen 0
            have f1 := e5.frozen 1
            have l5 := e5.lt
            simp only [List.getElem?_toArray, List.getElem?_cons_zero, List.getElem?_cons_succ] at y0 y1
            go_big_region
            go_wp2_with fail
            go_meet
            exact ⟨(show Blk ((wr.setCell ⟨w.heap.size, 0, none⟩ (Value.int .i64 (bxL (·.1) l (k + 1)))).setCell ⟨w.heap.size, 1, none⟩ (Value.int .i64 (bxL (·.2) l (k + 1)))).drew w.heap.size 33 #[(Value.int .i64 (bxL (·.1) l (k + 1))), (Value.int .i64 (bxL (·.2) l (k + 1)))] from by have h := ((e5.set_ 0 (Value.int .i64 (bxL (·.1) l (k + 1)))).set_ 1 (Value.int .i64 (bxL (·.2) l (k + 1)))).drewR; simpa using h), ((e6.far (p := ⟨w.heap.size, 0, none⟩) (by simp) (Value.int .i64 (bxL (·.1) l (k + 1)))).far (p := ⟨w.heap.size, 1, none⟩) (by simp) (Value.int .i64 (bxL (·.2) l (k + 1)))).drewR, bl_drew (bl_setR (bl_setR hbw (Nat.le_refl _) (o := 0) (v := (Value.int .i64 (bxL (·.1) l (k + 1))))) (Nat.le_refl _) (o := 1) (v := (Value.int .i64 (bxL (·.2) l (k + 1)))))⟩
        case rest =>
          clear e5 e6 hbw
          obtain ⟨e5, e6, hbw⟩ := hcut
          go_upto_region 6 with fail
          have q5 := Lib.hid e5
          have q6 := Lib.hid e6
          have pa := hp.below hbw
          have lb := pa.lt
          have x1 := pa.xp hlt
          have x2 := pa.yp hlt
          have y0 := e6.cell 0
          have y1 := e6.cell 1
          have f0 := e6.frozen 0
          have f1 := e6.frozen 1
          have l5 := e6.lt
          simp only [List.getElem?_toArray, List.getElem?_cons_zero, List.getElem?_cons_succ] at y0 y1
          clear e5 e6
          go_big_region
          go_wp2_with fail
          go_roundw
          case rel => exact ⟨k + 1, by omega, by go_num, ((q5.out.far (p := ⟨w.heap.size + 1, 0, none⟩) (by simp) (Value.int .i64 (bxH (·.1) l (k + 1)))).far (p := ⟨w.heap.size + 1, 1, none⟩) (by simp) (Value.int .i64 (bxH (·.2) l (k + 1)))).drewR, (show Blk ((wc.setCell ⟨w.heap.size + 1, 0, none⟩ (Value.int .i64 (bxH (·.1) l (k + 1)))).setCell ⟨w.heap.size + 1, 1, none⟩ (Value.int .i64 (bxH (·.2) l (k + 1)))).drew (w.heap.size + 1) 33 #[(Value.int .i64 (bxH (·.1) l (k + 1))), (Value.int .i64 (bxH (·.2) l (k + 1)))] from by have h := ((q6.out.set_ 0 (Value.int .i64 (bxH (·.1) l (k + 1)))).set_ 1 (Value.int .i64 (bxH (·.2) l (k + 1)))).drewR; simpa using h), bl_drew (bl_setR (bl_setR hbw (by omega) (o := 0) (v := (Value.int .i64 (bxH (·.1) l (k + 1))))) (by omega) (o := 1) (v := (Value.int .i64 (bxH (·.2) l (k + 1)))))⟩
          case measure => simp [intOf]; omega
      · obtain rfl : k = l.length := by omega
        clear hlt kn
        have y0 := e5.cell 0
        have y1 := e5.cell 1
        have f0 := e5.frozen 0
        have f1 := e5.frozen 1
        have l5 := e5.lt
        have z0 := e6.cell 0
        have z1 := e6.cell 1
        have k0 := e6.frozen 0
        have k1 := e6.frozen 1
        have l6 := e6.lt
        simp only [List.getElem?_toArray, List.getElem?_cons_zero, List.getElem?_cons_succ] at y0 y1 z0 z1
        go_upto_region 7 with fail
        have q5 := Lib.hid e5
        have q6 := Lib.hid e6
        go_big_region
        go_wp2_with fail
        have g5 : Blk ((((wr.setCell ⟨w.heap.size, 0, none⟩ (Value.int .i64 (bxL (·.1) l l.length))).setCell ⟨w.heap.size, 1, none⟩ (Value.int .i64 (bxL (·.2) l l.length))).setCell ⟨w.heap.size + 1, 0, none⟩ (Value.int .i64 (bxH (·.1) l l.length))).setCell ⟨w.heap.size + 1, 1, none⟩ (Value.int .i64 (bxH (·.2) l l.length))).drew w.heap.size 33 #[(Value.int .i64 (bxL (·.1) l l.length)), (Value.int .i64 (bxL (·.2) l l.length))] := by
          have h := ((((q5.out.set_ 0 (Value.int .i64 (bxL (·.1) l l.length))).set_ 1 (Value.int .i64 (bxL (·.2) l l.length))).far (p := ⟨w.heap.size + 1, 0, none⟩) (by simp) (Value.int .i64 (bxH (·.1) l l.length))).far (p := ⟨w.heap.size + 1, 1, none⟩) (by simp) (Value.int .i64 (bxH (·.2) l l.length))).drewR
          simpa using h
        have g6 : Blk ((((wr.setCell ⟨w.heap.size, 0, none⟩ (Value.int .i64 (bxL (·.1) l l.length))).setCell ⟨w.heap.size, 1, none⟩ (Value.int .i64 (bxL (·.2) l l.length))).setCell ⟨w.heap.size + 1, 0, none⟩ (Value.int .i64 (bxH (·.1) l l.length))).setCell ⟨w.heap.size + 1, 1, none⟩ (Value.int .i64 (bxH (·.2) l l.length))).drew (w.heap.size + 1) 33 #[(Value.int .i64 (bxH (·.1) l l.length)), (Value.int .i64 (bxH (·.2) l l.length))] := by
          have h := ((((q6.out.far (p := ⟨w.heap.size, 0, none⟩) (by simp) (Value.int .i64 (bxL (·.1) l l.length))).far (p := ⟨w.heap.size, 1, none⟩) (by simp) (Value.int .i64 (bxL (·.2) l l.length))).set_ 0 (Value.int .i64 (bxH (·.1) l l.length))).set_ 1 (Value.int .i64 (bxH (·.2) l l.length))).drewR
          simpa using h
        have gB : Below w.heap.size w ((((wr.setCell ⟨w.heap.size, 0, none⟩ (Value.int .i64 (bxL (·.1) l l.length))).setCell ⟨w.heap.size, 1, none⟩ (Value.int .i64 (bxL (·.2) l l.length))).setCell ⟨w.heap.size + 1, 0, none⟩ (Value.int .i64 (bxH (·.1) l l.length))).setCell ⟨w.heap.size + 1, 1, none⟩ (Value.int .i64 (bxH (·.2) l l.length))).drew := bl_drew (bl_setR (bl_setR (bl_setR (bl_setR hbw (Nat.le_refl _) (o := 0) (v := (Value.int .i64 (bxL (·.1) l l.length)))) (Nat.le_refl _) (o := 1) (v := (Value.int .i64 (bxL (·.2) l l.length)))) (by omega) (o := 0) (v := (Value.int .i64 (bxH (·.1) l l.length)))) (by omega) (o := 1) (v := (Value.int .i64 (bxH (·.2) l l.length))))
        have u0 := g5.cell 0
        have u1 := g5.cell 1
        have v0 := g6.cell 0
        have v1 := g6.cell 1
        (try simp only [Exit.inBlock, Exit.then])
        refine bodyPost_ret (v := .tuple #[(Value.agg #[.int .i64 (bxL (·.1) l l.length, bxL (·.2) l l.length).1, .int .i64 (bxL (·.1) l l.length, bxL (·.2) l l.length).2]), (Value.agg #[.int .i64 (bxH (·.1) l l.length, bxH (·.2) l l.length).1, .int .i64 (bxH (·.1) l l.length, bxH (·.2) l l.length).2])]) (by simp [results, Try.results62, go_sem, u0, u1, v0, v1]) rfl ?_
        exact ⟨rfl, gB⟩
end Go.Proofs.Ytijpolfmiajenaa
