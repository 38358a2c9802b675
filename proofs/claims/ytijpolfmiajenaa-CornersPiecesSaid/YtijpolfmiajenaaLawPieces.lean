/- The law CornersPieces answers true for any corners, and leaves them as they were. -/
import Derived.Test.YtijpolfmiajenaaPcs
import Derived.Test.YtijpolfmiajenaaPts
import Derived.Test.YtijpolfmiajenaaOpen
import Derived.Test.YtijpolfmiajenaaTold
import Derived.StillTactics
import Derived.BigRegion
import Derived.Test.YtijpolfmiajenaaRows
namespace Go.Proofs.Ytijpolfmiajenaa
open Go.ChangeShapes Go.WideShapes Go.RowKit
attribute [local go_sem] After.cell After.frozen

theorem run_eql_all (x0 x1 x2 x3 x4 x5 x6 x7 x8 x9 : Int) (w : World) :
    (binOp .eql 42 (.agg #[(Value.int .i64 (x0)), (Value.int .i64 (x1)), (Value.int .i64 (x2)), (Value.int .i64 (x3)), (Value.int .i64 (x4)), (Value.int .i64 (x5)), (Value.int .i64 (x6)), (Value.int .i64 (x7)), (Value.int .i64 (x8)), (Value.int .i64 (x9))]) (.agg #[(Value.int .i64 (x0)), (Value.int .i64 (x1)), (Value.int .i64 (x2)), (Value.int .i64 (x3)), (Value.int .i64 (x4)), (Value.int .i64 (x5)), (Value.int .i64 (x6)), (Value.int .i64 (x7)), (Value.int .i64 (x8)), (Value.int .i64 (x9))])).run Try.prog w = .ok (.bool true) w := by
  rw [run_eql_struct, show (10000 : Nat) = 9997 + 3 from rfl, run_equalIn_struct w (9997 + 2) _ _ _ (by kernel_rfl) (by kernel_rfl)]
  simp [go_sem]
attribute [local go_sem high] run_eql_all

/-- Triples in memory. -/
structure TrsAt (w : World) (g : Nat) (T : List (Int × Int × Int)) : Prop where
  lt : g < w.heap.size
  x : ∀ i k, i < T.length → k < 3 → w.cell? ⟨g, i * 3 + k, none⟩ = some (Value.int .i64 (tnum (tat T i) k))
theorem TrsAt.below {w w' : World} {g : Nat} {T : List (Int × Int × Int)} (h : TrsAt w g T) (hb : Below w.heap.size w w') : TrsAt w' g T :=
  ⟨Nat.lt_of_lt_of_le h.lt hb.size, fun i k hi hk => (hb.cell (p := ⟨g, _, none⟩) h.lt).trans (h.x i k hi hk)⟩
theorem TrsAt.of_row {w : World} {B g n cap : Nat} {T : List (Int × Int × Int)} (h : w.ownsRow B 60 3 (.slice (some ⟨g, 0, none⟩) n cap) n (trsV T)) : TrsAt w g T := by
  refine ⟨(h.lt g rfl).2, fun i k hi hk => ?_⟩
  have := h.cells (g := g) rfl (i * 3 + k) _ (trsV_get T i k hi hk)
  rwa [add_at, Nat.zero_add] at this

theorem tnum_rng {l : List Pt} {s : Int} {t : Int × Int × Int} (h : TriOk l s t) : ∀ j, j < 3 → 0 ≤ tnum t j ∧ tnum t j < l.length := fun j hj => by
  obtain ⟨h1, h2, h3, h4, -⟩ := h
  match j, hj with
  | 0, _ => simp only [tnum]; omega
  | 1, _ => simp only [tnum]; omega
  | 2, _ => simp only [tnum]; omega
theorem trP_take (l : List Pt) (t : Int × Int × Int) : ∀ m, m < 3 → ptsV ((trP l t).take m) ++ [(Value.int .i64 ((pat l (tnum t m).toNat).1)), (Value.int .i64 ((pat l (tnum t m).toNat).2))] = ptsV ((trP l t).take (m + 1)) := fun m hm => by
  match m, hm with
  | 0, _ => rfl
  | 1, _ => rfl
  | 2, _ => rfl
theorem one_pair (x y : Int) : ∀ u ∈ [(Value.int .i64 (x)), (Value.int .i64 (y))], u.oneCell' = true := fun u hu => by
  simp only [List.mem_cons, List.not_mem_nil, or_false] at hu
  rcases hu with rfl | rfl <;> rfl
theorem four_set {V w : World} {g g3 : Nat} {t t3 : TypeId} {c3 : Array Value} {x0 x1 x2 x3 x4 x5 x6 x7 x8 x9 : Value} (e7 : Blk V g t #[x0, x1, x2, x3, x4, x5, x6, x7, x8, x9]) (e3 : Blk V g3 t3 c3) (n3 : g3 ≠ g) (hb : Below w.heap.size w V) (hg : w.heap.size ≤ g) (a b c d : Value) :
    Blk ((((V.setCell ⟨g, 6, none⟩ a).setCell ⟨g, 7, none⟩ b).setCell ⟨g, 8, none⟩ c).setCell ⟨g, 9, none⟩ d).drew g t #[x0, x1, x2, x3, x4, x5, a, b, c, d] ∧ Blk ((((V.setCell ⟨g, 6, none⟩ a).setCell ⟨g, 7, none⟩ b).setCell ⟨g, 8, none⟩ c).setCell ⟨g, 9, none⟩ d).drew g3 t3 c3 ∧ Below w.heap.size w ((((V.setCell ⟨g, 6, none⟩ a).setCell ⟨g, 7, none⟩ b).setCell ⟨g, 8, none⟩ c).setCell ⟨g, 9, none⟩ d).drew := by
  refine ⟨?_, ?_, ?_⟩
  · have h := ((((e7.set_ 6 a).set_ 7 b).set_ 8 c).set_ 9 d)
    exact h
  · exact ((((e3.far (p := ⟨g, 6, none⟩) n3 a).far (p := ⟨g, 7, none⟩) n3 b).far (p := ⟨g, 8, none⟩) n3 c).far (p := ⟨g, 9, none⟩) n3 d)
  · exact bl_drew (bl_setc (bl_setc (bl_setc (bl_setc hb hg) hg) hg) hg)
theorem trs_set {V : World} {g gt : Nat} {T : List (Int × Int × Int)} (eX : TrsAt V gt T) (nt : gt ≠ g) (i : Nat) (a : Value) : TrsAt (V.setCell ⟨g, i, none⟩ a) gt T :=
  ⟨by simpa using eX.lt, fun k j hk hj => (World.cell?_of_block (w := V) (a := ⟨gt, k * 3 + j, none⟩) (Below.heap_setCell V ⟨g, i, none⟩ a gt nt)).trans (eX.x k j hk hj)⟩
theorem six_set {V : World} {g g3 gt : Nat} {t t3 : TypeId} {c3 : Array Value} {T : List (Int × Int × Int)} {w : World} {x0 x1 x2 x3 x4 x5 x6 x7 x8 x9 : Value} (e7 : Blk V g t #[x0, x1, x2, x3, x4, x5, x6, x7, x8, x9]) (e3 : Blk V g3 t3 c3) (n3 : g3 ≠ g) (eX : TrsAt V gt T) (nt : gt ≠ g) (hb : Below w.heap.size w V) (hg : w.heap.size ≤ g) (a b c d e f : Value) :
    Blk ((((((V.setCell ⟨g, 0, none⟩ a).setCell ⟨g, 1, none⟩ b).setCell ⟨g, 2, none⟩ c).setCell ⟨g, 3, none⟩ d).setCell ⟨g, 4, none⟩ e).setCell ⟨g, 5, none⟩ f) g t #[a, b, c, d, e, f, x6, x7, x8, x9] ∧ Blk ((((((V.setCell ⟨g, 0, none⟩ a).setCell ⟨g, 1, none⟩ b).setCell ⟨g, 2, none⟩ c).setCell ⟨g, 3, none⟩ d).setCell ⟨g, 4, none⟩ e).setCell ⟨g, 5, none⟩ f) g3 t3 c3 ∧ TrsAt ((((((V.setCell ⟨g, 0, none⟩ a).setCell ⟨g, 1, none⟩ b).setCell ⟨g, 2, none⟩ c).setCell ⟨g, 3, none⟩ d).setCell ⟨g, 4, none⟩ e).setCell ⟨g, 5, none⟩ f) gt T ∧ Below w.heap.size w ((((((V.setCell ⟨g, 0, none⟩ a).setCell ⟨g, 1, none⟩ b).setCell ⟨g, 2, none⟩ c).setCell ⟨g, 3, none⟩ d).setCell ⟨g, 4, none⟩ e).setCell ⟨g, 5, none⟩ f) := by
  refine ⟨?_, ?_, ?_, ?_⟩
  · have h := ((((((e7.set_ 0 a).set_ 1 b).set_ 2 c).set_ 3 d).set_ 4 e).set_ 5 f)
    exact h
  · exact ((((((e3.far (p := ⟨g, 0, none⟩) n3 a).far (p := ⟨g, 1, none⟩) n3 b).far (p := ⟨g, 2, none⟩) n3 c).far (p := ⟨g, 3, none⟩) n3 d).far (p := ⟨g, 4, none⟩) n3 e).far (p := ⟨g, 5, none⟩) n3 f)
  · exact trs_set (trs_set (trs_set (trs_set (trs_set (trs_set eX nt 0 a) nt 1 b) nt 2 c) nt 3 d) nt 4 e) nt 5 f
  · exact bl_setc (bl_setc (bl_setc (bl_setc (bl_setc (bl_setc hb hg) hg) hg) hg) hg) hg
set_option maxRecDepth 100000 in
set_option maxHeartbeats 8000000 in
theorem lawPieces_any (A : Option Addr) (ca : Nat) (l : List Pt) (w : World) (ha : Pts w A l) (hla : l.length ≤ 9223372036854775807) :
    Calls Try.prog 13 #[.slice A l.length ca] w fun e w' => e = .returned (.bool true) ∧ Below w.heap.size w w' := by
  have hr := ready_any A ca l w ha hla
  by_cases hok : Ok l
  · rw [decide_eq_true hok] at hr
    obtain ⟨b, o, rfl, hp⟩ := ha.ok hok
    have hl10 := hok.1
    have hpt := Lib.hid hok.2.1
    have ht1 := Lib.hid fun (V : World) (h : Below w.heap.size w V) => told_ok b o ca l V (hp.below h) hok
    obtain ⟨s, hs, hR, hps, hsg⟩ := ok_res hok
    have hTr := Lib.hid fun (V : World) (h : Below w.heap.size w V) => Triangles_ok b o ca l s V (hp.below h) hok hs hR hsg
    clear hsg hR hok
    go_enter Try.func13, Try.ntmps13
    go_upto_region 4 with (first | (go_at_call 14; with_reducible refine Calls.mono (hr) ?_; rintro e w1 ⟨rfl, hb1⟩; first | ((with_reducible apply kp_in_step (hb := hb1)); (with_reducible assumption); rintro ⟨hk, hc, hf, hzc, hzf⟩) | ((with_reducible refine kp_in_first hb1 ?_); rintro ⟨hk, hc, hf, hzc, hzf⟩)) | (go_at_call 30; with_reducible refine Calls.mono (ht1.out _ (by (repeat (first | with_reducible exact Below.refl _ _ | with_reducible apply bl_alloc | with_reducible apply bl_drew | with_reducible apply bl_after | (with_reducible refine bl_call ?_ (by assumption)))))) ?_; rintro e w1 ⟨rfl, hb1⟩; first | ((with_reducible apply kp_in_step (hb := hb1)); (with_reducible assumption); rintro ⟨hk, hc, hf, hzc, hzf⟩) | ((with_reducible refine kp_in_first hb1 ?_); rintro ⟨hk, hc, hf, hzc, hzf⟩)))
    have c3 : Blk (w1.alloc (.cells #[(Value.int .i64 (tw l)), (Value.int .i64 (mx l)), (Value.int .i64 (my l)), (Value.int .i64 (mxx l)), (Value.int .i64 (mxy l)), (Value.int .i64 (myy l)), (Value.int .i64 ((cenX l).1)), (Value.int .i64 ((cenX l).2)), (Value.int .i64 ((cenY l).1)), (Value.int .i64 ((cenY l).2))] 42)) w1.heap.size 42 #[(Value.int .i64 (tw l)), (Value.int .i64 (mx l)), (Value.int .i64 (my l)), (Value.int .i64 (mxx l)), (Value.int .i64 (mxy l)), (Value.int .i64 (myy l)), (Value.int .i64 ((cenX l).1)), (Value.int .i64 ((cenX l).2)), (Value.int .i64 ((cenY l).1)), (Value.int .i64 ((cenY l).2))] := Blk.new _ _ _
    have hbE : Below w.heap.size w (w1.alloc (.cells #[(Value.int .i64 (tw l)), (Value.int .i64 (mx l)), (Value.int .i64 (my l)), (Value.int .i64 (mxx l)), (Value.int .i64 (mxy l)), (Value.int .i64 (myy l)), (Value.int .i64 ((cenX l).1)), (Value.int .i64 ((cenX l).2)), (Value.int .i64 ((cenY l).1)), (Value.int .i64 ((cenY l).2))] 42)) := by (repeat (first | with_reducible exact Below.refl _ _ | with_reducible apply bl_alloc | with_reducible apply bl_drew | with_reducible apply bl_after | (with_reducible refine bl_call ?_ (by assumption))))
    have hgw : w.heap.size ≤ w1.heap.size := by
      have h : Below w.heap.size w w1 := by (repeat (first | with_reducible exact Below.refl _ _ | with_reducible apply bl_alloc | with_reducible apply bl_drew | with_reducible apply bl_after | (with_reducible refine bl_call ?_ (by assumption))))
      exact h.size
    clear hk hc hf hzc hzf hb1
    clear hk hc hf hzc hzf hb1
    clear hr ht1
    generalize w1.alloc (.cells #[(Value.int .i64 (tw l)), (Value.int .i64 (mx l)), (Value.int .i64 (my l)), (Value.int .i64 (mxx l)), (Value.int .i64 (mxy l)), (Value.int .i64 (myy l)), (Value.int .i64 ((cenX l).1)), (Value.int .i64 ((cenX l).2)), (Value.int .i64 ((cenY l).1)), (Value.int .i64 ((cenY l).2))] 42) = W1 at c3 hbE ⊢
    generalize w1.heap.size = g3 at c3 hgw ⊢
    have hTc := hTr.out W1 hbE
    clear hTr
    go_upto_region 5 with (go_at_call 44; (with_reducible refine Calls.mono hTc ?_); rintro e w5 ⟨v, T, rfl, hO, hT, hb5⟩)
    have hTl := hT.len
    obtain ⟨gt, cap, cur, rfl, -⟩ := hO.2.resolve_left (fun h => by omega)
    have hgt := (hO.lt gt rfl).1
    have hgt2 := (hO.lt gt rfl).2
    have hX := TrsAt.of_row hO
    have hgg : g3 < W1.heap.size := c3.lt
    replace c3 := c3.below hb5
    have hbw := bl_call hbE hb5
    have hs5 := hb5.size
    replace hTl := Lib.hid hTl
    have hT1 : ((T.length : Int) != (l.length : Int) - 2) = false := by have := hTl.out; simp; omega
    have hT8 : T.length ≤ 8 := by have := hTl.out; omega
    clear hO hb5 hTc hbE
    go_wp2
    have c7 := Blk.new w5 42 #[(Value.int .i64 (0)), (Value.int .i64 (0)), (Value.int .i64 (0)), (Value.int .i64 (0)), (Value.int .i64 (0)), (Value.int .i64 (0)), (Value.int .i64 (0)), (Value.int .i64 (0)), (Value.int .i64 (0)), (Value.int .i64 (0))]
    replace c3 := c3.alloc (.cells #[(Value.int .i64 (0)), (Value.int .i64 (0)), (Value.int .i64 (0)), (Value.int .i64 (0)), (Value.int .i64 (0)), (Value.int .i64 (0)), (Value.int .i64 (0)), (Value.int .i64 (0)), (Value.int .i64 (0)), (Value.int .i64 (0))] 42)
    replace hX := hX.below ((Below.refl _ w5).alloc (Nat.le_refl _) (.cells #[(Value.int .i64 (0)), (Value.int .i64 (0)), (Value.int .i64 (0)), (Value.int .i64 (0)), (Value.int .i64 (0)), (Value.int .i64 (0)), (Value.int .i64 (0)), (Value.int .i64 (0)), (Value.int .i64 (0)), (Value.int .i64 (0))] 42))
    replace hbw := bl_alloc (o := .cells #[(Value.int .i64 (0)), (Value.int .i64 (0)), (Value.int .i64 (0)), (Value.int .i64 (0)), (Value.int .i64 (0)), (Value.int .i64 (0)), (Value.int .i64 (0)), (Value.int .i64 (0)), (Value.int .i64 (0)), (Value.int .i64 (0))] 42) hbw
    have hg7 : w.heap.size ≤ w5.heap.size := by
      have h := hbw.size
      simp at h
      omega
    have n37 : g3 ≠ w5.heap.size := by omega
    have nt7 : gt ≠ w5.heap.size := by omega
    clear hgg hs5 hgt2
    generalize w5.alloc (.cells #[(Value.int .i64 (0)), (Value.int .i64 (0)), (Value.int .i64 (0)), (Value.int .i64 (0)), (Value.int .i64 (0)), (Value.int .i64 (0)), (Value.int .i64 (0)), (Value.int .i64 (0)), (Value.int .i64 (0)), (Value.int .i64 (0))] 42) = W2 at *
    generalize w5.heap.size = g7 at *
    replace hTl := hTl.out
    have hTl2 := Lib.hid hTl
    clear hTl hT1
    go_loopg [8] T.length (fun gh i wr => ∃ k : Nat, k ≤ T.length ∧ gh = T.length - k ∧ i = (Value.int .i64 ((k : Int))) ∧ Blk wr g3 42 #[(Value.int .i64 (tw l)), (Value.int .i64 (mx l)), (Value.int .i64 (my l)), (Value.int .i64 (mxx l)), (Value.int .i64 (mxy l)), (Value.int .i64 (myy l)), (Value.int .i64 ((cenX l).1)), (Value.int .i64 ((cenX l).2)), (Value.int .i64 ((cenY l).1)), (Value.int .i64 ((cenY l).2))] ∧ Blk wr g7 42 #[(Value.int .i64 (upF oneF l T k)), (Value.int .i64 (upF fxF l T k)), (Value.int .i64 (upF fyF l T k)), (Value.int .i64 (upF xxF l T k)), (Value.int .i64 (upF xyF l T k)), (Value.int .i64 (upF yyF l T k)), (Value.int .i64 (0)), (Value.int .i64 (0)), (Value.int .i64 (0)), (Value.int .i64 (0))] ∧ TrsAt wr gt T ∧ Below w.heap.size w wr)
    case atStart => exact ⟨0, Nat.zero_le _, rfl, rfl, c3, c7, hX, hbw⟩
    case round =>
      clear c3 c7 hX hbw
      obtain ⟨k, kn, rfl, rfl, e3, e7, eX, hbw⟩ := hrel
      by_cases hlt : k < T.length
      · have hTk := hT.tri _ (tat_mem hlt)
        have hrng := Lib.hid (tnum_rng hTk)
        obtain ⟨B3, hB3⟩ : ∃ B3, B3 = wr.heap.size := ⟨_, rfl⟩
        have h7B : g7 < B3 := by rw [hB3]; exact e7.lt
        have h3B : g3 < B3 := by rw [hB3]; exact e3.lt
        have htB : gt < B3 := by rw [hB3]; exact eX.lt
        have hBB : B3 ≤ wr.heap.size := Nat.le_of_eq hB3
        have hwB : w.heap.size ≤ B3 := by rw [hB3]; exact hbw.size
        clear hB3
        obtain ⟨i0, hi0, hz0, hz1, hz2⟩ := info_parts infoPt
        go_wp2
        go_loopg [9, 10] 3 (fun gh v j wr => ∃ m : Nat, m ≤ 3 ∧ gh = 3 - m ∧ j = (Value.int .i64 ((m : Int))) ∧ wr.ownsRow B3 33 2 v m (ptsV ((trP l (tat T k)).take m)) ∧ B3 ≤ wr.heap.size ∧ Blk wr g3 42 #[(Value.int .i64 (tw l)), (Value.int .i64 (mx l)), (Value.int .i64 (my l)), (Value.int .i64 (mxx l)), (Value.int .i64 (mxy l)), (Value.int .i64 (myy l)), (Value.int .i64 ((cenX l).1)), (Value.int .i64 ((cenX l).2)), (Value.int .i64 ((cenY l).1)), (Value.int .i64 ((cenY l).2))] ∧ Blk wr g7 42 #[(Value.int .i64 (upF oneF l T k)), (Value.int .i64 (upF fxF l T k)), (Value.int .i64 (upF fyF l T k)), (Value.int .i64 (upF xxF l T k)), (Value.int .i64 (upF xyF l T k)), (Value.int .i64 (upF yyF l T k)), (Value.int .i64 (0)), (Value.int .i64 (0)), (Value.int .i64 (0)), (Value.int .i64 (0))] ∧ TrsAt wr gt T ∧ Below w.heap.size w wr)
        case atStart => exact ⟨0, by omega, rfl, rfl, World.ownsRow_nil _ _ _ _, hBB, e3, e7, eX, hbw⟩
        case round =>
          clear e3 e7 eX hbw hBB
          obtain ⟨m, mn, rfl, rfl, hO, hBB, e3, e7, eX, hbw⟩ := hrel
          by_cases hlm : m < 3
          · obtain ⟨q1, q2⟩ := hrng.out m hlm
            have x1 := eX.x k m hlt hlm
            have htk := trP_take l (tat T k) m hlm
            obtain ⟨j, ej⟩ : ∃ j : Nat, tnum (tat T k) m = j := ⟨(tnum (tat T k) m).toNat, by omega⟩
            rw [ej] at x1 q1 q2 htk
            simp only [Int.toNat_natCast] at htk
            have j1 : j < l.length := by omega
            have x2 := (hp.below hbw).xp j1
            have x3 := (hp.below hbw).yp j1
            have lb := (hp.below hbw).lt
            have lt := eX.lt
            have hlm' : (m : Int) < 3 := by omega
            replace htk := Lib.hid htk
            clear ej
            go_wp2_with (at_builtin; refine wpList_append_own _ rfl (.tmp 69) (.tmp 79) 22 rfl B3 33 i0 _ 2 16 undPts hi0 hz0 hz1 hz2 rfl (by decide) _ _ _ rfl (World.ownsRow.alloc hO _) ⟨wr.heap.size, 0, none⟩ 1 1 [(Value.int .i64 ((pat l j).1)), (Value.int .i64 ((pat l j).2))] rfl rfl (tg_news _ [(Value.int .i64 ((pat l j).1)), (Value.int .i64 ((pat l j).2))] _) (one_pair _ _) (by unfold maxLen; omega) (by omega) (by simp; omega) ?_)
            intro v' w9 hown hgrow _
            have A7 := World.ownsRow.alloc hO (.cells #[(Value.int .i64 ((pat l j).1)), (Value.int .i64 ((pat l j).2))] 33)
            have far : ∀ q, q < B3 → some q ≠ u9.ownBlock := fun q hq e => by
              have := (A7.lt q e.symm).1
              omega
            have b9 : Below w.heap.size w w9 := (bl_alloc (o := .cells #[(Value.int .i64 ((pat l j).1)), (Value.int .i64 ((pat l j).2))] 33) hbw).grown hgrow (by have := hbw.size; simp; omega) fun q hq => by
              have := (A7.lt q hq).1
              omega
            have s9 : B3 ≤ w9.heap.size := by
              have := hgrow.size
              simp at this
              omega
            have r3 := blk_kept (e3.alloc (.cells #[(Value.int .i64 ((pat l j).1)), (Value.int .i64 ((pat l j).2))] 33)) hgrow (far _ h3B)
            have r7 := blk_kept (e7.alloc (.cells #[(Value.int .i64 ((pat l j).1)), (Value.int .i64 ((pat l j).2))] 33)) hgrow (far _ h7B)
            have eX2 := eX.below ((Below.refl _ wr).alloc (Nat.le_refl _) (.cells #[(Value.int .i64 ((pat l j).1)), (Value.int .i64 ((pat l j).2))] 33))
            have rX : TrsAt w9 gt T := ⟨Nat.lt_of_lt_of_le eX2.lt hgrow.size, fun i k hi hk => hgrow.cell (eX2.x i k hi hk) (far _ htB)⟩
            rw [htk.out] at hown
            go_wp2
            go_roundg (3 - (m + 1))
            case measure => omega
            case rel => exact ⟨m + 1, by omega, rfl, by go_num, hown, s9, r3, r7, rX, b9⟩
          · obtain rfl : m = 3 := by omega
            obtain ⟨g9, c9, cur9, rfl, -⟩ := hO.2.resolve_left (fun h => by omega)
            have e33 : (trP l (tat T k)).take 3 = trP l (tat T k) := rfl
            rw [e33] at hO
            have hq := ptsAt_own hO
            have hbr := hbw
            have hchk := Lib.hid fun (V : World) (h : Below wr.heap.size wr V) => (show Calls Try.prog 23 #[.slice (some ⟨g9, 0, none⟩) 3 c9] V fun e w' => e = .returned (Value.int .i64 (chk (trP l (tat T k)))) ∧ Below V.heap.size V w' from rCheck_any (some ⟨g9, 0, none⟩) c9 (trP l (tat T k)) V (.inr ⟨g9, 0, rfl, hq.below h⟩) (by simp [trP]))
            by_cases hz : triT l (tat T k) = 0
            · rw [chk_no (trP_no hz)] at hchk
              have u1 := upF_flat six_one l hlt hz
              have u2 := upF_flat six_fx l hlt hz
              have u3 := upF_flat six_fy l hlt hz
              have u4 := upF_flat six_xx l hlt hz
              have u5 := upF_flat six_xy l hlt hz
              have u6 := upF_flat six_yy l hlt hz
              replace u1 := Lib.hid u1
              replace u2 := Lib.hid u2
              replace u3 := Lib.hid u3
              replace u4 := Lib.hid u4
              replace u5 := Lib.hid u5
              replace u6 := Lib.hid u6
              clear hq hO
              go_wp2_with (go_at_call 23; with_reducible refine Calls.mono (hchk.out _ (by (repeat (first | with_reducible exact Below.refl _ _ | with_reducible apply bl_alloc | with_reducible apply bl_drew | with_reducible apply bl_after | (with_reducible refine bl_call ?_ (by assumption)))))) ?_; rintro e w1 ⟨rfl, hb1⟩; first | ((with_reducible apply kp_in_step (hb := hb1)); (with_reducible assumption); rintro ⟨hk, hc, hf, hzc, hzf⟩) | ((with_reducible refine kp_in_first hb1 ?_); rintro ⟨hk, hc, hf, hzc, hzf⟩))
              have hbb : Below wr.heap.size wr w1 := by (repeat (first | with_reducible exact Below.refl _ _ | with_reducible apply bl_alloc | with_reducible apply bl_drew | with_reducible apply bl_after | (with_reducible refine bl_call ?_ (by assumption))))
              go_roundg (T.length - (k + 1))
              case measure => omega
              case rel => exact ⟨k + 1, by omega, rfl, by go_num, e3.below hbb, by rw [u1.out, u2.out, u3.out, u4.out, u5.out, u6.out]; exact e7.below hbb, eX.below hbb, bl_call hbw hbb⟩
            · have hok2 := trP_ok hpt.out hTk hz
              rw [chk_ok hok2] at hchk
              have htd := Lib.hid fun (V : World) (h : Below wr.heap.size wr V) => (show Calls Try.prog 30 #[.slice (some ⟨g9, 0, none⟩) 3 c9] V fun e w' => e = .returned (.tuple #[.agg #[(Value.int .i64 (tw (trP l (tat T k)))), (Value.int .i64 (mx (trP l (tat T k)))), (Value.int .i64 (my (trP l (tat T k)))), (Value.int .i64 (mxx (trP l (tat T k)))), (Value.int .i64 (mxy (trP l (tat T k)))), (Value.int .i64 (myy (trP l (tat T k)))), (Value.int .i64 ((cenX (trP l (tat T k))).1)), (Value.int .i64 ((cenX (trP l (tat T k))).2)), (Value.int .i64 ((cenY (trP l (tat T k))).1)), (Value.int .i64 ((cenY (trP l (tat T k))).2))], .bool true]) ∧ Below V.heap.size V w' from told_ok g9 0 c9 (trP l (tat T k)) V (hq.below h) hok2)
              have hsgn : (!decide (0 < tw (trP l (tat T k))) == decide (0 < tw l)) = false := by rw [trP_sign hs hps hTk hz]; cases decide (0 < tw l) <;> rfl
              have u1 : upF oneF l T (k + 1) = upF oneF l T k + tw (trP l (tat T k)) := upF_next oneF l hlt
              have u2 : upF fxF l T (k + 1) = upF fxF l T k + mx (trP l (tat T k)) := upF_next fxF l hlt
              have u3 : upF fyF l T (k + 1) = upF fyF l T k + my (trP l (tat T k)) := upF_next fyF l hlt
              have u4 : upF xxF l T (k + 1) = upF xxF l T k + mxx (trP l (tat T k)) := upF_next xxF l hlt
              have u5 : upF xyF l T (k + 1) = upF xyF l T k + mxy (trP l (tat T k)) := upF_next xyF l hlt
              have u6 : upF yyF l T (k + 1) = upF yyF l T k + myy (trP l (tat T k)) := upF_next yyF l hlt
              have v1 := upF_bd six_one hpt.out hT (k + 1) hlt
              have v2 := upF_bd six_fx hpt.out hT (k + 1) hlt
              have v3 := upF_bd six_fy hpt.out hT (k + 1) hlt
              have v4 := upF_bd six_xx hpt.out hT (k + 1) hlt
              have v5 := upF_bd six_xy hpt.out hT (k + 1) hlt
              have v6 := upF_bd six_yy hpt.out hT (k + 1) hlt
              rw [u1] at v1
              rw [u2] at v2
              rw [u3] at v3
              rw [u4] at v4
              rw [u5] at v5
              rw [u6] at v6
              have m1 := wrap64_in (x := upF oneF l T k + tw (trP l (tat T k))) (by omega) (by omega)
              have m2 := wrap64_in (x := upF fxF l T k + mx (trP l (tat T k))) (by omega) (by omega)
              have m3 := wrap64_in (x := upF fyF l T k + my (trP l (tat T k))) (by omega) (by omega)
              have m4 := wrap64_in (x := upF xxF l T k + mxx (trP l (tat T k))) (by omega) (by omega)
              have m5 := wrap64_in (x := upF xyF l T k + mxy (trP l (tat T k))) (by omega) (by omega)
              have m6 := wrap64_in (x := upF yyF l T k + myy (trP l (tat T k))) (by omega) (by omega)
              clear hq hO v1 v2 v3 v4 v5 v6
              replace u1 := Lib.hid u1
              replace u2 := Lib.hid u2
              replace u3 := Lib.hid u3
              replace u4 := Lib.hid u4
              replace u5 := Lib.hid u5
              replace u6 := Lib.hid u6
              go_upto_region 20 with (first | (go_at_call 23; with_reducible refine Calls.mono (hchk.out _ (by (repeat (first | with_reducible exact Below.refl _ _ | with_reducible apply bl_alloc | with_reducible apply bl_drew | with_reducible apply bl_after | (with_reducible refine bl_call ?_ (by assumption)))))) ?_; rintro e w1 ⟨rfl, hb1⟩; first | ((with_reducible apply kp_in_step (hb := hb1)); (with_reducible assumption); rintro ⟨hk, hc, hf, hzc, hzf⟩) | ((with_reducible refine kp_in_first hb1 ?_); rintro ⟨hk, hc, hf, hzc, hzf⟩)) | (go_at_call 30; with_reducible refine Calls.mono (htd.out _ (by (repeat (first | with_reducible exact Below.refl _ _ | with_reducible apply bl_alloc | with_reducible apply bl_drew | with_reducible apply bl_after | (with_reducible refine bl_call ?_ (by assumption)))))) ?_; rintro e w1 ⟨rfl, hb1⟩; first | ((with_reducible apply kp_in_step (hb := hb1)); (with_reducible assumption); rintro ⟨hk, hc, hf, hzc, hzf⟩) | ((with_reducible refine kp_in_first hb1 ?_); rintro ⟨hk, hc, hf, hzc, hzf⟩)))
              have hbb : Below wr.heap.size wr (w1.alloc (.cells #[(Value.int .i64 (tw (trP l (tat T k)))), (Value.int .i64 (mx (trP l (tat T k)))), (Value.int .i64 (my (trP l (tat T k)))), (Value.int .i64 (mxx (trP l (tat T k)))), (Value.int .i64 (mxy (trP l (tat T k)))), (Value.int .i64 (myy (trP l (tat T k)))), (Value.int .i64 ((cenX (trP l (tat T k))).1)), (Value.int .i64 ((cenX (trP l (tat T k))).2)), (Value.int .i64 ((cenY (trP l (tat T k))).1)), (Value.int .i64 ((cenY (trP l (tat T k))).2))] 42)) := by (repeat (first | with_reducible exact Below.refl _ _ | with_reducible apply bl_alloc | with_reducible apply bl_drew | with_reducible apply bl_after | (with_reducible refine bl_call ?_ (by assumption))))
              have c11 := Blk.new w1 42 #[(Value.int .i64 (tw (trP l (tat T k)))), (Value.int .i64 (mx (trP l (tat T k)))), (Value.int .i64 (my (trP l (tat T k)))), (Value.int .i64 (mxx (trP l (tat T k)))), (Value.int .i64 (mxy (trP l (tat T k)))), (Value.int .i64 (myy (trP l (tat T k)))), (Value.int .i64 ((cenX (trP l (tat T k))).1)), (Value.int .i64 ((cenX (trP l (tat T k))).2)), (Value.int .i64 ((cenY (trP l (tat T k))).1)), (Value.int .i64 ((cenY (trP l (tat T k))).2))]
              have s11 : wr.heap.size ≤ w1.heap.size := by
                have h : Below wr.heap.size wr w1 := by (repeat (first | with_reducible exact Below.refl _ _ | with_reducible apply bl_alloc | with_reducible apply bl_drew | with_reducible apply bl_after | (with_reducible refine bl_call ?_ (by assumption))))
                exact h.size
              have l7 := e7.lt
              have l3 := e3.lt
              have lX := eX.lt
              have n7 : g7 ≠ w1.heap.size := by omega
              have n3 : g3 ≠ w1.heap.size := by omega
              have nX : gt ≠ w1.heap.size := by omega
              have hwg7 : w.heap.size ≤ g7 := hg7
              replace e7 := e7.below hbb
              replace e3 := e3.below hbb
              replace eX := eX.below hbb
              replace hbr := bl_call hbr hbb
              clear hk hc hf hzc hzf hb1
              clear hk hc hf hzc hzf hb1
              clear hchk htd hbb s11 l7 l3 lX hbw
              generalize w1.alloc (.cells #[(Value.int .i64 (tw (trP l (tat T k)))), (Value.int .i64 (mx (trP l (tat T k)))), (Value.int .i64 (my (trP l (tat T k)))), (Value.int .i64 (mxx (trP l (tat T k)))), (Value.int .i64 (mxy (trP l (tat T k)))), (Value.int .i64 (myy (trP l (tat T k)))), (Value.int .i64 ((cenX (trP l (tat T k))).1)), (Value.int .i64 ((cenX (trP l (tat T k))).2)), (Value.int .i64 ((cenY (trP l (tat T k))).1)), (Value.int .i64 ((cenY (trP l (tat T k))).2))] 42) = V at *
              generalize w1.heap.size = g11 at *
              have y0 := e7.cell 0
              have y1 := e7.cell 1
              have y2 := e7.cell 2
              have y3 := e7.cell 3
              have y4 := e7.cell 4
              have y5 := e7.cell 5
              have z0 := c11.cell 0
              have z1 := c11.cell 1
              have z2 := c11.cell 2
              have z3 := c11.cell 3
              have z4 := c11.cell 4
              have z5 := c11.cell 5
              have x0 := e3.cell 0
              have f0 := e7.frozen 0
              have f1 := e7.frozen 1
              have f2 := e7.frozen 2
              have f3 := e7.frozen 3
              have f4 := e7.frozen 4
              have f5 := e7.frozen 5
              have l7 := e7.lt
              have l3 := e3.lt
              have l11 := c11.lt
              simp only [List.getElem?_toArray, List.getElem?_cons_zero, List.getElem?_cons_succ] at y0 y1 y2 y3 y4 y5 z0 z1 z2 z3 z4 z5 x0
              have n711 : g11 ≠ g7 := n7.symm
              have q7 := Lib.hid e7
              have q3 := Lib.hid e3
              have qX := Lib.hid eX
              clear e7 e3 eX c11
              go_wp2
              obtain ⟨r7, r3, rX, rb⟩ := six_set q7.out q3.out n37 qX.out nt7 hbr hwg7 (Value.int .i64 ((upF oneF l T k + tw (trP l (tat T k))))) (Value.int .i64 ((upF fxF l T k + mx (trP l (tat T k))))) (Value.int .i64 ((upF fyF l T k + my (trP l (tat T k))))) (Value.int .i64 ((upF xxF l T k + mxx (trP l (tat T k))))) (Value.int .i64 ((upF xyF l T k + mxy (trP l (tat T k))))) (Value.int .i64 ((upF yyF l T k + myy (trP l (tat T k)))))
              go_roundg (T.length - (k + 1))
              case measure => omega
              case rel => exact ⟨k + 1, by omega, rfl, by go_num, r3, by rw [u1.out, u2.out, u3.out, u4.out, u5.out, u6.out]; exact r7, rX, rb⟩
      · obtain rfl : k = T.length := by omega
        have w1 : upF oneF l T T.length = tw l := upF_all six_one hT
        have w2 : upF fxF l T T.length = mx l := upF_all six_fx hT
        have w3 : upF fyF l T T.length = my l := upF_all six_fy hT
        have w4 : upF xxF l T T.length = mxx l := upF_all six_xx hT
        have w5 : upF xyF l T T.length = mxy l := upF_all six_xy hT
        have w6 : upF yyF l T T.length = myy l := upF_all six_yy hT
        rw [w1, w2, w3, w4, w5, w6] at e7
        clear w1 w2 w3 w4 w5 w6 eX hlt
        have y0 := e7.cell 0
        have y1 := e7.cell 1
        have y2 := e7.cell 2
        have y3 := e7.cell 3
        have y4 := e7.cell 4
        have y5 := e7.cell 5
        have y6 := e7.cell 6
        have y7 := e7.cell 7
        have y8 := e7.cell 8
        have y9 := e7.cell 9
        have x0 := e3.cell 0
        have x1 := e3.cell 1
        have x2 := e3.cell 2
        have x3 := e3.cell 3
        have x4 := e3.cell 4
        have x5 := e3.cell 5
        have x6 := e3.cell 6
        have x7 := e3.cell 7
        have x8 := e3.cell 8
        have x9 := e3.cell 9
        have f6 := e7.frozen 6
        have f7 := e7.frozen 7
        have f8 := e7.frozen 8
        have f9 := e7.frozen 9
        have l7 := e7.lt
        have l3 := e3.lt
        simp only [List.getElem?_toArray, List.getElem?_cons_zero, List.getElem?_cons_succ] at y0 y1 y2 y3 y4 y5 y6 y7 y8 y9 x0 x1 x2 x3 x4 x5 x6 x7 x8 x9
        go_upto_region 28 with fail
        go_big_region
        obtain ⟨r7, r3, rb⟩ := four_set e7 e3 n37 hbw hg7 (Value.int .i64 ((cenX l).1)) (Value.int .i64 ((cenX l).2)) (Value.int .i64 ((cenY l).1)) (Value.int .i64 ((cenY l).2))
        clear y0 y1 y2 y3 y4 y5 y6 y7 y8 y9 x0 x1 x2 x3 x4 x5 x6 x7 x8 x9 f6 f7 f8 f9 l7 l3 e7 e3 hbw
        generalize ((((wr.setCell ⟨g7, 6, none⟩ (Value.int .i64 ((cenX l).1))).setCell ⟨g7, 7, none⟩ (Value.int .i64 ((cenX l).2))).setCell ⟨g7, 8, none⟩ (Value.int .i64 ((cenY l).1))).setCell ⟨g7, 9, none⟩ (Value.int .i64 ((cenY l).2))).drew = V at *
        have y0 := r7.cell 0
        have y1 := r7.cell 1
        have y2 := r7.cell 2
        have y3 := r7.cell 3
        have y4 := r7.cell 4
        have y5 := r7.cell 5
        have y6 := r7.cell 6
        have y7 := r7.cell 7
        have y8 := r7.cell 8
        have y9 := r7.cell 9
        have x0 := r3.cell 0
        have x1 := r3.cell 1
        have x2 := r3.cell 2
        have x3 := r3.cell 3
        have x4 := r3.cell 4
        have x5 := r3.cell 5
        have x6 := r3.cell 6
        have x7 := r3.cell 7
        have x8 := r3.cell 8
        have x9 := r3.cell 9
        simp only [List.getElem?_toArray, List.getElem?_cons_zero, List.getElem?_cons_succ] at y0 y1 y2 y3 y4 y5 y6 y7 y8 y9 x0 x1 x2 x3 x4 x5 x6 x7 x8 x9
        go_wp2_with (go_at_call 15; with_reducible refine Calls.mono (works_any _) ?_; rintro e w1 ⟨rfl, hb1⟩; first | ((with_reducible apply kp_in_step (hb := hb1)); (with_reducible assumption); rintro ⟨hk, hc, hf, hzc, hzf⟩) | ((with_reducible refine kp_in_first hb1 ?_); rintro ⟨hk, hc, hf, hzc, hzf⟩))
        go_ret
        exact ⟨rfl, by (repeat (first | with_reducible exact Below.refl _ _ | with_reducible apply bl_alloc | with_reducible apply bl_drew | with_reducible apply bl_after | (with_reducible refine bl_call ?_ (by assumption))))⟩
  · rw [decide_eq_false hok] at hr
    go_enter Try.func13, Try.ntmps13
    go_wp2_with (first | (go_at_call 14; with_reducible refine Calls.mono (hr) ?_; rintro e w1 ⟨rfl, hb1⟩; first | ((with_reducible apply kp_in_step (hb := hb1)); (with_reducible assumption); rintro ⟨hk, hc, hf, hzc, hzf⟩) | ((with_reducible refine kp_in_first hb1 ?_); rintro ⟨hk, hc, hf, hzc, hzf⟩)) | (go_at_call 15; with_reducible refine Calls.mono (works_any _) ?_; rintro e w1 ⟨rfl, hb1⟩; first | ((with_reducible apply kp_in_step (hb := hb1)); (with_reducible assumption); rintro ⟨hk, hc, hf, hzc, hzf⟩) | ((with_reducible refine kp_in_first hb1 ?_); rintro ⟨hk, hc, hf, hzc, hzf⟩)))
    go_ret
    exact ⟨rfl, by (repeat (first | with_reducible exact Below.refl _ _ | with_reducible apply bl_alloc | with_reducible apply bl_drew | with_reducible apply bl_after | (with_reducible refine bl_call ?_ (by assumption))))⟩
section
open Go.ChangeAt
set_option maxRecDepth 100000 in
theorem cornersPieces_lifted (os : Os) (started : os.Started) (H : Type) (enc : TypeId × Value → H) :
    ReturnsInHanded {} Try.checked os 13 .any (Rows.cornersPiecesSpec.pre6 enc Try.prog Try.f13 Rows.cornersPiecesRow.domain false) (Rows.cornersPiecesSpec.post enc Try.prog Try.f13 false true false false) := by
  refine returnsInHanded_of_change (C := Try.checked) own_knob started (by kernel_rfl) Try.func13
    (ChangeSpec.witness6 (enc := enc) (C := Try.checked) false ⟨#[], #[.slice none 0 0], []⟩ 8 (by kernel_rfl) (by kernel_rfl) (by kernel_rfl) (by kernel_rfl)) ?_
  intro W base args ds gs before hval0 hW hcnd _
  have hval : ∀ (j : Nat) t v, Try.f13.params[j]? = some t → args[j]? = some v → Value.okWide Try.prog W .any base t v := hval0
  have hW2 := hW
  obtain ⟨p, q, hA0, hV, rfl, hfz, hnd⟩ := hW
  have hA : DataW.TrodAll enc Try.prog W 0 (fun _ => true) true Try.f13.params.toList args.toList ds p := hA0
  rw [Try.params13] at hA hval
  obtain ⟨v0, d0, rfl, rfl, h0⟩ := trodAll_one hA
  obtain ⟨rfl, rfl⟩ := trodVars_none hV
  obtain ⟨A, ca, l, rfl, hP, hl⟩ := open_points (okWide_slice undPts (hval 0 _ _ rfl rfl)) h0
  clear hA0 hval0
  simp only [List.append_nil, List.nil_append] at hW2
  (try simp only [List.append_nil, List.nil_append] at hA)
  refine (lawPieces_any A ca l W hP hl).mono fun e W2 ⟨he, hb⟩ => ?_
  subst he
  refine ⟨_, rfl, post_of_below (pa := _) (pv := []) hW2 (fun _ _ _ => trodAll_mk1 (shut_bool und_bool _)) (fun sp hs => args_stay hb (by rw [Try.params13]; intro t ht; simp at ht; (try rcases ht with rfl | rfl | rfl) <;> (try rcases ht with rfl | rfl) <;> (try subst ht) <;> exact ⟨by kernel_rfl, by decide +kernel⟩) (by rw [Try.params13]; exact hA) hs) (fun _ _ => rfl) (by simp) hb (ok_one (by kernel_rfl) rfl (okWide_bool_mk und_bool _))⟩

theorem cornersPieces_holds : Rows.CornersPiecesSaid :=
  OpenClaim.holds_of_wide 13 Try.f13 rfl rfl rfl rfl rfl rfl rfl ⟨rfl, rfl, rfl, rfl, rfl⟩ rfl rfl rfl rfl rfl (by kernel_rfl) Try.func13 (by kernel_rfl)
    (of_decide_eq_true (by kernel_rfl)) (by unfold Func.isWrapper; first | (rw [if_pos (by decide +kernel)]; kernel_rfl) | (rw [if_neg (by decide +kernel)]; exact ⟨rfl, rfl⟩))
    (fun os started H enc _ => cornersPieces_lifted os started H enc)
end
end Go.Proofs.Ytijpolfmiajenaa
