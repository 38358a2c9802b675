/- The function knurlref02.Fan answers the triangles from the first corner, for at most a million corners in memory. -/
import Derived.Test.YthijegacjboclaaGreatJOwn
import Derived.Test.YthijegacjboclaaGreatMom
import Derived.Deep.AppendLies
import Derived.StillTactics
namespace Go.Proofs.YthijegacjboclaaGreat
open Go.RowKit
attribute [local go_sem] After.cell After.frozen

/-- The cells of the first k triangles of a fan. -/
def fanV (l : List Pt) : Nat → List Value
  | 0 => []
  | k + 1 => fanV l k ++ ptsV [pat l 0, pat l (k + 1), pat l (k + 2)]
theorem fanV_len (l : List Pt) : ∀ k, (fanV l k).length = k * 6
  | 0 => rfl
  | k + 1 => by simp [fanV, fanV_len l k, ptsV]; omega
theorem fanV_get (l : List Pt) : ∀ (n k j : Nat), k < n → j < 6 → (fanV l n)[k * 6 + j]? = (ptsV [pat l 0, pat l (k + 1), pat l (k + 2)])[j]?
  | 0, k, j, h, _ => by omega
  | n + 1, k, j, h, hj => by
    unfold fanV
    rcases Nat.lt_succ_iff_lt_or_eq.1 h with h1 | h1
    · rw [List.getElem?_append_left (by rw [fanV_len]; omega)]
      exact fanV_get l n k j h1 hj
    · subst h1
      rw [List.getElem?_append_right (by rw [fanV_len]; omega), fanV_len, show k * 6 + j - k * 6 = j by omega]

theorem infoTri : (Tryz.prog.info? 124).map (fun i => (i.zero, i.size, i.bytes)) = some (some (.agg #[.int .i64 0, .int .i64 0, .int .i64 0, .int .i64 0, .int .i64 0, .int .i64 0]), 6, 48) := by kernel_rfl
theorem undTri : Tryz.prog.underlying 121 = some (.slice 124) := by kernel_rfl

set_option maxRecDepth 100000 in
set_option maxHeartbeats 1000000 in
theorem Fan_any (b o ca : Nat) (l : List Pt) (w : World) (hp : PtsAt w b o l) (h3 : 3 ≤ l.length) (hl : l.length ≤ 1000) :
    Calls Tryz.prog 74 #[.slice (some ⟨b, o, none⟩) l.length ca] w fun e w' => ∃ g c, e = .returned (.slice (some ⟨g, 0, none⟩) (l.length - 2) c) ∧ w'.ownsRow w.heap.size 124 6 (.slice (some ⟨g, 0, none⟩) (l.length - 2) c) (l.length - 2) (fanV l (l.length - 2)) ∧ Below w.heap.size w w' := by
  obtain ⟨i0, hi, hz0, hz1, hz2⟩ := info_parts infoTri
  go_enter Tryz.func74, Tryz.ntmps74
  go_wp2
  go_loopg [3, 4] l.length (fun g v i wr => ∃ k : Nat, k + 2 ≤ l.length ∧ g = l.length - k ∧ i = (Value.int .i64 ((k : Int) + 1)) ∧ wr.ownsRow w.heap.size 124 6 v k (fanV l k) ∧ Below w.heap.size w wr)
  case atStart => exact ⟨0, by omega, rfl, rfl, World.ownsRow_nil _ _ _ _, by (repeat (first | with_reducible exact Below.refl _ _ | with_reducible apply bl_alloc | with_reducible apply bl_drew | with_reducible apply bl_after | (with_reducible refine bl_call ?_ (by assumption))))⟩
  case round =>
    obtain ⟨k, kn, rfl, rfl, hown, hbw⟩ := hrel
    by_cases hlt : k + 2 < l.length
    · have pa := hp.below hbw
      have lb := pa.lt
      have x1 := pa.xp (i := 0) (by omega)
      have x2 := pa.yp (i := 0) (by omega)
      simp only [Nat.zero_mul, Nat.add_zero] at x1 x2
      have x3 := pa.xp (i := k + 1) (by omega)
      have x4 := pa.yp (i := k + 1) (by omega)
      have x5 := pa.xp (i := k + 1 + 1) (by omega)
      have x6 := pa.yp (i := k + 1 + 1) (by omega)
      have hne : u3.ownBlock ≠ some b := fun h => by
        have h1 := (hown.lt b h).1
        have h2 := hp.lt
        omega
      have hgm := hbw.size
      have HB := Lib.hid hbw
      clear hbw
      have i1 : (0 : Int) < (l.length : Int) := by omega
      have i2 : (0 : Int) ≤ (k : Int) + 1 := by omega
      have i3 : (k : Int) + 1 < (l.length : Int) := by omega
      have i4 : (0 : Int) ≤ (k : Int) + 1 + 1 := by omega
      have i5 : (k : Int) + 1 + 1 < (l.length : Int) := by omega
      have i6 : ((k : Int) + 1).toNat = k + 1 := by omega
      have i7 : ((k : Int) + 1 + 1).toNat = k + 1 + 1 := by omega
      have i8 : IntKind.i64.wrap ((k : Int) + 1 + 1) = (k : Int) + 1 + 1 := IntWalk.i64_in _ (by omega)
      have j1 : 0 < l.length := by omega
      have j2 : ¬ ((l.length : Int) ≤ 0) := by omega
      have j3 : ¬ (l.length = 0) := by omega
      have j4 : l.length ≠ 0 := by omega
      go_upto_region 5 with fail
      go_region_held3 (fun w' => w'.cell? ⟨b, o, none⟩ = some (Value.int .i64 ((pat l 0).1)) ∧ w'.cell? ⟨b, o + 1, none⟩ = some (Value.int .i64 ((pat l 0).2)) ∧ w'.cell? ⟨b, o + (k + 1) * 2, none⟩ = some (Value.int .i64 ((pat l (k + 1)).1)) ∧ w'.cell? ⟨b, o + (k + 1) * 2 + 1, none⟩ = some (Value.int .i64 ((pat l (k + 1)).2)) ∧ w'.cell? ⟨b, o + (k + 1 + 1) * 2, none⟩ = some (Value.int .i64 ((pat l (k + 1 + 1)).1)) ∧ w'.cell? ⟨b, o + (k + 1 + 1) * 2 + 1, none⟩ = some (Value.int .i64 ((pat l (k + 1 + 1)).2)))
        (first
          | go_keep
          | (go_split_ands
             refine ⟨?_, ?_, ?_, ?_, ?_, ?_⟩ <;> (rw [hgrow.cell_far _ (by simp; omega) (Ne.symm hne)]; assumption)))
        ((refine step_append_lies _ (by rfl) _ _ _ (by rfl) w.heap.size 124 i0 _ 6 48 undTri hi hz0 hz1 hz2 rfl (by omega) u3 k (fanV l k) (by rfl) ((hown.alloc _).drew) ⟨wr.heap.size, 0, none⟩ 1 1 (ptsV [pat l 0, pat l (k + 1), pat l (k + 1 + 1)]) (by rfl) (by rfl) (World.news_of_block (cs := (ptsV [pat l 0, pat l (k + 1), pat l (k + 1 + 1)]).toArray) (t := 124) (fr := (0, 0)) (heap_alloc_new wr _)) (ptsV_one _) (by omega) (by unfold maxLen; omega) (by omega) (by simp; omega) (wr.heap.size + 1) (by simp) ?_; intro gg cap w1 hown1 hgrow hat hltt))
      have hb1 : Below w.heap.size w w1 := (((Below.alloc HB.out HB.out.size _).drew).grown hgrow (by simp; omega) (fun g hg => (hown.lt g hg).1))
      clear x1 x2 x3 x4 x5 x6 hgrow hat i4 i5 i6 i7 i8 pa lb hown hne
      go_wp2
      go_roundg (l.length - (k + 1))
      case measure => omega
      case rel => exact ⟨k + 1, by omega, rfl, by go_num, hown1, hb1⟩
    · obtain ⟨g, c, cur, rfl, -⟩ := hown.2.resolve_left (fun h => by omega)
      obtain rfl : k = l.length - 2 := by omega
      go_wp2
      go_ret
      exact ⟨g, c, rfl, hown, hbw⟩
end Go.Proofs.YthijegacjboclaaGreat
/- The sums over the sides of a polygon are the sums over the triangles from its first corner, for any list of points. -/
namespace Go.Proofs.YthijegacjboclaaGreat

def gOf (f : Pt → Pt → Int) (a b : Pt) : Int := f a b * cross a b
def fanTo (F : Pt → Pt → Pt → Int) (l : List Pt) : Nat → Int
  | 0 => 0
  | k + 1 => fanTo F l k + F (pat l 0) (pat l (k + 1)) (pat l (k + 2))
def fan (F : Pt → Pt → Pt → Int) (l : List Pt) : Int := fanTo F l (l.length - 2)
def chainTo (g : Pt → Pt → Int) (l : List Pt) : Nat → Int
  | 0 => 0
  | k + 1 => chainTo g l k + g (pat l k) (pat l (k + 1))

theorem fanTo_chain {F : Pt → Pt → Pt → Int} {g : Pt → Pt → Int} (hF : ∀ a b c, F a b c = g a b + g b c + g c a) (hg : ∀ a b, g b a = - g a b) (l : List Pt) :
    ∀ k, fanTo F l k = chainTo g l (k + 1) + g (pat l (k + 1)) (pat l 0)
  | 0 => by
    have h1 := hg (pat l 0) (pat l 1)
    simp [fanTo, chainTo]
    omega
  | k + 1 => by
    have h1 := fanTo_chain hF hg l k
    have h2 := hF (pat l 0) (pat l (k + 1)) (pat l (k + 2))
    have h3 := hg (pat l 0) (pat l (k + 1))
    show fanTo F l k + F (pat l 0) (pat l (k + 1)) (pat l (k + 2)) = chainTo g l (k + 1) + g (pat l (k + 1)) (pat l (k + 2)) + g (pat l (k + 2)) (pat l 0)
    rw [h1, h2]
    omega
theorem sumTo_chain (f : Pt → Pt → Int) (l : List Pt) : ∀ k, k < l.length → sumTo f l k = chainTo (gOf f) l k
  | 0, _ => rfl
  | k + 1, h => by
    have h1 := sumTo_chain f l k (by omega)
    have h2 : nxt l k = k + 1 := Nat.mod_eq_of_lt h
    rw [sumTo, chainTo, h1, h2]
    rfl
theorem sumOf_fan {F : Pt → Pt → Pt → Int} {f : Pt → Pt → Int} (hF : ∀ a b c, F a b c = gOf f a b + gOf f b c + gOf f c a) (hf : ∀ a b, f b a = f a b) {l : List Pt} (h : 2 ≤ l.length) :
    sumOf f l = fan F l := by
  obtain ⟨n, hn⟩ : ∃ n, l.length = n + 2 := ⟨l.length - 2, by omega⟩
  have hg : ∀ a b, gOf f b a = - gOf f a b := fun a b => by unfold gOf cross; rw [hf a b]; grind
  have h2 : nxt l (n + 1) = 0 := by unfold nxt; rw [hn]; exact Nat.mod_self _
  unfold fan sumOf
  rw [hn, fanTo_chain hF hg, Nat.add_sub_cancel, ← sumTo_chain f l (n + 1) (by omega)]
  show sumTo f l (n + 1) + _ = _
  rw [h2]
  rfl

def fFst (a b c : Pt) : Int := turn a b c * (a.1 + b.1 + c.1)
def fSnd (a b c : Pt) : Int := turn a b c * (a.2 + b.2 + c.2)
def prods (a b c : Int) : Int := a * a + b * b + c * c + a * b + b * c + c * a
def fXX (a b c : Pt) : Int := turn a b c * prods a.1 b.1 c.1
def fYY (a b c : Pt) : Int := turn a b c * prods a.2 b.2 c.2
def fXY (a b c : Pt) : Int := turn a b c * ((a.1 + b.1 + c.1) * (a.2 + b.2 + c.2) + a.1 * a.2 + b.1 * b.2 + c.1 * c.2)

theorem tw_fan {l : List Pt} (h : 2 ≤ l.length) : tw l = fan turn l :=
  sumOf_fan (fun a b c => by unfold gOf oneF cross turn; grind) (fun _ _ => rfl) h
theorem mx_fan {l : List Pt} (h : 2 ≤ l.length) : mx l = fan fFst l :=
  sumOf_fan (fun a b c => by unfold fFst gOf fxF cross turn; grind) (fun _ _ => by unfold fxF; omega) h
theorem my_fan {l : List Pt} (h : 2 ≤ l.length) : my l = fan fSnd l :=
  sumOf_fan (fun a b c => by unfold fSnd gOf fyF cross turn; grind) (fun _ _ => by unfold fyF; omega) h
theorem mxx_fan {l : List Pt} (h : 2 ≤ l.length) : mxx l = fan fXX l :=
  sumOf_fan (fun a b c => by unfold fXX prods gOf xxF sqF cross turn; grind) (fun _ _ => by unfold xxF sqF; grind) h
theorem myy_fan {l : List Pt} (h : 2 ≤ l.length) : myy l = fan fYY l :=
  sumOf_fan (fun a b c => by unfold fYY prods gOf yyF sqF cross turn; grind) (fun _ _ => by unfold yyF sqF; grind) h
theorem mxy_fan {l : List Pt} (h : 2 ≤ l.length) : mxy l = fan fXY l :=
  sumOf_fan (fun a b c => by unfold fXY gOf xyF cross turn; grind) (fun _ _ => by unfold xyF; grind) h
end Go.Proofs.YthijegacjboclaaGreat
/- The function TwiceOf of knurlref02 answers the doubled area. -/
namespace Go.Proofs.YthijegacjboclaaGreat
open Go.RowKit
attribute [local go_sem] After.cell After.frozen

theorem fan_cells {w : World} {B g c n : Nat} {l : List Pt} (h : w.ownsRow B 124 6 (.slice (some ⟨g, 0, none⟩) n c) n (fanV l n)) {k : Nat} (hk : k < n) :
    (w.cell? ⟨g, k * 6, none⟩ = some (Value.int .i64 ((pat l 0).1)) ∧ w.cell? ⟨g, k * 6 + 1, none⟩ = some (Value.int .i64 ((pat l 0).2))) ∧ (w.cell? ⟨g, k * 6 + 2, none⟩ = some (Value.int .i64 ((pat l (k + 1)).1)) ∧ w.cell? ⟨g, k * 6 + 2 + 1, none⟩ = some (Value.int .i64 ((pat l (k + 1)).2))) ∧
    (w.cell? ⟨g, k * 6 + 4, none⟩ = some (Value.int .i64 ((pat l (k + 2)).1)) ∧ w.cell? ⟨g, k * 6 + 4 + 1, none⟩ = some (Value.int .i64 ((pat l (k + 2)).2))) := by
  have hc := h.cells (g := g) rfl
  have key : ∀ j, j < 6 → ∀ u, (ptsV [pat l 0, pat l (k + 1), pat l (k + 2)])[j]? = some u → w.cell? ⟨g, k * 6 + j, none⟩ = some u := fun j hj u hu => by
    have := hc (k * 6 + j) u (by rw [fanV_get l n k j hk hj, hu])
    rwa [add_at, Nat.zero_add] at this
  exact ⟨⟨key 0 (by omega) _ rfl, key 1 (by omega) _ rfl⟩, ⟨key 2 (by omega) _ rfl, key 3 (by omega) _ rfl⟩, ⟨key 4 (by omega) _ rfl, key 5 (by omega) _ rfl⟩⟩
theorem fanTo_bd {F : Pt → Pt → Pt → Int} {M : Int} {l : List Pt} (hp : ∀ i, i < l.length → isPt (pat l i) = true) (hF : ∀ a b c, isPt a = true → isPt b = true → isPt c = true → -M ≤ F a b c ∧ F a b c ≤ M) (h0 : 0 < l.length) :
    ∀ k, k + 2 ≤ l.length → -(M * (k : Int)) ≤ fanTo F l k ∧ fanTo F l k ≤ M * (k : Int)
  | 0, _ => by simp [fanTo]
  | k + 1, h => by
    have h1 := fanTo_bd hp hF h0 k (by omega)
    have h2 := hF _ _ _ (hp 0 h0) (hp (k + 1) (by omega)) (hp (k + 2) (by omega))
    have e : M * ((k + 1 : Nat) : Int) = M * (k : Int) + M := by rw [Int.natCast_add, Int.mul_add]; omega
    rw [e]
    show -(M * (k : Int) + M) ≤ fanTo F l k + F (pat l 0) (pat l (k + 1)) (pat l (k + 2)) ∧ fanTo F l k + F (pat l 0) (pat l (k + 1)) (pat l (k + 2)) ≤ M * (k : Int) + M
    omega

set_option maxRecDepth 100000 in
set_option maxHeartbeats 1000000 in
theorem TwiceOf_any (b o ca : Nat) (l : List Pt) (w : World) (hp : PtsAt w b o l) (h3 : 3 ≤ l.length) (hl : l.length ≤ 10) (hpt : ∀ i, i < l.length → isPt (pat l i) = true) :
    Calls Tryz.prog 49 #[.slice (some ⟨b, o, none⟩) l.length ca] w fun e w' => e = .returned (Value.int .i64 (tw l)) ∧ Below w.heap.size w w' := by
  have hf := Fan_any b o ca l w hp h3 (by omega)
  have HB := Lib.hid (fanTo_bd (F := turn) (M := 320000) (l := l) hpt (fun a b c ha hb hc => turn_bd ha hb hc) (by omega))
  have HP := Lib.hid hpt
  have ht : tw l = fanTo turn l (l.length - 2) := tw_fan (by omega)
  rw [ht]
  clear hp hpt ht
  go_enter Tryz.func49, Tryz.ntmps49
  go_wp2_with ((with_reducible refine Calls.mono hf ?_); rintro e w1 ⟨g, c, rfl, hown, hb1⟩)
  go_loopg [3, 5] l.length (fun gg s i wr => ∃ k : Nat, k + 2 ≤ l.length ∧ gg = l.length - k ∧ s = (Value.int .i64 (fanTo turn l k)) ∧ i = (Value.int .i64 ((k : Int))) ∧ Below w1.heap.size w1 wr)
  case atStart => exact ⟨0, by omega, rfl, rfl, rfl, Below.refl _ _⟩
  case round =>
    obtain ⟨k, kn, rfl, rfl, rfl, hbw⟩ := hrel
    have hbd := HB.out k kn
    by_cases hlt : k + 2 < l.length
    · have hbd2 := HB.out (k + 1) (by omega)
      have e2 : fanTo turn l (k + 1) = fanTo turn l k + turn (pat l 0) (pat l (k + 1)) (pat l (k + 2)) := rfl
      rw [e2] at hbd2
      have p0 := HP.out 0 (by omega)
      have p1 := HP.out (k + 1) (by omega)
      have p2 := HP.out (k + 2) (by omega)
      have x := fan_cells hown (k := k) (by omega)
      obtain ⟨⟨x1, x2⟩, ⟨x3, x4⟩, x5, x6⟩ := x
      have lg := (hown.lt g rfl).2
      rw [← hbw.cell (p := ⟨g, _, none⟩) lg] at x1 x2 x3 x4 x5 x6
      have lg2 := Nat.lt_of_lt_of_le lg hbw.size
      go_wp2
      refine wp_region_after (by kernel_rfl) (by kernel_rfl) ?_; (repeat (go_big_quiet_step (((go_at_call 75; with_reducible exact calls_after (rTurn_any _ _ _ p0 p1 p2 _)))))); refine wpQuiet_nil ?_; rintro _ ⟨z, rfl⟩; (first | ((with_reducible apply kp_in_after (z := z)); (with_reducible assumption); rintro ⟨hk, hc, hf, hzc, hzf⟩) | ((with_reducible refine kp_in_after0 z ?_); rintro ⟨hk, hc, hf, hzc, hzf⟩))
      go_wp2
      go_roundg (l.length - (k + 1))
      case measure => omega
      case rel => exact ⟨k + 1, by omega, rfl, by rw [e2], by go_num, hbw.trans (z.ok.mono hbw.size)⟩
    · obtain rfl : k = l.length - 2 := by omega
      go_wp2
      go_ret
      exact ⟨rfl, hb1.trans (hbw.mono hb1.size)⟩

end Go.Proofs.YthijegacjboclaaGreat
