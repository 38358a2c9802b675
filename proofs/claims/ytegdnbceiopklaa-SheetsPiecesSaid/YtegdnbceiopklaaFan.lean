/- The function knurlref02.Fan answers the triangles from the first corner, for at most a million corners in memory. -/
import Derived.Test.YtegdnbceiopklaaOwn
import Derived.Test.YtegdnbceiopklaaMom
import Derived.Deep.AppendLies
import Derived.StillTactics
namespace Go.Proofs.Ytegdnbceiopklaa
open Go.RowKit
attribute [local go_sem] After.cell After.frozen

/-- The cells of the first k triangles of a fan. -/
def fanV (l : List Pt) : Nat → List Value
  | 0 => []
  | k + 1 => fanV l k ++ ptsV [pat l 0, pat l (k + 1), pat l (k + 2)]
theorem fanV_len (l : List Pt) : ∀ k, (fanV l k).length = k * 6
  | 0 => rfl
  | k + 1 => by simp [fanV, fanV_len l k, ptsV]; omega
theorem fanV_get (l : List Pt) : ∀ (n k j : Nat), k < n → j < 6 → (fanV l n)[k * 6 + j]? = (ptsV [pat l 0, pat l (k + 1), pat l (k + 2)])[j]?
  | 0, k, j, h, _ => by omega
  | n + 1, k, j, h, hj => by
    unfold fanV
    rcases Nat.lt_succ_iff_lt_or_eq.1 h with h1 | h1
    · rw [List.getElem?_append_left (by rw [fanV_len]; omega)]
      exact fanV_get l n k j h1 hj
    · subst h1
      rw [List.getElem?_append_right (by rw [fanV_len]; omega), fanV_len, show k * 6 + j - k * 6 = j by omega]

theorem infoTri : (Try.prog.info? 103).map (fun i => (i.zero, i.size, i.bytes)) = some (some (.agg #[.int .i64 0, .int .i64 0, .int .i64 0, .int .i64 0, .int .i64 0, .int .i64 0]), 6, 48) := by kernel_rfl
theorem undTri : Try.prog.underlying 100 = some (.slice 103) := by kernel_rfl

set_option maxRecDepth 100000 in
set_option maxHeartbeats 1000000 in
theorem Fan_any (b o ca : Nat) (l : List Pt) (w : World) (hp : PtsAt w b o l) (h3 : 3 ≤ l.length) (hl : l.length ≤ 1000) :
    Calls Try.prog 64 #[.slice (some ⟨b, o, none⟩) l.length ca] w fun e w' => ∃ g c, e = .returned (.slice (some ⟨g, 0, none⟩) (l.length - 2) c) ∧ w'.ownsRow w.heap.size 103 6 (.slice (some ⟨g, 0, none⟩) (l.length - 2) c) (l.length - 2) (fanV l (l.length - 2)) ∧ Below w.heap.size w w' := by
  obtain ⟨i0, hi, hz0, hz1, hz2⟩ := info_parts infoTri
  go_enter Try.func64, Try.ntmps64
  go_wp2
  go_loopg [3, 4] l.length (fun g v i wr => ∃ k : Nat, k + 2 ≤ l.length ∧ g = l.length - k ∧ i = (Value.int .i64 ((k : Int) + 1)) ∧ wr.ownsRow w.heap.size 103 6 v k (fanV l k) ∧ Below w.heap.size w wr)
  case atStart => exact ⟨0, by omega, rfl, rfl, World.ownsRow_nil _ _ _ _, by (repeat (first | with_reducible exact Below.refl _ _ | with_reducible apply bl_alloc | with_reducible apply bl_drew | with_reducible apply bl_after | (with_reducible refine bl_call ?_ (by assumption))))⟩
  case round =>
    obtain ⟨k, kn, rfl, rfl, hown, hbw⟩ := hrel
    by_cases hlt : k + 2 < l.length
    · have pa := hp.below hbw
      have lb := pa.lt
      have x1 := pa.xp (i := 0) (by omega)
      have x2 := pa.yp (i := 0) (by omega)
      simp only [Nat.zero_mul, Nat.add_zero] at x1 x2
      have x3 := pa.xp (i := k + 1) (by omega)
      have x4 := pa.yp (i := k + 1) (by omega)
      have x5 := pa.xp (i := k + 1 + 1) (by omega)
      have x6 := pa.yp (i := k + 1 + 1) (by omega)
      have hne : u3.ownBlock ≠ some b := fun h => by
        have h1 := (hown.lt b h).1
        have h2 := hp.lt
        omega
      have hgm := hbw.size
      have HB := Lib.hid hbw
      clear hbw
      have i1 : (0 : Int) < (l.length : Int) := by omega
      have i2 : (0 : Int) ≤ (k : Int) + 1 := by omega
      have i3 : (k : Int) + 1 < (l.length : Int) := by omega
      have i4 : (0 : Int) ≤ (k : Int) + 1 + 1 := by omega
      have i5 : (k : Int) + 1 + 1 < (l.length : Int) := by omega
      have i6 : ((k : Int) + 1).toNat = k + 1 := by omega
      have i7 : ((k : Int) + 1 + 1).toNat = k + 1 + 1 := by omega
      have i8 : IntKind.i64.wrap ((k : Int) + 1 + 1) = (k : Int) + 1 + 1 := IntWalk.i64_in _ (by omega)
      have j1 : 0 < l.length := by omega
      have j2 : ¬ ((l.length : Int) ≤ 0) := by omega
      have j3 : ¬ (l.length = 0) := by omega
      have j4 : l.length ≠ 0 := by omega
      go_upto_region 5 with fail
      go_region_held3 (fun w' => w'.cell? ⟨b, o, none⟩ = some (Value.int .i64 ((pat l 0).1)) ∧ w'.cell? ⟨b, o + 1, none⟩ = some (Value.int .i64 ((pat l 0).2)) ∧ w'.cell? ⟨b, o + (k + 1) * 2, none⟩ = some (Value.int .i64 ((pat l (k + 1)).1)) ∧ w'.cell? ⟨b, o + (k + 1) * 2 + 1, none⟩ = some (Value.int .i64 ((pat l (k + 1)).2)) ∧ w'.cell? ⟨b, o + (k + 1 + 1) * 2, none⟩ = some (Value.int .i64 ((pat l (k + 1 + 1)).1)) ∧ w'.cell? ⟨b, o + (k + 1 + 1) * 2 + 1, none⟩ = some (Value.int .i64 ((pat l (k + 1 + 1)).2)))
        (first
          | go_keep
          | (go_split_ands
             refine ⟨?_, ?_, ?_, ?_, ?_, ?_⟩ <;> (rw [hgrow.cell_far _ (by simp; omega) (Ne.symm hne)]; assumption)))
        ((refine step_append_lies _ (by rfl) _ _ _ (by rfl) w.heap.size 103 i0 _ 6 48 undTri hi hz0 hz1 hz2 rfl (by omega) u3 k (fanV l k) (by rfl) ((hown.alloc _).drew) ⟨wr.heap.size, 0, none⟩ 1 1 (ptsV [pat l 0, pat l (k + 1), pat l (k + 1 + 1)]) (by rfl) (by rfl) (World.news_of_block (cs := (ptsV [pat l 0, pat l (k + 1), pat l (k + 1 + 1)]).toArray) (t := 103) (fr := (0, 0)) (heap_alloc_new wr _)) (ptsV_one _) (by omega) (by unfold maxLen; omega) (by omega) (by simp; omega) (wr.heap.size + 1) (by simp) ?_; intro gg cap w1 hown1 hgrow hat hltt))
      have hb1 : Below w.heap.size w w1 := (((Below.alloc HB.out HB.out.size _).drew).grown hgrow (by simp; omega) (fun g hg => (hown.lt g hg).1))
      clear x1 x2 x3 x4 x5 x6 hgrow hat i4 i5 i6 i7 i8 pa lb hown hne
      go_wp2
      go_roundg (l.length - (k + 1))
      case measure => omega
      case rel => exact ⟨k + 1, by omega, rfl, by go_num, hown1, hb1⟩
    · obtain ⟨g, c, cur, rfl, -⟩ := hown.2.resolve_left (fun h => by omega)
      obtain rfl : k = l.length - 2 := by omega
      go_wp2
      go_ret
      exact ⟨g, c, rfl, hown, hbw⟩
end Go.Proofs.Ytegdnbceiopklaa
