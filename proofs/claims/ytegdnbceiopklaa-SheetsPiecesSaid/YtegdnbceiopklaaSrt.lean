/- (for any seat, printed by gen_srt.py) slices.Sorted of maps.Keys of a map of numbers: its keys, each once, in order. -/
import Derived.Shelf.SlIterI.Nil
import Derived.Shelf.SortM.Plain
import Derived.Shelf.SortM.SortNone
import Derived.Test.YtegdnbceiopklaaLeaf
import Derived.Test.YtegdnbceiopklaaInts
namespace Go.Proofs.Ytegdnbceiopklaa
open Go.RowKit Go.Maps Go.Sort Go.Shelf

def keysA_ren : Go.Shelf.Ren := ⟨fun | 7 => 76 | 10 => 97 | n => n, fun | 23 => 111 | 26 => 3 | 3 => 3 | 28 => 114 | 0 => 0 | 27 => 113 | 33 => 104 | 4 => 4 | n => n, fun n => n⟩
theorem keysA : SlLaysZI.n7 Try.prog keysA_ren := {
  mixed := by kernel_rfl,
  f7 := ⟨Try.f76.name, by decide, Try.func76.trans (congrArg some (by kernel_rfl))⟩,
  f10 := ⟨Try.f97.name, by decide, Try.func97.trans (congrArg some (by kernel_rfl))⟩,
  t0 := Try.underlying0,
  a0 := Try.isAgg0,
  z0 := Try.sizeOf0,
  v0 := Try.zeroValue0,
  t4 := Try.underlying4,
  a4 := Try.isAgg4,
  z4 := Try.sizeOf4,
  v4 := Try.zeroValue4,
  t23 := Try.underlying111,
  a23 := Try.isAgg111,
  z23 := Try.sizeOf111,
  v23 := Try.zeroValue111,
  t26 := Try.underlying3,
  a26 := Try.isAgg3,
  z26 := Try.sizeOf3,
  v26 := Try.zeroValue3,
  t27 := Try.underlying113,
  a27 := Try.isAgg113,
  z27 := Try.sizeOf113,
  v27 := Try.zeroValue113,
  t28 := Try.underlying114,
  a28 := Try.isAgg114,
  z28 := Try.sizeOf114,
  v28 := Try.zeroValue114,
  t33 := Try.underlying104,
  a33 := Try.isAgg104,
  z33 := Try.sizeOf104,
  v33 := Try.zeroValue104 }

def sortedA_ren : Go.Shelf.Ren := ⟨fun | 6 => 75 | 8 => 96 | 9 => 89 | 11 => 112 | 13 => 110 | 12 => 109 | 23 => 126 | 24 => 127 | 14 => 117 | 15 => 118 | 16 => 119 | 17 => 120 | 18 => 121 | 19 => 122 | 20 => 123 | 21 => 124 | 22 => 125 | 25 => 130 | 26 => 131 | 27 => 132 | 28 => 133 | 29 => 134 | 30 => 106 | 31 => 135 | n => n, fun | 26 => 3 | 28 => 114 | 24 => 55 | 0 => 0 | 3 => 3 | 37 => 135 | 48 => 152 | 50 => 154 | 4 => 4 | 40 => 145 | 39 => 144 | 45 => 149 | 5 => 5 | 9 => 9 | 51 => 157 | 55 => 161 | 57 => 163 | 58 => 123 | 33 => 104 | n => n, fun n => n⟩
theorem sortedA : SlLaysZI.n6 Try.prog sortedA_ren := {
  mixed := by kernel_rfl,
  f6 := ⟨Try.f75.name, by decide, Try.func75.trans (congrArg some (by kernel_rfl))⟩,
  f8 := ⟨Try.f96.name, by decide, Try.func96.trans (congrArg some (by kernel_rfl))⟩,
  f11 := ⟨Try.f112.name, by decide, Try.func112.trans (congrArg some (by kernel_rfl))⟩,
  t0 := Try.underlying0,
  a0 := Try.isAgg0,
  z0 := Try.sizeOf0,
  v0 := Try.zeroValue0,
  t24 := Try.underlying55,
  a24 := Try.isAgg55,
  z24 := Try.sizeOf55,
  v24 := Try.zeroValue55,
  t26 := Try.underlying3,
  a26 := Try.isAgg3,
  z26 := Try.sizeOf3,
  v26 := Try.zeroValue3,
  t28 := Try.underlying114,
  a28 := Try.isAgg114,
  z28 := Try.sizeOf114,
  v28 := Try.zeroValue114,
  i26 := by kernel_rfl }

def sortA_ren : Go.Shelf.Ren := ⟨fun | 5 => 89 | 8 => 110 | 7 => 109 | 19 => 126 | 20 => 127 | 10 => 117 | 11 => 118 | 12 => 119 | 13 => 120 | 14 => 121 | 15 => 122 | 16 => 123 | 17 => 124 | 18 => 125 | 30 => 130 | 31 => 131 | 32 => 132 | 33 => 133 | 34 => 134 | 35 => 106 | 40 => 135 | n => n, fun | 23 => 55 | 25 => 3 | 3 => 3 | 32 => 135 | 22 => 55 | 0 => 0 | 44 => 152 | 46 => 154 | 4 => 4 | 36 => 145 | 35 => 144 | 41 => 149 | 5 => 5 | 9 => 9 | 53 => 157 | 57 => 161 | 63 => 163 | 64 => 123 | n => n, fun n => n⟩
theorem sortA : SlLaysM.n5 Try.prog sortA_ren := {
  mixed := by kernel_rfl,
  f5 := ⟨Try.f89.name, by decide, Try.func89.trans (congrArg some (by kernel_rfl))⟩,
  f7 := ⟨Try.f109.name, by decide, Try.func109.trans (congrArg some (by kernel_rfl))⟩,
  f8 := Try.func110.trans (congrArg some (by kernel_rfl)),
  f10 := ⟨Try.f117.name, by decide, Try.func117.trans (congrArg some (by kernel_rfl))⟩,
  f11 := ⟨Try.f118.name, by decide, Try.func118.trans (congrArg some (by kernel_rfl))⟩,
  f12 := ⟨Try.f119.name, by decide, Try.func119.trans (congrArg some (by kernel_rfl))⟩,
  f13 := ⟨Try.f120.name, by decide, Try.func120.trans (congrArg some (by kernel_rfl))⟩,
  f14 := ⟨Try.f121.name, by decide, Try.func121.trans (congrArg some (by kernel_rfl))⟩,
  f15 := ⟨Try.f122.name, by decide, Try.func122.trans (congrArg some (by kernel_rfl))⟩,
  f16 := ⟨Try.f123.name, by decide, Try.func123.trans (congrArg some (by kernel_rfl))⟩,
  f17 := ⟨Try.f124.name, by decide, Try.func124.trans (congrArg some (by kernel_rfl))⟩,
  f18 := ⟨Try.f125.name, by decide, Try.func125.trans (congrArg some (by kernel_rfl))⟩,
  f19 := Try.func126.trans (congrArg some (by kernel_rfl)),
  f20 := Try.func127.trans (congrArg some (by kernel_rfl)),
  f30 := ⟨Try.f130.name, by decide, Try.func130.trans (congrArg some (by kernel_rfl))⟩,
  f31 := Try.func131.trans (congrArg some (by kernel_rfl)),
  f32 := Try.func132.trans (congrArg some (by kernel_rfl)),
  f33 := ⟨Try.f133.name, by decide, Try.func133.trans (congrArg some (by kernel_rfl))⟩,
  f34 := ⟨Try.f134.name, by decide, Try.func134.trans (congrArg some (by kernel_rfl))⟩,
  f35 := ⟨Try.f106.name, by decide, Try.func106.trans (congrArg some (by kernel_rfl))⟩,
  f40 := ⟨Try.f135.name, by decide, Try.func135.trans (congrArg some (by kernel_rfl))⟩,
  t0 := Try.underlying0,
  a0 := Try.isAgg0,
  z0 := Try.sizeOf0,
  v0 := Try.zeroValue0,
  t3 := Try.underlying3,
  a3 := Try.isAgg3,
  z3 := Try.sizeOf3,
  v3 := Try.zeroValue3,
  t4 := Try.underlying4,
  a4 := Try.isAgg4,
  z4 := Try.sizeOf4,
  v4 := Try.zeroValue4,
  t5 := Try.underlying5,
  a5 := Try.isAgg5,
  z5 := Try.sizeOf5,
  v5 := Try.zeroValue5,
  t9 := Try.underlying9,
  a9 := Try.isAgg9,
  z9 := Try.sizeOf9,
  v9 := Try.zeroValue9,
  t22 := Try.underlying55,
  a22 := Try.isAgg55,
  z22 := Try.sizeOf55,
  v22 := Try.zeroValue55,
  t23 := Try.underlying55,
  a23 := Try.isAgg55,
  z23 := Try.sizeOf55,
  v23 := Try.zeroValue55,
  t25 := Try.underlying3,
  a25 := Try.isAgg3,
  z25 := Try.sizeOf3,
  v25 := Try.zeroValue3,
  t32 := Try.underlying135,
  a32 := Try.isAgg135,
  z32 := Try.sizeOf135,
  v32 := Try.zeroValue135,
  t35 := Try.underlying144,
  a35 := Try.isAgg144,
  z35 := Try.sizeOf144,
  v35 := Try.zeroValue144,
  t36 := Try.underlying145,
  a36 := Try.isAgg145,
  z36 := Try.sizeOf145,
  v36 := Try.zeroValue145,
  t41 := Try.underlying149,
  a41 := Try.isAgg149,
  z41 := Try.sizeOf149,
  v41 := Try.zeroValue149,
  t44 := Try.underlying152,
  a44 := Try.isAgg152,
  z44 := Try.sizeOf152,
  v44 := Try.zeroValue152,
  t46 := Try.underlying154,
  a46 := Try.isAgg154,
  z46 := Try.sizeOf154,
  v46 := Try.zeroValue154,
  t53 := Try.underlying157,
  a53 := Try.isAgg157,
  z53 := Try.sizeOf157,
  v53 := Try.zeroValue157,
  t57 := Try.underlying161,
  a57 := Try.isAgg161,
  z57 := Try.sizeOf161,
  v57 := Try.zeroValue161,
  t63 := Try.underlying163,
  a63 := Try.isAgg163,
  z63 := Try.sizeOf163,
  v63 := Try.zeroValue163,
  t64 := Try.underlying123,
  a64 := Try.isAgg123,
  z64 := Try.sizeOf123,
  v64 := Try.zeroValue123 }

/-- slices.Sort's two contracts, at the fence that asks nothing. -/
theorem sortsA (m : Nat) : AnyZI.SortsIn Try.prog sortedA_ren Fence.wide m :=
  ⟨fun blk off cap ss W hH hblk hsz => callsIn_wide.2 (AnyM.slices_Sort_int sortA blk off cap ss W hH hblk hsz),
   fun p cap W => callsIn_wide.2 (AnyM.slices_Sort_int_none sortA p cap W)⟩
end Go.Proofs.Ytegdnbceiopklaa
namespace Go.Proofs.Ytegdnbceiopklaa
open Go.RowKit Go.Maps Go.Sort Go.Shelf

theorem keys_any (mb : Option Nat) (W : World) : Calls Try.prog 76 #[.map mb] W fun e w' => e = .returned (.func (.func 97) #[] #[.pointer (some ⟨W.heap.size, 0, none⟩)]) ∧ w' = W.alloc (.cells #[.map mb] 111) :=
  (callsIn_wide (n := 5)).1 (AnyZI.keys_in keysA Fence.wide 5 trivial rfl mb W)
theorem sorted_any {H : Type} (b nn : Nat) (D0 : DataW H) (R : Value → Option (DataW H × List MemPlace)) (w : World) (hown : w.ownsMap Try.prog 3 R b nn D0) (hmax : Maps.size D0 ≤ maxLen) (hbytes : Maps.size D0 * 8 ≤ 140737488355328) :
    Calls Try.prog 75 #[.func (.func 97) #[] #[.pointer (some ⟨w.heap.size, 0, none⟩)]] (w.alloc (.cells #[.map (some b)] 111)) fun e w' => ∃ (v : Value) (ss : List Int), e = .returned v ∧ ss.Perm (intKeys D0) ∧
      w'.ownsRow (w.alloc (.cells #[.map (some b)] 111)).heap.size 3 1 v ss.length ((ss.mergeSort (fun x y => decide (x ≤ y))).map encZ) ∧ (v = .slice none 0 0 ↔ ss = []) ∧ Below (w.alloc (.cells #[.map (some b)] 111)).heap.size (w.alloc (.cells #[.map (some b)] 111)) w' := by
  have hbl := hown.lt
  have hseq : SeqGives Fence.wide 2 Try.prog 97 #[.pointer (some ⟨w.heap.size, 0, none⟩)] encZ (fun ss => ss.Perm (intKeys D0)) (Maps.size D0) (w.alloc (.cells #[.map (some b)] 111)) :=
    AnyZI.keys_gives (ρ := keysA_ren) { keysA with } Fence.wide _ trivial rfl (by omega) w.heap.size b nn D0 _ (by simp) (by simp) (by
      obtain ⟨es, clock, hb, Ft, hs, hD⟩ := hown
      exact ⟨es, clock, (Below.heap_alloc _ _ b hbl).trans hb, Ft, hs, hD⟩)
  exact (callsIn_wide (n := 5)).1 (AnyZI.sorted_in sortedA Fence.wide 5 trivial trivial trivial trivial rfl (by omega) (sortsA _) (enters_of Try.func89 (by kernel_rfl) rfl) 97 #[.pointer (some ⟨w.heap.size, 0, none⟩)] trivial (enters_of Try.func97 (by kernel_rfl) rfl) _ _ hmax hbytes _ hseq)

/-- A list without what comes again. -/
def ddp : List Int → List Int
  | [] => []
  | a :: t => if a ∈ ddp t then ddp t else a :: ddp t
theorem mem_ddp {x : Int} : ∀ l : List Int, x ∈ ddp l ↔ x ∈ l
  | [] => Iff.rfl
  | a :: t => by
    have ih := mem_ddp (x := x) t
    rw [ddp]
    split
    · rename_i h
      rw [ih, List.mem_cons]
      constructor
      · exact .inr
      · rintro (rfl | h2)
        · exact (mem_ddp t).1 h
        · exact h2
    · rw [List.mem_cons, List.mem_cons, ih]
theorem nodup_ddp : ∀ l : List Int, (ddp l).Nodup
  | [] => List.nodup_nil
  | a :: t => by
    rw [ddp]
    split
    · exact nodup_ddp t
    · exact List.nodup_cons.2 ⟨by assumption, nodup_ddp t⟩
/-- The numbers of a list, each once, in order. -/
def srt (l : List Int) : List Int := (ddp l).mergeSort fun x y => decide (x ≤ y)
theorem srt_len (l : List Int) : (srt l).length = (ddp l).length := by unfold srt; simp
theorem mem_srt {x : Int} (l : List Int) : x ∈ srt l ↔ x ∈ l := by
  unfold srt
  rw [List.mem_mergeSort, mem_ddp]
/-- The keys that a map has are the numbers of a list. -/
theorem keys_srt {H : Type} {D : DataW H} {l : List Int} {w : World} {R : Value → Option (DataW H × List MemPlace)} {b nn : Nat} (hown : w.ownsMap Try.prog 3 R b nn D) (hh : ∀ x, Maps.has D (.int .i64 x) = decide (x ∈ l)) {ss : List Int} (hp : ss.Perm (intKeys D)) :
    ss.mergeSort (fun x y => decide (x ≤ y)) = srt l := by
  obtain ⟨es, hD, hpw, _⟩ := hown.entries (int_keyed Try.underlying3)
  obtain ⟨es', hD', hko⟩ := hown.keysOf
  obtain rfl : es = es' := by rw [hD] at hD'; simpa using hD'
  subst hD
  have hk : ∀ p ∈ es, ∃ x, p.1 = .int .i64 x := fun p hp => by
    obtain ⟨v, hv⟩ := hko p hp
    obtain ⟨x, _, hx, _⟩ := Maps.keyOf_i64 Try.underlying3 hv
    exact ⟨x, hx⟩
  have h1 := perm_intKeys hpw hk (nodup_ddp l) (fun x => by rw [hh x, decide_eq_true_eq, mem_ddp])
  exact mergeSort_of_perm_i (hp.trans h1.symm)
end Go.Proofs.Ytegdnbceiopklaa
