/- (for any seat, printed by gen_srt.py) slices.Sorted of maps.Keys of a map of numbers: its keys, each once, in order. -/
import Derived.Shelf.SlIterI.Nil
import Derived.Shelf.SortM.Plain
import Derived.Shelf.SortM.SortNone
import Derived.Test.YthijegacjboclaaLeaf
import Derived.Test.YthijegacjboclaaInts
namespace Go.Proofs.Ythijegacjboclaa
open Go.RowKit Go.Maps Go.Sort Go.Shelf

def keysA_ren : Go.Shelf.Ren := ⟨fun | 7 => 29 | 10 => 46 | n => n, fun | 23 => 68 | 26 => 3 | 3 => 3 | 28 => 74 | 0 => 0 | 27 => 73 | 33 => 90 | 4 => 4 | n => n, fun n => n⟩
theorem keysA : SlLaysZI.n7 Try.prog keysA_ren := {
  mixed := by kernel_rfl,
  f7 := ⟨Try.f29.name, by decide, Try.func29.trans (congrArg some (by kernel_rfl))⟩,
  f10 := ⟨Try.f46.name, by decide, Try.func46.trans (congrArg some (by kernel_rfl))⟩,
  t0 := Try.underlying0,
  a0 := Try.isAgg0,
  z0 := Try.sizeOf0,
  v0 := Try.zeroValue0,
  t4 := Try.underlying4,
  a4 := Try.isAgg4,
  z4 := Try.sizeOf4,
  v4 := Try.zeroValue4,
  t23 := Try.underlying68,
  a23 := Try.isAgg68,
  z23 := Try.sizeOf68,
  v23 := Try.zeroValue68,
  t26 := Try.underlying3,
  a26 := Try.isAgg3,
  z26 := Try.sizeOf3,
  v26 := Try.zeroValue3,
  t27 := Try.underlying73,
  a27 := Try.isAgg73,
  z27 := Try.sizeOf73,
  v27 := Try.zeroValue73,
  t28 := Try.underlying74,
  a28 := Try.isAgg74,
  z28 := Try.sizeOf74,
  v28 := Try.zeroValue74,
  t33 := Try.underlying90,
  a33 := Try.isAgg90,
  z33 := Try.sizeOf90,
  v33 := Try.zeroValue90 }

def sortedA_ren : Go.Shelf.Ren := ⟨fun | 6 => 28 | 8 => 44 | 9 => 45 | 11 => 60 | 13 => 62 | 12 => 61 | 23 => 88 | 24 => 89 | 14 => 79 | 15 => 80 | 16 => 81 | 17 => 82 | 18 => 83 | 19 => 84 | 20 => 85 | 21 => 86 | 22 => 87 | 25 => 98 | 26 => 99 | 27 => 100 | 28 => 101 | 29 => 102 | 30 => 103 | 31 => 107 | n => n, fun | 26 => 3 | 28 => 74 | 24 => 23 | 0 => 0 | 3 => 3 | 37 => 61 | 48 => 122 | 50 => 124 | 4 => 4 | 40 => 114 | 39 => 113 | 45 => 119 | 5 => 5 | 9 => 9 | 51 => 134 | 55 => 138 | 57 => 142 | 58 => 143 | 33 => 90 | n => n, fun n => n⟩
theorem sortedA : SlLaysZI.n6 Try.prog sortedA_ren := {
  mixed := by kernel_rfl,
  f6 := ⟨Try.f28.name, by decide, Try.func28.trans (congrArg some (by kernel_rfl))⟩,
  f8 := ⟨Try.f44.name, by decide, Try.func44.trans (congrArg some (by kernel_rfl))⟩,
  f11 := ⟨Try.f60.name, by decide, Try.func60.trans (congrArg some (by kernel_rfl))⟩,
  t0 := Try.underlying0,
  a0 := Try.isAgg0,
  z0 := Try.sizeOf0,
  v0 := Try.zeroValue0,
  t24 := Try.underlying23,
  a24 := Try.isAgg23,
  z24 := Try.sizeOf23,
  v24 := Try.zeroValue23,
  t26 := Try.underlying3,
  a26 := Try.isAgg3,
  z26 := Try.sizeOf3,
  v26 := Try.zeroValue3,
  t28 := Try.underlying74,
  a28 := Try.isAgg74,
  z28 := Try.sizeOf74,
  v28 := Try.zeroValue74,
  i26 := by kernel_rfl }

def sortA_ren : Go.Shelf.Ren := ⟨fun | 5 => 45 | 8 => 62 | 7 => 61 | 19 => 88 | 20 => 89 | 10 => 79 | 11 => 80 | 12 => 81 | 13 => 82 | 14 => 83 | 15 => 84 | 16 => 85 | 17 => 86 | 18 => 87 | 30 => 98 | 31 => 99 | 32 => 100 | 33 => 101 | 34 => 102 | 35 => 103 | 40 => 107 | n => n, fun | 23 => 23 | 25 => 3 | 3 => 3 | 32 => 61 | 22 => 23 | 0 => 0 | 44 => 122 | 46 => 124 | 4 => 4 | 36 => 114 | 35 => 113 | 41 => 119 | 5 => 5 | 9 => 9 | 53 => 134 | 57 => 138 | 63 => 142 | 64 => 143 | n => n, fun n => n⟩
theorem sortA : SlLaysM.n5 Try.prog sortA_ren := {
  mixed := by kernel_rfl,
  f5 := ⟨Try.f45.name, by decide, Try.func45.trans (congrArg some (by kernel_rfl))⟩,
  f7 := ⟨Try.f61.name, by decide, Try.func61.trans (congrArg some (by kernel_rfl))⟩,
  f8 := Try.func62.trans (congrArg some (by kernel_rfl)),
  f10 := ⟨Try.f79.name, by decide, Try.func79.trans (congrArg some (by kernel_rfl))⟩,
  f11 := ⟨Try.f80.name, by decide, Try.func80.trans (congrArg some (by kernel_rfl))⟩,
  f12 := ⟨Try.f81.name, by decide, Try.func81.trans (congrArg some (by kernel_rfl))⟩,
  f13 := ⟨Try.f82.name, by decide, Try.func82.trans (congrArg some (by kernel_rfl))⟩,
  f14 := ⟨Try.f83.name, by decide, Try.func83.trans (congrArg some (by kernel_rfl))⟩,
  f15 := ⟨Try.f84.name, by decide, Try.func84.trans (congrArg some (by kernel_rfl))⟩,
  f16 := ⟨Try.f85.name, by decide, Try.func85.trans (congrArg some (by kernel_rfl))⟩,
  f17 := ⟨Try.f86.name, by decide, Try.func86.trans (congrArg some (by kernel_rfl))⟩,
  f18 := ⟨Try.f87.name, by decide, Try.func87.trans (congrArg some (by kernel_rfl))⟩,
  f19 := Try.func88.trans (congrArg some (by kernel_rfl)),
  f20 := Try.func89.trans (congrArg some (by kernel_rfl)),
  f30 := ⟨Try.f98.name, by decide, Try.func98.trans (congrArg some (by kernel_rfl))⟩,
  f31 := Try.func99.trans (congrArg some (by kernel_rfl)),
  f32 := Try.func100.trans (congrArg some (by kernel_rfl)),
  f33 := ⟨Try.f101.name, by decide, Try.func101.trans (congrArg some (by kernel_rfl))⟩,
  f34 := ⟨Try.f102.name, by decide, Try.func102.trans (congrArg some (by kernel_rfl))⟩,
  f35 := ⟨Try.f103.name, by decide, Try.func103.trans (congrArg some (by kernel_rfl))⟩,
  f40 := ⟨Try.f107.name, by decide, Try.func107.trans (congrArg some (by kernel_rfl))⟩,
  t0 := Try.underlying0,
  a0 := Try.isAgg0,
  z0 := Try.sizeOf0,
  v0 := Try.zeroValue0,
  t3 := Try.underlying3,
  a3 := Try.isAgg3,
  z3 := Try.sizeOf3,
  v3 := Try.zeroValue3,
  t4 := Try.underlying4,
  a4 := Try.isAgg4,
  z4 := Try.sizeOf4,
  v4 := Try.zeroValue4,
  t5 := Try.underlying5,
  a5 := Try.isAgg5,
  z5 := Try.sizeOf5,
  v5 := Try.zeroValue5,
  t9 := Try.underlying9,
  a9 := Try.isAgg9,
  z9 := Try.sizeOf9,
  v9 := Try.zeroValue9,
  t22 := Try.underlying23,
  a22 := Try.isAgg23,
  z22 := Try.sizeOf23,
  v22 := Try.zeroValue23,
  t23 := Try.underlying23,
  a23 := Try.isAgg23,
  z23 := Try.sizeOf23,
  v23 := Try.zeroValue23,
  t25 := Try.underlying3,
  a25 := Try.isAgg3,
  z25 := Try.sizeOf3,
  v25 := Try.zeroValue3,
  t32 := Try.underlying61,
  a32 := Try.isAgg61,
  z32 := Try.sizeOf61,
  v32 := Try.zeroValue61,
  t35 := Try.underlying113,
  a35 := Try.isAgg113,
  z35 := Try.sizeOf113,
  v35 := Try.zeroValue113,
  t36 := Try.underlying114,
  a36 := Try.isAgg114,
  z36 := Try.sizeOf114,
  v36 := Try.zeroValue114,
  t41 := Try.underlying119,
  a41 := Try.isAgg119,
  z41 := Try.sizeOf119,
  v41 := Try.zeroValue119,
  t44 := Try.underlying122,
  a44 := Try.isAgg122,
  z44 := Try.sizeOf122,
  v44 := Try.zeroValue122,
  t46 := Try.underlying124,
  a46 := Try.isAgg124,
  z46 := Try.sizeOf124,
  v46 := Try.zeroValue124,
  t53 := Try.underlying134,
  a53 := Try.isAgg134,
  z53 := Try.sizeOf134,
  v53 := Try.zeroValue134,
  t57 := Try.underlying138,
  a57 := Try.isAgg138,
  z57 := Try.sizeOf138,
  v57 := Try.zeroValue138,
  t63 := Try.underlying142,
  a63 := Try.isAgg142,
  z63 := Try.sizeOf142,
  v63 := Try.zeroValue142,
  t64 := Try.underlying143,
  a64 := Try.isAgg143,
  z64 := Try.sizeOf143,
  v64 := Try.zeroValue143 }

/-- slices.Sort's two contracts, at the fence that asks nothing. -/
theorem sortsA (m : Nat) : AnyZI.SortsIn Try.prog sortedA_ren Fence.wide m :=
  ⟨fun blk off cap ss W hH hblk hsz => callsIn_wide.2 (AnyM.slices_Sort_int sortA blk off cap ss W hH hblk hsz),
   fun p cap W => callsIn_wide.2 (AnyM.slices_Sort_int_none sortA p cap W)⟩
end Go.Proofs.Ythijegacjboclaa
namespace Go.Proofs.Ythijegacjboclaa
open Go.RowKit Go.Maps Go.Sort Go.Shelf

theorem keys_any (mb : Option Nat) (W : World) : Calls Try.prog 29 #[.map mb] W fun e w' => e = .returned (.func (.func 46) #[] #[.pointer (some ⟨W.heap.size, 0, none⟩)]) ∧ w' = W.alloc (.cells #[.map mb] 68) :=
  (callsIn_wide (n := 5)).1 (AnyZI.keys_in keysA Fence.wide 5 trivial rfl mb W)
theorem sorted_any {H : Type} (b nn : Nat) (D0 : DataW H) (R : Value → Option (DataW H × List MemPlace)) (w : World) (hown : w.ownsMap Try.prog 3 R b nn D0) (hmax : Maps.size D0 ≤ maxLen) (hbytes : Maps.size D0 * 8 ≤ 140737488355328) :
    Calls Try.prog 28 #[.func (.func 46) #[] #[.pointer (some ⟨w.heap.size, 0, none⟩)]] (w.alloc (.cells #[.map (some b)] 68)) fun e w' => ∃ (v : Value) (ss : List Int), e = .returned v ∧ ss.Perm (intKeys D0) ∧
      w'.ownsRow (w.alloc (.cells #[.map (some b)] 68)).heap.size 3 1 v ss.length ((ss.mergeSort (fun x y => decide (x ≤ y))).map encZ) ∧ (v = .slice none 0 0 ↔ ss = []) ∧ Below (w.alloc (.cells #[.map (some b)] 68)).heap.size (w.alloc (.cells #[.map (some b)] 68)) w' := by
  have hbl := hown.lt
  have hseq : SeqGives Fence.wide 2 Try.prog 46 #[.pointer (some ⟨w.heap.size, 0, none⟩)] encZ (fun ss => ss.Perm (intKeys D0)) (Maps.size D0) (w.alloc (.cells #[.map (some b)] 68)) :=
    AnyZI.keys_gives (ρ := keysA_ren) { keysA with } Fence.wide _ trivial rfl (by omega) w.heap.size b nn D0 _ (by simp) (by simp) (by
      obtain ⟨es, clock, hb, Ft, hs, hD⟩ := hown
      exact ⟨es, clock, (Below.heap_alloc _ _ b hbl).trans hb, Ft, hs, hD⟩)
  exact (callsIn_wide (n := 5)).1 (AnyZI.sorted_in sortedA Fence.wide 5 trivial trivial trivial trivial rfl (by omega) (sortsA _) (enters_of Try.func45 (by kernel_rfl) rfl) 46 #[.pointer (some ⟨w.heap.size, 0, none⟩)] trivial (enters_of Try.func46 (by kernel_rfl) rfl) _ _ hmax hbytes _ hseq)

/-- A list without what comes again. -/
def ddp : List Int → List Int
  | [] => []
  | a :: t => if a ∈ ddp t then ddp t else a :: ddp t
theorem mem_ddp {x : Int} : ∀ l : List Int, x ∈ ddp l ↔ x ∈ l
  | [] => Iff.rfl
  | a :: t => by
    have ih := mem_ddp (x := x) t
    rw [ddp]
    split
    · rename_i h
      rw [ih, List.mem_cons]
      constructor
      · exact .inr
      · rintro (rfl | h2)
        · exact (mem_ddp t).1 h
        · exact h2
    · rw [List.mem_cons, List.mem_cons, ih]
theorem nodup_ddp : ∀ l : List Int, (ddp l).Nodup
  | [] => List.nodup_nil
  | a :: t => by
    rw [ddp]
    split
    · exact nodup_ddp t
    · exact List.nodup_cons.2 ⟨by assumption, nodup_ddp t⟩
/-- The numbers of a list, each once, in order. -/
def srt (l : List Int) : List Int := (ddp l).mergeSort fun x y => decide (x ≤ y)
theorem srt_len (l : List Int) : (srt l).length = (ddp l).length := by unfold srt; simp
theorem mem_srt {x : Int} (l : List Int) : x ∈ srt l ↔ x ∈ l := by
  unfold srt
  rw [List.mem_mergeSort, mem_ddp]
/-- The keys that a map has are the numbers of a list. -/
theorem keys_srt {H : Type} {D : DataW H} {l : List Int} {w : World} {R : Value → Option (DataW H × List MemPlace)} {b nn : Nat} (hown : w.ownsMap Try.prog 3 R b nn D) (hh : ∀ x, Maps.has D (.int .i64 x) = decide (x ∈ l)) {ss : List Int} (hp : ss.Perm (intKeys D)) :
    ss.mergeSort (fun x y => decide (x ≤ y)) = srt l := by
  obtain ⟨es, hD, hpw, _⟩ := hown.entries (int_keyed Try.underlying3)
  obtain ⟨es', hD', hko⟩ := hown.keysOf
  obtain rfl : es = es' := by rw [hD] at hD'; simpa using hD'
  subst hD
  have hk : ∀ p ∈ es, ∃ x, p.1 = .int .i64 x := fun p hp => by
    obtain ⟨v, hv⟩ := hko p hp
    obtain ⟨x, _, hx, _⟩ := Maps.keyOf_i64 Try.underlying3 hv
    exact ⟨x, hx⟩
  have h1 := perm_intKeys hpw hk (nodup_ddp l) (fun x => by rw [hh x, decide_eq_true_eq, mem_ddp])
  exact mergeSort_of_perm_i (hp.trans h1.symm)
end Go.Proofs.Ythijegacjboclaa
