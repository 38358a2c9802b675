/- slices.Sorted of maps.Keys of a map of numbers: its keys, each once, in order. -/
import Derived.Shelf.SlIterI.Nil
import Derived.Shelf.SortM.Plain
import Derived.Shelf.SortM.SortNone
import Derived.Test.YtfgplmgkejeoiaaLeaf
import Derived.Test.YtfgplmgkejeoiaaReach
namespace Go.Proofs.Ytfgplmgkejeoiaa
open Go.RowKit Go.Maps Go.Sort Go.Shelf

def keysA_ren : Go.Shelf.Ren := ⟨fun | 7 => 75 | 10 => 96 | n => n, fun | 23 => 92 | 26 => 3 | 3 => 3 | 28 => 95 | 0 => 0 | 27 => 94 | 33 => 117 | 4 => 4 | n => n, fun n => n⟩
theorem keysA : SlLaysZI.n7 Try.prog keysA_ren := {
  mixed := by kernel_rfl,
  f7 := ⟨Try.f75.name, by decide, Try.func75.trans (congrArg some (by kernel_rfl))⟩,
  f10 := ⟨Try.f96.name, by decide, Try.func96.trans (congrArg some (by kernel_rfl))⟩,
  t0 := Try.underlying0,
  a0 := Try.isAgg0,
  z0 := Try.sizeOf0,
  v0 := Try.zeroValue0,
  t4 := Try.underlying4,
  a4 := Try.isAgg4,
  z4 := Try.sizeOf4,
  v4 := Try.zeroValue4,
  t23 := Try.underlying92,
  a23 := Try.isAgg92,
  z23 := Try.sizeOf92,
  v23 := Try.zeroValue92,
  t26 := Try.underlying3,
  a26 := Try.isAgg3,
  z26 := Try.sizeOf3,
  v26 := Try.zeroValue3,
  t27 := Try.underlying94,
  a27 := Try.isAgg94,
  z27 := Try.sizeOf94,
  v27 := Try.zeroValue94,
  t28 := Try.underlying95,
  a28 := Try.isAgg95,
  z28 := Try.sizeOf95,
  v28 := Try.zeroValue95,
  t33 := Try.underlying117,
  a33 := Try.isAgg117,
  z33 := Try.sizeOf117,
  v33 := Try.zeroValue117 }

def sortedA_ren : Go.Shelf.Ren := ⟨fun | 6 => 74 | 8 => 94 | 9 => 95 | 11 => 104 | 13 => 106 | 12 => 105 | 23 => 117 | 24 => 118 | 14 => 108 | 15 => 109 | 16 => 110 | 17 => 111 | 18 => 112 | 19 => 113 | 20 => 114 | 21 => 115 | 22 => 116 | 25 => 119 | 26 => 120 | 27 => 121 | 28 => 122 | 29 => 123 | 30 => 124 | 31 => 125 | n => n, fun | 26 => 3 | 28 => 95 | 24 => 37 | 0 => 0 | 3 => 3 | 37 => 126 | 48 => 137 | 50 => 139 | 4 => 4 | 40 => 130 | 39 => 129 | 45 => 100 | 5 => 5 | 9 => 9 | 51 => 140 | 55 => 144 | 57 => 146 | 58 => 77 | 33 => 117 | n => n, fun n => n⟩
theorem sortedA : SlLaysZI.n6 Try.prog sortedA_ren := {
  mixed := by kernel_rfl,
  f6 := ⟨Try.f74.name, by decide, Try.func74.trans (congrArg some (by kernel_rfl))⟩,
  f8 := ⟨Try.f94.name, by decide, Try.func94.trans (congrArg some (by kernel_rfl))⟩,
  f11 := ⟨Try.f104.name, by decide, Try.func104.trans (congrArg some (by kernel_rfl))⟩,
  t0 := Try.underlying0,
  a0 := Try.isAgg0,
  z0 := Try.sizeOf0,
  v0 := Try.zeroValue0,
  t24 := Try.underlying37,
  a24 := Try.isAgg37,
  z24 := Try.sizeOf37,
  v24 := Try.zeroValue37,
  t26 := Try.underlying3,
  a26 := Try.isAgg3,
  z26 := Try.sizeOf3,
  v26 := Try.zeroValue3,
  t28 := Try.underlying95,
  a28 := Try.isAgg95,
  z28 := Try.sizeOf95,
  v28 := Try.zeroValue95,
  i26 := by kernel_rfl }

def sortA_ren : Go.Shelf.Ren := ⟨fun | 5 => 95 | 8 => 106 | 7 => 105 | 19 => 117 | 20 => 118 | 10 => 108 | 11 => 109 | 12 => 110 | 13 => 111 | 14 => 112 | 15 => 113 | 16 => 114 | 17 => 115 | 18 => 116 | 30 => 119 | 31 => 120 | 32 => 121 | 33 => 122 | 34 => 123 | 35 => 124 | 40 => 125 | n => n, fun | 23 => 37 | 25 => 3 | 3 => 3 | 32 => 126 | 22 => 37 | 0 => 0 | 44 => 137 | 46 => 139 | 4 => 4 | 36 => 130 | 35 => 129 | 41 => 100 | 5 => 5 | 9 => 9 | 53 => 140 | 57 => 144 | 63 => 146 | 64 => 77 | n => n, fun n => n⟩
theorem sortA : SlLaysM.n5 Try.prog sortA_ren := {
  mixed := by kernel_rfl,
  f5 := ⟨Try.f95.name, by decide, Try.func95.trans (congrArg some (by kernel_rfl))⟩,
  f7 := ⟨Try.f105.name, by decide, Try.func105.trans (congrArg some (by kernel_rfl))⟩,
  f8 := Try.func106.trans (congrArg some (by kernel_rfl)),
  f10 := ⟨Try.f108.name, by decide, Try.func108.trans (congrArg some (by kernel_rfl))⟩,
  f11 := ⟨Try.f109.name, by decide, Try.func109.trans (congrArg some (by kernel_rfl))⟩,
  f12 := ⟨Try.f110.name, by decide, Try.func110.trans (congrArg some (by kernel_rfl))⟩,
  f13 := ⟨Try.f111.name, by decide, Try.func111.trans (congrArg some (by kernel_rfl))⟩,
  f14 := ⟨Try.f112.name, by decide, Try.func112.trans (congrArg some (by kernel_rfl))⟩,
  f15 := ⟨Try.f113.name, by decide, Try.func113.trans (congrArg some (by kernel_rfl))⟩,
  f16 := ⟨Try.f114.name, by decide, Try.func114.trans (congrArg some (by kernel_rfl))⟩,
  f17 := ⟨Try.f115.name, by decide, Try.func115.trans (congrArg some (by kernel_rfl))⟩,
  f18 := ⟨Try.f116.name, by decide, Try.func116.trans (congrArg some (by kernel_rfl))⟩,
  f19 := Try.func117.trans (congrArg some (by kernel_rfl)),
  f20 := Try.func118.trans (congrArg some (by kernel_rfl)),
  f30 := ⟨Try.f119.name, by decide, Try.func119.trans (congrArg some (by kernel_rfl))⟩,
  f31 := Try.func120.trans (congrArg some (by kernel_rfl)),
  f32 := Try.func121.trans (congrArg some (by kernel_rfl)),
  f33 := ⟨Try.f122.name, by decide, Try.func122.trans (congrArg some (by kernel_rfl))⟩,
  f34 := ⟨Try.f123.name, by decide, Try.func123.trans (congrArg some (by kernel_rfl))⟩,
  f35 := ⟨Try.f124.name, by decide, Try.func124.trans (congrArg some (by kernel_rfl))⟩,
  f40 := ⟨Try.f125.name, by decide, Try.func125.trans (congrArg some (by kernel_rfl))⟩,
  t0 := Try.underlying0,
  a0 := Try.isAgg0,
  z0 := Try.sizeOf0,
  v0 := Try.zeroValue0,
  t3 := Try.underlying3,
  a3 := Try.isAgg3,
  z3 := Try.sizeOf3,
  v3 := Try.zeroValue3,
  t4 := Try.underlying4,
  a4 := Try.isAgg4,
  z4 := Try.sizeOf4,
  v4 := Try.zeroValue4,
  t5 := Try.underlying5,
  a5 := Try.isAgg5,
  z5 := Try.sizeOf5,
  v5 := Try.zeroValue5,
  t9 := Try.underlying9,
  a9 := Try.isAgg9,
  z9 := Try.sizeOf9,
  v9 := Try.zeroValue9,
  t22 := Try.underlying37,
  a22 := Try.isAgg37,
  z22 := Try.sizeOf37,
  v22 := Try.zeroValue37,
  t23 := Try.underlying37,
  a23 := Try.isAgg37,
  z23 := Try.sizeOf37,
  v23 := Try.zeroValue37,
  t25 := Try.underlying3,
  a25 := Try.isAgg3,
  z25 := Try.sizeOf3,
  v25 := Try.zeroValue3,
  t32 := Try.underlying126,
  a32 := Try.isAgg126,
  z32 := Try.sizeOf126,
  v32 := Try.zeroValue126,
  t35 := Try.underlying129,
  a35 := Try.isAgg129,
  z35 := Try.sizeOf129,
  v35 := Try.zeroValue129,
  t36 := Try.underlying130,
  a36 := Try.isAgg130,
  z36 := Try.sizeOf130,
  v36 := Try.zeroValue130,
  t41 := Try.underlying100,
  a41 := Try.isAgg100,
  z41 := Try.sizeOf100,
  v41 := Try.zeroValue100,
  t44 := Try.underlying137,
  a44 := Try.isAgg137,
  z44 := Try.sizeOf137,
  v44 := Try.zeroValue137,
  t46 := Try.underlying139,
  a46 := Try.isAgg139,
  z46 := Try.sizeOf139,
  v46 := Try.zeroValue139,
  t53 := Try.underlying140,
  a53 := Try.isAgg140,
  z53 := Try.sizeOf140,
  v53 := Try.zeroValue140,
  t57 := Try.underlying144,
  a57 := Try.isAgg144,
  z57 := Try.sizeOf144,
  v57 := Try.zeroValue144,
  t63 := Try.underlying146,
  a63 := Try.isAgg146,
  z63 := Try.sizeOf146,
  v63 := Try.zeroValue146,
  t64 := Try.underlying77,
  a64 := Try.isAgg77,
  z64 := Try.sizeOf77,
  v64 := Try.zeroValue77 }

/-- slices.Sort's two contracts, at the fence that asks nothing. -/
theorem sortsA (m : Nat) : AnyZI.SortsIn Try.prog sortedA_ren Fence.wide m :=
  ⟨fun blk off cap ss W hH hblk hsz => callsIn_wide.2 (AnyM.slices_Sort_int sortA blk off cap ss W hH hblk hsz),
   fun p cap W => callsIn_wide.2 (AnyM.slices_Sort_int_none sortA p cap W)⟩
end Go.Proofs.Ytfgplmgkejeoiaa
namespace Go.Proofs.Ytfgplmgkejeoiaa
open Go.RowKit Go.Maps Go.Sort Go.Shelf

theorem keys_any (mb : Option Nat) (W : World) : Calls Try.prog 75 #[.map mb] W fun e w' => e = .returned (.func (.func 96) #[] #[.pointer (some ⟨W.heap.size, 0, none⟩)]) ∧ w' = W.alloc (.cells #[.map mb] 92) :=
  (callsIn_wide (n := 5)).1 (AnyZI.keys_in keysA Fence.wide 5 trivial rfl mb W)
theorem sorted_any {H : Type} (b nn : Nat) (D0 : DataW H) (R : Value → Option (DataW H × List MemPlace)) (w : World) (hown : w.ownsMap Try.prog 3 R b nn D0) (hmax : Maps.size D0 ≤ maxLen) (hbytes : Maps.size D0 * 8 ≤ 140737488355328) :
    Calls Try.prog 74 #[.func (.func 96) #[] #[.pointer (some ⟨w.heap.size, 0, none⟩)]] (w.alloc (.cells #[.map (some b)] 92)) fun e w' => ∃ (v : Value) (ss : List Int), e = .returned v ∧ ss.Perm (intKeys D0) ∧
      w'.ownsRow (w.alloc (.cells #[.map (some b)] 92)).heap.size 3 1 v ss.length ((ss.mergeSort (fun x y => decide (x ≤ y))).map encZ) ∧ (v = .slice none 0 0 ↔ ss = []) ∧ Below (w.alloc (.cells #[.map (some b)] 92)).heap.size (w.alloc (.cells #[.map (some b)] 92)) w' := by
  have hbl := hown.lt
  have hseq : SeqGives Fence.wide 2 Try.prog 96 #[.pointer (some ⟨w.heap.size, 0, none⟩)] encZ (fun ss => ss.Perm (intKeys D0)) (Maps.size D0) (w.alloc (.cells #[.map (some b)] 92)) :=
    AnyZI.keys_gives (ρ := keysA_ren) { keysA with } Fence.wide _ trivial rfl (by omega) w.heap.size b nn D0 _ (by simp) (by simp) (by
      obtain ⟨es, clock, hb, Ft, hs, hD⟩ := hown
      exact ⟨es, clock, (Below.heap_alloc _ _ b hbl).trans hb, Ft, hs, hD⟩)
  exact (callsIn_wide (n := 5)).1 (AnyZI.sorted_in sortedA Fence.wide 5 trivial trivial trivial trivial rfl (by omega) (sortsA _) (enters_of Try.func95 (by kernel_rfl) rfl) 96 #[.pointer (some ⟨w.heap.size, 0, none⟩)] trivial (enters_of Try.func96 (by kernel_rfl) rfl) _ _ hmax hbytes _ hseq)

/-- A list without what comes again. -/
def ddp : List Int → List Int
  | [] => []
  | a :: t => if a ∈ ddp t then ddp t else a :: ddp t
theorem mem_ddp {x : Int} : ∀ l : List Int, x ∈ ddp l ↔ x ∈ l
  | [] => Iff.rfl
  | a :: t => by
    have ih := mem_ddp (x := x) t
    rw [ddp]
    split
    · rename_i h
      rw [ih, List.mem_cons]
      constructor
      · exact .inr
      · rintro (rfl | h2)
        · exact (mem_ddp t).1 h
        · exact h2
    · rw [List.mem_cons, List.mem_cons, ih]
theorem nodup_ddp : ∀ l : List Int, (ddp l).Nodup
  | [] => List.nodup_nil
  | a :: t => by
    rw [ddp]
    split
    · exact nodup_ddp t
    · exact List.nodup_cons.2 ⟨by assumption, nodup_ddp t⟩
/-- The numbers of a list, each once, in order. -/
def srt (l : List Int) : List Int := (ddp l).mergeSort fun x y => decide (x ≤ y)
theorem srt_len (l : List Int) : (srt l).length = (ddp l).length := by unfold srt; simp
theorem mem_srt {x : Int} (l : List Int) : x ∈ srt l ↔ x ∈ l := by
  unfold srt
  rw [List.mem_mergeSort, mem_ddp]
/-- The keys that a map has are the numbers of a list. -/
theorem keys_srt {H : Type} {D : DataW H} {l : List Int} {w : World} {R : Value → Option (DataW H × List MemPlace)} {b nn : Nat} (hown : w.ownsMap Try.prog 3 R b nn D) (hh : ∀ x, Maps.has D (.int .i64 x) = decide (x ∈ l)) {ss : List Int} (hp : ss.Perm (intKeys D)) :
    ss.mergeSort (fun x y => decide (x ≤ y)) = srt l := by
  obtain ⟨es, hD, hpw, _⟩ := hown.entries (int_keyed Try.underlying3)
  obtain ⟨es', hD', hko⟩ := hown.keysOf
  obtain rfl : es = es' := by rw [hD] at hD'; simpa using hD'
  subst hD
  have hk : ∀ p ∈ es, ∃ x, p.1 = .int .i64 x := fun p hp => by
    obtain ⟨v, hv⟩ := hko p hp
    obtain ⟨x, _, hx, _⟩ := Maps.keyOf_i64 Try.underlying3 hv
    exact ⟨x, hx⟩
  have h1 := perm_intKeys hpw hk (nodup_ddp l) (fun x => by rw [hh x, decide_eq_true_eq, mem_ddp])
  exact mergeSort_of_perm_i (hp.trans h1.symm)
end Go.Proofs.Ytfgplmgkejeoiaa
