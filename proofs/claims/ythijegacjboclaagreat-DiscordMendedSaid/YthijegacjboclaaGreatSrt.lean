/- (for any seat, printed by gen_srt.py) slices.Sorted of maps.Keys of a map of numbers: its keys, each once, in order. -/
import Derived.Shelf.SlIterI.Nil
import Derived.Shelf.SortM.Plain
import Derived.Shelf.SortM.SortNone
import Derived.Test.YthijegacjboclaaGreatLeaf
import Derived.Test.YthijegacjboclaaGreatInts
namespace Go.Proofs.YthijegacjboclaaGreat
open Go.RowKit Go.Maps Go.Sort Go.Shelf

def keysA_ren : Go.Shelf.Ren := ⟨fun | 7 => 42 | 10 => 71 | n => n, fun | 23 => 67 | 26 => 3 | 3 => 3 | 28 => 79 | 0 => 0 | 27 => 78 | 33 => 109 | 4 => 4 | n => n, fun n => n⟩
theorem keysA : SlLaysZI.n7 Tryz.prog keysA_ren := {
  mixed := by kernel_rfl,
  f7 := ⟨Tryz.f42.name, by decide, Tryz.func42.trans (congrArg some (by kernel_rfl))⟩,
  f10 := ⟨Tryz.f71.name, by decide, Tryz.func71.trans (congrArg some (by kernel_rfl))⟩,
  t0 := Tryz.underlying0,
  a0 := Tryz.isAgg0,
  z0 := Tryz.sizeOf0,
  v0 := Tryz.zeroValue0,
  t4 := Tryz.underlying4,
  a4 := Tryz.isAgg4,
  z4 := Tryz.sizeOf4,
  v4 := Tryz.zeroValue4,
  t23 := Tryz.underlying67,
  a23 := Tryz.isAgg67,
  z23 := Tryz.sizeOf67,
  v23 := Tryz.zeroValue67,
  t26 := Tryz.underlying3,
  a26 := Tryz.isAgg3,
  z26 := Tryz.sizeOf3,
  v26 := Tryz.zeroValue3,
  t27 := Tryz.underlying78,
  a27 := Tryz.isAgg78,
  z27 := Tryz.sizeOf78,
  v27 := Tryz.zeroValue78,
  t28 := Tryz.underlying79,
  a28 := Tryz.isAgg79,
  z28 := Tryz.sizeOf79,
  v28 := Tryz.zeroValue79,
  t33 := Tryz.underlying109,
  a33 := Tryz.isAgg109,
  z33 := Tryz.sizeOf109,
  v33 := Tryz.zeroValue109 }

def sortedA_ren : Go.Shelf.Ren := ⟨fun | 6 => 41 | 8 => 69 | 9 => 70 | 11 => 96 | 13 => 98 | 12 => 97 | 23 => 117 | 24 => 118 | 14 => 108 | 15 => 109 | 16 => 110 | 17 => 111 | 18 => 112 | 19 => 113 | 20 => 114 | 21 => 115 | 22 => 116 | 25 => 125 | 26 => 126 | 27 => 127 | 28 => 128 | 29 => 129 | 30 => 130 | 31 => 131 | n => n, fun | 26 => 3 | 28 => 79 | 24 => 23 | 0 => 0 | 3 => 3 | 37 => 71 | 48 => 159 | 50 => 161 | 4 => 4 | 40 => 151 | 39 => 150 | 45 => 156 | 5 => 5 | 9 => 9 | 51 => 166 | 55 => 170 | 57 => 172 | 58 => 173 | 33 => 109 | n => n, fun n => n⟩
theorem sortedA : SlLaysZI.n6 Tryz.prog sortedA_ren := {
  mixed := by kernel_rfl,
  f6 := ⟨Tryz.f41.name, by decide, Tryz.func41.trans (congrArg some (by kernel_rfl))⟩,
  f8 := ⟨Tryz.f69.name, by decide, Tryz.func69.trans (congrArg some (by kernel_rfl))⟩,
  f11 := ⟨Tryz.f96.name, by decide, Tryz.func96.trans (congrArg some (by kernel_rfl))⟩,
  t0 := Tryz.underlying0,
  a0 := Tryz.isAgg0,
  z0 := Tryz.sizeOf0,
  v0 := Tryz.zeroValue0,
  t24 := Tryz.underlying23,
  a24 := Tryz.isAgg23,
  z24 := Tryz.sizeOf23,
  v24 := Tryz.zeroValue23,
  t26 := Tryz.underlying3,
  a26 := Tryz.isAgg3,
  z26 := Tryz.sizeOf3,
  v26 := Tryz.zeroValue3,
  t28 := Tryz.underlying79,
  a28 := Tryz.isAgg79,
  z28 := Tryz.sizeOf79,
  v28 := Tryz.zeroValue79,
  i26 := by kernel_rfl }

def sortA_ren : Go.Shelf.Ren := ⟨fun | 5 => 70 | 8 => 98 | 7 => 97 | 19 => 117 | 20 => 118 | 10 => 108 | 11 => 109 | 12 => 110 | 13 => 111 | 14 => 112 | 15 => 113 | 16 => 114 | 17 => 115 | 18 => 116 | 30 => 125 | 31 => 126 | 32 => 127 | 33 => 128 | 34 => 129 | 35 => 130 | 40 => 131 | n => n, fun | 23 => 23 | 25 => 3 | 3 => 3 | 32 => 71 | 22 => 23 | 0 => 0 | 44 => 159 | 46 => 161 | 4 => 4 | 36 => 151 | 35 => 150 | 41 => 156 | 5 => 5 | 9 => 9 | 53 => 166 | 57 => 170 | 63 => 172 | 64 => 173 | n => n, fun n => n⟩
theorem sortA : SlLaysM.n5 Tryz.prog sortA_ren := {
  mixed := by kernel_rfl,
  f5 := ⟨Tryz.f70.name, by decide, Tryz.func70.trans (congrArg some (by kernel_rfl))⟩,
  f7 := ⟨Tryz.f97.name, by decide, Tryz.func97.trans (congrArg some (by kernel_rfl))⟩,
  f8 := Tryz.func98.trans (congrArg some (by kernel_rfl)),
  f10 := ⟨Tryz.f108.name, by decide, Tryz.func108.trans (congrArg some (by kernel_rfl))⟩,
  f11 := ⟨Tryz.f109.name, by decide, Tryz.func109.trans (congrArg some (by kernel_rfl))⟩,
  f12 := ⟨Tryz.f110.name, by decide, Tryz.func110.trans (congrArg some (by kernel_rfl))⟩,
  f13 := ⟨Tryz.f111.name, by decide, Tryz.func111.trans (congrArg some (by kernel_rfl))⟩,
  f14 := ⟨Tryz.f112.name, by decide, Tryz.func112.trans (congrArg some (by kernel_rfl))⟩,
  f15 := ⟨Tryz.f113.name, by decide, Tryz.func113.trans (congrArg some (by kernel_rfl))⟩,
  f16 := ⟨Tryz.f114.name, by decide, Tryz.func114.trans (congrArg some (by kernel_rfl))⟩,
  f17 := ⟨Tryz.f115.name, by decide, Tryz.func115.trans (congrArg some (by kernel_rfl))⟩,
  f18 := ⟨Tryz.f116.name, by decide, Tryz.func116.trans (congrArg some (by kernel_rfl))⟩,
  f19 := Tryz.func117.trans (congrArg some (by kernel_rfl)),
  f20 := Tryz.func118.trans (congrArg some (by kernel_rfl)),
  f30 := ⟨Tryz.f125.name, by decide, Tryz.func125.trans (congrArg some (by kernel_rfl))⟩,
  f31 := Tryz.func126.trans (congrArg some (by kernel_rfl)),
  f32 := Tryz.func127.trans (congrArg some (by kernel_rfl)),
  f33 := ⟨Tryz.f128.name, by decide, Tryz.func128.trans (congrArg some (by kernel_rfl))⟩,
  f34 := ⟨Tryz.f129.name, by decide, Tryz.func129.trans (congrArg some (by kernel_rfl))⟩,
  f35 := ⟨Tryz.f130.name, by decide, Tryz.func130.trans (congrArg some (by kernel_rfl))⟩,
  f40 := ⟨Tryz.f131.name, by decide, Tryz.func131.trans (congrArg some (by kernel_rfl))⟩,
  t0 := Tryz.underlying0,
  a0 := Tryz.isAgg0,
  z0 := Tryz.sizeOf0,
  v0 := Tryz.zeroValue0,
  t3 := Tryz.underlying3,
  a3 := Tryz.isAgg3,
  z3 := Tryz.sizeOf3,
  v3 := Tryz.zeroValue3,
  t4 := Tryz.underlying4,
  a4 := Tryz.isAgg4,
  z4 := Tryz.sizeOf4,
  v4 := Tryz.zeroValue4,
  t5 := Tryz.underlying5,
  a5 := Tryz.isAgg5,
  z5 := Tryz.sizeOf5,
  v5 := Tryz.zeroValue5,
  t9 := Tryz.underlying9,
  a9 := Tryz.isAgg9,
  z9 := Tryz.sizeOf9,
  v9 := Tryz.zeroValue9,
  t22 := Tryz.underlying23,
  a22 := Tryz.isAgg23,
  z22 := Tryz.sizeOf23,
  v22 := Tryz.zeroValue23,
  t23 := Tryz.underlying23,
  a23 := Tryz.isAgg23,
  z23 := Tryz.sizeOf23,
  v23 := Tryz.zeroValue23,
  t25 := Tryz.underlying3,
  a25 := Tryz.isAgg3,
  z25 := Tryz.sizeOf3,
  v25 := Tryz.zeroValue3,
  t32 := Tryz.underlying71,
  a32 := Tryz.isAgg71,
  z32 := Tryz.sizeOf71,
  v32 := Tryz.zeroValue71,
  t35 := Tryz.underlying150,
  a35 := Tryz.isAgg150,
  z35 := Tryz.sizeOf150,
  v35 := Tryz.zeroValue150,
  t36 := Tryz.underlying151,
  a36 := Tryz.isAgg151,
  z36 := Tryz.sizeOf151,
  v36 := Tryz.zeroValue151,
  t41 := Tryz.underlying156,
  a41 := Tryz.isAgg156,
  z41 := Tryz.sizeOf156,
  v41 := Tryz.zeroValue156,
  t44 := Tryz.underlying159,
  a44 := Tryz.isAgg159,
  z44 := Tryz.sizeOf159,
  v44 := Tryz.zeroValue159,
  t46 := Tryz.underlying161,
  a46 := Tryz.isAgg161,
  z46 := Tryz.sizeOf161,
  v46 := Tryz.zeroValue161,
  t53 := Tryz.underlying166,
  a53 := Tryz.isAgg166,
  z53 := Tryz.sizeOf166,
  v53 := Tryz.zeroValue166,
  t57 := Tryz.underlying170,
  a57 := Tryz.isAgg170,
  z57 := Tryz.sizeOf170,
  v57 := Tryz.zeroValue170,
  t63 := Tryz.underlying172,
  a63 := Tryz.isAgg172,
  z63 := Tryz.sizeOf172,
  v63 := Tryz.zeroValue172,
  t64 := Tryz.underlying173,
  a64 := Tryz.isAgg173,
  z64 := Tryz.sizeOf173,
  v64 := Tryz.zeroValue173 }

/-- slices.Sort's two contracts, at the fence that asks nothing. -/
theorem sortsA (m : Nat) : AnyZI.SortsIn Tryz.prog sortedA_ren Fence.wide m :=
  ⟨fun blk off cap ss W hH hblk hsz => callsIn_wide.2 (AnyM.slices_Sort_int sortA blk off cap ss W hH hblk hsz),
   fun p cap W => callsIn_wide.2 (AnyM.slices_Sort_int_none sortA p cap W)⟩
end Go.Proofs.YthijegacjboclaaGreat
namespace Go.Proofs.YthijegacjboclaaGreat
open Go.RowKit Go.Maps Go.Sort Go.Shelf

theorem keys_any (mb : Option Nat) (W : World) : Calls Tryz.prog 42 #[.map mb] W fun e w' => e = .returned (.func (.func 71) #[] #[.pointer (some ⟨W.heap.size, 0, none⟩)]) ∧ w' = W.alloc (.cells #[.map mb] 67) :=
  (callsIn_wide (n := 5)).1 (AnyZI.keys_in keysA Fence.wide 5 trivial rfl mb W)
theorem sorted_any {H : Type} (b nn : Nat) (D0 : DataW H) (R : Value → Option (DataW H × List MemPlace)) (w : World) (hown : w.ownsMap Tryz.prog 3 R b nn D0) (hmax : Maps.size D0 ≤ maxLen) (hbytes : Maps.size D0 * 8 ≤ 140737488355328) :
    Calls Tryz.prog 41 #[.func (.func 71) #[] #[.pointer (some ⟨w.heap.size, 0, none⟩)]] (w.alloc (.cells #[.map (some b)] 67)) fun e w' => ∃ (v : Value) (ss : List Int), e = .returned v ∧ ss.Perm (intKeys D0) ∧
      w'.ownsRow (w.alloc (.cells #[.map (some b)] 67)).heap.size 3 1 v ss.length ((ss.mergeSort (fun x y => decide (x ≤ y))).map encZ) ∧ (v = .slice none 0 0 ↔ ss = []) ∧ Below (w.alloc (.cells #[.map (some b)] 67)).heap.size (w.alloc (.cells #[.map (some b)] 67)) w' := by
  have hbl := hown.lt
  have hseq : SeqGives Fence.wide 2 Tryz.prog 71 #[.pointer (some ⟨w.heap.size, 0, none⟩)] encZ (fun ss => ss.Perm (intKeys D0)) (Maps.size D0) (w.alloc (.cells #[.map (some b)] 67)) :=
    AnyZI.keys_gives (ρ := keysA_ren) { keysA with } Fence.wide _ trivial rfl (by omega) w.heap.size b nn D0 _ (by simp) (by simp) (by
      obtain ⟨es, clock, hb, Ft, hs, hD⟩ := hown
      exact ⟨es, clock, (Below.heap_alloc _ _ b hbl).trans hb, Ft, hs, hD⟩)
  exact (callsIn_wide (n := 5)).1 (AnyZI.sorted_in sortedA Fence.wide 5 trivial trivial trivial trivial rfl (by omega) (sortsA _) (enters_of Tryz.func70 (by kernel_rfl) rfl) 71 #[.pointer (some ⟨w.heap.size, 0, none⟩)] trivial (enters_of Tryz.func71 (by kernel_rfl) rfl) _ _ hmax hbytes _ hseq)

/-- A list without what comes again. -/
def ddp : List Int → List Int
  | [] => []
  | a :: t => if a ∈ ddp t then ddp t else a :: ddp t
theorem mem_ddp {x : Int} : ∀ l : List Int, x ∈ ddp l ↔ x ∈ l
  | [] => Iff.rfl
  | a :: t => by
    have ih := mem_ddp (x := x) t
    rw [ddp]
    split
    · rename_i h
      rw [ih, List.mem_cons]
      constructor
      · exact .inr
      · rintro (rfl | h2)
        · exact (mem_ddp t).1 h
        · exact h2
    · rw [List.mem_cons, List.mem_cons, ih]
theorem nodup_ddp : ∀ l : List Int, (ddp l).Nodup
  | [] => List.nodup_nil
  | a :: t => by
    rw [ddp]
    split
    · exact nodup_ddp t
    · exact List.nodup_cons.2 ⟨by assumption, nodup_ddp t⟩
/-- The numbers of a list, each once, in order. -/
def srt (l : List Int) : List Int := (ddp l).mergeSort fun x y => decide (x ≤ y)
theorem srt_len (l : List Int) : (srt l).length = (ddp l).length := by unfold srt; simp
theorem mem_srt {x : Int} (l : List Int) : x ∈ srt l ↔ x ∈ l := by
  unfold srt
  rw [List.mem_mergeSort, mem_ddp]
/-- The keys that a map has are the numbers of a list. -/
theorem keys_srt {H : Type} {D : DataW H} {l : List Int} {w : World} {R : Value → Option (DataW H × List MemPlace)} {b nn : Nat} (hown : w.ownsMap Tryz.prog 3 R b nn D) (hh : ∀ x, Maps.has D (.int .i64 x) = decide (x ∈ l)) {ss : List Int} (hp : ss.Perm (intKeys D)) :
    ss.mergeSort (fun x y => decide (x ≤ y)) = srt l := by
  obtain ⟨es, hD, hpw, _⟩ := hown.entries (int_keyed Tryz.underlying3)
  obtain ⟨es', hD', hko⟩ := hown.keysOf
  obtain rfl : es = es' := by rw [hD] at hD'; simpa using hD'
  subst hD
  have hk : ∀ p ∈ es, ∃ x, p.1 = .int .i64 x := fun p hp => by
    obtain ⟨v, hv⟩ := hko p hp
    obtain ⟨x, _, hx, _⟩ := Maps.keyOf_i64 Tryz.underlying3 hv
    exact ⟨x, hx⟩
  have h1 := perm_intKeys hpw hk (nodup_ddp l) (fun x => by rw [hh x, decide_eq_true_eq, mem_ddp])
  exact mergeSort_of_perm_i (hp.trans h1.symm)
end Go.Proofs.YthijegacjboclaaGreat
