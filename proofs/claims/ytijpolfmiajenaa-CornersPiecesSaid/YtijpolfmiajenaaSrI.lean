/- The contracts of slices.Sort and slices.Delete at whole numbers, laid at this program. -/
import Derived.Shelf.SortM.Plain
import Derived.Shelf.Slices.Delete
import Derived.Test.YtijpolfmiajenaaInts
namespace Go.Proofs.Ytijpolfmiajenaa
open Go.RowKit Go.Sort Go.Shelf

def sortA_ren : Go.Shelf.Ren := ⟨fun | 5 => 83 | 8 => 92 | 7 => 94 | 19 => 104 | 20 => 105 | 10 => 106 | 11 => 107 | 12 => 108 | 13 => 109 | 14 => 110 | 15 => 111 | 16 => 112 | 17 => 113 | 18 => 114 | 30 => 120 | 31 => 116 | 32 => 117 | 33 => 121 | 34 => 122 | 35 => 90 | 40 => 124 | n => n, fun | 23 => 68 | 25 => 3 | 3 => 3 | 32 => 98 | 22 => 68 | 0 => 0 | 44 => 111 | 46 => 113 | 4 => 4 | 36 => 104 | 35 => 103 | 41 => 108 | 5 => 5 | 9 => 9 | 53 => 120 | 57 => 124 | 63 => 128 | 64 => 129 | n => n, fun n => n⟩
theorem sortA : SlLaysM.n5 Try.prog sortA_ren := {
  mixed := by kernel_rfl,
  f5 := ⟨Try.f83.name, by decide, Try.func83.trans (congrArg some (by kernel_rfl))⟩,
  f7 := ⟨Try.f94.name, by decide, Try.func94.trans (congrArg some (by kernel_rfl))⟩,
  f8 := Try.func92.trans (congrArg some (by kernel_rfl)),
  f10 := ⟨Try.f106.name, by decide, Try.func106.trans (congrArg some (by kernel_rfl))⟩,
  f11 := ⟨Try.f107.name, by decide, Try.func107.trans (congrArg some (by kernel_rfl))⟩,
  f12 := ⟨Try.f108.name, by decide, Try.func108.trans (congrArg some (by kernel_rfl))⟩,
  f13 := ⟨Try.f109.name, by decide, Try.func109.trans (congrArg some (by kernel_rfl))⟩,
  f14 := ⟨Try.f110.name, by decide, Try.func110.trans (congrArg some (by kernel_rfl))⟩,
  f15 := ⟨Try.f111.name, by decide, Try.func111.trans (congrArg some (by kernel_rfl))⟩,
  f16 := ⟨Try.f112.name, by decide, Try.func112.trans (congrArg some (by kernel_rfl))⟩,
  f17 := ⟨Try.f113.name, by decide, Try.func113.trans (congrArg some (by kernel_rfl))⟩,
  f18 := ⟨Try.f114.name, by decide, Try.func114.trans (congrArg some (by kernel_rfl))⟩,
  f19 := Try.func104.trans (congrArg some (by kernel_rfl)),
  f20 := Try.func105.trans (congrArg some (by kernel_rfl)),
  f30 := ⟨Try.f120.name, by decide, Try.func120.trans (congrArg some (by kernel_rfl))⟩,
  f31 := Try.func116.trans (congrArg some (by kernel_rfl)),
  f32 := Try.func117.trans (congrArg some (by kernel_rfl)),
  f33 := ⟨Try.f121.name, by decide, Try.func121.trans (congrArg some (by kernel_rfl))⟩,
  f34 := ⟨Try.f122.name, by decide, Try.func122.trans (congrArg some (by kernel_rfl))⟩,
  f35 := ⟨Try.f90.name, by decide, Try.func90.trans (congrArg some (by kernel_rfl))⟩,
  f40 := ⟨Try.f124.name, by decide, Try.func124.trans (congrArg some (by kernel_rfl))⟩,
  t0 := Try.underlying0,
  a0 := Try.isAgg0,
  z0 := Try.sizeOf0,
  v0 := Try.zeroValue0,
  t3 := Try.underlying3,
  a3 := Try.isAgg3,
  z3 := Try.sizeOf3,
  v3 := Try.zeroValue3,
  t4 := Try.underlying4,
  a4 := Try.isAgg4,
  z4 := Try.sizeOf4,
  v4 := Try.zeroValue4,
  t5 := Try.underlying5,
  a5 := Try.isAgg5,
  z5 := Try.sizeOf5,
  v5 := Try.zeroValue5,
  t9 := Try.underlying9,
  a9 := Try.isAgg9,
  z9 := Try.sizeOf9,
  v9 := Try.zeroValue9,
  t22 := Try.underlying68,
  a22 := Try.isAgg68,
  z22 := Try.sizeOf68,
  v22 := Try.zeroValue68,
  t23 := Try.underlying68,
  a23 := Try.isAgg68,
  z23 := Try.sizeOf68,
  v23 := Try.zeroValue68,
  t25 := Try.underlying3,
  a25 := Try.isAgg3,
  z25 := Try.sizeOf3,
  v25 := Try.zeroValue3,
  t32 := Try.underlying98,
  a32 := Try.isAgg98,
  z32 := Try.sizeOf98,
  v32 := Try.zeroValue98,
  t35 := Try.underlying103,
  a35 := Try.isAgg103,
  z35 := Try.sizeOf103,
  v35 := Try.zeroValue103,
  t36 := Try.underlying104,
  a36 := Try.isAgg104,
  z36 := Try.sizeOf104,
  v36 := Try.zeroValue104,
  t41 := Try.underlying108,
  a41 := Try.isAgg108,
  z41 := Try.sizeOf108,
  v41 := Try.zeroValue108,
  t44 := Try.underlying111,
  a44 := Try.isAgg111,
  z44 := Try.sizeOf111,
  v44 := Try.zeroValue111,
  t46 := Try.underlying113,
  a46 := Try.isAgg113,
  z46 := Try.sizeOf113,
  v46 := Try.zeroValue113,
  t53 := Try.underlying120,
  a53 := Try.isAgg120,
  z53 := Try.sizeOf120,
  v53 := Try.zeroValue120,
  t57 := Try.underlying124,
  a57 := Try.isAgg124,
  z57 := Try.sizeOf124,
  v57 := Try.zeroValue124,
  t63 := Try.underlying128,
  a63 := Try.isAgg128,
  z63 := Try.sizeOf128,
  v63 := Try.zeroValue128,
  t64 := Try.underlying129,
  a64 := Try.isAgg129,
  z64 := Try.sizeOf129,
  v64 := Try.zeroValue129 }

def delA_ren : Go.Shelf.Ren := ⟨fun | 23 => 84 | n => n, fun | 0 => 0 | 3 => 3 | 4 => 4 | 22 => 68 | n => n, fun n => n⟩
theorem delA : Lays2.n23 Try.prog delA_ren := {
  mixed := by kernel_rfl,
  f23 := Try.func84.trans (congrArg some (by kernel_rfl)),
  t0 := Try.underlying0,
  a0 := Try.isAgg0,
  z0 := Try.sizeOf0,
  v0 := Try.zeroValue0,
  t3 := Try.underlying3,
  a3 := Try.isAgg3,
  z3 := Try.sizeOf3,
  v3 := Try.zeroValue3,
  t4 := Try.underlying4,
  a4 := Try.isAgg4,
  z4 := Try.sizeOf4,
  v4 := Try.zeroValue4,
  t22 := Try.underlying68,
  a22 := Try.isAgg68,
  z22 := Try.sizeOf68,
  v22 := Try.zeroValue68,
  i3 := by kernel_rfl }
theorem del_any (g cap i : Nat) (ls : List Int) (w : World) (hH : Holds (Value.int .i64) w g 0 ls.toArray) (hcap : ls.length ≤ cap) (hm : cap ≤ 9223372036854775807) (hi : i < ls.length) :
    Calls Try.prog 84 #[.slice (some ⟨g, 0, none⟩) ls.length cap, (Value.int .i64 ((i : Int))), (Value.int .i64 ((i : Int) + 1))] w fun e w' => e = .returned (.slice (some ⟨g, 0, none⟩) (ls.eraseIdx i).length cap) ∧ ∃ q, w' = putRow (Value.int .i64) (Sort.ahead w q) g 0 (ls.eraseIdx i ++ [0]).toArray := by
  have h := Any.slices_Delete_int delA g 0 cap i (i + 1) ls w hH hcap hm (by omega) (by omega)
  have e1 : ls.take i ++ ls.drop (i + 1) ++ List.replicate (i + 1 - i) 0 = ls.eraseIdx i ++ [0] := by
    rw [List.eraseIdx_eq_take_drop_succ, show i + 1 - i = 1 by omega]
    rfl
  have e2 : ls.length - (i + 1 - i) = (ls.eraseIdx i).length := by
    rw [List.length_eraseIdx_of_lt hi]
    omega
  rw [e1, e2] at h
  exact h
theorem sort_any (g cap : Nat) (zs : List Int) (w : World) (hH : Holds (Value.int .i64) w g 0 zs.toArray) (hg : g < w.heap.size) (hsz : zs.length < 4611686018427387904) :
    Calls Try.prog 83 #[.slice (some ⟨g, 0, none⟩) zs.length cap] w fun e w' => e = .returned (.tuple #[]) ∧ ∃ n os, w' = grow (putRow (Value.int .i64) (Sort.ahead w n) g 0 (zs.mergeSort fun x y => decide (x ≤ y)).toArray) os :=
  AnyM.slices_Sort_int sortA g 0 cap zs w hH hg hsz
end Go.Proofs.Ytijpolfmiajenaa
