/- The contracts of slices.Sort and slices.Delete at whole numbers, laid at this program. -/
import Derived.Shelf.SortM.Plain
import Derived.Shelf.Slices.Delete
import Derived.Test.YtegdnbceiopklaaInts
namespace Go.Proofs.Ytegdnbceiopklaa
open Go.RowKit Go.Sort Go.Shelf

def sortI_ren : Go.Shelf.Ren := ⟨fun | 5 => 89 | 8 => 110 | 7 => 109 | 19 => 126 | 20 => 127 | 10 => 117 | 11 => 118 | 12 => 119 | 13 => 120 | 14 => 121 | 15 => 122 | 16 => 123 | 17 => 124 | 18 => 125 | 30 => 130 | 31 => 131 | 32 => 132 | 33 => 133 | 34 => 134 | 35 => 106 | 40 => 135 | n => n, fun | 23 => 55 | 25 => 3 | 3 => 3 | 32 => 135 | 22 => 55 | 0 => 0 | 44 => 152 | 46 => 154 | 4 => 4 | 36 => 145 | 35 => 144 | 41 => 149 | 5 => 5 | 9 => 9 | 53 => 157 | 57 => 161 | 63 => 163 | 64 => 123 | n => n, fun n => n⟩
theorem sortI : SlLaysM.n5 Try.prog sortI_ren := {
  mixed := by kernel_rfl,
  f5 := ⟨Try.f89.name, by decide, Try.func89.trans (congrArg some (by kernel_rfl))⟩,
  f7 := ⟨Try.f109.name, by decide, Try.func109.trans (congrArg some (by kernel_rfl))⟩,
  f8 := Try.func110.trans (congrArg some (by kernel_rfl)),
  f10 := ⟨Try.f117.name, by decide, Try.func117.trans (congrArg some (by kernel_rfl))⟩,
  f11 := ⟨Try.f118.name, by decide, Try.func118.trans (congrArg some (by kernel_rfl))⟩,
  f12 := ⟨Try.f119.name, by decide, Try.func119.trans (congrArg some (by kernel_rfl))⟩,
  f13 := ⟨Try.f120.name, by decide, Try.func120.trans (congrArg some (by kernel_rfl))⟩,
  f14 := ⟨Try.f121.name, by decide, Try.func121.trans (congrArg some (by kernel_rfl))⟩,
  f15 := ⟨Try.f122.name, by decide, Try.func122.trans (congrArg some (by kernel_rfl))⟩,
  f16 := ⟨Try.f123.name, by decide, Try.func123.trans (congrArg some (by kernel_rfl))⟩,
  f17 := ⟨Try.f124.name, by decide, Try.func124.trans (congrArg some (by kernel_rfl))⟩,
  f18 := ⟨Try.f125.name, by decide, Try.func125.trans (congrArg some (by kernel_rfl))⟩,
  f19 := Try.func126.trans (congrArg some (by kernel_rfl)),
  f20 := Try.func127.trans (congrArg some (by kernel_rfl)),
  f30 := ⟨Try.f130.name, by decide, Try.func130.trans (congrArg some (by kernel_rfl))⟩,
  f31 := Try.func131.trans (congrArg some (by kernel_rfl)),
  f32 := Try.func132.trans (congrArg some (by kernel_rfl)),
  f33 := ⟨Try.f133.name, by decide, Try.func133.trans (congrArg some (by kernel_rfl))⟩,
  f34 := ⟨Try.f134.name, by decide, Try.func134.trans (congrArg some (by kernel_rfl))⟩,
  f35 := ⟨Try.f106.name, by decide, Try.func106.trans (congrArg some (by kernel_rfl))⟩,
  f40 := ⟨Try.f135.name, by decide, Try.func135.trans (congrArg some (by kernel_rfl))⟩,
  t0 := Try.underlying0,
  a0 := Try.isAgg0,
  z0 := Try.sizeOf0,
  v0 := Try.zeroValue0,
  t3 := Try.underlying3,
  a3 := Try.isAgg3,
  z3 := Try.sizeOf3,
  v3 := Try.zeroValue3,
  t4 := Try.underlying4,
  a4 := Try.isAgg4,
  z4 := Try.sizeOf4,
  v4 := Try.zeroValue4,
  t5 := Try.underlying5,
  a5 := Try.isAgg5,
  z5 := Try.sizeOf5,
  v5 := Try.zeroValue5,
  t9 := Try.underlying9,
  a9 := Try.isAgg9,
  z9 := Try.sizeOf9,
  v9 := Try.zeroValue9,
  t22 := Try.underlying55,
  a22 := Try.isAgg55,
  z22 := Try.sizeOf55,
  v22 := Try.zeroValue55,
  t23 := Try.underlying55,
  a23 := Try.isAgg55,
  z23 := Try.sizeOf55,
  v23 := Try.zeroValue55,
  t25 := Try.underlying3,
  a25 := Try.isAgg3,
  z25 := Try.sizeOf3,
  v25 := Try.zeroValue3,
  t32 := Try.underlying135,
  a32 := Try.isAgg135,
  z32 := Try.sizeOf135,
  v32 := Try.zeroValue135,
  t35 := Try.underlying144,
  a35 := Try.isAgg144,
  z35 := Try.sizeOf144,
  v35 := Try.zeroValue144,
  t36 := Try.underlying145,
  a36 := Try.isAgg145,
  z36 := Try.sizeOf145,
  v36 := Try.zeroValue145,
  t41 := Try.underlying149,
  a41 := Try.isAgg149,
  z41 := Try.sizeOf149,
  v41 := Try.zeroValue149,
  t44 := Try.underlying152,
  a44 := Try.isAgg152,
  z44 := Try.sizeOf152,
  v44 := Try.zeroValue152,
  t46 := Try.underlying154,
  a46 := Try.isAgg154,
  z46 := Try.sizeOf154,
  v46 := Try.zeroValue154,
  t53 := Try.underlying157,
  a53 := Try.isAgg157,
  z53 := Try.sizeOf157,
  v53 := Try.zeroValue157,
  t57 := Try.underlying161,
  a57 := Try.isAgg161,
  z57 := Try.sizeOf161,
  v57 := Try.zeroValue161,
  t63 := Try.underlying163,
  a63 := Try.isAgg163,
  z63 := Try.sizeOf163,
  v63 := Try.zeroValue163,
  t64 := Try.underlying123,
  a64 := Try.isAgg123,
  z64 := Try.sizeOf123,
  v64 := Try.zeroValue123 }

def delA_ren : Go.Shelf.Ren := ⟨fun | 23 => 90 | n => n, fun | 0 => 0 | 3 => 3 | 4 => 4 | 22 => 55 | n => n, fun n => n⟩
theorem delA : Lays2.n23 Try.prog delA_ren := {
  mixed := by kernel_rfl,
  f23 := Try.func90.trans (congrArg some (by kernel_rfl)),
  t0 := Try.underlying0,
  a0 := Try.isAgg0,
  z0 := Try.sizeOf0,
  v0 := Try.zeroValue0,
  t3 := Try.underlying3,
  a3 := Try.isAgg3,
  z3 := Try.sizeOf3,
  v3 := Try.zeroValue3,
  t4 := Try.underlying4,
  a4 := Try.isAgg4,
  z4 := Try.sizeOf4,
  v4 := Try.zeroValue4,
  t22 := Try.underlying55,
  a22 := Try.isAgg55,
  z22 := Try.sizeOf55,
  v22 := Try.zeroValue55,
  i3 := by kernel_rfl }
theorem del_any (g cap i : Nat) (ls : List Int) (w : World) (hH : Holds (Value.int .i64) w g 0 ls.toArray) (hcap : ls.length ≤ cap) (hm : cap ≤ 9223372036854775807) (hi : i < ls.length) :
    Calls Try.prog 90 #[.slice (some ⟨g, 0, none⟩) ls.length cap, (Value.int .i64 ((i : Int))), (Value.int .i64 ((i : Int) + 1))] w fun e w' => e = .returned (.slice (some ⟨g, 0, none⟩) (ls.eraseIdx i).length cap) ∧ ∃ q, w' = putRow (Value.int .i64) (Sort.ahead w q) g 0 (ls.eraseIdx i ++ [0]).toArray := by
  have h := Any.slices_Delete_int delA g 0 cap i (i + 1) ls w hH hcap hm (by omega) (by omega)
  have e1 : ls.take i ++ ls.drop (i + 1) ++ List.replicate (i + 1 - i) 0 = ls.eraseIdx i ++ [0] := by
    rw [List.eraseIdx_eq_take_drop_succ, show i + 1 - i = 1 by omega]
    rfl
  have e2 : ls.length - (i + 1 - i) = (ls.eraseIdx i).length := by
    rw [List.length_eraseIdx_of_lt hi]
    omega
  rw [e1, e2] at h
  exact h
theorem sort_any (g cap : Nat) (zs : List Int) (w : World) (hH : Holds (Value.int .i64) w g 0 zs.toArray) (hg : g < w.heap.size) (hsz : zs.length < 4611686018427387904) :
    Calls Try.prog 89 #[.slice (some ⟨g, 0, none⟩) zs.length cap] w fun e w' => e = .returned (.tuple #[]) ∧ ∃ n os, w' = grow (putRow (Value.int .i64) (Sort.ahead w n) g 0 (zs.mergeSort fun x y => decide (x ≤ y)).toArray) os :=
  AnyM.slices_Sort_int sortI g 0 cap zs w hH hg hsz
end Go.Proofs.Ytegdnbceiopklaa
