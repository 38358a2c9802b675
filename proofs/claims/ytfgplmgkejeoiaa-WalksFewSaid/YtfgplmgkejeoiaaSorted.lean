/- slices.Sorted of maps.Keys of a map of numbers: its keys, each once, in order. -/
import Derived.Test.YtfgplmgkejeoiaaLays
import Derived.Test.YtfgplmgkejeoiaaReach
namespace Go.Proofs.Ytfgplmgkejeoiaa
open Go.RowKit Go.Maps Go.Sort Go.Shelf

theorem keys_any (mb : Option Nat) (W : World) : Calls Try.prog 75 #[.map mb] W fun e w' => e = .returned (.func (.func 96) #[] #[.pointer (some ⟨W.heap.size, 0, none⟩)]) ∧ w' = W.alloc (.cells #[.map mb] 92) :=
  (callsIn_wide (n := 5)).1 (AnyZI.keys_in keysA Fence.wide 5 trivial rfl mb W)
theorem sorted_any {H : Type} (b nn : Nat) (D0 : DataW H) (R : Value → Option (DataW H × List MemPlace)) (w : World) (hown : w.ownsMap Try.prog 3 R b nn D0) (hmax : Maps.size D0 ≤ maxLen) (hbytes : Maps.size D0 * 8 ≤ 140737488355328) :
    Calls Try.prog 74 #[.func (.func 96) #[] #[.pointer (some ⟨w.heap.size, 0, none⟩)]] (w.alloc (.cells #[.map (some b)] 92)) fun e w' => ∃ (v : Value) (ss : List Int), e = .returned v ∧ ss.Perm (intKeys D0) ∧
      w'.ownsRow (w.alloc (.cells #[.map (some b)] 92)).heap.size 3 1 v ss.length ((ss.mergeSort (fun x y => decide (x ≤ y))).map encZ) ∧ (v = .slice none 0 0 ↔ ss = []) ∧ Below (w.alloc (.cells #[.map (some b)] 92)).heap.size (w.alloc (.cells #[.map (some b)] 92)) w' := by
  have hbl := hown.lt
  have hseq : SeqGives Fence.wide 2 Try.prog 96 #[.pointer (some ⟨w.heap.size, 0, none⟩)] encZ (fun ss => ss.Perm (intKeys D0)) (Maps.size D0) (w.alloc (.cells #[.map (some b)] 92)) :=
    AnyZI.keys_gives (ρ := keysA_ren) { keysA with } Fence.wide _ trivial rfl (by omega) w.heap.size b nn D0 _ (by simp) (by simp) (by
      obtain ⟨es, clock, hb, Ft, hs, hD⟩ := hown
      exact ⟨es, clock, (Below.heap_alloc _ _ b hbl).trans hb, Ft, hs, hD⟩)
  exact (callsIn_wide (n := 5)).1 (AnyZI.sorted_in sortedA Fence.wide 5 trivial trivial trivial trivial rfl (by omega) (sortsA _) (enters_of Try.func95 (by kernel_rfl) rfl) 96 #[.pointer (some ⟨w.heap.size, 0, none⟩)] trivial (enters_of Try.func96 (by kernel_rfl) rfl) _ _ hmax hbytes _ hseq)

/-- A list without what comes again. -/
def ddp : List Int → List Int
  | [] => []
  | a :: t => if a ∈ ddp t then ddp t else a :: ddp t
theorem mem_ddp {x : Int} : ∀ l : List Int, x ∈ ddp l ↔ x ∈ l
  | [] => Iff.rfl
  | a :: t => by
    have ih := mem_ddp (x := x) t
    rw [ddp]
    split
    · rename_i h
      rw [ih, List.mem_cons]
      constructor
      · exact .inr
      · rintro (rfl | h2)
        · exact (mem_ddp t).1 h
        · exact h2
    · rw [List.mem_cons, List.mem_cons, ih]
theorem nodup_ddp : ∀ l : List Int, (ddp l).Nodup
  | [] => List.nodup_nil
  | a :: t => by
    rw [ddp]
    split
    · exact nodup_ddp t
    · exact List.nodup_cons.2 ⟨by assumption, nodup_ddp t⟩
/-- The numbers of a list, each once, in order. -/
def srt (l : List Int) : List Int := (ddp l).mergeSort fun x y => decide (x ≤ y)
theorem srt_len (l : List Int) : (srt l).length = (ddp l).length := by unfold srt; simp
theorem mem_srt {x : Int} (l : List Int) : x ∈ srt l ↔ x ∈ l := by
  unfold srt
  rw [List.mem_mergeSort, mem_ddp]
/-- The keys that a map has are the numbers of a list. -/
theorem keys_srt {H : Type} {D : DataW H} {l : List Int} {w : World} {R : Value → Option (DataW H × List MemPlace)} {b nn : Nat} (hown : w.ownsMap Try.prog 3 R b nn D) (hh : ∀ x, Maps.has D (.int .i64 x) = decide (x ∈ l)) {ss : List Int} (hp : ss.Perm (intKeys D)) :
    ss.mergeSort (fun x y => decide (x ≤ y)) = srt l := by
  obtain ⟨es, hD, hpw, _⟩ := hown.entries (int_keyed Try.underlying3)
  obtain ⟨es', hD', hko⟩ := hown.keysOf
  obtain rfl : es = es' := by rw [hD] at hD'; simpa using hD'
  subst hD
  have hk : ∀ p ∈ es, ∃ x, p.1 = .int .i64 x := fun p hp => by
    obtain ⟨v, hv⟩ := hko p hp
    obtain ⟨x, _, hx, _⟩ := Maps.keyOf_i64 Try.underlying3 hv
    exact ⟨x, hx⟩
  have h1 := perm_intKeys hpw hk (nodup_ddp l) (fun x => by rw [hh x, decide_eq_true_eq, mem_ddp])
  exact mergeSort_of_perm_i (hp.trans h1.symm)
end Go.Proofs.Ytfgplmgkejeoiaa
