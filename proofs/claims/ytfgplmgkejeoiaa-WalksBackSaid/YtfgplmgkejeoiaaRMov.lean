/- The reference's Moves and Least. -/
import Derived.Test.YtfgplmgkejeoiaaKnown
import Derived.Test.YtfgplmgkejeoiaaElbows
namespace Go.Proofs.Ytfgplmgkejeoiaa
open Go.RowKit
attribute [local go_sem] After.cell After.frozen

/-- How many of the first k places the next one differs from. -/
def rmTo (l : List Nat) : Nat → Nat
  | 0 => 0
  | k + 1 => rmTo l k + (if nat l k = nat l (nx l.length k) then 0 else 1)
def rmV (l : List Nat) : Nat := rmTo l l.length
theorem rmTo_bd (l : List Nat) : ∀ k, rmTo l k ≤ k
  | 0 => Nat.le_refl _
  | k + 1 => by
    have := rmTo_bd l k
    rw [rmTo]
    split <;> omega
theorem mvTo_rm {T : Trk} {ns : List Nat} (hs : stepsOk T ns) : ∀ k, k ≤ ns.length → mvTo T ns k = (rmTo ns k : Nat)
  | 0, _ => rfl
  | k + 1, hk => by
    have ih := mvTo_rm hs k (by omega)
    have h := (hs k (by omega)).2
    rw [mvTo, rmTo, ih, st1]
    unfold stepV at h ⊢
    generalize nat ns k = a at *
    generalize nat ns (nx ns.length k) = b at *
    split at h
    · rename_i h0
      rw [if_pos h0, if_pos h0]
      simp
    · rename_i h0
      rw [if_neg h0, if_neg h0]
      split at h
      · rename_i h1
        rw [if_pos h1]
        simp <;> omega
      · rename_i h1
        rw [if_neg h1]
        split at h
        · rename_i h2
          rw [if_pos h2]
          simp <;> omega
        · cases h
theorem mv_rm {T : Trk} {m : List Pt} {ns : List Nat} (hm : 0 < m.length) (h : ns ∈ elbs T m) : mvV T ns = (rmV ns : Nat) := by
  obtain ⟨_, h2, h3⟩ := (elbs_iff hm).1 h
  exact mvTo_rm (steps_of h2 h3) _ (Nat.le_refl _)
set_option maxRecDepth 100000 in
set_option maxHeartbeats 2000000 in
theorem Moves_any (A : Option Addr) (ca : Nat) (ns : List Nat) (w : World) (he : Ints w A (ints ns)) (hl : ns.length ≤ 1000) :
    Calls Try.prog 41 #[.slice A ns.length ca] w fun e w' => e = .returned (Value.int .i64 ((rmV ns : Nat))) ∧ Below w.heap.size w w' := by
  go_enter Try.func41, Try.ntmps41
  go_wp2
  go_loopw [3, 4] (fun s i wr => ∃ k : Nat, k ≤ ns.length ∧ i = (Value.int .i64 ((k : Int))) ∧ s = (Value.int .i64 ((rmTo ns k : Nat))) ∧ Below w.heap.size w wr) (fun _ i _ => ns.length - (intOf i).toNat)
  case atStart => exact ⟨0, Nat.zero_le _, rfl, rfl, Below.refl _ _⟩
  case round =>
    obtain ⟨k, kn, rfl, rfl, hbr⟩ := hrel
    by_cases hlt : k < ns.length
    · have hl0 : 0 < ns.length := by omega
      have hx : nx ns.length k < ns.length := nx_lt hl0
      obtain ⟨be, oe, rfl, hI⟩ := he.at_ (k := k) (by rw [ints_len]; exact hlt)
      have pe := hI.below hbr
      have le := pe.lt
      have xe := pe.xi (i := k) (by rw [ints_len]; exact hlt)
      rw [iat_ints ns hlt] at xe
      have xf := pe.xi (i := nx ns.length k) (by rw [ints_len]; exact hx)
      rw [iat_ints ns hx] at xf
      have i0 : (0 : Int) ≤ (k : Int) := by omega
      have i1 : (k : Int) < (ns.length : Int) := by omega
      have e1 : ((k : Int) + 1) % (ns.length : Int) = (nx ns.length k : Int) := by simp [nx]
      have j1 : 0 ≤ ((k : Int) + 1) % (ns.length : Int) := by rw [e1]; omega
      have j2 : ((k : Int) + 1) % (ns.length : Int) < (ns.length : Int) := by rw [e1]; omega
      have j3 : (((k : Int) + 1) % (ns.length : Int)).toNat = nx ns.length k := by rw [e1]; omega
      have nz : ((ns.length : Int) == 0) = false := by rw [beq_eq_false_iff_ne]; omega
      have nz2 : (ns.length : Int) ≠ 0 := by omega
      have q1 := rmTo_bd ns k
      have m3 := wrap64_in (x := ((rmTo ns k : Nat) : Int) + 1) (by omega) (by omega)
      clear pe hI he e1 hx
      by_cases hq : nat ns k = nat ns (nx ns.length k)
      · have hd : (((nat ns k : Nat) : Int) != ((nat ns (nx ns.length k) : Nat) : Int)) = false := by rw [hq]; simp
        have hr : Hid (rmTo ns (k + 1) = rmTo ns k) := Lib.hid (by rw [rmTo, if_pos hq, Nat.add_zero])
        clear hq
        go_wp2
        refine wp_region_after (by kernel_rfl) (by kernel_rfl) ?_; (repeat (go_big_quiet_step ((fail)))); refine wpQuiet_nil ?_; rintro _ ⟨z, rfl⟩; (first | ((with_reducible apply kp_in_after (z := z)); (with_reducible assumption); rintro ⟨hk, hc, hf, hzc, hzf⟩) | ((with_reducible refine kp_in_after0 z ?_); rintro ⟨hk, hc, hf, hzc, hzf⟩))
        go_wp2
        go_roundw
        case rel => exact ⟨k + 1, by omega, by go_num, by rw [hr.out], by (repeat (first | with_reducible assumption | with_reducible exact Below.refl _ _ | with_reducible apply bl_alloc | with_reducible apply bl_drew | with_reducible apply bl_after | (with_reducible refine bl_call ?_ (by assumption)) | (with_reducible refine bl_setc ?_ (by omega))))⟩
        case measure => simp [intOf]; omega
      · have hd : (((nat ns k : Nat) : Int) != ((nat ns (nx ns.length k) : Nat) : Int)) = true := by rw [bne_iff_ne]; omega
        have hr : Hid (rmTo ns (k + 1) = rmTo ns k + 1) := Lib.hid (by rw [rmTo, if_neg hq])
        clear hq
        go_wp2
        refine wp_region_after (by kernel_rfl) (by kernel_rfl) ?_; (repeat (go_big_quiet_step ((fail)))); refine wpQuiet_nil ?_; rintro _ ⟨z, rfl⟩; (first | ((with_reducible apply kp_in_after (z := z)); (with_reducible assumption); rintro ⟨hk, hc, hf, hzc, hzf⟩) | ((with_reducible refine kp_in_after0 z ?_); rintro ⟨hk, hc, hf, hzc, hzf⟩))
        go_wp2
        go_roundw
        case rel => exact ⟨k + 1, by omega, by go_num, by rw [hr.out]; go_num, by (repeat (first | with_reducible assumption | with_reducible exact Below.refl _ _ | with_reducible apply bl_alloc | with_reducible apply bl_drew | with_reducible apply bl_after | (with_reducible refine bl_call ?_ (by assumption)) | (with_reducible refine bl_setc ?_ (by omega))))⟩
        case measure => simp [intOf]; omega
    · obtain rfl : k = ns.length := by omega
      go_wp2
      go_ret
      exact ⟨rfl, hbr⟩
/-- The least number of moves among the first k elbows, at most n0. -/
def lmTo (n0 : Nat) (xs : List (List Nat)) : Nat → Nat
  | 0 => n0
  | k + 1 => min (lmTo n0 xs k) (rmV (xs.getD k []))
theorem lmTo_bd (n0 : Nat) (xs : List (List Nat)) : ∀ k, lmTo n0 xs k ≤ n0
  | 0 => Nat.le_refl _
  | k + 1 => by
    have := lmTo_bd n0 xs k
    rw [lmTo]
    omega
theorem lmTo_best {T : Trk} {m : List Pt} (hm : 0 < m.length) : ∀ k, k < (elbs T m).length → ∃ x, best T (elbs T m) (k + 1) = some x ∧ x ∈ elbs T m ∧ ((lmTo m.length (elbs T m) (k + 1) : Nat) : Int) = mvV T x
  | 0, h => by
    have hx : (elbs T m)[0]? = some (elbs T m)[0] := List.getElem?_eq_getElem h
    have hmem := List.getElem_mem h
    generalize (elbs T m)[0] = x at hx hmem
    refine ⟨x, by rw [best_succ hx, best_zero]; rfl, hmem, ?_⟩
    have h1 := mv_rm hm hmem
    have h2 := rmTo_bd x x.length
    have h3 := (mem_elbs hmem).1
    rw [lmTo, lmTo, List.getD, hx, Option.getD_some, h1]
    unfold rmV
    omega
  | k + 1, h => by
    obtain ⟨y, h1, h2, h3⟩ := lmTo_best (T := T) hm k (by omega)
    have hx : (elbs T m)[k + 1]? = some (elbs T m)[k + 1] := List.getElem?_eq_getElem h
    have hmem := List.getElem_mem h
    generalize (elbs T m)[k + 1] = x at hx hmem
    have h4 := mv_rm hm hmem
    rw [best_succ hx, h1, bst, lmTo, List.getD, hx, Option.getD_some]
    split
    · exact ⟨x, rfl, hmem, by omega⟩
    · exact ⟨y, rfl, h2, by omega⟩
theorem lm_least {T : Trk} {m : List Pt} (hm : 0 < m.length) (hne : elbs T m ≠ []) : ((lmTo m.length (elbs T m) (elbs T m).length : Nat) : Int) = lsV T m := by
  obtain ⟨n, hn⟩ : ∃ n, (elbs T m).length = n + 1 := ⟨(elbs T m).length - 1, by have := List.length_pos_iff.2 hne; omega⟩
  obtain ⟨x, h1, -, h3⟩ := lmTo_best (T := T) hm n (by omega)
  rw [lsV, lsB, lsO, hn, h1]
  exact h3
end Go.Proofs.Ytfgplmgkejeoiaa
