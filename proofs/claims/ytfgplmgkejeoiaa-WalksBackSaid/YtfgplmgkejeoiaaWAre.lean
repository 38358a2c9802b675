/- The functions of walks that tell whether places are elbows of a walk, their sweep and their moves. -/
import Derived.Test.YtfgplmgkejeoiaaAll
import Derived.Test.YtfgplmgkejeoiaaQh
import Derived.Lib.MinMax
namespace Go.Proofs.Ytfgplmgkejeoiaa
open Go.RowKit
attribute [local go_sem] After.cell After.frozen

def nx (n i : Nat) : Nat := (i + 1) % n
theorem nx_lt {n i : Nat} (h : 0 < n) : nx n i < n := Nat.mod_lt _ h
set_option maxRecDepth 100000 in
set_option maxHeartbeats 1000000 in
theorem next_any (b o ca : Nat) (l : List Int) (i : Nat) (w : World) (hp : IntsAt w b o l) (hi : i < l.length) (hl : l.length ≤ 1000000) :
    Calls Try.prog 83 #[(Value.int .i64 ((i : Int))), .slice (some ⟨b, o, none⟩) l.length ca] w fun e w' => e = .returned (.tuple #[(Value.int .i64 ((nx l.length i : Int))), (Value.int .i64 (iat l (nx l.length i)))]) ∧ Below w.heap.size w w' := by
  have hn : nx l.length i < l.length := nx_lt (by omega)
  have x1 := hp.xi hn
  have lb := hp.lt
  have e1 : ((i : Int) + 1) % (l.length : Int) = (nx l.length i : Int) := by simp [nx]
  have i1 : 0 ≤ ((i : Int) + 1) % (l.length : Int) := by rw [e1]; omega
  have i2 : ((i : Int) + 1) % (l.length : Int) < (l.length : Int) := by rw [e1]; omega
  have i3 : (((i : Int) + 1) % (l.length : Int)).toNat = nx l.length i := by rw [e1]; omega
  rw [← e1]
  clear e1 hp
  go_enter Try.func83, Try.ntmps83
  go_wp2
  refine wp_region_after (by kernel_rfl) (by kernel_rfl) ?_; (repeat (go_big_quiet_step ((fail)))); refine wpQuiet_nil ?_; rintro _ ⟨z, rfl⟩; (first | ((with_reducible apply kp_in_after (z := z)); (with_reducible assumption); rintro ⟨hk, hc, hf, hzc, hzf⟩) | ((with_reducible refine kp_in_after0 z ?_); rintro ⟨hk, hc, hf, hzc, hzf⟩))
  go_wp2
  go_ret2
  exact ⟨rfl, by (repeat (first | with_reducible exact Below.refl _ _ | with_reducible apply bl_alloc | with_reducible apply bl_drew | with_reducible apply bl_after | (with_reducible refine bl_call ?_ (by assumption))))⟩

def findI (g : Int → Bool) (l : List Int) : Int := match l.findIdx? g with | some i => (i : Int) | none => -1
theorem findI_nonneg (g : Int → Bool) (l : List Int) : decide (0 ≤ findI g l) = l.any g := by
  unfold findI
  cases h : l.findIdx? g with
  | some i =>
    rw [List.findIdx?_eq_some_iff_getElem] at h
    obtain ⟨hi, hg, _⟩ := h
    have : l.any g = true := List.any_eq_true.2 ⟨l[i], List.getElem_mem hi, hg⟩
    rw [this]
    simp
  | none =>
    rw [List.findIdx?_eq_none_iff] at h
    have : l.any g = false := by rw [List.any_eq_false]; intro x hx; simp [h x hx]
    rw [this]
    simp
set_option maxRecDepth 100000 in
set_option maxHeartbeats 1000000 in
theorem IndexI_any (A : Option Addr) (ca cf : Nat) (lb : Array Value) (g : Int → Bool) (l : List Int) (w : World) (ha : Ints w A l) (hla : l.length ≤ 1000000)
    (eg : ∀ args w, (callFunc cf args).run Try.prog w = .ok (.enter cf args) w)
    (hof : ∀ (p : Int) (W : World), Below w.heap.size w W → Calls Try.prog cf (#[(Value.int .i64 (p))] ++ lb) W fun e w' => e = .returned (.bool (g p)) ∧ Below W.heap.size W w') :
    Calls Try.prog 107 #[.slice A l.length ca, .func (.func cf) #[] lb] w fun e w' => e = .returned (Value.int .i64 (findI g l)) ∧ Below w.heap.size w w' := by
  go_enter Try.func107, Try.ntmps107
  go_wp2
  go_loopg [8] l.length (fun n i wr => ∃ k : Nat, k ≤ l.length ∧ n = l.length - k ∧ i = (Value.int .i64 ((k : Int))) ∧ (∀ j, j < k → g (iat l j) = false) ∧ Below w.heap.size w wr)
  case atStart => exact ⟨0, Nat.zero_le _, rfl, rfl, (fun j hj => by omega), by (repeat (first | with_reducible exact Below.refl _ _ | with_reducible apply bl_alloc | with_reducible apply bl_drew | with_reducible apply bl_after | (with_reducible refine bl_call ?_ (by assumption))))⟩
  case round =>
    obtain ⟨k, kn, rfl, rfl, HS, hbw⟩ := hrel
    replace HS := Lib.hid HS
    by_cases hlt : k < l.length
    · obtain ⟨b, o, rfl, pa⟩ := (ha.below hbw).at_ hlt
      have x1 := pa.xi hlt
      have lb' := pa.lt
      have hc0 := hof (iat l k) wr hbw
      by_cases hg : g (iat l k) = true
      · rw [hg] at hc0
        go_wp2_with ((with_reducible refine Calls.mono hc0 ?_); rintro e w1 ⟨rfl, hb1⟩)
        go_ret
        refine ⟨ret_int ?_, by (repeat (first | with_reducible exact Below.refl _ _ | with_reducible apply bl_alloc | with_reducible apply bl_drew | with_reducible apply bl_after | (with_reducible refine bl_call ?_ (by assumption))))⟩
        have : l.findIdx? g = some k := by
          rw [List.findIdx?_eq_some_iff_getElem]
          exact ⟨hlt, by rw [iat_eq hlt]; exact hg, fun j hj => by rw [iat_eq (by omega)]; simp [HS.out j hj]⟩
        simp [findI, this]
      · have hg' : g (iat l k) = false := by simpa using hg
        rw [hg'] at hc0
        go_wp2_with ((with_reducible refine Calls.mono hc0 ?_); rintro e w1 ⟨rfl, hb1⟩)
        go_roundg (l.length - (k + 1))
        case measure => omega
        case rel => exact ⟨k + 1, by omega, rfl, by go_num, (fun j hj => by rcases Nat.lt_succ_iff_lt_or_eq.1 hj with h | h; exact HS.out j h; subst h; exact hg'), by (repeat (first | with_reducible exact Below.refl _ _ | with_reducible apply bl_alloc | with_reducible apply bl_drew | with_reducible apply bl_after | (with_reducible refine bl_call ?_ (by assumption))))⟩
    · go_wp2
      obtain rfl : k = l.length := by omega
      go_ret
      refine ⟨ret_int ?_, by (repeat (first | with_reducible exact Below.refl _ _ | with_reducible apply bl_alloc | with_reducible apply bl_drew | with_reducible apply bl_after | (with_reducible refine bl_call ?_ (by assumption))))⟩
      have : l.findIdx? g = none := by
        rw [List.findIdx?_eq_none_iff]
        intro x hx
        obtain ⟨i, hi, rfl⟩ := List.getElem_of_mem hx
        rw [iat_eq hi]
        exact HS.out i hi
      simp [findI, this]
set_option maxHeartbeats 400000 in
theorem ContainsI_any (A : Option Addr) (ca cf : Nat) (lb : Array Value) (g : Int → Bool) (l : List Int) (w : World) (ha : Ints w A l) (hla : l.length ≤ 1000000)
    (eg : ∀ args w, (callFunc cf args).run Try.prog w = .ok (.enter cf args) w)
    (hof : ∀ (p : Int) (W : World), Below w.heap.size w W → Calls Try.prog cf (#[(Value.int .i64 (p))] ++ lb) W fun e w' => e = .returned (.bool (g p)) ∧ Below W.heap.size W w') :
    Calls Try.prog 99 #[.slice A l.length ca, .func (.func cf) #[] lb] w fun e w' => e = .returned (.bool (l.any g)) ∧ Below w.heap.size w w' := by
  have hI := IndexI_any A ca cf lb g l w ha hla eg hof
  clear hof eg
  go_enter Try.func99, Try.ntmps99
  go_wp2_with ((with_reducible refine Calls.mono hI ?_); rintro e w1 ⟨rfl, hb1⟩)
  go_ret
  exact ⟨by rw [← findI_nonneg]; rfl, by (repeat (first | with_reducible exact Below.refl _ _ | with_reducible apply bl_alloc | with_reducible apply bl_drew | with_reducible apply bl_after | (with_reducible refine bl_call ?_ (by assumption))))⟩

/-! What the elbows are. -/
def elOk (T : Trk) (m : List Pt) (ns : List Nat) (i : Nat) : Bool := (stepV T (nat ns i) (nat ns (nx ns.length i))).2 && reachB T (nat ns i) (pat m i)
def areN (T : Trk) (m : List Pt) (ns : List Nat) : Bool := (List.range ns.length).all (elOk T m ns)
def inR (T : Trk) (l : List Int) : Bool := l.all fun n => within n 0 ((T.pts.length : Int) - 1)
def areB (T : Trk) (m : List Pt) (l : List Int) : Bool := decide (l.length = m.length) && inR T l && areN T m (l.map Int.toNat)
theorem any_inR (T : Trk) (l : List Int) : (l.any fun n => !within n 0 ((T.pts.length : Int) - 1)) = !inR T l := by
  unfold inR
  induction l with
  | nil => rfl
  | cons a t ih => simp only [List.any_cons, List.all_cons, ih]; cases within a 0 ((T.pts.length : Int) - 1) <;> simp
theorem inR_ints {T : Trk} {l : List Int} (h : inR T l = true) : l = ints (l.map Int.toNat) ∧ ∀ i, i < l.length → nat (l.map Int.toNat) i < T.pts.length := by
  simp only [inR, List.all_eq_true, within, Bool.and_eq_true, decide_eq_true_eq] at h
  refine ⟨?_, fun i hi => ?_⟩
  · unfold ints
    rw [List.map_map]
    refine (List.map_id' l).symm.trans (List.map_congr_left fun x hx => ?_)
    have := h x hx
    simp only [Function.comp]
    omega
  · have h1 := h l[i] (List.getElem_mem hi)
    simp only [nat, List.getD, List.getElem?_map, List.getElem?_eq_getElem hi, Option.map_some, Option.getD_some]
    omega
theorem areB_of {T : Trk} {m : List Pt} {ns : List Nat} (hl : ns.length = m.length) (hn : ∀ i, i < ns.length → nat ns i < T.pts.length) : areB T m (ints ns) = areN T m ns := by
  have e1 : (ints ns).map Int.toNat = ns := by
    unfold ints
    rw [List.map_map]
    exact (List.map_congr_left fun x hx => by simp).trans (List.map_id' ns)
  have e2 : inR T (ints ns) = true := by
    simp only [inR, List.all_eq_true, within, Bool.and_eq_true, decide_eq_true_eq, ints, List.mem_map]
    rintro x ⟨q, hq, rfl⟩
    obtain ⟨i, hi, rfl⟩ := List.getElem_of_mem hq
    have := hn i hi
    simp only [nat, List.getD, List.getElem?_eq_getElem hi, Option.getD_some] at this
    omega
  unfold areB
  rw [e1, e2, ints_len, decide_eq_true hl]
  rfl

set_option maxRecDepth 100000 in
set_option maxHeartbeats 1000000 in
theorem are1_any (g : Nat) (A : Option Addr) (ca : Nat) (T : Trk) (V : Value) (n : Int) (w : World) (h : Blk w g 72 #[.slice A T.pts.length ca, (Value.int .i64 (T.closed)), (Value.int .i64 (T.lo)), (Value.int .i64 (T.hi)), V]) (hl : T.pts.length ≤ 1000000) :
    Calls Try.prog 100 #[(Value.int .i64 (n)), .pointer (some ⟨g, 0, none⟩)] w fun e w' => e = .returned (.bool (!within n 0 ((T.pts.length : Int) - 1))) ∧ Below w.heap.size w w' := by
  have l0 := h.lt
  have y0 := h.cell 0
  simp only [List.getElem?_toArray, List.getElem?_cons_zero] at y0
  clear h
  go_enter Try.func100, Try.ntmps100
  go_wp2_with (go_at_call 81; with_reducible refine Calls.mono (wWithin_any _ _ _ _) ?_; rintro e w' ⟨rfl, rfl⟩)
  go_ret
  exact ⟨rfl, by (repeat (first | with_reducible exact Below.refl _ _ | with_reducible apply bl_alloc | with_reducible apply bl_drew | with_reducible apply bl_after | (with_reducible refine bl_call ?_ (by assumption))))⟩
theorem are_cont (A E : Option Addr) (ca ce : Nat) (T : Trk) (V : Value) (l : List Int) (w : World) (he : Ints w E l) (hle : l.length ≤ 1000000) (hl : T.pts.length ≤ 1000000) :
    Calls Try.prog 99 #[.slice E l.length ce, .func (.func 100) #[] #[.pointer (some ⟨w.heap.size, 0, none⟩)]] (w.alloc (.cells #[.slice A T.pts.length ca, (Value.int .i64 (T.closed)), (Value.int .i64 (T.lo)), (Value.int .i64 (T.hi)), V] 72)) fun e w' => e = .returned (.bool (!inR T l)) ∧ Below (w.alloc (.cells #[.slice A T.pts.length ca, (Value.int .i64 (T.closed)), (Value.int .i64 (T.lo)), (Value.int .i64 (T.hi)), V] 72)).heap.size (w.alloc (.cells #[.slice A T.pts.length ca, (Value.int .i64 (T.closed)), (Value.int .i64 (T.lo)), (Value.int .i64 (T.hi)), V] 72)) w' := by
  have c2 : Blk (w.alloc (.cells #[.slice A T.pts.length ca, (Value.int .i64 (T.closed)), (Value.int .i64 (T.lo)), (Value.int .i64 (T.hi)), V] 72)) w.heap.size 72 #[.slice A T.pts.length ca, (Value.int .i64 (T.closed)), (Value.int .i64 (T.lo)), (Value.int .i64 (T.hi)), V] := Blk.new _ _ _
  have h := ContainsI_any E ce 100 #[.pointer (some ⟨w.heap.size, 0, none⟩)] (fun n => !within n 0 ((T.pts.length : Int) - 1)) l _ (he.alloc _) hle (enters_of Try.func100 (by kernel_rfl) rfl) (fun p W hW => are1_any w.heap.size A ca T V p W (c2.below hW) hl)
  rw [any_inR] at h
  exact h
set_option maxRecDepth 100000 in
set_option maxHeartbeats 1000000 in
theorem are_len (A B E : Option Addr) (ca cb ce : Nat) (T : Trk) (m : List Pt) (l : List Int) (w : World) (hne : l.length ≠ m.length) (_ : l.length ≤ 1000000) (_ : m.length ≤ 1000000) :
    Calls Try.prog 82 #[(Value.agg #[.slice A T.pts.length ca, (Value.int .i64 (T.closed)), (Value.int .i64 (T.lo)), (Value.int .i64 (T.hi)), .slice B m.length cb]), .slice E l.length ce] w fun e w' => e = .returned (.bool (areB T m l)) ∧ Below w.heap.size w w' := by
  rw [show areB T m l = false by unfold areB; rw [decide_eq_false hne, Bool.false_and, Bool.false_and]]
  have hd : ((l.length : Int) != (m.length : Int)) = true := by rw [bne_iff_ne]; omega
  clear hne
  go_enter Try.func82, Try.ntmps82
  go_wp2
  go_ret
  exact ⟨rfl, by (repeat (first | with_reducible exact Below.refl _ _ | with_reducible apply bl_alloc | with_reducible apply bl_drew | with_reducible apply bl_after | (with_reducible refine bl_call ?_ (by assumption))))⟩
set_option maxRecDepth 100000 in
set_option maxHeartbeats 1000000 in
theorem are_out (A B E : Option Addr) (ca cb ce : Nat) (T : Trk) (m : List Pt) (l : List Int) (w : World) (he : Ints w E l) (hlen : l.length = m.length) (hr : inR T l = false) (hle : l.length ≤ 1000000) (hl : T.pts.length ≤ 1000000) :
    Calls Try.prog 82 #[(Value.agg #[.slice A T.pts.length ca, (Value.int .i64 (T.closed)), (Value.int .i64 (T.lo)), (Value.int .i64 (T.hi)), .slice B m.length cb]), .slice E l.length ce] w fun e w' => e = .returned (.bool (areB T m l)) ∧ Below w.heap.size w w' := by
  have h1 := are_cont A E ca ce T (.slice B m.length cb) l w he hle hl
  rw [hr] at h1
  replace h1 := Lib.hid h1
  rw [show areB T m l = false by unfold areB; rw [hr, Bool.and_false, Bool.false_and]]
  have hd : ((l.length : Int) != (m.length : Int)) = false := by rw [hlen]; simp
  clear he hr hlen
  go_enter Try.func82, Try.ntmps82
  go_wp2_with (go_at_call 99; with_reducible refine Calls.mono (h1.out) ?_; rintro e w1 ⟨rfl, hb1⟩; first | ((with_reducible apply kp_in_step (hb := hb1)); (with_reducible assumption); rintro ⟨hk, hc, hf, hzc, hzf⟩) | ((with_reducible refine kp_in_first hb1 ?_); rintro ⟨hk, hc, hf, hzc, hzf⟩))
  go_ret
  exact ⟨rfl, by (repeat (first | with_reducible exact Below.refl _ _ | with_reducible apply bl_alloc | with_reducible apply bl_drew | with_reducible apply bl_after | (with_reducible refine bl_call ?_ (by assumption))))⟩
theorem areN_yes {T : Trk} {m : List Pt} {ns : List Nat} (h : ∀ j, j < ns.length → elOk T m ns j = true) : areN T m ns = true := by
  simp only [areN, List.all_eq_true, List.mem_range]
  exact h
theorem areN_no {T : Trk} {m : List Pt} {ns : List Nat} {j : Nat} (hj : j < ns.length) (h : elOk T m ns j = false) : areN T m ns = false := by
  rw [areN, List.all_eq_false]
  exact ⟨j, List.mem_range.2 hj, by rw [h]; exact Bool.false_ne_true⟩
set_option maxRecDepth 100000 in
set_option maxHeartbeats 2000000 in
theorem are_in (b o ca bm om cm be oe ce : Nat) (T : Trk) (m : List Pt) (ns : List Nat) (w : World) (hp : PtsAt w b o T.pts) (hq : PtsAt w bm om m) (he : IntsAt w be oe (ints ns)) (hT : trkB T = true) (hm : walkB m = true) (hlen : ns.length = m.length) (hn : ∀ i, i < ns.length → nat ns i < T.pts.length) :
    Calls Try.prog 82 #[(Value.agg #[.slice (some ⟨b, o, none⟩) T.pts.length ca, (Value.int .i64 (T.closed)), (Value.int .i64 (T.lo)), (Value.int .i64 (T.hi)), .slice (some ⟨bm, om, none⟩) m.length cm]), .slice (some ⟨be, oe, none⟩) ns.length ce] w fun e w' => e = .returned (.bool (areN T m ns)) ∧ Below w.heap.size w w' := by
  have htb := (trkB_bd hT).1
  have hmb := walkB_bd hm
  have hl0 : 0 < ns.length := by omega
  have hb8 : ns.length ≤ 8 := by omega
  have h1 := are_cont (some ⟨b, o, none⟩) (some ⟨be, oe, none⟩) ca ce T (.slice (some ⟨bm, om, none⟩) m.length cm) (ints ns) w (.inr ⟨be, oe, rfl, he⟩) (by rw [ints_len]; omega) (by omega)
  have hr : inR T (ints ns) = true := by
    simp only [inR, List.all_eq_true, within, Bool.and_eq_true, decide_eq_true_eq, ints, List.mem_map]
    rintro x ⟨q, hq, rfl⟩
    obtain ⟨i, hi, rfl⟩ := List.getElem_of_mem hq
    have := hn i hi
    simp only [nat, List.getD, List.getElem?_eq_getElem hi, Option.getD_some] at this
    omega
  rw [hr, ints_len] at h1
  replace h1 := Lib.hid h1
  have HN := Lib.hid fun (W : World) (h : Below w.heap.size w W) (k : Nat) (hk : k < ns.length) => (show Calls Try.prog 83 #[(Value.int .i64 ((k : Int))), .slice (some ⟨be, oe, none⟩) ns.length ce] W fun e w' => e = .returned (.tuple #[(Value.int .i64 ((nx ns.length k : Int))), (Value.int .i64 ((nat ns (nx ns.length k) : Int)))]) ∧ Below W.heap.size W w' by
    have h2 := next_any be oe ce (ints ns) k W (he.below h) (by rw [ints_len]; exact hk) (by rw [ints_len]; omega)
    rw [ints_len, iat_ints ns (nx_lt hl0)] at h2
    exact h2)
  have HS := Lib.hid fun (W : World) (k : Nat) (hk : k < ns.length) => step_q (some ⟨b, o, none⟩) ca T (.slice (some ⟨bm, om, none⟩) m.length cm) (nat ns k) (nat ns (nx ns.length k)) W (by omega) (hn k hk) (hn _ (nx_lt hl0))
  have HR := Lib.hid fun (W : World) (h : Below w.heap.size w W) (k : Nat) (hk : k < ns.length) => reaches_any b o ca T (.slice (some ⟨bm, om, none⟩) m.length cm) (nat ns k) (pat m k) W (hp.below h) (hn k hk) (by omega) (htb.2 _ (hn k hk)) (hmb.2 _ (by omega))
  have hd : ((ns.length : Int) != (m.length : Int)) = false := by rw [hlen]; simp
  have HH := Lib.hid hlen
  clear hr htb hmb hn hp hlen
  go_enter Try.func82, Try.ntmps82
  go_wp2_with (go_at_call 99; with_reducible refine Calls.mono (h1.out) ?_; rintro e w1 ⟨rfl, hb1⟩; first | ((with_reducible apply kp_in_step (hb := hb1)); (with_reducible assumption); rintro ⟨hk, hc, hf, hzc, hzf⟩) | ((with_reducible refine kp_in_first hb1 ?_); rintro ⟨hk, hc, hf, hzc, hzf⟩))
  have c2 : Blk (w.alloc (.cells #[.slice (some ⟨b, o, none⟩) T.pts.length ca, (Value.int .i64 (T.closed)), (Value.int .i64 (T.lo)), (Value.int .i64 (T.hi)), .slice (some ⟨bm, om, none⟩) m.length cm] 72)) w.heap.size 72 #[.slice (some ⟨b, o, none⟩) T.pts.length ca, (Value.int .i64 (T.closed)), (Value.int .i64 (T.lo)), (Value.int .i64 (T.hi)), .slice (some ⟨bm, om, none⟩) m.length cm] := Blk.new _ _ _
  have c3 := c2.below hb1
  have hbW : Below w.heap.size w w1 := bl_call (bl_alloc (Below.refl _ _)) hb1
  clear h1 c2 hb1 hk hc hf hzc hzf
  generalize w1 = W at c3 hbW ⊢
  have hbW2 := hbW.size
  go_loopw [24] (fun i wr => ∃ k : Nat, k ≤ ns.length ∧ i = (Value.int .i64 ((k : Int))) ∧ Hid (∀ j, j < k → elOk T m ns j = true) ∧ Below W.heap.size W wr) (fun i _ => ns.length - (intOf i).toNat)
  case atStart => exact ⟨0, Nat.zero_le _, rfl, Lib.hid fun j hj => absurd hj (Nat.not_lt_zero _), by (repeat (first | with_reducible exact Below.refl _ _ | with_reducible apply bl_alloc | with_reducible apply bl_drew | with_reducible apply bl_after | (with_reducible refine bl_call ?_ (by assumption))))⟩
  case round =>
    obtain ⟨k, kn, rfl, HO, hbr⟩ := hrel
    by_cases hlt : k < ns.length
    · have hbwr : Below w.heap.size w wr := hbW.trans (hbr.mono hbW2)
      have e2 := c3.below hbr
      have pe := he.below hbwr
      have pm := hq.below hbwr
      have l2 := e2.lt
      have le := pe.lt
      have lm := pm.lt
      have xe := pe.xi (i := k) (by rw [ints_len]; exact hlt)
      rw [iat_ints ns hlt] at xe
      have x1 := pm.xp (i := k) (by have := HH.out; omega)
      have x2 := pm.yp (i := k) (by have := HH.out; omega)
      have y0 := e2.cell 0
      have y1 := e2.cell 1
      have y2 := e2.cell 2
      have y3 := e2.cell 3
      have y4 := e2.cell 4
      simp only [List.getElem?_toArray, List.getElem?_cons_zero, List.getElem?_cons_succ] at y0 y1 y2 y3 y4
      have i1 : (0 : Int) ≤ (k : Int) := by omega
      have i2 : (k : Int) < (ns.length : Int) := by omega
      have i3 : (k : Int) < (m.length : Int) := by have := HH.out; omega
      have hS := Lib.hid fun W => HS.out W k hlt
      have hR := Lib.hid fun (V : World) (h : Below wr.heap.size wr V) => HR.out V (hbwr.trans (h.mono hbwr.size)) k hlt
      have hNx := Lib.hid (HN.out wr hbwr k hlt)
      clear pe pm HS HR HN
      cases hs : (stepV T (nat ns k) (nat ns (nx ns.length k))).2 with
      | false =>
        have hfin : Hid (areN T m ns = false) := Lib.hid (areN_no hlt (by unfold elOk; rw [hs, Bool.false_and]))
        rw [hs] at hS
        go_wp2_with (first | (go_at_call 83; with_reducible refine Calls.mono (hNx.out) ?_; rintro e w1 ⟨rfl, hb1⟩; first | ((with_reducible apply kp_in_step (hb := hb1)); (with_reducible assumption); rintro ⟨hk, hc, hf, hzc, hzf⟩) | ((with_reducible refine kp_in_first hb1 ?_); rintro ⟨hk, hc, hf, hzc, hzf⟩)) | (go_at_call 84; with_reducible refine Calls.mono (hS.out _) ?_; rintro e w1 ⟨rfl, hb1⟩; first | ((with_reducible apply kp_in_step (hb := hb1)); (with_reducible assumption); rintro ⟨hk, hc, hf, hzc, hzf⟩) | ((with_reducible refine kp_in_first hb1 ?_); rintro ⟨hk, hc, hf, hzc, hzf⟩)))
        refine wp_region_after (by kernel_rfl) (by kernel_rfl) ?_; (repeat (go_big_quiet_step ((fail)))); refine wpQuiet_nil ?_; rintro _ ⟨z, rfl⟩; (first | ((with_reducible apply kp_in_after (z := z)); (with_reducible assumption); rintro ⟨hk, hc, hf, hzc, hzf⟩) | ((with_reducible refine kp_in_after0 z ?_); rintro ⟨hk, hc, hf, hzc, hzf⟩))
        go_wp2
        go_ret
        exact ⟨ret_bool hfin.out.symm, by (repeat (first | with_reducible assumption | with_reducible exact Below.refl _ _ | with_reducible apply bl_alloc | with_reducible apply bl_drew | with_reducible apply bl_after | (with_reducible refine bl_call ?_ (by assumption)) | (with_reducible refine bl_setc ?_ (by omega))))⟩
      | true =>
        rw [hs] at hS
        cases hv : reachB T (nat ns k) (pat m k) with
        | false =>
          have hfin : Hid (areN T m ns = false) := Lib.hid (areN_no hlt (by unfold elOk; rw [hv, Bool.and_false]))
          rw [hv] at hR
          go_wp2_with (first | (go_at_call 83; with_reducible refine Calls.mono (hNx.out) ?_; rintro e w1 ⟨rfl, hb1⟩; first | ((with_reducible apply kp_in_step (hb := hb1)); (with_reducible assumption); rintro ⟨hk, hc, hf, hzc, hzf⟩) | ((with_reducible refine kp_in_first hb1 ?_); rintro ⟨hk, hc, hf, hzc, hzf⟩)) | (go_at_call 84; with_reducible refine Calls.mono (hS.out _) ?_; rintro e w1 ⟨rfl, hb1⟩; first | ((with_reducible apply kp_in_step (hb := hb1)); (with_reducible assumption); rintro ⟨hk, hc, hf, hzc, hzf⟩) | ((with_reducible refine kp_in_first hb1 ?_); rintro ⟨hk, hc, hf, hzc, hzf⟩)))
          refine wp_region_after (by kernel_rfl) (by kernel_rfl) ?_; (repeat (go_big_quiet_step (((go_at_call 85; with_reducible exact calls_after (hR.out _ (by (repeat (first | with_reducible assumption | with_reducible exact Below.refl _ _ | with_reducible apply bl_alloc | with_reducible apply bl_drew | with_reducible apply bl_after | (with_reducible refine bl_call ?_ (by assumption)) | (with_reducible refine bl_setc ?_ (by omega))))))))))); refine wpQuiet_nil ?_; rintro _ ⟨z, rfl⟩; (first | ((with_reducible apply kp_in_after (z := z)); (with_reducible assumption); rintro ⟨hk, hc, hf, hzc, hzf⟩) | ((with_reducible refine kp_in_after0 z ?_); rintro ⟨hk, hc, hf, hzc, hzf⟩))
          go_wp2
          go_ret
          exact ⟨ret_bool hfin.out.symm, by (repeat (first | with_reducible assumption | with_reducible exact Below.refl _ _ | with_reducible apply bl_alloc | with_reducible apply bl_drew | with_reducible apply bl_after | (with_reducible refine bl_call ?_ (by assumption)) | (with_reducible refine bl_setc ?_ (by omega))))⟩
        | true =>
          have hfin : Hid (∀ j, j < k + 1 → elOk T m ns j = true) := Lib.hid fun j hj => by
            rcases Nat.lt_succ_iff_lt_or_eq.1 hj with h | h
            · exact HO.out j h
            · rw [h]; unfold elOk; rw [hs, hv]; rfl
          rw [hv] at hR
          go_wp2_with (first | (go_at_call 83; with_reducible refine Calls.mono (hNx.out) ?_; rintro e w1 ⟨rfl, hb1⟩; first | ((with_reducible apply kp_in_step (hb := hb1)); (with_reducible assumption); rintro ⟨hk, hc, hf, hzc, hzf⟩) | ((with_reducible refine kp_in_first hb1 ?_); rintro ⟨hk, hc, hf, hzc, hzf⟩)) | (go_at_call 84; with_reducible refine Calls.mono (hS.out _) ?_; rintro e w1 ⟨rfl, hb1⟩; first | ((with_reducible apply kp_in_step (hb := hb1)); (with_reducible assumption); rintro ⟨hk, hc, hf, hzc, hzf⟩) | ((with_reducible refine kp_in_first hb1 ?_); rintro ⟨hk, hc, hf, hzc, hzf⟩)))
          refine wp_region_after (by kernel_rfl) (by kernel_rfl) ?_; (repeat (go_big_quiet_step (((go_at_call 85; with_reducible exact calls_after (hR.out _ (by (repeat (first | with_reducible assumption | with_reducible exact Below.refl _ _ | with_reducible apply bl_alloc | with_reducible apply bl_drew | with_reducible apply bl_after | (with_reducible refine bl_call ?_ (by assumption)) | (with_reducible refine bl_setc ?_ (by omega))))))))))); refine wpQuiet_nil ?_; rintro _ ⟨z, rfl⟩; (first | ((with_reducible apply kp_in_after (z := z)); (with_reducible assumption); rintro ⟨hk, hc, hf, hzc, hzf⟩) | ((with_reducible refine kp_in_after0 z ?_); rintro ⟨hk, hc, hf, hzc, hzf⟩))
          go_wp2
          go_roundw
          case rel => exact ⟨k + 1, by omega, by go_num, hfin, by (repeat (first | with_reducible assumption | with_reducible exact Below.refl _ _ | with_reducible apply bl_alloc | with_reducible apply bl_drew | with_reducible apply bl_after | (with_reducible refine bl_call ?_ (by assumption)) | (with_reducible refine bl_setc ?_ (by omega))))⟩
          case measure => simp [intOf]; omega
    · obtain rfl : k = ns.length := by omega
      have hfin : Hid (areN T m ns = true) := Lib.hid (areN_yes HO.out)
      go_wp2
      go_ret
      exact ⟨ret_bool hfin.out.symm, by (repeat (first | with_reducible assumption | with_reducible exact Below.refl _ _ | with_reducible apply bl_alloc | with_reducible apply bl_drew | with_reducible apply bl_after | (with_reducible refine bl_call ?_ (by assumption)) | (with_reducible refine bl_setc ?_ (by omega))))⟩
theorem are_any (b o ca bm om cm : Nat) (E : Option Addr) (ce : Nat) (T : Trk) (m : List Pt) (l : List Int) (w : World) (hp : PtsAt w b o T.pts) (hq : PtsAt w bm om m) (he : Ints w E l) (hle : l.length ≤ 1000000) (hT : trkB T = true) (hm : walkB m = true) :
    Calls Try.prog 82 #[(Value.agg #[.slice (some ⟨b, o, none⟩) T.pts.length ca, (Value.int .i64 (T.closed)), (Value.int .i64 (T.lo)), (Value.int .i64 (T.hi)), .slice (some ⟨bm, om, none⟩) m.length cm]), .slice E l.length ce] w fun e w' => e = .returned (.bool (areB T m l)) ∧ Below w.heap.size w w' := by
  by_cases hlen : l.length = m.length
  · cases hr : inR T l with
    | false => exact are_out _ _ _ _ _ _ _ _ _ _ he hlen hr hle (by have := (trkB_bd hT).1; omega)
    | true =>
      obtain ⟨h1, h2⟩ := inR_ints hr
      obtain ⟨be, oe, rfl, hI⟩ := he.at_ (k := 0) (by have := walkB_bd hm; omega)
      have h3 := are_in b o ca bm om cm be oe ce T m (l.map Int.toNat) w hp hq (by rw [← h1]; exact hI) hT hm (by simpa using hlen) (by simpa using h2)
      rw [List.length_map] at h3
      rw [show areB T m l = areN T m (l.map Int.toNat) by unfold areB; rw [hr, decide_eq_true hlen]; rfl]
      exact h3
  · exact are_len _ _ _ _ _ _ _ _ _ _ hlen hle (by have := walkB_bd hm; omega)
end Go.Proofs.Ytfgplmgkejeoiaa
