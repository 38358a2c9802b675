/- The method all of walks hands over, one after the other, all elbows of a walk that begin with some places; its elbows are an iterator over all of them. -/
import Derived.Test.YtfgplmgkejeoiaaStep
import Derived.Test.YtfgplmgkejeoiaaRg
import Derived.OwnWalkIn
import Derived.TacticsInMore
import Derived.LoopNIn
import Derived.LoopIn
import Derived.Sort.LoopGhostIn
import Derived.Stop.RegionWithIn
import Derived.ArgAppend
import Derived.Sort.CutIn
import Derived.Deep.AppendLies
namespace Go.Proofs.Ytfgplmgkejeoiaa
open Go.RowKit Go.Shelf
attribute [local go_sem] After.cell After.frozen Oper.semAt_some wide_fn wide_depth Fence.inRound_fn Fence.inRound_depth

def plcN (T : Trk) (p : Pt) : List Nat := (List.range T.pts.length).filter fun i => reachB T i p
def ints (l : List Nat) : List Int := l.map fun i : Nat => (i : Int)
theorem plc_ints (T : Trk) (p : Pt) : plc T p = ints (plcN T p) := rfl
theorem ints_len (l : List Nat) : (ints l).length = l.length := by simp [ints]
def nat (l : List Nat) (i : Nat) : Nat := l.getD i 0
theorem iat_ints (l : List Nat) {i : Nat} (h : i < l.length) : iat (ints l) i = (nat l i : Int) := by simp [iat, ints, nat, List.getD, h]
theorem plcN_lt {T : Trk} {p : Pt} {q : Nat} (h : q ∈ plcN T p) : q < T.pts.length := by
  simp only [plcN, List.mem_filter, List.mem_range] at h
  exact h.1
/-- All elbows that begin with some places, for r more points. -/
def allR (T : Trk) (m : List Pt) : Nat → List Nat → List (List Nat)
  | 0, first => if (stepV T (nat first (first.length - 1)) (nat first 0)).2 = true then [first] else []
  | r + 1, first => (plcN T (pat m first.length)).flatMap fun q => if first.length = 0 ∨ (stepV T (nat first (first.length - 1)) q).2 = true then allR T m r (first ++ [q]) else []
/-- The elbows of one place more, of the first k places. -/
def allTo (T : Trk) (m : List Pt) (r : Nat) (first : List Nat) (k : Nat) : List (List Nat) :=
  ((plcN T (pat m first.length)).take k).flatMap fun q => if first.length = 0 ∨ (stepV T (nat first (first.length - 1)) q).2 = true then allR T m r (first ++ [q]) else []
theorem allTo_full (T : Trk) (m : List Pt) (r : Nat) (first : List Nat) : allTo T m r first (plcN T (pat m first.length)).length = allR T m (r + 1) first := by
  rw [allTo, List.take_length, allR]
theorem allTo_succ {T : Trk} {m : List Pt} {r : Nat} {first : List Nat} {k : Nat} (h : k < (plcN T (pat m first.length)).length) :
    allTo T m r first (k + 1) = allTo T m r first k ++ if first.length = 0 ∨ (stepV T (nat first (first.length - 1)) (nat (plcN T (pat m first.length)) k)).2 = true then allR T m r (first ++ [nat (plcN T (pat m first.length)) k]) else [] := by
  have e : (plcN T (pat m first.length)).take (k + 1) = (plcN T (pat m first.length)).take k ++ [nat (plcN T (pat m first.length)) k] := by
    rw [List.take_add_one]
    simp [nat, List.getD, h]
  rw [allTo, e, List.flatMap_append]
  simp [allTo]
/-- What an iterator over elbows hands over. -/
def ElbArg (x : List Nat) (args : Array Value) (W : World) : Prop := ∃ A ca, args = #[.slice A x.length ca] ∧ Ints W A (ints x)

theorem cf_cell {B b : Nat} {W W' : World} (h : CellsFrom B W W') (hB : B ≤ b) {ob : Obj} (ho : W.heap[b]? = some ob) (hc : ob.isCells = true) (o : Nat) : W'.cell? ⟨b, o, none⟩ = W.cell? ⟨b, o, none⟩ :=
  World.cell?_of_block ((h.same b ob hB ho hc).trans ho.symm)
theorem OwnA.cf {B : Nat} {W W' : World} {A : Option Addr} (h : OwnA B W A) (hc : CellsFrom B W W') : OwnA B W' A := fun a e => by
  obtain ⟨h1, ob, h2, h3⟩ := h a e
  exact ⟨h1, ob, hc.same _ _ h1 h2 h3, h3⟩
theorem Ints.cf {B : Nat} {W W' : World} {A : Option Addr} {l : List Int} (h : Ints W A l) (hO : OwnA B W A) (hc : CellsFrom B W W') : Ints W' A l := by
  rcases h with h | ⟨b, o, rfl, hI⟩
  · exact .inl h
  · obtain ⟨h1, ob, h2, h3⟩ := hO _ rfl
    exact .inr ⟨b, o, rfl, Nat.lt_of_lt_of_le hI.lt hc.size, fun i n hi => (cf_cell hc h1 h2 h3 _).trans (hI.x i n hi)⟩
theorem IntsN.cf {B : Nat} {W W' : World} {A : Option Addr} {ca : Nat} {l : List Int} (h : IntsN B W A ca l) (hc : CellsFrom B W W') : IntsN B W' A ca l := ⟨h.ints.cf h.own hc, h.nil, h.none_, h.own.cf hc⟩
theorem allTo_prefix (T : Trk) (m : List Pt) (r : Nat) (first : List Nat) (k j : Nat) (x : List Nat) (h : (allTo T m r first k)[j]? = some x) : (allR T m (r + 1) first)[j]? = some x := by
  have e : allR T m (r + 1) first = allTo T m r first k ++ ((plcN T (pat m first.length)).drop k).flatMap fun q => if first.length = 0 ∨ (stepV T (nat first (first.length - 1)) q).2 = true then allR T m r (first ++ [q]) else [] := by
    rw [allTo, ← List.flatMap_append, List.take_append_drop, allR]
  rw [e, List.getElem?_append_left (List.getElem?_eq_some_iff.1 h).1]
  exact h
theorem nat_mem {l : List Nat} {i : Nat} (h : i < l.length) : nat l i ∈ l := by simp [nat, List.getD, h]
theorem ints_snoc (l : List Nat) (q : Nat) : ints (l ++ [q]) = ints l ++ [(q : Int)] := by simp [ints]

/-- What is told of a call of all. -/
def AllPost (J : Nat → World → Prop) (Jx : World → Prop) (B k : Nat) (W : World) (e : Ending) (W' : World) : Prop :=
  ∃ r : Bool, e = .returned (.bool r) ∧ (r = true → J k W' ∧ CellsFrom B W W') ∧ (r = false → Jx W')

/-- append, at a step of a region that draws its order, from its run. -/
theorem stepIn_append {F : Fence} {n : Nat} {P : Program} {ops : Array Oper} {o : Oper} {a : Act} {w : World} {K : Act → World → Prop} {Q : Exit → Act → World → Prop} {E : Prop} (hgd : o.guard = none) (s x : Operand) (t : TypeId)
    (ho : o.op = .call { callee := .builtin .append, args := #[s, x], argTypes := #[t, t] }) {sv xv v : Value} {w' : World} (hs : a.eval s = sv) (hx : a.eval x = xv)
    (hr : (Builtin.append_ #[t, t] o.type #[sv, xv]).run P w = .ok v w') (h : K (a.put o.dst v) w') :
    if Region.wanted o (yielded ops a.tmps) = true then Oper.wpIn F n P o a w K Q else E := by
  have hw : Region.wanted o (yielded ops a.tmps) = true := by simp [Region.wanted, hgd]
  rw [if_pos hw]
  unfold Oper.wpIn
  refine ⟨?_, ?_⟩
  · simp [Oper.about, ho, resolve, Target.leads, Sem.run_pure]
  · rw [Oper.semAt_plain F _ _ (by rw [ho]; intro c hc'; cases hc')]
    simp [execOp, ho, resolve, invoke, builtin, hs, hx, hr, Result.andThen]
    exact h

section
variable {b o ca bm om cm : Nat} {T : Trk} {m : List Pt}
/-- What all reads between the rounds. -/
structure AllKeep (b o bm om : Nat) (T : Trk) (m : List Pt) (W : World) : Prop where
  trk : PtsAt W b o T.pts
  walk : PtsAt W bm om m

set_option maxRecDepth 100000 in
set_option maxHeartbeats 4000000 in
theorem all_any (hT : trkB T = true) (hm : walkB m = true) {l B : Nat} {J : Nat → World → Prop} {Jx : World → Prop} {xs : List (List Nat)}
    (hJb : ∀ k W, J k W → AllKeep b o bm om T m W) (hJs : ∀ k W W', J k W → Below W.heap.size W W' → J k W') (hJxs : ∀ W W', Jx W → Below W.heap.size W W' → Jx W')
    (hY : ∀ k x args W1, xs[k]? = some x → ElbArg x args W1 → J k W1 → YieldAt Fence.wide 0 Try.prog l args W1 fun e W' =>
      (e = .returned (.bool true) ∧ J (k + 1) W' ∧ CellsFrom B W1 W') ∨ (e = .returned (.bool false) ∧ Jx W')) :
    ∀ (r : Nat) (first : List Nat) (A : Option Addr) (cf k0 : Nat) (W : World), 0 < first.length → first.length + r = m.length → (∀ q ∈ first, q < T.pts.length) → J k0 W → B ≤ W.heap.size → IntsN B W A cf (ints first) → first.length ≤ cf → cf ≤ 9223372036854775807 →
      (∀ j x, (allR T m r first)[j]? = some x → xs[k0 + j]? = some x) →
      CallsIn Fence.wide 0 Try.prog 92 #[(Value.agg #[.slice (some ⟨b, o, none⟩) T.pts.length ca, (Value.int .i64 (T.closed)), (Value.int .i64 (T.lo)), (Value.int .i64 (T.hi)), .slice (some ⟨bm, om, none⟩) m.length cm]), .func (.yield l) #[] #[], .slice A first.length cf] W (AllPost J Jx B (k0 + (allR T m r first).length) W)
  | 0, first, A, cf, k0, W, hf, hlen, hq, hj, hB, hi, hcf, hcf2, hx => by
    have hmb := walkB_bd hm
    have htb := (trkB_bd hT).1
    obtain ⟨bf, of_, rfl, hI⟩ := hi.ints.at_ (k := 0) (by rw [ints_len]; omega)
    have f1 : nat first (first.length - 1) < T.pts.length := hq _ (by simp [nat, List.getD, show first.length - 1 < first.length by omega])
    have f0 : nat first 0 < T.pts.length := hq _ (by simp [nat, List.getD, show 0 < first.length by omega])
    have x1 := hI.xi (i := first.length - 1) (by rw [ints_len]; omega)
    have x0 := hI.xi (i := 0) (by rw [ints_len]; omega)
    rw [iat_ints first (by omega)] at x1 x0
    rw [Nat.add_zero] at x0
    have lI := hI.lt
    have hl1 : first.length = m.length := by omega
    have n1 : ((first.length : Int) - 1).toNat = first.length - 1 := by omega
    have n2 : (0 : Int) ≤ (first.length : Int) - 1 := by omega
    have n3 : (first.length : Int) - 1 < (first.length : Int) := by omega
    have n4 : 0 < first.length := by omega
    have eL : ((first.length : Int) == (m.length : Int)) = true := by rw [beq_iff_eq]; omega
    have HS := Lib.hid fun (V : World) => step_q (some ⟨b, o, none⟩) ca T (.slice (some ⟨bm, om, none⟩) m.length cm) (nat first (first.length - 1)) (nat first 0) V (by omega) f1 f0
    have HL := Lib.hid hl1
    have HT := Lib.hid hlen
    clear hl1 hlen
    cases hs : (stepV T (nat first (first.length - 1)) (nat first 0)).2 with
    | true =>
      have hx0 : Hid (xs[k0]? = some first) := Lib.hid (by simpa using hx 0 first (by simp [allR, hs]))
      have e1 : Hid ((allR T m 0 first).length = 1) := Lib.hid (by simp [allR, hs])
      clear hx
      refine callsIn_of_wp Try.func92 rfl trivial ?_ rfl
      simp only [Try.ntmps92, List.size_toArray, List.length_cons, List.length_nil, Nat.reduceAdd, Nat.reduceSub, Array.replicate_succ, Array.replicate_zero, List.push_toArray, List.append_toArray, List.nil_append, List.cons_append]
      gi_wp2
      (first | refine wpIn_after_w (by kernel_rfl) (by kernel_rfl) (by kernel_rfl) ?_ | refine wpIn_after_r (by kernel_rfl) (by kernel_rfl) (by kernel_rfl) ?_); (repeat (go_big_quiet_step (((go_at_call 84; with_reducible exact calls_after (HS.out _)))))); refine wpQuiet_nil ?_; rintro _ ⟨z, rfl⟩; (first | ((with_reducible apply kp_in_after (z := z)); (with_reducible assumption); rintro ⟨hk, hc, hf, hzc, hzf⟩) | ((with_reducible refine kp_in_after0 z ?_); rintro ⟨hk, hc, hf, hzc, hzf⟩))
      have hbz : Below W.heap.size W z.val := by (repeat (first | with_reducible exact Below.refl _ _ | with_reducible apply bl_alloc | with_reducible apply bl_drew | with_reducible apply bl_after | (with_reducible refine bl_call ?_ (by assumption))))
      obtain ⟨fn, tmps, assign, body, hy, hR⟩ := hY k0 first #[.slice (some ⟨bf, of_, none⟩) first.length cf] z.val hx0.out ⟨_, _, rfl, hi.ints.below hbz⟩ (hJs _ _ _ hj hbz)
      gi_wp2
      refine (roundW hR).mono ?_
      rintro e W3 (⟨rfl, hj3, hcf3⟩ | ⟨rfl, hjx⟩)
      · gi_wp2
        go_ret
        exact ⟨true, rfl, fun _ => ⟨by rw [e1.out]; exact hj3, (cf_below hbz).trans hcf3⟩, (fun h => by cases h)⟩
      · gi_wp2
        go_ret
        exact ⟨false, rfl, (fun h => by cases h), fun _ => hjx⟩
    | false =>
      have e1 : Hid ((allR T m 0 first).length = 0) := Lib.hid (by simp [allR, hs])
      clear hx
      refine callsIn_of_wp Try.func92 rfl trivial ?_ rfl
      simp only [Try.ntmps92, List.size_toArray, List.length_cons, List.length_nil, Nat.reduceAdd, Nat.reduceSub, Array.replicate_succ, Array.replicate_zero, List.push_toArray, List.append_toArray, List.nil_append, List.cons_append]
      gi_wp2
      (first | refine wpIn_after_w (by kernel_rfl) (by kernel_rfl) (by kernel_rfl) ?_ | refine wpIn_after_r (by kernel_rfl) (by kernel_rfl) (by kernel_rfl) ?_); (repeat (go_big_quiet_step (((go_at_call 84; with_reducible exact calls_after (HS.out _)))))); refine wpQuiet_nil ?_; rintro _ ⟨z, rfl⟩; (first | ((with_reducible apply kp_in_after (z := z)); (with_reducible assumption); rintro ⟨hk, hc, hf, hzc, hzf⟩) | ((with_reducible refine kp_in_after0 z ?_); rintro ⟨hk, hc, hf, hzc, hzf⟩))
      have hbz : Below W.heap.size W z.val := by (repeat (first | with_reducible exact Below.refl _ _ | with_reducible apply bl_alloc | with_reducible apply bl_drew | with_reducible apply bl_after | (with_reducible refine bl_call ?_ (by assumption))))
      gi_wp2
      go_ret
      exact ⟨true, rfl, fun _ => ⟨by rw [e1.out]; exact hJs _ _ _ hj hbz, cf_below hbz⟩, (fun h => by cases h)⟩
  | r + 1, first, A, cf, k0, W, hf, hlen, hq, hj, hB, hi, hcf, hcf2, hx => by
    have hmb := walkB_bd hm
    have htb := (trkB_bd hT).1
    have hK := hJb k0 W hj
    have hlt : first.length < m.length := by omega
    have x1 := hK.walk.xp hlt
    have x2 := hK.walk.yp hlt
    have lm := hK.walk.lt
    have eL : ((first.length : Int) == (m.length : Int)) = false := by rw [beq_eq_false_iff_ne]; omega
    have n1 : (0 : Int) ≤ (first.length : Int) := by omega
    have n2 : (first.length : Int) < (m.length : Int) := by omega
    have n3 : (first.length : Int) ≤ (cf : Int) := by omega
    have n4 : first.length ≤ 8 := by omega
    have IH := Lib.hid (all_any hT hm hJb hJs hJxs hY r)
    obtain ⟨Q, hQ⟩ : ∃ Q, plcN T (pat m first.length) = Q := ⟨_, rfl⟩
    have HPL : Hid (∀ (V : World), Below W.heap.size W V → Calls Try.prog 63 #[.agg #[.slice (some ⟨b, o, none⟩) T.pts.length ca, (Value.int .i64 (T.closed)), (Value.int .i64 (T.lo)), (Value.int .i64 (T.hi)), .slice (some ⟨bm, om, none⟩) m.length cm], (Value.agg #[.int .i64 (pat m first.length).1, .int .i64 (pat m first.length).2])] V fun e w' => (∃ A' ca', e = .returned (.slice A' Q.length ca') ∧ IntsN V.heap.size w' A' ca' (ints Q)) ∧ Below V.heap.size V w') := Lib.hid fun V h => by
      have h1 := places_any b o ca T (.slice (some ⟨bm, om, none⟩) m.length cm) (pat m first.length) V (hK.trk.below h) (by omega) htb.2 (hmb.2 _ hlt)
      rw [plc_ints, ints_len, hQ] at h1
      exact h1
    have HS := Lib.hid fun (q : Nat) (hq' : q < T.pts.length) (h0 : 0 < first.length) (V : World) => step_q (some ⟨b, o, none⟩) ca T (.slice (some ⟨bm, om, none⟩) m.length cm) (nat first (first.length - 1)) q V (by omega) (hq _ (nat_mem (by omega))) hq'
    have HQl : Hid (∀ k, k < Q.length → nat Q k < T.pts.length) := Lib.hid fun k hk => plcN_lt (T := T) (p := pat m first.length) (by rw [hQ]; exact nat_mem hk)
    have Q8 : Q.length ≤ 8 := by
      rw [← hQ]
      have := List.length_filter_le (fun i => reachB T i (pat m first.length)) (List.range T.pts.length)
      simp only [List.length_range] at this
      unfold plcN
      omega
    have HA : Hid (∀ k, k < Q.length → allTo T m r first (k + 1) = allTo T m r first k ++ if first.length = 0 ∨ (stepV T (nat first (first.length - 1)) (nat Q k)).2 = true then allR T m r (first ++ [nat Q k]) else []) := Lib.hid fun k hk => by
      have h1 := allTo_succ (T := T) (m := m) (r := r) (first := first) (k := k) (by rw [hQ]; exact hk)
      rwa [hQ] at h1
    have HF : Hid (allTo T m r first Q.length = allR T m (r + 1) first) := Lib.hid (by rw [← hQ]; exact allTo_full T m r first)
    have HT := Lib.hid hlen
    have HX := Lib.hid hx
    have HQ := Lib.hid hq
    have hbW0 : Below W.heap.size W (W.alloc (.cells #[.slice (some ⟨b, o, none⟩) T.pts.length ca, (Value.int .i64 (T.closed)), (Value.int .i64 (T.lo)), (Value.int .i64 (T.hi)), .slice (some ⟨bm, om, none⟩) m.length cm] 72)) := by (repeat (first | with_reducible exact Below.refl _ _ | with_reducible apply bl_alloc | with_reducible apply bl_drew | with_reducible apply bl_after | (with_reducible refine bl_call ?_ (by assumption))))
    have cM : Blk (W.alloc (.cells #[.slice (some ⟨b, o, none⟩) T.pts.length ca, (Value.int .i64 (T.closed)), (Value.int .i64 (T.lo)), (Value.int .i64 (T.hi)), .slice (some ⟨bm, om, none⟩) m.length cm] 72)) W.heap.size 72 #[.slice (some ⟨b, o, none⟩) T.pts.length ca, (Value.int .i64 (T.closed)), (Value.int .i64 (T.lo)), (Value.int .i64 (T.hi)), .slice (some ⟨bm, om, none⟩) m.length cm] := Blk.new _ _ _
    clear hlen hx hq htb hmb hQ
    obtain ⟨bf, of_, rfl, hI⟩ := hi.ints.at_ (k := first.length - 1) (by rw [ints_len]; omega)
    have k1 : ((first.length : Int) - 1).toNat = first.length - 1 := by omega
    have k2 : (0 : Int) ≤ (first.length : Int) - 1 := by omega
    have k3 : (first.length : Int) - 1 < (first.length : Int) := by omega
    have hd : decide ((0 : Int) < (first.length : Int)) = true := by rw [decide_eq_true_eq]; omega
    refine callsIn_of_wp Try.func92 rfl trivial ?_ rfl
    simp only [Try.ntmps92, List.size_toArray, List.length_cons, List.length_nil, Nat.reduceAdd, Nat.reduceSub, Array.replicate_succ, Array.replicate_zero, List.push_toArray, List.append_toArray, List.nil_append, List.cons_append]
    gi_upto_region 7 with (fail)
    gi_cut [45, 46, 47] from 14 (fun v n i wx => ∃ A1 ca1, v = .slice A1 Q.length ca1 ∧ n = (Value.int .i64 ((Q.length : Int))) ∧ i = (Value.int .i64 (0)) ∧ IntsN W.heap.size wx A1 ca1 (ints Q) ∧ Below (W.alloc (.cells #[.slice (some ⟨b, o, none⟩) T.pts.length ca, (Value.int .i64 (T.closed)), (Value.int .i64 (T.lo)), (Value.int .i64 (T.hi)), .slice (some ⟨bm, om, none⟩) m.length cm] 72)).heap.size (W.alloc (.cells #[.slice (some ⟨b, o, none⟩) T.pts.length ca, (Value.int .i64 (T.closed)), (Value.int .i64 (T.lo)), (Value.int .i64 (T.hi)), .slice (some ⟨bm, om, none⟩) m.length cm] 72)) wx)
    case first =>
      gi_region_with ((gi_at_call 63; (with_reducible refine CallsIn.mono (callsIn_wide.2 (HPL.out _ (by (repeat (first | with_reducible exact Below.refl _ _ | with_reducible apply bl_alloc | with_reducible apply bl_drew | with_reducible apply bl_after | (with_reducible refine bl_call ?_ (by assumption))))))) ?_); rintro e w1 ⟨⟨A1, ca1, rfl, hN⟩, hb1⟩))
      all_goals (gi_wp2_with fail; gi_meet; exact ⟨A1, ca1, rfl, rfl, rfl, hN.mono (by simp), bl_call (bl_drew (Below.refl _ _)) hb1⟩)
    case rest =>
      obtain ⟨A1, ca1, rfl, rfl, rfl, hN, hbc⟩ := hcut
      have cM1 := cM.below hbc
      have hbWc : Below W.heap.size W wc := hbW0.trans (hbc.mono hbW0.size)
      have hj0 := hJs _ _ _ hj hbWc
      have hcf0 : CellsFrom B W wc := cf_below hbWc
      have hN0 := hN.mono hB
      clear x1 x2 lm cM hbc hN
      gi_wp2
      gi_loopg [47] Q.length (fun g i wr => ∃ k : Nat, k ≤ Q.length ∧ g = Q.length - k ∧ i = (Value.int .i64 ((k : Int))) ∧ J (k0 + (allTo T m r first k).length) wr ∧ CellsFrom B W wr ∧ IntsN B wr A1 ca1 (ints Q) ∧ Blk wr W.heap.size 72 #[.slice (some ⟨b, o, none⟩) T.pts.length ca, (Value.int .i64 (T.closed)), (Value.int .i64 (T.lo)), (Value.int .i64 (T.hi)), .slice (some ⟨bm, om, none⟩) m.length cm])
      case atStart => exact ⟨0, Nat.zero_le _, rfl, rfl, hj0, hcf0, hN0, cM1⟩
      case round =>
        obtain ⟨k, kn, rfl, rfl, hj1, hc1, hN1, hM1⟩ := hrel
        by_cases hkq : k < Q.length
        · obtain ⟨bp, op, rfl, hIp⟩ := hN1.ints.at_ (k := k) (by rw [ints_len]; exact hkq)
          have xk := hIp.xi (i := k) (by rw [ints_len]; exact hkq)
          rw [iat_ints Q hkq] at xk
          have lp := hIp.lt
          have i1 : (0 : Int) ≤ (k : Int) := by omega
          have i2 : (k : Int) < (Q.length : Int) := by omega
          have hI1 := hi.cf hc1
          obtain ⟨b9, o9, e9, hI9⟩ := hI1.ints.at_ (k := first.length - 1) (by rw [ints_len]; omega)
          cases e9
          have xf := hI9.xi (i := first.length - 1) (by rw [ints_len]; omega)
          rw [iat_ints first (by omega)] at xf
          have lf := hI9.lt
          have y0 := hM1.cell 0
          have y1 := hM1.cell 1
          have y2 := hM1.cell 2
          have y3 := hM1.cell 3
          have y4 := hM1.cell 4
          simp only [List.getElem?_toArray, List.getElem?_cons_zero, List.getElem?_cons_succ] at y0 y1 y2 y3 y4
          have lM := hM1.lt
          have hS := Lib.hid (HS.out _ (HQl.out k hkq) hf)
          cases hs : (stepV T (nat first (first.length - 1)) (nat Q k)).2 with
          | false =>
            have hA : Hid (allTo T m r first (k + 1) = allTo T m r first k) := Lib.hid (by
              rw [HA.out k hkq, if_neg (by rw [hs]; intro h; rcases h with h | h; omega; cases h), List.append_nil])
            gi_wp2
            (first | refine wpIn_after_w (by kernel_rfl) (by kernel_rfl) (by kernel_rfl) ?_ | refine wpIn_after_r (by kernel_rfl) (by kernel_rfl) (by kernel_rfl) ?_); (repeat (go_big_quiet_step (((go_at_call 84; with_reducible exact calls_after (hS.out _)))))); refine wpQuiet_nil ?_; rintro _ ⟨z, rfl⟩; (first | ((with_reducible apply kp_in_after (z := z)); (with_reducible assumption); rintro ⟨hk, hc, hf, hzc, hzf⟩) | ((with_reducible refine kp_in_after0 z ?_); rintro ⟨hk, hc, hf, hzc, hzf⟩))
            gi_wp2
            gi_roundg (Q.length - (k + 1))
            case measure => omega
            case rel => exact ⟨k + 1, by omega, rfl, by go_num, by rw [hA.out]; exact hJs _ _ _ hj1 z.ok, hc1.trans (cf_below z.ok), hN1.below z.ok, hM1.below z.ok⟩
          | true =>
            have hA : Hid (allTo T m r first (k + 1) = allTo T m r first k ++ allR T m r (first ++ [nat Q k])) := Lib.hid (by
              rw [HA.out k hkq, if_pos (.inr hs)])
            gi_wp2
            (first | refine wpIn_after_w (by kernel_rfl) (by kernel_rfl) (by kernel_rfl) ?_ | refine wpIn_after_r (by kernel_rfl) (by kernel_rfl) (by kernel_rfl) ?_); (repeat (go_big_quiet_step (((go_at_call 84; with_reducible exact calls_after (hS.out _)))))); refine wpQuiet_nil ?_; rintro _ ⟨z, rfl⟩; (first | ((with_reducible apply kp_in_after (z := z)); (with_reducible assumption); rintro ⟨hk, hc, hf, hzc, hzf⟩) | ((with_reducible refine kp_in_after0 z ?_); rintro ⟨hk, hc, hf, hzc, hzf⟩))
            gi_upto_region 13 with (fail)
            clear hs
            obtain ⟨i0, hi0, hz0, hz1, hz2⟩ := info_parts infoInt
            obtain ⟨v', w', hr, hown, hg⟩ := run_append_arg_grows (P := Try.prog) ((z.val.alloc (.cells #[(Value.int .i64 ((nat Q k : Int)))] 3)).drew) 37 37 3 i0 _ 1 8 undInts hi0 hz0 hz1 hz2 rfl (by decide) ⟨bf, of_, none⟩ first.length first.length (intsV (ints first)) (by rw [intsV_len, ints_len]) (((hi.cf hc1).below z.ok).ints.alloc _).cellsV ⟨z.val.heap.size, 0, none⟩ 1 1 (intsV [(nat Q k : Int)]) rfl (World.news_of_block (cs := (intsV [(nat Q k : Int)]).toArray) (t := 3) (fr := (0, 0)) (heap_alloc_new z.val _)) (by omega) (by unfold maxLen; omega) (by omega)
            obtain ⟨g, cap, rfl, hg1, hg2⟩ := hown.form (by omega)
            have hbw' : Below wr.heap.size wr w' := (bl_drew (bl_alloc (bl_after z (Below.refl _ _)))).grown hg (bl_drew (bl_alloc (bl_after z (Below.refl _ _)))).size (fun g hg => by cases hg)
            have hM' := hM1.below hbw'
            have hN' := hN1.below hbw'
            have hj' := hJs _ _ _ hj1 hbw'
            have hc' := hc1.trans (cf_below hbw')
            have w0 := hM'.cell 0
            have w1 := hM'.cell 1
            have w2 := hM'.cell 2
            have w3 := hM'.cell 3
            have w4 := hM'.cell 4
            simp only [List.getElem?_toArray, List.getElem?_cons_zero, List.getElem?_cons_succ] at w0 w1 w2 w3 w4
            have lM' := hM'.lt
            rw [← intsV_append, ← ints_snoc] at hown
            obtain ⟨hcap1, hcap2⟩ : first.length + 1 ≤ cap ∧ cap ≤ maxLen := by
              rcases hown.2 with ⟨e, _⟩ | ⟨g', cap', cur, e, _, _, h1, h2, _⟩
              · cases e
              · simp only [Value.slice.injEq] at e
                obtain ⟨_, _, rfl⟩ := e
                exact ⟨h1, h2⟩
            have hNf : IntsN B w' (some ⟨g, 0, none⟩) cap (ints (first ++ [nat Q k])) := by
              refine ⟨.inr ⟨g, 0, rfl, intsAt_own hown⟩, fun e => ?_, (fun e => by cases e), (ownA_row hown).mono ?_⟩
              · rw [ints_snoc] at e; simp at e
              · have h1 := z.ok.size; have h2 := hc1.size; simp; omega
            have hcall := Lib.hid (IH.out (first ++ [nat Q k]) (some ⟨g, 0, none⟩) cap (k0 + (allTo T m r first k).length) w' (by simp) (by have := HT.out; simp; omega) (fun q hq => by
              rcases List.mem_append.1 hq with h | h
              · exact HQ.out q h
              · rw [List.mem_singleton.1 h]; exact HQl.out k hkq) hj' (Nat.le_trans hB hc'.size) hNf (by simp; omega) (by unfold maxLen at hcap2; omega) (fun j x hx' => by
              have h1 := allTo_prefix T m r first (k + 1) ((allTo T m r first k).length + j) x (by
                rw [hA.out, List.getElem?_append_right (by omega), Nat.add_sub_cancel_left]
                exact hx')
              have h2 := HX.out _ _ h1
              rwa [← Nat.add_assoc] at h2))
            rw [List.length_append, List.length_singleton] at hcall
            clear hown hNf hg hcap1 hcap2 hM' hN' hj' hj1
            have lz : W.heap.size < z.val.heap.size := Nat.lt_of_lt_of_le lM z.ok.size
            have lz2 : W.heap.size ≠ z.val.heap.size := by omega
            refine wpIn_region_any (by kernel_rfl) ?_
            (try (change wpAnyIn _ _ _ _ _ _ _ _ _ (World.drew _)))
            refine wpAnyIn_take (i := 1) (v := ?v1) rfl rfl (by kernel_rfl) (by kernel_rfl) (by kernel_rfl) (fun _ _ _ h => h) ⟨Or.inl ⟨by rfl, ?y1⟩, fun _ => rfl⟩ ?r1; case y1 => ((intro w); (go_simp); (try with_reducible rfl))
            refine wpAnyIn_take (i := 2) (v := ?v2) rfl rfl (by kernel_rfl) (by kernel_rfl) (by kernel_rfl) (fun _ _ _ h => h) ⟨Or.inl ⟨by rfl, ?y2⟩, fun _ => rfl⟩ ?r2; case y2 => ((intro w); (go_simp); (try with_reducible rfl))
            refine wpAnyIn_take (i := 3) (v := ?v3) rfl rfl (by kernel_rfl) (by kernel_rfl) (by kernel_rfl) (fun _ _ _ h => h) ⟨Or.inl ⟨by rfl, ?y3⟩, fun _ => rfl⟩ ?r3; case y3 => ((intro w); (go_simp); (try with_reducible rfl))
            refine wpAnyIn_take (i := 4) (v := ?v4) rfl rfl (by kernel_rfl) (by kernel_rfl) (by kernel_rfl) (fun _ _ _ h => h) ⟨Or.inl ⟨by rfl, ?y4⟩, fun _ => rfl⟩ ?r4; case y4 => ((intro w); (go_simp); (try with_reducible rfl))
            refine wpAnyIn_take (i := 6) (v := ?v6) rfl rfl (by kernel_rfl) (by kernel_rfl) (by kernel_rfl) (fun _ _ _ h => h) ⟨Or.inl ⟨by rfl, ?y6⟩, fun _ => rfl⟩ ?r6; case y6 => ((intro w); (go_simp); (try with_reducible rfl))
            refine wpAnyIn_take (i := 5) (v := ?v5) rfl rfl (by kernel_rfl) (by kernel_rfl) (by kernel_rfl) (fun _ _ _ h => h) ⟨Or.inl ⟨by rfl, ?y5⟩, fun _ => rfl⟩ ?r5; case y5 => ((intro w); (go_simp); (try with_reducible rfl))
            refine wpAnyIn_ready (rs := [0, 7]) (by kernel_rfl) (by simp) ?_
            refine AllReadyIn.cons rfl (fun K hK => ?_) ?_
            · (go_simp; refine hK _ _ ?_; clear hK K)
              refine wpAnyIn_ready (rs := [7]) (by kernel_rfl) (by simp) ?_
              refine AllReadyIn.cons rfl (fun K hK => ?_) AllReadyIn.nil
              (go_simp; refine hK _ _ ?_; clear hK K)
              refine wpAnyIn_ready (rs := [8]) (by kernel_rfl) (by simp) ?_
              refine AllReadyIn.cons rfl (fun K hK => ?_) AllReadyIn.nil
              (refine stepIn_append rfl (.tmp 71) (.tmp 73) 37 rfl (by rfl) (by rfl) hr ?_; refine hK _ _ ?_; clear hK K)
              (refine wpAnyIn_ready (rs := [9]) (by kernel_rfl) (by simp) ?_; refine AllReadyIn.cons rfl (fun K hK => ?_) AllReadyIn.nil; (go_simp; gi_wp2_with ((gi_at_call 92; (with_reducible refine CallsIn.mono hcall.out ?_); rintro e w5 ⟨r5, rfl, hp1, hp2⟩))); refine wpAnyIn_ready (rs := [10]) (by kernel_rfl) (by simp) ?_; refine AllReadyIn.cons rfl (fun K hK => ?_) AllReadyIn.nil; (go_simp; refine hK _ _ ?_; clear hK K); refine wpAnyIn_done (by kernel_rfl) ?_ _)
              cases r5 with
              | true =>
                obtain ⟨hj5, hc5⟩ := hp1 rfl
                have hc6 : CellsFrom B wr w5 := (cf_below hbw').trans hc5
                have hN6 := hN1.cf hc6
                have hM6 := hc6.blk hB hM1
                have hc7 := hc1.trans hc6
                have hj6 : J (k0 + (allTo T m r first (k + 1)).length) w5 := by
                  rw [hA.out, List.length_append, ← Nat.add_assoc]
                  exact hj5
                clear hj5 hc5 hc6 hp1 hp2
                gi_wp2
                gi_roundg (Q.length - (k + 1))
                case measure => omega
                case rel => exact ⟨k + 1, by omega, rfl, by go_num, hj6, hc7, hN6, hM6⟩
              | false =>
                gi_wp2
                go_ret
                exact ⟨false, rfl, (fun h => by cases h), fun _ => by first | exact hp2 rfl | exact hp2 trivial | exact hp2⟩
            · refine AllReadyIn.cons rfl (fun K hK => ?_) AllReadyIn.nil
              (go_simp; refine hK _ _ ?_; clear hK K)
              refine wpAnyIn_ready (rs := [0, 8]) (by kernel_rfl) (by simp) ?_
              refine AllReadyIn.cons rfl (fun K hK => ?_) ?_
              · (go_simp; refine hK _ _ ?_; clear hK K)
                refine wpAnyIn_ready (rs := [8]) (by kernel_rfl) (by simp) ?_
                refine AllReadyIn.cons rfl (fun K hK => ?_) AllReadyIn.nil
                (refine stepIn_append rfl (.tmp 71) (.tmp 73) 37 rfl (by rfl) (by rfl) hr ?_; refine hK _ _ ?_; clear hK K)
                (refine wpAnyIn_ready (rs := [9]) (by kernel_rfl) (by simp) ?_; refine AllReadyIn.cons rfl (fun K hK => ?_) AllReadyIn.nil; (go_simp; gi_wp2_with ((gi_at_call 92; (with_reducible refine CallsIn.mono hcall.out ?_); rintro e w5 ⟨r5, rfl, hp1, hp2⟩))); refine wpAnyIn_ready (rs := [10]) (by kernel_rfl) (by simp) ?_; refine AllReadyIn.cons rfl (fun K hK => ?_) AllReadyIn.nil; (go_simp; refine hK _ _ ?_; clear hK K); refine wpAnyIn_done (by kernel_rfl) ?_ _)
                cases r5 with
                | true =>
                  obtain ⟨hj5, hc5⟩ := hp1 rfl
                  have hc6 : CellsFrom B wr w5 := (cf_below hbw').trans hc5
                  have hN6 := hN1.cf hc6
                  have hM6 := hc6.blk hB hM1
                  have hc7 := hc1.trans hc6
                  have hj6 : J (k0 + (allTo T m r first (k + 1)).length) w5 := by
                    rw [hA.out, List.length_append, ← Nat.add_assoc]
                    exact hj5
                  clear hj5 hc5 hc6 hp1 hp2
                  gi_wp2
                  gi_roundg (Q.length - (k + 1))
                  case measure => omega
                  case rel => exact ⟨k + 1, by omega, rfl, by go_num, hj6, hc7, hN6, hM6⟩
                | false =>
                  gi_wp2
                  go_ret
                  exact ⟨false, rfl, (fun h => by cases h), fun _ => by first | exact hp2 rfl | exact hp2 trivial | exact hp2⟩
              · refine AllReadyIn.cons rfl (fun K hK => ?_) AllReadyIn.nil
                (refine stepIn_append rfl (.tmp 71) (.tmp 73) 37 rfl (by rfl) (by rfl) hr ?_; refine hK _ _ ?_; clear hK K)
                refine wpAnyIn_ready (rs := [0]) (by kernel_rfl) (by simp) ?_
                refine AllReadyIn.cons rfl (fun K hK => ?_) AllReadyIn.nil
                (go_simp; refine hK _ _ ?_; clear hK K)
                (refine wpAnyIn_ready (rs := [9]) (by kernel_rfl) (by simp) ?_; refine AllReadyIn.cons rfl (fun K hK => ?_) AllReadyIn.nil; (go_simp; gi_wp2_with ((gi_at_call 92; (with_reducible refine CallsIn.mono hcall.out ?_); rintro e w5 ⟨r5, rfl, hp1, hp2⟩))); refine wpAnyIn_ready (rs := [10]) (by kernel_rfl) (by simp) ?_; refine AllReadyIn.cons rfl (fun K hK => ?_) AllReadyIn.nil; (go_simp; refine hK _ _ ?_; clear hK K); refine wpAnyIn_done (by kernel_rfl) ?_ _)
                cases r5 with
                | true =>
                  obtain ⟨hj5, hc5⟩ := hp1 rfl
                  have hc6 : CellsFrom B wr w5 := (cf_below hbw').trans hc5
                  have hN6 := hN1.cf hc6
                  have hM6 := hc6.blk hB hM1
                  have hc7 := hc1.trans hc6
                  have hj6 : J (k0 + (allTo T m r first (k + 1)).length) w5 := by
                    rw [hA.out, List.length_append, ← Nat.add_assoc]
                    exact hj5
                  clear hj5 hc5 hc6 hp1 hp2
                  gi_wp2
                  gi_roundg (Q.length - (k + 1))
                  case measure => omega
                  case rel => exact ⟨k + 1, by omega, rfl, by go_num, hj6, hc7, hN6, hM6⟩
                | false =>
                  gi_wp2
                  go_ret
                  exact ⟨false, rfl, (fun h => by cases h), fun _ => by first | exact hp2 rfl | exact hp2 trivial | exact hp2⟩
        · obtain rfl : k = Q.length := by omega
          gi_wp2
          go_ret
          exact ⟨true, rfl, fun _ => ⟨by rw [← HF.out]; exact hj1, hc1⟩, (fun h => by cases h)⟩
set_option maxRecDepth 100000 in
set_option maxHeartbeats 4000000 in
theorem all_nil (hT : trkB T = true) (hm : walkB m = true) {l B : Nat} {J : Nat → World → Prop} {Jx : World → Prop} {xs : List (List Nat)}
    (hJb : ∀ k W, J k W → AllKeep b o bm om T m W) (hJs : ∀ k W W', J k W → Below W.heap.size W W' → J k W') (hJxs : ∀ W W', Jx W → Below W.heap.size W W' → Jx W')
    (hY : ∀ k x args W1, xs[k]? = some x → ElbArg x args W1 → J k W1 → YieldAt Fence.wide 0 Try.prog l args W1 fun e W' =>
      (e = .returned (.bool true) ∧ J (k + 1) W' ∧ CellsFrom B W1 W') ∨ (e = .returned (.bool false) ∧ Jx W'))
    (r k0 : Nat) (W : World) (hlen : r + 1 = m.length) (hj : J k0 W) (hB : B ≤ W.heap.size) (hx : ∀ j x, (allR T m (r + 1) [])[j]? = some x → xs[k0 + j]? = some x) :
      CallsIn Fence.wide 0 Try.prog 92 #[(Value.agg #[.slice (some ⟨b, o, none⟩) T.pts.length ca, (Value.int .i64 (T.closed)), (Value.int .i64 (T.lo)), (Value.int .i64 (T.hi)), .slice (some ⟨bm, om, none⟩) m.length cm]), .func (.yield l) #[] #[], .slice none 0 0] W (AllPost J Jx B (k0 + (allR T m (r + 1) []).length) W) := by
  have hmb := walkB_bd hm
  have htb := (trkB_bd hT).1
  have hK := hJb k0 W hj
  have hlt : 0 < m.length := by omega
  have x1 := hK.walk.xp hlt
  have x2 := hK.walk.yp hlt
  simp only [Nat.zero_mul, Nat.add_zero] at x1 x2
  have lm := hK.walk.lt
  have eL : ((0 : Int) == (m.length : Int)) = false := by rw [beq_eq_false_iff_ne]; omega
  have n2 : (0 : Int) < (m.length : Int) := by omega
  have IH := Lib.hid (all_any (ca := ca) (cm := cm) hT hm hJb hJs hJxs hY r)
  obtain ⟨Q, hQ⟩ : ∃ Q, plcN T (pat m 0) = Q := ⟨_, rfl⟩
  have HPL : Hid (∀ (V : World), Below W.heap.size W V → Calls Try.prog 63 #[.agg #[.slice (some ⟨b, o, none⟩) T.pts.length ca, (Value.int .i64 (T.closed)), (Value.int .i64 (T.lo)), (Value.int .i64 (T.hi)), .slice (some ⟨bm, om, none⟩) m.length cm], (Value.agg #[.int .i64 (pat m 0).1, .int .i64 (pat m 0).2])] V fun e w' => (∃ A' ca', e = .returned (.slice A' Q.length ca') ∧ IntsN V.heap.size w' A' ca' (ints Q)) ∧ Below V.heap.size V w') := Lib.hid fun V h => by
    have h1 := places_any b o ca T (.slice (some ⟨bm, om, none⟩) m.length cm) (pat m 0) V (hK.trk.below h) (by omega) htb.2 (hmb.2 _ hlt)
    rw [plc_ints, ints_len, hQ] at h1
    exact h1
  have HQl : Hid (∀ k, k < Q.length → nat Q k < T.pts.length) := Lib.hid fun k hk => plcN_lt (T := T) (p := pat m 0) (by rw [hQ]; exact nat_mem hk)
  have Q8 : Q.length ≤ 8 := by
    rw [← hQ]
    have := List.length_filter_le (fun i => reachB T i (pat m 0)) (List.range T.pts.length)
    simp only [List.length_range] at this
    unfold plcN
    omega
  have HA : Hid (∀ k, k < Q.length → allTo T m r [] (k + 1) = allTo T m r [] k ++ allR T m r [nat Q k]) := Lib.hid fun k hk => by
    have h1 := allTo_succ (T := T) (m := m) (r := r) (first := []) (k := k) (by simp only [List.length_nil]; rw [hQ]; exact hk)
    simp only [List.length_nil, hQ, true_or, if_true, List.nil_append] at h1
    exact h1
  have HF : Hid (allTo T m r [] Q.length = allR T m (r + 1) []) := Lib.hid (by
    have h1 := allTo_full T m r []
    simp only [List.length_nil, hQ] at h1
    exact h1)
  have HT := Lib.hid hlen
  have HX := Lib.hid hx
  have hbW0 : Below W.heap.size W (W.alloc (.cells #[.slice (some ⟨b, o, none⟩) T.pts.length ca, (Value.int .i64 (T.closed)), (Value.int .i64 (T.lo)), (Value.int .i64 (T.hi)), .slice (some ⟨bm, om, none⟩) m.length cm] 72)) := by (repeat (first | with_reducible exact Below.refl _ _ | with_reducible apply bl_alloc | with_reducible apply bl_drew | with_reducible apply bl_after | (with_reducible refine bl_call ?_ (by assumption))))
  have cM : Blk (W.alloc (.cells #[.slice (some ⟨b, o, none⟩) T.pts.length ca, (Value.int .i64 (T.closed)), (Value.int .i64 (T.lo)), (Value.int .i64 (T.hi)), .slice (some ⟨bm, om, none⟩) m.length cm] 72)) W.heap.size 72 #[.slice (some ⟨b, o, none⟩) T.pts.length ca, (Value.int .i64 (T.closed)), (Value.int .i64 (T.lo)), (Value.int .i64 (T.hi)), .slice (some ⟨bm, om, none⟩) m.length cm] := Blk.new _ _ _
  clear hlen hx htb hmb hQ
  refine callsIn_of_wp Try.func92 rfl trivial ?_ rfl
  simp only [Try.ntmps92, List.size_toArray, List.length_cons, List.length_nil, Nat.reduceAdd, Nat.reduceSub, Array.replicate_succ, Array.replicate_zero, List.push_toArray, List.append_toArray, List.nil_append, List.cons_append]
  gi_upto_region 7 with (fail)
  gi_cut [45, 46, 47] from 14 (fun v n i wx => ∃ A1 ca1, v = .slice A1 Q.length ca1 ∧ n = (Value.int .i64 ((Q.length : Int))) ∧ i = (Value.int .i64 (0)) ∧ IntsN W.heap.size wx A1 ca1 (ints Q) ∧ Below (W.alloc (.cells #[.slice (some ⟨b, o, none⟩) T.pts.length ca, (Value.int .i64 (T.closed)), (Value.int .i64 (T.lo)), (Value.int .i64 (T.hi)), .slice (some ⟨bm, om, none⟩) m.length cm] 72)).heap.size (W.alloc (.cells #[.slice (some ⟨b, o, none⟩) T.pts.length ca, (Value.int .i64 (T.closed)), (Value.int .i64 (T.lo)), (Value.int .i64 (T.hi)), .slice (some ⟨bm, om, none⟩) m.length cm] 72)) wx)
  case first =>
    gi_region_with ((gi_at_call 63; (with_reducible refine CallsIn.mono (callsIn_wide.2 (HPL.out _ (by (repeat (first | with_reducible exact Below.refl _ _ | with_reducible apply bl_alloc | with_reducible apply bl_drew | with_reducible apply bl_after | (with_reducible refine bl_call ?_ (by assumption))))))) ?_); rintro e w1 ⟨⟨A1, ca1, rfl, hN⟩, hb1⟩))
    all_goals (gi_wp2_with fail; gi_meet; exact ⟨A1, ca1, rfl, rfl, rfl, hN.mono (by simp), bl_call (bl_drew (Below.refl _ _)) hb1⟩)
  case rest =>
    obtain ⟨A1, ca1, rfl, rfl, rfl, hN, hbc⟩ := hcut
    have cM1 := cM.below hbc
    have hbWc : Below W.heap.size W wc := hbW0.trans (hbc.mono hbW0.size)
    have hj0 := hJs _ _ _ hj hbWc
    have hcf0 : CellsFrom B W wc := cf_below hbWc
    have hN0 := hN.mono hB
    clear x1 x2 lm cM hbc hN
    gi_wp2
    gi_loopg [47] Q.length (fun g i wr => ∃ k : Nat, k ≤ Q.length ∧ g = Q.length - k ∧ i = (Value.int .i64 ((k : Int))) ∧ J (k0 + (allTo T m r [] k).length) wr ∧ CellsFrom B W wr ∧ IntsN B wr A1 ca1 (ints Q) ∧ Blk wr W.heap.size 72 #[.slice (some ⟨b, o, none⟩) T.pts.length ca, (Value.int .i64 (T.closed)), (Value.int .i64 (T.lo)), (Value.int .i64 (T.hi)), .slice (some ⟨bm, om, none⟩) m.length cm])
    case atStart => exact ⟨0, Nat.zero_le _, rfl, rfl, hj0, hcf0, hN0, cM1⟩
    case round =>
      obtain ⟨k, kn, rfl, rfl, hj1, hc1, hN1, hM1⟩ := hrel
      by_cases hkq : k < Q.length
      · obtain ⟨bp, op, rfl, hIp⟩ := hN1.ints.at_ (k := k) (by rw [ints_len]; exact hkq)
        have xk := hIp.xi (i := k) (by rw [ints_len]; exact hkq)
        rw [iat_ints Q hkq] at xk
        have lp := hIp.lt
        have i1 : (0 : Int) ≤ (k : Int) := by omega
        have i2 : (k : Int) < (Q.length : Int) := by omega
        have y0 := hM1.cell 0
        have y1 := hM1.cell 1
        have y2 := hM1.cell 2
        have y3 := hM1.cell 3
        have y4 := hM1.cell 4
        simp only [List.getElem?_toArray, List.getElem?_cons_zero, List.getElem?_cons_succ] at y0 y1 y2 y3 y4
        have lM := hM1.lt
        have hA := Lib.hid (HA.out k hkq)
        gi_upto_region 13 with (fail)
        obtain ⟨i0, hi0, hz0, hz1, hz2⟩ := info_parts infoInt
        obtain ⟨v', w', hr, hown, hg, _⟩ := run_append_own (P := Try.prog) ((wr.alloc (.cells #[(Value.int .i64 ((nat Q k : Int)))] 3)).drew) (wr.alloc (.cells #[(Value.int .i64 ((nat Q k : Int)))] 3)).drew.heap.size 37 37 3 i0 _ 1 8 undInts hi0 hz0 hz1 hz2 rfl (by decide) (.slice none 0 0) 0 [] (World.ownsRow_nil _ _ _ _) ⟨wr.heap.size, 0, none⟩ 1 1 (intsV [(nat Q k : Int)]) rfl (World.news_of_block (cs := (intsV [(nat Q k : Int)]).toArray) (t := 3) (fr := (0, 0)) (heap_alloc_new wr _)) (intsV_one _) (by unfold maxLen; omega) (by omega) (Nat.le_refl _)
        obtain ⟨g, cap, rfl, hg1, hg2⟩ := hown.form (by omega)
        have hbw' : Below wr.heap.size wr w' := (bl_drew (bl_alloc (Below.refl _ _))).grown hg (bl_drew (bl_alloc (Below.refl _ _))).size (fun g hg => by cases hg)
        have hM' := hM1.below hbw'
        have hN' := hN1.below hbw'
        have hj' := hJs _ _ _ hj1 hbw'
        have hc' := hc1.trans (cf_below hbw')
        have w0 := hM'.cell 0
        have w1 := hM'.cell 1
        have w2 := hM'.cell 2
        have w3 := hM'.cell 3
        have w4 := hM'.cell 4
        simp only [List.getElem?_toArray, List.getElem?_cons_zero, List.getElem?_cons_succ] at w0 w1 w2 w3 w4
        have lM' := hM'.lt
        rw [List.nil_append] at hown
        obtain ⟨hcap1, hcap2⟩ : 0 + 1 ≤ cap ∧ cap ≤ maxLen := by
          rcases hown.2 with ⟨e, _⟩ | ⟨g', cap', cur, e, _, _, h1, h2, _⟩
          · cases e
          · simp only [Value.slice.injEq] at e
            obtain ⟨_, _, rfl⟩ := e
            exact ⟨h1, h2⟩
        have hNf : IntsN B w' (some ⟨g, 0, none⟩) cap (ints [nat Q k]) := by
          refine ⟨.inr ⟨g, 0, rfl, intsAt_own hown⟩, fun e => ?_, (fun e => by cases e), (ownA_row hown).mono ?_⟩
          · simp [ints] at e
          · have h2 := hc1.size; simp; omega
        have hcall := Lib.hid (IH.out [nat Q k] (some ⟨g, 0, none⟩) cap (k0 + (allTo T m r [] k).length) w' (by simp) (by have := HT.out; simp; omega) (fun q hq => by
          rw [List.mem_singleton.1 hq]; exact HQl.out k hkq) hj' (Nat.le_trans hB hc'.size) hNf (by simp; omega) (by unfold maxLen at hcap2; omega) (fun j x hx' => by
          have h1 := allTo_prefix T m r [] (k + 1) ((allTo T m r [] k).length + j) x (by
            rw [hA.out, List.getElem?_append_right (by omega), Nat.add_sub_cancel_left]
            exact hx')
          have h2 := HX.out _ _ h1
          rwa [← Nat.add_assoc] at h2))
        rw [List.length_singleton] at hcall
        clear hown hNf hg hcap1 hcap2 hM' hN' hj' hj1
        have lz2 : W.heap.size ≠ wr.heap.size := by omega
        refine wpIn_region_any (by kernel_rfl) ?_
        (try (change wpAnyIn _ _ _ _ _ _ _ _ _ (World.drew _)))
        refine wpAnyIn_take (i := 1) (v := ?v1) rfl rfl (by kernel_rfl) (by kernel_rfl) (by kernel_rfl) (fun _ _ _ h => h) ⟨Or.inl ⟨by rfl, ?y1⟩, fun _ => rfl⟩ ?r1; case y1 => ((intro w); (go_simp); (try with_reducible rfl))
        refine wpAnyIn_take (i := 2) (v := ?v2) rfl rfl (by kernel_rfl) (by kernel_rfl) (by kernel_rfl) (fun _ _ _ h => h) ⟨Or.inl ⟨by rfl, ?y2⟩, fun _ => rfl⟩ ?r2; case y2 => ((intro w); (go_simp); (try with_reducible rfl))
        refine wpAnyIn_take (i := 3) (v := ?v3) rfl rfl (by kernel_rfl) (by kernel_rfl) (by kernel_rfl) (fun _ _ _ h => h) ⟨Or.inl ⟨by rfl, ?y3⟩, fun _ => rfl⟩ ?r3; case y3 => ((intro w); (go_simp); (try with_reducible rfl))
        refine wpAnyIn_take (i := 4) (v := ?v4) rfl rfl (by kernel_rfl) (by kernel_rfl) (by kernel_rfl) (fun _ _ _ h => h) ⟨Or.inl ⟨by rfl, ?y4⟩, fun _ => rfl⟩ ?r4; case y4 => ((intro w); (go_simp); (try with_reducible rfl))
        refine wpAnyIn_take (i := 6) (v := ?v6) rfl rfl (by kernel_rfl) (by kernel_rfl) (by kernel_rfl) (fun _ _ _ h => h) ⟨Or.inl ⟨by rfl, ?y6⟩, fun _ => rfl⟩ ?r6; case y6 => ((intro w); (go_simp); (try with_reducible rfl))
        refine wpAnyIn_take (i := 5) (v := ?v5) rfl rfl (by kernel_rfl) (by kernel_rfl) (by kernel_rfl) (fun _ _ _ h => h) ⟨Or.inl ⟨by rfl, ?y5⟩, fun _ => rfl⟩ ?r5; case y5 => ((intro w); (go_simp); (try with_reducible rfl))
        refine wpAnyIn_ready (rs := [0, 7]) (by kernel_rfl) (by simp) ?_
        refine AllReadyIn.cons rfl (fun K hK => ?_) ?_
        · skip
          (go_simp; refine hK _ _ ?_; clear hK K)
          refine wpAnyIn_ready (rs := [7]) (by kernel_rfl) (by simp) ?_
          refine AllReadyIn.cons rfl (fun K hK => ?_) AllReadyIn.nil
          (go_simp; refine hK _ _ ?_; clear hK K)
          refine wpAnyIn_ready (rs := [8]) (by kernel_rfl) (by simp) ?_
          refine AllReadyIn.cons rfl (fun K hK => ?_) AllReadyIn.nil
          (refine stepIn_append rfl (.tmp 71) (.tmp 73) 37 rfl (by rfl) (by rfl) hr ?_; refine hK _ _ ?_; clear hK K)
          (refine wpAnyIn_ready (rs := [9]) (by kernel_rfl) (by simp) ?_; refine AllReadyIn.cons rfl (fun K hK => ?_) AllReadyIn.nil; (go_simp; gi_wp2_with ((gi_at_call 92; (with_reducible refine CallsIn.mono hcall.out ?_); rintro e w5 ⟨r5, rfl, hp1, hp2⟩))); refine wpAnyIn_ready (rs := [10]) (by kernel_rfl) (by simp) ?_; refine AllReadyIn.cons rfl (fun K hK => ?_) AllReadyIn.nil; (go_simp; refine hK _ _ ?_; clear hK K); refine wpAnyIn_done (by kernel_rfl) ?_ _)
          cases r5 with
          | true =>
            obtain ⟨hj5, hc5⟩ := hp1 rfl
            have hc6 : CellsFrom B wr w5 := (cf_below hbw').trans hc5
            have hN6 := hN1.cf hc6
            have hM6 := hc6.blk hB hM1
            have hc7 := hc1.trans hc6
            have hj6 : J (k0 + (allTo T m r [] (k + 1)).length) w5 := by
              rw [hA.out, List.length_append, ← Nat.add_assoc]
              exact hj5
            clear hj5 hc5 hc6 hp1 hp2
            gi_wp2
            gi_roundg (Q.length - (k + 1))
            case measure => omega
            case rel => exact ⟨k + 1, by omega, rfl, by go_num, hj6, hc7, hN6, hM6⟩
          | false =>
            gi_wp2
            go_ret
            exact ⟨false, rfl, (fun h => by cases h), fun _ => by first | exact hp2 rfl | exact hp2 trivial | exact hp2⟩
        · refine AllReadyIn.cons rfl (fun K hK => ?_) AllReadyIn.nil
          (go_simp; refine hK _ _ ?_; clear hK K)
          refine wpAnyIn_ready (rs := [0, 8]) (by kernel_rfl) (by simp) ?_
          refine AllReadyIn.cons rfl (fun K hK => ?_) ?_
          · (go_simp; refine hK _ _ ?_; clear hK K)
            refine wpAnyIn_ready (rs := [8]) (by kernel_rfl) (by simp) ?_
            refine AllReadyIn.cons rfl (fun K hK => ?_) AllReadyIn.nil
            (refine stepIn_append rfl (.tmp 71) (.tmp 73) 37 rfl (by rfl) (by rfl) hr ?_; refine hK _ _ ?_; clear hK K)
            (refine wpAnyIn_ready (rs := [9]) (by kernel_rfl) (by simp) ?_; refine AllReadyIn.cons rfl (fun K hK => ?_) AllReadyIn.nil; (go_simp; gi_wp2_with ((gi_at_call 92; (with_reducible refine CallsIn.mono hcall.out ?_); rintro e w5 ⟨r5, rfl, hp1, hp2⟩))); refine wpAnyIn_ready (rs := [10]) (by kernel_rfl) (by simp) ?_; refine AllReadyIn.cons rfl (fun K hK => ?_) AllReadyIn.nil; (go_simp; refine hK _ _ ?_; clear hK K); refine wpAnyIn_done (by kernel_rfl) ?_ _)
            cases r5 with
            | true =>
              obtain ⟨hj5, hc5⟩ := hp1 rfl
              have hc6 : CellsFrom B wr w5 := (cf_below hbw').trans hc5
              have hN6 := hN1.cf hc6
              have hM6 := hc6.blk hB hM1
              have hc7 := hc1.trans hc6
              have hj6 : J (k0 + (allTo T m r [] (k + 1)).length) w5 := by
                rw [hA.out, List.length_append, ← Nat.add_assoc]
                exact hj5
              clear hj5 hc5 hc6 hp1 hp2
              gi_wp2
              gi_roundg (Q.length - (k + 1))
              case measure => omega
              case rel => exact ⟨k + 1, by omega, rfl, by go_num, hj6, hc7, hN6, hM6⟩
            | false =>
              gi_wp2
              go_ret
              exact ⟨false, rfl, (fun h => by cases h), fun _ => by first | exact hp2 rfl | exact hp2 trivial | exact hp2⟩
          · refine AllReadyIn.cons rfl (fun K hK => ?_) AllReadyIn.nil
            (refine stepIn_append rfl (.tmp 71) (.tmp 73) 37 rfl (by rfl) (by rfl) hr ?_; refine hK _ _ ?_; clear hK K)
            refine wpAnyIn_ready (rs := [0]) (by kernel_rfl) (by simp) ?_
            refine AllReadyIn.cons rfl (fun K hK => ?_) AllReadyIn.nil
            (go_simp; refine hK _ _ ?_; clear hK K)
            (refine wpAnyIn_ready (rs := [9]) (by kernel_rfl) (by simp) ?_; refine AllReadyIn.cons rfl (fun K hK => ?_) AllReadyIn.nil; (go_simp; gi_wp2_with ((gi_at_call 92; (with_reducible refine CallsIn.mono hcall.out ?_); rintro e w5 ⟨r5, rfl, hp1, hp2⟩))); refine wpAnyIn_ready (rs := [10]) (by kernel_rfl) (by simp) ?_; refine AllReadyIn.cons rfl (fun K hK => ?_) AllReadyIn.nil; (go_simp; refine hK _ _ ?_; clear hK K); refine wpAnyIn_done (by kernel_rfl) ?_ _)
            cases r5 with
            | true =>
              obtain ⟨hj5, hc5⟩ := hp1 rfl
              have hc6 : CellsFrom B wr w5 := (cf_below hbw').trans hc5
              have hN6 := hN1.cf hc6
              have hM6 := hc6.blk hB hM1
              have hc7 := hc1.trans hc6
              have hj6 : J (k0 + (allTo T m r [] (k + 1)).length) w5 := by
                rw [hA.out, List.length_append, ← Nat.add_assoc]
                exact hj5
              clear hj5 hc5 hc6 hp1 hp2
              gi_wp2
              gi_roundg (Q.length - (k + 1))
              case measure => omega
              case rel => exact ⟨k + 1, by omega, rfl, by go_num, hj6, hc7, hN6, hM6⟩
            | false =>
              gi_wp2
              go_ret
              exact ⟨false, rfl, (fun h => by cases h), fun _ => by first | exact hp2 rfl | exact hp2 trivial | exact hp2⟩
      · obtain rfl : k = Q.length := by omega
        gi_wp2
        go_ret
        exact ⟨true, rfl, fun _ => ⟨by rw [← HF.out]; exact hj1, hc1⟩, (fun h => by cases h)⟩
end
end Go.Proofs.Ytfgplmgkejeoiaa
