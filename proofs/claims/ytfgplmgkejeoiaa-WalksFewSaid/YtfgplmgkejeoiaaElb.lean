/- The method elbows of walks is an iterator over all elbows of a valid walk on a valid track. -/
import Derived.Test.YtfgplmgkejeoiaaAll
namespace Go.Proofs.Ytfgplmgkejeoiaa
open Go.RowKit Go.Shelf
attribute [local go_sem] After.cell After.frozen Oper.semAt_some wide_fn wide_depth Fence.inRound_fn Fence.inRound_depth

def elbs (T : Trk) (m : List Pt) : List (List Nat) := allR T m m.length []
set_option maxRecDepth 100000 in
set_option maxHeartbeats 1000000 in
theorem elbows_iter (b o ca bm om cm : Nat) (T : Trk) (m : List Pt) (hT : trkB T = true) (hm : walkB m = true) :
    IterF Try.prog 72 #[(Value.agg #[.slice (some ⟨b, o, none⟩) T.pts.length ca, (Value.int .i64 (T.closed)), (Value.int .i64 (T.lo)), (Value.int .i64 (T.hi)), .slice (some ⟨bm, om, none⟩) m.length cm])] #[] ElbArg (elbs T m) (AllKeep b o bm om T m) := by
  intro l B J Jx W hB hJb hJs hJxs hY h0
  have hlen := (walkB_bd hm).1
  have hn := Lib.hid fun (V : World) (hV : Below W.heap.size W V) => all_nil (b := b) (o := o) (ca := ca) (bm := bm) (om := om) (cm := cm) hT hm hJb hJs hJxs hY (m.length - 1) 0 V (by omega) (hJs _ _ _ h0 hV) (Nat.le_trans hB hV.size) (fun j x hx => by
    rw [Nat.zero_add]
    rw [Nat.sub_add_cancel (by omega)] at hx
    exact hx)
  refine callsIn_of_wp Try.func72 rfl trivial ?_ rfl
  simp only [Try.ntmps72, List.size_toArray, List.length_cons, List.length_nil, Nat.reduceAdd, Nat.reduceSub, Array.replicate_succ, Array.replicate_zero, List.push_toArray, List.append_toArray, List.nil_append, List.cons_append]
  gi_wp2_with (gi_at_call 92; (with_reducible refine CallsIn.mono (hn.out _ (by (repeat (first | with_reducible exact Below.refl _ _ | with_reducible apply bl_alloc | with_reducible apply bl_drew | with_reducible apply bl_after | (with_reducible refine bl_call ?_ (by assumption)))))) ?_); rintro e w1 ⟨r, rfl, hp1, hp2⟩)
  go_end0
  refine ⟨⟨_, rfl⟩, ?_⟩
  cases r with
  | true =>
    refine .inl ?_
    have h1 := (hp1 rfl).1
    rw [Nat.zero_add, Nat.sub_add_cancel (by omega)] at h1
    exact h1
  | false => exact .inr (hp2 rfl)
end Go.Proofs.Ytfgplmgkejeoiaa
