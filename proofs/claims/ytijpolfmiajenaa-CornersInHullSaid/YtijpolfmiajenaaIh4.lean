/- The area of a polygon and that of its hull: the hull's is not below it, and the same just if all corners lie on the hull's sides. -/
import Derived.Test.YtijpolfmiajenaaIh3
import Derived.Test.YtijpolfmiajenaaWpk
namespace Go.Proofs.Ytijpolfmiajenaa

theorem rs_mono {f g : Int → Int} {lo : Int} : ∀ n : Nat, (∀ x, lo ≤ x → x < lo + (n : Int) → f x ≤ g x) → rs f lo n ≤ rs g lo n
  | 0, _ => Int.le_refl _
  | n + 1, h => by
    have h1 := rs_mono n fun x h1 h2 => h x h1 (by omega)
    have h2 := h (lo + n) (by omega) (by omega)
    rw [rs, rs]
    omega
theorem rs_lt {f g : Int → Int} {lo c : Int} : ∀ n : Nat, (∀ x, lo ≤ x → x < lo + (n : Int) → f x ≤ g x) → lo ≤ c → c < lo + (n : Int) → f c < g c → rs f lo n < rs g lo n
  | 0, _, h1, h2, _ => by omega
  | n + 1, h, h1, h2, h3 => by
    have k2 := h (lo + n) (by omega) (by omega)
    rw [rs, rs]
    by_cases q : c = lo + n
    · subst q
      have k1 := rs_mono n fun x h1 h2 => h x h1 (by omega)
      omega
    · have k1 := rs_lt n (fun x h1 h2 => h x h1 (by omega)) h1 (by omega) h3
      omega
theorem bs_mono {f g : Pt → Int} {M : Nat} (h : ∀ p, f p ≤ g p) : bs f M ≤ bs g M := by
  unfold bs
  exact rs_mono _ fun y _ _ => rs_mono _ fun x _ _ => h _
theorem bs_lt {f g : Pt → Int} {M : Nat} (h : ∀ p, f p ≤ g p) {v : Pt} (hv : (-(M : Int) ≤ v.1 ∧ v.1 ≤ M) ∧ (-(M : Int) ≤ v.2 ∧ v.2 ≤ M)) (hl : f v < g v) : bs f M < bs g M := by
  unfold bs
  refine rs_lt (c := v.2) _ (fun y _ _ => rs_mono _ fun x _ _ => h _) (by omega) (by omega) ?_
  exact rs_lt (c := v.1) _ (fun x _ _ => h _) (by omega) (by omega) hl
theorem ih_prod {a b p q : Pt} (h : apart a b p q = true) : turn a b p * turn a b q < 0 := by
  simp only [apart, Bool.or_eq_true, Bool.and_eq_true, decide_eq_true_eq] at h
  rcases h with ⟨h1, h2⟩ | ⟨h1, h2⟩
  · exact Int.mul_neg_of_neg_of_pos h1 h2
  · exact Int.mul_neg_of_pos_of_neg h1 h2
theorem ih_inj {l : List Pt} (hn : l.Nodup) {i j : Nat} (hi : i < l.length) (hj : j < l.length) (h : pat l i = pat l j) : i = j := by
  rw [← pat_eq hi, ← pat_eq hj] at h
  exact (List.getElem_inj hn).1 h
theorem ih_nxt {l : List Pt} {k : Nat} (hn : 3 ≤ l.length) (hk : k < l.length) : nxt l (nxt l k) ≠ k := by
  have h1 := nxt_lt k (show 0 < l.length by omega)
  unfold nxt at h1 ⊢
  rcases Nat.lt_or_ge (k + 1) l.length with h | h
  · rw [Nat.mod_eq_of_lt h]
    rcases Nat.lt_or_ge (k + 1 + 1) l.length with h2 | h2
    · rw [Nat.mod_eq_of_lt h2]; omega
    · have : k + 1 + 1 = l.length := by omega
      rw [this, Nat.mod_self]; omega
  · have : k + 1 = l.length := by omega
    rw [this, Nat.mod_self, Nat.mod_eq_of_lt (by omega)]; omega
theorem ih_ok {l : List Pt} (h : Simp l) (hl : l.length ≤ 10) (hp : ∀ p ∈ l, isPt p = true) : Ok l := by
  have h3 := h.len
  have hv : ∀ i k, i < l.length → k < l.length → k ≠ i → k ≠ nxt l i → has (pat l i) (pat l (nxt l i)) (pat l k) = false := by
    intro i k hi hk h1 h2
    rw [← Bool.not_eq_true]
    intro hh
    have hn := nxt_lt i (show 0 < l.length by omega)
    rcases h.good.vert _ (mem_ring.2 ⟨i, hi, rfl⟩) _ (mem_pat.2 ⟨k, hk, rfl⟩) hh with e | e
    · exact h1 (ih_inj h.nodup hk hi e)
    · exact h2 (ih_inj h.nodup hk hn e)
  refine ⟨⟨h3, hl⟩, fun i hi => hp _ (mem_pat.2 ⟨i, hi, rfl⟩), fun i hi k hk e => ?_, fun i hi => ?_, fun i hi k hk => ?_⟩
  · have := ih_inj h.nodup (by omega) hi e; omega
  · have n1 := nxt_lt i (show 0 < l.length by omega)
    have n2 := nxt_lt (nxt l i) (show 0 < l.length by omega)
    exact ⟨hv i _ hi n2 (ih_nxt h3 hi) (nxt_ne h3 n1), hv _ i n1 hi (nxt_ne h3 hi).symm (ih_nxt h3 hi).symm⟩
  · by_cases h1 : k = i
    · exact .inl h1
    by_cases h2 : k = nxt l i
    · exact .inr (.inl h2)
    by_cases h3' : nxt l k = i
    · exact .inr (.inr (.inl h3'))
    refine .inr (.inr (.inr ?_))
    have n1 := nxt_lt i (show 0 < l.length by omega)
    have n2 := nxt_lt k (show 0 < l.length by omega)
    have hne : nxt l k ≠ nxt l i := by
      unfold nxt
      intro e
      rcases Nat.lt_or_ge (k + 1) l.length with a | a <;> rcases Nat.lt_or_ge (i + 1) l.length with b | b
      · rw [Nat.mod_eq_of_lt a, Nat.mod_eq_of_lt b] at e; omega
      · rw [Nat.mod_eq_of_lt a, show i + 1 = l.length by omega, Nat.mod_self] at e; omega
      · rw [Nat.mod_eq_of_lt b, show k + 1 = l.length by omega, Nat.mod_self] at e; omega
      · omega
    rw [meets, hv i k hi hk h1 h2, hv i _ hi n2 h3' hne, hv k i hk hi (Ne.symm h1) (Ne.symm h3'), hv k _ hk n1 (fun e => h2 e.symm) hne.symm]
    simp only [Bool.false_or, Bool.and_eq_false_iff]
    refine Classical.byContradiction fun hno => ?_
    simp only [not_or, Bool.not_eq_false] at hno
    exact h.good.nocross _ (mem_ring.2 ⟨i, hi, rfl⟩) _ (mem_ring.2 ⟨k, hk, rfl⟩) ⟨ih_prod hno.1, ih_prod hno.2⟩
theorem Hull.le {l K : List Pt} (H : Hull l K) : K.length ≤ l.length := H.nodup.length_le_of_subset fun _ h => H.sub h
theorem Hull.ok {l K : List Pt} (H : Hull l K) (hB : PtsB l) : Ok K := ih_ok H.simp (Nat.le_trans H.le hB.1) fun p hp => by
  obtain ⟨i, hi, rfl⟩ := mem_pat.1 (H.sub hp)
  exact hB.2 i hi
theorem Hull.tri {l K : List Pt} (H : Hull l K) : Tri 1 K := by
  obtain ⟨s, hs, ht, -⟩ := simp_tri _ _ rfl H.simp
  have : s = 1 := by
    obtain ⟨v, hv⟩ := List.exists_mem_of_ne_nil K H.wc.ne
    obtain ⟨⟨w, hw⟩, -⟩ := nbrs hv
    obtain ⟨c, hc, hp⟩ := tri_side ht _ hw
    have h0 := H.wc.own _ hw c hc
    rcases hs with q | q
    · exact q
    · rw [q] at hp; omega
  rw [← this]
  exact ht
theorem ok_mem {l : List Pt} (h : Ok l) : ∀ v ∈ l, isPt v = true := fun v hv => by
  obtain ⟨i, hi, rfl⟩ := mem_pat.1 hv
  exact h.2.1 i hi
theorem wkk_tw {l : List Pt} (h : ∀ v ∈ l, isPt v = true) : bs (wkk l) 600 = tw l := by
  rw [wkk_box_sum (B := 200) (fun v hv => isPt_bd (h v hv)) (by decide), tw_tot]
  rfl
theorem Hull.rev {l K : List Pt} (H : Hull l K) : Hull l.reverse K :=
  ⟨fun e he => ⟨(H.next e he).1, List.mem_reverse.2 (H.next e he).2.1, fun s hs => (H.next e he).2.2 s (List.mem_reverse.1 hs)⟩, H.len, H.fresh⟩
theorem Hull.eq1 {l K : List Pt} (H : Hull l K) (hs : Simp l) (ht : Tri 1 l) (hpt : ∀ v ∈ l, isPt v = true) (hon : ∀ v ∈ l, ∃ e ∈ ring K, has e.1 e.2 v = true) : tw K ≤ tw l := by
  have hf := H.flat hon hs ht
  have W : Wc l K := ⟨fun q => by have := hs.len; rw [q] at this; simp at this, fun e he => ends_ne hs he, hf, fun e he v hv => hf e he v (H.sub hv)⟩
  rw [← wkk_tw hpt, ← wkk_tw fun v hv => hpt v (H.sub hv)]
  refine bs_mono fun p => ?_
  have := W.dom H.simp (.inl rfl) H.tri p
  omega
theorem tw_back (l : List Pt) : tw l.reverse = - tw l := by
  rw [tw_tot, tw_tot]
  exact tot_rev (g := cross) (fun a b => by unfold cross; grind) l
/-- The two areas. -/
theorem Hull.area {l K : List Pt} (H : Hull l K) (h : Ok l) : max (tw l) (- tw l) ≤ tw K ∧ (tw K = max (tw l) (- tw l) ↔ ∀ v ∈ l, onSome K v) := by
  obtain ⟨s, hs, ht, hp⟩ := ok_area h
  have hS := ok_simp h
  have hpt := ok_mem h
  have e1 : max (tw l) (- tw l) = s * tw l := by rcases hs with rfl | rfl <;> omega
  have b1 : bs (fun p => s * wkk l p) 600 = s * tw l := by rw [bs_mul, wkk_tw hpt]
  have b2 : bs (wkk K) 600 = tw K := wkk_tw fun v hv => hpt v (H.sub hv)
  have hd := H.wc.dom hS hs ht
  rw [e1, ← b1, ← b2]
  refine ⟨bs_mono hd, fun he => ?_, fun hon => ?_⟩
  · refine Classical.byContradiction fun hno => ?_
    have : ∃ v ∈ l, ¬ onSome K v := Classical.byContradiction fun k => hno fun v hv => Classical.byContradiction fun z => k ⟨v, hv, z⟩
    obtain ⟨v0, h0, hn0⟩ := this
    have hin : ∀ e ∈ ring K, has e.1 e.2 v0 = false := fun e he => by
      cases hc : has e.1 e.2 v0 with
      | false => rfl
      | true => exact absurd (onSome_iff.2 ⟨e, he, hc⟩) hn0
    have k1 := H.more hpt hS.nodup h0 hin
    have k2 := wkk_sign h hs ht hp
    have : ∃ v ∈ l, s * wkk l v < wkk K v := Classical.byContradiction fun k => by
      have := sm_mono (f := wkk K) (g := fun v => s * wkk l v) l fun v hv => Int.not_lt.1 fun z => k ⟨v, hv, z⟩
      omega
    obtain ⟨v, hv, hlt⟩ := this
    have := isPt_bd (hpt v hv)
    have := bs_lt (M := 600) hd (v := v) (by omega) hlt
    omega
  · rw [b1, b2]
    have hge := bs_mono (M := 600) hd
    rw [b1, b2] at hge
    have hon2 : ∀ v ∈ l, ∃ e ∈ ring K, has e.1 e.2 v = true := fun v hv => onSome_iff.1 (hon v hv)
    rcases hs with rfl | rfl
    · have := H.eq1 hS ht hpt hon2
      omega
    · have hr := simp_rev hS
      obtain ⟨s', hs', ht', -⟩ := simp_tri _ _ rfl hr
      have hp' : 0 < s' * tw l.reverse := by
        have h2 := ht'.pos (g := fun a b => s' * cross a b) (Q := fun _ => True) (fun a b => by unfold cross; grind) (fun a b c _ _ _ hp => by
          have e : s' * cross a b + s' * cross b c + s' * cross c a = s' * turn a b c := by unfold cross turn; grind
          omega) (fun _ _ => trivial)
        have e : ∀ E : List Edge, tot (fun a b => s' * cross a b) E = s' * tot cross E := by
          intro E
          induction E with
          | nil => simp [tot]
          | cons e E ih => simp only [tot, ih, Int.mul_add]
        rw [e, ← tw_tot] at h2
        exact h2
      have : s' = 1 := by
        rw [tw_back] at hp'
        rcases hs' with rfl | rfl <;> omega
      subst this
      have := H.rev.eq1 hr ht' (fun v hv => hpt v (List.mem_reverse.1 hv)) (fun v hv => hon2 v (List.mem_reverse.1 hv))
      rw [tw_back] at this
      omega
/-- Where a point lies to its hull. -/
theorem Hull.where_ {l K : List Pt} (H : Hull l K) {v : Pt} (hv : v ∈ l) : whereOf K v = if onSome K v then 2 else 1 := by
  by_cases ho : onSome K v
  · rw [if_pos ho]; exact if_pos ho
  · rw [if_neg ho, where_off ho, if_neg]
    have hin : ∀ e ∈ ring K, has e.1 e.2 v = false := fun e he => by
      cases hc : has e.1 e.2 v with
      | false => rfl
      | true => exact absurd (onSome_iff.2 ⟨e, he, hc⟩) ho
    have h1 := (H.deep hv hin).1
    have h2 := wnd_le H.simp v
    omega
end Go.Proofs.Ytijpolfmiajenaa
