/- Plain theory of sheets: controls, factors, truths, what is known in all truths, and bounds. -/
import Derived.Test.YtegdnbceiopklaaGeo
namespace Go.Proofs.Ytegdnbceiopklaa

structure Ctl where
  way : Int
  tru : Int
  read : Int
  off : Int
  deriving DecidableEq, Inhabited
structure Sht where
  xlo : Int
  xhi : Int
  ylo : Int
  yhi : Int
  cs : List Ctl
  wrong : Int
def ctlE (c : Ctl) : List Int := [c.way, c.tru, c.read, c.off]
theorem ctlE_len (c : Ctl) : (ctlE c).length = 4 := rfl
def cat (l : List Ctl) (i : Nat) : Ctl := l.getD i default
theorem cat_get {l : List Ctl} {i : Nat} (h : i < l.length) : l[i]? = some (cat l i) := by
  simp [cat, h]
theorem cat_eq {l : List Ctl} {i : Nat} (h : i < l.length) : l[i] = cat l i := by
  simp [cat, h]
theorem cat_mem {l : List Ctl} {i : Nat} (h : i < l.length) : cat l i ∈ l := by rw [← cat_eq h]; exact List.getElem_mem h
def wayB (n : Int) : Bool := (n == 1) || (n == 2)
def spnB (lo hi : Int) : Bool := within lo 900 hi && decide (hi ≤ 1100)
def ctlB (c : Ctl) : Bool := wayB c.way && within c.tru 1 9999 && within c.read 0 9999 && within c.off 0 9999
def shtB (S : Sht) : Bool := spnB S.xlo S.xhi && spnB S.ylo S.yhi && decide (S.cs.length ≤ 8) && S.cs.all ctlB && within S.wrong 0 8
def chkS (S : Sht) : Int := if shtB S = true then 0 else 40
/-- What a valid sheet's numbers keep to. -/
structure ShtOk (S : Sht) : Prop where
  x0 : 900 ≤ S.xlo
  x1 : S.xlo ≤ S.xhi
  x2 : S.xhi ≤ 1100
  y0 : 900 ≤ S.ylo
  y1 : S.ylo ≤ S.yhi
  y2 : S.yhi ≤ 1100
  len : S.cs.length ≤ 8
  all : ∀ c ∈ S.cs, (c.way = 1 ∨ c.way = 2) ∧ (1 ≤ c.tru ∧ c.tru ≤ 9999) ∧ (0 ≤ c.read ∧ c.read ≤ 9999) ∧ (0 ≤ c.off ∧ c.off ≤ 9999)
  w0 : 0 ≤ S.wrong
  w1 : S.wrong ≤ 8
theorem sht_ok {S : Sht} (h : shtB S = true) : ShtOk S := by
  simp only [shtB, spnB, ctlB, wayB, within, Bool.and_eq_true, Bool.or_eq_true, beq_iff_eq, decide_eq_true_eq, List.all_eq_true] at h
  obtain ⟨⟨⟨⟨⟨⟨h1, h2⟩, h3⟩, ⟨h4, h5⟩, h6⟩, h7⟩, h8⟩, h9, h10⟩ := h
  exact ⟨h1, h2, h3, h4, h5, h6, h7, fun c hc => by obtain ⟨⟨⟨a, b⟩, c⟩, d⟩ := h8 c hc; exact ⟨a, b, c, d⟩, h9, h10⟩
/-- The factor of a direction. -/
def fac (f : Pt) (way : Int) : Int := if way = 1 then f.1 else f.2
def rst (c : Ctl) (f : Pt) : Int := c.tru * fac f c.way - 1000 * c.read
def rightB (c : Ctl) (f : Pt) : Bool := decide (max (rst c f) (-rst c f) ≤ 1000 * c.off)
def wrgTo (S : Sht) (f : Pt) (k : Nat) : Int := (((S.cs.take k).filter fun c => !rightB c f).length : Int)
def wrg (S : Sht) (f : Pt) : Int := wrgTo S f S.cs.length
theorem wrgTo_zero (S : Sht) (f : Pt) : wrgTo S f 0 = 0 := rfl
theorem wrgTo_succ {S : Sht} {f : Pt} {k : Nat} (h : k < S.cs.length) : wrgTo S f (k + 1) = wrgTo S f k + (if rightB (cat S.cs k) f = true then 0 else 1) := by
  unfold wrgTo
  rw [List.take_add_one, cat_get h, List.filter_append, List.length_append, Option.toList_some, List.filter_cons]
  cases rightB (cat S.cs k) f <;> simp
theorem wrgTo_bd (S : Sht) (f : Pt) (k : Nat) : 0 ≤ wrgTo S f k ∧ wrgTo S f k ≤ (k : Int) := by
  unfold wrgTo
  have h1 := List.length_filter_le (fun c => !rightB c f) (S.cs.take k)
  have h2 := List.length_take_le k S.cs
  omega
theorem wrg_bd (S : Sht) (f : Pt) : 0 ≤ wrg S f ∧ wrg S f ≤ (S.cs.length : Int) := wrgTo_bd S f _
def nX (S : Sht) : Nat := (S.xhi - S.xlo + 1).toNat
def nY (S : Sht) : Nat := (S.yhi - S.ylo + 1).toNat
/-- All factors of both spans, in order. -/
def prAt (S : Sht) (t : Nat) : Pt := (S.xlo + ((t / nY S : Nat) : Int), S.ylo + ((t % nY S : Nat) : Int))
def prs (S : Sht) : List Pt := (List.range (nX S * nY S)).map (prAt S)
theorem prs_len (S : Sht) : (prs S).length = nX S * nY S := by simp [prs]
theorem prs_get {S : Sht} {t : Nat} (h : t < nX S * nY S) : (prs S)[t]? = some (prAt S t) := by simp [prs, h]
theorem prAt_at {S : Sht} {i j : Nat} (hj : j < nY S) : prAt S (i * nY S + j) = (S.xlo + (i : Int), S.ylo + (j : Int)) := by
  unfold prAt
  have h1 : (i * nY S + j) / nY S = i := by rw [Nat.mul_comm, Nat.mul_add_div (by omega), Nat.div_eq_of_lt hj, Nat.add_zero]
  have h2 : (i * nY S + j) % nY S = j := by rw [Nat.mul_comm, Nat.mul_add_mod, Nat.mod_eq_of_lt hj]
  rw [h1, h2]
theorem mem_prs {S : Sht} {f : Pt} : f ∈ prs S ↔ (S.xlo ≤ f.1 ∧ f.1 ≤ S.xhi) ∧ (S.ylo ≤ f.2 ∧ f.2 ≤ S.yhi) := by
  unfold prs
  rw [List.mem_map]
  constructor
  · rintro ⟨t, ht, rfl⟩
    rw [List.mem_range] at ht
    have hy : 0 < nY S := by
      rcases Nat.eq_zero_or_pos (nY S) with h | h
      · rw [h] at ht; simp at ht
      · exact h
    have h1 : t / nY S < nX S := Nat.div_lt_of_lt_mul (by rw [Nat.mul_comm]; exact ht)
    have h2 := Nat.mod_lt t hy
    unfold prAt
    simp only
    generalize t / nY S = q at *
    generalize t % nY S = r at *
    unfold nX at h1
    unfold nY at h2
    omega
  · rintro ⟨h1, h2⟩
    have h3 : (f.2 - S.ylo).toNat < nY S := by unfold nY; omega
    have h4 : (f.1 - S.xlo).toNat < nX S := by unfold nX; omega
    refine ⟨(f.1 - S.xlo).toNat * nY S + (f.2 - S.ylo).toNat, List.mem_range.2 ?_, ?_⟩
    · have := Nat.mul_le_mul_right (nY S) (show (f.1 - S.xlo).toNat + 1 ≤ nX S from h4)
      rw [Nat.succ_mul] at this
      omega
    · rw [prAt_at h3]
      exact Prod.ext (by simp only; omega) (by simp only; omega)
/-- All truths, in order. -/
def trs (S : Sht) : List Pt := (prs S).filter fun f => decide (wrg S f ≤ S.wrong)
def truB (S : Sht) (f : Pt) : Bool := within f.1 S.xlo S.xhi && within f.2 S.ylo S.yhi && decide (wrg S f ≤ S.wrong)
theorem mem_trs {S : Sht} {f : Pt} : f ∈ trs S ↔ truB S f = true := by
  unfold trs truB within
  rw [List.mem_filter, mem_prs]
  simp only [Bool.and_eq_true, decide_eq_true_eq]
/-- The error of a sheet of which something is asked for that is there, or not. -/
def opS (S : Sht) (is : Bool) : Int := if shtB S = true then (if is = true then (if trs S = [] then 3 else 0) else 1) else 40
theorem opS_zero {S : Sht} {is : Bool} (h : opS S is = 0) : shtB S = true ∧ is = true ∧ trs S ≠ [] := by
  unfold opS at h
  split at h
  · split at h
    · split at h
      · omega
      · exact ⟨‹_›, ‹_›, ‹_›⟩
    · omega
  · omega
theorem opS_of {S : Sht} {is : Bool} (h1 : shtB S = true) (h2 : is = true) (h3 : trs S ≠ []) : opS S is = 0 := by
  rw [opS, if_pos h1, if_pos h2, if_neg h3]
def cntTo (p : Pt → Bool) (l : List Pt) (k : Nat) : Nat := ((l.take k).filter p).length
theorem cntTo_succ {p : Pt → Bool} {l : List Pt} {k : Nat} {x : Pt} (h : l[k]? = some x) : cntTo p l (k + 1) = cntTo p l k + (if p x = true then 1 else 0) := by
  unfold cntTo
  rw [List.take_add_one, h, List.filter_append, List.length_append, Option.toList_some, List.filter_cons]
  cases p x <;> simp
theorem cntTo_le (p : Pt → Bool) (l : List Pt) (k : Nat) : cntTo p l k ≤ k := by
  unfold cntTo
  exact Nat.le_trans (List.length_filter_le _ _) (List.length_take_le _ _)
def cnt (p : Pt → Bool) (l : List Pt) : Nat := (l.filter p).length
theorem cntTo_all (p : Pt → Bool) (l : List Pt) : cntTo p l l.length = cnt p l := by rw [cntTo, List.take_length, cnt]
/-- 1: so in all, 2: in none, 3: in some. -/
def knw (p : Pt → Bool) (l : List Pt) : Int := if cnt p l = l.length then 1 else if cnt p l = 0 then 2 else 3
theorem cnt_not (p : Pt → Bool) (l : List Pt) : cnt (fun x => !p x) l + cnt p l = l.length := by
  unfold cnt
  induction l with
  | nil => rfl
  | cons a t ih =>
    rw [List.filter_cons, List.filter_cons, List.length_cons]
    cases p a <;> simp <;> omega
/-- The integers between which fractions lie. -/
def low (q : Int × Int) : Int := q.1.tdiv q.2
def hig (q : Int × Int) : Int := (q.1 + q.2 - 1).tdiv q.2
def bLo (g : Pt → Int × Int) : List Pt → Int
  | [] => 0
  | a :: l => l.foldl (fun m x => min m (low (g x))) (low (g a))
def bHi (g : Pt → Int × Int) : List Pt → Int
  | [] => 0
  | a :: l => l.foldl (fun m x => max m (hig (g x))) (hig (g a))
end Go.Proofs.Ytegdnbceiopklaa
