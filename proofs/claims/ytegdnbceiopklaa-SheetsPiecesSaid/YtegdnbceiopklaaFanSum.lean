/- The sums over the sides of a polygon are the sums over the triangles from its first corner, for any list of points. -/
import Derived.Test.YtegdnbceiopklaaMom
namespace Go.Proofs.Ytegdnbceiopklaa

def gOf (f : Pt → Pt → Int) (a b : Pt) : Int := f a b * cross a b
def fanTo (F : Pt → Pt → Pt → Int) (l : List Pt) : Nat → Int
  | 0 => 0
  | k + 1 => fanTo F l k + F (pat l 0) (pat l (k + 1)) (pat l (k + 2))
def fan (F : Pt → Pt → Pt → Int) (l : List Pt) : Int := fanTo F l (l.length - 2)
def chainTo (g : Pt → Pt → Int) (l : List Pt) : Nat → Int
  | 0 => 0
  | k + 1 => chainTo g l k + g (pat l k) (pat l (k + 1))

theorem fanTo_chain {F : Pt → Pt → Pt → Int} {g : Pt → Pt → Int} (hF : ∀ a b c, F a b c = g a b + g b c + g c a) (hg : ∀ a b, g b a = - g a b) (l : List Pt) :
    ∀ k, fanTo F l k = chainTo g l (k + 1) + g (pat l (k + 1)) (pat l 0)
  | 0 => by
    have h1 := hg (pat l 0) (pat l 1)
    simp [fanTo, chainTo]
    omega
  | k + 1 => by
    have h1 := fanTo_chain hF hg l k
    have h2 := hF (pat l 0) (pat l (k + 1)) (pat l (k + 2))
    have h3 := hg (pat l 0) (pat l (k + 1))
    show fanTo F l k + F (pat l 0) (pat l (k + 1)) (pat l (k + 2)) = chainTo g l (k + 1) + g (pat l (k + 1)) (pat l (k + 2)) + g (pat l (k + 2)) (pat l 0)
    rw [h1, h2]
    omega
theorem sumTo_chain (f : Pt → Pt → Int) (l : List Pt) : ∀ k, k < l.length → sumTo f l k = chainTo (gOf f) l k
  | 0, _ => rfl
  | k + 1, h => by
    have h1 := sumTo_chain f l k (by omega)
    have h2 : nxt l k = k + 1 := Nat.mod_eq_of_lt h
    rw [sumTo, chainTo, h1, h2]
    rfl
theorem sumOf_fan {F : Pt → Pt → Pt → Int} {f : Pt → Pt → Int} (hF : ∀ a b c, F a b c = gOf f a b + gOf f b c + gOf f c a) (hf : ∀ a b, f b a = f a b) {l : List Pt} (h : 2 ≤ l.length) :
    sumOf f l = fan F l := by
  obtain ⟨n, hn⟩ : ∃ n, l.length = n + 2 := ⟨l.length - 2, by omega⟩
  have hg : ∀ a b, gOf f b a = - gOf f a b := fun a b => by unfold gOf cross; rw [hf a b]; grind
  have h2 : nxt l (n + 1) = 0 := by unfold nxt; rw [hn]; exact Nat.mod_self _
  unfold fan sumOf
  rw [hn, fanTo_chain hF hg, Nat.add_sub_cancel, ← sumTo_chain f l (n + 1) (by omega)]
  show sumTo f l (n + 1) + _ = _
  rw [h2]
  rfl

def fFst (a b c : Pt) : Int := turn a b c * (a.1 + b.1 + c.1)
def fSnd (a b c : Pt) : Int := turn a b c * (a.2 + b.2 + c.2)
def prods (a b c : Int) : Int := a * a + b * b + c * c + a * b + b * c + c * a
def fXX (a b c : Pt) : Int := turn a b c * prods a.1 b.1 c.1
def fYY (a b c : Pt) : Int := turn a b c * prods a.2 b.2 c.2
def fXY (a b c : Pt) : Int := turn a b c * ((a.1 + b.1 + c.1) * (a.2 + b.2 + c.2) + a.1 * a.2 + b.1 * b.2 + c.1 * c.2)

theorem tw_fan {l : List Pt} (h : 2 ≤ l.length) : tw l = fan turn l :=
  sumOf_fan (fun a b c => by unfold gOf oneF cross turn; grind) (fun _ _ => rfl) h
theorem mx_fan {l : List Pt} (h : 2 ≤ l.length) : mx l = fan fFst l :=
  sumOf_fan (fun a b c => by unfold fFst gOf fxF cross turn; grind) (fun _ _ => by unfold fxF; omega) h
theorem my_fan {l : List Pt} (h : 2 ≤ l.length) : my l = fan fSnd l :=
  sumOf_fan (fun a b c => by unfold fSnd gOf fyF cross turn; grind) (fun _ _ => by unfold fyF; omega) h
theorem mxx_fan {l : List Pt} (h : 2 ≤ l.length) : mxx l = fan fXX l :=
  sumOf_fan (fun a b c => by unfold fXX prods gOf xxF sqF cross turn; grind) (fun _ _ => by unfold xxF sqF; grind) h
theorem myy_fan {l : List Pt} (h : 2 ≤ l.length) : myy l = fan fYY l :=
  sumOf_fan (fun a b c => by unfold fYY prods gOf yyF sqF cross turn; grind) (fun _ _ => by unfold yyF sqF; grind) h
theorem mxy_fan {l : List Pt} (h : 2 ≤ l.length) : mxy l = fan fXY l :=
  sumOf_fan (fun a b c => by unfold fXY gOf xyF cross turn; grind) (fun _ _ => by unfold xyF; grind) h
end Go.Proofs.Ytegdnbceiopklaa
