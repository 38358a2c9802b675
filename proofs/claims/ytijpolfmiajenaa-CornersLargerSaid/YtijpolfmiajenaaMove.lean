/- The sums over a polygon that is moved, or made greater, are those of the polygon as the document says, for any points. -/
import Derived.Test.YtijpolfmiajenaaFanSum
namespace Go.Proofs.Ytijpolfmiajenaa

def mvd (v : Pt) (l : List Pt) : List Pt := l.map fun p => (p.1 + v.1, p.2 + v.2)
def scl (k : Int) (l : List Pt) : List Pt := l.map fun p => (k * p.1, k * p.2)

theorem pat_map (g : Pt → Pt) {l : List Pt} {i : Nat} (h : i < l.length) : pat (l.map g) i = g (pat l i) := by
  have h1 := pat_get (l := l.map g) (i := i) (by simpa using h)
  rw [List.getElem?_map, pat_get h] at h1
  simpa using h1.symm
theorem fanTo_map (g : Pt → Pt) (F : Pt → Pt → Pt → Int) (l : List Pt) : ∀ k, k + 2 ≤ l.length → fanTo F (l.map g) k = fanTo (fun a b c => F (g a) (g b) (g c)) l k
  | 0, _ => rfl
  | k + 1, h => by
    rw [fanTo, fanTo, fanTo_map g F l k (by omega), pat_map g (by omega), pat_map g (by omega), pat_map g (by omega)]
theorem fan_map (g : Pt → Pt) (F : Pt → Pt → Pt → Int) {l : List Pt} (h : 2 ≤ l.length) : fan F (l.map g) = fan (fun a b c => F (g a) (g b) (g c)) l := by
  unfold fan
  rw [List.length_map]
  exact fanTo_map g F l _ (by omega)
theorem fanTo_lin {F G H I J : Pt → Pt → Pt → Int} {k m n : Int} (hh : ∀ a b c, F a b c = G a b c + k * H a b c + m * I a b c + n * J a b c) (l : List Pt) :
    ∀ i, fanTo F l i = fanTo G l i + k * fanTo H l i + m * fanTo I l i + n * fanTo J l i
  | 0 => by simp [fanTo]
  | i + 1 => by
    simp only [fanTo, fanTo_lin hh l i, hh]
    grind
theorem fan_lin {F G H I J : Pt → Pt → Pt → Int} {k m n : Int} (hh : ∀ a b c, F a b c = G a b c + k * H a b c + m * I a b c + n * J a b c) (l : List Pt) : fan F l = fan G l + k * fan H l + m * fan I l + n * fan J l := fanTo_lin hh l _

section
variable {l : List Pt} (h : 2 ≤ l.length) (v : Pt)
include h
theorem tw_mvd : tw (mvd v l) = tw l := by
  rw [tw_fan (by simpa [mvd] using h), tw_fan h, mvd, fan_map _ _ h]
  have := fan_lin (F := fun a b c => turn (a.1 + v.1, a.2 + v.2) (b.1 + v.1, b.2 + v.2) (c.1 + v.1, c.2 + v.2)) (G := turn) (H := turn) (I := turn) (J := turn) (k := 0) (m := 0) (n := 0) (fun a b c => by simp only [turn]; grind) l
  rw [this]; omega
theorem mx_mvd : mx (mvd v l) = mx l + 3 * v.1 * tw l := by
  rw [mx_fan (by simpa [mvd] using h), mx_fan h, tw_fan h, mvd, fan_map _ _ h]
  have := fan_lin (F := fun a b c => fFst (a.1 + v.1, a.2 + v.2) (b.1 + v.1, b.2 + v.2) (c.1 + v.1, c.2 + v.2)) (G := fFst) (H := turn) (I := turn) (J := turn) (k := 3 * v.1) (m := 0) (n := 0) (fun a b c => by simp only [fFst, turn]; grind) l
  rw [this]; omega
theorem my_mvd : my (mvd v l) = my l + 3 * v.2 * tw l := by
  rw [my_fan (by simpa [mvd] using h), my_fan h, tw_fan h, mvd, fan_map _ _ h]
  have := fan_lin (F := fun a b c => fSnd (a.1 + v.1, a.2 + v.2) (b.1 + v.1, b.2 + v.2) (c.1 + v.1, c.2 + v.2)) (G := fSnd) (H := turn) (I := turn) (J := turn) (k := 3 * v.2) (m := 0) (n := 0) (fun a b c => by simp only [fSnd, turn]; grind) l
  rw [this]; omega
theorem mxx_mvd : mxx (mvd v l) = mxx l + 4 * v.1 * mx l + 6 * v.1 * v.1 * tw l := by
  rw [mxx_fan (by simpa [mvd] using h), mxx_fan h, mx_fan h, tw_fan h, mvd, fan_map _ _ h]
  have := fan_lin (F := fun a b c => fXX (a.1 + v.1, a.2 + v.2) (b.1 + v.1, b.2 + v.2) (c.1 + v.1, c.2 + v.2)) (G := fXX) (H := fFst) (I := turn) (J := turn) (k := 4 * v.1) (m := 6 * v.1 * v.1) (n := 0) (fun a b c => by simp only [fXX, fFst, prods, turn]; grind) l
  rw [this]; omega
theorem myy_mvd : myy (mvd v l) = myy l + 4 * v.2 * my l + 6 * v.2 * v.2 * tw l := by
  rw [myy_fan (by simpa [mvd] using h), myy_fan h, my_fan h, tw_fan h, mvd, fan_map _ _ h]
  have := fan_lin (F := fun a b c => fYY (a.1 + v.1, a.2 + v.2) (b.1 + v.1, b.2 + v.2) (c.1 + v.1, c.2 + v.2)) (G := fYY) (H := fSnd) (I := turn) (J := turn) (k := 4 * v.2) (m := 6 * v.2 * v.2) (n := 0) (fun a b c => by simp only [fYY, fSnd, prods, turn]; grind) l
  rw [this]; omega
theorem mxy_mvd : mxy (mvd v l) = mxy l + 4 * v.2 * mx l + 4 * v.1 * my l + 12 * v.1 * v.2 * tw l := by
  rw [mxy_fan (by simpa [mvd] using h), mxy_fan h, mx_fan h, my_fan h, tw_fan h, mvd, fan_map _ _ h]
  exact fan_lin (F := fun a b c => fXY (a.1 + v.1, a.2 + v.2) (b.1 + v.1, b.2 + v.2) (c.1 + v.1, c.2 + v.2)) (G := fXY) (H := fFst) (I := fSnd) (J := turn) (k := 4 * v.2) (m := 4 * v.1) (n := 12 * v.1 * v.2) (fun a b c => by simp only [fXY, fFst, fSnd, turn]; grind) l
end
section
variable {l : List Pt} (h : 2 ≤ l.length) (k : Int)
include h
theorem fan_scl {F : Pt → Pt → Pt → Int} {n : Int} (hF : ∀ a b c : Pt, F (k * a.1, k * a.2) (k * b.1, k * b.2) (k * c.1, k * c.2) = n * F a b c) : fan F (scl k l) = n * fan F l := by
  rw [scl, fan_map _ _ h]
  have := fan_lin (F := fun a b c => F (k * a.1, k * a.2) (k * b.1, k * b.2) (k * c.1, k * c.2)) (G := fun _ _ _ => 0) (H := F) (I := fun _ _ _ => 0) (J := fun _ _ _ => 0) (k := n) (m := 0) (n := 0) (fun a b c => by rw [hF]; omega) l
  have z : ∀ i, fanTo (fun _ _ _ => 0) l i = 0 := fun i => by
    induction i with
    | zero => rfl
    | succ i ih => rw [fanTo, ih]; rfl
  rw [this]
  unfold fan
  rw [z]
  omega
theorem tw_scl : tw (scl k l) = k * k * tw l := by
  rw [tw_fan (by simpa [scl] using h), tw_fan h]
  exact fan_scl h k fun a b c => by simp only [turn]; grind
theorem mx_scl : mx (scl k l) = k * k * k * mx l := by
  rw [mx_fan (by simpa [scl] using h), mx_fan h]
  exact fan_scl h k fun a b c => by simp only [fFst, turn]; grind
theorem my_scl : my (scl k l) = k * k * k * my l := by
  rw [my_fan (by simpa [scl] using h), my_fan h]
  exact fan_scl h k fun a b c => by simp only [fSnd, turn]; grind
theorem mxx_scl : mxx (scl k l) = k * k * k * k * mxx l := by
  rw [mxx_fan (by simpa [scl] using h), mxx_fan h]
  exact fan_scl h k fun a b c => by simp only [fXX, prods, turn]; grind
theorem myy_scl : myy (scl k l) = k * k * k * k * myy l := by
  rw [myy_fan (by simpa [scl] using h), myy_fan h]
  exact fan_scl h k fun a b c => by simp only [fYY, prods, turn]; grind
theorem mxy_scl : mxy (scl k l) = k * k * k * k * mxy l := by
  rw [mxy_fan (by simpa [scl] using h), mxy_fan h]
  exact fan_scl h k fun a b c => by simp only [fXY, turn]; grind
end
end Go.Proofs.Ytijpolfmiajenaa
