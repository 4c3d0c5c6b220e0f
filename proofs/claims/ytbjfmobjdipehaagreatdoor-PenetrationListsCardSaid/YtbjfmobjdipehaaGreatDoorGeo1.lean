/-
 Several texts in one.
-/
set_option linter.all false
/-
 Points and segments of the plane with integer coordinates: sides, meeting, heights.
-/
namespace Geo
abbrev Pt := Int × Int
def cross (a b c : Pt) : Int := (b.1 - a.1) * (c.2 - a.2) - (b.2 - a.2) * (c.1 - a.1)
def btw (a b q : Int) : Prop := (a ≤ q ∧ q ≤ b) ∨ (b ≤ q ∧ q ≤ a)
def On (q a b : Pt) : Prop := cross a b q = 0 ∧ btw a.1 b.1 q.1 ∧ btw a.2 b.2 q.2
def opp (s t : Int) : Prop := (s < 0 ∧ 0 < t) ∨ (0 < s ∧ t < 0)
def Meet (a b c d : Pt) : Prop := On c a b ∨ On d a b ∨ On a c d ∨ On b c d ∨ (opp (cross a b c) (cross a b d) ∧ opp (cross c d a) (cross c d b))
def ht (α β : Int) (p : Pt) : Int := α * p.1 + β * p.2
theorem cross_swap (a b c : Pt) : cross b a c = - cross a b c := by unfold cross; grind
theorem cross_rot (a b c : Pt) : cross b c a = cross a b c := by unfold cross; grind
theorem cross_self_left (a b : Pt) : cross a b a = 0 := by unfold cross; grind
theorem cross_self_right (a b : Pt) : cross a b b = 0 := by unfold cross; grind
theorem cross_same (a c : Pt) : cross a a c = 0 := by unfold cross; grind
theorem cross_diff (a b u v : Pt) : cross a b u - cross a b v = cross u v b - cross u v a := by unfold cross; grind
theorem cross_ht (α β : Int) (a b u v : Pt) : cross a b u * ht α β v - cross a b v * ht α β u = cross u v b * ht α β a - cross u v a * ht α β b := by unfold cross ht; grind
theorem cross_lvl (α β t : Int) (a b u v : Pt) : cross a b u * (ht α β v - t) - cross a b v * (ht α β u - t) = cross u v b * (ht α β a - t) - cross u v a * (ht α β b - t) := by
 have h1 := cross_ht α β a b u v
 have h2 := cross_diff a b u v
 grind
theorem scale_btw {d e x y : Int} (hd : 0 < d) (h0 : 0 ≤ e) (h1 : e ≤ d) (h : y * d = x * e) : btw 0 x y := by
 by_cases hx : 0 ≤ x
 ·have a1 : 0 ≤ x * e := Int.mul_nonneg hx h0
  have a2 : x * e ≤ x * d := Int.mul_le_mul_of_nonneg_left h1 hx
  refine .inl ⟨?_, ?_⟩
  ·have : 0 * d ≤ y * d := by omega
   exact Int.le_of_mul_le_mul_right this hd
  ·have : y * d ≤ x * d := by omega
   exact Int.le_of_mul_le_mul_right this hd
 ·have hx' : x ≤ 0 := by omega
  have a1 : x * e ≤ 0 := Int.mul_nonpos_of_nonpos_of_nonneg hx' h0
  have a2 : x * d ≤ x * e := by
   have := Int.mul_le_mul_of_nonneg_left h1 (show 0 ≤ -x by omega)
   grind
  refine .inr ⟨?_, ?_⟩
  ·have : x * d ≤ y * d := by omega
   exact Int.le_of_mul_le_mul_right this hd
  ·have : y * d ≤ 0 * d := by omega
   exact Int.le_of_mul_le_mul_right this hd
theorem on_of {α β : Int} {u v b : Pt} (hc : cross u v b = 0) (h1 : ht α β u ≤ ht α β b) (h2 : ht α β b ≤ ht α β v) (h3 : ht α β u < ht α β v) : On b u v := by
 have e1 : (b.1 - u.1) * (ht α β v - ht α β u) = (v.1 - u.1) * (ht α β b - ht α β u) := by
  have : (b.1 - u.1) * (ht α β v - ht α β u) - (v.1 - u.1) * (ht α β b - ht α β u) = - β * cross u v b := by unfold ht cross; grind
  rw [hc] at this; omega
 have e2 : (b.2 - u.2) * (ht α β v - ht α β u) = (v.2 - u.2) * (ht α β b - ht α β u) := by
  have : (b.2 - u.2) * (ht α β v - ht α β u) - (v.2 - u.2) * (ht α β b - ht α β u) = α * cross u v b := by unfold ht cross; grind
  rw [hc] at this; omega
 have b1 := scale_btw (by omega) (by omega) (by omega) e1
 have b2 := scale_btw (by omega) (by omega) (by omega) e2
 refine ⟨hc, ?_, ?_⟩
 ·unfold btw at b1 ⊢; omega
 ·unfold btw at b2 ⊢; omega
theorem On.swap {q a b : Pt} (h : On q a b) : On q b a := by
 obtain ⟨h1, h2, h3⟩ := h
 refine ⟨by rw [cross_swap, h1]; rfl, ?_, ?_⟩
 ·unfold btw at *; omega
 ·unfold btw at *; omega
theorem On.left (a b : Pt) : On a a b := by
 refine ⟨cross_self_left a b, ?_, ?_⟩ <;> (unfold btw; omega)
theorem On.right (a b : Pt) : On b a b := by
 refine ⟨cross_self_right a b, ?_, ?_⟩ <;> (unfold btw; omega)
theorem Meet.symm {a b c d : Pt} (h : Meet a b c d) : Meet c d a b := by
 rcases h with h | h | h | h | ⟨h1, h2⟩
 ·exact .inr (.inr (.inl h))
 ·exact .inr (.inr (.inr (.inl h)))
 ·exact .inl h
 ·exact .inr (.inl h)
 ·exact .inr (.inr (.inr (.inr ⟨h2, h1⟩)))
theorem Meet.swap {a b c d : Pt} (h : Meet a b c d) : Meet b a c d := by
 rcases h with h | h | h | h | ⟨h1, h2⟩
 ·exact .inl h.swap
 ·exact .inr (.inl h.swap)
 ·exact .inr (.inr (.inr (.inl h)))
 ·exact .inr (.inr (.inl h))
 ·refine .inr (.inr (.inr (.inr ⟨?_, ?_⟩)))
  ·have e1 := cross_swap a b c
   have e2 := cross_swap a b d
   unfold opp at *
   omega
  ·unfold opp at *; omega
theorem pos_of {x d : Int} (hd : 0 < d) (h : 0 < x * d) : 0 < x := by
 have : 0 * d < x * d := by omega
 exact Int.lt_of_mul_lt_mul_right this (Int.le_of_lt hd)
theorem neg_of {x d : Int} (hd : 0 < d) (h : x * d < 0) : x < 0 := by
 have : x * d < 0 * d := by omega
 exact Int.lt_of_mul_lt_mul_right this (Int.le_of_lt hd)
theorem side_ab {α β : Int} {a b u v : Pt} (hab : ht α β a < ht α β b) (hua : ht α β u ≤ ht α β a) (hbv : ht α β b ≤ ht α β v) (hn : ¬ Meet a b u v) :
  (0 < cross u v a ∧ 0 < cross u v b) ∨ (cross u v a < 0 ∧ cross u v b < 0) := by
 have huv : ht α β u < ht α β v := by omega
 have za : cross u v a ≠ 0 := fun h => hn (.inr (.inr (.inl (on_of h hua (by omega) huv))))
 have zb : cross u v b ≠ 0 := fun h => hn (.inr (.inr (.inr (.inl (on_of h (by omega) hbv huv)))))
 have l1 := cross_lvl α β (ht α β v) a b u v
 have l2 := cross_lvl α β (ht α β u) a b u v
 rcases Int.lt_or_lt_of_ne za with sa | sa <;> rcases Int.lt_or_lt_of_ne zb with sb | sb
 ·exact .inr ⟨sa, sb⟩
 ·exfalso
  have p1 : 0 < cross u v b * (ht α β v - ht α β a) := Int.mul_pos sb (by omega)
  have p2 : 0 ≤ - cross u v a * (ht α β v - ht α β b) := Int.mul_nonneg (by omega) (by omega)
  have p3 : 0 ≤ cross u v b * (ht α β a - ht α β u) := Int.mul_nonneg (by omega) (by omega)
  have p4 : 0 < - cross u v a * (ht α β b - ht α β u) := Int.mul_pos (by omega) (by omega)
  have q1 : cross a b v < 0 := neg_of (d := ht α β v - ht α β u) (by omega) (by grind)
  have q2 : 0 < cross a b u := pos_of (d := ht α β v - ht α β u) (by omega) (by grind)
  exact hn (.inr (.inr (.inr (.inr ⟨.inr ⟨q2, q1⟩, .inl ⟨sa, sb⟩⟩))))
 ·exfalso
  have p1 : 0 < - cross u v b * (ht α β v - ht α β a) := Int.mul_pos (by omega) (by omega)
  have p2 : 0 ≤ cross u v a * (ht α β v - ht α β b) := Int.mul_nonneg (by omega) (by omega)
  have p3 : 0 ≤ - cross u v b * (ht α β a - ht α β u) := Int.mul_nonneg (by omega) (by omega)
  have p4 : 0 < cross u v a * (ht α β b - ht α β u) := Int.mul_pos (by omega) (by omega)
  have q1 : 0 < cross a b v := pos_of (d := ht α β v - ht α β u) (by omega) (by grind)
  have q2 : cross a b u < 0 := neg_of (d := ht α β v - ht α β u) (by omega) (by grind)
  exact hn (.inr (.inr (.inr (.inr ⟨.inl ⟨q2, q1⟩, .inr ⟨sa, sb⟩⟩))))
 ·exact .inl ⟨sa, sb⟩
theorem side_av {α β : Int} {a b u v : Pt} (hab : ht α β a < ht α β b) (huv : ht α β u < ht α β v) (hua : ht α β u ≤ ht α β a) (hav : ht α β a ≤ ht α β v) (hvb : ht α β v ≤ ht α β b) (hn : ¬ Meet a b u v) :
  (0 < cross u v a ∧ cross a b v < 0) ∨ (cross u v a < 0 ∧ 0 < cross a b v) := by
 have za : cross u v a ≠ 0 := fun h => hn (.inr (.inr (.inl (on_of h hua hav huv))))
 have zv : cross a b v ≠ 0 := fun h => hn (.inr (.inl (on_of h hav hvb hab)))
 have l1 := cross_lvl α β (ht α β a) a b u v
 have l2 := cross_lvl α β (ht α β v) a b u v
 rcases Int.lt_or_lt_of_ne za with sa | sa <;> rcases Int.lt_or_lt_of_ne zv with sv | sv
 ·exfalso
  have p1 : 0 ≤ - cross a b v * (ht α β a - ht α β u) := Int.mul_nonneg (by omega) (by omega)
  have p2 : 0 < - cross u v a * (ht α β b - ht α β a) := Int.mul_pos (by omega) (by omega)
  have p3 : 0 < - cross a b v * (ht α β v - ht α β u) := Int.mul_pos (by omega) (by omega)
  have p4 : 0 ≤ - cross u v a * (ht α β b - ht α β v) := Int.mul_nonneg (by omega) (by omega)
  have e1 : 0 < cross a b u * (ht α β v - ht α β a) := by grind
  have hd : 0 < ht α β v - ht α β a := by
   rcases Int.lt_or_eq_of_le hav with h | h
   ·omega
   ·rw [h] at e1; simp at e1
  have q1 : 0 < cross a b u := pos_of hd e1
  have q2 : 0 < cross u v b := pos_of hd (by grind)
  exact hn (.inr (.inr (.inr (.inr ⟨.inr ⟨q1, sv⟩, .inl ⟨sa, q2⟩⟩))))
 ·exact .inr ⟨sa, sv⟩
 ·exact .inl ⟨sa, sv⟩
 ·exfalso
  have p1 : 0 ≤ cross a b v * (ht α β a - ht α β u) := Int.mul_nonneg (by omega) (by omega)
  have p2 : 0 < cross u v a * (ht α β b - ht α β a) := Int.mul_pos (by omega) (by omega)
  have p3 : 0 < cross a b v * (ht α β v - ht α β u) := Int.mul_pos (by omega) (by omega)
  have p4 : 0 ≤ cross u v a * (ht α β b - ht α β v) := Int.mul_nonneg (by omega) (by omega)
  have e1 : cross a b u * (ht α β v - ht α β a) < 0 := by grind
  have hd : 0 < ht α β v - ht α β a := by
   rcases Int.lt_or_eq_of_le hav with h | h
   ·omega
   ·rw [h] at e1; simp at e1
  have q1 : cross a b u < 0 := neg_of hd e1
  have q2 : cross u v b < 0 := neg_of hd (by grind)
  exact hn (.inr (.inr (.inr (.inr ⟨.inl ⟨q1, sv⟩, .inr ⟨sa, q2⟩⟩))))
theorem not_on {α β : Int} {a b q : Pt} (hab : ht α β a < ht α β b) (h1 : ht α β a ≤ ht α β q) (h2 : ht α β q ≤ ht α β b) (hn : ¬ On q a b) : cross a b q ≠ 0 := fun h => hn (on_of h h1 h2 hab)
end Geo
/-
 The ray to the right: how often it crosses a closed contour, by parity. Along a segment that does not meet the contour the parity stays.
-/
namespace Geo
def rc (q a b : Pt) : Bool := (decide (a.2 > q.2) != decide (b.2 > q.2)) && (decide (0 < cross a b q) == decide (b.2 > a.2))
theorem ht01 (p : Pt) : ht 0 1 p = p.2 := by unfold ht; omega
theorem off_edge {q a b : Pt} (h : ¬ On q a b) (hs : (a.2 ≤ q.2 ∧ q.2 < b.2) ∨ (b.2 ≤ q.2 ∧ q.2 < a.2)) : cross a b q ≠ 0 := by
 rcases hs with hs | hs
 ·exact not_on (α := 0) (β := 1) (by rw [ht01, ht01]; omega) (by rw [ht01, ht01]; omega) (by rw [ht01, ht01]; omega) h
 ·have := not_on (α := 0) (β := 1) (a := b) (b := a) (q := q) (by rw [ht01, ht01]; omega) (by rw [ht01, ht01]; omega) (by rw [ht01, ht01]; omega) (fun h' => h h'.swap)
  rw [cross_swap] at this
  omega
theorem rc_flat {q a b : Pt} (h : (a.2 > q.2 ∧ b.2 > q.2) ∨ (a.2 ≤ q.2 ∧ b.2 ≤ q.2)) : rc q a b = false := by
 unfold rc
 rcases h with h | h
 ·simp [h.1, h.2]
 ·have h1 : ¬ a.2 > q.2 := by omega
  have h2 : ¬ b.2 > q.2 := by omega
  simp [h1, h2]
theorem rc_up {q a b : Pt} (h1 : a.2 ≤ q.2) (h2 : q.2 < b.2) : rc q a b = decide (0 < cross a b q) := by
 unfold rc
 have e1 : ¬ a.2 > q.2 := by omega
 have e2 : b.2 > q.2 := by omega
 have e3 : b.2 > a.2 := by omega
 simp [e1, e2, e3]
theorem rc_swap {q a b : Pt} (h : ¬ On q a b) : rc q a b = rc q b a := by
 by_cases h1 : a.2 ≤ q.2 <;> by_cases h2 : b.2 ≤ q.2
 ·rw [rc_flat (.inr ⟨h1, h2⟩), rc_flat (.inr ⟨h2, h1⟩)]
 ·have z := off_edge h (.inl ⟨h1, by omega⟩)
  rw [rc_up h1 (by omega)]
  unfold rc
  have e1 : ¬ a.2 > q.2 := by omega
  have e2 : b.2 > q.2 := by omega
  have e3 : ¬ a.2 > b.2 := by omega
  rw [cross_swap a b q]
  by_cases hp : 0 < cross a b q
  ·have : ¬ 0 < - cross a b q := by omega
   simp [e1, e2, e3, hp, this]
   omega
  ·have : 0 < - cross a b q := by omega
   simp [e1, e2, e3, hp, this]
   omega
 ·have z := off_edge h (.inr ⟨h2, by omega⟩)
  rw [rc_up (a := b) (b := a) h2 (by omega)]
  unfold rc
  have e1 : a.2 > q.2 := by omega
  have e2 : ¬ b.2 > q.2 := by omega
  have e3 : ¬ b.2 > a.2 := by omega
  rw [cross_swap a b q]
  by_cases hp : 0 < cross a b q
  ·have : ¬ 0 < - cross a b q := by omega
   simp [e1, e2, e3, hp, this]
   omega
  ·have : 0 < - cross a b q := by omega
   simp [e1, e2, e3, hp, this]
   omega
 ·rw [rc_flat (.inl ⟨by omega, by omega⟩), rc_flat (.inl ⟨by omega, by omega⟩)]
def fr (a b w : Pt) : Bool := decide (a.2 < w.2 ∧ w.2 ≤ b.2 ∧ cross a b w < 0)
theorem edge_lt {a b u v : Pt} (hab : a.2 < b.2) (huv : u.2 < v.2) (hn : ¬ Meet a b u v) : (rc a u v ^^ rc b u v) = (fr a b u ^^ fr a b v) := by
 have hab' : ht 0 1 a < ht 0 1 b := by rw [ht01, ht01]; exact hab
 have huv' : ht 0 1 u < ht 0 1 v := by rw [ht01, ht01]; exact huv
 have hn' : ¬ Meet u v a b := fun h => hn h.symm
 have F0 : ∀ w : Pt, w.2 ≤ a.2 ∨ b.2 < w.2 → fr a b w = false := fun w hw => by unfold fr; simp; omega
 have F1 : ∀ w : Pt, a.2 < w.2 → w.2 ≤ b.2 → fr a b w = decide (cross a b w < 0) := fun w h1 h2 => by unfold fr; simp [h1, h2]
 by_cases u1 : u.2 ≤ a.2
 ·rw [F0 u (.inl u1)]
  by_cases v1 : v.2 ≤ a.2
  ·rw [rc_flat (.inr ⟨u1, v1⟩), rc_flat (.inr ⟨by omega, by omega⟩), F0 v (.inl v1)]
  ·by_cases v2 : v.2 ≤ b.2
   ·rw [rc_up u1 (by omega), rc_flat (.inr ⟨by omega, v2⟩), F1 v (by omega) v2]
    have := side_av (α := 0) (β := 1) hab' huv' (by rw [ht01, ht01]; omega) (by rw [ht01, ht01]; omega) (by rw [ht01, ht01]; omega) hn
    rcases this with ⟨h1, h2⟩ | ⟨h1, h2⟩
    ·simp [h1, h2]
    ·have e1 : ¬ 0 < cross u v a := by omega
     have e2 : ¬ cross a b v < 0 := by omega
     simp [e1, e2]
   ·rw [rc_up u1 (by omega), rc_up (by omega) (by omega), F0 v (.inr (by omega))]
    have := side_ab (α := 0) (β := 1) hab' (by rw [ht01, ht01]; omega) (by rw [ht01, ht01]; omega) hn
    rcases this with ⟨h1, h2⟩ | ⟨h1, h2⟩
    ·simp [h1, h2]
    ·have e1 : ¬ 0 < cross u v a := by omega
     have e2 : ¬ 0 < cross u v b := by omega
     simp [e1, e2]
 ·by_cases u2 : u.2 ≤ b.2
  ·rw [F1 u (by omega) u2, rc_flat (q := a) (.inl ⟨by omega, by omega⟩)]
   by_cases v2 : v.2 ≤ b.2
   ·rw [rc_flat (.inr ⟨u2, v2⟩), F1 v (by omega) v2]
    have := side_ab (α := 0) (β := 1) huv' (by rw [ht01, ht01]; omega) (by rw [ht01, ht01]; omega) hn'
    rcases this with ⟨h1, h2⟩ | ⟨h1, h2⟩
    ·have e1 : ¬ cross a b u < 0 := by omega
     have e2 : ¬ cross a b v < 0 := by omega
     simp [e1, e2]
    ·simp [h1, h2]
   ·rw [rc_up u2 (by omega), F0 v (.inr (by omega))]
    have := side_av (α := 0) (β := 1) huv' hab' (by rw [ht01, ht01]; omega) (by rw [ht01, ht01]; omega) (by rw [ht01, ht01]; omega) hn'
    rcases this with ⟨h1, h2⟩ | ⟨h1, h2⟩
    ·have e1 : ¬ cross a b u < 0 := by omega
     have e2 : ¬ 0 < cross u v b := by omega
     simp [e1, e2]
    ·simp [h1, h2]
  ·rw [rc_flat (.inl ⟨by omega, by omega⟩), rc_flat (.inl ⟨by omega, by omega⟩), F0 u (.inr (by omega)), F0 v (.inr (by omega))]
theorem edge_eq {a b u v : Pt} (hab : a.2 < b.2) (huv : u.2 = v.2) (hn : ¬ Meet a b u v) : (rc a u v ^^ rc b u v) = (fr a b u ^^ fr a b v) := by
 have ra : rc a u v = false := rc_flat (by omega)
 have rb : rc b u v = false := rc_flat (by omega)
 rw [ra, rb]
 by_cases h : a.2 < u.2 ∧ u.2 ≤ b.2
 ·have zu : cross a b u ≠ 0 := fun h0 => hn (.inl (on_of (α := 0) (β := 1) h0 (by rw [ht01, ht01]; omega) (by rw [ht01, ht01]; omega) (by rw [ht01, ht01]; omega)))
  have zv : cross a b v ≠ 0 := fun h0 => hn (.inr (.inl (on_of (α := 0) (β := 1) h0 (by rw [ht01, ht01]; omega) (by rw [ht01, ht01]; omega) (by rw [ht01, ht01]; omega))))
  have F1 : ∀ w : Pt, w.2 = u.2 → fr a b w = decide (cross a b w < 0) := fun w hw => by
   unfold fr
   have h1 : a.2 < w.2 := by omega
   have h2 : w.2 ≤ b.2 := by omega
   simp [h1, h2]
  rw [F1 u rfl, F1 v huv.symm]
  -- the levels of a and b lie on the two sides of the flat edge (b perhaps on it)
  have ea : cross u v a = - ((v.1 - u.1) * (u.2 - a.2)) := by unfold cross; rw [← huv]; grind
  have eb : cross u v b = (v.1 - u.1) * (b.2 - u.2) := by unfold cross; rw [← huv]; grind
  have ed := cross_diff a b u v
  have key : ∀ s t : Int, opp s t → cross a b u = s → cross a b v = t → False := by
   intro s t ho h1 h2
   have hne : v.1 - u.1 ≠ 0 := by
    intro h0
    have : u.1 = v.1 := by omega
    have : u = v := Prod.ext this huv
    subst this
    unfold opp at ho; omega
   by_cases hb : u.2 = b.2
   ·have zb : cross u v b = 0 := by rw [eb, hb]; simp
    refine hn (.inr (.inr (.inr (.inl ⟨zb, ?_, by unfold btw; omega⟩))))
    have e1 : cross a b u = (b.2 - a.2) * (b.1 - u.1) := by unfold cross; rw [hb]; grind
    have e2 : cross a b v = (b.2 - a.2) * (b.1 - v.1) := by unfold cross; rw [← huv, hb]; grind
    have hd : 0 < b.2 - a.2 := by omega
    unfold btw
    rcases ho with ⟨g1, g2⟩ | ⟨g1, g2⟩
    ·have q1 : b.1 - u.1 < 0 := neg_of hd (by grind)
     have q2 : 0 < b.1 - v.1 := pos_of hd (by grind)
     omega
    ·have q1 : 0 < b.1 - u.1 := pos_of hd (by grind)
     have q2 : b.1 - v.1 < 0 := neg_of hd (by grind)
     omega
   ·refine hn (.inr (.inr (.inr (.inr ⟨by rw [h1, h2]; exact ho, ?_⟩))))
    rw [ea, eb]
    rcases Int.lt_or_lt_of_ne hne with g | g
    ·have q1 : 0 < (- (v.1 - u.1)) * (u.2 - a.2) := Int.mul_pos (by omega) (by omega)
     have q2 : 0 < (- (v.1 - u.1)) * (b.2 - u.2) := Int.mul_pos (by omega) (by omega)
     exact .inr ⟨by grind, by grind⟩
    ·have q1 : 0 < (v.1 - u.1) * (u.2 - a.2) := Int.mul_pos (by omega) (by omega)
     have q2 : 0 < (v.1 - u.1) * (b.2 - u.2) := Int.mul_pos (by omega) (by omega)
     exact .inl ⟨by grind, by grind⟩
  rcases Int.lt_or_lt_of_ne zu with s1 | s1 <;> rcases Int.lt_or_lt_of_ne zv with s2 | s2
  ·simp [s1, s2]
  ·exact (key _ _ (.inl ⟨s1, s2⟩) rfl rfl).elim
  ·exact (key _ _ (.inr ⟨s1, s2⟩) rfl rfl).elim
  ·have e1 : ¬ cross a b u < 0 := by omega
   have e2 : ¬ cross a b v < 0 := by omega
   simp [e1, e2]
 ·have f1 : fr a b u = false := by unfold fr; simp; omega
  have f2 : fr a b v = false := by unfold fr; simp; omega
  rw [f1, f2]
theorem Meet.swap2 {a b c d : Pt} (h : Meet a b c d) : Meet a b d c := h.symm.swap.symm
theorem edge_up {a b u v : Pt} (hab : a.2 < b.2) (hn : ¬ Meet a b u v) : (rc a u v ^^ rc b u v) = (fr a b u ^^ fr a b v) := by
 rcases Int.lt_trichotomy u.2 v.2 with h | h | h
 ·exact edge_lt hab h hn
 ·exact edge_eq hab h hn
 ·have := edge_lt hab h (fun hm => hn hm.swap2)
  rw [rc_swap (q := a) (fun h' => hn (.inr (.inr (.inl h')))), rc_swap (q := b) (fun h' => hn (.inr (.inr (.inr (.inl h'))))), this, Bool.xor_comm]
theorem edge_flat {a b u v : Pt} (hab : a.2 = b.2) (hn : ¬ Meet a b u v) : rc a u v = rc b u v := by
 have lt : ∀ u v : Pt, u.2 < v.2 → ¬ Meet a b u v → rc a u v = rc b u v := by
  intro u v huv hn
  by_cases u1 : u.2 ≤ a.2
  ·by_cases v1 : v.2 ≤ a.2
   ·rw [rc_flat (.inr ⟨u1, v1⟩), rc_flat (.inr ⟨by omega, by omega⟩)]
   ·rw [rc_up u1 (by omega), rc_up (by omega) (by omega)]
    have za := off_edge (q := a) (a := u) (b := v) (fun h => hn (.inr (.inr (.inl h)))) (.inl ⟨u1, by omega⟩)
    have zb := off_edge (q := b) (a := u) (b := v) (fun h => hn (.inr (.inr (.inr (.inl h))))) (.inl ⟨by omega, by omega⟩)
    have eu : cross a b u = (b.1 - a.1) * (u.2 - a.2) := by unfold cross; rw [← hab]; grind
    have ev : cross a b v = (b.1 - a.1) * (v.2 - a.2) := by unfold cross; rw [← hab]; grind
    have key : opp (cross u v a) (cross u v b) → False := by
     intro ho
     have hd := cross_diff a b u v
     have hne : b.1 - a.1 ≠ 0 := by
      intro h0
      have : a = b := Prod.ext (by omega) hab
      subst this
      unfold opp at ho; omega
     by_cases hu : u.2 = a.2
     ·refine hn (.inl ⟨by rw [eu, hu]; simp, ?_, by unfold btw; omega⟩)
      have e1 : cross u v a = (v.2 - u.2) * (u.1 - a.1) := by unfold cross; rw [hu]; grind
      have e2 : cross u v b = (v.2 - u.2) * (u.1 - b.1) := by unfold cross; rw [← hab, hu]; grind
      have hd : 0 < v.2 - u.2 := by omega
      unfold btw
      rcases ho with ⟨g1, g2⟩ | ⟨g1, g2⟩
      ·have q1 : u.1 - a.1 < 0 := neg_of hd (by grind)
       have q2 : 0 < u.1 - b.1 := pos_of hd (by grind)
       omega
      ·have q1 : 0 < u.1 - a.1 := pos_of hd (by grind)
       have q2 : u.1 - b.1 < 0 := neg_of hd (by grind)
       omega
     ·refine hn (.inr (.inr (.inr (.inr ⟨?_, ho⟩))))
      rw [eu, ev]
      rcases Int.lt_or_lt_of_ne hne with g | g
      ·have q1 : 0 < (- (b.1 - a.1)) * (a.2 - u.2) := Int.mul_pos (by omega) (by omega)
       have q2 : 0 < (- (b.1 - a.1)) * (v.2 - a.2) := Int.mul_pos (by omega) (by omega)
       exact .inr ⟨by grind, by grind⟩
      ·have q1 : 0 < (b.1 - a.1) * (a.2 - u.2) := Int.mul_pos (by omega) (by omega)
       have q2 : 0 < (b.1 - a.1) * (v.2 - a.2) := Int.mul_pos (by omega) (by omega)
       exact .inl ⟨by grind, by grind⟩
    rcases Int.lt_or_lt_of_ne za with s1 | s1 <;> rcases Int.lt_or_lt_of_ne zb with s2 | s2
    ·have e1 : ¬ 0 < cross u v a := by omega
     have e2 : ¬ 0 < cross u v b := by omega
     simp [e1, e2]
    ·exact (key (.inl ⟨s1, s2⟩)).elim
    ·exact (key (.inr ⟨s1, s2⟩)).elim
    ·simp [s1, s2]
  ·rw [rc_flat (.inl ⟨by omega, by omega⟩), rc_flat (.inl ⟨by omega, by omega⟩)]
 rcases Int.lt_trichotomy u.2 v.2 with h | h | h
 ·exact lt u v h hn
 ·rw [rc_flat (by omega), rc_flat (by omega)]
 ·rw [rc_swap (q := a) (fun h' => hn (.inr (.inr (.inl h')))), rc_swap (q := b) (fun h' => hn (.inr (.inr (.inr (.inl h')))))]
  exact lt v u h (fun hm => hn hm.swap2)
def xs : Nat → (Nat → Bool) → Bool
 | 0, _ => false
 | n + 1, f => xs n f ^^ f n
theorem xs_congr {n : Nat} {f g : Nat → Bool} (h : ∀ i, i < n → f i = g i) : xs n f = xs n g := by
 induction n with
 | zero => rfl
 | succ n ih => rw [xs, xs, ih fun i hi => h i (by omega), h n (by omega)]
theorem xs_xor (n : Nat) (f g : Nat → Bool) : xs n (fun i => f i ^^ g i) = (xs n f ^^ xs n g) := by
 induction n with
 | zero => rfl
 | succ n ih =>
  rw [xs, xs, xs, ih]
  cases xs n f <;> cases xs n g <;> cases f n <;> cases g n <;> rfl
theorem xs_shift (n : Nat) (f : Nat → Bool) : (xs n (fun i => f (i + 1)) ^^ f 0) = (xs n f ^^ f n) := by
 induction n with
 | zero => rfl
 | succ n ih =>
  rw [xs, xs]
  revert ih
  cases xs n (fun i => f (i + 1)) <;> cases xs n f <;> cases f 0 <;> cases f n <;> cases f (n + 1) <;> simp
theorem xs_next (n : Nat) (f : Nat → Bool) : xs n (fun i => f ((i + 1) % n)) = xs n f := by
 cases n with
 | zero => rfl
 | succ n =>
  rw [xs, xs, Nat.mod_self]
  rw [xs_congr (g := fun i => f (i + 1)) (fun i hi => by rw [Nat.mod_eq_of_lt (by omega)])]
  have := xs_shift n f
  exact this
theorem xs_cycle (n : Nat) (f : Nat → Bool) : xs n (fun i => f i ^^ f ((i + 1) % n)) = false := by
 rw [xs_xor, xs_next]
 cases xs n f <;> rfl
def par (n : Nat) (p : Nat → Pt) (q : Pt) : Bool := xs n fun i => rc q (p i) (p ((i + 1) % n))
def Free (n : Nat) (p : Nat → Pt) (a b : Pt) : Prop := ∀ i, i < n → ¬ Meet a b (p i) (p ((i + 1) % n))
theorem Free.symm {n : Nat} {p : Nat → Pt} {a b : Pt} (h : Free n p a b) : Free n p b a := fun i hi hm => h i hi hm.swap
theorem par_up {n : Nat} {p : Nat → Pt} {a b : Pt} (hab : a.2 < b.2) (h : Free n p a b) : par n p a = par n p b := by
 have h1 : xs n (fun i => rc a (p i) (p ((i + 1) % n)) ^^ rc b (p i) (p ((i + 1) % n))) = false := by
  rw [xs_congr (g := fun i => fr a b (p i) ^^ fr a b (p ((i + 1) % n))) (fun i hi => edge_up hab (h i hi))]
  exact xs_cycle n fun i => fr a b (p i)
 rw [xs_xor] at h1
 unfold par
 revert h1
 cases xs n (fun i => rc a (p i) (p ((i + 1) % n))) <;> cases xs n (fun i => rc b (p i) (p ((i + 1) % n))) <;> simp
theorem par_free {n : Nat} {p : Nat → Pt} {a b : Pt} (h : Free n p a b) : par n p a = par n p b := by
 rcases Int.lt_trichotomy a.2 b.2 with hh | hh | hh
 ·exact par_up hh h
 ·exact xs_congr fun i hi => edge_flat hh (h i hi)
 ·exact (par_up hh h.symm).symm
theorem par_out {n : Nat} {p : Nat → Pt} {q : Pt} (h : (∀ i, i < n → (p i).2 ≤ q.2) ∨ (∀ i, i < n → q.2 < (p i).2)) : par n p q = false := by
 have : xs n (fun i => rc q (p i) (p ((i + 1) % n))) = xs n (fun _ => false) := by
  refine xs_congr fun i hi => ?_
  have hm : (i + 1) % n < n := Nat.mod_lt _ (by omega)
  rcases h with h | h
  ·exact rc_flat (.inr ⟨h i hi, h _ hm⟩)
  ·exact rc_flat (.inl ⟨h i hi, h _ hm⟩)
 unfold par
 rw [this]
 clear this h
 induction n with
 | zero => rfl
 | succ n ih => rw [xs, ih]; rfl
end Geo
/-
 Closed contours by their levels: what lies to the right of an edge is the same all along the contour, and so the area is not zero.
-/
namespace Geo
def sm : Nat → (Nat → Int) → Int
 | 0, _ => 0
 | n + 1, f => sm n f + f n
theorem sm_congr {n : Nat} {f g : Nat → Int} (h : ∀ i, i < n → f i = g i) : sm n f = sm n g := by
 induction n with
 | zero => rfl
 | succ n ih => rw [sm, sm, ih fun i hi => h i (by omega), h n (by omega)]
theorem sm_add (n : Nat) (f g : Nat → Int) : sm n (fun i => f i + g i) = sm n f + sm n g := by
 induction n with
 | zero => rfl
 | succ n ih => rw [sm, sm, sm, ih]; omega
theorem sm_sub (n : Nat) (f g : Nat → Int) : sm n (fun i => f i - g i) = sm n f - sm n g := by
 induction n with
 | zero => rfl
 | succ n ih => rw [sm, sm, sm, ih]; omega
theorem sm_mul (n : Nat) (c : Int) (f : Nat → Int) : sm n (fun i => c * f i) = c * sm n f := by
 induction n with
 | zero => simp [sm]
 | succ n ih => rw [sm, sm, ih, Int.mul_add]
theorem sm_zero (n : Nat) : sm n (fun _ => 0) = 0 := by
 induction n with
 | zero => rfl
 | succ n ih => rw [sm, ih]; rfl
theorem sm_swap (n m : Nat) (f : Nat → Nat → Int) : sm n (fun i => sm m (fun j => f i j)) = sm m (fun j => sm n (fun i => f i j)) := by
 induction n with
 | zero =>
  simp only [sm]
  rw [sm_zero]
 | succ n ih =>
  simp only [sm]
  rw [ih, sm_add]
theorem sm_shift (n : Nat) (f : Nat → Int) : sm n (fun i => f (i + 1)) + f 0 = sm n f + f n := by
 induction n with
 | zero => simp [sm]
 | succ n ih => rw [sm, sm]; omega
theorem sm_next (n : Nat) (f : Nat → Int) : sm n (fun i => f ((i + 1) % n)) = sm n f := by
 cases n with
 | zero => rfl
 | succ n =>
  rw [sm, sm, Nat.mod_self]
  rw [sm_congr (g := fun i => f (i + 1)) (fun i hi => by rw [Nat.mod_eq_of_lt (by omega)])]
  exact sm_shift n f
theorem sm_cycle (n : Nat) (f : Nat → Int) : sm n (fun i => f ((i + 1) % n) - f i) = 0 := by
 rw [sm_sub, sm_next]; omega
theorem sm_nonneg {n : Nat} {f : Nat → Int} (h : ∀ i, i < n → 0 ≤ f i) : 0 ≤ sm n f := by
 induction n with
 | zero => exact Int.le_refl 0
 | succ n ih =>
  rw [sm]
  have := ih fun i hi => h i (by omega)
  have := h n (by omega)
  omega
theorem sm_pos {n : Nat} {f : Nat → Int} (h : ∀ i, i < n → 0 ≤ f i) {k : Nat} (hk : k < n) (hp : 0 < f k) : 0 < sm n f := by
 induction n with
 | zero => omega
 | succ n ih =>
  rw [sm]
  have h0 := sm_nonneg fun i hi => h i (Nat.lt_succ_of_lt hi)
  have h1 := h n (by omega)
  by_cases e : k = n
  ·subst e; omega
  ·have := ih (fun i hi => h i (by omega)) (by omega)
   omega
theorem sm_one {n : Nat} {f : Nat → Int} {k : Nat} (hk : k < n) (h : ∀ i, i < n → i ≠ k → f i = 0) : sm n f = f k := by
 induction n with
 | zero => omega
 | succ n ih =>
  rw [sm]
  by_cases e : k = n
  ·subst e
   rw [sm_congr (g := fun _ => 0) (fun i hi => h i (by omega) (by omega)), sm_zero]; omega
  ·rw [ih (by omega) (fun i hi => h i (by omega)), h n (by omega) (by omega)]; omega
def nx (n i : Nat) : Nat := (i + 1) % n
structure Lev (n : Nat) where
 H : Nat → Int
 V : Nat → Int
 X : Nat → Int → Int
def Lev.rng {n : Nat} (L : Lev n) (e : Nat) (t : Int) : Prop := (L.H e ≤ t ∧ t ≤ L.H (nx n e)) ∨ (L.H (nx n e) ≤ t ∧ t ≤ L.H e)
def Lev.sep {n : Nat} (L : Lev n) (e i : Nat) (t : Int) : Prop := L.rng e t ∧ L.rng i t ∧ ¬ (nx n e = i ∧ L.H i = t) ∧ ¬ (nx n i = e ∧ L.H e = t)
structure Lev.Fine {n : Nat} (L : Lev n) : Prop where
 big : 3 ≤ n
 even : ∀ i, ∃ k, L.H i = 2 * k
 inj : ∀ i j, i < n → j < n → i ≠ j → L.H i ≠ L.H j
 aff : ∀ e, e < n → ∃ c s, ∀ t, L.X e t = c + s * t
 start : ∀ e, e < n → L.X e (L.H e) = L.V e
 stop : ∀ e, e < n → L.X e (L.H (nx n e)) = L.V (nx n e)
 order : ∀ e i t t', e < n → i < n → e ≠ i → L.sep e i t → L.sep e i t' → (L.X e t < L.X i t ∧ L.X e t' < L.X i t') ∨ (L.X i t < L.X e t ∧ L.X i t' < L.X e t')
section
variable {n : Nat} (L : Lev n)
def Lev.g (i : Nat) (t : Int) : Int := if t < L.H i then 1 else 0
def Lev.da (i : Nat) (t : Int) : Int := L.g (nx n i) t - L.g i t
def Lev.rt (e i : Nat) (t : Int) : Int := if L.X e t < L.X i t then 1 else 0
def Lev.r (e : Nat) (t : Int) : Int := sm n fun i => L.rt e i t * L.da i t
end
section
variable {n : Nat} {L : Lev n}
theorem nx_lt {i : Nat} (h : 3 ≤ n) : nx n i < n := Nat.mod_lt _ (by omega)
theorem nx_ne {i : Nat} (h : 3 ≤ n) (hi : i < n) : nx n i ≠ i := by
 unfold nx
 by_cases e : i + 1 = n
 ·rw [e, Nat.mod_self]; omega
 ·rw [Nat.mod_eq_of_lt (by omega)]; omega
theorem nx_inj {i j : Nat} (hi : i < n) (hj : j < n) (h : nx n i = nx n j) : i = j := by
 unfold nx at h
 by_cases e : i + 1 = n <;> by_cases e' : j + 1 = n
 ·omega
 ·rw [e, Nat.mod_self, Nat.mod_eq_of_lt (by omega)] at h; omega
 ·rw [e', Nat.mod_self, Nat.mod_eq_of_lt (by omega)] at h; omega
 ·rw [Nat.mod_eq_of_lt (by omega), Nat.mod_eq_of_lt (by omega)] at h; omega
theorem Lev.rt_self (e : Nat) (t : Int) : L.rt e e t = 0 := by unfold Lev.rt; rw [if_neg (by omega)]
theorem Lev.rt_same (F : L.Fine) {e i : Nat} {t t' : Int} (he : e < n) (hi : i < n) (hne : e ≠ i) (h : L.sep e i t) (h' : L.sep e i t') : L.rt e i t = L.rt e i t' := by
 unfold Lev.rt
 rcases F.order e i t t' he hi hne h h' with ⟨h1, h2⟩ | ⟨h1, h2⟩
 ·rw [if_pos h1, if_pos h2]
 ·rw [if_neg (by omega), if_neg (by omega)]
theorem Lev.rt_flip (F : L.Fine) {e i : Nat} {t : Int} (he : e < n) (hi : i < n) (hne : e ≠ i) (h : L.sep e i t) : L.rt i e t = 1 - L.rt e i t := by
 unfold Lev.rt
 rcases F.order e i t t he hi hne h h with ⟨h1, h2⟩ | ⟨h1, h2⟩
 ·rw [if_neg (by omega), if_pos h1]; rfl
 ·rw [if_pos h1, if_neg (by omega)]; rfl
theorem Lev.sep_odd (F : L.Fine) {e i : Nat} {t k : Int} (ht : t = 2 * k + 1) (h1 : L.rng e t) (h2 : L.rng i t) : L.sep e i t := by
 refine ⟨h1, h2, fun h => ?_, fun h => ?_⟩
 ·obtain ⟨q, hq⟩ := F.even i; omega
 ·obtain ⟨q, hq⟩ := F.even e; omega
theorem Lev.da_odd {i : Nat} {t : Int} (h : L.da i t ≠ 0) : L.rng i t := by
 unfold Lev.da Lev.g at h
 unfold Lev.rng
 split at h <;> split at h <;> omega
theorem Lev.r_step (F : L.Fine) {e : Nat} (he : e < n) {k : Int} (h1 : L.rng e (2 * k - 1)) (h2 : L.rng e (2 * k + 1)) : L.r e (2 * k + 1) = L.r e (2 * k - 1) := by
 have hb := F.big
 have h3 : L.rng e (2 * k) := by unfold Lev.rng at *; omega
 have e0 : L.H e ≠ 2 * k := by
  intro h; unfold Lev.rng at h1 h2; omega
 have e1 : L.H (nx n e) ≠ 2 * k := by
  intro h; unfold Lev.rng at h1 h2; omega
 have key : L.r e (2 * k + 1) - L.r e (2 * k - 1) = sm n fun i => (if L.X e (2 * k) < L.V (nx n i) then 1 else 0) * (L.g (nx n i) (2 * k + 1) - L.g (nx n i) (2 * k - 1)) - (if L.X e (2 * k) < L.V i then 1 else 0) * (L.g i (2 * k + 1) - L.g i (2 * k - 1)) := by
  unfold Lev.r
  rw [← sm_sub]
  refine sm_congr fun i hi => ?_
  have hx : nx n i < n := nx_lt hb
  have de : ∀ j, L.H j ≠ 2 * k → L.g j (2 * k + 1) - L.g j (2 * k - 1) = 0 := by
   intro j hj
   obtain ⟨q, hq⟩ := F.even j
   unfold Lev.g
   by_cases h : 2 * k + 1 < L.H j
   ·rw [if_pos h, if_pos (by omega)]; rfl
   ·rw [if_neg h, if_neg (by omega)]; rfl
  by_cases hie : i = e
  ·subst hie
   rw [L.rt_self, L.rt_self, de _ e0, de _ e1]; simp
  ·have hei : e ≠ i := fun h => hie h.symm
   obtain ⟨q0, hq0⟩ := F.even i
   obtain ⟨q1, hq1⟩ := F.even (nx n i)
   by_cases hi0 : L.H i = 2 * k
   ·have hn0 : L.H (nx n i) ≠ 2 * k := fun h => F.inj _ _ hx hi (nx_ne hb hi) (h.trans hi0.symm)
    have s0 : L.sep e i (2 * k) := by
     refine ⟨h3, ?_, fun h => e1 (h.1 ▸ h.2), fun h => e0 h.2⟩
     unfold Lev.rng; omega
    have hV : L.X i (2 * k) = L.V i := by rw [← hi0]; exact F.start i hi
    have hr : (if L.X e (2 * k) < L.V i then (1 : Int) else 0) = L.rt e i (2 * k) := by unfold Lev.rt; rw [hV]
    rw [hr, de _ hn0]
    by_cases hup : 2 * k < L.H (nx n i)
    ·have s1 : L.sep e i (2 * k + 1) := Lev.sep_odd F (k := k) rfl h2 (by unfold Lev.rng; omega)
     have d1 : L.da i (2 * k + 1) = 1 := by unfold Lev.da Lev.g; rw [if_pos (by omega), if_neg (by omega)]; rfl
     have d2 : L.da i (2 * k - 1) = 0 := by unfold Lev.da Lev.g; rw [if_pos (by omega), if_pos (by omega)]; rfl
     have d3 : L.g i (2 * k + 1) - L.g i (2 * k - 1) = -1 := by unfold Lev.g; rw [if_neg (by omega), if_pos (by omega)]; rfl
     rw [d1, d2, d3, L.rt_same F he hi hei s1 s0]; omega
    ·have s1 : L.sep e i (2 * k - 1) := Lev.sep_odd F (k := k - 1) (by omega) h1 (by unfold Lev.rng; omega)
     have d1 : L.da i (2 * k + 1) = 0 := by unfold Lev.da Lev.g; rw [if_neg (by omega), if_neg (by omega)]; rfl
     have d2 : L.da i (2 * k - 1) = -1 := by unfold Lev.da Lev.g; rw [if_neg (by omega), if_pos (by omega)]; rfl
     have d3 : L.g i (2 * k + 1) - L.g i (2 * k - 1) = -1 := by unfold Lev.g; rw [if_neg (by omega), if_pos (by omega)]; rfl
     rw [d1, d2, d3, L.rt_same F he hi hei s1 s0]; omega
   ·by_cases hi1 : L.H (nx n i) = 2 * k
    ·have s0 : L.sep e i (2 * k) := by
      refine ⟨h3, ?_, fun h => hi0 h.2, fun h => e0 h.2⟩
      unfold Lev.rng; omega
     have hV : L.X i (2 * k) = L.V (nx n i) := by rw [← hi1]; exact F.stop i hi
     have hr : (if L.X e (2 * k) < L.V (nx n i) then (1 : Int) else 0) = L.rt e i (2 * k) := by unfold Lev.rt; rw [hV]
     rw [hr, de _ hi0]
     by_cases hup : L.H i < 2 * k
     ·have s1 : L.sep e i (2 * k - 1) := Lev.sep_odd F (k := k - 1) (by omega) h1 (by unfold Lev.rng; omega)
      have d1 : L.da i (2 * k + 1) = 0 := by unfold Lev.da Lev.g; rw [if_neg (by omega), if_neg (by omega)]; rfl
      have d2 : L.da i (2 * k - 1) = 1 := by unfold Lev.da Lev.g; rw [if_pos (by omega), if_neg (by omega)]; rfl
      have d3 : L.g (nx n i) (2 * k + 1) - L.g (nx n i) (2 * k - 1) = -1 := by unfold Lev.g; rw [if_neg (by omega), if_pos (by omega)]; rfl
      rw [d1, d2, d3, L.rt_same F he hi hei s1 s0]; omega
     ·have s1 : L.sep e i (2 * k + 1) := Lev.sep_odd F (k := k) rfl h2 (by unfold Lev.rng; omega)
      have d1 : L.da i (2 * k + 1) = -1 := by unfold Lev.da Lev.g; rw [if_neg (by omega), if_pos (by omega)]; rfl
      have d2 : L.da i (2 * k - 1) = 0 := by unfold Lev.da Lev.g; rw [if_pos (by omega), if_pos (by omega)]; rfl
      have d3 : L.g (nx n i) (2 * k + 1) - L.g (nx n i) (2 * k - 1) = -1 := by unfold Lev.g; rw [if_neg (by omega), if_pos (by omega)]; rfl
      rw [d1, d2, d3, L.rt_same F he hi hei s1 s0]; omega
    ·rw [de _ hi0, de _ hi1]
     have dd : L.da i (2 * k + 1) = L.da i (2 * k - 1) := by
      have a := de _ hi0
      have b := de _ hi1
      unfold Lev.da; omega
     rw [dd]
     by_cases hz : L.da i (2 * k - 1) = 0
     ·rw [hz]; simp
     ·have s1 := Lev.sep_odd F (k := k) rfl h2 (Lev.da_odd (dd ▸ hz))
      have s2 := Lev.sep_odd F (k := k - 1) (by omega) h1 (Lev.da_odd hz)
      rw [L.rt_same F he hi hei s1 s2]; simp
 have cyc := sm_cycle n fun j => (if L.X e (2 * k) < L.V j then 1 else 0) * (L.g j (2 * k + 1) - L.g j (2 * k - 1))
 have e2 : (sm n fun i => (if L.X e (2 * k) < L.V (nx n i) then 1 else 0) * (L.g (nx n i) (2 * k + 1) - L.g (nx n i) (2 * k - 1)) - (if L.X e (2 * k) < L.V i then 1 else 0) * (L.g i (2 * k + 1) - L.g i (2 * k - 1))) = 0 := cyc
 rw [e2] at key
 omega
theorem Lev.r_const (F : L.Fine) {e : Nat} (he : e < n) : ∀ (d : Nat) (k : Int), L.rng e (2 * k + 1) → L.rng e (2 * (k + d) + 1) → L.r e (2 * (k + d) + 1) = L.r e (2 * k + 1)
 | 0, k, _, _ => by simp
 | d + 1, k, h1, h2 => by
  have e1 : 2 * (k + (d + 1 : Nat)) + 1 = 2 * (k + d + 1) + 1 := by omega
  have h3 : L.rng e (2 * (k + d) + 1) := by unfold Lev.rng at *; omega
  have h4 := Lev.r_const F he d k h1 h3
  rw [← h4, e1]
  have h5 := Lev.r_step F he (k := k + d + 1) (by rw [show 2 * (k + d + 1) - 1 = 2 * (k + d) + 1 from by omega]; exact h3) (by rw [← e1]; exact h2)
  rw [show 2 * (k + d + 1) - 1 = 2 * (k + d) + 1 from by omega] at h5
  exact h5
theorem Lev.r_all (F : L.Fine) {e : Nat} (he : e < n) {k k' : Int} (h1 : L.rng e (2 * k + 1)) (h2 : L.rng e (2 * k' + 1)) : L.r e (2 * k + 1) = L.r e (2 * k' + 1) := by
 by_cases h : k ≤ k'
 ·have := Lev.r_const F he (k' - k).toNat k h1 (by rw [show k + ((k' - k).toNat : Int) = k' from by omega]; exact h2)
  rw [show k + ((k' - k).toNat : Int) = k' from by omega] at this
  exact this.symm
 ·have := Lev.r_const F he (k - k').toNat k' h2 (by rw [show k' + ((k - k').toNat : Int) = k from by omega]; exact h1)
  rw [show k' + ((k - k').toNat : Int) = k from by omega] at this
  exact this
end
end Geo
/-
 Closed contours by their levels, part 2: round the corners; the area.
-/
namespace Geo
section
variable {n : Nat} {L : Lev n}
def Lev.up {n : Nat} (L : Lev n) (e : Nat) : Int := if L.H e < L.H (nx n e) then 1 else 0
theorem sm_ind {n : Nat} {k : Nat} (hk : k < n) (c : Int) : sm n (fun i => if i = k then c else 0) = c := by
 rw [sm_one hk (fun i _ hne => if_neg hne), if_pos rfl]
theorem Lev.mid1 (F : L.Fine) {e i : Nat} {k s : Int} (he : e < n) (hi : i < n) (h1 : i ≠ e) (h2 : i ≠ nx n e) (hk : L.H (nx n e) = 2 * k) (hs : s = 2 * k - 1 ∨ s = 2 * k + 1) (he' : L.rng e s) (hi' : L.rng i s) :
  L.rt e i s = if L.V (nx n e) < L.X i (2 * k) then 1 else 0 := by
 have hb := F.big
 have a0 : L.H i ≠ 2 * k := fun h => F.inj i (nx n e) hi (nx_lt hb) h2 (h.trans hk.symm)
 have a1 : L.H (nx n i) ≠ 2 * k := fun h => F.inj (nx n i) (nx n e) (nx_lt hb) (nx_lt hb) (fun hh => h1 (nx_inj hi he hh)) (h.trans hk.symm)
 have a2 : L.H e ≠ 2 * k := fun h => F.inj e (nx n e) he (nx_lt hb) (fun hh => nx_ne hb he hh.symm) (h.trans hk.symm)
 obtain ⟨q0, hq0⟩ := F.even i
 obtain ⟨q1, hq1⟩ := F.even (nx n i)
 have s1 : L.sep e i s := by
  rcases hs with hs | hs
  ·exact Lev.sep_odd F (k := k - 1) (by omega) he' hi'
  ·exact Lev.sep_odd F (k := k) hs he' hi'
 have s2 : L.sep e i (2 * k) := by
  refine ⟨by unfold Lev.rng; omega, by unfold Lev.rng at hi' ⊢; omega, fun h => a0 h.2, fun h => a2 h.2⟩
 rw [L.rt_same F he hi (fun h => h1 h.symm) s1 s2]
 unfold Lev.rt
 rw [← hk, F.stop e he]
theorem Lev.mid2 (F : L.Fine) {e i : Nat} {k s : Int} (he : e < n) (hi : i < n) (h1 : i ≠ e) (h2 : i ≠ nx n e) (hk : L.H (nx n e) = 2 * k) (hs : s = 2 * k - 1 ∨ s = 2 * k + 1) (he' : L.rng (nx n e) s) (hi' : L.rng i s) :
  L.rt (nx n e) i s = if L.V (nx n e) < L.X i (2 * k) then 1 else 0 := by
 have hb := F.big
 have hx : nx n e < n := nx_lt hb
 have a0 : L.H i ≠ 2 * k := fun h => F.inj i (nx n e) hi hx h2 (h.trans hk.symm)
 have a1 : L.H (nx n i) ≠ 2 * k := fun h => F.inj (nx n i) (nx n e) (nx_lt hb) hx (fun hh => h1 (nx_inj hi he hh)) (h.trans hk.symm)
 obtain ⟨q0, hq0⟩ := F.even i
 obtain ⟨q1, hq1⟩ := F.even (nx n i)
 have s1 : L.sep (nx n e) i s := by
  rcases hs with hs | hs
  ·exact Lev.sep_odd F (k := k - 1) (by omega) he' hi'
  ·exact Lev.sep_odd F (k := k) hs he' hi'
 have s2 : L.sep (nx n e) i (2 * k) := by
  refine ⟨by unfold Lev.rng; omega, by unfold Lev.rng at hi' ⊢; omega, fun h => a0 h.2, fun h => h1 (nx_inj hi he h.1)⟩
 rw [L.rt_same F hx hi (fun h => h2 h.symm) s1 s2]
 unfold Lev.rt
 rw [← hk, F.start _ hx]
theorem Lev.da_other (F : L.Fine) {i : Nat} {k : Int} (h0 : L.H i ≠ 2 * k) (h1 : L.H (nx n i) ≠ 2 * k) : L.da i (2 * k + 1) = L.da i (2 * k - 1) := by
 obtain ⟨q0, hq0⟩ := F.even i
 obtain ⟨q1, hq1⟩ := F.even (nx n i)
 have de : ∀ j, L.H j ≠ 2 * k → (∃ q, L.H j = 2 * q) → L.g j (2 * k + 1) = L.g j (2 * k - 1) := by
  intro j hj ⟨q, hq⟩
  unfold Lev.g
  by_cases h : 2 * k + 1 < L.H j
  ·rw [if_pos h, if_pos (by omega)]
  ·rw [if_neg h, if_neg (by omega)]
 unfold Lev.da
 rw [de _ h0 ⟨q0, hq0⟩, de _ h1 ⟨q1, hq1⟩]
def Lev.base {n : Nat} (L : Lev n) (e : Nat) (k : Int) : Int :=
 sm n fun i => if i = e ∨ i = nx n e then 0 else (if L.V (nx n e) < L.X i (2 * k) then 1 else 0) * L.da i (2 * k - 1)
theorem Lev.r1 (F : L.Fine) {e : Nat} {k s : Int} (he : e < n) (hk : L.H (nx n e) = 2 * k) (hs : s = 2 * k - 1 ∨ s = 2 * k + 1) (he' : L.rng e s) : L.r e s = L.base e k + L.rt e (nx n e) s * L.da (nx n e) s := by
 have hb := F.big
 have hx : nx n e < n := nx_lt hb
 unfold Lev.base
 rw [← sm_ind hx (L.rt e (nx n e) s * L.da (nx n e) s), ← sm_add]
 refine sm_congr fun i hi => ?_
 by_cases h1 : i = e
 ·subst h1
  rw [L.rt_self, if_pos (.inl rfl), if_neg (fun h => nx_ne hb he h.symm)]; simp
 ·by_cases h2 : i = nx n e
  ·rw [if_pos (.inr h2), if_pos h2, h2]; simp
  ·rw [if_neg (by omega), if_neg h2]
   have a0 : L.H i ≠ 2 * k := fun h => F.inj i (nx n e) hi hx h2 (h.trans hk.symm)
   have a1 : L.H (nx n i) ≠ 2 * k := fun h => F.inj (nx n i) (nx n e) (nx_lt hb) hx (fun hh => h1 (nx_inj hi he hh)) (h.trans hk.symm)
   have hd : L.da i s = L.da i (2 * k - 1) := by
    rcases hs with hs | hs
    ·rw [hs]
    ·rw [hs]; exact L.da_other F a0 a1
   rw [hd]
   by_cases hz : L.da i (2 * k - 1) = 0
   ·rw [hz]; simp
   ·rw [L.mid1 F he hi h1 h2 hk hs he' (Lev.da_odd (hd ▸ hz))]; simp
theorem Lev.r2 (F : L.Fine) {e : Nat} {k s : Int} (he : e < n) (hk : L.H (nx n e) = 2 * k) (hs : s = 2 * k - 1 ∨ s = 2 * k + 1) (he' : L.rng (nx n e) s) : L.r (nx n e) s = L.base e k + L.rt (nx n e) e s * L.da e s := by
 have hb := F.big
 have hx : nx n e < n := nx_lt hb
 unfold Lev.base
 rw [← sm_ind he (L.rt (nx n e) e s * L.da e s), ← sm_add]
 refine sm_congr fun i hi => ?_
 by_cases h1 : i = e
 ·rw [if_pos (.inl h1), if_pos h1, h1]; simp
 ·by_cases h2 : i = nx n e
  ·rw [if_pos (.inr h2), if_neg h1, h2, L.rt_self]; simp
  ·rw [if_neg (by omega), if_neg h1]
   have a0 : L.H i ≠ 2 * k := fun h => F.inj i (nx n e) hi hx h2 (h.trans hk.symm)
   have a1 : L.H (nx n i) ≠ 2 * k := fun h => F.inj (nx n i) (nx n e) (nx_lt hb) hx (fun hh => h1 (nx_inj hi he hh)) (h.trans hk.symm)
   have hd : L.da i s = L.da i (2 * k - 1) := by
    rcases hs with hs | hs
    ·rw [hs]
    ·rw [hs]; exact L.da_other F a0 a1
   rw [hd]
   by_cases hz : L.da i (2 * k - 1) = 0
   ·rw [hz]; simp
   ·rw [L.mid2 F he hi h1 h2 hk hs he' (Lev.da_odd (hd ▸ hz))]; simp
theorem Lev.round (F : L.Fine) {e : Nat} (he : e < n) : ∃ k1 k2, L.rng e (2 * k1 + 1) ∧ L.rng (nx n e) (2 * k2 + 1) ∧ L.r e (2 * k1 + 1) + L.up e = L.r (nx n e) (2 * k2 + 1) + L.up (nx n e) := by
 have hb := F.big
 have hx : nx n e < n := nx_lt hb
 have hxx : nx n (nx n e) < n := nx_lt hb
 obtain ⟨k, hk⟩ := F.even (nx n e)
 obtain ⟨q0, hq0⟩ := F.even e
 obtain ⟨q1, hq1⟩ := F.even (nx n (nx n e))
 have a0 : L.H e ≠ 2 * k := fun h => F.inj e (nx n e) he hx (fun hh => nx_ne hb he hh.symm) (h.trans hk.symm)
 have a1 : L.H (nx n (nx n e)) ≠ 2 * k := fun h => F.inj _ _ hxx hx (nx_ne hb hx) (h.trans hk.symm)
 have hne : e ≠ nx n e := fun h => nx_ne hb he h.symm
 have m1 : 2 * (k - 1) + 1 = 2 * k - 1 := by omega
 by_cases c0 : L.H e < 2 * k <;> by_cases c1 : L.H (nx n (nx n e)) < 2 * k
 ·
  have g1 : L.rng e (2 * k - 1) := by unfold Lev.rng; omega
  have g2 : L.rng (nx n e) (2 * k - 1) := by unfold Lev.rng; omega
  refine ⟨k - 1, k - 1, by rw [m1]; exact g1, by rw [m1]; exact g2, ?_⟩
  rw [m1, L.r1 F he hk (.inl rfl) g1, L.r2 F he hk (.inl rfl) g2]
  have d1 : L.da e (2 * k - 1) = 1 := by unfold Lev.da Lev.g; rw [if_pos (by omega), if_neg (by omega)]; rfl
  have d2 : L.da (nx n e) (2 * k - 1) = -1 := by unfold Lev.da Lev.g; rw [if_neg (by omega), if_pos (by omega)]; rfl
  have u1 : L.up e = 1 := by unfold Lev.up; rw [if_pos (by omega)]
  have u2 : L.up (nx n e) = 0 := by unfold Lev.up; rw [if_neg (by omega)]
  rw [d1, d2, u1, u2, L.rt_flip F he hx hne (Lev.sep_odd F (k := k - 1) (by omega) g1 g2)]
  omega
 ·have g1 : L.rng e (2 * k - 1) := by unfold Lev.rng; omega
  have g2 : L.rng (nx n e) (2 * k + 1) := by unfold Lev.rng; omega
  refine ⟨k - 1, k, by rw [m1]; exact g1, g2, ?_⟩
  rw [m1, L.r1 F he hk (.inl rfl) g1, L.r2 F he hk (.inr rfl) g2]
  have d1 : L.da e (2 * k + 1) = 0 := by unfold Lev.da Lev.g; rw [if_neg (by omega), if_neg (by omega)]; rfl
  have d2 : L.da (nx n e) (2 * k - 1) = 0 := by unfold Lev.da Lev.g; rw [if_pos (by omega), if_pos (by omega)]; rfl
  have u1 : L.up e = 1 := by unfold Lev.up; rw [if_pos (by omega)]
  have u2 : L.up (nx n e) = 1 := by unfold Lev.up; rw [if_pos (by omega)]
  rw [d1, d2, u1, u2]; simp
 ·have g1 : L.rng e (2 * k + 1) := by unfold Lev.rng; omega
  have g2 : L.rng (nx n e) (2 * k - 1) := by unfold Lev.rng; omega
  refine ⟨k, k - 1, g1, by rw [m1]; exact g2, ?_⟩
  rw [m1, L.r1 F he hk (.inr rfl) g1, L.r2 F he hk (.inl rfl) g2]
  have d1 : L.da e (2 * k - 1) = 0 := by unfold Lev.da Lev.g; rw [if_pos (by omega), if_pos (by omega)]; rfl
  have d2 : L.da (nx n e) (2 * k + 1) = 0 := by unfold Lev.da Lev.g; rw [if_neg (by omega), if_neg (by omega)]; rfl
  have u1 : L.up e = 0 := by unfold Lev.up; rw [if_neg (by omega)]
  have u2 : L.up (nx n e) = 0 := by unfold Lev.up; rw [if_neg (by omega)]
  rw [d1, d2, u1, u2]; simp
 ·
  have g1 : L.rng e (2 * k + 1) := by unfold Lev.rng; omega
  have g2 : L.rng (nx n e) (2 * k + 1) := by unfold Lev.rng; omega
  refine ⟨k, k, g1, g2, ?_⟩
  rw [L.r1 F he hk (.inr rfl) g1, L.r2 F he hk (.inr rfl) g2]
  have d1 : L.da e (2 * k + 1) = -1 := by unfold Lev.da Lev.g; rw [if_neg (by omega), if_pos (by omega)]; rfl
  have d2 : L.da (nx n e) (2 * k + 1) = 1 := by unfold Lev.da Lev.g; rw [if_pos (by omega), if_neg (by omega)]; rfl
  have u1 : L.up e = 0 := by unfold Lev.up; rw [if_neg (by omega)]
  have u2 : L.up (nx n e) = 1 := by unfold Lev.up; rw [if_pos (by omega)]
  rw [d1, d2, u1, u2, L.rt_flip F he hx hne (Lev.sep_odd F (k := k) rfl g1 g2)]
  omega
theorem Lev.all_round (F : L.Fine) : ∃ c, ∀ e, e < n → ∀ k, L.rng e (2 * k + 1) → L.r e (2 * k + 1) + L.up e = c := by
 have hb := F.big
 have one : ∀ e, e < n → ∃ c, ∀ k, L.rng e (2 * k + 1) → L.r e (2 * k + 1) + L.up e = c := by
  intro e he
  obtain ⟨k1, _, h1, _⟩ := L.round F he
  exact ⟨L.r e (2 * k1 + 1) + L.up e, fun k hk => by rw [L.r_all F he hk h1]⟩
 obtain ⟨c, hc⟩ := one 0 (by omega)
 refine ⟨c, fun e => ?_⟩
 induction e with
 | zero => intro _; exact hc
 | succ e ih =>
  intro he k hk
  have he' : e < n := by omega
  obtain ⟨k1, k2, h1, h2, h3⟩ := L.round F he'
  have hx : nx n e = e + 1 := Nat.mod_eq_of_lt he
  rw [hx] at h2 h3
  rw [L.r_all F he hk h2, ← h3]
  exact ih he' k1 h1
theorem exists_least {n : Nat} {P : Nat → Prop} (f : Nat → Int) (h : ∃ i, i < n ∧ P i) : ∃ i, i < n ∧ P i ∧ ∀ j, j < n → P j → f i ≤ f j := by
 induction n with
 | zero => obtain ⟨i, h, _⟩ := h; omega
 | succ n ih =>
  by_cases hn : ∃ i, i < n ∧ P i
  ·obtain ⟨i, h1, h2, h3⟩ := ih hn
   by_cases hp : P n ∧ f n < f i
   ·refine ⟨n, by omega, hp.1, fun j hj hpj => ?_⟩
    by_cases e : j = n
    ·rw [e]; omega
    ·have := h3 j (by omega) hpj
     omega
   ·refine ⟨i, by omega, h2, fun j hj hpj => ?_⟩
    by_cases e : j = n
    ·subst e
     by_cases h : f j < f i
     ·exact absurd ⟨hpj, h⟩ hp
     ·omega
    ·exact h3 j (by omega) hpj
  ·obtain ⟨i, h1, h2⟩ := h
   have e : i = n := by
    by_cases e : i = n
    ·exact e
    ·exact absurd ⟨i, by omega, h2⟩ hn
   subst e
   refine ⟨i, by omega, h2, fun j hj hpj => ?_⟩
   by_cases e : j = i
   ·rw [e]; omega
   ·exact absurd ⟨j, by omega, hpj⟩ hn
theorem Lev.da_up {e : Nat} {t : Int} (h : L.da e t ≠ 0) : L.da e t = 2 * L.up e - 1 := by
 unfold Lev.da Lev.g Lev.up at *
 split at h <;> split at h <;> split <;> omega
def Lev.beyond {n : Nat} (L : Lev n) (t τ : Int) : Int := sm n fun e => (if τ < L.X e t then 1 else 0) * L.da e t
theorem Lev.beyond_val (F : L.Fine) {c : Int} (hc : ∀ e, e < n → ∀ k, L.rng e (2 * k + 1) → L.r e (2 * k + 1) + L.up e = c) (k τ : Int) :
  ((∀ e, e < n → L.da e (2 * k + 1) ≠ 0 → L.X e (2 * k + 1) ≤ τ) ∧ L.beyond (2 * k + 1) τ = 0) ∨ ∃ e, e < n ∧ L.da e (2 * k + 1) ≠ 0 ∧ τ < L.X e (2 * k + 1) ∧ L.beyond (2 * k + 1) τ = c + L.up e - 1 := by
 by_cases hex : ∃ e, e < n ∧ (L.da e (2 * k + 1) ≠ 0 ∧ τ < L.X e (2 * k + 1))
 ·obtain ⟨e, he, ⟨h1, h2⟩, h3⟩ := exists_least (fun e => L.X e (2 * k + 1)) hex
  refine .inr ⟨e, he, h1, h2, ?_⟩
  have hr := hc e he k (Lev.da_odd h1)
  have hd := Lev.da_up h1
  have : L.beyond (2 * k + 1) τ = L.r e (2 * k + 1) + L.da e (2 * k + 1) := by
   unfold Lev.beyond Lev.r
   rw [← sm_ind he (L.da e (2 * k + 1)), ← sm_add]
   refine sm_congr fun i hi => ?_
   by_cases hie : i = e
   ·subst hie
    rw [if_pos h2, L.rt_self, if_pos rfl]; simp
   ·rw [if_neg hie]
    by_cases hz : L.da i (2 * k + 1) = 0
    ·rw [hz]; simp
    ·have hs := Lev.sep_odd F (k := k) rfl (Lev.da_odd h1) (Lev.da_odd hz)
     unfold Lev.rt
     rcases F.order e i _ _ he hi (fun h => hie h.symm) hs hs with ⟨g, _⟩ | ⟨g, _⟩
     ·rw [if_pos (by omega), if_pos g]; simp
     ·rw [if_neg (fun hh => by have := h3 i hi ⟨hz, hh⟩; omega), if_neg (by omega)]; simp
  rw [this, hd]
  omega
 ·refine .inl ⟨fun e he h1 => ?_, ?_⟩
  ·by_cases h : τ < L.X e (2 * k + 1)
   ·exact absurd ⟨e, he, h1, h⟩ hex
   ·omega
  ·unfold Lev.beyond
   rw [sm_congr (g := fun _ => 0) (fun i hi => ?_), sm_zero]
   by_cases h : τ < L.X i (2 * k + 1)
   ·by_cases hz : L.da i (2 * k + 1) = 0
    ·rw [hz]; simp
    ·exact absurd ⟨i, hi, hz, h⟩ hex
   ·rw [if_neg h]; simp
theorem Lev.da_sum (t : Int) : sm n (fun e => L.da e t) = 0 := sm_cycle n fun i => L.g i t
theorem layers (B : Nat) (x : Int) (h1 : -(B : Int) ≤ x) (h2 : x ≤ B) : sm (2 * B) (fun j => if (j : Int) - B < x then 1 else 0) = x + B := by
 have : ∀ m : Nat, (m : Int) ≤ x + B → sm m (fun j => if (j : Int) - B < x then 1 else 0) = m := by
  intro m
  induction m with
  | zero => intro _; rfl
  | succ m ih =>
   intro h
   rw [sm, ih (by omega), if_pos (by omega)]; omega
 have more : ∀ (d m : Nat), x + B ≤ m → sm (m + d) (fun j => if (j : Int) - B < x then 1 else 0) = sm m (fun j => if (j : Int) - B < x then 1 else 0) := by
  intro d
  induction d with
  | zero => intro m _; rfl
  | succ d ih =>
   intro m h
   rw [← Nat.add_assoc, sm, ih m h, if_neg (by omega)]; omega
 have h3 := this (x + B).toNat (by omega)
 have h4 := more (2 * B - (x + B).toNat) (x + B).toNat (by omega)
 rw [show (x + B).toNat + (2 * B - (x + B).toNat) = 2 * B from by omega] at h4
 rw [h4, h3]
 omega
theorem Lev.level_sum (t : Int) (B : Nat) (hB : ∀ e, e < n → -(B : Int) ≤ L.X e t ∧ L.X e t ≤ B) : sm n (fun e => L.da e t * L.X e t) = sm (2 * B) fun j => L.beyond t ((j : Int) - B) := by
 have h1 : sm n (fun e => L.da e t * L.X e t) = sm n fun e => sm (2 * B) (fun j => (if (j : Int) - B < L.X e t then 1 else 0) * L.da e t) - (B : Int) * L.da e t := by
  refine sm_congr fun e he => ?_
  have h2 := layers B (L.X e t) (hB e he).1 (hB e he).2
  have h3 : sm (2 * B) (fun j => (if (j : Int) - B < L.X e t then 1 else 0) * L.da e t) = L.da e t * sm (2 * B) (fun j => if (j : Int) - B < L.X e t then 1 else 0) := by
   rw [← sm_mul]
   exact sm_congr fun j _ => Int.mul_comm _ _
  rw [h3, h2]
  grind
 rw [h1, sm_sub, sm_mul, L.da_sum, sm_swap]
 unfold Lev.beyond
 omega
theorem Lev.level_pos (F : L.Fine) {c : Int} (hc : ∀ e, e < n → ∀ k, L.rng e (2 * k + 1) → L.r e (2 * k + 1) + L.up e = c) (k : Int) :
  (c = 1 → 0 ≤ sm n (fun e => L.da e (2 * k + 1) * L.X e (2 * k + 1))) ∧ (c = 0 → sm n (fun e => L.da e (2 * k + 1) * L.X e (2 * k + 1)) ≤ 0) ∧
  ((∃ e, e < n ∧ L.da e (2 * k + 1) ≠ 0) → (c = 0 ∨ c = 1) ∧ sm n (fun e => L.da e (2 * k + 1) * L.X e (2 * k + 1)) ≠ 0) := by
 obtain ⟨B, hB⟩ : ∃ B : Nat, ∀ e, e < n → -(B : Int) ≤ L.X e (2 * k + 1) ∧ L.X e (2 * k + 1) ≤ B := by
  have : ∀ m : Nat, ∃ B : Nat, ∀ e, e < m → -(B : Int) ≤ L.X e (2 * k + 1) ∧ L.X e (2 * k + 1) ≤ B := by
   intro m
   induction m with
   | zero => exact ⟨0, fun e h => by omega⟩
   | succ m ih =>
    obtain ⟨B, hB⟩ := ih
    refine ⟨B + (L.X m (2 * k + 1)).natAbs, fun e he => ?_⟩
    by_cases h : e = m
    ·subst h; omega
    ·have := hB e (by omega); omega
  exact this n
 rw [L.level_sum _ B hB]
 have up01 : ∀ e, L.up e = 0 ∨ L.up e = 1 := fun e => by unfold Lev.up; split <;> simp
 have val := L.beyond_val F hc k
 refine ⟨fun h => sm_nonneg fun j hj => ?_, fun h => ?_, fun ⟨e, he, hz⟩ => ?_⟩
 ·rcases val ((j : Int) - B) with ⟨_, h1⟩ | ⟨e, _, _, _, h1⟩
  ·omega
  ·have := up01 e; omega
 ·have : 0 ≤ sm (2 * B) fun j => - L.beyond (2 * k + 1) ((j : Int) - B) := sm_nonneg fun j hj => by
   rcases val ((j : Int) - B) with ⟨_, h1⟩ | ⟨e, _, _, _, h1⟩
   ·omega
   ·have := up01 e; omega
  have h2 := sm_sub (2 * B) (fun _ => 0) (fun j => L.beyond (2 * k + 1) ((j : Int) - B))
  rw [sm_zero] at h2
  have h3 : (sm (2 * B) fun j => - L.beyond (2 * k + 1) ((j : Int) - B)) = sm (2 * B) fun j => 0 - L.beyond (2 * k + 1) ((j : Int) - B) := sm_congr fun j _ => by omega
  omega
 ·
  obtain ⟨m, hm, hm1, hm2⟩ := exists_least (fun e => - L.X e (2 * k + 1)) (P := fun e => L.da e (2 * k + 1) ≠ 0) ⟨e, he, hz⟩
  have hr0 : L.r m (2 * k + 1) = 0 := by
   unfold Lev.r
   rw [sm_congr (g := fun _ => 0) (fun i hi => ?_), sm_zero]
   by_cases h : L.da i (2 * k + 1) = 0
   ·rw [h]; simp
   ·have := hm2 i hi h
    unfold Lev.rt
    rw [if_neg (by omega)]; simp
  have hcm := hc m hm k (Lev.da_odd hm1)
  have u := up01 m
  have hc01 : c = 0 ∨ c = 1 := by omega
  refine ⟨hc01, ?_⟩
  have hxm := hB m hm
  -- the place just before the last one
  by_cases hlow : L.X m (2 * k + 1) = -(B : Int)
  ·
   exfalso
   have hs := L.da_sum (2 * k + 1)
   rw [sm_one hm (fun i hi hne => ?_)] at hs
   ·exact hm1 hs
   ·by_cases h : L.da i (2 * k + 1) = 0
    ·exact h
    ·exfalso
     have hs := Lev.sep_odd F (k := k) rfl (Lev.da_odd hm1) (Lev.da_odd h)
     have h1 := hm2 i hi h
     have h2 := hB i hi
     rcases F.order m i _ _ hm hi (fun h => hne h.symm) hs hs with ⟨g, _⟩ | ⟨g, _⟩ <;> omega
  ·have hj : ((L.X m (2 * k + 1) - 1 + B).toNat : Int) - B = L.X m (2 * k + 1) - 1 := by omega
   have hv : L.beyond (2 * k + 1) (L.X m (2 * k + 1) - 1) = 2 * c - 1 := by
    rcases val (L.X m (2 * k + 1) - 1) with ⟨h1, _⟩ | ⟨e', he', h1, h2, h3⟩
    ·have := h1 m hm hm1; omega
    ·have h4 := hm2 e' he' h1
     have hem : e' = m := by
      by_cases hh : e' = m
      ·exact hh
      ·exfalso
       have hs := Lev.sep_odd F (k := k) rfl (Lev.da_odd hm1) (Lev.da_odd h1)
       rcases F.order m e' _ _ hm he' (fun h => hh h.symm) hs hs with ⟨g, _⟩ | ⟨g, _⟩ <;> omega
     subst hem
     omega
   rcases hc01 with h | h
   ·have hpos : 0 < sm (2 * B) fun j => - L.beyond (2 * k + 1) ((j : Int) - B) := by
     refine sm_pos (k := (L.X m (2 * k + 1) - 1 + B).toNat) (fun j hj => ?_) (by omega) ?_
     ·rcases val ((j : Int) - B) with ⟨_, h1⟩ | ⟨e, _, _, _, h1⟩
      ·omega
      ·have := up01 e; omega
     ·rw [hj, hv, h]; decide
    have h2 := sm_sub (2 * B) (fun _ => 0) (fun j => L.beyond (2 * k + 1) ((j : Int) - B))
    rw [sm_zero] at h2
    have h3 : (sm (2 * B) fun j => - L.beyond (2 * k + 1) ((j : Int) - B)) = sm (2 * B) fun j => 0 - L.beyond (2 * k + 1) ((j : Int) - B) := sm_congr fun j _ => by omega
    omega
   ·have hpos : 0 < sm (2 * B) fun j => L.beyond (2 * k + 1) ((j : Int) - B) := by
     refine sm_pos (k := (L.X m (2 * k + 1) - 1 + B).toNat) (fun j hj => ?_) (by omega) ?_
     ·rcases val ((j : Int) - B) with ⟨_, h1⟩ | ⟨e, _, _, _, h1⟩
      ·omega
      ·have := up01 e; omega
     ·rw [hj, hv, h]; decide
    omega
end
end Geo
/-
 Closed contours by their levels, part 3: the area is not zero. Lines over segments.
-/
namespace Geo
section
variable {n : Nat} {L : Lev n}
theorem psum (c σ : Int) (S : Nat) : ∀ m : Nat, sm m (fun s => c + σ * (2 * ((s : Int) - S) + 1)) = c * m + σ * ((m : Int) * m - 2 * S * m)
 | 0 => by simp [sm]
 | m + 1 => by
  rw [sm, psum c σ S m]
  grind
theorem cut (S : Nat) (q : Int) (h1 : -(S : Int) ≤ q) (h2 : q ≤ S) (f : Nat → Int) : sm (2 * S) (fun s => (if 2 * ((s : Int) - S) + 1 < 2 * q then 1 else 0) * f s) = sm (q + S).toNat f := by
 have a : ∀ m : Nat, (m : Int) ≤ q + S → sm m (fun s => (if 2 * ((s : Int) - S) + 1 < 2 * q then 1 else 0) * f s) = sm m f := by
  intro m hm
  exact sm_congr fun i hi => by rw [if_pos (by omega)]; omega
 have b : ∀ (d m : Nat), q + S ≤ m → sm (m + d) (fun s => (if 2 * ((s : Int) - S) + 1 < 2 * q then 1 else 0) * f s) = sm m (fun s => (if 2 * ((s : Int) - S) + 1 < 2 * q then 1 else 0) * f s) := by
  intro d
  induction d with
  | zero => intro m _; rfl
  | succ d ih =>
   intro m h
   rw [← Nat.add_assoc, sm, ih m h, if_neg (by omega)]; omega
 have h3 := a (q + S).toNat (by omega)
 have h4 := b (2 * S - (q + S).toNat) (q + S).toNat (by omega)
 rw [show (q + S).toNat + (2 * S - (q + S).toNat) = 2 * S from by omega] at h4
 rw [h4, h3]
theorem Lev.edge_area (F : L.Fine) {e : Nat} (he : e < n) (S : Nat) (hS : ∀ i, i < n → -(2 * S : Int) ≤ L.H i ∧ L.H i ≤ 2 * S) :
  4 * sm (2 * S) (fun s => L.da e (2 * ((s : Int) - S) + 1) * L.X e (2 * ((s : Int) - S) + 1)) = (L.H (nx n e) - L.H e) * (L.V e + L.V (nx n e)) := by
 have hx : nx n e < n := nx_lt F.big
 obtain ⟨c, σ, hX⟩ := F.aff e he
 obtain ⟨q0, h0⟩ := F.even e
 obtain ⟨q1, h1⟩ := F.even (nx n e)
 have b0 := hS e he
 have b1 := hS _ hx
 have e1 : sm (2 * S) (fun s => L.da e (2 * ((s : Int) - S) + 1) * L.X e (2 * ((s : Int) - S) + 1)) =
   sm (2 * S) (fun s => (if 2 * ((s : Int) - S) + 1 < 2 * q1 then 1 else 0) * (c + σ * (2 * ((s : Int) - S) + 1))) - sm (2 * S) (fun s => (if 2 * ((s : Int) - S) + 1 < 2 * q0 then 1 else 0) * (c + σ * (2 * ((s : Int) - S) + 1))) := by
  rw [← sm_sub]
  refine sm_congr fun s _ => ?_
  unfold Lev.da Lev.g
  rw [hX, h0, h1]
  split <;> split <;> omega
 have s0 := F.start e he
 have s1 := F.stop e he
 rw [hX, h0] at s0
 rw [hX, h1] at s1
 rw [e1, cut S q1 (by omega) (by omega), cut S q0 (by omega) (by omega), psum, psum, ← s0, ← s1, h0, h1]
 have t1 : ((q1 + S).toNat : Int) = q1 + S := by omega
 have t0 : ((q0 + S).toNat : Int) = q0 + S := by omega
 rw [t1, t0]
 grind
theorem Lev.area_ne (F : L.Fine) : sm n (fun e => (L.H (nx n e) - L.H e) * (L.V e + L.V (nx n e))) ≠ 0 := by
 obtain ⟨c, hc⟩ := L.all_round F
 have hb := F.big
 obtain ⟨S, hS⟩ : ∃ S : Nat, ∀ e, e < n → -(2 * S : Int) ≤ L.H e ∧ L.H e ≤ 2 * S := by
  have : ∀ m : Nat, ∃ S : Nat, ∀ e, e < m → -(2 * S : Int) ≤ L.H e ∧ L.H e ≤ 2 * S := by
   intro m
   induction m with
   | zero => exact ⟨0, fun e h => by omega⟩
   | succ m ih =>
    obtain ⟨B, hB⟩ := ih
    refine ⟨B + (L.H m).natAbs, fun e he => ?_⟩
    by_cases h : e = m
    ·subst h; omega
    ·have := hB e (by omega); omega
  exact this n
 have e1 : sm n (fun e => (L.H (nx n e) - L.H e) * (L.V e + L.V (nx n e))) = 4 * sm (2 * S) (fun s => sm n fun e => L.da e (2 * ((s : Int) - S) + 1) * L.X e (2 * ((s : Int) - S) + 1)) := by
  rw [← sm_swap n (2 * S) (fun e s => L.da e (2 * ((s : Int) - S) + 1) * L.X e (2 * ((s : Int) - S) + 1)), ← sm_mul]
  exact sm_congr fun e he => (L.edge_area F he S hS).symm
 rw [e1]
 -- a level that edge 0 passes
 obtain ⟨k, _, hk, _⟩ := L.round F (e := 0) (by omega)
 have hx : nx n 0 < n := nx_lt hb
 obtain ⟨q0, h0⟩ := F.even 0
 obtain ⟨q1, h1⟩ := F.even (nx n 0)
 have b0 := hS 0 (by omega)
 have b1 := hS _ hx
 have hd : L.da 0 (2 * k + 1) ≠ 0 := by
  unfold Lev.rng at hk
  unfold Lev.da Lev.g
  split <;> split <;> omega
 have hks : ((k + S).toNat : Int) - S = k := by unfold Lev.rng at hk; omega
 have hlt : (k + S).toNat < 2 * S := by unfold Lev.rng at hk; omega
 obtain ⟨hc01, hne⟩ := (L.level_pos F hc k).2.2 ⟨0, by omega, hd⟩
 have lev := fun s : Nat => L.level_pos F hc ((s : Int) - S)
 rcases hc01 with h | h
 ·have hneg : sm n (fun e => L.da e (2 * k + 1) * L.X e (2 * k + 1)) < 0 := by
   have := (L.level_pos F hc k).2.1 h
   omega
  have hp : 0 < sm (2 * S) (fun s => 0 - sm n fun e => L.da e (2 * ((s : Int) - S) + 1) * L.X e (2 * ((s : Int) - S) + 1)) := by
   refine sm_pos (k := (k + S).toNat) (fun s _ => ?_) hlt ?_
   ·have := (lev s).2.1 h
    omega
   ·rw [hks]; omega
  rw [sm_sub, sm_zero] at hp
  omega
 ·have hpos : 0 < sm n (fun e => L.da e (2 * k + 1) * L.X e (2 * k + 1)) := by
   have := (L.level_pos F hc k).1 h
   omega
  have hp : 0 < sm (2 * S) (fun s => sm n fun e => L.da e (2 * ((s : Int) - S) + 1) * L.X e (2 * ((s : Int) - S) + 1)) := by
   refine sm_pos (k := (k + S).toNat) (fun s _ => (lev s).1 h) hlt ?_
   rw [hks]; exact hpos
  omega
end
structure Line (α β M : Int) (a b : Pt) (N : Int → Int) : Prop where
 aff : ∃ c s, ∀ t, N t = c + s * t
 fst : N (ht α β a) = M * a.1
 snd : N (ht α β b) = M * b.1
section
variable {α β M : Int} {a b u v : Pt} {N O : Int → Int}
theorem Line.swap (h : Line α β M a b N) : Line α β M b a N := ⟨h.aff, h.snd, h.fst⟩
theorem Line.cross (h : Line α β M a b N) (q : Pt) : (ht α β b - ht α β a) * (M * q.1 - N (ht α β q)) = - (M * β) * cross a b q := by
 obtain ⟨⟨c, s, hN⟩, h1, h2⟩ := h
 rw [hN] at h1 h2 ⊢
 unfold Geo.cross
 have e : s * (ht α β b - ht α β a) = M * (b.1 - a.1) := by grind
 have e2 : (ht α β b - ht α β a) * (c + s * ht α β q) = (ht α β b - ht α β a) * (M * a.1) + M * (b.1 - a.1) * (ht α β q - ht α β a) := by grind
 unfold ht at *
 grind
theorem order_up (hM : 0 < M) (hβ : 0 < β) (hN : Line α β M a b N) (hO : Line α β M u v O) (hab : ht α β a < ht α β b) (huv : ht α β u < ht α β v) (hn : ¬ Meet a b u v) {t t' : Int}
  (h1 : ht α β a ≤ t ∧ t ≤ ht α β b) (h2 : ht α β u ≤ t ∧ t ≤ ht α β v) (h3 : ht α β a ≤ t' ∧ t' ≤ ht α β b) (h4 : ht α β u ≤ t' ∧ t' ≤ ht α β v) : ¬ (O t ≤ N t ∧ N t' ≤ O t') := by
 rintro ⟨g1, g2⟩
 obtain ⟨c1, s1, e1⟩ := hN.aff
 obtain ⟨c2, s2, e2⟩ := hO.aff
 have cu := hN.cross u
 have cv := hN.cross v
 have ca := hO.cross a
 have cb := hO.cross b
 rw [← hO.fst] at cu
 rw [← hO.snd] at cv
 rw [← hN.fst] at ca
 rw [← hN.snd] at cb
 have hMβ : 0 < M * β := Int.mul_pos hM hβ
 -- the difference
 have D : ∀ x, O x - N x = (c2 - c1) + (s2 - s1) * x := fun x => by rw [e1, e2]; grind
 have zero : ∀ {d y z : Int}, d * y = - (M * β) * z → y = 0 → z = 0 := by
  intro d y z h hy
  rw [hy] at h
  have h0 : (M * β) * z = 0 := by grind
  rcases Int.mul_eq_zero.1 h0 with h' | h'
  ·omega
  ·exact h'
 have pos : ∀ {d y z : Int}, 0 < d → d * y = - (M * β) * z → 0 < y → z < 0 := by
  intro d y z hd h hy
  have : 0 < d * y := Int.mul_pos hd hy
  have h0 : z * (M * β) < 0 := by grind
  exact neg_of hMβ h0
 have neg : ∀ {d y z : Int}, 0 < d → d * y = - (M * β) * z → y < 0 → 0 < z := by
  intro d y z hd h hy
  have : 0 < d * (-y) := Int.mul_pos hd (by omega)
  have h0 : 0 < z * (M * β) := by grind
  exact pos_of hMβ h0
 have du : ∀ x, O (ht α β x) - N (ht α β x) = (c2 - c1) + (s2 - s1) * ht α β x := fun x => D _
 have Dt := D t
 have Dt' := D t'
 rcases Int.lt_trichotomy 0 (s2 - s1) with hs | hs | hs
 ·have mono : ∀ x y, x ≤ y → O x - N x ≤ O y - N y := fun x y hxy => by
   rw [D, D]
   have := Int.mul_le_mul_of_nonneg_left hxy (Int.le_of_lt hs)
   omega
  have strict : ∀ x y, x ≤ y → O x - N x = O y - N y → x = y := fun x y hxy he => by
   rw [D, D] at he
   have h0 : (s2 - s1) * (y - x) = 0 := by grind
   rcases Int.mul_eq_zero.1 h0 with h' | h' <;> omega
  have mu := mono _ _ h2.1
  have ma := mono _ _ h1.1
  have mv := mono _ _ h4.2
  have mb := mono _ _ h3.2
  by_cases zu : O (ht α β u) - N (ht α β u) = 0
  ·have := strict _ _ h2.1 (by omega)
   exact hn (.inl (on_of (zero cu zu) (by omega) (by omega) hab))
  ·by_cases zv : O (ht α β v) - N (ht α β v) = 0
   ·have := strict _ _ h4.2 (by omega)
    exact hn (.inr (.inl (on_of (zero cv zv) (by omega) (by omega) hab)))
   ·by_cases za : O (ht α β a) - N (ht α β a) = 0
    ·have := strict _ _ h1.1 (by omega)
     exact hn (.inr (.inr (.inl (on_of (zero ca (by omega)) (by omega) (by omega) huv))))
    ·by_cases zb : O (ht α β b) - N (ht α β b) = 0
     ·have := strict _ _ h3.2 (by omega)
      exact hn (.inr (.inr (.inr (.inl (on_of (zero cb (by omega)) (by omega) (by omega) huv)))))
     ·exact hn (.inr (.inr (.inr (.inr ⟨.inr ⟨neg (by omega) cu (by omega), pos (by omega) cv (by omega)⟩, .inl ⟨pos (by omega) ca (by omega), neg (by omega) cb (by omega)⟩⟩))))
 ·have z : ∀ x, O x - N x = c2 - c1 := fun x => by rw [D, ← hs]; omega
  have zt := z t
  have zt' := z t'
  by_cases h : ht α β a ≤ ht α β u
  ·exact hn (.inl (on_of (zero cu (by rw [z]; omega)) h (by omega) hab))
  ·exact hn (.inr (.inr (.inl (on_of (zero ca (by have := z (ht α β a); omega)) (by omega) (by omega) huv))))
 ·have mono : ∀ x y, x ≤ y → O y - N y ≤ O x - N x := fun x y hxy => by
   rw [D, D]
   have := Int.mul_le_mul_of_nonneg_left hxy (show 0 ≤ -(s2 - s1) by omega)
   grind
  have strict : ∀ x y, x ≤ y → O x - N x = O y - N y → x = y := fun x y hxy he => by
   rw [D, D] at he
   have h0 : (s2 - s1) * (y - x) = 0 := by grind
   rcases Int.mul_eq_zero.1 h0 with h' | h' <;> omega
  have mu := mono _ _ h4.1
  have ma := mono _ _ h3.1
  have mv := mono _ _ h2.2
  have mb := mono _ _ h1.2
  by_cases zu : O (ht α β u) - N (ht α β u) = 0
  ·have := strict _ _ h4.1 (by omega)
   exact hn (.inl (on_of (zero cu zu) (by omega) (by omega) hab))
  ·by_cases zv : O (ht α β v) - N (ht α β v) = 0
   ·have := strict _ _ h2.2 (by omega)
    exact hn (.inr (.inl (on_of (zero cv zv) (by omega) (by omega) hab)))
   ·by_cases za : O (ht α β a) - N (ht α β a) = 0
    ·have := strict _ _ h3.1 (by omega)
     exact hn (.inr (.inr (.inl (on_of (zero ca (by omega)) (by omega) (by omega) huv))))
    ·by_cases zb : O (ht α β b) - N (ht α β b) = 0
     ·have := strict _ _ h1.2 (by omega)
      exact hn (.inr (.inr (.inr (.inl (on_of (zero cb (by omega)) (by omega) (by omega) huv)))))
     ·exact hn (.inr (.inr (.inr (.inr ⟨.inl ⟨pos (by omega) cu (by omega), neg (by omega) cv (by omega)⟩, .inr ⟨neg (by omega) ca (by omega), pos (by omega) cb (by omega)⟩⟩))))
def rngP (α β : Int) (a b : Pt) (t : Int) : Prop := (ht α β a ≤ t ∧ t ≤ ht α β b) ∨ (ht α β b ≤ t ∧ t ≤ ht α β a)
theorem order_apart (hM : 0 < M) (hβ : 0 < β) (hN : Line α β M a b N) (hO : Line α β M u v O) (hab : ht α β a ≠ ht α β b) (huv : ht α β u ≠ ht α β v) (hn : ¬ Meet a b u v) {t t' : Int}
  (h1 : rngP α β a b t) (h2 : rngP α β u v t) (h3 : rngP α β a b t') (h4 : rngP α β u v t') : (N t < O t ∧ N t' < O t') ∨ (O t < N t ∧ O t' < N t') := by
 have key : ∀ {s s' : Int}, rngP α β a b s → rngP α β u v s → rngP α β a b s' → rngP α β u v s' → ¬ (O s ≤ N s ∧ N s' ≤ O s') := by
  intro s s' h1 h2 h3 h4
  unfold rngP at *
  rcases Int.lt_or_lt_of_ne hab with g | g <;> rcases Int.lt_or_lt_of_ne huv with g' | g'
  ·exact order_up hM hβ hN hO g g' hn (by omega) (by omega) (by omega) (by omega)
  ·exact order_up hM hβ hN hO.swap g g' (fun h => hn h.symm.swap.symm) (by omega) (by omega) (by omega) (by omega)
  ·exact order_up hM hβ hN.swap hO g g' (fun h => hn h.swap) (by omega) (by omega) (by omega) (by omega)
  ·exact order_up hM hβ hN.swap hO.swap g g' (fun h => hn h.swap.symm.swap.symm) (by omega) (by omega) (by omega) (by omega)
 have k1 := key h1 h2 h3 h4
 have k2 := key h3 h4 h1 h2
 have k3 := key h1 h2 h1 h2
 have k4 := key h3 h4 h3 h4
 omega
theorem order_corner (hM : 0 < M) (hβ : 0 < β) (hN : Line α β M a b N) (hO : Line α β M b v O) (hab : ht α β a ≠ ht α β b) (hbv : ht α β b ≠ ht α β v) (hn1 : ¬ On v a b) (hn2 : ¬ On a b v) {t t' : Int}
  (h1 : rngP α β a b t) (h2 : rngP α β b v t) (h3 : rngP α β a b t') (h4 : rngP α β b v t') (ht1 : t ≠ ht α β b) (ht2 : t' ≠ ht α β b) : (N t < O t ∧ N t' < O t') ∨ (O t < N t ∧ O t' < N t') := by
 obtain ⟨c1, s1, e1⟩ := hN.aff
 obtain ⟨c2, s2, e2⟩ := hO.aff
 have hMβ : 0 < M * β := Int.mul_pos hM hβ
 have hb : N (ht α β b) = O (ht α β b) := hN.snd.trans hO.fst.symm
 have D : ∀ x, O x - N x = (s2 - s1) * (x - ht α β b) := fun x => by
  rw [e1, e2] at hb
  rw [e1, e2]; grind
 have cv := hN.cross v
 rw [← hO.snd] at cv
 by_cases hs : s2 - s1 = 0
 ·exfalso
  have hz : O (ht α β v) - N (ht α β v) = 0 := by rw [D, hs]; omega
  rw [hz] at cv
  have h0 : (M * β) * cross a b v = 0 := by grind
  have hc : cross a b v = 0 := by
   rcases Int.mul_eq_zero.1 h0 with h' | h'
   ·omega
   ·exact h'
  have hc2 : cross b v a = 0 := by rw [cross_rot]; exact hc
  unfold rngP at *
  by_cases hlt : t < ht α β b
  ·by_cases hav : ht α β a ≤ ht α β v
   ·exact hn1 (on_of hc hav (by omega) (by omega))
   ·refine hn2 (On.swap (on_of (α := α) (β := β) ?_ (by omega) (by omega) (by omega)))
    rw [cross_swap, hc2]; rfl
  ·by_cases hav : ht α β a ≤ ht α β v
   ·exact hn2 (on_of (α := α) (β := β) hc2 (by omega) (by omega) (by omega))
   ·refine hn1 (On.swap (on_of (α := α) (β := β) ?_ (by omega) (by omega) (by omega)))
    rw [cross_swap, hc]; rfl
 ·have same : (t < ht α β b ∧ t' < ht α β b) ∨ (ht α β b < t ∧ ht α β b < t') := by unfold rngP at *; omega
  have Dt := D t
  have Dt' := D t'
  have sg : ∀ x, x < ht α β b → (0 < s2 - s1 → O x < N x) ∧ (s2 - s1 < 0 → N x < O x) := by
   intro x hx
   have Dx := D x
   refine ⟨fun h => ?_, fun h => ?_⟩
   ·have : 0 < (s2 - s1) * (ht α β b - x) := Int.mul_pos h (by omega)
    grind
   ·have : 0 < (-(s2 - s1)) * (ht α β b - x) := Int.mul_pos (by omega) (by omega)
    grind
  have sg' : ∀ x, ht α β b < x → (0 < s2 - s1 → N x < O x) ∧ (s2 - s1 < 0 → O x < N x) := by
   intro x hx
   have Dx := D x
   refine ⟨fun h => ?_, fun h => ?_⟩
   ·have : 0 < (s2 - s1) * (x - ht α β b) := Int.mul_pos h (by omega)
    grind
   ·have : 0 < (-(s2 - s1)) * (x - ht α β b) := Int.mul_pos (by omega) (by omega)
    grind
  rcases Int.lt_or_lt_of_ne hs with h | h <;> rcases same with ⟨g1, g2⟩ | ⟨g1, g2⟩
  ·exact .inl ⟨(sg t g1).2 h, (sg t' g2).2 h⟩
  ·exact .inr ⟨(sg' t g1).2 h, (sg' t' g2).2 h⟩
  ·exact .inr ⟨(sg t g1).1 h, (sg t' g2).1 h⟩
  ·exact .inl ⟨(sg' t g1).1 h, (sg' t' g2).1 h⟩
end
end Geo
