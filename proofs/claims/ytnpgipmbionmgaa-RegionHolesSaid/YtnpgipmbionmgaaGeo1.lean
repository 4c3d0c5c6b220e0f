/-
  Points and segments of the plane with integer coordinates: sides, meeting, heights.
-/
set_option linter.all false
namespace Geo

abbrev Pt := Int × Int
/-- twice the signed area of a triangle -/
def cross (a b c : Pt) : Int := (b.1 - a.1) * (c.2 - a.2) - (b.2 - a.2) * (c.1 - a.1)
def btw (a b q : Int) : Prop := (a ≤ q ∧ q ≤ b) ∨ (b ≤ q ∧ q ≤ a)
/-- q lies on the segment from a to b -/
def On (q a b : Pt) : Prop := cross a b q = 0 ∧ btw a.1 b.1 q.1 ∧ btw a.2 b.2 q.2
def opp (s t : Int) : Prop := (s < 0 ∧ 0 < t) ∨ (0 < s ∧ t < 0)
/-- the segments ab and cd have a point in common -/
def Meet (a b c d : Pt) : Prop := On c a b ∨ On d a b ∨ On a c d ∨ On b c d ∨ (opp (cross a b c) (cross a b d) ∧ opp (cross c d a) (cross c d b))

/-- a height: a linear function -/
def ht (α β : Int) (p : Pt) : Int := α * p.1 + β * p.2

theorem cross_swap (a b c : Pt) : cross b a c = - cross a b c := by unfold cross; grind
theorem cross_rot (a b c : Pt) : cross b c a = cross a b c := by unfold cross; grind
theorem cross_self_left (a b : Pt) : cross a b a = 0 := by unfold cross; grind
theorem cross_self_right (a b : Pt) : cross a b b = 0 := by unfold cross; grind
theorem cross_same (a c : Pt) : cross a a c = 0 := by unfold cross; grind

theorem cross_diff (a b u v : Pt) : cross a b u - cross a b v = cross u v b - cross u v a := by unfold cross; grind
theorem cross_ht (α β : Int) (a b u v : Pt) : cross a b u * ht α β v - cross a b v * ht α β u = cross u v b * ht α β a - cross u v a * ht α β b := by unfold cross ht; grind
/-- the same from any level -/
theorem cross_lvl (α β t : Int) (a b u v : Pt) : cross a b u * (ht α β v - t) - cross a b v * (ht α β u - t) = cross u v b * (ht α β a - t) - cross u v a * (ht α β b - t) := by
  have h1 := cross_ht α β a b u v
  have h2 := cross_diff a b u v
  grind

theorem scale_btw {d e x y : Int} (hd : 0 < d) (h0 : 0 ≤ e) (h1 : e ≤ d) (h : y * d = x * e) : btw 0 x y := by
  by_cases hx : 0 ≤ x
  · have a1 : 0 ≤ x * e := Int.mul_nonneg hx h0
    have a2 : x * e ≤ x * d := Int.mul_le_mul_of_nonneg_left h1 hx
    refine .inl ⟨?_, ?_⟩
    · have : 0 * d ≤ y * d := by omega
      exact Int.le_of_mul_le_mul_right this hd
    · have : y * d ≤ x * d := by omega
      exact Int.le_of_mul_le_mul_right this hd
  · have hx' : x ≤ 0 := by omega
    have a1 : x * e ≤ 0 := Int.mul_nonpos_of_nonpos_of_nonneg hx' h0
    have a2 : x * d ≤ x * e := by
      have := Int.mul_le_mul_of_nonneg_left h1 (show 0 ≤ -x by omega)
      grind
    refine .inr ⟨?_, ?_⟩
    · have : x * d ≤ y * d := by omega
      exact Int.le_of_mul_le_mul_right this hd
    · have : y * d ≤ 0 * d := by omega
      exact Int.le_of_mul_le_mul_right this hd

theorem on_of {α β : Int} {u v b : Pt} (hc : cross u v b = 0) (h1 : ht α β u ≤ ht α β b) (h2 : ht α β b ≤ ht α β v) (h3 : ht α β u < ht α β v) : On b u v := by
  have e1 : (b.1 - u.1) * (ht α β v - ht α β u) = (v.1 - u.1) * (ht α β b - ht α β u) := by
    have : (b.1 - u.1) * (ht α β v - ht α β u) - (v.1 - u.1) * (ht α β b - ht α β u) = - β * cross u v b := by unfold ht cross; grind
    rw [hc] at this; omega
  have e2 : (b.2 - u.2) * (ht α β v - ht α β u) = (v.2 - u.2) * (ht α β b - ht α β u) := by
    have : (b.2 - u.2) * (ht α β v - ht α β u) - (v.2 - u.2) * (ht α β b - ht α β u) = α * cross u v b := by unfold ht cross; grind
    rw [hc] at this; omega
  have b1 := scale_btw (by omega) (by omega) (by omega) e1
  have b2 := scale_btw (by omega) (by omega) (by omega) e2
  refine ⟨hc, ?_, ?_⟩
  · unfold btw at b1 ⊢; omega
  · unfold btw at b2 ⊢; omega

theorem On.swap {q a b : Pt} (h : On q a b) : On q b a := by
  obtain ⟨h1, h2, h3⟩ := h
  refine ⟨by rw [cross_swap, h1]; rfl, ?_, ?_⟩
  · unfold btw at *; omega
  · unfold btw at *; omega
theorem On.left (a b : Pt) : On a a b := by
  refine ⟨cross_self_left a b, ?_, ?_⟩ <;> (unfold btw; omega)
theorem On.right (a b : Pt) : On b a b := by
  refine ⟨cross_self_right a b, ?_, ?_⟩ <;> (unfold btw; omega)
theorem Meet.symm {a b c d : Pt} (h : Meet a b c d) : Meet c d a b := by
  rcases h with h | h | h | h | ⟨h1, h2⟩
  · exact .inr (.inr (.inl h))
  · exact .inr (.inr (.inr (.inl h)))
  · exact .inl h
  · exact .inr (.inl h)
  · exact .inr (.inr (.inr (.inr ⟨h2, h1⟩)))
theorem Meet.swap {a b c d : Pt} (h : Meet a b c d) : Meet b a c d := by
  rcases h with h | h | h | h | ⟨h1, h2⟩
  · exact .inl h.swap
  · exact .inr (.inl h.swap)
  · exact .inr (.inr (.inr (.inl h)))
  · exact .inr (.inr (.inl h))
  · refine .inr (.inr (.inr (.inr ⟨?_, ?_⟩)))
    · have e1 := cross_swap a b c
      have e2 := cross_swap a b d
      unfold opp at *
      omega
    · unfold opp at *; omega

theorem pos_of {x d : Int} (hd : 0 < d) (h : 0 < x * d) : 0 < x := by
  have : 0 * d < x * d := by omega
  exact Int.lt_of_mul_lt_mul_right this (Int.le_of_lt hd)
theorem neg_of {x d : Int} (hd : 0 < d) (h : x * d < 0) : x < 0 := by
  have : x * d < 0 * d := by omega
  exact Int.lt_of_mul_lt_mul_right this (Int.le_of_lt hd)

/-- two upward segments that do not meet: both ends of ab within the heights of uv lie on one side of uv -/
theorem side_ab {α β : Int} {a b u v : Pt} (hab : ht α β a < ht α β b) (hua : ht α β u ≤ ht α β a) (hbv : ht α β b ≤ ht α β v) (hn : ¬ Meet a b u v) :
    (0 < cross u v a ∧ 0 < cross u v b) ∨ (cross u v a < 0 ∧ cross u v b < 0) := by
  have huv : ht α β u < ht α β v := by omega
  have za : cross u v a ≠ 0 := fun h => hn (.inr (.inr (.inl (on_of h hua (by omega) huv))))
  have zb : cross u v b ≠ 0 := fun h => hn (.inr (.inr (.inr (.inl (on_of h (by omega) hbv huv)))))
  have l1 := cross_lvl α β (ht α β v) a b u v
  have l2 := cross_lvl α β (ht α β u) a b u v
  rcases Int.lt_or_lt_of_ne za with sa | sa <;> rcases Int.lt_or_lt_of_ne zb with sb | sb
  · exact .inr ⟨sa, sb⟩
  · exfalso
    have p1 : 0 < cross u v b * (ht α β v - ht α β a) := Int.mul_pos sb (by omega)
    have p2 : 0 ≤ - cross u v a * (ht α β v - ht α β b) := Int.mul_nonneg (by omega) (by omega)
    have p3 : 0 ≤ cross u v b * (ht α β a - ht α β u) := Int.mul_nonneg (by omega) (by omega)
    have p4 : 0 < - cross u v a * (ht α β b - ht α β u) := Int.mul_pos (by omega) (by omega)
    have q1 : cross a b v < 0 := neg_of (d := ht α β v - ht α β u) (by omega) (by grind)
    have q2 : 0 < cross a b u := pos_of (d := ht α β v - ht α β u) (by omega) (by grind)
    exact hn (.inr (.inr (.inr (.inr ⟨.inr ⟨q2, q1⟩, .inl ⟨sa, sb⟩⟩))))
  · exfalso
    have p1 : 0 < - cross u v b * (ht α β v - ht α β a) := Int.mul_pos (by omega) (by omega)
    have p2 : 0 ≤ cross u v a * (ht α β v - ht α β b) := Int.mul_nonneg (by omega) (by omega)
    have p3 : 0 ≤ - cross u v b * (ht α β a - ht α β u) := Int.mul_nonneg (by omega) (by omega)
    have p4 : 0 < cross u v a * (ht α β b - ht α β u) := Int.mul_pos (by omega) (by omega)
    have q1 : 0 < cross a b v := pos_of (d := ht α β v - ht α β u) (by omega) (by grind)
    have q2 : cross a b u < 0 := neg_of (d := ht α β v - ht α β u) (by omega) (by grind)
    exact hn (.inr (.inr (.inr (.inr ⟨.inl ⟨q2, q1⟩, .inr ⟨sa, sb⟩⟩))))
  · exact .inl ⟨sa, sb⟩

/-- a lies within the heights of uv, v within those of ab -/
theorem side_av {α β : Int} {a b u v : Pt} (hab : ht α β a < ht α β b) (huv : ht α β u < ht α β v) (hua : ht α β u ≤ ht α β a) (hav : ht α β a ≤ ht α β v) (hvb : ht α β v ≤ ht α β b) (hn : ¬ Meet a b u v) :
    (0 < cross u v a ∧ cross a b v < 0) ∨ (cross u v a < 0 ∧ 0 < cross a b v) := by
  have za : cross u v a ≠ 0 := fun h => hn (.inr (.inr (.inl (on_of h hua hav huv))))
  have zv : cross a b v ≠ 0 := fun h => hn (.inr (.inl (on_of h hav hvb hab)))
  have l1 := cross_lvl α β (ht α β a) a b u v
  have l2 := cross_lvl α β (ht α β v) a b u v
  rcases Int.lt_or_lt_of_ne za with sa | sa <;> rcases Int.lt_or_lt_of_ne zv with sv | sv
  · exfalso
    have p1 : 0 ≤ - cross a b v * (ht α β a - ht α β u) := Int.mul_nonneg (by omega) (by omega)
    have p2 : 0 < - cross u v a * (ht α β b - ht α β a) := Int.mul_pos (by omega) (by omega)
    have p3 : 0 < - cross a b v * (ht α β v - ht α β u) := Int.mul_pos (by omega) (by omega)
    have p4 : 0 ≤ - cross u v a * (ht α β b - ht α β v) := Int.mul_nonneg (by omega) (by omega)
    have e1 : 0 < cross a b u * (ht α β v - ht α β a) := by grind
    have hd : 0 < ht α β v - ht α β a := by
      rcases Int.lt_or_eq_of_le hav with h | h
      · omega
      · rw [h] at e1; simp at e1
    have q1 : 0 < cross a b u := pos_of hd e1
    have q2 : 0 < cross u v b := pos_of hd (by grind)
    exact hn (.inr (.inr (.inr (.inr ⟨.inr ⟨q1, sv⟩, .inl ⟨sa, q2⟩⟩))))
  · exact .inr ⟨sa, sv⟩
  · exact .inl ⟨sa, sv⟩
  · exfalso
    have p1 : 0 ≤ cross a b v * (ht α β a - ht α β u) := Int.mul_nonneg (by omega) (by omega)
    have p2 : 0 < cross u v a * (ht α β b - ht α β a) := Int.mul_pos (by omega) (by omega)
    have p3 : 0 < cross a b v * (ht α β v - ht α β u) := Int.mul_pos (by omega) (by omega)
    have p4 : 0 ≤ cross u v a * (ht α β b - ht α β v) := Int.mul_nonneg (by omega) (by omega)
    have e1 : cross a b u * (ht α β v - ht α β a) < 0 := by grind
    have hd : 0 < ht α β v - ht α β a := by
      rcases Int.lt_or_eq_of_le hav with h | h
      · omega
      · rw [h] at e1; simp at e1
    have q1 : cross a b u < 0 := neg_of hd e1
    have q2 : cross u v b < 0 := neg_of hd (by grind)
    exact hn (.inr (.inr (.inr (.inr ⟨.inl ⟨q1, sv⟩, .inr ⟨sa, q2⟩⟩))))

theorem not_on {α β : Int} {a b q : Pt} (hab : ht α β a < ht α β b) (h1 : ht α β a ≤ ht α β q) (h2 : ht α β q ≤ ht α β b) (hn : ¬ On q a b) : cross a b q ≠ 0 := fun h => hn (on_of h h1 h2 hab)
end Geo
