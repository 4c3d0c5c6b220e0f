/-
  Points on segments: common points, parts of segments; contours that do not touch.
-/
import Derived.Test.YtnpgipmbionmgaaGeo7
set_option linter.all false
namespace Geo

theorem sq_nonneg (x : Int) : 0 ≤ x * x := by
  by_cases h : x = 0
  · rw [h]; decide
  · exact Int.le_of_lt (sq_pos h)

theorem btw_mul {a b q : Int} (h : btw a b q) : 0 ≤ (q - a) * (b - a) ∧ (q - a) * (b - a) ≤ (b - a) * (b - a) := by
  rcases h with ⟨h1, h2⟩ | ⟨h1, h2⟩
  · exact ⟨Int.mul_nonneg (by omega) (by omega), Int.mul_le_mul_of_nonneg_right (by omega) (by omega)⟩
  · have k1 := Int.mul_nonneg (show 0 ≤ a - q by omega) (show 0 ≤ a - b by omega)
    have k2 := Int.mul_nonneg (show 0 ≤ q - b by omega) (show 0 ≤ a - b by omega)
    constructor
    · grind
    · grind

/-- how far along -/
theorem On.param {q a b : Pt} (h : On q a b) (hne : a ≠ b) : ∃ N s : Int, 0 < N ∧ 0 ≤ s ∧ s ≤ N ∧ (q.1 - a.1) * N = s * (b.1 - a.1) ∧ (q.2 - a.2) * N = s * (b.2 - a.2) := by
  obtain ⟨hc, h1, h2⟩ := h
  have m1 := btw_mul h1
  have m2 := btw_mul h2
  refine ⟨(b.1 - a.1) * (b.1 - a.1) + (b.2 - a.2) * (b.2 - a.2), (q.1 - a.1) * (b.1 - a.1) + (q.2 - a.2) * (b.2 - a.2), ?_, by omega, by omega, ?_, ?_⟩
  · have n1 := sq_nonneg (b.1 - a.1)
    have n2 := sq_nonneg (b.2 - a.2)
    by_cases g1 : b.1 - a.1 = 0
    · by_cases g2 : b.2 - a.2 = 0
      · exact absurd (Prod.ext (by omega) (by omega)) hne
      · have := sq_pos g2; omega
    · have := sq_pos g1; omega
  · unfold cross at hc
    grind
  · unfold cross at hc
    grind

theorem opp_of {x y u v : Int} (hx : 0 < x) (hy : 0 < y) (h : x * u + y * v = 0) : opp u v ∨ (u = 0 ∧ v = 0) := by
  rcases Int.lt_trichotomy u 0 with g | g | g
  · have : 0 < x * (-u) := Int.mul_pos hx (by omega)
    have h2 : 0 < v * y := by grind
    exact .inl (.inl ⟨g, pos_of hy h2⟩)
  · rw [g] at h
    have h2 : y * v = 0 := by omega
    rcases Int.mul_eq_zero.1 h2 with h3 | h3
    · omega
    · exact .inr ⟨g, h3⟩
  · have : 0 < x * u := Int.mul_pos hx g
    have h2 : v * y < 0 := by grind
    exact .inl (.inr ⟨g, neg_of hy h2⟩)

theorem eq_of_mul {x y N : Int} (hN : 0 < N) (h : x * N = y * N) : x = y := Int.eq_of_mul_eq_mul_right (by omega) h

/-- SEGMENTS WITH A COMMON POINT MEET. -/
theorem common {q a b c d : Pt} (h1 : On q a b) (h2 : On q c d) (hab : a ≠ b) (hcd : c ≠ d) : Meet a b c d := by
  obtain ⟨N, s, hN, s0, sN, x1, x2⟩ := h1.param hab
  obtain ⟨K, r, hK, r0, rK, y1, y2⟩ := h2.param hcd
  by_cases e1 : r = 0
  · have : q = c := by
      rw [e1] at y1 y2
      exact Prod.ext (by have := eq_of_mul (x := q.1 - c.1) (y := 0) hK (by omega); omega) (by have := eq_of_mul (x := q.2 - c.2) (y := 0) hK (by omega); omega)
    rw [this] at h1
    exact .inl h1
  · by_cases e2 : r = K
    · have : q = d := by
        rw [e2] at y1 y2
        exact Prod.ext (by have := eq_of_mul (x := q.1 - c.1) (y := d.1 - c.1) hK (by grind); omega) (by have := eq_of_mul (x := q.2 - c.2) (y := d.2 - c.2) hK (by grind); omega)
      rw [this] at h1
      exact .inr (.inl h1)
    · by_cases e3 : s = 0
      · have : q = a := by
          rw [e3] at x1 x2
          exact Prod.ext (by have := eq_of_mul (x := q.1 - a.1) (y := 0) hN (by omega); omega) (by have := eq_of_mul (x := q.2 - a.2) (y := 0) hN (by omega); omega)
        rw [this] at h2
        exact .inr (.inr (.inl h2))
      · by_cases e4 : s = N
        · have : q = b := by
            rw [e4] at x1 x2
            exact Prod.ext (by have := eq_of_mul (x := q.1 - a.1) (y := b.1 - a.1) hN (by grind); omega) (by have := eq_of_mul (x := q.2 - a.2) (y := b.2 - a.2) hN (by grind); omega)
          rw [this] at h2
          exact .inr (.inr (.inr (.inl h2)))
        · have A : (K - r) * cross a b c + r * cross a b d = 0 := by
            have : (K - r) * cross a b c + r * cross a b d = K * cross a b q := by unfold cross; grind
            rw [this, h1.1]; simp
          have C : (N - s) * cross c d a + s * cross c d b = 0 := by
            have : (N - s) * cross c d a + s * cross c d b = N * cross c d q := by unfold cross; grind
            rw [this, h2.1]; simp
          have D := cross_diff a b c d
          have flat : cross a b c = 0 → cross c d a = 0 → Meet a b c d := by
            intro z1 z2
            -- along ab
            have hh : ht (b.1 - a.1) (b.2 - a.2) a < ht (b.1 - a.1) (b.2 - a.2) b := by
              have n1 := sq_nonneg (b.1 - a.1)
              have n2 := sq_nonneg (b.2 - a.2)
              have e : ht (b.1 - a.1) (b.2 - a.2) b - ht (b.1 - a.1) (b.2 - a.2) a = (b.1 - a.1) * (b.1 - a.1) + (b.2 - a.2) * (b.2 - a.2) := by unfold ht; grind
              by_cases g1 : b.1 - a.1 = 0
              · by_cases g2 : b.2 - a.2 = 0
                · exact absurd (Prod.ext (by omega) (by omega)) hab
                · have := sq_pos g2; omega
              · have := sq_pos g1; omega
            have z3 : cross a b d = 0 := by
              rw [z1] at A
              have h0 : r * cross a b d = 0 := by omega
              rcases Int.mul_eq_zero.1 h0 with h | h
              · omega
              · exact h
            -- heights of q
            have q1 : (ht (b.1 - a.1) (b.2 - a.2) q - ht (b.1 - a.1) (b.2 - a.2) a) * N = s * (ht (b.1 - a.1) (b.2 - a.2) b - ht (b.1 - a.1) (b.2 - a.2) a) := by unfold ht; grind
            have q2 : (ht (b.1 - a.1) (b.2 - a.2) q - ht (b.1 - a.1) (b.2 - a.2) c) * K = r * (ht (b.1 - a.1) (b.2 - a.2) d - ht (b.1 - a.1) (b.2 - a.2) c) := by unfold ht; grind
            generalize hta : ht (b.1 - a.1) (b.2 - a.2) a = ta at *
            generalize htb : ht (b.1 - a.1) (b.2 - a.2) b = tb at *
            generalize htc : ht (b.1 - a.1) (b.2 - a.2) c = tc at *
            generalize htd : ht (b.1 - a.1) (b.2 - a.2) d = td at *
            generalize htq : ht (b.1 - a.1) (b.2 - a.2) q = tq at *
            have b1 : btw 0 (tb - ta) (tq - ta) := scale_btw hN s0 sN (by rw [q1]; exact Int.mul_comm _ _)
            have b2 : btw 0 (td - tc) (tq - tc) := scale_btw hK r0 rK (by rw [q2]; exact Int.mul_comm _ _)
            unfold btw at b1 b2
            by_cases g : ta ≤ tc ∧ tc ≤ tb
            · exact .inl (on_of (α := b.1 - a.1) (β := b.2 - a.2) z1 (by omega) (by omega) (by omega))
            · by_cases g' : ta ≤ td ∧ td ≤ tb
              · exact .inr (.inl (on_of (α := b.1 - a.1) (β := b.2 - a.2) z3 (by omega) (by omega) (by omega)))
              · by_cases g'' : tc ≤ td
                · exact .inr (.inr (.inl (on_of (α := b.1 - a.1) (β := b.2 - a.2) z2 (by omega) (by omega) (by omega))))
                · refine .inr (.inr (.inl (On.swap (on_of (α := b.1 - a.1) (β := b.2 - a.2) ?_ (by omega) (by omega) (by omega)))))
                  rw [cross_swap, z2]; rfl
          rcases opp_of (by omega) (by omega) A with oA | ⟨zA, zA'⟩
          · rcases opp_of (by omega) (by omega) C with oC | ⟨zC, zC'⟩
            · exact .inr (.inr (.inr (.inr ⟨oA, oC⟩)))
            · refine flat ?_ zC
              have he : cross a b c = cross a b d := by omega
              rw [← he] at A
              have : K * cross a b c = 0 := by grind
              rcases Int.mul_eq_zero.1 this with h | h
              · omega
              · exact h
          · refine flat zA ?_
            have he : cross c d a = cross c d b := by omega
            rw [← he] at C
            have : N * cross c d a = 0 := by grind
            rcases Int.mul_eq_zero.1 this with h | h
            · omega
            · exact h

/-- on a part of a segment -/
theorem On.trans {q c a b : Pt} (hq : On q a b) (hc : On c a q) (hab : a ≠ b) (haq : a ≠ q) : On c a b := by
  obtain ⟨N, s, hN, s0, sN, x1, x2⟩ := hq.param hab
  obtain ⟨h0, h1, h2⟩ := hc
  obtain ⟨_, g1, g2⟩ := hq
  refine ⟨?_, by unfold btw at *; omega, by unfold btw at *; omega⟩
  have e : s * cross a b c = N * cross a q c := by unfold cross; grind
  rw [h0] at e
  have h3 : s * cross a b c = 0 := by omega
  rcases Int.mul_eq_zero.1 h3 with h | h
  · exfalso
    rw [h] at x1 x2
    exact haq (Prod.ext (by have := eq_of_mul (x := q.1 - a.1) (y := 0) hN (by omega); omega) (by have := eq_of_mul (x := q.2 - a.2) (y := 0) hN (by omega); omega))
  · exact h

/-- what meets a part of a segment meets the segment -/
theorem Meet.part {q a b c d : Pt} (hq : On q a b) (hab : a ≠ b) (hcd : c ≠ d) (h : Meet a q c d) : Meet a b c d := by
  by_cases haq : a = q
  · -- the part is a point
    subst haq
    have pt : ∀ x : Pt, On x a a → x = a := by
      rintro x ⟨_, h1, h2⟩
      exact Prod.ext (by unfold btw at h1; omega) (by unfold btw at h2; omega)
    rcases h with h | h | h | h | ⟨h1, h2⟩
    · rw [pt c h]; exact .inr (.inr (.inl (On.left a d)))
    · rw [pt d h]; exact .inr (.inr (.inl (On.right c a)))
    · exact .inr (.inr (.inl h))
    · exact .inr (.inr (.inl h))
    · rw [cross_same, cross_same] at h1
      unfold opp at h1; omega
  · rcases h with h | h | h | h | ⟨h1, h2⟩
    · exact .inl (hq.trans h hab haq)
    · exact .inr (.inl (hq.trans h hab haq))
    · exact .inr (.inr (.inl h))
    · exact common hq h hab hcd
    · obtain ⟨N, s, hN, s0, sN, x1, x2⟩ := hq.param hab
      have hs : 0 < s := by
        rcases Int.lt_or_eq_of_le s0 with g | g
        · exact g
        · exfalso
          rw [← g] at x1 x2
          exact haq (Prod.ext (by have := eq_of_mul (x := q.1 - a.1) (y := 0) hN (by omega); omega) (by have := eq_of_mul (x := q.2 - a.2) (y := 0) hN (by omega); omega))
      have ec : s * cross a b c = N * cross a q c := by unfold cross; grind
      have ed : s * cross a b d = N * cross a q d := by unfold cross; grind
      have eb : (N - s) * cross c d a + s * cross c d b = N * cross c d q := by unfold cross; grind
      have up : ∀ {x y : Int}, s * x = N * y → (0 < y → 0 < x) ∧ (y < 0 → x < 0) := by
        intro x y e
        refine ⟨fun h => ?_, fun h => ?_⟩
        · have := Int.mul_pos hN h
          exact pos_of hs (by grind)
        · have := Int.mul_pos hN (show 0 < -y by omega)
          exact neg_of hs (by grind)
      refine .inr (.inr (.inr (.inr ⟨?_, ?_⟩)))
      · rcases h1 with ⟨g1, g2⟩ | ⟨g1, g2⟩
        · exact .inl ⟨(up ec).2 g1, (up ed).1 g2⟩
        · exact .inr ⟨(up ec).1 g1, (up ed).2 g2⟩
      · rcases h2 with ⟨g1, g2⟩ | ⟨g1, g2⟩
        · refine .inl ⟨g1, ?_⟩
          have k1 := Int.mul_pos hN g2
          have k2 := Int.mul_nonneg (show 0 ≤ N - s by omega) (show 0 ≤ - cross c d a by omega)
          exact pos_of hs (by grind)
        · refine .inr ⟨g1, ?_⟩
          have k1 := Int.mul_pos hN (show 0 < - cross c d q by omega)
          have k2 := Int.mul_nonneg (show 0 ≤ N - s by omega) (show 0 ≤ cross c d a by omega)
          exact neg_of hs (by grind)

/-- along an edge that meets a contour nowhere the parity is that of its beginning -/
theorem par_edge {n' : Nat} {p' : Nat → Pt} {a b q : Pt} (hf : Free n' p' a b) (hq : On q a b) (hab : a ≠ b) (hd : ∀ i, i < n' → p' i ≠ p' ((i + 1) % n')) :
    (∀ i, i < n' → ¬ On q (p' i) (p' ((i + 1) % n'))) ∧ par n' p' q = par n' p' a := by
  refine ⟨fun i hi ho => hf i hi (common hq ho hab (hd i hi)), ?_⟩
  have : Free n' p' a q := fun i hi hm => hf i hi (hm.part hq hab (hd i hi))
  exact (par_free this).symm
end Geo
