/-
  The ray to the right: how often it crosses a closed contour, by parity. Along a segment that does not meet the contour the parity stays.
-/
import Derived.Test.YtnpgipmbionmgaaGeo1
set_option linter.all false
namespace Geo

/-- does the ray from q to the right cross the edge from a to b? -/
def rc (q a b : Pt) : Bool := (decide (a.2 > q.2) != decide (b.2 > q.2)) && (decide (0 < cross a b q) == decide (b.2 > a.2))

theorem ht01 (p : Pt) : ht 0 1 p = p.2 := by unfold ht; omega

theorem off_edge {q a b : Pt} (h : ¬ On q a b) (hs : (a.2 ≤ q.2 ∧ q.2 < b.2) ∨ (b.2 ≤ q.2 ∧ q.2 < a.2)) : cross a b q ≠ 0 := by
  rcases hs with hs | hs
  · exact not_on (α := 0) (β := 1) (by rw [ht01, ht01]; omega) (by rw [ht01, ht01]; omega) (by rw [ht01, ht01]; omega) h
  · have := not_on (α := 0) (β := 1) (a := b) (b := a) (q := q) (by rw [ht01, ht01]; omega) (by rw [ht01, ht01]; omega) (by rw [ht01, ht01]; omega) (fun h' => h h'.swap)
    rw [cross_swap] at this
    omega

theorem rc_flat {q a b : Pt} (h : (a.2 > q.2 ∧ b.2 > q.2) ∨ (a.2 ≤ q.2 ∧ b.2 ≤ q.2)) : rc q a b = false := by
  unfold rc
  rcases h with h | h
  · simp [h.1, h.2]
  · have h1 : ¬ a.2 > q.2 := by omega
    have h2 : ¬ b.2 > q.2 := by omega
    simp [h1, h2]
theorem rc_up {q a b : Pt} (h1 : a.2 ≤ q.2) (h2 : q.2 < b.2) : rc q a b = decide (0 < cross a b q) := by
  unfold rc
  have e1 : ¬ a.2 > q.2 := by omega
  have e2 : b.2 > q.2 := by omega
  have e3 : b.2 > a.2 := by omega
  simp [e1, e2, e3]
theorem rc_swap {q a b : Pt} (h : ¬ On q a b) : rc q a b = rc q b a := by
  by_cases h1 : a.2 ≤ q.2 <;> by_cases h2 : b.2 ≤ q.2
  · rw [rc_flat (.inr ⟨h1, h2⟩), rc_flat (.inr ⟨h2, h1⟩)]
  · have z := off_edge h (.inl ⟨h1, by omega⟩)
    rw [rc_up h1 (by omega)]
    unfold rc
    have e1 : ¬ a.2 > q.2 := by omega
    have e2 : b.2 > q.2 := by omega
    have e3 : ¬ a.2 > b.2 := by omega
    rw [cross_swap a b q]
    by_cases hp : 0 < cross a b q
    · have : ¬ 0 < - cross a b q := by omega
      simp [e1, e2, e3, hp, this]
      omega
    · have : 0 < - cross a b q := by omega
      simp [e1, e2, e3, hp, this]
      omega
  · have z := off_edge h (.inr ⟨h2, by omega⟩)
    rw [rc_up (a := b) (b := a) h2 (by omega)]
    unfold rc
    have e1 : a.2 > q.2 := by omega
    have e2 : ¬ b.2 > q.2 := by omega
    have e3 : ¬ b.2 > a.2 := by omega
    rw [cross_swap a b q]
    by_cases hp : 0 < cross a b q
    · have : ¬ 0 < - cross a b q := by omega
      simp [e1, e2, e3, hp, this]
      omega
    · have : 0 < - cross a b q := by omega
      simp [e1, e2, e3, hp, this]
      omega
  · rw [rc_flat (.inl ⟨by omega, by omega⟩), rc_flat (.inl ⟨by omega, by omega⟩)]

/-- w lies between the levels of a and b (a below b), to the right of ab -/
def fr (a b w : Pt) : Bool := decide (a.2 < w.2 ∧ w.2 ≤ b.2 ∧ cross a b w < 0)

theorem edge_lt {a b u v : Pt} (hab : a.2 < b.2) (huv : u.2 < v.2) (hn : ¬ Meet a b u v) : (rc a u v ^^ rc b u v) = (fr a b u ^^ fr a b v) := by
  have hab' : ht 0 1 a < ht 0 1 b := by rw [ht01, ht01]; exact hab
  have huv' : ht 0 1 u < ht 0 1 v := by rw [ht01, ht01]; exact huv
  have hn' : ¬ Meet u v a b := fun h => hn h.symm
  have F0 : ∀ w : Pt, w.2 ≤ a.2 ∨ b.2 < w.2 → fr a b w = false := fun w hw => by unfold fr; simp; omega
  have F1 : ∀ w : Pt, a.2 < w.2 → w.2 ≤ b.2 → fr a b w = decide (cross a b w < 0) := fun w h1 h2 => by unfold fr; simp [h1, h2]
  by_cases u1 : u.2 ≤ a.2
  · rw [F0 u (.inl u1)]
    by_cases v1 : v.2 ≤ a.2
    · rw [rc_flat (.inr ⟨u1, v1⟩), rc_flat (.inr ⟨by omega, by omega⟩), F0 v (.inl v1)]
    · by_cases v2 : v.2 ≤ b.2
      · rw [rc_up u1 (by omega), rc_flat (.inr ⟨by omega, v2⟩), F1 v (by omega) v2]
        have := side_av (α := 0) (β := 1) hab' huv' (by rw [ht01, ht01]; omega) (by rw [ht01, ht01]; omega) (by rw [ht01, ht01]; omega) hn
        rcases this with ⟨h1, h2⟩ | ⟨h1, h2⟩
        · simp [h1, h2]
        · have e1 : ¬ 0 < cross u v a := by omega
          have e2 : ¬ cross a b v < 0 := by omega
          simp [e1, e2]
      · rw [rc_up u1 (by omega), rc_up (by omega) (by omega), F0 v (.inr (by omega))]
        have := side_ab (α := 0) (β := 1) hab' (by rw [ht01, ht01]; omega) (by rw [ht01, ht01]; omega) hn
        rcases this with ⟨h1, h2⟩ | ⟨h1, h2⟩
        · simp [h1, h2]
        · have e1 : ¬ 0 < cross u v a := by omega
          have e2 : ¬ 0 < cross u v b := by omega
          simp [e1, e2]
  · by_cases u2 : u.2 ≤ b.2
    · rw [F1 u (by omega) u2, rc_flat (q := a) (.inl ⟨by omega, by omega⟩)]
      by_cases v2 : v.2 ≤ b.2
      · rw [rc_flat (.inr ⟨u2, v2⟩), F1 v (by omega) v2]
        have := side_ab (α := 0) (β := 1) huv' (by rw [ht01, ht01]; omega) (by rw [ht01, ht01]; omega) hn'
        rcases this with ⟨h1, h2⟩ | ⟨h1, h2⟩
        · have e1 : ¬ cross a b u < 0 := by omega
          have e2 : ¬ cross a b v < 0 := by omega
          simp [e1, e2]
        · simp [h1, h2]
      · rw [rc_up u2 (by omega), F0 v (.inr (by omega))]
        have := side_av (α := 0) (β := 1) huv' hab' (by rw [ht01, ht01]; omega) (by rw [ht01, ht01]; omega) (by rw [ht01, ht01]; omega) hn'
        rcases this with ⟨h1, h2⟩ | ⟨h1, h2⟩
        · have e1 : ¬ cross a b u < 0 := by omega
          have e2 : ¬ 0 < cross u v b := by omega
          simp [e1, e2]
        · simp [h1, h2]
    · rw [rc_flat (.inl ⟨by omega, by omega⟩), rc_flat (.inl ⟨by omega, by omega⟩), F0 u (.inr (by omega)), F0 v (.inr (by omega))]

theorem edge_eq {a b u v : Pt} (hab : a.2 < b.2) (huv : u.2 = v.2) (hn : ¬ Meet a b u v) : (rc a u v ^^ rc b u v) = (fr a b u ^^ fr a b v) := by
  have ra : rc a u v = false := rc_flat (by omega)
  have rb : rc b u v = false := rc_flat (by omega)
  rw [ra, rb]
  by_cases h : a.2 < u.2 ∧ u.2 ≤ b.2
  · have zu : cross a b u ≠ 0 := fun h0 => hn (.inl (on_of (α := 0) (β := 1) h0 (by rw [ht01, ht01]; omega) (by rw [ht01, ht01]; omega) (by rw [ht01, ht01]; omega)))
    have zv : cross a b v ≠ 0 := fun h0 => hn (.inr (.inl (on_of (α := 0) (β := 1) h0 (by rw [ht01, ht01]; omega) (by rw [ht01, ht01]; omega) (by rw [ht01, ht01]; omega))))
    have F1 : ∀ w : Pt, w.2 = u.2 → fr a b w = decide (cross a b w < 0) := fun w hw => by
      unfold fr
      have h1 : a.2 < w.2 := by omega
      have h2 : w.2 ≤ b.2 := by omega
      simp [h1, h2]
    rw [F1 u rfl, F1 v huv.symm]
    -- the levels of a and b lie on the two sides of the flat edge (b perhaps on it)
    have ea : cross u v a = - ((v.1 - u.1) * (u.2 - a.2)) := by unfold cross; rw [← huv]; grind
    have eb : cross u v b = (v.1 - u.1) * (b.2 - u.2) := by unfold cross; rw [← huv]; grind
    have ed := cross_diff a b u v
    have key : ∀ s t : Int, opp s t → cross a b u = s → cross a b v = t → False := by
      intro s t ho h1 h2
      have hne : v.1 - u.1 ≠ 0 := by
        intro h0
        have : u.1 = v.1 := by omega
        have : u = v := Prod.ext this huv
        subst this
        unfold opp at ho; omega
      by_cases hb : u.2 = b.2
      · have zb : cross u v b = 0 := by rw [eb, hb]; simp
        refine hn (.inr (.inr (.inr (.inl ⟨zb, ?_, by unfold btw; omega⟩))))
        have e1 : cross a b u = (b.2 - a.2) * (b.1 - u.1) := by unfold cross; rw [hb]; grind
        have e2 : cross a b v = (b.2 - a.2) * (b.1 - v.1) := by unfold cross; rw [← huv, hb]; grind
        have hd : 0 < b.2 - a.2 := by omega
        unfold btw
        rcases ho with ⟨g1, g2⟩ | ⟨g1, g2⟩
        · have q1 : b.1 - u.1 < 0 := neg_of hd (by grind)
          have q2 : 0 < b.1 - v.1 := pos_of hd (by grind)
          omega
        · have q1 : 0 < b.1 - u.1 := pos_of hd (by grind)
          have q2 : b.1 - v.1 < 0 := neg_of hd (by grind)
          omega
      · refine hn (.inr (.inr (.inr (.inr ⟨by rw [h1, h2]; exact ho, ?_⟩))))
        rw [ea, eb]
        rcases Int.lt_or_lt_of_ne hne with g | g
        · have q1 : 0 < (- (v.1 - u.1)) * (u.2 - a.2) := Int.mul_pos (by omega) (by omega)
          have q2 : 0 < (- (v.1 - u.1)) * (b.2 - u.2) := Int.mul_pos (by omega) (by omega)
          exact .inr ⟨by grind, by grind⟩
        · have q1 : 0 < (v.1 - u.1) * (u.2 - a.2) := Int.mul_pos (by omega) (by omega)
          have q2 : 0 < (v.1 - u.1) * (b.2 - u.2) := Int.mul_pos (by omega) (by omega)
          exact .inl ⟨by grind, by grind⟩
    rcases Int.lt_or_lt_of_ne zu with s1 | s1 <;> rcases Int.lt_or_lt_of_ne zv with s2 | s2
    · simp [s1, s2]
    · exact (key _ _ (.inl ⟨s1, s2⟩) rfl rfl).elim
    · exact (key _ _ (.inr ⟨s1, s2⟩) rfl rfl).elim
    · have e1 : ¬ cross a b u < 0 := by omega
      have e2 : ¬ cross a b v < 0 := by omega
      simp [e1, e2]
  · have f1 : fr a b u = false := by unfold fr; simp; omega
    have f2 : fr a b v = false := by unfold fr; simp; omega
    rw [f1, f2]

theorem Meet.swap2 {a b c d : Pt} (h : Meet a b c d) : Meet a b d c := h.symm.swap.symm

theorem edge_up {a b u v : Pt} (hab : a.2 < b.2) (hn : ¬ Meet a b u v) : (rc a u v ^^ rc b u v) = (fr a b u ^^ fr a b v) := by
  rcases Int.lt_trichotomy u.2 v.2 with h | h | h
  · exact edge_lt hab h hn
  · exact edge_eq hab h hn
  · have := edge_lt hab h (fun hm => hn hm.swap2)
    rw [rc_swap (q := a) (fun h' => hn (.inr (.inr (.inl h')))), rc_swap (q := b) (fun h' => hn (.inr (.inr (.inr (.inl h'))))), this, Bool.xor_comm]

theorem edge_flat {a b u v : Pt} (hab : a.2 = b.2) (hn : ¬ Meet a b u v) : rc a u v = rc b u v := by
  have lt : ∀ u v : Pt, u.2 < v.2 → ¬ Meet a b u v → rc a u v = rc b u v := by
    intro u v huv hn
    by_cases u1 : u.2 ≤ a.2
    · by_cases v1 : v.2 ≤ a.2
      · rw [rc_flat (.inr ⟨u1, v1⟩), rc_flat (.inr ⟨by omega, by omega⟩)]
      · rw [rc_up u1 (by omega), rc_up (by omega) (by omega)]
        have za := off_edge (q := a) (a := u) (b := v) (fun h => hn (.inr (.inr (.inl h)))) (.inl ⟨u1, by omega⟩)
        have zb := off_edge (q := b) (a := u) (b := v) (fun h => hn (.inr (.inr (.inr (.inl h))))) (.inl ⟨by omega, by omega⟩)
        have eu : cross a b u = (b.1 - a.1) * (u.2 - a.2) := by unfold cross; rw [← hab]; grind
        have ev : cross a b v = (b.1 - a.1) * (v.2 - a.2) := by unfold cross; rw [← hab]; grind
        have key : opp (cross u v a) (cross u v b) → False := by
          intro ho
          have hd := cross_diff a b u v
          have hne : b.1 - a.1 ≠ 0 := by
            intro h0
            have : a = b := Prod.ext (by omega) hab
            subst this
            unfold opp at ho; omega
          by_cases hu : u.2 = a.2
          · refine hn (.inl ⟨by rw [eu, hu]; simp, ?_, by unfold btw; omega⟩)
            have e1 : cross u v a = (v.2 - u.2) * (u.1 - a.1) := by unfold cross; rw [hu]; grind
            have e2 : cross u v b = (v.2 - u.2) * (u.1 - b.1) := by unfold cross; rw [← hab, hu]; grind
            have hd : 0 < v.2 - u.2 := by omega
            unfold btw
            rcases ho with ⟨g1, g2⟩ | ⟨g1, g2⟩
            · have q1 : u.1 - a.1 < 0 := neg_of hd (by grind)
              have q2 : 0 < u.1 - b.1 := pos_of hd (by grind)
              omega
            · have q1 : 0 < u.1 - a.1 := pos_of hd (by grind)
              have q2 : u.1 - b.1 < 0 := neg_of hd (by grind)
              omega
          · refine hn (.inr (.inr (.inr (.inr ⟨?_, ho⟩))))
            rw [eu, ev]
            rcases Int.lt_or_lt_of_ne hne with g | g
            · have q1 : 0 < (- (b.1 - a.1)) * (a.2 - u.2) := Int.mul_pos (by omega) (by omega)
              have q2 : 0 < (- (b.1 - a.1)) * (v.2 - a.2) := Int.mul_pos (by omega) (by omega)
              exact .inr ⟨by grind, by grind⟩
            · have q1 : 0 < (b.1 - a.1) * (a.2 - u.2) := Int.mul_pos (by omega) (by omega)
              have q2 : 0 < (b.1 - a.1) * (v.2 - a.2) := Int.mul_pos (by omega) (by omega)
              exact .inl ⟨by grind, by grind⟩
        rcases Int.lt_or_lt_of_ne za with s1 | s1 <;> rcases Int.lt_or_lt_of_ne zb with s2 | s2
        · have e1 : ¬ 0 < cross u v a := by omega
          have e2 : ¬ 0 < cross u v b := by omega
          simp [e1, e2]
        · exact (key (.inl ⟨s1, s2⟩)).elim
        · exact (key (.inr ⟨s1, s2⟩)).elim
        · simp [s1, s2]
    · rw [rc_flat (.inl ⟨by omega, by omega⟩), rc_flat (.inl ⟨by omega, by omega⟩)]
  rcases Int.lt_trichotomy u.2 v.2 with h | h | h
  · exact lt u v h hn
  · rw [rc_flat (by omega), rc_flat (by omega)]
  · rw [rc_swap (q := a) (fun h' => hn (.inr (.inr (.inl h')))), rc_swap (q := b) (fun h' => hn (.inr (.inr (.inr (.inl h')))))]
    exact lt v u h (fun hm => hn hm.swap2)

/-! parities over a cycle -/
def xs : Nat → (Nat → Bool) → Bool
  | 0, _ => false
  | n + 1, f => xs n f ^^ f n
theorem xs_congr {n : Nat} {f g : Nat → Bool} (h : ∀ i, i < n → f i = g i) : xs n f = xs n g := by
  induction n with
  | zero => rfl
  | succ n ih => rw [xs, xs, ih fun i hi => h i (by omega), h n (by omega)]
theorem xs_xor (n : Nat) (f g : Nat → Bool) : xs n (fun i => f i ^^ g i) = (xs n f ^^ xs n g) := by
  induction n with
  | zero => rfl
  | succ n ih =>
    rw [xs, xs, xs, ih]
    cases xs n f <;> cases xs n g <;> cases f n <;> cases g n <;> rfl
theorem xs_shift (n : Nat) (f : Nat → Bool) : (xs n (fun i => f (i + 1)) ^^ f 0) = (xs n f ^^ f n) := by
  induction n with
  | zero => rfl
  | succ n ih =>
    rw [xs, xs]
    revert ih
    cases xs n (fun i => f (i + 1)) <;> cases xs n f <;> cases f 0 <;> cases f n <;> cases f (n + 1) <;> simp
theorem xs_next (n : Nat) (f : Nat → Bool) : xs n (fun i => f ((i + 1) % n)) = xs n f := by
  cases n with
  | zero => rfl
  | succ n =>
    rw [xs, xs, Nat.mod_self]
    rw [xs_congr (g := fun i => f (i + 1)) (fun i hi => by rw [Nat.mod_eq_of_lt (by omega)])]
    have := xs_shift n f
    exact this
theorem xs_cycle (n : Nat) (f : Nat → Bool) : xs n (fun i => f i ^^ f ((i + 1) % n)) = false := by
  rw [xs_xor, xs_next]
  cases xs n f <;> rfl

/-- is the number of edges to the right of q odd? -/
def par (n : Nat) (p : Nat → Pt) (q : Pt) : Bool := xs n fun i => rc q (p i) (p ((i + 1) % n))

/-- the segment ab meets the contour nowhere -/
def Free (n : Nat) (p : Nat → Pt) (a b : Pt) : Prop := ∀ i, i < n → ¬ Meet a b (p i) (p ((i + 1) % n))

theorem Free.symm {n : Nat} {p : Nat → Pt} {a b : Pt} (h : Free n p a b) : Free n p b a := fun i hi hm => h i hi hm.swap

theorem par_up {n : Nat} {p : Nat → Pt} {a b : Pt} (hab : a.2 < b.2) (h : Free n p a b) : par n p a = par n p b := by
  have h1 : xs n (fun i => rc a (p i) (p ((i + 1) % n)) ^^ rc b (p i) (p ((i + 1) % n))) = false := by
    rw [xs_congr (g := fun i => fr a b (p i) ^^ fr a b (p ((i + 1) % n))) (fun i hi => edge_up hab (h i hi))]
    exact xs_cycle n fun i => fr a b (p i)
  rw [xs_xor] at h1
  unfold par
  revert h1
  cases xs n (fun i => rc a (p i) (p ((i + 1) % n))) <;> cases xs n (fun i => rc b (p i) (p ((i + 1) % n))) <;> simp

/-- THE PARITY STAYS along a segment that meets the contour nowhere. -/
theorem par_free {n : Nat} {p : Nat → Pt} {a b : Pt} (h : Free n p a b) : par n p a = par n p b := by
  rcases Int.lt_trichotomy a.2 b.2 with hh | hh | hh
  · exact par_up hh h
  · exact xs_congr fun i hi => edge_flat hh (h i hi)
  · exact (par_up hh h.symm).symm

/-- far above or below there is nothing to the right -/
theorem par_out {n : Nat} {p : Nat → Pt} {q : Pt} (h : (∀ i, i < n → (p i).2 ≤ q.2) ∨ (∀ i, i < n → q.2 < (p i).2)) : par n p q = false := by
  have : xs n (fun i => rc q (p i) (p ((i + 1) % n))) = xs n (fun _ => false) := by
    refine xs_congr fun i hi => ?_
    have hm : (i + 1) % n < n := Nat.mod_lt _ (by omega)
    rcases h with h | h
    · exact rc_flat (.inr ⟨h i hi, h _ hm⟩)
    · exact rc_flat (.inl ⟨h i hi, h _ hm⟩)
  unfold par
  rw [this]
  clear this h
  induction n with
  | zero => rfl
  | succ n ih => rw [xs, ih]; rfl
end Geo
