/-
 Several texts in one.
-/
import Derived.Test.YtmpnfnngjeojlaaGeo1
/-
 The area of a simple polygon is not zero.
-/
namespace Geo
structure Simple (n : Nat) (p : Nat → Pt) : Prop where
 big : 3 ≤ n
 dist : ∀ i j, i < n → j < n → i ≠ j → p i ≠ p j
 corner : ∀ e, e < n → ¬ On (p (nx n (nx n e))) (p e) (p (nx n e)) ∧ ¬ On (p e) (p (nx n e)) (p (nx n (nx n e)))
 apart : ∀ e i, e < n → i < n → i ≠ e → i ≠ nx n e → nx n i ≠ e → ¬ Meet (p e) (p (nx n e)) (p i) (p (nx n i))
def area (n : Nat) (p : Nat → Pt) : Int := sm n fun i => (p i).1 * (p (nx n i)).2 - (p (nx n i)).1 * (p i).2
def pr : Nat → (Nat → Int) → Int
 | 0, _ => 1
 | n + 1, f => pr n f * f n
theorem pr_pos {n : Nat} {f : Nat → Int} (h : ∀ i, i < n → 0 < f i) : 0 < pr n f := by
 induction n with
 | zero => exact Int.one_pos
 | succ n ih => exact Int.mul_pos (ih fun i hi => h i (by omega)) (h n (by omega))
theorem pr_dvd {n : Nat} {f : Nat → Int} {i : Nat} (h : i < n) : ∃ q, q * f i = pr n f := by
 induction n with
 | zero => omega
 | succ n ih =>
  rw [pr]
  by_cases e : i = n
  ·subst e; exact ⟨_, rfl⟩
  ·obtain ⟨q, hq⟩ := ih (by omega)
   exact ⟨q * f n, by rw [← hq]; grind⟩
theorem bounded (n : Nat) (p : Nat → Pt) : ∃ B : Nat, ∀ i, i < n → -(B : Int) ≤ (p i).1 ∧ (p i).1 ≤ B ∧ -(B : Int) ≤ (p i).2 ∧ (p i).2 ≤ B := by
 induction n with
 | zero => exact ⟨0, fun i h => by omega⟩
 | succ n ih =>
  obtain ⟨B, hB⟩ := ih
  refine ⟨B + (p n).1.natAbs + (p n).2.natAbs, fun i hi => ?_⟩
  by_cases e : i = n
  ·subst e; omega
  ·have := hB i (by omega); omega
theorem area_simple {n : Nat} {p : Nat → Pt} (S : Simple n p) : area n p ≠ 0 := by
 obtain ⟨B, hB⟩ := bounded n p
 have hb := S.big
 -- heights that part all corners
 have hK : ∃ K : Int, K = 4 * B + 1 := ⟨_, rfl⟩
 obtain ⟨K, hK⟩ := hK
 have hinj : ∀ i j, i < n → j < n → i ≠ j → ht 2 (2 * K) (p i) ≠ ht 2 (2 * K) (p j) := by
  intro i j hi hj hne h
  have b1 := hB i hi
  have b2 := hB j hj
  unfold ht at h
  have h1 : K * ((p i).2 - (p j).2) = (p j).1 - (p i).1 := by grind
  have h2 : (p i).2 = (p j).2 := by
   rcases Int.lt_trichotomy 0 ((p i).2 - (p j).2) with g | g | g
   ·have : K * 1 ≤ K * ((p i).2 - (p j).2) := Int.mul_le_mul_of_nonneg_left (by omega) (by omega)
    omega
   ·omega
   ·have : K * 1 ≤ K * -((p i).2 - (p j).2) := Int.mul_le_mul_of_nonneg_left (by omega) (by omega)
    grind
  have h3 : (p i).1 = (p j).1 := by rw [h2] at h1; grind
  exact S.dist i j hi hj hne (Prod.ext h3 h2)
 have hd : ∀ e, e < n → ht 2 (2 * K) (p (nx n e)) - ht 2 (2 * K) (p e) ≠ 0 := by
  intro e he h
  exact hinj (nx n e) e (nx_lt hb) he (nx_ne hb he) (by omega)
 -- a common multiple
 obtain ⟨M, hM⟩ : ∃ M, M = pr n fun e => (ht 2 (2 * K) (p (nx n e)) - ht 2 (2 * K) (p e)) * (ht 2 (2 * K) (p (nx n e)) - ht 2 (2 * K) (p e)) := ⟨_, rfl⟩
 have hMp : 0 < M := by
  rw [hM]
  refine pr_pos fun e he => ?_
  have := hd e he
  rcases Int.lt_or_lt_of_ne this with g | g
  ·have := Int.mul_pos (show 0 < -(ht 2 (2 * K) (p (nx n e)) - ht 2 (2 * K) (p e)) by omega) (show 0 < -(ht 2 (2 * K) (p (nx n e)) - ht 2 (2 * K) (p e)) by omega)
   grind
  ·exact Int.mul_pos g g
 have hQ : ∀ e, ∃ q, e < n → q * (ht 2 (2 * K) (p (nx n e)) - ht 2 (2 * K) (p e)) = M := by
  intro e
  by_cases he : e < n
  ·obtain ⟨q, hq⟩ := pr_dvd (f := fun e => (ht 2 (2 * K) (p (nx n e)) - ht 2 (2 * K) (p e)) * (ht 2 (2 * K) (p (nx n e)) - ht 2 (2 * K) (p e))) he
   exact ⟨q * (ht 2 (2 * K) (p (nx n e)) - ht 2 (2 * K) (p e)), fun _ => by rw [hM, ← hq]; grind⟩
  ·exact ⟨0, fun h => absurd h he⟩
 obtain ⟨Q, hQ⟩ : ∃ Q : Nat → Int, ∀ e, e < n → Q e * (ht 2 (2 * K) (p (nx n e)) - ht 2 (2 * K) (p e)) = M := ⟨fun e => Classical.choose (hQ e), fun e => Classical.choose_spec (hQ e)⟩
 let L : Lev n := { H := fun i => ht 2 (2 * K) (p i), V := fun i => M * (p i).1, X := fun e t => M * (p e).1 + Q e * ((p (nx n e)).1 - (p e).1) * (t - ht 2 (2 * K) (p e)) }
 have hline : ∀ e, e < n → Line 2 (2 * K) M (p e) (p (nx n e)) (L.X e) := by
  intro e he
  refine ⟨⟨M * (p e).1 - Q e * ((p (nx n e)).1 - (p e).1) * ht 2 (2 * K) (p e), Q e * ((p (nx n e)).1 - (p e).1), fun t => ?_⟩, ?_, ?_⟩
  ·show M * (p e).1 + Q e * ((p (nx n e)).1 - (p e).1) * (t - ht 2 (2 * K) (p e)) = _
   grind
  ·show M * (p e).1 + Q e * ((p (nx n e)).1 - (p e).1) * (ht 2 (2 * K) (p e) - ht 2 (2 * K) (p e)) = _
   grind
  ·show M * (p e).1 + Q e * ((p (nx n e)).1 - (p e).1) * (ht 2 (2 * K) (p (nx n e)) - ht 2 (2 * K) (p e)) = _
   have := hQ e he
   grind
 have hrng : ∀ {e t}, L.rng e t → rngP 2 (2 * K) (p e) (p (nx n e)) t := fun h => h
 have F : L.Fine := by
  refine ⟨hb, fun i => ⟨(p i).1 + K * (p i).2, ?_⟩, hinj, fun e he => (hline e he).aff, fun e he => (hline e he).fst, fun e he => (hline e he).snd, ?_⟩
  ·show ht 2 (2 * K) (p i) = _
   unfold ht; grind
  ·intro e i t t' he hi hne ⟨h1, h2, h3, h4⟩ ⟨h5, h6, h7, h8⟩
   have ne : ∀ e, e < n → ht 2 (2 * K) (p e) ≠ ht 2 (2 * K) (p (nx n e)) := fun e he h => hd e he (by omega)
   by_cases c1 : nx n e = i
   ·subst c1
    exact order_corner hMp (by omega) (hline e he) (hline _ hi) (ne e he) (ne _ hi) (S.corner e he).1 (S.corner e he).2 (hrng h1) (hrng h2) (hrng h5) (hrng h6) (fun h => h3 ⟨rfl, h.symm⟩) (fun h => h7 ⟨rfl, h.symm⟩)
   ·by_cases c2 : nx n i = e
    ·subst c2
     have := order_corner hMp (by omega) (hline i hi) (hline _ he) (ne i hi) (ne _ he) (S.corner i hi).1 (S.corner i hi).2 (hrng h2) (hrng h1) (hrng h6) (hrng h5) (fun h => h4 ⟨rfl, h.symm⟩) (fun h => h8 ⟨rfl, h.symm⟩)
     exact this.symm
    ·exact order_apart hMp (by omega) (hline e he) (hline i hi) (ne e he) (ne i hi) (S.apart e i he hi (fun h => hne h.symm) (fun h => c1 h.symm) c2) (hrng h1) (hrng h2) (hrng h5) (hrng h6)
 have hne := L.area_ne F
 intro h0
 refine hne ?_
 have e1 : sm n (fun e => (L.H (nx n e) - L.H e) * (L.V e + L.V (nx n e))) = sm n fun e => (2 * M * K) * ((p e).1 * (p (nx n e)).2 - (p (nx n e)).1 * (p e).2) + ((fun j => M * (2 * ((p j).1 * (p j).1) + 2 * K * ((p j).1 * (p j).2))) ((e + 1) % n) - (fun j => M * (2 * ((p j).1 * (p j).1) + 2 * K * ((p j).1 * (p j).2))) e) := by
  refine sm_congr fun e _ => ?_
  show (ht 2 (2 * K) (p (nx n e)) - ht 2 (2 * K) (p e)) * (M * (p e).1 + M * (p (nx n e)).1) = _
  have : nx n e = (e + 1) % n := rfl
  rw [← this]
  unfold ht
  dsimp only
  grind
 have cyc := sm_cycle n fun j => M * (2 * ((p j).1 * (p j).1) + 2 * K * ((p j).1 * (p j).2))
 rw [e1, sm_add, sm_mul, cyc]
 have : (sm n fun e => (p e).1 * (p (nx n e)).2 - (p (nx n e)).1 * (p e).2) = 0 := h0
 rw [this]; simp
end Geo
/-
 Deciding; what two writers say of successive edges.
-/
namespace Geo
instance decBtw (a b q : Int) : Decidable (btw a b q) := by unfold btw; infer_instance
instance decOn (q a b : Pt) : Decidable (On q a b) := by unfold On; infer_instance
instance decOpp (s t : Int) : Decidable (opp s t) := by unfold opp; infer_instance
instance decMeet (a b c d : Pt) : Decidable (Meet a b c d) := by unfold Meet; infer_instance
def nr (x y : Int) : Prop := -32768 ≤ x ∧ x ≤ 32768 ∧ -32768 ≤ y ∧ y ≤ 32768
theorem mul_bd {x y A B : Int} (h1 : -A ≤ x) (h2 : x ≤ A) (h3 : -B ≤ y) (h4 : y ≤ B) : -(A * B) ≤ x * y ∧ x * y ≤ A * B := by
 have a1 : 0 ≤ (A - x) * (B + y) := Int.mul_nonneg (by omega) (by omega)
 have a2 : 0 ≤ (A + x) * (B - y) := Int.mul_nonneg (by omega) (by omega)
 have a3 : 0 ≤ (A - x) * (B - y) := Int.mul_nonneg (by omega) (by omega)
 have a4 : 0 ≤ (A + x) * (B + y) := Int.mul_nonneg (by omega) (by omega)
 constructor
 ·grind
 ·grind
theorem cross_bd {a b c : Pt} (ha : nr a.1 a.2) (hb : nr b.1 b.2) (hc : nr c.1 c.2) : -8589934592 ≤ cross a b c ∧ cross a b c ≤ 8589934592 := by
 unfold nr at *
 have h1 := mul_bd (x := b.1 - a.1) (y := c.2 - a.2) (A := 65536) (B := 65536) (by omega) (by omega) (by omega) (by omega)
 have h2 := mul_bd (x := b.2 - a.2) (y := c.1 - a.1) (A := 65536) (B := 65536) (by omega) (by omega) (by omega) (by omega)
 unfold cross
 omega
def dot (a b c : Pt) : Int := (a.1 - b.1) * (c.1 - b.1) + (a.2 - b.2) * (c.2 - b.2)
theorem sq_pos {x : Int} (h : x ≠ 0) : 0 < x * x := by
 rcases Int.lt_or_lt_of_ne h with g | g
 ·have := Int.mul_pos (show 0 < -x by omega) (show 0 < -x by omega)
  grind
 ·exact Int.mul_pos g g
theorem back_iff {a b c : Pt} (hab : a ≠ b) (hcb : c ≠ b) : (cross a b c = 0 ∧ 0 < dot a b c) ↔ (On a b c ∨ On c a b) := by
 obtain ⟨a1, a2⟩ := a
 obtain ⟨b1, b2⟩ := b
 obtain ⟨c1, c2⟩ := c
 have hu : a1 - b1 ≠ 0 ∨ a2 - b2 ≠ 0 := by
  by_cases h1 : a1 - b1 = 0
  ·by_cases h2 : a2 - b2 = 0
   ·exact absurd (Prod.ext (by dsimp; omega) (by dsimp; omega)) hab
   ·exact .inr h2
  ·exact .inl h1
 have hv : c1 - b1 ≠ 0 ∨ c2 - b2 ≠ 0 := by
  by_cases h1 : c1 - b1 = 0
  ·by_cases h2 : c2 - b2 = 0
   ·exact absurd (Prod.ext (by dsimp; omega) (by dsimp; omega)) hcb
   ·exact .inr h2
  ·exact .inl h1
 unfold On cross dot btw
 dsimp only
 have eq1 : (c1 - b1) * (a2 - b2) - (c2 - b2) * (a1 - b1) = (b1 - a1) * (c2 - a2) - (b2 - a2) * (c1 - a1) := by grind
 rw [eq1]
 generalize hx : a1 - b1 = x at *
 generalize hy : a2 - b2 = y at *
 generalize hs : c1 - b1 = s at *
 generalize ht : c2 - b2 = t at *
 have ec : (b1 - a1) * (c2 - a2) - (b2 - a2) * (c1 - a1) = s * y - t * x := by grind
 rw [ec]
 constructor
 ·rintro ⟨h0, hd⟩
  have par : s * y = t * x := by omega
  -- both products have one sign
  have p1 : 0 ≤ (x * s) * (y * t) := by
   have : (x * s) * (y * t) = (s * y) * (s * y) := by grind
   rw [this]
   by_cases hz : s * y = 0
   ·rw [hz]; decide
   ·exact Int.le_of_lt (sq_pos hz)
  have p2 : 0 ≤ x * s ∧ 0 ≤ y * t := by
   rcases Int.lt_or_le (x * s) 0 with g | g
   ·have g2 : 0 < y * t := by omega
    have : 0 < (-(x * s)) * (y * t) := Int.mul_pos (by omega) g2
    grind
   ·rcases Int.lt_or_le (y * t) 0 with g2 | g2
    ·have g3 : 0 < x * s := by omega
     have : 0 < (x * s) * (-(y * t)) := Int.mul_pos g3 (by omega)
     grind
    ·exact ⟨g, g2⟩
  -- signs
  have sgn : ∀ {p q : Int}, 0 ≤ p * q → (0 ≤ p ∧ 0 ≤ q) ∨ (p ≤ 0 ∧ q ≤ 0) := by
   intro p q h
   rcases Int.lt_trichotomy p 0 with g | g | g
   ·rcases Int.lt_or_le 0 q with g2 | g2
    ·have : 0 < (-p) * q := Int.mul_pos (by omega) g2
     grind
    ·exact .inr ⟨by omega, g2⟩
   ·rcases Int.lt_or_le 0 q with g2 | g2
    ·exact .inl ⟨by omega, by omega⟩
    ·exact .inr ⟨by omega, g2⟩
   ·rcases Int.lt_or_le q 0 with g2 | g2
    ·have : 0 < p * (-q) := Int.mul_pos g (by omega)
     grind
    ·exact .inl ⟨by omega, g2⟩
  have lt : ∀ {p q r w : Int}, 0 ≤ p → 0 ≤ q → p < r → w < q → 0 ≤ w → r * q = p * w → False := by
   intro p q r w h1 h2 h3 h4 h5 h6
   have k1 : 0 < (r - p) * q := Int.mul_pos (by omega) (by omega)
   have k2 : 0 ≤ p * (q - w) := Int.mul_nonneg h1 (by omega)
   grind
  rcases sgn p2.1 with ⟨q1, q2⟩ | ⟨q1, q2⟩ <;> rcases sgn p2.2 with ⟨q3, q4⟩ | ⟨q3, q4⟩
  ·by_cases g1 : x ≤ s
   ·by_cases g2 : y ≤ t
    ·exact .inl ⟨by omega, by omega, by omega⟩
    ·by_cases g3 : s ≤ x
     ·exact .inr ⟨by omega, by omega, by omega⟩
     ·exact (lt (p := x) (q := y) (r := s) (w := t) q1 q3 (by omega) (by omega) q4 (by grind)).elim
   ·by_cases g2 : t ≤ y
    ·exact .inr ⟨by omega, by omega, by omega⟩
    ·exact (lt (p := s) (q := t) (r := x) (w := y) q2 q4 (by omega) (by omega) q3 (by grind)).elim
  ·by_cases g1 : x ≤ s
   ·by_cases g2 : -y ≤ -t
    ·exact .inl ⟨by omega, by omega, by omega⟩
    ·by_cases g3 : s ≤ x
     ·exact .inr ⟨by omega, by omega, by omega⟩
     ·exact (lt (p := x) (q := -y) (r := s) (w := -t) q1 (by omega) (by omega) (by omega) (by omega) (by grind)).elim
   ·by_cases g2 : -t ≤ -y
    ·exact .inr ⟨by omega, by omega, by omega⟩
    ·exact (lt (p := s) (q := -t) (r := x) (w := -y) q2 (by omega) (by omega) (by omega) (by omega) (by grind)).elim
  ·by_cases g1 : -x ≤ -s
   ·by_cases g2 : y ≤ t
    ·exact .inl ⟨by omega, by omega, by omega⟩
    ·by_cases g3 : -s ≤ -x
     ·exact .inr ⟨by omega, by omega, by omega⟩
     ·exact (lt (p := -x) (q := y) (r := -s) (w := t) (by omega) q3 (by omega) (by omega) q4 (by grind)).elim
   ·by_cases g2 : t ≤ y
    ·exact .inr ⟨by omega, by omega, by omega⟩
    ·exact (lt (p := -s) (q := t) (r := -x) (w := y) (by omega) q4 (by omega) (by omega) q3 (by grind)).elim
  ·by_cases g1 : -x ≤ -s
   ·by_cases g2 : -y ≤ -t
    ·exact .inl ⟨by omega, by omega, by omega⟩
    ·by_cases g3 : -s ≤ -x
     ·exact .inr ⟨by omega, by omega, by omega⟩
     ·exact (lt (p := -x) (q := -y) (r := -s) (w := -t) (by omega) (by omega) (by omega) (by omega) (by omega) (by grind)).elim
   ·by_cases g2 : -t ≤ -y
    ·exact .inr ⟨by omega, by omega, by omega⟩
    ·exact (lt (p := -s) (q := -t) (r := -x) (w := -y) (by omega) (by omega) (by omega) (by omega) (by omega) (by grind)).elim
 ·
  have one : ∀ {p q : Int}, ((0 ≤ p ∧ p ≤ q) ∨ (q ≤ p ∧ p ≤ 0)) → p * p ≤ p * q := by
   intro p q h
   rcases h with ⟨h1, h2⟩ | ⟨h1, h2⟩
   ·exact Int.mul_le_mul_of_nonneg_left h2 h1
   ·have := Int.mul_le_mul_of_nonneg_left (show -p ≤ -q by omega) (show 0 ≤ -p by omega)
    grind
  have nn : ∀ p : Int, 0 ≤ p * p := fun p => by
   by_cases hz : p = 0
   ·rw [hz]; decide
   ·exact Int.le_of_lt (sq_pos hz)
  rintro (⟨h0, h1, h2⟩ | ⟨h0, h1, h2⟩)
  ·have k1 := one (p := x) (q := s) (by omega)
   have k2 := one (p := y) (q := t) (by omega)
   refine ⟨h0, ?_⟩
   have n1 := nn x
   have n2 := nn y
   rcases hu with h | h
   ·have := sq_pos h; omega
   ·have := sq_pos h; omega
  ·have k1 := one (p := s) (q := x) (by omega)
   have k2 := one (p := t) (q := y) (by omega)
   refine ⟨h0, ?_⟩
   have n1 := nn s
   have n2 := nn t
   have c1 := Int.mul_comm s x
   have c2 := Int.mul_comm t y
   rcases hv with h | h
   ·have := sq_pos h; omega
   ·have := sq_pos h; omega
def SimpleP (n : Nat) (p : Nat → Pt) : Prop :=
 ∀ i, i < n → p i ≠ p (nx n i) ∧ ¬ (cross (p i) (p (nx n i)) (p (nx n (nx n i))) = 0 ∧ 0 < dot (p i) (p (nx n i)) (p (nx n (nx n i)))) ∧
  ∀ k, i + 2 ≤ k → k < n → nx n k ≠ i → ¬ Meet (p i) (p (nx n i)) (p k) (p (nx n k))
def SimpleR (n : Nat) (p : Nat → Pt) : Prop :=
 (∀ i, i < n → ∀ k, k < i → p i ≠ p k) ∧
 ∀ i, i < n → ¬ On (p i) (p (nx n i)) (p (nx n (nx n i))) ∧ ¬ On (p (nx n (nx n i))) (p i) (p (nx n i)) ∧
  ∀ k, i + 2 ≤ k → k < n → nx n k ≠ i → ¬ Meet (p i) (p (nx n i)) (p k) (p (nx n k))
theorem nx_small {n i : Nat} (h : i + 1 < n) : nx n i = i + 1 := Nat.mod_eq_of_lt h
theorem nx_last {n i : Nat} (h : i + 1 = n) : nx n i = 0 := by unfold nx; rw [h, Nat.mod_self]
theorem nx_cases {n i : Nat} (h : i < n) : (i + 1 < n ∧ nx n i = i + 1) ∨ (i + 1 = n ∧ nx n i = 0) := by
 by_cases h1 : i + 1 < n
 ·exact .inl ⟨h1, nx_small h1⟩
 ·exact .inr ⟨by omega, nx_last (by omega)⟩
theorem simpleP_R {n : Nat} {p : Nat → Pt} (h : 3 ≤ n) : SimpleP n p ↔ SimpleR n p := by
 constructor
 ·intro S
  have dist : ∀ i, i < n → ∀ k, k < i → p i ≠ p k := by
   intro i hi k hk heq
   have hk' : k < n := by omega
   rcases nx_cases hi with ⟨g1, g2⟩ | ⟨g1, g2⟩
   ·by_cases h1 : k + 1 = i
    ·have := (S k hk').1
     rw [nx_small (by omega), h1] at this
     exact this heq.symm
    ·refine (S k hk').2.2 i (by omega) hi (by omega) (.inl ?_)
     rw [heq]; exact On.left _ _
   ·by_cases h0 : k = 0
    ·have := (S i hi).1
     rw [g2] at this
     exact this (by rw [heq, h0])
    ·by_cases h1 : k + 1 = i
     ·have := (S k hk').1
      rw [nx_small (by omega), h1] at this
      exact this heq.symm
     ·refine (S k hk').2.2 i (by omega) hi (by omega) (.inl ?_)
      rw [heq]; exact On.left _ _
  refine ⟨dist, fun i hi => ?_⟩
  obtain ⟨h1, h2, h3⟩ := S i hi
  have hx : nx n i < n := nx_lt h
  have h4 := (S _ hx).1
  have hb := mt (back_iff h1 (fun hh => h4 hh.symm)).2 h2
  exact ⟨fun hh => hb (.inl hh), fun hh => hb (.inr hh), h3⟩
 ·rintro ⟨dist, S⟩ i hi
  obtain ⟨h1, h2, h3⟩ := S i hi
  have d : ∀ i j, i < n → j < n → i ≠ j → p i ≠ p j := by
   intro i j hi hj hne
   rcases Nat.lt_or_ge i j with g | g
   ·exact fun hh => dist j hj i g hh.symm
   ·exact dist i hi j (by omega)
  have hx : nx n i < n := nx_lt h
  have e1 := d i (nx n i) hi hx (fun hh => nx_ne h hi hh.symm)
  have e2 := d (nx n i) (nx n (nx n i)) hx (nx_lt h) (fun hh => nx_ne h hx hh.symm)
  refine ⟨e1, fun hh => ?_, h3⟩
  rcases (back_iff e1 (fun hh => e2 hh.symm)).1 hh with g | g
  ·exact h1 g
  ·exact h2 g
theorem simpleR_iff {n : Nat} {p : Nat → Pt} (h : 3 ≤ n) : SimpleR n p ↔ Simple n p := by
 constructor
 ·rintro ⟨dist, S⟩
  refine ⟨h, fun i j hi hj hne => ?_, fun e he => ⟨(S e he).2.1, (S e he).1⟩, fun e i he hi h1 h2 h3 => ?_⟩
  ·rcases Nat.lt_or_ge i j with g | g
   ·exact fun hh => dist j hj i g hh.symm
   ·exact dist i hi j (by omega)
  ·rcases Nat.lt_or_ge e i with g | g
   ·refine (S e he).2.2 i ?_ hi h3
    rcases nx_cases he with ⟨g1, g2⟩ | ⟨g1, g2⟩ <;> omega
   ·intro hm
    refine (S i hi).2.2 e ?_ he (fun hh => h2 hh.symm) hm.symm
    rcases nx_cases hi with ⟨g1, g2⟩ | ⟨g1, g2⟩ <;> omega
 ·intro S
  refine ⟨fun i hi k hk => S.dist i k hi (by omega) (by omega), fun i hi => ⟨(S.corner i hi).2, (S.corner i hi).1, fun k h1 h2 h3 => S.apart i k hi h2 (by omega) ?_ h3⟩⟩
  rcases nx_cases hi with ⟨g1, g2⟩ | ⟨g1, g2⟩ <;> omega
theorem simple_area {n : Nat} {p : Nat → Pt} (h : 3 ≤ n) (S : SimpleP n p) : area n p ≠ 0 := area_simple ((simpleR_iff h).1 ((simpleP_R h).1 S))
end Geo
/-
 Points on segments: common points, parts of segments; contours that do not touch.
-/
namespace Geo
theorem sq_nonneg (x : Int) : 0 ≤ x * x := by
 by_cases h : x = 0
 ·rw [h]; decide
 ·exact Int.le_of_lt (sq_pos h)
theorem btw_mul {a b q : Int} (h : btw a b q) : 0 ≤ (q - a) * (b - a) ∧ (q - a) * (b - a) ≤ (b - a) * (b - a) := by
 rcases h with ⟨h1, h2⟩ | ⟨h1, h2⟩
 ·exact ⟨Int.mul_nonneg (by omega) (by omega), Int.mul_le_mul_of_nonneg_right (by omega) (by omega)⟩
 ·have k1 := Int.mul_nonneg (show 0 ≤ a - q by omega) (show 0 ≤ a - b by omega)
  have k2 := Int.mul_nonneg (show 0 ≤ q - b by omega) (show 0 ≤ a - b by omega)
  constructor
  ·grind
  ·grind
theorem On.param {q a b : Pt} (h : On q a b) (hne : a ≠ b) : ∃ N s : Int, 0 < N ∧ 0 ≤ s ∧ s ≤ N ∧ (q.1 - a.1) * N = s * (b.1 - a.1) ∧ (q.2 - a.2) * N = s * (b.2 - a.2) := by
 obtain ⟨hc, h1, h2⟩ := h
 have m1 := btw_mul h1
 have m2 := btw_mul h2
 refine ⟨(b.1 - a.1) * (b.1 - a.1) + (b.2 - a.2) * (b.2 - a.2), (q.1 - a.1) * (b.1 - a.1) + (q.2 - a.2) * (b.2 - a.2), ?_, by omega, by omega, ?_, ?_⟩
 ·have n1 := sq_nonneg (b.1 - a.1)
  have n2 := sq_nonneg (b.2 - a.2)
  by_cases g1 : b.1 - a.1 = 0
  ·by_cases g2 : b.2 - a.2 = 0
   ·exact absurd (Prod.ext (by omega) (by omega)) hne
   ·have := sq_pos g2; omega
  ·have := sq_pos g1; omega
 ·unfold cross at hc
  grind
 ·unfold cross at hc
  grind
theorem opp_of {x y u v : Int} (hx : 0 < x) (hy : 0 < y) (h : x * u + y * v = 0) : opp u v ∨ (u = 0 ∧ v = 0) := by
 rcases Int.lt_trichotomy u 0 with g | g | g
 ·have : 0 < x * (-u) := Int.mul_pos hx (by omega)
  have h2 : 0 < v * y := by grind
  exact .inl (.inl ⟨g, pos_of hy h2⟩)
 ·rw [g] at h
  have h2 : y * v = 0 := by omega
  rcases Int.mul_eq_zero.1 h2 with h3 | h3
  ·omega
  ·exact .inr ⟨g, h3⟩
 ·have : 0 < x * u := Int.mul_pos hx g
  have h2 : v * y < 0 := by grind
  exact .inl (.inr ⟨g, neg_of hy h2⟩)
theorem eq_of_mul {x y N : Int} (hN : 0 < N) (h : x * N = y * N) : x = y := Int.eq_of_mul_eq_mul_right (by omega) h
theorem common {q a b c d : Pt} (h1 : On q a b) (h2 : On q c d) (hab : a ≠ b) (hcd : c ≠ d) : Meet a b c d := by
 obtain ⟨N, s, hN, s0, sN, x1, x2⟩ := h1.param hab
 obtain ⟨K, r, hK, r0, rK, y1, y2⟩ := h2.param hcd
 by_cases e1 : r = 0
 ·have : q = c := by
   rw [e1] at y1 y2
   exact Prod.ext (by have := eq_of_mul (x := q.1 - c.1) (y := 0) hK (by omega); omega) (by have := eq_of_mul (x := q.2 - c.2) (y := 0) hK (by omega); omega)
  rw [this] at h1
  exact .inl h1
 ·by_cases e2 : r = K
  ·have : q = d := by
    rw [e2] at y1 y2
    exact Prod.ext (by have := eq_of_mul (x := q.1 - c.1) (y := d.1 - c.1) hK (by grind); omega) (by have := eq_of_mul (x := q.2 - c.2) (y := d.2 - c.2) hK (by grind); omega)
   rw [this] at h1
   exact .inr (.inl h1)
  ·by_cases e3 : s = 0
   ·have : q = a := by
     rw [e3] at x1 x2
     exact Prod.ext (by have := eq_of_mul (x := q.1 - a.1) (y := 0) hN (by omega); omega) (by have := eq_of_mul (x := q.2 - a.2) (y := 0) hN (by omega); omega)
    rw [this] at h2
    exact .inr (.inr (.inl h2))
   ·by_cases e4 : s = N
    ·have : q = b := by
      rw [e4] at x1 x2
      exact Prod.ext (by have := eq_of_mul (x := q.1 - a.1) (y := b.1 - a.1) hN (by grind); omega) (by have := eq_of_mul (x := q.2 - a.2) (y := b.2 - a.2) hN (by grind); omega)
     rw [this] at h2
     exact .inr (.inr (.inr (.inl h2)))
    ·have A : (K - r) * cross a b c + r * cross a b d = 0 := by
      have : (K - r) * cross a b c + r * cross a b d = K * cross a b q := by unfold cross; grind
      rw [this, h1.1]; simp
     have C : (N - s) * cross c d a + s * cross c d b = 0 := by
      have : (N - s) * cross c d a + s * cross c d b = N * cross c d q := by unfold cross; grind
      rw [this, h2.1]; simp
     have D := cross_diff a b c d
     have flat : cross a b c = 0 → cross c d a = 0 → Meet a b c d := by
      intro z1 z2
      -- along ab
      have hh : ht (b.1 - a.1) (b.2 - a.2) a < ht (b.1 - a.1) (b.2 - a.2) b := by
       have n1 := sq_nonneg (b.1 - a.1)
       have n2 := sq_nonneg (b.2 - a.2)
       have e : ht (b.1 - a.1) (b.2 - a.2) b - ht (b.1 - a.1) (b.2 - a.2) a = (b.1 - a.1) * (b.1 - a.1) + (b.2 - a.2) * (b.2 - a.2) := by unfold ht; grind
       by_cases g1 : b.1 - a.1 = 0
       ·by_cases g2 : b.2 - a.2 = 0
        ·exact absurd (Prod.ext (by omega) (by omega)) hab
        ·have := sq_pos g2; omega
       ·have := sq_pos g1; omega
      have z3 : cross a b d = 0 := by
       rw [z1] at A
       have h0 : r * cross a b d = 0 := by omega
       rcases Int.mul_eq_zero.1 h0 with h | h
       ·omega
       ·exact h
      -- heights of q
      have q1 : (ht (b.1 - a.1) (b.2 - a.2) q - ht (b.1 - a.1) (b.2 - a.2) a) * N = s * (ht (b.1 - a.1) (b.2 - a.2) b - ht (b.1 - a.1) (b.2 - a.2) a) := by unfold ht; grind
      have q2 : (ht (b.1 - a.1) (b.2 - a.2) q - ht (b.1 - a.1) (b.2 - a.2) c) * K = r * (ht (b.1 - a.1) (b.2 - a.2) d - ht (b.1 - a.1) (b.2 - a.2) c) := by unfold ht; grind
      generalize hta : ht (b.1 - a.1) (b.2 - a.2) a = ta at *
      generalize htb : ht (b.1 - a.1) (b.2 - a.2) b = tb at *
      generalize htc : ht (b.1 - a.1) (b.2 - a.2) c = tc at *
      generalize htd : ht (b.1 - a.1) (b.2 - a.2) d = td at *
      generalize htq : ht (b.1 - a.1) (b.2 - a.2) q = tq at *
      have b1 : btw 0 (tb - ta) (tq - ta) := scale_btw hN s0 sN (by rw [q1]; exact Int.mul_comm _ _)
      have b2 : btw 0 (td - tc) (tq - tc) := scale_btw hK r0 rK (by rw [q2]; exact Int.mul_comm _ _)
      unfold btw at b1 b2
      by_cases g : ta ≤ tc ∧ tc ≤ tb
      ·exact .inl (on_of (α := b.1 - a.1) (β := b.2 - a.2) z1 (by omega) (by omega) (by omega))
      ·by_cases g' : ta ≤ td ∧ td ≤ tb
       ·exact .inr (.inl (on_of (α := b.1 - a.1) (β := b.2 - a.2) z3 (by omega) (by omega) (by omega)))
       ·by_cases g'' : tc ≤ td
        ·exact .inr (.inr (.inl (on_of (α := b.1 - a.1) (β := b.2 - a.2) z2 (by omega) (by omega) (by omega))))
        ·refine .inr (.inr (.inl (On.swap (on_of (α := b.1 - a.1) (β := b.2 - a.2) ?_ (by omega) (by omega) (by omega)))))
         rw [cross_swap, z2]; rfl
     rcases opp_of (by omega) (by omega) A with oA | ⟨zA, zA'⟩
     ·rcases opp_of (by omega) (by omega) C with oC | ⟨zC, zC'⟩
      ·exact .inr (.inr (.inr (.inr ⟨oA, oC⟩)))
      ·refine flat ?_ zC
       have he : cross a b c = cross a b d := by omega
       rw [← he] at A
       have : K * cross a b c = 0 := by grind
       rcases Int.mul_eq_zero.1 this with h | h
       ·omega
       ·exact h
     ·refine flat zA ?_
      have he : cross c d a = cross c d b := by omega
      rw [← he] at C
      have : N * cross c d a = 0 := by grind
      rcases Int.mul_eq_zero.1 this with h | h
      ·omega
      ·exact h
theorem On.trans {q c a b : Pt} (hq : On q a b) (hc : On c a q) (hab : a ≠ b) (haq : a ≠ q) : On c a b := by
 obtain ⟨N, s, hN, s0, sN, x1, x2⟩ := hq.param hab
 obtain ⟨h0, h1, h2⟩ := hc
 obtain ⟨_, g1, g2⟩ := hq
 refine ⟨?_, by unfold btw at *; omega, by unfold btw at *; omega⟩
 have e : s * cross a b c = N * cross a q c := by unfold cross; grind
 rw [h0] at e
 have h3 : s * cross a b c = 0 := by omega
 rcases Int.mul_eq_zero.1 h3 with h | h
 ·exfalso
  rw [h] at x1 x2
  exact haq (Prod.ext (by have := eq_of_mul (x := q.1 - a.1) (y := 0) hN (by omega); omega) (by have := eq_of_mul (x := q.2 - a.2) (y := 0) hN (by omega); omega))
 ·exact h
theorem Meet.part {q a b c d : Pt} (hq : On q a b) (hab : a ≠ b) (hcd : c ≠ d) (h : Meet a q c d) : Meet a b c d := by
 by_cases haq : a = q
 ·
  subst haq
  have pt : ∀ x : Pt, On x a a → x = a := by
   rintro x ⟨_, h1, h2⟩
   exact Prod.ext (by unfold btw at h1; omega) (by unfold btw at h2; omega)
  rcases h with h | h | h | h | ⟨h1, h2⟩
  ·rw [pt c h]; exact .inr (.inr (.inl (On.left a d)))
  ·rw [pt d h]; exact .inr (.inr (.inl (On.right c a)))
  ·exact .inr (.inr (.inl h))
  ·exact .inr (.inr (.inl h))
  ·rw [cross_same, cross_same] at h1
   unfold opp at h1; omega
 ·rcases h with h | h | h | h | ⟨h1, h2⟩
  ·exact .inl (hq.trans h hab haq)
  ·exact .inr (.inl (hq.trans h hab haq))
  ·exact .inr (.inr (.inl h))
  ·exact common hq h hab hcd
  ·obtain ⟨N, s, hN, s0, sN, x1, x2⟩ := hq.param hab
   have hs : 0 < s := by
    rcases Int.lt_or_eq_of_le s0 with g | g
    ·exact g
    ·exfalso
     rw [← g] at x1 x2
     exact haq (Prod.ext (by have := eq_of_mul (x := q.1 - a.1) (y := 0) hN (by omega); omega) (by have := eq_of_mul (x := q.2 - a.2) (y := 0) hN (by omega); omega))
   have ec : s * cross a b c = N * cross a q c := by unfold cross; grind
   have ed : s * cross a b d = N * cross a q d := by unfold cross; grind
   have eb : (N - s) * cross c d a + s * cross c d b = N * cross c d q := by unfold cross; grind
   have up : ∀ {x y : Int}, s * x = N * y → (0 < y → 0 < x) ∧ (y < 0 → x < 0) := by
    intro x y e
    refine ⟨fun h => ?_, fun h => ?_⟩
    ·have := Int.mul_pos hN h
     exact pos_of hs (by grind)
    ·have := Int.mul_pos hN (show 0 < -y by omega)
     exact neg_of hs (by grind)
   refine .inr (.inr (.inr (.inr ⟨?_, ?_⟩)))
   ·rcases h1 with ⟨g1, g2⟩ | ⟨g1, g2⟩
    ·exact .inl ⟨(up ec).2 g1, (up ed).1 g2⟩
    ·exact .inr ⟨(up ec).1 g1, (up ed).2 g2⟩
   ·rcases h2 with ⟨g1, g2⟩ | ⟨g1, g2⟩
    ·refine .inl ⟨g1, ?_⟩
     have k1 := Int.mul_pos hN g2
     have k2 := Int.mul_nonneg (show 0 ≤ N - s by omega) (show 0 ≤ - cross c d a by omega)
     exact pos_of hs (by grind)
    ·refine .inr ⟨g1, ?_⟩
     have k1 := Int.mul_pos hN (show 0 < - cross c d q by omega)
     have k2 := Int.mul_nonneg (show 0 ≤ N - s by omega) (show 0 ≤ cross c d a by omega)
     exact neg_of hs (by grind)
theorem par_edge {n' : Nat} {p' : Nat → Pt} {a b q : Pt} (hf : Free n' p' a b) (hq : On q a b) (hab : a ≠ b) (hd : ∀ i, i < n' → p' i ≠ p' ((i + 1) % n')) :
  (∀ i, i < n' → ¬ On q (p' i) (p' ((i + 1) % n'))) ∧ par n' p' q = par n' p' a := by
 refine ⟨fun i hi ho => hf i hi (common hq ho hab (hd i hi)), ?_⟩
 have : Free n' p' a q := fun i hi hm => hf i hi (hm.part hq hab (hd i hi))
 exact (par_free this).symm
end Geo
/-
 Two contours that do not touch: apart, or one within the other.
-/
set_option linter.all false
namespace Geo
def sc (D : Int) (q : Pt) : Pt := (D * q.1, D * q.2)
theorem cross_sc (D : Int) (a b c : Pt) : cross (sc D a) (sc D b) (sc D c) = D * D * cross a b c := by unfold cross sc; grind
theorem le_sc {D x y : Int} (hD : 0 < D) : D * x ≤ D * y ↔ x ≤ y := Int.mul_le_mul_left hD
theorem lt_sc {D x y : Int} (hD : 0 < D) : D * x < D * y ↔ x < y := Int.mul_lt_mul_left hD
theorem btw_sc {D : Int} (hD : 0 < D) (a b q : Int) : btw (D * a) (D * b) (D * q) ↔ btw a b q := by
 unfold btw; rw [le_sc hD, le_sc hD, le_sc hD, le_sc hD]
theorem sgn_sc {D x : Int} (hD : 0 < D) : (0 < D * x ↔ 0 < x) ∧ (D * x < 0 ↔ x < 0) ∧ (D * x = 0 ↔ x = 0) := by
 have h1 := lt_sc (x := 0) (y := x) hD
 have h2 := lt_sc (x := x) (y := 0) hD
 rw [Int.mul_zero] at h1 h2
 exact ⟨h1, h2, ⟨fun h => by omega, fun h => by rw [h, Int.mul_zero]⟩⟩
theorem on_sc {D : Int} (hD : 0 < D) (q a b : Pt) : On (sc D q) (sc D a) (sc D b) ↔ On q a b := by
 unfold On
 rw [cross_sc, (sgn_sc (Int.mul_pos hD hD)).2.2]
 unfold sc
 simp only [btw_sc hD]
theorem opp_sc {D : Int} (hD : 0 < D) (s t : Int) : opp (D * s) (D * t) ↔ opp s t := by
 unfold opp
 rw [(sgn_sc hD).1, (sgn_sc hD).1, (sgn_sc hD).2.1, (sgn_sc hD).2.1]
theorem meet_sc {D : Int} (hD : 0 < D) (a b c d : Pt) : Meet (sc D a) (sc D b) (sc D c) (sc D d) ↔ Meet a b c d := by
 unfold Meet
 rw [on_sc hD, on_sc hD, on_sc hD, on_sc hD, cross_sc, cross_sc, cross_sc, cross_sc, opp_sc (Int.mul_pos hD hD), opp_sc (Int.mul_pos hD hD)]
theorem rc_sc {D : Int} (hD : 0 < D) (q a b : Pt) : rc (sc D q) (sc D a) (sc D b) = rc q a b := by
 unfold rc
 rw [cross_sc]
 have h1 : decide ((sc D a).2 > (sc D q).2) = decide (a.2 > q.2) := decide_eq_decide.2 (lt_sc hD)
 have h2 : decide ((sc D b).2 > (sc D q).2) = decide (b.2 > q.2) := decide_eq_decide.2 (lt_sc hD)
 have h3 : decide ((sc D b).2 > (sc D a).2) = decide (b.2 > a.2) := decide_eq_decide.2 (lt_sc hD)
 have h4 : decide (0 < D * D * cross a b q) = decide (0 < cross a b q) := decide_eq_decide.2 (sgn_sc (Int.mul_pos hD hD)).1
 rw [h1, h2, h3, h4]
theorem par_sc {D : Int} (hD : 0 < D) (n : Nat) (p : Nat → Pt) (q : Pt) : par n (fun i => sc D (p i)) (sc D q) = par n p q := by
 unfold par
 exact xs_congr fun i _ => rc_sc hD q _ _
theorem sc_ne {D : Int} (hD : 0 < D) {a b : Pt} (h : a ≠ b) : sc D a ≠ sc D b := by
 intro e
 apply h
 have h1 : D * a.1 = D * b.1 := congrArg Prod.fst e
 have h2 : D * a.2 = D * b.2 := congrArg Prod.snd e
 have := Int.eq_of_mul_eq_mul_left (by omega) h1
 have := Int.eq_of_mul_eq_mul_left (by omega) h2
 exact Prod.ext (by assumption) (by assumption)
def OnK (n : Nat) (p : Nat → Pt) (q : Pt) : Prop := ∃ j, j < n ∧ On q (p j) (p (nx n j))
theorem onK_sc {D : Int} (hD : 0 < D) (n : Nat) (p : Nat → Pt) (q : Pt) : OnK n (fun i => sc D (p i)) (sc D q) ↔ OnK n p q :=
 ⟨fun ⟨j, h, h'⟩ => ⟨j, h, (on_sc hD _ _ _).1 h'⟩, fun ⟨j, h, h'⟩ => ⟨j, h, (on_sc hD _ _ _).2 h'⟩⟩
def Whole (y : Int) (n : Nat) (p : Nat → Pt) : Prop := ∀ i, i < n → (p i).2 ≠ (p (nx n i)).2 → ∃ x, cross (p i) (p (nx n i)) (x, y) = 0
theorem cross_row {c d : Pt} {x0 y : Int} (h : cross c d (x0, y) = 0) (x : Int) : cross c d (x, y) = (d.2 - c.2) * (x0 - x) := by
 unfold cross at *
 grind
theorem on_row {c d : Pt} {x0 y : Int} (h : cross c d (x0, y) = 0) (hy : (c.2 ≤ y ∧ y ≤ d.2) ∨ (d.2 ≤ y ∧ y ≤ c.2)) (hne : c.2 ≠ d.2) : On (x0, y) c d := by
 rcases hy with ⟨h1, h2⟩ | ⟨h1, h2⟩
 ·exact on_of (α := 0) (β := 1) h (by rw [ht01, ht01]; exact h1) (by rw [ht01, ht01]; exact h2) (by rw [ht01, ht01]; omega)
 ·have h' : cross d c (x0, y) = 0 := by rw [cross_swap, h]; rfl
  exact (on_of (α := 0) (β := 1) h' (by rw [ht01, ht01]; exact h1) (by rw [ht01, ht01]; exact h2) (by rw [ht01, ht01]; omega)).swap
theorem meet_row {c d : Pt} {x1 x2 y : Int} (hx : x1 ≤ x2) (hw : c.2 ≠ d.2 → ∃ x, cross c d (x, y) = 0) (hm : Meet (x1, y) (x2, y) c d) : ∃ x, x1 ≤ x ∧ x ≤ x2 ∧ On (x, y) c d := by
 have on_seg : ∀ q : Pt, On q (x1, y) (x2, y) → q = (q.1, y) ∧ x1 ≤ q.1 ∧ q.1 ≤ x2 := by
  intro q h
  obtain ⟨_, h2, h3⟩ := h
  unfold btw at h2 h3
  simp only at h2 h3
  exact ⟨Prod.ext rfl (by simp only; omega), by omega, by omega⟩
 rcases hm with h | h | h | h | ⟨h1, h2⟩
 ·obtain ⟨e, a, b⟩ := on_seg c h
  exact ⟨c.1, a, b, by rw [← e]; exact On.left c d⟩
 ·obtain ⟨e, a, b⟩ := on_seg d h
  exact ⟨d.1, a, b, by rw [← e]; exact On.right c d⟩
 ·exact ⟨x1, Int.le_refl _, hx, h⟩
 ·exact ⟨x2, hx, Int.le_refl _, h⟩
 ·have e1 : ∀ q : Pt, cross (x1, y) (x2, y) q = (x2 - x1) * (q.2 - y) := by intro q; unfold cross; simp only; grind
  rw [e1, e1] at h1
  have hlt : 0 < x2 - x1 := by
   by_cases h : x1 = x2
   ·subst h
    rw [Int.sub_self, Int.zero_mul, Int.zero_mul] at h1
    unfold opp at h1
    omega
   ·omega
  rw [opp_sc hlt] at h1
  have hne : c.2 ≠ d.2 := by
   intro e
   unfold opp at h1
   omega
  obtain ⟨x, hx'⟩ := hw hne
  rw [cross_row hx', cross_row hx'] at h2
  have hxx : x1 ≤ x ∧ x ≤ x2 := by
   unfold opp at h2
   by_cases hd : 0 < d.2 - c.2
   ·rw [(sgn_sc hd).1, (sgn_sc hd).1, (sgn_sc hd).2.1, (sgn_sc hd).2.1] at h2
    omega
   ·have hd' : 0 < -(d.2 - c.2) := by omega
    have e : ∀ z, (d.2 - c.2) * z = -(d.2 - c.2) * (-z) := by intro z; grind
    rw [e, e, (sgn_sc hd').1, (sgn_sc hd').1, (sgn_sc hd').2.1, (sgn_sc hd').2.1] at h2
    omega
  refine ⟨x, hxx.1, hxx.2, on_row hx' ?_ hne⟩
  unfold opp at h1
  omega
theorem free_row {n : Nat} {p : Nat → Pt} {x1 x2 y : Int} (hx : x1 ≤ x2) (hw : Whole y n p) (h : ∀ x, x1 ≤ x → x ≤ x2 → ¬ OnK n p (x, y)) : Free n p (x1, y) (x2, y) := by
 intro i hi hm
 obtain ⟨x, a, b, c⟩ := meet_row hx (hw i hi) hm
 exact h x a b ⟨i, hi, c⟩
theorem xs_ex {n : Nat} {f : Nat → Bool} (h : xs n f = true) : ∃ i, i < n ∧ f i = true := by
 induction n with
 | zero => cases h
 | succ n ih =>
  by_cases hf : f n = true
  ·exact ⟨n, by omega, hf⟩
  ·have : xs n f = true := by
    simp only [xs] at h
    revert h
    cases xs n f <;> cases hq : f n <;> simp_all
   obtain ⟨i, a, b⟩ := ih this
   exact ⟨i, by omega, b⟩
theorem least_nat {P : Nat → Prop} (h : ∃ k, P k) : ∃ k, P k ∧ ∀ j, j < k → ¬ P j := by
 obtain ⟨k, hk⟩ := h
 induction k using Nat.strongRecOn with
 | ind k ih =>
  by_cases h : ∃ j, j < k ∧ P j
  ·obtain ⟨j, h1, h2⟩ := h
   exact ih j h1 h2
  ·exact ⟨k, hk, fun j h1 h2 => h ⟨j, h1, h2⟩⟩
theorem first_hit {n : Nat} {p : Nat → Pt} {q : Pt} (hw : Whole q.2 n p) (hp : par n p q = true) (hq : ¬ OnK n p q) : ∃ x, q.1 ≤ x ∧ OnK n p (x, q.2) ∧ ∀ x', q.1 ≤ x' → x' < x → ¬ OnK n p (x', q.2) := by
 have hex : ∃ x, q.1 ≤ x ∧ OnK n p (x, q.2) := by
  obtain ⟨i, hi, hr⟩ := xs_ex hp
  have hr' : rc q (p i) (p (nx n i)) = true := hr
  by_cases hne : (p i).2 = (p (nx n i)).2
  ·rw [rc_flat (by omega)] at hr'; cases hr'
  ·obtain ⟨x, hx⟩ := hw i hi hne
   have hc : cross (p i) (p (nx n i)) q = ((p (nx n i)).2 - (p i).2) * (x - q.1) := cross_row hx q.1
   by_cases h1 : (p i).2 ≤ q.2 ∧ q.2 < (p (nx n i)).2
   ·rw [rc_up h1.1 h1.2, decide_eq_true_iff, hc, (sgn_sc (by omega)).1] at hr'
    exact ⟨x, by omega, i, hi, on_row hx (by omega) hne⟩
   ·by_cases h2 : (p (nx n i)).2 ≤ q.2 ∧ q.2 < (p i).2
    ·have hno : ¬ On q (p i) (p (nx n i)) := fun h => hq ⟨i, hi, h⟩
     rw [rc_swap hno, rc_up h2.1 h2.2, decide_eq_true_iff, cross_swap, hc, show -(((p (nx n i)).2 - (p i).2) * (x - q.1)) = ((p i).2 - (p (nx n i)).2) * (x - q.1) from by grind, (sgn_sc (by omega)).1] at hr'
     exact ⟨x, by omega, i, hi, on_row hx (by omega) hne⟩
    ·rw [rc_flat (by omega)] at hr'; cases hr'
 obtain ⟨x, h1, h2⟩ := hex
 obtain ⟨k, hk1, hk2⟩ := least_nat (P := fun k : Nat => OnK n p (q.1 + (k : Int), q.2)) ⟨(x - q.1).toNat, by rw [Int.toNat_of_nonneg (by omega)]; rw [show q.1 + (x - q.1) = x from by omega]; exact h2⟩
 refine ⟨q.1 + k, by omega, hk1, fun x' a b => ?_⟩
 have := hk2 (x' - q.1).toNat (by omega)
 rw [Int.toNat_of_nonneg (by omega), show q.1 + (x' - q.1) = x' from by omega] at this
 exact this
structure NoTouch (n : Nat) (p : Nat → Pt) (n' : Nat) (p' : Nat → Pt) : Prop where
 big : 3 ≤ n
 big' : 3 ≤ n'
 free : ∀ i, i < n → ∀ k, k < n' → ¬ Meet (p i) (p (nx n i)) (p' k) (p' (nx n' k))
 ne : ∀ i, i < n → p i ≠ p (nx n i)
 ne' : ∀ i, i < n' → p' i ≠ p' (nx n' i)
theorem NoTouch.symm {n : Nat} {p : Nat → Pt} {n' : Nat} {p' : Nat → Pt} (h : NoTouch n p n' p') : NoTouch n' p' n p :=
 ⟨h.big', h.big, fun i hi k hk hm => h.free k hk i hi hm.symm, h.ne', h.ne⟩
theorem NoTouch.corner {n : Nat} {p : Nat → Pt} {n' : Nat} {p' : Nat → Pt} (h : NoTouch n p n' p') : ∀ i, i < n → par n' p' (p i) = par n' p' (p 0) := by
 intro i
 induction i with
 | zero => intro _; rfl
 | succ i ih =>
  intro hi
  rw [← ih (by omega)]
  have e := par_free (n := n') (p := p') (a := p i) (b := p (nx n i)) (fun k hk => h.free i (by omega) k hk)
  rw [nx_small hi] at e
  exact e.symm
theorem NoTouch.side {n : Nat} {p : Nat → Pt} {n' : Nat} {p' : Nat → Pt} (h : NoTouch n p n' p') {q : Pt} (hq : OnK n p q) : ¬ OnK n' p' q ∧ par n' p' q = par n' p' (p 0) := by
 obtain ⟨i, hi, ho⟩ := hq
 obtain ⟨h1, h2⟩ := par_edge (n' := n') (p' := p') (fun k hk => h.free i hi k hk) ho (h.ne i hi) h.ne'
 exact ⟨fun ⟨k, hk, hk'⟩ => h1 k hk hk', by rw [h2]; exact h.corner i hi⟩
theorem apart_whole {n : Nat} {p : Nat → Pt} {n' : Nat} {p' : Nat → Pt} (h : NoTouch n p n' p') (o1 : par n' p' (p 0) = false) (o2 : par n p (p' 0) = false) {q : Pt} (w1 : Whole q.2 n p) (w2 : Whole q.2 n' p')
  (h1 : par n p q = true) (h2 : par n' p' q = true) (h3 : ¬ OnK n p q) (h4 : ¬ OnK n' p' q) : False := by
 obtain ⟨x, x1, x2, x3⟩ := first_hit w1 h1 h3
 obtain ⟨y, y1, y2, y3⟩ := first_hit w2 h2 h4
 rcases Int.lt_trichotomy x y with hl | he | hg
 ·have e := par_free (free_row (n := n') (p := p') x1 w2 (fun z a b => y3 z a (by omega)))
  rw [(h.side x2).2, o1] at e
  exact absurd (h2.symm.trans e) (by simp)
 ·subst he
  exact (h.side x2).1 y2
 ·have e := par_free (free_row (n := n) (p := p) y1 w1 (fun z a b => x3 z a (by omega)))
  rw [(h.symm.side y2).2, o2] at e
  exact absurd (h1.symm.trans e) (by simp)
theorem within_whole {n : Nat} {p : Nat → Pt} {n' : Nat} {p' : Nat → Pt} (h : NoTouch n p n' p') (o1 : par n' p' (p 0) = true) (o2 : par n p (p' 0) = false) {q : Pt} (w1 : Whole q.2 n p) (w2 : Whole q.2 n' p')
  (h1 : par n p q = true) (h3 : ¬ OnK n p q) : ¬ OnK n' p' q ∧ par n' p' q = true := by
 have h4 : ¬ OnK n' p' q := by
  intro hq
  have e := (h.symm.side hq).2
  rw [o2, h1] at e
  cases e
 refine ⟨h4, ?_⟩
 obtain ⟨x, x1, x2, x3⟩ := first_hit w1 h1 h3
 by_cases hc : ∃ z, q.1 ≤ z ∧ z ≤ x ∧ OnK n' p' (z, q.2)
 ·exfalso
  obtain ⟨z, z1, z2, z3⟩ := hc
  have hz : z < x := by
   by_cases e : z = x
   ·subst e; exact absurd z3 (h.side x2).1
   ·omega
  have e := par_free (free_row (n := n) (p := p) z1 w1 (fun z' a b => x3 z' a (by omega)))
  rw [(h.symm.side z3).2, o2] at e
  exact absurd (h1.symm.trans e) (by simp)
 ·have e := par_free (free_row (n := n') (p := p') x1 w2 (fun z a b hk => hc ⟨z, a, b, hk⟩))
  rw [(h.side x2).2, o1] at e
  exact e
theorem outer_side {n : Nat} {p : Nat → Pt} {n' : Nat} {p' : Nat → Pt} (h : NoTouch n p n' p') (o1 : par n' p' (p 0) = true) : par n p (p' 0) = false := by
 have hb := h.big'
 obtain ⟨t, ht, hm⟩ : ∃ t, t < n' ∧ ∀ j, j < n' → (p' j).2 ≤ (p' t).2 := by
  have : ∀ m, 0 < m → m ≤ n' → ∃ t, t < m ∧ ∀ j, j < m → (p' j).2 ≤ (p' t).2 := by
   intro m
   induction m with
   | zero => intro h; omega
   | succ m ih =>
    intro _ hm
    by_cases h0 : m = 0
    ·subst h0
     exact ⟨0, by omega, fun j hj => by rw [show j = 0 from by omega]; exact Int.le_refl _⟩
    ·obtain ⟨t, h1, h2⟩ := ih (by omega) (by omega)
     by_cases hc : (p' m).2 ≤ (p' t).2
     ·refine ⟨t, by omega, fun j hj => ?_⟩
      by_cases e : j = m
      ·rw [e]; exact hc
      ·exact h2 j (by omega)
     ·refine ⟨m, by omega, fun j hj => ?_⟩
      by_cases e : j = m
      ·rw [e]; exact Int.le_refl _
      ·have := h2 j (by omega); omega
  exact this n' (by omega) (Nat.le_refl _)
 rw [← h.symm.corner t ht]
 refine par_out (.inl fun c hc => ?_)
 have hin := h.corner c hc
 rw [o1] at hin
 by_cases hle : (p c).2 ≤ (p' t).2
 ·exact hle
 ·exfalso
  have : par n' p' (p c) = false := par_out (.inl fun j hj => by have := hm j hj; omega)
  rw [hin] at this
  cases this
def dd (a b : Pt) : Int := if a.2 = b.2 then 1 else (b.2 - a.2) * (b.2 - a.2)
theorem dd_pos (a b : Pt) : 0 < dd a b := by
 unfold dd
 split
 ·decide
 ·exact sq_pos (by omega)
def pd : Nat → (Nat → Int) → Int
 | 0, _ => 1
 | n + 1, f => pd n f * f n
theorem pd_pos {n : Nat} {f : Nat → Int} (h : ∀ i, 0 < f i) : 0 < pd n f := by
 induction n with
 | zero => exact Int.one_pos
 | succ n ih => exact Int.mul_pos ih (h n)
theorem pd_dvd {n : Nat} {f : Nat → Int} {i : Nat} (h : i < n) : f i ∣ pd n f := by
 induction n with
 | zero => omega
 | succ n ih =>
  by_cases e : i = n
  ·subst e; exact Int.dvd_mul_left _ _
  ·exact Int.dvd_trans (ih (by omega)) (Int.dvd_mul_right _ _)
def scl (n : Nat) (p : Nat → Pt) : Int := pd n fun i => dd (p i) (p (nx n i))
theorem scl_pos (n : Nat) (p : Nat → Pt) : 0 < scl n p := pd_pos fun i => dd_pos _ _
theorem whole_sc {n : Nat} {p : Nat → Pt} {D : Int} (hD : 0 < D) (hd : scl n p ∣ D) (y : Int) : Whole (D * y) n (fun i => sc D (p i)) := by
 intro i hi hne
 have hne' : (p i).2 ≠ (p (nx n i)).2 := fun e => hne (by show D * (p i).2 = D * (p (nx n i)).2; rw [e])
 have h1 : dd (p i) (p (nx n i)) ∣ D := Int.dvd_trans (pd_dvd (f := fun i => dd (p i) (p (nx n i))) hi) hd
 unfold dd at h1
 rw [if_neg hne'] at h1
 obtain ⟨e, he⟩ := h1
 refine ⟨D * (p i).1 + ((p (nx n i)).1 - (p i).1) * ((p (nx n i)).2 - (p i).2) * e * (y - (p i).2), ?_⟩
 have : cross (sc D (p i)) (sc D (p (nx n i))) (D * (p i).1 + ((p (nx n i)).1 - (p i).1) * ((p (nx n i)).2 - (p i).2) * e * (y - (p i).2), D * y) = D * ((p (nx n i)).1 - (p i).1) * (y - (p i).2) * (D - ((p (nx n i)).2 - (p i).2) * ((p (nx n i)).2 - (p i).2) * e) := by
  unfold cross sc
  grind
 refine Eq.trans this ?_
 rw [← he, Int.sub_self, Int.mul_zero]
theorem NoTouch.sc {n : Nat} {p : Nat → Pt} {n' : Nat} {p' : Nat → Pt} (h : NoTouch n p n' p') {D : Int} (hD : 0 < D) : NoTouch n (fun i => sc D (p i)) n' (fun i => sc D (p' i)) :=
 ⟨h.big, h.big', fun i hi k hk hm => h.free i hi k hk ((meet_sc hD _ _ _ _).1 hm), fun i hi => sc_ne hD (h.ne i hi), fun i hi => sc_ne hD (h.ne' i hi)⟩
theorem two_apart {n : Nat} {p : Nat → Pt} {n' : Nat} {p' : Nat → Pt} (h : NoTouch n p n' p') (o1 : par n' p' (p 0) = false) (o2 : par n p (p' 0) = false) {q : Pt}
  (h1 : par n p q = true ∨ OnK n p q) (h2 : par n' p' q = true ∨ OnK n' p' q) : False := by
 by_cases k1 : OnK n p q
 ·obtain ⟨a, b⟩ := h.side k1
  rw [o1] at b
  rcases h2 with h | h
  ·rw [h] at b; cases b
  ·exact a h
 ·by_cases k2 : OnK n' p' q
  ·obtain ⟨a, b⟩ := h.symm.side k2
   rw [o2] at b
   rcases h1 with h | h
   ·rw [h] at b; cases b
   ·exact a h
  ·have hD : 0 < scl n p * scl n' p' := Int.mul_pos (scl_pos _ _) (scl_pos _ _)
   have g1 : par n p q = true := h1.resolve_right k1
   have g2 : par n' p' q = true := h2.resolve_right k2
   refine apart_whole (h.sc hD) ?_ ?_ (q := Geo.sc (scl n p * scl n' p') q) (whole_sc hD (Int.dvd_mul_right _ _) q.2) (whole_sc hD (Int.dvd_mul_left _ _) q.2) ?_ ?_ ?_ ?_
   ·rw [par_sc hD]; exact o1
   ·rw [par_sc hD]; exact o2
   ·rw [par_sc hD]; exact g1
   ·rw [par_sc hD]; exact g2
   ·rw [onK_sc hD]; exact k1
   ·rw [onK_sc hD]; exact k2
theorem two_within {n : Nat} {p : Nat → Pt} {n' : Nat} {p' : Nat → Pt} (h : NoTouch n p n' p') (o1 : par n' p' (p 0) = true) {q : Pt}
  (h1 : par n p q = true ∨ OnK n p q) : ¬ OnK n' p' q ∧ par n' p' q = true := by
 by_cases k1 : OnK n p q
 ·obtain ⟨a, b⟩ := h.side k1
  rw [o1] at b
  exact ⟨a, b⟩
 ·have hD : 0 < scl n p * scl n' p' := Int.mul_pos (scl_pos _ _) (scl_pos _ _)
  have g1 : par n p q = true := h1.resolve_right k1
  have := within_whole (h.sc hD) (by rw [par_sc hD]; exact o1) (by rw [par_sc hD]; exact outer_side h o1) (q := Geo.sc (scl n p * scl n' p') q) (whole_sc hD (Int.dvd_mul_right _ _) q.2) (whole_sc hD (Int.dvd_mul_left _ _) q.2) (by rw [par_sc hD]; exact g1) (by rw [onK_sc hD]; exact k1)
  rw [onK_sc hD, par_sc hD] at this
  exact this
end Geo
/-
 A contour in the opposite order.
-/
set_option linter.all false
namespace Geo
theorem nx_lt' {n i : Nat} (h : 0 < n) : nx n i < n := Nat.mod_lt _ h
theorem simple_congr {n : Nat} {p q : Nat → Pt} (h : ∀ i, i < n → p i = q i) (S : Simple n p) : Simple n q := by
 have hb := S.big
 have hx : ∀ i, p (nx n i) = q (nx n i) := fun i => h _ (nx_lt' (by omega))
 refine ⟨S.big, fun i j hi hj hne => ?_, fun e he => ?_, fun e i he hi h1 h2 h3 => ?_⟩
 ·rw [← h i hi, ← h j hj]; exact S.dist i j hi hj hne
 ·rw [← h e he, ← hx, ← hx]; exact S.corner e he
 ·rw [← h e he, ← h i hi, ← hx, ← hx]; exact S.apart e i he hi h1 h2 h3
theorem par_congr {n : Nat} {p q : Nat → Pt} (h0 : 0 < n) (h : ∀ i, i < n → p i = q i) (z : Pt) : par n p z = par n q z :=
 xs_congr fun i hi => by rw [h i hi, h ((i + 1) % n) (Nat.mod_lt _ h0)]
theorem area_congr {n : Nat} {p q : Nat → Pt} (h0 : 0 < n) (h : ∀ i, i < n → p i = q i) : area n p = area n q :=
 sm_congr fun i hi => by rw [h i hi, h (nx n i) (nx_lt' h0)]
theorem onK_congr {n : Nat} {p q : Nat → Pt} (h0 : 0 < n) (h : ∀ i, i < n → p i = q i) (z : Pt) : OnK n p z ↔ OnK n q z :=
 ⟨fun ⟨j, hj, ho⟩ => ⟨j, hj, by rw [← h j hj, ← h (nx n j) (nx_lt' h0)]; exact ho⟩, fun ⟨j, hj, ho⟩ => ⟨j, hj, by rw [h j hj, h (nx n j) (nx_lt' h0)]; exact ho⟩⟩
def rv (n : Nat) (p : Nat → Pt) (j : Nat) : Pt := p (n - 1 - j)
def ej (n j : Nat) : Nat := n - 1 - nx n j
theorem ej_lt {n j : Nat} (h : 0 < n) : ej n j < n := by unfold ej; omega
theorem ej_cases {n j : Nat} (hj : j < n) : (j + 1 < n ∧ ej n j = n - 2 - j) ∨ (j + 1 = n ∧ ej n j = n - 1) := by
 unfold ej
 rcases nx_cases hj with ⟨c, d⟩ | ⟨c, d⟩ <;> rw [d] <;> omega
theorem rv_edge {n j : Nat} {p : Nat → Pt} (hj : j < n) : rv n p j = p (nx n (ej n j)) ∧ rv n p (nx n j) = p (ej n j) := by
 refine ⟨?_, rfl⟩
 unfold rv
 congr 1
 unfold ej
 rcases nx_cases hj with ⟨h1, h2⟩ | ⟨h1, h2⟩
 ·rw [h2, nx_small (by omega)]; omega
 ·rw [h2, nx_last (by omega)]; omega
theorem xs_rev (n : Nat) : ∀ g : Nat → Bool, xs n (fun j => g (n - 1 - j)) = xs n g := by
 induction n with
 | zero => intro g; rfl
 | succ n ih =>
  intro g
  have e := ih (fun j => g (j + 1))
  have e2 := xs_shift n g
  have e3 : xs n (fun j => g (n + 1 - 1 - j)) = xs n (fun j => g (n - 1 - j + 1)) := xs_congr fun i hi => by rw [show n + 1 - 1 - i = n - 1 - i + 1 from by omega]
  simp only [xs]
  rw [e3, e, show n + 1 - 1 - n = 0 from by omega, e2]
theorem sm_rev (n : Nat) : ∀ g : Nat → Int, sm n (fun j => g (n - 1 - j)) = sm n g := by
 induction n with
 | zero => intro g; rfl
 | succ n ih =>
  intro g
  have e := ih (fun j => g (j + 1))
  have e2 := sm_shift n g
  have e3 : sm n (fun j => g (n + 1 - 1 - j)) = sm n (fun j => g (n - 1 - j + 1)) := sm_congr fun i hi => by rw [show n + 1 - 1 - i = n - 1 - i + 1 from by omega]
  simp only [sm]
  rw [e3, e, show n + 1 - 1 - n = 0 from by omega, e2]
theorem xs_ej (n : Nat) (g : Nat → Bool) : xs n (fun j => g (ej n j)) = xs n g := (xs_next n (fun k => g (n - 1 - k))).trans (xs_rev n g)
theorem sm_ej (n : Nat) (g : Nat → Int) : sm n (fun j => g (ej n j)) = sm n g := (sm_next n (fun k => g (n - 1 - k))).trans (sm_rev n g)
theorem rv_par {n : Nat} {p : Nat → Pt} {q : Pt} (hq : ¬ OnK n p q) : par n (rv n p) q = par n p q := by
 have h : par n (rv n p) q = xs n (fun j => rc q (p (ej n j)) (p (nx n (ej n j)))) := by
  unfold par
  refine xs_congr fun j hj => ?_
  obtain ⟨h1, h2⟩ := rv_edge (p := p) hj
  show rc q (rv n p j) (rv n p (nx n j)) = _
  rw [h1, h2]
  exact (rc_swap (fun h => hq ⟨ej n j, ej_lt (by omega), h⟩)).symm
 rw [h]
 exact xs_ej n (fun k => rc q (p k) (p (nx n k)))
theorem rv_area (n : Nat) (p : Nat → Pt) : area n (rv n p) = - area n p := by
 have h : area n (rv n p) = sm n (fun j => (-1) * ((p (ej n j)).1 * (p (nx n (ej n j))).2 - (p (nx n (ej n j))).1 * (p (ej n j)).2)) := by
  unfold area
  refine sm_congr fun j hj => ?_
  obtain ⟨h1, h2⟩ := rv_edge (p := p) hj
  rw [h1, h2]
  grind
 rw [h, sm_ej n (fun k => (-1) * ((p k).1 * (p (nx n k)).2 - (p (nx n k)).1 * (p k).2)), sm_mul]
 unfold area
 omega
theorem ej_ej {n j : Nat} (hj : j < n) : ej n (ej n j) = j := by
 have h1 : ej n j < n := ej_lt (by omega)
 unfold ej at *
 rcases nx_cases hj with ⟨a, b⟩ | ⟨a, b⟩ <;> rw [b] at h1 ⊢ <;> rcases nx_cases h1 with ⟨c, d⟩ | ⟨c, d⟩ <;> rw [d] <;> omega
theorem rv_onK {n : Nat} {p : Nat → Pt} {q : Pt} : OnK n (rv n p) q ↔ OnK n p q := by
 constructor
 ·rintro ⟨j, hj, ho⟩
  obtain ⟨h1, h2⟩ := rv_edge (p := p) hj
  rw [h1, h2] at ho
  exact ⟨ej n j, ej_lt (by omega), ho.swap⟩
 ·rintro ⟨j, hj, ho⟩
  have hl : ej n j < n := ej_lt (by omega)
  obtain ⟨h1, h2⟩ := rv_edge (p := p) hl
  rw [ej_ej hj] at h1 h2
  exact ⟨ej n j, hl, by rw [h1, h2]; exact ho.swap⟩
theorem rv_simple {n : Nat} {p : Nat → Pt} (S : Simple n p) : Simple n (rv n p) := by
 have hb := S.big
 refine ⟨hb, fun i j hi hj hne => ?_, fun e he => ?_, fun e i he hi h1 h2 h3 => ?_⟩
 ·exact S.dist _ _ (by omega) (by omega) (by omega)
 ·have hl : ej n (nx n e) < n := ej_lt (by omega)
  have hx : nx n e < n := nx_lt' (by omega)
  obtain ⟨a1, a2⟩ := rv_edge (p := p) he
  obtain ⟨b1, b2⟩ := rv_edge (p := p) hx
  have ee : ej n e = nx n (ej n (nx n e)) := by
   unfold ej
   rcases nx_cases he with ⟨c, d⟩ | ⟨c, d⟩
   ·rw [d]
    rcases nx_cases (show e + 1 < n by omega) with ⟨c', d'⟩ | ⟨c', d'⟩
    ·rw [d', nx_small (by omega)]; omega
    ·rw [d', nx_last (by omega)]; omega
   ·rw [d, nx_small (show 0 + 1 < n by omega), nx_small (by omega)]; omega
  have c := S.corner _ hl
  rw [ee] at a1
  rw [a1, b1, b2]
  exact ⟨fun h => c.2 h.swap, fun h => c.1 h.swap⟩
 ·obtain ⟨a1, a2⟩ := rv_edge (p := p) he
  obtain ⟨b1, b2⟩ := rv_edge (p := p) hi
  rw [a1, a2, b1, b2]
  have h : ¬ Meet (p (ej n e)) (p (nx n (ej n e))) (p (ej n i)) (p (nx n (ej n i))) := by
   have l1 : ej n e < n := ej_lt (by omega)
   have l2 : ej n i < n := ej_lt (by omega)
   have v1 := ej_cases he
   have v2 := ej_cases hi
   have u1 := nx_cases l1
   have u2 := nx_cases l2
   have w1 := nx_cases he
   have w2 := nx_cases hi
   exact S.apart _ _ l1 l2 (by omega) (by omega) (by omega)
  exact fun hm => h hm.swap.swap2
end Geo
/-
 Quarter turns, a mirror and shifts: what they leave as it was.
-/
set_option linter.all false
namespace Geo
def qt (p : Pt) : Pt := (-p.2, p.1)
theorem mul_pp {x y : Int} (h1 : 0 < x) (h2 : 0 < y) : 0 < x * y := Int.mul_pos h1 h2
theorem mul_pn {x y : Int} (h1 : 0 < x) (h2 : y ≤ 0) : x * y ≤ 0 := by
 have := Int.mul_nonneg (a := x) (b := -y) (by omega) (by omega)
 grind
theorem mul_np {x y : Int} (h1 : x ≤ 0) (h2 : 0 < y) : x * y ≤ 0 := by
 have := Int.mul_nonneg (a := -x) (b := y) (by omega) (by omega)
 grind
theorem mul_nn {x y : Int} (h1 : x ≤ 0) (h2 : y ≤ 0) : 0 ≤ x * y := by
 have := Int.mul_nonneg (a := -x) (b := -y) (by omega) (by omega)
 grind
theorem rc_iff {q a b : Pt} : rc q a b = true ↔ ((q.2 < a.2 ∧ ¬ q.2 < b.2 ∧ ¬ 0 < cross a b q) ∨ (¬ q.2 < a.2 ∧ q.2 < b.2 ∧ 0 < cross a b q)) := by
 unfold rc
 by_cases h1 : q.2 < a.2
 ·by_cases h2 : q.2 < b.2
  ·simp [h1, h2]
  ·have : ¬ a.2 < b.2 := by omega
   simp [h1, h2, this]
 ·by_cases h2 : q.2 < b.2
  ·have : a.2 < b.2 := by omega
   simp [h1, h2, this]
  ·simp [h1, h2]
theorem cross_rel (q a b : Pt) : cross a b q = (a.1 - q.1) * (b.2 - q.2) - (a.2 - q.2) * (b.1 - q.1) := by unfold cross; grind
theorem cross_qt (a b c : Pt) : cross (qt a) (qt b) (qt c) = cross a b c := by unfold cross qt; grind
theorem on_qt (q a b : Pt) : On (qt q) (qt a) (qt b) ↔ On q a b := by
 unfold On
 rw [cross_qt]
 unfold btw qt
 simp only
 constructor
 ·rintro ⟨h1, h2, h3⟩; exact ⟨h1, h3, by omega⟩
 ·rintro ⟨h1, h2, h3⟩; exact ⟨h1, by omega, h2⟩
def qd (q p : Pt) : Bool := decide (q.1 < p.1 ∧ ¬ q.2 < p.2)
theorem rc_qt {q a b : Pt} (h : ¬ On q a b) : (rc (qt q) (qt a) (qt b) ^^ rc q a b) = (qd q a ^^ qd q b) := by
 have o1 : (a.2 ≤ q.2 ∧ q.2 < b.2) ∨ (b.2 ≤ q.2 ∧ q.2 < a.2) → cross a b q ≠ 0 := fun hs => off_edge h hs
 have o2 : (a.1 ≤ q.1 ∧ q.1 < b.1) ∨ (b.1 ≤ q.1 ∧ q.1 < a.1) → cross a b q ≠ 0 := fun hs => by
  have := off_edge (q := qt q) (a := qt a) (b := qt b) (fun hh => h ((on_qt q a b).1 hh)) hs
  rwa [cross_qt] at this
 have e1 : rc (qt q) (qt a) (qt b) = decide ((q.1 < a.1 ∧ ¬ q.1 < b.1 ∧ ¬ 0 < cross a b q) ∨ (¬ q.1 < a.1 ∧ q.1 < b.1 ∧ 0 < cross a b q)) := by
  rw [Bool.eq_iff_iff, rc_iff, cross_qt, decide_eq_true_iff]; exact Iff.rfl
 have e2 : rc q a b = decide ((q.2 < a.2 ∧ ¬ q.2 < b.2 ∧ ¬ 0 < cross a b q) ∨ (¬ q.2 < a.2 ∧ q.2 < b.2 ∧ 0 < cross a b q)) := by
  rw [Bool.eq_iff_iff, rc_iff, decide_eq_true_iff]
 rw [e1, e2]
 unfold qd
 have hc := cross_rel q a b
 by_cases a1 : q.1 < a.1 <;> by_cases a2 : q.2 < a.2 <;> by_cases b1 : q.1 < b.1 <;> by_cases b2 : q.2 < b.2 <;> simp only [a1, a2, b1, b2, true_and, false_and, and_true, and_false, or_false, false_or, not_true_eq_false, not_false_eq_true, decide_true, decide_false, Bool.xor_false, Bool.false_xor, Bool.xor_true, Bool.true_xor, Bool.xor_self, Bool.not_true, Bool.not_false]
 all_goals first
  | rfl
  | (simp; done)
  | skip
 all_goals
  have s1 : (0 < a.1 - q.1 ∨ a.1 - q.1 ≤ 0) ∧ (0 < b.2 - q.2 ∨ b.2 - q.2 ≤ 0) ∧ (0 < a.2 - q.2 ∨ a.2 - q.2 ≤ 0) ∧ (0 < b.1 - q.1 ∨ b.1 - q.1 ≤ 0) := by omega
  obtain ⟨t1, t2, t3, t4⟩ := s1
  rcases t1 with t1 | t1 <;> rcases t2 with t2 | t2 <;> rcases t3 with t3 | t3 <;> rcases t4 with t4 | t4 <;> (try omega)
 all_goals
  have u1 := @mul_pp (a.1 - q.1) (b.2 - q.2)
  have u2 := @mul_pn (a.1 - q.1) (b.2 - q.2)
  have u3 := @mul_np (a.1 - q.1) (b.2 - q.2)
  have u4 := @mul_nn (a.1 - q.1) (b.2 - q.2)
  have v1 := @mul_pp (a.2 - q.2) (b.1 - q.1)
  have v2 := @mul_pn (a.2 - q.2) (b.1 - q.1)
  have v3 := @mul_np (a.2 - q.2) (b.1 - q.1)
  have v4 := @mul_nn (a.2 - q.2) (b.1 - q.1)
  simp
  omega
structure Rigid (e : Int) (T : Pt → Pt) : Prop where
 eps : e = 1 ∨ e = -1
 cr : ∀ a b c, cross (T a) (T b) (T c) = e * cross a b c
 on : ∀ q a b, On (T q) (T a) (T b) ↔ On q a b
 par : ∀ n p q, ¬ OnK n p q → par n (fun i => T (p i)) (T q) = par n p q
 area : ∀ n p, area n (fun i => T (p i)) = e * area n p
 inj : ∀ a b, T a = T b → a = b
theorem xor_eq {a b : Bool} (h : (a ^^ b) = false) : a = b := by cases a <;> cases b <;> first | rfl | cases h
theorem rigid_id : Rigid 1 (fun p => p) :=
 ⟨.inl rfl, fun a b c => (Int.one_mul _).symm, fun _ _ _ => Iff.rfl, fun _ _ _ _ => rfl, fun _ _ => (Int.one_mul _).symm, fun _ _ h => h⟩
theorem rigid_qt : Rigid 1 qt := by
 refine ⟨.inl rfl, fun a b c => by rw [cross_qt, Int.one_mul], on_qt, fun n p q h => ?_, fun n p => ?_, fun a b h => ?_⟩
 ·refine xor_eq ?_
  unfold par
  rw [← xs_xor]
  refine Eq.trans (xs_congr fun i hi => rc_qt (fun ho => h ⟨i, hi, ho⟩)) ?_
  exact xs_cycle n (fun i => qd q (p i))
 ·rw [Int.one_mul]
  unfold area
  refine sm_congr fun i _ => ?_
  unfold qt
  simp only
  grind
 ·have h1 : -a.2 = -b.2 := congrArg Prod.fst h
  have h2 : a.1 = b.1 := congrArg Prod.snd h
  exact Prod.ext h2 (by omega)
theorem Rigid.onK {e : Int} {T : Pt → Pt} (R : Rigid e T) (n : Nat) (p : Nat → Pt) (q : Pt) : OnK n (fun i => T (p i)) (T q) ↔ OnK n p q :=
 ⟨fun ⟨j, h, h'⟩ => ⟨j, h, (R.on _ _ _).1 h'⟩, fun ⟨j, h, h'⟩ => ⟨j, h, (R.on _ _ _).2 h'⟩⟩
theorem Rigid.comp {e f : Int} {T U : Pt → Pt} (R : Rigid e T) (S : Rigid f U) : Rigid (e * f) (fun p => T (U p)) := by
 refine ⟨?_, fun a b c => ?_, fun q a b => (R.on _ _ _).trans (S.on _ _ _), fun n p q h => ?_, fun n p => ?_, fun a b h => S.inj _ _ (R.inj _ _ h)⟩
 ·rcases R.eps with h | h <;> rcases S.eps with h' | h' <;> rw [h, h'] <;> decide
 ·rw [R.cr, S.cr, Int.mul_assoc]
 ·rw [R.par n (fun i => U (p i)) (U q) (fun hh => h ((S.onK n p q).1 hh)), S.par n p q h]
 ·rw [R.area n (fun i => U (p i)), S.area, Int.mul_assoc]
theorem Rigid.opp {e : Int} {T : Pt → Pt} (R : Rigid e T) (s t : Int) : opp (e * s) (e * t) ↔ opp s t := by
 unfold Geo.opp
 rcases R.eps with h | h <;> rw [h] <;> omega
theorem Rigid.meet {e : Int} {T : Pt → Pt} (R : Rigid e T) (a b c d : Pt) : Meet (T a) (T b) (T c) (T d) ↔ Meet a b c d := by
 unfold Meet
 rw [R.on, R.on, R.on, R.on, R.cr, R.cr, R.cr, R.cr, R.opp, R.opp]
theorem Rigid.simple {e : Int} {T : Pt → Pt} (R : Rigid e T) {n : Nat} {p : Nat → Pt} : Simple n (fun i => T (p i)) ↔ Simple n p := by
 constructor
 ·intro S
  refine ⟨S.big, fun i j hi hj hne h => S.dist i j hi hj hne (by rw [h]), fun a ha => ?_, fun a i ha hi h1 h2 h3 hm => S.apart a i ha hi h1 h2 h3 ((R.meet _ _ _ _).2 hm)⟩
  have := S.corner a ha
  exact ⟨fun h => this.1 ((R.on _ _ _).2 h), fun h => this.2 ((R.on _ _ _).2 h)⟩
 ·intro S
  refine ⟨S.big, fun i j hi hj hne h => S.dist i j hi hj hne (R.inj _ _ h), fun a ha => ?_, fun a i ha hi h1 h2 h3 hm => S.apart a i ha hi h1 h2 h3 ((R.meet _ _ _ _).1 hm)⟩
  have := S.corner a ha
  exact ⟨fun h => this.1 ((R.on _ _ _).1 h), fun h => this.2 ((R.on _ _ _).1 h)⟩
theorem rv_rv {n : Nat} {p : Nat → Pt} {j : Nat} (h : j < n) : rv n (rv n p) j = p j := by
 unfold rv
 congr 1
 omega
theorem rv_simple_iff {n : Nat} {p : Nat → Pt} : Simple n (rv n p) ↔ Simple n p :=
 ⟨fun h => simple_congr (fun i hi => rv_rv hi) (rv_simple h), rv_simple⟩
end Geo
/-
 Maps that keep segments and insides: shears and scalings with the rigid ones.
-/
namespace Geo
theorem On.param_iff {q a b : Pt} : On q a b ↔ ∃ N s : Int, 0 < N ∧ 0 ≤ s ∧ s ≤ N ∧ (q.1 - a.1) * N = s * (b.1 - a.1) ∧ (q.2 - a.2) * N = s * (b.2 - a.2) := by
 constructor
 ·intro h
  by_cases e : a = b
  ·subst e
   obtain ⟨_, h1, h2⟩ := h
   refine ⟨1, 0, by omega, by omega, by omega, ?_, ?_⟩
   ·unfold btw at h1; have : q.1 = a.1 := by omega
    rw [this]; omega
   ·unfold btw at h2; have : q.2 = a.2 := by omega
    rw [this]; omega
  ·exact h.param e
 ·rintro ⟨N, s, hN, h0, h1, e1, e2⟩
  have b1 := scale_btw (d := N) (e := s) (x := b.1 - a.1) (y := q.1 - a.1) hN h0 h1 (by rw [e1]; exact Int.mul_comm _ _)
  have b2 := scale_btw (d := N) (e := s) (x := b.2 - a.2) (y := q.2 - a.2) hN h0 h1 (by rw [e2]; exact Int.mul_comm _ _)
  refine ⟨?_, ?_, ?_⟩
  ·have : cross a b q * N = 0 := by
    unfold cross
    have : ((b.1 - a.1) * (q.2 - a.2) - (b.2 - a.2) * (q.1 - a.1)) * N = (b.1 - a.1) * ((q.2 - a.2) * N) - (b.2 - a.2) * ((q.1 - a.1) * N) := by grind
    rw [this, e1, e2]; grind
   rcases Int.mul_eq_zero.1 this with h | h
   ·exact h
   ·omega
  ·unfold btw at *; omega
  ·unfold btw at *; omega
structure Good (A : Pt → Pt) : Prop where
 on : ∀ q a b, On (A q) (A a) (A b) ↔ On q a b
 meet : ∀ a b c d, Meet (A a) (A b) (A c) (A d) ↔ Meet a b c d
 par : ∀ n p q, ¬ OnK n p q → par n (fun i => A (p i)) (A q) = par n p q
 inj : ∀ a b, A a = A b → a = b
theorem Good.onK {A : Pt → Pt} (h : Good A) (n : Nat) (p : Nat → Pt) (q : Pt) : OnK n (fun i => A (p i)) (A q) ↔ OnK n p q :=
 ⟨fun ⟨j, hj, k⟩ => ⟨j, hj, (h.on _ _ _).1 k⟩, fun ⟨j, hj, k⟩ => ⟨j, hj, (h.on _ _ _).2 k⟩⟩
theorem Good.comp {A B : Pt → Pt} (h : Good A) (g : Good B) : Good (fun p => A (B p)) where
 on := fun q a b => (h.on _ _ _).trans (g.on _ _ _)
 meet := fun a b c d => (h.meet _ _ _ _).trans (g.meet _ _ _ _)
 par := fun n p q hq => (h.par n (fun i => B (p i)) (B q) fun k => hq ((g.onK n p q).1 k)).trans (g.par n p q hq)
 inj := fun a b e => g.inj a b (h.inj _ _ e)
theorem Rigid.good {e : Int} {T : Pt → Pt} (R : Rigid e T) : Good T := ⟨R.on, R.meet, R.par, R.inj⟩
theorem meet_of {A : Pt → Pt} {d : Int} (hd : 0 < d) (hc : ∀ a b c, cross (A a) (A b) (A c) = d * cross a b c) (ho : ∀ q a b, On (A q) (A a) (A b) ↔ On q a b) (a b c e : Pt) : Meet (A a) (A b) (A c) (A e) ↔ Meet a b c e := by
 unfold Meet
 rw [ho, ho, ho, ho, hc, hc, hc, hc, opp_sc hd, opp_sc hd]
def dg (α β : Int) (p : Pt) : Pt := (α * p.1, β * p.2)
theorem cross_dg (α β : Int) (a b c : Pt) : cross (dg α β a) (dg α β b) (dg α β c) = α * β * cross a b c := by unfold cross dg; grind
theorem on_dg {α β : Int} (hα : 0 < α) (hβ : 0 < β) (q a b : Pt) : On (dg α β q) (dg α β a) (dg α β b) ↔ On q a b := by
 unfold On
 rw [cross_dg]
 have hp := Int.mul_pos hα hβ
 have e1 : α * β * cross a b q = 0 ↔ cross a b q = 0 := ⟨fun h => (Int.mul_eq_zero.1 h).resolve_left (by omega), fun h => by rw [h]; simp⟩
 rw [e1]
 unfold dg
 rw [btw_sc hα, btw_sc hβ]
theorem good_dg {α β : Int} (hα : 0 < α) (hβ : 0 < β) : Good (dg α β) where
 on := on_dg hα hβ
 meet := meet_of (Int.mul_pos hα hβ) (cross_dg α β) (on_dg hα hβ)
 par := fun n p q _ => by
  unfold par
  refine xs_congr fun i _ => ?_
  unfold rc
  rw [cross_dg]
  have e : ∀ x y : Int, decide (β * x > β * y) = decide (x > y) := fun x y => decide_eq_decide.2 (lt_sc hβ)
  have e2 : ∀ x : Int, decide (0 < α * β * x) = decide (0 < x) := fun x => decide_eq_decide.2 (sgn_sc (Int.mul_pos hα hβ)).1
  unfold dg
  rw [e, e, e, e2]
 inj := fun a b h => by
  unfold dg at h
  have h1 := congrArg Prod.fst h
  have h2 := congrArg Prod.snd h
  dsimp only at h1 h2
  exact Prod.ext (Int.eq_of_mul_eq_mul_left (by omega) h1) (Int.eq_of_mul_eq_mul_left (by omega) h2)
def hs (c : Int) (p : Pt) : Pt := (p.1 + c * p.2, p.2)
theorem cross_hs (c : Int) (a b e : Pt) : cross (hs c a) (hs c b) (hs c e) = cross a b e := by unfold cross hs; grind
theorem on_hs (c : Int) (q a b : Pt) : On (hs c q) (hs c a) (hs c b) ↔ On q a b := by
 rw [On.param_iff, On.param_iff]
 unfold hs
 dsimp only
 constructor
 ·rintro ⟨N, s, hN, h0, h1, e1, e2⟩
  exact ⟨N, s, hN, h0, h1, by grind, e2⟩
 ·rintro ⟨N, s, hN, h0, h1, e1, e2⟩
  exact ⟨N, s, hN, h0, h1, by grind, e2⟩
theorem good_hs (c : Int) : Good (hs c) where
 on := on_hs c
 meet := meet_of (d := 1) (by omega) (fun a b e => by rw [cross_hs, Int.one_mul]) (on_hs c)
 par := fun n p q _ => by
  unfold par
  refine xs_congr fun i _ => ?_
  unfold rc
  rw [cross_hs]
  rfl
 inj := fun a b h => by
  unfold hs at h
  have h1 := congrArg Prod.fst h
  have h2 := congrArg Prod.snd h
  dsimp only at h1 h2
  rw [h2] at h1
  exact Prod.ext (by omega) h2
def gm (M K : Int) (q : Pt) : Pt := (2 * (M * q.1), 2 * ht 2 (2 * K) q)
theorem good_gm {M K : Int} (hM : 0 < M) (hK : 0 < K) : Good (gm M K) := by
 have h : gm M K = fun q => dg (2 * M) 4 (qt (hs (-1) (qt (qt (qt (dg 1 K q)))))) := by
  funext q
  simp only [gm, dg, qt, hs, ht]
  refine Prod.ext ?_ ?_ <;> (dsimp only; grind)
 rw [h]
 have r := rigid_qt.good
 exact (good_dg (by omega) (by omega)).comp (r.comp ((good_hs (-1)).comp (r.comp (r.comp (r.comp (good_dg (by omega) hK))))))
theorem NoTouch.good {A : Pt → Pt} (h : Good A) {n : Nat} {p : Nat → Pt} {n' : Nat} {p' : Nat → Pt} (t : NoTouch n p n' p') : NoTouch n (fun i => A (p i)) n' (fun i => A (p' i)) :=
 ⟨t.big, t.big', fun i hi k hk hm => t.free i hi k hk ((h.meet _ _ _ _).1 hm), fun i hi e => t.ne i hi (h.inj _ _ e), fun i hi e => t.ne' i hi (h.inj _ _ e)⟩
end Geo
/-
 The area of a simple polygon, counted on a grid of places: inside or not.
-/
namespace Geo
def gh (K : Int) (p : Nat → Pt) (i : Nat) : Int := ht 2 (2 * K) (p i)
def gq (K M : Int) (n : Nat) (p : Nat → Pt) (e : Nat) : Int := M / (gh K p (nx n e) - gh K p e)
def gX (K M : Int) (n : Nat) (p : Nat → Pt) (e : Nat) (t : Int) : Int := M * (p e).1 + gq K M n p e * ((p (nx n e)).1 - (p e).1) * (t - gh K p e)
def gL (K M : Int) (n : Nat) (p : Nat → Pt) : Lev n := { H := gh K p, V := fun i => M * (p i).1, X := gX K M n p }
structure Grd (K M : Int) (T R : Nat) (n : Nat) (p : Nat → Pt) : Prop where
 simple : Simple n p
 kp : 0 < K
 mp : 0 < M
 dist : ∀ i j, i < n → j < n → i ≠ j → gh K p i ≠ gh K p j
 div : ∀ e, e < n → (gh K p (nx n e) - gh K p e) ∣ M
 lev : ∀ i, i < n → -(2 * T : Int) ≤ gh K p i ∧ gh K p i ≤ 2 * T
 wid : ∀ s, s < 2 * T → ∀ e, e < n → -(R : Int) ≤ gX K M n p e (2 * ((s : Int) - T) + 1) ∧ gX K M n p e (2 * ((s : Int) - T) + 1) ≤ R
section
variable {K M : Int} {T R n : Nat} {p : Nat → Pt}
theorem Grd.quo (G : Grd K M T R n p) {e : Nat} (he : e < n) : gq K M n p e * (gh K p (nx n e) - gh K p e) = M := Int.ediv_mul_cancel (G.div e he)
theorem Grd.ne (G : Grd K M T R n p) {e : Nat} (he : e < n) : gh K p e ≠ gh K p (nx n e) := fun h =>
 G.dist e (nx n e) he (nx_lt G.simple.big) (fun k => nx_ne G.simple.big he k.symm) h
theorem Grd.line (G : Grd K M T R n p) {e : Nat} (he : e < n) : Line 2 (2 * K) M (p e) (p (nx n e)) ((gL K M n p).X e) := by
 refine ⟨⟨M * (p e).1 - gq K M n p e * ((p (nx n e)).1 - (p e).1) * gh K p e, gq K M n p e * ((p (nx n e)).1 - (p e).1), fun t => ?_⟩, ?_, ?_⟩
 ·show M * (p e).1 + gq K M n p e * ((p (nx n e)).1 - (p e).1) * (t - gh K p e) = _
  grind
 ·show M * (p e).1 + gq K M n p e * ((p (nx n e)).1 - (p e).1) * (gh K p e - gh K p e) = _
  grind
 ·show M * (p e).1 + gq K M n p e * ((p (nx n e)).1 - (p e).1) * (gh K p (nx n e) - gh K p e) = _
  have := G.quo he
  grind
theorem Grd.fine (G : Grd K M T R n p) : (gL K M n p).Fine := by
 have S := G.simple
 have hb := S.big
 have hM := G.mp
 have hK := G.kp
 refine ⟨hb, fun i => ⟨(p i).1 + K * (p i).2, ?_⟩, G.dist, fun e he => (G.line he).aff, fun e he => (G.line he).fst, fun e he => (G.line he).snd, ?_⟩
 ·show ht 2 (2 * K) (p i) = _
  unfold ht; grind
 ·intro e i t t' he hi hne ⟨h1, h2, h3, h4⟩ ⟨h5, h6, h7, h8⟩
  have hrng : ∀ {e t}, (gL K M n p).rng e t → rngP 2 (2 * K) (p e) (p (nx n e)) t := fun h => h
  have ne : ∀ e, e < n → ht 2 (2 * K) (p e) ≠ ht 2 (2 * K) (p (nx n e)) := fun e he => G.ne he
  by_cases c1 : nx n e = i
  ·subst c1
   exact order_corner hM (by omega) (G.line he) (G.line hi) (ne e he) (ne _ hi) (S.corner e he).1 (S.corner e he).2 (hrng h1) (hrng h2) (hrng h5) (hrng h6) (fun h => h3 ⟨rfl, h.symm⟩) (fun h => h7 ⟨rfl, h.symm⟩)
  ·by_cases c2 : nx n i = e
   ·subst c2
    have := order_corner hM (by omega) (G.line hi) (G.line he) (ne i hi) (ne _ he) (S.corner i hi).1 (S.corner i hi).2 (hrng h2) (hrng h1) (hrng h6) (hrng h5) (fun h => h4 ⟨rfl, h.symm⟩) (fun h => h8 ⟨rfl, h.symm⟩)
    exact this.symm
   ·exact order_apart hM (by omega) (G.line he) (G.line hi) (ne e he) (ne i hi) (S.apart e i he hi (fun h => hne h.symm) (fun h => c1 h.symm) c2) (hrng h1) (hrng h2) (hrng h5) (hrng h6)
def gz (T R : Nat) (s j : Nat) : Pt := (2 * ((j : Int) - R) + 1, 2 * (2 * ((s : Int) - T) + 1))
def gp (K M : Int) (T R n : Nat) (p : Nat → Pt) (s j : Nat) : Int := if par n (fun i => gm M K (p i)) (gz T R s j) = true then 1 else 0
theorem cross_gz (G : Grd K M T R n p) {e : Nat} (he : e < n) (τ t : Int) : cross (gm M K (p e)) (gm M K (p (nx n e))) (2 * τ + 1, 2 * t) = 2 * (gh K p (nx n e) - gh K p e) * (2 * (gL K M n p).X e t - (2 * τ + 1)) := by
 have h1 := G.quo he
 show cross (2 * (M * (p e).1), 2 * gh K p e) (2 * (M * (p (nx n e)).1), 2 * gh K p (nx n e)) (2 * τ + 1, 2 * t) = 2 * (gh K p (nx n e) - gh K p e) * (2 * (M * (p e).1 + gq K M n p e * ((p (nx n e)).1 - (p e).1) * (t - gh K p e)) - (2 * τ + 1))
 unfold cross
 dsimp only
 have e1 : 2 * (gh K p (nx n e) - gh K p e) * (2 * (M * (p e).1 + gq K M n p e * ((p (nx n e)).1 - (p e).1) * (t - gh K p e)) - (2 * τ + 1)) = 2 * (gh K p (nx n e) - gh K p e) * (2 * (M * (p e).1) - (2 * τ + 1)) + 4 * (gq K M n p e * (gh K p (nx n e) - gh K p e)) * ((p (nx n e)).1 - (p e).1) * (t - gh K p e) := by grind
 rw [e1, h1]
 grind
theorem rc_gz (G : Grd K M T R n p) {e : Nat} (he : e < n) (τ t : Int) : rc (2 * τ + 1, 2 * t) (gm M K (p e)) (gm M K (p (nx n e))) = (decide ((gL K M n p).da e t ≠ 0) && decide (τ < (gL K M n p).X e t)) := by
 unfold rc
 rw [cross_gz G he]
 have hne := G.ne he
 have a2 : (gm M K (p e)).2 = 2 * gh K p e := rfl
 have b2 : (gm M K (p (nx n e))).2 = 2 * gh K p (nx n e) := rfl
 rw [a2, b2]
 dsimp only
 have hda : (gL K M n p).da e t = (if t < gh K p (nx n e) then 1 else 0) - (if t < gh K p e then 1 else 0) := rfl
 have s1 : decide (2 * gh K p e > 2 * t) = decide (t < gh K p e) := decide_eq_decide.2 (by omega)
 have s2 : decide (2 * gh K p (nx n e) > 2 * t) = decide (t < gh K p (nx n e)) := decide_eq_decide.2 (by omega)
 have s3 : decide (2 * gh K p (nx n e) > 2 * gh K p e) = decide (gh K p e < gh K p (nx n e)) := decide_eq_decide.2 (by omega)
 rw [s1, s2, s3, hda]
 have h5 : (decide (0 < 2 * (gh K p (nx n e) - gh K p e) * (2 * (gL K M n p).X e t - (2 * τ + 1))) == decide (gh K p e < gh K p (nx n e))) = decide (τ < (gL K M n p).X e t) := by
  rcases Int.lt_or_lt_of_ne hne with g | g
  ·rw [decide_eq_true g]
   have : (0 < 2 * (gh K p (nx n e) - gh K p e) * (2 * (gL K M n p).X e t - (2 * τ + 1))) ↔ τ < (gL K M n p).X e t := by
    have h0 : 0 < 2 * (gh K p (nx n e) - gh K p e) := by omega
    rw [(sgn_sc h0).1]; omega
   rw [decide_eq_decide.2 this]
   cases decide (τ < (gL K M n p).X e t) <;> rfl
  ·rw [decide_eq_false (show ¬ gh K p e < gh K p (nx n e) by omega)]
   have : (0 < 2 * (gh K p (nx n e) - gh K p e) * (2 * (gL K M n p).X e t - (2 * τ + 1))) ↔ ¬ τ < (gL K M n p).X e t := by
    have h0 : 0 < 2 * (gh K p e - gh K p (nx n e)) := by omega
    have e0 : 2 * (gh K p (nx n e) - gh K p e) * (2 * (gL K M n p).X e t - (2 * τ + 1)) = 2 * (gh K p e - gh K p (nx n e)) * ((2 * τ + 1) - 2 * (gL K M n p).X e t) := by grind
    rw [e0, (sgn_sc h0).1]; omega
   rw [decide_eq_decide.2 this]
   by_cases hh : τ < (gL K M n p).X e t
   ·rw [decide_eq_true hh, decide_eq_false (fun k => k hh)]; rfl
   ·rw [decide_eq_false hh, decide_eq_true hh]; rfl
 rw [h5]
 congr 1
 by_cases q1 : t < gh K p e <;> by_cases q2 : t < gh K p (nx n e) <;> simp [q1, q2]
theorem sm_parity (n : Nat) (b : Nat → Bool) (d : Nat → Int) (h : ∀ i, i < n → d i = 0 ∨ d i = 1 ∨ d i = -1) : (sm n (fun i => (if b i = true then 1 else 0) * d i)) % 2 = if xs n (fun i => decide (d i ≠ 0) && b i) = true then 1 else 0 := by
 induction n with
 | zero => rfl
 | succ n ih =>
  have ih := ih fun i hi => h i (by omega)
  rw [sm, xs]
  have hd := h n (by omega)
  cases hb : b n with
  | false => simp only [Bool.and_false, Bool.xor_false]; simpa using ih
  | true =>
   rcases hd with k | k | k
   ·rw [k]; simpa using ih
   ·rw [k]
    cases hx : xs n (fun i => decide (d i ≠ 0) && b i) with
    | true => rw [hx] at ih; simp at ih ⊢; omega
    | false => rw [hx] at ih; simp at ih ⊢; omega
   ·rw [k]
    cases hx : xs n (fun i => decide (d i ≠ 0) && b i) with
    | true => rw [hx] at ih; simp at ih ⊢; omega
    | false => rw [hx] at ih; simp at ih ⊢; omega
theorem gp_par (G : Grd K M T R n p) (s j : Nat) : par n (fun i => gm M K (p i)) (gz T R s j) = xs n fun e => decide ((gL K M n p).da e (2 * ((s : Int) - T) + 1) ≠ 0) && decide ((j : Int) - R < (gL K M n p).X e (2 * ((s : Int) - T) + 1)) :=
 xs_congr fun _ he => rc_gz G he _ _
theorem grid_area (G : Grd K M T R n p) : ∃ c : Int, (c = 0 ∨ c = 1) ∧ 2 * M * K * area n p = 4 * sm (2 * T) fun s => sm (2 * R) fun j => (2 * c - 1) * gp K M T R n p s j := by
 have F := G.fine
 obtain ⟨c, hc⟩ := (gL K M n p).all_round F
 have hb := F.big
 have hS : ∀ i, i < n → -(2 * T : Int) ≤ (gL K M n p).H i ∧ (gL K M n p).H i ≤ 2 * T := G.lev
 have e1 : sm n (fun e => ((gL K M n p).H (nx n e) - (gL K M n p).H e) * ((gL K M n p).V e + (gL K M n p).V (nx n e))) = 4 * sm (2 * T) (fun s => sm n fun e => (gL K M n p).da e (2 * ((s : Int) - T) + 1) * (gL K M n p).X e (2 * ((s : Int) - T) + 1)) := by
  rw [← sm_swap n (2 * T) (fun e s => (gL K M n p).da e (2 * ((s : Int) - T) + 1) * (gL K M n p).X e (2 * ((s : Int) - T) + 1)), ← sm_mul]
  exact sm_congr fun e he => ((gL K M n p).edge_area F he T hS).symm
 -- the round number is 0 or 1
 have hc01 : c = 0 ∨ c = 1 := by
  obtain ⟨k, _, hk, _⟩ := (gL K M n p).round F (e := 0) (by omega)
  have hx : nx n 0 < n := nx_lt hb
  obtain ⟨q0, h0⟩ := F.even 0
  obtain ⟨q1, h1⟩ := F.even (nx n 0)
  have hd : (gL K M n p).da 0 (2 * k + 1) ≠ 0 := by
   unfold Lev.rng at hk
   unfold Lev.da Lev.g
   split <;> split <;> omega
  exact ((gL K M n p).level_pos F hc k).2.2 ⟨0, by omega, hd⟩ |>.1
 refine ⟨c, hc01, ?_⟩
 -- each place
 have place : ∀ s j : Nat, (gL K M n p).beyond (2 * ((s : Int) - T) + 1) ((j : Int) - R) = (2 * c - 1) * gp K M T R n p s j := by
  intro s j
  have hpar := sm_parity n (fun e => decide ((j : Int) - R < (gL K M n p).X e (2 * ((s : Int) - T) + 1))) (fun e => (gL K M n p).da e (2 * ((s : Int) - T) + 1)) (fun i _ => by
   unfold Lev.da Lev.g; split <;> split <;> simp)
  rw [← gp_par G s j] at hpar
  have hbey : sm n (fun i => (if decide ((j : Int) - R < (gL K M n p).X i (2 * ((s : Int) - T) + 1)) = true then 1 else 0) * (gL K M n p).da i (2 * ((s : Int) - T) + 1)) = (gL K M n p).beyond (2 * ((s : Int) - T) + 1) ((j : Int) - R) := by
   unfold Lev.beyond
   refine sm_congr fun e _ => ?_
   by_cases h : (j : Int) - R < (gL K M n p).X e (2 * ((s : Int) - T) + 1)
   ·rw [if_pos h, if_pos (decide_eq_true h)]
   ·rw [if_neg h, if_neg (by rw [decide_eq_false h]; simp)]
  rw [hbey] at hpar
  unfold gp
  have hval := (gL K M n p).beyond_val F hc ((s : Int) - T) ((j : Int) - R)
  have hup : ∀ e, (gL K M n p).up e = 0 ∨ (gL K M n p).up e = 1 := fun e => by unfold Lev.up; split <;> simp
  have hb3 : (gL K M n p).beyond (2 * ((s : Int) - T) + 1) ((j : Int) - R) = 0 ∨ (gL K M n p).beyond (2 * ((s : Int) - T) + 1) ((j : Int) - R) = 2 * c - 1 := by
   rcases hval with ⟨_, h⟩ | ⟨e, _, _, _, h⟩
   ·exact .inl h
   ·rcases hup e with k | k <;> rcases hc01 with q | q <;> rw [k, q] at h <;> rw [h, q] <;> simp
  cases hq : par n (fun i => gm M K (p i)) (gz T R s j) with
  | true =>
   rw [hq] at hpar
   simp only [if_true] at hpar ⊢
   rcases hb3 with h | h
   ·rw [h] at hpar; simp at hpar
   ·rw [h]; omega
  | false =>
   rw [hq] at hpar
   simp only [Bool.false_eq_true, if_false] at hpar ⊢
   rcases hb3 with h | h
   ·rw [h]; omega
   ·rw [h] at hpar
    rcases hc01 with q | q <;> rw [q] at hpar <;> simp at hpar
 have e2 : (sm (2 * T) fun s => sm n fun e => (gL K M n p).da e (2 * ((s : Int) - T) + 1) * (gL K M n p).X e (2 * ((s : Int) - T) + 1)) = sm (2 * T) fun s => sm (2 * R) fun j => (2 * c - 1) * gp K M T R n p s j := by
  refine sm_congr fun s hs => ?_
  rw [(gL K M n p).level_sum (2 * ((s : Int) - T) + 1) R (G.wid s hs)]
  exact sm_congr fun j _ => place s j
 rw [e2] at e1
 rw [← e1]
 -- the trapezoids
 have e3 : sm n (fun e => ((gL K M n p).H (nx n e) - (gL K M n p).H e) * ((gL K M n p).V e + (gL K M n p).V (nx n e))) = sm n fun e => (2 * M * K) * ((p e).1 * (p (nx n e)).2 - (p (nx n e)).1 * (p e).2) + ((fun j => M * (2 * ((p j).1 * (p j).1) + 2 * K * ((p j).1 * (p j).2))) ((e + 1) % n) - (fun j => M * (2 * ((p j).1 * (p j).1) + 2 * K * ((p j).1 * (p j).2))) e) := by
  refine sm_congr fun e _ => ?_
  show (ht 2 (2 * K) (p (nx n e)) - ht 2 (2 * K) (p e)) * (M * (p e).1 + M * (p (nx n e)).1) = _
  have : nx n e = (e + 1) % n := rfl
  rw [← this]
  unfold ht
  dsimp only
  grind
 have cyc := sm_cycle n fun j => M * (2 * ((p j).1 * (p j).1) + 2 * K * ((p j).1 * (p j).2))
 rw [e3, sm_add, sm_mul, cyc]
 unfold area
 omega
def gcount (K M : Int) (T R n : Nat) (p : Nat → Pt) : Int := sm (2 * T) fun s => sm (2 * R) fun j => gp K M T R n p s j
theorem gcount_nonneg (K M : Int) (T R n : Nat) (p : Nat → Pt) : 0 ≤ gcount K M T R n p :=
 sm_nonneg fun s _ => sm_nonneg fun j _ => by unfold gp; split <;> omega
theorem grid_pos (G : Grd K M T R n p) (h : 0 < area n p) : 2 * M * K * area n p = 4 * gcount K M T R n p := by
 obtain ⟨c, hc, e⟩ := grid_area G
 have hD : 0 < 2 * M * K := Int.mul_pos (by have := G.mp; omega) G.kp
 have hp := Int.mul_pos hD h
 have hn := gcount_nonneg K M T R n p
 rw [sm_congr (fun s _ => sm_mul (2 * R) (2 * c - 1) fun j => gp K M T R n p s j), sm_mul] at e
 have e' : 2 * M * K * area n p = 4 * ((2 * c - 1) * gcount K M T R n p) := e
 rcases hc with q | q <;> rw [q] at e' <;> omega
theorem grid_neg (G : Grd K M T R n p) (h : area n p < 0) : 2 * M * K * (- area n p) = 4 * gcount K M T R n p := by
 obtain ⟨c, hc, e⟩ := grid_area G
 have hD : 0 < 2 * M * K := Int.mul_pos (by have := G.mp; omega) G.kp
 have hp := Int.mul_pos hD (show 0 < - area n p by omega)
 have hn := gcount_nonneg K M T R n p
 rw [sm_congr (fun s _ => sm_mul (2 * R) (2 * c - 1) fun j => gp K M T R n p s j), sm_mul] at e
 have e' : 2 * M * K * area n p = 4 * ((2 * c - 1) * gcount K M T R n p) := e
 have e2 : 2 * M * K * (- area n p) = - (2 * M * K * area n p) := Int.mul_neg _ _
 rcases hc with q | q <;> rw [q] at e' <;> omega
end
structure Plg where
 n : Nat
 p : Nat → Pt
theorem list_bound (f : Plg → Nat → Prop) (hf : ∀ c a b, a ≤ b → f c a → f c b) (l : List Plg) (h : ∀ c, c ∈ l → ∃ a, f c a) : ∃ a, ∀ c, c ∈ l → f c a := by
 induction l with
 | nil => exact ⟨0, fun c hc => by cases hc⟩
 | cons c l ih =>
  obtain ⟨a, ha⟩ := ih fun d hd => h d (List.mem_cons_of_mem _ hd)
  obtain ⟨b, hb⟩ := h c List.mem_cons_self
  refine ⟨a + b, fun d hd => ?_⟩
  rcases List.mem_cons.1 hd with e | e
  ·rw [e]; exact hf c b _ (by omega) hb
  ·exact hf d a _ (by omega) (ha d e)
theorem list_mult (f : Plg → Int → Prop) (hf : ∀ c a b, f c a → a ∣ b → f c b) (l : List Plg) (h : ∀ c, c ∈ l → ∃ a, 0 < a ∧ f c a) : ∃ a, 0 < a ∧ ∀ c, c ∈ l → f c a := by
 induction l with
 | nil => exact ⟨1, by omega, fun c hc => by cases hc⟩
 | cons c l ih =>
  obtain ⟨a, a0, ha⟩ := ih fun d hd => h d (List.mem_cons_of_mem _ hd)
  obtain ⟨b, b0, hb⟩ := h c List.mem_cons_self
  refine ⟨a * b, Int.mul_pos a0 b0, fun d hd => ?_⟩
  rcases List.mem_cons.1 hd with e | e
  ·rw [e]; exact hf c b _ hb (Int.dvd_mul_left a b)
  ·exact hf d a _ (ha d e) (Int.dvd_mul_right a b)
theorem nat_bound (n : Nat) (f : Nat → Int) : ∃ B : Nat, ∀ i, i < n → -(B : Int) ≤ f i ∧ f i ≤ B := by
 induction n with
 | zero => exact ⟨0, fun i h => by omega⟩
 | succ n ih =>
  obtain ⟨B, hB⟩ := ih
  refine ⟨B + (f n).natAbs, fun i hi => ?_⟩
  by_cases e : i = n
  ·subst e; omega
  ·have := hB i (by omega); omega
theorem exists_grid (l : List Plg) (h : ∀ c, c ∈ l → Simple c.n c.p) : ∃ K M T R, ∀ c, c ∈ l → Grd K M T R c.n c.p := by
 -- heights that part all corners
 obtain ⟨B, hB⟩ := list_bound (fun c B => ∀ i, i < c.n → -(B : Int) ≤ (c.p i).1 ∧ (c.p i).1 ≤ B ∧ -(B : Int) ≤ (c.p i).2 ∧ (c.p i).2 ≤ B) (fun c a b hab k i hi => by have := k i hi; omega) l (fun c _ => bounded c.n c.p)
 obtain ⟨K, hK⟩ : ∃ K : Int, K = 4 * B + 1 := ⟨_, rfl⟩
 have hdist : ∀ c, c ∈ l → ∀ i j, i < c.n → j < c.n → i ≠ j → gh K c.p i ≠ gh K c.p j := by
  intro c hc i j hi hj hne h0
  have b1 := hB c hc i hi
  have b2 := hB c hc j hj
  unfold gh ht at h0
  have h1 : K * ((c.p i).2 - (c.p j).2) = (c.p j).1 - (c.p i).1 := by grind
  have h2 : (c.p i).2 = (c.p j).2 := by
   rcases Int.lt_trichotomy 0 ((c.p i).2 - (c.p j).2) with g | g | g
   ·have : K * 1 ≤ K * ((c.p i).2 - (c.p j).2) := Int.mul_le_mul_of_nonneg_left (by omega) (by omega)
    omega
   ·omega
   ·have : K * 1 ≤ K * -((c.p i).2 - (c.p j).2) := Int.mul_le_mul_of_nonneg_left (by omega) (by omega)
    grind
  have h3 : (c.p i).1 = (c.p j).1 := by rw [h2] at h1; grind
  exact (h c hc).dist i j hi hj hne (Prod.ext h3 h2)
 -- a common multiple
 obtain ⟨M, hM0, hM⟩ := list_mult (fun c M => ∀ e, e < c.n → (gh K c.p (nx c.n e) - gh K c.p e) ∣ M) (fun c a b k hab e he => Int.dvd_trans (k e he) hab) l (fun c hc => by
  have hb := (h c hc).big
  refine ⟨pr c.n fun e => (gh K c.p (nx c.n e) - gh K c.p e) * (gh K c.p (nx c.n e) - gh K c.p e), pr_pos fun e he => ?_, fun e he => ?_⟩
  ·have hne := hdist c hc (nx c.n e) e (nx_lt hb) he (nx_ne hb he)
   rcases Int.lt_or_lt_of_ne hne with g | g
   ·have := Int.mul_pos (show 0 < -(gh K c.p (nx c.n e) - gh K c.p e) by omega) (show 0 < -(gh K c.p (nx c.n e) - gh K c.p e) by omega)
    grind
   ·exact Int.mul_pos (by omega) (by omega)
  ·obtain ⟨q, hq⟩ := pr_dvd (f := fun e => (gh K c.p (nx c.n e) - gh K c.p e) * (gh K c.p (nx c.n e) - gh K c.p e)) he
   rw [← hq]
   exact ⟨q * (gh K c.p (nx c.n e) - gh K c.p e), by grind⟩)
 obtain ⟨T, hT⟩ := list_bound (fun c T => ∀ i, i < c.n → -(2 * T : Int) ≤ gh K c.p i ∧ gh K c.p i ≤ 2 * T) (fun c a b hab k i hi => by have := k i hi; omega) l (fun c _ => by
  obtain ⟨B, hB⟩ := nat_bound c.n (gh K c.p)
  exact ⟨B, fun i hi => by have := hB i hi; omega⟩)
 obtain ⟨R, hR⟩ := list_bound (fun c R => ∀ s, s < 2 * T → ∀ e, e < c.n → -(R : Int) ≤ gX K M c.n c.p e (2 * ((s : Int) - T) + 1) ∧ gX K M c.n c.p e (2 * ((s : Int) - T) + 1) ≤ R) (fun c a b hab k s hs e he => by have := k s hs e he; omega) l (fun c _ => by
  have : ∀ m : Nat, ∃ R : Nat, ∀ s, s < m → ∀ e, e < c.n → -(R : Int) ≤ gX K M c.n c.p e (2 * ((s : Int) - T) + 1) ∧ gX K M c.n c.p e (2 * ((s : Int) - T) + 1) ≤ R := by
   intro m
   induction m with
   | zero => exact ⟨0, fun s hs => by omega⟩
   | succ m ih =>
    obtain ⟨A, hA⟩ := ih
    obtain ⟨B, hB⟩ := nat_bound c.n fun e => gX K M c.n c.p e (2 * ((m : Int) - T) + 1)
    refine ⟨A + B, fun s hs e he => ?_⟩
    by_cases q : s = m
    ·subst q; have := hB e he; omega
    ·have := hA s (by omega) e he; omega
  exact this (2 * T))
 exact ⟨K, M, T, R, fun c hc => ⟨h c hc, by omega, hM0, hdist c hc, hM c hc, hT c hc, hR c hc⟩⟩
end Geo
/-
 A rectangle, and polygons in it.
-/
namespace Geo
theorem Simple.good {A : Pt → Pt} (h : Good A) {n : Nat} {p : Nat → Pt} (S : Simple n p) : Simple n (fun i => A (p i)) :=
 ⟨S.big, fun i j hi hj hne e => S.dist i j hi hj hne (h.inj _ _ e), fun e he => ⟨fun k => (S.corner e he).1 ((h.on _ _ _).1 k), fun k => (S.corner e he).2 ((h.on _ _ _).1 k)⟩,
  fun e i he hi h1 h2 h3 k => S.apart e i he hi h1 h2 h3 ((h.meet _ _ _ _).1 k)⟩
theorem area_dg (D : Int) (n : Nat) (p : Nat → Pt) : area n (fun i => dg D D (p i)) = D * D * area n p := by
 unfold area
 rw [← sm_mul]
 refine sm_congr fun i _ => ?_
 unfold dg
 dsimp only
 grind
def inside (a b c d : Int) (q : Pt) : Prop := (a < q.1 ∧ q.1 < b) ∧ (c < q.2 ∧ q.2 < d)
end Geo
/-
 Shapes with holes: their areas are not negative, and shapes apart in a rectangle have together no greater area than it.
-/
namespace Geo
structure Shp where
 o : Plg
 k : Nat
 h : Nat → Plg
abbrev NT (a b : Plg) : Prop := NoTouch a.n a.p b.n b.p
def Plg.mp (A : Pt → Pt) (c : Plg) : Plg := ⟨c.n, fun i => A (c.p i)⟩
def Shp.mp (A : Pt → Pt) (s : Shp) : Shp := ⟨s.o.mp A, s.k, fun j => (s.h j).mp A⟩
def fst (a b : Plg) : Bool := par a.n a.p (b.p 0)
structure Shp.Ok (s : Shp) : Prop where
 outer : Simple s.o.n s.o.p
 hole : ∀ j, j < s.k → Simple (s.h j).n (s.h j).p
 free : ∀ j, j < s.k → NT (s.h j) s.o
 inn : ∀ j, j < s.k → fst s.o (s.h j) = true
 apart : ∀ i, i < s.k → ∀ j, j < s.k → i ≠ j → NT (s.h i) (s.h j) ∧ fst (s.h j) (s.h i) = false
structure Shp.Apt (s t : Shp) : Prop where
 oo : NT s.o t.o
 oh : ∀ j, j < t.k → NT s.o (t.h j)
 ho : ∀ j, j < s.k → NT t.o (s.h j)
 off : fst s.o t.o = false ∨ ∃ j, j < s.k ∧ fst (s.h j) t.o = true
 off' : fst t.o s.o = false ∨ ∃ j, j < t.k ∧ fst (t.h j) s.o = true
theorem fst_mp {A : Pt → Pt} (h : Good A) {a b : Plg} (t : NT b a) : fst (a.mp A) (b.mp A) = fst a b := by
 refine h.par a.n a.p (b.p 0) ?_
 have hb := t.big
 exact (t.side ⟨0, by omega, On.left _ _⟩).1
theorem NT.mp {A : Pt → Pt} (h : Good A) {a b : Plg} (t : NT a b) : NT (a.mp A) (b.mp A) := NoTouch.good h t
theorem Shp.Ok.mp {A : Pt → Pt} (h : Good A) {s : Shp} (o : s.Ok) : (s.mp A).Ok :=
 ⟨o.outer.good h, fun j hj => (o.hole j hj).good h, fun j hj => NT.mp h (o.free j hj), fun j hj => (fst_mp h (o.free j hj)).trans (o.inn j hj),
  fun i hi j hj hne => ⟨NT.mp h (o.apart i hi j hj hne).1, (fst_mp h (o.apart i hi j hj hne).1).trans (o.apart i hi j hj hne).2⟩⟩
theorem Shp.Apt.mp {A : Pt → Pt} (h : Good A) {s t : Shp} (a : s.Apt t) : (s.mp A).Apt (t.mp A) :=
 ⟨NT.mp h a.oo, fun j hj => NT.mp h (a.oh j hj), fun j hj => NT.mp h (a.ho j hj),
  a.off.elim (fun k => .inl ((fst_mp h (NoTouch.symm a.oo)).trans k)) (fun ⟨j, hj, k⟩ => .inr ⟨j, hj, (fst_mp h (a.ho j hj)).trans k⟩),
  a.off'.elim (fun k => .inl ((fst_mp h a.oo).trans k)) (fun ⟨j, hj, k⟩ => .inr ⟨j, hj, (fst_mp h (a.oh j hj)).trans k⟩)⟩
def ind (c : Plg) (z : Pt) : Int := if par c.n c.p z = true then 1 else 0
theorem ind_01 (c : Plg) (z : Pt) : ind c z = 0 ∨ ind c z = 1 := by unfold ind; split <;> simp
theorem ind_one {c : Plg} {z : Pt} : ind c z = 1 ↔ par c.n c.p z = true := by unfold ind; split <;> simp_all
theorem Shp.Ok.holes {s : Shp} (o : s.Ok) (z : Pt) : (sm s.k (fun j => ind (s.h j) z) = 0 ∧ ∀ j, j < s.k → ind (s.h j) z = 0) ∨ (sm s.k (fun j => ind (s.h j) z) = 1 ∧ ind s.o z = 1) := by
 by_cases hex : ∃ j, j < s.k ∧ ind (s.h j) z = 1
 ·obtain ⟨j, hj, h1⟩ := hex
  have hp := ind_one.1 h1
  refine .inr ⟨?_, ind_one.2 (two_within (o.free j hj) (o.inn j hj) (.inl hp)).2⟩
  rw [sm_one hj (f := fun j => ind (s.h j) z) (fun i hi hne => ?_), h1]
  rcases ind_01 (s.h i) z with q | q
  ·exact q
  ·exact (two_apart (o.apart i hi j hj hne).1 (o.apart i hi j hj hne).2 (o.apart j hj i hi fun e => hne e.symm).2 (.inl (ind_one.1 q)) (.inl hp)).elim
 ·have h0 : ∀ j, j < s.k → ind (s.h j) z = 0 := fun j hj => (ind_01 (s.h j) z).resolve_right fun k => hex ⟨j, hj, k⟩
  refine .inl ⟨?_, h0⟩
  rw [sm_congr h0, sm_zero]
def Shp.ind (s : Shp) (z : Pt) : Int := Geo.ind s.o z - sm s.k fun j => Geo.ind (s.h j) z
theorem Shp.Ok.ind_01 {s : Shp} (o : s.Ok) (z : Pt) : s.ind z = 0 ∨ (s.ind z = 1 ∧ par s.o.n s.o.p z = true ∧ ∀ j, j < s.k → par (s.h j).n (s.h j).p z = false) := by
 unfold Shp.ind
 rcases o.holes z with ⟨h1, h2⟩ | ⟨h1, h2⟩
 ·rw [h1]
  rcases Geo.ind_01 s.o z with q | q
  ·left; omega
  ·refine .inr ⟨by omega, ind_one.1 q, fun j hj => ?_⟩
   cases hp : par (s.h j).n (s.h j).p z with
   | false => rfl
   | true => have := ind_one.2 hp; rw [h2 j hj] at this; omega
 ·left; omega
def Shp.area (s : Shp) : Int := Geo.area s.o.n s.o.p + sm s.k fun j => Geo.area (s.h j).n (s.h j).p
structure Shp.Sgn (s : Shp) : Prop where
 pos : 0 < Geo.area s.o.n s.o.p
 neg : ∀ j, j < s.k → Geo.area (s.h j).n (s.h j).p < 0
def Shp.all (s : Shp) : List Plg := s.o :: (List.range s.k).map s.h
theorem Shp.Ok.simple {s : Shp} (o : s.Ok) : ∀ c, c ∈ s.all → Simple c.n c.p := by
 intro c hc
 rcases List.mem_cons.1 hc with e | e
 ·rw [e]; exact o.outer
 ·obtain ⟨j, hj, rfl⟩ := List.mem_map.1 e
  exact o.hole j (by simpa using hj)
theorem Shp.mem_hole {s : Shp} {j : Nat} (hj : j < s.k) : s.h j ∈ s.all := List.mem_cons_of_mem _ (List.mem_map.2 ⟨j, by simpa using hj, rfl⟩)
theorem Shp.count {s : Shp} (g : s.Sgn) {K M : Int} {T R : Nat} (G : ∀ c, c ∈ s.all → Grd K M T R c.n c.p) :
  2 * M * K * s.area = 4 * sm (2 * T) fun i => sm (2 * R) fun j => (s.mp (gm M K)).ind (gz T R i j) := by
 have ho := grid_pos (G s.o List.mem_cons_self) g.pos
 have hh : 2 * M * K * sm s.k (fun j => Geo.area (s.h j).n (s.h j).p) = - (4 * sm s.k fun j => gcount K M T R (s.h j).n (s.h j).p) := by
  rw [← sm_mul, ← sm_mul]
  have : ∀ j, j < s.k → 2 * M * K * Geo.area (s.h j).n (s.h j).p = 0 - 4 * gcount K M T R (s.h j).n (s.h j).p := fun j hj => by
   have := grid_neg (G _ (Shp.mem_hole hj)) (g.neg j hj)
   rw [Int.mul_neg] at this
   omega
  rw [sm_congr this, sm_sub, sm_zero]
  omega
 have hsw : (sm s.k fun j => gcount K M T R (s.h j).n (s.h j).p) = sm (2 * T) fun a => sm (2 * R) fun b => sm s.k fun j => gp K M T R (s.h j).n (s.h j).p a b := by
  unfold gcount
  rw [sm_swap]
  refine sm_congr fun a _ => ?_
  rw [sm_swap]
 unfold Shp.area
 rw [Int.mul_add, ho, hh, hsw]
 have : (sm (2 * T) fun i => sm (2 * R) fun j => (s.mp (gm M K)).ind (gz T R i j)) = gcount K M T R s.o.n s.o.p - sm (2 * T) fun a => sm (2 * R) fun b => sm s.k fun j => gp K M T R (s.h j).n (s.h j).p a b := by
  unfold gcount
  rw [← sm_sub]
  refine sm_congr fun a _ => ?_
  rw [← sm_sub]
  rfl
 rw [this]
 omega
theorem mul_pos_nn {D x : Int} (hD : 0 < D) (h : 0 ≤ D * x) : 0 ≤ x := by
 rcases Int.lt_or_le x 0 with k | k
 ·have := Int.mul_neg_of_pos_of_neg hD k; omega
 ·exact k
theorem Shp.area_nonneg {s : Shp} (o : s.Ok) (g : s.Sgn) : 0 ≤ s.area := by
 obtain ⟨K, M, T, R, G⟩ := exists_grid s.all o.simple
 have e := s.count g G
 have G0 := G s.o List.mem_cons_self
 have hD : 0 < 2 * M * K := Int.mul_pos (by have := G0.mp; omega) G0.kp
 refine mul_pos_nn hD ?_
 rw [e]
 have : 0 ≤ sm (2 * T) fun i => sm (2 * R) fun j => (s.mp (gm M K)).ind (gz T R i j) := by
  refine sm_nonneg fun i _ => sm_nonneg fun j _ => ?_
  rcases (o.mp (good_gm G0.mp G0.kp)).ind_01 (gz T R i j) with q | q <;> omega
 omega
theorem Shp.area_dg (D : Int) (s : Shp) : (s.mp (dg D D)).area = D * D * s.area := by
 unfold Shp.area
 show Geo.area s.o.n (fun i => dg D D (s.o.p i)) + sm s.k (fun j => Geo.area (s.h j).n fun i => dg D D ((s.h j).p i)) = _
 rw [Geo.area_dg, sm_congr fun j _ => Geo.area_dg D (s.h j).n (s.h j).p, sm_mul, Int.mul_add]
theorem Shp.Sgn.dg {D : Int} (hD : 0 < D) {s : Shp} (g : s.Sgn) : (s.mp (dg D D)).Sgn := by
 have hp := Int.mul_pos hD hD
 refine ⟨?_, fun j hj => ?_⟩
 ·show 0 < Geo.area s.o.n (fun i => Geo.dg D D (s.o.p i))
  rw [Geo.area_dg]; exact Int.mul_pos hp g.pos
 ·show Geo.area (s.h j).n (fun i => Geo.dg D D ((s.h j).p i)) < 0
  rw [Geo.area_dg]; exact Int.mul_neg_of_pos_of_neg hp (g.neg j hj)
end Geo
