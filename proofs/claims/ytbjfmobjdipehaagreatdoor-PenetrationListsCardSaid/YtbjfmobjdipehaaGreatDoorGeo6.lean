/-
 Several texts in one.
-/
import Derived.Test.YtbjfmobjdipehaaGreatDoorGeo1
/-
 The area of a simple polygon is not zero.
-/
namespace Geo
structure Simple (n : Nat) (p : Nat → Pt) : Prop where
 big : 3 ≤ n
 dist : ∀ i j, i < n → j < n → i ≠ j → p i ≠ p j
 corner : ∀ e, e < n → ¬ On (p (nx n (nx n e))) (p e) (p (nx n e)) ∧ ¬ On (p e) (p (nx n e)) (p (nx n (nx n e)))
 apart : ∀ e i, e < n → i < n → i ≠ e → i ≠ nx n e → nx n i ≠ e → ¬ Meet (p e) (p (nx n e)) (p i) (p (nx n i))
def area (n : Nat) (p : Nat → Pt) : Int := sm n fun i => (p i).1 * (p (nx n i)).2 - (p (nx n i)).1 * (p i).2
def pr : Nat → (Nat → Int) → Int
 | 0, _ => 1
 | n + 1, f => pr n f * f n
theorem pr_pos {n : Nat} {f : Nat → Int} (h : ∀ i, i < n → 0 < f i) : 0 < pr n f := by
 induction n with
 | zero => exact Int.one_pos
 | succ n ih => exact Int.mul_pos (ih fun i hi => h i (by omega)) (h n (by omega))
theorem pr_dvd {n : Nat} {f : Nat → Int} {i : Nat} (h : i < n) : ∃ q, q * f i = pr n f := by
 induction n with
 | zero => omega
 | succ n ih =>
  rw [pr]
  by_cases e : i = n
  ·subst e; exact ⟨_, rfl⟩
  ·obtain ⟨q, hq⟩ := ih (by omega)
   exact ⟨q * f n, by rw [← hq]; grind⟩
theorem bounded (n : Nat) (p : Nat → Pt) : ∃ B : Nat, ∀ i, i < n → -(B : Int) ≤ (p i).1 ∧ (p i).1 ≤ B ∧ -(B : Int) ≤ (p i).2 ∧ (p i).2 ≤ B := by
 induction n with
 | zero => exact ⟨0, fun i h => by omega⟩
 | succ n ih =>
  obtain ⟨B, hB⟩ := ih
  refine ⟨B + (p n).1.natAbs + (p n).2.natAbs, fun i hi => ?_⟩
  by_cases e : i = n
  ·subst e; omega
  ·have := hB i (by omega); omega
theorem area_simple {n : Nat} {p : Nat → Pt} (S : Simple n p) : area n p ≠ 0 := by
 obtain ⟨B, hB⟩ := bounded n p
 have hb := S.big
 -- heights that part all corners
 have hK : ∃ K : Int, K = 4 * B + 1 := ⟨_, rfl⟩
 obtain ⟨K, hK⟩ := hK
 have hinj : ∀ i j, i < n → j < n → i ≠ j → ht 2 (2 * K) (p i) ≠ ht 2 (2 * K) (p j) := by
  intro i j hi hj hne h
  have b1 := hB i hi
  have b2 := hB j hj
  unfold ht at h
  have h1 : K * ((p i).2 - (p j).2) = (p j).1 - (p i).1 := by grind
  have h2 : (p i).2 = (p j).2 := by
   rcases Int.lt_trichotomy 0 ((p i).2 - (p j).2) with g | g | g
   ·have : K * 1 ≤ K * ((p i).2 - (p j).2) := Int.mul_le_mul_of_nonneg_left (by omega) (by omega)
    omega
   ·omega
   ·have : K * 1 ≤ K * -((p i).2 - (p j).2) := Int.mul_le_mul_of_nonneg_left (by omega) (by omega)
    grind
  have h3 : (p i).1 = (p j).1 := by rw [h2] at h1; grind
  exact S.dist i j hi hj hne (Prod.ext h3 h2)
 have hd : ∀ e, e < n → ht 2 (2 * K) (p (nx n e)) - ht 2 (2 * K) (p e) ≠ 0 := by
  intro e he h
  exact hinj (nx n e) e (nx_lt hb) he (nx_ne hb he) (by omega)
 -- a common multiple
 obtain ⟨M, hM⟩ : ∃ M, M = pr n fun e => (ht 2 (2 * K) (p (nx n e)) - ht 2 (2 * K) (p e)) * (ht 2 (2 * K) (p (nx n e)) - ht 2 (2 * K) (p e)) := ⟨_, rfl⟩
 have hMp : 0 < M := by
  rw [hM]
  refine pr_pos fun e he => ?_
  have := hd e he
  rcases Int.lt_or_lt_of_ne this with g | g
  ·have := Int.mul_pos (show 0 < -(ht 2 (2 * K) (p (nx n e)) - ht 2 (2 * K) (p e)) by omega) (show 0 < -(ht 2 (2 * K) (p (nx n e)) - ht 2 (2 * K) (p e)) by omega)
   grind
  ·exact Int.mul_pos g g
 have hQ : ∀ e, ∃ q, e < n → q * (ht 2 (2 * K) (p (nx n e)) - ht 2 (2 * K) (p e)) = M := by
  intro e
  by_cases he : e < n
  ·obtain ⟨q, hq⟩ := pr_dvd (f := fun e => (ht 2 (2 * K) (p (nx n e)) - ht 2 (2 * K) (p e)) * (ht 2 (2 * K) (p (nx n e)) - ht 2 (2 * K) (p e))) he
   exact ⟨q * (ht 2 (2 * K) (p (nx n e)) - ht 2 (2 * K) (p e)), fun _ => by rw [hM, ← hq]; grind⟩
  ·exact ⟨0, fun h => absurd h he⟩
 obtain ⟨Q, hQ⟩ : ∃ Q : Nat → Int, ∀ e, e < n → Q e * (ht 2 (2 * K) (p (nx n e)) - ht 2 (2 * K) (p e)) = M := ⟨fun e => Classical.choose (hQ e), fun e => Classical.choose_spec (hQ e)⟩
 let L : Lev n := { H := fun i => ht 2 (2 * K) (p i), V := fun i => M * (p i).1, X := fun e t => M * (p e).1 + Q e * ((p (nx n e)).1 - (p e).1) * (t - ht 2 (2 * K) (p e)) }
 have hline : ∀ e, e < n → Line 2 (2 * K) M (p e) (p (nx n e)) (L.X e) := by
  intro e he
  refine ⟨⟨M * (p e).1 - Q e * ((p (nx n e)).1 - (p e).1) * ht 2 (2 * K) (p e), Q e * ((p (nx n e)).1 - (p e).1), fun t => ?_⟩, ?_, ?_⟩
  ·show M * (p e).1 + Q e * ((p (nx n e)).1 - (p e).1) * (t - ht 2 (2 * K) (p e)) = _
   grind
  ·show M * (p e).1 + Q e * ((p (nx n e)).1 - (p e).1) * (ht 2 (2 * K) (p e) - ht 2 (2 * K) (p e)) = _
   grind
  ·show M * (p e).1 + Q e * ((p (nx n e)).1 - (p e).1) * (ht 2 (2 * K) (p (nx n e)) - ht 2 (2 * K) (p e)) = _
   have := hQ e he
   grind
 have hrng : ∀ {e t}, L.rng e t → rngP 2 (2 * K) (p e) (p (nx n e)) t := fun h => h
 have F : L.Fine := by
  refine ⟨hb, fun i => ⟨(p i).1 + K * (p i).2, ?_⟩, hinj, fun e he => (hline e he).aff, fun e he => (hline e he).fst, fun e he => (hline e he).snd, ?_⟩
  ·show ht 2 (2 * K) (p i) = _
   unfold ht; grind
  ·intro e i t t' he hi hne ⟨h1, h2, h3, h4⟩ ⟨h5, h6, h7, h8⟩
   have ne : ∀ e, e < n → ht 2 (2 * K) (p e) ≠ ht 2 (2 * K) (p (nx n e)) := fun e he h => hd e he (by omega)
   by_cases c1 : nx n e = i
   ·subst c1
    exact order_corner hMp (by omega) (hline e he) (hline _ hi) (ne e he) (ne _ hi) (S.corner e he).1 (S.corner e he).2 (hrng h1) (hrng h2) (hrng h5) (hrng h6) (fun h => h3 ⟨rfl, h.symm⟩) (fun h => h7 ⟨rfl, h.symm⟩)
   ·by_cases c2 : nx n i = e
    ·subst c2
     have := order_corner hMp (by omega) (hline i hi) (hline _ he) (ne i hi) (ne _ he) (S.corner i hi).1 (S.corner i hi).2 (hrng h2) (hrng h1) (hrng h6) (hrng h5) (fun h => h4 ⟨rfl, h.symm⟩) (fun h => h8 ⟨rfl, h.symm⟩)
     exact this.symm
    ·exact order_apart hMp (by omega) (hline e he) (hline i hi) (ne e he) (ne i hi) (S.apart e i he hi (fun h => hne h.symm) (fun h => c1 h.symm) c2) (hrng h1) (hrng h2) (hrng h5) (hrng h6)
 have hne := L.area_ne F
 intro h0
 refine hne ?_
 have e1 : sm n (fun e => (L.H (nx n e) - L.H e) * (L.V e + L.V (nx n e))) = sm n fun e => (2 * M * K) * ((p e).1 * (p (nx n e)).2 - (p (nx n e)).1 * (p e).2) + ((fun j => M * (2 * ((p j).1 * (p j).1) + 2 * K * ((p j).1 * (p j).2))) ((e + 1) % n) - (fun j => M * (2 * ((p j).1 * (p j).1) + 2 * K * ((p j).1 * (p j).2))) e) := by
  refine sm_congr fun e _ => ?_
  show (ht 2 (2 * K) (p (nx n e)) - ht 2 (2 * K) (p e)) * (M * (p e).1 + M * (p (nx n e)).1) = _
  have : nx n e = (e + 1) % n := rfl
  rw [← this]
  unfold ht
  dsimp only
  grind
 have cyc := sm_cycle n fun j => M * (2 * ((p j).1 * (p j).1) + 2 * K * ((p j).1 * (p j).2))
 rw [e1, sm_add, sm_mul, cyc]
 have : (sm n fun e => (p e).1 * (p (nx n e)).2 - (p (nx n e)).1 * (p e).2) = 0 := h0
 rw [this]; simp
end Geo
/-
 Deciding; what two writers say of successive edges.
-/
namespace Geo
instance decBtw (a b q : Int) : Decidable (btw a b q) := by unfold btw; infer_instance
instance decOn (q a b : Pt) : Decidable (On q a b) := by unfold On; infer_instance
instance decOpp (s t : Int) : Decidable (opp s t) := by unfold opp; infer_instance
instance decMeet (a b c d : Pt) : Decidable (Meet a b c d) := by unfold Meet; infer_instance
def nr (x y : Int) : Prop := -32768 ≤ x ∧ x ≤ 32768 ∧ -32768 ≤ y ∧ y ≤ 32768
theorem mul_bd {x y A B : Int} (h1 : -A ≤ x) (h2 : x ≤ A) (h3 : -B ≤ y) (h4 : y ≤ B) : -(A * B) ≤ x * y ∧ x * y ≤ A * B := by
 have a1 : 0 ≤ (A - x) * (B + y) := Int.mul_nonneg (by omega) (by omega)
 have a2 : 0 ≤ (A + x) * (B - y) := Int.mul_nonneg (by omega) (by omega)
 have a3 : 0 ≤ (A - x) * (B - y) := Int.mul_nonneg (by omega) (by omega)
 have a4 : 0 ≤ (A + x) * (B + y) := Int.mul_nonneg (by omega) (by omega)
 constructor
 ·grind
 ·grind
def dot (a b c : Pt) : Int := (a.1 - b.1) * (c.1 - b.1) + (a.2 - b.2) * (c.2 - b.2)
theorem sq_pos {x : Int} (h : x ≠ 0) : 0 < x * x := by
 rcases Int.lt_or_lt_of_ne h with g | g
 ·have := Int.mul_pos (show 0 < -x by omega) (show 0 < -x by omega)
  grind
 ·exact Int.mul_pos g g
theorem back_iff {a b c : Pt} (hab : a ≠ b) (hcb : c ≠ b) : (cross a b c = 0 ∧ 0 < dot a b c) ↔ (On a b c ∨ On c a b) := by
 obtain ⟨a1, a2⟩ := a
 obtain ⟨b1, b2⟩ := b
 obtain ⟨c1, c2⟩ := c
 have hu : a1 - b1 ≠ 0 ∨ a2 - b2 ≠ 0 := by
  by_cases h1 : a1 - b1 = 0
  ·by_cases h2 : a2 - b2 = 0
   ·exact absurd (Prod.ext (by dsimp; omega) (by dsimp; omega)) hab
   ·exact .inr h2
  ·exact .inl h1
 have hv : c1 - b1 ≠ 0 ∨ c2 - b2 ≠ 0 := by
  by_cases h1 : c1 - b1 = 0
  ·by_cases h2 : c2 - b2 = 0
   ·exact absurd (Prod.ext (by dsimp; omega) (by dsimp; omega)) hcb
   ·exact .inr h2
  ·exact .inl h1
 unfold On cross dot btw
 dsimp only
 have eq1 : (c1 - b1) * (a2 - b2) - (c2 - b2) * (a1 - b1) = (b1 - a1) * (c2 - a2) - (b2 - a2) * (c1 - a1) := by grind
 rw [eq1]
 generalize hx : a1 - b1 = x at *
 generalize hy : a2 - b2 = y at *
 generalize hs : c1 - b1 = s at *
 generalize ht : c2 - b2 = t at *
 have ec : (b1 - a1) * (c2 - a2) - (b2 - a2) * (c1 - a1) = s * y - t * x := by grind
 rw [ec]
 constructor
 ·rintro ⟨h0, hd⟩
  have par : s * y = t * x := by omega
  -- both products have one sign
  have p1 : 0 ≤ (x * s) * (y * t) := by
   have : (x * s) * (y * t) = (s * y) * (s * y) := by grind
   rw [this]
   by_cases hz : s * y = 0
   ·rw [hz]; decide
   ·exact Int.le_of_lt (sq_pos hz)
  have p2 : 0 ≤ x * s ∧ 0 ≤ y * t := by
   rcases Int.lt_or_le (x * s) 0 with g | g
   ·have g2 : 0 < y * t := by omega
    have : 0 < (-(x * s)) * (y * t) := Int.mul_pos (by omega) g2
    grind
   ·rcases Int.lt_or_le (y * t) 0 with g2 | g2
    ·have g3 : 0 < x * s := by omega
     have : 0 < (x * s) * (-(y * t)) := Int.mul_pos g3 (by omega)
     grind
    ·exact ⟨g, g2⟩
  -- signs
  have sgn : ∀ {p q : Int}, 0 ≤ p * q → (0 ≤ p ∧ 0 ≤ q) ∨ (p ≤ 0 ∧ q ≤ 0) := by
   intro p q h
   rcases Int.lt_trichotomy p 0 with g | g | g
   ·rcases Int.lt_or_le 0 q with g2 | g2
    ·have : 0 < (-p) * q := Int.mul_pos (by omega) g2
     grind
    ·exact .inr ⟨by omega, g2⟩
   ·rcases Int.lt_or_le 0 q with g2 | g2
    ·exact .inl ⟨by omega, by omega⟩
    ·exact .inr ⟨by omega, g2⟩
   ·rcases Int.lt_or_le q 0 with g2 | g2
    ·have : 0 < p * (-q) := Int.mul_pos g (by omega)
     grind
    ·exact .inl ⟨by omega, g2⟩
  have lt : ∀ {p q r w : Int}, 0 ≤ p → 0 ≤ q → p < r → w < q → 0 ≤ w → r * q = p * w → False := by
   intro p q r w h1 h2 h3 h4 h5 h6
   have k1 : 0 < (r - p) * q := Int.mul_pos (by omega) (by omega)
   have k2 : 0 ≤ p * (q - w) := Int.mul_nonneg h1 (by omega)
   grind
  rcases sgn p2.1 with ⟨q1, q2⟩ | ⟨q1, q2⟩ <;> rcases sgn p2.2 with ⟨q3, q4⟩ | ⟨q3, q4⟩
  ·by_cases g1 : x ≤ s
   ·by_cases g2 : y ≤ t
    ·exact .inl ⟨by omega, by omega, by omega⟩
    ·by_cases g3 : s ≤ x
     ·exact .inr ⟨by omega, by omega, by omega⟩
     ·exact (lt (p := x) (q := y) (r := s) (w := t) q1 q3 (by omega) (by omega) q4 (by grind)).elim
   ·by_cases g2 : t ≤ y
    ·exact .inr ⟨by omega, by omega, by omega⟩
    ·exact (lt (p := s) (q := t) (r := x) (w := y) q2 q4 (by omega) (by omega) q3 (by grind)).elim
  ·by_cases g1 : x ≤ s
   ·by_cases g2 : -y ≤ -t
    ·exact .inl ⟨by omega, by omega, by omega⟩
    ·by_cases g3 : s ≤ x
     ·exact .inr ⟨by omega, by omega, by omega⟩
     ·exact (lt (p := x) (q := -y) (r := s) (w := -t) q1 (by omega) (by omega) (by omega) (by omega) (by grind)).elim
   ·by_cases g2 : -t ≤ -y
    ·exact .inr ⟨by omega, by omega, by omega⟩
    ·exact (lt (p := s) (q := -t) (r := x) (w := -y) q2 (by omega) (by omega) (by omega) (by omega) (by grind)).elim
  ·by_cases g1 : -x ≤ -s
   ·by_cases g2 : y ≤ t
    ·exact .inl ⟨by omega, by omega, by omega⟩
    ·by_cases g3 : -s ≤ -x
     ·exact .inr ⟨by omega, by omega, by omega⟩
     ·exact (lt (p := -x) (q := y) (r := -s) (w := t) (by omega) q3 (by omega) (by omega) q4 (by grind)).elim
   ·by_cases g2 : t ≤ y
    ·exact .inr ⟨by omega, by omega, by omega⟩
    ·exact (lt (p := -s) (q := t) (r := -x) (w := y) (by omega) q4 (by omega) (by omega) q3 (by grind)).elim
  ·by_cases g1 : -x ≤ -s
   ·by_cases g2 : -y ≤ -t
    ·exact .inl ⟨by omega, by omega, by omega⟩
    ·by_cases g3 : -s ≤ -x
     ·exact .inr ⟨by omega, by omega, by omega⟩
     ·exact (lt (p := -x) (q := -y) (r := -s) (w := -t) (by omega) (by omega) (by omega) (by omega) (by omega) (by grind)).elim
   ·by_cases g2 : -t ≤ -y
    ·exact .inr ⟨by omega, by omega, by omega⟩
    ·exact (lt (p := -s) (q := -t) (r := -x) (w := -y) (by omega) (by omega) (by omega) (by omega) (by omega) (by grind)).elim
 ·
  have one : ∀ {p q : Int}, ((0 ≤ p ∧ p ≤ q) ∨ (q ≤ p ∧ p ≤ 0)) → p * p ≤ p * q := by
   intro p q h
   rcases h with ⟨h1, h2⟩ | ⟨h1, h2⟩
   ·exact Int.mul_le_mul_of_nonneg_left h2 h1
   ·have := Int.mul_le_mul_of_nonneg_left (show -p ≤ -q by omega) (show 0 ≤ -p by omega)
    grind
  have nn : ∀ p : Int, 0 ≤ p * p := fun p => by
   by_cases hz : p = 0
   ·rw [hz]; decide
   ·exact Int.le_of_lt (sq_pos hz)
  rintro (⟨h0, h1, h2⟩ | ⟨h0, h1, h2⟩)
  ·have k1 := one (p := x) (q := s) (by omega)
   have k2 := one (p := y) (q := t) (by omega)
   refine ⟨h0, ?_⟩
   have n1 := nn x
   have n2 := nn y
   rcases hu with h | h
   ·have := sq_pos h; omega
   ·have := sq_pos h; omega
  ·have k1 := one (p := s) (q := x) (by omega)
   have k2 := one (p := t) (q := y) (by omega)
   refine ⟨h0, ?_⟩
   have n1 := nn s
   have n2 := nn t
   have c1 := Int.mul_comm s x
   have c2 := Int.mul_comm t y
   rcases hv with h | h
   ·have := sq_pos h; omega
   ·have := sq_pos h; omega
def SimpleP (n : Nat) (p : Nat → Pt) : Prop :=
 ∀ i, i < n → p i ≠ p (nx n i) ∧ ¬ (cross (p i) (p (nx n i)) (p (nx n (nx n i))) = 0 ∧ 0 < dot (p i) (p (nx n i)) (p (nx n (nx n i)))) ∧
  ∀ k, i + 2 ≤ k → k < n → nx n k ≠ i → ¬ Meet (p i) (p (nx n i)) (p k) (p (nx n k))
def SimpleR (n : Nat) (p : Nat → Pt) : Prop :=
 (∀ i, i < n → ∀ k, k < i → p i ≠ p k) ∧
 ∀ i, i < n → ¬ On (p i) (p (nx n i)) (p (nx n (nx n i))) ∧ ¬ On (p (nx n (nx n i))) (p i) (p (nx n i)) ∧
  ∀ k, i + 2 ≤ k → k < n → nx n k ≠ i → ¬ Meet (p i) (p (nx n i)) (p k) (p (nx n k))
theorem nx_small {n i : Nat} (h : i + 1 < n) : nx n i = i + 1 := Nat.mod_eq_of_lt h
theorem nx_last {n i : Nat} (h : i + 1 = n) : nx n i = 0 := by unfold nx; rw [h, Nat.mod_self]
theorem nx_cases {n i : Nat} (h : i < n) : (i + 1 < n ∧ nx n i = i + 1) ∨ (i + 1 = n ∧ nx n i = 0) := by
 by_cases h1 : i + 1 < n
 ·exact .inl ⟨h1, nx_small h1⟩
 ·exact .inr ⟨by omega, nx_last (by omega)⟩
theorem simpleP_R {n : Nat} {p : Nat → Pt} (h : 3 ≤ n) : SimpleP n p ↔ SimpleR n p := by
 constructor
 ·intro S
  have dist : ∀ i, i < n → ∀ k, k < i → p i ≠ p k := by
   intro i hi k hk heq
   have hk' : k < n := by omega
   rcases nx_cases hi with ⟨g1, g2⟩ | ⟨g1, g2⟩
   ·by_cases h1 : k + 1 = i
    ·have := (S k hk').1
     rw [nx_small (by omega), h1] at this
     exact this heq.symm
    ·refine (S k hk').2.2 i (by omega) hi (by omega) (.inl ?_)
     rw [heq]; exact On.left _ _
   ·by_cases h0 : k = 0
    ·have := (S i hi).1
     rw [g2] at this
     exact this (by rw [heq, h0])
    ·by_cases h1 : k + 1 = i
     ·have := (S k hk').1
      rw [nx_small (by omega), h1] at this
      exact this heq.symm
     ·refine (S k hk').2.2 i (by omega) hi (by omega) (.inl ?_)
      rw [heq]; exact On.left _ _
  refine ⟨dist, fun i hi => ?_⟩
  obtain ⟨h1, h2, h3⟩ := S i hi
  have hx : nx n i < n := nx_lt h
  have h4 := (S _ hx).1
  have hb := mt (back_iff h1 (fun hh => h4 hh.symm)).2 h2
  exact ⟨fun hh => hb (.inl hh), fun hh => hb (.inr hh), h3⟩
 ·rintro ⟨dist, S⟩ i hi
  obtain ⟨h1, h2, h3⟩ := S i hi
  have d : ∀ i j, i < n → j < n → i ≠ j → p i ≠ p j := by
   intro i j hi hj hne
   rcases Nat.lt_or_ge i j with g | g
   ·exact fun hh => dist j hj i g hh.symm
   ·exact dist i hi j (by omega)
  have hx : nx n i < n := nx_lt h
  have e1 := d i (nx n i) hi hx (fun hh => nx_ne h hi hh.symm)
  have e2 := d (nx n i) (nx n (nx n i)) hx (nx_lt h) (fun hh => nx_ne h hx hh.symm)
  refine ⟨e1, fun hh => ?_, h3⟩
  rcases (back_iff e1 (fun hh => e2 hh.symm)).1 hh with g | g
  ·exact h1 g
  ·exact h2 g
theorem simpleR_iff {n : Nat} {p : Nat → Pt} (h : 3 ≤ n) : SimpleR n p ↔ Simple n p := by
 constructor
 ·rintro ⟨dist, S⟩
  refine ⟨h, fun i j hi hj hne => ?_, fun e he => ⟨(S e he).2.1, (S e he).1⟩, fun e i he hi h1 h2 h3 => ?_⟩
  ·rcases Nat.lt_or_ge i j with g | g
   ·exact fun hh => dist j hj i g hh.symm
   ·exact dist i hi j (by omega)
  ·rcases Nat.lt_or_ge e i with g | g
   ·refine (S e he).2.2 i ?_ hi h3
    rcases nx_cases he with ⟨g1, g2⟩ | ⟨g1, g2⟩ <;> omega
   ·intro hm
    refine (S i hi).2.2 e ?_ he (fun hh => h2 hh.symm) hm.symm
    rcases nx_cases hi with ⟨g1, g2⟩ | ⟨g1, g2⟩ <;> omega
 ·intro S
  refine ⟨fun i hi k hk => S.dist i k hi (by omega) (by omega), fun i hi => ⟨(S.corner i hi).2, (S.corner i hi).1, fun k h1 h2 h3 => S.apart i k hi h2 (by omega) ?_ h3⟩⟩
  rcases nx_cases hi with ⟨g1, g2⟩ | ⟨g1, g2⟩ <;> omega
theorem simple_area {n : Nat} {p : Nat → Pt} (h : 3 ≤ n) (S : SimpleP n p) : area n p ≠ 0 := area_simple ((simpleR_iff h).1 ((simpleP_R h).1 S))
end Geo
/-
 Points on segments: common points, parts of segments; contours that do not touch.
-/
namespace Geo
theorem sq_nonneg (x : Int) : 0 ≤ x * x := by
 by_cases h : x = 0
 ·rw [h]; decide
 ·exact Int.le_of_lt (sq_pos h)
theorem btw_mul {a b q : Int} (h : btw a b q) : 0 ≤ (q - a) * (b - a) ∧ (q - a) * (b - a) ≤ (b - a) * (b - a) := by
 rcases h with ⟨h1, h2⟩ | ⟨h1, h2⟩
 ·exact ⟨Int.mul_nonneg (by omega) (by omega), Int.mul_le_mul_of_nonneg_right (by omega) (by omega)⟩
 ·have k1 := Int.mul_nonneg (show 0 ≤ a - q by omega) (show 0 ≤ a - b by omega)
  have k2 := Int.mul_nonneg (show 0 ≤ q - b by omega) (show 0 ≤ a - b by omega)
  constructor
  ·grind
  ·grind
theorem On.param {q a b : Pt} (h : On q a b) (hne : a ≠ b) : ∃ N s : Int, 0 < N ∧ 0 ≤ s ∧ s ≤ N ∧ (q.1 - a.1) * N = s * (b.1 - a.1) ∧ (q.2 - a.2) * N = s * (b.2 - a.2) := by
 obtain ⟨hc, h1, h2⟩ := h
 have m1 := btw_mul h1
 have m2 := btw_mul h2
 refine ⟨(b.1 - a.1) * (b.1 - a.1) + (b.2 - a.2) * (b.2 - a.2), (q.1 - a.1) * (b.1 - a.1) + (q.2 - a.2) * (b.2 - a.2), ?_, by omega, by omega, ?_, ?_⟩
 ·have n1 := sq_nonneg (b.1 - a.1)
  have n2 := sq_nonneg (b.2 - a.2)
  by_cases g1 : b.1 - a.1 = 0
  ·by_cases g2 : b.2 - a.2 = 0
   ·exact absurd (Prod.ext (by omega) (by omega)) hne
   ·have := sq_pos g2; omega
  ·have := sq_pos g1; omega
 ·unfold cross at hc
  grind
 ·unfold cross at hc
  grind
theorem opp_of {x y u v : Int} (hx : 0 < x) (hy : 0 < y) (h : x * u + y * v = 0) : opp u v ∨ (u = 0 ∧ v = 0) := by
 rcases Int.lt_trichotomy u 0 with g | g | g
 ·have : 0 < x * (-u) := Int.mul_pos hx (by omega)
  have h2 : 0 < v * y := by grind
  exact .inl (.inl ⟨g, pos_of hy h2⟩)
 ·rw [g] at h
  have h2 : y * v = 0 := by omega
  rcases Int.mul_eq_zero.1 h2 with h3 | h3
  ·omega
  ·exact .inr ⟨g, h3⟩
 ·have : 0 < x * u := Int.mul_pos hx g
  have h2 : v * y < 0 := by grind
  exact .inl (.inr ⟨g, neg_of hy h2⟩)
theorem eq_of_mul {x y N : Int} (hN : 0 < N) (h : x * N = y * N) : x = y := Int.eq_of_mul_eq_mul_right (by omega) h
theorem common {q a b c d : Pt} (h1 : On q a b) (h2 : On q c d) (hab : a ≠ b) (hcd : c ≠ d) : Meet a b c d := by
 obtain ⟨N, s, hN, s0, sN, x1, x2⟩ := h1.param hab
 obtain ⟨K, r, hK, r0, rK, y1, y2⟩ := h2.param hcd
 by_cases e1 : r = 0
 ·have : q = c := by
   rw [e1] at y1 y2
   exact Prod.ext (by have := eq_of_mul (x := q.1 - c.1) (y := 0) hK (by omega); omega) (by have := eq_of_mul (x := q.2 - c.2) (y := 0) hK (by omega); omega)
  rw [this] at h1
  exact .inl h1
 ·by_cases e2 : r = K
  ·have : q = d := by
    rw [e2] at y1 y2
    exact Prod.ext (by have := eq_of_mul (x := q.1 - c.1) (y := d.1 - c.1) hK (by grind); omega) (by have := eq_of_mul (x := q.2 - c.2) (y := d.2 - c.2) hK (by grind); omega)
   rw [this] at h1
   exact .inr (.inl h1)
  ·by_cases e3 : s = 0
   ·have : q = a := by
     rw [e3] at x1 x2
     exact Prod.ext (by have := eq_of_mul (x := q.1 - a.1) (y := 0) hN (by omega); omega) (by have := eq_of_mul (x := q.2 - a.2) (y := 0) hN (by omega); omega)
    rw [this] at h2
    exact .inr (.inr (.inl h2))
   ·by_cases e4 : s = N
    ·have : q = b := by
      rw [e4] at x1 x2
      exact Prod.ext (by have := eq_of_mul (x := q.1 - a.1) (y := b.1 - a.1) hN (by grind); omega) (by have := eq_of_mul (x := q.2 - a.2) (y := b.2 - a.2) hN (by grind); omega)
     rw [this] at h2
     exact .inr (.inr (.inr (.inl h2)))
    ·have A : (K - r) * cross a b c + r * cross a b d = 0 := by
      have : (K - r) * cross a b c + r * cross a b d = K * cross a b q := by unfold cross; grind
      rw [this, h1.1]; simp
     have C : (N - s) * cross c d a + s * cross c d b = 0 := by
      have : (N - s) * cross c d a + s * cross c d b = N * cross c d q := by unfold cross; grind
      rw [this, h2.1]; simp
     have D := cross_diff a b c d
     have flat : cross a b c = 0 → cross c d a = 0 → Meet a b c d := by
      intro z1 z2
      -- along ab
      have hh : ht (b.1 - a.1) (b.2 - a.2) a < ht (b.1 - a.1) (b.2 - a.2) b := by
       have n1 := sq_nonneg (b.1 - a.1)
       have n2 := sq_nonneg (b.2 - a.2)
       have e : ht (b.1 - a.1) (b.2 - a.2) b - ht (b.1 - a.1) (b.2 - a.2) a = (b.1 - a.1) * (b.1 - a.1) + (b.2 - a.2) * (b.2 - a.2) := by unfold ht; grind
       by_cases g1 : b.1 - a.1 = 0
       ·by_cases g2 : b.2 - a.2 = 0
        ·exact absurd (Prod.ext (by omega) (by omega)) hab
        ·have := sq_pos g2; omega
       ·have := sq_pos g1; omega
      have z3 : cross a b d = 0 := by
       rw [z1] at A
       have h0 : r * cross a b d = 0 := by omega
       rcases Int.mul_eq_zero.1 h0 with h | h
       ·omega
       ·exact h
      -- heights of q
      have q1 : (ht (b.1 - a.1) (b.2 - a.2) q - ht (b.1 - a.1) (b.2 - a.2) a) * N = s * (ht (b.1 - a.1) (b.2 - a.2) b - ht (b.1 - a.1) (b.2 - a.2) a) := by unfold ht; grind
      have q2 : (ht (b.1 - a.1) (b.2 - a.2) q - ht (b.1 - a.1) (b.2 - a.2) c) * K = r * (ht (b.1 - a.1) (b.2 - a.2) d - ht (b.1 - a.1) (b.2 - a.2) c) := by unfold ht; grind
      generalize hta : ht (b.1 - a.1) (b.2 - a.2) a = ta at *
      generalize htb : ht (b.1 - a.1) (b.2 - a.2) b = tb at *
      generalize htc : ht (b.1 - a.1) (b.2 - a.2) c = tc at *
      generalize htd : ht (b.1 - a.1) (b.2 - a.2) d = td at *
      generalize htq : ht (b.1 - a.1) (b.2 - a.2) q = tq at *
      have b1 : btw 0 (tb - ta) (tq - ta) := scale_btw hN s0 sN (by rw [q1]; exact Int.mul_comm _ _)
      have b2 : btw 0 (td - tc) (tq - tc) := scale_btw hK r0 rK (by rw [q2]; exact Int.mul_comm _ _)
      unfold btw at b1 b2
      by_cases g : ta ≤ tc ∧ tc ≤ tb
      ·exact .inl (on_of (α := b.1 - a.1) (β := b.2 - a.2) z1 (by omega) (by omega) (by omega))
      ·by_cases g' : ta ≤ td ∧ td ≤ tb
       ·exact .inr (.inl (on_of (α := b.1 - a.1) (β := b.2 - a.2) z3 (by omega) (by omega) (by omega)))
       ·by_cases g'' : tc ≤ td
        ·exact .inr (.inr (.inl (on_of (α := b.1 - a.1) (β := b.2 - a.2) z2 (by omega) (by omega) (by omega))))
        ·refine .inr (.inr (.inl (On.swap (on_of (α := b.1 - a.1) (β := b.2 - a.2) ?_ (by omega) (by omega) (by omega)))))
         rw [cross_swap, z2]; rfl
     rcases opp_of (by omega) (by omega) A with oA | ⟨zA, zA'⟩
     ·rcases opp_of (by omega) (by omega) C with oC | ⟨zC, zC'⟩
      ·exact .inr (.inr (.inr (.inr ⟨oA, oC⟩)))
      ·refine flat ?_ zC
       have he : cross a b c = cross a b d := by omega
       rw [← he] at A
       have : K * cross a b c = 0 := by grind
       rcases Int.mul_eq_zero.1 this with h | h
       ·omega
       ·exact h
     ·refine flat zA ?_
      have he : cross c d a = cross c d b := by omega
      rw [← he] at C
      have : N * cross c d a = 0 := by grind
      rcases Int.mul_eq_zero.1 this with h | h
      ·omega
      ·exact h
theorem On.trans {q c a b : Pt} (hq : On q a b) (hc : On c a q) (hab : a ≠ b) (haq : a ≠ q) : On c a b := by
 obtain ⟨N, s, hN, s0, sN, x1, x2⟩ := hq.param hab
 obtain ⟨h0, h1, h2⟩ := hc
 obtain ⟨_, g1, g2⟩ := hq
 refine ⟨?_, by unfold btw at *; omega, by unfold btw at *; omega⟩
 have e : s * cross a b c = N * cross a q c := by unfold cross; grind
 rw [h0] at e
 have h3 : s * cross a b c = 0 := by omega
 rcases Int.mul_eq_zero.1 h3 with h | h
 ·exfalso
  rw [h] at x1 x2
  exact haq (Prod.ext (by have := eq_of_mul (x := q.1 - a.1) (y := 0) hN (by omega); omega) (by have := eq_of_mul (x := q.2 - a.2) (y := 0) hN (by omega); omega))
 ·exact h
theorem Meet.part {q a b c d : Pt} (hq : On q a b) (hab : a ≠ b) (hcd : c ≠ d) (h : Meet a q c d) : Meet a b c d := by
 by_cases haq : a = q
 ·
  subst haq
  have pt : ∀ x : Pt, On x a a → x = a := by
   rintro x ⟨_, h1, h2⟩
   exact Prod.ext (by unfold btw at h1; omega) (by unfold btw at h2; omega)
  rcases h with h | h | h | h | ⟨h1, h2⟩
  ·rw [pt c h]; exact .inr (.inr (.inl (On.left a d)))
  ·rw [pt d h]; exact .inr (.inr (.inl (On.right c a)))
  ·exact .inr (.inr (.inl h))
  ·exact .inr (.inr (.inl h))
  ·rw [cross_same, cross_same] at h1
   unfold opp at h1; omega
 ·rcases h with h | h | h | h | ⟨h1, h2⟩
  ·exact .inl (hq.trans h hab haq)
  ·exact .inr (.inl (hq.trans h hab haq))
  ·exact .inr (.inr (.inl h))
  ·exact common hq h hab hcd
  ·obtain ⟨N, s, hN, s0, sN, x1, x2⟩ := hq.param hab
   have hs : 0 < s := by
    rcases Int.lt_or_eq_of_le s0 with g | g
    ·exact g
    ·exfalso
     rw [← g] at x1 x2
     exact haq (Prod.ext (by have := eq_of_mul (x := q.1 - a.1) (y := 0) hN (by omega); omega) (by have := eq_of_mul (x := q.2 - a.2) (y := 0) hN (by omega); omega))
   have ec : s * cross a b c = N * cross a q c := by unfold cross; grind
   have ed : s * cross a b d = N * cross a q d := by unfold cross; grind
   have eb : (N - s) * cross c d a + s * cross c d b = N * cross c d q := by unfold cross; grind
   have up : ∀ {x y : Int}, s * x = N * y → (0 < y → 0 < x) ∧ (y < 0 → x < 0) := by
    intro x y e
    refine ⟨fun h => ?_, fun h => ?_⟩
    ·have := Int.mul_pos hN h
     exact pos_of hs (by grind)
    ·have := Int.mul_pos hN (show 0 < -y by omega)
     exact neg_of hs (by grind)
   refine .inr (.inr (.inr (.inr ⟨?_, ?_⟩)))
   ·rcases h1 with ⟨g1, g2⟩ | ⟨g1, g2⟩
    ·exact .inl ⟨(up ec).2 g1, (up ed).1 g2⟩
    ·exact .inr ⟨(up ec).1 g1, (up ed).2 g2⟩
   ·rcases h2 with ⟨g1, g2⟩ | ⟨g1, g2⟩
    ·refine .inl ⟨g1, ?_⟩
     have k1 := Int.mul_pos hN g2
     have k2 := Int.mul_nonneg (show 0 ≤ N - s by omega) (show 0 ≤ - cross c d a by omega)
     exact pos_of hs (by grind)
    ·refine .inr ⟨g1, ?_⟩
     have k1 := Int.mul_pos hN (show 0 < - cross c d q by omega)
     have k2 := Int.mul_nonneg (show 0 ≤ N - s by omega) (show 0 ≤ cross c d a by omega)
     exact neg_of hs (by grind)
theorem par_edge {n' : Nat} {p' : Nat → Pt} {a b q : Pt} (hf : Free n' p' a b) (hq : On q a b) (hab : a ≠ b) (hd : ∀ i, i < n' → p' i ≠ p' ((i + 1) % n')) :
  (∀ i, i < n' → ¬ On q (p' i) (p' ((i + 1) % n'))) ∧ par n' p' q = par n' p' a := by
 refine ⟨fun i hi ho => hf i hi (common hq ho hab (hd i hi)), ?_⟩
 have : Free n' p' a q := fun i hi hm => hf i hi (hm.part hq hab (hd i hi))
 exact (par_free this).symm
end Geo
/-
 Two contours that do not touch: apart, or one within the other.
-/
set_option linter.all false
namespace Geo
def OnK (n : Nat) (p : Nat → Pt) (q : Pt) : Prop := ∃ j, j < n ∧ On q (p j) (p (nx n j))
structure NoTouch (n : Nat) (p : Nat → Pt) (n' : Nat) (p' : Nat → Pt) : Prop where
 big : 3 ≤ n
 big' : 3 ≤ n'
 free : ∀ i, i < n → ∀ k, k < n' → ¬ Meet (p i) (p (nx n i)) (p' k) (p' (nx n' k))
 ne : ∀ i, i < n → p i ≠ p (nx n i)
 ne' : ∀ i, i < n' → p' i ≠ p' (nx n' i)
theorem NoTouch.symm {n : Nat} {p : Nat → Pt} {n' : Nat} {p' : Nat → Pt} (h : NoTouch n p n' p') : NoTouch n' p' n p :=
 ⟨h.big', h.big, fun i hi k hk hm => h.free k hk i hi hm.symm, h.ne', h.ne⟩
theorem NoTouch.corner {n : Nat} {p : Nat → Pt} {n' : Nat} {p' : Nat → Pt} (h : NoTouch n p n' p') : ∀ i, i < n → par n' p' (p i) = par n' p' (p 0) := by
 intro i
 induction i with
 | zero => intro _; rfl
 | succ i ih =>
  intro hi
  rw [← ih (by omega)]
  have e := par_free (n := n') (p := p') (a := p i) (b := p (nx n i)) (fun k hk => h.free i (by omega) k hk)
  rw [nx_small hi] at e
  exact e.symm
def dd (a b : Pt) : Int := if a.2 = b.2 then 1 else (b.2 - a.2) * (b.2 - a.2)
end Geo
/-
 A contour in the opposite order.
-/
set_option linter.all false
namespace Geo
theorem nx_lt' {n i : Nat} (h : 0 < n) : nx n i < n := Nat.mod_lt _ h
theorem simple_congr {n : Nat} {p q : Nat → Pt} (h : ∀ i, i < n → p i = q i) (S : Simple n p) : Simple n q := by
 have hb := S.big
 have hx : ∀ i, p (nx n i) = q (nx n i) := fun i => h _ (nx_lt' (by omega))
 refine ⟨S.big, fun i j hi hj hne => ?_, fun e he => ?_, fun e i he hi h1 h2 h3 => ?_⟩
 ·rw [← h i hi, ← h j hj]; exact S.dist i j hi hj hne
 ·rw [← h e he, ← hx, ← hx]; exact S.corner e he
 ·rw [← h e he, ← h i hi, ← hx, ← hx]; exact S.apart e i he hi h1 h2 h3
theorem par_congr {n : Nat} {p q : Nat → Pt} (h0 : 0 < n) (h : ∀ i, i < n → p i = q i) (z : Pt) : par n p z = par n q z :=
 xs_congr fun i hi => by rw [h i hi, h ((i + 1) % n) (Nat.mod_lt _ h0)]
theorem area_congr {n : Nat} {p q : Nat → Pt} (h0 : 0 < n) (h : ∀ i, i < n → p i = q i) : area n p = area n q :=
 sm_congr fun i hi => by rw [h i hi, h (nx n i) (nx_lt' h0)]
theorem onK_congr {n : Nat} {p q : Nat → Pt} (h0 : 0 < n) (h : ∀ i, i < n → p i = q i) (z : Pt) : OnK n p z ↔ OnK n q z :=
 ⟨fun ⟨j, hj, ho⟩ => ⟨j, hj, by rw [← h j hj, ← h (nx n j) (nx_lt' h0)]; exact ho⟩, fun ⟨j, hj, ho⟩ => ⟨j, hj, by rw [h j hj, h (nx n j) (nx_lt' h0)]; exact ho⟩⟩
def rv (n : Nat) (p : Nat → Pt) (j : Nat) : Pt := p (n - 1 - j)
def ej (n j : Nat) : Nat := n - 1 - nx n j
theorem ej_lt {n j : Nat} (h : 0 < n) : ej n j < n := by unfold ej; omega
theorem ej_cases {n j : Nat} (hj : j < n) : (j + 1 < n ∧ ej n j = n - 2 - j) ∨ (j + 1 = n ∧ ej n j = n - 1) := by
 unfold ej
 rcases nx_cases hj with ⟨c, d⟩ | ⟨c, d⟩ <;> rw [d] <;> omega
theorem rv_edge {n j : Nat} {p : Nat → Pt} (hj : j < n) : rv n p j = p (nx n (ej n j)) ∧ rv n p (nx n j) = p (ej n j) := by
 refine ⟨?_, rfl⟩
 unfold rv
 congr 1
 unfold ej
 rcases nx_cases hj with ⟨h1, h2⟩ | ⟨h1, h2⟩
 ·rw [h2, nx_small (by omega)]; omega
 ·rw [h2, nx_last (by omega)]; omega
theorem xs_rev (n : Nat) : ∀ g : Nat → Bool, xs n (fun j => g (n - 1 - j)) = xs n g := by
 induction n with
 | zero => intro g; rfl
 | succ n ih =>
  intro g
  have e := ih (fun j => g (j + 1))
  have e2 := xs_shift n g
  have e3 : xs n (fun j => g (n + 1 - 1 - j)) = xs n (fun j => g (n - 1 - j + 1)) := xs_congr fun i hi => by rw [show n + 1 - 1 - i = n - 1 - i + 1 from by omega]
  simp only [xs]
  rw [e3, e, show n + 1 - 1 - n = 0 from by omega, e2]
theorem sm_rev (n : Nat) : ∀ g : Nat → Int, sm n (fun j => g (n - 1 - j)) = sm n g := by
 induction n with
 | zero => intro g; rfl
 | succ n ih =>
  intro g
  have e := ih (fun j => g (j + 1))
  have e2 := sm_shift n g
  have e3 : sm n (fun j => g (n + 1 - 1 - j)) = sm n (fun j => g (n - 1 - j + 1)) := sm_congr fun i hi => by rw [show n + 1 - 1 - i = n - 1 - i + 1 from by omega]
  simp only [sm]
  rw [e3, e, show n + 1 - 1 - n = 0 from by omega, e2]
theorem xs_ej (n : Nat) (g : Nat → Bool) : xs n (fun j => g (ej n j)) = xs n g := (xs_next n (fun k => g (n - 1 - k))).trans (xs_rev n g)
theorem sm_ej (n : Nat) (g : Nat → Int) : sm n (fun j => g (ej n j)) = sm n g := (sm_next n (fun k => g (n - 1 - k))).trans (sm_rev n g)
theorem rv_par {n : Nat} {p : Nat → Pt} {q : Pt} (hq : ¬ OnK n p q) : par n (rv n p) q = par n p q := by
 have h : par n (rv n p) q = xs n (fun j => rc q (p (ej n j)) (p (nx n (ej n j)))) := by
  unfold par
  refine xs_congr fun j hj => ?_
  obtain ⟨h1, h2⟩ := rv_edge (p := p) hj
  show rc q (rv n p j) (rv n p (nx n j)) = _
  rw [h1, h2]
  exact (rc_swap (fun h => hq ⟨ej n j, ej_lt (by omega), h⟩)).symm
 rw [h]
 exact xs_ej n (fun k => rc q (p k) (p (nx n k)))
theorem rv_area (n : Nat) (p : Nat → Pt) : area n (rv n p) = - area n p := by
 have h : area n (rv n p) = sm n (fun j => (-1) * ((p (ej n j)).1 * (p (nx n (ej n j))).2 - (p (nx n (ej n j))).1 * (p (ej n j)).2)) := by
  unfold area
  refine sm_congr fun j hj => ?_
  obtain ⟨h1, h2⟩ := rv_edge (p := p) hj
  rw [h1, h2]
  grind
 rw [h, sm_ej n (fun k => (-1) * ((p k).1 * (p (nx n k)).2 - (p (nx n k)).1 * (p k).2)), sm_mul]
 unfold area
 omega
theorem ej_ej {n j : Nat} (hj : j < n) : ej n (ej n j) = j := by
 have h1 : ej n j < n := ej_lt (by omega)
 unfold ej at *
 rcases nx_cases hj with ⟨a, b⟩ | ⟨a, b⟩ <;> rw [b] at h1 ⊢ <;> rcases nx_cases h1 with ⟨c, d⟩ | ⟨c, d⟩ <;> rw [d] <;> omega
theorem rv_onK {n : Nat} {p : Nat → Pt} {q : Pt} : OnK n (rv n p) q ↔ OnK n p q := by
 constructor
 ·rintro ⟨j, hj, ho⟩
  obtain ⟨h1, h2⟩ := rv_edge (p := p) hj
  rw [h1, h2] at ho
  exact ⟨ej n j, ej_lt (by omega), ho.swap⟩
 ·rintro ⟨j, hj, ho⟩
  have hl : ej n j < n := ej_lt (by omega)
  obtain ⟨h1, h2⟩ := rv_edge (p := p) hl
  rw [ej_ej hj] at h1 h2
  exact ⟨ej n j, hl, by rw [h1, h2]; exact ho.swap⟩
theorem rv_simple {n : Nat} {p : Nat → Pt} (S : Simple n p) : Simple n (rv n p) := by
 have hb := S.big
 refine ⟨hb, fun i j hi hj hne => ?_, fun e he => ?_, fun e i he hi h1 h2 h3 => ?_⟩
 ·exact S.dist _ _ (by omega) (by omega) (by omega)
 ·have hl : ej n (nx n e) < n := ej_lt (by omega)
  have hx : nx n e < n := nx_lt' (by omega)
  obtain ⟨a1, a2⟩ := rv_edge (p := p) he
  obtain ⟨b1, b2⟩ := rv_edge (p := p) hx
  have ee : ej n e = nx n (ej n (nx n e)) := by
   unfold ej
   rcases nx_cases he with ⟨c, d⟩ | ⟨c, d⟩
   ·rw [d]
    rcases nx_cases (show e + 1 < n by omega) with ⟨c', d'⟩ | ⟨c', d'⟩
    ·rw [d', nx_small (by omega)]; omega
    ·rw [d', nx_last (by omega)]; omega
   ·rw [d, nx_small (show 0 + 1 < n by omega), nx_small (by omega)]; omega
  have c := S.corner _ hl
  rw [ee] at a1
  rw [a1, b1, b2]
  exact ⟨fun h => c.2 h.swap, fun h => c.1 h.swap⟩
 ·obtain ⟨a1, a2⟩ := rv_edge (p := p) he
  obtain ⟨b1, b2⟩ := rv_edge (p := p) hi
  rw [a1, a2, b1, b2]
  have h : ¬ Meet (p (ej n e)) (p (nx n (ej n e))) (p (ej n i)) (p (nx n (ej n i))) := by
   have l1 : ej n e < n := ej_lt (by omega)
   have l2 : ej n i < n := ej_lt (by omega)
   have v1 := ej_cases he
   have v2 := ej_cases hi
   have u1 := nx_cases l1
   have u2 := nx_cases l2
   have w1 := nx_cases he
   have w2 := nx_cases hi
   exact S.apart _ _ l1 l2 (by omega) (by omega) (by omega)
  exact fun hm => h hm.swap.swap2
end Geo
