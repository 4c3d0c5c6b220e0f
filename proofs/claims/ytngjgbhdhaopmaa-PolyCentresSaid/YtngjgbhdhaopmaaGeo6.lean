/-
 Several texts in one.
-/
import Derived.Test.YtngjgbhdhaopmaaGeo1
/-
 The area of a simple polygon is not zero.
-/
namespace Geo
structure Simple (n : Nat) (p : Nat → Pt) : Prop where
 big : 3 ≤ n
 dist : ∀ i j,i < n → j < n → i ≠ j → p i ≠ p j
 corner : ∀ e,e < n → ¬ On (p (nx n (nx n e))) (p e) (p (nx n e)) ∧ ¬ On (p e) (p (nx n e)) (p (nx n (nx n e)))
 apart : ∀ e i,e < n → i < n → i ≠ e → i ≠ nx n e → nx n i ≠ e → ¬ Meet (p e) (p (nx n e)) (p i) (p (nx n i))
def area (n : Nat) (p : Nat → Pt) : Int := sm n fun i => (p i).1 * (p (nx n i)).2 - (p (nx n i)).1 * (p i).2
def pr : Nat → (Nat → Int) → Int
 | 0,_ => 1
 | n + 1,f => pr n f * f n
theorem pr_pos {n : Nat} {f : Nat → Int} (h : ∀ i,i < n → 0 < f i) : 0 < pr n f:=by
 induction n with
 | zero => exact Int.one_pos
 | succ n ih => exact Int.mul_pos (ih fun i hi => h i (by omega)) (h n (by omega))
theorem pr_dvd {n : Nat} {f : Nat → Int} {i : Nat} (h : i < n) : ∃ q,q * f i = pr n f:=by
 induction n with
 | zero => omega
 | succ n ih =>
  rw [pr]
  by_cases e : i = n
  ·subst e;exact ⟨_,rfl⟩
  ·obtain ⟨q,hq⟩ := ih (by omega)
   exact ⟨q * f n,by rw [← hq];grind⟩
theorem bounded (n : Nat) (p : Nat → Pt) : ∃ B : Nat,∀ i,i < n → -(B : Int) ≤ (p i).1 ∧ (p i).1 ≤ B ∧ -(B : Int) ≤ (p i).2 ∧ (p i).2 ≤ B:=by
 induction n with
 | zero => exact ⟨0,fun i h => by omega⟩
 | succ n ih =>
  obtain ⟨B,hB⟩ := ih
  refine ⟨B + (p n).1.natAbs + (p n).2.natAbs,fun i hi => ?_⟩
  by_cases e : i = n
  ·subst e;omega
  ·have := hB i (by omega);omega
theorem area_simple {n : Nat} {p : Nat → Pt} (S : Simple n p) : area n p ≠ 0:=by
 obtain ⟨B,hB⟩ := bounded n p
 have hb := S.big
 -- heights that part all corners
 have hK : ∃ K : Int,K = 4 * B + 1 := ⟨_,rfl⟩
 obtain ⟨K,hK⟩ := hK
 have hinj : ∀ i j,i < n → j < n → i ≠ j → ht 2 (2 * K) (p i) ≠ ht 2 (2 * K) (p j):=by
  intro i j hi hj hne h
  have b1 := hB i hi
  have b2 := hB j hj
  unfold ht at h
  have h1 : K * ((p i).2 - (p j).2) = (p j).1 - (p i).1:=by grind
  have h2 : (p i).2 = (p j).2:=by
   rcases Int.lt_trichotomy 0 ((p i).2 - (p j).2) with g | g | g
   ·have : K * 1 ≤ K * ((p i).2 - (p j).2) := Int.mul_le_mul_of_nonneg_left (by omega) (by omega)
    omega
   ·omega
   ·have : K * 1 ≤ K * -((p i).2 - (p j).2) := Int.mul_le_mul_of_nonneg_left (by omega) (by omega)
    grind
  have h3 : (p i).1 = (p j).1:=by rw [h2] at h1;grind
  exact S.dist i j hi hj hne (Prod.ext h3 h2)
 have hd : ∀ e,e < n → ht 2 (2 * K) (p (nx n e)) - ht 2 (2 * K) (p e) ≠ 0:=by
  intro e he h
  exact hinj (nx n e) e (nx_lt hb) he (nx_ne hb he) (by omega)
 -- a common multiple
 obtain ⟨M,hM⟩ : ∃ M,M = pr n fun e => (ht 2 (2 * K) (p (nx n e)) - ht 2 (2 * K) (p e)) * (ht 2 (2 * K) (p (nx n e)) - ht 2 (2 * K) (p e)) := ⟨_,rfl⟩
 have hMp : 0 < M:=by
  rw [hM]
  refine pr_pos fun e he => ?_
  have := hd e he
  rcases Int.lt_or_lt_of_ne this with g | g
  ·have := Int.mul_pos (show 0 < -(ht 2 (2 * K) (p (nx n e)) - ht 2 (2 * K) (p e)) by omega) (show 0 < -(ht 2 (2 * K) (p (nx n e)) - ht 2 (2 * K) (p e)) by omega)
   grind
  ·exact Int.mul_pos g g
 have hQ : ∀ e,∃ q,e < n → q * (ht 2 (2 * K) (p (nx n e)) - ht 2 (2 * K) (p e)) = M:=by
  intro e
  by_cases he : e < n
  ·obtain ⟨q,hq⟩ := pr_dvd (f:=fun e => (ht 2 (2 * K) (p (nx n e)) - ht 2 (2 * K) (p e)) * (ht 2 (2 * K) (p (nx n e)) - ht 2 (2 * K) (p e))) he
   exact ⟨q * (ht 2 (2 * K) (p (nx n e)) - ht 2 (2 * K) (p e)),fun _ => by rw [hM,← hq];grind⟩
  ·exact ⟨0,fun h => absurd h he⟩
 obtain ⟨Q,hQ⟩ : ∃ Q : Nat → Int,∀ e,e < n → Q e * (ht 2 (2 * K) (p (nx n e)) - ht 2 (2 * K) (p e)) = M := ⟨fun e => Classical.choose (hQ e),fun e => Classical.choose_spec (hQ e)⟩
 let L : Lev n := { H:=fun i => ht 2 (2 * K) (p i),V:=fun i => M * (p i).1,X:=fun e t => M * (p e).1 + Q e * ((p (nx n e)).1 - (p e).1) * (t - ht 2 (2 * K) (p e)) }
 have hline : ∀ e,e < n → Line 2 (2 * K) M (p e) (p (nx n e)) (L.X e):=by
  intro e he
  refine ⟨⟨M * (p e).1 - Q e * ((p (nx n e)).1 - (p e).1) * ht 2 (2 * K) (p e),Q e * ((p (nx n e)).1 - (p e).1),fun t => ?_⟩,?_,?_⟩
  ·show M * (p e).1 + Q e * ((p (nx n e)).1 - (p e).1) * (t - ht 2 (2 * K) (p e)) = _
   grind
  ·show M * (p e).1 + Q e * ((p (nx n e)).1 - (p e).1) * (ht 2 (2 * K) (p e) - ht 2 (2 * K) (p e)) = _
   grind
  ·show M * (p e).1 + Q e * ((p (nx n e)).1 - (p e).1) * (ht 2 (2 * K) (p (nx n e)) - ht 2 (2 * K) (p e)) = _
   have := hQ e he
   grind
 have hrng : ∀ {e t},L.rng e t → rngP 2 (2 * K) (p e) (p (nx n e)) t:=fun h => h
 have F : L.Fine:=by
  refine ⟨hb,fun i => ⟨(p i).1 + K * (p i).2,?_⟩,hinj,fun e he => (hline e he).aff,fun e he => (hline e he).fst,fun e he => (hline e he).snd,?_⟩
  ·show ht 2 (2 * K) (p i) = _
   unfold ht;grind
  ·intro e i t t' he hi hne ⟨h1,h2,h3,h4⟩ ⟨h5,h6,h7,h8⟩
   have ne : ∀ e,e < n → ht 2 (2 * K) (p e) ≠ ht 2 (2 * K) (p (nx n e)):=fun e he h => hd e he (by omega)
   by_cases c1 : nx n e = i
   ·subst c1
    exact order_corner hMp (by omega) (hline e he) (hline _ hi) (ne e he) (ne _ hi) (S.corner e he).1 (S.corner e he).2 (hrng h1) (hrng h2) (hrng h5) (hrng h6) (fun h => h3 ⟨rfl,h.symm⟩) (fun h => h7 ⟨rfl,h.symm⟩)
   ·by_cases c2 : nx n i = e
    ·subst c2
     have := order_corner hMp (by omega) (hline i hi) (hline _ he) (ne i hi) (ne _ he) (S.corner i hi).1 (S.corner i hi).2 (hrng h2) (hrng h1) (hrng h6) (hrng h5) (fun h => h4 ⟨rfl,h.symm⟩) (fun h => h8 ⟨rfl,h.symm⟩)
     exact this.symm
    ·exact order_apart hMp (by omega) (hline e he) (hline i hi) (ne e he) (ne i hi) (S.apart e i he hi (fun h => hne h.symm) (fun h => c1 h.symm) c2) (hrng h1) (hrng h2) (hrng h5) (hrng h6)
 have hne := L.area_ne F
 intro h0
 refine hne ?_
 have e1 : sm n (fun e => (L.H (nx n e) - L.H e) * (L.V e + L.V (nx n e))) = sm n fun e => (2 * M * K) * ((p e).1 * (p (nx n e)).2 - (p (nx n e)).1 * (p e).2) + ((fun j => M * (2 * ((p j).1 * (p j).1) + 2 * K * ((p j).1 * (p j).2))) ((e + 1) % n) - (fun j => M * (2 * ((p j).1 * (p j).1) + 2 * K * ((p j).1 * (p j).2))) e):=by
  refine sm_congr fun e _ => ?_
  show (ht 2 (2 * K) (p (nx n e)) - ht 2 (2 * K) (p e)) * (M * (p e).1 + M * (p (nx n e)).1) = _
  have : nx n e = (e + 1) % n := rfl
  rw [← this]
  unfold ht
  dsimp only
  grind
 have cyc := sm_cycle n fun j => M * (2 * ((p j).1 * (p j).1) + 2 * K * ((p j).1 * (p j).2))
 rw [e1,sm_add,sm_mul,cyc]
 have : (sm n fun e => (p e).1 * (p (nx n e)).2 - (p (nx n e)).1 * (p e).2) = 0 := h0
 rw [this];simp
end Geo
/-
 Deciding;what two writers say of successive edges.
-/
namespace Geo
instance decBtw (a b q : Int) : Decidable (btw a b q):=by unfold btw;infer_instance
instance decOn (q a b : Pt) : Decidable (On q a b):=by unfold On;infer_instance
instance decOpp (s t : Int) : Decidable (opp s t):=by unfold opp;infer_instance
instance decMeet (a b c d : Pt) : Decidable (Meet a b c d):=by unfold Meet;infer_instance
def nr (x y : Int) : Prop := -32768 ≤ x ∧ x ≤ 32768 ∧ -32768 ≤ y ∧ y ≤ 32768
theorem mul_bd {x y A B : Int} (h1 : -A ≤ x) (h2 : x ≤ A) (h3 : -B ≤ y) (h4 : y ≤ B) : -(A * B) ≤ x * y ∧ x * y ≤ A * B:=by
 have a1 : 0 ≤ (A - x) * (B + y) := Int.mul_nonneg (by omega) (by omega)
 have a2 : 0 ≤ (A + x) * (B - y) := Int.mul_nonneg (by omega) (by omega)
 have a3 : 0 ≤ (A - x) * (B - y) := Int.mul_nonneg (by omega) (by omega)
 have a4 : 0 ≤ (A + x) * (B + y) := Int.mul_nonneg (by omega) (by omega)
 constructor
 ·grind
 ·grind
def dot (a b c : Pt) : Int:=(a.1 - b.1) * (c.1 - b.1) + (a.2 - b.2) * (c.2 - b.2)
theorem sq_pos {x : Int} (h : x ≠ 0) : 0 < x * x:=by
 rcases Int.lt_or_lt_of_ne h with g | g
 ·have := Int.mul_pos (show 0 < -x by omega) (show 0 < -x by omega)
  grind
 ·exact Int.mul_pos g g
theorem back_iff {a b c : Pt} (hab : a ≠ b) (hcb : c ≠ b) : (cross a b c = 0 ∧ 0 < dot a b c) ↔ (On a b c ∨ On c a b):=by
 obtain ⟨a1,a2⟩ := a
 obtain ⟨b1,b2⟩ := b
 obtain ⟨c1,c2⟩ := c
 have hu : a1 - b1 ≠ 0 ∨ a2 - b2 ≠ 0:=by
  by_cases h1 : a1 - b1 = 0
  ·by_cases h2 : a2 - b2 = 0
   ·exact absurd (Prod.ext (by dsimp;omega) (by dsimp;omega)) hab
   ·exact .inr h2
  ·exact .inl h1
 have hv : c1 - b1 ≠ 0 ∨ c2 - b2 ≠ 0:=by
  by_cases h1 : c1 - b1 = 0
  ·by_cases h2 : c2 - b2 = 0
   ·exact absurd (Prod.ext (by dsimp;omega) (by dsimp;omega)) hcb
   ·exact .inr h2
  ·exact .inl h1
 unfold On cross dot btw
 dsimp only
 have eq1 : (c1 - b1) * (a2 - b2) - (c2 - b2) * (a1 - b1) = (b1 - a1) * (c2 - a2) - (b2 - a2) * (c1 - a1):=by grind
 rw [eq1]
 generalize hx : a1 - b1 = x at *
 generalize hy : a2 - b2 = y at *
 generalize hs : c1 - b1 = s at *
 generalize ht : c2 - b2 = t at *
 have ec : (b1 - a1) * (c2 - a2) - (b2 - a2) * (c1 - a1) = s * y - t * x:=by grind
 rw [ec]
 constructor
 ·rintro ⟨h0,hd⟩
  have par : s * y = t * x:=by omega
  -- both products have one sign
  have p1 : 0 ≤ (x * s) * (y * t):=by
   have : (x * s) * (y * t) = (s * y) * (s * y):=by grind
   rw [this]
   by_cases hz : s * y = 0
   ·rw [hz];decide
   ·exact Int.le_of_lt (sq_pos hz)
  have p2 : 0 ≤ x * s ∧ 0 ≤ y * t:=by
   rcases Int.lt_or_le (x * s) 0 with g | g
   ·have g2 : 0 < y * t:=by omega
    have : 0 < (-(x * s)) * (y * t) := Int.mul_pos (by omega) g2
    grind
   ·rcases Int.lt_or_le (y * t) 0 with g2 | g2
    ·have g3 : 0 < x * s:=by omega
     have : 0 < (x * s) * (-(y * t)) := Int.mul_pos g3 (by omega)
     grind
    ·exact ⟨g,g2⟩
  -- signs
  have sgn : ∀ {p q : Int},0 ≤ p * q → (0 ≤ p ∧ 0 ≤ q) ∨ (p ≤ 0 ∧ q ≤ 0):=by
   intro p q h
   rcases Int.lt_trichotomy p 0 with g | g | g
   ·rcases Int.lt_or_le 0 q with g2 | g2
    ·have : 0 < (-p) * q := Int.mul_pos (by omega) g2
     grind
    ·exact .inr ⟨by omega,g2⟩
   ·rcases Int.lt_or_le 0 q with g2 | g2
    ·exact .inl ⟨by omega,by omega⟩
    ·exact .inr ⟨by omega,g2⟩
   ·rcases Int.lt_or_le q 0 with g2 | g2
    ·have : 0 < p * (-q) := Int.mul_pos g (by omega)
     grind
    ·exact .inl ⟨by omega,g2⟩
  have lt : ∀ {p q r w : Int},0 ≤ p → 0 ≤ q → p < r → w < q → 0 ≤ w → r * q = p * w → False:=by
   intro p q r w h1 h2 h3 h4 h5 h6
   have k1 : 0 < (r - p) * q := Int.mul_pos (by omega) (by omega)
   have k2 : 0 ≤ p * (q - w) := Int.mul_nonneg h1 (by omega)
   grind
  rcases sgn p2.1 with ⟨q1,q2⟩ | ⟨q1,q2⟩ <;> rcases sgn p2.2 with ⟨q3,q4⟩ | ⟨q3,q4⟩
  ·by_cases g1 : x ≤ s
   ·by_cases g2 : y ≤ t
    ·exact .inl ⟨by omega,by omega,by omega⟩
    ·by_cases g3 : s ≤ x
     ·exact .inr ⟨by omega,by omega,by omega⟩
     ·exact (lt (p := x) (q := y) (r := s) (w := t) q1 q3 (by omega) (by omega) q4 (by grind)).elim
   ·by_cases g2 : t ≤ y
    ·exact .inr ⟨by omega,by omega,by omega⟩
    ·exact (lt (p := s) (q := t) (r := x) (w := y) q2 q4 (by omega) (by omega) q3 (by grind)).elim
  ·by_cases g1 : x ≤ s
   ·by_cases g2 : -y ≤ -t
    ·exact .inl ⟨by omega,by omega,by omega⟩
    ·by_cases g3 : s ≤ x
     ·exact .inr ⟨by omega,by omega,by omega⟩
     ·exact (lt (p := x) (q := -y) (r := s) (w := -t) q1 (by omega) (by omega) (by omega) (by omega) (by grind)).elim
   ·by_cases g2 : -t ≤ -y
    ·exact .inr ⟨by omega,by omega,by omega⟩
    ·exact (lt (p := s) (q := -t) (r := x) (w := -y) q2 (by omega) (by omega) (by omega) (by omega) (by grind)).elim
  ·by_cases g1 : -x ≤ -s
   ·by_cases g2 : y ≤ t
    ·exact .inl ⟨by omega,by omega,by omega⟩
    ·by_cases g3 : -s ≤ -x
     ·exact .inr ⟨by omega,by omega,by omega⟩
     ·exact (lt (p := -x) (q := y) (r := -s) (w := t) (by omega) q3 (by omega) (by omega) q4 (by grind)).elim
   ·by_cases g2 : t ≤ y
    ·exact .inr ⟨by omega,by omega,by omega⟩
    ·exact (lt (p := -s) (q := t) (r := -x) (w := y) (by omega) q4 (by omega) (by omega) q3 (by grind)).elim
  ·by_cases g1 : -x ≤ -s
   ·by_cases g2 : -y ≤ -t
    ·exact .inl ⟨by omega,by omega,by omega⟩
    ·by_cases g3 : -s ≤ -x
     ·exact .inr ⟨by omega,by omega,by omega⟩
     ·exact (lt (p := -x) (q := -y) (r := -s) (w := -t) (by omega) (by omega) (by omega) (by omega) (by omega) (by grind)).elim
   ·by_cases g2 : -t ≤ -y
    ·exact .inr ⟨by omega,by omega,by omega⟩
    ·exact (lt (p := -s) (q := -t) (r := -x) (w := -y) (by omega) (by omega) (by omega) (by omega) (by omega) (by grind)).elim
 ·
  have one : ∀ {p q : Int},((0 ≤ p ∧ p ≤ q) ∨ (q ≤ p ∧ p ≤ 0)) → p * p ≤ p * q:=by
   intro p q h
   rcases h with ⟨h1,h2⟩ | ⟨h1,h2⟩
   ·exact Int.mul_le_mul_of_nonneg_left h2 h1
   ·have := Int.mul_le_mul_of_nonneg_left (show -p ≤ -q by omega) (show 0 ≤ -p by omega)
    grind
  have nn : ∀ p : Int,0 ≤ p * p:=fun p => by
   by_cases hz : p = 0
   ·rw [hz];decide
   ·exact Int.le_of_lt (sq_pos hz)
  rintro (⟨h0,h1,h2⟩ | ⟨h0,h1,h2⟩)
  ·have k1 := one (p := x) (q := s) (by omega)
   have k2 := one (p := y) (q := t) (by omega)
   refine ⟨h0,?_⟩
   have n1 := nn x
   have n2 := nn y
   rcases hu with h | h
   ·have := sq_pos h;omega
   ·have := sq_pos h;omega
  ·have k1 := one (p := s) (q := x) (by omega)
   have k2 := one (p := t) (q := y) (by omega)
   refine ⟨h0,?_⟩
   have n1 := nn s
   have n2 := nn t
   have c1 := Int.mul_comm s x
   have c2 := Int.mul_comm t y
   rcases hv with h | h
   ·have := sq_pos h;omega
   ·have := sq_pos h;omega
def SimpleP (n : Nat) (p : Nat → Pt) : Prop :=
 ∀ i,i < n → p i ≠ p (nx n i) ∧ ¬ (cross (p i) (p (nx n i)) (p (nx n (nx n i))) = 0 ∧ 0 < dot (p i) (p (nx n i)) (p (nx n (nx n i)))) ∧
  ∀ k,i + 2 ≤ k → k < n → nx n k ≠ i → ¬ Meet (p i) (p (nx n i)) (p k) (p (nx n k))
def SimpleR (n : Nat) (p : Nat → Pt) : Prop :=
 (∀ i,i < n → ∀ k,k < i → p i ≠ p k) ∧
 ∀ i,i < n → ¬ On (p i) (p (nx n i)) (p (nx n (nx n i))) ∧ ¬ On (p (nx n (nx n i))) (p i) (p (nx n i)) ∧
  ∀ k,i + 2 ≤ k → k < n → nx n k ≠ i → ¬ Meet (p i) (p (nx n i)) (p k) (p (nx n k))
theorem nx_small {n i : Nat} (h : i + 1 < n) : nx n i = i + 1 := Nat.mod_eq_of_lt h
theorem nx_last {n i : Nat} (h : i + 1 = n) : nx n i = 0:=by unfold nx;rw [h,Nat.mod_self]
theorem nx_cases {n i : Nat} (h : i < n) : (i + 1 < n ∧ nx n i = i + 1) ∨ (i + 1 = n ∧ nx n i = 0):=by
 by_cases h1 : i + 1 < n
 ·exact .inl ⟨h1,nx_small h1⟩
 ·exact .inr ⟨by omega,nx_last (by omega)⟩
theorem simpleP_R {n : Nat} {p : Nat → Pt} (h : 3 ≤ n) : SimpleP n p ↔ SimpleR n p:=by
 constructor
 ·intro S
  have dist : ∀ i,i < n → ∀ k,k < i → p i ≠ p k:=by
   intro i hi k hk heq
   have hk' : k < n:=by omega
   rcases nx_cases hi with ⟨g1,g2⟩ | ⟨g1,g2⟩
   ·by_cases h1 : k + 1 = i
    ·have:=(S k hk').1
     rw [nx_small (by omega),h1] at this
     exact this heq.symm
    ·refine (S k hk').2.2 i (by omega) hi (by omega) (.inl ?_)
     rw [heq];exact On.left _ _
   ·by_cases h0 : k = 0
    ·have:=(S i hi).1
     rw [g2] at this
     exact this (by rw [heq,h0])
    ·by_cases h1 : k + 1 = i
     ·have:=(S k hk').1
      rw [nx_small (by omega),h1] at this
      exact this heq.symm
     ·refine (S k hk').2.2 i (by omega) hi (by omega) (.inl ?_)
      rw [heq];exact On.left _ _
  refine ⟨dist,fun i hi => ?_⟩
  obtain ⟨h1,h2,h3⟩ := S i hi
  have hx : nx n i < n := nx_lt h
  have h4:=(S _ hx).1
  have hb := mt (back_iff h1 (fun hh => h4 hh.symm)).2 h2
  exact ⟨fun hh => hb (.inl hh),fun hh => hb (.inr hh),h3⟩
 ·rintro ⟨dist,S⟩ i hi
  obtain ⟨h1,h2,h3⟩ := S i hi
  have d : ∀ i j,i < n → j < n → i ≠ j → p i ≠ p j:=by
   intro i j hi hj hne
   rcases Nat.lt_or_ge i j with g | g
   ·exact fun hh => dist j hj i g hh.symm
   ·exact dist i hi j (by omega)
  have hx : nx n i < n := nx_lt h
  have e1 := d i (nx n i) hi hx (fun hh => nx_ne h hi hh.symm)
  have e2 := d (nx n i) (nx n (nx n i)) hx (nx_lt h) (fun hh => nx_ne h hx hh.symm)
  refine ⟨e1,fun hh => ?_,h3⟩
  rcases (back_iff e1 (fun hh => e2 hh.symm)).1 hh with g | g
  ·exact h1 g
  ·exact h2 g
theorem simpleR_iff {n : Nat} {p : Nat → Pt} (h : 3 ≤ n) : SimpleR n p ↔ Simple n p:=by
 constructor
 ·rintro ⟨dist,S⟩
  refine ⟨h,fun i j hi hj hne => ?_,fun e he => ⟨(S e he).2.1,(S e he).1⟩,fun e i he hi h1 h2 h3 => ?_⟩
  ·rcases Nat.lt_or_ge i j with g | g
   ·exact fun hh => dist j hj i g hh.symm
   ·exact dist i hi j (by omega)
  ·rcases Nat.lt_or_ge e i with g | g
   ·refine (S e he).2.2 i ?_ hi h3
    rcases nx_cases he with ⟨g1,g2⟩ | ⟨g1,g2⟩ <;> omega
   ·intro hm
    refine (S i hi).2.2 e ?_ he (fun hh => h2 hh.symm) hm.symm
    rcases nx_cases hi with ⟨g1,g2⟩ | ⟨g1,g2⟩ <;> omega
 ·intro S
  refine ⟨fun i hi k hk => S.dist i k hi (by omega) (by omega),fun i hi => ⟨(S.corner i hi).2,(S.corner i hi).1,fun k h1 h2 h3 => S.apart i k hi h2 (by omega) ?_ h3⟩⟩
  rcases nx_cases hi with ⟨g1,g2⟩ | ⟨g1,g2⟩ <;> omega
theorem simple_area {n : Nat} {p : Nat → Pt} (h : 3 ≤ n) (S : SimpleP n p) : area n p ≠ 0 := area_simple ((simpleR_iff h).1 ((simpleP_R h).1 S))
end Geo
/-
 Points on segments: common points,parts of segments;contours that do not touch.
-/
namespace Geo
theorem sq_nonneg (x : Int) : 0 ≤ x * x:=by
 by_cases h : x = 0
 ·rw [h];decide
 ·exact Int.le_of_lt (sq_pos h)
theorem btw_mul {a b q : Int} (h : btw a b q) : 0 ≤ (q - a) * (b - a) ∧ (q - a) * (b - a) ≤ (b - a) * (b - a):=by
 rcases h with ⟨h1,h2⟩ | ⟨h1,h2⟩
 ·exact ⟨Int.mul_nonneg (by omega) (by omega),Int.mul_le_mul_of_nonneg_right (by omega) (by omega)⟩
 ·have k1 := Int.mul_nonneg (show 0 ≤ a - q by omega) (show 0 ≤ a - b by omega)
  have k2 := Int.mul_nonneg (show 0 ≤ q - b by omega) (show 0 ≤ a - b by omega)
  constructor
  ·grind
  ·grind
theorem On.param {q a b : Pt} (h : On q a b) (hne : a ≠ b) : ∃ N s : Int,0 < N ∧ 0 ≤ s ∧ s ≤ N ∧ (q.1 - a.1) * N = s * (b.1 - a.1) ∧ (q.2 - a.2) * N = s * (b.2 - a.2):=by
 obtain ⟨hc,h1,h2⟩ := h
 have m1 := btw_mul h1
 have m2 := btw_mul h2
 refine ⟨(b.1 - a.1) * (b.1 - a.1) + (b.2 - a.2) * (b.2 - a.2),(q.1 - a.1) * (b.1 - a.1) + (q.2 - a.2) * (b.2 - a.2),?_,by omega,by omega,?_,?_⟩
 ·have n1 := sq_nonneg (b.1 - a.1)
  have n2 := sq_nonneg (b.2 - a.2)
  by_cases g1 : b.1 - a.1 = 0
  ·by_cases g2 : b.2 - a.2 = 0
   ·exact absurd (Prod.ext (by omega) (by omega)) hne
   ·have := sq_pos g2;omega
  ·have := sq_pos g1;omega
 ·unfold cross at hc
  grind
 ·unfold cross at hc
  grind
theorem opp_of {x y u v : Int} (hx : 0 < x) (hy : 0 < y) (h : x * u + y * v = 0) : opp u v ∨ (u = 0 ∧ v = 0):=by
 rcases Int.lt_trichotomy u 0 with g | g | g
 ·have : 0 < x * (-u) := Int.mul_pos hx (by omega)
  have h2 : 0 < v * y:=by grind
  exact .inl (.inl ⟨g,pos_of hy h2⟩)
 ·rw [g] at h
  have h2 : y * v = 0:=by omega
  rcases Int.mul_eq_zero.1 h2 with h3 | h3
  ·omega
  ·exact .inr ⟨g,h3⟩
 ·have : 0 < x * u := Int.mul_pos hx g
  have h2 : v * y < 0:=by grind
  exact .inl (.inr ⟨g,neg_of hy h2⟩)
theorem eq_of_mul {x y N : Int} (hN : 0 < N) (h : x * N = y * N) : x = y := Int.eq_of_mul_eq_mul_right (by omega) h
theorem common {q a b c d : Pt} (h1 : On q a b) (h2 : On q c d) (hab : a ≠ b) (hcd : c ≠ d) : Meet a b c d:=by
 obtain ⟨N,s,hN,s0,sN,x1,x2⟩ := h1.param hab
 obtain ⟨K,r,hK,r0,rK,y1,y2⟩ := h2.param hcd
 by_cases e1 : r = 0
 ·have : q = c:=by
   rw [e1] at y1 y2
   exact Prod.ext (by have := eq_of_mul (x := q.1 - c.1) (y := 0) hK (by omega);omega) (by have := eq_of_mul (x := q.2 - c.2) (y := 0) hK (by omega);omega)
  rw [this] at h1
  exact .inl h1
 ·by_cases e2 : r = K
  ·have : q = d:=by
    rw [e2] at y1 y2
    exact Prod.ext (by have := eq_of_mul (x := q.1 - c.1) (y := d.1 - c.1) hK (by grind);omega) (by have := eq_of_mul (x := q.2 - c.2) (y := d.2 - c.2) hK (by grind);omega)
   rw [this] at h1
   exact .inr (.inl h1)
  ·by_cases e3 : s = 0
   ·have : q = a:=by
     rw [e3] at x1 x2
     exact Prod.ext (by have := eq_of_mul (x := q.1 - a.1) (y := 0) hN (by omega);omega) (by have := eq_of_mul (x := q.2 - a.2) (y := 0) hN (by omega);omega)
    rw [this] at h2
    exact .inr (.inr (.inl h2))
   ·by_cases e4 : s = N
    ·have : q = b:=by
      rw [e4] at x1 x2
      exact Prod.ext (by have := eq_of_mul (x := q.1 - a.1) (y := b.1 - a.1) hN (by grind);omega) (by have := eq_of_mul (x := q.2 - a.2) (y := b.2 - a.2) hN (by grind);omega)
     rw [this] at h2
     exact .inr (.inr (.inr (.inl h2)))
    ·have A : (K - r) * cross a b c + r * cross a b d = 0:=by
      have : (K - r) * cross a b c + r * cross a b d = K * cross a b q:=by unfold cross;grind
      rw [this,h1.1];simp
     have C : (N - s) * cross c d a + s * cross c d b = 0:=by
      have : (N - s) * cross c d a + s * cross c d b = N * cross c d q:=by unfold cross;grind
      rw [this,h2.1];simp
     have D := cross_diff a b c d
     have flat : cross a b c = 0 → cross c d a = 0 → Meet a b c d:=by
      intro z1 z2
      -- along ab
      have hh : ht (b.1 - a.1) (b.2 - a.2) a < ht (b.1 - a.1) (b.2 - a.2) b:=by
       have n1 := sq_nonneg (b.1 - a.1)
       have n2 := sq_nonneg (b.2 - a.2)
       have e : ht (b.1 - a.1) (b.2 - a.2) b - ht (b.1 - a.1) (b.2 - a.2) a = (b.1 - a.1) * (b.1 - a.1) + (b.2 - a.2) * (b.2 - a.2):=by unfold ht;grind
       by_cases g1 : b.1 - a.1 = 0
       ·by_cases g2 : b.2 - a.2 = 0
        ·exact absurd (Prod.ext (by omega) (by omega)) hab
        ·have := sq_pos g2;omega
       ·have := sq_pos g1;omega
      have z3 : cross a b d = 0:=by
       rw [z1] at A
       have h0 : r * cross a b d = 0:=by omega
       rcases Int.mul_eq_zero.1 h0 with h | h
       ·omega
       ·exact h
      -- heights of q
      have q1 : (ht (b.1 - a.1) (b.2 - a.2) q - ht (b.1 - a.1) (b.2 - a.2) a) * N = s * (ht (b.1 - a.1) (b.2 - a.2) b - ht (b.1 - a.1) (b.2 - a.2) a):=by unfold ht;grind
      have q2 : (ht (b.1 - a.1) (b.2 - a.2) q - ht (b.1 - a.1) (b.2 - a.2) c) * K = r * (ht (b.1 - a.1) (b.2 - a.2) d - ht (b.1 - a.1) (b.2 - a.2) c):=by unfold ht;grind
      generalize hta : ht (b.1 - a.1) (b.2 - a.2) a = ta at *
      generalize htb : ht (b.1 - a.1) (b.2 - a.2) b = tb at *
      generalize htc : ht (b.1 - a.1) (b.2 - a.2) c = tc at *
      generalize htd : ht (b.1 - a.1) (b.2 - a.2) d = td at *
      generalize htq : ht (b.1 - a.1) (b.2 - a.2) q = tq at *
      have b1 : btw 0 (tb - ta) (tq - ta) := scale_btw hN s0 sN (by rw [q1];exact Int.mul_comm _ _)
      have b2 : btw 0 (td - tc) (tq - tc) := scale_btw hK r0 rK (by rw [q2];exact Int.mul_comm _ _)
      unfold btw at b1 b2
      by_cases g : ta ≤ tc ∧ tc ≤ tb
      ·exact .inl (on_of (α := b.1 - a.1) (β := b.2 - a.2) z1 (by omega) (by omega) (by omega))
      ·by_cases g' : ta ≤ td ∧ td ≤ tb
       ·exact .inr (.inl (on_of (α := b.1 - a.1) (β := b.2 - a.2) z3 (by omega) (by omega) (by omega)))
       ·by_cases g'' : tc ≤ td
        ·exact .inr (.inr (.inl (on_of (α := b.1 - a.1) (β := b.2 - a.2) z2 (by omega) (by omega) (by omega))))
        ·refine .inr (.inr (.inl (On.swap (on_of (α := b.1 - a.1) (β := b.2 - a.2) ?_ (by omega) (by omega) (by omega)))))
         rw [cross_swap,z2];rfl
     rcases opp_of (by omega) (by omega) A with oA | ⟨zA,zA'⟩
     ·rcases opp_of (by omega) (by omega) C with oC | ⟨zC,zC'⟩
      ·exact .inr (.inr (.inr (.inr ⟨oA,oC⟩)))
      ·refine flat ?_ zC
       have he : cross a b c = cross a b d:=by omega
       rw [← he] at A
       have : K * cross a b c = 0:=by grind
       rcases Int.mul_eq_zero.1 this with h | h
       ·omega
       ·exact h
     ·refine flat zA ?_
      have he : cross c d a = cross c d b:=by omega
      rw [← he] at C
      have : N * cross c d a = 0:=by grind
      rcases Int.mul_eq_zero.1 this with h | h
      ·omega
      ·exact h
theorem On.trans {q c a b : Pt} (hq : On q a b) (hc : On c a q) (hab : a ≠ b) (haq : a ≠ q) : On c a b:=by
 obtain ⟨N,s,hN,s0,sN,x1,x2⟩ := hq.param hab
 obtain ⟨h0,h1,h2⟩ := hc
 obtain ⟨_,g1,g2⟩ := hq
 refine ⟨?_,by unfold btw at *;omega,by unfold btw at *;omega⟩
 have e : s * cross a b c = N * cross a q c:=by unfold cross;grind
 rw [h0] at e
 have h3 : s * cross a b c = 0:=by omega
 rcases Int.mul_eq_zero.1 h3 with h | h
 ·exfalso
  rw [h] at x1 x2
  exact haq (Prod.ext (by have := eq_of_mul (x := q.1 - a.1) (y := 0) hN (by omega);omega) (by have := eq_of_mul (x := q.2 - a.2) (y := 0) hN (by omega);omega))
 ·exact h
theorem Meet.part {q a b c d : Pt} (hq : On q a b) (hab : a ≠ b) (hcd : c ≠ d) (h : Meet a q c d) : Meet a b c d:=by
 by_cases haq : a = q
 ·
  subst haq
  have pt : ∀ x : Pt,On x a a → x = a:=by
   rintro x ⟨_,h1,h2⟩
   exact Prod.ext (by unfold btw at h1;omega) (by unfold btw at h2;omega)
  rcases h with h | h | h | h | ⟨h1,h2⟩
  ·rw [pt c h];exact .inr (.inr (.inl (On.left a d)))
  ·rw [pt d h];exact .inr (.inr (.inl (On.right c a)))
  ·exact .inr (.inr (.inl h))
  ·exact .inr (.inr (.inl h))
  ·rw [cross_same,cross_same] at h1
   unfold opp at h1;omega
 ·rcases h with h | h | h | h | ⟨h1,h2⟩
  ·exact .inl (hq.trans h hab haq)
  ·exact .inr (.inl (hq.trans h hab haq))
  ·exact .inr (.inr (.inl h))
  ·exact common hq h hab hcd
  ·obtain ⟨N,s,hN,s0,sN,x1,x2⟩ := hq.param hab
   have hs : 0 < s:=by
    rcases Int.lt_or_eq_of_le s0 with g | g
    ·exact g
    ·exfalso
     rw [← g] at x1 x2
     exact haq (Prod.ext (by have := eq_of_mul (x := q.1 - a.1) (y := 0) hN (by omega);omega) (by have := eq_of_mul (x := q.2 - a.2) (y := 0) hN (by omega);omega))
   have ec : s * cross a b c = N * cross a q c:=by unfold cross;grind
   have ed : s * cross a b d = N * cross a q d:=by unfold cross;grind
   have eb : (N - s) * cross c d a + s * cross c d b = N * cross c d q:=by unfold cross;grind
   have up : ∀ {x y : Int},s * x = N * y → (0 < y → 0 < x) ∧ (y < 0 → x < 0):=by
    intro x y e
    refine ⟨fun h => ?_,fun h => ?_⟩
    ·have := Int.mul_pos hN h
     exact pos_of hs (by grind)
    ·have := Int.mul_pos hN (show 0 < -y by omega)
     exact neg_of hs (by grind)
   refine .inr (.inr (.inr (.inr ⟨?_,?_⟩)))
   ·rcases h1 with ⟨g1,g2⟩ | ⟨g1,g2⟩
    ·exact .inl ⟨(up ec).2 g1,(up ed).1 g2⟩
    ·exact .inr ⟨(up ec).1 g1,(up ed).2 g2⟩
   ·rcases h2 with ⟨g1,g2⟩ | ⟨g1,g2⟩
    ·refine .inl ⟨g1,?_⟩
     have k1 := Int.mul_pos hN g2
     have k2 := Int.mul_nonneg (show 0 ≤ N - s by omega) (show 0 ≤ - cross c d a by omega)
     exact pos_of hs (by grind)
    ·refine .inr ⟨g1,?_⟩
     have k1 := Int.mul_pos hN (show 0 < - cross c d q by omega)
     have k2 := Int.mul_nonneg (show 0 ≤ N - s by omega) (show 0 ≤ cross c d a by omega)
     exact neg_of hs (by grind)
end Geo
/-
 Two contours that do not touch: apart,or one within the other.
-/
set_option linter.all false
namespace Geo
theorem lt_sc {D x y : Int} (hD : 0 < D) : D * x < D * y ↔ x < y := Int.mul_lt_mul_left hD
theorem sgn_sc {D x : Int} (hD : 0 < D) : (0 < D * x ↔ 0 < x) ∧ (D * x < 0 ↔ x < 0) ∧ (D * x = 0 ↔ x = 0):=by
 have h1 := lt_sc (x := 0) (y := x) hD
 have h2 := lt_sc (x := x) (y := 0) hD
 rw [Int.mul_zero] at h1 h2
 exact ⟨h1,h2,⟨fun h => by omega,fun h => by rw [h,Int.mul_zero]⟩⟩
theorem opp_sc {D : Int} (hD : 0 < D) (s t : Int) : opp (D * s) (D * t) ↔ opp s t:=by
 unfold opp
 rw [(sgn_sc hD).1,(sgn_sc hD).1,(sgn_sc hD).2.1,(sgn_sc hD).2.1]
def OnK (n : Nat) (p : Nat → Pt) (q : Pt) : Prop := ∃ j,j < n ∧ On q (p j) (p (nx n j))
structure NoTouch (n : Nat) (p : Nat → Pt) (n' : Nat) (p' : Nat → Pt) : Prop where
 big : 3 ≤ n
 big' : 3 ≤ n'
 free : ∀ i,i < n → ∀ k,k < n' → ¬ Meet (p i) (p (nx n i)) (p' k) (p' (nx n' k))
 ne : ∀ i,i < n → p i ≠ p (nx n i)
 ne' : ∀ i,i < n' → p' i ≠ p' (nx n' i)
theorem NoTouch.symm {n : Nat} {p : Nat → Pt} {n' : Nat} {p' : Nat → Pt} (h : NoTouch n p n' p') : NoTouch n' p' n p :=
 ⟨h.big',h.big,fun i hi k hk hm => h.free k hk i hi hm.symm,h.ne',h.ne⟩
theorem NoTouch.corner {n : Nat} {p : Nat → Pt} {n' : Nat} {p' : Nat → Pt} (h : NoTouch n p n' p') : ∀ i,i < n → par n' p' (p i) = par n' p' (p 0):=by
 intro i
 induction i with
 | zero => intro _;rfl
 | succ i ih =>
  intro hi
  rw [← ih (by omega)]
  have e := par_free (n := n') (p := p') (a := p i) (b := p (nx n i)) (fun k hk => h.free i (by omega) k hk)
  rw [nx_small hi] at e
  exact e.symm
def dd (a b : Pt) : Int := if a.2 = b.2 then 1 else (b.2 - a.2) * (b.2 - a.2)
end Geo
/-
 A contour in the opposite order.
-/
set_option linter.all false
namespace Geo
theorem nx_lt' {n i : Nat} (h : 0 < n) : nx n i < n := Nat.mod_lt _ h
theorem simple_congr {n : Nat} {p q : Nat → Pt} (h : ∀ i,i < n → p i = q i) (S : Simple n p) : Simple n q:=by
 have hb := S.big
 have hx : ∀ i,p (nx n i) = q (nx n i):=fun i => h _ (nx_lt' (by omega))
 refine ⟨S.big,fun i j hi hj hne => ?_,fun e he => ?_,fun e i he hi h1 h2 h3 => ?_⟩
 ·rw [← h i hi,← h j hj];exact S.dist i j hi hj hne
 ·rw [← h e he,← hx,← hx];exact S.corner e he
 ·rw [← h e he,← h i hi,← hx,← hx];exact S.apart e i he hi h1 h2 h3
theorem par_congr {n : Nat} {p q : Nat → Pt} (h0 : 0 < n) (h : ∀ i,i < n → p i = q i) (z : Pt) : par n p z = par n q z :=
 xs_congr fun i hi => by rw [h i hi,h ((i + 1) % n) (Nat.mod_lt _ h0)]
theorem area_congr {n : Nat} {p q : Nat → Pt} (h0 : 0 < n) (h : ∀ i,i < n → p i = q i) : area n p = area n q :=
 sm_congr fun i hi => by rw [h i hi,h (nx n i) (nx_lt' h0)]
theorem onK_congr {n : Nat} {p q : Nat → Pt} (h0 : 0 < n) (h : ∀ i,i < n → p i = q i) (z : Pt) : OnK n p z ↔ OnK n q z :=
 ⟨fun ⟨j,hj,ho⟩ => ⟨j,hj,by rw [← h j hj,← h (nx n j) (nx_lt' h0)];exact ho⟩,fun ⟨j,hj,ho⟩ => ⟨j,hj,by rw [h j hj,h (nx n j) (nx_lt' h0)];exact ho⟩⟩
def rv (n : Nat) (p : Nat → Pt) (j : Nat) : Pt := p (n - 1 - j)
def ej (n j : Nat) : Nat := n - 1 - nx n j
theorem ej_lt {n j : Nat} (h : 0 < n) : ej n j < n:=by unfold ej;omega
theorem ej_cases {n j : Nat} (hj : j < n) : (j + 1 < n ∧ ej n j = n - 2 - j) ∨ (j + 1 = n ∧ ej n j = n - 1):=by
 unfold ej
 rcases nx_cases hj with ⟨c,d⟩ | ⟨c,d⟩ <;> rw [d] <;> omega
theorem rv_edge {n j : Nat} {p : Nat → Pt} (hj : j < n) : rv n p j = p (nx n (ej n j)) ∧ rv n p (nx n j) = p (ej n j):=by
 refine ⟨?_,rfl⟩
 unfold rv
 congr 1
 unfold ej
 rcases nx_cases hj with ⟨h1,h2⟩ | ⟨h1,h2⟩
 ·rw [h2,nx_small (by omega)];omega
 ·rw [h2,nx_last (by omega)];omega
theorem xs_rev (n : Nat) : ∀ g : Nat → Bool,xs n (fun j => g (n - 1 - j)) = xs n g:=by
 induction n with
 | zero => intro g;rfl
 | succ n ih =>
  intro g
  have e := ih (fun j => g (j + 1))
  have e2 := xs_shift n g
  have e3 : xs n (fun j => g (n + 1 - 1 - j)) = xs n (fun j => g (n - 1 - j + 1)) := xs_congr fun i hi => by rw [show n + 1 - 1 - i = n - 1 - i + 1 from by omega]
  simp only [xs]
  rw [e3,e,show n + 1 - 1 - n = 0 from by omega,e2]
theorem sm_rev (n : Nat) : ∀ g : Nat → Int,sm n (fun j => g (n - 1 - j)) = sm n g:=by
 induction n with
 | zero => intro g;rfl
 | succ n ih =>
  intro g
  have e := ih (fun j => g (j + 1))
  have e2 := sm_shift n g
  have e3 : sm n (fun j => g (n + 1 - 1 - j)) = sm n (fun j => g (n - 1 - j + 1)) := sm_congr fun i hi => by rw [show n + 1 - 1 - i = n - 1 - i + 1 from by omega]
  simp only [sm]
  rw [e3,e,show n + 1 - 1 - n = 0 from by omega,e2]
theorem xs_ej (n : Nat) (g : Nat → Bool) : xs n (fun j => g (ej n j)) = xs n g:=(xs_next n (fun k => g (n - 1 - k))).trans (xs_rev n g)
theorem sm_ej (n : Nat) (g : Nat → Int) : sm n (fun j => g (ej n j)) = sm n g:=(sm_next n (fun k => g (n - 1 - k))).trans (sm_rev n g)
theorem rv_par {n : Nat} {p : Nat → Pt} {q : Pt} (hq : ¬ OnK n p q) : par n (rv n p) q = par n p q:=by
 have h : par n (rv n p) q = xs n (fun j => rc q (p (ej n j)) (p (nx n (ej n j)))):=by
  unfold par
  refine xs_congr fun j hj => ?_
  obtain ⟨h1,h2⟩ := rv_edge (p := p) hj
  show rc q (rv n p j) (rv n p (nx n j)) = _
  rw [h1,h2]
  exact (rc_swap (fun h => hq ⟨ej n j,ej_lt (by omega),h⟩)).symm
 rw [h]
 exact xs_ej n (fun k => rc q (p k) (p (nx n k)))
theorem rv_area (n : Nat) (p : Nat → Pt) : area n (rv n p) = - area n p:=by
 have h : area n (rv n p) = sm n (fun j => (-1) * ((p (ej n j)).1 * (p (nx n (ej n j))).2 - (p (nx n (ej n j))).1 * (p (ej n j)).2)):=by
  unfold area
  refine sm_congr fun j hj => ?_
  obtain ⟨h1,h2⟩ := rv_edge (p := p) hj
  rw [h1,h2]
  grind
 rw [h,sm_ej n (fun k => (-1) * ((p k).1 * (p (nx n k)).2 - (p (nx n k)).1 * (p k).2)),sm_mul]
 unfold area
 omega
theorem ej_ej {n j : Nat} (hj : j < n) : ej n (ej n j) = j:=by
 have h1 : ej n j < n := ej_lt (by omega)
 unfold ej at *
 rcases nx_cases hj with ⟨a,b⟩ | ⟨a,b⟩ <;> rw [b] at h1 ⊢ <;> rcases nx_cases h1 with ⟨c,d⟩ | ⟨c,d⟩ <;> rw [d] <;> omega
theorem rv_onK {n : Nat} {p : Nat → Pt} {q : Pt} : OnK n (rv n p) q ↔ OnK n p q:=by
 constructor
 ·rintro ⟨j,hj,ho⟩
  obtain ⟨h1,h2⟩ := rv_edge (p := p) hj
  rw [h1,h2] at ho
  exact ⟨ej n j,ej_lt (by omega),ho.swap⟩
 ·rintro ⟨j,hj,ho⟩
  have hl : ej n j < n := ej_lt (by omega)
  obtain ⟨h1,h2⟩ := rv_edge (p := p) hl
  rw [ej_ej hj] at h1 h2
  exact ⟨ej n j,hl,by rw [h1,h2];exact ho.swap⟩
theorem rv_simple {n : Nat} {p : Nat → Pt} (S : Simple n p) : Simple n (rv n p):=by
 have hb := S.big
 refine ⟨hb,fun i j hi hj hne => ?_,fun e he => ?_,fun e i he hi h1 h2 h3 => ?_⟩
 ·exact S.dist _ _ (by omega) (by omega) (by omega)
 ·have hl : ej n (nx n e) < n := ej_lt (by omega)
  have hx : nx n e < n := nx_lt' (by omega)
  obtain ⟨a1,a2⟩ := rv_edge (p := p) he
  obtain ⟨b1,b2⟩ := rv_edge (p := p) hx
  have ee : ej n e = nx n (ej n (nx n e)):=by
   unfold ej
   rcases nx_cases he with ⟨c,d⟩ | ⟨c,d⟩
   ·rw [d]
    rcases nx_cases (show e + 1 < n by omega) with ⟨c',d'⟩ | ⟨c',d'⟩
    ·rw [d',nx_small (by omega)];omega
    ·rw [d',nx_last (by omega)];omega
   ·rw [d,nx_small (show 0 + 1 < n by omega),nx_small (by omega)];omega
  have c := S.corner _ hl
  rw [ee] at a1
  rw [a1,b1,b2]
  exact ⟨fun h => c.2 h.swap,fun h => c.1 h.swap⟩
 ·obtain ⟨a1,a2⟩ := rv_edge (p := p) he
  obtain ⟨b1,b2⟩ := rv_edge (p := p) hi
  rw [a1,a2,b1,b2]
  have h : ¬ Meet (p (ej n e)) (p (nx n (ej n e))) (p (ej n i)) (p (nx n (ej n i))):=by
   have l1 : ej n e < n := ej_lt (by omega)
   have l2 : ej n i < n := ej_lt (by omega)
   have v1 := ej_cases he
   have v2 := ej_cases hi
   have u1 := nx_cases l1
   have u2 := nx_cases l2
   have w1 := nx_cases he
   have w2 := nx_cases hi
   exact S.apart _ _ l1 l2 (by omega) (by omega) (by omega)
  exact fun hm => h hm.swap.swap2
end Geo
/-
 Quarter turns,a mirror and shifts: what they leave as it was.
-/
set_option linter.all false
namespace Geo
def tr (v p : Pt) : Pt:=(p.1 + v.1,p.2 + v.2)
theorem rc_iff {q a b : Pt} : rc q a b = true ↔ ((q.2 < a.2 ∧ ¬ q.2 < b.2 ∧ ¬ 0 < cross a b q) ∨ (¬ q.2 < a.2 ∧ q.2 < b.2 ∧ 0 < cross a b q)):=by
 unfold rc
 by_cases h1 : q.2 < a.2
 ·by_cases h2 : q.2 < b.2
  ·simp [h1,h2]
  ·have : ¬ a.2 < b.2:=by omega
   simp [h1,h2,this]
 ·by_cases h2 : q.2 < b.2
  ·have : a.2 < b.2:=by omega
   simp [h1,h2,this]
  ·simp [h1,h2]
theorem cross_tr (v a b c : Pt) : cross (tr v a) (tr v b) (tr v c) = cross a b c:=by unfold cross tr;grind
theorem on_tr (v q a b : Pt) : On (tr v q) (tr v a) (tr v b) ↔ On q a b:=by
 unfold On
 rw [cross_tr]
 unfold btw tr
 simp only
 constructor
 ·rintro ⟨h1,h2,h3⟩;exact ⟨h1,by omega,by omega⟩
 ·rintro ⟨h1,h2,h3⟩;exact ⟨h1,by omega,by omega⟩
theorem rc_tr (v q a b : Pt) : rc (tr v q) (tr v a) (tr v b) = rc q a b:=by
 rw [Bool.eq_iff_iff,rc_iff,rc_iff,cross_tr]
 unfold tr
 simp only
 omega
structure Rigid (e : Int) (T : Pt → Pt) : Prop where
 eps : e = 1 ∨ e = -1
 cr : ∀ a b c,cross (T a) (T b) (T c) = e * cross a b c
 on : ∀ q a b,On (T q) (T a) (T b) ↔ On q a b
 par : ∀ n p q,¬ OnK n p q → par n (fun i => T (p i)) (T q) = par n p q
 area : ∀ n p,area n (fun i => T (p i)) = e * area n p
 inj : ∀ a b,T a = T b → a = b
theorem rigid_tr (v : Pt) : Rigid 1 (tr v):=by
 refine ⟨.inl rfl,fun a b c => by rw [cross_tr,Int.one_mul],on_tr v,fun n p q _ => xs_congr fun i _ => rc_tr v _ _ _,fun n p => ?_,fun a b h => ?_⟩
 ·rw [Int.one_mul]
  unfold area
  have e : ∀ i,i < n → (tr v (p i)).1 * (tr v (p (nx n i))).2 - (tr v (p (nx n i))).1 * (tr v (p i)).2 = ((p i).1 * (p (nx n i)).2 - (p (nx n i)).1 * (p i).2) + ((fun j => v.1 * (p j).2 - v.2 * (p j).1) ((i + 1) % n) - (fun j => v.1 * (p j).2 - v.2 * (p j).1) i):=by
   intro i _
   show _ = ((p i).1 * (p (nx n i)).2 - (p (nx n i)).1 * (p i).2) + ((v.1 * (p (nx n i)).2 - v.2 * (p (nx n i)).1) - (v.1 * (p i).2 - v.2 * (p i).1))
   unfold tr
   simp only
   grind
  rw [sm_congr e,sm_add]
  exact (congrArg (fun z => (sm n fun i => (p i).1 * (p (nx n i)).2 - (p (nx n i)).1 * (p i).2) + z) (sm_cycle n (fun j => v.1 * (p j).2 - v.2 * (p j).1))).trans (Int.add_zero _)
 ·have h1 : a.1 + v.1 = b.1 + v.1 := congrArg Prod.fst h
  have h2 : a.2 + v.2 = b.2 + v.2 := congrArg Prod.snd h
  exact Prod.ext (by omega) (by omega)
theorem Rigid.opp {e : Int} {T : Pt → Pt} (R : Rigid e T) (s t : Int) : opp (e * s) (e * t) ↔ opp s t:=by
 unfold Geo.opp
 rcases R.eps with h | h <;> rw [h] <;> omega
theorem Rigid.meet {e : Int} {T : Pt → Pt} (R : Rigid e T) (a b c d : Pt) : Meet (T a) (T b) (T c) (T d) ↔ Meet a b c d:=by
 unfold Meet
 rw [R.on,R.on,R.on,R.on,R.cr,R.cr,R.cr,R.cr,R.opp,R.opp]
theorem Rigid.simple {e : Int} {T : Pt → Pt} (R : Rigid e T) {n : Nat} {p : Nat → Pt} : Simple n (fun i => T (p i)) ↔ Simple n p:=by
 constructor
 ·intro S
  refine ⟨S.big,fun i j hi hj hne h => S.dist i j hi hj hne (by rw [h]),fun a ha => ?_,fun a i ha hi h1 h2 h3 hm => S.apart a i ha hi h1 h2 h3 ((R.meet _ _ _ _).2 hm)⟩
  have := S.corner a ha
  exact ⟨fun h => this.1 ((R.on _ _ _).2 h),fun h => this.2 ((R.on _ _ _).2 h)⟩
 ·intro S
  refine ⟨S.big,fun i j hi hj hne h => S.dist i j hi hj hne (R.inj _ _ h),fun a ha => ?_,fun a i ha hi h1 h2 h3 hm => S.apart a i ha hi h1 h2 h3 ((R.meet _ _ _ _).1 hm)⟩
  have := S.corner a ha
  exact ⟨fun h => this.1 ((R.on _ _ _).1 h),fun h => this.2 ((R.on _ _ _).1 h)⟩
end Geo
/-
 Maps that keep segments and insides: shears and scalings with the rigid ones.
-/
namespace Geo
theorem meet_of {A : Pt → Pt} {d : Int} (hd : 0 < d) (hc : ∀ a b c,cross (A a) (A b) (A c) = d * cross a b c) (ho : ∀ q a b,On (A q) (A a) (A b) ↔ On q a b) (a b c e : Pt) : Meet (A a) (A b) (A c) (A e) ↔ Meet a b c e:=by
 unfold Meet
 rw [ho,ho,ho,ho,hc,hc,hc,hc,opp_sc hd,opp_sc hd]
def hs (c : Int) (p : Pt) : Pt:=(p.1 + c * p.2,p.2)
def gm (M K : Int) (q : Pt) : Pt:=(2 * (M * q.1),2 * ht 2 (2 * K) q)
end Geo
/-
 The area of a simple polygon,counted on a grid of places: inside or not.
-/
namespace Geo
def gh (K : Int) (p : Nat → Pt) (i : Nat) : Int := ht 2 (2 * K) (p i)
def gq (K M : Int) (n : Nat) (p : Nat → Pt) (e : Nat) : Int := M / (gh K p (nx n e) - gh K p e)
def gX (K M : Int) (n : Nat) (p : Nat → Pt) (e : Nat) (t : Int) : Int := M * (p e).1 + gq K M n p e * ((p (nx n e)).1 - (p e).1) * (t - gh K p e)
def gL (K M : Int) (n : Nat) (p : Nat → Pt) : Lev n := { H := gh K p,V:=fun i => M * (p i).1,X := gX K M n p }
structure Grd (K M : Int) (T R : Nat) (n : Nat) (p : Nat → Pt) : Prop where
 simple : Simple n p
 kp : 0 < K
 mp : 0 < M
 dist : ∀ i j,i < n → j < n → i ≠ j → gh K p i ≠ gh K p j
 div : ∀ e,e < n → (gh K p (nx n e) - gh K p e) ∣ M
 lev : ∀ i,i < n → -(2 * T : Int) ≤ gh K p i ∧ gh K p i ≤ 2 * T
 wid : ∀ s,s < 2 * T → ∀ e,e < n → -(R : Int) ≤ gX K M n p e (2 * ((s : Int) - T) + 1) ∧ gX K M n p e (2 * ((s : Int) - T) + 1) ≤ R
section
variable {K M : Int} {T R n : Nat} {p : Nat → Pt}
theorem Grd.quo (G : Grd K M T R n p) {e : Nat} (he : e < n) : gq K M n p e * (gh K p (nx n e) - gh K p e) = M := Int.ediv_mul_cancel (G.div e he)
theorem Grd.ne (G : Grd K M T R n p) {e : Nat} (he : e < n) : gh K p e ≠ gh K p (nx n e):=fun h =>
 G.dist e (nx n e) he (nx_lt G.simple.big) (fun k => nx_ne G.simple.big he k.symm) h
theorem Grd.line (G : Grd K M T R n p) {e : Nat} (he : e < n) : Line 2 (2 * K) M (p e) (p (nx n e)) ((gL K M n p).X e):=by
 refine ⟨⟨M * (p e).1 - gq K M n p e * ((p (nx n e)).1 - (p e).1) * gh K p e,gq K M n p e * ((p (nx n e)).1 - (p e).1),fun t => ?_⟩,?_,?_⟩
 ·show M * (p e).1 + gq K M n p e * ((p (nx n e)).1 - (p e).1) * (t - gh K p e) = _
  grind
 ·show M * (p e).1 + gq K M n p e * ((p (nx n e)).1 - (p e).1) * (gh K p e - gh K p e) = _
  grind
 ·show M * (p e).1 + gq K M n p e * ((p (nx n e)).1 - (p e).1) * (gh K p (nx n e) - gh K p e) = _
  have := G.quo he
  grind
theorem Grd.fine (G : Grd K M T R n p) : (gL K M n p).Fine:=by
 have S := G.simple
 have hb := S.big
 have hM := G.mp
 have hK := G.kp
 refine ⟨hb,fun i => ⟨(p i).1 + K * (p i).2,?_⟩,G.dist,fun e he => (G.line he).aff,fun e he => (G.line he).fst,fun e he => (G.line he).snd,?_⟩
 ·show ht 2 (2 * K) (p i) = _
  unfold ht;grind
 ·intro e i t t' he hi hne ⟨h1,h2,h3,h4⟩ ⟨h5,h6,h7,h8⟩
  have hrng : ∀ {e t},(gL K M n p).rng e t → rngP 2 (2 * K) (p e) (p (nx n e)) t:=fun h => h
  have ne : ∀ e,e < n → ht 2 (2 * K) (p e) ≠ ht 2 (2 * K) (p (nx n e)):=fun e he => G.ne he
  by_cases c1 : nx n e = i
  ·subst c1
   exact order_corner hM (by omega) (G.line he) (G.line hi) (ne e he) (ne _ hi) (S.corner e he).1 (S.corner e he).2 (hrng h1) (hrng h2) (hrng h5) (hrng h6) (fun h => h3 ⟨rfl,h.symm⟩) (fun h => h7 ⟨rfl,h.symm⟩)
  ·by_cases c2 : nx n i = e
   ·subst c2
    have := order_corner hM (by omega) (G.line hi) (G.line he) (ne i hi) (ne _ he) (S.corner i hi).1 (S.corner i hi).2 (hrng h2) (hrng h1) (hrng h6) (hrng h5) (fun h => h4 ⟨rfl,h.symm⟩) (fun h => h8 ⟨rfl,h.symm⟩)
    exact this.symm
   ·exact order_apart hM (by omega) (G.line he) (G.line hi) (ne e he) (ne i hi) (S.apart e i he hi (fun h => hne h.symm) (fun h => c1 h.symm) c2) (hrng h1) (hrng h2) (hrng h5) (hrng h6)
def gz (T R : Nat) (s j : Nat) : Pt:=(2 * ((j : Int) - R) + 1,2 * (2 * ((s : Int) - T) + 1))
def gp (K M : Int) (T R n : Nat) (p : Nat → Pt) (s j : Nat) : Int := if par n (fun i => gm M K (p i)) (gz T R s j) = true then 1 else 0
theorem cross_gz (G : Grd K M T R n p) {e : Nat} (he : e < n) (τ t : Int) : cross (gm M K (p e)) (gm M K (p (nx n e))) (2 * τ + 1,2 * t) = 2 * (gh K p (nx n e) - gh K p e) * (2 * (gL K M n p).X e t - (2 * τ + 1)):=by
 have h1 := G.quo he
 show cross (2 * (M * (p e).1),2 * gh K p e) (2 * (M * (p (nx n e)).1),2 * gh K p (nx n e)) (2 * τ + 1,2 * t) = 2 * (gh K p (nx n e) - gh K p e) * (2 * (M * (p e).1 + gq K M n p e * ((p (nx n e)).1 - (p e).1) * (t - gh K p e)) - (2 * τ + 1))
 unfold cross
 dsimp only
 have e1 : 2 * (gh K p (nx n e) - gh K p e) * (2 * (M * (p e).1 + gq K M n p e * ((p (nx n e)).1 - (p e).1) * (t - gh K p e)) - (2 * τ + 1)) = 2 * (gh K p (nx n e) - gh K p e) * (2 * (M * (p e).1) - (2 * τ + 1)) + 4 * (gq K M n p e * (gh K p (nx n e) - gh K p e)) * ((p (nx n e)).1 - (p e).1) * (t - gh K p e):=by grind
 rw [e1,h1]
 grind
theorem rc_gz (G : Grd K M T R n p) {e : Nat} (he : e < n) (τ t : Int) : rc (2 * τ + 1,2 * t) (gm M K (p e)) (gm M K (p (nx n e))) = (decide ((gL K M n p).da e t ≠ 0) && decide (τ < (gL K M n p).X e t)):=by
 unfold rc
 rw [cross_gz G he]
 have hne := G.ne he
 have a2 : (gm M K (p e)).2 = 2 * gh K p e := rfl
 have b2 : (gm M K (p (nx n e))).2 = 2 * gh K p (nx n e) := rfl
 rw [a2,b2]
 dsimp only
 have hda : (gL K M n p).da e t = (if t < gh K p (nx n e) then 1 else 0) - (if t < gh K p e then 1 else 0) := rfl
 have s1 : decide (2 * gh K p e > 2 * t) = decide (t < gh K p e) := decide_eq_decide.2 (by omega)
 have s2 : decide (2 * gh K p (nx n e) > 2 * t) = decide (t < gh K p (nx n e)) := decide_eq_decide.2 (by omega)
 have s3 : decide (2 * gh K p (nx n e) > 2 * gh K p e) = decide (gh K p e < gh K p (nx n e)) := decide_eq_decide.2 (by omega)
 rw [s1,s2,s3,hda]
 have h5 : (decide (0 < 2 * (gh K p (nx n e) - gh K p e) * (2 * (gL K M n p).X e t - (2 * τ + 1))) == decide (gh K p e < gh K p (nx n e))) = decide (τ < (gL K M n p).X e t):=by
  rcases Int.lt_or_lt_of_ne hne with g | g
  ·rw [decide_eq_true g]
   have : (0 < 2 * (gh K p (nx n e) - gh K p e) * (2 * (gL K M n p).X e t - (2 * τ + 1))) ↔ τ < (gL K M n p).X e t:=by
    have h0 : 0 < 2 * (gh K p (nx n e) - gh K p e):=by omega
    rw [(sgn_sc h0).1];omega
   rw [decide_eq_decide.2 this]
   cases decide (τ < (gL K M n p).X e t) <;> rfl
  ·rw [decide_eq_false (show ¬ gh K p e < gh K p (nx n e) by omega)]
   have : (0 < 2 * (gh K p (nx n e) - gh K p e) * (2 * (gL K M n p).X e t - (2 * τ + 1))) ↔ ¬ τ < (gL K M n p).X e t:=by
    have h0 : 0 < 2 * (gh K p e - gh K p (nx n e)):=by omega
    have e0 : 2 * (gh K p (nx n e) - gh K p e) * (2 * (gL K M n p).X e t - (2 * τ + 1)) = 2 * (gh K p e - gh K p (nx n e)) * ((2 * τ + 1) - 2 * (gL K M n p).X e t):=by grind
    rw [e0,(sgn_sc h0).1];omega
   rw [decide_eq_decide.2 this]
   by_cases hh : τ < (gL K M n p).X e t
   ·rw [decide_eq_true hh,decide_eq_false (fun k => k hh)];rfl
   ·rw [decide_eq_false hh,decide_eq_true hh];rfl
 rw [h5]
 congr 1
 by_cases q1 : t < gh K p e <;> by_cases q2 : t < gh K p (nx n e) <;> simp [q1,q2]
theorem sm_parity (n : Nat) (b : Nat → Bool) (d : Nat → Int) (h : ∀ i,i < n → d i = 0 ∨ d i = 1 ∨ d i = -1) : (sm n (fun i => (if b i = true then 1 else 0) * d i)) % 2 = if xs n (fun i => decide (d i ≠ 0) && b i) = true then 1 else 0:=by
 induction n with
 | zero => rfl
 | succ n ih =>
  have ih := ih fun i hi => h i (by omega)
  rw [sm,xs]
  have hd := h n (by omega)
  cases hb : b n with
  | false => simp only [Bool.and_false,Bool.xor_false];simpa using ih
  | true =>
   rcases hd with k | k | k
   ·rw [k];simpa using ih
   ·rw [k]
    cases hx : xs n (fun i => decide (d i ≠ 0) && b i) with
    | true => rw [hx] at ih;simp at ih ⊢;omega
    | false => rw [hx] at ih;simp at ih ⊢;omega
   ·rw [k]
    cases hx : xs n (fun i => decide (d i ≠ 0) && b i) with
    | true => rw [hx] at ih;simp at ih ⊢;omega
    | false => rw [hx] at ih;simp at ih ⊢;omega
theorem gp_par (G : Grd K M T R n p) (s j : Nat) : par n (fun i => gm M K (p i)) (gz T R s j) = xs n fun e => decide ((gL K M n p).da e (2 * ((s : Int) - T) + 1) ≠ 0) && decide ((j : Int) - R < (gL K M n p).X e (2 * ((s : Int) - T) + 1)) :=
 xs_congr fun _ he => rc_gz G he _ _
theorem grid_area_c (G : Grd K M T R n p) {c : Int} (hc : ∀ e,e < n → ∀ k,(gL K M n p).rng e (2 * k + 1) → (gL K M n p).r e (2 * k + 1) + (gL K M n p).up e = c) : (c = 0 ∨ c = 1) ∧ 2 * M * K * area n p = 4 * sm (2 * T) fun s => sm (2 * R) fun j => (2 * c - 1) * gp K M T R n p s j:=by
 have F := G.fine
 have hb := F.big
 have hS : ∀ i,i < n → -(2 * T : Int) ≤ (gL K M n p).H i ∧ (gL K M n p).H i ≤ 2 * T := G.lev
 have e1 : sm n (fun e => ((gL K M n p).H (nx n e) - (gL K M n p).H e) * ((gL K M n p).V e + (gL K M n p).V (nx n e))) = 4 * sm (2 * T) (fun s => sm n fun e => (gL K M n p).da e (2 * ((s : Int) - T) + 1) * (gL K M n p).X e (2 * ((s : Int) - T) + 1)):=by
  rw [← sm_swap n (2 * T) (fun e s => (gL K M n p).da e (2 * ((s : Int) - T) + 1) * (gL K M n p).X e (2 * ((s : Int) - T) + 1)),← sm_mul]
  exact sm_congr fun e he => ((gL K M n p).edge_area F he T hS).symm
 -- the round number is 0 or 1
 have hc01 : c = 0 ∨ c = 1:=by
  obtain ⟨k,_,hk,_⟩:=(gL K M n p).round F (e := 0) (by omega)
  have hx : nx n 0 < n := nx_lt hb
  obtain ⟨q0,h0⟩ := F.even 0
  obtain ⟨q1,h1⟩ := F.even (nx n 0)
  have hd : (gL K M n p).da 0 (2 * k + 1) ≠ 0:=by
   unfold Lev.rng at hk
   unfold Lev.da Lev.g
   split <;> split <;> omega
  exact ((gL K M n p).level_pos F hc k).2.2 ⟨0,by omega,hd⟩ |>.1
 refine ⟨hc01,?_⟩
 -- each place
 have place : ∀ s j : Nat,(gL K M n p).beyond (2 * ((s : Int) - T) + 1) ((j : Int) - R) = (2 * c - 1) * gp K M T R n p s j:=by
  intro s j
  have hpar := sm_parity n (fun e => decide ((j : Int) - R < (gL K M n p).X e (2 * ((s : Int) - T) + 1))) (fun e => (gL K M n p).da e (2 * ((s : Int) - T) + 1)) (fun i _ => by
   unfold Lev.da Lev.g;split <;> split <;> simp)
  rw [← gp_par G s j] at hpar
  have hbey : sm n (fun i => (if decide ((j : Int) - R < (gL K M n p).X i (2 * ((s : Int) - T) + 1)) = true then 1 else 0) * (gL K M n p).da i (2 * ((s : Int) - T) + 1)) = (gL K M n p).beyond (2 * ((s : Int) - T) + 1) ((j : Int) - R):=by
   unfold Lev.beyond
   refine sm_congr fun e _ => ?_
   by_cases h : (j : Int) - R < (gL K M n p).X e (2 * ((s : Int) - T) + 1)
   ·rw [if_pos h,if_pos (decide_eq_true h)]
   ·rw [if_neg h,if_neg (by rw [decide_eq_false h];simp)]
  rw [hbey] at hpar
  unfold gp
  have hval:=(gL K M n p).beyond_val F hc ((s : Int) - T) ((j : Int) - R)
  have hup : ∀ e,(gL K M n p).up e = 0 ∨ (gL K M n p).up e = 1:=fun e => by unfold Lev.up;split <;> simp
  have hb3 : (gL K M n p).beyond (2 * ((s : Int) - T) + 1) ((j : Int) - R) = 0 ∨ (gL K M n p).beyond (2 * ((s : Int) - T) + 1) ((j : Int) - R) = 2 * c - 1:=by
   rcases hval with ⟨_,h⟩ | ⟨e,_,_,_,h⟩
   ·exact .inl h
   ·rcases hup e with k | k <;> rcases hc01 with q | q <;> rw [k,q] at h <;> rw [h,q] <;> simp
  cases hq : par n (fun i => gm M K (p i)) (gz T R s j) with
  | true =>
   rw [hq] at hpar
   simp only [if_true] at hpar ⊢
   rcases hb3 with h | h
   ·rw [h] at hpar;simp at hpar
   ·rw [h];omega
  | false =>
   rw [hq] at hpar
   simp only [Bool.false_eq_true,if_false] at hpar ⊢
   rcases hb3 with h | h
   ·rw [h];omega
   ·rw [h] at hpar
    rcases hc01 with q | q <;> rw [q] at hpar <;> simp at hpar
 have e2 : (sm (2 * T) fun s => sm n fun e => (gL K M n p).da e (2 * ((s : Int) - T) + 1) * (gL K M n p).X e (2 * ((s : Int) - T) + 1)) = sm (2 * T) fun s => sm (2 * R) fun j => (2 * c - 1) * gp K M T R n p s j:=by
  refine sm_congr fun s hs => ?_
  rw [(gL K M n p).level_sum (2 * ((s : Int) - T) + 1) R (G.wid s hs)]
  exact sm_congr fun j _ => place s j
 rw [e2] at e1
 rw [← e1]
 -- the trapezoids
 have e3 : sm n (fun e => ((gL K M n p).H (nx n e) - (gL K M n p).H e) * ((gL K M n p).V e + (gL K M n p).V (nx n e))) = sm n fun e => (2 * M * K) * ((p e).1 * (p (nx n e)).2 - (p (nx n e)).1 * (p e).2) + ((fun j => M * (2 * ((p j).1 * (p j).1) + 2 * K * ((p j).1 * (p j).2))) ((e + 1) % n) - (fun j => M * (2 * ((p j).1 * (p j).1) + 2 * K * ((p j).1 * (p j).2))) e):=by
  refine sm_congr fun e _ => ?_
  show (ht 2 (2 * K) (p (nx n e)) - ht 2 (2 * K) (p e)) * (M * (p e).1 + M * (p (nx n e)).1) = _
  have : nx n e = (e + 1) % n := rfl
  rw [← this]
  unfold ht
  dsimp only
  grind
 have cyc := sm_cycle n fun j => M * (2 * ((p j).1 * (p j).1) + 2 * K * ((p j).1 * (p j).2))
 rw [e3,sm_add,sm_mul,cyc]
 unfold area
 omega
def gcount (K M : Int) (T R n : Nat) (p : Nat → Pt) : Int := sm (2 * T) fun s => sm (2 * R) fun j => gp K M T R n p s j
theorem gcount_nonneg (K M : Int) (T R n : Nat) (p : Nat → Pt) : 0 ≤ gcount K M T R n p :=
 sm_nonneg fun s _ => sm_nonneg fun j _ => by unfold gp;split <;> omega
end
theorem nat_bound (n : Nat) (f : Nat → Int) : ∃ B : Nat,∀ i,i < n → -(B : Int) ≤ f i ∧ f i ≤ B:=by
 induction n with
 | zero => exact ⟨0,fun i h => by omega⟩
 | succ n ih =>
  obtain ⟨B,hB⟩ := ih
  refine ⟨B + (f n).natAbs,fun i hi => ?_⟩
  by_cases e : i = n
  ·subst e;omega
  ·have := hB i (by omega);omega
end Geo
/-
 The lower side of the hull of points that are sorted by the first coordinate,then by the second one.
-/
set_option linter.all false
namespace Geo
def fw (a b : Pt) : Prop := a.1 < b.1 ∨ (a.1 = b.1 ∧ a.2 < b.2)
theorem fw.trans {a b c : Pt} (h : fw a b) (k : fw b c) : fw a c:=by unfold fw at *;omega
theorem fw.irr {a : Pt} (h : fw a a) : False:=by unfold fw at h;omega
theorem fw.asymm {a b : Pt} (h : fw a b) (k : fw b a) : False:=(h.trans k).irr
theorem pos_ofm {b z : Int} (hb : 0 < b) (h : 0 < b * z) : 0 < z:=by
 rcases Int.lt_trichotomy z 0 with k | k | k
 ·have := Int.mul_pos hb (show 0 < -z by omega)
  rw [Int.mul_neg] at this;omega
 ·rw [k,Int.mul_zero] at h;omega
 ·exact k
theorem nonneg_ofm {b z : Int} (hb : 0 < b) (h : 0 ≤ b * z) : 0 ≤ z:=by
 rcases Int.lt_trichotomy z 0 with k | k | k
 ·have := Int.mul_pos hb (show 0 < -z by omega)
  rw [Int.mul_neg] at this;omega
 ·omega
 ·omega
theorem turn_trans {a1 a2 b1 b2 c1 c2 : Int} (ha : 0 < a1 ∨ (a1 = 0 ∧ 0 < a2)) (hb : 0 < b1 ∨ (b1 = 0 ∧ 0 < b2)) (hc : 0 < c1 ∨ (c1 = 0 ∧ 0 < c2)) (h1 : 0 ≤ a1 * b2 - a2 * b1) (h2 : 0 ≤ b1 * c2 - b2 * c1) :
  0 ≤ a1 * c2 - a2 * c1 ∧ (0 < a1 * b2 - a2 * b1 ∨ 0 < b1 * c2 - b2 * c1 → 0 < a1 * c2 - a2 * c1):=by
 rcases hb with hb | ⟨hb,hb2⟩
 ·have ex : b1 * (a1 * c2 - a2 * c1) = c1 * (a1 * b2 - a2 * b1) + a1 * (b1 * c2 - b2 * c1):=by grind
  rcases ha with ha | ⟨ha,ha2⟩
  ·rcases hc with hc | ⟨hc,hc2⟩
   ·have k1 := Int.mul_nonneg (Int.le_of_lt hc) h1
    have k2 := Int.mul_nonneg (Int.le_of_lt ha) h2
    refine ⟨nonneg_ofm hb (by omega),fun h => pos_ofm hb ?_⟩
    rcases h with h | h
    ·have := Int.mul_pos hc h;omega
    ·have := Int.mul_pos ha h;omega
   ·subst hc
    have := Int.mul_pos ha hc2
    rw [Int.mul_zero]
    exact ⟨by omega,fun _ => by omega⟩
  ·subst ha
   have := Int.mul_pos ha2 hb
   omega
 ·subst hb
  rw [Int.zero_mul] at h2
  rw [Int.mul_zero] at h1
  rcases hc with hc | ⟨hc,hc2⟩
  ·have := Int.mul_pos hb2 hc
   omega
  ·subst hc
   simp only [Int.mul_zero,Int.zero_mul] at *
   rcases ha with ha | ⟨ha,ha2⟩
   ·have := Int.mul_pos ha hc2
    exact ⟨by omega,fun _ => by omega⟩
   ·subst ha
    simp only [Int.mul_zero,Int.zero_mul] at *
    exact ⟨by omega,fun h => by omega⟩
theorem fw.vec {a b : Pt} (h : fw a b) : 0 < b.1 - a.1 ∨ (b.1 - a.1 = 0 ∧ 0 < b.2 - a.2):=by unfold fw at h;omega
theorem left4 {a b c q : Pt} (h1 : fw a b) (h2 : fw b c) (h3 : fw c q) (k1 : 0 < cross a b c) (k2 : 0 < cross b c q) : 0 < cross a b q:=by
 have e1 : cross a b c = (b.1 - a.1) * (c.2 - b.2) - (b.2 - a.2) * (c.1 - b.1):=by unfold cross;grind
 have e2 : cross b c q = (c.1 - b.1) * (q.2 - c.2) - (c.2 - b.2) * (q.1 - c.1):=by unfold cross;grind
 have e3 : cross a b q = cross a b c + ((b.1 - a.1) * (q.2 - c.2) - (b.2 - a.2) * (q.1 - c.1)):=by unfold cross;grind
 have:=(turn_trans h1.vec h2.vec h3.vec (by omega) (by omega)).2 (.inl (by omega))
 omega
def LeftOn (a b r : Pt) : Prop := 0 < cross a b r ∨ On r a b
theorem LeftOn.nonneg {a b r : Pt} (h : LeftOn a b r) : 0 ≤ cross a b r:=by
 rcases h with h | h
 ·omega
 ·have := h.1;omega
theorem on_fw {a b r : Pt} (h : cross a b r = 0) (h1 : a = r ∨ fw a r) (h2 : r = b ∨ fw r b) : On r a b:=by
 rcases h1 with rfl | h1
 ·exact ⟨h,by unfold btw;omega,by unfold btw;omega⟩
 rcases h2 with rfl | h2
 ·exact ⟨h,by unfold btw;omega,by unfold btw;omega⟩
 refine ⟨h,.inl (by unfold fw at h1 h2;omega),?_⟩
 unfold cross at h
 rcases h1 with h1 | ⟨h1,h1'⟩
 ·rcases h2 with h2 | ⟨h2,h2'⟩
  ·
   unfold btw
   rcases Int.lt_trichotomy a.2 b.2 with hy | hy | hy
   ·left
    have k1 := Int.mul_pos (show 0 < b.2 - a.2 by omega) (show 0 < r.1 - a.1 by omega)
    have k2 : 0 < r.2 - a.2 := pos_ofm (b := b.1 - a.1) (by omega) (by omega)
    have k3 := Int.mul_pos (show 0 < b.2 - a.2 by omega) (show 0 < b.1 - r.1 by omega)
    have k4 : 0 < b.2 - r.2 := pos_ofm (b := b.1 - a.1) (by omega) (by
     have : (b.1 - a.1) * (b.2 - r.2) = (b.2 - a.2) * (b.1 - r.1):=by grind
     omega)
    omega
   ·have k2 : (b.1 - a.1) * (r.2 - a.2) = 0:=by rw [hy] at h ⊢;grind
    rcases Int.mul_eq_zero.1 k2 with k | k <;> omega
   ·right
    have k1 := Int.mul_pos (show 0 < a.2 - b.2 by omega) (show 0 < r.1 - a.1 by omega)
    have k2 : 0 < a.2 - r.2 := pos_ofm (b := b.1 - a.1) (by omega) (by
     have : (b.1 - a.1) * (a.2 - r.2) = (a.2 - b.2) * (r.1 - a.1):=by grind
     omega)
    have k3 := Int.mul_pos (show 0 < a.2 - b.2 by omega) (show 0 < b.1 - r.1 by omega)
    have k4 : 0 < r.2 - b.2 := pos_ofm (b := b.1 - a.1) (by omega) (by
     have : (b.1 - a.1) * (r.2 - b.2) = (a.2 - b.2) * (b.1 - r.1):=by grind
     omega)
    omega
  ·have k2 : (b.1 - a.1) * (b.2 - r.2) = 0:=by rw [h2] at h;grind
   rcases Int.mul_eq_zero.1 k2 with k | k <;> omega
 ·rcases h2 with h2 | ⟨h2,h2'⟩
  ·have k2 : (b.1 - a.1) * (r.2 - a.2) = 0:=by rw [h1] at h ⊢;grind
   rcases Int.mul_eq_zero.1 k2 with k | k <;> omega
  ·unfold btw;omega
theorem leftOn_fw {a b r : Pt} (h : 0 ≤ cross a b r) (h1 : a = r ∨ fw a r) (h2 : r = b ∨ fw r b) : LeftOn a b r:=by
 by_cases h0 : cross a b r = 0
 ·exact .inr (on_fw h0 h1 h2)
 ·exact .inl (by omega)
theorem pop_high {u v q r : Pt} (h1 : fw u v) (h2 : fw v q) (h : cross u v q ≤ 0) (hr : v = r ∨ fw v r) (hq : fw r q) (k : 0 ≤ cross v q r) : LeftOn u q r:=by
 refine leftOn_fw ?_ (.inr (hr.elim (fun e => e ▸ h1) h1.trans)) (.inr hq)
 rcases hr with rfl | hr
 ·have : cross u q v = - cross u v q:=by unfold cross;grind
  omega
 ·have e1 : cross u v q = (v.1 - u.1) * (q.2 - v.2) - (v.2 - u.2) * (q.1 - v.1):=by unfold cross;grind
  have e2 : cross v q r = (q.1 - r.1) * (q.2 - v.2) - (q.2 - r.2) * (q.1 - v.1):=by unfold cross;grind
  have e3 : cross u q r = ((q.1 - r.1) * (v.2 - u.2) - (q.2 - r.2) * (v.1 - u.1)) + cross v q r:=by unfold cross;grind
  have:=(turn_trans hq.vec h2.vec h1.vec (by omega) (by
   have : (q.1 - v.1) * (v.2 - u.2) - (q.2 - v.2) * (v.1 - u.1) = - cross u v q:=by rw [e1];grind
   omega)).1
  omega
theorem pop_low {u v q r : Pt} (h1 : fw u v) (h2 : fw v q) (h : cross u v q ≤ 0) (hr : u = r ∨ fw u r) (hq : fw r v) (k : 0 ≤ cross u v r) : LeftOn u q r:=by
 refine leftOn_fw ?_ hr (.inr (hq.trans h2))
 rcases hr with rfl | hr
 ·have : cross u q u = 0:=by unfold cross;grind
  omega
 ·have e1 : cross u v q = (v.1 - u.1) * (q.2 - v.2) - (v.2 - u.2) * (q.1 - v.1):=by unfold cross;grind
  have e2 : cross u v r = (v.1 - u.1) * (r.2 - u.2) - (v.2 - u.2) * (r.1 - u.1) := rfl
  have e3 : cross u q r = cross u v r + ((q.1 - v.1) * (r.2 - u.2) - (q.2 - v.2) * (r.1 - u.1)):=by unfold cross;grind
  have:=(turn_trans h2.vec h1.vec hr.vec (by
   have : (q.1 - v.1) * (v.2 - u.2) - (q.2 - v.2) * (v.1 - u.1) = - cross u v q:=by rw [e1];grind
   omega) (by omega)).1
  omega
theorem behind {a b q r : Pt} (h1 : fw a b) (h2 : fw b q) (h : 0 < cross a b q) (hr : fw r b) (k : 0 ≤ cross a b r) : 0 < cross b q r:=by
 have e1 : cross a b q = (b.1 - a.1) * (q.2 - b.2) - (b.2 - a.2) * (q.1 - b.1):=by unfold cross;grind
 have e2 : cross a b r = (b.1 - r.1) * (b.2 - a.2) - (b.2 - r.2) * (b.1 - a.1):=by unfold cross;grind
 have e3 : cross b q r = (b.1 - r.1) * (q.2 - b.2) - (b.2 - r.2) * (q.1 - b.1):=by unfold cross;grind
 have:=(turn_trans hr.vec h1.vec h2.vec (by omega) (by omega)).2 (.inr (by omega))
 omega
structure Chn (P : Nat → Pt) (t k : Nat) (s : Nat → Pt) : Prop where
 pos : 0 < k
 size : k ≤ t
 first : s 0 = P 0
 last : s (k - 1) = P (t - 1)
 fwd : ∀ i,i + 1 < k → fw (s i) (s (i + 1))
 mem : ∀ i,i < k → ∃ j,j < t ∧ s i = P j
 turn : ∀ i,i + 2 < k → 0 < cross (s i) (s (i + 1)) (s (i + 2))
 edge : ∀ i,i + 1 < k → ∀ r,r < t → LeftOn (s i) (s (i + 1)) (P r)
structure Pop (P : Nat → Pt) (t k : Nat) (s : Nat → Pt) (k' : Nat) : Prop where
 pos : 0 < k'
 size : k' ≤ k
 high : ∀ r,r < t → (s (k' - 1) = P r ∨ fw (s (k' - 1)) (P r)) → LeftOn (s (k' - 1)) (P t) (P r)
section
variable {P : Nat → Pt} {t n k k' : Nat} {s : Nat → Pt}
theorem chn_one : Chn P 1 1 (fun _ => P 0) :=
 ⟨by omega,by omega,rfl,rfl,fun i h => by omega,fun i _ => ⟨0,by omega,rfl⟩,fun i h => by omega,fun i h => by omega⟩
theorem Chn.behind_t (hP : ∀ i j,i < j → j < n → fw (P i) (P j)) (ht : t < n) (C : Chn P t k s) {i : Nat} (hi : i < k) : fw (s i) (P t):=by
 obtain ⟨j,hj,e⟩ := C.mem i hi
 rw [e];exact hP j t hj ht
theorem Chn.pop (hP : ∀ i j,i < j → j < n → fw (P i) (P j)) (ht : t < n) (C : Chn P t k s) : Pop P t k s k:=by
 refine ⟨C.pos,Nat.le_refl _,fun r hr h => ?_⟩
 have hlast := C.last
 have hk := C.pos
 have hs := C.size
 have e : r = t - 1:=by
  rcases Nat.lt_or_ge r (t - 1) with h1 | h1
  ·exfalso
   have h2 := hP r (t - 1) h1 (by omega)
   rw [hlast] at h
   rcases h with h | h
   ·rw [h] at h2;exact h2.irr
   ·exact h.asymm h2
  ·omega
 subst e
 rw [hlast]
 have z : cross (P (t - 1)) (P t) (P (t - 1)) = 0:=by unfold cross;grind
 exact leftOn_fw (by omega) (.inl rfl) (.inr (hP _ _ (by omega) ht))
theorem Pop.step (hP : ∀ i j,i < j → j < n → fw (P i) (P j)) (ht : t < n) (C : Chn P t k s) (O : Pop P t k s k') (h2 : 1 < k') (h : cross (s (k' - 2)) (s (k' - 1)) (P t) ≤ 0) : Pop P t k s (k' - 1):=by
 have hs := O.size
 refine ⟨by omega,by omega,fun r hr hh => ?_⟩
 have e1 : k' - 1 - 1 = k' - 2:=by omega
 rw [e1] at hh ⊢
 have f1 : fw (s (k' - 2)) (s (k' - 1)):=by
  have := C.fwd (k' - 2) (by omega)
  rwa [show k' - 2 + 1 = k' - 1 by omega] at this
 have f2 : fw (s (k' - 1)) (P t) := C.behind_t hP ht (by omega)
 have f3 : fw (P r) (P t) := hP r t hr ht
 have ed := C.edge (k' - 2) (by omega) r hr
 rw [show k' - 2 + 1 = k' - 1 by omega] at ed
 by_cases hv : s (k' - 1) = P r ∨ fw (s (k' - 1)) (P r)
 ·exact pop_high f1 f2 h hv f3 (O.high r hr hv).nonneg
 ·have hlt : fw (P r) (s (k' - 1)):=by
   unfold fw at hv ⊢
   have : ¬ (s (k' - 1) = P r):=fun e => hv (.inl e)
   have h3 : ¬ ((s (k' - 1)).1 = (P r).1 ∧ (s (k' - 1)).2 = (P r).2):=fun e => this (Prod.ext e.1 e.2)
   have h4 : ¬ ((s (k' - 1)).1 < (P r).1 ∨ (s (k' - 1)).1 = (P r).1 ∧ (s (k' - 1)).2 < (P r).2):=fun e => hv (.inr e)
   omega
  exact pop_low f1 f2 h hh hlt ed.nonneg
theorem Pop.push (hP : ∀ i j,i < j → j < n → fw (P i) (P j)) (ht : t < n) (C : Chn P t k s) (O : Pop P t k s k') (h : 1 < k' → 0 < cross (s (k' - 2)) (s (k' - 1)) (P t)) {s' : Nat → Pt} (e : ∀ i,i < k' → s' i = s i) (eq : s' k' = P t) : Chn P (t + 1) (k' + 1) s':=by
 have hp := O.pos
 have hs := O.size
 have hks := C.size
 -- the new point is on the left of the edges that are left
 have new : ∀ d i,i + 2 + d = k' → 0 < cross (s i) (s (i + 1)) (P t):=by
  intro d
  induction d with
  | zero =>
   intro i hi
   have := h (by omega)
   rwa [show k' - 2 = i by omega,show k' - 1 = i + 1 by omega] at this
  | succ d ih =>
   intro i hi
   exact left4 (C.fwd i (by omega)) (C.fwd (i + 1) (by omega)) (C.behind_t hP ht (by omega)) (C.turn i (by omega)) (ih (i + 1) (by omega))
 refine ⟨by omega,by omega,?_,?_,fun i hi => ?_,fun i hi => ?_,fun i hi => ?_,fun i hi r hr => ?_⟩
 ·rw [e 0 (by omega)];exact C.first
 ·rw [Nat.add_sub_cancel,Nat.add_sub_cancel];exact eq
 ·by_cases h1 : i + 1 < k'
  ·rw [e i (by omega),e (i + 1) h1];exact C.fwd i (by omega)
  ·have : i + 1 = k':=by omega
   rw [e i (by omega),this,eq]
   exact C.behind_t hP ht (by omega)
 ·by_cases h1 : i < k'
  ·obtain ⟨j,hj,h2⟩ := C.mem i (by omega)
   exact ⟨j,by omega,by rw [e i h1];exact h2⟩
  ·have : i = k':=by omega
   exact ⟨t,by omega,by rw [this];exact eq⟩
 ·by_cases h1 : i + 2 < k'
  ·rw [e i (by omega),e (i + 1) (by omega),e (i + 2) h1];exact C.turn i (by omega)
  ·have : i + 2 = k':=by omega
   rw [e i (by omega),e (i + 1) (by omega),this,eq]
   exact new 0 i (by omega)
 ·by_cases h1 : i + 1 < k'
  ·rw [e i (by omega),e (i + 1) h1]
   by_cases h2 : r = t
   ·rw [h2];exact .inl (new (k' - i - 2) i (by omega))
   ·exact C.edge i (by omega) r (by omega)
  ·have hk : i + 1 = k':=by omega
   have hi1 : i = k' - 1:=by omega
   rw [e i (by omega),hk,eq]
   by_cases h2 : r = t
   ·rw [h2]
    have z : cross (s i) (P t) (P t) = 0:=by unfold cross;grind
    exact leftOn_fw (by omega) (.inr (C.behind_t hP ht (by omega))) (.inl rfl)
   ·by_cases hv : s i = P r ∨ fw (s i) (P r)
    ·rw [hi1] at hv ⊢
     exact O.high r (by omega) hv
    ·have hlt : fw (P r) (s i):=by
      unfold fw at hv ⊢
      have : ¬ (s i = P r):=fun e => hv (.inl e)
      have h3 : ¬ ((s i).1 = (P r).1 ∧ (s i).2 = (P r).2):=fun e => this (Prod.ext e.1 e.2)
      have h4 : ¬ ((s i).1 < (P r).1 ∨ (s i).1 = (P r).1 ∧ (s i).2 < (P r).2):=fun e => hv (.inr e)
      omega
     by_cases h3 : 1 < k'
     ·have h4 := h h3
      have h5 := C.edge (k' - 2) (by omega) r (by omega)
      rw [show k' - 2 + 1 = k' - 1 by omega] at h5
      have h6 := C.fwd (k' - 2) (by omega)
      rw [show k' - 2 + 1 = k' - 1 by omega] at h6
      rw [hi1] at hlt ⊢
      exact .inl (behind h6 (C.behind_t hP ht (by omega)) h4 hlt h5.nonneg)
     ·have : i = 0:=by omega
      rw [this,C.first] at hlt
      rcases Nat.eq_zero_or_pos r with hr0 | hr0
      ·rw [hr0] at hlt;exact hlt.irr.elim
      ·exact (hlt.asymm (hP 0 r hr0 (by omega))).elim
end
end Geo
/-
 The hull: its corners,one after the other,each of them the point that has all others on its left.
-/
set_option linter.all false
namespace Geo
def ng (p : Pt) : Pt:=(-p.1, -p.2)
theorem cross_ng (a b c : Pt) : cross (ng a) (ng b) (ng c) = cross a b c:=by unfold ng cross;simp only;grind
theorem ng_ng (a : Pt) : ng (ng a) = a:=by unfold ng;simp
theorem ng_inj {a b : Pt} (h : ng a = ng b) : a = b:=by rw [← ng_ng a,h,ng_ng]
theorem on_ng (q a b : Pt) : On (ng q) (ng a) (ng b) ↔ On q a b:=by
 unfold On
 rw [cross_ng]
 unfold ng btw
 simp only
 omega
theorem leftOn_ng (a b c : Pt) : LeftOn (ng a) (ng b) (ng c) ↔ LeftOn a b c:=by unfold LeftOn;rw [cross_ng,on_ng]
theorem fw_ng {a b : Pt} : fw (ng a) (ng b) ↔ fw b a:=by unfold fw ng;simp only;omega
structure Hul (n : Nat) (p : Nat → Pt) (m : Nat) (h : Nat → Pt) : Prop where
 pos : 0 < m
 first : ∀ r,r < n → h 0 = p r ∨ fw (h 0) (p r)
 mem : ∀ i,i < m → ∃ r,r < n ∧ h i = p r
 back : ∀ i,0 < i → i < m → h i ≠ h 0
 edge : 1 < m → ∀ i,i < m → ∀ r,r < n → LeftOn (h i) (h (nx m i)) (p r)
 one : m = 1 → ∀ r,r < n → p r = h 0
theorem leftOn_eq {a b c : Pt} (hb : b ≠ a) (hc : c ≠ a) (h1 : LeftOn a b c) (h2 : LeftOn a c b) : b = c:=by
 have e : cross a c b = - cross a b c:=by unfold cross;grind
 rcases h1 with h1 | ⟨h1,h3,h4⟩
 ·rcases h2 with h2 | ⟨h2,_,_⟩ <;> omega
 ·rcases h2 with h2 | ⟨h2,h5,h6⟩
  ·omega
  ·unfold btw at *
   have hb' : ¬ (b.1 = a.1 ∧ b.2 = a.2):=fun hh => hb (Prod.ext hh.1 hh.2)
   have hc' : ¬ (c.1 = a.1 ∧ c.2 = a.2):=fun hh => hc (Prod.ext hh.1 hh.2)
   exact Prod.ext (by omega) (by omega)
theorem pigeon : ∀ (n m : Nat) (f : Nat → Nat),(∀ i,i < m → f i < n) → (∀ i j,i < m → j < m → f i = f j → i = j) → m ≤ n
 | 0,m,f,h,_ => by
  rcases Nat.eq_zero_or_pos m with h0 | h0
  ·omega
  ·have := h 0 h0;omega
 | n + 1,m,f,h,inj => by
  by_cases hx : ∃ i,i < m ∧ f i = n
  ·obtain ⟨i,hi,e⟩ := hx
   have := pigeon n (m - 1) (fun j => if j = i then f (m - 1) else f j) (fun j hj => by
    by_cases hji : j = i
    ·simp only [if_pos hji]
     have h1 := h (m - 1) (by omega)
     have h2 : f (m - 1) ≠ n:=fun hh => by have := inj (m - 1) i (by omega) hi (hh.trans e.symm);omega
     omega
    ·simp only [if_neg hji]
     have h1 := h j (by omega)
     have h2 : f j ≠ n:=fun hh => hji (inj j i (by omega) hi (hh.trans e.symm))
     omega) (fun j k hj hk hh => by
    by_cases h1 : j = i
    ·by_cases h2 : k = i
     ·omega
     ·simp only [if_pos h1,if_neg h2] at hh
      have := inj _ _ (by omega) (by omega) hh;omega
    ·by_cases h2 : k = i
     ·simp only [if_neg h1,if_pos h2] at hh
      have := inj _ _ (by omega) (by omega) hh;omega
     ·simp only [if_neg h1,if_neg h2] at hh
      exact inj _ _ (by omega) (by omega) hh)
   omega
  ·have := pigeon n m f (fun i hi => by
    have h1 := h i hi
    have h2 : f i ≠ n:=fun hh => hx ⟨i,hi,hh⟩
    omega) inj
   omega
section
variable {n m : Nat} {p h : Nat → Pt}
theorem Hul.step (H : Hul n p m h) (hm : 1 < m) {i : Nat} (hi : i < m) : h (nx m i) ≠ h i:=by
 intro e
 have h1 := H.back 1 (by omega) hm
 -- all points would lie at h i
 have all : ∀ r,r < n → 0 < cross (h i) (h i) (p r) ∨ p r = h i:=by
  intro r hr
  have := H.edge hm i hi r hr
  rw [e] at this
  rcases this with k | ⟨_,k1,k2⟩
  ·exact .inl k
  ·right
   unfold btw at k1 k2
   exact Prod.ext (by omega) (by omega)
 have z : ∀ q,cross (h i) (h i) q = 0:=fun q => by unfold cross;grind
 have same : ∀ j,j < m → h j = h i:=by
  intro j hj
  obtain ⟨r,hr,e2⟩ := H.mem j hj
  rcases all r hr with k | k
  ·rw [z] at k;omega
  ·rw [e2,k]
 exact h1 ((same 1 hm).trans (same 0 (by omega)).symm)
theorem Hul.next (H : Hul n p m h) (hm : 1 < m) {i j : Nat} (hi : i < m) (hj : j < m) (e : h i = h j) : h (nx m i) = h (nx m j):=by
 have hxi : nx m i < m := Nat.mod_lt _ (by omega)
 have hxj : nx m j < m := Nat.mod_lt _ (by omega)
 obtain ⟨r,hr,er⟩ := H.mem _ hxi
 obtain ⟨s,hs,es⟩ := H.mem _ hxj
 have k1 := H.edge hm i hi s hs
 have k2 := H.edge hm j hj r hr
 rw [← es] at k1
 rw [← er,← e] at k2
 exact leftOn_eq (H.step hm hi) (by rw [e];exact H.step hm hj) k1 k2
theorem Hul.inj (H : Hul n p m h) {i j : Nat} (hij : i < j) (hj : j < m) : h i ≠ h j:=by
 intro e
 have key : ∀ d,j + d < m → h (i + d) = h (j + d):=by
  intro d
  induction d with
  | zero => intro _;exact e
  | succ d ih =>
   intro hd
   have := H.next (by omega) (show i + d < m by omega) (show j + d < m by omega) (ih (by omega))
   unfold nx at this
   rwa [Nat.mod_eq_of_lt (by omega),Nat.mod_eq_of_lt (by omega)] at this
 have h1 := H.next (by omega) (show i + (m - 1 - j) < m by omega) (show m - 1 < m by omega) (by
  have := key (m - 1 - j) (by omega)
  rwa [show j + (m - 1 - j) = m - 1 by omega] at this)
 unfold nx at h1
 rw [show m - 1 + 1 = m by omega,Nat.mod_self,Nat.mod_eq_of_lt (by omega)] at h1
 exact H.back _ (by omega) (by omega) h1
theorem Hul.size (H : Hul n p m h) : m ≤ n:=by
 have : ∃ f : Nat → Nat,∀ i,i < m → f i < n ∧ h i = p (f i):=by
  refine ⟨fun i => if hi : i < m then Classical.choose (H.mem i hi) else 0,fun i hi => ?_⟩
  simp only [dif_pos hi]
  exact Classical.choose_spec (H.mem i hi)
 obtain ⟨f,hf⟩ := this
 refine pigeon n m f (fun i hi => (hf i hi).1) (fun i j hi hj e => ?_)
 have e2 : h i = h j:=by rw [(hf i hi).2,(hf j hj).2,e]
 rcases Nat.lt_trichotomy i j with k | k | k
 ·exact absurd e2 (H.inj k hj)
 ·exact k
 ·exact absurd e2.symm (H.inj k hi)
end
section
variable {P : Nat → Pt} {N n : Nat} {p : Nat → Pt}
theorem Chn.two {k : Nat} {s : Nat → Pt} (hP : ∀ i j,i < j → j < N → fw (P i) (P j)) (hN : 2 ≤ N) (C : Chn P N k s) : 2 ≤ k:=by
 have h1 := C.pos
 have h2 := C.last
 rcases Nat.lt_or_ge k 2 with h | h
 ·exfalso
  have : k = 1:=by omega
  subst this
  rw [show 1 - 1 = 0 from rfl,C.first] at h2
  have := hP 0 (N - 1) (by omega) (by omega)
  rw [h2] at this
  exact this.irr
 ·exact h
theorem Chn.ahead {k : Nat} {s : Nat → Pt} (C : Chn P N k s) : ∀ d i,0 < d → i + d < k → fw (s i) (s (i + d)):=by
 intro d
 induction d with
 | zero => intro i h;omega
 | succ d ih =>
  intro i _ hi
  rcases Nat.eq_zero_or_pos d with h | h
  ·subst h;exact C.fwd i hi
  ·exact (ih i h (by omega)).trans (C.fwd (i + d) hi)
theorem hul_of (hP : ∀ i j,i < j → j < N → fw (P i) (P j)) (hN : 2 ≤ N) {k1 k2 : Nat} {s1 s2 h : Nat → Pt} (C1 : Chn P N k1 s1) (C2 : Chn (fun i => ng (P (N - 1 - i))) N k2 (fun i => ng (s2 i)))
  (cov : ∀ r,r < n → ∃ j,j < N ∧ p r = P j) (bck : ∀ j,j < N → ∃ r,r < n ∧ P j = p r) (e1 : ∀ i,i < k1 - 1 → h i = s1 i) (e2 : ∀ i,i < k2 - 1 → h (k1 - 1 + i) = s2 i) : Hul n p (k1 - 1 + (k2 - 1)) h:=by
 have hP' : ∀ i j,i < j → j < N → fw ((fun i => ng (P (N - 1 - i))) i) ((fun i => ng (P (N - 1 - i))) j):=fun i j hij hj => fw_ng.2 (hP _ _ (by omega) (by omega))
 have h1 := C1.two hP hN
 have h2 := C2.two hP' hN
 have f1 := C1.first
 have l1 := C1.last
 have f2 : s2 0 = P (N - 1):=by
  have := ng_inj C2.first
  rwa [Nat.sub_zero] at this
 have l2 : s2 (k2 - 1) = P 0:=by
  have := ng_inj C2.last
  rwa [show N - 1 - (N - 1) = 0 by omega] at this
 have ed2 : ∀ i,i + 1 < k2 → ∀ r,r < N → LeftOn (s2 i) (s2 (i + 1)) (P r):=by
  intro i hi r hr
  have:=(leftOn_ng _ _ _).1 (C2.edge i hi (N - 1 - r) (by omega))
  rwa [show N - 1 - (N - 1 - r) = r by omega] at this
 have h00 : h 0 = P 0:=by rw [e1 0 (by omega),f1]
 refine ⟨by omega,fun r hr => ?_,fun i hi => ?_,fun i hi0 hi => ?_,fun hm i hi r hr => ?_,fun hm => by omega⟩
 ·obtain ⟨j,hj,e⟩ := cov r hr
  rw [h00,e]
  rcases Nat.eq_zero_or_pos j with h0 | h0
  ·rw [h0];exact .inl rfl
  ·exact .inr (hP 0 j h0 hj)
 ·by_cases hik : i < k1 - 1
  ·obtain ⟨j,hj,e⟩ := C1.mem i (by omega)
   obtain ⟨r,hr,e'⟩ := bck j hj
   exact ⟨r,hr,by rw [e1 i hik,e,e']⟩
  ·obtain ⟨j,hj,e⟩ := C2.mem (i - (k1 - 1)) (by omega)
   obtain ⟨r,hr,e'⟩ := bck (N - 1 - j) (by omega)
   have := e2 (i - (k1 - 1)) (by omega)
   rw [show k1 - 1 + (i - (k1 - 1)) = i by omega] at this
   exact ⟨r,hr,by rw [this,ng_inj e,e']⟩
 ·rw [h00]
  by_cases hik : i < k1 - 1
  ·rw [e1 i hik,← f1]
   intro e
   have := C1.ahead i 0 hi0 (by omega)
   rw [Nat.zero_add,e] at this
   exact this.irr
  ·have := e2 (i - (k1 - 1)) (by omega)
   rw [show k1 - 1 + (i - (k1 - 1)) = i by omega] at this
   rw [this,← l2]
   intro e
   have k := C2.ahead (k2 - 1 - (i - (k1 - 1))) (i - (k1 - 1)) (by omega) (by omega)
   rw [show i - (k1 - 1) + (k2 - 1 - (i - (k1 - 1))) = k2 - 1 by omega] at k
   simp only [e] at k
   exact k.irr
 ·obtain ⟨j,hj,e⟩ := cov r hr
  rw [e]
  unfold nx
  by_cases hi1 : i + 1 < k1 - 1
  ·rw [Nat.mod_eq_of_lt (by omega),e1 i (by omega),e1 _ hi1]
   exact C1.edge i (by omega) j hj
  ·by_cases hi2 : i + 1 = k1 - 1
   ·have e3 := e2 0 (by omega)
    rw [Nat.add_zero] at e3
    rw [Nat.mod_eq_of_lt (by omega),hi2,e3,f2,← l1,e1 i (by omega)]
    have := C1.edge i (by omega) j hj
    rwa [show i + 1 = k1 - 1 by omega] at this
   ·have e4 := e2 (i - (k1 - 1)) (by omega)
    rw [show k1 - 1 + (i - (k1 - 1)) = i by omega] at e4
    by_cases hi3 : i + 1 < k1 - 1 + (k2 - 1)
    ·have e5 := e2 (i + 1 - (k1 - 1)) (by omega)
     rw [show k1 - 1 + (i + 1 - (k1 - 1)) = i + 1 by omega] at e5
     rw [Nat.mod_eq_of_lt hi3,e4,e5,show i + 1 - (k1 - 1) = (i - (k1 - 1)) + 1 by omega]
     exact ed2 _ (by omega) j hj
    ·rw [show i + 1 = k1 - 1 + (k2 - 1) by omega,Nat.mod_self,e4,h00,← l2]
     have := ed2 (i - (k1 - 1)) (by omega) j hj
     rwa [show i - (k1 - 1) + 1 = k2 - 1 by omega] at this
theorem hul_two (h01 : fw (P 0) (P 1)) (cov : ∀ r,r < n → ∃ j,j < 2 ∧ p r = P j) (bck : ∀ j,j < 2 → ∃ r,r < n ∧ P j = p r) : Hul n p 2 P:=by
 have z : ∀ a b : Pt,On a a b ∧ On b a b:=fun a b => ⟨⟨by unfold cross;grind,by unfold btw;omega,by unfold btw;omega⟩,⟨by unfold cross;grind,by unfold btw;omega,by unfold btw;omega⟩⟩
 refine ⟨by omega,fun r hr => ?_,fun i hi => bck i hi,fun i hi0 hi e => ?_,fun _ i hi r hr => ?_,fun hm => by omega⟩
 ·obtain ⟨j,hj,e⟩ := cov r hr
  rw [e]
  match j,hj with
  | 0,_ => exact .inl rfl
  | 1,_ => exact .inr h01
 ·have : i = 1:=by omega
  subst this
  rw [e] at h01
  exact h01.irr
 ·obtain ⟨j,hj,e⟩ := cov r hr
  rw [e]
  match i,hi,j,hj with
  | 0,_,0,_ => exact .inr (z _ _).1
  | 0,_,1,_ => exact .inr (z _ _).2
  | 1,_,0,_ => exact .inr (z _ _).2
  | 1,_,1,_ => exact .inr (z _ _).1
theorem hul_one (hn : 0 < n) (cov : ∀ r,r < n → p r = P 0) : Hul n p 1 P :=
 ⟨by omega,fun r hr => .inl (cov r hr).symm,fun i hi => ⟨0,hn,by rw [cov 0 hn];congr 1;omega⟩,fun i h1 h2 => by omega,fun h => by omega,fun _ r hr => cov r hr⟩
end
end Geo
/-
 The first moment of a simple polygon that lies on one side of a line.
-/
set_option linter.all false
namespace Geo
def mxp (n : Nat) (p : Nat → Pt) (i : Nat) : Int:=((p i).1 + (p (nx n i)).1) * ((p i).1 * (p (nx n i)).2 - (p (nx n i)).1 * (p i).2)
def myp (n : Nat) (p : Nat → Pt) (i : Nat) : Int:=((p i).2 + (p (nx n i)).2) * ((p i).1 * (p (nx n i)).2 - (p (nx n i)).1 * (p i).2)
theorem qsum (c σ : Int) (S : Nat) : ∀ m : Nat,3 * sm m (fun s => (2 * ((s : Int) - S) + 1) * (c + σ * (2 * ((s : Int) - S) + 1))) = 3 * c * ((m : Int) * m - 2 * S * m) + σ * (4 * m * m * m - m - 12 * S * m * m + 12 * S * S * m)
 | 0 => by simp [sm]
 | m + 1 => by
  rw [sm,Int.mul_add,qsum c σ S m]
  grind
theorem Lev.edge_moment {n : Nat} {L : Lev n} (F : L.Fine) {e : Nat} (he : e < n) (S : Nat) (hS : ∀ i,i < n → -(2 * S : Int) ≤ L.H i ∧ L.H i ≤ 2 * S) :
  12 * sm (2 * S) (fun s => (2 * ((s : Int) - S) + 1) * (L.da e (2 * ((s : Int) - S) + 1) * L.X e (2 * ((s : Int) - S) + 1))) = (L.H (nx n e) - L.H e) * (L.H e * (2 * L.V e + L.V (nx n e)) + L.H (nx n e) * (L.V e + 2 * L.V (nx n e))) - 2 * (L.V (nx n e) - L.V e):=by
 have hx : nx n e < n := nx_lt F.big
 obtain ⟨c,σ,hX⟩ := F.aff e he
 obtain ⟨q0,h0⟩ := F.even e
 obtain ⟨q1,h1⟩ := F.even (nx n e)
 have b0 := hS e he
 have b1 := hS _ hx
 have e1 : sm (2 * S) (fun s => (2 * ((s : Int) - S) + 1) * (L.da e (2 * ((s : Int) - S) + 1) * L.X e (2 * ((s : Int) - S) + 1))) =
   sm (2 * S) (fun s => (if 2 * ((s : Int) - S) + 1 < 2 * q1 then 1 else 0) * ((2 * ((s : Int) - S) + 1) * (c + σ * (2 * ((s : Int) - S) + 1)))) - sm (2 * S) (fun s => (if 2 * ((s : Int) - S) + 1 < 2 * q0 then 1 else 0) * ((2 * ((s : Int) - S) + 1) * (c + σ * (2 * ((s : Int) - S) + 1)))):=by
  rw [← sm_sub]
  refine sm_congr fun s _ => ?_
  unfold Lev.da Lev.g
  rw [hX,h0,h1]
  split <;> split <;> grind
 have s0 := F.start e he
 have s1 := F.stop e he
 rw [hX,h0] at s0
 rw [hX,h1] at s1
 rw [e1,cut S q1 (by omega) (by omega),cut S q0 (by omega) (by omega),← s0,← s1,h0,h1]
 have k1 := qsum c σ S (q1 + S).toNat
 have k0 := qsum c σ S (q0 + S).toNat
 have t1 : ((q1 + S).toNat : Int) = q1 + S:=by omega
 have t0 : ((q0 + S).toNat : Int) = q0 + S:=by omega
 rw [t1] at k1
 rw [t0] at k0
 grind
theorem exists_grid1 {n : Nat} {p : Nat → Pt} (S : Simple n p) (K0 : Int) : ∃ K M T R,K0 ≤ K ∧ Grd K M T R n p:=by
 obtain ⟨B,hB⟩ := bounded n p
 obtain ⟨K,hK⟩ : ∃ K : Int,K = 4 * B + 1 + (K0.natAbs : Int) := ⟨_,rfl⟩
 have hb := S.big
 have hdist : ∀ i j,i < n → j < n → i ≠ j → gh K p i ≠ gh K p j:=by
  intro i j hi hj hne h0
  have b1 := hB i hi
  have b2 := hB j hj
  unfold gh ht at h0
  have h1 : K * ((p i).2 - (p j).2) = (p j).1 - (p i).1:=by grind
  have h2 : (p i).2 = (p j).2:=by
   rcases Int.lt_trichotomy 0 ((p i).2 - (p j).2) with g | g | g
   ·have : K * 1 ≤ K * ((p i).2 - (p j).2) := Int.mul_le_mul_of_nonneg_left (by omega) (by omega)
    omega
   ·omega
   ·have : K * 1 ≤ K * -((p i).2 - (p j).2) := Int.mul_le_mul_of_nonneg_left (by omega) (by omega)
    have e : K * -((p i).2 - (p j).2) = - (K * ((p i).2 - (p j).2)) := Int.mul_neg _ _
    omega
  have h3 : (p i).1 = (p j).1:=by rw [h2] at h1;grind
  exact S.dist i j hi hj hne (Prod.ext h3 h2)
 obtain ⟨M,hM0,hM⟩ : ∃ M : Int,0 < M ∧ ∀ e,e < n → (gh K p (nx n e) - gh K p e) ∣ M:=by
  refine ⟨pr n fun e => (gh K p (nx n e) - gh K p e) * (gh K p (nx n e) - gh K p e),pr_pos fun e he => ?_,fun e he => ?_⟩
  ·have hne := hdist (nx n e) e (nx_lt hb) he (nx_ne hb he)
   rcases Int.lt_or_lt_of_ne hne with g | g
   ·have := Int.mul_pos (show 0 < -(gh K p (nx n e) - gh K p e) by omega) (show 0 < -(gh K p (nx n e) - gh K p e) by omega)
    grind
   ·exact Int.mul_pos (by omega) (by omega)
  ·obtain ⟨q,hq⟩ := pr_dvd (f:=fun e => (gh K p (nx n e) - gh K p e) * (gh K p (nx n e) - gh K p e)) he
   rw [← hq]
   exact ⟨q * (gh K p (nx n e) - gh K p e),by grind⟩
 obtain ⟨T,hT⟩ : ∃ T : Nat,∀ i,i < n → -(2 * T : Int) ≤ gh K p i ∧ gh K p i ≤ 2 * T:=by
  obtain ⟨B,hB⟩ := nat_bound n (gh K p)
  exact ⟨B,fun i hi => by have := hB i hi;omega⟩
 have hR : ∀ m : Nat,∃ R : Nat,∀ s,s < m → ∀ e,e < n → -(R : Int) ≤ gX K M n p e (2 * ((s : Int) - T) + 1) ∧ gX K M n p e (2 * ((s : Int) - T) + 1) ≤ R:=by
  intro m
  induction m with
  | zero => exact ⟨0,fun s hs => by omega⟩
  | succ m ih =>
   obtain ⟨A,hA⟩ := ih
   obtain ⟨B,hB⟩ := nat_bound n fun e => gX K M n p e (2 * ((m : Int) - T) + 1)
   refine ⟨A + B,fun s hs e he => ?_⟩
   by_cases q : s = m
   ·subst q;have := hB e he;omega
   ·have := hA s (by omega) e he;omega
 obtain ⟨R,hR⟩ := hR (2 * T)
 exact ⟨K,M,T,R,by omega,S,by omega,hM0,hdist,hM,hT,hR⟩
theorem sm_le {n : Nat} {f g : Nat → Int} (h : ∀ i,i < n → f i ≤ g i) : sm n f ≤ sm n g:=by
 have := sm_nonneg (n := n) (f:=fun i => g i - f i) (fun i hi => by have := h i hi;omega)
 rw [sm_sub] at this
 omega
theorem few (T : Nat) (t0 : Int) (h0 : 0 ≤ t0) : ∀ m : Nat,sm m (fun s => if 0 < 2 * ((s : Int) - T) + 1 ∧ 2 * ((s : Int) - T) + 1 < t0 then 1 else 0) ≤ (if (m : Int) ≤ T then 0 else if (m : Int) - T ≤ t0 then (m : Int) - T else t0)
 | 0 => by rw [if_pos (by omega)];exact Int.le_refl _
 | m + 1 => by
  have ih := few T t0 h0 m
  rw [sm]
  split <;> (split at ih <;> split <;> (try split at ih) <;> (try split) <;> omega)
theorem sm_const (n : Nat) (c : Int) : sm n (fun _ => c) = n * c:=by
 induction n with
 | zero => simp [sm]
 | succ n ih => rw [sm,ih];grind
theorem Grd.round_one {K M : Int} {T R n : Nat} {p : Nat → Pt} (G : Grd K M T R n p) {c : Int} (hc : ∀ e,e < n → ∀ k,(gL K M n p).rng e (2 * k + 1) → (gL K M n p).r e (2 * k + 1) + (gL K M n p).up e = c) (hA : 0 < area n p) : c = 1:=by
 obtain ⟨hc01,h⟩ := grid_area_c G hc
 have hn := gcount_nonneg K M T R n p
 rw [sm_congr (fun s _ => sm_mul (2 * R) (2 * c - 1) fun j => gp K M T R n p s j),sm_mul] at h
 have e' : 2 * M * K * area n p = 4 * ((2 * c - 1) * gcount K M T R n p) := h
 have hD : 0 < 2 * M * K := Int.mul_pos (by have := G.mp;omega) G.kp
 have := Int.mul_pos hD hA
 rcases hc01 with q | q
 ·rw [q] at e';omega
 ·exact q
def lsum (K M : Int) (T n : Nat) (p : Nat → Pt) (s : Nat) : Int := sm n fun e => (gL K M n p).da e (2 * ((s : Int) - T) + 1) * (gL K M n p).X e (2 * ((s : Int) - T) + 1)
theorem lsum_area {K M : Int} {T R n : Nat} {p : Nat → Pt} (G : Grd K M T R n p) : 2 * sm (2 * T) (lsum K M T n p) = M * K * area n p:=by
 have F := G.fine
 have hS : ∀ i,i < n → -(2 * T : Int) ≤ (gL K M n p).H i ∧ (gL K M n p).H i ≤ 2 * T := G.lev
 have e1 : sm n (fun e => ((gL K M n p).H (nx n e) - (gL K M n p).H e) * ((gL K M n p).V e + (gL K M n p).V (nx n e))) = 4 * sm (2 * T) (lsum K M T n p):=by
  unfold lsum
  rw [← sm_swap n (2 * T) (fun e s => (gL K M n p).da e (2 * ((s : Int) - T) + 1) * (gL K M n p).X e (2 * ((s : Int) - T) + 1)),← sm_mul]
  exact sm_congr fun e he => ((gL K M n p).edge_area F he T hS).symm
 have e3 : sm n (fun e => ((gL K M n p).H (nx n e) - (gL K M n p).H e) * ((gL K M n p).V e + (gL K M n p).V (nx n e))) = sm n fun e => (2 * M * K) * ((p e).1 * (p (nx n e)).2 - (p (nx n e)).1 * (p e).2) + ((fun j => M * (2 * ((p j).1 * (p j).1) + 2 * K * ((p j).1 * (p j).2))) (nx n e) - (fun j => M * (2 * ((p j).1 * (p j).1) + 2 * K * ((p j).1 * (p j).2))) e):=by
  refine sm_congr fun e _ => ?_
  show (ht 2 (2 * K) (p (nx n e)) - ht 2 (2 * K) (p e)) * (M * (p e).1 + M * (p (nx n e)).1) = _
  unfold ht
  dsimp only
  grind
 have cyc := sm_cycle n fun j => M * (2 * ((p j).1 * (p j).1) + 2 * K * ((p j).1 * (p j).2))
 have cyc' : sm n (fun e => (fun j => M * (2 * ((p j).1 * (p j).1) + 2 * K * ((p j).1 * (p j).2))) (nx n e) - (fun j => M * (2 * ((p j).1 * (p j).1) + 2 * K * ((p j).1 * (p j).2))) e) = 0 := cyc
 rw [e3,sm_add,sm_mul,cyc'] at e1
 have : sm n (fun e => (p e).1 * (p (nx n e)).2 - (p (nx n e)).1 * (p e).2) = area n p := rfl
 rw [this] at e1
 have e4 : 2 * M * K * area n p = 2 * (M * K * area n p):=by grind
 omega
theorem lsum_moment {K M : Int} {T R n : Nat} {p : Nat → Pt} (G : Grd K M T R n p) : 3 * sm (2 * T) (fun s => (2 * ((s : Int) - T) + 1) * lsum K M T n p s) = M * K * (sm n (mxp n p) + K * sm n (myp n p)):=by
 have F := G.fine
 have hS : ∀ i,i < n → -(2 * T : Int) ≤ (gL K M n p).H i ∧ (gL K M n p).H i ≤ 2 * T := G.lev
 have e1 : sm n (fun e => ((gL K M n p).H (nx n e) - (gL K M n p).H e) * ((gL K M n p).H e * (2 * (gL K M n p).V e + (gL K M n p).V (nx n e)) + (gL K M n p).H (nx n e) * ((gL K M n p).V e + 2 * (gL K M n p).V (nx n e))) - 2 * ((gL K M n p).V (nx n e) - (gL K M n p).V e)) = 12 * sm (2 * T) (fun s => (2 * ((s : Int) - T) + 1) * lsum K M T n p s):=by
  have : sm (2 * T) (fun s => (2 * ((s : Int) - T) + 1) * lsum K M T n p s) = sm (2 * T) (fun s => sm n fun e => (2 * ((s : Int) - T) + 1) * ((gL K M n p).da e (2 * ((s : Int) - T) + 1) * (gL K M n p).X e (2 * ((s : Int) - T) + 1))):=by
   refine sm_congr fun s _ => ?_
   unfold lsum
   rw [sm_mul]
  rw [this,← sm_swap n (2 * T) (fun e s => (2 * ((s : Int) - T) + 1) * ((gL K M n p).da e (2 * ((s : Int) - T) + 1) * (gL K M n p).X e (2 * ((s : Int) - T) + 1))),← sm_mul]
  exact sm_congr fun e he => ((gL K M n p).edge_moment F he T hS).symm
 have e3 : sm n (fun e => ((gL K M n p).H (nx n e) - (gL K M n p).H e) * ((gL K M n p).H e * (2 * (gL K M n p).V e + (gL K M n p).V (nx n e)) + (gL K M n p).H (nx n e) * ((gL K M n p).V e + 2 * (gL K M n p).V (nx n e))) - 2 * ((gL K M n p).V (nx n e) - (gL K M n p).V e)) =
   sm n fun e => (4 * M * K) * (mxp n p e + K * myp n p e) + ((fun j => M * (8 * ((p j).1 * (p j).1 * (p j).1) + 16 * K * ((p j).1 * (p j).1 * (p j).2) + 8 * K * K * ((p j).1 * (p j).2 * (p j).2) - 2 * (p j).1)) (nx n e) - (fun j => M * (8 * ((p j).1 * (p j).1 * (p j).1) + 16 * K * ((p j).1 * (p j).1 * (p j).2) + 8 * K * K * ((p j).1 * (p j).2 * (p j).2) - 2 * (p j).1)) e):=by
  refine sm_congr fun e _ => ?_
  show (ht 2 (2 * K) (p (nx n e)) - ht 2 (2 * K) (p e)) * (ht 2 (2 * K) (p e) * (2 * (M * (p e).1) + M * (p (nx n e)).1) + ht 2 (2 * K) (p (nx n e)) * (M * (p e).1 + 2 * (M * (p (nx n e)).1))) - 2 * (M * (p (nx n e)).1 - M * (p e).1) = _
  unfold ht mxp myp
  dsimp only
  grind
 have cyc : sm n (fun e => (fun j => M * (8 * ((p j).1 * (p j).1 * (p j).1) + 16 * K * ((p j).1 * (p j).1 * (p j).2) + 8 * K * K * ((p j).1 * (p j).2 * (p j).2) - 2 * (p j).1)) (nx n e) - (fun j => M * (8 * ((p j).1 * (p j).1 * (p j).1) + 16 * K * ((p j).1 * (p j).1 * (p j).2) + 8 * K * K * ((p j).1 * (p j).2 * (p j).2) - 2 * (p j).1)) e) = 0 := sm_cycle n fun j => M * (8 * ((p j).1 * (p j).1 * (p j).1) + 16 * K * ((p j).1 * (p j).1 * (p j).2) + 8 * K * K * ((p j).1 * (p j).2 * (p j).2) - 2 * (p j).1)
 rw [e3,sm_add,sm_mul,cyc,sm_add,sm_mul] at e1
 have e4 : 4 * M * K * (sm n (mxp n p) + K * sm n (myp n p)) = 4 * (M * K * (sm n (mxp n p) + K * sm n (myp n p))):=by grind
 have e5 : sm n (fun i => mxp n p i) = sm n (mxp n p) := rfl
 have e6 : sm n (fun i => myp n p i) = sm n (myp n p) := rfl
 rw [e5,e6] at e1
 omega
theorem mom_pos {n : Nat} {p : Nat → Pt} (S : Simple n p) (hA : 0 < area n p) (hx : ∀ i,i < n → 0 ≤ (p i).1) (hy : ∀ i,i < n → 0 ≤ (p i).2) : 0 < sm n (myp n p):=by
 obtain ⟨B,hB⟩ := bounded n p
 rcases Int.lt_or_le 0 (sm n (myp n p)) with hgoal | hneg
 ·exact hgoal
 exfalso
 obtain ⟨t0,ht0⟩ : ∃ t0 : Int,t0 = ((sm n (mxp n p)).natAbs : Int) + 1 := ⟨_,rfl⟩
 obtain ⟨K,M,T,R,hK,G⟩ := exists_grid1 S (6 * (t0 * t0 * (n * B)) + 1)
 have F := G.fine
 have hb := F.big
 have hK0 := G.kp
 have hM0 := G.mp
 obtain ⟨c,hc⟩:=(gL K M n p).all_round F
 have hc1 := G.round_one hc hA
 have hH : ∀ i,i < n → 0 ≤ (gL K M n p).H i:=by
  intro i hi
  show 0 ≤ ht 2 (2 * K) (p i)
  unfold ht
  have := Int.mul_nonneg (show 0 ≤ 2 * K by omega) (hy i hi)
  have := hx i hi
  omega
 -- what a level holds
 have pos : ∀ s,0 ≤ lsum K M T n p s:=fun s => ((gL K M n p).level_pos F hc ((s : Int) - T)).1 hc1
 have zero : ∀ s : Nat,2 * ((s : Int) - T) + 1 < 0 → lsum K M T n p s = 0:=by
  intro s hs
  unfold lsum
  rw [sm_congr (g:=fun _ => 0) (fun e he => ?_),sm_zero]
  have h1 := hH e he
  have h2 := hH (nx n e) (nx_lt hb)
  unfold Lev.da Lev.g
  rw [if_pos (by omega),if_pos (by omega)]
  omega
 have hMB : 0 ≤ M * B := Int.mul_nonneg (by omega) (by omega)
 have bound : ∀ s,lsum K M T n p s ≤ n * (M * B):=by
  intro s
  rw [← sm_const]
  refine sm_le fun e he => ?_
  by_cases hd : (gL K M n p).da e (2 * ((s : Int) - T) + 1) = 0
  ·rw [hd];omega
  ·have hr := Lev.da_odd hd
   have hx' : nx n e < n := nx_lt hb
   obtain ⟨c0,σ,hX⟩ := F.aff e he
   have s0 := F.start e he
   have s1 := F.stop e he
   have hne := F.inj e (nx n e) he hx' (fun h => nx_ne hb he h.symm)
   have v0 : (gL K M n p).V e = M * (p e).1 := rfl
   have v1 : (gL K M n p).V (nx n e) = M * (p (nx n e)).1 := rfl
   rw [hX,v0] at s0
   rw [hX,v1] at s1
   have u0 := Int.mul_nonneg (show 0 ≤ M by omega) (hx e he)
   have u1 := Int.mul_nonneg (show 0 ≤ M by omega) (hx _ hx')
   have w0 : M * (p e).1 ≤ M * B := Int.mul_le_mul_of_nonneg_left (hB e he).2.1 (by omega)
   have w1 : M * (p (nx n e)).1 ≤ M * B := Int.mul_le_mul_of_nonneg_left (hB _ hx').2.1 (by omega)
   rw [hX]
   unfold Lev.rng at hr
   generalize 2 * ((s : Int) - T) + 1 = t at *
   generalize (gL K M n p).H e = a at *
   generalize (gL K M n p).H (nx n e) = b at *
   generalize M * (p e).1 = v at *
   generalize M * (p (nx n e)).1 = v' at *
   generalize M * (B : Int) = W at *
   have hdv : (gL K M n p).da e t = 1 ∨ (gL K M n p).da e t = -1:=by
    unfold Lev.da Lev.g at hd ⊢
    split <;> split <;> first | omega | (exfalso;revert hd;simp_all)
   have key : 0 ≤ c0 + σ * t ∧ c0 + σ * t ≤ W:=by
    have e1 : (b - a) * (c0 + σ * t) = (b - t) * v + (t - a) * v':=by rw [← s0,← s1];grind
    have e2 : (b - a) * (W - (c0 + σ * t)) = (b - t) * (W - v) + (t - a) * (W - v'):=by rw [← s0,← s1];grind
    rcases hr with ⟨r1,r2⟩ | ⟨r1,r2⟩
    ·have q1 := Int.mul_nonneg (show 0 ≤ b - t by omega) u0
     have q2 := Int.mul_nonneg (show 0 ≤ t - a by omega) u1
     have q3 := Int.mul_nonneg (show 0 ≤ b - t by omega) (show 0 ≤ W - v by omega)
     have q4 := Int.mul_nonneg (show 0 ≤ t - a by omega) (show 0 ≤ W - v' by omega)
     have z1 : 0 ≤ c0 + σ * t:=by
      rcases Int.lt_or_le (c0 + σ * t) 0 with k | k
      ·have := Int.mul_pos (show 0 < b - a by omega) (show 0 < -(c0 + σ * t) by omega)
       rw [Int.mul_neg] at this;omega
      ·exact k
     have z2 : 0 ≤ W - (c0 + σ * t):=by
      rcases Int.lt_or_le (W - (c0 + σ * t)) 0 with k | k
      ·have := Int.mul_pos (show 0 < b - a by omega) (show 0 < -(W - (c0 + σ * t)) by omega)
       rw [Int.mul_neg] at this;omega
      ·exact k
     omega
    ·have q1 := Int.mul_nonneg (show 0 ≤ t - b by omega) u0
     have q2 := Int.mul_nonneg (show 0 ≤ a - t by omega) u1
     have q3 := Int.mul_nonneg (show 0 ≤ t - b by omega) (show 0 ≤ W - v by omega)
     have q4 := Int.mul_nonneg (show 0 ≤ a - t by omega) (show 0 ≤ W - v' by omega)
     have f1 : (a - b) * (c0 + σ * t) = (t - b) * v + (a - t) * v':=by grind
     have f2 : (a - b) * (W - (c0 + σ * t)) = (t - b) * (W - v) + (a - t) * (W - v'):=by grind
     have z1 : 0 ≤ c0 + σ * t:=by
      rcases Int.lt_or_le (c0 + σ * t) 0 with k | k
      ·have := Int.mul_pos (show 0 < a - b by omega) (show 0 < -(c0 + σ * t) by omega)
       rw [Int.mul_neg] at this;omega
      ·exact k
     have z2 : 0 ≤ W - (c0 + σ * t):=by
      rcases Int.lt_or_le (W - (c0 + σ * t)) 0 with k | k
      ·have := Int.mul_pos (show 0 < a - b by omega) (show 0 < -(W - (c0 + σ * t)) by omega)
       rw [Int.mul_neg] at this;omega
      ·exact k
     omega
   rcases hdv with h | h <;> rw [h] <;> omega
 have S0 := lsum_area G
 have S1 := lsum_moment G
 have step : ∀ s,s < 2 * T → t0 * lsum K M T n p s - t0 * (n * (M * B)) * (if 0 < 2 * ((s : Int) - T) + 1 ∧ 2 * ((s : Int) - T) + 1 < t0 then 1 else 0) ≤ (2 * ((s : Int) - T) + 1) * lsum K M T n p s:=by
  intro s _
  have h1 := pos s
  have h2 := bound s
  by_cases hn : 2 * ((s : Int) - T) + 1 < 0
  ·rw [zero s hn,if_neg (by omega)];omega
  ·by_cases hlt : 2 * ((s : Int) - T) + 1 < t0
   ·rw [if_pos ⟨by omega,hlt⟩]
    have k1 := Int.mul_nonneg (show 0 ≤ 2 * ((s : Int) - T) + 1 by omega) h1
    have k2 : t0 * lsum K M T n p s ≤ t0 * (n * (M * B)) := Int.mul_le_mul_of_nonneg_left h2 (by omega)
    omega
   ·rw [if_neg (by omega)]
    have k1 : t0 * lsum K M T n p s ≤ (2 * ((s : Int) - T) + 1) * lsum K M T n p s := Int.mul_le_mul_of_nonneg_right (by omega) h1
    omega
 have tot := sm_le step
 rw [sm_sub,sm_mul,sm_mul] at tot
 have hfew : sm (2 * T) (fun s => if 0 < 2 * ((s : Int) - T) + 1 ∧ 2 * ((s : Int) - T) + 1 < t0 then 1 else 0) ≤ t0:=by
  have := few T t0 (by omega) (2 * T)
  split at this
  ·omega
  ·split at this <;> omega
 have e0 : sm (2 * T) (fun s => lsum K M T n p s) = sm (2 * T) (lsum K M T n p) := rfl
 rw [e0] at tot
 generalize sm (2 * T) (lsum K M T n p) = A0 at *
 generalize sm (2 * T) (fun s => (2 * ((s : Int) - T) + 1) * lsum K M T n p s) = A1 at *
 generalize sm (2 * T) (fun s => if 0 < 2 * ((s : Int) - T) + 1 ∧ 2 * ((s : Int) - T) + 1 < t0 then 1 else 0) = ct at *
 have hnMB : 0 ≤ (n : Int) * (M * B) := Int.mul_nonneg (by omega) hMB
 have c1 : t0 * (n * (M * B)) * ct ≤ t0 * (n * (M * B)) * t0 := Int.mul_le_mul_of_nonneg_left hfew (Int.mul_nonneg (by omega) hnMB)
 have hMK : 0 < M * K := Int.mul_pos hM0 hK0
 have c2 : M * K * (sm n (mxp n p) + K * sm n (myp n p)) ≤ M * K * sm n (mxp n p):=by
  refine Int.mul_le_mul_of_nonneg_left ?_ (by omega)
  have := Int.mul_nonneg (show 0 ≤ K by omega) (show 0 ≤ - sm n (myp n p) by omega)
  rw [Int.mul_neg] at this
  omega
 have c3 : M * K * 1 ≤ M * K * area n p := Int.mul_le_mul_of_nonneg_left (by omega) (by omega)
 have c4 : t0 * (M * K) ≤ t0 * (2 * A0) := Int.mul_le_mul_of_nonneg_left (by omega) (by omega)
 -- 3 t0 M K <= 6 t0 A0 <= 6 A1 + 6 t0^2 n M B <= 2 M K MX + 6 t0^2 n M B
 have d1 : 3 * (t0 * (M * K)) ≤ 2 * (M * K * sm n (mxp n p)) + 6 * (t0 * (n * (M * B)) * t0):=by
  have : t0 * (2 * A0) = 2 * (t0 * A0):=by grind
  omega
 have d2 : M * (K * (3 * t0 - 2 * sm n (mxp n p))) ≤ M * (6 * (t0 * t0 * (n * B))):=by
  have q1 : M * (K * (3 * t0 - 2 * sm n (mxp n p))) = 3 * (t0 * (M * K)) - 2 * (M * K * sm n (mxp n p)):=by grind
  have q2 : M * (6 * (t0 * t0 * (n * B))) = 6 * (t0 * (n * (M * B)) * t0):=by grind
  omega
 have d3 : K * (3 * t0 - 2 * sm n (mxp n p)) ≤ 6 * (t0 * t0 * (n * B)) := Int.le_of_mul_le_mul_left d2 hM0
 have d4 : K * 1 ≤ K * (3 * t0 - 2 * sm n (mxp n p)) := Int.mul_le_mul_of_nonneg_left (by omega) (by omega)
 omega
end Geo
/-
 The centroid of a simple polygon that lies on one side of a line lies on that side.
-/
set_option linter.all false
namespace Geo
theorem on_dot (q a b : Pt) : On q a b ↔ cross a b q = 0 ∧ (q.1 - a.1) * (q.1 - b.1) + (q.2 - a.2) * (q.2 - b.2) ≤ 0:=by
 have np : ∀ u v w : Int,btw u v w ↔ (w - u) * (w - v) ≤ 0:=by
  intro u v w
  unfold btw
  constructor
  ·rintro (⟨h1,h2⟩ | ⟨h1,h2⟩)
   ·have := Int.mul_nonneg (show 0 ≤ w - u by omega) (show 0 ≤ v - w by omega)
    have e : (w - u) * (v - w) = - ((w - u) * (w - v)):=by grind
    omega
   ·have := Int.mul_nonneg (show 0 ≤ u - w by omega) (show 0 ≤ w - v by omega)
    have e : (u - w) * (w - v) = - ((w - u) * (w - v)):=by grind
    omega
  ·intro h
   rcases Int.lt_or_le w u with h1 | h1
   ·rcases Int.lt_or_le w v with h2 | h2
    ·have := Int.mul_pos (show 0 < u - w by omega) (show 0 < v - w by omega)
     have e : (u - w) * (v - w) = (w - u) * (w - v):=by grind
     omega
    ·omega
   ·rcases Int.lt_or_le v w with h2 | h2
    ·rcases Int.lt_or_le u w with h3 | h3
     ·have := Int.mul_pos (show 0 < w - u by omega) (show 0 < w - v by omega)
      omega
     ·omega
    ·omega
 unfold On
 rw [np,np]
 constructor
 ·rintro ⟨h1,h2,h3⟩;exact ⟨h1,by omega⟩
 ·rintro ⟨h1,h2⟩
  refine ⟨h1,?_⟩
  have hc := h1
  unfold cross at hc
  -- the two products are proportional to squares
  have e1 : (b.1 - a.1) * (b.1 - a.1) * ((q.2 - a.2) * (q.2 - b.2)) = (b.2 - a.2) * (b.2 - a.2) * ((q.1 - a.1) * (q.1 - b.1)):=by
   have k1 : (b.1 - a.1) * (q.2 - a.2) = (b.2 - a.2) * (q.1 - a.1):=by omega
   have k2 : (b.1 - a.1) * (q.2 - b.2) = (b.2 - a.2) * (q.1 - b.1):=by grind
   have : (b.1 - a.1) * (b.1 - a.1) * ((q.2 - a.2) * (q.2 - b.2)) = ((b.1 - a.1) * (q.2 - a.2)) * ((b.1 - a.1) * (q.2 - b.2)):=by grind
   rw [this,k1,k2];grind
  have sq : ∀ z : Int,0 ≤ z * z:=fun z => by
   rcases Int.lt_or_le z 0 with h | h
   ·have := Int.mul_pos (show 0 < -z by omega) (show 0 < -z by omega)
    have e : -z * -z = z * z:=by grind
    omega
   ·exact Int.mul_nonneg h h
  have sqp : ∀ z : Int,z ≠ 0 → 0 < z * z:=fun z hz => by
   rcases Int.lt_or_le z 0 with h | h
   ·have := Int.mul_pos (show 0 < -z by omega) (show 0 < -z by omega)
    have e : -z * -z = z * z:=by grind
    omega
   ·exact Int.mul_pos (by omega) (by omega)
  by_cases h0 : b.1 - a.1 = 0
  ·by_cases h00 : b.2 - a.2 = 0
   ·have ea : b.1 = a.1:=by omega
    have eb : b.2 = a.2:=by omega
    rw [ea,eb] at h2 ⊢
    have := sq (q.1 - a.1)
    have := sq (q.2 - a.2)
    omega
   ·rw [h0] at e1
    have hp := sqp _ h00
    have : (b.2 - a.2) * (b.2 - a.2) * ((q.1 - a.1) * (q.1 - b.1)) = 0:=by rw [← e1];grind
    rcases Int.mul_eq_zero.1 this with k | k
    ·omega
    ·omega
  ·have hp := sqp _ h0
   have hq := sq (b.2 - a.2)
   generalize (q.2 - a.2) * (q.2 - b.2) = Y at *
   generalize (q.1 - a.1) * (q.1 - b.1) = X at *
   generalize (b.1 - a.1) * (b.1 - a.1) = P at *
   generalize (b.2 - a.2) * (b.2 - a.2) = Q at *
   rcases Int.lt_or_le 0 X with hX | hX
   ·exfalso
    have k1 := Int.mul_nonneg hq (show 0 ≤ X by omega)
    have k2 : 0 ≤ Y := nonneg_ofm hp (by omega)
    omega
   ·refine ⟨hX,?_⟩
    rcases Int.lt_or_le 0 Y with hY | hY
    ·exfalso
     have k1 := Int.mul_pos hp hY
     have k2 := Int.mul_nonneg hq (show 0 ≤ -X by omega)
     rw [Int.mul_neg] at k2
     omega
    ·exact hY
theorem simple_of {A : Pt → Pt} {d : Int} (hd : 0 < d) (hc : ∀ a b c,cross (A a) (A b) (A c) = d * cross a b c) (ho : ∀ q a b,On (A q) (A a) (A b) ↔ On q a b) (hi : ∀ a b,A a = A b → a = b) {n : Nat} {p : Nat → Pt} (S : Simple n p) : Simple n (fun i => A (p i)) :=
 ⟨S.big,fun i j hi' hj hne e => S.dist i j hi' hj hne (hi _ _ e),fun e he => ⟨fun h => (S.corner e he).1 ((ho _ _ _).1 h),fun h => (S.corner e he).2 ((ho _ _ _).1 h)⟩,
  fun e i he hi' h1 h2 h3 hm => S.apart e i he hi' h1 h2 h3 ((meet_of hd hc ho _ _ _ _).1 hm)⟩
def cf (d1 d2 : Int) (q : Pt) : Pt:=(d1 * q.1 + d2 * q.2,d1 * q.2 - d2 * q.1)
theorem cross_cf (d1 d2 : Int) (a b c : Pt) : cross (cf d1 d2 a) (cf d1 d2 b) (cf d1 d2 c) = (d1 * d1 + d2 * d2) * cross a b c:=by unfold cf cross;grind
theorem on_cf {d1 d2 : Int} (hd : 0 < d1 * d1 + d2 * d2) (q a b : Pt) : On (cf d1 d2 q) (cf d1 d2 a) (cf d1 d2 b) ↔ On q a b:=by
 rw [on_dot,on_dot,cross_cf]
 have e : ((cf d1 d2 q).1 - (cf d1 d2 a).1) * ((cf d1 d2 q).1 - (cf d1 d2 b).1) + ((cf d1 d2 q).2 - (cf d1 d2 a).2) * ((cf d1 d2 q).2 - (cf d1 d2 b).2) = (d1 * d1 + d2 * d2) * ((q.1 - a.1) * (q.1 - b.1) + (q.2 - a.2) * (q.2 - b.2)):=by unfold cf;grind
 rw [e]
 generalize d1 * d1 + d2 * d2 = D at *
 generalize (q.1 - a.1) * (q.1 - b.1) + (q.2 - a.2) * (q.2 - b.2) = z at *
 constructor
 ·rintro ⟨h1,h2⟩
  refine ⟨(Int.mul_eq_zero.1 h1).resolve_left (by omega),?_⟩
  rcases Int.lt_or_le 0 z with h | h
  ·have := Int.mul_pos hd h;omega
  ·exact h
 ·rintro ⟨h1,h2⟩
  refine ⟨by rw [h1,Int.mul_zero],?_⟩
  have := Int.mul_nonneg (show 0 ≤ D by omega) (show 0 ≤ -z by omega)
  rw [Int.mul_neg] at this
  omega
theorem inj_cf {d1 d2 : Int} (hd : 0 < d1 * d1 + d2 * d2) (a b : Pt) (h : cf d1 d2 a = cf d1 d2 b) : a = b:=by
 have h1 : d1 * a.1 + d2 * a.2 = d1 * b.1 + d2 * b.2 := congrArg Prod.fst h
 have h2 : d1 * a.2 - d2 * a.1 = d1 * b.2 - d2 * b.1 := congrArg Prod.snd h
 have e1 : (d1 * d1 + d2 * d2) * (a.1 - b.1) = 0:=by grind
 have e2 : (d1 * d1 + d2 * d2) * (a.2 - b.2) = 0:=by grind
 have k1:=(Int.mul_eq_zero.1 e1).resolve_left (by omega)
 have k2:=(Int.mul_eq_zero.1 e2).resolve_left (by omega)
 exact Prod.ext (by omega) (by omega)
theorem mx_tr (dx dy : Int) {n : Nat} {p q : Nat → Pt} (h0 : 0 < n) (h : ∀ i,i < n → q i = ((p i).1 + dx,(p i).2 + dy)) : sm n (mxp n q) = sm n (mxp n p) + 3 * dx * area n p:=by
 have e : sm n (mxp n q) = sm n (fun i => (mxp n p i + 3 * dx * ((p i).1 * (p (nx n i)).2 - (p (nx n i)).1 * (p i).2)) + ((fun j => - dy * (p j).1 * (p j).1 + dx * (p j).1 * (p j).2 - 2 * dx * dy * (p j).1 + 2 * dx * dx * (p j).2) (nx n i) - (fun j => - dy * (p j).1 * (p j).1 + dx * (p j).1 * (p j).2 - 2 * dx * dy * (p j).1 + 2 * dx * dx * (p j).2) i)):=by
  refine sm_congr fun i hi => ?_
  have hx : nx n i < n := Nat.mod_lt _ h0
  unfold mxp
  rw [h i hi,h _ hx]
  dsimp only
  grind
 rw [e,sm_add,sm_add,sm_mul]
 have e2 : sm n (fun i => (fun j => - dy * (p j).1 * (p j).1 + dx * (p j).1 * (p j).2 - 2 * dx * dy * (p j).1 + 2 * dx * dx * (p j).2) (nx n i) - (fun j => - dy * (p j).1 * (p j).1 + dx * (p j).1 * (p j).2 - 2 * dx * dy * (p j).1 + 2 * dx * dx * (p j).2) i) = 0 := sm_cycle n (fun j => - dy * (p j).1 * (p j).1 + dx * (p j).1 * (p j).2 - 2 * dx * dy * (p j).1 + 2 * dx * dx * (p j).2)
 rw [e2,Int.add_zero]
 rfl
theorem my_tr (dx dy : Int) {n : Nat} {p q : Nat → Pt} (h0 : 0 < n) (h : ∀ i,i < n → q i = ((p i).1 + dx,(p i).2 + dy)) : sm n (myp n q) = sm n (myp n p) + 3 * dy * area n p:=by
 have e : sm n (myp n q) = sm n (fun i => (myp n p i + 3 * dy * ((p i).1 * (p (nx n i)).2 - (p (nx n i)).1 * (p i).2)) + ((fun j => dx * (p j).2 * (p j).2 - dy * (p j).1 * (p j).2 + 2 * dx * dy * (p j).2 - 2 * dy * dy * (p j).1) (nx n i) - (fun j => dx * (p j).2 * (p j).2 - dy * (p j).1 * (p j).2 + 2 * dx * dy * (p j).2 - 2 * dy * dy * (p j).1) i)):=by
  refine sm_congr fun i hi => ?_
  have hx : nx n i < n := Nat.mod_lt _ h0
  unfold myp
  rw [h i hi,h _ hx]
  dsimp only
  grind
 rw [e,sm_add,sm_add,sm_mul]
 have e2 : sm n (fun i => (fun j => dx * (p j).2 * (p j).2 - dy * (p j).1 * (p j).2 + 2 * dx * dy * (p j).2 - 2 * dy * dy * (p j).1) (nx n i) - (fun j => dx * (p j).2 * (p j).2 - dy * (p j).1 * (p j).2 + 2 * dx * dy * (p j).2 - 2 * dy * dy * (p j).1) i) = 0 := sm_cycle n (fun j => dx * (p j).2 * (p j).2 - dy * (p j).1 * (p j).2 + 2 * dx * dy * (p j).2 - 2 * dy * dy * (p j).1)
 rw [e2,Int.add_zero]
 rfl
theorem my_cf (d1 d2 : Int) (n : Nat) (p : Nat → Pt) : sm n (myp n (fun i => cf d1 d2 (p i))) = (d1 * d1 + d2 * d2) * (d1 * sm n (myp n p) - d2 * sm n (mxp n p)):=by
 have e : sm n (myp n (fun i => cf d1 d2 (p i))) = sm n (fun i => (d1 * d1 + d2 * d2) * (d1 * myp n p i - d2 * mxp n p i)):=by
  refine sm_congr fun i _ => ?_
  unfold myp mxp cf
  dsimp only
  grind
 rw [e,sm_mul,sm_sub,sm_mul,sm_mul]
theorem area_cf (d1 d2 : Int) (n : Nat) (p : Nat → Pt) : area n (fun i => cf d1 d2 (p i)) = (d1 * d1 + d2 * d2) * area n p:=by
 unfold area
 rw [← sm_mul]
 refine sm_congr fun i _ => ?_
 unfold cf
 dsimp only
 grind
theorem mom_side {n : Nat} {p : Nat → Pt} {a b : Pt} (S : Simple n p) (hA : 0 < area n p) (hne : a ≠ b) (hl : ∀ i,i < n → 0 ≤ cross a b (p i)) :
  0 < (b.1 - a.1) * (sm n (myp n p) - 3 * area n p * a.2) - (b.2 - a.2) * (sm n (mxp n p) - 3 * area n p * a.1):=by
 have hb := S.big
 obtain ⟨d1,hd1⟩ : ∃ d,d = b.1 - a.1 := ⟨_,rfl⟩
 obtain ⟨d2,hd2⟩ : ∃ d,d = b.2 - a.2 := ⟨_,rfl⟩
 have hD : 0 < d1 * d1 + d2 * d2:=by
  have sq : ∀ z : Int,0 ≤ z * z ∧ (z ≠ 0 → 0 < z * z):=fun z => by
   rcases Int.lt_or_le z 0 with h | h
   ·have := Int.mul_pos (show 0 < -z by omega) (show 0 < -z by omega)
    have e : -z * -z = z * z:=by grind
    exact ⟨by omega,fun _ => by omega⟩
   ·exact ⟨Int.mul_nonneg h h,fun hz => Int.mul_pos (by omega) (by omega)⟩
  have k1 := sq d1
  have k2 := sq d2
  by_cases h1 : d1 = 0
  ·have : d2 ≠ 0:=fun h2 => hne (Prod.ext (by omega) (by omega))
   have := k2.2 this
   omega
  ·have := k1.2 h1;omega
 rw [← hd1,← hd2]
 -- moved to a
 have R := rigid_tr (-a.1, -a.2)
 have S1 : Simple n (fun i => tr (-a.1, -a.2) (p i)) := R.simple.2 S
 have A1 : area n (fun i => tr (-a.1, -a.2) (p i)) = area n p:=by rw [R.area,Int.one_mul]
 have X1 := mx_tr (-a.1) (-a.2) (n := n) (p := p) (q:=fun i => tr (-a.1, -a.2) (p i)) (by omega) (fun i _ => rfl)
 have Y1 := my_tr (-a.1) (-a.2) (n := n) (p := p) (q:=fun i => tr (-a.1, -a.2) (p i)) (by omega) (fun i _ => rfl)
 -- turned
 have S2 := simple_of hD (cross_cf d1 d2) (on_cf hD) (inj_cf hD) S1
 have A2 := area_cf d1 d2 n (fun i => tr (-a.1, -a.2) (p i))
 have Y2 := my_cf d1 d2 n (fun i => tr (-a.1, -a.2) (p i))
 -- moved to the right
 obtain ⟨B,hB⟩ := bounded n (fun i => cf d1 d2 (tr (-a.1, -a.2) (p i)))
 have R3 := rigid_tr ((B : Int),0)
 have S3 : Simple n (fun i => tr ((B : Int),0) (cf d1 d2 (tr (-a.1, -a.2) (p i)))):=(R3.simple (p:=fun i => cf d1 d2 (tr (-a.1, -a.2) (p i)))).2 S2
 have A3 : area n (fun i => tr ((B : Int),0) (cf d1 d2 (tr (-a.1, -a.2) (p i)))) = area n (fun i => cf d1 d2 (tr (-a.1, -a.2) (p i))):=by
  have := R3.area n (fun i => cf d1 d2 (tr (-a.1, -a.2) (p i)))
  rw [Int.one_mul] at this;exact this
 have Y3 := my_tr (B : Int) 0 (n := n) (p:=fun i => cf d1 d2 (tr (-a.1, -a.2) (p i))) (q:=fun i => tr ((B : Int),0) (cf d1 d2 (tr (-a.1, -a.2) (p i)))) (by omega) (fun i _ => rfl)
 have fin := mom_pos S3 (by rw [A3,A2,A1];exact Int.mul_pos hD hA) (fun i hi => by
   have:=(hB i hi).1
   show 0 ≤ (cf d1 d2 (tr (-a.1, -a.2) (p i))).1 + (B : Int)
   omega) (fun i hi => by
   have := hl i hi
   have e : (tr ((B : Int),0) (cf d1 d2 (tr (-a.1, -a.2) (p i)))).2 = cross a b (p i):=by
    unfold tr cf cross
    dsimp only
    rw [hd1,hd2]
    grind
   rw [e];exact this)
 rw [Y3,Y2,X1,Y1] at fin
 have e : (d1 * d1 + d2 * d2) * (d1 * (sm n (myp n p) + 3 * -a.2 * area n p) - d2 * (sm n (mxp n p) + 3 * -a.1 * area n p)) + 3 * 0 * area n (fun i => cf d1 d2 (tr (-a.1, -a.2) (p i))) =
   (d1 * d1 + d2 * d2) * (d1 * (sm n (myp n p) - 3 * area n p * a.2) - d2 * (sm n (mxp n p) - 3 * area n p * a.1)):=by grind
 rw [e] at fin
 exact pos_ofm hD fin
theorem area_fan (n : Nat) (p : Nat → Pt) (o : Pt) : area n p = sm n fun i => cross o (p i) (p (nx n i)):=by
 have e : sm n (fun i => cross o (p i) (p (nx n i))) = sm n (fun i => ((p i).1 * (p (nx n i)).2 - (p (nx n i)).1 * (p i).2) + ((fun j => o.2 * (p j).1 - o.1 * (p j).2) (nx n i) - (fun j => o.2 * (p j).1 - o.1 * (p j).2) i)):=by
  refine sm_congr fun i _ => ?_
  unfold cross
  dsimp only
  grind
 have e2 : sm n (fun i => (fun j => o.2 * (p j).1 - o.1 * (p j).2) (nx n i) - (fun j => o.2 * (p j).1 - o.1 * (p j).2) i) = 0 := sm_cycle n (fun j => o.2 * (p j).1 - o.1 * (p j).2)
 rw [e,sm_add,e2,Int.add_zero]
 rfl
end Geo
