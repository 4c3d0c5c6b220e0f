/-
 Several texts in one.
-/
import Derived.Test.YtngjgbhdhaopmaaGeo1
/-
 The area of a simple polygon is not zero.
-/
namespace Geo
structure Simple (n : Nat) (p : Nat → Pt) : Prop where
 big : 3 ≤ n
 dist : ∀ i j,i < n → j < n → i ≠ j → p i ≠ p j
 corner : ∀ e,e < n → ¬ On (p (nx n (nx n e))) (p e) (p (nx n e)) ∧ ¬ On (p e) (p (nx n e)) (p (nx n (nx n e)))
 apart : ∀ e i,e < n → i < n → i ≠ e → i ≠ nx n e → nx n i ≠ e → ¬ Meet (p e) (p (nx n e)) (p i) (p (nx n i))
def area (n : Nat) (p : Nat → Pt) : Int := sm n fun i => (p i).1 * (p (nx n i)).2 - (p (nx n i)).1 * (p i).2
def pr : Nat → (Nat → Int) → Int
 | 0,_ => 1
 | n + 1,f => pr n f * f n
theorem pr_pos {n : Nat} {f : Nat → Int} (h : ∀ i,i < n → 0 < f i) : 0 < pr n f:=by
 induction n with
 | zero => exact Int.one_pos
 | succ n ih => exact Int.mul_pos (ih fun i hi => h i (by omega)) (h n (by omega))
theorem pr_dvd {n : Nat} {f : Nat → Int} {i : Nat} (h : i < n) : ∃ q,q * f i = pr n f:=by
 induction n with
 | zero => omega
 | succ n ih =>
  rw [pr]
  by_cases e : i = n
  ·subst e;exact ⟨_,rfl⟩
  ·obtain ⟨q,hq⟩ := ih (by omega)
   exact ⟨q * f n,by rw [← hq];grind⟩
theorem bounded (n : Nat) (p : Nat → Pt) : ∃ B : Nat,∀ i,i < n → -(B : Int) ≤ (p i).1 ∧ (p i).1 ≤ B ∧ -(B : Int) ≤ (p i).2 ∧ (p i).2 ≤ B:=by
 induction n with
 | zero => exact ⟨0,fun i h => by omega⟩
 | succ n ih =>
  obtain ⟨B,hB⟩ := ih
  refine ⟨B + (p n).1.natAbs + (p n).2.natAbs,fun i hi => ?_⟩
  by_cases e : i = n
  ·subst e;omega
  ·have := hB i (by omega);omega
theorem area_simple {n : Nat} {p : Nat → Pt} (S : Simple n p) : area n p ≠ 0:=by
 obtain ⟨B,hB⟩ := bounded n p
 have hb := S.big
 -- heights that part all corners
 have hK : ∃ K : Int,K = 4 * B + 1 := ⟨_,rfl⟩
 obtain ⟨K,hK⟩ := hK
 have hinj : ∀ i j,i < n → j < n → i ≠ j → ht 2 (2 * K) (p i) ≠ ht 2 (2 * K) (p j):=by
  intro i j hi hj hne h
  have b1 := hB i hi
  have b2 := hB j hj
  unfold ht at h
  have h1 : K * ((p i).2 - (p j).2) = (p j).1 - (p i).1:=by grind
  have h2 : (p i).2 = (p j).2:=by
   rcases Int.lt_trichotomy 0 ((p i).2 - (p j).2) with g | g | g
   ·have : K * 1 ≤ K * ((p i).2 - (p j).2) := Int.mul_le_mul_of_nonneg_left (by omega) (by omega)
    omega
   ·omega
   ·have : K * 1 ≤ K * -((p i).2 - (p j).2) := Int.mul_le_mul_of_nonneg_left (by omega) (by omega)
    grind
  have h3 : (p i).1 = (p j).1:=by rw [h2] at h1;grind
  exact S.dist i j hi hj hne (Prod.ext h3 h2)
 have hd : ∀ e,e < n → ht 2 (2 * K) (p (nx n e)) - ht 2 (2 * K) (p e) ≠ 0:=by
  intro e he h
  exact hinj (nx n e) e (nx_lt hb) he (nx_ne hb he) (by omega)
 -- a common multiple
 obtain ⟨M,hM⟩ : ∃ M,M = pr n fun e => (ht 2 (2 * K) (p (nx n e)) - ht 2 (2 * K) (p e)) * (ht 2 (2 * K) (p (nx n e)) - ht 2 (2 * K) (p e)) := ⟨_,rfl⟩
 have hMp : 0 < M:=by
  rw [hM]
  refine pr_pos fun e he => ?_
  have := hd e he
  rcases Int.lt_or_lt_of_ne this with g | g
  ·have := Int.mul_pos (show 0 < -(ht 2 (2 * K) (p (nx n e)) - ht 2 (2 * K) (p e)) by omega) (show 0 < -(ht 2 (2 * K) (p (nx n e)) - ht 2 (2 * K) (p e)) by omega)
   grind
  ·exact Int.mul_pos g g
 have hQ : ∀ e,∃ q,e < n → q * (ht 2 (2 * K) (p (nx n e)) - ht 2 (2 * K) (p e)) = M:=by
  intro e
  by_cases he : e < n
  ·obtain ⟨q,hq⟩ := pr_dvd (f:=fun e => (ht 2 (2 * K) (p (nx n e)) - ht 2 (2 * K) (p e)) * (ht 2 (2 * K) (p (nx n e)) - ht 2 (2 * K) (p e))) he
   exact ⟨q * (ht 2 (2 * K) (p (nx n e)) - ht 2 (2 * K) (p e)),fun _ => by rw [hM,← hq];grind⟩
  ·exact ⟨0,fun h => absurd h he⟩
 obtain ⟨Q,hQ⟩ : ∃ Q : Nat → Int,∀ e,e < n → Q e * (ht 2 (2 * K) (p (nx n e)) - ht 2 (2 * K) (p e)) = M := ⟨fun e => Classical.choose (hQ e),fun e => Classical.choose_spec (hQ e)⟩
 let L : Lev n := { H:=fun i => ht 2 (2 * K) (p i),V:=fun i => M * (p i).1,X:=fun e t => M * (p e).1 + Q e * ((p (nx n e)).1 - (p e).1) * (t - ht 2 (2 * K) (p e)) }
 have hline : ∀ e,e < n → Line 2 (2 * K) M (p e) (p (nx n e)) (L.X e):=by
  intro e he
  refine ⟨⟨M * (p e).1 - Q e * ((p (nx n e)).1 - (p e).1) * ht 2 (2 * K) (p e),Q e * ((p (nx n e)).1 - (p e).1),fun t => ?_⟩,?_,?_⟩
  ·show M * (p e).1 + Q e * ((p (nx n e)).1 - (p e).1) * (t - ht 2 (2 * K) (p e)) = _
   grind
  ·show M * (p e).1 + Q e * ((p (nx n e)).1 - (p e).1) * (ht 2 (2 * K) (p e) - ht 2 (2 * K) (p e)) = _
   grind
  ·show M * (p e).1 + Q e * ((p (nx n e)).1 - (p e).1) * (ht 2 (2 * K) (p (nx n e)) - ht 2 (2 * K) (p e)) = _
   have := hQ e he
   grind
 have hrng : ∀ {e t},L.rng e t → rngP 2 (2 * K) (p e) (p (nx n e)) t:=fun h => h
 have F : L.Fine:=by
  refine ⟨hb,fun i => ⟨(p i).1 + K * (p i).2,?_⟩,hinj,fun e he => (hline e he).aff,fun e he => (hline e he).fst,fun e he => (hline e he).snd,?_⟩
  ·show ht 2 (2 * K) (p i) = _
   unfold ht;grind
  ·intro e i t t' he hi hne ⟨h1,h2,h3,h4⟩ ⟨h5,h6,h7,h8⟩
   have ne : ∀ e,e < n → ht 2 (2 * K) (p e) ≠ ht 2 (2 * K) (p (nx n e)):=fun e he h => hd e he (by omega)
   by_cases c1 : nx n e = i
   ·subst c1
    exact order_corner hMp (by omega) (hline e he) (hline _ hi) (ne e he) (ne _ hi) (S.corner e he).1 (S.corner e he).2 (hrng h1) (hrng h2) (hrng h5) (hrng h6) (fun h => h3 ⟨rfl,h.symm⟩) (fun h => h7 ⟨rfl,h.symm⟩)
   ·by_cases c2 : nx n i = e
    ·subst c2
     have := order_corner hMp (by omega) (hline i hi) (hline _ he) (ne i hi) (ne _ he) (S.corner i hi).1 (S.corner i hi).2 (hrng h2) (hrng h1) (hrng h6) (hrng h5) (fun h => h4 ⟨rfl,h.symm⟩) (fun h => h8 ⟨rfl,h.symm⟩)
     exact this.symm
    ·exact order_apart hMp (by omega) (hline e he) (hline i hi) (ne e he) (ne i hi) (S.apart e i he hi (fun h => hne h.symm) (fun h => c1 h.symm) c2) (hrng h1) (hrng h2) (hrng h5) (hrng h6)
 have hne := L.area_ne F
 intro h0
 refine hne ?_
 have e1 : sm n (fun e => (L.H (nx n e) - L.H e) * (L.V e + L.V (nx n e))) = sm n fun e => (2 * M * K) * ((p e).1 * (p (nx n e)).2 - (p (nx n e)).1 * (p e).2) + ((fun j => M * (2 * ((p j).1 * (p j).1) + 2 * K * ((p j).1 * (p j).2))) ((e + 1) % n) - (fun j => M * (2 * ((p j).1 * (p j).1) + 2 * K * ((p j).1 * (p j).2))) e):=by
  refine sm_congr fun e _ => ?_
  show (ht 2 (2 * K) (p (nx n e)) - ht 2 (2 * K) (p e)) * (M * (p e).1 + M * (p (nx n e)).1) = _
  have : nx n e = (e + 1) % n := rfl
  rw [← this]
  unfold ht
  dsimp only
  grind
 have cyc := sm_cycle n fun j => M * (2 * ((p j).1 * (p j).1) + 2 * K * ((p j).1 * (p j).2))
 rw [e1,sm_add,sm_mul,cyc]
 have : (sm n fun e => (p e).1 * (p (nx n e)).2 - (p (nx n e)).1 * (p e).2) = 0 := h0
 rw [this];simp
end Geo
/-
 Deciding;what two writers say of successive edges.
-/
namespace Geo
instance decBtw (a b q : Int) : Decidable (btw a b q):=by unfold btw;infer_instance
instance decOn (q a b : Pt) : Decidable (On q a b):=by unfold On;infer_instance
instance decOpp (s t : Int) : Decidable (opp s t):=by unfold opp;infer_instance
instance decMeet (a b c d : Pt) : Decidable (Meet a b c d):=by unfold Meet;infer_instance
def nr (x y : Int) : Prop := -32768 ≤ x ∧ x ≤ 32768 ∧ -32768 ≤ y ∧ y ≤ 32768
theorem mul_bd {x y A B : Int} (h1 : -A ≤ x) (h2 : x ≤ A) (h3 : -B ≤ y) (h4 : y ≤ B) : -(A * B) ≤ x * y ∧ x * y ≤ A * B:=by
 have a1 : 0 ≤ (A - x) * (B + y) := Int.mul_nonneg (by omega) (by omega)
 have a2 : 0 ≤ (A + x) * (B - y) := Int.mul_nonneg (by omega) (by omega)
 have a3 : 0 ≤ (A - x) * (B - y) := Int.mul_nonneg (by omega) (by omega)
 have a4 : 0 ≤ (A + x) * (B + y) := Int.mul_nonneg (by omega) (by omega)
 constructor
 ·grind
 ·grind
def dot (a b c : Pt) : Int:=(a.1 - b.1) * (c.1 - b.1) + (a.2 - b.2) * (c.2 - b.2)
theorem sq_pos {x : Int} (h : x ≠ 0) : 0 < x * x:=by
 rcases Int.lt_or_lt_of_ne h with g | g
 ·have := Int.mul_pos (show 0 < -x by omega) (show 0 < -x by omega)
  grind
 ·exact Int.mul_pos g g
theorem back_iff {a b c : Pt} (hab : a ≠ b) (hcb : c ≠ b) : (cross a b c = 0 ∧ 0 < dot a b c) ↔ (On a b c ∨ On c a b):=by
 obtain ⟨a1,a2⟩ := a
 obtain ⟨b1,b2⟩ := b
 obtain ⟨c1,c2⟩ := c
 have hu : a1 - b1 ≠ 0 ∨ a2 - b2 ≠ 0:=by
  by_cases h1 : a1 - b1 = 0
  ·by_cases h2 : a2 - b2 = 0
   ·exact absurd (Prod.ext (by dsimp;omega) (by dsimp;omega)) hab
   ·exact .inr h2
  ·exact .inl h1
 have hv : c1 - b1 ≠ 0 ∨ c2 - b2 ≠ 0:=by
  by_cases h1 : c1 - b1 = 0
  ·by_cases h2 : c2 - b2 = 0
   ·exact absurd (Prod.ext (by dsimp;omega) (by dsimp;omega)) hcb
   ·exact .inr h2
  ·exact .inl h1
 unfold On cross dot btw
 dsimp only
 have eq1 : (c1 - b1) * (a2 - b2) - (c2 - b2) * (a1 - b1) = (b1 - a1) * (c2 - a2) - (b2 - a2) * (c1 - a1):=by grind
 rw [eq1]
 generalize hx : a1 - b1 = x at *
 generalize hy : a2 - b2 = y at *
 generalize hs : c1 - b1 = s at *
 generalize ht : c2 - b2 = t at *
 have ec : (b1 - a1) * (c2 - a2) - (b2 - a2) * (c1 - a1) = s * y - t * x:=by grind
 rw [ec]
 constructor
 ·rintro ⟨h0,hd⟩
  have par : s * y = t * x:=by omega
  -- both products have one sign
  have p1 : 0 ≤ (x * s) * (y * t):=by
   have : (x * s) * (y * t) = (s * y) * (s * y):=by grind
   rw [this]
   by_cases hz : s * y = 0
   ·rw [hz];decide
   ·exact Int.le_of_lt (sq_pos hz)
  have p2 : 0 ≤ x * s ∧ 0 ≤ y * t:=by
   rcases Int.lt_or_le (x * s) 0 with g | g
   ·have g2 : 0 < y * t:=by omega
    have : 0 < (-(x * s)) * (y * t) := Int.mul_pos (by omega) g2
    grind
   ·rcases Int.lt_or_le (y * t) 0 with g2 | g2
    ·have g3 : 0 < x * s:=by omega
     have : 0 < (x * s) * (-(y * t)) := Int.mul_pos g3 (by omega)
     grind
    ·exact ⟨g,g2⟩
  -- signs
  have sgn : ∀ {p q : Int},0 ≤ p * q → (0 ≤ p ∧ 0 ≤ q) ∨ (p ≤ 0 ∧ q ≤ 0):=by
   intro p q h
   rcases Int.lt_trichotomy p 0 with g | g | g
   ·rcases Int.lt_or_le 0 q with g2 | g2
    ·have : 0 < (-p) * q := Int.mul_pos (by omega) g2
     grind
    ·exact .inr ⟨by omega,g2⟩
   ·rcases Int.lt_or_le 0 q with g2 | g2
    ·exact .inl ⟨by omega,by omega⟩
    ·exact .inr ⟨by omega,g2⟩
   ·rcases Int.lt_or_le q 0 with g2 | g2
    ·have : 0 < p * (-q) := Int.mul_pos g (by omega)
     grind
    ·exact .inl ⟨by omega,g2⟩
  have lt : ∀ {p q r w : Int},0 ≤ p → 0 ≤ q → p < r → w < q → 0 ≤ w → r * q = p * w → False:=by
   intro p q r w h1 h2 h3 h4 h5 h6
   have k1 : 0 < (r - p) * q := Int.mul_pos (by omega) (by omega)
   have k2 : 0 ≤ p * (q - w) := Int.mul_nonneg h1 (by omega)
   grind
  rcases sgn p2.1 with ⟨q1,q2⟩ | ⟨q1,q2⟩ <;> rcases sgn p2.2 with ⟨q3,q4⟩ | ⟨q3,q4⟩
  ·by_cases g1 : x ≤ s
   ·by_cases g2 : y ≤ t
    ·exact .inl ⟨by omega,by omega,by omega⟩
    ·by_cases g3 : s ≤ x
     ·exact .inr ⟨by omega,by omega,by omega⟩
     ·exact (lt (p := x) (q := y) (r := s) (w := t) q1 q3 (by omega) (by omega) q4 (by grind)).elim
   ·by_cases g2 : t ≤ y
    ·exact .inr ⟨by omega,by omega,by omega⟩
    ·exact (lt (p := s) (q := t) (r := x) (w := y) q2 q4 (by omega) (by omega) q3 (by grind)).elim
  ·by_cases g1 : x ≤ s
   ·by_cases g2 : -y ≤ -t
    ·exact .inl ⟨by omega,by omega,by omega⟩
    ·by_cases g3 : s ≤ x
     ·exact .inr ⟨by omega,by omega,by omega⟩
     ·exact (lt (p := x) (q := -y) (r := s) (w := -t) q1 (by omega) (by omega) (by omega) (by omega) (by grind)).elim
   ·by_cases g2 : -t ≤ -y
    ·exact .inr ⟨by omega,by omega,by omega⟩
    ·exact (lt (p := s) (q := -t) (r := x) (w := -y) q2 (by omega) (by omega) (by omega) (by omega) (by grind)).elim
  ·by_cases g1 : -x ≤ -s
   ·by_cases g2 : y ≤ t
    ·exact .inl ⟨by omega,by omega,by omega⟩
    ·by_cases g3 : -s ≤ -x
     ·exact .inr ⟨by omega,by omega,by omega⟩
     ·exact (lt (p := -x) (q := y) (r := -s) (w := t) (by omega) q3 (by omega) (by omega) q4 (by grind)).elim
   ·by_cases g2 : t ≤ y
    ·exact .inr ⟨by omega,by omega,by omega⟩
    ·exact (lt (p := -s) (q := t) (r := -x) (w := y) (by omega) q4 (by omega) (by omega) q3 (by grind)).elim
  ·by_cases g1 : -x ≤ -s
   ·by_cases g2 : -y ≤ -t
    ·exact .inl ⟨by omega,by omega,by omega⟩
    ·by_cases g3 : -s ≤ -x
     ·exact .inr ⟨by omega,by omega,by omega⟩
     ·exact (lt (p := -x) (q := -y) (r := -s) (w := -t) (by omega) (by omega) (by omega) (by omega) (by omega) (by grind)).elim
   ·by_cases g2 : -t ≤ -y
    ·exact .inr ⟨by omega,by omega,by omega⟩
    ·exact (lt (p := -s) (q := -t) (r := -x) (w := -y) (by omega) (by omega) (by omega) (by omega) (by omega) (by grind)).elim
 ·
  have one : ∀ {p q : Int},((0 ≤ p ∧ p ≤ q) ∨ (q ≤ p ∧ p ≤ 0)) → p * p ≤ p * q:=by
   intro p q h
   rcases h with ⟨h1,h2⟩ | ⟨h1,h2⟩
   ·exact Int.mul_le_mul_of_nonneg_left h2 h1
   ·have := Int.mul_le_mul_of_nonneg_left (show -p ≤ -q by omega) (show 0 ≤ -p by omega)
    grind
  have nn : ∀ p : Int,0 ≤ p * p:=fun p => by
   by_cases hz : p = 0
   ·rw [hz];decide
   ·exact Int.le_of_lt (sq_pos hz)
  rintro (⟨h0,h1,h2⟩ | ⟨h0,h1,h2⟩)
  ·have k1 := one (p := x) (q := s) (by omega)
   have k2 := one (p := y) (q := t) (by omega)
   refine ⟨h0,?_⟩
   have n1 := nn x
   have n2 := nn y
   rcases hu with h | h
   ·have := sq_pos h;omega
   ·have := sq_pos h;omega
  ·have k1 := one (p := s) (q := x) (by omega)
   have k2 := one (p := t) (q := y) (by omega)
   refine ⟨h0,?_⟩
   have n1 := nn s
   have n2 := nn t
   have c1 := Int.mul_comm s x
   have c2 := Int.mul_comm t y
   rcases hv with h | h
   ·have := sq_pos h;omega
   ·have := sq_pos h;omega
def SimpleP (n : Nat) (p : Nat → Pt) : Prop :=
 ∀ i,i < n → p i ≠ p (nx n i) ∧ ¬ (cross (p i) (p (nx n i)) (p (nx n (nx n i))) = 0 ∧ 0 < dot (p i) (p (nx n i)) (p (nx n (nx n i)))) ∧
  ∀ k,i + 2 ≤ k → k < n → nx n k ≠ i → ¬ Meet (p i) (p (nx n i)) (p k) (p (nx n k))
def SimpleR (n : Nat) (p : Nat → Pt) : Prop :=
 (∀ i,i < n → ∀ k,k < i → p i ≠ p k) ∧
 ∀ i,i < n → ¬ On (p i) (p (nx n i)) (p (nx n (nx n i))) ∧ ¬ On (p (nx n (nx n i))) (p i) (p (nx n i)) ∧
  ∀ k,i + 2 ≤ k → k < n → nx n k ≠ i → ¬ Meet (p i) (p (nx n i)) (p k) (p (nx n k))
theorem nx_small {n i : Nat} (h : i + 1 < n) : nx n i = i + 1 := Nat.mod_eq_of_lt h
theorem nx_last {n i : Nat} (h : i + 1 = n) : nx n i = 0:=by unfold nx;rw [h,Nat.mod_self]
theorem nx_cases {n i : Nat} (h : i < n) : (i + 1 < n ∧ nx n i = i + 1) ∨ (i + 1 = n ∧ nx n i = 0):=by
 by_cases h1 : i + 1 < n
 ·exact .inl ⟨h1,nx_small h1⟩
 ·exact .inr ⟨by omega,nx_last (by omega)⟩
theorem simpleP_R {n : Nat} {p : Nat → Pt} (h : 3 ≤ n) : SimpleP n p ↔ SimpleR n p:=by
 constructor
 ·intro S
  have dist : ∀ i,i < n → ∀ k,k < i → p i ≠ p k:=by
   intro i hi k hk heq
   have hk' : k < n:=by omega
   rcases nx_cases hi with ⟨g1,g2⟩ | ⟨g1,g2⟩
   ·by_cases h1 : k + 1 = i
    ·have:=(S k hk').1
     rw [nx_small (by omega),h1] at this
     exact this heq.symm
    ·refine (S k hk').2.2 i (by omega) hi (by omega) (.inl ?_)
     rw [heq];exact On.left _ _
   ·by_cases h0 : k = 0
    ·have:=(S i hi).1
     rw [g2] at this
     exact this (by rw [heq,h0])
    ·by_cases h1 : k + 1 = i
     ·have:=(S k hk').1
      rw [nx_small (by omega),h1] at this
      exact this heq.symm
     ·refine (S k hk').2.2 i (by omega) hi (by omega) (.inl ?_)
      rw [heq];exact On.left _ _
  refine ⟨dist,fun i hi => ?_⟩
  obtain ⟨h1,h2,h3⟩ := S i hi
  have hx : nx n i < n := nx_lt h
  have h4:=(S _ hx).1
  have hb := mt (back_iff h1 (fun hh => h4 hh.symm)).2 h2
  exact ⟨fun hh => hb (.inl hh),fun hh => hb (.inr hh),h3⟩
 ·rintro ⟨dist,S⟩ i hi
  obtain ⟨h1,h2,h3⟩ := S i hi
  have d : ∀ i j,i < n → j < n → i ≠ j → p i ≠ p j:=by
   intro i j hi hj hne
   rcases Nat.lt_or_ge i j with g | g
   ·exact fun hh => dist j hj i g hh.symm
   ·exact dist i hi j (by omega)
  have hx : nx n i < n := nx_lt h
  have e1 := d i (nx n i) hi hx (fun hh => nx_ne h hi hh.symm)
  have e2 := d (nx n i) (nx n (nx n i)) hx (nx_lt h) (fun hh => nx_ne h hx hh.symm)
  refine ⟨e1,fun hh => ?_,h3⟩
  rcases (back_iff e1 (fun hh => e2 hh.symm)).1 hh with g | g
  ·exact h1 g
  ·exact h2 g
theorem simpleR_iff {n : Nat} {p : Nat → Pt} (h : 3 ≤ n) : SimpleR n p ↔ Simple n p:=by
 constructor
 ·rintro ⟨dist,S⟩
  refine ⟨h,fun i j hi hj hne => ?_,fun e he => ⟨(S e he).2.1,(S e he).1⟩,fun e i he hi h1 h2 h3 => ?_⟩
  ·rcases Nat.lt_or_ge i j with g | g
   ·exact fun hh => dist j hj i g hh.symm
   ·exact dist i hi j (by omega)
  ·rcases Nat.lt_or_ge e i with g | g
   ·refine (S e he).2.2 i ?_ hi h3
    rcases nx_cases he with ⟨g1,g2⟩ | ⟨g1,g2⟩ <;> omega
   ·intro hm
    refine (S i hi).2.2 e ?_ he (fun hh => h2 hh.symm) hm.symm
    rcases nx_cases hi with ⟨g1,g2⟩ | ⟨g1,g2⟩ <;> omega
 ·intro S
  refine ⟨fun i hi k hk => S.dist i k hi (by omega) (by omega),fun i hi => ⟨(S.corner i hi).2,(S.corner i hi).1,fun k h1 h2 h3 => S.apart i k hi h2 (by omega) ?_ h3⟩⟩
  rcases nx_cases hi with ⟨g1,g2⟩ | ⟨g1,g2⟩ <;> omega
theorem simple_area {n : Nat} {p : Nat → Pt} (h : 3 ≤ n) (S : SimpleP n p) : area n p ≠ 0 := area_simple ((simpleR_iff h).1 ((simpleP_R h).1 S))
end Geo
/-
 Points on segments: common points,parts of segments;contours that do not touch.
-/
namespace Geo
theorem sq_nonneg (x : Int) : 0 ≤ x * x:=by
 by_cases h : x = 0
 ·rw [h];decide
 ·exact Int.le_of_lt (sq_pos h)
theorem btw_mul {a b q : Int} (h : btw a b q) : 0 ≤ (q - a) * (b - a) ∧ (q - a) * (b - a) ≤ (b - a) * (b - a):=by
 rcases h with ⟨h1,h2⟩ | ⟨h1,h2⟩
 ·exact ⟨Int.mul_nonneg (by omega) (by omega),Int.mul_le_mul_of_nonneg_right (by omega) (by omega)⟩
 ·have k1 := Int.mul_nonneg (show 0 ≤ a - q by omega) (show 0 ≤ a - b by omega)
  have k2 := Int.mul_nonneg (show 0 ≤ q - b by omega) (show 0 ≤ a - b by omega)
  constructor
  ·grind
  ·grind
theorem On.param {q a b : Pt} (h : On q a b) (hne : a ≠ b) : ∃ N s : Int,0 < N ∧ 0 ≤ s ∧ s ≤ N ∧ (q.1 - a.1) * N = s * (b.1 - a.1) ∧ (q.2 - a.2) * N = s * (b.2 - a.2):=by
 obtain ⟨hc,h1,h2⟩ := h
 have m1 := btw_mul h1
 have m2 := btw_mul h2
 refine ⟨(b.1 - a.1) * (b.1 - a.1) + (b.2 - a.2) * (b.2 - a.2),(q.1 - a.1) * (b.1 - a.1) + (q.2 - a.2) * (b.2 - a.2),?_,by omega,by omega,?_,?_⟩
 ·have n1 := sq_nonneg (b.1 - a.1)
  have n2 := sq_nonneg (b.2 - a.2)
  by_cases g1 : b.1 - a.1 = 0
  ·by_cases g2 : b.2 - a.2 = 0
   ·exact absurd (Prod.ext (by omega) (by omega)) hne
   ·have := sq_pos g2;omega
  ·have := sq_pos g1;omega
 ·unfold cross at hc
  grind
 ·unfold cross at hc
  grind
theorem opp_of {x y u v : Int} (hx : 0 < x) (hy : 0 < y) (h : x * u + y * v = 0) : opp u v ∨ (u = 0 ∧ v = 0):=by
 rcases Int.lt_trichotomy u 0 with g | g | g
 ·have : 0 < x * (-u) := Int.mul_pos hx (by omega)
  have h2 : 0 < v * y:=by grind
  exact .inl (.inl ⟨g,pos_of hy h2⟩)
 ·rw [g] at h
  have h2 : y * v = 0:=by omega
  rcases Int.mul_eq_zero.1 h2 with h3 | h3
  ·omega
  ·exact .inr ⟨g,h3⟩
 ·have : 0 < x * u := Int.mul_pos hx g
  have h2 : v * y < 0:=by grind
  exact .inl (.inr ⟨g,neg_of hy h2⟩)
theorem eq_of_mul {x y N : Int} (hN : 0 < N) (h : x * N = y * N) : x = y := Int.eq_of_mul_eq_mul_right (by omega) h
theorem common {q a b c d : Pt} (h1 : On q a b) (h2 : On q c d) (hab : a ≠ b) (hcd : c ≠ d) : Meet a b c d:=by
 obtain ⟨N,s,hN,s0,sN,x1,x2⟩ := h1.param hab
 obtain ⟨K,r,hK,r0,rK,y1,y2⟩ := h2.param hcd
 by_cases e1 : r = 0
 ·have : q = c:=by
   rw [e1] at y1 y2
   exact Prod.ext (by have := eq_of_mul (x := q.1 - c.1) (y := 0) hK (by omega);omega) (by have := eq_of_mul (x := q.2 - c.2) (y := 0) hK (by omega);omega)
  rw [this] at h1
  exact .inl h1
 ·by_cases e2 : r = K
  ·have : q = d:=by
    rw [e2] at y1 y2
    exact Prod.ext (by have := eq_of_mul (x := q.1 - c.1) (y := d.1 - c.1) hK (by grind);omega) (by have := eq_of_mul (x := q.2 - c.2) (y := d.2 - c.2) hK (by grind);omega)
   rw [this] at h1
   exact .inr (.inl h1)
  ·by_cases e3 : s = 0
   ·have : q = a:=by
     rw [e3] at x1 x2
     exact Prod.ext (by have := eq_of_mul (x := q.1 - a.1) (y := 0) hN (by omega);omega) (by have := eq_of_mul (x := q.2 - a.2) (y := 0) hN (by omega);omega)
    rw [this] at h2
    exact .inr (.inr (.inl h2))
   ·by_cases e4 : s = N
    ·have : q = b:=by
      rw [e4] at x1 x2
      exact Prod.ext (by have := eq_of_mul (x := q.1 - a.1) (y := b.1 - a.1) hN (by grind);omega) (by have := eq_of_mul (x := q.2 - a.2) (y := b.2 - a.2) hN (by grind);omega)
     rw [this] at h2
     exact .inr (.inr (.inr (.inl h2)))
    ·have A : (K - r) * cross a b c + r * cross a b d = 0:=by
      have : (K - r) * cross a b c + r * cross a b d = K * cross a b q:=by unfold cross;grind
      rw [this,h1.1];simp
     have C : (N - s) * cross c d a + s * cross c d b = 0:=by
      have : (N - s) * cross c d a + s * cross c d b = N * cross c d q:=by unfold cross;grind
      rw [this,h2.1];simp
     have D := cross_diff a b c d
     have flat : cross a b c = 0 → cross c d a = 0 → Meet a b c d:=by
      intro z1 z2
      -- along ab
      have hh : ht (b.1 - a.1) (b.2 - a.2) a < ht (b.1 - a.1) (b.2 - a.2) b:=by
       have n1 := sq_nonneg (b.1 - a.1)
       have n2 := sq_nonneg (b.2 - a.2)
       have e : ht (b.1 - a.1) (b.2 - a.2) b - ht (b.1 - a.1) (b.2 - a.2) a = (b.1 - a.1) * (b.1 - a.1) + (b.2 - a.2) * (b.2 - a.2):=by unfold ht;grind
       by_cases g1 : b.1 - a.1 = 0
       ·by_cases g2 : b.2 - a.2 = 0
        ·exact absurd (Prod.ext (by omega) (by omega)) hab
        ·have := sq_pos g2;omega
       ·have := sq_pos g1;omega
      have z3 : cross a b d = 0:=by
       rw [z1] at A
       have h0 : r * cross a b d = 0:=by omega
       rcases Int.mul_eq_zero.1 h0 with h | h
       ·omega
       ·exact h
      -- heights of q
      have q1 : (ht (b.1 - a.1) (b.2 - a.2) q - ht (b.1 - a.1) (b.2 - a.2) a) * N = s * (ht (b.1 - a.1) (b.2 - a.2) b - ht (b.1 - a.1) (b.2 - a.2) a):=by unfold ht;grind
      have q2 : (ht (b.1 - a.1) (b.2 - a.2) q - ht (b.1 - a.1) (b.2 - a.2) c) * K = r * (ht (b.1 - a.1) (b.2 - a.2) d - ht (b.1 - a.1) (b.2 - a.2) c):=by unfold ht;grind
      generalize hta : ht (b.1 - a.1) (b.2 - a.2) a = ta at *
      generalize htb : ht (b.1 - a.1) (b.2 - a.2) b = tb at *
      generalize htc : ht (b.1 - a.1) (b.2 - a.2) c = tc at *
      generalize htd : ht (b.1 - a.1) (b.2 - a.2) d = td at *
      generalize htq : ht (b.1 - a.1) (b.2 - a.2) q = tq at *
      have b1 : btw 0 (tb - ta) (tq - ta) := scale_btw hN s0 sN (by rw [q1];exact Int.mul_comm _ _)
      have b2 : btw 0 (td - tc) (tq - tc) := scale_btw hK r0 rK (by rw [q2];exact Int.mul_comm _ _)
      unfold btw at b1 b2
      by_cases g : ta ≤ tc ∧ tc ≤ tb
      ·exact .inl (on_of (α := b.1 - a.1) (β := b.2 - a.2) z1 (by omega) (by omega) (by omega))
      ·by_cases g' : ta ≤ td ∧ td ≤ tb
       ·exact .inr (.inl (on_of (α := b.1 - a.1) (β := b.2 - a.2) z3 (by omega) (by omega) (by omega)))
       ·by_cases g'' : tc ≤ td
        ·exact .inr (.inr (.inl (on_of (α := b.1 - a.1) (β := b.2 - a.2) z2 (by omega) (by omega) (by omega))))
        ·refine .inr (.inr (.inl (On.swap (on_of (α := b.1 - a.1) (β := b.2 - a.2) ?_ (by omega) (by omega) (by omega)))))
         rw [cross_swap,z2];rfl
     rcases opp_of (by omega) (by omega) A with oA | ⟨zA,zA'⟩
     ·rcases opp_of (by omega) (by omega) C with oC | ⟨zC,zC'⟩
      ·exact .inr (.inr (.inr (.inr ⟨oA,oC⟩)))
      ·refine flat ?_ zC
       have he : cross a b c = cross a b d:=by omega
       rw [← he] at A
       have : K * cross a b c = 0:=by grind
       rcases Int.mul_eq_zero.1 this with h | h
       ·omega
       ·exact h
     ·refine flat zA ?_
      have he : cross c d a = cross c d b:=by omega
      rw [← he] at C
      have : N * cross c d a = 0:=by grind
      rcases Int.mul_eq_zero.1 this with h | h
      ·omega
      ·exact h
theorem On.trans {q c a b : Pt} (hq : On q a b) (hc : On c a q) (hab : a ≠ b) (haq : a ≠ q) : On c a b:=by
 obtain ⟨N,s,hN,s0,sN,x1,x2⟩ := hq.param hab
 obtain ⟨h0,h1,h2⟩ := hc
 obtain ⟨_,g1,g2⟩ := hq
 refine ⟨?_,by unfold btw at *;omega,by unfold btw at *;omega⟩
 have e : s * cross a b c = N * cross a q c:=by unfold cross;grind
 rw [h0] at e
 have h3 : s * cross a b c = 0:=by omega
 rcases Int.mul_eq_zero.1 h3 with h | h
 ·exfalso
  rw [h] at x1 x2
  exact haq (Prod.ext (by have := eq_of_mul (x := q.1 - a.1) (y := 0) hN (by omega);omega) (by have := eq_of_mul (x := q.2 - a.2) (y := 0) hN (by omega);omega))
 ·exact h
theorem Meet.part {q a b c d : Pt} (hq : On q a b) (hab : a ≠ b) (hcd : c ≠ d) (h : Meet a q c d) : Meet a b c d:=by
 by_cases haq : a = q
 ·
  subst haq
  have pt : ∀ x : Pt,On x a a → x = a:=by
   rintro x ⟨_,h1,h2⟩
   exact Prod.ext (by unfold btw at h1;omega) (by unfold btw at h2;omega)
  rcases h with h | h | h | h | ⟨h1,h2⟩
  ·rw [pt c h];exact .inr (.inr (.inl (On.left a d)))
  ·rw [pt d h];exact .inr (.inr (.inl (On.right c a)))
  ·exact .inr (.inr (.inl h))
  ·exact .inr (.inr (.inl h))
  ·rw [cross_same,cross_same] at h1
   unfold opp at h1;omega
 ·rcases h with h | h | h | h | ⟨h1,h2⟩
  ·exact .inl (hq.trans h hab haq)
  ·exact .inr (.inl (hq.trans h hab haq))
  ·exact .inr (.inr (.inl h))
  ·exact common hq h hab hcd
  ·obtain ⟨N,s,hN,s0,sN,x1,x2⟩ := hq.param hab
   have hs : 0 < s:=by
    rcases Int.lt_or_eq_of_le s0 with g | g
    ·exact g
    ·exfalso
     rw [← g] at x1 x2
     exact haq (Prod.ext (by have := eq_of_mul (x := q.1 - a.1) (y := 0) hN (by omega);omega) (by have := eq_of_mul (x := q.2 - a.2) (y := 0) hN (by omega);omega))
   have ec : s * cross a b c = N * cross a q c:=by unfold cross;grind
   have ed : s * cross a b d = N * cross a q d:=by unfold cross;grind
   have eb : (N - s) * cross c d a + s * cross c d b = N * cross c d q:=by unfold cross;grind
   have up : ∀ {x y : Int},s * x = N * y → (0 < y → 0 < x) ∧ (y < 0 → x < 0):=by
    intro x y e
    refine ⟨fun h => ?_,fun h => ?_⟩
    ·have := Int.mul_pos hN h
     exact pos_of hs (by grind)
    ·have := Int.mul_pos hN (show 0 < -y by omega)
     exact neg_of hs (by grind)
   refine .inr (.inr (.inr (.inr ⟨?_,?_⟩)))
   ·rcases h1 with ⟨g1,g2⟩ | ⟨g1,g2⟩
    ·exact .inl ⟨(up ec).2 g1,(up ed).1 g2⟩
    ·exact .inr ⟨(up ec).1 g1,(up ed).2 g2⟩
   ·rcases h2 with ⟨g1,g2⟩ | ⟨g1,g2⟩
    ·refine .inl ⟨g1,?_⟩
     have k1 := Int.mul_pos hN g2
     have k2 := Int.mul_nonneg (show 0 ≤ N - s by omega) (show 0 ≤ - cross c d a by omega)
     exact pos_of hs (by grind)
    ·refine .inr ⟨g1,?_⟩
     have k1 := Int.mul_pos hN (show 0 < - cross c d q by omega)
     have k2 := Int.mul_nonneg (show 0 ≤ N - s by omega) (show 0 ≤ cross c d a by omega)
     exact neg_of hs (by grind)
theorem par_edge {n' : Nat} {p' : Nat → Pt} {a b q : Pt} (hf : Free n' p' a b) (hq : On q a b) (hab : a ≠ b) (hd : ∀ i,i < n' → p' i ≠ p' ((i + 1) % n')) :
  (∀ i,i < n' → ¬ On q (p' i) (p' ((i + 1) % n'))) ∧ par n' p' q = par n' p' a:=by
 refine ⟨fun i hi ho => hf i hi (common hq ho hab (hd i hi)),?_⟩
 have : Free n' p' a q:=fun i hi hm => hf i hi (hm.part hq hab (hd i hi))
 exact (par_free this).symm
end Geo
/-
 Two contours that do not touch: apart,or one within the other.
-/
set_option linter.all false
namespace Geo
def sc (D : Int) (q : Pt) : Pt:=(D * q.1,D * q.2)
theorem cross_sc (D : Int) (a b c : Pt) : cross (sc D a) (sc D b) (sc D c) = D * D * cross a b c:=by unfold cross sc;grind
theorem le_sc {D x y : Int} (hD : 0 < D) : D * x ≤ D * y ↔ x ≤ y := Int.mul_le_mul_left hD
theorem lt_sc {D x y : Int} (hD : 0 < D) : D * x < D * y ↔ x < y := Int.mul_lt_mul_left hD
theorem btw_sc {D : Int} (hD : 0 < D) (a b q : Int) : btw (D * a) (D * b) (D * q) ↔ btw a b q:=by
 unfold btw;rw [le_sc hD,le_sc hD,le_sc hD,le_sc hD]
theorem sgn_sc {D x : Int} (hD : 0 < D) : (0 < D * x ↔ 0 < x) ∧ (D * x < 0 ↔ x < 0) ∧ (D * x = 0 ↔ x = 0):=by
 have h1 := lt_sc (x := 0) (y := x) hD
 have h2 := lt_sc (x := x) (y := 0) hD
 rw [Int.mul_zero] at h1 h2
 exact ⟨h1,h2,⟨fun h => by omega,fun h => by rw [h,Int.mul_zero]⟩⟩
theorem on_sc {D : Int} (hD : 0 < D) (q a b : Pt) : On (sc D q) (sc D a) (sc D b) ↔ On q a b:=by
 unfold On
 rw [cross_sc,(sgn_sc (Int.mul_pos hD hD)).2.2]
 unfold sc
 simp only [btw_sc hD]
theorem opp_sc {D : Int} (hD : 0 < D) (s t : Int) : opp (D * s) (D * t) ↔ opp s t:=by
 unfold opp
 rw [(sgn_sc hD).1,(sgn_sc hD).1,(sgn_sc hD).2.1,(sgn_sc hD).2.1]
theorem meet_sc {D : Int} (hD : 0 < D) (a b c d : Pt) : Meet (sc D a) (sc D b) (sc D c) (sc D d) ↔ Meet a b c d:=by
 unfold Meet
 rw [on_sc hD,on_sc hD,on_sc hD,on_sc hD,cross_sc,cross_sc,cross_sc,cross_sc,opp_sc (Int.mul_pos hD hD),opp_sc (Int.mul_pos hD hD)]
theorem sc_ne {D : Int} (hD : 0 < D) {a b : Pt} (h : a ≠ b) : sc D a ≠ sc D b:=by
 intro e
 apply h
 have h1 : D * a.1 = D * b.1 := congrArg Prod.fst e
 have h2 : D * a.2 = D * b.2 := congrArg Prod.snd e
 have := Int.eq_of_mul_eq_mul_left (by omega) h1
 have := Int.eq_of_mul_eq_mul_left (by omega) h2
 exact Prod.ext (by assumption) (by assumption)
def OnK (n : Nat) (p : Nat → Pt) (q : Pt) : Prop := ∃ j,j < n ∧ On q (p j) (p (nx n j))
structure NoTouch (n : Nat) (p : Nat → Pt) (n' : Nat) (p' : Nat → Pt) : Prop where
 big : 3 ≤ n
 big' : 3 ≤ n'
 free : ∀ i,i < n → ∀ k,k < n' → ¬ Meet (p i) (p (nx n i)) (p' k) (p' (nx n' k))
 ne : ∀ i,i < n → p i ≠ p (nx n i)
 ne' : ∀ i,i < n' → p' i ≠ p' (nx n' i)
theorem NoTouch.symm {n : Nat} {p : Nat → Pt} {n' : Nat} {p' : Nat → Pt} (h : NoTouch n p n' p') : NoTouch n' p' n p :=
 ⟨h.big',h.big,fun i hi k hk hm => h.free k hk i hi hm.symm,h.ne',h.ne⟩
theorem NoTouch.corner {n : Nat} {p : Nat → Pt} {n' : Nat} {p' : Nat → Pt} (h : NoTouch n p n' p') : ∀ i,i < n → par n' p' (p i) = par n' p' (p 0):=by
 intro i
 induction i with
 | zero => intro _;rfl
 | succ i ih =>
  intro hi
  rw [← ih (by omega)]
  have e := par_free (n := n') (p := p') (a := p i) (b := p (nx n i)) (fun k hk => h.free i (by omega) k hk)
  rw [nx_small hi] at e
  exact e.symm
theorem NoTouch.side {n : Nat} {p : Nat → Pt} {n' : Nat} {p' : Nat → Pt} (h : NoTouch n p n' p') {q : Pt} (hq : OnK n p q) : ¬ OnK n' p' q ∧ par n' p' q = par n' p' (p 0):=by
 obtain ⟨i,hi,ho⟩ := hq
 obtain ⟨h1,h2⟩ := par_edge (n' := n') (p' := p') (fun k hk => h.free i hi k hk) ho (h.ne i hi) h.ne'
 exact ⟨fun ⟨k,hk,hk'⟩ => h1 k hk hk',by rw [h2];exact h.corner i hi⟩
def dd (a b : Pt) : Int := if a.2 = b.2 then 1 else (b.2 - a.2) * (b.2 - a.2)
theorem NoTouch.sc {n : Nat} {p : Nat → Pt} {n' : Nat} {p' : Nat → Pt} (h : NoTouch n p n' p') {D : Int} (hD : 0 < D) : NoTouch n (fun i => sc D (p i)) n' (fun i => sc D (p' i)) :=
 ⟨h.big,h.big',fun i hi k hk hm => h.free i hi k hk ((meet_sc hD _ _ _ _).1 hm),fun i hi => sc_ne hD (h.ne i hi),fun i hi => sc_ne hD (h.ne' i hi)⟩
end Geo
/-
 A contour in the opposite order.
-/
set_option linter.all false
namespace Geo
theorem nx_lt' {n i : Nat} (h : 0 < n) : nx n i < n := Nat.mod_lt _ h
theorem simple_congr {n : Nat} {p q : Nat → Pt} (h : ∀ i,i < n → p i = q i) (S : Simple n p) : Simple n q:=by
 have hb := S.big
 have hx : ∀ i,p (nx n i) = q (nx n i):=fun i => h _ (nx_lt' (by omega))
 refine ⟨S.big,fun i j hi hj hne => ?_,fun e he => ?_,fun e i he hi h1 h2 h3 => ?_⟩
 ·rw [← h i hi,← h j hj];exact S.dist i j hi hj hne
 ·rw [← h e he,← hx,← hx];exact S.corner e he
 ·rw [← h e he,← h i hi,← hx,← hx];exact S.apart e i he hi h1 h2 h3
theorem par_congr {n : Nat} {p q : Nat → Pt} (h0 : 0 < n) (h : ∀ i,i < n → p i = q i) (z : Pt) : par n p z = par n q z :=
 xs_congr fun i hi => by rw [h i hi,h ((i + 1) % n) (Nat.mod_lt _ h0)]
theorem area_congr {n : Nat} {p q : Nat → Pt} (h0 : 0 < n) (h : ∀ i,i < n → p i = q i) : area n p = area n q :=
 sm_congr fun i hi => by rw [h i hi,h (nx n i) (nx_lt' h0)]
theorem onK_congr {n : Nat} {p q : Nat → Pt} (h0 : 0 < n) (h : ∀ i,i < n → p i = q i) (z : Pt) : OnK n p z ↔ OnK n q z :=
 ⟨fun ⟨j,hj,ho⟩ => ⟨j,hj,by rw [← h j hj,← h (nx n j) (nx_lt' h0)];exact ho⟩,fun ⟨j,hj,ho⟩ => ⟨j,hj,by rw [h j hj,h (nx n j) (nx_lt' h0)];exact ho⟩⟩
def rv (n : Nat) (p : Nat → Pt) (j : Nat) : Pt := p (n - 1 - j)
def ej (n j : Nat) : Nat := n - 1 - nx n j
theorem ej_lt {n j : Nat} (h : 0 < n) : ej n j < n:=by unfold ej;omega
theorem ej_cases {n j : Nat} (hj : j < n) : (j + 1 < n ∧ ej n j = n - 2 - j) ∨ (j + 1 = n ∧ ej n j = n - 1):=by
 unfold ej
 rcases nx_cases hj with ⟨c,d⟩ | ⟨c,d⟩ <;> rw [d] <;> omega
theorem rv_edge {n j : Nat} {p : Nat → Pt} (hj : j < n) : rv n p j = p (nx n (ej n j)) ∧ rv n p (nx n j) = p (ej n j):=by
 refine ⟨?_,rfl⟩
 unfold rv
 congr 1
 unfold ej
 rcases nx_cases hj with ⟨h1,h2⟩ | ⟨h1,h2⟩
 ·rw [h2,nx_small (by omega)];omega
 ·rw [h2,nx_last (by omega)];omega
theorem xs_rev (n : Nat) : ∀ g : Nat → Bool,xs n (fun j => g (n - 1 - j)) = xs n g:=by
 induction n with
 | zero => intro g;rfl
 | succ n ih =>
  intro g
  have e := ih (fun j => g (j + 1))
  have e2 := xs_shift n g
  have e3 : xs n (fun j => g (n + 1 - 1 - j)) = xs n (fun j => g (n - 1 - j + 1)) := xs_congr fun i hi => by rw [show n + 1 - 1 - i = n - 1 - i + 1 from by omega]
  simp only [xs]
  rw [e3,e,show n + 1 - 1 - n = 0 from by omega,e2]
theorem sm_rev (n : Nat) : ∀ g : Nat → Int,sm n (fun j => g (n - 1 - j)) = sm n g:=by
 induction n with
 | zero => intro g;rfl
 | succ n ih =>
  intro g
  have e := ih (fun j => g (j + 1))
  have e2 := sm_shift n g
  have e3 : sm n (fun j => g (n + 1 - 1 - j)) = sm n (fun j => g (n - 1 - j + 1)) := sm_congr fun i hi => by rw [show n + 1 - 1 - i = n - 1 - i + 1 from by omega]
  simp only [sm]
  rw [e3,e,show n + 1 - 1 - n = 0 from by omega,e2]
theorem xs_ej (n : Nat) (g : Nat → Bool) : xs n (fun j => g (ej n j)) = xs n g:=(xs_next n (fun k => g (n - 1 - k))).trans (xs_rev n g)
theorem sm_ej (n : Nat) (g : Nat → Int) : sm n (fun j => g (ej n j)) = sm n g:=(sm_next n (fun k => g (n - 1 - k))).trans (sm_rev n g)
theorem rv_par {n : Nat} {p : Nat → Pt} {q : Pt} (hq : ¬ OnK n p q) : par n (rv n p) q = par n p q:=by
 have h : par n (rv n p) q = xs n (fun j => rc q (p (ej n j)) (p (nx n (ej n j)))):=by
  unfold par
  refine xs_congr fun j hj => ?_
  obtain ⟨h1,h2⟩ := rv_edge (p := p) hj
  show rc q (rv n p j) (rv n p (nx n j)) = _
  rw [h1,h2]
  exact (rc_swap (fun h => hq ⟨ej n j,ej_lt (by omega),h⟩)).symm
 rw [h]
 exact xs_ej n (fun k => rc q (p k) (p (nx n k)))
theorem rv_area (n : Nat) (p : Nat → Pt) : area n (rv n p) = - area n p:=by
 have h : area n (rv n p) = sm n (fun j => (-1) * ((p (ej n j)).1 * (p (nx n (ej n j))).2 - (p (nx n (ej n j))).1 * (p (ej n j)).2)):=by
  unfold area
  refine sm_congr fun j hj => ?_
  obtain ⟨h1,h2⟩ := rv_edge (p := p) hj
  rw [h1,h2]
  grind
 rw [h,sm_ej n (fun k => (-1) * ((p k).1 * (p (nx n k)).2 - (p (nx n k)).1 * (p k).2)),sm_mul]
 unfold area
 omega
theorem ej_ej {n j : Nat} (hj : j < n) : ej n (ej n j) = j:=by
 have h1 : ej n j < n := ej_lt (by omega)
 unfold ej at *
 rcases nx_cases hj with ⟨a,b⟩ | ⟨a,b⟩ <;> rw [b] at h1 ⊢ <;> rcases nx_cases h1 with ⟨c,d⟩ | ⟨c,d⟩ <;> rw [d] <;> omega
theorem rv_onK {n : Nat} {p : Nat → Pt} {q : Pt} : OnK n (rv n p) q ↔ OnK n p q:=by
 constructor
 ·rintro ⟨j,hj,ho⟩
  obtain ⟨h1,h2⟩ := rv_edge (p := p) hj
  rw [h1,h2] at ho
  exact ⟨ej n j,ej_lt (by omega),ho.swap⟩
 ·rintro ⟨j,hj,ho⟩
  have hl : ej n j < n := ej_lt (by omega)
  obtain ⟨h1,h2⟩ := rv_edge (p := p) hl
  rw [ej_ej hj] at h1 h2
  exact ⟨ej n j,hl,by rw [h1,h2];exact ho.swap⟩
theorem rv_simple {n : Nat} {p : Nat → Pt} (S : Simple n p) : Simple n (rv n p):=by
 have hb := S.big
 refine ⟨hb,fun i j hi hj hne => ?_,fun e he => ?_,fun e i he hi h1 h2 h3 => ?_⟩
 ·exact S.dist _ _ (by omega) (by omega) (by omega)
 ·have hl : ej n (nx n e) < n := ej_lt (by omega)
  have hx : nx n e < n := nx_lt' (by omega)
  obtain ⟨a1,a2⟩ := rv_edge (p := p) he
  obtain ⟨b1,b2⟩ := rv_edge (p := p) hx
  have ee : ej n e = nx n (ej n (nx n e)):=by
   unfold ej
   rcases nx_cases he with ⟨c,d⟩ | ⟨c,d⟩
   ·rw [d]
    rcases nx_cases (show e + 1 < n by omega) with ⟨c',d'⟩ | ⟨c',d'⟩
    ·rw [d',nx_small (by omega)];omega
    ·rw [d',nx_last (by omega)];omega
   ·rw [d,nx_small (show 0 + 1 < n by omega),nx_small (by omega)];omega
  have c := S.corner _ hl
  rw [ee] at a1
  rw [a1,b1,b2]
  exact ⟨fun h => c.2 h.swap,fun h => c.1 h.swap⟩
 ·obtain ⟨a1,a2⟩ := rv_edge (p := p) he
  obtain ⟨b1,b2⟩ := rv_edge (p := p) hi
  rw [a1,a2,b1,b2]
  have h : ¬ Meet (p (ej n e)) (p (nx n (ej n e))) (p (ej n i)) (p (nx n (ej n i))):=by
   have l1 : ej n e < n := ej_lt (by omega)
   have l2 : ej n i < n := ej_lt (by omega)
   have v1 := ej_cases he
   have v2 := ej_cases hi
   have u1 := nx_cases l1
   have u2 := nx_cases l2
   have w1 := nx_cases he
   have w2 := nx_cases hi
   exact S.apart _ _ l1 l2 (by omega) (by omega) (by omega)
  exact fun hm => h hm.swap.swap2
end Geo
/-
 Quarter turns,a mirror and shifts: what they leave as it was.
-/
set_option linter.all false
namespace Geo
def qt (p : Pt) : Pt:=(-p.2,p.1)
def tr (v p : Pt) : Pt:=(p.1 + v.1,p.2 + v.2)
theorem mul_pp {x y : Int} (h1 : 0 < x) (h2 : 0 < y) : 0 < x * y := Int.mul_pos h1 h2
theorem mul_pn {x y : Int} (h1 : 0 < x) (h2 : y ≤ 0) : x * y ≤ 0:=by
 have := Int.mul_nonneg (a := x) (b := -y) (by omega) (by omega)
 grind
theorem mul_np {x y : Int} (h1 : x ≤ 0) (h2 : 0 < y) : x * y ≤ 0:=by
 have := Int.mul_nonneg (a := -x) (b := y) (by omega) (by omega)
 grind
theorem mul_nn {x y : Int} (h1 : x ≤ 0) (h2 : y ≤ 0) : 0 ≤ x * y:=by
 have := Int.mul_nonneg (a := -x) (b := -y) (by omega) (by omega)
 grind
theorem rc_iff {q a b : Pt} : rc q a b = true ↔ ((q.2 < a.2 ∧ ¬ q.2 < b.2 ∧ ¬ 0 < cross a b q) ∨ (¬ q.2 < a.2 ∧ q.2 < b.2 ∧ 0 < cross a b q)):=by
 unfold rc
 by_cases h1 : q.2 < a.2
 ·by_cases h2 : q.2 < b.2
  ·simp [h1,h2]
  ·have : ¬ a.2 < b.2:=by omega
   simp [h1,h2,this]
 ·by_cases h2 : q.2 < b.2
  ·have : a.2 < b.2:=by omega
   simp [h1,h2,this]
  ·simp [h1,h2]
theorem cross_rel (q a b : Pt) : cross a b q = (a.1 - q.1) * (b.2 - q.2) - (a.2 - q.2) * (b.1 - q.1):=by unfold cross;grind
theorem cross_qt (a b c : Pt) : cross (qt a) (qt b) (qt c) = cross a b c:=by unfold cross qt;grind
theorem on_qt (q a b : Pt) : On (qt q) (qt a) (qt b) ↔ On q a b:=by
 unfold On
 rw [cross_qt]
 unfold btw qt
 simp only
 constructor
 ·rintro ⟨h1,h2,h3⟩;exact ⟨h1,h3,by omega⟩
 ·rintro ⟨h1,h2,h3⟩;exact ⟨h1,by omega,h2⟩
def qd (q p : Pt) : Bool := decide (q.1 < p.1 ∧ ¬ q.2 < p.2)
theorem rc_qt {q a b : Pt} (h : ¬ On q a b) : (rc (qt q) (qt a) (qt b) ^^ rc q a b) = (qd q a ^^ qd q b):=by
 have o1 : (a.2 ≤ q.2 ∧ q.2 < b.2) ∨ (b.2 ≤ q.2 ∧ q.2 < a.2) → cross a b q ≠ 0:=fun hs => off_edge h hs
 have o2 : (a.1 ≤ q.1 ∧ q.1 < b.1) ∨ (b.1 ≤ q.1 ∧ q.1 < a.1) → cross a b q ≠ 0:=fun hs => by
  have := off_edge (q := qt q) (a := qt a) (b := qt b) (fun hh => h ((on_qt q a b).1 hh)) hs
  rwa [cross_qt] at this
 have e1 : rc (qt q) (qt a) (qt b) = decide ((q.1 < a.1 ∧ ¬ q.1 < b.1 ∧ ¬ 0 < cross a b q) ∨ (¬ q.1 < a.1 ∧ q.1 < b.1 ∧ 0 < cross a b q)):=by
  rw [Bool.eq_iff_iff,rc_iff,cross_qt,decide_eq_true_iff];exact Iff.rfl
 have e2 : rc q a b = decide ((q.2 < a.2 ∧ ¬ q.2 < b.2 ∧ ¬ 0 < cross a b q) ∨ (¬ q.2 < a.2 ∧ q.2 < b.2 ∧ 0 < cross a b q)):=by
  rw [Bool.eq_iff_iff,rc_iff,decide_eq_true_iff]
 rw [e1,e2]
 unfold qd
 have hc := cross_rel q a b
 by_cases a1 : q.1 < a.1 <;> by_cases a2 : q.2 < a.2 <;> by_cases b1 : q.1 < b.1 <;> by_cases b2 : q.2 < b.2 <;> simp only [a1,a2,b1,b2,true_and,false_and,and_true,and_false,or_false,false_or,not_true_eq_false,not_false_eq_true,decide_true,decide_false,Bool.xor_false,Bool.false_xor,Bool.xor_true,Bool.true_xor,Bool.xor_self,Bool.not_true,Bool.not_false]
 all_goals first
  | rfl
  | (simp;done)
  | skip
 all_goals
  have s1 : (0 < a.1 - q.1 ∨ a.1 - q.1 ≤ 0) ∧ (0 < b.2 - q.2 ∨ b.2 - q.2 ≤ 0) ∧ (0 < a.2 - q.2 ∨ a.2 - q.2 ≤ 0) ∧ (0 < b.1 - q.1 ∨ b.1 - q.1 ≤ 0):=by omega
  obtain ⟨t1,t2,t3,t4⟩ := s1
  rcases t1 with t1 | t1 <;> rcases t2 with t2 | t2 <;> rcases t3 with t3 | t3 <;> rcases t4 with t4 | t4 <;> (try omega)
 all_goals
  have u1 := @mul_pp (a.1 - q.1) (b.2 - q.2)
  have u2 := @mul_pn (a.1 - q.1) (b.2 - q.2)
  have u3 := @mul_np (a.1 - q.1) (b.2 - q.2)
  have u4 := @mul_nn (a.1 - q.1) (b.2 - q.2)
  have v1 := @mul_pp (a.2 - q.2) (b.1 - q.1)
  have v2 := @mul_pn (a.2 - q.2) (b.1 - q.1)
  have v3 := @mul_np (a.2 - q.2) (b.1 - q.1)
  have v4 := @mul_nn (a.2 - q.2) (b.1 - q.1)
  simp
  omega
structure Rigid (e : Int) (T : Pt → Pt) : Prop where
 eps : e = 1 ∨ e = -1
 cr : ∀ a b c,cross (T a) (T b) (T c) = e * cross a b c
 on : ∀ q a b,On (T q) (T a) (T b) ↔ On q a b
 par : ∀ n p q,¬ OnK n p q → par n (fun i => T (p i)) (T q) = par n p q
 area : ∀ n p,area n (fun i => T (p i)) = e * area n p
 inj : ∀ a b,T a = T b → a = b
theorem xor_eq {a b : Bool} (h : (a ^^ b) = false) : a = b:=by cases a <;> cases b <;> first | rfl | cases h
theorem rigid_qt : Rigid 1 qt:=by
 refine ⟨.inl rfl,fun a b c => by rw [cross_qt,Int.one_mul],on_qt,fun n p q h => ?_,fun n p => ?_,fun a b h => ?_⟩
 ·refine xor_eq ?_
  unfold par
  rw [← xs_xor]
  refine Eq.trans (xs_congr fun i hi => rc_qt (fun ho => h ⟨i,hi,ho⟩)) ?_
  exact xs_cycle n (fun i => qd q (p i))
 ·rw [Int.one_mul]
  unfold area
  refine sm_congr fun i _ => ?_
  unfold qt
  simp only
  grind
 ·have h1 : -a.2 = -b.2 := congrArg Prod.fst h
  have h2 : a.1 = b.1 := congrArg Prod.snd h
  exact Prod.ext h2 (by omega)
theorem Rigid.onK {e : Int} {T : Pt → Pt} (R : Rigid e T) (n : Nat) (p : Nat → Pt) (q : Pt) : OnK n (fun i => T (p i)) (T q) ↔ OnK n p q :=
 ⟨fun ⟨j,h,h'⟩ => ⟨j,h,(R.on _ _ _).1 h'⟩,fun ⟨j,h,h'⟩ => ⟨j,h,(R.on _ _ _).2 h'⟩⟩
theorem Rigid.comp {e f : Int} {T U : Pt → Pt} (R : Rigid e T) (S : Rigid f U) : Rigid (e * f) (fun p => T (U p)):=by
 refine ⟨?_,fun a b c => ?_,fun q a b => (R.on _ _ _).trans (S.on _ _ _),fun n p q h => ?_,fun n p => ?_,fun a b h => S.inj _ _ (R.inj _ _ h)⟩
 ·rcases R.eps with h | h <;> rcases S.eps with h' | h' <;> rw [h,h'] <;> decide
 ·rw [R.cr,S.cr,Int.mul_assoc]
 ·rw [R.par n (fun i => U (p i)) (U q) (fun hh => h ((S.onK n p q).1 hh)),S.par n p q h]
 ·rw [R.area n (fun i => U (p i)),S.area,Int.mul_assoc]
theorem Rigid.opp {e : Int} {T : Pt → Pt} (R : Rigid e T) (s t : Int) : opp (e * s) (e * t) ↔ opp s t:=by
 unfold Geo.opp
 rcases R.eps with h | h <;> rw [h] <;> omega
theorem Rigid.meet {e : Int} {T : Pt → Pt} (R : Rigid e T) (a b c d : Pt) : Meet (T a) (T b) (T c) (T d) ↔ Meet a b c d:=by
 unfold Meet
 rw [R.on,R.on,R.on,R.on,R.cr,R.cr,R.cr,R.cr,R.opp,R.opp]
theorem Rigid.simple {e : Int} {T : Pt → Pt} (R : Rigid e T) {n : Nat} {p : Nat → Pt} : Simple n (fun i => T (p i)) ↔ Simple n p:=by
 constructor
 ·intro S
  refine ⟨S.big,fun i j hi hj hne h => S.dist i j hi hj hne (by rw [h]),fun a ha => ?_,fun a i ha hi h1 h2 h3 hm => S.apart a i ha hi h1 h2 h3 ((R.meet _ _ _ _).2 hm)⟩
  have := S.corner a ha
  exact ⟨fun h => this.1 ((R.on _ _ _).2 h),fun h => this.2 ((R.on _ _ _).2 h)⟩
 ·intro S
  refine ⟨S.big,fun i j hi hj hne h => S.dist i j hi hj hne (R.inj _ _ h),fun a ha => ?_,fun a i ha hi h1 h2 h3 hm => S.apart a i ha hi h1 h2 h3 ((R.meet _ _ _ _).1 hm)⟩
  have := S.corner a ha
  exact ⟨fun h => this.1 ((R.on _ _ _).1 h),fun h => this.2 ((R.on _ _ _).1 h)⟩
end Geo
/-
 Maps that keep segments and insides: shears and scalings with the rigid ones.
-/
namespace Geo
theorem On.param_iff {q a b : Pt} : On q a b ↔ ∃ N s : Int,0 < N ∧ 0 ≤ s ∧ s ≤ N ∧ (q.1 - a.1) * N = s * (b.1 - a.1) ∧ (q.2 - a.2) * N = s * (b.2 - a.2):=by
 constructor
 ·intro h
  by_cases e : a = b
  ·subst e
   obtain ⟨_,h1,h2⟩ := h
   refine ⟨1,0,by omega,by omega,by omega,?_,?_⟩
   ·unfold btw at h1;have : q.1 = a.1:=by omega
    rw [this];omega
   ·unfold btw at h2;have : q.2 = a.2:=by omega
    rw [this];omega
  ·exact h.param e
 ·rintro ⟨N,s,hN,h0,h1,e1,e2⟩
  have b1 := scale_btw (d := N) (e := s) (x := b.1 - a.1) (y := q.1 - a.1) hN h0 h1 (by rw [e1];exact Int.mul_comm _ _)
  have b2 := scale_btw (d := N) (e := s) (x := b.2 - a.2) (y := q.2 - a.2) hN h0 h1 (by rw [e2];exact Int.mul_comm _ _)
  refine ⟨?_,?_,?_⟩
  ·have : cross a b q * N = 0:=by
    unfold cross
    have : ((b.1 - a.1) * (q.2 - a.2) - (b.2 - a.2) * (q.1 - a.1)) * N = (b.1 - a.1) * ((q.2 - a.2) * N) - (b.2 - a.2) * ((q.1 - a.1) * N):=by grind
    rw [this,e1,e2];grind
   rcases Int.mul_eq_zero.1 this with h | h
   ·exact h
   ·omega
  ·unfold btw at *;omega
  ·unfold btw at *;omega
structure Good (A : Pt → Pt) : Prop where
 on : ∀ q a b,On (A q) (A a) (A b) ↔ On q a b
 meet : ∀ a b c d,Meet (A a) (A b) (A c) (A d) ↔ Meet a b c d
 par : ∀ n p q,¬ OnK n p q → par n (fun i => A (p i)) (A q) = par n p q
 inj : ∀ a b,A a = A b → a = b
theorem Good.onK {A : Pt → Pt} (h : Good A) (n : Nat) (p : Nat → Pt) (q : Pt) : OnK n (fun i => A (p i)) (A q) ↔ OnK n p q :=
 ⟨fun ⟨j,hj,k⟩ => ⟨j,hj,(h.on _ _ _).1 k⟩,fun ⟨j,hj,k⟩ => ⟨j,hj,(h.on _ _ _).2 k⟩⟩
theorem Good.comp {A B : Pt → Pt} (h : Good A) (g : Good B) : Good (fun p => A (B p)) where
 on:=fun q a b => (h.on _ _ _).trans (g.on _ _ _)
 meet:=fun a b c d => (h.meet _ _ _ _).trans (g.meet _ _ _ _)
 par:=fun n p q hq => (h.par n (fun i => B (p i)) (B q) fun k => hq ((g.onK n p q).1 k)).trans (g.par n p q hq)
 inj:=fun a b e => g.inj a b (h.inj _ _ e)
theorem Rigid.good {e : Int} {T : Pt → Pt} (R : Rigid e T) : Good T := ⟨R.on,R.meet,R.par,R.inj⟩
theorem meet_of {A : Pt → Pt} {d : Int} (hd : 0 < d) (hc : ∀ a b c,cross (A a) (A b) (A c) = d * cross a b c) (ho : ∀ q a b,On (A q) (A a) (A b) ↔ On q a b) (a b c e : Pt) : Meet (A a) (A b) (A c) (A e) ↔ Meet a b c e:=by
 unfold Meet
 rw [ho,ho,ho,ho,hc,hc,hc,hc,opp_sc hd,opp_sc hd]
def dg (α β : Int) (p : Pt) : Pt:=(α * p.1,β * p.2)
theorem cross_dg (α β : Int) (a b c : Pt) : cross (dg α β a) (dg α β b) (dg α β c) = α * β * cross a b c:=by unfold cross dg;grind
theorem on_dg {α β : Int} (hα : 0 < α) (hβ : 0 < β) (q a b : Pt) : On (dg α β q) (dg α β a) (dg α β b) ↔ On q a b:=by
 unfold On
 rw [cross_dg]
 have hp := Int.mul_pos hα hβ
 have e1 : α * β * cross a b q = 0 ↔ cross a b q = 0 := ⟨fun h => (Int.mul_eq_zero.1 h).resolve_left (by omega),fun h => by rw [h];simp⟩
 rw [e1]
 unfold dg
 rw [btw_sc hα,btw_sc hβ]
theorem good_dg {α β : Int} (hα : 0 < α) (hβ : 0 < β) : Good (dg α β) where
 on := on_dg hα hβ
 meet := meet_of (Int.mul_pos hα hβ) (cross_dg α β) (on_dg hα hβ)
 par:=fun n p q _ => by
  unfold par
  refine xs_congr fun i _ => ?_
  unfold rc
  rw [cross_dg]
  have e : ∀ x y : Int,decide (β * x > β * y) = decide (x > y):=fun x y => decide_eq_decide.2 (lt_sc hβ)
  have e2 : ∀ x : Int,decide (0 < α * β * x) = decide (0 < x):=fun x => decide_eq_decide.2 (sgn_sc (Int.mul_pos hα hβ)).1
  unfold dg
  rw [e,e,e,e2]
 inj:=fun a b h => by
  unfold dg at h
  have h1 := congrArg Prod.fst h
  have h2 := congrArg Prod.snd h
  dsimp only at h1 h2
  exact Prod.ext (Int.eq_of_mul_eq_mul_left (by omega) h1) (Int.eq_of_mul_eq_mul_left (by omega) h2)
def hs (c : Int) (p : Pt) : Pt:=(p.1 + c * p.2,p.2)
theorem cross_hs (c : Int) (a b e : Pt) : cross (hs c a) (hs c b) (hs c e) = cross a b e:=by unfold cross hs;grind
theorem on_hs (c : Int) (q a b : Pt) : On (hs c q) (hs c a) (hs c b) ↔ On q a b:=by
 rw [On.param_iff,On.param_iff]
 unfold hs
 dsimp only
 constructor
 ·rintro ⟨N,s,hN,h0,h1,e1,e2⟩
  exact ⟨N,s,hN,h0,h1,by grind,e2⟩
 ·rintro ⟨N,s,hN,h0,h1,e1,e2⟩
  exact ⟨N,s,hN,h0,h1,by grind,e2⟩
theorem good_hs (c : Int) : Good (hs c) where
 on := on_hs c
 meet := meet_of (d := 1) (by omega) (fun a b e => by rw [cross_hs,Int.one_mul]) (on_hs c)
 par:=fun n p q _ => by
  unfold par
  refine xs_congr fun i _ => ?_
  unfold rc
  rw [cross_hs]
  rfl
 inj:=fun a b h => by
  unfold hs at h
  have h1 := congrArg Prod.fst h
  have h2 := congrArg Prod.snd h
  dsimp only at h1 h2
  rw [h2] at h1
  exact Prod.ext (by omega) h2
def gm (M K : Int) (q : Pt) : Pt:=(2 * (M * q.1),2 * ht 2 (2 * K) q)
theorem good_gm {M K : Int} (hM : 0 < M) (hK : 0 < K) : Good (gm M K):=by
 have h : gm M K = fun q => dg (2 * M) 4 (qt (hs (-1) (qt (qt (qt (dg 1 K q)))))):=by
  funext q
  simp only [gm,dg,qt,hs,ht]
  refine Prod.ext ?_ ?_ <;> (dsimp only;grind)
 rw [h]
 have r := rigid_qt.good
 exact (good_dg (by omega) (by omega)).comp (r.comp ((good_hs (-1)).comp (r.comp (r.comp (r.comp (good_dg (by omega) hK))))))
theorem NoTouch.good {A : Pt → Pt} (h : Good A) {n : Nat} {p : Nat → Pt} {n' : Nat} {p' : Nat → Pt} (t : NoTouch n p n' p') : NoTouch n (fun i => A (p i)) n' (fun i => A (p' i)) :=
 ⟨t.big,t.big',fun i hi k hk hm => t.free i hi k hk ((h.meet _ _ _ _).1 hm),fun i hi e => t.ne i hi (h.inj _ _ e),fun i hi e => t.ne' i hi (h.inj _ _ e)⟩
end Geo
/-
 The area of a simple polygon,counted on a grid of places: inside or not.
-/
namespace Geo
def gh (K : Int) (p : Nat → Pt) (i : Nat) : Int := ht 2 (2 * K) (p i)
def gq (K M : Int) (n : Nat) (p : Nat → Pt) (e : Nat) : Int := M / (gh K p (nx n e) - gh K p e)
def gX (K M : Int) (n : Nat) (p : Nat → Pt) (e : Nat) (t : Int) : Int := M * (p e).1 + gq K M n p e * ((p (nx n e)).1 - (p e).1) * (t - gh K p e)
def gL (K M : Int) (n : Nat) (p : Nat → Pt) : Lev n := { H := gh K p,V:=fun i => M * (p i).1,X := gX K M n p }
structure Grd (K M : Int) (T R : Nat) (n : Nat) (p : Nat → Pt) : Prop where
 simple : Simple n p
 kp : 0 < K
 mp : 0 < M
 dist : ∀ i j,i < n → j < n → i ≠ j → gh K p i ≠ gh K p j
 div : ∀ e,e < n → (gh K p (nx n e) - gh K p e) ∣ M
 lev : ∀ i,i < n → -(2 * T : Int) ≤ gh K p i ∧ gh K p i ≤ 2 * T
 wid : ∀ s,s < 2 * T → ∀ e,e < n → -(R : Int) ≤ gX K M n p e (2 * ((s : Int) - T) + 1) ∧ gX K M n p e (2 * ((s : Int) - T) + 1) ≤ R
section
variable {K M : Int} {T R n : Nat} {p : Nat → Pt}
theorem Grd.quo (G : Grd K M T R n p) {e : Nat} (he : e < n) : gq K M n p e * (gh K p (nx n e) - gh K p e) = M := Int.ediv_mul_cancel (G.div e he)
theorem Grd.ne (G : Grd K M T R n p) {e : Nat} (he : e < n) : gh K p e ≠ gh K p (nx n e):=fun h =>
 G.dist e (nx n e) he (nx_lt G.simple.big) (fun k => nx_ne G.simple.big he k.symm) h
theorem Grd.line (G : Grd K M T R n p) {e : Nat} (he : e < n) : Line 2 (2 * K) M (p e) (p (nx n e)) ((gL K M n p).X e):=by
 refine ⟨⟨M * (p e).1 - gq K M n p e * ((p (nx n e)).1 - (p e).1) * gh K p e,gq K M n p e * ((p (nx n e)).1 - (p e).1),fun t => ?_⟩,?_,?_⟩
 ·show M * (p e).1 + gq K M n p e * ((p (nx n e)).1 - (p e).1) * (t - gh K p e) = _
  grind
 ·show M * (p e).1 + gq K M n p e * ((p (nx n e)).1 - (p e).1) * (gh K p e - gh K p e) = _
  grind
 ·show M * (p e).1 + gq K M n p e * ((p (nx n e)).1 - (p e).1) * (gh K p (nx n e) - gh K p e) = _
  have := G.quo he
  grind
theorem Grd.fine (G : Grd K M T R n p) : (gL K M n p).Fine:=by
 have S := G.simple
 have hb := S.big
 have hM := G.mp
 have hK := G.kp
 refine ⟨hb,fun i => ⟨(p i).1 + K * (p i).2,?_⟩,G.dist,fun e he => (G.line he).aff,fun e he => (G.line he).fst,fun e he => (G.line he).snd,?_⟩
 ·show ht 2 (2 * K) (p i) = _
  unfold ht;grind
 ·intro e i t t' he hi hne ⟨h1,h2,h3,h4⟩ ⟨h5,h6,h7,h8⟩
  have hrng : ∀ {e t},(gL K M n p).rng e t → rngP 2 (2 * K) (p e) (p (nx n e)) t:=fun h => h
  have ne : ∀ e,e < n → ht 2 (2 * K) (p e) ≠ ht 2 (2 * K) (p (nx n e)):=fun e he => G.ne he
  by_cases c1 : nx n e = i
  ·subst c1
   exact order_corner hM (by omega) (G.line he) (G.line hi) (ne e he) (ne _ hi) (S.corner e he).1 (S.corner e he).2 (hrng h1) (hrng h2) (hrng h5) (hrng h6) (fun h => h3 ⟨rfl,h.symm⟩) (fun h => h7 ⟨rfl,h.symm⟩)
  ·by_cases c2 : nx n i = e
   ·subst c2
    have := order_corner hM (by omega) (G.line hi) (G.line he) (ne i hi) (ne _ he) (S.corner i hi).1 (S.corner i hi).2 (hrng h2) (hrng h1) (hrng h6) (hrng h5) (fun h => h4 ⟨rfl,h.symm⟩) (fun h => h8 ⟨rfl,h.symm⟩)
    exact this.symm
   ·exact order_apart hM (by omega) (G.line he) (G.line hi) (ne e he) (ne i hi) (S.apart e i he hi (fun h => hne h.symm) (fun h => c1 h.symm) c2) (hrng h1) (hrng h2) (hrng h5) (hrng h6)
def gz (T R : Nat) (s j : Nat) : Pt:=(2 * ((j : Int) - R) + 1,2 * (2 * ((s : Int) - T) + 1))
def gp (K M : Int) (T R n : Nat) (p : Nat → Pt) (s j : Nat) : Int := if par n (fun i => gm M K (p i)) (gz T R s j) = true then 1 else 0
theorem cross_gz (G : Grd K M T R n p) {e : Nat} (he : e < n) (τ t : Int) : cross (gm M K (p e)) (gm M K (p (nx n e))) (2 * τ + 1,2 * t) = 2 * (gh K p (nx n e) - gh K p e) * (2 * (gL K M n p).X e t - (2 * τ + 1)):=by
 have h1 := G.quo he
 show cross (2 * (M * (p e).1),2 * gh K p e) (2 * (M * (p (nx n e)).1),2 * gh K p (nx n e)) (2 * τ + 1,2 * t) = 2 * (gh K p (nx n e) - gh K p e) * (2 * (M * (p e).1 + gq K M n p e * ((p (nx n e)).1 - (p e).1) * (t - gh K p e)) - (2 * τ + 1))
 unfold cross
 dsimp only
 have e1 : 2 * (gh K p (nx n e) - gh K p e) * (2 * (M * (p e).1 + gq K M n p e * ((p (nx n e)).1 - (p e).1) * (t - gh K p e)) - (2 * τ + 1)) = 2 * (gh K p (nx n e) - gh K p e) * (2 * (M * (p e).1) - (2 * τ + 1)) + 4 * (gq K M n p e * (gh K p (nx n e) - gh K p e)) * ((p (nx n e)).1 - (p e).1) * (t - gh K p e):=by grind
 rw [e1,h1]
 grind
theorem rc_gz (G : Grd K M T R n p) {e : Nat} (he : e < n) (τ t : Int) : rc (2 * τ + 1,2 * t) (gm M K (p e)) (gm M K (p (nx n e))) = (decide ((gL K M n p).da e t ≠ 0) && decide (τ < (gL K M n p).X e t)):=by
 unfold rc
 rw [cross_gz G he]
 have hne := G.ne he
 have a2 : (gm M K (p e)).2 = 2 * gh K p e := rfl
 have b2 : (gm M K (p (nx n e))).2 = 2 * gh K p (nx n e) := rfl
 rw [a2,b2]
 dsimp only
 have hda : (gL K M n p).da e t = (if t < gh K p (nx n e) then 1 else 0) - (if t < gh K p e then 1 else 0) := rfl
 have s1 : decide (2 * gh K p e > 2 * t) = decide (t < gh K p e) := decide_eq_decide.2 (by omega)
 have s2 : decide (2 * gh K p (nx n e) > 2 * t) = decide (t < gh K p (nx n e)) := decide_eq_decide.2 (by omega)
 have s3 : decide (2 * gh K p (nx n e) > 2 * gh K p e) = decide (gh K p e < gh K p (nx n e)) := decide_eq_decide.2 (by omega)
 rw [s1,s2,s3,hda]
 have h5 : (decide (0 < 2 * (gh K p (nx n e) - gh K p e) * (2 * (gL K M n p).X e t - (2 * τ + 1))) == decide (gh K p e < gh K p (nx n e))) = decide (τ < (gL K M n p).X e t):=by
  rcases Int.lt_or_lt_of_ne hne with g | g
  ·rw [decide_eq_true g]
   have : (0 < 2 * (gh K p (nx n e) - gh K p e) * (2 * (gL K M n p).X e t - (2 * τ + 1))) ↔ τ < (gL K M n p).X e t:=by
    have h0 : 0 < 2 * (gh K p (nx n e) - gh K p e):=by omega
    rw [(sgn_sc h0).1];omega
   rw [decide_eq_decide.2 this]
   cases decide (τ < (gL K M n p).X e t) <;> rfl
  ·rw [decide_eq_false (show ¬ gh K p e < gh K p (nx n e) by omega)]
   have : (0 < 2 * (gh K p (nx n e) - gh K p e) * (2 * (gL K M n p).X e t - (2 * τ + 1))) ↔ ¬ τ < (gL K M n p).X e t:=by
    have h0 : 0 < 2 * (gh K p e - gh K p (nx n e)):=by omega
    have e0 : 2 * (gh K p (nx n e) - gh K p e) * (2 * (gL K M n p).X e t - (2 * τ + 1)) = 2 * (gh K p e - gh K p (nx n e)) * ((2 * τ + 1) - 2 * (gL K M n p).X e t):=by grind
    rw [e0,(sgn_sc h0).1];omega
   rw [decide_eq_decide.2 this]
   by_cases hh : τ < (gL K M n p).X e t
   ·rw [decide_eq_true hh,decide_eq_false (fun k => k hh)];rfl
   ·rw [decide_eq_false hh,decide_eq_true hh];rfl
 rw [h5]
 congr 1
 by_cases q1 : t < gh K p e <;> by_cases q2 : t < gh K p (nx n e) <;> simp [q1,q2]
theorem sm_parity (n : Nat) (b : Nat → Bool) (d : Nat → Int) (h : ∀ i,i < n → d i = 0 ∨ d i = 1 ∨ d i = -1) : (sm n (fun i => (if b i = true then 1 else 0) * d i)) % 2 = if xs n (fun i => decide (d i ≠ 0) && b i) = true then 1 else 0:=by
 induction n with
 | zero => rfl
 | succ n ih =>
  have ih := ih fun i hi => h i (by omega)
  rw [sm,xs]
  have hd := h n (by omega)
  cases hb : b n with
  | false => simp only [Bool.and_false,Bool.xor_false];simpa using ih
  | true =>
   rcases hd with k | k | k
   ·rw [k];simpa using ih
   ·rw [k]
    cases hx : xs n (fun i => decide (d i ≠ 0) && b i) with
    | true => rw [hx] at ih;simp at ih ⊢;omega
    | false => rw [hx] at ih;simp at ih ⊢;omega
   ·rw [k]
    cases hx : xs n (fun i => decide (d i ≠ 0) && b i) with
    | true => rw [hx] at ih;simp at ih ⊢;omega
    | false => rw [hx] at ih;simp at ih ⊢;omega
theorem gp_par (G : Grd K M T R n p) (s j : Nat) : par n (fun i => gm M K (p i)) (gz T R s j) = xs n fun e => decide ((gL K M n p).da e (2 * ((s : Int) - T) + 1) ≠ 0) && decide ((j : Int) - R < (gL K M n p).X e (2 * ((s : Int) - T) + 1)) :=
 xs_congr fun _ he => rc_gz G he _ _
theorem gz_off (G : Grd K M T R n p) (s j : Nat) : ¬ OnK n (fun i => gm M K (p i)) (gz T R s j):=by
 rintro ⟨e,he,hc,_⟩
 have h := cross_gz G he ((j : Int) - R) (2 * ((s : Int) - T) + 1)
 have hc : cross (gm M K (p e)) (gm M K (p (nx n e))) (2 * ((j : Int) - R) + 1,2 * (2 * ((s : Int) - T) + 1)) = 0 := hc
 rw [hc] at h
 have hne := G.ne he
 rcases Int.mul_eq_zero.1 h.symm with k | k
 ·omega
 ·omega
theorem grid_area_c (G : Grd K M T R n p) {c : Int} (hc : ∀ e,e < n → ∀ k,(gL K M n p).rng e (2 * k + 1) → (gL K M n p).r e (2 * k + 1) + (gL K M n p).up e = c) : (c = 0 ∨ c = 1) ∧ 2 * M * K * area n p = 4 * sm (2 * T) fun s => sm (2 * R) fun j => (2 * c - 1) * gp K M T R n p s j:=by
 have F := G.fine
 have hb := F.big
 have hS : ∀ i,i < n → -(2 * T : Int) ≤ (gL K M n p).H i ∧ (gL K M n p).H i ≤ 2 * T := G.lev
 have e1 : sm n (fun e => ((gL K M n p).H (nx n e) - (gL K M n p).H e) * ((gL K M n p).V e + (gL K M n p).V (nx n e))) = 4 * sm (2 * T) (fun s => sm n fun e => (gL K M n p).da e (2 * ((s : Int) - T) + 1) * (gL K M n p).X e (2 * ((s : Int) - T) + 1)):=by
  rw [← sm_swap n (2 * T) (fun e s => (gL K M n p).da e (2 * ((s : Int) - T) + 1) * (gL K M n p).X e (2 * ((s : Int) - T) + 1)),← sm_mul]
  exact sm_congr fun e he => ((gL K M n p).edge_area F he T hS).symm
 -- the round number is 0 or 1
 have hc01 : c = 0 ∨ c = 1:=by
  obtain ⟨k,_,hk,_⟩:=(gL K M n p).round F (e := 0) (by omega)
  have hx : nx n 0 < n := nx_lt hb
  obtain ⟨q0,h0⟩ := F.even 0
  obtain ⟨q1,h1⟩ := F.even (nx n 0)
  have hd : (gL K M n p).da 0 (2 * k + 1) ≠ 0:=by
   unfold Lev.rng at hk
   unfold Lev.da Lev.g
   split <;> split <;> omega
  exact ((gL K M n p).level_pos F hc k).2.2 ⟨0,by omega,hd⟩ |>.1
 refine ⟨hc01,?_⟩
 -- each place
 have place : ∀ s j : Nat,(gL K M n p).beyond (2 * ((s : Int) - T) + 1) ((j : Int) - R) = (2 * c - 1) * gp K M T R n p s j:=by
  intro s j
  have hpar := sm_parity n (fun e => decide ((j : Int) - R < (gL K M n p).X e (2 * ((s : Int) - T) + 1))) (fun e => (gL K M n p).da e (2 * ((s : Int) - T) + 1)) (fun i _ => by
   unfold Lev.da Lev.g;split <;> split <;> simp)
  rw [← gp_par G s j] at hpar
  have hbey : sm n (fun i => (if decide ((j : Int) - R < (gL K M n p).X i (2 * ((s : Int) - T) + 1)) = true then 1 else 0) * (gL K M n p).da i (2 * ((s : Int) - T) + 1)) = (gL K M n p).beyond (2 * ((s : Int) - T) + 1) ((j : Int) - R):=by
   unfold Lev.beyond
   refine sm_congr fun e _ => ?_
   by_cases h : (j : Int) - R < (gL K M n p).X e (2 * ((s : Int) - T) + 1)
   ·rw [if_pos h,if_pos (decide_eq_true h)]
   ·rw [if_neg h,if_neg (by rw [decide_eq_false h];simp)]
  rw [hbey] at hpar
  unfold gp
  have hval:=(gL K M n p).beyond_val F hc ((s : Int) - T) ((j : Int) - R)
  have hup : ∀ e,(gL K M n p).up e = 0 ∨ (gL K M n p).up e = 1:=fun e => by unfold Lev.up;split <;> simp
  have hb3 : (gL K M n p).beyond (2 * ((s : Int) - T) + 1) ((j : Int) - R) = 0 ∨ (gL K M n p).beyond (2 * ((s : Int) - T) + 1) ((j : Int) - R) = 2 * c - 1:=by
   rcases hval with ⟨_,h⟩ | ⟨e,_,_,_,h⟩
   ·exact .inl h
   ·rcases hup e with k | k <;> rcases hc01 with q | q <;> rw [k,q] at h <;> rw [h,q] <;> simp
  cases hq : par n (fun i => gm M K (p i)) (gz T R s j) with
  | true =>
   rw [hq] at hpar
   simp only [if_true] at hpar ⊢
   rcases hb3 with h | h
   ·rw [h] at hpar;simp at hpar
   ·rw [h];omega
  | false =>
   rw [hq] at hpar
   simp only [Bool.false_eq_true,if_false] at hpar ⊢
   rcases hb3 with h | h
   ·rw [h];omega
   ·rw [h] at hpar
    rcases hc01 with q | q <;> rw [q] at hpar <;> simp at hpar
 have e2 : (sm (2 * T) fun s => sm n fun e => (gL K M n p).da e (2 * ((s : Int) - T) + 1) * (gL K M n p).X e (2 * ((s : Int) - T) + 1)) = sm (2 * T) fun s => sm (2 * R) fun j => (2 * c - 1) * gp K M T R n p s j:=by
  refine sm_congr fun s hs => ?_
  rw [(gL K M n p).level_sum (2 * ((s : Int) - T) + 1) R (G.wid s hs)]
  exact sm_congr fun j _ => place s j
 rw [e2] at e1
 rw [← e1]
 -- the trapezoids
 have e3 : sm n (fun e => ((gL K M n p).H (nx n e) - (gL K M n p).H e) * ((gL K M n p).V e + (gL K M n p).V (nx n e))) = sm n fun e => (2 * M * K) * ((p e).1 * (p (nx n e)).2 - (p (nx n e)).1 * (p e).2) + ((fun j => M * (2 * ((p j).1 * (p j).1) + 2 * K * ((p j).1 * (p j).2))) ((e + 1) % n) - (fun j => M * (2 * ((p j).1 * (p j).1) + 2 * K * ((p j).1 * (p j).2))) e):=by
  refine sm_congr fun e _ => ?_
  show (ht 2 (2 * K) (p (nx n e)) - ht 2 (2 * K) (p e)) * (M * (p e).1 + M * (p (nx n e)).1) = _
  have : nx n e = (e + 1) % n := rfl
  rw [← this]
  unfold ht
  dsimp only
  grind
 have cyc := sm_cycle n fun j => M * (2 * ((p j).1 * (p j).1) + 2 * K * ((p j).1 * (p j).2))
 rw [e3,sm_add,sm_mul,cyc]
 unfold area
 omega
theorem grid_area (G : Grd K M T R n p) : ∃ c : Int,(c = 0 ∨ c = 1) ∧ 2 * M * K * area n p = 4 * sm (2 * T) fun s => sm (2 * R) fun j => (2 * c - 1) * gp K M T R n p s j:=by
 obtain ⟨c,hc⟩:=(gL K M n p).all_round G.fine
 exact ⟨c,grid_area_c G hc⟩
def gcount (K M : Int) (T R n : Nat) (p : Nat → Pt) : Int := sm (2 * T) fun s => sm (2 * R) fun j => gp K M T R n p s j
theorem gcount_nonneg (K M : Int) (T R n : Nat) (p : Nat → Pt) : 0 ≤ gcount K M T R n p :=
 sm_nonneg fun s _ => sm_nonneg fun j _ => by unfold gp;split <;> omega
theorem grid_pos (G : Grd K M T R n p) (h : 0 < area n p) : 2 * M * K * area n p = 4 * gcount K M T R n p:=by
 obtain ⟨c,hc,e⟩ := grid_area G
 have hD : 0 < 2 * M * K := Int.mul_pos (by have := G.mp;omega) G.kp
 have hp := Int.mul_pos hD h
 have hn := gcount_nonneg K M T R n p
 rw [sm_congr (fun s _ => sm_mul (2 * R) (2 * c - 1) fun j => gp K M T R n p s j),sm_mul] at e
 have e' : 2 * M * K * area n p = 4 * ((2 * c - 1) * gcount K M T R n p) := e
 rcases hc with q | q <;> rw [q] at e' <;> omega
end
structure Plg where
 n : Nat
 p : Nat → Pt
theorem list_bound (f : Plg → Nat → Prop) (hf : ∀ c a b,a ≤ b → f c a → f c b) (l : List Plg) (h : ∀ c,c ∈ l → ∃ a,f c a) : ∃ a,∀ c,c ∈ l → f c a:=by
 induction l with
 | nil => exact ⟨0,fun c hc => by cases hc⟩
 | cons c l ih =>
  obtain ⟨a,ha⟩ := ih fun d hd => h d (List.mem_cons_of_mem _ hd)
  obtain ⟨b,hb⟩ := h c List.mem_cons_self
  refine ⟨a + b,fun d hd => ?_⟩
  rcases List.mem_cons.1 hd with e | e
  ·rw [e];exact hf c b _ (by omega) hb
  ·exact hf d a _ (by omega) (ha d e)
theorem list_mult (f : Plg → Int → Prop) (hf : ∀ c a b,f c a → a ∣ b → f c b) (l : List Plg) (h : ∀ c,c ∈ l → ∃ a,0 < a ∧ f c a) : ∃ a,0 < a ∧ ∀ c,c ∈ l → f c a:=by
 induction l with
 | nil => exact ⟨1,by omega,fun c hc => by cases hc⟩
 | cons c l ih =>
  obtain ⟨a,a0,ha⟩ := ih fun d hd => h d (List.mem_cons_of_mem _ hd)
  obtain ⟨b,b0,hb⟩ := h c List.mem_cons_self
  refine ⟨a * b,Int.mul_pos a0 b0,fun d hd => ?_⟩
  rcases List.mem_cons.1 hd with e | e
  ·rw [e];exact hf c b _ hb (Int.dvd_mul_left a b)
  ·exact hf d a _ (ha d e) (Int.dvd_mul_right a b)
theorem nat_bound (n : Nat) (f : Nat → Int) : ∃ B : Nat,∀ i,i < n → -(B : Int) ≤ f i ∧ f i ≤ B:=by
 induction n with
 | zero => exact ⟨0,fun i h => by omega⟩
 | succ n ih =>
  obtain ⟨B,hB⟩ := ih
  refine ⟨B + (f n).natAbs,fun i hi => ?_⟩
  by_cases e : i = n
  ·subst e;omega
  ·have := hB i (by omega);omega
theorem exists_grid (l : List Plg) (h : ∀ c,c ∈ l → Simple c.n c.p) : ∃ K M T R,∀ c,c ∈ l → Grd K M T R c.n c.p:=by
 -- heights that part all corners
 obtain ⟨B,hB⟩ := list_bound (fun c B => ∀ i,i < c.n → -(B : Int) ≤ (c.p i).1 ∧ (c.p i).1 ≤ B ∧ -(B : Int) ≤ (c.p i).2 ∧ (c.p i).2 ≤ B) (fun c a b hab k i hi => by have := k i hi;omega) l (fun c _ => bounded c.n c.p)
 obtain ⟨K,hK⟩ : ∃ K : Int,K = 4 * B + 1 := ⟨_,rfl⟩
 have hdist : ∀ c,c ∈ l → ∀ i j,i < c.n → j < c.n → i ≠ j → gh K c.p i ≠ gh K c.p j:=by
  intro c hc i j hi hj hne h0
  have b1 := hB c hc i hi
  have b2 := hB c hc j hj
  unfold gh ht at h0
  have h1 : K * ((c.p i).2 - (c.p j).2) = (c.p j).1 - (c.p i).1:=by grind
  have h2 : (c.p i).2 = (c.p j).2:=by
   rcases Int.lt_trichotomy 0 ((c.p i).2 - (c.p j).2) with g | g | g
   ·have : K * 1 ≤ K * ((c.p i).2 - (c.p j).2) := Int.mul_le_mul_of_nonneg_left (by omega) (by omega)
    omega
   ·omega
   ·have : K * 1 ≤ K * -((c.p i).2 - (c.p j).2) := Int.mul_le_mul_of_nonneg_left (by omega) (by omega)
    grind
  have h3 : (c.p i).1 = (c.p j).1:=by rw [h2] at h1;grind
  exact (h c hc).dist i j hi hj hne (Prod.ext h3 h2)
 -- a common multiple
 obtain ⟨M,hM0,hM⟩ := list_mult (fun c M => ∀ e,e < c.n → (gh K c.p (nx c.n e) - gh K c.p e) ∣ M) (fun c a b k hab e he => Int.dvd_trans (k e he) hab) l (fun c hc => by
  have hb:=(h c hc).big
  refine ⟨pr c.n fun e => (gh K c.p (nx c.n e) - gh K c.p e) * (gh K c.p (nx c.n e) - gh K c.p e),pr_pos fun e he => ?_,fun e he => ?_⟩
  ·have hne := hdist c hc (nx c.n e) e (nx_lt hb) he (nx_ne hb he)
   rcases Int.lt_or_lt_of_ne hne with g | g
   ·have := Int.mul_pos (show 0 < -(gh K c.p (nx c.n e) - gh K c.p e) by omega) (show 0 < -(gh K c.p (nx c.n e) - gh K c.p e) by omega)
    grind
   ·exact Int.mul_pos (by omega) (by omega)
  ·obtain ⟨q,hq⟩ := pr_dvd (f:=fun e => (gh K c.p (nx c.n e) - gh K c.p e) * (gh K c.p (nx c.n e) - gh K c.p e)) he
   rw [← hq]
   exact ⟨q * (gh K c.p (nx c.n e) - gh K c.p e),by grind⟩)
 obtain ⟨T,hT⟩ := list_bound (fun c T => ∀ i,i < c.n → -(2 * T : Int) ≤ gh K c.p i ∧ gh K c.p i ≤ 2 * T) (fun c a b hab k i hi => by have := k i hi;omega) l (fun c _ => by
  obtain ⟨B,hB⟩ := nat_bound c.n (gh K c.p)
  exact ⟨B,fun i hi => by have := hB i hi;omega⟩)
 obtain ⟨R,hR⟩ := list_bound (fun c R => ∀ s,s < 2 * T → ∀ e,e < c.n → -(R : Int) ≤ gX K M c.n c.p e (2 * ((s : Int) - T) + 1) ∧ gX K M c.n c.p e (2 * ((s : Int) - T) + 1) ≤ R) (fun c a b hab k s hs e he => by have := k s hs e he;omega) l (fun c _ => by
  have : ∀ m : Nat,∃ R : Nat,∀ s,s < m → ∀ e,e < c.n → -(R : Int) ≤ gX K M c.n c.p e (2 * ((s : Int) - T) + 1) ∧ gX K M c.n c.p e (2 * ((s : Int) - T) + 1) ≤ R:=by
   intro m
   induction m with
   | zero => exact ⟨0,fun s hs => by omega⟩
   | succ m ih =>
    obtain ⟨A,hA⟩ := ih
    obtain ⟨B,hB⟩ := nat_bound c.n fun e => gX K M c.n c.p e (2 * ((m : Int) - T) + 1)
    refine ⟨A + B,fun s hs e he => ?_⟩
    by_cases q : s = m
    ·subst q;have := hB e he;omega
    ·have := hA s (by omega) e he;omega
  exact this (2 * T))
 exact ⟨K,M,T,R,fun c hc => ⟨h c hc,by omega,hM0,hdist c hc,hM c hc,hT c hc,hR c hc⟩⟩
end Geo
/-
 At the topmost corner a simple polygon turns to the side that its area tells.
-/
set_option linter.all false
namespace Geo
theorem nx_prev {n i : Nat} (h : 0 < n) (hi : i < n) : ∃ j,j < n ∧ nx n j = i:=by
 match i with
 | 0 => exact ⟨n - 1,by omega,by unfold nx;rw [show n - 1 + 1 = n by omega,Nat.mod_self]⟩
 | i + 1 => exact ⟨i,by omega,by unfold nx;exact Nat.mod_eq_of_lt hi⟩
theorem top_sign {n : Nat} {p : Nat → Pt} {K M : Int} {T R : Nat} (G : Grd K M T R n p) {e m : Nat} (he : e < n) (hm : m < n) (hem : nx n e = m) (hmax : ∀ i,i < n → gh K p i ≤ gh K p m) :
  (0 < area n p ∧ 0 < cross (p e) (p m) (p (nx n m))) ∨ (area n p < 0 ∧ cross (p e) (p m) (p (nx n m)) < 0):=by
 have S := G.simple
 have F := G.fine
 have hb := F.big
 have hK := G.kp
 have hM := G.mp
 obtain ⟨c,hc⟩:=(gL K M n p).all_round F
 obtain ⟨hc01,hA⟩ := grid_area_c G hc
 -- the sign of the area
 have hsgn : (c = 1 ∧ 0 < area n p) ∨ (c = 0 ∧ area n p < 0):=by
  have hn := gcount_nonneg K M T R n p
  have hne := area_simple S
  rw [sm_congr (fun s _ => sm_mul (2 * R) (2 * c - 1) fun j => gp K M T R n p s j),sm_mul] at hA
  have e' : 2 * M * K * area n p = 4 * ((2 * c - 1) * gcount K M T R n p) := hA
  have hD : 0 < 2 * M * K := Int.mul_pos (by omega) hK
  rcases hc01 with q | q
  ·right
   refine ⟨q,?_⟩
   rcases Int.lt_trichotomy (area n p) 0 with h | h | h
   ·exact h
   ·exact absurd h hne
   ·have := Int.mul_pos hD h
    rw [q] at e';omega
  ·left
   refine ⟨q,?_⟩
   rcases Int.lt_trichotomy (area n p) 0 with h | h | h
   ·have := Int.mul_pos hD (show 0 < - area n p by omega)
    have e2 : 2 * M * K * (- area n p) = - (2 * M * K * area n p) := Int.mul_neg _ _
    rw [q] at e';omega
   ·exact absurd h hne
   ·exact h
 obtain ⟨q,hq⟩ := F.even m
 have hother : ∀ i,i < n → i ≠ m → (gL K M n p).H i ≤ 2 * q - 2:=by
  intro i hi hne
  have h1 : (gL K M n p).H i ≤ (gL K M n p).H m := hmax i hi
  obtain ⟨q',hq'⟩ := F.even i
  have h2 := F.inj i m hi hm hne
  omega
 have hen : e ≠ m:=fun h => nx_ne hb he (by rw [hem,h])
 have hxm : nx n m < n := nx_lt hb
 have hxn : nx n m ≠ m := nx_ne hb hm
 have oe := hother e he hen
 have ox := hother _ hxm hxn
 have re : (gL K M n p).rng e (2 * (q - 1) + 1):=by
  unfold Lev.rng;rw [hem];left;omega
 have rm : (gL K M n p).rng m (2 * (q - 1) + 1):=by
  unfold Lev.rng;right;omega
 have hup : (gL K M n p).up e = 1:=by unfold Lev.up;rw [hem,if_pos (by omega)]
 have hr : (gL K M n p).r e (2 * (q - 1) + 1) = - (gL K M n p).rt e m (2 * (q - 1) + 1):=by
  unfold Lev.r
  rw [sm_one hm]
  ·unfold Lev.da Lev.g
   rw [if_neg (by omega),if_pos (by omega)];omega
  ·intro i hi hne
   by_cases hie : i = e
   ·subst hie;rw [Lev.rt_self,Int.zero_mul]
   ·have h1 := hother i hi hne
    have h2 := hother (nx n i) (nx_lt hb) (fun h => hie (nx_inj hi he (h.trans hem.symm)))
    unfold Lev.da Lev.g
    rw [if_neg (by omega),if_neg (by omega),Int.sub_self,Int.mul_zero]
 have hcv := hc e he (q - 1) re
 rw [hr,hup] at hcv
 have hsep : (gL K M n p).sep e m (2 * (q - 1) + 1) := Lev.sep_odd F rfl re rm
 have hflip := Lev.rt_flip F he hm hen hsep
 obtain ⟨⟨c1,s1,a1⟩,b1,d1⟩ := G.line he
 obtain ⟨⟨c2,s2,a2⟩,b2,d2⟩ := G.line hm
 have hl:=(G.line he).cross (p (nx n m))
 rw [hem] at d1 hl
 have hHm : ht 2 (2 * K) (p m) = 2 * q := hq
 have hHe : ht 2 (2 * K) (p e) ≤ 2 * q - 2 := oe
 have hHx : ht 2 (2 * K) (p (nx n m)) ≤ 2 * q - 2 := ox
 rw [hHm] at d1 b2 hl
 have hd1 := d1
 have hb2 := b2
 rw [a1] at d1
 rw [a2] at b2 d2
 rw [a1] at hl
 have hMK : 0 < M * (2 * K) := Int.mul_pos hM (by omega)
 generalize ht 2 (2 * K) (p (nx n m)) = h1 at *
 generalize ht 2 (2 * K) (p e) = h0 at *
 generalize hz : cross (p e) (p m) (p (nx n m)) = z at *
 have hX : ∀ b : Bool,(gL K M n p).rt e m (2 * (q - 1) + 1) = (if b then 1 else 0) → (b = true → s2 < s1) ∧ (b = false → s1 < s2):=by
  intro b hb'
  constructor
  ·intro hbt
   subst hbt
   simp only [if_true] at hb'
   unfold Lev.rt at hb'
   split at hb'
   ·rename_i hlt
    rw [a1,a2] at hlt
    grind
   ·cases hb'
  ·intro hbf
   subst hbf
   simp only [Bool.false_eq_true,if_false] at hb'
   rw [hb'] at hflip
   unfold Lev.rt at hflip
   split at hflip
   ·rename_i hlt
    rw [a1,a2] at hlt
    grind
   ·cases hflip
 have key : (2 * q - h0) * ((s2 - s1) * (h1 - 2 * q)) = - (M * (2 * K)) * z:=by
  rw [← hl,← d2]
  grind
 rcases hsgn with ⟨hc1,hpos⟩ | ⟨hc0,hneg⟩
 ·refine .inl ⟨hpos,?_⟩
  have hs:=(hX false (by simp only [Bool.false_eq_true,if_false];omega)).2 rfl
  have k1 := Int.mul_pos (show 0 < 2 * q - h0 by omega) (Int.mul_pos (show 0 < s2 - s1 by omega) (show 0 < 2 * q - h1 by omega))
  have k2 : (2 * q - h0) * ((s2 - s1) * (h1 - 2 * q)) = - ((2 * q - h0) * ((s2 - s1) * (2 * q - h1))):=by grind
  have k3 : M * (2 * K) * z = (2 * q - h0) * ((s2 - s1) * (2 * q - h1)):=by grind
  rcases Int.lt_trichotomy z 0 with h | h | h
  ·have := Int.mul_pos hMK (show 0 < -z by omega)
   rw [Int.mul_neg] at this;omega
  ·rw [h,Int.mul_zero] at k3;omega
  ·exact h
 ·refine .inr ⟨hneg,?_⟩
  have hs:=(hX true (by simp only [if_true];omega)).1 rfl
  have k1 := Int.mul_pos (show 0 < 2 * q - h0 by omega) (Int.mul_pos (show 0 < s1 - s2 by omega) (show 0 < 2 * q - h1 by omega))
  have k3 : - (M * (2 * K) * z) = (2 * q - h0) * ((s1 - s2) * (2 * q - h1)):=by grind
  rcases Int.lt_trichotomy z 0 with h | h | h
  ·exact h
  ·rw [h,Int.mul_zero] at k3;omega
  ·have := Int.mul_pos hMK h
   omega
end Geo
/-
 The lower side of the hull of points that are sorted by the first coordinate,then by the second one.
-/
set_option linter.all false
namespace Geo
def fw (a b : Pt) : Prop := a.1 < b.1 ∨ (a.1 = b.1 ∧ a.2 < b.2)
theorem fw.trans {a b c : Pt} (h : fw a b) (k : fw b c) : fw a c:=by unfold fw at *;omega
theorem fw.irr {a : Pt} (h : fw a a) : False:=by unfold fw at h;omega
theorem fw.asymm {a b : Pt} (h : fw a b) (k : fw b a) : False:=(h.trans k).irr
theorem pos_ofm {b z : Int} (hb : 0 < b) (h : 0 < b * z) : 0 < z:=by
 rcases Int.lt_trichotomy z 0 with k | k | k
 ·have := Int.mul_pos hb (show 0 < -z by omega)
  rw [Int.mul_neg] at this;omega
 ·rw [k,Int.mul_zero] at h;omega
 ·exact k
theorem nonneg_ofm {b z : Int} (hb : 0 < b) (h : 0 ≤ b * z) : 0 ≤ z:=by
 rcases Int.lt_trichotomy z 0 with k | k | k
 ·have := Int.mul_pos hb (show 0 < -z by omega)
  rw [Int.mul_neg] at this;omega
 ·omega
 ·omega
theorem turn_trans {a1 a2 b1 b2 c1 c2 : Int} (ha : 0 < a1 ∨ (a1 = 0 ∧ 0 < a2)) (hb : 0 < b1 ∨ (b1 = 0 ∧ 0 < b2)) (hc : 0 < c1 ∨ (c1 = 0 ∧ 0 < c2)) (h1 : 0 ≤ a1 * b2 - a2 * b1) (h2 : 0 ≤ b1 * c2 - b2 * c1) :
  0 ≤ a1 * c2 - a2 * c1 ∧ (0 < a1 * b2 - a2 * b1 ∨ 0 < b1 * c2 - b2 * c1 → 0 < a1 * c2 - a2 * c1):=by
 rcases hb with hb | ⟨hb,hb2⟩
 ·have ex : b1 * (a1 * c2 - a2 * c1) = c1 * (a1 * b2 - a2 * b1) + a1 * (b1 * c2 - b2 * c1):=by grind
  rcases ha with ha | ⟨ha,ha2⟩
  ·rcases hc with hc | ⟨hc,hc2⟩
   ·have k1 := Int.mul_nonneg (Int.le_of_lt hc) h1
    have k2 := Int.mul_nonneg (Int.le_of_lt ha) h2
    refine ⟨nonneg_ofm hb (by omega),fun h => pos_ofm hb ?_⟩
    rcases h with h | h
    ·have := Int.mul_pos hc h;omega
    ·have := Int.mul_pos ha h;omega
   ·subst hc
    have := Int.mul_pos ha hc2
    rw [Int.mul_zero]
    exact ⟨by omega,fun _ => by omega⟩
  ·subst ha
   have := Int.mul_pos ha2 hb
   omega
 ·subst hb
  rw [Int.zero_mul] at h2
  rw [Int.mul_zero] at h1
  rcases hc with hc | ⟨hc,hc2⟩
  ·have := Int.mul_pos hb2 hc
   omega
  ·subst hc
   simp only [Int.mul_zero,Int.zero_mul] at *
   rcases ha with ha | ⟨ha,ha2⟩
   ·have := Int.mul_pos ha hc2
    exact ⟨by omega,fun _ => by omega⟩
   ·subst ha
    simp only [Int.mul_zero,Int.zero_mul] at *
    exact ⟨by omega,fun h => by omega⟩
theorem fw.vec {a b : Pt} (h : fw a b) : 0 < b.1 - a.1 ∨ (b.1 - a.1 = 0 ∧ 0 < b.2 - a.2):=by unfold fw at h;omega
theorem left4 {a b c q : Pt} (h1 : fw a b) (h2 : fw b c) (h3 : fw c q) (k1 : 0 < cross a b c) (k2 : 0 < cross b c q) : 0 < cross a b q:=by
 have e1 : cross a b c = (b.1 - a.1) * (c.2 - b.2) - (b.2 - a.2) * (c.1 - b.1):=by unfold cross;grind
 have e2 : cross b c q = (c.1 - b.1) * (q.2 - c.2) - (c.2 - b.2) * (q.1 - c.1):=by unfold cross;grind
 have e3 : cross a b q = cross a b c + ((b.1 - a.1) * (q.2 - c.2) - (b.2 - a.2) * (q.1 - c.1)):=by unfold cross;grind
 have:=(turn_trans h1.vec h2.vec h3.vec (by omega) (by omega)).2 (.inl (by omega))
 omega
def LeftOn (a b r : Pt) : Prop := 0 < cross a b r ∨ On r a b
theorem LeftOn.nonneg {a b r : Pt} (h : LeftOn a b r) : 0 ≤ cross a b r:=by
 rcases h with h | h
 ·omega
 ·have := h.1;omega
theorem on_fw {a b r : Pt} (h : cross a b r = 0) (h1 : a = r ∨ fw a r) (h2 : r = b ∨ fw r b) : On r a b:=by
 rcases h1 with rfl | h1
 ·exact ⟨h,by unfold btw;omega,by unfold btw;omega⟩
 rcases h2 with rfl | h2
 ·exact ⟨h,by unfold btw;omega,by unfold btw;omega⟩
 refine ⟨h,.inl (by unfold fw at h1 h2;omega),?_⟩
 unfold cross at h
 rcases h1 with h1 | ⟨h1,h1'⟩
 ·rcases h2 with h2 | ⟨h2,h2'⟩
  ·
   unfold btw
   rcases Int.lt_trichotomy a.2 b.2 with hy | hy | hy
   ·left
    have k1 := Int.mul_pos (show 0 < b.2 - a.2 by omega) (show 0 < r.1 - a.1 by omega)
    have k2 : 0 < r.2 - a.2 := pos_ofm (b := b.1 - a.1) (by omega) (by omega)
    have k3 := Int.mul_pos (show 0 < b.2 - a.2 by omega) (show 0 < b.1 - r.1 by omega)
    have k4 : 0 < b.2 - r.2 := pos_ofm (b := b.1 - a.1) (by omega) (by
     have : (b.1 - a.1) * (b.2 - r.2) = (b.2 - a.2) * (b.1 - r.1):=by grind
     omega)
    omega
   ·have k2 : (b.1 - a.1) * (r.2 - a.2) = 0:=by rw [hy] at h ⊢;grind
    rcases Int.mul_eq_zero.1 k2 with k | k <;> omega
   ·right
    have k1 := Int.mul_pos (show 0 < a.2 - b.2 by omega) (show 0 < r.1 - a.1 by omega)
    have k2 : 0 < a.2 - r.2 := pos_ofm (b := b.1 - a.1) (by omega) (by
     have : (b.1 - a.1) * (a.2 - r.2) = (a.2 - b.2) * (r.1 - a.1):=by grind
     omega)
    have k3 := Int.mul_pos (show 0 < a.2 - b.2 by omega) (show 0 < b.1 - r.1 by omega)
    have k4 : 0 < r.2 - b.2 := pos_ofm (b := b.1 - a.1) (by omega) (by
     have : (b.1 - a.1) * (r.2 - b.2) = (a.2 - b.2) * (b.1 - r.1):=by grind
     omega)
    omega
  ·have k2 : (b.1 - a.1) * (b.2 - r.2) = 0:=by rw [h2] at h;grind
   rcases Int.mul_eq_zero.1 k2 with k | k <;> omega
 ·rcases h2 with h2 | ⟨h2,h2'⟩
  ·have k2 : (b.1 - a.1) * (r.2 - a.2) = 0:=by rw [h1] at h ⊢;grind
   rcases Int.mul_eq_zero.1 k2 with k | k <;> omega
  ·unfold btw;omega
theorem leftOn_fw {a b r : Pt} (h : 0 ≤ cross a b r) (h1 : a = r ∨ fw a r) (h2 : r = b ∨ fw r b) : LeftOn a b r:=by
 by_cases h0 : cross a b r = 0
 ·exact .inr (on_fw h0 h1 h2)
 ·exact .inl (by omega)
theorem pop_high {u v q r : Pt} (h1 : fw u v) (h2 : fw v q) (h : cross u v q ≤ 0) (hr : v = r ∨ fw v r) (hq : fw r q) (k : 0 ≤ cross v q r) : LeftOn u q r:=by
 refine leftOn_fw ?_ (.inr (hr.elim (fun e => e ▸ h1) h1.trans)) (.inr hq)
 rcases hr with rfl | hr
 ·have : cross u q v = - cross u v q:=by unfold cross;grind
  omega
 ·have e1 : cross u v q = (v.1 - u.1) * (q.2 - v.2) - (v.2 - u.2) * (q.1 - v.1):=by unfold cross;grind
  have e2 : cross v q r = (q.1 - r.1) * (q.2 - v.2) - (q.2 - r.2) * (q.1 - v.1):=by unfold cross;grind
  have e3 : cross u q r = ((q.1 - r.1) * (v.2 - u.2) - (q.2 - r.2) * (v.1 - u.1)) + cross v q r:=by unfold cross;grind
  have:=(turn_trans hq.vec h2.vec h1.vec (by omega) (by
   have : (q.1 - v.1) * (v.2 - u.2) - (q.2 - v.2) * (v.1 - u.1) = - cross u v q:=by rw [e1];grind
   omega)).1
  omega
theorem pop_low {u v q r : Pt} (h1 : fw u v) (h2 : fw v q) (h : cross u v q ≤ 0) (hr : u = r ∨ fw u r) (hq : fw r v) (k : 0 ≤ cross u v r) : LeftOn u q r:=by
 refine leftOn_fw ?_ hr (.inr (hq.trans h2))
 rcases hr with rfl | hr
 ·have : cross u q u = 0:=by unfold cross;grind
  omega
 ·have e1 : cross u v q = (v.1 - u.1) * (q.2 - v.2) - (v.2 - u.2) * (q.1 - v.1):=by unfold cross;grind
  have e2 : cross u v r = (v.1 - u.1) * (r.2 - u.2) - (v.2 - u.2) * (r.1 - u.1) := rfl
  have e3 : cross u q r = cross u v r + ((q.1 - v.1) * (r.2 - u.2) - (q.2 - v.2) * (r.1 - u.1)):=by unfold cross;grind
  have:=(turn_trans h2.vec h1.vec hr.vec (by
   have : (q.1 - v.1) * (v.2 - u.2) - (q.2 - v.2) * (v.1 - u.1) = - cross u v q:=by rw [e1];grind
   omega) (by omega)).1
  omega
theorem behind {a b q r : Pt} (h1 : fw a b) (h2 : fw b q) (h : 0 < cross a b q) (hr : fw r b) (k : 0 ≤ cross a b r) : 0 < cross b q r:=by
 have e1 : cross a b q = (b.1 - a.1) * (q.2 - b.2) - (b.2 - a.2) * (q.1 - b.1):=by unfold cross;grind
 have e2 : cross a b r = (b.1 - r.1) * (b.2 - a.2) - (b.2 - r.2) * (b.1 - a.1):=by unfold cross;grind
 have e3 : cross b q r = (b.1 - r.1) * (q.2 - b.2) - (b.2 - r.2) * (q.1 - b.1):=by unfold cross;grind
 have:=(turn_trans hr.vec h1.vec h2.vec (by omega) (by omega)).2 (.inr (by omega))
 omega
structure Chn (P : Nat → Pt) (t k : Nat) (s : Nat → Pt) : Prop where
 pos : 0 < k
 size : k ≤ t
 first : s 0 = P 0
 last : s (k - 1) = P (t - 1)
 fwd : ∀ i,i + 1 < k → fw (s i) (s (i + 1))
 mem : ∀ i,i < k → ∃ j,j < t ∧ s i = P j
 turn : ∀ i,i + 2 < k → 0 < cross (s i) (s (i + 1)) (s (i + 2))
 edge : ∀ i,i + 1 < k → ∀ r,r < t → LeftOn (s i) (s (i + 1)) (P r)
structure Pop (P : Nat → Pt) (t k : Nat) (s : Nat → Pt) (k' : Nat) : Prop where
 pos : 0 < k'
 size : k' ≤ k
 high : ∀ r,r < t → (s (k' - 1) = P r ∨ fw (s (k' - 1)) (P r)) → LeftOn (s (k' - 1)) (P t) (P r)
section
variable {P : Nat → Pt} {t n k k' : Nat} {s : Nat → Pt}
theorem chn_one : Chn P 1 1 (fun _ => P 0) :=
 ⟨by omega,by omega,rfl,rfl,fun i h => by omega,fun i _ => ⟨0,by omega,rfl⟩,fun i h => by omega,fun i h => by omega⟩
theorem Chn.behind_t (hP : ∀ i j,i < j → j < n → fw (P i) (P j)) (ht : t < n) (C : Chn P t k s) {i : Nat} (hi : i < k) : fw (s i) (P t):=by
 obtain ⟨j,hj,e⟩ := C.mem i hi
 rw [e];exact hP j t hj ht
theorem Chn.pop (hP : ∀ i j,i < j → j < n → fw (P i) (P j)) (ht : t < n) (C : Chn P t k s) : Pop P t k s k:=by
 refine ⟨C.pos,Nat.le_refl _,fun r hr h => ?_⟩
 have hlast := C.last
 have hk := C.pos
 have hs := C.size
 have e : r = t - 1:=by
  rcases Nat.lt_or_ge r (t - 1) with h1 | h1
  ·exfalso
   have h2 := hP r (t - 1) h1 (by omega)
   rw [hlast] at h
   rcases h with h | h
   ·rw [h] at h2;exact h2.irr
   ·exact h.asymm h2
  ·omega
 subst e
 rw [hlast]
 have z : cross (P (t - 1)) (P t) (P (t - 1)) = 0:=by unfold cross;grind
 exact leftOn_fw (by omega) (.inl rfl) (.inr (hP _ _ (by omega) ht))
theorem Pop.step (hP : ∀ i j,i < j → j < n → fw (P i) (P j)) (ht : t < n) (C : Chn P t k s) (O : Pop P t k s k') (h2 : 1 < k') (h : cross (s (k' - 2)) (s (k' - 1)) (P t) ≤ 0) : Pop P t k s (k' - 1):=by
 have hs := O.size
 refine ⟨by omega,by omega,fun r hr hh => ?_⟩
 have e1 : k' - 1 - 1 = k' - 2:=by omega
 rw [e1] at hh ⊢
 have f1 : fw (s (k' - 2)) (s (k' - 1)):=by
  have := C.fwd (k' - 2) (by omega)
  rwa [show k' - 2 + 1 = k' - 1 by omega] at this
 have f2 : fw (s (k' - 1)) (P t) := C.behind_t hP ht (by omega)
 have f3 : fw (P r) (P t) := hP r t hr ht
 have ed := C.edge (k' - 2) (by omega) r hr
 rw [show k' - 2 + 1 = k' - 1 by omega] at ed
 by_cases hv : s (k' - 1) = P r ∨ fw (s (k' - 1)) (P r)
 ·exact pop_high f1 f2 h hv f3 (O.high r hr hv).nonneg
 ·have hlt : fw (P r) (s (k' - 1)):=by
   unfold fw at hv ⊢
   have : ¬ (s (k' - 1) = P r):=fun e => hv (.inl e)
   have h3 : ¬ ((s (k' - 1)).1 = (P r).1 ∧ (s (k' - 1)).2 = (P r).2):=fun e => this (Prod.ext e.1 e.2)
   have h4 : ¬ ((s (k' - 1)).1 < (P r).1 ∨ (s (k' - 1)).1 = (P r).1 ∧ (s (k' - 1)).2 < (P r).2):=fun e => hv (.inr e)
   omega
  exact pop_low f1 f2 h hh hlt ed.nonneg
theorem Pop.push (hP : ∀ i j,i < j → j < n → fw (P i) (P j)) (ht : t < n) (C : Chn P t k s) (O : Pop P t k s k') (h : 1 < k' → 0 < cross (s (k' - 2)) (s (k' - 1)) (P t)) {s' : Nat → Pt} (e : ∀ i,i < k' → s' i = s i) (eq : s' k' = P t) : Chn P (t + 1) (k' + 1) s':=by
 have hp := O.pos
 have hs := O.size
 have hks := C.size
 -- the new point is on the left of the edges that are left
 have new : ∀ d i,i + 2 + d = k' → 0 < cross (s i) (s (i + 1)) (P t):=by
  intro d
  induction d with
  | zero =>
   intro i hi
   have := h (by omega)
   rwa [show k' - 2 = i by omega,show k' - 1 = i + 1 by omega] at this
  | succ d ih =>
   intro i hi
   exact left4 (C.fwd i (by omega)) (C.fwd (i + 1) (by omega)) (C.behind_t hP ht (by omega)) (C.turn i (by omega)) (ih (i + 1) (by omega))
 refine ⟨by omega,by omega,?_,?_,fun i hi => ?_,fun i hi => ?_,fun i hi => ?_,fun i hi r hr => ?_⟩
 ·rw [e 0 (by omega)];exact C.first
 ·rw [Nat.add_sub_cancel,Nat.add_sub_cancel];exact eq
 ·by_cases h1 : i + 1 < k'
  ·rw [e i (by omega),e (i + 1) h1];exact C.fwd i (by omega)
  ·have : i + 1 = k':=by omega
   rw [e i (by omega),this,eq]
   exact C.behind_t hP ht (by omega)
 ·by_cases h1 : i < k'
  ·obtain ⟨j,hj,h2⟩ := C.mem i (by omega)
   exact ⟨j,by omega,by rw [e i h1];exact h2⟩
  ·have : i = k':=by omega
   exact ⟨t,by omega,by rw [this];exact eq⟩
 ·by_cases h1 : i + 2 < k'
  ·rw [e i (by omega),e (i + 1) (by omega),e (i + 2) h1];exact C.turn i (by omega)
  ·have : i + 2 = k':=by omega
   rw [e i (by omega),e (i + 1) (by omega),this,eq]
   exact new 0 i (by omega)
 ·by_cases h1 : i + 1 < k'
  ·rw [e i (by omega),e (i + 1) h1]
   by_cases h2 : r = t
   ·rw [h2];exact .inl (new (k' - i - 2) i (by omega))
   ·exact C.edge i (by omega) r (by omega)
  ·have hk : i + 1 = k':=by omega
   have hi1 : i = k' - 1:=by omega
   rw [e i (by omega),hk,eq]
   by_cases h2 : r = t
   ·rw [h2]
    have z : cross (s i) (P t) (P t) = 0:=by unfold cross;grind
    exact leftOn_fw (by omega) (.inr (C.behind_t hP ht (by omega))) (.inl rfl)
   ·by_cases hv : s i = P r ∨ fw (s i) (P r)
    ·rw [hi1] at hv ⊢
     exact O.high r (by omega) hv
    ·have hlt : fw (P r) (s i):=by
      unfold fw at hv ⊢
      have : ¬ (s i = P r):=fun e => hv (.inl e)
      have h3 : ¬ ((s i).1 = (P r).1 ∧ (s i).2 = (P r).2):=fun e => this (Prod.ext e.1 e.2)
      have h4 : ¬ ((s i).1 < (P r).1 ∨ (s i).1 = (P r).1 ∧ (s i).2 < (P r).2):=fun e => hv (.inr e)
      omega
     by_cases h3 : 1 < k'
     ·have h4 := h h3
      have h5 := C.edge (k' - 2) (by omega) r (by omega)
      rw [show k' - 2 + 1 = k' - 1 by omega] at h5
      have h6 := C.fwd (k' - 2) (by omega)
      rw [show k' - 2 + 1 = k' - 1 by omega] at h6
      rw [hi1] at hlt ⊢
      exact .inl (behind h6 (C.behind_t hP ht (by omega)) h4 hlt h5.nonneg)
     ·have : i = 0:=by omega
      rw [this,C.first] at hlt
      rcases Nat.eq_zero_or_pos r with hr0 | hr0
      ·rw [hr0] at hlt;exact hlt.irr.elim
      ·exact (hlt.asymm (hP 0 r hr0 (by omega))).elim
end
end Geo
/-
 The hull: its corners,one after the other,each of them the point that has all others on its left.
-/
set_option linter.all false
namespace Geo
def ng (p : Pt) : Pt:=(-p.1, -p.2)
theorem cross_ng (a b c : Pt) : cross (ng a) (ng b) (ng c) = cross a b c:=by unfold ng cross;simp only;grind
theorem ng_ng (a : Pt) : ng (ng a) = a:=by unfold ng;simp
theorem ng_inj {a b : Pt} (h : ng a = ng b) : a = b:=by rw [← ng_ng a,h,ng_ng]
theorem on_ng (q a b : Pt) : On (ng q) (ng a) (ng b) ↔ On q a b:=by
 unfold On
 rw [cross_ng]
 unfold ng btw
 simp only
 omega
theorem leftOn_ng (a b c : Pt) : LeftOn (ng a) (ng b) (ng c) ↔ LeftOn a b c:=by unfold LeftOn;rw [cross_ng,on_ng]
theorem fw_ng {a b : Pt} : fw (ng a) (ng b) ↔ fw b a:=by unfold fw ng;simp only;omega
structure Hul (n : Nat) (p : Nat → Pt) (m : Nat) (h : Nat → Pt) : Prop where
 pos : 0 < m
 first : ∀ r,r < n → h 0 = p r ∨ fw (h 0) (p r)
 mem : ∀ i,i < m → ∃ r,r < n ∧ h i = p r
 back : ∀ i,0 < i → i < m → h i ≠ h 0
 edge : 1 < m → ∀ i,i < m → ∀ r,r < n → LeftOn (h i) (h (nx m i)) (p r)
 one : m = 1 → ∀ r,r < n → p r = h 0
theorem leftOn_eq {a b c : Pt} (hb : b ≠ a) (hc : c ≠ a) (h1 : LeftOn a b c) (h2 : LeftOn a c b) : b = c:=by
 have e : cross a c b = - cross a b c:=by unfold cross;grind
 rcases h1 with h1 | ⟨h1,h3,h4⟩
 ·rcases h2 with h2 | ⟨h2,_,_⟩ <;> omega
 ·rcases h2 with h2 | ⟨h2,h5,h6⟩
  ·omega
  ·unfold btw at *
   have hb' : ¬ (b.1 = a.1 ∧ b.2 = a.2):=fun hh => hb (Prod.ext hh.1 hh.2)
   have hc' : ¬ (c.1 = a.1 ∧ c.2 = a.2):=fun hh => hc (Prod.ext hh.1 hh.2)
   exact Prod.ext (by omega) (by omega)
theorem pigeon : ∀ (n m : Nat) (f : Nat → Nat),(∀ i,i < m → f i < n) → (∀ i j,i < m → j < m → f i = f j → i = j) → m ≤ n
 | 0,m,f,h,_ => by
  rcases Nat.eq_zero_or_pos m with h0 | h0
  ·omega
  ·have := h 0 h0;omega
 | n + 1,m,f,h,inj => by
  by_cases hx : ∃ i,i < m ∧ f i = n
  ·obtain ⟨i,hi,e⟩ := hx
   have := pigeon n (m - 1) (fun j => if j = i then f (m - 1) else f j) (fun j hj => by
    by_cases hji : j = i
    ·simp only [if_pos hji]
     have h1 := h (m - 1) (by omega)
     have h2 : f (m - 1) ≠ n:=fun hh => by have := inj (m - 1) i (by omega) hi (hh.trans e.symm);omega
     omega
    ·simp only [if_neg hji]
     have h1 := h j (by omega)
     have h2 : f j ≠ n:=fun hh => hji (inj j i (by omega) hi (hh.trans e.symm))
     omega) (fun j k hj hk hh => by
    by_cases h1 : j = i
    ·by_cases h2 : k = i
     ·omega
     ·simp only [if_pos h1,if_neg h2] at hh
      have := inj _ _ (by omega) (by omega) hh;omega
    ·by_cases h2 : k = i
     ·simp only [if_neg h1,if_pos h2] at hh
      have := inj _ _ (by omega) (by omega) hh;omega
     ·simp only [if_neg h1,if_neg h2] at hh
      exact inj _ _ (by omega) (by omega) hh)
   omega
  ·have := pigeon n m f (fun i hi => by
    have h1 := h i hi
    have h2 : f i ≠ n:=fun hh => hx ⟨i,hi,hh⟩
    omega) inj
   omega
section
variable {n m : Nat} {p h : Nat → Pt}
theorem Hul.step (H : Hul n p m h) (hm : 1 < m) {i : Nat} (hi : i < m) : h (nx m i) ≠ h i:=by
 intro e
 have h1 := H.back 1 (by omega) hm
 -- all points would lie at h i
 have all : ∀ r,r < n → 0 < cross (h i) (h i) (p r) ∨ p r = h i:=by
  intro r hr
  have := H.edge hm i hi r hr
  rw [e] at this
  rcases this with k | ⟨_,k1,k2⟩
  ·exact .inl k
  ·right
   unfold btw at k1 k2
   exact Prod.ext (by omega) (by omega)
 have z : ∀ q,cross (h i) (h i) q = 0:=fun q => by unfold cross;grind
 have same : ∀ j,j < m → h j = h i:=by
  intro j hj
  obtain ⟨r,hr,e2⟩ := H.mem j hj
  rcases all r hr with k | k
  ·rw [z] at k;omega
  ·rw [e2,k]
 exact h1 ((same 1 hm).trans (same 0 (by omega)).symm)
theorem Hul.next (H : Hul n p m h) (hm : 1 < m) {i j : Nat} (hi : i < m) (hj : j < m) (e : h i = h j) : h (nx m i) = h (nx m j):=by
 have hxi : nx m i < m := Nat.mod_lt _ (by omega)
 have hxj : nx m j < m := Nat.mod_lt _ (by omega)
 obtain ⟨r,hr,er⟩ := H.mem _ hxi
 obtain ⟨s,hs,es⟩ := H.mem _ hxj
 have k1 := H.edge hm i hi s hs
 have k2 := H.edge hm j hj r hr
 rw [← es] at k1
 rw [← er,← e] at k2
 exact leftOn_eq (H.step hm hi) (by rw [e];exact H.step hm hj) k1 k2
theorem Hul.inj (H : Hul n p m h) {i j : Nat} (hij : i < j) (hj : j < m) : h i ≠ h j:=by
 intro e
 have key : ∀ d,j + d < m → h (i + d) = h (j + d):=by
  intro d
  induction d with
  | zero => intro _;exact e
  | succ d ih =>
   intro hd
   have := H.next (by omega) (show i + d < m by omega) (show j + d < m by omega) (ih (by omega))
   unfold nx at this
   rwa [Nat.mod_eq_of_lt (by omega),Nat.mod_eq_of_lt (by omega)] at this
 have h1 := H.next (by omega) (show i + (m - 1 - j) < m by omega) (show m - 1 < m by omega) (by
  have := key (m - 1 - j) (by omega)
  rwa [show j + (m - 1 - j) = m - 1 by omega] at this)
 unfold nx at h1
 rw [show m - 1 + 1 = m by omega,Nat.mod_self,Nat.mod_eq_of_lt (by omega)] at h1
 exact H.back _ (by omega) (by omega) h1
theorem Hul.size (H : Hul n p m h) : m ≤ n:=by
 have : ∃ f : Nat → Nat,∀ i,i < m → f i < n ∧ h i = p (f i):=by
  refine ⟨fun i => if hi : i < m then Classical.choose (H.mem i hi) else 0,fun i hi => ?_⟩
  simp only [dif_pos hi]
  exact Classical.choose_spec (H.mem i hi)
 obtain ⟨f,hf⟩ := this
 refine pigeon n m f (fun i hi => (hf i hi).1) (fun i j hi hj e => ?_)
 have e2 : h i = h j:=by rw [(hf i hi).2,(hf j hj).2,e]
 rcases Nat.lt_trichotomy i j with k | k | k
 ·exact absurd e2 (H.inj k hj)
 ·exact k
 ·exact absurd e2.symm (H.inj k hi)
end
section
variable {P : Nat → Pt} {N n : Nat} {p : Nat → Pt}
theorem Chn.two {k : Nat} {s : Nat → Pt} (hP : ∀ i j,i < j → j < N → fw (P i) (P j)) (hN : 2 ≤ N) (C : Chn P N k s) : 2 ≤ k:=by
 have h1 := C.pos
 have h2 := C.last
 rcases Nat.lt_or_ge k 2 with h | h
 ·exfalso
  have : k = 1:=by omega
  subst this
  rw [show 1 - 1 = 0 from rfl,C.first] at h2
  have := hP 0 (N - 1) (by omega) (by omega)
  rw [h2] at this
  exact this.irr
 ·exact h
theorem Chn.ahead {k : Nat} {s : Nat → Pt} (C : Chn P N k s) : ∀ d i,0 < d → i + d < k → fw (s i) (s (i + d)):=by
 intro d
 induction d with
 | zero => intro i h;omega
 | succ d ih =>
  intro i _ hi
  rcases Nat.eq_zero_or_pos d with h | h
  ·subst h;exact C.fwd i hi
  ·exact (ih i h (by omega)).trans (C.fwd (i + d) hi)
theorem hul_of (hP : ∀ i j,i < j → j < N → fw (P i) (P j)) (hN : 2 ≤ N) {k1 k2 : Nat} {s1 s2 h : Nat → Pt} (C1 : Chn P N k1 s1) (C2 : Chn (fun i => ng (P (N - 1 - i))) N k2 (fun i => ng (s2 i)))
  (cov : ∀ r,r < n → ∃ j,j < N ∧ p r = P j) (bck : ∀ j,j < N → ∃ r,r < n ∧ P j = p r) (e1 : ∀ i,i < k1 - 1 → h i = s1 i) (e2 : ∀ i,i < k2 - 1 → h (k1 - 1 + i) = s2 i) : Hul n p (k1 - 1 + (k2 - 1)) h:=by
 have hP' : ∀ i j,i < j → j < N → fw ((fun i => ng (P (N - 1 - i))) i) ((fun i => ng (P (N - 1 - i))) j):=fun i j hij hj => fw_ng.2 (hP _ _ (by omega) (by omega))
 have h1 := C1.two hP hN
 have h2 := C2.two hP' hN
 have f1 := C1.first
 have l1 := C1.last
 have f2 : s2 0 = P (N - 1):=by
  have := ng_inj C2.first
  rwa [Nat.sub_zero] at this
 have l2 : s2 (k2 - 1) = P 0:=by
  have := ng_inj C2.last
  rwa [show N - 1 - (N - 1) = 0 by omega] at this
 have ed2 : ∀ i,i + 1 < k2 → ∀ r,r < N → LeftOn (s2 i) (s2 (i + 1)) (P r):=by
  intro i hi r hr
  have:=(leftOn_ng _ _ _).1 (C2.edge i hi (N - 1 - r) (by omega))
  rwa [show N - 1 - (N - 1 - r) = r by omega] at this
 have h00 : h 0 = P 0:=by rw [e1 0 (by omega),f1]
 refine ⟨by omega,fun r hr => ?_,fun i hi => ?_,fun i hi0 hi => ?_,fun hm i hi r hr => ?_,fun hm => by omega⟩
 ·obtain ⟨j,hj,e⟩ := cov r hr
  rw [h00,e]
  rcases Nat.eq_zero_or_pos j with h0 | h0
  ·rw [h0];exact .inl rfl
  ·exact .inr (hP 0 j h0 hj)
 ·by_cases hik : i < k1 - 1
  ·obtain ⟨j,hj,e⟩ := C1.mem i (by omega)
   obtain ⟨r,hr,e'⟩ := bck j hj
   exact ⟨r,hr,by rw [e1 i hik,e,e']⟩
  ·obtain ⟨j,hj,e⟩ := C2.mem (i - (k1 - 1)) (by omega)
   obtain ⟨r,hr,e'⟩ := bck (N - 1 - j) (by omega)
   have := e2 (i - (k1 - 1)) (by omega)
   rw [show k1 - 1 + (i - (k1 - 1)) = i by omega] at this
   exact ⟨r,hr,by rw [this,ng_inj e,e']⟩
 ·rw [h00]
  by_cases hik : i < k1 - 1
  ·rw [e1 i hik,← f1]
   intro e
   have := C1.ahead i 0 hi0 (by omega)
   rw [Nat.zero_add,e] at this
   exact this.irr
  ·have := e2 (i - (k1 - 1)) (by omega)
   rw [show k1 - 1 + (i - (k1 - 1)) = i by omega] at this
   rw [this,← l2]
   intro e
   have k := C2.ahead (k2 - 1 - (i - (k1 - 1))) (i - (k1 - 1)) (by omega) (by omega)
   rw [show i - (k1 - 1) + (k2 - 1 - (i - (k1 - 1))) = k2 - 1 by omega] at k
   simp only [e] at k
   exact k.irr
 ·obtain ⟨j,hj,e⟩ := cov r hr
  rw [e]
  unfold nx
  by_cases hi1 : i + 1 < k1 - 1
  ·rw [Nat.mod_eq_of_lt (by omega),e1 i (by omega),e1 _ hi1]
   exact C1.edge i (by omega) j hj
  ·by_cases hi2 : i + 1 = k1 - 1
   ·have e3 := e2 0 (by omega)
    rw [Nat.add_zero] at e3
    rw [Nat.mod_eq_of_lt (by omega),hi2,e3,f2,← l1,e1 i (by omega)]
    have := C1.edge i (by omega) j hj
    rwa [show i + 1 = k1 - 1 by omega] at this
   ·have e4 := e2 (i - (k1 - 1)) (by omega)
    rw [show k1 - 1 + (i - (k1 - 1)) = i by omega] at e4
    by_cases hi3 : i + 1 < k1 - 1 + (k2 - 1)
    ·have e5 := e2 (i + 1 - (k1 - 1)) (by omega)
     rw [show k1 - 1 + (i + 1 - (k1 - 1)) = i + 1 by omega] at e5
     rw [Nat.mod_eq_of_lt hi3,e4,e5,show i + 1 - (k1 - 1) = (i - (k1 - 1)) + 1 by omega]
     exact ed2 _ (by omega) j hj
    ·rw [show i + 1 = k1 - 1 + (k2 - 1) by omega,Nat.mod_self,e4,h00,← l2]
     have := ed2 (i - (k1 - 1)) (by omega) j hj
     rwa [show i - (k1 - 1) + 1 = k2 - 1 by omega] at this
theorem hul_two (h01 : fw (P 0) (P 1)) (cov : ∀ r,r < n → ∃ j,j < 2 ∧ p r = P j) (bck : ∀ j,j < 2 → ∃ r,r < n ∧ P j = p r) : Hul n p 2 P:=by
 have z : ∀ a b : Pt,On a a b ∧ On b a b:=fun a b => ⟨⟨by unfold cross;grind,by unfold btw;omega,by unfold btw;omega⟩,⟨by unfold cross;grind,by unfold btw;omega,by unfold btw;omega⟩⟩
 refine ⟨by omega,fun r hr => ?_,fun i hi => bck i hi,fun i hi0 hi e => ?_,fun _ i hi r hr => ?_,fun hm => by omega⟩
 ·obtain ⟨j,hj,e⟩ := cov r hr
  rw [e]
  match j,hj with
  | 0,_ => exact .inl rfl
  | 1,_ => exact .inr h01
 ·have : i = 1:=by omega
  subst this
  rw [e] at h01
  exact h01.irr
 ·obtain ⟨j,hj,e⟩ := cov r hr
  rw [e]
  match i,hi,j,hj with
  | 0,_,0,_ => exact .inr (z _ _).1
  | 0,_,1,_ => exact .inr (z _ _).2
  | 1,_,0,_ => exact .inr (z _ _).2
  | 1,_,1,_ => exact .inr (z _ _).1
theorem hul_one (hn : 0 < n) (cov : ∀ r,r < n → p r = P 0) : Hul n p 1 P :=
 ⟨by omega,fun r hr => .inl (cov r hr).symm,fun i hi => ⟨0,hn,by rw [cov 0 hn];congr 1;omega⟩,fun i h1 h2 => by omega,fun h => by omega,fun _ r hr => cov r hr⟩
end
end Geo
/-
 The first moment of a simple polygon that lies on one side of a line.
-/
set_option linter.all false
namespace Geo
def mxp (n : Nat) (p : Nat → Pt) (i : Nat) : Int:=((p i).1 + (p (nx n i)).1) * ((p i).1 * (p (nx n i)).2 - (p (nx n i)).1 * (p i).2)
def myp (n : Nat) (p : Nat → Pt) (i : Nat) : Int:=((p i).2 + (p (nx n i)).2) * ((p i).1 * (p (nx n i)).2 - (p (nx n i)).1 * (p i).2)
theorem exists_grid1 {n : Nat} {p : Nat → Pt} (S : Simple n p) (K0 : Int) : ∃ K M T R,K0 ≤ K ∧ Grd K M T R n p:=by
 obtain ⟨B,hB⟩ := bounded n p
 obtain ⟨K,hK⟩ : ∃ K : Int,K = 4 * B + 1 + (K0.natAbs : Int) := ⟨_,rfl⟩
 have hb := S.big
 have hdist : ∀ i j,i < n → j < n → i ≠ j → gh K p i ≠ gh K p j:=by
  intro i j hi hj hne h0
  have b1 := hB i hi
  have b2 := hB j hj
  unfold gh ht at h0
  have h1 : K * ((p i).2 - (p j).2) = (p j).1 - (p i).1:=by grind
  have h2 : (p i).2 = (p j).2:=by
   rcases Int.lt_trichotomy 0 ((p i).2 - (p j).2) with g | g | g
   ·have : K * 1 ≤ K * ((p i).2 - (p j).2) := Int.mul_le_mul_of_nonneg_left (by omega) (by omega)
    omega
   ·omega
   ·have : K * 1 ≤ K * -((p i).2 - (p j).2) := Int.mul_le_mul_of_nonneg_left (by omega) (by omega)
    have e : K * -((p i).2 - (p j).2) = - (K * ((p i).2 - (p j).2)) := Int.mul_neg _ _
    omega
  have h3 : (p i).1 = (p j).1:=by rw [h2] at h1;grind
  exact S.dist i j hi hj hne (Prod.ext h3 h2)
 obtain ⟨M,hM0,hM⟩ : ∃ M : Int,0 < M ∧ ∀ e,e < n → (gh K p (nx n e) - gh K p e) ∣ M:=by
  refine ⟨pr n fun e => (gh K p (nx n e) - gh K p e) * (gh K p (nx n e) - gh K p e),pr_pos fun e he => ?_,fun e he => ?_⟩
  ·have hne := hdist (nx n e) e (nx_lt hb) he (nx_ne hb he)
   rcases Int.lt_or_lt_of_ne hne with g | g
   ·have := Int.mul_pos (show 0 < -(gh K p (nx n e) - gh K p e) by omega) (show 0 < -(gh K p (nx n e) - gh K p e) by omega)
    grind
   ·exact Int.mul_pos (by omega) (by omega)
  ·obtain ⟨q,hq⟩ := pr_dvd (f:=fun e => (gh K p (nx n e) - gh K p e) * (gh K p (nx n e) - gh K p e)) he
   rw [← hq]
   exact ⟨q * (gh K p (nx n e) - gh K p e),by grind⟩
 obtain ⟨T,hT⟩ : ∃ T : Nat,∀ i,i < n → -(2 * T : Int) ≤ gh K p i ∧ gh K p i ≤ 2 * T:=by
  obtain ⟨B,hB⟩ := nat_bound n (gh K p)
  exact ⟨B,fun i hi => by have := hB i hi;omega⟩
 have hR : ∀ m : Nat,∃ R : Nat,∀ s,s < m → ∀ e,e < n → -(R : Int) ≤ gX K M n p e (2 * ((s : Int) - T) + 1) ∧ gX K M n p e (2 * ((s : Int) - T) + 1) ≤ R:=by
  intro m
  induction m with
  | zero => exact ⟨0,fun s hs => by omega⟩
  | succ m ih =>
   obtain ⟨A,hA⟩ := ih
   obtain ⟨B,hB⟩ := nat_bound n fun e => gX K M n p e (2 * ((m : Int) - T) + 1)
   refine ⟨A + B,fun s hs e he => ?_⟩
   by_cases q : s = m
   ·subst q;have := hB e he;omega
   ·have := hA s (by omega) e he;omega
 obtain ⟨R,hR⟩ := hR (2 * T)
 exact ⟨K,M,T,R,by omega,S,by omega,hM0,hdist,hM,hT,hR⟩
theorem sm_le {n : Nat} {f g : Nat → Int} (h : ∀ i,i < n → f i ≤ g i) : sm n f ≤ sm n g:=by
 have := sm_nonneg (n := n) (f:=fun i => g i - f i) (fun i hi => by have := h i hi;omega)
 rw [sm_sub] at this
 omega
theorem Grd.round_one {K M : Int} {T R n : Nat} {p : Nat → Pt} (G : Grd K M T R n p) {c : Int} (hc : ∀ e,e < n → ∀ k,(gL K M n p).rng e (2 * k + 1) → (gL K M n p).r e (2 * k + 1) + (gL K M n p).up e = c) (hA : 0 < area n p) : c = 1:=by
 obtain ⟨hc01,h⟩ := grid_area_c G hc
 have hn := gcount_nonneg K M T R n p
 rw [sm_congr (fun s _ => sm_mul (2 * R) (2 * c - 1) fun j => gp K M T R n p s j),sm_mul] at h
 have e' : 2 * M * K * area n p = 4 * ((2 * c - 1) * gcount K M T R n p) := h
 have hD : 0 < 2 * M * K := Int.mul_pos (by have := G.mp;omega) G.kp
 have := Int.mul_pos hD hA
 rcases hc01 with q | q
 ·rw [q] at e';omega
 ·exact q
end Geo
/-
 The centroid of a simple polygon that lies on one side of a line lies on that side.
-/
set_option linter.all false
namespace Geo
theorem on_dot (q a b : Pt) : On q a b ↔ cross a b q = 0 ∧ (q.1 - a.1) * (q.1 - b.1) + (q.2 - a.2) * (q.2 - b.2) ≤ 0:=by
 have np : ∀ u v w : Int,btw u v w ↔ (w - u) * (w - v) ≤ 0:=by
  intro u v w
  unfold btw
  constructor
  ·rintro (⟨h1,h2⟩ | ⟨h1,h2⟩)
   ·have := Int.mul_nonneg (show 0 ≤ w - u by omega) (show 0 ≤ v - w by omega)
    have e : (w - u) * (v - w) = - ((w - u) * (w - v)):=by grind
    omega
   ·have := Int.mul_nonneg (show 0 ≤ u - w by omega) (show 0 ≤ w - v by omega)
    have e : (u - w) * (w - v) = - ((w - u) * (w - v)):=by grind
    omega
  ·intro h
   rcases Int.lt_or_le w u with h1 | h1
   ·rcases Int.lt_or_le w v with h2 | h2
    ·have := Int.mul_pos (show 0 < u - w by omega) (show 0 < v - w by omega)
     have e : (u - w) * (v - w) = (w - u) * (w - v):=by grind
     omega
    ·omega
   ·rcases Int.lt_or_le v w with h2 | h2
    ·rcases Int.lt_or_le u w with h3 | h3
     ·have := Int.mul_pos (show 0 < w - u by omega) (show 0 < w - v by omega)
      omega
     ·omega
    ·omega
 unfold On
 rw [np,np]
 constructor
 ·rintro ⟨h1,h2,h3⟩;exact ⟨h1,by omega⟩
 ·rintro ⟨h1,h2⟩
  refine ⟨h1,?_⟩
  have hc := h1
  unfold cross at hc
  -- the two products are proportional to squares
  have e1 : (b.1 - a.1) * (b.1 - a.1) * ((q.2 - a.2) * (q.2 - b.2)) = (b.2 - a.2) * (b.2 - a.2) * ((q.1 - a.1) * (q.1 - b.1)):=by
   have k1 : (b.1 - a.1) * (q.2 - a.2) = (b.2 - a.2) * (q.1 - a.1):=by omega
   have k2 : (b.1 - a.1) * (q.2 - b.2) = (b.2 - a.2) * (q.1 - b.1):=by grind
   have : (b.1 - a.1) * (b.1 - a.1) * ((q.2 - a.2) * (q.2 - b.2)) = ((b.1 - a.1) * (q.2 - a.2)) * ((b.1 - a.1) * (q.2 - b.2)):=by grind
   rw [this,k1,k2];grind
  have sq : ∀ z : Int,0 ≤ z * z:=fun z => by
   rcases Int.lt_or_le z 0 with h | h
   ·have := Int.mul_pos (show 0 < -z by omega) (show 0 < -z by omega)
    have e : -z * -z = z * z:=by grind
    omega
   ·exact Int.mul_nonneg h h
  have sqp : ∀ z : Int,z ≠ 0 → 0 < z * z:=fun z hz => by
   rcases Int.lt_or_le z 0 with h | h
   ·have := Int.mul_pos (show 0 < -z by omega) (show 0 < -z by omega)
    have e : -z * -z = z * z:=by grind
    omega
   ·exact Int.mul_pos (by omega) (by omega)
  by_cases h0 : b.1 - a.1 = 0
  ·by_cases h00 : b.2 - a.2 = 0
   ·have ea : b.1 = a.1:=by omega
    have eb : b.2 = a.2:=by omega
    rw [ea,eb] at h2 ⊢
    have := sq (q.1 - a.1)
    have := sq (q.2 - a.2)
    omega
   ·rw [h0] at e1
    have hp := sqp _ h00
    have : (b.2 - a.2) * (b.2 - a.2) * ((q.1 - a.1) * (q.1 - b.1)) = 0:=by rw [← e1];grind
    rcases Int.mul_eq_zero.1 this with k | k
    ·omega
    ·omega
  ·have hp := sqp _ h0
   have hq := sq (b.2 - a.2)
   generalize (q.2 - a.2) * (q.2 - b.2) = Y at *
   generalize (q.1 - a.1) * (q.1 - b.1) = X at *
   generalize (b.1 - a.1) * (b.1 - a.1) = P at *
   generalize (b.2 - a.2) * (b.2 - a.2) = Q at *
   rcases Int.lt_or_le 0 X with hX | hX
   ·exfalso
    have k1 := Int.mul_nonneg hq (show 0 ≤ X by omega)
    have k2 : 0 ≤ Y := nonneg_ofm hp (by omega)
    omega
   ·refine ⟨hX,?_⟩
    rcases Int.lt_or_le 0 Y with hY | hY
    ·exfalso
     have k1 := Int.mul_pos hp hY
     have k2 := Int.mul_nonneg hq (show 0 ≤ -X by omega)
     rw [Int.mul_neg] at k2
     omega
    ·exact hY
theorem simple_of {A : Pt → Pt} {d : Int} (hd : 0 < d) (hc : ∀ a b c,cross (A a) (A b) (A c) = d * cross a b c) (ho : ∀ q a b,On (A q) (A a) (A b) ↔ On q a b) (hi : ∀ a b,A a = A b → a = b) {n : Nat} {p : Nat → Pt} (S : Simple n p) : Simple n (fun i => A (p i)) :=
 ⟨S.big,fun i j hi' hj hne e => S.dist i j hi' hj hne (hi _ _ e),fun e he => ⟨fun h => (S.corner e he).1 ((ho _ _ _).1 h),fun h => (S.corner e he).2 ((ho _ _ _).1 h)⟩,
  fun e i he hi' h1 h2 h3 hm => S.apart e i he hi' h1 h2 h3 ((meet_of hd hc ho _ _ _ _).1 hm)⟩
def cf (d1 d2 : Int) (q : Pt) : Pt:=(d1 * q.1 + d2 * q.2,d1 * q.2 - d2 * q.1)
theorem cross_cf (d1 d2 : Int) (a b c : Pt) : cross (cf d1 d2 a) (cf d1 d2 b) (cf d1 d2 c) = (d1 * d1 + d2 * d2) * cross a b c:=by unfold cf cross;grind
theorem on_cf {d1 d2 : Int} (hd : 0 < d1 * d1 + d2 * d2) (q a b : Pt) : On (cf d1 d2 q) (cf d1 d2 a) (cf d1 d2 b) ↔ On q a b:=by
 rw [on_dot,on_dot,cross_cf]
 have e : ((cf d1 d2 q).1 - (cf d1 d2 a).1) * ((cf d1 d2 q).1 - (cf d1 d2 b).1) + ((cf d1 d2 q).2 - (cf d1 d2 a).2) * ((cf d1 d2 q).2 - (cf d1 d2 b).2) = (d1 * d1 + d2 * d2) * ((q.1 - a.1) * (q.1 - b.1) + (q.2 - a.2) * (q.2 - b.2)):=by unfold cf;grind
 rw [e]
 generalize d1 * d1 + d2 * d2 = D at *
 generalize (q.1 - a.1) * (q.1 - b.1) + (q.2 - a.2) * (q.2 - b.2) = z at *
 constructor
 ·rintro ⟨h1,h2⟩
  refine ⟨(Int.mul_eq_zero.1 h1).resolve_left (by omega),?_⟩
  rcases Int.lt_or_le 0 z with h | h
  ·have := Int.mul_pos hd h;omega
  ·exact h
 ·rintro ⟨h1,h2⟩
  refine ⟨by rw [h1,Int.mul_zero],?_⟩
  have := Int.mul_nonneg (show 0 ≤ D by omega) (show 0 ≤ -z by omega)
  rw [Int.mul_neg] at this
  omega
theorem inj_cf {d1 d2 : Int} (hd : 0 < d1 * d1 + d2 * d2) (a b : Pt) (h : cf d1 d2 a = cf d1 d2 b) : a = b:=by
 have h1 : d1 * a.1 + d2 * a.2 = d1 * b.1 + d2 * b.2 := congrArg Prod.fst h
 have h2 : d1 * a.2 - d2 * a.1 = d1 * b.2 - d2 * b.1 := congrArg Prod.snd h
 have e1 : (d1 * d1 + d2 * d2) * (a.1 - b.1) = 0:=by grind
 have e2 : (d1 * d1 + d2 * d2) * (a.2 - b.2) = 0:=by grind
 have k1:=(Int.mul_eq_zero.1 e1).resolve_left (by omega)
 have k2:=(Int.mul_eq_zero.1 e2).resolve_left (by omega)
 exact Prod.ext (by omega) (by omega)
theorem area_cf (d1 d2 : Int) (n : Nat) (p : Nat → Pt) : area n (fun i => cf d1 d2 (p i)) = (d1 * d1 + d2 * d2) * area n p:=by
 unfold area
 rw [← sm_mul]
 refine sm_congr fun i _ => ?_
 unfold cf
 dsimp only
 grind
theorem area_fan (n : Nat) (p : Nat → Pt) (o : Pt) : area n p = sm n fun i => cross o (p i) (p (nx n i)):=by
 have e : sm n (fun i => cross o (p i) (p (nx n i))) = sm n (fun i => ((p i).1 * (p (nx n i)).2 - (p (nx n i)).1 * (p i).2) + ((fun j => o.2 * (p j).1 - o.1 * (p j).2) (nx n i) - (fun j => o.2 * (p j).1 - o.1 * (p j).2) i)):=by
  refine sm_congr fun i _ => ?_
  unfold cross
  dsimp only
  grind
 have e2 : sm n (fun i => (fun j => o.2 * (p j).1 - o.1 * (p j).2) (nx n i) - (fun j => o.2 * (p j).1 - o.1 * (p j).2) i) = 0 := sm_cycle n (fun j => o.2 * (p j).1 - o.1 * (p j).2)
 rw [e,sm_add,e2,Int.add_zero]
 rfl
end Geo
/-
 A contour that nowhere meets itself turns once: counted at the corners that are lowest with a turn to the left,less those that are highest with a turn to the right.
-/
set_option linter.all false
namespace Geo
section
variable {α β : Int}
def tn (α β : Int) (a b c : Pt) : Int:=(if ht α β b < ht α β a ∧ ht α β b < ht α β c ∧ 0 < cross a b c then 1 else 0) - (if ht α β a < ht α β b ∧ ht α β c < ht α β b ∧ cross a b c < 0 then 1 else 0)
def rr (α β : Int) (a c d : Pt) : Int:=(if ht α β c < ht α β a ∧ ht α β a < ht α β d ∧ 0 < cross c d a then 1 else 0) - (if ht α β a < ht α β c ∧ ht α β d < ht α β a ∧ cross c d a < 0 then 1 else 0)
def ll (α β : Int) (d a b : Pt) : Int:=(if ht α β d < ht α β a ∧ ht α β b < ht α β d ∧ 0 < cross a b d then 1 else 0) - (if ht α β a < ht α β d ∧ ht α β d < ht α β b ∧ cross a b d < 0 then 1 else 0)
theorem cross_sw (a b c : Pt) : cross b a c = - cross a b c:=by unfold cross;grind
theorem rr_swap (a c d : Pt) : rr α β a d c = - rr α β a c d:=by
 unfold rr
 rw [cross_sw c d a]
 split <;> split <;> split <;> split <;> omega
theorem ll_swap (d a b : Pt) : ll α β d b a = - ll α β d a b:=by
 unfold ll
 rw [cross_sw a b d]
 split <;> split <;> split <;> split <;> omega
theorem tri {a b c : Pt} (h1 : ht α β a ≠ ht α β c) : tn α β a b c = rr α β a b c + ll α β c a b:=by
 have e : cross b c a = cross a b c:=by unfold cross;grind
 unfold tn rr ll
 rw [e]
 split <;> split <;> split <;> split <;> split <;> split <;> omega
theorem cell_up {a b c d : Pt} (hab : ht α β a < ht α β b) (hcd : ht α β c < ht α β d) (hac : ht α β a ≠ ht α β c) (had : ht α β a ≠ ht α β d) (hbc : ht α β b ≠ ht α β c) (hbd : ht α β b ≠ ht α β d) (hn : ¬ Meet a b c d) :
  rr α β a c d + ll α β d a b = ll α β c a b + rr α β b c d:=by
 have hn' : ¬ Meet c d a b:=fun h => hn h.symm
 have F1 : ht α β c < ht α β a → ht α β b < ht α β d → (0 < cross c d a ∧ 0 < cross c d b) ∨ (cross c d a < 0 ∧ cross c d b < 0):=fun h1 h2 => side_ab hab (by omega) (by omega) hn
 have F2 : ht α β a < ht α β c → ht α β d < ht α β b → (0 < cross a b c ∧ 0 < cross a b d) ∨ (cross a b c < 0 ∧ cross a b d < 0):=fun h1 h2 => side_ab hcd (by omega) (by omega) hn'
 have F3 : ht α β c < ht α β a → ht α β a < ht α β d → ht α β d < ht α β b → (0 < cross c d a ∧ cross a b d < 0) ∨ (cross c d a < 0 ∧ 0 < cross a b d):=fun h1 h2 h3 => side_av hab hcd (by omega) (by omega) (by omega) hn
 have F4 : ht α β a < ht α β c → ht α β c < ht α β b → ht α β b < ht α β d → (0 < cross a b c ∧ cross c d b < 0) ∨ (cross a b c < 0 ∧ 0 < cross c d b):=fun h1 h2 h3 => side_av hcd hab (by omega) (by omega) (by omega) hn'
 have r1 : rr α β a c d = if ht α β c < ht α β a ∧ ht α β a < ht α β d ∧ 0 < cross c d a then 1 else 0:=by unfold rr;rw [if_neg (c := ht α β a < ht α β c ∧ ht α β d < ht α β a ∧ cross c d a < 0) (by omega)];omega
 have r2 : rr α β b c d = if ht α β c < ht α β b ∧ ht α β b < ht α β d ∧ 0 < cross c d b then 1 else 0:=by unfold rr;rw [if_neg (c := ht α β b < ht α β c ∧ ht α β d < ht α β b ∧ cross c d b < 0) (by omega)];omega
 have l1 : ll α β d a b = - if ht α β a < ht α β d ∧ ht α β d < ht α β b ∧ cross a b d < 0 then 1 else 0:=by unfold ll;rw [if_neg (c := ht α β d < ht α β a ∧ ht α β b < ht α β d ∧ 0 < cross a b d) (by omega)];omega
 have l2 : ll α β c a b = - if ht α β a < ht α β c ∧ ht α β c < ht α β b ∧ cross a b c < 0 then 1 else 0:=by unfold ll;rw [if_neg (c := ht α β c < ht α β a ∧ ht α β b < ht α β c ∧ 0 < cross a b c) (by omega)];omega
 rw [r1,r2,l1,l2]
 clear r1 r2 l1 l2
 rcases Int.lt_or_lt_of_ne hac with h1 | h1
 ·rcases Int.lt_or_lt_of_ne hbc with h2 | h2
  ·
   split <;> split <;> split <;> split <;> omega
  ·rcases Int.lt_or_lt_of_ne hbd with h3 | h3
   ·have := F4 h1 h2 h3
    split <;> split <;> split <;> split <;> omega
   ·have := F2 h1 h3
    split <;> split <;> split <;> split <;> omega
 ·rcases Int.lt_or_lt_of_ne had with h2 | h2
  ·rcases Int.lt_or_lt_of_ne hbd with h3 | h3
   ·have := F1 h1 h3
    split <;> split <;> split <;> split <;> omega
   ·have := F3 h1 h2 h3
    split <;> split <;> split <;> split <;> omega
  ·split <;> split <;> split <;> split <;> omega
theorem cell {a b c d : Pt} (hab : ht α β a ≠ ht α β b) (hcd : ht α β c ≠ ht α β d) (hac : ht α β a ≠ ht α β c) (had : ht α β a ≠ ht α β d) (hbc : ht α β b ≠ ht α β c) (hbd : ht α β b ≠ ht α β d) (hn : ¬ Meet a b c d) :
  rr α β a c d + ll α β d a b = ll α β c a b + rr α β b c d:=by
 rcases Int.lt_or_lt_of_ne hab with h1 | h1
 ·rcases Int.lt_or_lt_of_ne hcd with h2 | h2
  ·exact cell_up h1 h2 hac had hbc hbd hn
  ·have := cell_up h1 h2 had hac hbd hbc (fun h => hn h.swap2)
   rw [rr_swap,rr_swap (a := b)] at this
   omega
 ·rcases Int.lt_or_lt_of_ne hcd with h2 | h2
  ·have := cell_up h1 h2 hbc hbd hac had (fun h => hn h.swap)
   rw [ll_swap,ll_swap (d := c)] at this
   omega
  ·have := cell_up h1 h2 hbd hbc had hac (fun h => hn h.swap.swap2)
   rw [rr_swap,rr_swap (a := a),ll_swap,ll_swap (d := d)] at this
   omega
theorem sm_tele (f : Nat → Int) : ∀ J,sm J (fun i => f i - f (i + 1)) = f 0 - f J
 | 0 => by simp [sm]
 | J + 1 => by rw [sm,sm_tele f J];omega
variable {n : Nat} {p : Nat → Pt}
theorem turns_top (S : Simple n p) (hd : ∀ i j,i < n → j < n → i ≠ j → ht α β (p i) ≠ ht α β (p j)) (htop : ∀ i,i < n → i ≠ 0 → ht α β (p i) < ht α β (p 0)) :
  sm n (fun k => tn α β (p k) (p (nx n k)) (p (nx n (nx n k)))) = (if 0 < cross (p (n - 1)) (p 0) (p 1) then 1 else 0) - (if cross (p (n - 1)) (p 0) (p 1) < 0 then 1 else 0):=by
 have hb := S.big
 have nx1 : ∀ i,i + 1 < n → nx n i = i + 1:=fun i h => Nat.mod_eq_of_lt h
 have nxl : nx n (n - 1) = 0:=by unfold nx;rw [show n - 1 + 1 = n by omega,Nat.mod_self]
 -- edges that do not follow each other
 have C : ∀ i j,i + 2 ≤ j → j + 1 < n → rr α β (p i) (p j) (p (j + 1)) + ll α β (p (j + 1)) (p i) (p (i + 1)) = ll α β (p j) (p i) (p (i + 1)) + rr α β (p (i + 1)) (p j) (p (j + 1)):=by
  intro i j h1 h2
  have ap := S.apart i j (by omega) (by omega) (by omega) (by rw [nx1 i (by omega)];omega) (by rw [nx1 j h2];omega)
  rw [nx1 i (by omega),nx1 j h2] at ap
  exact cell (hd _ _ (by omega) (by omega) (by omega)) (hd _ _ (by omega) (by omega) (by omega)) (hd _ _ (by omega) (by omega) (by omega)) (hd _ _ (by omega) (by omega) (by omega)) (hd _ _ (by omega) (by omega) (by omega)) (hd _ _ (by omega) (by omega) (by omega)) ap
 have Cl : ∀ i,1 ≤ i → i + 2 ≤ n - 1 → rr α β (p i) (p (n - 1)) (p 0) + ll α β (p 0) (p i) (p (i + 1)) = ll α β (p (n - 1)) (p i) (p (i + 1)) + rr α β (p (i + 1)) (p (n - 1)) (p 0):=by
  intro i h1 h2
  have ap := S.apart i (n - 1) (by omega) (by omega) (by omega) (by rw [nx1 i (by omega)];omega) (by rw [nxl];omega)
  rw [nx1 i (by omega),nxl] at ap
  exact cell (hd _ _ (by omega) (by omega) (by omega)) (hd _ _ (by omega) (by omega) (by omega)) (hd _ _ (by omega) (by omega) (by omega)) (hd _ _ (by omega) (by omega) (by omega)) (hd _ _ (by omega) (by omega) (by omega)) (hd _ _ (by omega) (by omega) (by omega)) ap
 have rr0 : ∀ c d,c < n → d < n → rr α β (p 0) (p c) (p d) = 0:=by
  intro c d hc hd'
  unfold rr
  by_cases h1 : c = 0
  ·subst h1
   rw [if_neg (by omega),if_neg (by omega)];rfl
  ·have := htop c hc h1
   by_cases h2 : d = 0
   ·subst h2;rw [if_neg (by omega),if_neg (by omega)];rfl
   ·have := htop d hd' h2
    rw [if_neg (by omega),if_neg (by omega)];rfl
 have ll0 : ∀ a b,a < n → b < n → ll α β (p 0) (p a) (p b) = 0:=by
  intro a b ha hb'
  unfold ll
  by_cases h1 : a = 0
  ·subst h1
   rw [if_neg (by omega),if_neg (by omega)];rfl
  ·have := htop a ha h1
   by_cases h2 : b = 0
   ·subst h2;rw [if_neg (by omega),if_neg (by omega)];rfl
   ·have := htop b hb' h2
    rw [if_neg (by omega),if_neg (by omega)];rfl
 -- column by column
 have col : ∀ J,J + 1 < n → sm J (fun k => tn α β (p k) (p (k + 1)) (p (k + 2))) = sm J (fun i => ll α β (p (J + 1)) (p i) (p (i + 1))):=by
  intro J
  induction J with
  | zero => intro _;rfl
  | succ J ih =>
   intro hJ
   have h := ih (by omega)
   have t := tri (α := α) (β := β) (a := p J) (b := p (J + 1)) (c := p (J + 2)) (hd _ _ (by omega) (by omega) (by omega))
   have e : sm J (fun i => ll α β (p (J + 1)) (p i) (p (i + 1))) = sm J (fun i => ll α β (p (J + 2)) (p i) (p (i + 1)) + ((fun i => rr α β (p i) (p (J + 1)) (p (J + 2))) i - (fun i => rr α β (p i) (p (J + 1)) (p (J + 2))) (i + 1))):=by
    refine sm_congr fun i hi => ?_
    have := C i (J + 1) (by omega) (by omega)
    rw [show J + 1 + 1 = J + 2 from rfl] at this
    dsimp only
    omega
   rw [sm_add,sm_tele] at e
   have z := rr0 (J + 1) (J + 2) (by omega) (by omega)
   rw [show J + 1 + 1 = J + 2 from rfl,sm,sm,h,t,e,z]
   omega
 -- the last column,from its second row on
 have lastc : ∀ J,J + 2 ≤ n - 1 → sm J (fun i => ll α β (p (n - 1)) (p (i + 1)) (p (i + 2))) = rr α β (p 1) (p (n - 1)) (p 0) - rr α β (p (J + 1)) (p (n - 1)) (p 0):=by
  intro J hJ
  have e : sm J (fun i => ll α β (p (n - 1)) (p (i + 1)) (p (i + 2))) = sm J (fun i => (fun i => rr α β (p (i + 1)) (p (n - 1)) (p 0)) i - (fun i => rr α β (p (i + 1)) (p (n - 1)) (p 0)) (i + 1)):=by
   refine sm_congr fun i hi => ?_
   have := Cl (i + 1) (by omega) (by omega)
   rw [show i + 1 + 1 = i + 2 from rfl] at this
   have z := ll0 (i + 1) (i + 2) (by omega) (by omega)
   dsimp only
   rw [show i + 1 + 1 = i + 2 from rfl]
   omega
  rw [e,sm_tele]
 obtain ⟨N,rfl⟩ : ∃ N,n = N + 3 := ⟨n - 3,by omega⟩
 have e1 : sm (N + 3) (fun k => tn α β (p k) (p (nx (N + 3) k)) (p (nx (N + 3) (nx (N + 3) k)))) = sm (N + 1) (fun k => tn α β (p k) (p (k + 1)) (p (k + 2))) + tn α β (p (N + 1)) (p (N + 2)) (p 0) + tn α β (p (N + 2)) (p 0) (p 1):=by
  rw [sm,sm]
  have q1 : nx (N + 3) (N + 1) = N + 2 := nx1 _ (by omega)
  have q2 : nx (N + 3) (N + 2) = 0 := nxl
  have q3 : nx (N + 3) 0 = 1 := nx1 _ (by omega)
  rw [q1,q2,q3]
  have : sm (N + 1) (fun k => tn α β (p k) (p (nx (N + 3) k)) (p (nx (N + 3) (nx (N + 3) k)))) = sm (N + 1) (fun k => tn α β (p k) (p (k + 1)) (p (k + 2))) := sm_congr fun k hk => by
   rw [nx1 k (by omega),nx1 (k + 1) (by omega)]
  rw [this]
 have c := col (N + 1) (by omega)
 have sh : sm (N + 1) (fun i => ll α β (p (N + 1 + 1)) (p i) (p (i + 1))) = ll α β (p (N + 2)) (p 0) (p 1) + sm N (fun i => ll α β (p (N + 2)) (p (i + 1)) (p (i + 2))):=by
  have := sm_shift N (fun i => ll α β (p (N + 2)) (p i) (p (i + 1)))
  have e2 : sm (N + 1) (fun i => ll α β (p (N + 1 + 1)) (p i) (p (i + 1))) = sm N (fun i => ll α β (p (N + 2)) (p i) (p (i + 1))) + ll α β (p (N + 2)) (p N) (p (N + 1)) := rfl
  have e3 : sm N (fun i => ll α β (p (N + 2)) (p (i + 1)) (p (i + 1 + 1))) = sm N (fun i => ll α β (p (N + 2)) (p (i + 1)) (p (i + 2))) := rfl
  rw [e3] at this
  rw [e2]
  have e4 : ll α β (p (N + 2)) (p 0) (p (0 + 1)) = ll α β (p (N + 2)) (p 0) (p 1) := rfl
  omega
 have lc := lastc N (by omega)
 rw [show N + 3 - 1 = N + 2 by omega] at lc
 have t := tri (α := α) (β := β) (a := p (N + 1)) (b := p (N + 2)) (c := p 0) (hd _ _ (by omega) (by omega) (by omega))
 have z := ll0 (N + 1) (N + 2) (by omega) (by omega)
 rw [e1,c,sh,lc,t,z]
 have h1 := htop (N + 2) (by omega) (by omega)
 have h2 := htop 1 (by omega) (by omega)
 have h3 := hd (N + 2) 1 (by omega) (by omega) (by omega)
 have x1 : cross (p 0) (p 1) (p (N + 2)) = cross (p (N + 2)) (p 0) (p 1):=by unfold cross;grind
 rw [show N + 3 - 1 = N + 2 by omega]
 unfold ll rr tn
 rw [x1]
 generalize cross (p (N + 2)) (p 0) (p 1) = zz at *
 generalize rr α β (p (N + 1)) (p (N + 2)) (p 0) = yy at *
 generalize ht α β (p 0) = a at *
 generalize ht α β (p 1) = b at *
 generalize ht α β (p (N + 2)) = c at *
 rw [if_neg (c := a < c ∧ c < b ∧ zz < 0) (by omega),if_neg (c := b < c ∧ a < b ∧ zz < 0) (by omega),if_neg (c := a < c ∧ a < b ∧ 0 < zz) (by omega)]
 split <;> split <;> split <;> split <;> split <;> omega
end
end Geo
/-
 A contour that turns to the left alone has all its corners on the left of each of its edges.
-/
set_option linter.all false
namespace Geo
section
variable {n : Nat} {p : Nat → Pt}
theorem simple_next (S : Simple n p) : Simple n (fun i => p (nx n i)):=by
 have h3 := S.big
 refine ⟨h3,fun i j hi hj hne => S.dist _ _ (nx_lt h3) (nx_lt h3) (fun h => hne (nx_inj hi hj h)),fun e he => S.corner _ (nx_lt h3),fun e i he hi h1 h2 h4 => ?_⟩
 exact S.apart _ _ (nx_lt h3) (nx_lt h3) (fun h => h1 (nx_inj hi he h)) (fun h => h2 (nx_inj hi (nx_lt h3) h)) (fun h => h4 (nx_inj (nx_lt h3) he h))
theorem nx_add {i k : Nat} : (nx n i + k) % n = nx n ((i + k) % n):=by
 unfold nx
 rw [Nat.mod_add_mod,Nat.mod_add_mod,Nat.add_right_comm]
theorem simple_eq {q : Nat → Pt} (h : ∀ i,i < n → p i = q i) (S : Simple n p) : Simple n q:=by
 have h3 := S.big
 have hx : ∀ i,i < n → p (nx n i) = q (nx n i):=fun i _ => h _ (nx_lt h3)
 refine ⟨h3,fun i j hi hj hne => by rw [← h i hi,← h j hj];exact S.dist i j hi hj hne,fun e he => ?_,fun e i he hi h1 h2 h4 => ?_⟩
 ·rw [← h e he,← hx e he,← hx _ (nx_lt h3)];exact S.corner e he
 ·rw [← h e he,← h i hi,← hx e he,← hx i hi];exact S.apart e i he hi h1 h2 h4
theorem simple_rot (S : Simple n p) : ∀ k,Simple n (fun i => p ((i + k) % n))
 | 0 => simple_eq (fun i hi => by rw [Nat.add_zero,Nat.mod_eq_of_lt hi]) S
 | k + 1 => simple_eq (fun i _ => by
   show p ((nx n i + k) % n) = p ((i + (k + 1)) % n)
   congr 1
   unfold nx
   rw [Nat.mod_add_mod,Nat.add_assoc,Nat.add_comm 1 k]) (simple_next (simple_rot S k))
theorem sm_rot (g : Nat → Int) : ∀ k,sm n (fun i => g ((i + k) % n)) = sm n g
 | 0 => sm_congr fun i hi => by rw [Nat.add_zero,Nat.mod_eq_of_lt hi]
 | k + 1 => by
  rw [← sm_rot g k,← sm_next n (fun i => g ((i + k) % n))]
  refine sm_congr fun i _ => ?_
  congr 1
  rw [Nat.mod_add_mod,Nat.add_assoc,Nat.add_comm 1 k]
theorem turns_once {K M : Int} {T R : Nat} (G : Grd K M T R n p) : (0 < area n p → sm n (fun k => tn 2 (2 * K) (p k) (p (nx n k)) (p (nx n (nx n k)))) = 1) ∧ (area n p < 0 → sm n (fun k => tn 2 (2 * K) (p k) (p (nx n k)) (p (nx n (nx n k)))) = -1):=by
 have S := G.simple
 have hb := S.big
 obtain ⟨m,hm,_,hmax⟩ := exists_least (n := n) (P:=fun _ => True) (fun i => - gh K p i) ⟨0,by omega,trivial⟩
 obtain ⟨e,he,hem⟩ := nx_prev (by omega) hm
 have sg := top_sign G he hm hem fun i hi => by have := hmax i hi trivial;omega
 have dist : ∀ i j,i < n → j < n → i ≠ j → ht 2 (2 * K) (p i) ≠ ht 2 (2 * K) (p j) := G.dist
 have inj : ∀ i j,i < n → j < n → i ≠ j → (i + m) % n ≠ (j + m) % n:=by
  intro i j hi hj hne h
  have e1 : (i + m) % n = if i + m < n then i + m else i + m - n:=by
   split
   ·exact Nat.mod_eq_of_lt (by omega)
   ·rw [Nat.mod_eq_sub_mod (by omega),Nat.mod_eq_of_lt (by omega)]
  have e2 : (j + m) % n = if j + m < n then j + m else j + m - n:=by
   split
   ·exact Nat.mod_eq_of_lt (by omega)
   ·rw [Nat.mod_eq_sub_mod (by omega),Nat.mod_eq_of_lt (by omega)]
  rw [e1,e2] at h
  split at h <;> split at h <;> omega
 have lt : ∀ i,(i + m) % n < n:=fun i => Nat.mod_lt _ (by omega)
 have h0 : (0 + m) % n = m:=by rw [Nat.zero_add,Nat.mod_eq_of_lt hm]
 have t := turns_top (α := 2) (β := 2 * K) (simple_rot S m) (fun i j hi hj hne => dist _ _ (lt i) (lt j) (inj i j hi hj hne)) (fun i hi hne => by
  have h1 := hmax _ (lt i) trivial
  have h2 := dist _ _ (lt i) (lt 0) (inj i 0 hi (by omega) hne)
  rw [h0] at h2 ⊢
  have h3 : ht 2 (2 * K) (p ((i + m) % n)) ≤ ht 2 (2 * K) (p m):=by
   have : gh K p ((i + m) % n) ≤ gh K p m:=by omega
   exact this
  omega)
 have hl : (n - 1 + m) % n = e:=by
  have : nx n ((n - 1 + m) % n) = nx n e:=by
   rw [hem]
   unfold nx
   rw [Nat.mod_add_mod,show n - 1 + m + 1 = m + n by omega,Nat.add_mod_right,Nat.mod_eq_of_lt hm]
  exact nx_inj (lt _) he this
 have h1 : (1 + m) % n = nx n m:=by unfold nx;rw [Nat.add_comm]
 rw [h0,hl,h1] at t
 have sh : sm n (fun k => tn 2 (2 * K) (p ((k + m) % n)) (p ((nx n k + m) % n)) (p ((nx n (nx n k) + m) % n))) = sm n (fun k => tn 2 (2 * K) (p k) (p (nx n k)) (p (nx n (nx n k)))):=by
  rw [← sm_rot (fun k => tn 2 (2 * K) (p k) (p (nx n k)) (p (nx n (nx n k)))) m]
  refine sm_congr fun k _ => ?_
  rw [nx_add,nx_add,nx_add]
 rw [sh] at t
 rw [t]
 rcases sg with ⟨s1,s2⟩ | ⟨s1,s2⟩
 ·rw [if_pos s2,if_neg (by omega)]
  exact ⟨fun _ => rfl,fun h => by omega⟩
 ·rw [if_neg (by omega),if_pos s2]
  exact ⟨fun h => by omega,fun _ => rfl⟩
theorem one_low {K M : Int} {T R : Nat} (G : Grd K M T R n p) (hA : 0 < area n p) (hc : ∀ i,i < n → 0 ≤ cross (p i) (p (nx n i)) (p (nx n (nx n i)))) {i j : Nat} (hi : i < n) (hj : j < n)
  (li : gh K p (nx n i) < gh K p i ∧ gh K p (nx n i) < gh K p (nx n (nx n i))) (lj : gh K p (nx n j) < gh K p j ∧ gh K p (nx n j) < gh K p (nx n (nx n j))) : i = j:=by
 have S := G.simple
 have t:=(turns_once G).1 hA
 have nn : ∀ k,k < n → 0 ≤ tn 2 (2 * K) (p k) (p (nx n k)) (p (nx n (nx n k))):=by
  intro k hk
  have := hc k hk
  unfold tn
  rw [if_neg (c := _ ∧ _ ∧ cross _ _ _ < 0) (by omega)]
  split <;> omega
 have one : ∀ k,k < n → gh K p (nx n k) < gh K p k ∧ gh K p (nx n k) < gh K p (nx n (nx n k)) → tn 2 (2 * K) (p k) (p (nx n k)) (p (nx n (nx n k))) = 1:=by
  intro k hk hl
  have h0 := hc k hk
  have hpos : 0 < cross (p k) (p (nx n k)) (p (nx n (nx n k))):=by
   rcases Int.lt_or_le 0 (cross (p k) (p (nx n k)) (p (nx n (nx n k)))) with h | h
   ·exact h
   ·exfalso
    have hz : cross (p k) (p (nx n k)) (p (nx n (nx n k))) = 0:=by omega
    have l1 : ht 2 (2 * K) (p (nx n k)) < ht 2 (2 * K) (p k) := hl.1
    have l2 : ht 2 (2 * K) (p (nx n k)) < ht 2 (2 * K) (p (nx n (nx n k))) := hl.2
    have c := S.corner k hk
    rcases Int.lt_or_le (ht 2 (2 * K) (p k)) (ht 2 (2 * K) (p (nx n (nx n k)))) with h4 | h4
    ·refine c.2 (on_of (α := 2) (β := 2 * K) ?_ (by omega) (by omega) (by omega))
     rw [cross_rot, ];exact hz
    ·have o : On (p (nx n (nx n k))) (p (nx n k)) (p k) := on_of (α := 2) (β := 2 * K) (by
      have : cross (p (nx n k)) (p k) (p (nx n (nx n k))) = - cross (p k) (p (nx n k)) (p (nx n (nx n k))) := cross_swap _ _ _
      omega) (by omega) (by omega) (by omega)
     refine c.1 ⟨hz,?_,?_⟩
     ·have := o.2.1;unfold btw at this ⊢;omega
     ·have := o.2.2;unfold btw at this ⊢;omega
  have l1 : ht 2 (2 * K) (p (nx n k)) < ht 2 (2 * K) (p k) := hl.1
  have l2 : ht 2 (2 * K) (p (nx n k)) < ht 2 (2 * K) (p (nx n (nx n k))) := hl.2
  unfold tn
  rw [if_pos ⟨l1,l2,hpos⟩,if_neg (by omega)]
  rfl
 rcases Nat.lt_or_ge i j with h | h
 ·exfalso
  have a := sm_le (n := n) (f:=fun k => (if k = i then 1 else 0) + (if k = j then 1 else 0)) (g:=fun k => tn 2 (2 * K) (p k) (p (nx n k)) (p (nx n (nx n k)))) (fun k hk => by
   have h1 := nn k hk
   by_cases e1 : k = i
   ·have := one k hk (e1 ▸ li)
    rw [if_pos e1,if_neg (by omega)];omega
   ·by_cases e2 : k = j
    ·have := one k hk (e2 ▸ lj)
     rw [if_neg e1,if_pos e2];omega
    ·rw [if_neg e1,if_neg e2];omega)
  rw [sm_add,sm_ind hi,sm_ind hj] at a
  omega
 ·rcases Nat.lt_or_ge j i with h' | h'
  ·exfalso
   have a := sm_le (n := n) (f:=fun k => (if k = i then 1 else 0) + (if k = j then 1 else 0)) (g:=fun k => tn 2 (2 * K) (p k) (p (nx n k)) (p (nx n (nx n k)))) (fun k hk => by
    have h1 := nn k hk
    by_cases e1 : k = i
    ·have := one k hk (e1 ▸ li)
     rw [if_pos e1,if_neg (by omega)];omega
    ·by_cases e2 : k = j
     ·have := one k hk (e2 ▸ lj)
      rw [if_neg e1,if_pos e2];omega
     ·rw [if_neg e1,if_neg e2];omega)
   rw [sm_add,sm_ind hi,sm_ind hj] at a
   omega
  ·omega
end
end Geo
/-
 The lattice points on the two sides of an edge,counted row by row.
-/
set_option linter.all false
namespace Geo
def sg (z : Int) : Int:=(if 0 < z then 1 else 0) - (if z < 0 then 1 else 0)
theorem sg_neg (z : Int) : sg (-z) = - sg z:=by
 unfold sg
 split <;> split <;> split <;> split <;> omega
theorem sg_pos {z : Int} (h : 0 < z) : sg z = 1:=by unfold sg;rw [if_pos h,if_neg (by omega)];rfl
theorem sg_ng {z : Int} (h : z < 0) : sg z = -1:=by unfold sg;rw [if_pos h,if_neg (by omega)];rfl
theorem sg_two (z : Int) : sg z = (if 0 < z then 1 else 0) + (if 0 ≤ z then 1 else 0) - 1:=by
 unfold sg
 split <;> split <;> split <;> omega
theorem cnt : ∀ (N : Nat) (c : Int),0 ≤ c → c ≤ N → sm N (fun k => if (k : Int) < c then 1 else 0) = c
 | 0,c,h1,h2 => by
  have : c = 0:=by omega
  subst this;rfl
 | N + 1,c,h1,h2 => by
  rw [sm]
  by_cases h : c ≤ N
  ·rw [cnt N c h1 h,if_neg (by omega)];omega
  ·have : c = N + 1:=by omega
   subst this
   rw [if_pos (by omega)]
   have : sm N (fun k => if (k : Int) < (N : Int) + 1 then 1 else 0) = sm N (fun k => if (k : Int) < (N : Int) then 1 else 0) := sm_congr fun i hi => by
    rw [if_pos (by omega),if_pos (by omega)]
   rw [this,cnt N N (by omega) (by omega)]
theorem sm_one' (N : Nat) (c : Int) : sm N (fun _ => c) = N * c:=by
 induction N with
 | zero => simp [sm]
 | succ n ih => rw [sm,ih];grind
theorem row_sum {d q r A : Int} {N : Nat} (hd : 0 < d) (hr : 0 ≤ r) (hrd : r < d) (h1 : A ≤ q) (h2 : q < A + N) : sm N (fun k => sg (d * q + r - d * (A + k))) = 2 * q + (if 0 < r then 1 else 0) - A - (A + N - 1):=by
 have e : sm N (fun k => sg (d * q + r - d * (A + k))) = sm N (fun k => ((if (k : Int) < q - A + (if 0 < r then 1 else 0) then 1 else 0) + (if (k : Int) < q - A + 1 then 1 else 0)) - 1):=by
  refine sm_congr fun k hk => ?_
  rw [sg_two]
  have p1 : (0 < d * q + r - d * (A + k)) ↔ (k : Int) < q - A + (if 0 < r then 1 else 0):=by
   constructor
   ·intro h
    by_cases hk2 : (k : Int) ≤ q - A
    ·split
     ·omega
     ·by_cases hk3 : (k : Int) = q - A
      ·exfalso
       have : d * (A + k) = d * q:=by rw [hk3];congr 1;omega
       omega
      ·omega
    ·exfalso
     have := Int.mul_nonneg (show 0 ≤ d by omega) (show 0 ≤ A + k - q - 1 by omega)
     have e2 : d * (A + k - q - 1) = d * (A + k) - d * q - d:=by grind
     omega
   ·intro h
    split at h
    ·have := Int.mul_nonneg (show 0 ≤ d by omega) (show 0 ≤ q - (A + k) by omega)
     have e2 : d * (q - (A + k)) = d * q - d * (A + k):=by grind
     omega
    ·have := Int.mul_pos hd (show 0 < q - (A + k) by omega)
     have e2 : d * (q - (A + k)) = d * q - d * (A + k):=by grind
     omega
  have p2 : (0 ≤ d * q + r - d * (A + k)) ↔ (k : Int) < q - A + 1:=by
   constructor
   ·intro h
    rcases Int.lt_or_le (k : Int) (q - A + 1) with h3 | h3
    ·exact h3
    ·exfalso
     have := Int.mul_nonneg (show 0 ≤ d by omega) (show 0 ≤ A + k - q - 1 by omega)
     have e2 : d * (A + k - q - 1) = d * (A + k) - d * q - d:=by grind
     omega
   ·intro h
    have := Int.mul_nonneg (show 0 ≤ d by omega) (show 0 ≤ q - (A + k) by omega)
    have e2 : d * (q - (A + k)) = d * q - d * (A + k):=by grind
    omega
  simp only [p1,p2]
 rw [e,sm_sub,sm_add,cnt N _ (by split <;> omega) (by split <;> omega),cnt N _ (by omega) (by omega),sm_one']
 omega
theorem row_pair {d t t' m A : Int} {N : Nat} (hd : 0 < d) (h1 : d * A ≤ t) (h2 : t ≤ d * (A + N - 1)) (h3 : d * A ≤ t') (h4 : t' ≤ d * (A + N - 1)) (ht : t + t' = d * m) :
  sm N (fun k => sg (t - d * (A + k))) + sm N (fun k => sg (t' - d * (A + k))) = 2 * (m - A - (A + N - 1)):=by
 have hq := Int.emod_add_mul_ediv t d
 have hr0 := Int.emod_nonneg t (show d ≠ 0 by omega)
 have hr1 := Int.emod_lt_of_pos t hd
 generalize t % d = r at *
 generalize t / d = q at *
 have bq : A ≤ q ∧ q < A + N:=by
  constructor
  ·rcases Int.lt_or_le q A with h | h
   ·exfalso
    have := Int.mul_nonneg (show 0 ≤ d by omega) (show 0 ≤ A - q - 1 by omega)
    have e2 : d * (A - q - 1) = d * A - d * q - d:=by grind
    omega
   ·exact h
  ·rcases Int.lt_or_le q (A + N) with h | h
   ·exact h
   ·exfalso
    have := Int.mul_pos hd (show 0 < q - (A + N - 1) by omega)
    have e2 : d * (q - (A + N - 1)) = d * q - d * (A + N - 1):=by grind
    omega
 have et : t = d * q + r:=by omega
 by_cases hr : 0 < r
 ·have et' : t' = d * (m - q - 1) + (d - r):=by
   have : d * (m - q - 1) = d * m - d * q - d:=by grind
   omega
  have bq' : A ≤ m - q - 1 ∧ m - q - 1 < A + N:=by
   constructor
   ·rcases Int.lt_or_le (m - q - 1) A with h | h
    ·exfalso
     have := Int.mul_nonneg (show 0 ≤ d by omega) (show 0 ≤ A - (m - q - 1) - 1 by omega)
     have e2 : d * (A - (m - q - 1) - 1) = d * A - d * (m - q - 1) - d:=by grind
     omega
    ·exact h
   ·rcases Int.lt_or_le (m - q - 1) (A + N) with h | h
    ·exact h
    ·exfalso
     have := Int.mul_pos hd (show 0 < (m - q - 1) - (A + N - 1) by omega)
     have e2 : d * ((m - q - 1) - (A + N - 1)) = d * (m - q - 1) - d * (A + N - 1):=by grind
     omega
  rw [et,et',row_sum hd (by omega) hr1 bq.1 bq.2,row_sum hd (by omega) (by omega) bq'.1 bq'.2,if_pos hr,if_pos (by omega)]
  omega
 ·have : r = 0:=by omega
  subst this
  have et' : t' = d * (m - q) + 0:=by
   have : d * (m - q) = d * m - d * q:=by grind
   omega
  have bq' : A ≤ m - q ∧ m - q < A + N:=by
   constructor
   ·rcases Int.lt_or_le (m - q) A with h | h
    ·exfalso
     have := Int.mul_pos hd (show 0 < A - (m - q) by omega)
     have e2 : d * (A - (m - q)) = d * A - d * (m - q):=by grind
     omega
    ·exact h
   ·rcases Int.lt_or_le (m - q) (A + N) with h | h
    ·exact h
    ·exfalso
     have := Int.mul_pos hd (show 0 < (m - q) - (A + N - 1) by omega)
     have e2 : d * ((m - q) - (A + N - 1)) = d * (m - q) - d * (A + N - 1):=by grind
     omega
  rw [et,et',row_sum hd (by omega) hr1 bq.1 bq.2,row_sum hd (by omega) hd bq'.1 bq'.2,if_neg (by omega)]
  omega
def lx (u v : Pt) : Prop := u.2 < v.2 ∨ (u.2 = v.2 ∧ u.1 < v.1)
instance (u v : Pt) : Decidable (lx u v):=by unfold lx;exact inferInstance
def vt (z a b : Pt) : Int := if (lx a z ∧ lx z b) ∨ (lx b z ∧ lx z a) then sg (cross a b z) else 0
theorem vt_swap (z a b : Pt) : vt z b a = - vt z a b:=by
 have e : cross b a z = - cross a b z := cross_swap a b z
 unfold vt
 rw [e,sg_neg]
 by_cases h : (lx a z ∧ lx z b) ∨ (lx b z ∧ lx z a)
 ·rw [if_pos h,if_pos (h.symm)]
 ·rw [if_neg h,if_neg (fun k => h k.symm)];rfl
theorem sm_split (m : Nat) (f : Nat → Int) : ∀ k,sm (m + k) f = sm m f + sm k (fun i => f (m + i))
 | 0 => by simp [sm]
 | k + 1 => by
  show sm (m + k) f + f (m + k) = _
  rw [sm_split m f k,sm]
  omega
theorem sm_window {NY c len : Nat} {f : Nat → Int} (hc : c + len ≤ NY) (h : ∀ j,j < NY → j < c ∨ c + len ≤ j → f j = 0) : sm NY f = sm len (fun k => f (c + k)):=by
 obtain ⟨w,rfl⟩ : ∃ w,NY = c + len + w := ⟨NY - (c + len),by omega⟩
 rw [sm_split (c + len) f w,sm_split c f len]
 have e1 : sm c f = 0:=by rw [sm_congr (g:=fun _ => 0) (fun i hi => h i (by omega) (.inl hi)),sm_zero]
 have e2 : sm w (fun i => f (c + len + i)) = 0:=by rw [sm_congr (g:=fun _ => 0) (fun i hi => h _ (by omega) (.inr (by omega))),sm_zero]
 omega
theorem mirror {D : Nat} {g : Nat → Int} {C : Int} (h0 : g 0 + g (D + 1) = C) (h : ∀ k,k < D → g (k + 1) + g (D - k) = 2 * C) : sm (D + 2) g = (D + 1) * C:=by
 have e : sm (D + 2) g = g 0 + sm D (fun k => g (k + 1)) + g (D + 1):=by
  have := sm_shift D g
  show sm D g + g D + g (D + 1) = _
  omega
 have r := sm_rev D (fun k => g (k + 1))
 have p : sm D (fun k => g (k + 1)) + sm D (fun k => g (D - 1 - k + 1)) = sm D (fun _ => 2 * C):=by
  rw [← sm_add]
  refine sm_congr fun k hk => ?_
  rw [show D - 1 - k + 1 = D - k by omega]
  exact h k hk
 rw [sm_one',r] at p
 rw [e]
 have : ((D : Int) + 1) * C = D * C + C:=by grind
 have q : (D : Int) * (2 * C) = 2 * (D * C):=by grind
 omega
theorem edge_up_sum {a b : Pt} {L Y : Int} {N NY : Nat} (hab : a.2 < b.2) (ha1 : L ≤ a.1) (ha2 : a.1 ≤ L + N - 1) (hb1 : L ≤ b.1) (hb2 : b.1 ≤ L + N - 1) (hya : Y ≤ a.2) (hyb : b.2 ≤ Y + NY - 1) :
  sm NY (fun j => sm N (fun i => vt (L + i,Y + j) a b)) = (b.2 - a.2) * (a.1 + b.1 - L - (L + N - 1)):=by
 obtain ⟨D,hD⟩ : ∃ D : Nat,b.2 - a.2 = D + 1 := ⟨(b.2 - a.2 - 1).toNat,by omega⟩
 obtain ⟨c,hc⟩ : ∃ c : Nat,a.2 = Y + c := ⟨(a.2 - Y).toNat,by omega⟩
 have hw : sm NY (fun j => sm N (fun i => vt (L + i,Y + j) a b)) = sm (D + 2) (fun k => (fun j : Nat => sm N (fun i => vt (L + i,Y + j) a b)) (c + k)):=by
  refine sm_window (by omega) fun j _ hj => ?_
  rw [sm_congr (g:=fun _ => 0) (fun i _ => ?_),sm_zero]
  unfold vt lx
  dsimp only
  rw [if_neg (by omega)]
 rw [hw,hD]
 -- rows
 have bot : sm N (fun i => vt (L + i,Y + (c + 0 : Nat)) a b) = - (L + N - 1 - a.1):=by
  have e : sm N (fun i => vt (L + i,Y + (c + 0 : Nat)) a b) = sm N (fun i => (if (i : Int) < a.1 - L + 1 then 1 else 0) - 1):=by
   refine sm_congr fun i hi => ?_
   unfold vt lx
   dsimp only
   by_cases h : (i : Int) < a.1 - L + 1
   ·rw [if_neg (by omega),if_pos h];rfl
   ·rw [if_pos (by omega),if_neg h]
    have : cross a b (L + i,Y + (c + 0 : Nat)) = - ((b.2 - a.2) * (L + i - a.1)):=by
     unfold cross
     dsimp only
     rw [show Y + ((c + 0 : Nat) : Int) - a.2 = 0 by omega]
     grind
    have hp := Int.mul_pos (show 0 < b.2 - a.2 by omega) (show 0 < L + i - a.1 by omega)
    rw [sg_ng (by rw [this];omega)];rfl
  rw [e,sm_sub,cnt N _ (by omega) (by omega),sm_one']
  omega
 have top : sm N (fun i => vt (L + i,Y + (c + (D + 1) : Nat)) a b) = b.1 - L:=by
  have e : sm N (fun i => vt (L + i,Y + (c + (D + 1) : Nat)) a b) = sm N (fun i => (if (i : Int) < b.1 - L then 1 else 0)):=by
   refine sm_congr fun i hi => ?_
   unfold vt lx
   dsimp only
   by_cases h : (i : Int) < b.1 - L
   ·rw [if_pos (by omega),if_pos h]
    have : cross a b (L + i,Y + (c + (D + 1) : Nat)) = (b.2 - a.2) * (b.1 - (L + i)):=by
     unfold cross
     dsimp only
     rw [show Y + ((c + (D + 1) : Nat) : Int) - a.2 = b.2 - a.2 by omega]
     grind
    have hp := Int.mul_pos (show 0 < b.2 - a.2 by omega) (show 0 < b.1 - (L + i) by omega)
    rw [sg_pos (by rw [this];omega)]
   ·rw [if_neg (by omega),if_neg h]
  rw [e,cnt N _ (by omega) (by omega)]
 have mid : ∀ k : Nat,0 < k → k < D + 1 → sm N (fun i => vt (L + i,Y + (c + k : Nat)) a b) = sm N (fun i => sg ((b.1 - a.1) * k + (b.2 - a.2) * a.1 - (b.2 - a.2) * (L + i))):=by
  intro k h1 h2
  refine sm_congr fun i hi => ?_
  unfold vt lx
  dsimp only
  rw [if_pos (by omega)]
  congr 1
  unfold cross
  dsimp only
  rw [show Y + ((c + k : Nat) : Int) - a.2 = k by omega]
  grind
 refine (mirror (C := a.1 + b.1 - L - (L + N - 1)) ?_ (fun k hk => ?_)).trans (by push_cast;rfl)
 ·dsimp only
  rw [bot,top];omega
 ·dsimp only
  rw [mid (k + 1) (by omega) (by omega),mid (D - k) (by omega) (by omega)]
  have z : ∀ s : Int,0 ≤ s → s ≤ b.2 - a.2 → (b.2 - a.2) * L ≤ (b.1 - a.1) * s + (b.2 - a.2) * a.1 ∧ (b.1 - a.1) * s + (b.2 - a.2) * a.1 ≤ (b.2 - a.2) * (L + N - 1):=by
   intro s h1 h2
   have e : (b.1 - a.1) * s + (b.2 - a.2) * a.1 = s * b.1 + (b.2 - a.2 - s) * a.1:=by grind
   have k1 := Int.mul_nonneg h1 (show 0 ≤ b.1 - L by omega)
   have k2 := Int.mul_nonneg (show 0 ≤ b.2 - a.2 - s by omega) (show 0 ≤ a.1 - L by omega)
   have k3 := Int.mul_nonneg h1 (show 0 ≤ L + N - 1 - b.1 by omega)
   have k4 := Int.mul_nonneg (show 0 ≤ b.2 - a.2 - s by omega) (show 0 ≤ L + N - 1 - a.1 by omega)
   have e1 : s * (b.1 - L) + (b.2 - a.2 - s) * (a.1 - L) = s * b.1 + (b.2 - a.2 - s) * a.1 - (b.2 - a.2) * L:=by grind
   have e2 : s * (L + N - 1 - b.1) + (b.2 - a.2 - s) * (L + N - 1 - a.1) = (b.2 - a.2) * (L + N - 1) - (s * b.1 + (b.2 - a.2 - s) * a.1):=by grind
   omega
  have z1 := z ((k + 1 : Nat) : Int) (by omega) (by omega)
  have z2 := z ((D - k : Nat) : Int) (by omega) (by omega)
  refine row_pair (by omega) z1.1 z1.2 z2.1 z2.2 ?_
  have : ((D - k : Nat) : Int) = b.2 - a.2 - ((k + 1 : Nat) : Int):=by omega
  rw [this]
  grind
theorem edge_sum {a b : Pt} {L Y : Int} {N NY : Nat} (ha1 : L ≤ a.1) (ha2 : a.1 ≤ L + N - 1) (hb1 : L ≤ b.1) (hb2 : b.1 ≤ L + N - 1) (hya : Y ≤ a.2) (hya2 : a.2 ≤ Y + NY - 1) (hyb1 : Y ≤ b.2) (hyb : b.2 ≤ Y + NY - 1) :
  sm NY (fun j => sm N (fun i => vt (L + i,Y + j) a b)) = (b.2 - a.2) * (a.1 + b.1 - L - (L + N - 1)):=by
 rcases Int.lt_trichotomy a.2 b.2 with h | h | h
 ·exact edge_up_sum h ha1 ha2 hb1 hb2 hya hyb
 ·rw [show b.2 - a.2 = 0 by omega,Int.zero_mul]
  rw [sm_congr (g:=fun _ => 0) (fun j _ => ?_),sm_zero]
  rw [sm_congr (g:=fun _ => 0) (fun i _ => ?_),sm_zero]
  unfold vt
  split
  ·rename_i hh
   unfold lx at hh
   dsimp only at hh
   have : cross a b (L + i,Y + j) = 0:=by
    unfold cross
    dsimp only
    rw [show Y + (j : Int) - a.2 = 0 by omega,show b.2 - a.2 = 0 by omega]
    grind
   rw [this];rfl
  ·rfl
 ·have := edge_up_sum h hb1 hb2 ha1 ha2 hyb1 hya2
  have e : sm NY (fun j => sm N (fun i => vt (L + i,Y + j) a b)) = - sm NY (fun j => sm N (fun i => vt (L + i,Y + j) b a)):=by
   have e2 : sm NY (fun j => sm N (fun i => vt (L + i,Y + j) a b)) = sm NY (fun j => (-1) * sm N (fun i => vt (L + i,Y + j) b a)):=by
    refine sm_congr fun j _ => ?_
    rw [← sm_mul]
    refine sm_congr fun i _ => ?_
    rw [vt_swap];omega
   rw [e2,sm_mul];omega
  rw [e,this]
  grind
theorem sides_sum {n : Nat} {p : Nat → Pt} {L Y : Int} {N NY : Nat} (h0 : 0 < n) (hx : ∀ i,i < n → L ≤ (p i).1 ∧ (p i).1 ≤ L + N - 1) (hy : ∀ i,i < n → Y ≤ (p i).2 ∧ (p i).2 ≤ Y + NY - 1) :
  sm NY (fun j => sm N (fun i => sm n (fun e => vt (L + i,Y + j) (p e) (p (nx n e))))) = area n p:=by
 have e1 : sm NY (fun j => sm N (fun i => sm n (fun e => vt (L + i,Y + j) (p e) (p (nx n e))))) = sm n (fun e => sm NY (fun j => sm N (fun i => vt (L + i,Y + j) (p e) (p (nx n e))))):=by
  rw [sm_swap n NY]
  refine sm_congr fun j _ => ?_
  rw [sm_swap n N]
 have e2 : sm n (fun e => sm NY (fun j => sm N (fun i => vt (L + i,Y + j) (p e) (p (nx n e))))) = sm n (fun e => ((p e).1 * (p (nx n e)).2 - (p (nx n e)).1 * (p e).2) + ((fun j => (p j).1 * (p j).2 - (L + (L + N - 1)) * (p j).2) (nx n e) - (fun j => (p j).1 * (p j).2 - (L + (L + N - 1)) * (p j).2) e)):=by
  refine sm_congr fun e he => ?_
  have hx' : nx n e < n := Nat.mod_lt _ h0
  rw [edge_sum (hx e he).1 (hx e he).2 (hx _ hx').1 (hx _ hx').2 (hy e he).1 (hy e he).2 (hy _ hx').1 (hy _ hx').2]
  dsimp only
  grind
 have cyc : sm n (fun e => (fun j => (p j).1 * (p j).2 - (L + (L + N - 1)) * (p j).2) (nx n e) - (fun j => (p j).1 * (p j).2 - (L + (L + N - 1)) * (p j).2) e) = 0 := sm_cycle n (fun j => (p j).1 * (p j).2 - (L + (L + N - 1)) * (p j).2)
 rw [e1,e2,sm_add,cyc,Int.add_zero]
 rfl
end Geo
/-
 Pick's theorem.
-/
set_option linter.all false
namespace Geo
theorem ht_lx {K : Int} {u v : Pt} (h1 : u.1 - v.1 < K) (h2 : v.1 - u.1 < K) : ht 2 (2 * K) u < ht 2 (2 * K) v ↔ lx u v:=by
 have e : ht 2 (2 * K) v - ht 2 (2 * K) u = 2 * (v.1 - u.1) + 2 * (K * (v.2 - u.2)):=by unfold ht;grind
 unfold lx
 rcases Int.lt_trichotomy u.2 v.2 with h | h | h
 ·have := Int.mul_le_mul_of_nonneg_left (a := 1) (b := v.2 - u.2) (c := K) (by omega) (by omega)
  constructor
  ·intro _;exact .inl h
  ·intro _;omega
 ·rw [h,Int.sub_self,Int.mul_zero] at e
  constructor
  ·intro _;right;exact ⟨h,by omega⟩
  ·rintro (k | ⟨_,k⟩)
   ·omega
   ·omega
 ·have := Int.mul_le_mul_of_nonneg_left (a := 1) (b := u.2 - v.2) (c := K) (by omega) (by omega)
  have e2 : K * (v.2 - u.2) = - (K * (u.2 - v.2)):=by grind
  constructor
  ·intro _;omega
  ·rintro (k | ⟨k,_⟩) <;> omega
theorem neg_iff {d u w : Int} (hd : 0 < d) (h : d * u = -w) : (u < 0 ↔ 0 < w) ∧ (0 < u ↔ w < 0):=by
 rcases Int.lt_trichotomy u 0 with k | k | k
 ·have := Int.mul_pos hd (show 0 < -u by omega)
  rw [Int.mul_neg] at this
  exact ⟨⟨fun _ => by omega,fun _ => k⟩,⟨fun _ => by omega,fun _ => by omega⟩⟩
 ·rw [k,Int.mul_zero] at h
  exact ⟨⟨fun _ => by omega,fun _ => by omega⟩,⟨fun _ => by omega,fun _ => by omega⟩⟩
 ·have := Int.mul_pos hd k
  exact ⟨⟨fun _ => by omega,fun _ => by omega⟩,⟨fun _ => by omega,fun _ => k⟩⟩
theorem mul_sign {c w : Int} (hc : 0 < c) : (0 < c * w ↔ 0 < w) ∧ (c * w < 0 ↔ w < 0):=by
 rcases Int.lt_trichotomy w 0 with k | k | k
 ·have := Int.mul_pos hc (show 0 < -w by omega)
  rw [Int.mul_neg] at this
  exact ⟨⟨fun _ => by omega,fun _ => by omega⟩,⟨fun _ => k,fun _ => by omega⟩⟩
 ·rw [k,Int.mul_zero];simp
 ·have := Int.mul_pos hc k
  exact ⟨⟨fun _ => k,fun _ => this⟩,⟨fun _ => by omega,fun _ => by omega⟩⟩
section
variable {K M : Int} {T R n : Nat} {p : Nat → Pt}
theorem side0 (G : Grd K M T R n p) {e : Nat} (he : e < n) (q : Pt) :
  (gh K p e < gh K p (nx n e) → (M * q.1 < (gL K M n p).X e (ht 2 (2 * K) q) ↔ 0 < cross (p e) (p (nx n e)) q) ∧ ((gL K M n p).X e (ht 2 (2 * K) q) < M * q.1 ↔ cross (p e) (p (nx n e)) q < 0)) ∧
  (gh K p (nx n e) < gh K p e → (M * q.1 < (gL K M n p).X e (ht 2 (2 * K) q) ↔ cross (p e) (p (nx n e)) q < 0) ∧ ((gL K M n p).X e (ht 2 (2 * K) q) < M * q.1 ↔ 0 < cross (p e) (p (nx n e)) q)):=by
 have l:=(G.line he).cross q
 have hc : 0 < M * (2 * K) := Int.mul_pos G.mp (by have := G.kp;omega)
 have ms := mul_sign (w := cross (p e) (p (nx n e)) q) hc
 have ea : ht 2 (2 * K) (p e) = gh K p e := rfl
 have eb : ht 2 (2 * K) (p (nx n e)) = gh K p (nx n e) := rfl
 rw [ea,eb] at l
 constructor
 ·intro h
  have := neg_iff (d := gh K p (nx n e) - gh K p e) (u := M * q.1 - (gL K M n p).X e (ht 2 (2 * K) q)) (w := M * (2 * K) * cross (p e) (p (nx n e)) q) (by omega) (by rw [l];grind)
  rw [ms.1,ms.2] at this
  exact ⟨⟨fun k => this.1.1 (by omega),fun k => by have := this.1.2 k;omega⟩,⟨fun k => this.2.1 (by omega),fun k => by have := this.2.2 k;omega⟩⟩
 ·intro h
  have := neg_iff (d := gh K p e - gh K p (nx n e)) (u := - (M * q.1 - (gL K M n p).X e (ht 2 (2 * K) q))) (w := M * (2 * K) * cross (p e) (p (nx n e)) q) (by omega) (by
   have : (gh K p e - gh K p (nx n e)) * -(M * q.1 - (gL K M n p).X e (ht 2 (2 * K) q)) = (gh K p (nx n e) - gh K p e) * (M * q.1 - (gL K M n p).X e (ht 2 (2 * K) q)):=by grind
   rw [this,l];grind)
  rw [ms.1,ms.2] at this
  exact ⟨⟨fun k => this.2.1 (by omega),fun k => by have := this.2.2 k;omega⟩,⟨fun k => this.1.1 (by omega),fun k => by have := this.1.2 k;omega⟩⟩
theorem side1 (G : Grd K M T R n p) {e : Nat} (he : e < n) (q : Pt) (h1 : (p e).1 - (p (nx n e)).1 < K) (h2 : (p (nx n e)).1 - (p e).1 < K) (h0 : cross (p e) (p (nx n e)) q ≠ 0) :
  (gh K p e < gh K p (nx n e) → (M * q.1 < (gL K M n p).X e (ht 2 (2 * K) q + 1) ↔ 0 < cross (p e) (p (nx n e)) q)) ∧
  (gh K p (nx n e) < gh K p e → (M * q.1 < (gL K M n p).X e (ht 2 (2 * K) q + 1) ↔ cross (p e) (p (nx n e)) q < 0)):=by
 have l:=(G.line he).cross q
 have F := G.fine
 obtain ⟨c0,σ,hX⟩ := F.aff e he
 have s0 := F.start e he
 have s1 := F.stop e he
 have v0 : (gL K M n p).V e = M * (p e).1 := rfl
 have v1 : (gL K M n p).V (nx n e) = M * (p (nx n e)).1 := rfl
 have g0 : (gL K M n p).H e = gh K p e := rfl
 have g1 : (gL K M n p).H (nx n e) = gh K p (nx n e) := rfl
 rw [hX,v0,g0] at s0
 rw [hX,v1,g1] at s1
 have ea : ht 2 (2 * K) (p e) = gh K p e := rfl
 have eb : ht 2 (2 * K) (p (nx n e)) = gh K p (nx n e) := rfl
 rw [ea,eb,hX] at l
 rw [hX]
 have hM := G.mp
 have hK := G.kp
 have key : (gh K p (nx n e) - gh K p e) * (M * q.1 - (c0 + σ * (ht 2 (2 * K) q + 1))) = - (M * (2 * (K * cross (p e) (p (nx n e)) q) + ((p (nx n e)).1 - (p e).1))):=by grind
 have big : (0 < 2 * (K * cross (p e) (p (nx n e)) q) + ((p (nx n e)).1 - (p e).1) ↔ 0 < cross (p e) (p (nx n e)) q) ∧ (2 * (K * cross (p e) (p (nx n e)) q) + ((p (nx n e)).1 - (p e).1) < 0 ↔ cross (p e) (p (nx n e)) q < 0):=by
  rcases Int.lt_or_lt_of_ne h0 with k | k
  ·have := Int.mul_le_mul_of_nonneg_left (a := 1) (b := - cross (p e) (p (nx n e)) q) (c := K) (by omega) (by omega)
   rw [Int.mul_neg] at this
   exact ⟨⟨fun _ => by omega,fun _ => by omega⟩,⟨fun _ => k,fun _ => by omega⟩⟩
  ·have := Int.mul_le_mul_of_nonneg_left (a := 1) (b := cross (p e) (p (nx n e)) q) (c := K) (by omega) (by omega)
   exact ⟨⟨fun _ => k,fun _ => by omega⟩,⟨fun _ => by omega,fun _ => by omega⟩⟩
 have ms := mul_sign (w := 2 * (K * cross (p e) (p (nx n e)) q) + ((p (nx n e)).1 - (p e).1)) hM
 rw [big.1,big.2] at ms
 constructor
 ·intro h
  have := neg_iff (d := gh K p (nx n e) - gh K p e) (by omega) key
  rw [ms.1,ms.2] at this
  exact ⟨fun k => this.1.1 (by omega),fun k => by have := this.1.2 k;omega⟩
 ·intro h
  have := neg_iff (d := gh K p e - gh K p (nx n e)) (u := - (M * q.1 - (c0 + σ * (ht 2 (2 * K) q + 1)))) (by omega) (by
   have : (gh K p e - gh K p (nx n e)) * -(M * q.1 - (c0 + σ * (ht 2 (2 * K) q + 1))) = (gh K p (nx n e) - gh K p e) * (M * q.1 - (c0 + σ * (ht 2 (2 * K) q + 1))):=by grind
   rw [this];exact key)
  rw [ms.1,ms.2] at this
  exact ⟨fun k => this.2.1 (by omega),fun k => by have := this.2.2 k;omega⟩
theorem vt_ht {z a b : Pt} (h1 : a.1 - z.1 < K) (h2 : z.1 - a.1 < K) (h3 : b.1 - z.1 < K) (h4 : z.1 - b.1 < K) :
  vt z a b = if (ht 2 (2 * K) a < ht 2 (2 * K) z ∧ ht 2 (2 * K) z < ht 2 (2 * K) b) ∨ (ht 2 (2 * K) b < ht 2 (2 * K) z ∧ ht 2 (2 * K) z < ht 2 (2 * K) a) then sg (cross a b z) else 0:=by
 have e : ((lx a z ∧ lx z b) ∨ (lx b z ∧ lx z a)) ↔ ((ht 2 (2 * K) a < ht 2 (2 * K) z ∧ ht 2 (2 * K) z < ht 2 (2 * K) b) ∨ (ht 2 (2 * K) b < ht 2 (2 * K) z ∧ ht 2 (2 * K) z < ht 2 (2 * K) a)):=by
  rw [← ht_lx h1 h2,← ht_lx h4 h3,← ht_lx h3 h4,← ht_lx h2 h1]
 unfold vt
 by_cases h : (lx a z ∧ lx z b) ∨ (lx b z ∧ lx z a)
 ·rw [if_pos h,if_pos (e.1 h)]
 ·rw [if_neg h,if_neg (fun k => h (e.2 k))]
def vs (n : Nat) (p : Nat → Pt) (z : Pt) : Int := sm n fun e => vt z (p e) (p (nx n e))
theorem gh_even (i : Nat) : ∃ k,gh K p i = 2 * k := ⟨(p i).1 + K * (p i).2,by unfold gh ht;grind⟩
theorem ht_even (z : Pt) : ∃ k,ht 2 (2 * K) z = 2 * k := ⟨z.1 + K * z.2,by unfold ht;grind⟩
theorem vs_off (G : Grd K M T R n p) (hA : 0 < area n p) {z : Pt} (hz : ∀ i,i < n → (p i).1 - z.1 < K ∧ z.1 - (p i).1 < K) (hp : ∀ i j,i < n → j < n → (p i).1 - (p j).1 < K) (hoff : ¬ OnK n p z) : vs n p z = if par n p z = true then 2 else 0:=by
 have F := G.fine
 have hb := F.big
 have hM := G.mp
 have hK := G.kp
 obtain ⟨c,hc⟩:=(gL K M n p).all_round F
 have hc1 := G.round_one hc hA
 obtain ⟨k,hk⟩ := ht_even (K := K) z
 have hne : ∀ i,i < n → gh K p i ≠ ht 2 (2 * K) z:=by
  intro i hi h
  have a1:=(ht_lx (hz i hi).1 (hz i hi).2)
  have a2:=(ht_lx (hz i hi).2 (hz i hi).1)
  have h' : ht 2 (2 * K) (p i) = ht 2 (2 * K) z := h
  have e1 : ¬ lx (p i) z:=fun hh => by have := a1.2 hh;omega
  have e2 : ¬ lx z (p i):=fun hh => by have := a2.2 hh;omega
  unfold lx at e1 e2
  have e3 : p i = z := Prod.ext (by omega) (by omega)
  refine hoff ⟨i,hi,?_⟩
  rw [e3]
  exact ⟨by unfold cross;grind,by unfold btw;omega,by unfold btw;omega⟩
 have dav : ∀ e,e < n → ((gL K M n p).da e (2 * k + 1) = 1 ∧ gh K p e < ht 2 (2 * K) z ∧ ht 2 (2 * K) z < gh K p (nx n e)) ∨ ((gL K M n p).da e (2 * k + 1) = -1 ∧ gh K p (nx n e) < ht 2 (2 * K) z ∧ ht 2 (2 * K) z < gh K p e) ∨
   ((gL K M n p).da e (2 * k + 1) = 0 ∧ ((gh K p e < ht 2 (2 * K) z ∧ gh K p (nx n e) < ht 2 (2 * K) z) ∨ (ht 2 (2 * K) z < gh K p e ∧ ht 2 (2 * K) z < gh K p (nx n e)))):=by
  intro e he
  have n1 := hne e he
  have n2 := hne (nx n e) (nx_lt hb)
  obtain ⟨k1,hk1⟩ := gh_even (K := K) (p := p) e
  obtain ⟨k2,hk2⟩ := gh_even (K := K) (p := p) (nx n e)
  have g0 : (gL K M n p).H e = gh K p e := rfl
  have g1 : (gL K M n p).H (nx n e) = gh K p (nx n e) := rfl
  unfold Lev.da Lev.g
  rw [g0,g1]
  split <;> split <;> omega
 -- each edge
 have each : ∀ e,e < n → vt z (p e) (p (nx n e)) = 2 * ((if M * z.1 < (gL K M n p).X e (2 * k + 1) then 1 else 0) * (gL K M n p).da e (2 * k + 1)) - (gL K M n p).da e (2 * k + 1) ∧
   rc (gm M K z) (gm M K (p e)) (gm M K (p (nx n e))) = (decide ((gL K M n p).da e (2 * k + 1) ≠ 0) && decide (M * z.1 < (gL K M n p).X e (2 * k + 1))):=by
  intro e he
  have hx := nx_lt (i := e) hb
  have z1 := hz e he
  have z2 := hz _ hx
  rw [vt_ht z1.1 z1.2 z2.1 z2.2]
  have ea : ht 2 (2 * K) (p e) = gh K p e := rfl
  have eb : ht 2 (2 * K) (p (nx n e)) = gh K p (nx n e) := rfl
  have c0 : gh K p e < ht 2 (2 * K) z ∧ ht 2 (2 * K) z < gh K p (nx n e) ∨ gh K p (nx n e) < ht 2 (2 * K) z ∧ ht 2 (2 * K) z < gh K p e → cross (p e) (p (nx n e)) z ≠ 0:=by
   intro h h0
   refine hoff ⟨e,he,?_⟩
   rcases h with ⟨h1,h2⟩ | ⟨h1,h2⟩
   ·exact on_of (α := 2) (β := 2 * K) h0 (by omega) (by omega) (by omega)
   ·have o : On z (p (nx n e)) (p e) := on_of (α := 2) (β := 2 * K) (by rw [cross_swap];omega) (by omega) (by omega) (by omega)
    exact ⟨h0,by have := o.2.1;unfold btw at this ⊢;omega,by have := o.2.2;unfold btw at this ⊢;omega⟩
  have s1 := side1 G he z (hp e _ he hx) (hp _ e hx he)
  have g8 : cross (gm M K (p e)) (gm M K (p (nx n e))) (gm M K z) = 8 * (M * K) * cross (p e) (p (nx n e)) z:=by unfold gm ht cross;grind
  have h8 : 0 < 8 * (M * K):=by have := Int.mul_pos hM hK;omega
  have m8 := mul_sign (w := cross (p e) (p (nx n e)) z) h8
  have r2 : ∀ q,(gm M K q).2 = 2 * ht 2 (2 * K) q:=fun q => rfl
  unfold rc
  rw [g8,r2,r2,r2,ea,eb]
  rw [hk] at s1 c0 ⊢
  have dv := dav e he
  rw [hk] at dv
  rcases dv with ⟨d1,d2,d3⟩ | ⟨d1,d2,d3⟩ | ⟨d1,d2⟩
  ·have cn := c0 (.inl ⟨d2,d3⟩)
   have s:=(s1 cn).1 (by omega)
   rw [d1,if_pos (.inl ⟨d2,d3⟩),decide_eq_false (show ¬ 2 * gh K p e > 2 * (2 * k) by omega),decide_eq_true (show 2 * gh K p (nx n e) > 2 * (2 * k) by omega),decide_eq_true (show 2 * gh K p (nx n e) > 2 * gh K p e by omega)]
   by_cases hpz : 0 < cross (p e) (p (nx n e)) z
   ·rw [if_pos (s.2 hpz),sg_pos hpz,decide_eq_true (m8.1.2 hpz),decide_eq_true (s.2 hpz)]
    exact ⟨by omega,rfl⟩
   ·rw [if_neg (fun hh => hpz (s.1 hh)),sg_ng (by omega),decide_eq_false (fun hh => hpz (m8.1.1 hh)),decide_eq_false (fun hh => hpz (s.1 hh))]
    exact ⟨by omega,rfl⟩
  ·have cn := c0 (.inr ⟨d2,d3⟩)
   have s:=(s1 cn).2 (by omega)
   rw [d1,if_pos (.inr ⟨d2,d3⟩),decide_eq_true (show 2 * gh K p e > 2 * (2 * k) by omega),decide_eq_false (show ¬ 2 * gh K p (nx n e) > 2 * (2 * k) by omega),decide_eq_false (show ¬ 2 * gh K p (nx n e) > 2 * gh K p e by omega)]
   by_cases hpz : 0 < cross (p e) (p (nx n e)) z
   ·rw [if_neg (fun hh => by have := s.1 hh;omega),sg_pos hpz,decide_eq_true (m8.1.2 hpz),decide_eq_false (show ¬ M * z.1 < (gL K M n p).X e (2 * k + 1) from fun hh => by have := s.1 hh;omega)]
    exact ⟨by omega,rfl⟩
   ·rw [if_pos (s.2 (by omega)),sg_ng (by omega),decide_eq_false (fun hh => hpz (m8.1.1 hh)),decide_eq_true (s.2 (by omega))]
    exact ⟨by omega,rfl⟩
  ·rw [d1,if_neg (by omega)]
   refine ⟨by omega,?_⟩
   rcases d2 with ⟨d2,d3⟩ | ⟨d2,d3⟩
   ·rw [decide_eq_false (show ¬ 2 * gh K p e > 2 * (2 * k) by omega),decide_eq_false (show ¬ 2 * gh K p (nx n e) > 2 * (2 * k) by omega)]
    simp
   ·rw [decide_eq_true (show 2 * gh K p e > 2 * (2 * k) by omega),decide_eq_true (show 2 * gh K p (nx n e) > 2 * (2 * k) by omega)]
    simp
 have e1 : vs n p z = 2 * (gL K M n p).beyond (2 * k + 1) (M * z.1):=by
  unfold vs
  rw [sm_congr (fun e he => (each e he).1),sm_sub,(gL K M n p).da_sum,sm_mul]
  unfold Lev.beyond
  omega
 have e2 : par n p z = xs n fun e => decide ((gL K M n p).da e (2 * k + 1) ≠ 0) && decide (M * z.1 < (gL K M n p).X e (2 * k + 1)):=by
  rw [← (good_gm hM hK).par n p z hoff]
  exact xs_congr fun e he => (each e he).2
 have hpar := sm_parity n (fun e => decide (M * z.1 < (gL K M n p).X e (2 * k + 1))) (fun e => (gL K M n p).da e (2 * k + 1)) (fun i _ => by
  unfold Lev.da Lev.g;split <;> split <;> simp)
 rw [← e2] at hpar
 have hbey : sm n (fun i => (if decide (M * z.1 < (gL K M n p).X i (2 * k + 1)) = true then 1 else 0) * (gL K M n p).da i (2 * k + 1)) = (gL K M n p).beyond (2 * k + 1) (M * z.1):=by
  unfold Lev.beyond
  refine sm_congr fun e _ => ?_
  by_cases h : M * z.1 < (gL K M n p).X e (2 * k + 1)
  ·rw [if_pos h,if_pos (decide_eq_true h)]
  ·rw [if_neg h,if_neg (by rw [decide_eq_false h];simp)]
 rw [hbey] at hpar
 rw [e1]
 have hval:=(gL K M n p).beyond_val F hc k (M * z.1)
 have hup : ∀ e,(gL K M n p).up e = 0 ∨ (gL K M n p).up e = 1:=fun e => by unfold Lev.up;split <;> simp
 have hb3 : (gL K M n p).beyond (2 * k + 1) (M * z.1) = 0 ∨ (gL K M n p).beyond (2 * k + 1) (M * z.1) = 1:=by
  rcases hval with ⟨_,h⟩ | ⟨e,_,_,_,h⟩
  ·exact .inl h
  ·rcases hup e with q | q <;> rw [q] at h <;> omega
 cases hq : par n p z with
 | true =>
  rw [hq,if_pos rfl] at hpar
  rw [if_pos rfl]
  omega
 | false =>
  rw [hq,if_neg (by simp)] at hpar
  rw [if_neg (by simp)]
  omega
end
end Geo
/-
 Pick's theorem: points on the contour,corners,and the sum.
-/
set_option linter.all false
namespace Geo
theorem on_lx {z a b : Pt} (h : On z a b) (h1 : z ≠ a) (h2 : z ≠ b) : (lx a z ∧ lx z b) ∨ (lx b z ∧ lx z a):=by
 obtain ⟨hc,hx,hy⟩ := h
 unfold cross at hc
 have n1 : ¬ (z.1 = a.1 ∧ z.2 = a.2):=fun k => h1 (Prod.ext k.1 k.2)
 have n2 : ¬ (z.1 = b.1 ∧ z.2 = b.2):=fun k => h2 (Prod.ext k.1 k.2)
 unfold btw at hx hy
 unfold lx
 by_cases hd : b.2 = a.2
 ·omega
 ·have k1 : z.2 ≠ a.2:=by
   intro e
   rw [e,Int.sub_self,Int.mul_zero] at hc
   have : (b.2 - a.2) * (z.1 - a.1) = 0:=by omega
   rcases Int.mul_eq_zero.1 this with k | k <;> omega
  have k2 : z.2 ≠ b.2:=by
   intro e
   rw [e] at hc
   have : (b.2 - a.2) * (b.1 - z.1) = 0:=by grind
   rcases Int.mul_eq_zero.1 this with k | k <;> omega
  omega
section
variable {K M : Int} {T R n : Nat} {p : Nat → Pt}
theorem vs_on (G : Grd K M T R n p) (hA : 0 < area n p) {z : Pt} (hz : ∀ i,i < n → (p i).1 - z.1 < K ∧ z.1 - (p i).1 < K) {e0 : Nat} (he0 : e0 < n) (hon : On z (p e0) (p (nx n e0))) (hnv : ∀ i,i < n → z ≠ p i) : vs n p z = 1:=by
 have F := G.fine
 have hb := F.big
 have hM := G.mp
 have hK := G.kp
 obtain ⟨c,hc⟩:=(gL K M n p).all_round F
 have hc1 := G.round_one hc hA
 obtain ⟨k,hk⟩ := ht_even (K := K) z
 have hne : ∀ i,i < n → gh K p i ≠ ht 2 (2 * K) z:=by
  intro i hi h
  have a1:=(ht_lx (hz i hi).1 (hz i hi).2)
  have a2:=(ht_lx (hz i hi).2 (hz i hi).1)
  have h' : ht 2 (2 * K) (p i) = ht 2 (2 * K) z := h
  have e1 : ¬ lx (p i) z:=fun hh => by have := a1.2 hh;omega
  have e2 : ¬ lx z (p i):=fun hh => by have := a2.2 hh;omega
  unfold lx at e1 e2
  exact hnv i hi (Prod.ext (by omega) (by omega))
 have dav : ∀ e,e < n → ((gL K M n p).da e (2 * k + 1) = 1 ∧ gh K p e < 2 * k ∧ 2 * k < gh K p (nx n e)) ∨ ((gL K M n p).da e (2 * k + 1) = -1 ∧ gh K p (nx n e) < 2 * k ∧ 2 * k < gh K p e) ∨
   ((gL K M n p).da e (2 * k + 1) = 0 ∧ ((gh K p e < 2 * k ∧ gh K p (nx n e) < 2 * k) ∨ (2 * k < gh K p e ∧ 2 * k < gh K p (nx n e)))):=by
  intro e he
  have n1 := hne e he
  have n2 := hne (nx n e) (nx_lt hb)
  obtain ⟨k1,hk1⟩ := gh_even (K := K) (p := p) e
  obtain ⟨k2,hk2⟩ := gh_even (K := K) (p := p) (nx n e)
  have g0 : (gL K M n p).H e = gh K p e := rfl
  have g1 : (gL K M n p).H (nx n e) = gh K p (nx n e) := rfl
  unfold Lev.da Lev.g
  rw [g0,g1]
  split <;> split <;> omega
 have hx0 := nx_lt (i := e0) hb
 -- z lies between the ends of its edge
 have bt : (gh K p e0 < 2 * k ∧ 2 * k < gh K p (nx n e0)) ∨ (gh K p (nx n e0) < 2 * k ∧ 2 * k < gh K p e0):=by
  have z1 := hz e0 he0
  have z2 := hz _ hx0
  have q1 : ht 2 (2 * K) (p e0) = gh K p e0 := rfl
  have q2 : ht 2 (2 * K) (p (nx n e0)) = gh K p (nx n e0) := rfl
  rw [← hk,← q1,← q2]
  rcases on_lx hon (hnv e0 he0) (hnv _ hx0) with ⟨h1,h2⟩ | ⟨h1,h2⟩
  ·exact .inl ⟨(ht_lx z1.1 z1.2).2 h1,(ht_lx z2.2 z2.1).2 h2⟩
  ·exact .inr ⟨(ht_lx z2.1 z2.2).2 h1,(ht_lx z1.2 z1.1).2 h2⟩
 have hX0 : (gL K M n p).X e0 (2 * k) = M * z.1:=by
  have s := side0 G he0 z
  have h0 := hon.1
  rw [hk,h0] at s
  rcases bt with ⟨h1,h2⟩ | ⟨h1,h2⟩
  ·have := s.1 (by omega);omega
  ·have := s.2 (by omega);omega
 have hr0 : (gL K M n p).rng e0 (2 * k) ∧ (gL K M n p).rng e0 (2 * k + 1):=by
  have g0 : (gL K M n p).H e0 = gh K p e0 := rfl
  have g1 : (gL K M n p).H (nx n e0) = gh K p (nx n e0) := rfl
  unfold Lev.rng
  rw [g0,g1]
  omega
 have each : ∀ i,i < n → vt z (p i) (p (nx n i)) = (2 * ((gL K M n p).rt e0 i (2 * k + 1) * (gL K M n p).da i (2 * k + 1)) - (gL K M n p).da i (2 * k + 1)) + (if i = e0 then (gL K M n p).da e0 (2 * k + 1) else 0):=by
  intro i hi
  have hx := nx_lt (i := i) hb
  have z1 := hz i hi
  have z2 := hz _ hx
  rw [vt_ht z1.1 z1.2 z2.1 z2.2,hk]
  have ea : ht 2 (2 * K) (p i) = gh K p i := rfl
  have eb : ht 2 (2 * K) (p (nx n i)) = gh K p (nx n i) := rfl
  rw [ea,eb]
  by_cases hie : i = e0
  ·subst hie
   rw [(gL K M n p).rt_self,if_pos rfl,hon.1]
   have : sg 0 = 0 := rfl
   rw [this]
   split <;> omega
  ·rw [if_neg hie]
   have dv := dav i hi
   have ord : (gL K M n p).da i (2 * k + 1) ≠ 0 → ((gL K M n p).rt e0 i (2 * k + 1) = 1 ∧ M * z.1 < (gL K M n p).X i (2 * k)) ∨ ((gL K M n p).rt e0 i (2 * k + 1) = 0 ∧ (gL K M n p).X i (2 * k) < M * z.1):=by
    intro hd
    have g0 : (gL K M n p).H i = gh K p i := rfl
    have g1 : (gL K M n p).H (nx n i) = gh K p (nx n i) := rfl
    have ri : (gL K M n p).rng i (2 * k) ∧ (gL K M n p).rng i (2 * k + 1):=by
     unfold Lev.rng
     rw [g0,g1]
     omega
    have n1 := hne i hi
    have n2 := hne e0 he0
    have g2 : (gL K M n p).H e0 = gh K p e0 := rfl
    have sp : (gL K M n p).sep e0 i (2 * k) := ⟨hr0.1,ri.1,fun h => by have := h.2;rw [g0] at this;omega,fun h => by have := h.2;rw [g2] at this;omega⟩
    have sp1 := Lev.sep_odd F (k := k) rfl hr0.2 ri.2
    rcases F.order e0 i _ _ he0 hi (fun h => hie h.symm) sp sp1 with ⟨o1,o2⟩ | ⟨o1,o2⟩
    ·left
     refine ⟨by unfold Lev.rt;rw [if_pos o2],by rw [← hX0];exact o1⟩
    ·right
     refine ⟨by unfold Lev.rt;rw [if_neg (by omega)],by rw [← hX0];exact o1⟩
   have s := side0 G hi z
   rw [hk] at s
   rcases dv with ⟨d1,d2,d3⟩ | ⟨d1,d2,d3⟩ | ⟨d1,d2⟩
   ·have s' := s.1 (by omega)
    rw [d1,if_pos (.inl ⟨d2,d3⟩)]
    rcases ord (by omega) with ⟨o1,o2⟩ | ⟨o1,o2⟩
    ·rw [o1,sg_pos (s'.1.1 o2)];omega
    ·rw [o1,sg_ng (s'.2.1 o2)];omega
   ·have s' := s.2 (by omega)
    rw [d1,if_pos (.inr ⟨d2,d3⟩)]
    rcases ord (by omega) with ⟨o1,o2⟩ | ⟨o1,o2⟩
    ·rw [o1,sg_ng (s'.1.1 o2)];omega
    ·rw [o1,sg_pos (s'.2.1 o2)];omega
   ·rw [d1,if_neg (by omega)];omega
 have hv : vs n p z = 2 * (gL K M n p).r e0 (2 * k + 1) + (gL K M n p).da e0 (2 * k + 1):=by
  unfold vs
  rw [sm_congr each,sm_add,sm_sub,sm_mul,sm_ind he0,(gL K M n p).da_sum]
  unfold Lev.r
  omega
 have h1 := hc e0 he0 k hr0.2
 have hd : (gL K M n p).da e0 (2 * k + 1) ≠ 0:=by
  have := dav e0 he0
  omega
 have h2 := Lev.da_up hd
 omega
theorem voff (S : Simple n p) {e i : Nat} (he : e < n) (hi : i < n) (h1 : i ≠ e) (h2 : i ≠ nx n e) : ¬ On (p (nx n e)) (p i) (p (nx n i)):=by
 have hb := S.big
 by_cases h3 : i = nx n (nx n e)
 ·subst h3
  exact (S.corner (nx n e) (nx_lt hb)).2
 ·by_cases h4 : nx n i = e
  ·have:=(S.corner i hi).1
   rw [h4] at this ⊢
   exact this
  ·intro h
   exact S.apart e i he hi h1 h2 h4 (.inr (.inr (.inr (.inl h))))
theorem vs_corner (G : Grd K M T R n p) (hA : 0 < area n p) (hp : ∀ i j,i < n → j < n → (p i).1 - (p j).1 < K) {e : Nat} (he : e < n) :
  1 - vs n p (p (nx n e)) = 2 * tn 2 (2 * K) (p e) (p (nx n e)) (p (nx n (nx n e))) - ((gL K M n p).up (nx n e) - (gL K M n p).up e):=by
 have S := G.simple
 have F := G.fine
 have hb := F.big
 have hM := G.mp
 have hK := G.kp
 obtain ⟨c,hc⟩:=(gL K M n p).all_round F
 have hc1 := G.round_one hc hA
 obtain ⟨m,hm⟩ : ∃ m,nx n e = m := ⟨_,rfl⟩
 have hml : m < n:=by rw [← hm];exact nx_lt hb
 have hxm : nx n m < n := nx_lt hb
 have hem : e ≠ m:=fun h => nx_ne hb he (by rw [hm,h])
 have hmx : nx n m ≠ m := nx_ne hb hml
 rw [hm]
 obtain ⟨k,hk⟩ := gh_even (K := K) (p := p) m
 have hH : ∀ i,(gL K M n p).H i = gh K p i:=fun i => rfl
 have hV : ∀ i,(gL K M n p).V i = M * (p i).1:=fun i => rfl
 have dist : ∀ i j,i < n → j < n → i ≠ j → gh K p i ≠ gh K p j := G.dist
 have hkm : (gL K M n p).H (nx n e) = 2 * k:=by rw [hH,hm];exact hk
 have each : ∀ i,i < n → vt (p m) (p i) (p (nx n i)) = ((2 * (if i = e ∨ i = nx n e then 0 else (if (gL K M n p).V (nx n e) < (gL K M n p).X i (2 * k) then 1 else 0) * (gL K M n p).da i (2 * k - 1)) - (gL K M n p).da i (2 * k - 1)) + (if i = e then (gL K M n p).da e (2 * k - 1) else 0)) + (if i = m then (gL K M n p).da m (2 * k - 1) else 0):=by
  intro i hi
  have hx := nx_lt (i := i) hb
  rw [vt_ht (hp i m hi hml) (hp m i hml hi) (hp _ m hx hml) (hp m _ hml hx),hm]
  have ea : ∀ j,ht 2 (2 * K) (p j) = gh K p j:=fun j => rfl
  rw [ea,ea,ea,hk]
  by_cases h1 : i = e
  ·subst h1
   rw [hm,hk,if_neg (by omega),if_pos (.inl rfl),if_pos rfl,if_neg hem]
   omega
  ·by_cases h2 : i = m
   ·subst h2
    rw [hk,if_neg (by omega),if_pos (.inr rfl),if_neg h1,if_pos rfl]
    omega
   ·rw [if_neg (show ¬ (i = e ∨ i = m) by omega),if_neg h1,if_neg h2,hV]
    have n1 := dist i m hi hml h2
    have n2 := dist (nx n i) m hx hml (fun h => h1 (nx_inj hi he (h.trans hm.symm)))
    obtain ⟨k1,hk1⟩ := gh_even (K := K) (p := p) i
    obtain ⟨k2,hk2⟩ := gh_even (K := K) (p := p) (nx n i)
    have off := voff S he hi h1 (by rw [hm];exact h2)
    rw [hm] at off
    have s := side0 G hi (p m)
    rw [ea,hk] at s
    have dv : ((gL K M n p).da i (2 * k - 1) = 1 ∧ gh K p i < 2 * k ∧ 2 * k < gh K p (nx n i)) ∨ ((gL K M n p).da i (2 * k - 1) = -1 ∧ gh K p (nx n i) < 2 * k ∧ 2 * k < gh K p i) ∨
      ((gL K M n p).da i (2 * k - 1) = 0 ∧ ((gh K p i < 2 * k ∧ gh K p (nx n i) < 2 * k) ∨ (2 * k < gh K p i ∧ 2 * k < gh K p (nx n i)))):=by
     unfold Lev.da Lev.g
     rw [hH,hH]
     split <;> split <;> omega
    rcases dv with ⟨d1,d2,d3⟩ | ⟨d1,d2,d3⟩ | ⟨d1,d2⟩
    ·have s' := s.1 (by omega)
     have cn : cross (p i) (p (nx n i)) (p m) ≠ 0:=fun h0 => off (on_of (α := 2) (β := 2 * K) h0 (by rw [ea,ea];omega) (by rw [ea,ea];omega) (by rw [ea,ea];omega))
     rw [d1,if_pos (.inl ⟨d2,d3⟩)]
     by_cases hpz : 0 < cross (p i) (p (nx n i)) (p m)
     ·rw [sg_pos hpz,if_pos (s'.1.2 hpz)];omega
     ·rw [sg_ng (by omega),if_neg (fun h => hpz (s'.1.1 h))];omega
    ·have s' := s.2 (by omega)
     have cn : cross (p i) (p (nx n i)) (p m) ≠ 0:=fun h0 => by
      have o : On (p m) (p (nx n i)) (p i) := on_of (α := 2) (β := 2 * K) (by rw [cross_swap];omega) (by rw [ea,ea];omega) (by rw [ea,ea];omega) (by rw [ea,ea];omega)
      exact off ⟨h0,by have := o.2.1;unfold btw at this ⊢;omega,by have := o.2.2;unfold btw at this ⊢;omega⟩
     rw [d1,if_pos (.inr ⟨d2,d3⟩)]
     by_cases hpz : 0 < cross (p i) (p (nx n i)) (p m)
     ·rw [sg_pos hpz,if_neg (fun h => by have := s'.1.1 h;omega)];omega
     ·rw [sg_ng (by omega),if_pos (s'.1.2 (by omega))];omega
    ·rw [d1,if_neg (by omega)];omega
 have hv : vs n p (p m) = 2 * (gL K M n p).base e k + (gL K M n p).da e (2 * k - 1) + (gL K M n p).da m (2 * k - 1):=by
  unfold vs
  rw [sm_congr each,sm_add,sm_add,sm_sub,sm_mul,sm_ind he,sm_ind hml,(gL K M n p).da_sum]
  unfold Lev.base
  omega
 -- the round number on both sides
 have rd : ∀ s,(s = 2 * k - 1 ∨ s = 2 * k + 1) → (gL K M n p).rng e s → (gL K M n p).base e k + (gL K M n p).rt e m s * (gL K M n p).da m s + (gL K M n p).up e = 1:=by
  intro s hs hr
  have h1 := Lev.r1 F he hkm hs hr
  rw [hm] at h1
  rcases hs with hs | hs
  ·have h2 := hc e he (k - 1) (by rw [show 2 * (k - 1) + 1 = s by omega];exact hr)
   rw [show 2 * (k - 1) + 1 = s by omega] at h2
   omega
  ·have h2 := hc e he k (by rw [← hs];exact hr)
   rw [← hs] at h2
   omega
 obtain ⟨ke,hke⟩ := gh_even (K := K) (p := p) e
 obtain ⟨kx,hkx⟩ := gh_even (K := K) (p := p) (nx n m)
 have ne := dist e m he hml hem
 have nxm := dist (nx n m) m hxm hml hmx
 -- the lines of both edges
 obtain ⟨c1,s1,a1⟩ := F.aff e he
 obtain ⟨c2,s2,a2⟩ := F.aff m hml
 have st1 := F.stop e he
 have st2 := F.start m hml
 have st3 := F.stop m hml
 rw [hm,hH,hV,hk,a1] at st1
 rw [hH,hV,hk,a2] at st2
 rw [hH,hV,a2] at st3
 have sd := side0 G he (p (nx n m))
 have ex : ht 2 (2 * K) (p (nx n m)) = gh K p (nx n m) := rfl
 rw [ex,hm,a1,← st3] at sd
 have cn : ((gh K p e < 2 * k ∧ gh K p (nx n m) < 2 * k) ∨ (2 * k < gh K p e ∧ 2 * k < gh K p (nx n m))) → cross (p e) (p m) (p (nx n m)) ≠ 0:=by
  intro h h0
  have cr := S.corner e he
  rw [hm] at cr
  have ea : ∀ j,ht 2 (2 * K) (p j) = gh K p j:=fun j => rfl
  have sym : ∀ a b q : Pt,On q a b → On q b a:=fun a b q o => ⟨by rw [cross_swap,o.1];rfl,by have := o.2.1;unfold btw at this ⊢;omega,by have := o.2.2;unfold btw at this ⊢;omega⟩
  have x1 : cross (p m) (p e) (p (nx n m)) = 0:=by rw [cross_swap,h0];rfl
  have x2 : cross (p m) (p (nx n m)) (p e) = 0:=by rw [cross_rot,h0]
  have x3 : cross (p (nx n m)) (p m) (p e) = 0:=by rw [cross_swap,x2];rfl
  rcases h with ⟨h1,h2⟩ | ⟨h1,h2⟩
  ·rcases Int.lt_or_le (gh K p e) (gh K p (nx n m)) with h3 | h3
   ·exact cr.1 (on_of (α := 2) (β := 2 * K) h0 (by rw [ea,ea];omega) (by rw [ea,ea];omega) (by rw [ea,ea];omega))
   ·exact cr.2 (sym _ _ _ (on_of (α := 2) (β := 2 * K) x3 (by rw [ea,ea];omega) (by rw [ea,ea];omega) (by rw [ea,ea];omega)))
  ·rcases Int.lt_or_le (gh K p e) (gh K p (nx n m)) with h3 | h3
   ·exact cr.2 (on_of (α := 2) (β := 2 * K) x2 (by rw [ea,ea];omega) (by rw [ea,ea];omega) (by rw [ea,ea];omega))
   ·exact cr.1 (sym _ _ _ (on_of (α := 2) (β := 2 * K) x1 (by rw [ea,ea];omega) (by rw [ea,ea];omega) (by rw [ea,ea];omega)))
 have tnv : tn 2 (2 * K) (p e) (p m) (p (nx n m)) = (if 2 * k < gh K p e ∧ 2 * k < gh K p (nx n m) ∧ 0 < cross (p e) (p m) (p (nx n m)) then 1 else 0) - (if gh K p e < 2 * k ∧ gh K p (nx n m) < 2 * k ∧ cross (p e) (p m) (p (nx n m)) < 0 then 1 else 0):=by
  have ea : ∀ j,ht 2 (2 * K) (p j) = gh K p j:=fun j => rfl
  unfold tn
  rw [ea,ea,ea,hk]
 rw [hv,tnv]
 have dae : (gL K M n p).da e (2 * k - 1) = if gh K p e < 2 * k then 1 else 0:=by
  unfold Lev.da Lev.g
  rw [hm,hH,hH,hk]
  split <;> split <;> split <;> omega
 have dam : (gL K M n p).da m (2 * k - 1) = if gh K p (nx n m) < 2 * k then -1 else 0:=by
  unfold Lev.da Lev.g
  rw [hH,hH,hk]
  split <;> split <;> split <;> omega
 have dam1 : (gL K M n p).da m (2 * k + 1) = if 2 * k < gh K p (nx n m) then 1 else 0:=by
  unfold Lev.da Lev.g
  rw [hH,hH,hk]
  split <;> split <;> split <;> omega
 have upe : (gL K M n p).up e = if gh K p e < 2 * k then 1 else 0:=by
  unfold Lev.up
  rw [hm,hH,hH,hk]
 have upm : (gL K M n p).up m = if 2 * k < gh K p (nx n m) then 1 else 0:=by
  unfold Lev.up
  rw [hH,hH,hk]
 rcases Int.lt_or_lt_of_ne ne with he1 | he1
 ·
  have r := rd (2 * k - 1) (.inl rfl) (by unfold Lev.rng;rw [hm,hH,hH,hk];omega)
  rw [dam,upe,if_pos (show gh K p e < 2 * k by omega)] at r
  rw [dae,dam,upe,upm,if_pos (show gh K p e < 2 * k by omega),if_neg (show ¬ (2 * k < gh K p e ∧ 2 * k < gh K p (nx n m) ∧ 0 < cross (p e) (p m) (p (nx n m))) by omega)]
  rcases Int.lt_or_lt_of_ne nxm with hx1 | hx1
  ·
   rw [if_pos (show gh K p (nx n m) < 2 * k by omega)] at r ⊢
   rw [if_neg (show ¬ 2 * k < gh K p (nx n m) by omega)]
   have c0 := cn (.inl ⟨by omega,by omega⟩)
   have s := sd.1 (by omega)
   have hrt : (gL K M n p).rt e m (2 * k - 1) = if cross (p e) (p m) (p (nx n m)) < 0 then 1 else 0:=by
    unfold Lev.rt
    rw [a1,a2]
    rcases Int.lt_or_lt_of_ne c0 with h | h
    ·have s' := s.2.2 h
     rw [if_pos h,if_pos]
     -- slopes
     have q : 0 < (2 * k - gh K p (nx n m)) * (s1 - s2):=by grind
     have := pos_ofm (show 0 < 2 * k - gh K p (nx n m) by omega) q
     grind
    ·have s' := s.1.2 h
     rw [if_neg (show ¬ cross (p e) (p m) (p (nx n m)) < 0 by omega),if_neg]
     have q : 0 < (2 * k - gh K p (nx n m)) * (s2 - s1):=by grind
     have := pos_ofm (show 0 < 2 * k - gh K p (nx n m) by omega) q
     grind
   rw [hrt] at r
   by_cases hneg : cross (p e) (p m) (p (nx n m)) < 0
   ·rw [if_pos hneg] at r
    rw [if_pos ⟨by omega,by omega,hneg⟩]
    omega
   ·rw [if_neg hneg] at r
    rw [if_neg (fun h => hneg h.2.2)]
    omega
  ·rw [if_neg (show ¬ gh K p (nx n m) < 2 * k by omega)] at r ⊢
   rw [if_pos (show 2 * k < gh K p (nx n m) by omega),if_neg (show ¬ (gh K p e < 2 * k ∧ gh K p (nx n m) < 2 * k ∧ cross (p e) (p m) (p (nx n m)) < 0) by omega)]
   omega
 ·have r := rd (2 * k + 1) (.inr rfl) (by unfold Lev.rng;rw [hm,hH,hH,hk];omega)
  rw [dam1,upe,if_neg (show ¬ gh K p e < 2 * k by omega)] at r
  rw [dae,dam,upe,upm,if_neg (show ¬ gh K p e < 2 * k by omega),if_neg (show ¬ (gh K p e < 2 * k ∧ gh K p (nx n m) < 2 * k ∧ cross (p e) (p m) (p (nx n m)) < 0) by omega)]
  rcases Int.lt_or_lt_of_ne nxm with hx1 | hx1
  ·rw [if_neg (show ¬ 2 * k < gh K p (nx n m) by omega)] at r ⊢
   rw [if_pos (show gh K p (nx n m) < 2 * k by omega),if_neg (show ¬ (2 * k < gh K p e ∧ 2 * k < gh K p (nx n m) ∧ 0 < cross (p e) (p m) (p (nx n m))) by omega)]
   omega
  ·rw [if_pos (show 2 * k < gh K p (nx n m) by omega)] at r ⊢
   rw [if_neg (show ¬ gh K p (nx n m) < 2 * k by omega)]
   have c0 := cn (.inr ⟨by omega,by omega⟩)
   have s := sd.2 (by omega)
   have hrt : (gL K M n p).rt e m (2 * k + 1) = if 0 < cross (p e) (p m) (p (nx n m)) then 1 else 0:=by
    unfold Lev.rt
    rw [a1,a2]
    rcases Int.lt_or_lt_of_ne c0 with h | h
    ·have s' := s.1.2 h
     rw [if_neg (show ¬ 0 < cross (p e) (p m) (p (nx n m)) by omega),if_neg]
     have q : 0 < (gh K p (nx n m) - 2 * k) * (s1 - s2):=by grind
     have := pos_ofm (show 0 < gh K p (nx n m) - 2 * k by omega) q
     grind
    ·have s' := s.2.2 h
     rw [if_pos h,if_pos]
     have q : 0 < (gh K p (nx n m) - 2 * k) * (s2 - s1):=by grind
     have := pos_ofm (show 0 < gh K p (nx n m) - 2 * k by omega) q
     grind
   rw [hrt] at r
   by_cases hpos : 0 < cross (p e) (p m) (p (nx n m))
   ·rw [if_pos hpos] at r
    rw [if_pos ⟨by omega,by omega,hpos⟩]
    omega
   ·rw [if_neg hpos] at r
    rw [if_neg (fun h => hpos h.2.2)]
    omega
theorem corners_two (G : Grd K M T R n p) (hA : 0 < area n p) (hp : ∀ i j,i < n → j < n → (p i).1 - (p j).1 < K) : sm n (fun m => 1 - vs n p (p m)) = 2:=by
 have t:=(turns_once G).1 hA
 have h1 := sm_next n (fun m => 1 - vs n p (p m))
 have h2 : sm n (fun i => (fun m => 1 - vs n p (p m)) ((i + 1) % n)) = sm n (fun e => 2 * tn 2 (2 * K) (p e) (p (nx n e)) (p (nx n (nx n e))) - ((gL K M n p).up (nx n e) - (gL K M n p).up e)) := sm_congr fun e he => vs_corner G hA hp he
 have h3 : sm n (fun e => (gL K M n p).up (nx n e) - (gL K M n p).up e) = 0 := sm_cycle n (gL K M n p).up
 rw [h2,sm_sub,sm_mul,t,h3] at h1
 omega
end
end Geo
/-
 Pick's theorem.
-/
set_option linter.all false
namespace Geo
theorem spot_one {L Y : Int} {N NY : Nat} {q : Pt} (h1 : L ≤ q.1) (h2 : q.1 ≤ L + N - 1) (h3 : Y ≤ q.2) (h4 : q.2 ≤ Y + NY - 1) (c : Int) : sm N (fun i => sm NY (fun j => if ((L + (i : Int),Y + (j : Int)) : Pt) = q then c else 0)) = c:=by
 obtain ⟨i0,hi0⟩ : ∃ i0 : Nat,q.1 = L + i0 := ⟨(q.1 - L).toNat,by omega⟩
 obtain ⟨j0,hj0⟩ : ∃ j0 : Nat,q.2 = Y + j0 := ⟨(q.2 - Y).toNat,by omega⟩
 have e : sm N (fun i => sm NY (fun j => if ((L + (i : Int),Y + (j : Int)) : Pt) = q then c else 0)) = sm N (fun i => if i = i0 then c else 0):=by
  refine sm_congr fun i hi => ?_
  by_cases h : i = i0
  ·rw [if_pos h]
   refine Eq.trans (sm_congr fun j hj => ?_) (sm_ind (n := NY) (k := j0) (by omega) c)
   by_cases hh : j = j0
   ·have eq : ((L + (i : Int),Y + (j : Int)) : Pt) = q:=by
     apply Prod.ext
     ·show L + (i : Int) = q.1
      omega
     ·show Y + (j : Int) = q.2
      omega
    rw [if_pos hh,if_pos eq]
   ·rw [if_neg hh,if_neg]
    intro k
    have := congrArg Prod.snd k
    dsimp only at this
    omega
  ·rw [if_neg h,sm_congr (g:=fun _ => 0) (fun j hj => ?_),sm_zero]
   rw [if_neg]
   intro k
   have := congrArg Prod.fst k
   dsimp only at this
   omega
 rw [e,sm_ind (by omega)]
theorem pick {n : Nat} {p : Nat → Pt} (S : Simple n p) (hA : 0 < area n p) {L Y : Int} {N NY : Nat} (hx : ∀ i,i < n → L ≤ (p i).1 ∧ (p i).1 ≤ L + N - 1) (hy : ∀ i,i < n → Y ≤ (p i).2 ∧ (p i).2 ≤ Y + NY - 1) (wh : Pt → Int)
  (hwh : ∀ i,i < N → ∀ j,j < NY → (OnK n p (L + (i : Int),Y + (j : Int)) → wh (L + i,Y + j) = 1) ∧ (¬ OnK n p (L + (i : Int),Y + (j : Int)) → wh (L + i,Y + j) = if par n p (L + i,Y + j) = true then 2 else 0)) : sm N (fun i => sm NY (fun j => wh (L + i,Y + j))) = area n p + 2:=by
 have hb := S.big
 obtain ⟨K,M,T,R,hK,G⟩ := exists_grid1 S (N : Int)
 have hp : ∀ i j,i < n → j < n → (p i).1 - (p j).1 < K:=fun i j hi hj => by
  have := hx i hi
  have := hx j hj
  omega
 have each : ∀ i,i < N → ∀ j,j < NY → wh (L + i,Y + j) = vs n p (L + i,Y + j) + sm n (fun m => if ((L + (i : Int),Y + (j : Int)) : Pt) = p m then 1 - vs n p (p m) else 0):=by
  intro i hi j hj
  have hz : ∀ r,r < n → (p r).1 - ((L + (i : Int),Y + (j : Int)) : Pt).1 < K ∧ ((L + (i : Int),Y + (j : Int)) : Pt).1 - (p r).1 < K:=fun r hr => by
   have := hx r hr
   dsimp only
   omega
  by_cases hv : ∃ m,m < n ∧ ((L + (i : Int),Y + (j : Int)) : Pt) = p m
  ·obtain ⟨m,hm,e⟩ := hv
   have hon : OnK n p (L + i,Y + j) := ⟨m,hm,by
    rw [e]
    exact ⟨by unfold cross;grind,by unfold btw;omega,by unfold btw;omega⟩⟩
   rw [(hwh i hi j hj).1 hon,sm_one hm (fun r hr hne => by rw [if_neg];intro k;exact S.dist r m hr hm hne (k.symm.trans e)),if_pos e,← e]
   omega
  ·have hnv : ∀ r,r < n → ((L + (i : Int),Y + (j : Int)) : Pt) ≠ p r:=fun r hr k => hv ⟨r,hr,k⟩
   rw [sm_congr (g:=fun _ => 0) (fun r hr => by rw [if_neg (hnv r hr)]),sm_zero,Int.add_zero]
   by_cases hon : OnK n p (L + i,Y + j)
   ·rw [(hwh i hi j hj).1 hon]
    obtain ⟨e0,he0,h0⟩ := hon
    exact (vs_on G hA hz he0 h0 hnv).symm
   ·rw [(hwh i hi j hj).2 hon,vs_off G hA hz hp hon]
 have e1 : sm N (fun i => sm NY (fun j => wh (L + i,Y + j))) = sm N (fun i => sm NY (fun j => vs n p (L + i,Y + j)) + sm NY (fun j => sm n (fun m => if ((L + (i : Int),Y + (j : Int)) : Pt) = p m then 1 - vs n p (p m) else 0))):=by
  refine sm_congr fun i hi => ?_
  rw [← sm_add]
  exact sm_congr fun j hj => each i hi j hj
 have e2 : sm N (fun i => sm NY (fun j => vs n p (L + i,Y + j))) = area n p:=by
  rw [sm_swap N NY (fun i j => vs n p (L + i,Y + j))]
  exact sides_sum (by omega) hx hy
 have e3 : sm N (fun i => sm NY (fun j => sm n (fun m => if ((L + (i : Int),Y + (j : Int)) : Pt) = p m then 1 - vs n p (p m) else 0))) = 2:=by
  have q1 : sm N (fun i => sm NY (fun j => sm n (fun m => if ((L + (i : Int),Y + (j : Int)) : Pt) = p m then 1 - vs n p (p m) else 0))) = sm n (fun m => sm N (fun i => sm NY (fun j => if ((L + (i : Int),Y + (j : Int)) : Pt) = p m then 1 - vs n p (p m) else 0))):=by
   rw [sm_swap n N]
   refine sm_congr fun i _ => ?_
   rw [sm_swap n NY]
  rw [q1,sm_congr fun m hm => spot_one (hx m hm).1 (hx m hm).2 (hy m hm).1 (hy m hm).2 _]
  exact corners_two G hA hp
 rw [e1,sm_add,e2,e3]
end Geo
/-
 Polygons that have all corners on the left of each edge.
-/
set_option linter.all false
namespace Geo
theorem sqn (z : Int) : 0 ≤ z * z ∧ (z ≠ 0 → 0 < z * z):=by
 rcases Int.lt_or_le z 0 with h | h
 ·have := Int.mul_pos (show 0 < -z by omega) (show 0 < -z by omega)
  have e : -z * -z = z * z:=by grind
  exact ⟨by omega,fun _ => by omega⟩
 ·exact ⟨Int.mul_nonneg h h,fun hz => Int.mul_pos (by omega) (by omega)⟩
theorem mid_bad {a b c w : Pt} (ho : On c a b) (hca : c ≠ a) (hcb : c ≠ b) (h1 : LeftOn c w a) (h2 : LeftOn c w b) : False:=by
 have hd:=(on_dot c a b).1 ho
 have u0 : ¬ (a.1 - c.1 = 0 ∧ a.2 - c.2 = 0):=fun h => hca (Prod.ext (by omega) (by omega))
 have v0 : ¬ (b.1 - c.1 = 0 ∧ b.2 - c.2 = 0):=fun h => hcb (Prod.ext (by omega) (by omega))
 have par : (a.1 - c.1) * (b.2 - c.2) - (a.2 - c.2) * (b.1 - c.1) = 0:=by have := hd.1;unfold cross at this;grind
 have dot : (a.1 - c.1) * (b.1 - c.1) + (a.2 - c.2) * (b.2 - c.2) ≤ 0:=by
  have := hd.2
  have e : (c.1 - a.1) * (c.1 - b.1) + (c.2 - a.2) * (c.2 - b.2) = (a.1 - c.1) * (b.1 - c.1) + (a.2 - c.2) * (b.2 - c.2):=by grind
  omega
 have uu : 0 < (a.1 - c.1) * (a.1 - c.1) + (a.2 - c.2) * (a.2 - c.2):=by
  have k1 := sqn (a.1 - c.1)
  have k2 := sqn (a.2 - c.2)
  by_cases h : a.1 - c.1 = 0
  ·have := k2.2 (fun h' => u0 ⟨h,h'⟩);omega
  ·have := k1.2 h;omega
 have vv : 0 < (b.1 - c.1) * (b.1 - c.1) + (b.2 - c.2) * (b.2 - c.2):=by
  have k1 := sqn (b.1 - c.1)
  have k2 := sqn (b.2 - c.2)
  by_cases h : b.1 - c.1 = 0
  ·have := k2.2 (fun h' => v0 ⟨h,h'⟩);omega
  ·have := k1.2 h;omega
 have dn : (a.1 - c.1) * (b.1 - c.1) + (a.2 - c.2) * (b.2 - c.2) < 0:=by
  rcases Int.lt_or_le ((a.1 - c.1) * (b.1 - c.1) + (a.2 - c.2) * (b.2 - c.2)) 0 with h | h
  ·exact h
  ·exfalso
   have z : (a.1 - c.1) * (b.1 - c.1) + (a.2 - c.2) * (b.2 - c.2) = 0:=by omega
   have lag : ((a.1 - c.1) * (a.1 - c.1) + (a.2 - c.2) * (a.2 - c.2)) * ((b.1 - c.1) * (b.1 - c.1) + (b.2 - c.2) * (b.2 - c.2)) = ((a.1 - c.1) * (b.1 - c.1) + (a.2 - c.2) * (b.2 - c.2)) * ((a.1 - c.1) * (b.1 - c.1) + (a.2 - c.2) * (b.2 - c.2)) + ((a.1 - c.1) * (b.2 - c.2) - (a.2 - c.2) * (b.1 - c.1)) * ((a.1 - c.1) * (b.2 - c.2) - (a.2 - c.2) * (b.1 - c.1)):=by grind
   rw [z,par] at lag
   have := Int.mul_pos uu vv
   omega
 have key : cross c w b * ((a.1 - c.1) * (a.1 - c.1) + (a.2 - c.2) * (a.2 - c.2)) = cross c w a * ((a.1 - c.1) * (b.1 - c.1) + (a.2 - c.2) * (b.2 - c.2)):=by
  unfold cross
  grind
 have n1 := h1.nonneg
 have n2 := h2.nonneg
 have k1 := Int.mul_nonneg n2 (show 0 ≤ (a.1 - c.1) * (a.1 - c.1) + (a.2 - c.2) * (a.2 - c.2) by omega)
 have z1 : cross c w a = 0:=by
  rcases Int.lt_or_le 0 (cross c w a) with h | h
  ·have := Int.mul_pos h (show 0 < -((a.1 - c.1) * (b.1 - c.1) + (a.2 - c.2) * (b.2 - c.2)) by omega)
   rw [Int.mul_neg] at this
   omega
  ·omega
 rw [z1,Int.zero_mul] at key
 have z2 : cross c w b = 0:=by
  rcases Int.mul_eq_zero.1 key with h | h <;> omega
 have o1 : On a c w:=by
  rcases h1 with h | h
  ·omega
  ·exact h
 have o2 : On b c w:=by
  rcases h2 with h | h
  ·omega
  ·exact h
 obtain ⟨_,x1,y1⟩ := o1
 obtain ⟨_,x2,y2⟩ := o2
 have px : 0 ≤ (a.1 - c.1) * (b.1 - c.1):=by
  unfold btw at x1 x2
  rcases Int.lt_or_le w.1 c.1 with h | h
  ·have := Int.mul_nonneg (show 0 ≤ c.1 - a.1 by omega) (show 0 ≤ c.1 - b.1 by omega)
   have e : (c.1 - a.1) * (c.1 - b.1) = (a.1 - c.1) * (b.1 - c.1):=by grind
   omega
  ·exact Int.mul_nonneg (by omega) (by omega)
 have py : 0 ≤ (a.2 - c.2) * (b.2 - c.2):=by
  unfold btw at y1 y2
  rcases Int.lt_or_le w.2 c.2 with h | h
  ·have := Int.mul_nonneg (show 0 ≤ c.2 - a.2 by omega) (show 0 ≤ c.2 - b.2 by omega)
   have e : (c.2 - a.2) * (c.2 - b.2) = (a.2 - c.2) * (b.2 - c.2):=by grind
   omega
  ·exact Int.mul_nonneg (by omega) (by omega)
 omega
section
variable {n m : Nat} {p h : Nat → Pt}
theorem Hul.ne (H : Hul n p m h) {i j : Nat} (hi : i < m) (hj : j < m) (hne : i ≠ j) : h i ≠ h j:=by
 rcases Nat.lt_or_ge i j with k | k
 ·exact H.inj k hj
 ·exact fun e => H.inj (show j < i by omega) hi e.symm
theorem Hul.strict (H : Hul n p m h) (hm : 3 ≤ m) {i j : Nat} (hi : i < m) (hj : j < m) (h1 : j ≠ i) (h2 : j ≠ nx m i) : 0 < cross (h i) (h (nx m i)) (h j):=by
 have hx : nx m i < m := nx_lt hm
 obtain ⟨r,hr,er⟩ := H.mem j hj
 have ed := H.edge (by omega) i hi r hr
 rw [← er] at ed
 rcases ed with k | k
 ·exact k
 ·exfalso
  obtain ⟨ra,hra,ea⟩ := H.mem i hi
  obtain ⟨rb,hrb,eb⟩ := H.mem _ hx
  have e1 := H.edge (by omega) j hj ra hra
  have e2 := H.edge (by omega) j hj rb hrb
  rw [← ea] at e1
  rw [← eb] at e2
  exact mid_bad k (H.ne hj hi h1) (H.ne hj hx h2) e1 e2
theorem Hul.simple (H : Hul n p m h) (hm : 3 ≤ m) : Simple m h:=by
 have nxx : ∀ e,e < m → nx m (nx m e) ≠ e:=by
  intro e he k
  unfold nx at k
  rw [Nat.mod_add_mod] at k
  rcases Nat.lt_or_ge (e + 1 + 1) m with h1 | h1
  ·rw [Nat.mod_eq_of_lt h1] at k;omega
  ·rw [Nat.mod_eq_sub_mod h1,Nat.mod_eq_of_lt (by omega)] at k;omega
 refine ⟨hm,fun i j hi hj hne => H.ne hi hj hne,fun e he => ⟨fun o => ?_,fun o => ?_⟩,fun e i he hi h1 h2 h3 hmt => ?_⟩
 ·have := H.strict hm he (nx_lt hm : nx m (nx m e) < m) (nxx e he) (nx_ne hm (nx_lt hm))
  have := o.1;omega
 ·have := H.strict hm (nx_lt hm : nx m e < m) he (nx_ne hm he).symm (nxx e he).symm
  have := o.1;omega
 ·have s1 := H.strict hm he hi h1 h2
  have s2 := H.strict hm he (nx_lt hm : nx m i < m) h3 (fun k => h1 (nx_inj hi he k))
  have s3 := H.strict hm hi he h1.symm h3.symm
  have s4 := H.strict hm hi (nx_lt hm : nx m e < m) h2.symm (fun k => h1 (nx_inj he hi k).symm)
  rcases hmt with o | o | o | o | ⟨o,_⟩
  ·have := o.1;omega
  ·have := o.1;omega
  ·have := o.1;omega
  ·have := o.1;omega
  ·unfold opp at o;omega
theorem Hul.area_pos (H : Hul n p m h) (hm : 3 ≤ m) : 0 < area m h:=by
 rw [area_fan m h (h 0)]
 have rot : ∀ i,cross (h 0) (h i) (h (nx m i)) = cross (h i) (h (nx m i)) (h 0):=fun i => by unfold cross;grind
 refine sm_pos (k := 1) (fun i hi => ?_) (by omega) ?_
 ·rw [rot]
  by_cases h1 : (0 : Nat) = i
  ·rw [← h1]
   have : cross (h 0) (h (nx m 0)) (h 0) = 0:=by unfold cross;grind
   omega
  ·by_cases h2 : 0 = nx m i
   ·rw [← h2]
    have : cross (h i) (h 0) (h 0) = 0:=by unfold cross;grind
    omega
   ·exact Int.le_of_lt (H.strict hm hi (by omega) h1 h2)
 ·rw [rot]
  refine H.strict hm (by omega) (by omega) (by omega) ?_
  unfold nx
  rcases Nat.lt_or_ge 2 m with k | k
  ·rw [Nat.mod_eq_of_lt (by omega)];omega
  ·omega
theorem no_round (n : Nat) (h0 : 0 < n) (x y : Nat → Int) (hv : ∀ i,i < n → 0 < y i ∨ (y i = 0 ∧ 0 < x i)) (ht : ∀ i,i < n → 0 < x i * y (nx n i) - y i * x (nx n i)) : False:=by
 have key : ∀ k,k + 1 < n → 0 < x 0 * y (k + 1) - y 0 * x (k + 1):=by
  intro k
  induction k with
  | zero =>
   intro hk
   have := ht 0 (by omega)
   rw [show nx n 0 = 0 + 1 from Nat.mod_eq_of_lt hk] at this
   exact this
  | succ k ih =>
   intro hk
   have i1 := ih (by omega)
   have i2 := ht (k + 1) (by omega)
   rw [show nx n (k + 1) = k + 1 + 1 from Nat.mod_eq_of_lt hk] at i2
   -- reflected,so that the order turns
   have:=(turn_trans (a1 := y (k + 1 + 1)) (a2 := x (k + 1 + 1)) (b1 := y (k + 1)) (b2 := x (k + 1)) (c1 := y 0) (c2 := x 0) (hv _ hk) (hv _ (by omega)) (hv _ h0) (by
    have e : y (k + 1 + 1) * x (k + 1) - x (k + 1 + 1) * y (k + 1) = x (k + 1) * y (k + 1 + 1) - y (k + 1) * x (k + 1 + 1):=by grind
    omega) (by
    have e : y (k + 1) * x 0 - x (k + 1) * y 0 = x 0 * y (k + 1) - y 0 * x (k + 1):=by grind
    omega)).2 (.inl (by
    have e : y (k + 1 + 1) * x (k + 1) - x (k + 1 + 1) * y (k + 1) = x (k + 1) * y (k + 1 + 1) - y (k + 1) * x (k + 1 + 1):=by grind
    omega))
   have e : y (k + 1 + 1) * x 0 - x (k + 1 + 1) * y 0 = x 0 * y (k + 1 + 1) - y 0 * x (k + 1 + 1):=by grind
   omega
 have last := ht (n - 1) (by omega)
 rw [show nx n (n - 1) = 0 by unfold nx;rw [show n - 1 + 1 = n by omega,Nat.mod_self]] at last
 rcases Nat.lt_or_ge 1 n with h1 | h1
 ·have := key (n - 2) (by omega)
  rw [show n - 2 + 1 = n - 1 by omega] at this
  have e : x (n - 1) * y 0 - y (n - 1) * x 0 = - (x 0 * y (n - 1) - y 0 * x (n - 1)):=by grind
  omega
 ·have : n = 1:=by omega
  subst this
  have e : x (1 - 1) * y 0 - y (1 - 1) * x 0 = 0:=by
   show x 0 * y 0 - y 0 * x 0 = 0
   grind
  omega
theorem in_all (S : Simple n p) (hA : 0 < area n p) {z : Pt} (hl : ∀ i,i < n → 0 < cross (p i) (p (nx n i)) z) : ¬ OnK n p z ∧ par n p z = true:=by
 have hb := S.big
 have hoff : ¬ OnK n p z:=fun ⟨i,hi,o⟩ => by have := hl i hi;have := o.1;omega
 refine ⟨hoff,?_⟩
 obtain ⟨B,hB⟩ := bounded n p
 obtain ⟨K,M,T,R,hK,G⟩ := exists_grid1 S (2 * (B : Int) + (z.1.natAbs : Int) + 1)
 have hz : ∀ i,i < n → (p i).1 - z.1 < K ∧ z.1 - (p i).1 < K:=fun i hi => by have := hB i hi;omega
 have hp : ∀ i j,i < n → j < n → (p i).1 - (p j).1 < K:=fun i j hi hj => by have := hB i hi;have := hB j hj;omega
 have v := vs_off G hA hz hp hoff
 cases hq : par n p z with
 | true => rfl
 | false =>
  exfalso
  rw [hq,if_neg (by simp)] at v
  have none : ∀ i,i < n → ¬ ((lx (p i) z ∧ lx z (p (nx n i))) ∨ (lx (p (nx n i)) z ∧ lx z (p i))):=by
   intro i hi hh
   have : 0 < vs n p z:=by
    unfold vs
    refine sm_pos (k := i) (fun j hj => ?_) hi ?_
    ·unfold vt
     rw [sg_pos (hl j hj)]
     split <;> omega
    ·unfold vt
     rw [if_pos hh,sg_pos (hl i hi)]
     omega
   omega
  have cls : ∀ i,i < n → lx (p i) z ∨ lx z (p i):=by
   intro i hi
   have hne : p i ≠ z:=fun e => hoff ⟨i,hi,by rw [e];exact ⟨by unfold cross;grind,by unfold btw;omega,by unfold btw;omega⟩⟩
   have : ¬ ((p i).1 = z.1 ∧ (p i).2 = z.2):=fun k => hne (Prod.ext k.1 k.2)
   unfold lx
   omega
  have rot : ∀ i,cross (p i) (p (nx n i)) z = ((p i).1 - z.1) * ((p (nx n i)).2 - z.2) - ((p i).2 - z.2) * ((p (nx n i)).1 - z.1):=fun i => by unfold cross;grind
  rcases cls 0 (by omega) with h0 | h0
  ·have all : ∀ i,i < n → lx (p i) z:=by
    intro i
    induction i with
    | zero => intro _;exact h0
    | succ i ih =>
     intro hi
     have h1 := ih (by omega)
     have h2 := none i (by omega)
     rw [show nx n i = i + 1 from Nat.mod_eq_of_lt hi] at h2
     rcases cls (i + 1) hi with k | k
     ·exact k
     ·exact absurd (.inl ⟨h1,k⟩) h2
   refine no_round n (by omega) (fun i => z.1 - (p i).1) (fun i => z.2 - (p i).2) (fun i hi => ?_) (fun i hi => ?_)
   ·have := all i hi
    unfold lx at this
    omega
   ·have := hl i hi
    rw [rot] at this
    have e : (z.1 - (p i).1) * (z.2 - (p (nx n i)).2) - (z.2 - (p i).2) * (z.1 - (p (nx n i)).1) = ((p i).1 - z.1) * ((p (nx n i)).2 - z.2) - ((p i).2 - z.2) * ((p (nx n i)).1 - z.1):=by grind
    omega
  ·have all : ∀ i,i < n → lx z (p i):=by
    intro i
    induction i with
    | zero => intro _;exact h0
    | succ i ih =>
     intro hi
     have h1 := ih (by omega)
     have h2 := none i (by omega)
     rw [show nx n i = i + 1 from Nat.mod_eq_of_lt hi] at h2
     rcases cls (i + 1) hi with k | k
     ·exact absurd (.inr ⟨k,h1⟩) h2
     ·exact k
   refine no_round n (by omega) (fun i => (p i).1 - z.1) (fun i => (p i).2 - z.2) (fun i hi => ?_) (fun i hi => ?_)
   ·have := all i hi
    unfold lx at this
    omega
   ·have := hl i hi
    rw [rot] at this
    exact this
theorem out_side {a b z : Pt} (hab : a ≠ b) (hl : ∀ i,i < n → 0 ≤ cross a b (p i)) (hz : cross a b z ≤ 0) (hb : 3 ≤ n) (hoff : ¬ OnK n p z) : par n p z = false:=by
 obtain ⟨B,hB⟩ := bounded n p
 -- a way out
 have way : ∃ w : Pt,cross a b w < 0 ∧ cross a b w < cross a b z ∧ ((∀ i,i < n → (p i).2 ≤ w.2) ∨ (∀ i,i < n → w.2 < (p i).2)):=by
  have nz : ¬ (b.1 - a.1 = 0 ∧ b.2 - a.2 = 0):=fun h => hab (Prod.ext (by omega) (by omega))
  obtain ⟨s,hs⟩ : ∃ s : Int,s = (B : Int) + (z.2.natAbs : Int) + 1 := ⟨_,rfl⟩
  have k1 := sqn (b.1 - a.1)
  have k2 := sqn (b.2 - a.2)
  by_cases h : b.1 - a.1 = 0
  ·have hp := k2.2 (fun h' => nz ⟨h,h'⟩)
   refine ⟨(z.1 + s * (b.2 - a.2),z.2 + s),?_,?_,.inl fun i hi => by have := hB i hi;show (p i).2 ≤ z.2 + s;omega⟩
   all_goals
    have e : cross a b (z.1 + s * (b.2 - a.2),z.2 + s) = cross a b z + s * (b.1 - a.1) - s * ((b.2 - a.2) * (b.2 - a.2)):=by unfold cross;dsimp only;grind
    have := Int.mul_pos (show 0 < s by omega) hp
    rw [h,Int.mul_zero] at e
    omega
  ·have hp := k1.2 h
   have hD : 0 < (b.1 - a.1) * (b.1 - a.1) + (b.2 - a.2) * (b.2 - a.2):=by omega
   have e : cross a b (z.1 + s * (b.2 - a.2),z.2 - s * (b.1 - a.1)) = cross a b z - s * ((b.1 - a.1) * (b.1 - a.1) + (b.2 - a.2) * (b.2 - a.2)):=by unfold cross;dsimp only;grind
   have q := Int.mul_pos (show 0 < s by omega) hD
   refine ⟨(z.1 + s * (b.2 - a.2),z.2 - s * (b.1 - a.1)),by omega,by omega,?_⟩
   rcases Int.lt_or_le (b.1 - a.1) 0 with h' | h'
   ·left
    intro i hi
    have := hB i hi
    have := Int.mul_le_mul_of_nonneg_left (a := 1) (b := -(b.1 - a.1)) (c := s) (by omega) (by omega)
    rw [Int.mul_neg] at this
    show (p i).2 ≤ z.2 - s * (b.1 - a.1)
    omega
   ·right
    intro i hi
    have := hB i hi
    have := Int.mul_le_mul_of_nonneg_left (a := 1) (b := b.1 - a.1) (c := s) (by omega) (by omega)
    show z.2 - s * (b.1 - a.1) < (p i).2
    omega
 obtain ⟨w,w1,w2,w3⟩ := way
 have free : Free n p z w:=by
  intro i hi hm
  have l1 := hl i hi
  have l2 := hl (nx n i) (nx_lt hb)
  have hn : p ((i + 1) % n) = p (nx n i) := rfl
  rw [hn] at hm
  -- on the way from z to w the side falls
  have fall : ∀ c : Pt,On c z w → 0 ≤ cross a b c → c = z:=by
   intro c ho hc0
   obtain ⟨k0,k1,k2⟩ := ho
   have id1 : (cross a b w - cross a b z) * (c.1 - z.1) = (cross a b c - cross a b z) * (w.1 - z.1) + (b.1 - a.1) * - cross z w c:=by unfold cross;grind
   have id2 : (cross a b w - cross a b z) * (c.2 - z.2) = (cross a b c - cross a b z) * (w.2 - z.2) + (b.2 - a.2) * - cross z w c:=by unfold cross;grind
   rw [k0,Int.neg_zero,Int.mul_zero,Int.add_zero] at id1 id2
   have g : 0 ≤ cross a b c - cross a b z:=by omega
   have d : 0 < cross a b z - cross a b w:=by omega
   apply Prod.ext
   ·have e : (cross a b z - cross a b w) * (c.1 - z.1) = - ((cross a b c - cross a b z) * (w.1 - z.1)):=by grind
    unfold btw at k1
    rcases Int.lt_trichotomy c.1 z.1 with h | h | h
    ·have q1 := Int.mul_pos d (show 0 < z.1 - c.1 by omega)
     have q2 := Int.mul_nonneg g (show 0 ≤ z.1 - w.1 by omega)
     have f1 : (cross a b z - cross a b w) * (z.1 - c.1) = - ((cross a b z - cross a b w) * (c.1 - z.1)):=by grind
     have f2 : (cross a b c - cross a b z) * (z.1 - w.1) = - ((cross a b c - cross a b z) * (w.1 - z.1)):=by grind
     omega
    ·exact h
    ·have q1 := Int.mul_pos d (show 0 < c.1 - z.1 by omega)
     have q2 := Int.mul_nonneg g (show 0 ≤ w.1 - z.1 by omega)
     omega
   ·have e : (cross a b z - cross a b w) * (c.2 - z.2) = - ((cross a b c - cross a b z) * (w.2 - z.2)):=by grind
    unfold btw at k2
    rcases Int.lt_trichotomy c.2 z.2 with h | h | h
    ·have q1 := Int.mul_pos d (show 0 < z.2 - c.2 by omega)
     have q2 := Int.mul_nonneg g (show 0 ≤ z.2 - w.2 by omega)
     have f1 : (cross a b z - cross a b w) * (z.2 - c.2) = - ((cross a b z - cross a b w) * (c.2 - z.2)):=by grind
     have f2 : (cross a b c - cross a b z) * (z.2 - w.2) = - ((cross a b c - cross a b z) * (w.2 - z.2)):=by grind
     omega
    ·exact h
    ·have q1 := Int.mul_pos d (show 0 < c.2 - z.2 by omega)
     have q2 := Int.mul_nonneg g (show 0 ≤ w.2 - z.2 by omega)
     omega
  have selfOn : ∀ (u v : Pt),On u u v ∧ On v u v:=fun u v => ⟨⟨by unfold cross;grind,by unfold btw;omega,by unfold btw;omega⟩,⟨by unfold cross;grind,by unfold btw;omega,by unfold btw;omega⟩⟩
  rcases hm with o | o | o | o | ⟨o1,o2⟩
  ·have := fall _ o l1
   exact hoff ⟨i,hi,by rw [← this];exact (selfOn _ _).1⟩
  ·have := fall _ o l2
   exact hoff ⟨i,hi,by rw [← this];exact (selfOn _ _).2⟩
  ·exact hoff ⟨i,hi,o⟩
  ·
   obtain ⟨k0,k1,k2⟩ := o
   have e:=(on_dot w (p i) (p (nx n i))).1 ⟨k0,k1,k2⟩
   have id1 : ((p i).1 - w.1) * cross a b (p (nx n i)) - ((p (nx n i)).1 - w.1) * cross a b (p i) = ((p i).1 - (p (nx n i)).1) * cross a b w + (b.1 - a.1) * cross (p i) (p (nx n i)) w:=by unfold cross;grind
   have id2 : ((p i).2 - w.2) * cross a b (p (nx n i)) - ((p (nx n i)).2 - w.2) * cross a b (p i) = ((p i).2 - (p (nx n i)).2) * cross a b w + (b.2 - a.2) * cross (p i) (p (nx n i)) w:=by unfold cross;grind
   rw [k0,Int.mul_zero,Int.add_zero] at id1 id2
   have dif : cross a b w - cross a b (p i) = (b.1 - a.1) * (w.2 - (p i).2) - (b.2 - a.2) * (w.1 - (p i).1):=by unfold cross;grind
   have dif2 : cross a b w - cross a b (p (nx n i)) = (b.1 - a.1) * (w.2 - (p (nx n i)).2) - (b.2 - a.2) * (w.1 - (p (nx n i)).1):=by unfold cross;grind
   unfold btw at k1 k2
   -- the side is a mean of those of the ends
   have m1 : 0 ≤ cross a b (p i) - cross a b w:=by omega
   have m2 : 0 ≤ cross a b (p (nx n i)) - cross a b w:=by omega
   have zx : w.1 = (p i).1 ∨ w.1 = (p (nx n i)).1 ∨ (0 < ((p i).1 - w.1) ∧ ((p (nx n i)).1 - w.1) < 0) ∨ (((p i).1 - w.1) < 0 ∧ 0 < ((p (nx n i)).1 - w.1)):=by omega
   have zy : w.2 = (p i).2 ∨ w.2 = (p (nx n i)).2 ∨ (0 < ((p i).2 - w.2) ∧ ((p (nx n i)).2 - w.2) < 0) ∨ (((p i).2 - w.2) < 0 ∧ 0 < ((p (nx n i)).2 - w.2)):=by omega
   have r1 : ((p i).1 - w.1) * (cross a b (p (nx n i)) - cross a b w) = ((p (nx n i)).1 - w.1) * (cross a b (p i) - cross a b w):=by grind
   have r2 : ((p i).2 - w.2) * (cross a b (p (nx n i)) - cross a b w) = ((p (nx n i)).2 - w.2) * (cross a b (p i) - cross a b w):=by grind
   have g1 : 0 < cross a b (p i) - cross a b w:=by omega
   have g2 : 0 < cross a b (p (nx n i)) - cross a b w:=by omega
   have same : ∀ u v : Int,u * (cross a b (p (nx n i)) - cross a b w) = v * (cross a b (p i) - cross a b w) → (u = 0 ↔ v = 0) ∧ (0 < u → 0 < v) ∧ (u < 0 → v < 0):=by
    intro u v huv
    generalize cross a b (p (nx n i)) - cross a b w = G2 at *
    generalize cross a b (p i) - cross a b w = G1 at *
    refine ⟨⟨fun h => ?_,fun h => ?_⟩,fun h => ?_,fun h => ?_⟩
    ·rw [h,Int.zero_mul] at huv
     rcases Int.mul_eq_zero.1 huv.symm with k | k <;> omega
    ·rw [h,Int.zero_mul] at huv
     rcases Int.mul_eq_zero.1 huv with k | k <;> omega
    ·have := Int.mul_pos h g2
     rw [huv,Int.mul_comm] at this
     exact pos_ofm g1 this
    ·have := Int.mul_pos (show 0 < -u by omega) g2
     have e : -u * G2 = G1 * -v:=by grind
     rw [e] at this
     have := pos_ofm g1 this
     omega
   have s1 := same _ _ r1
   have s2 := same _ _ r2
   have wi : w = p i:=by
    apply Prod.ext <;> omega
   rw [wi] at w1
   omega
  ·have lvl : cross z w (p i) * cross a b (p (nx n i)) - cross z w (p (nx n i)) * cross a b (p i) = cross (p i) (p (nx n i)) w * cross a b z - cross (p i) (p (nx n i)) z * cross a b w:=by unfold cross;grind
   unfold opp at o1 o2
   rcases o1 with ⟨q1,q2⟩ | ⟨q1,q2⟩
   ·
    have t1 : cross (p i) (p (nx n i)) w < 0 ∧ 0 < cross (p i) (p (nx n i)) z ∨ 0 < cross (p i) (p (nx n i)) w ∧ cross (p i) (p (nx n i)) z < 0:=by omega
    have dd : cross z w (p (nx n i)) - cross z w (p i) = cross (p i) (p (nx n i)) z - cross (p i) (p (nx n i)) w:=by unfold cross;grind
    have t2 : cross (p i) (p (nx n i)) w < 0 ∧ 0 < cross (p i) (p (nx n i)) z:=by omega
    have a1 := Int.mul_nonneg (show 0 ≤ - cross z w (p i) by omega) l2
    have a2 := Int.mul_nonneg (show 0 ≤ cross z w (p (nx n i)) by omega) l1
    have a3 := Int.mul_nonneg (show 0 ≤ - cross (p i) (p (nx n i)) w by omega) (show 0 ≤ - cross a b z by omega)
    have a4 := Int.mul_pos t2.2 (show 0 < - cross a b w by omega)
    have f1 : -cross z w (p i) * cross a b (p (nx n i)) = - (cross z w (p i) * cross a b (p (nx n i))):=by grind
    have f3 : -cross (p i) (p (nx n i)) w * -cross a b z = cross (p i) (p (nx n i)) w * cross a b z:=by grind
    have f4 : cross (p i) (p (nx n i)) z * -cross a b w = - (cross (p i) (p (nx n i)) z * cross a b w):=by grind
    omega
   ·have dd : cross z w (p (nx n i)) - cross z w (p i) = cross (p i) (p (nx n i)) z - cross (p i) (p (nx n i)) w:=by unfold cross;grind
    have t2 : 0 < cross (p i) (p (nx n i)) w ∧ cross (p i) (p (nx n i)) z < 0:=by omega
    have a1 := Int.mul_nonneg (show 0 ≤ cross z w (p i) by omega) l2
    have a2 := Int.mul_nonneg (show 0 ≤ - cross z w (p (nx n i)) by omega) l1
    have a3 := Int.mul_nonneg (show 0 ≤ cross (p i) (p (nx n i)) w by omega) (show 0 ≤ - cross a b z by omega)
    have a4 := Int.mul_pos (show 0 < - cross (p i) (p (nx n i)) z by omega) (show 0 < - cross a b w by omega)
    have f1 : -cross z w (p (nx n i)) * cross a b (p i) = - (cross z w (p (nx n i)) * cross a b (p i)):=by grind
    have f3 : cross (p i) (p (nx n i)) w * -cross a b z = - (cross (p i) (p (nx n i)) w * cross a b z):=by grind
    have f4 : -cross (p i) (p (nx n i)) z * -cross a b w = cross (p i) (p (nx n i)) z * cross a b w:=by grind
    omega
 rw [par_free free]
 exact par_out w3
end
end Geo
/-
 Polygons without a right turn: all corners are on the left of each edge.
-/
set_option linter.all false
namespace Geo
section
variable {n : Nat} {p : Nat → Pt}
theorem sq_pos2 {a b : Pt} (h : a ≠ b) : 0 < (b.1 - a.1) * (b.1 - a.1) + (b.2 - a.2) * (b.2 - a.2):=by
 have k1 := sqn (b.1 - a.1)
 have k2 := sqn (b.2 - a.2)
 by_cases h1 : b.1 - a.1 = 0
 ·have : b.2 - a.2 ≠ 0:=fun h2 => h (Prod.ext (by omega) (by omega))
  have := k2.2 this
  omega
 ·have := k1.2 h1;omega
theorem bottom {K M : Int} {T R : Nat} (G : Grd K M T R n p) (hA : 0 < area n p) {e : Nat} (he : e < n) (hy : (p (nx n e)).2 = (p e).2) (hx : (p (nx n e)).1 < (p e).1) (hl : ∀ i,i < n → (p e).2 ≤ (p i).2) : False:=by
 have hb := G.simple.big
 have F := G.fine
 have hK := G.kp
 obtain ⟨c,hc⟩:=(gL K M n p).all_round F
 have c1 := G.round_one hc hA
 obtain ⟨q,hq⟩ := F.even (nx n e)
 obtain ⟨q',hq'⟩ := F.even e
 have hlt : (gL K M n p).H (nx n e) < (gL K M n p).H e:=by
  show ht 2 (2 * K) (p (nx n e)) < ht 2 (2 * K) (p e)
  unfold ht
  rw [hy]
  omega
 have g : (gL K M n p).rng e (2 * q + 1):=by unfold Lev.rng;right;omega
 have hr := hc e he q g
 have hup : (gL K M n p).up e = 0:=by unfold Lev.up;rw [if_neg (by omega)]
 have r0 : (gL K M n p).r e (2 * q + 1) = 0:=by
  unfold Lev.r
  rw [sm_congr (g:=fun _ => 0) (fun i hi => ?_),sm_zero]
  by_cases hz : (gL K M n p).da i (2 * q + 1) = 0
  ·rw [hz,Int.mul_zero]
  ·have gi : (gL K M n p).rng i (2 * q + 1) := Lev.da_odd hz
   unfold Lev.rt
   rw [if_neg ?_,Int.zero_mul]
   intro hlt2
   -- the height of edge i's place there
   have yy : ∀ j,j < n → ∀ t,2 * gX K M n p j t + 2 * K * (M * (p j).2 + gq K M n p j * ((p (nx n j)).2 - (p j).2) * (t - gh K p j)) = M * t:=by
    intro j hj t
    have Q := G.quo hj
    unfold gX
    have e1 : 2 * (p j).1 + 2 * K * (p j).2 = gh K p j := rfl
    have e2 : 2 * (p (nx n j)).1 + 2 * K * (p (nx n j)).2 = gh K p (nx n j) := rfl
    have e3 : gq K M n p j * (gh K p (nx n j) - gh K p j) * (t - gh K p j) = M * (t - gh K p j):=by rw [Q]
    rw [← e1,← e2] at e3
    rw [← e1] at *
    generalize gq K M n p j = Q0 at *
    grind
   have y1 := yy e he (2 * q + 1)
   have y2 := yy i hi (2 * q + 1)
   rw [hy,show (p e).2 - (p e).2 = 0 by omega,Int.mul_zero,Int.zero_mul,Int.add_zero] at y1
   have low : M * (p e).2 ≤ M * (p i).2 + gq K M n p i * ((p (nx n i)).2 - (p i).2) * (2 * q + 1 - gh K p i):=by
    have Q := G.quo hi
    have hM := G.mp
    have l1 := hl i hi
    have l2 := hl (nx n i) (nx_lt hb)
    have gi' : (gh K p i ≤ 2 * q + 1 ∧ 2 * q + 1 ≤ gh K p (nx n i)) ∨ (gh K p (nx n i) ≤ 2 * q + 1 ∧ 2 * q + 1 ≤ gh K p i) := gi
    have id1 : M * (p i).2 + gq K M n p i * ((p (nx n i)).2 - (p i).2) * (2 * q + 1 - gh K p i) - M * (p e).2 = (gq K M n p i * (gh K p (nx n i) - (2 * q + 1))) * ((p i).2 - (p e).2) + (gq K M n p i * (2 * q + 1 - gh K p i)) * ((p (nx n i)).2 - (p e).2):=by
     have e4 : M * ((p i).2 - (p e).2) = gq K M n p i * (gh K p (nx n i) - gh K p i) * ((p i).2 - (p e).2):=by rw [Q]
     grind
    have sg : (0 ≤ gq K M n p i * (gh K p (nx n i) - (2 * q + 1))) ∧ (0 ≤ gq K M n p i * (2 * q + 1 - gh K p i)):=by
     generalize gq K M n p i = Q0 at *
     generalize gh K p (nx n i) = h1 at *
     generalize gh K p i = h0 at *
     rcases gi' with ⟨a,b⟩ | ⟨a,b⟩
     ·have hQ : 0 ≤ Q0:=by
       rcases Int.lt_or_le Q0 0 with k | k
       ·have := Int.mul_nonneg (show 0 ≤ -Q0 by omega) (show 0 ≤ h1 - h0 by omega)
        have e5 : -Q0 * (h1 - h0) = - (Q0 * (h1 - h0)):=by grind
        omega
       ·exact k
      exact ⟨Int.mul_nonneg hQ (by omega),Int.mul_nonneg hQ (by omega)⟩
     ·have hQ : Q0 ≤ 0:=by
       rcases Int.lt_or_le 0 Q0 with k | k
       ·have := Int.mul_nonneg (show 0 ≤ Q0 by omega) (show 0 ≤ h0 - h1 by omega)
        have e5 : Q0 * (h0 - h1) = - (Q0 * (h1 - h0)):=by grind
        omega
       ·exact k
      have f1 := Int.mul_nonneg (show 0 ≤ -Q0 by omega) (show 0 ≤ -(h1 - (2 * q + 1)) by omega)
      have f2 := Int.mul_nonneg (show 0 ≤ -Q0 by omega) (show 0 ≤ -(2 * q + 1 - h0) by omega)
      rw [Int.neg_mul_neg] at f1 f2
      exact ⟨f1,f2⟩
    have m1 := Int.mul_nonneg sg.1 (show 0 ≤ (p i).2 - (p e).2 by omega)
    have m2 := Int.mul_nonneg sg.2 (show 0 ≤ (p (nx n i)).2 - (p e).2 by omega)
    omega
   have hlt3 : gX K M n p e (2 * q + 1) < gX K M n p i (2 * q + 1) := hlt2
   have := Int.mul_le_mul_of_nonneg_left low (show 0 ≤ 2 * K by omega)
   omega
 rw [r0,hup] at hr
 omega
theorem edge_side (S : Simple n p) (hA : 0 < area n p) {e : Nat} (he : e < n) (hl : ∀ i,i < n → cross (p e) (p (nx n e)) (p i) ≤ 0) : False:=by
 have hb := S.big
 have hne : p e ≠ p (nx n e):=fun h => S.dist e _ he (nx_lt hb) (fun k => nx_ne hb he k.symm) h
 obtain ⟨d1,hd1⟩ : ∃ d,d = (p e).1 - (p (nx n e)).1 := ⟨_,rfl⟩
 obtain ⟨d2,hd2⟩ : ∃ d,d = (p e).2 - (p (nx n e)).2 := ⟨_,rfl⟩
 have hD : 0 < d1 * d1 + d2 * d2:=by
  have := sq_pos2 (fun h => hne h.symm)
  rw [hd1,hd2];exact this
 have S2 := simple_of hD (cross_cf d1 d2) (on_cf hD) (inj_cf hD) S
 have A2 := area_cf d1 d2 n p
 obtain ⟨K,M,T,R,hK,G⟩ := exists_grid1 S2 0
 refine bottom G (by rw [A2];exact Int.mul_pos hD hA) he ?_ ?_ ?_
 ·unfold cf;dsimp only;rw [hd1,hd2];grind
 ·unfold cf;dsimp only
  have e1 : (d1 * (p e).1 + d2 * (p e).2) - (d1 * (p (nx n e)).1 + d2 * (p (nx n e)).2) = d1 * d1 + d2 * d2:=by rw [hd1,hd2];grind
  omega
 ·intro i hi
  have := hl i hi
  unfold cf;dsimp only
  have e1 : (d1 * (p i).2 - d2 * (p i).1) - (d1 * (p e).2 - d2 * (p e).1) = - cross (p e) (p (nx n e)) (p i):=by rw [hd1,hd2];unfold cross;grind
  omega
theorem lowest {K M : Int} {T R : Nat} (G : Grd K M T R n p) (hA : 0 < area n p) (hc : ∀ i,i < n → 0 ≤ cross (p i) (p (nx n i)) (p (nx n (nx n i)))) (hK : ∀ i j,i < n → j < n → (p i).1 - (p j).1 < K)
  {e : Nat} (he : e < n) (hy : (p (nx n e)).2 = (p e).2) (hx : (p e).1 < (p (nx n e)).1) : ∀ r,r < n → (p e).2 ≤ (p r).2:=by
 have hb := G.simple.big
 have hK0 := G.kp
 have lex : ∀ i j,i < n → j < n → gh K p i ≤ gh K p j → (p i).2 ≤ (p j).2:=by
  intro i j hi hj h
  rcases Int.lt_or_le (p j).2 (p i).2 with k | k
  ·exfalso
   have h2 : 2 * (p i).1 + 2 * K * (p i).2 ≤ 2 * (p j).1 + 2 * K * (p j).2 := h
   have a := hK j i hj hi
   have b := Int.mul_le_mul_of_nonneg_left (a := 1) (b:=(p i).2 - (p j).2) (c := 2 * K) (by omega) (by omega)
   have c : 2 * K * ((p i).2 - (p j).2) = 2 * K * (p i).2 - 2 * K * (p j).2 := Int.mul_sub _ _ _
   omega
  ·exact k
 -- the lowest corner
 have low : ∃ v,v < n ∧ ∀ i,i < n → gh K p v ≤ gh K p i:=by
  have : ∀ m,0 < m → m ≤ n → ∃ v,v < m ∧ ∀ i,i < m → gh K p v ≤ gh K p i:=by
   intro m
   induction m with
   | zero => intro h;omega
   | succ m ih =>
    intro _ hm
    by_cases h0 : m = 0
    ·subst h0
     refine ⟨0,by omega,fun i hi => ?_⟩
     have : i = 0:=by omega
     subst this
     exact Int.le_refl _
    ·obtain ⟨v,hv,k⟩ := ih (by omega) (by omega)
     rcases Int.lt_or_le (gh K p m) (gh K p v) with h | h
     ·refine ⟨m,by omega,fun i hi => ?_⟩
      by_cases hh : i = m
      ·rw [hh];exact Int.le_refl _
      ·have := k i (by omega)
       omega
     ·refine ⟨v,by omega,fun i hi => ?_⟩
      by_cases hh : i = m
      ·rw [hh];exact h
      ·exact k i (by omega)
  exact this n (by omega) (by omega)
 obtain ⟨v,hv,hmin⟩ := low
 obtain ⟨w,hw,ew⟩ := nx_prev (show 0 < n by omega) hv
 have dst : ∀ i j,i < n → j < n → i ≠ j → gh K p i ≠ gh K p j := G.dist
 have lw : gh K p (nx n w) < gh K p w ∧ gh K p (nx n w) < gh K p (nx n (nx n w)):=by
  rw [ew]
  have a := hmin w hw
  have b := hmin (nx n v) (nx_lt hb)
  have c := dst v w hv hw (fun h => nx_ne hb hw (by rw [ew,h]))
  have d := dst v _ hv (nx_lt (i := v) hb) (fun h => nx_ne hb hv h.symm)
  omega
 have key : ∀ (N : Nat) (e : Nat),e < n → (gh K p e - gh K p v).toNat < N → (p (nx n e)).2 = (p e).2 → (p e).1 < (p (nx n e)).1 → (p e).2 = (p v).2:=by
  intro N
  induction N with
  | zero => intro e he h;omega
  | succ N ih =>
   intro e he hN hy hx
   obtain ⟨u,hu,eu⟩ := nx_prev (show 0 < n by omega) he
   have up : gh K p e < gh K p (nx n e):=by
    show 2 * (p e).1 + 2 * K * (p e).2 < 2 * (p (nx n e)).1 + 2 * K * (p (nx n e)).2
    rw [hy];omega
   have ue : u ≠ e:=fun h => nx_ne hb hu (by rw [eu,h])
   rcases Int.lt_or_le (gh K p e) (gh K p u) with k | k
   ·have := one_low G hA hc hu hw (by rw [eu];exact ⟨k,up⟩) lw
    rw [← eu,this,ew]
   ·have k' := dst u e hu he ue
    have ly := lex u e hu he k
    have lt := hc u hu
    rw [eu] at lt
    have id1 : cross (p u) (p e) (p (nx n e)) = - (((p e).2 - (p u).2) * ((p (nx n e)).1 - (p e).1)):=by unfold cross;rw [hy];grind
    have y0 : (p u).2 = (p e).2:=by
     rcases Int.lt_or_le (p u).2 (p e).2 with q | q
     ·have := Int.mul_pos (show 0 < (p e).2 - (p u).2 by omega) (show 0 < (p (nx n e)).1 - (p e).1 by omega)
      omega
     ·omega
    have x0 : (p u).1 < (p e).1:=by
     have h2 : 2 * (p u).1 + 2 * K * (p u).2 < 2 * (p e).1 + 2 * K * (p e).2:=by
      have : gh K p u < gh K p e:=by omega
      exact this
     rw [y0] at h2;omega
    have := hmin u hu
    have r := ih u hu (by omega) (by rw [eu,y0]) (by rw [eu];exact x0)
    rw [← y0];exact r
 have ev := key _ e he (Nat.lt_succ_self _) hy hx
 intro r hr
 rw [ev]
 exact lex v r hv hr (hmin r hr)
theorem convex_all (S : Simple n p) (hA : 0 < area n p) (hc : ∀ i,i < n → 0 ≤ cross (p i) (p (nx n i)) (p (nx n (nx n i)))) {e r : Nat} (he : e < n) (hr : r < n) : 0 ≤ cross (p e) (p (nx n e)) (p r):=by
 have hb := S.big
 have hne : p e ≠ p (nx n e):=fun h => S.dist e _ he (nx_lt hb) (fun k => nx_ne hb he k.symm) h
 obtain ⟨d1,hd1⟩ : ∃ d,d = (p (nx n e)).1 - (p e).1 := ⟨_,rfl⟩
 obtain ⟨d2,hd2⟩ : ∃ d,d = (p (nx n e)).2 - (p e).2 := ⟨_,rfl⟩
 have hD : 0 < d1 * d1 + d2 * d2:=by
  have := sq_pos2 hne
  rw [hd1,hd2];exact this
 have S2 := simple_of hD (cross_cf d1 d2) (on_cf hD) (inj_cf hD) S
 have A2 := area_cf d1 d2 n p
 obtain ⟨B,hB⟩ := bounded n (fun i => cf d1 d2 (p i))
 obtain ⟨K,M,T,R,hK,G⟩ := exists_grid1 S2 (2 * (B : Int) + 1)
 have := lowest G (by rw [A2];exact Int.mul_pos hD hA) (fun i hi => by
   rw [cross_cf]
   exact Int.mul_nonneg (by omega) (hc i hi)) (fun i j hi hj => by
   have := hB i hi
   have := hB j hj
   omega) he (by unfold cf;dsimp only;rw [hd1,hd2];grind) (by
   unfold cf;dsimp only
   have e1 : (d1 * (p (nx n e)).1 + d2 * (p (nx n e)).2) - (d1 * (p e).1 + d2 * (p e).2) = d1 * d1 + d2 * d2:=by rw [hd1,hd2];grind
   omega) r hr
 have e1 : (cf d1 d2 (p r)).2 - (cf d1 d2 (p e)).2 = cross (p e) (p (nx n e)) (p r):=by unfold cf cross;dsimp only;rw [hd1,hd2];grind
 omega
end
end Geo
/-
 A polygon without a right turn has the area of its hull,and no other has.
-/
set_option linter.all false
namespace Geo
theorem cross_gm (M K : Int) (a b c : Pt) : cross (gm M K a) (gm M K b) (gm M K c) = 8 * M * K * cross a b c:=by unfold gm cross ht;dsimp only;grind
theorem area_of {A : Pt → Pt} {d : Int} (hc : ∀ a b c,cross (A a) (A b) (A c) = d * cross a b c) (n : Nat) (p : Nat → Pt) : area n (fun i => A (p i)) = d * area n p:=by
 rw [area_fan n (fun i => A (p i)) (A (p 0)),area_fan n p (p 0),← sm_mul]
 exact sm_congr fun i _ => hc _ _ _
theorem sm_each {n : Nat} {f g : Nat → Int} (h : ∀ i,i < n → f i ≤ g i) (e : sm n f = sm n g) : ∀ i,i < n → f i = g i:=by
 intro i hi
 rcases Int.lt_or_le (f i) (g i) with k | k
 ·exfalso
  have := sm_pos (f:=fun j => g j - f j) (fun j hj => by have := h j hj;omega) hi (by omega)
  rw [sm_sub] at this
  omega
 ·have := h i hi;omega
section
variable {n m : Nat} {p h : Nat → Pt}
theorem inner (hb : 3 ≤ n) (T : Simple m h) (hT : 0 < area m h) (hl : ∀ k,k < m → ∀ i,i < n → 0 ≤ cross (h k) (h (nx m k)) (p i)) {z : Pt} (hz : ¬ OnK n p z) (hi : par n p z = true) : ¬ OnK m h z ∧ par m h z = true:=by
 have hm := T.big
 refine in_all T hT fun k hk => ?_
 rcases Int.lt_or_le 0 (cross (h k) (h (nx m k)) z) with g | g
 ·exact g
 ·have := out_side (n := n) (p := p) (fun e => T.dist k _ hk (nx_lt hm) (fun k' => nx_ne hm hk k'.symm) e) (hl k hk) g hb hz
  rw [this] at hi
  exact absurd hi (by decide)
theorem Hul.left (H : Hul n p m h) (hm : 3 ≤ m) {k i : Nat} (hk : k < m) (hi : i < n) : 0 ≤ cross (h k) (h (nx m k)) (p i):=(H.edge (by omega) k hk i hi).nonneg
theorem conv_area (S : Simple n p) (hA : 0 < area n p) (H : Hul n p m h) (hm : 3 ≤ m) (hc : ∀ i,i < n → 0 ≤ cross (p i) (p (nx n i)) (p (nx n (nx n i)))) : area n p = area m h:=by
 have T := H.simple hm
 have hT := H.area_pos hm
 obtain ⟨K,M,Tt,R,G⟩ := exists_grid [⟨n,p⟩,⟨m,h⟩] (fun c hc => by
  rcases List.mem_cons.1 hc with e | e
  ·subst e;exact S
  ·rcases List.mem_cons.1 e with e | e
   ·subst e;exact T
   ·cases e)
 have Gp : Grd K M Tt R n p := G ⟨n,p⟩ (by simp)
 have Gh : Grd K M Tt R m h := G ⟨m,h⟩ (by simp)
 have hK := Gp.kp
 have hM := Gp.mp
 have hd : 0 < 8 * M * K := Int.mul_pos (by omega) hK
 have gd := good_gm hM hK
 have S2 := simple_of hd (cross_gm M K) gd.on gd.inj S
 have T2 := simple_of hd (cross_gm M K) gd.on gd.inj T
 have A2 : 0 < area n (fun i => gm M K (p i)):=by rw [area_of (cross_gm M K)];exact Int.mul_pos hd hA
 have B2 : 0 < area m (fun i => gm M K (h i)):=by rw [area_of (cross_gm M K)];exact Int.mul_pos hd hT
 have each : ∀ s j,gp K M Tt R n p s j = gp K M Tt R m h s j:=by
  intro s j
  have o1 := gz_off Gp s j
  have o2 := gz_off Gh s j
  have d1 : par n (fun i => gm M K (p i)) (gz Tt R s j) = true → par m (fun i => gm M K (h i)) (gz Tt R s j) = true:=fun q =>
   (inner S.big T2 B2 (fun k hk i hi => by rw [cross_gm];exact Int.mul_nonneg (by omega) (H.left hm hk hi)) o1 q).2
  have d2 : par m (fun i => gm M K (h i)) (gz Tt R s j) = true → par n (fun i => gm M K (p i)) (gz Tt R s j) = true:=fun q =>
   (inner hm S2 A2 (fun k hk i hi => by
    rw [cross_gm]
    obtain ⟨r,hr,e⟩ := H.mem i hi
    rw [e]
    exact Int.mul_nonneg (by omega) (convex_all S hA hc hk hr)) o2 q).2
  unfold gp
  by_cases q : par n (fun i => gm M K (p i)) (gz Tt R s j) = true
  ·rw [if_pos q,if_pos (d1 q)]
  ·rw [if_neg q,if_neg (fun k => q (d2 k))]
 have c1 := grid_pos Gp hA
 have c2 := grid_pos Gh hT
 have : gcount K M Tt R n p = gcount K M Tt R m h:=by
  unfold gcount
  exact sm_congr fun s _ => sm_congr fun j _ => each s j
 rw [this,← c2] at c1
 exact Int.eq_of_mul_eq_mul_left (show 2 * M * K ≠ 0 by have := Int.mul_pos (show 0 < 2 * M by omega) hK;omega) c1
open Classical in
noncomputable def whK (n : Nat) (p : Nat → Pt) (z : Pt) : Int := if OnK n p z then 1 else if par n p z = true then 2 else 0
theorem area_conv (S : Simple n p) (hA : 0 < area n p) (H : Hul n p m h) (hm : 3 ≤ m) (he : area n p = area m h) : ∀ i,i < n → ∀ r,r < n → 0 ≤ cross (p i) (p (nx n i)) (p r):=by
 have hb := S.big
 have T := H.simple hm
 have hT := H.area_pos hm
 have c4 : ∀ a b c,cross (sc 2 a) (sc 2 b) (sc 2 c) = 4 * cross a b c:=fun a b c => cross_sc 2 a b c
 have S2 := simple_of (d := 4) (by omega) c4 (fun q a b => on_sc (by omega) q a b) (fun a b e => by
  have h1 := congrArg Prod.fst e
  have h2 := congrArg Prod.snd e
  unfold sc at h1 h2
  dsimp only at h1 h2
  exact Prod.ext (by omega) (by omega)) S
 have T2 := simple_of (d := 4) (by omega) c4 (fun q a b => on_sc (by omega) q a b) (fun a b e => by
  have h1 := congrArg Prod.fst e
  have h2 := congrArg Prod.snd e
  unfold sc at h1 h2
  dsimp only at h1 h2
  exact Prod.ext (by omega) (by omega)) T
 have A2 : area n (fun i => sc 2 (p i)) = 4 * area n p := area_of c4 n p
 have B2 : area m (fun i => sc 2 (h i)) = 4 * area m h := area_of c4 m h
 obtain ⟨B,hB⟩ := bounded n (fun i => sc 2 (p i))
 have hB' : ∀ i,i < m → -(B : Int) ≤ (sc 2 (h i)).1 ∧ (sc 2 (h i)).1 ≤ B ∧ -(B : Int) ≤ (sc 2 (h i)).2 ∧ (sc 2 (h i)).2 ≤ B:=by
  intro i hi
  obtain ⟨r,hr,e⟩ := H.mem i hi
  rw [e]
  have := hB r hr
  omega
 have wh : ∀ (n : Nat) (p : Nat → Pt) (z : Pt),(OnK n p z → whK n p z = 1) ∧ (¬ OnK n p z → whK n p z = if par n p z = true then 2 else 0):=by
  intro n p z
  unfold whK
  exact ⟨fun o => by rw [if_pos o],fun o => by rw [if_neg o]⟩
 have k1 := pick S2 (by rw [A2];omega) (L := -(B : Int)) (Y := -(B : Int)) (N := 2 * B + 1) (NY := 2 * B + 1) (fun i hi => by have := hB i hi;omega) (fun i hi => by have := hB i hi;omega) (whK n fun i => sc 2 (p i)) (fun i _ j _ => wh n _ _)
 have k2 := pick T2 (by rw [B2];omega) (L := -(B : Int)) (Y := -(B : Int)) (N := 2 * B + 1) (NY := 2 * B + 1) (fun i hi => by have := hB' i hi;omega) (fun i hi => by have := hB' i hi;omega) (whK m fun i => sc 2 (h i)) (fun i _ j _ => wh m _ _)
 have left2 : ∀ k,k < m → ∀ i,i < n → 0 ≤ cross (sc 2 (h k)) (sc 2 (h (nx m k))) (sc 2 (p i)):=fun k hk i hi => by
  rw [c4]
  have := H.left hm hk hi
  omega
 have le : ∀ z : Pt,whK n (fun i => sc 2 (p i)) z ≤ whK m (fun i => sc 2 (h i)) z:=by
  intro z
  by_cases o : OnK n (fun i => sc 2 (p i)) z
  ·rw [(wh _ _ z).1 o]
   by_cases o2 : OnK m (fun i => sc 2 (h i)) z
   ·rw [(wh _ _ z).1 o2];omega
   ·have:=(in_all T2 (by rw [B2];omega) (z := z) (fun k hk => by
     rcases Int.lt_or_le 0 (cross (sc 2 (h k)) (sc 2 (h (nx m k))) z) with g | g
     ·exact g
     ·exfalso
      obtain ⟨i,hi,o⟩ := o
      dsimp only at o
      have l1 := left2 k hk i hi
      have l2 := left2 k hk (nx n i) (nx_lt hb)
      obtain ⟨N,s,hN,h0,h1,e1,e2⟩ := On.param_iff.1 o
      have id1 : N * cross (sc 2 (h k)) (sc 2 (h (nx m k))) z = (N - s) * cross (sc 2 (h k)) (sc 2 (h (nx m k))) (sc 2 (p i)) + s * cross (sc 2 (h k)) (sc 2 (h (nx m k))) (sc 2 (p (nx n i))):=by
       unfold cross
       grind
      have m1 := Int.mul_nonneg (show 0 ≤ N - s by omega) l1
      have m2 := Int.mul_nonneg h0 l2
      have m3 := Int.mul_nonneg (show 0 ≤ N by omega) (show 0 ≤ - cross (sc 2 (h k)) (sc 2 (h (nx m k))) z by omega)
      rw [Int.mul_neg] at m3
      have onp : ∀ j,j < n → cross (sc 2 (h k)) (sc 2 (h (nx m k))) (sc 2 (p j)) = 0 → On (sc 2 (p j)) (sc 2 (h k)) (sc 2 (h (nx m k))):=by
       intro j hj hz
       rw [c4] at hz
       rcases H.edge (by omega) k hk j hj with q | q
       ·omega
       ·exact (on_sc (by omega) _ _ _).2 q
      have z1 : (N - s) * cross (sc 2 (h k)) (sc 2 (h (nx m k))) (sc 2 (p i)) = 0:=by omega
      have z2 : s * cross (sc 2 (h k)) (sc 2 (h (nx m k))) (sc 2 (p (nx n i))) = 0:=by omega
      refine o2 ⟨k,hk,?_⟩
      show On z (sc 2 (h k)) (sc 2 (h (nx m k)))
      rcases Int.mul_eq_zero.1 z1 with y1 | y1
      ·have : s = N:=by omega
       rw [this] at e1 e2 z2
       have y2:=(Int.mul_eq_zero.1 z2).resolve_left (by omega)
       have ez : z = sc 2 (p (nx n i)):=by
        have t1 : N * (z.1 - (sc 2 (p (nx n i))).1) = 0:=by grind
        have t2 : N * (z.2 - (sc 2 (p (nx n i))).2) = 0:=by grind
        have u1:=(Int.mul_eq_zero.1 t1).resolve_left (by omega)
        have u2:=(Int.mul_eq_zero.1 t2).resolve_left (by omega)
        exact Prod.ext (by omega) (by omega)
       rw [ez]
       exact onp _ (nx_lt hb) y2
      ·rcases Int.mul_eq_zero.1 z2 with y2 | y2
       ·rw [y2] at e1 e2
        have ez : z = sc 2 (p i):=by
         have t1 : N * (z.1 - (sc 2 (p i)).1) = 0:=by grind
         have t2 : N * (z.2 - (sc 2 (p i)).2) = 0:=by grind
         have u1:=(Int.mul_eq_zero.1 t1).resolve_left (by omega)
         have u2:=(Int.mul_eq_zero.1 t2).resolve_left (by omega)
         exact Prod.ext (by omega) (by omega)
        rw [ez]
        exact onp _ hi y1
       ·have o3 := onp _ hi y1
        have o4 := onp _ (nx_lt hb) y2
        have cz : cross (sc 2 (h k)) (sc 2 (h (nx m k))) z = 0:=by
         rw [y1,y2] at id1
         rw [Int.mul_zero,Int.mul_zero] at id1
         exact (Int.mul_eq_zero.1 (by omega : N * cross (sc 2 (h k)) (sc 2 (h (nx m k))) z = 0)).resolve_left (by omega)
        obtain ⟨_,a1,a2⟩ := o
        obtain ⟨_,a3,a4⟩ := o3
        obtain ⟨_,a5,a6⟩ := o4
        unfold btw at *
        exact ⟨cz,by unfold btw;omega,by unfold btw;omega⟩)).2
    rw [(wh _ _ z).2 o2,if_pos this];omega
  ·rw [(wh _ _ z).2 o]
   split
   ·rename_i q
    have := inner (p:=fun i => sc 2 (p i)) hb T2 (by rw [B2];omega) left2 o q
    rw [(wh _ _ z).2 this.1,if_pos this.2];omega
   ·unfold whK
    split
    ·omega
    ·split <;> omega
 have eqz : ∀ z : Pt, -(B : Int) ≤ z.1 ∧ z.1 ≤ B ∧ -(B : Int) ≤ z.2 ∧ z.2 ≤ B → whK n (fun i => sc 2 (p i)) z = whK m (fun i => sc 2 (h i)) z:=by
  intro z hz
  have e0 : sm (2 * B + 1) (fun i => sm (2 * B + 1) (fun j => whK n (fun i => sc 2 (p i)) (-(B : Int) + i, -(B : Int) + j))) = sm (2 * B + 1) (fun i => sm (2 * B + 1) (fun j => whK m (fun i => sc 2 (h i)) (-(B : Int) + i, -(B : Int) + j))):=by
   rw [k1,k2,A2,B2,he]
  have e1 := sm_each (fun i _ => sm_le fun j _ => le _) e0 (z.1 + B).toNat (by omega)
  have e2 := sm_each (fun j _ => le _) e1 (z.2 + B).toNat (by omega)
  rwa [show ((-(B : Int) + ((z.1 + B).toNat : Int), -(B : Int) + ((z.2 + B).toNat : Int)) : Pt) = z from Prod.ext (by dsimp only;omega) (by dsimp only;omega)] at e2
 intro i hi
 have hxi : nx n i < n := nx_lt hb
 obtain ⟨z,hz⟩ : ∃ z : Pt,z = ((p i).1 + (p (nx n i)).1,(p i).2 + (p (nx n i)).2) := ⟨_,rfl⟩
 have oz : On z (sc 2 (p i)) (sc 2 (p (nx n i))):=by
  rw [hz]
  unfold On cross btw sc
  dsimp only
  refine ⟨by grind,by omega,by omega⟩
 have b1 := hB i hi
 have b2 := hB _ hxi
 have ez := eqz z (by
  have z1 : z.1 = (p i).1 + (p (nx n i)).1:=by rw [hz]
  have z2 : z.2 = (p i).2 + (p (nx n i)).2:=by rw [hz]
  unfold sc at b1 b2
  dsimp only at b1 b2
  omega)
 rw [(wh _ _ z).1 ⟨i,hi,oz⟩] at ez
 have oh : OnK m (fun i => sc 2 (h i)) z:=by
  by_cases o : OnK m (fun i => sc 2 (h i)) z
  ·exact o
  ·rw [(wh _ _ z).2 o] at ez
   split at ez <;> omega
 obtain ⟨k,hk,ok⟩ := oh
 dsimp only at ok
 have l1 := H.left hm hk hi
 have l2 := H.left hm hk hxi
 have id0 : cross (sc 2 (h k)) (sc 2 (h (nx m k))) z = 2 * (cross (h k) (h (nx m k)) (p i) + cross (h k) (h (nx m k)) (p (nx n i))):=by
  rw [hz];unfold cross sc;dsimp only;grind
 rw [ok.1] at id0
 have f1 : cross (h k) (h (nx m k)) (p i) = 0:=by omega
 have f2 : cross (h k) (h (nx m k)) (p (nx n i)) = 0:=by omega
 have hne : h k ≠ h (nx m k):=fun e => T.dist k _ hk (nx_lt hm) (fun k' => nx_ne hm hk k'.symm) e
 have dp := sq_pos2 hne
 have trn : ∀ w : Pt,cross (p i) (p (nx n i)) w * (((h (nx m k)).1 - (h k).1) * ((h (nx m k)).1 - (h k).1) + ((h (nx m k)).2 - (h k).2) * ((h (nx m k)).2 - (h k).2)) = (((h (nx m k)).1 - (h k).1) * ((p (nx n i)).1 - (p i).1) + ((h (nx m k)).2 - (h k).2) * ((p (nx n i)).2 - (p i).2)) * cross (h k) (h (nx m k)) w:=by
  intro w
  unfold cross at f1 f2 ⊢
  grind
 generalize (((h (nx m k)).1 - (h k).1) * ((h (nx m k)).1 - (h k).1) + ((h (nx m k)).2 - (h k).2) * ((h (nx m k)).2 - (h k).2)) = D at dp trn
 generalize (((h (nx m k)).1 - (h k).1) * ((p (nx n i)).1 - (p i).1) + ((h (nx m k)).2 - (h k).2) * ((p (nx n i)).2 - (p i).2)) = E at trn
 rcases Int.lt_or_le E 0 with hE | hE
 ·exfalso
  refine edge_side S hA hi fun r hr => ?_
  have := trn (p r)
  have l := Int.mul_nonneg (show 0 ≤ -E by omega) (H.left hm hk hr)
  rcases Int.lt_or_le 0 (cross (p i) (p (nx n i)) (p r)) with g | g
  ·have := Int.mul_pos g dp
   rw [Int.neg_mul] at l
   omega
  ·exact g
 ·intro r hr
  have := trn (p r)
  have l := Int.mul_nonneg hE (H.left hm hk hr)
  rcases Int.lt_or_le (cross (p i) (p (nx n i)) (p r)) 0 with g | g
  ·have := Int.mul_pos (show 0 < - cross (p i) (p (nx n i)) (p r) by omega) dp
   rw [Int.neg_mul] at this
   omega
  ·exact g
end
end Geo
