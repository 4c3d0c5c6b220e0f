/-
 Several texts in one.
-/
import Derived.Test.YtngjgbhdhaopmaaGeo1
/-
 The area of a simple polygon is not zero.
-/
namespace Geo
structure Simple (n : Nat) (p : Nat → Pt) : Prop where
 big : 3 ≤ n
 dist : ∀ i j,i < n → j < n → i ≠ j → p i ≠ p j
 corner : ∀ e,e < n → ¬ On (p (nx n (nx n e))) (p e) (p (nx n e)) ∧ ¬ On (p e) (p (nx n e)) (p (nx n (nx n e)))
 apart : ∀ e i,e < n → i < n → i ≠ e → i ≠ nx n e → nx n i ≠ e → ¬ Meet (p e) (p (nx n e)) (p i) (p (nx n i))
def pr : Nat → (Nat → Int) → Int
 | 0,_ => 1
 | n + 1,f => pr n f * f n
end Geo
/-
 Deciding;what two writers say of successive edges.
-/
namespace Geo
instance decBtw (a b q : Int) : Decidable (btw a b q):=by unfold btw;infer_instance
instance decOn (q a b : Pt) : Decidable (On q a b):=by unfold On;infer_instance
instance decOpp (s t : Int) : Decidable (opp s t):=by unfold opp;infer_instance
instance decMeet (a b c d : Pt) : Decidable (Meet a b c d):=by unfold Meet;infer_instance
def nr (x y : Int) : Prop := -32768 ≤ x ∧ x ≤ 32768 ∧ -32768 ≤ y ∧ y ≤ 32768
theorem mul_bd {x y A B : Int} (h1 : -A ≤ x) (h2 : x ≤ A) (h3 : -B ≤ y) (h4 : y ≤ B) : -(A * B) ≤ x * y ∧ x * y ≤ A * B:=by
 have a1 : 0 ≤ (A - x) * (B + y) := Int.mul_nonneg (by omega) (by omega)
 have a2 : 0 ≤ (A + x) * (B - y) := Int.mul_nonneg (by omega) (by omega)
 have a3 : 0 ≤ (A - x) * (B - y) := Int.mul_nonneg (by omega) (by omega)
 have a4 : 0 ≤ (A + x) * (B + y) := Int.mul_nonneg (by omega) (by omega)
 constructor
 ·grind
 ·grind
end Geo
/-
 The lower side of the hull of points that are sorted by the first coordinate,then by the second one.
-/
set_option linter.all false
namespace Geo
def fw (a b : Pt) : Prop := a.1 < b.1 ∨ (a.1 = b.1 ∧ a.2 < b.2)
theorem fw.trans {a b c : Pt} (h : fw a b) (k : fw b c) : fw a c:=by unfold fw at *;omega
theorem fw.irr {a : Pt} (h : fw a a) : False:=by unfold fw at h;omega
theorem fw.asymm {a b : Pt} (h : fw a b) (k : fw b a) : False:=(h.trans k).irr
theorem pos_ofm {b z : Int} (hb : 0 < b) (h : 0 < b * z) : 0 < z:=by
 rcases Int.lt_trichotomy z 0 with k | k | k
 ·have := Int.mul_pos hb (show 0 < -z by omega)
  rw [Int.mul_neg] at this;omega
 ·rw [k,Int.mul_zero] at h;omega
 ·exact k
theorem nonneg_ofm {b z : Int} (hb : 0 < b) (h : 0 ≤ b * z) : 0 ≤ z:=by
 rcases Int.lt_trichotomy z 0 with k | k | k
 ·have := Int.mul_pos hb (show 0 < -z by omega)
  rw [Int.mul_neg] at this;omega
 ·omega
 ·omega
theorem turn_trans {a1 a2 b1 b2 c1 c2 : Int} (ha : 0 < a1 ∨ (a1 = 0 ∧ 0 < a2)) (hb : 0 < b1 ∨ (b1 = 0 ∧ 0 < b2)) (hc : 0 < c1 ∨ (c1 = 0 ∧ 0 < c2)) (h1 : 0 ≤ a1 * b2 - a2 * b1) (h2 : 0 ≤ b1 * c2 - b2 * c1) :
  0 ≤ a1 * c2 - a2 * c1 ∧ (0 < a1 * b2 - a2 * b1 ∨ 0 < b1 * c2 - b2 * c1 → 0 < a1 * c2 - a2 * c1):=by
 rcases hb with hb | ⟨hb,hb2⟩
 ·have ex : b1 * (a1 * c2 - a2 * c1) = c1 * (a1 * b2 - a2 * b1) + a1 * (b1 * c2 - b2 * c1):=by grind
  rcases ha with ha | ⟨ha,ha2⟩
  ·rcases hc with hc | ⟨hc,hc2⟩
   ·have k1 := Int.mul_nonneg (Int.le_of_lt hc) h1
    have k2 := Int.mul_nonneg (Int.le_of_lt ha) h2
    refine ⟨nonneg_ofm hb (by omega),fun h => pos_ofm hb ?_⟩
    rcases h with h | h
    ·have := Int.mul_pos hc h;omega
    ·have := Int.mul_pos ha h;omega
   ·subst hc
    have := Int.mul_pos ha hc2
    rw [Int.mul_zero]
    exact ⟨by omega,fun _ => by omega⟩
  ·subst ha
   have := Int.mul_pos ha2 hb
   omega
 ·subst hb
  rw [Int.zero_mul] at h2
  rw [Int.mul_zero] at h1
  rcases hc with hc | ⟨hc,hc2⟩
  ·have := Int.mul_pos hb2 hc
   omega
  ·subst hc
   simp only [Int.mul_zero,Int.zero_mul] at *
   rcases ha with ha | ⟨ha,ha2⟩
   ·have := Int.mul_pos ha hc2
    exact ⟨by omega,fun _ => by omega⟩
   ·subst ha
    simp only [Int.mul_zero,Int.zero_mul] at *
    exact ⟨by omega,fun h => by omega⟩
theorem fw.vec {a b : Pt} (h : fw a b) : 0 < b.1 - a.1 ∨ (b.1 - a.1 = 0 ∧ 0 < b.2 - a.2):=by unfold fw at h;omega
theorem left4 {a b c q : Pt} (h1 : fw a b) (h2 : fw b c) (h3 : fw c q) (k1 : 0 < cross a b c) (k2 : 0 < cross b c q) : 0 < cross a b q:=by
 have e1 : cross a b c = (b.1 - a.1) * (c.2 - b.2) - (b.2 - a.2) * (c.1 - b.1):=by unfold cross;grind
 have e2 : cross b c q = (c.1 - b.1) * (q.2 - c.2) - (c.2 - b.2) * (q.1 - c.1):=by unfold cross;grind
 have e3 : cross a b q = cross a b c + ((b.1 - a.1) * (q.2 - c.2) - (b.2 - a.2) * (q.1 - c.1)):=by unfold cross;grind
 have:=(turn_trans h1.vec h2.vec h3.vec (by omega) (by omega)).2 (.inl (by omega))
 omega
def LeftOn (a b r : Pt) : Prop := 0 < cross a b r ∨ On r a b
theorem LeftOn.nonneg {a b r : Pt} (h : LeftOn a b r) : 0 ≤ cross a b r:=by
 rcases h with h | h
 ·omega
 ·have := h.1;omega
theorem on_fw {a b r : Pt} (h : cross a b r = 0) (h1 : a = r ∨ fw a r) (h2 : r = b ∨ fw r b) : On r a b:=by
 rcases h1 with rfl | h1
 ·exact ⟨h,by unfold btw;omega,by unfold btw;omega⟩
 rcases h2 with rfl | h2
 ·exact ⟨h,by unfold btw;omega,by unfold btw;omega⟩
 refine ⟨h,.inl (by unfold fw at h1 h2;omega),?_⟩
 unfold cross at h
 rcases h1 with h1 | ⟨h1,h1'⟩
 ·rcases h2 with h2 | ⟨h2,h2'⟩
  ·
   unfold btw
   rcases Int.lt_trichotomy a.2 b.2 with hy | hy | hy
   ·left
    have k1 := Int.mul_pos (show 0 < b.2 - a.2 by omega) (show 0 < r.1 - a.1 by omega)
    have k2 : 0 < r.2 - a.2 := pos_ofm (b := b.1 - a.1) (by omega) (by omega)
    have k3 := Int.mul_pos (show 0 < b.2 - a.2 by omega) (show 0 < b.1 - r.1 by omega)
    have k4 : 0 < b.2 - r.2 := pos_ofm (b := b.1 - a.1) (by omega) (by
     have : (b.1 - a.1) * (b.2 - r.2) = (b.2 - a.2) * (b.1 - r.1):=by grind
     omega)
    omega
   ·have k2 : (b.1 - a.1) * (r.2 - a.2) = 0:=by rw [hy] at h ⊢;grind
    rcases Int.mul_eq_zero.1 k2 with k | k <;> omega
   ·right
    have k1 := Int.mul_pos (show 0 < a.2 - b.2 by omega) (show 0 < r.1 - a.1 by omega)
    have k2 : 0 < a.2 - r.2 := pos_ofm (b := b.1 - a.1) (by omega) (by
     have : (b.1 - a.1) * (a.2 - r.2) = (a.2 - b.2) * (r.1 - a.1):=by grind
     omega)
    have k3 := Int.mul_pos (show 0 < a.2 - b.2 by omega) (show 0 < b.1 - r.1 by omega)
    have k4 : 0 < r.2 - b.2 := pos_ofm (b := b.1 - a.1) (by omega) (by
     have : (b.1 - a.1) * (r.2 - b.2) = (a.2 - b.2) * (b.1 - r.1):=by grind
     omega)
    omega
  ·have k2 : (b.1 - a.1) * (b.2 - r.2) = 0:=by rw [h2] at h;grind
   rcases Int.mul_eq_zero.1 k2 with k | k <;> omega
 ·rcases h2 with h2 | ⟨h2,h2'⟩
  ·have k2 : (b.1 - a.1) * (r.2 - a.2) = 0:=by rw [h1] at h ⊢;grind
   rcases Int.mul_eq_zero.1 k2 with k | k <;> omega
  ·unfold btw;omega
theorem leftOn_fw {a b r : Pt} (h : 0 ≤ cross a b r) (h1 : a = r ∨ fw a r) (h2 : r = b ∨ fw r b) : LeftOn a b r:=by
 by_cases h0 : cross a b r = 0
 ·exact .inr (on_fw h0 h1 h2)
 ·exact .inl (by omega)
theorem pop_high {u v q r : Pt} (h1 : fw u v) (h2 : fw v q) (h : cross u v q ≤ 0) (hr : v = r ∨ fw v r) (hq : fw r q) (k : 0 ≤ cross v q r) : LeftOn u q r:=by
 refine leftOn_fw ?_ (.inr (hr.elim (fun e => e ▸ h1) h1.trans)) (.inr hq)
 rcases hr with rfl | hr
 ·have : cross u q v = - cross u v q:=by unfold cross;grind
  omega
 ·have e1 : cross u v q = (v.1 - u.1) * (q.2 - v.2) - (v.2 - u.2) * (q.1 - v.1):=by unfold cross;grind
  have e2 : cross v q r = (q.1 - r.1) * (q.2 - v.2) - (q.2 - r.2) * (q.1 - v.1):=by unfold cross;grind
  have e3 : cross u q r = ((q.1 - r.1) * (v.2 - u.2) - (q.2 - r.2) * (v.1 - u.1)) + cross v q r:=by unfold cross;grind
  have:=(turn_trans hq.vec h2.vec h1.vec (by omega) (by
   have : (q.1 - v.1) * (v.2 - u.2) - (q.2 - v.2) * (v.1 - u.1) = - cross u v q:=by rw [e1];grind
   omega)).1
  omega
theorem pop_low {u v q r : Pt} (h1 : fw u v) (h2 : fw v q) (h : cross u v q ≤ 0) (hr : u = r ∨ fw u r) (hq : fw r v) (k : 0 ≤ cross u v r) : LeftOn u q r:=by
 refine leftOn_fw ?_ hr (.inr (hq.trans h2))
 rcases hr with rfl | hr
 ·have : cross u q u = 0:=by unfold cross;grind
  omega
 ·have e1 : cross u v q = (v.1 - u.1) * (q.2 - v.2) - (v.2 - u.2) * (q.1 - v.1):=by unfold cross;grind
  have e2 : cross u v r = (v.1 - u.1) * (r.2 - u.2) - (v.2 - u.2) * (r.1 - u.1) := rfl
  have e3 : cross u q r = cross u v r + ((q.1 - v.1) * (r.2 - u.2) - (q.2 - v.2) * (r.1 - u.1)):=by unfold cross;grind
  have:=(turn_trans h2.vec h1.vec hr.vec (by
   have : (q.1 - v.1) * (v.2 - u.2) - (q.2 - v.2) * (v.1 - u.1) = - cross u v q:=by rw [e1];grind
   omega) (by omega)).1
  omega
theorem behind {a b q r : Pt} (h1 : fw a b) (h2 : fw b q) (h : 0 < cross a b q) (hr : fw r b) (k : 0 ≤ cross a b r) : 0 < cross b q r:=by
 have e1 : cross a b q = (b.1 - a.1) * (q.2 - b.2) - (b.2 - a.2) * (q.1 - b.1):=by unfold cross;grind
 have e2 : cross a b r = (b.1 - r.1) * (b.2 - a.2) - (b.2 - r.2) * (b.1 - a.1):=by unfold cross;grind
 have e3 : cross b q r = (b.1 - r.1) * (q.2 - b.2) - (b.2 - r.2) * (q.1 - b.1):=by unfold cross;grind
 have:=(turn_trans hr.vec h1.vec h2.vec (by omega) (by omega)).2 (.inr (by omega))
 omega
structure Chn (P : Nat → Pt) (t k : Nat) (s : Nat → Pt) : Prop where
 pos : 0 < k
 size : k ≤ t
 first : s 0 = P 0
 last : s (k - 1) = P (t - 1)
 fwd : ∀ i,i + 1 < k → fw (s i) (s (i + 1))
 mem : ∀ i,i < k → ∃ j,j < t ∧ s i = P j
 turn : ∀ i,i + 2 < k → 0 < cross (s i) (s (i + 1)) (s (i + 2))
 edge : ∀ i,i + 1 < k → ∀ r,r < t → LeftOn (s i) (s (i + 1)) (P r)
structure Pop (P : Nat → Pt) (t k : Nat) (s : Nat → Pt) (k' : Nat) : Prop where
 pos : 0 < k'
 size : k' ≤ k
 high : ∀ r,r < t → (s (k' - 1) = P r ∨ fw (s (k' - 1)) (P r)) → LeftOn (s (k' - 1)) (P t) (P r)
section
variable {P : Nat → Pt} {t n k k' : Nat} {s : Nat → Pt}
theorem chn_one : Chn P 1 1 (fun _ => P 0) :=
 ⟨by omega,by omega,rfl,rfl,fun i h => by omega,fun i _ => ⟨0,by omega,rfl⟩,fun i h => by omega,fun i h => by omega⟩
theorem Chn.behind_t (hP : ∀ i j,i < j → j < n → fw (P i) (P j)) (ht : t < n) (C : Chn P t k s) {i : Nat} (hi : i < k) : fw (s i) (P t):=by
 obtain ⟨j,hj,e⟩ := C.mem i hi
 rw [e];exact hP j t hj ht
theorem Chn.pop (hP : ∀ i j,i < j → j < n → fw (P i) (P j)) (ht : t < n) (C : Chn P t k s) : Pop P t k s k:=by
 refine ⟨C.pos,Nat.le_refl _,fun r hr h => ?_⟩
 have hlast := C.last
 have hk := C.pos
 have hs := C.size
 have e : r = t - 1:=by
  rcases Nat.lt_or_ge r (t - 1) with h1 | h1
  ·exfalso
   have h2 := hP r (t - 1) h1 (by omega)
   rw [hlast] at h
   rcases h with h | h
   ·rw [h] at h2;exact h2.irr
   ·exact h.asymm h2
  ·omega
 subst e
 rw [hlast]
 have z : cross (P (t - 1)) (P t) (P (t - 1)) = 0:=by unfold cross;grind
 exact leftOn_fw (by omega) (.inl rfl) (.inr (hP _ _ (by omega) ht))
theorem Pop.step (hP : ∀ i j,i < j → j < n → fw (P i) (P j)) (ht : t < n) (C : Chn P t k s) (O : Pop P t k s k') (h2 : 1 < k') (h : cross (s (k' - 2)) (s (k' - 1)) (P t) ≤ 0) : Pop P t k s (k' - 1):=by
 have hs := O.size
 refine ⟨by omega,by omega,fun r hr hh => ?_⟩
 have e1 : k' - 1 - 1 = k' - 2:=by omega
 rw [e1] at hh ⊢
 have f1 : fw (s (k' - 2)) (s (k' - 1)):=by
  have := C.fwd (k' - 2) (by omega)
  rwa [show k' - 2 + 1 = k' - 1 by omega] at this
 have f2 : fw (s (k' - 1)) (P t) := C.behind_t hP ht (by omega)
 have f3 : fw (P r) (P t) := hP r t hr ht
 have ed := C.edge (k' - 2) (by omega) r hr
 rw [show k' - 2 + 1 = k' - 1 by omega] at ed
 by_cases hv : s (k' - 1) = P r ∨ fw (s (k' - 1)) (P r)
 ·exact pop_high f1 f2 h hv f3 (O.high r hr hv).nonneg
 ·have hlt : fw (P r) (s (k' - 1)):=by
   unfold fw at hv ⊢
   have : ¬ (s (k' - 1) = P r):=fun e => hv (.inl e)
   have h3 : ¬ ((s (k' - 1)).1 = (P r).1 ∧ (s (k' - 1)).2 = (P r).2):=fun e => this (Prod.ext e.1 e.2)
   have h4 : ¬ ((s (k' - 1)).1 < (P r).1 ∨ (s (k' - 1)).1 = (P r).1 ∧ (s (k' - 1)).2 < (P r).2):=fun e => hv (.inr e)
   omega
  exact pop_low f1 f2 h hh hlt ed.nonneg
theorem Pop.push (hP : ∀ i j,i < j → j < n → fw (P i) (P j)) (ht : t < n) (C : Chn P t k s) (O : Pop P t k s k') (h : 1 < k' → 0 < cross (s (k' - 2)) (s (k' - 1)) (P t)) {s' : Nat → Pt} (e : ∀ i,i < k' → s' i = s i) (eq : s' k' = P t) : Chn P (t + 1) (k' + 1) s':=by
 have hp := O.pos
 have hs := O.size
 have hks := C.size
 -- the new point is on the left of the edges that are left
 have new : ∀ d i,i + 2 + d = k' → 0 < cross (s i) (s (i + 1)) (P t):=by
  intro d
  induction d with
  | zero =>
   intro i hi
   have := h (by omega)
   rwa [show k' - 2 = i by omega,show k' - 1 = i + 1 by omega] at this
  | succ d ih =>
   intro i hi
   exact left4 (C.fwd i (by omega)) (C.fwd (i + 1) (by omega)) (C.behind_t hP ht (by omega)) (C.turn i (by omega)) (ih (i + 1) (by omega))
 refine ⟨by omega,by omega,?_,?_,fun i hi => ?_,fun i hi => ?_,fun i hi => ?_,fun i hi r hr => ?_⟩
 ·rw [e 0 (by omega)];exact C.first
 ·rw [Nat.add_sub_cancel,Nat.add_sub_cancel];exact eq
 ·by_cases h1 : i + 1 < k'
  ·rw [e i (by omega),e (i + 1) h1];exact C.fwd i (by omega)
  ·have : i + 1 = k':=by omega
   rw [e i (by omega),this,eq]
   exact C.behind_t hP ht (by omega)
 ·by_cases h1 : i < k'
  ·obtain ⟨j,hj,h2⟩ := C.mem i (by omega)
   exact ⟨j,by omega,by rw [e i h1];exact h2⟩
  ·have : i = k':=by omega
   exact ⟨t,by omega,by rw [this];exact eq⟩
 ·by_cases h1 : i + 2 < k'
  ·rw [e i (by omega),e (i + 1) (by omega),e (i + 2) h1];exact C.turn i (by omega)
  ·have : i + 2 = k':=by omega
   rw [e i (by omega),e (i + 1) (by omega),this,eq]
   exact new 0 i (by omega)
 ·by_cases h1 : i + 1 < k'
  ·rw [e i (by omega),e (i + 1) h1]
   by_cases h2 : r = t
   ·rw [h2];exact .inl (new (k' - i - 2) i (by omega))
   ·exact C.edge i (by omega) r (by omega)
  ·have hk : i + 1 = k':=by omega
   have hi1 : i = k' - 1:=by omega
   rw [e i (by omega),hk,eq]
   by_cases h2 : r = t
   ·rw [h2]
    have z : cross (s i) (P t) (P t) = 0:=by unfold cross;grind
    exact leftOn_fw (by omega) (.inr (C.behind_t hP ht (by omega))) (.inl rfl)
   ·by_cases hv : s i = P r ∨ fw (s i) (P r)
    ·rw [hi1] at hv ⊢
     exact O.high r (by omega) hv
    ·have hlt : fw (P r) (s i):=by
      unfold fw at hv ⊢
      have : ¬ (s i = P r):=fun e => hv (.inl e)
      have h3 : ¬ ((s i).1 = (P r).1 ∧ (s i).2 = (P r).2):=fun e => this (Prod.ext e.1 e.2)
      have h4 : ¬ ((s i).1 < (P r).1 ∨ (s i).1 = (P r).1 ∧ (s i).2 < (P r).2):=fun e => hv (.inr e)
      omega
     by_cases h3 : 1 < k'
     ·have h4 := h h3
      have h5 := C.edge (k' - 2) (by omega) r (by omega)
      rw [show k' - 2 + 1 = k' - 1 by omega] at h5
      have h6 := C.fwd (k' - 2) (by omega)
      rw [show k' - 2 + 1 = k' - 1 by omega] at h6
      rw [hi1] at hlt ⊢
      exact .inl (behind h6 (C.behind_t hP ht (by omega)) h4 hlt h5.nonneg)
     ·have : i = 0:=by omega
      rw [this,C.first] at hlt
      rcases Nat.eq_zero_or_pos r with hr0 | hr0
      ·rw [hr0] at hlt;exact hlt.irr.elim
      ·exact (hlt.asymm (hP 0 r hr0 (by omega))).elim
end
end Geo
/-
 The hull: its corners,one after the other,each of them the point that has all others on its left.
-/
set_option linter.all false
namespace Geo
def ng (p : Pt) : Pt:=(-p.1, -p.2)
theorem cross_ng (a b c : Pt) : cross (ng a) (ng b) (ng c) = cross a b c:=by unfold ng cross;simp only;grind
theorem ng_ng (a : Pt) : ng (ng a) = a:=by unfold ng;simp
theorem ng_inj {a b : Pt} (h : ng a = ng b) : a = b:=by rw [← ng_ng a,h,ng_ng]
theorem on_ng (q a b : Pt) : On (ng q) (ng a) (ng b) ↔ On q a b:=by
 unfold On
 rw [cross_ng]
 unfold ng btw
 simp only
 omega
theorem leftOn_ng (a b c : Pt) : LeftOn (ng a) (ng b) (ng c) ↔ LeftOn a b c:=by unfold LeftOn;rw [cross_ng,on_ng]
theorem fw_ng {a b : Pt} : fw (ng a) (ng b) ↔ fw b a:=by unfold fw ng;simp only;omega
structure Hul (n : Nat) (p : Nat → Pt) (m : Nat) (h : Nat → Pt) : Prop where
 pos : 0 < m
 first : ∀ r,r < n → h 0 = p r ∨ fw (h 0) (p r)
 mem : ∀ i,i < m → ∃ r,r < n ∧ h i = p r
 back : ∀ i,0 < i → i < m → h i ≠ h 0
 edge : 1 < m → ∀ i,i < m → ∀ r,r < n → LeftOn (h i) (h (nx m i)) (p r)
 one : m = 1 → ∀ r,r < n → p r = h 0
theorem leftOn_eq {a b c : Pt} (hb : b ≠ a) (hc : c ≠ a) (h1 : LeftOn a b c) (h2 : LeftOn a c b) : b = c:=by
 have e : cross a c b = - cross a b c:=by unfold cross;grind
 rcases h1 with h1 | ⟨h1,h3,h4⟩
 ·rcases h2 with h2 | ⟨h2,_,_⟩ <;> omega
 ·rcases h2 with h2 | ⟨h2,h5,h6⟩
  ·omega
  ·unfold btw at *
   have hb' : ¬ (b.1 = a.1 ∧ b.2 = a.2):=fun hh => hb (Prod.ext hh.1 hh.2)
   have hc' : ¬ (c.1 = a.1 ∧ c.2 = a.2):=fun hh => hc (Prod.ext hh.1 hh.2)
   exact Prod.ext (by omega) (by omega)
theorem pigeon : ∀ (n m : Nat) (f : Nat → Nat),(∀ i,i < m → f i < n) → (∀ i j,i < m → j < m → f i = f j → i = j) → m ≤ n
 | 0,m,f,h,_ => by
  rcases Nat.eq_zero_or_pos m with h0 | h0
  ·omega
  ·have := h 0 h0;omega
 | n + 1,m,f,h,inj => by
  by_cases hx : ∃ i,i < m ∧ f i = n
  ·obtain ⟨i,hi,e⟩ := hx
   have := pigeon n (m - 1) (fun j => if j = i then f (m - 1) else f j) (fun j hj => by
    by_cases hji : j = i
    ·simp only [if_pos hji]
     have h1 := h (m - 1) (by omega)
     have h2 : f (m - 1) ≠ n:=fun hh => by have := inj (m - 1) i (by omega) hi (hh.trans e.symm);omega
     omega
    ·simp only [if_neg hji]
     have h1 := h j (by omega)
     have h2 : f j ≠ n:=fun hh => hji (inj j i (by omega) hi (hh.trans e.symm))
     omega) (fun j k hj hk hh => by
    by_cases h1 : j = i
    ·by_cases h2 : k = i
     ·omega
     ·simp only [if_pos h1,if_neg h2] at hh
      have := inj _ _ (by omega) (by omega) hh;omega
    ·by_cases h2 : k = i
     ·simp only [if_neg h1,if_pos h2] at hh
      have := inj _ _ (by omega) (by omega) hh;omega
     ·simp only [if_neg h1,if_neg h2] at hh
      exact inj _ _ (by omega) (by omega) hh)
   omega
  ·have := pigeon n m f (fun i hi => by
    have h1 := h i hi
    have h2 : f i ≠ n:=fun hh => hx ⟨i,hi,hh⟩
    omega) inj
   omega
section
variable {n m : Nat} {p h : Nat → Pt}
theorem Hul.step (H : Hul n p m h) (hm : 1 < m) {i : Nat} (hi : i < m) : h (nx m i) ≠ h i:=by
 intro e
 have h1 := H.back 1 (by omega) hm
 -- all points would lie at h i
 have all : ∀ r,r < n → 0 < cross (h i) (h i) (p r) ∨ p r = h i:=by
  intro r hr
  have := H.edge hm i hi r hr
  rw [e] at this
  rcases this with k | ⟨_,k1,k2⟩
  ·exact .inl k
  ·right
   unfold btw at k1 k2
   exact Prod.ext (by omega) (by omega)
 have z : ∀ q,cross (h i) (h i) q = 0:=fun q => by unfold cross;grind
 have same : ∀ j,j < m → h j = h i:=by
  intro j hj
  obtain ⟨r,hr,e2⟩ := H.mem j hj
  rcases all r hr with k | k
  ·rw [z] at k;omega
  ·rw [e2,k]
 exact h1 ((same 1 hm).trans (same 0 (by omega)).symm)
theorem Hul.next (H : Hul n p m h) (hm : 1 < m) {i j : Nat} (hi : i < m) (hj : j < m) (e : h i = h j) : h (nx m i) = h (nx m j):=by
 have hxi : nx m i < m := Nat.mod_lt _ (by omega)
 have hxj : nx m j < m := Nat.mod_lt _ (by omega)
 obtain ⟨r,hr,er⟩ := H.mem _ hxi
 obtain ⟨s,hs,es⟩ := H.mem _ hxj
 have k1 := H.edge hm i hi s hs
 have k2 := H.edge hm j hj r hr
 rw [← es] at k1
 rw [← er,← e] at k2
 exact leftOn_eq (H.step hm hi) (by rw [e];exact H.step hm hj) k1 k2
theorem Hul.inj (H : Hul n p m h) {i j : Nat} (hij : i < j) (hj : j < m) : h i ≠ h j:=by
 intro e
 have key : ∀ d,j + d < m → h (i + d) = h (j + d):=by
  intro d
  induction d with
  | zero => intro _;exact e
  | succ d ih =>
   intro hd
   have := H.next (by omega) (show i + d < m by omega) (show j + d < m by omega) (ih (by omega))
   unfold nx at this
   rwa [Nat.mod_eq_of_lt (by omega),Nat.mod_eq_of_lt (by omega)] at this
 have h1 := H.next (by omega) (show i + (m - 1 - j) < m by omega) (show m - 1 < m by omega) (by
  have := key (m - 1 - j) (by omega)
  rwa [show j + (m - 1 - j) = m - 1 by omega] at this)
 unfold nx at h1
 rw [show m - 1 + 1 = m by omega,Nat.mod_self,Nat.mod_eq_of_lt (by omega)] at h1
 exact H.back _ (by omega) (by omega) h1
theorem Hul.size (H : Hul n p m h) : m ≤ n:=by
 have : ∃ f : Nat → Nat,∀ i,i < m → f i < n ∧ h i = p (f i):=by
  refine ⟨fun i => if hi : i < m then Classical.choose (H.mem i hi) else 0,fun i hi => ?_⟩
  simp only [dif_pos hi]
  exact Classical.choose_spec (H.mem i hi)
 obtain ⟨f,hf⟩ := this
 refine pigeon n m f (fun i hi => (hf i hi).1) (fun i j hi hj e => ?_)
 have e2 : h i = h j:=by rw [(hf i hi).2,(hf j hj).2,e]
 rcases Nat.lt_trichotomy i j with k | k | k
 ·exact absurd e2 (H.inj k hj)
 ·exact k
 ·exact absurd e2.symm (H.inj k hi)
end
section
variable {P : Nat → Pt} {N n : Nat} {p : Nat → Pt}
theorem Chn.two {k : Nat} {s : Nat → Pt} (hP : ∀ i j,i < j → j < N → fw (P i) (P j)) (hN : 2 ≤ N) (C : Chn P N k s) : 2 ≤ k:=by
 have h1 := C.pos
 have h2 := C.last
 rcases Nat.lt_or_ge k 2 with h | h
 ·exfalso
  have : k = 1:=by omega
  subst this
  rw [show 1 - 1 = 0 from rfl,C.first] at h2
  have := hP 0 (N - 1) (by omega) (by omega)
  rw [h2] at this
  exact this.irr
 ·exact h
theorem Chn.ahead {k : Nat} {s : Nat → Pt} (C : Chn P N k s) : ∀ d i,0 < d → i + d < k → fw (s i) (s (i + d)):=by
 intro d
 induction d with
 | zero => intro i h;omega
 | succ d ih =>
  intro i _ hi
  rcases Nat.eq_zero_or_pos d with h | h
  ·subst h;exact C.fwd i hi
  ·exact (ih i h (by omega)).trans (C.fwd (i + d) hi)
theorem hul_of (hP : ∀ i j,i < j → j < N → fw (P i) (P j)) (hN : 2 ≤ N) {k1 k2 : Nat} {s1 s2 h : Nat → Pt} (C1 : Chn P N k1 s1) (C2 : Chn (fun i => ng (P (N - 1 - i))) N k2 (fun i => ng (s2 i)))
  (cov : ∀ r,r < n → ∃ j,j < N ∧ p r = P j) (bck : ∀ j,j < N → ∃ r,r < n ∧ P j = p r) (e1 : ∀ i,i < k1 - 1 → h i = s1 i) (e2 : ∀ i,i < k2 - 1 → h (k1 - 1 + i) = s2 i) : Hul n p (k1 - 1 + (k2 - 1)) h:=by
 have hP' : ∀ i j,i < j → j < N → fw ((fun i => ng (P (N - 1 - i))) i) ((fun i => ng (P (N - 1 - i))) j):=fun i j hij hj => fw_ng.2 (hP _ _ (by omega) (by omega))
 have h1 := C1.two hP hN
 have h2 := C2.two hP' hN
 have f1 := C1.first
 have l1 := C1.last
 have f2 : s2 0 = P (N - 1):=by
  have := ng_inj C2.first
  rwa [Nat.sub_zero] at this
 have l2 : s2 (k2 - 1) = P 0:=by
  have := ng_inj C2.last
  rwa [show N - 1 - (N - 1) = 0 by omega] at this
 have ed2 : ∀ i,i + 1 < k2 → ∀ r,r < N → LeftOn (s2 i) (s2 (i + 1)) (P r):=by
  intro i hi r hr
  have:=(leftOn_ng _ _ _).1 (C2.edge i hi (N - 1 - r) (by omega))
  rwa [show N - 1 - (N - 1 - r) = r by omega] at this
 have h00 : h 0 = P 0:=by rw [e1 0 (by omega),f1]
 refine ⟨by omega,fun r hr => ?_,fun i hi => ?_,fun i hi0 hi => ?_,fun hm i hi r hr => ?_,fun hm => by omega⟩
 ·obtain ⟨j,hj,e⟩ := cov r hr
  rw [h00,e]
  rcases Nat.eq_zero_or_pos j with h0 | h0
  ·rw [h0];exact .inl rfl
  ·exact .inr (hP 0 j h0 hj)
 ·by_cases hik : i < k1 - 1
  ·obtain ⟨j,hj,e⟩ := C1.mem i (by omega)
   obtain ⟨r,hr,e'⟩ := bck j hj
   exact ⟨r,hr,by rw [e1 i hik,e,e']⟩
  ·obtain ⟨j,hj,e⟩ := C2.mem (i - (k1 - 1)) (by omega)
   obtain ⟨r,hr,e'⟩ := bck (N - 1 - j) (by omega)
   have := e2 (i - (k1 - 1)) (by omega)
   rw [show k1 - 1 + (i - (k1 - 1)) = i by omega] at this
   exact ⟨r,hr,by rw [this,ng_inj e,e']⟩
 ·rw [h00]
  by_cases hik : i < k1 - 1
  ·rw [e1 i hik,← f1]
   intro e
   have := C1.ahead i 0 hi0 (by omega)
   rw [Nat.zero_add,e] at this
   exact this.irr
  ·have := e2 (i - (k1 - 1)) (by omega)
   rw [show k1 - 1 + (i - (k1 - 1)) = i by omega] at this
   rw [this,← l2]
   intro e
   have k := C2.ahead (k2 - 1 - (i - (k1 - 1))) (i - (k1 - 1)) (by omega) (by omega)
   rw [show i - (k1 - 1) + (k2 - 1 - (i - (k1 - 1))) = k2 - 1 by omega] at k
   simp only [e] at k
   exact k.irr
 ·obtain ⟨j,hj,e⟩ := cov r hr
  rw [e]
  unfold nx
  by_cases hi1 : i + 1 < k1 - 1
  ·rw [Nat.mod_eq_of_lt (by omega),e1 i (by omega),e1 _ hi1]
   exact C1.edge i (by omega) j hj
  ·by_cases hi2 : i + 1 = k1 - 1
   ·have e3 := e2 0 (by omega)
    rw [Nat.add_zero] at e3
    rw [Nat.mod_eq_of_lt (by omega),hi2,e3,f2,← l1,e1 i (by omega)]
    have := C1.edge i (by omega) j hj
    rwa [show i + 1 = k1 - 1 by omega] at this
   ·have e4 := e2 (i - (k1 - 1)) (by omega)
    rw [show k1 - 1 + (i - (k1 - 1)) = i by omega] at e4
    by_cases hi3 : i + 1 < k1 - 1 + (k2 - 1)
    ·have e5 := e2 (i + 1 - (k1 - 1)) (by omega)
     rw [show k1 - 1 + (i + 1 - (k1 - 1)) = i + 1 by omega] at e5
     rw [Nat.mod_eq_of_lt hi3,e4,e5,show i + 1 - (k1 - 1) = (i - (k1 - 1)) + 1 by omega]
     exact ed2 _ (by omega) j hj
    ·rw [show i + 1 = k1 - 1 + (k2 - 1) by omega,Nat.mod_self,e4,h00,← l2]
     have := ed2 (i - (k1 - 1)) (by omega) j hj
     rwa [show i - (k1 - 1) + 1 = k2 - 1 by omega] at this
theorem hul_two (h01 : fw (P 0) (P 1)) (cov : ∀ r,r < n → ∃ j,j < 2 ∧ p r = P j) (bck : ∀ j,j < 2 → ∃ r,r < n ∧ P j = p r) : Hul n p 2 P:=by
 have z : ∀ a b : Pt,On a a b ∧ On b a b:=fun a b => ⟨⟨by unfold cross;grind,by unfold btw;omega,by unfold btw;omega⟩,⟨by unfold cross;grind,by unfold btw;omega,by unfold btw;omega⟩⟩
 refine ⟨by omega,fun r hr => ?_,fun i hi => bck i hi,fun i hi0 hi e => ?_,fun _ i hi r hr => ?_,fun hm => by omega⟩
 ·obtain ⟨j,hj,e⟩ := cov r hr
  rw [e]
  match j,hj with
  | 0,_ => exact .inl rfl
  | 1,_ => exact .inr h01
 ·have : i = 1:=by omega
  subst this
  rw [e] at h01
  exact h01.irr
 ·obtain ⟨j,hj,e⟩ := cov r hr
  rw [e]
  match i,hi,j,hj with
  | 0,_,0,_ => exact .inr (z _ _).1
  | 0,_,1,_ => exact .inr (z _ _).2
  | 1,_,0,_ => exact .inr (z _ _).2
  | 1,_,1,_ => exact .inr (z _ _).1
theorem hul_one (hn : 0 < n) (cov : ∀ r,r < n → p r = P 0) : Hul n p 1 P :=
 ⟨by omega,fun r hr => .inl (cov r hr).symm,fun i hi => ⟨0,hn,by rw [cov 0 hn];congr 1;omega⟩,fun i h1 h2 => by omega,fun h => by omega,fun _ r hr => cov r hr⟩
end
end Geo
