/-
  Closed contours by their levels: what lies to the right of an edge is the same all along the contour, and so the area is not zero.
-/
set_option linter.all false
namespace Geo

def sm : Nat → (Nat → Int) → Int
  | 0, _ => 0
  | n + 1, f => sm n f + f n
theorem sm_congr {n : Nat} {f g : Nat → Int} (h : ∀ i, i < n → f i = g i) : sm n f = sm n g := by
  induction n with
  | zero => rfl
  | succ n ih => rw [sm, sm, ih fun i hi => h i (by omega), h n (by omega)]
theorem sm_add (n : Nat) (f g : Nat → Int) : sm n (fun i => f i + g i) = sm n f + sm n g := by
  induction n with
  | zero => rfl
  | succ n ih => rw [sm, sm, sm, ih]; omega
theorem sm_sub (n : Nat) (f g : Nat → Int) : sm n (fun i => f i - g i) = sm n f - sm n g := by
  induction n with
  | zero => rfl
  | succ n ih => rw [sm, sm, sm, ih]; omega
theorem sm_mul (n : Nat) (c : Int) (f : Nat → Int) : sm n (fun i => c * f i) = c * sm n f := by
  induction n with
  | zero => simp [sm]
  | succ n ih => rw [sm, sm, ih, Int.mul_add]
theorem sm_zero (n : Nat) : sm n (fun _ => 0) = 0 := by
  induction n with
  | zero => rfl
  | succ n ih => rw [sm, ih]; rfl
theorem sm_swap (n m : Nat) (f : Nat → Nat → Int) : sm n (fun i => sm m (fun j => f i j)) = sm m (fun j => sm n (fun i => f i j)) := by
  induction n with
  | zero =>
    simp only [sm]
    rw [sm_zero]
  | succ n ih =>
    simp only [sm]
    rw [ih, sm_add]
theorem sm_shift (n : Nat) (f : Nat → Int) : sm n (fun i => f (i + 1)) + f 0 = sm n f + f n := by
  induction n with
  | zero => simp [sm]
  | succ n ih => rw [sm, sm]; omega
theorem sm_next (n : Nat) (f : Nat → Int) : sm n (fun i => f ((i + 1) % n)) = sm n f := by
  cases n with
  | zero => rfl
  | succ n =>
    rw [sm, sm, Nat.mod_self]
    rw [sm_congr (g := fun i => f (i + 1)) (fun i hi => by rw [Nat.mod_eq_of_lt (by omega)])]
    exact sm_shift n f
theorem sm_cycle (n : Nat) (f : Nat → Int) : sm n (fun i => f ((i + 1) % n) - f i) = 0 := by
  rw [sm_sub, sm_next]; omega
theorem sm_nonneg {n : Nat} {f : Nat → Int} (h : ∀ i, i < n → 0 ≤ f i) : 0 ≤ sm n f := by
  induction n with
  | zero => exact Int.le_refl 0
  | succ n ih =>
    rw [sm]
    have := ih fun i hi => h i (by omega)
    have := h n (by omega)
    omega
theorem sm_pos {n : Nat} {f : Nat → Int} (h : ∀ i, i < n → 0 ≤ f i) {k : Nat} (hk : k < n) (hp : 0 < f k) : 0 < sm n f := by
  induction n with
  | zero => omega
  | succ n ih =>
    rw [sm]
    have h0 := sm_nonneg fun i hi => h i (Nat.lt_succ_of_lt hi)
    have h1 := h n (by omega)
    by_cases e : k = n
    · subst e; omega
    · have := ih (fun i hi => h i (by omega)) (by omega)
      omega
/-- all terms but one are zero -/
theorem sm_one {n : Nat} {f : Nat → Int} {k : Nat} (hk : k < n) (h : ∀ i, i < n → i ≠ k → f i = 0) : sm n f = f k := by
  induction n with
  | zero => omega
  | succ n ih =>
    rw [sm]
    by_cases e : k = n
    · subst e
      rw [sm_congr (g := fun _ => 0) (fun i hi => h i (by omega) (by omega)), sm_zero]; omega
    · rw [ih (by omega) (fun i hi => h i (by omega)), h n (by omega) (by omega)]; omega

def nx (n i : Nat) : Nat := (i + 1) % n

/-- A closed contour of n corners by levels: H: the corners' heights; V: their places at their heights; X e t: the place of edge e at height t. -/
structure Lev (n : Nat) where
  H : Nat → Int
  V : Nat → Int
  X : Nat → Int → Int

def Lev.rng {n : Nat} (L : Lev n) (e : Nat) (t : Int) : Prop := (L.H e ≤ t ∧ t ≤ L.H (nx n e)) ∨ (L.H (nx n e) ≤ t ∧ t ≤ L.H e)
/-- e and i both pass height t, and not by a corner of both -/
def Lev.sep {n : Nat} (L : Lev n) (e i : Nat) (t : Int) : Prop := L.rng e t ∧ L.rng i t ∧ ¬ (nx n e = i ∧ L.H i = t) ∧ ¬ (nx n i = e ∧ L.H e = t)

structure Lev.Fine {n : Nat} (L : Lev n) : Prop where
  big : 3 ≤ n
  even : ∀ i, ∃ k, L.H i = 2 * k
  inj : ∀ i j, i < n → j < n → i ≠ j → L.H i ≠ L.H j
  aff : ∀ e, e < n → ∃ c s, ∀ t, L.X e t = c + s * t
  start : ∀ e, e < n → L.X e (L.H e) = L.V e
  stop : ∀ e, e < n → L.X e (L.H (nx n e)) = L.V (nx n e)
  order : ∀ e i t t', e < n → i < n → e ≠ i → L.sep e i t → L.sep e i t' → (L.X e t < L.X i t ∧ L.X e t' < L.X i t') ∨ (L.X i t < L.X e t ∧ L.X i t' < L.X e t')

section
variable {n : Nat} (L : Lev n)
def Lev.g (i : Nat) (t : Int) : Int := if t < L.H i then 1 else 0
def Lev.da (i : Nat) (t : Int) : Int := L.g (nx n i) t - L.g i t
/-- is edge i to the right of edge e? -/
def Lev.rt (e i : Nat) (t : Int) : Int := if L.X e t < L.X i t then 1 else 0
def Lev.r (e : Nat) (t : Int) : Int := sm n fun i => L.rt e i t * L.da i t
end

section
variable {n : Nat} {L : Lev n}
theorem nx_lt {i : Nat} (h : 3 ≤ n) : nx n i < n := Nat.mod_lt _ (by omega)
theorem nx_ne {i : Nat} (h : 3 ≤ n) (hi : i < n) : nx n i ≠ i := by
  unfold nx
  by_cases e : i + 1 = n
  · rw [e, Nat.mod_self]; omega
  · rw [Nat.mod_eq_of_lt (by omega)]; omega
theorem nx_inj {i j : Nat} (hi : i < n) (hj : j < n) (h : nx n i = nx n j) : i = j := by
  unfold nx at h
  by_cases e : i + 1 = n <;> by_cases e' : j + 1 = n
  · omega
  · rw [e, Nat.mod_self, Nat.mod_eq_of_lt (by omega)] at h; omega
  · rw [e', Nat.mod_self, Nat.mod_eq_of_lt (by omega)] at h; omega
  · rw [Nat.mod_eq_of_lt (by omega), Nat.mod_eq_of_lt (by omega)] at h; omega

theorem Lev.rt_self (e : Nat) (t : Int) : L.rt e e t = 0 := by unfold Lev.rt; rw [if_neg (by omega)]
theorem Lev.rt_same (F : L.Fine) {e i : Nat} {t t' : Int} (he : e < n) (hi : i < n) (hne : e ≠ i) (h : L.sep e i t) (h' : L.sep e i t') : L.rt e i t = L.rt e i t' := by
  unfold Lev.rt
  rcases F.order e i t t' he hi hne h h' with ⟨h1, h2⟩ | ⟨h1, h2⟩
  · rw [if_pos h1, if_pos h2]
  · rw [if_neg (by omega), if_neg (by omega)]
theorem Lev.rt_flip (F : L.Fine) {e i : Nat} {t : Int} (he : e < n) (hi : i < n) (hne : e ≠ i) (h : L.sep e i t) : L.rt i e t = 1 - L.rt e i t := by
  unfold Lev.rt
  rcases F.order e i t t he hi hne h h with ⟨h1, h2⟩ | ⟨h1, h2⟩
  · rw [if_neg (by omega), if_pos h1]; rfl
  · rw [if_pos h1, if_neg (by omega)]; rfl

/-- at an odd height no corner is met -/
theorem Lev.sep_odd (F : L.Fine) {e i : Nat} {t k : Int} (ht : t = 2 * k + 1) (h1 : L.rng e t) (h2 : L.rng i t) : L.sep e i t := by
  refine ⟨h1, h2, fun h => ?_, fun h => ?_⟩
  · obtain ⟨q, hq⟩ := F.even i; omega
  · obtain ⟨q, hq⟩ := F.even e; omega
theorem Lev.da_odd {i : Nat} {t : Int} (h : L.da i t ≠ 0) : L.rng i t := by
  unfold Lev.da Lev.g at h
  unfold Lev.rng
  split at h <;> split at h <;> omega

/-- what lies to the right of an edge is the same at all heights -/
theorem Lev.r_step (F : L.Fine) {e : Nat} (he : e < n) {k : Int} (h1 : L.rng e (2 * k - 1)) (h2 : L.rng e (2 * k + 1)) : L.r e (2 * k + 1) = L.r e (2 * k - 1) := by
  have hb := F.big
  have h3 : L.rng e (2 * k) := by unfold Lev.rng at *; omega
  have e0 : L.H e ≠ 2 * k := by
    intro h; unfold Lev.rng at h1 h2; omega
  have e1 : L.H (nx n e) ≠ 2 * k := by
    intro h; unfold Lev.rng at h1 h2; omega
  have key : L.r e (2 * k + 1) - L.r e (2 * k - 1) = sm n fun i => (if L.X e (2 * k) < L.V (nx n i) then 1 else 0) * (L.g (nx n i) (2 * k + 1) - L.g (nx n i) (2 * k - 1)) - (if L.X e (2 * k) < L.V i then 1 else 0) * (L.g i (2 * k + 1) - L.g i (2 * k - 1)) := by
    unfold Lev.r
    rw [← sm_sub]
    refine sm_congr fun i hi => ?_
    have hx : nx n i < n := nx_lt hb
    have de : ∀ j, L.H j ≠ 2 * k → L.g j (2 * k + 1) - L.g j (2 * k - 1) = 0 := by
      intro j hj
      obtain ⟨q, hq⟩ := F.even j
      unfold Lev.g
      by_cases h : 2 * k + 1 < L.H j
      · rw [if_pos h, if_pos (by omega)]; rfl
      · rw [if_neg h, if_neg (by omega)]; rfl
    by_cases hie : i = e
    · subst hie
      rw [L.rt_self, L.rt_self, de _ e0, de _ e1]; simp
    · have hei : e ≠ i := fun h => hie h.symm
      obtain ⟨q0, hq0⟩ := F.even i
      obtain ⟨q1, hq1⟩ := F.even (nx n i)
      by_cases hi0 : L.H i = 2 * k
      · have hn0 : L.H (nx n i) ≠ 2 * k := fun h => F.inj _ _ hx hi (nx_ne hb hi) (h.trans hi0.symm)
        have s0 : L.sep e i (2 * k) := by
          refine ⟨h3, ?_, fun h => e1 (h.1 ▸ h.2), fun h => e0 h.2⟩
          unfold Lev.rng; omega
        have hV : L.X i (2 * k) = L.V i := by rw [← hi0]; exact F.start i hi
        have hr : (if L.X e (2 * k) < L.V i then (1 : Int) else 0) = L.rt e i (2 * k) := by unfold Lev.rt; rw [hV]
        rw [hr, de _ hn0]
        by_cases hup : 2 * k < L.H (nx n i)
        · have s1 : L.sep e i (2 * k + 1) := Lev.sep_odd F (k := k) rfl h2 (by unfold Lev.rng; omega)
          have d1 : L.da i (2 * k + 1) = 1 := by unfold Lev.da Lev.g; rw [if_pos (by omega), if_neg (by omega)]; rfl
          have d2 : L.da i (2 * k - 1) = 0 := by unfold Lev.da Lev.g; rw [if_pos (by omega), if_pos (by omega)]; rfl
          have d3 : L.g i (2 * k + 1) - L.g i (2 * k - 1) = -1 := by unfold Lev.g; rw [if_neg (by omega), if_pos (by omega)]; rfl
          rw [d1, d2, d3, L.rt_same F he hi hei s1 s0]; omega
        · have s1 : L.sep e i (2 * k - 1) := Lev.sep_odd F (k := k - 1) (by omega) h1 (by unfold Lev.rng; omega)
          have d1 : L.da i (2 * k + 1) = 0 := by unfold Lev.da Lev.g; rw [if_neg (by omega), if_neg (by omega)]; rfl
          have d2 : L.da i (2 * k - 1) = -1 := by unfold Lev.da Lev.g; rw [if_neg (by omega), if_pos (by omega)]; rfl
          have d3 : L.g i (2 * k + 1) - L.g i (2 * k - 1) = -1 := by unfold Lev.g; rw [if_neg (by omega), if_pos (by omega)]; rfl
          rw [d1, d2, d3, L.rt_same F he hi hei s1 s0]; omega
      · by_cases hi1 : L.H (nx n i) = 2 * k
        · have s0 : L.sep e i (2 * k) := by
            refine ⟨h3, ?_, fun h => hi0 h.2, fun h => e0 h.2⟩
            unfold Lev.rng; omega
          have hV : L.X i (2 * k) = L.V (nx n i) := by rw [← hi1]; exact F.stop i hi
          have hr : (if L.X e (2 * k) < L.V (nx n i) then (1 : Int) else 0) = L.rt e i (2 * k) := by unfold Lev.rt; rw [hV]
          rw [hr, de _ hi0]
          by_cases hup : L.H i < 2 * k
          · have s1 : L.sep e i (2 * k - 1) := Lev.sep_odd F (k := k - 1) (by omega) h1 (by unfold Lev.rng; omega)
            have d1 : L.da i (2 * k + 1) = 0 := by unfold Lev.da Lev.g; rw [if_neg (by omega), if_neg (by omega)]; rfl
            have d2 : L.da i (2 * k - 1) = 1 := by unfold Lev.da Lev.g; rw [if_pos (by omega), if_neg (by omega)]; rfl
            have d3 : L.g (nx n i) (2 * k + 1) - L.g (nx n i) (2 * k - 1) = -1 := by unfold Lev.g; rw [if_neg (by omega), if_pos (by omega)]; rfl
            rw [d1, d2, d3, L.rt_same F he hi hei s1 s0]; omega
          · have s1 : L.sep e i (2 * k + 1) := Lev.sep_odd F (k := k) rfl h2 (by unfold Lev.rng; omega)
            have d1 : L.da i (2 * k + 1) = -1 := by unfold Lev.da Lev.g; rw [if_neg (by omega), if_pos (by omega)]; rfl
            have d2 : L.da i (2 * k - 1) = 0 := by unfold Lev.da Lev.g; rw [if_pos (by omega), if_pos (by omega)]; rfl
            have d3 : L.g (nx n i) (2 * k + 1) - L.g (nx n i) (2 * k - 1) = -1 := by unfold Lev.g; rw [if_neg (by omega), if_pos (by omega)]; rfl
            rw [d1, d2, d3, L.rt_same F he hi hei s1 s0]; omega
        · rw [de _ hi0, de _ hi1]
          have dd : L.da i (2 * k + 1) = L.da i (2 * k - 1) := by
            have a := de _ hi0
            have b := de _ hi1
            unfold Lev.da; omega
          rw [dd]
          by_cases hz : L.da i (2 * k - 1) = 0
          · rw [hz]; simp
          · have s1 := Lev.sep_odd F (k := k) rfl h2 (Lev.da_odd (dd ▸ hz))
            have s2 := Lev.sep_odd F (k := k - 1) (by omega) h1 (Lev.da_odd hz)
            rw [L.rt_same F he hi hei s1 s2]; simp
  have cyc := sm_cycle n fun j => (if L.X e (2 * k) < L.V j then 1 else 0) * (L.g j (2 * k + 1) - L.g j (2 * k - 1))
  have e2 : (sm n fun i => (if L.X e (2 * k) < L.V (nx n i) then 1 else 0) * (L.g (nx n i) (2 * k + 1) - L.g (nx n i) (2 * k - 1)) - (if L.X e (2 * k) < L.V i then 1 else 0) * (L.g i (2 * k + 1) - L.g i (2 * k - 1))) = 0 := cyc
  rw [e2] at key
  omega

theorem Lev.r_const (F : L.Fine) {e : Nat} (he : e < n) : ∀ (d : Nat) (k : Int), L.rng e (2 * k + 1) → L.rng e (2 * (k + d) + 1) → L.r e (2 * (k + d) + 1) = L.r e (2 * k + 1)
  | 0, k, _, _ => by simp
  | d + 1, k, h1, h2 => by
    have e1 : 2 * (k + (d + 1 : Nat)) + 1 = 2 * (k + d + 1) + 1 := by omega
    have h3 : L.rng e (2 * (k + d) + 1) := by unfold Lev.rng at *; omega
    have h4 := Lev.r_const F he d k h1 h3
    rw [← h4, e1]
    have h5 := Lev.r_step F he (k := k + d + 1) (by rw [show 2 * (k + d + 1) - 1 = 2 * (k + d) + 1 from by omega]; exact h3) (by rw [← e1]; exact h2)
    rw [show 2 * (k + d + 1) - 1 = 2 * (k + d) + 1 from by omega] at h5
    exact h5
theorem Lev.r_all (F : L.Fine) {e : Nat} (he : e < n) {k k' : Int} (h1 : L.rng e (2 * k + 1)) (h2 : L.rng e (2 * k' + 1)) : L.r e (2 * k + 1) = L.r e (2 * k' + 1) := by
  by_cases h : k ≤ k'
  · have := Lev.r_const F he (k' - k).toNat k h1 (by rw [show k + ((k' - k).toNat : Int) = k' from by omega]; exact h2)
    rw [show k + ((k' - k).toNat : Int) = k' from by omega] at this
    exact this.symm
  · have := Lev.r_const F he (k - k').toNat k' h2 (by rw [show k' + ((k - k').toNat : Int) = k from by omega]; exact h1)
    rw [show k' + ((k - k').toNat : Int) = k from by omega] at this
    exact this
end
end Geo
