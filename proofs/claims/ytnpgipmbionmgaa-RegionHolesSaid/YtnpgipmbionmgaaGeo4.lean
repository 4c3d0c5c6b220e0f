/-
  Closed contours by their levels, part 2: round the corners; the area.
-/
import Derived.Test.YtnpgipmbionmgaaGeo3
set_option linter.all false
namespace Geo
section
variable {n : Nat} {L : Lev n}

def Lev.up {n : Nat} (L : Lev n) (e : Nat) : Int := if L.H e < L.H (nx n e) then 1 else 0

theorem sm_ind {n : Nat} {k : Nat} (hk : k < n) (c : Int) : sm n (fun i => if i = k then c else 0) = c := by
  rw [sm_one hk (fun i _ hne => if_neg hne), if_pos rfl]

/-- the other edges at a corner's height -/
theorem Lev.mid1 (F : L.Fine) {e i : Nat} {k s : Int} (he : e < n) (hi : i < n) (h1 : i ≠ e) (h2 : i ≠ nx n e) (hk : L.H (nx n e) = 2 * k) (hs : s = 2 * k - 1 ∨ s = 2 * k + 1) (he' : L.rng e s) (hi' : L.rng i s) :
    L.rt e i s = if L.V (nx n e) < L.X i (2 * k) then 1 else 0 := by
  have hb := F.big
  have a0 : L.H i ≠ 2 * k := fun h => F.inj i (nx n e) hi (nx_lt hb) h2 (h.trans hk.symm)
  have a1 : L.H (nx n i) ≠ 2 * k := fun h => F.inj (nx n i) (nx n e) (nx_lt hb) (nx_lt hb) (fun hh => h1 (nx_inj hi he hh)) (h.trans hk.symm)
  have a2 : L.H e ≠ 2 * k := fun h => F.inj e (nx n e) he (nx_lt hb) (fun hh => nx_ne hb he hh.symm) (h.trans hk.symm)
  obtain ⟨q0, hq0⟩ := F.even i
  obtain ⟨q1, hq1⟩ := F.even (nx n i)
  have s1 : L.sep e i s := by
    rcases hs with hs | hs
    · exact Lev.sep_odd F (k := k - 1) (by omega) he' hi'
    · exact Lev.sep_odd F (k := k) hs he' hi'
  have s2 : L.sep e i (2 * k) := by
    refine ⟨by unfold Lev.rng; omega, by unfold Lev.rng at hi' ⊢; omega, fun h => a0 h.2, fun h => a2 h.2⟩
  rw [L.rt_same F he hi (fun h => h1 h.symm) s1 s2]
  unfold Lev.rt
  rw [← hk, F.stop e he]
theorem Lev.mid2 (F : L.Fine) {e i : Nat} {k s : Int} (he : e < n) (hi : i < n) (h1 : i ≠ e) (h2 : i ≠ nx n e) (hk : L.H (nx n e) = 2 * k) (hs : s = 2 * k - 1 ∨ s = 2 * k + 1) (he' : L.rng (nx n e) s) (hi' : L.rng i s) :
    L.rt (nx n e) i s = if L.V (nx n e) < L.X i (2 * k) then 1 else 0 := by
  have hb := F.big
  have hx : nx n e < n := nx_lt hb
  have a0 : L.H i ≠ 2 * k := fun h => F.inj i (nx n e) hi hx h2 (h.trans hk.symm)
  have a1 : L.H (nx n i) ≠ 2 * k := fun h => F.inj (nx n i) (nx n e) (nx_lt hb) hx (fun hh => h1 (nx_inj hi he hh)) (h.trans hk.symm)
  obtain ⟨q0, hq0⟩ := F.even i
  obtain ⟨q1, hq1⟩ := F.even (nx n i)
  have s1 : L.sep (nx n e) i s := by
    rcases hs with hs | hs
    · exact Lev.sep_odd F (k := k - 1) (by omega) he' hi'
    · exact Lev.sep_odd F (k := k) hs he' hi'
  have s2 : L.sep (nx n e) i (2 * k) := by
    refine ⟨by unfold Lev.rng; omega, by unfold Lev.rng at hi' ⊢; omega, fun h => a0 h.2, fun h => h1 (nx_inj hi he h.1)⟩
  rw [L.rt_same F hx hi (fun h => h2 h.symm) s1 s2]
  unfold Lev.rt
  rw [← hk, F.start _ hx]

theorem Lev.da_other (F : L.Fine) {i : Nat} {k : Int} (h0 : L.H i ≠ 2 * k) (h1 : L.H (nx n i) ≠ 2 * k) : L.da i (2 * k + 1) = L.da i (2 * k - 1) := by
  obtain ⟨q0, hq0⟩ := F.even i
  obtain ⟨q1, hq1⟩ := F.even (nx n i)
  have de : ∀ j, L.H j ≠ 2 * k → (∃ q, L.H j = 2 * q) → L.g j (2 * k + 1) = L.g j (2 * k - 1) := by
    intro j hj ⟨q, hq⟩
    unfold Lev.g
    by_cases h : 2 * k + 1 < L.H j
    · rw [if_pos h, if_pos (by omega)]
    · rw [if_neg h, if_neg (by omega)]
  unfold Lev.da
  rw [de _ h0 ⟨q0, hq0⟩, de _ h1 ⟨q1, hq1⟩]

/-- what the others add at a corner -/
def Lev.base {n : Nat} (L : Lev n) (e : Nat) (k : Int) : Int :=
  sm n fun i => if i = e ∨ i = nx n e then 0 else (if L.V (nx n e) < L.X i (2 * k) then 1 else 0) * L.da i (2 * k - 1)

theorem Lev.r1 (F : L.Fine) {e : Nat} {k s : Int} (he : e < n) (hk : L.H (nx n e) = 2 * k) (hs : s = 2 * k - 1 ∨ s = 2 * k + 1) (he' : L.rng e s) : L.r e s = L.base e k + L.rt e (nx n e) s * L.da (nx n e) s := by
  have hb := F.big
  have hx : nx n e < n := nx_lt hb
  unfold Lev.base
  rw [← sm_ind hx (L.rt e (nx n e) s * L.da (nx n e) s), ← sm_add]
  refine sm_congr fun i hi => ?_
  by_cases h1 : i = e
  · subst h1
    rw [L.rt_self, if_pos (.inl rfl), if_neg (fun h => nx_ne hb he h.symm)]; simp
  · by_cases h2 : i = nx n e
    · rw [if_pos (.inr h2), if_pos h2, h2]; simp
    · rw [if_neg (by omega), if_neg h2]
      have a0 : L.H i ≠ 2 * k := fun h => F.inj i (nx n e) hi hx h2 (h.trans hk.symm)
      have a1 : L.H (nx n i) ≠ 2 * k := fun h => F.inj (nx n i) (nx n e) (nx_lt hb) hx (fun hh => h1 (nx_inj hi he hh)) (h.trans hk.symm)
      have hd : L.da i s = L.da i (2 * k - 1) := by
        rcases hs with hs | hs
        · rw [hs]
        · rw [hs]; exact L.da_other F a0 a1
      rw [hd]
      by_cases hz : L.da i (2 * k - 1) = 0
      · rw [hz]; simp
      · rw [L.mid1 F he hi h1 h2 hk hs he' (Lev.da_odd (hd ▸ hz))]; simp
theorem Lev.r2 (F : L.Fine) {e : Nat} {k s : Int} (he : e < n) (hk : L.H (nx n e) = 2 * k) (hs : s = 2 * k - 1 ∨ s = 2 * k + 1) (he' : L.rng (nx n e) s) : L.r (nx n e) s = L.base e k + L.rt (nx n e) e s * L.da e s := by
  have hb := F.big
  have hx : nx n e < n := nx_lt hb
  unfold Lev.base
  rw [← sm_ind he (L.rt (nx n e) e s * L.da e s), ← sm_add]
  refine sm_congr fun i hi => ?_
  by_cases h1 : i = e
  · rw [if_pos (.inl h1), if_pos h1, h1]; simp
  · by_cases h2 : i = nx n e
    · rw [if_pos (.inr h2), if_neg h1, h2, L.rt_self]; simp
    · rw [if_neg (by omega), if_neg h1]
      have a0 : L.H i ≠ 2 * k := fun h => F.inj i (nx n e) hi hx h2 (h.trans hk.symm)
      have a1 : L.H (nx n i) ≠ 2 * k := fun h => F.inj (nx n i) (nx n e) (nx_lt hb) hx (fun hh => h1 (nx_inj hi he hh)) (h.trans hk.symm)
      have hd : L.da i s = L.da i (2 * k - 1) := by
        rcases hs with hs | hs
        · rw [hs]
        · rw [hs]; exact L.da_other F a0 a1
      rw [hd]
      by_cases hz : L.da i (2 * k - 1) = 0
      · rw [hz]; simp
      · rw [L.mid2 F he hi h1 h2 hk hs he' (Lev.da_odd (hd ▸ hz))]; simp

/-- THE SAME ALL ROUND: what lies to the right of an edge, and whether it leads up. -/
theorem Lev.round (F : L.Fine) {e : Nat} (he : e < n) : ∃ k1 k2, L.rng e (2 * k1 + 1) ∧ L.rng (nx n e) (2 * k2 + 1) ∧ L.r e (2 * k1 + 1) + L.up e = L.r (nx n e) (2 * k2 + 1) + L.up (nx n e) := by
  have hb := F.big
  have hx : nx n e < n := nx_lt hb
  have hxx : nx n (nx n e) < n := nx_lt hb
  obtain ⟨k, hk⟩ := F.even (nx n e)
  obtain ⟨q0, hq0⟩ := F.even e
  obtain ⟨q1, hq1⟩ := F.even (nx n (nx n e))
  have a0 : L.H e ≠ 2 * k := fun h => F.inj e (nx n e) he hx (fun hh => nx_ne hb he hh.symm) (h.trans hk.symm)
  have a1 : L.H (nx n (nx n e)) ≠ 2 * k := fun h => F.inj _ _ hxx hx (nx_ne hb hx) (h.trans hk.symm)
  have hne : e ≠ nx n e := fun h => nx_ne hb he h.symm
  have m1 : 2 * (k - 1) + 1 = 2 * k - 1 := by omega
  by_cases c0 : L.H e < 2 * k <;> by_cases c1 : L.H (nx n (nx n e)) < 2 * k
  · -- a top
    have g1 : L.rng e (2 * k - 1) := by unfold Lev.rng; omega
    have g2 : L.rng (nx n e) (2 * k - 1) := by unfold Lev.rng; omega
    refine ⟨k - 1, k - 1, by rw [m1]; exact g1, by rw [m1]; exact g2, ?_⟩
    rw [m1, L.r1 F he hk (.inl rfl) g1, L.r2 F he hk (.inl rfl) g2]
    have d1 : L.da e (2 * k - 1) = 1 := by unfold Lev.da Lev.g; rw [if_pos (by omega), if_neg (by omega)]; rfl
    have d2 : L.da (nx n e) (2 * k - 1) = -1 := by unfold Lev.da Lev.g; rw [if_neg (by omega), if_pos (by omega)]; rfl
    have u1 : L.up e = 1 := by unfold Lev.up; rw [if_pos (by omega)]
    have u2 : L.up (nx n e) = 0 := by unfold Lev.up; rw [if_neg (by omega)]
    rw [d1, d2, u1, u2, L.rt_flip F he hx hne (Lev.sep_odd F (k := k - 1) (by omega) g1 g2)]
    omega
  · have g1 : L.rng e (2 * k - 1) := by unfold Lev.rng; omega
    have g2 : L.rng (nx n e) (2 * k + 1) := by unfold Lev.rng; omega
    refine ⟨k - 1, k, by rw [m1]; exact g1, g2, ?_⟩
    rw [m1, L.r1 F he hk (.inl rfl) g1, L.r2 F he hk (.inr rfl) g2]
    have d1 : L.da e (2 * k + 1) = 0 := by unfold Lev.da Lev.g; rw [if_neg (by omega), if_neg (by omega)]; rfl
    have d2 : L.da (nx n e) (2 * k - 1) = 0 := by unfold Lev.da Lev.g; rw [if_pos (by omega), if_pos (by omega)]; rfl
    have u1 : L.up e = 1 := by unfold Lev.up; rw [if_pos (by omega)]
    have u2 : L.up (nx n e) = 1 := by unfold Lev.up; rw [if_pos (by omega)]
    rw [d1, d2, u1, u2]; simp
  · have g1 : L.rng e (2 * k + 1) := by unfold Lev.rng; omega
    have g2 : L.rng (nx n e) (2 * k - 1) := by unfold Lev.rng; omega
    refine ⟨k, k - 1, g1, by rw [m1]; exact g2, ?_⟩
    rw [m1, L.r1 F he hk (.inr rfl) g1, L.r2 F he hk (.inl rfl) g2]
    have d1 : L.da e (2 * k - 1) = 0 := by unfold Lev.da Lev.g; rw [if_pos (by omega), if_pos (by omega)]; rfl
    have d2 : L.da (nx n e) (2 * k + 1) = 0 := by unfold Lev.da Lev.g; rw [if_neg (by omega), if_neg (by omega)]; rfl
    have u1 : L.up e = 0 := by unfold Lev.up; rw [if_neg (by omega)]
    have u2 : L.up (nx n e) = 0 := by unfold Lev.up; rw [if_neg (by omega)]
    rw [d1, d2, u1, u2]; simp
  · -- a bottom
    have g1 : L.rng e (2 * k + 1) := by unfold Lev.rng; omega
    have g2 : L.rng (nx n e) (2 * k + 1) := by unfold Lev.rng; omega
    refine ⟨k, k, g1, g2, ?_⟩
    rw [L.r1 F he hk (.inr rfl) g1, L.r2 F he hk (.inr rfl) g2]
    have d1 : L.da e (2 * k + 1) = -1 := by unfold Lev.da Lev.g; rw [if_neg (by omega), if_pos (by omega)]; rfl
    have d2 : L.da (nx n e) (2 * k + 1) = 1 := by unfold Lev.da Lev.g; rw [if_pos (by omega), if_neg (by omega)]; rfl
    have u1 : L.up e = 0 := by unfold Lev.up; rw [if_neg (by omega)]
    have u2 : L.up (nx n e) = 1 := by unfold Lev.up; rw [if_pos (by omega)]
    rw [d1, d2, u1, u2, L.rt_flip F he hx hne (Lev.sep_odd F (k := k) rfl g1 g2)]
    omega

theorem Lev.all_round (F : L.Fine) : ∃ c, ∀ e, e < n → ∀ k, L.rng e (2 * k + 1) → L.r e (2 * k + 1) + L.up e = c := by
  have hb := F.big
  have one : ∀ e, e < n → ∃ c, ∀ k, L.rng e (2 * k + 1) → L.r e (2 * k + 1) + L.up e = c := by
    intro e he
    obtain ⟨k1, _, h1, _⟩ := L.round F he
    exact ⟨L.r e (2 * k1 + 1) + L.up e, fun k hk => by rw [L.r_all F he hk h1]⟩
  obtain ⟨c, hc⟩ := one 0 (by omega)
  refine ⟨c, fun e => ?_⟩
  induction e with
  | zero => intro _; exact hc
  | succ e ih =>
    intro he k hk
    have he' : e < n := by omega
    obtain ⟨k1, k2, h1, h2, h3⟩ := L.round F he'
    have hx : nx n e = e + 1 := Nat.mod_eq_of_lt he
    rw [hx] at h2 h3
    rw [L.r_all F he hk h2, ← h3]
    exact ih he' k1 h1

/-! the sum over a level -/
theorem exists_least {n : Nat} {P : Nat → Prop} (f : Nat → Int) (h : ∃ i, i < n ∧ P i) : ∃ i, i < n ∧ P i ∧ ∀ j, j < n → P j → f i ≤ f j := by
  induction n with
  | zero => obtain ⟨i, h, _⟩ := h; omega
  | succ n ih =>
    by_cases hn : ∃ i, i < n ∧ P i
    · obtain ⟨i, h1, h2, h3⟩ := ih hn
      by_cases hp : P n ∧ f n < f i
      · refine ⟨n, by omega, hp.1, fun j hj hpj => ?_⟩
        by_cases e : j = n
        · rw [e]; omega
        · have := h3 j (by omega) hpj
          omega
      · refine ⟨i, by omega, h2, fun j hj hpj => ?_⟩
        by_cases e : j = n
        · subst e
          by_cases h : f j < f i
          · exact absurd ⟨hpj, h⟩ hp
          · omega
        · exact h3 j (by omega) hpj
    · obtain ⟨i, h1, h2⟩ := h
      have e : i = n := by
        by_cases e : i = n
        · exact e
        · exact absurd ⟨i, by omega, h2⟩ hn
      subst e
      refine ⟨i, by omega, h2, fun j hj hpj => ?_⟩
      by_cases e : j = i
      · rw [e]; omega
      · exact absurd ⟨j, by omega, hpj⟩ hn

theorem Lev.da_up {e : Nat} {t : Int} (h : L.da e t ≠ 0) : L.da e t = 2 * L.up e - 1 := by
  unfold Lev.da Lev.g Lev.up at *
  split at h <;> split at h <;> split <;> omega

/-- what lies beyond a place at a level -/
def Lev.beyond {n : Nat} (L : Lev n) (t τ : Int) : Int := sm n fun e => (if τ < L.X e t then 1 else 0) * L.da e t

theorem Lev.beyond_val (F : L.Fine) {c : Int} (hc : ∀ e, e < n → ∀ k, L.rng e (2 * k + 1) → L.r e (2 * k + 1) + L.up e = c) (k τ : Int) :
    ((∀ e, e < n → L.da e (2 * k + 1) ≠ 0 → L.X e (2 * k + 1) ≤ τ) ∧ L.beyond (2 * k + 1) τ = 0) ∨ ∃ e, e < n ∧ L.da e (2 * k + 1) ≠ 0 ∧ τ < L.X e (2 * k + 1) ∧ L.beyond (2 * k + 1) τ = c + L.up e - 1 := by
  by_cases hex : ∃ e, e < n ∧ (L.da e (2 * k + 1) ≠ 0 ∧ τ < L.X e (2 * k + 1))
  · obtain ⟨e, he, ⟨h1, h2⟩, h3⟩ := exists_least (fun e => L.X e (2 * k + 1)) hex
    refine .inr ⟨e, he, h1, h2, ?_⟩
    have hr := hc e he k (Lev.da_odd h1)
    have hd := Lev.da_up h1
    have : L.beyond (2 * k + 1) τ = L.r e (2 * k + 1) + L.da e (2 * k + 1) := by
      unfold Lev.beyond Lev.r
      rw [← sm_ind he (L.da e (2 * k + 1)), ← sm_add]
      refine sm_congr fun i hi => ?_
      by_cases hie : i = e
      · subst hie
        rw [if_pos h2, L.rt_self, if_pos rfl]; simp
      · rw [if_neg hie]
        by_cases hz : L.da i (2 * k + 1) = 0
        · rw [hz]; simp
        · have hs := Lev.sep_odd F (k := k) rfl (Lev.da_odd h1) (Lev.da_odd hz)
          unfold Lev.rt
          rcases F.order e i _ _ he hi (fun h => hie h.symm) hs hs with ⟨g, _⟩ | ⟨g, _⟩
          · rw [if_pos (by omega), if_pos g]; simp
          · rw [if_neg (fun hh => by have := h3 i hi ⟨hz, hh⟩; omega), if_neg (by omega)]; simp
    rw [this, hd]
    omega
  · refine .inl ⟨fun e he h1 => ?_, ?_⟩
    · by_cases h : τ < L.X e (2 * k + 1)
      · exact absurd ⟨e, he, h1, h⟩ hex
      · omega
    · unfold Lev.beyond
      rw [sm_congr (g := fun _ => 0) (fun i hi => ?_), sm_zero]
      by_cases h : τ < L.X i (2 * k + 1)
      · by_cases hz : L.da i (2 * k + 1) = 0
        · rw [hz]; simp
        · exact absurd ⟨i, hi, hz, h⟩ hex
      · rw [if_neg h]; simp

theorem Lev.da_sum (t : Int) : sm n (fun e => L.da e t) = 0 := sm_cycle n fun i => L.g i t

/-- a number by the places below it -/
theorem layers (B : Nat) (x : Int) (h1 : -(B : Int) ≤ x) (h2 : x ≤ B) : sm (2 * B) (fun j => if (j : Int) - B < x then 1 else 0) = x + B := by
  have : ∀ m : Nat, (m : Int) ≤ x + B → sm m (fun j => if (j : Int) - B < x then 1 else 0) = m := by
    intro m
    induction m with
    | zero => intro _; rfl
    | succ m ih =>
      intro h
      rw [sm, ih (by omega), if_pos (by omega)]; omega
  have more : ∀ (d m : Nat), x + B ≤ m → sm (m + d) (fun j => if (j : Int) - B < x then 1 else 0) = sm m (fun j => if (j : Int) - B < x then 1 else 0) := by
    intro d
    induction d with
    | zero => intro m _; rfl
    | succ d ih =>
      intro m h
      rw [← Nat.add_assoc, sm, ih m h, if_neg (by omega)]; omega
  have h3 := this (x + B).toNat (by omega)
  have h4 := more (2 * B - (x + B).toNat) (x + B).toNat (by omega)
  rw [show (x + B).toNat + (2 * B - (x + B).toNat) = 2 * B from by omega] at h4
  rw [h4, h3]
  omega

theorem Lev.level_sum (t : Int) (B : Nat) (hB : ∀ e, e < n → -(B : Int) ≤ L.X e t ∧ L.X e t ≤ B) : sm n (fun e => L.da e t * L.X e t) = sm (2 * B) fun j => L.beyond t ((j : Int) - B) := by
  have h1 : sm n (fun e => L.da e t * L.X e t) = sm n fun e => sm (2 * B) (fun j => (if (j : Int) - B < L.X e t then 1 else 0) * L.da e t) - (B : Int) * L.da e t := by
    refine sm_congr fun e he => ?_
    have h2 := layers B (L.X e t) (hB e he).1 (hB e he).2
    have h3 : sm (2 * B) (fun j => (if (j : Int) - B < L.X e t then 1 else 0) * L.da e t) = L.da e t * sm (2 * B) (fun j => if (j : Int) - B < L.X e t then 1 else 0) := by
      rw [← sm_mul]
      exact sm_congr fun j _ => Int.mul_comm _ _
    rw [h3, h2]
    grind
  rw [h1, sm_sub, sm_mul, L.da_sum, sm_swap]
  unfold Lev.beyond
  omega

/-- over a level: of one sign -/
theorem Lev.level_pos (F : L.Fine) {c : Int} (hc : ∀ e, e < n → ∀ k, L.rng e (2 * k + 1) → L.r e (2 * k + 1) + L.up e = c) (k : Int) :
    (c = 1 → 0 ≤ sm n (fun e => L.da e (2 * k + 1) * L.X e (2 * k + 1))) ∧ (c = 0 → sm n (fun e => L.da e (2 * k + 1) * L.X e (2 * k + 1)) ≤ 0) ∧
    ((∃ e, e < n ∧ L.da e (2 * k + 1) ≠ 0) → (c = 0 ∨ c = 1) ∧ sm n (fun e => L.da e (2 * k + 1) * L.X e (2 * k + 1)) ≠ 0) := by
  obtain ⟨B, hB⟩ : ∃ B : Nat, ∀ e, e < n → -(B : Int) ≤ L.X e (2 * k + 1) ∧ L.X e (2 * k + 1) ≤ B := by
    have : ∀ m : Nat, ∃ B : Nat, ∀ e, e < m → -(B : Int) ≤ L.X e (2 * k + 1) ∧ L.X e (2 * k + 1) ≤ B := by
      intro m
      induction m with
      | zero => exact ⟨0, fun e h => by omega⟩
      | succ m ih =>
        obtain ⟨B, hB⟩ := ih
        refine ⟨B + (L.X m (2 * k + 1)).natAbs, fun e he => ?_⟩
        by_cases h : e = m
        · subst h; omega
        · have := hB e (by omega); omega
    exact this n
  rw [L.level_sum _ B hB]
  have up01 : ∀ e, L.up e = 0 ∨ L.up e = 1 := fun e => by unfold Lev.up; split <;> simp
  have val := L.beyond_val F hc k
  refine ⟨fun h => sm_nonneg fun j hj => ?_, fun h => ?_, fun ⟨e, he, hz⟩ => ?_⟩
  · rcases val ((j : Int) - B) with ⟨_, h1⟩ | ⟨e, _, _, _, h1⟩
    · omega
    · have := up01 e; omega
  · have : 0 ≤ sm (2 * B) fun j => - L.beyond (2 * k + 1) ((j : Int) - B) := sm_nonneg fun j hj => by
      rcases val ((j : Int) - B) with ⟨_, h1⟩ | ⟨e, _, _, _, h1⟩
      · omega
      · have := up01 e; omega
    have h2 := sm_sub (2 * B) (fun _ => 0) (fun j => L.beyond (2 * k + 1) ((j : Int) - B))
    rw [sm_zero] at h2
    have h3 : (sm (2 * B) fun j => - L.beyond (2 * k + 1) ((j : Int) - B)) = sm (2 * B) fun j => 0 - L.beyond (2 * k + 1) ((j : Int) - B) := sm_congr fun j _ => by omega
    omega
  · -- the last one to the right
    obtain ⟨m, hm, hm1, hm2⟩ := exists_least (fun e => - L.X e (2 * k + 1)) (P := fun e => L.da e (2 * k + 1) ≠ 0) ⟨e, he, hz⟩
    have hr0 : L.r m (2 * k + 1) = 0 := by
      unfold Lev.r
      rw [sm_congr (g := fun _ => 0) (fun i hi => ?_), sm_zero]
      by_cases h : L.da i (2 * k + 1) = 0
      · rw [h]; simp
      · have := hm2 i hi h
        unfold Lev.rt
        rw [if_neg (by omega)]; simp
    have hcm := hc m hm k (Lev.da_odd hm1)
    have u := up01 m
    have hc01 : c = 0 ∨ c = 1 := by omega
    refine ⟨hc01, ?_⟩
    have hxm := hB m hm
    -- the place just before the last one
    by_cases hlow : L.X m (2 * k + 1) = -(B : Int)
    · -- all lie at -B: then only one edge, and the sum of all is not zero
      exfalso
      have hs := L.da_sum (2 * k + 1)
      rw [sm_one hm (fun i hi hne => ?_)] at hs
      · exact hm1 hs
      · by_cases h : L.da i (2 * k + 1) = 0
        · exact h
        · exfalso
          have hs := Lev.sep_odd F (k := k) rfl (Lev.da_odd hm1) (Lev.da_odd h)
          have h1 := hm2 i hi h
          have h2 := hB i hi
          rcases F.order m i _ _ hm hi (fun h => hne h.symm) hs hs with ⟨g, _⟩ | ⟨g, _⟩ <;> omega
    · have hj : ((L.X m (2 * k + 1) - 1 + B).toNat : Int) - B = L.X m (2 * k + 1) - 1 := by omega
      have hv : L.beyond (2 * k + 1) (L.X m (2 * k + 1) - 1) = 2 * c - 1 := by
        rcases val (L.X m (2 * k + 1) - 1) with ⟨h1, _⟩ | ⟨e', he', h1, h2, h3⟩
        · have := h1 m hm hm1; omega
        · have h4 := hm2 e' he' h1
          have hem : e' = m := by
            by_cases hh : e' = m
            · exact hh
            · exfalso
              have hs := Lev.sep_odd F (k := k) rfl (Lev.da_odd hm1) (Lev.da_odd h1)
              rcases F.order m e' _ _ hm he' (fun h => hh h.symm) hs hs with ⟨g, _⟩ | ⟨g, _⟩ <;> omega
          subst hem
          omega
      rcases hc01 with h | h
      · have hpos : 0 < sm (2 * B) fun j => - L.beyond (2 * k + 1) ((j : Int) - B) := by
          refine sm_pos (k := (L.X m (2 * k + 1) - 1 + B).toNat) (fun j hj => ?_) (by omega) ?_
          · rcases val ((j : Int) - B) with ⟨_, h1⟩ | ⟨e, _, _, _, h1⟩
            · omega
            · have := up01 e; omega
          · rw [hj, hv, h]; decide
        have h2 := sm_sub (2 * B) (fun _ => 0) (fun j => L.beyond (2 * k + 1) ((j : Int) - B))
        rw [sm_zero] at h2
        have h3 : (sm (2 * B) fun j => - L.beyond (2 * k + 1) ((j : Int) - B)) = sm (2 * B) fun j => 0 - L.beyond (2 * k + 1) ((j : Int) - B) := sm_congr fun j _ => by omega
        omega
      · have hpos : 0 < sm (2 * B) fun j => L.beyond (2 * k + 1) ((j : Int) - B) := by
          refine sm_pos (k := (L.X m (2 * k + 1) - 1 + B).toNat) (fun j hj => ?_) (by omega) ?_
          · rcases val ((j : Int) - B) with ⟨_, h1⟩ | ⟨e, _, _, _, h1⟩
            · omega
            · have := up01 e; omega
          · rw [hj, hv, h]; decide
        omega
end
end Geo
