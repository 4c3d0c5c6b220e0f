/-
  The area of a simple polygon is not zero.
-/
import Derived.Test.YtnpgipmbionmgaaGeo5
set_option linter.all false
namespace Geo

structure Simple (n : Nat) (p : Nat → Pt) : Prop where
  big : 3 ≤ n
  dist : ∀ i j, i < n → j < n → i ≠ j → p i ≠ p j
  corner : ∀ e, e < n → ¬ On (p (nx n (nx n e))) (p e) (p (nx n e)) ∧ ¬ On (p e) (p (nx n e)) (p (nx n (nx n e)))
  apart : ∀ e i, e < n → i < n → i ≠ e → i ≠ nx n e → nx n i ≠ e → ¬ Meet (p e) (p (nx n e)) (p i) (p (nx n i))

/-- twice the area -/
def area (n : Nat) (p : Nat → Pt) : Int := sm n fun i => (p i).1 * (p (nx n i)).2 - (p (nx n i)).1 * (p i).2

def pr : Nat → (Nat → Int) → Int
  | 0, _ => 1
  | n + 1, f => pr n f * f n
theorem pr_pos {n : Nat} {f : Nat → Int} (h : ∀ i, i < n → 0 < f i) : 0 < pr n f := by
  induction n with
  | zero => exact Int.one_pos
  | succ n ih => exact Int.mul_pos (ih fun i hi => h i (by omega)) (h n (by omega))
theorem pr_dvd {n : Nat} {f : Nat → Int} {i : Nat} (h : i < n) : ∃ q, q * f i = pr n f := by
  induction n with
  | zero => omega
  | succ n ih =>
    rw [pr]
    by_cases e : i = n
    · subst e; exact ⟨_, rfl⟩
    · obtain ⟨q, hq⟩ := ih (by omega)
      exact ⟨q * f n, by rw [← hq]; grind⟩

theorem bounded (n : Nat) (p : Nat → Pt) : ∃ B : Nat, ∀ i, i < n → -(B : Int) ≤ (p i).1 ∧ (p i).1 ≤ B ∧ -(B : Int) ≤ (p i).2 ∧ (p i).2 ≤ B := by
  induction n with
  | zero => exact ⟨0, fun i h => by omega⟩
  | succ n ih =>
    obtain ⟨B, hB⟩ := ih
    refine ⟨B + (p n).1.natAbs + (p n).2.natAbs, fun i hi => ?_⟩
    by_cases e : i = n
    · subst e; omega
    · have := hB i (by omega); omega

theorem area_simple {n : Nat} {p : Nat → Pt} (S : Simple n p) : area n p ≠ 0 := by
  obtain ⟨B, hB⟩ := bounded n p
  have hb := S.big
  -- heights that part all corners
  have hK : ∃ K : Int, K = 4 * B + 1 := ⟨_, rfl⟩
  obtain ⟨K, hK⟩ := hK
  have hinj : ∀ i j, i < n → j < n → i ≠ j → ht 2 (2 * K) (p i) ≠ ht 2 (2 * K) (p j) := by
    intro i j hi hj hne h
    have b1 := hB i hi
    have b2 := hB j hj
    unfold ht at h
    have h1 : K * ((p i).2 - (p j).2) = (p j).1 - (p i).1 := by grind
    have h2 : (p i).2 = (p j).2 := by
      rcases Int.lt_trichotomy 0 ((p i).2 - (p j).2) with g | g | g
      · have : K * 1 ≤ K * ((p i).2 - (p j).2) := Int.mul_le_mul_of_nonneg_left (by omega) (by omega)
        omega
      · omega
      · have : K * 1 ≤ K * -((p i).2 - (p j).2) := Int.mul_le_mul_of_nonneg_left (by omega) (by omega)
        grind
    have h3 : (p i).1 = (p j).1 := by rw [h2] at h1; grind
    exact S.dist i j hi hj hne (Prod.ext h3 h2)
  have hd : ∀ e, e < n → ht 2 (2 * K) (p (nx n e)) - ht 2 (2 * K) (p e) ≠ 0 := by
    intro e he h
    exact hinj (nx n e) e (nx_lt hb) he (nx_ne hb he) (by omega)
  -- a common multiple
  obtain ⟨M, hM⟩ : ∃ M, M = pr n fun e => (ht 2 (2 * K) (p (nx n e)) - ht 2 (2 * K) (p e)) * (ht 2 (2 * K) (p (nx n e)) - ht 2 (2 * K) (p e)) := ⟨_, rfl⟩
  have hMp : 0 < M := by
    rw [hM]
    refine pr_pos fun e he => ?_
    have := hd e he
    rcases Int.lt_or_lt_of_ne this with g | g
    · have := Int.mul_pos (show 0 < -(ht 2 (2 * K) (p (nx n e)) - ht 2 (2 * K) (p e)) by omega) (show 0 < -(ht 2 (2 * K) (p (nx n e)) - ht 2 (2 * K) (p e)) by omega)
      grind
    · exact Int.mul_pos g g
  have hQ : ∀ e, ∃ q, e < n → q * (ht 2 (2 * K) (p (nx n e)) - ht 2 (2 * K) (p e)) = M := by
    intro e
    by_cases he : e < n
    · obtain ⟨q, hq⟩ := pr_dvd (f := fun e => (ht 2 (2 * K) (p (nx n e)) - ht 2 (2 * K) (p e)) * (ht 2 (2 * K) (p (nx n e)) - ht 2 (2 * K) (p e))) he
      exact ⟨q * (ht 2 (2 * K) (p (nx n e)) - ht 2 (2 * K) (p e)), fun _ => by rw [hM, ← hq]; grind⟩
    · exact ⟨0, fun h => absurd h he⟩
  obtain ⟨Q, hQ⟩ : ∃ Q : Nat → Int, ∀ e, e < n → Q e * (ht 2 (2 * K) (p (nx n e)) - ht 2 (2 * K) (p e)) = M := ⟨fun e => Classical.choose (hQ e), fun e => Classical.choose_spec (hQ e)⟩
  let L : Lev n := { H := fun i => ht 2 (2 * K) (p i), V := fun i => M * (p i).1, X := fun e t => M * (p e).1 + Q e * ((p (nx n e)).1 - (p e).1) * (t - ht 2 (2 * K) (p e)) }
  have hline : ∀ e, e < n → Line 2 (2 * K) M (p e) (p (nx n e)) (L.X e) := by
    intro e he
    refine ⟨⟨M * (p e).1 - Q e * ((p (nx n e)).1 - (p e).1) * ht 2 (2 * K) (p e), Q e * ((p (nx n e)).1 - (p e).1), fun t => ?_⟩, ?_, ?_⟩
    · show M * (p e).1 + Q e * ((p (nx n e)).1 - (p e).1) * (t - ht 2 (2 * K) (p e)) = _
      grind
    · show M * (p e).1 + Q e * ((p (nx n e)).1 - (p e).1) * (ht 2 (2 * K) (p e) - ht 2 (2 * K) (p e)) = _
      grind
    · show M * (p e).1 + Q e * ((p (nx n e)).1 - (p e).1) * (ht 2 (2 * K) (p (nx n e)) - ht 2 (2 * K) (p e)) = _
      have := hQ e he
      grind
  have hrng : ∀ {e t}, L.rng e t → rngP 2 (2 * K) (p e) (p (nx n e)) t := fun h => h
  have F : L.Fine := by
    refine ⟨hb, fun i => ⟨(p i).1 + K * (p i).2, ?_⟩, hinj, fun e he => (hline e he).aff, fun e he => (hline e he).fst, fun e he => (hline e he).snd, ?_⟩
    · show ht 2 (2 * K) (p i) = _
      unfold ht; grind
    · intro e i t t' he hi hne ⟨h1, h2, h3, h4⟩ ⟨h5, h6, h7, h8⟩
      have ne : ∀ e, e < n → ht 2 (2 * K) (p e) ≠ ht 2 (2 * K) (p (nx n e)) := fun e he h => hd e he (by omega)
      by_cases c1 : nx n e = i
      · subst c1
        exact order_corner hMp (by omega) (hline e he) (hline _ hi) (ne e he) (ne _ hi) (S.corner e he).1 (S.corner e he).2 (hrng h1) (hrng h2) (hrng h5) (hrng h6) (fun h => h3 ⟨rfl, h.symm⟩) (fun h => h7 ⟨rfl, h.symm⟩)
      · by_cases c2 : nx n i = e
        · subst c2
          have := order_corner hMp (by omega) (hline i hi) (hline _ he) (ne i hi) (ne _ he) (S.corner i hi).1 (S.corner i hi).2 (hrng h2) (hrng h1) (hrng h6) (hrng h5) (fun h => h4 ⟨rfl, h.symm⟩) (fun h => h8 ⟨rfl, h.symm⟩)
          exact this.symm
        · exact order_apart hMp (by omega) (hline e he) (hline i hi) (ne e he) (ne i hi) (S.apart e i he hi (fun h => hne h.symm) (fun h => c1 h.symm) c2) (hrng h1) (hrng h2) (hrng h5) (hrng h6)
  have hne := L.area_ne F
  intro h0
  refine hne ?_
  have e1 : sm n (fun e => (L.H (nx n e) - L.H e) * (L.V e + L.V (nx n e))) = sm n fun e => (2 * M * K) * ((p e).1 * (p (nx n e)).2 - (p (nx n e)).1 * (p e).2) + ((fun j => M * (2 * ((p j).1 * (p j).1) + 2 * K * ((p j).1 * (p j).2))) ((e + 1) % n) - (fun j => M * (2 * ((p j).1 * (p j).1) + 2 * K * ((p j).1 * (p j).2))) e) := by
    refine sm_congr fun e _ => ?_
    show (ht 2 (2 * K) (p (nx n e)) - ht 2 (2 * K) (p e)) * (M * (p e).1 + M * (p (nx n e)).1) = _
    have : nx n e = (e + 1) % n := rfl
    rw [← this]
    unfold ht
    dsimp only
    grind
  have cyc := sm_cycle n fun j => M * (2 * ((p j).1 * (p j).1) + 2 * K * ((p j).1 * (p j).2))
  rw [e1, sm_add, sm_mul, cyc]
  have : (sm n fun e => (p e).1 * (p (nx n e)).2 - (p (nx n e)).1 * (p e).2) = 0 := h0
  rw [this]; simp
end Geo
