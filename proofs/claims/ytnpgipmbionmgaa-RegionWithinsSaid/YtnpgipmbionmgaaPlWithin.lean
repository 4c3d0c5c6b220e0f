/-
  RegionWithins: the plain law.
-/
import Derived.Test.YtnpgipmbionmgaaPlGreat
set_option linter.all false
namespace Go.Eng.R13
open Go Go.RowKit Go.Eng

theorem from_law (a b c : Int) : F60 100 a b c = some (decide (b ≤ a ∧ a ≤ c)) := by
  unfold F60 D60
  by_cases h : b ≤ a
  · rw [bif_t (by simpa using h)]
    simp [h]
  · rw [bif_f (by simpa using h)]
    simp [h]

def InB (lo hx hy : Int) (n : Nat) (f : Nat → Nat → CV) (i : Nat) : Prop :=
  ∀ j, i ≤ j → j < n → (lo ≤ CV.int (f j 0) ∧ CV.int (f j 0) ≤ hx) ∧ (lo ≤ CV.int (f j 1) ∧ CV.int (f j 1) ≤ hy)

theorem within_loop (n a : Nat) (f b : Nat → Nat → CV) (l w lo : Int) (hn : n ≤ 40) : ∀ (m i : Nat), n < m + i → i ≤ n →
    ∃ r, L29v1 100 l w lo n f (Int.ofNat n) a b m (Int.ofNat i) (fun _ _ => some false) (some true) = some r ∧ (r = true ↔ InB lo (w64 (l - lo)) (w64 (w - lo)) n f i) := by
  intro m
  induction m with
  | zero => intro i h1 h2; omega
  | succ m ih =>
    intro i h1 h2
    unfold L29v1
    rw [lt_nat, inb_nat, toNat_nat]
    by_cases h : i < n
    · rw [bif_t (by simpa using h), bif_t (by simpa using h), w64_succ (by omega), from_law, from_law, ob_some, ob_some]
      by_cases h3 : lo ≤ CV.int (f i 0) ∧ CV.int (f i 0) ≤ w64 (l - lo)
      · rw [bif_t (by simp [h3])]
        by_cases h4 : lo ≤ CV.int (f i 1) ∧ CV.int (f i 1) ≤ w64 (w - lo)
        · rw [bif_f (by simp [h4])]
          obtain ⟨r, h5, h6⟩ := ih (i + 1) (by omega) (by omega)
          refine ⟨r, h5, h6.trans ⟨fun h7 j h8 h9 => ?_, fun h7 j h8 h9 => h7 j (by omega) h9⟩⟩
          by_cases e : j = i
          · rw [e]; exact ⟨h3, h4⟩
          · exact h7 j (by omega) h9
        · rw [bif_t (by simp [h4])]
          exact ⟨false, rfl, fun h => (by cases h), fun h7 => absurd (h7 i (Nat.le_refl i) h).2 h4⟩
      · rw [bif_f (by simp [h3])]
        exact ⟨false, rfl, fun h => (by cases h), fun h7 => absurd (h7 i (Nat.le_refl i) h).1 h3⟩
    · rw [bif_f (by simpa using h)]
      exact ⟨true, rfl, fun _ j h6 h7 => by omega, fun _ => rfl⟩

def Fine (n : Nat) (l w lo : Int) : Prop := n ≠ 0 ∧ (0 ≤ l ∧ l ≤ 32768) ∧ (0 ≤ w ∧ w ≤ 32768) ∧ (0 ≤ lo ∧ lo ≤ 1000)

theorem within_law (n a : Nat) (f b : Nat → Nat → CV) (l w lo : Int) (hn : n ≤ 40) :
    ∃ r, F29 100 n f a b l w lo = some r ∧ (r = true ↔ Fine n l w lo ∧ InB lo (w64 (l - lo)) (w64 (w - lo)) n f 0) := by
  unfold F29 D29
  rw [from_law, from_law, from_law, ob_some, ob_some, ob_some]
  by_cases h0 : n = 0
  · rw [bif_f (by simp [h0])]
    exact ⟨false, rfl, fun h => (by cases h), fun h => absurd h0 h.1.1⟩
  · rw [bif_t (by simp [h0])]
    by_cases h1 : 0 ≤ l ∧ l ≤ 32768
    · rw [bif_t (by simp [h1])]
      by_cases h2 : 0 ≤ w ∧ w ≤ 32768
      · rw [bif_t (by simp [h2])]
        by_cases h3 : 0 ≤ lo ∧ lo ≤ 1000
        · rw [bif_f (by simp [h3])]
          obtain ⟨r, h4, h5⟩ := within_loop n a f b l w lo hn 100 0 (by omega) (by omega)
          exact ⟨r, h4, h5.trans ⟨fun h => ⟨⟨h0, h1, h2, h3⟩, h⟩, fun h => h.2⟩⟩
        · rw [bif_t (by simp [h3])]
          exact ⟨false, rfl, fun h => (by cases h), fun h => absurd h.1.2.2.2 h3⟩
      · rw [bif_f (by simp [h2])]
        exact ⟨false, rfl, fun h => (by cases h), fun h => absurd h.1.2.2.1 h2⟩
    · rw [bif_f (by simp [h1])]
      exact ⟨false, rfl, fun h => (by cases h), fun h => absurd h.1.2.1 h1⟩

/-- least and greatest coordinates of the first i points -/
def Bds (f : Nat → Nat → CV) (i : Nat) (a b c d : Int) : Prop :=
  (∀ j, j < i → a ≤ CV.int (f j 0) ∧ b ≤ CV.int (f j 1) ∧ CV.int (f j 0) ≤ c ∧ CV.int (f j 1) ≤ d) ∧
  (0 < i → (∃ j, j < i ∧ CV.int (f j 0) = a) ∧ (∃ j, j < i ∧ CV.int (f j 1) = b) ∧ (∃ j, j < i ∧ CV.int (f j 0) = c) ∧ (∃ j, j < i ∧ CV.int (f j 1) = d))

theorem Bds.step {f : Nat → Nat → CV} {i : Nat} {a b c d a' b' c' d' : Int} (hi : 0 < i) (h : Bds f i a b c d)
    (ha : a' = if CV.int (f i 0) < a then CV.int (f i 0) else a) (hb : b' = if CV.int (f i 1) < b then CV.int (f i 1) else b)
    (hc : c' = if CV.int (f i 0) > c then CV.int (f i 0) else c) (hd : d' = if CV.int (f i 1) > d then CV.int (f i 1) else d) : Bds f (i + 1) a' b' c' d' := by
  obtain ⟨h1, h2⟩ := h
  obtain ⟨⟨j1, k1, e1⟩, ⟨j2, k2, e2⟩, ⟨j3, k3, e3⟩, ⟨j4, k4, e4⟩⟩ := h2 hi
  have q1 : a' ≤ a ∧ a' ≤ CV.int (f i 0) := by rw [ha]; split <;> omega
  have q2 : b' ≤ b ∧ b' ≤ CV.int (f i 1) := by rw [hb]; split <;> omega
  have q3 : c ≤ c' ∧ CV.int (f i 0) ≤ c' := by rw [hc]; split <;> omega
  have q4 : d ≤ d' ∧ CV.int (f i 1) ≤ d' := by rw [hd]; split <;> omega
  refine ⟨fun j hj => ?_, fun _ => ⟨?_, ?_, ?_, ?_⟩⟩
  · by_cases e : j = i
    · rw [e]; exact ⟨q1.2, q2.2, q3.2, q4.2⟩
    · obtain ⟨p1, p2, p3, p4⟩ := h1 j (by omega)
      exact ⟨by omega, by omega, by omega, by omega⟩
  · by_cases e : CV.int (f i 0) < a
    · exact ⟨i, by omega, by rw [ha, if_pos e]⟩
    · exact ⟨j1, by omega, by rw [ha, if_neg e]; exact e1⟩
  · by_cases e : CV.int (f i 1) < b
    · exact ⟨i, by omega, by rw [hb, if_pos e]⟩
    · exact ⟨j2, by omega, by rw [hb, if_neg e]; exact e2⟩
  · by_cases e : CV.int (f i 0) > c
    · exact ⟨i, by omega, by rw [hc, if_pos e]⟩
    · exact ⟨j3, by omega, by rw [hc, if_neg e]; exact e3⟩
  · by_cases e : CV.int (f i 1) > d
    · exact ⟨i, by omega, by rw [hd, if_pos e]⟩
    · exact ⟨j4, by omega, by rw [hd, if_neg e]; exact e4⟩

theorem bounds_loop {ρ : Type} (n a : Nat) (f b : Nat → Nat → CV) (k0 : Int → Int → Int → Int → Option ρ) (hn : n ≤ 40) : ∀ (m i : Nat) (p q r s : Int), n < m + i → i ≤ n → (0 < i → Bds f i p q r s) →
    ∃ p' q' r' s', L21v1 100 n f a b m (Int.ofNat i) p q r s k0 = k0 p' q' r' s' ∧ (0 < n → Bds f n p' q' r' s') := by
  intro m
  induction m with
  | zero => intro i p q r s h1 h2; omega
  | succ m ih =>
    intro i p q r s h1 h2 hB
    unfold L21v1
    rw [lt_nat, inb_nat, toNat_nat]
    by_cases h : i < n
    · rw [bif_t (by simpa using h), bif_t (by simpa using h), w64_succ (by omega)]
      by_cases h0 : i = 0
      · subst h0
        rw [bif_t (by simp)]
        refine ih 1 _ _ _ _ (by omega) (by omega) fun _ => ?_
        simp only [gt_iff_lt, ite_self]
        refine ⟨fun j hj => ?_, fun _ => ⟨⟨0, by omega, rfl⟩, ⟨0, by omega, rfl⟩, ⟨0, by omega, rfl⟩, ⟨0, by omega, rfl⟩⟩⟩
        have : j = 0 := by omega
        subst this
        exact ⟨Int.le_refl _, Int.le_refl _, Int.le_refl _, Int.le_refl _⟩
      · rw [bif_f (by simp [h0])]
        exact ih (i + 1) _ _ _ _ (by omega) (by omega) fun _ => (hB (by omega)).step (by omega) rfl rfl rfl rfl
    · rw [bif_f (by simpa using h)]
      have : i = n := by omega
      subst this
      exact ⟨p, q, r, s, rfl, hB⟩

theorem bounds_law (n a : Nat) (f b : Nat → Nat → CV) (hn : n ≤ 40) : ∃ p q r s, F21 100 n f a b = some (p, q, r, s) ∧ (0 < n → Bds f n p q r s) := by
  unfold F21 D21
  exact bounds_loop n a f b _ hn 100 0 0 0 0 0 (by omega) (by omega) (fun h => absurd h (by omega))

theorem bds_in {n : Nat} {f : Nat → Nat → CV} {p q r s lo hx hy : Int} (hn : 0 < n) (h : Bds f n p q r s) : (lo ≤ p ∧ lo ≤ q ∧ r ≤ hx ∧ s ≤ hy) ↔ InB lo hx hy n f 0 := by
  obtain ⟨h1, h2⟩ := h
  obtain ⟨⟨j1, k1, e1⟩, ⟨j2, k2, e2⟩, ⟨j3, k3, e3⟩, ⟨j4, k4, e4⟩⟩ := h2 hn
  constructor
  · rintro ⟨a1, a2, a3, a4⟩ j _ hj
    obtain ⟨b1, b2, b3, b4⟩ := h1 j hj
    exact ⟨⟨by omega, by omega⟩, ⟨by omega, by omega⟩⟩
  · intro hI
    exact ⟨e1 ▸ (hI j1 (by omega) k1).1.1, e2 ▸ (hI j2 (by omega) k2).2.1, e3 ▸ (hI j3 (by omega) k3).1.2, e4 ▸ (hI j4 (by omega) k4).2.2⟩

theorem within_ref (n a : Nat) (f b : Nat → Nat → CV) (l w lo : Int) (hn : n ≤ 40) :
    ∃ r, F30 100 n f a b l w lo = some r ∧ (r = true ↔ Fine n l w lo ∧ InB lo (w64 (l - lo)) (w64 (w - lo)) n f 0) := by
  unfold F30 D30
  have no : ∀ (P : Prop), ¬ P → ∃ r : Bool, (some false : Option Bool) = some r ∧ (r = true ↔ P) := fun P h => ⟨false, rfl, fun h => (by cases h), fun h' => absurd h' h⟩
  by_cases h0 : n = 0
  · rw [bif_f (by simp [h0])]
    exact no _ fun h => h.1.1 h0
  · rw [bif_t (by simp [h0])]
    by_cases h1 : l < 0
    · rw [bif_f (by simp [h1])]
      exact no _ fun h => by have := h.1.2.1.1; omega
    · rw [bif_t (by simp [h1])]
      by_cases h2 : l > 32768
      · rw [bif_f (by simp; omega)]
        exact no _ fun h => by have := h.1.2.1.2; omega
      · rw [bif_t (by simp; omega)]
        by_cases h3 : w < 0
        · rw [bif_f (by simp [h3])]
          exact no _ fun h => by have := h.1.2.2.1.1; omega
        · rw [bif_t (by simp [h3])]
          by_cases h4 : w > 32768
          · rw [bif_f (by simp; omega)]
            exact no _ fun h => by have := h.1.2.2.1.2; omega
          · rw [bif_t (by simp; omega)]
            by_cases h5 : lo < 0
            · rw [bif_f (by simp [h5])]
              exact no _ fun h => by have := h.1.2.2.2.1; omega
            · rw [bif_t (by simp [h5])]
              by_cases h6 : lo > 1000
              · rw [bif_t (by simp; omega)]
                exact no _ fun h => by have := h.1.2.2.2.2; omega
              · rw [bif_f (by simp; omega)]
                obtain ⟨p, q, r, s, hb, hB⟩ := bounds_law n a f b hn
                have hB := hB (by omega)
                have hF : Fine n l w lo := ⟨h0, ⟨by omega, by omega⟩, ⟨by omega, by omega⟩, ⟨by omega, by omega⟩⟩
                rw [hb, ob_some]
                have hI := bds_in (lo := lo) (hx := w64 (l - lo)) (hy := w64 (w - lo)) (by omega) hB
                by_cases h7 : lo ≤ p
                · rw [bif_t (by simpa using h7)]
                  by_cases h8 : lo ≤ q
                  · rw [bif_t (by simpa using h8)]
                    by_cases h9 : r ≤ w64 (l - lo)
                    · rw [bif_t (by simpa using h9)]
                      refine ⟨_, rfl, ?_⟩
                      rw [decide_eq_true_iff]
                      exact ⟨fun h => ⟨hF, hI.1 ⟨h7, h8, h9, h⟩⟩, fun h => (hI.2 h.2).2.2.2⟩
                    · rw [bif_f (by simpa using h9)]
                      exact no _ fun h => h9 (hI.2 h.2).2.2.1
                  · rw [bif_f (by simpa using h8)]
                    exact no _ fun h => h8 (hI.2 h.2).2.1
                · rw [bif_f (by simpa using h7)]
                  exact no _ fun h => h7 (hI.2 h.2).1

theorem withins_plain (n1 n2 : Nat) (f1 f2 : Nat → Nat → CV) (l w lo : Int) : F8 100 n1 f1 n2 f2 l w lo = some true := by
  unfold F8 D8
  rcases great_law n1 n2 f1 f2 with h | ⟨h, h1, h2, h3⟩
  · rw [h, ob_some, bif_f (by simp), alive_law, ob_some]
  · obtain ⟨r, e1, e2⟩ := within_law n1 n2 f1 f2 l w lo h1
    obtain ⟨s, e3, e4⟩ := within_ref n1 n2 f1 f2 l w lo h1
    have : r = s := by
      rw [Bool.eq_iff_iff, e2, e4]
    subst this
    rw [h, ob_some, bif_t (by simp), e1, ob_some, e3, ob_some, bif_t (by simp), alive_law, ob_some]
end Go.Eng.R13
