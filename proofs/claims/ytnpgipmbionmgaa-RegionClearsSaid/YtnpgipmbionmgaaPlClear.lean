/-
  RegionClears: the plain law.
-/
import Derived.Test.YtnpgipmbionmgaaPlPlace
import Derived.Test.YtnpgipmbionmgaaPlRoot
set_option linter.all false
namespace Go.Eng.R13
open Go Go.RowKit Go.Eng Geo

/-- two edges are nearer than g to each other -/
def Close (g : Int) (a b c d : Pt) : Prop := Meet a b c d ∨ Near a c d g ∨ Near b c d g ∨ Near c a b g ∨ Near d a b g
instance (g : Int) (a b c d : Pt) : Decidable (Close g a b c d) := by unfold Close; infer_instance
theorem close55 {x1 x2 x3 x4 x5 x6 x7 x8 g : Int} (ha : nr x1 x2) (hb : nr x3 x4) (hc : nr x5 x6) (hd : nr x7 x8) (hg : 0 ≤ g) (hg' : g ≤ 1000) : F55 100 x1 x2 x3 x4 x5 x6 x7 x8 (listF [(.i .i64 g)]) = some (decide (Close g (x1, x2) (x3, x4) (x5, x6) (x7, x8))) := by
  unfold F55 D55
  rw [show CV.int (listF [(.i .i64 g)] 0) = g from rfl, meet56 ha hb hc hd, near57 ha hc hd hg hg', near57 hb hc hd hg hg', near57 hc ha hb hg hg', near57 hd ha hb hg hg']
  simp only [ob_some]
  have e : decide (Close g (x1, x2) (x3, x4) (x5, x6) (x7, x8)) = (decide (Meet (x1, x2) (x3, x4) (x5, x6) (x7, x8)) || (decide (Near (x1, x2) (x5, x6) (x7, x8) g) || (decide (Near (x3, x4) (x5, x6) (x7, x8) g) || (decide (Near (x5, x6) (x1, x2) (x3, x4) g) || decide (Near (x7, x8) (x1, x2) (x3, x4) g))))) := by
    rw [Bool.eq_iff_iff]
    simp only [Bool.or_eq_true, decide_eq_true_iff]
    exact Iff.rfl
  rw [e]
  generalize decide (Meet (x1, x2) (x3, x4) (x5, x6) (x7, x8)) = b1
  generalize decide (Near (x1, x2) (x5, x6) (x7, x8) g) = b2
  generalize decide (Near (x3, x4) (x5, x6) (x7, x8) g) = b3
  generalize decide (Near (x5, x6) (x1, x2) (x3, x4) g) = b4
  generalize decide (Near (x7, x8) (x1, x2) (x3, x4) g) = b5
  cases b1 <;> cases b2 <;> cases b3 <;> cases b4 <;> cases b5 <;> rfl

/-- a bounded search, and its steps -/
def Ex (n : Nat) (P : Nat → Prop) (i : Nat) : Prop := ∃ k, i ≤ k ∧ k < n ∧ P k
theorem Ex.here {n : Nat} {P : Nat → Prop} {i : Nat} (h : i < n) (hp : P i) : Ex n P i := ⟨i, Nat.le_refl i, h, hp⟩
theorem Ex.step {n : Nat} {P : Nat → Prop} {i : Nat} (h : ¬ P i) : Ex n P i ↔ Ex n P (i + 1) := by
  refine ⟨fun ⟨j, a, b, c⟩ => ⟨j, ?_, b, c⟩, fun ⟨j, a, b, c⟩ => ⟨j, by omega, b, c⟩⟩
  by_cases e : j = i
  · subst e; exact absurd c h
  · omega
theorem Ex.none {n : Nat} {P : Nat → Prop} {i : Nat} (h : ¬ i < n) : ¬ Ex n P i := fun ⟨j, a, b, _⟩ => by omega
theorem Ex.zero {n : Nat} {P : Nat → Prop} : Ex n P 0 ↔ ∃ k, k < n ∧ P k := ⟨fun ⟨k, _, a, b⟩ => ⟨k, a, b⟩, fun ⟨k, a, b⟩ => ⟨k, Nat.zero_le k, a, b⟩⟩

theorem close58_2 {ρ : Type} (n n' i : Nat) (f g : Nat → Nat → CV) (gap : Int) (hg : 0 ≤ gap) (hg' : gap ≤ 1000) (hn : n ≤ 32) (hn' : n' ≤ 32) (h0 : 3 ≤ n) (h0' : 3 ≤ n') (hi : i < n) (hA : AllNr n f) (hB : AllNr n' g) (c : Int) (a : Int → Int → Option ρ) (k0 k1 : Option ρ) (ha : ∀ x y, a x y = k0) : ∀ (m k : Nat), n' < m + k → k ≤ n' →
    (Ex n' (fun k => Close gap (pt f i) (pt f (nx n i)) (pt g k) (pt g (nx n' k))) k → L58bv2 100 n f n' g (listF [(.i .i64 gap)]) (Int.ofNat i) c (Int.ofNat n') (CV.int (f i 0)) (CV.int (f i 1)) m (Int.ofNat k) a k1 = k0) ∧
    (¬ Ex n' (fun k => Close gap (pt f i) (pt f (nx n i)) (pt g k) (pt g (nx n' k))) k → L58bv2 100 n f n' g (listF [(.i .i64 gap)]) (Int.ofNat i) c (Int.ofNat n') (CV.int (f i 0)) (CV.int (f i 1)) m (Int.ofNat k) a k1 = k1) := by
  intro m
  induction m with
  | zero => intro k h1 h2; omega
  | succ m ih =>
    intro k h1 h2
    unfold L58bv2
    rw [lt_nat, inb_nat, toNat_nat]
    by_cases h : k < n'
    · have hx : nx n i < n := nx_lt h0
      have hy : nx n' k < n' := nx_lt h0'
      have e1 : (i + 1) % n = nx n i := rfl
      have e2 : (k + 1) % n' = nx n' k := rfl
      rw [bif_t (by simpa using h), bif_t (by simpa using h), bif_f (ofNat_ne0 (by omega)), w64_succ (i := i) (by omega), w64_succ (i := k) (by omega), tmod_nat, tmod_nat, inb_nat, inb_nat, toNat_nat, toNat_nat, e1, e2,
        bif_t (by simpa using hx), bif_f (ofNat_ne0 (by omega)), bif_t (by simpa using hy), close55 (hA i hi) (hA _ hx) (hB k h) (hB _ hy) hg hg', ob_some]
      by_cases hM : Close gap (pt f i) (pt f (nx n i)) (pt g k) (pt g (nx n' k))
      · rw [bif_t (decide_eq_true hM), ha]
        exact ⟨fun _ => rfl, fun hh => absurd (Ex.here h hM) hh⟩
      · rw [bif_f (decide_eq_false hM), Ex.step hM]
        exact ih (k + 1) (by omega) (by omega)
    · rw [bif_f (by simpa using h)]
      exact ⟨fun hh => absurd hh (Ex.none h), fun _ => rfl⟩
def CloseI (gap : Int) (n n' : Nat) (f g : Nat → Nat → CV) (i : Nat) : Prop := Ex n' (fun k => Close gap (pt f i) (pt f (nx n i)) (pt g k) (pt g (nx n' k))) 0
theorem close58_3 (n n' : Nat) (f g : Nat → Nat → CV) (gap : Int) (hg : 0 ≤ gap) (hg' : gap ≤ 1000) (hn : n ≤ 32) (hn' : n' ≤ 32) (h0 : 3 ≤ n) (h0' : 3 ≤ n') (hA : AllNr n f) (hB : AllNr n' g) : ∀ (m i : Nat), n < m + i → i ≤ n →
    ∃ r, L58bv3 100 n f n' g (listF [(.i .i64 gap)]) (Int.ofNat n) m (Int.ofNat i) (fun _ _ _ _ => some true) (some false) = some r ∧ (r = true ↔ Ex n (CloseI gap n n' f g) i) := by
  intro m
  induction m with
  | zero => intro i h1 h2; omega
  | succ m ih =>
    intro i h1 h2
    unfold L58bv3
    rw [lt_nat, inb_nat, toNat_nat]
    by_cases h : i < n
    · obtain ⟨m1, m2⟩ := close58_2 n n' i f g gap hg hg' hn hn' h0 h0' h hA hB (Int.ofNat n) (fun _ _ => some true) (some true) (L58bv3 100 n f n' g (listF [(.i .i64 gap)]) (Int.ofNat n) m (Int.ofNat (i + 1)) (fun _ _ _ _ => some true) (some false)) (fun _ _ => rfl) 100 0 (by omega) (by omega)
      rw [bif_t (by simpa using h), bif_t (by simpa using h), w64_succ (by omega), show (0 : Int) = Int.ofNat 0 from rfl]
      by_cases hT : CloseI gap n n' f g i
      · rw [m1 hT]
        exact ⟨true, rfl, fun _ => Ex.here h hT, fun _ => rfl⟩
      · rw [m2 hT, Ex.step hT]
        exact ih (i + 1) (by omega) (by omega)
    · rw [bif_f (by simpa using h)]
      exact ⟨false, rfl, fun hh => (by cases hh), fun hh => absurd hh (Ex.none h)⟩
def CloseC (gap : Int) (n n' : Nat) (f g : Nat → Nat → CV) : Prop := ∃ i, i < n ∧ ∃ k, k < n' ∧ Close gap (pt f i) (pt f (nx n i)) (pt g k) (pt g (nx n' k))
theorem close58 (n n' : Nat) (f g : Nat → Nat → CV) (gap : Int) (hg : 0 ≤ gap) (hg' : gap ≤ 1000) (V : Valid n f) (W : Valid n' g) : ∃ r, F58b 100 n f n' g (listF [(.i .i64 gap)]) = some r ∧ (r = true ↔ CloseC gap n n' f g) := by
  have := V.small
  unfold F58b D58b
  obtain ⟨r, h1, h2⟩ := close58_3 n n' f g gap hg hg' V.small W.small V.big W.big V.near W.near 100 0 (by omega) (by omega)
  refine ⟨r, h1, h2.trans (Ex.zero.trans ?_)⟩
  simp only [CloseI, Ex.zero, CloseC]

/-! the reference -/
def NearI (gap : Int) (n n' : Nat) (f g : Nat → Nat → CV) (i : Nat) : Prop := Ex n' (fun k => Near (pt f i) (pt g k) (pt g (nx n' k)) gap) 0
theorem near59_2 {ρ : Type} (n n' i : Nat) (f g : Nat → Nat → CV) (gap : Int) (hg : 0 ≤ gap) (hg' : gap ≤ 1000) (hn : n ≤ 32) (hn' : n' ≤ 32) (h0 : 3 ≤ n) (h0' : 3 ≤ n') (hi : i < n) (hA : AllNr n f) (hB : AllNr n' g) (k0 k1 : Option ρ) : ∀ (m k : Nat), n' < m + k → k ≤ n' →
    (Ex n' (fun k => Near (pt f i) (pt g k) (pt g (nx n' k)) gap) k → L59v2 100 n f n' g gap (Int.ofNat i) m (Int.ofNat k) k0 k1 = k0) ∧
    (¬ Ex n' (fun k => Near (pt f i) (pt g k) (pt g (nx n' k)) gap) k → L59v2 100 n f n' g gap (Int.ofNat i) m (Int.ofNat k) k0 k1 = k1) := by
  intro m
  induction m with
  | zero => intro k h1 h2; omega
  | succ m ih =>
    intro k h1 h2
    unfold L59v2
    rw [lt_nat, inb_nat, toNat_nat, inb_nat, toNat_nat]
    by_cases h : k < n'
    · have hy : nx n' k < n' := nx_lt h0'
      have e2 : (k + 1) % n' = nx n' k := rfl
      rw [bif_t (decide_eq_true h), bif_t (decide_eq_true h), bif_f (ofNat_ne0 (by omega)), w64_succ (i := k) (by omega), tmod_nat, inb_nat, toNat_nat, e2, bif_t (decide_eq_true hy), bif_t (decide_eq_true hi), near78 (hA i hi) (hB k h) (hB _ hy) hg hg', ob_some]
      by_cases hM : Near (pt f i) (pt g k) (pt g (nx n' k)) gap
      · rw [bif_t (decide_eq_true hM)]
        exact ⟨fun _ => rfl, fun hh => absurd (Ex.here h hM) hh⟩
      · rw [bif_f (decide_eq_false hM), Ex.step hM]
        exact ih (k + 1) (by omega) (by omega)
    · rw [bif_f (decide_eq_false h)]
      exact ⟨fun hh => absurd hh (Ex.none h), fun _ => rfl⟩
theorem near59_3 (n n' : Nat) (f g : Nat → Nat → CV) (gap : Int) (hg : 0 ≤ gap) (hg' : gap ≤ 1000) (hn : n ≤ 32) (hn' : n' ≤ 32) (h0 : 3 ≤ n) (h0' : 3 ≤ n') (hA : AllNr n f) (hB : AllNr n' g) : ∀ (m i : Nat), n < m + i → i ≤ n →
    ∃ r, L59v3 100 n f n' g gap m (Int.ofNat i) (some true) (some false) = some r ∧ (r = true ↔ Ex n (NearI gap n n' f g) i) := by
  intro m
  induction m with
  | zero => intro i h1 h2; omega
  | succ m ih =>
    intro i h1 h2
    unfold L59v3
    rw [lt_nat]
    by_cases h : i < n
    · obtain ⟨m1, m2⟩ := near59_2 n n' i f g gap hg hg' hn hn' h0 h0' h hA hB (some true) (L59v3 100 n f n' g gap m (Int.ofNat (i + 1)) (some true) (some false)) 100 0 (by omega) (by omega)
      rw [bif_t (decide_eq_true h), w64_succ (by omega), show (0 : Int) = Int.ofNat 0 from rfl]
      by_cases hT : NearI gap n n' f g i
      · rw [m1 hT]
        exact ⟨true, rfl, fun _ => Ex.here h hT, fun _ => rfl⟩
      · rw [m2 hT, Ex.step hT]
        exact ih (i + 1) (by omega) (by omega)
    · rw [bif_f (decide_eq_false h)]
      exact ⟨false, rfl, fun hh => (by cases hh), fun hh => absurd hh (Ex.none h)⟩
def NearC (gap : Int) (n n' : Nat) (f g : Nat → Nat → CV) : Prop := ∃ i, i < n ∧ ∃ k, k < n' ∧ Near (pt f i) (pt g k) (pt g (nx n' k)) gap
theorem near59 (n n' : Nat) (f g : Nat → Nat → CV) (gap : Int) (hg : 0 ≤ gap) (hg' : gap ≤ 1000) (V : Valid n f) (W : Valid n' g) : ∃ r, F59 100 n f n' g gap = some r ∧ (r = true ↔ NearC gap n n' f g) := by
  have := V.small
  unfold F59 D59
  obtain ⟨r, h1, h2⟩ := near59_3 n n' f g gap hg hg' V.small W.small V.big W.big V.near W.near 100 0 (by omega) (by omega)
  refine ⟨r, h1, h2.trans (Ex.zero.trans ?_)⟩
  simp only [NearI, Ex.zero, NearC]
theorem close_iff {gap : Int} {n n' : Nat} {f g : Nat → Nat → CV} (V : Valid n f) (W : Valid n' g) : CloseC gap n n' f g ↔ Touch n (pt f) n' (pt g) ∨ NearC gap n n' f g ∨ NearC gap n' n g f := by
  constructor
  · rintro ⟨i, hi, k, hk, h | h | h | h | h⟩
    · exact .inl ⟨i, k, hi, hk, h⟩
    · exact .inr (.inl ⟨i, hi, k, hk, h⟩)
    · exact .inr (.inl ⟨nx n i, nx_lt V.big, k, hk, h⟩)
    · exact .inr (.inr ⟨k, hk, i, hi, h⟩)
    · exact .inr (.inr ⟨nx n' k, nx_lt W.big, i, hi, h⟩)
  · rintro (⟨i, k, hi, hk, h⟩ | ⟨i, hi, k, hk, h⟩ | ⟨k, hk, i, hi, h⟩)
    · exact ⟨i, hi, k, hk, .inl h⟩
    · exact ⟨i, hi, k, hk, .inr (.inl h)⟩
    · exact ⟨i, hi, k, hk, .inr (.inr (.inr (.inl h)))⟩

/-! all contours of a shape -/
def cf (n1 : Nat) (f1 f2 : Nat → Nat → CV) : Nat → Nat → CV := joinF 1 (rowsF 1 [(.ro false (.pr (.int .i64) (.pr (.int .i64) .nil)) n1 f1)]) f2
theorem cf_valid {n1 : Nat} {f1 : Nat → Nat → CV} {n2 : Nat} {f2 : Nat → Nat → CV} (S : VShape n1 f1 n2 f2) {j : Nat} (h : j < 1 + n2) : Valid (CV.len (cf n1 f1 f2 j 0)) (CV.el (cf n1 f1 f2 j 0)) := by
  cases j with
  | zero => exact S.outer
  | succ j =>
    have e : cf n1 f1 f2 (j + 1) 0 = f2 j 0 := by
      unfold cf joinF
      rw [bif_f (by cases hq : Nat.blt (j + 1) 1 with | false => rfl | true => simp [Nat.blt_eq] at hq)]
      rfl
    rw [e]
    exact (S.hole j (by omega)).valid
theorem cont42 {n1 : Nat} {f1 : Nat → Nat → CV} {n2 : Nat} {f2 : Nat → Nat → CV} (h : n2 ≤ 8) : F42 100 n1 f1 n2 f2 = some (1 + n2, cf n1 f1 f2) ∧ F44 100 n1 f1 n2 f2 = some (1 + n2, cf n1 f1 f2) := by
  unfold F42 D42 F44 D44
  rw [bif_t (by rw [Nat.ble_eq]; omega)]
  exact ⟨rfl, rfl⟩
abbrev cl (F : Nat → Nat → CV) (i : Nat) : Nat := CV.len (F i 0)
abbrev ce (F : Nat → Nat → CV) (i : Nat) : Nat → Nat → CV := CV.el (F i 0)

theorem clear27_2 {ρ : Type} (N i : Nat) (F G : Nat → Nat → CV) (gap : Int) (hg : 0 ≤ gap) (hg' : gap ≤ 1000) (hN : N ≤ 9) (hV : Valid (cl F i) (ce F i)) (hW : ∀ j, j < N → Valid (cl G j) (ce G j)) (c0 : Nat) (c1 : Nat → Nat → CV) (c2 c3 : Int) (a1 a3 b1 b3 : Nat) (a2 a4 b2 b4 : Nat → Nat → CV) (k0 k1 : Option ρ) : ∀ (m k : Nat), N < m + k → k ≤ N →
    (Ex N (fun k => CloseC gap (cl F i) (cl G k) (ce F i) (ce G k)) k → L27v2 100 (cl F i) (ce F i) c0 c1 c2 c3 N G (Int.ofNat N) a1 a2 a3 a4 b1 b2 b3 b4 gap m (Int.ofNat k) k0 k1 = k0) ∧
    (¬ Ex N (fun k => CloseC gap (cl F i) (cl G k) (ce F i) (ce G k)) k → L27v2 100 (cl F i) (ce F i) c0 c1 c2 c3 N G (Int.ofNat N) a1 a2 a3 a4 b1 b2 b3 b4 gap m (Int.ofNat k) k0 k1 = k1) := by
  intro m
  induction m with
  | zero => intro k h1 h2; omega
  | succ m ih =>
    intro k h1 h2
    unfold L27v2
    rw [lt_nat, inb_nat, toNat_nat]
    by_cases h : k < N
    · obtain ⟨r, hr, hr'⟩ := close58 (cl F i) (cl G k) (ce F i) (ce G k) gap hg hg' hV (hW k h)
      rw [bif_t (decide_eq_true h), bif_t (decide_eq_true h), hr, ob_some, w64_succ (by omega)]
      by_cases hM : CloseC gap (cl F i) (cl G k) (ce F i) (ce G k)
      · rw [bif_t (hr'.2 hM)]
        exact ⟨fun _ => rfl, fun hh => absurd (Ex.here (P := fun k => CloseC gap (cl F i) (cl G k) (ce F i) (ce G k)) h hM) hh⟩
      · rw [bif_f (Bool.eq_false_iff.2 fun hh => hM (hr'.1 hh)), Ex.step (P := fun k => CloseC gap (cl F i) (cl G k) (ce F i) (ce G k)) hM]
        exact ih (k + 1) (by omega) (by omega)
    · rw [bif_f (decide_eq_false h)]
      exact ⟨fun hh => absurd hh (Ex.none h), fun _ => rfl⟩
def CloseS (gap : Int) (N : Nat) (F G : Nat → Nat → CV) (i : Nat) : Prop := Ex N (fun k => CloseC gap (cl F i) (cl G k) (ce F i) (ce G k)) 0
theorem clear27_3 (M : Nat) (F : Nat → Nat → CV) (n1 n2 m1 m2 : Nat) (f1 f2 g1 g2 : Nat → Nat → CV) (gap : Int) (hg : 0 ≤ gap) (hg' : gap ≤ 1000) (hM : M ≤ 9) (hV : ∀ j, j < M → Valid (cl F j) (ce F j)) (S : VShape m1 g1 m2 g2) : ∀ (m i : Nat), M < m + i → i ≤ M →
    ∃ r, L27v3 100 M F (Int.ofNat M) n1 f1 n2 f2 m1 g1 m2 g2 gap m (Int.ofNat i) (some false) (some true) = some r ∧ (r = false ↔ Ex M (CloseS gap (1 + m2) F (cf m1 g1 g2)) i) := by
  intro m
  have few := S.few
  induction m with
  | zero => intro i h1 h2; omega
  | succ m ih =>
    intro i h1 h2
    unfold L27v3
    rw [lt_nat, inb_nat, toNat_nat]
    by_cases h : i < M
    · obtain ⟨p1, p2⟩ := clear27_2 (1 + m2) i F (cf m1 g1 g2) gap hg hg' (by omega) (hV i h) (fun j hj => cf_valid S hj) M F (Int.ofNat M) (Int.ofNat i) n1 n2 m1 m2 f1 f2 g1 g2 (some false) (L27v3 100 M F (Int.ofNat M) n1 f1 n2 f2 m1 g1 m2 g2 gap m (Int.ofNat (i + 1)) (some false) (some true)) 100 0 (by omega) (by omega)
      rw [bif_t (decide_eq_true h), bif_t (decide_eq_true h), (cont42 few).1, ob_some, w64_succ (by omega), show (0 : Int) = Int.ofNat 0 from rfl]
      by_cases hT : CloseS gap (1 + m2) F (cf m1 g1 g2) i
      · exact ⟨false, p1 hT, fun _ => Ex.here h hT, fun _ => rfl⟩
      · obtain ⟨r, hr, hr'⟩ := ih (i + 1) (by omega) (by omega)
        refine ⟨r, (p2 hT).trans hr, ?_⟩
        rw [Ex.step hT]; exact hr'
    · rw [bif_f (decide_eq_false h)]
      exact ⟨true, rfl, fun hh => (by cases hh), fun hh => absurd hh (Ex.none h)⟩

theorem clear28_2 {ρ : Type} (M N i : Nat) (F G : Nat → Nat → CV) (gap : Int) (hg : 0 ≤ gap) (hg' : gap ≤ 1000) (hi : i < M) (hN : N ≤ 9) (hV : Valid (cl F i) (ce F i)) (hW : ∀ j, j < N → Valid (cl G j) (ce G j)) (a1 a3 b1 b3 : Nat) (a2 a4 b2 b4 : Nat → Nat → CV) (k0 k1 : Option ρ) : ∀ (m k : Nat), N < m + k → k ≤ N →
    (Ex N (fun k => CloseC gap (cl F i) (cl G k) (ce F i) (ce G k)) k → L28v2 100 gap M F N G (Int.ofNat i) a1 a2 a3 a4 b1 b2 b3 b4 m (Int.ofNat k) k0 k1 = k0) ∧
    (¬ Ex N (fun k => CloseC gap (cl F i) (cl G k) (ce F i) (ce G k)) k → L28v2 100 gap M F N G (Int.ofNat i) a1 a2 a3 a4 b1 b2 b3 b4 m (Int.ofNat k) k0 k1 = k1) := by
  intro m
  induction m with
  | zero => intro k h1 h2; omega
  | succ m ih =>
    intro k h1 h2
    unfold L28v2
    rw [lt_nat, inb_nat, toNat_nat, inb_nat, toNat_nat]
    by_cases h : k < N
    · obtain ⟨r, hr, hr'⟩ := touch39 (cl F i) (cl G k) (ce F i) (ce G k) hV (hW k h)
      obtain ⟨s, hs, hs'⟩ := near59 (cl F i) (cl G k) (ce F i) (ce G k) gap hg hg' hV (hW k h)
      obtain ⟨t, ht, ht'⟩ := near59 (cl G k) (cl F i) (ce G k) (ce F i) gap hg hg' (hW k h) hV
      have hc := close_iff (gap := gap) hV (hW k h)
      rw [bif_t (decide_eq_true h), bif_t (decide_eq_true hi), bif_t (decide_eq_true h), hr, ob_some, bif_t (decide_eq_true hi), bif_t (decide_eq_true h), hs, ob_some, bif_t (decide_eq_true h), bif_t (decide_eq_true hi), ht, ob_some, w64_succ (by omega)]
      by_cases hM : CloseC gap (cl F i) (cl G k) (ce F i) (ce G k)
      · refine ⟨fun _ => ?_, fun hh => absurd (Ex.here (P := fun k => CloseC gap (cl F i) (cl G k) (ce F i) (ce G k)) h hM) hh⟩
        have ho := hc.1 hM
        rw [← hr', ← hs', ← ht'] at ho
        cases r <;> cases s <;> cases t <;> first | rfl | (exfalso; revert ho; simp)
      · rw [Ex.step (P := fun k => CloseC gap (cl F i) (cl G k) (ce F i) (ce G k)) hM]
        have ho := mt hc.2 hM
        rw [← hr', ← hs', ← ht'] at ho
        obtain ⟨i1, i2⟩ := ih (k + 1) (by omega) (by omega)
        have key : ∀ X : Option ρ, (bif r == false then (bif s == false then (bif t then k0 else X) else k0) else k0) = X := by
          intro X
          cases r <;> cases s <;> cases t <;> first | rfl | (exfalso; revert ho; simp)
        rw [key]
        exact ⟨i1, i2⟩
    · rw [bif_f (decide_eq_false h)]
      exact ⟨fun hh => absurd hh (Ex.none h), fun _ => rfl⟩
theorem clear28_3 (M N : Nat) (F G : Nat → Nat → CV) (gap : Int) (hg : 0 ≤ gap) (hg' : gap ≤ 1000) (hM : M ≤ 9) (hN : N ≤ 9) (hV : ∀ j, j < M → Valid (cl F j) (ce F j)) (hW : ∀ j, j < N → Valid (cl G j) (ce G j)) (a1 a3 b1 b3 : Nat) (a2 a4 b2 b4 : Nat → Nat → CV) : ∀ (m i : Nat), M < m + i → i ≤ M →
    ∃ r, L28v3 100 gap M F N G a1 a2 a3 a4 b1 b2 b3 b4 m (Int.ofNat i) (some false) (some true) = some r ∧ (r = false ↔ Ex M (CloseS gap N F G) i) := by
  intro m
  induction m with
  | zero => intro i h1 h2; omega
  | succ m ih =>
    intro i h1 h2
    unfold L28v3
    rw [lt_nat]
    by_cases h : i < M
    · obtain ⟨p1, p2⟩ := clear28_2 M N i F G gap hg hg' h hN (hV i h) hW a1 a3 b1 b3 a2 a4 b2 b4 (some false) (L28v3 100 gap M F N G a1 a2 a3 a4 b1 b2 b3 b4 m (Int.ofNat (i + 1)) (some false) (some true)) 100 0 (by omega) (by omega)
      rw [bif_t (decide_eq_true h), w64_succ (by omega), show (0 : Int) = Int.ofNat 0 from rfl]
      by_cases hT : CloseS gap N F G i
      · exact ⟨false, p1 hT, fun _ => Ex.here h hT, fun _ => rfl⟩
      · obtain ⟨r, hr, hr'⟩ := ih (i + 1) (by omega) (by omega)
        refine ⟨r, (p2 hT).trans hr, ?_⟩
        rw [Ex.step hT]; exact hr'
    · rw [bif_f (decide_eq_false h)]
      exact ⟨true, rfl, fun hh => (by cases hh), fun hh => absurd hh (Ex.none h)⟩

theorem place47_eq {n1 : Nat} {f1 : Nat → Nat → CV} {n2 : Nat} {f2 : Nat → Nat → CV} (S : VShape n1 f1 n2 f2) (qx qy : Int) : ∃ z, F47 100 n1 f1 n2 f2 qx qy = some z ∧ F23 100 n1 f1 n2 f2 qx qy = some z := by
  obtain ⟨z, h1, h2⟩ := place_law n1 f1 n2 f2 qx qy
  refine ⟨z, ?_, h2⟩
  obtain ⟨c, c1, _, c3⟩ := shape_law n1 n2 f1 f2
  have hc := c3.2 S
  subst hc
  unfold F22 D22 at h1
  rw [c1, ob_some] at h1
  have h2' : ob (F47 100 n1 f1 n2 f2 qx qy) (fun t => some t) = some z := h1
  cases hh : F47 100 n1 f1 n2 f2 qx qy with
  | none => rw [hh] at h2'; cases h2'
  | some a => rw [hh] at h2'; exact h2'

theorem clear_eq (n1 : Nat) (f1 : Nat → Nat → CV) (n2 : Nat) (f2 : Nat → Nat → CV) (m1 : Nat) (g1 : Nat → Nat → CV) (m2 : Nat) (g2 : Nat → Nat → CV) (gap : Int) : ∃ r, F27 100 n1 f1 n2 f2 m1 g1 m2 g2 gap = some r ∧ F28 100 n1 f1 n2 f2 m1 g1 m2 g2 gap = some r := by
  unfold F27 D27 F28 D28
  obtain ⟨c, c1, c2, c3⟩ := shape_law n1 n2 f1 f2
  obtain ⟨d, d1, d2, d3⟩ := shape_law m1 m2 g1 g2
  rw [c1, c2, d1, d2]
  simp only [ob_some]
  by_cases hc : c = 0
  · by_cases hd : d = 0
    · have S := c3.1 hc
      have T := d3.1 hd
      subst hc
      subst hd
      have z0 : ((0 : Int) != 0) = false := rfl
      have tf0 : (true == false) = false := rfl
      simp only [z0, beq_self_eq_true, cond_true, cond_false]
      by_cases ha : gap < 0
      · simp only [decide_eq_true ha, tf0, cond_false]
        exact ⟨_, rfl, rfl⟩
      · by_cases hb : gap > 1000
        · simp only [decide_eq_false ha, decide_eq_true hb, tf0, beq_self_eq_true, cond_true, cond_false]
          exact ⟨_, rfl, rfl⟩
        · obtain ⟨z, z1, z2⟩ := place47_eq S (CV.int (g1 0 0)) (CV.int (g1 0 1))
          obtain ⟨y, y1, y2⟩ := place47_eq T (CV.int (f1 0 0)) (CV.int (f1 0 1))
          have vb := S.outer.big
          have wb := T.outer.big
          have sf := S.few
          have tf := T.few
          have i1 : inb 0 n1 = true := inb_true (by omega) (by omega)
          have i2 : inb 0 m1 = true := inb_true (by omega) (by omega)
          simp only [decide_eq_false ha, decide_eq_false hb, beq_self_eq_true, cond_true, cond_false, i1, i2, z1, z2, y1, y2, (cont42 S.few).1, (cont42 S.few).2, (cont42 T.few).2]
          simp only [ob_some]
          by_cases hz : z ≥ 0
          · have hz' : (decide (z ≥ 0) == false) = false := by rw [decide_eq_true hz]; rfl
            simp only [hz', cond_false]
            exact ⟨_, rfl, rfl⟩
          · have hz' : (decide (z ≥ 0) == false) = true := by rw [decide_eq_false hz]; rfl
            simp only [hz', cond_true]
            by_cases hy : y ≥ 0
            · simp only [decide_eq_true hy, cond_true]
              exact ⟨_, rfl, rfl⟩
            · simp only [decide_eq_false hy, cond_false]
              rw [show (0 : Int) = Int.ofNat 0 from rfl]
              obtain ⟨r, r1, r2⟩ := clear27_3 (1 + n2) (cf n1 f1 f2) n1 n2 m1 m2 f1 f2 g1 g2 gap (by omega) (by omega) (by omega) (fun j hj => cf_valid S hj) T 100 0 (by omega) (by omega)
              obtain ⟨s, s1, s2⟩ := clear28_3 (1 + n2) (1 + m2) (cf n1 f1 f2) (cf m1 g1 g2) gap (by omega) (by omega) (by omega) (by omega) (fun j hj => cf_valid S hj) (fun j hj => cf_valid T hj) n1 n2 m1 m2 f1 f2 g1 g2 100 0 (by omega) (by omega)
              refine ⟨r, r1, s1.trans ?_⟩
              have e : (s = false ↔ r = false) := s2.trans r2.symm
              cases r <;> cases s <;> simp at e <;> rfl
    · have e1 : (d != 0) = true := by simpa using hd
      rw [e1]
      refine ⟨false, ?_, ?_⟩
      · cases decide (gap < 0) <;> cases decide (gap > 1000) <;> cases (c != 0) <;> rfl
      · cases (c != 0) <;> rfl
  · have e1 : (c != 0) = true := by simpa using hc
    rw [e1]
    refine ⟨false, ?_, rfl⟩
    cases decide (gap < 0) <;> cases decide (gap > 1000) <;> rfl

theorem clears_law (n1 : Nat) (f1 : Nat → Nat → CV) (n2 : Nat) (f2 : Nat → Nat → CV) (_ : ShapeIn n1 f1 n2 f2) (m1 : Nat) (g1 : Nat → Nat → CV) (m2 : Nat) (g2 : Nat → Nat → CV) (_ : ShapeIn m1 g1 m2 g2) (gap : Int) (_ : I64 gap) : F7 100 n1 f1 n2 f2 m1 g1 m2 g2 gap = some true := by
  unfold F7 D7
  rcases great_law n1 n2 f1 f2 with h | ⟨h, _, _, _⟩
  · rw [h, ob_some, bif_f (by simp), alive_law, ob_some]
  · rcases great_law m1 m2 g1 g2 with h' | ⟨h', _, _, _⟩
    · rw [h, ob_some, bif_t (by simp), h', ob_some, bif_f (by simp), alive_law, ob_some]
    · obtain ⟨r, r1, r2⟩ := clear_eq n1 f1 n2 f2 m1 g1 m2 g2 gap
      rw [h, ob_some, bif_t (by simp), h', ob_some, bif_t (by simp), r1, ob_some, r2, ob_some, bif_t (by simp), alive_law, ob_some]
end Go.Eng.R13
