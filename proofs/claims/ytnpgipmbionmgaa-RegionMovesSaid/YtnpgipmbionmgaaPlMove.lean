/-
  RegionMoves: the plain law.
-/
import Derived.Test.YtnpgipmbionmgaaPlGreat
set_option linter.all false
namespace Go.Eng.R13
open Go Go.RowKit Go.Eng

theorem joinF_old (n : Nat) (f g : Nat → Nat → CV) (j c : Nat) (h : j < n) : joinF n f g j c = f j c := by
  unfold joinF
  rw [bif_t (by simpa [Nat.blt_eq] using h)]
theorem joinF_new (n : Nat) (f g : Nat → Nat → CV) (j c : Nat) (h : n ≤ j) : joinF n f g j c = g (j - n) c := by
  unfold joinF
  rw [bif_f]
  cases hq : Nat.blt j n with
  | false => rfl
  | true => simp [Nat.blt_eq] at hq; omega
theorem ble_ok {n : Nat} (h : n ≤ 1073741824) : Nat.ble n 1073741824 = true := by rw [Nat.ble_eq]; exact h

/-- a quarter turn, t times -/
def rot : Nat → Int → Int → Int × Int
  | 0, x, y => (x, y)
  | n + 1, x, y => rot n (w64 (0 - y)) x
/-- a point at a spot -/
def tp (fl : Bool) (t : Nat) (tx ty x y : Int) : Int × Int :=
  (w64 ((rot t (bif fl then w64 (0 - x) else x) y).1 + tx), w64 ((rot t (bif fl then w64 (0 - x) else x) y).2 + ty))

theorem rot32 {ρ : Type} (a : ByteArray) (b c : Int) (t : Nat) (fl : Bool) (ht : t ≤ 3) (k0 : Int → Int → Option ρ) : ∀ (m i : Nat) (x y : Int), t < m + i → i ≤ t →
    L32v1 100 a b c (Int.ofNat t) fl m (Int.ofNat i) x y k0 = k0 (rot (t - i) x y).1 (rot (t - i) x y).2 := by
  intro m
  induction m with
  | zero => intro i x y h1 h2; omega
  | succ m ih =>
    intro i x y h1 h2
    unfold L32v1
    rw [lt_nat]
    by_cases h : i < t
    · rw [bif_t (by simpa using h), w64_succ (by omega), ih (i + 1) _ _ (by omega) (by omega)]
      rw [show t - i = (t - (i + 1)) + 1 from by omega]
      rfl
    · rw [bif_f (by simpa using h), show t - i = 0 from by omega]
      rfl
theorem rot51 {ρ : Type} (a : Nat → CV) (b c : Nat) (d : Nat → Nat → CV) (e g : Int) (t : Nat) (q : Nat → Nat → CV) (ht : t ≤ 3) (k0 : Int → Int → Option ρ) : ∀ (m i : Nat) (x y : Int), t < m + i → i ≤ t →
    L51v2 100 a b c d e g (Int.ofNat t) q m (Int.ofNat i) x y k0 = k0 (rot (t - i) x y).1 (rot (t - i) x y).2 := by
  intro m
  induction m with
  | zero => intro i x y h1 h2; omega
  | succ m ih =>
    intro i x y h1 h2
    unfold L51v2
    rw [lt_nat]
    by_cases h : i < t
    · rw [bif_t (by simpa using h), w64_succ (by omega), ih (i + 1) _ _ (by omega) (by omega)]
      rw [show t - i = (t - (i + 1)) + 1 from by omega]
      rfl
    · rw [bif_f (by simpa using h), show t - i = 0 from by omega]
      rfl

theorem point_law (x y : Int) (s : ByteArray) (tx ty : Int) (t : Nat) (fl : Bool) (ht : t ≤ 3) : F32 100 x y s tx ty (Int.ofNat t) fl = some (tp fl t tx ty x y) := by
  unfold F32 D32
  cases fl with
  | true =>
    rw [bif_t rfl]
    exact rot32 s tx ty t true ht _ 100 0 _ _ (by omega) (by omega)
  | false =>
    rw [bif_f rfl]
    exact rot32 s tx ty t false ht _ 100 0 _ _ (by omega) (by omega)

/-- the first i points of g are those of P -/
def Are (P : Nat → Int × Int) (g : Nat → Nat → CV) (i : Nat) : Prop := ∀ j, j < i → g j 0 = .i .i64 (P j).1 ∧ g j 1 = .i .i64 (P j).2
theorem Are.snoc {P : Nat → Int × Int} {g : Nat → Nat → CV} {i : Nat} (h : Are P g i) {a b : Int} (hp : P i = (a, b)) : Are P (joinF i g (rowsF 2 [.i .i64 a, .i .i64 b])) (i + 1) := by
  intro j hj
  by_cases e : j = i
  · subst e
    rw [joinF_new _ _ _ _ _ (Nat.le_refl j), joinF_new _ _ _ _ _ (Nat.le_refl j), Nat.sub_self, hp]
    exact ⟨rfl, rfl⟩
  · rw [joinF_old _ _ _ _ _ (by omega), joinF_old _ _ _ _ _ (by omega)]
    exact h j (by omega)

/-- the points of a contour at a spot, in their order -/
def cp (fl : Bool) (t : Nat) (tx ty : Int) (f : Nat → Nat → CV) (j : Nat) : Int × Int := tp fl t tx ty (CV.int (f j 0)) (CV.int (f j 1))
def cq (fl : Bool) (t : Nat) (tx ty : Int) (n : Nat) (f : Nat → Nat → CV) (j : Nat) : Int × Int := cp fl t tx ty f (bif fl then n - 1 - j else j)

theorem loop51 {ρ : Type} (s : ByteArray) (n t : Nat) (fl : Bool) (tx ty : Int) (f : Nat → Nat → CV) (hn : n ≤ 40) (ht : t ≤ 3) (k0 : Nat → (Nat → Nat → CV) → Option ρ) : ∀ (m i : Nat) (g : Nat → Nat → CV), n < m + i → i ≤ n → Are (cp fl t tx ty f) g i →
    ∃ g', L51v3 100 (listF [.s s, .i .i64 tx, .i .i64 ty, .i .i64 (Int.ofNat t), .b fl]) n f (Int.ofNat n) m i (Int.ofNat i) g k0 = k0 n g' ∧ Are (cp fl t tx ty f) g' n := by
  intro m
  induction m with
  | zero => intro i g h1 h2; omega
  | succ m ih =>
    intro i g h1 h2 hg
    unfold L51v3
    rw [lt_nat, inb_nat, toNat_nat]
    by_cases h : i < n
    · rw [bif_t (by simpa using h), bif_t (by simpa using h), w64_succ (by omega)]
      have e4 : CV.bool (listF [.s s, .i .i64 tx, .i .i64 ty, .i .i64 (Int.ofNat t), .b fl] 4) = fl := rfl
      have e3 : CV.int (listF [.s s, .i .i64 tx, .i .i64 ty, .i .i64 (Int.ofNat t), .b fl] 3) = Int.ofNat t := rfl
      have e1 : CV.int (listF [.s s, .i .i64 tx, .i .i64 ty, .i .i64 (Int.ofNat t), .b fl] 1) = tx := rfl
      have e2 : CV.int (listF [.s s, .i .i64 tx, .i .i64 ty, .i .i64 (Int.ofNat t), .b fl] 2) = ty := rfl
      rw [e4, e3, e1, e2]
      cases fl with
      | true =>
        rw [bif_t rfl]
        rw [show (0 : Int) = Int.ofNat 0 from rfl, rot51 _ _ _ _ _ _ t _ ht _ 100 0 _ _ (by omega) (by omega), bif_t (ble_ok (by omega))]
        exact ih (i + 1) _ (by omega) (by omega) (hg.snoc rfl)
      | false =>
        rw [bif_f rfl]
        rw [show (0 : Int) = Int.ofNat 0 from rfl, rot51 _ _ _ _ _ _ t _ ht _ 100 0 _ _ (by omega) (by omega), bif_t (ble_ok (by omega))]
        exact ih (i + 1) _ (by omega) (by omega) (hg.snoc rfl)
    · rw [bif_f (by simpa using h)]
      have : i = n := by omega
      subst this
      exact ⟨g, rfl, hg⟩

theorem moved_law (s : ByteArray) (n t : Nat) (fl : Bool) (tx ty : Int) (f : Nat → Nat → CV) (hn : n ≤ 40) (ht : t ≤ 3) :
    ∃ g, F51 100 n f (listF [.s s, .i .i64 tx, .i .i64 ty, .i .i64 (Int.ofNat t), .b fl]) = some (n, g) ∧ Are (cq fl t tx ty n f) g n := by
  unfold F51 D51
  obtain ⟨g, h1, h2⟩ := loop51 s n t fl tx ty f hn ht (fun x65 x66 => (bif (CV.bool (listF [.s s, .i .i64 tx, .i .i64 ty, .i .i64 (Int.ofNat t), .b fl] 4)) then (bif (Nat.beq x65 x65) then (bif (Nat.beq x65 0) then (some (x65, x66)) else (some (x65, (revF x65 x66)))) else none) else (some (x65, x66)))) 100 0 (fun _ _ => .any) (by omega) (by omega) (fun j hj => by omega)
  rw [show (0 : Int) = Int.ofNat 0 from rfl, h1]
  have e4 : CV.bool (listF [.s s, .i .i64 tx, .i .i64 ty, .i .i64 (Int.ofNat t), .b fl] 4) = fl := rfl
  rw [e4]
  cases fl with
  | true =>
    rw [bif_t rfl, bif_t (Nat.beq_refl n)]
    by_cases h0 : n = 0
    · subst h0
      exact ⟨g, rfl, fun j hj => by omega⟩
    · rw [bif_f (by cases hq : Nat.beq n 0 with | false => rfl | true => exact (h0 (Nat.eq_of_beq_eq_true hq)).elim)]
      refine ⟨_, rfl, fun j hj => ?_⟩
      unfold revF cq
      exact h2 (n - 1 - j) (by omega)
  | false =>
    rw [bif_f rfl]
    exact ⟨g, rfl, h2⟩

theorem loop54 {ρ : Type} (s : ByteArray) (n t : Nat) (fl : Bool) (tx ty : Int) (f : Nat → Nat → CV) (hn : n ≤ 40) (ht : t ≤ 3) (k0 : Nat → (Nat → Nat → CV) → Option ρ) : ∀ (m i : Nat) (g : Nat → Nat → CV), n < m + i → i ≤ n → Are (cq fl t tx ty n f) g i →
    ∃ g', L54v1 100 n f s tx ty (Int.ofNat t) fl m i (Int.ofNat i) g k0 = k0 n g' ∧ Are (cq fl t tx ty n f) g' n := by
  intro m
  induction m with
  | zero => intro i g h1 h2; omega
  | succ m ih =>
    intro i g h1 h2 hg
    unfold L54v1
    rw [lt_nat, inb_nat, toNat_nat]
    by_cases h : i < n
    · rw [bif_t (by simpa using h), w64_succ (by omega)]
      cases fl with
      | true =>
        have e : w64 (w64 (Int.ofNat n - 1) - Int.ofNat i) = Int.ofNat (n - 1 - i) := by
          rw [w64_of (n := Int.ofNat n - 1) (by simp; omega) (by simp; omega), w64_of (by simp; omega) (by simp; omega)]
          simp; omega
        rw [bif_t rfl, e, inb_nat, toNat_nat, bif_t (by simp; omega), point_law _ _ _ _ _ _ _ ht, ob_some, bif_t (ble_ok (by omega))]
        exact ih (i + 1) _ (by omega) (by omega) (hg.snoc rfl)
      | false =>
        rw [bif_f rfl, bif_t (by simpa using h), point_law _ _ _ _ _ _ _ ht, ob_some, bif_t (ble_ok (by omega))]
        exact ih (i + 1) _ (by omega) (by omega) (hg.snoc rfl)
    · rw [bif_f (by simpa using h)]
      have : i = n := by omega
      subst this
      exact ⟨g, rfl, hg⟩

theorem contour_law (s : ByteArray) (n t : Nat) (fl : Bool) (tx ty : Int) (f : Nat → Nat → CV) (hn : n ≤ 40) (ht : t ≤ 3) :
    ∃ g, F54 100 n f s tx ty (Int.ofNat t) fl = some (n, g) ∧ Are (cq fl t tx ty n f) g n := by
  unfold F54 D54
  exact loop54 s n t fl tx ty f hn ht _ 100 0 (fun _ _ => .any) (by omega) (by omega) (fun j hj => by omega)

theorem same_loop (n : Nat) (f g : Nat → Nat → CV) (P : Nat → Int × Int) (hf : Are P f n) (hg : Are P g n) (hn : n ≤ 40) : ∀ (m i : Nat), n < m + i → i ≤ n → L48v1 100 n f n g m (Int.ofNat i) (some false) (some true) = some true := by
  intro m
  induction m with
  | zero => intro i h1 h2; omega
  | succ m ih =>
    intro i h1 h2
    unfold L48v1
    rw [lt_nat, inb_nat, toNat_nat]
    by_cases h : i < n
    · rw [bif_t (by simpa using h), bif_t (by simpa using h), bif_t (by simpa using h), w64_succ (by omega)]
      obtain ⟨a1, a2⟩ := hf i h
      obtain ⟨b1, b2⟩ := hg i h
      rw [bif_f (by rw [a1, a2, b1, b2]; simp [CV.int])]
      exact ih (i + 1) (by omega) (by omega)
    · rw [bif_f (by simpa using h)]
theorem same_law (n : Nat) (f g : Nat → Nat → CV) (P : Nat → Int × Int) (hf : Are P f n) (hg : Are P g n) (hn : n ≤ 40) : F48 100 n f n g = some true := by
  unfold F48 D48
  rw [bif_f (by simp)]
  exact same_loop n f g P hf hg hn 100 0 (by omega) (by omega)

/-! far points -/
def farB (x y : Int) : Bool := decide (x < -1099511627776 ∨ x > 1099511627776 ∨ y < -1099511627776 ∨ y > 1099511627776)
theorem far49 (x y : Int) : F49 100 x y = some (farB x y) := by
  unfold F49 D49 farB
  by_cases h1 : x < -1099511627776
  · rw [bif_f (by simpa using h1)]; simp [h1]
  · rw [bif_t (by simpa using h1)]
    by_cases h2 : x > 1099511627776
    · rw [bif_f (by simpa using h2)]; simp [h2]
    · rw [bif_t (by simpa using h2)]
      by_cases h3 : y < -1099511627776
      · rw [bif_f (by simpa using h3)]; simp [h3]
      · rw [bif_t (by simpa using h3)]
        congr 1
        rw [Bool.eq_iff_iff]
        simp only [decide_eq_true_eq]
        omega
theorem far53 (x y : Int) : F53 100 x y = some (farB x y) := far49 x y

/-- is a point of the contour, from i on, far? -/
def FarFrom (n : Nat) (f : Nat → Nat → CV) (i : Nat) : Prop := ∃ j, i ≤ j ∧ j < n ∧ farB (CV.int (f j 0)) (CV.int (f j 1)) = true

theorem far_loop (n : Nat) (f : Nat → Nat → CV) (hn : n ≤ 40) : ∀ (m i : Nat), n < m + i → i ≤ n →
    ∃ z, L73cv1 100 n f (Int.ofNat n) m (Int.ofNat i) (fun x => some x) (some (-1)) = some z ∧ (z ≥ 0 ↔ FarFrom n f i) := by
  intro m
  induction m with
  | zero => intro i h1 h2; omega
  | succ m ih =>
    intro i h1 h2
    unfold L73cv1
    rw [lt_nat, inb_nat, toNat_nat]
    by_cases h : i < n
    · rw [bif_t (by simpa using h), bif_t (by simpa using h), w64_succ (by omega), far49, ob_some]
      cases hq : farB (CV.int (f i 0)) (CV.int (f i 1)) with
      | true =>
        rw [bif_t rfl]
        exact ⟨_, rfl, fun _ => ⟨i, Nat.le_refl i, h, hq⟩, fun _ => Int.natCast_nonneg i⟩
      | false =>
        rw [bif_f rfl]
        obtain ⟨z, h3, h4⟩ := ih (i + 1) (by omega) (by omega)
        refine ⟨z, h3, h4.trans ⟨fun ⟨j, a, b, c⟩ => ⟨j, by omega, b, c⟩, fun ⟨j, a, b, c⟩ => ⟨j, ?_, b, c⟩⟩⟩
        by_cases e : j = i
        · subst e; rw [hq] at c; cases c
        · omega
    · rw [bif_f (by simpa using h)]
      exact ⟨-1, rfl, fun hh => by omega, fun ⟨j, a, b, c⟩ => by omega⟩
theorem far_law (n : Nat) (f : Nat → Nat → CV) (hn : n ≤ 40) : ∃ b, F50c 100 n f = some b ∧ (b = true ↔ FarFrom n f 0) := by
  unfold F50c D50c F73c D73c
  obtain ⟨z, h1, h2⟩ := far_loop n f hn 100 0 (by omega) (by omega)
  rw [show (0 : Int) = Int.ofNat 0 from rfl, h1, ob_some]
  exact ⟨_, rfl, by rw [decide_eq_true_iff]; exact h2⟩

/-- is a contour, from i on, far? -/
def FarC (n : Nat) (f : Nat → Nat → CV) (i : Nat) : Prop := ∃ j, i ≤ j ∧ j < n ∧ FarFrom (CV.len (f j 0)) (CV.el (f j 0)) 0

theorem farC_loop {ρ : Type} (n a b : Nat) (f c d : Nat → Nat → CV) (s : ByteArray) (x y z : Int) (e : Bool) (hn : n ≤ 13) (hl : ∀ j, j < n → CV.len (f j 0) ≤ 40) (k0 k1 : Option ρ) : ∀ (m i : Nat), n < m + i → i ≤ n →
    (FarC n f i → L25v1 100 n f (Int.ofNat n) a c b d s x y z e m (Int.ofNat i) k0 k1 = k0) ∧ (¬ FarC n f i → L25v1 100 n f (Int.ofNat n) a c b d s x y z e m (Int.ofNat i) k0 k1 = k1) := by
  intro m
  induction m with
  | zero => intro i h1 h2; omega
  | succ m ih =>
    intro i h1 h2
    unfold L25v1
    rw [lt_nat, inb_nat, toNat_nat]
    by_cases h : i < n
    · obtain ⟨q, hq1, hq2⟩ := far_law (CV.len (f i 0)) (CV.el (f i 0)) (hl i h)
      rw [bif_t (by simpa using h), bif_t (by simpa using h), w64_succ (by omega), hq1, ob_some]
      cases q with
      | true =>
        rw [bif_t rfl]
        exact ⟨fun _ => rfl, fun hh => absurd ⟨i, Nat.le_refl i, h, hq2.1 rfl⟩ hh⟩
      | false =>
        rw [bif_f rfl]
        have e1 : FarC n f i ↔ FarC n f (i + 1) := by
          refine ⟨fun ⟨j, a, b, c⟩ => ⟨j, ?_, b, c⟩, fun ⟨j, a, b, c⟩ => ⟨j, by omega, b, c⟩⟩
          by_cases e : j = i
          · subst e
            have := hq2.2 c
            cases this
          · omega
        rw [e1]
        exact ih (i + 1) (by omega) (by omega)
    · rw [bif_f (by simpa using h)]
      exact ⟨fun ⟨j, a, b, c⟩ => by omega, fun _ => rfl⟩

theorem bad_inner {ρ : Type} (N a b i : Nat) (F c d : Nat → Nat → CV) (s : ByteArray) (x y z : Int) (e : Bool) (hi : i < N) (hl : CV.len (F i 0) ≤ 40) (k0 : Bool → Option ρ) : ∀ (m j : Nat) (bad : Bool), CV.len (F i 0) < m + j → j ≤ CV.len (F i 0) →
    ∃ r, L26v2 100 N F (Int.ofNat i) a c b d s x y z e m bad (Int.ofNat j) k0 = k0 r ∧ (r = true ↔ bad = true ∨ FarFrom (CV.len (F i 0)) (CV.el (F i 0)) j) := by
  intro m
  induction m with
  | zero => intro j bad h1 h2; omega
  | succ m ih =>
    intro j bad h1 h2
    unfold L26v2
    rw [inb_nat, toNat_nat, lt_nat, inb_nat, toNat_nat]
    rw [bif_t (by simpa using hi)]
    by_cases h : j < CV.len (F i 0)
    · rw [bif_t (by simpa using h), w64_succ (by omega)]
      cases bad with
      | true =>
        rw [bif_f (by simp)]
        obtain ⟨r, h3, h4⟩ := ih (j + 1) true (by omega) (by omega)
        exact ⟨r, h3, h4.trans ⟨fun _ => .inl rfl, fun _ => .inl rfl⟩⟩
      | false =>
        rw [bif_t (by simp), bif_t (by simpa using hi), bif_t (by simpa using h), far53, ob_some]
        obtain ⟨r, h3, h4⟩ := ih (j + 1) (farB (CV.int (CV.el (F i 0) j 0)) (CV.int (CV.el (F i 0) j 1))) (by omega) (by omega)
        refine ⟨r, h3, h4.trans ⟨fun hh => ?_, fun hh => ?_⟩⟩
        · rcases hh with hh | ⟨j', a, b, c⟩
          · exact .inr ⟨j, Nat.le_refl j, h, hh⟩
          · exact .inr ⟨j', by omega, b, c⟩
        · rcases hh with hh | ⟨j', a, b, c⟩
          · cases hh
          · by_cases e : j' = j
            · subst e; exact .inl c
            · exact .inr ⟨j', by omega, b, c⟩
    · rw [bif_f (by simpa using h)]
      exact ⟨bad, rfl, fun h => .inl h, fun hh => hh.elim id fun ⟨j', a, b, c⟩ => by omega⟩

theorem bad_outer {ρ : Type} (N a b : Nat) (F c d : Nat → Nat → CV) (s : ByteArray) (x y z : Int) (e : Bool) (hN : N ≤ 13) (hl : ∀ j, j < N → CV.len (F j 0) ≤ 40) (k0 : Bool → Option ρ) : ∀ (m i : Nat) (bad : Bool), N < m + i → i ≤ N →
    ∃ r, L26v3 100 N F a c b d s x y z e m bad (Int.ofNat i) k0 = k0 r ∧ (r = true ↔ bad = true ∨ FarC N F i) := by
  intro m
  induction m with
  | zero => intro i bad h1 h2; omega
  | succ m ih =>
    intro i bad h1 h2
    unfold L26v3
    rw [lt_nat]
    by_cases h : i < N
    · rw [bif_t (by simpa using h), w64_succ (by omega)]
      obtain ⟨r1, h3, h4⟩ := bad_inner N a b i F c d s x y z e h (hl i h) (fun x96 => (L26v3 100 N F a c b d s x y z e m x96 (Int.ofNat (i + 1)) k0)) 100 0 bad (by have := hl i h; omega) (by omega)
      rw [show (0 : Int) = Int.ofNat 0 from rfl, h3]
      obtain ⟨r, h5, h6⟩ := ih (i + 1) r1 (by omega) (by omega)
      refine ⟨r, h5, h6.trans ⟨fun hh => ?_, fun hh => ?_⟩⟩
      · rcases hh with hh | ⟨j', a, b, c⟩
        · rcases h4.1 hh with hh | hh
          · exact .inl hh
          · exact .inr ⟨i, Nat.le_refl i, h, hh⟩
        · exact .inr ⟨j', by omega, b, c⟩
      · rcases hh with hh | ⟨j', a, b, c⟩
        · exact .inl (h4.2 (.inl hh))
        · by_cases e : j' = i
          · subst e; exact .inl (h4.2 (.inr c))
          · exact .inr ⟨j', by omega, b, c⟩
    · rw [bif_f (by simpa using h)]
      exact ⟨bad, rfl, fun h => .inl h, fun hh => hh.elim id fun ⟨j', a, b, c⟩ => by omega⟩

theorem idle_inner {ρ : Type} (N a b i : Nat) (F c d : Nat → Nat → CV) (s : ByteArray) (x y z : Int) (e : Bool) (hi : i < N) (hl : CV.len (F i 0) ≤ 40) (k0 : Option ρ) : ∀ (m j : Nat), CV.len (F i 0) < m + j → j ≤ CV.len (F i 0) →
    L26v6 100 N F (Int.ofNat i) a c b d s x y z e m (Int.ofNat j) k0 = k0 := by
  intro m
  induction m with
  | zero => intro j h1 h2; omega
  | succ m ih =>
    intro j h1 h2
    unfold L26v6
    rw [inb_nat, toNat_nat, lt_nat, bif_t (by simpa using hi)]
    by_cases h : j < CV.len (F i 0)
    · rw [bif_t (by simpa using h), w64_succ (by omega)]
      exact ih (j + 1) (by omega) (by omega)
    · rw [bif_f (by simpa using h)]
theorem idle_outer {ρ : Type} (N a b : Nat) (F c d : Nat → Nat → CV) (s : ByteArray) (x y z : Int) (e : Bool) (hN : N ≤ 13) (hl : ∀ j, j < N → CV.len (F j 0) ≤ 40) (k0 : Option ρ) : ∀ (m i : Nat), N < m + i → i ≤ N →
    L26v7 100 N F a c b d s x y z e m (Int.ofNat i) k0 = k0 := by
  intro m
  induction m with
  | zero => intro i h1 h2; omega
  | succ m ih =>
    intro i h1 h2
    unfold L26v7
    rw [lt_nat]
    by_cases h : i < N
    · rw [bif_t (by simpa using h), w64_succ (by omega), show (0 : Int) = Int.ofNat 0 from rfl, idle_inner N a b i F c d s x y z e h (hl i h) _ 100 0 (by have := hl i h; omega) (by omega)]
      exact ih (i + 1) (by omega) (by omega)
    · rw [bif_f (by simpa using h)]

/-- the first i holes of g are those of f, moved -/
def Holes (fl : Bool) (t : Nat) (tx ty : Int) (f g : Nat → Nat → CV) (i : Nat) : Prop :=
  ∀ j, j < i → CV.len (g j 0) = CV.len (f j 0) ∧ Are (cq fl t tx ty (CV.len (f j 0)) (CV.el (f j 0))) (CV.el (g j 0)) (CV.len (f j 0))
theorem Holes.snoc {fl : Bool} {t : Nat} {tx ty : Int} {f g : Nat → Nat → CV} {i n : Nat} (h : Holes fl t tx ty f g i) {x : Nat → Nat → CV} {r : Kd} {b : Bool} (hn : n = CV.len (f i 0)) (hx : Are (cq fl t tx ty n (CV.el (f i 0))) x n) :
    Holes fl t tx ty f (joinF i g (rowsF 1 [.ro b r n x])) (i + 1) := by
  intro j hj
  by_cases e : j = i
  · subst e
    rw [joinF_new _ _ _ _ _ (Nat.le_refl j), Nat.sub_self]
    subst hn
    exact ⟨rfl, hx⟩
  · rw [joinF_old _ _ _ _ _ (by omega)]
    exact h j (by omega)

theorem holes25 {ρ : Type} (s : ByteArray) (n t : Nat) (fl : Bool) (tx ty : Int) (f : Nat → Nat → CV) (a b : Nat) (c d : Nat → Nat → CV) (hn : n ≤ 12) (hl : ∀ j, j < n → CV.len (f j 0) ≤ 40) (ht : t ≤ 3) (k0 : Nat → (Nat → Nat → CV) → Option ρ) : ∀ (m i : Nat) (g : Nat → Nat → CV), n < m + i → i ≤ n → Holes fl t tx ty f g i →
    ∃ g', L25v2 100 s tx ty (Int.ofNat t) fl n f (Int.ofNat n) a c b d m (Int.ofNat i) i g k0 = k0 n g' ∧ Holes fl t tx ty f g' n := by
  intro m
  induction m with
  | zero => intro i g h1 h2; omega
  | succ m ih =>
    intro i g h1 h2 hg
    unfold L25v2
    rw [lt_nat, inb_nat, toNat_nat]
    by_cases h : i < n
    · obtain ⟨x, hx1, hx2⟩ := moved_law s (CV.len (f i 0)) t fl tx ty (CV.el (f i 0)) (hl i h) ht
      rw [bif_t (by simpa using h), bif_t (by simpa using h), w64_succ (by omega), hx1, ob_some, bif_t (ble_ok (by omega))]
      exact ih (i + 1) _ (by omega) (by omega) (hg.snoc rfl hx2)
    · rw [bif_f (by simpa using h)]
      have : i = n := by omega
      subst this
      exact ⟨g, rfl, hg⟩
theorem holes26 {ρ : Type} (s : ByteArray) (n t : Nat) (fl : Bool) (tx ty : Int) (f : Nat → Nat → CV) (a b : Nat) (c d : Nat → Nat → CV) (hn : n ≤ 12) (hl : ∀ j, j < n → CV.len (f j 0) ≤ 40) (ht : t ≤ 3) (k0 : Nat → (Nat → Nat → CV) → Option ρ) : ∀ (m i : Nat) (g : Nat → Nat → CV), n < m + i → i ≤ n → Holes fl t tx ty f g i →
    ∃ g', L26v4 100 a c n f s tx ty (Int.ofNat t) fl b d m (Int.ofNat i) i g k0 = k0 n g' ∧ Holes fl t tx ty f g' n := by
  intro m
  induction m with
  | zero => intro i g h1 h2; omega
  | succ m ih =>
    intro i g h1 h2 hg
    unfold L26v4
    rw [lt_nat, inb_nat, toNat_nat]
    by_cases h : i < n
    · obtain ⟨x, hx1, hx2⟩ := contour_law s (CV.len (f i 0)) t fl tx ty (CV.el (f i 0)) (hl i h) ht
      rw [bif_t (by simpa using h), bif_t (by simpa using h), w64_succ (by omega), hx1, ob_some, bif_t (ble_ok (by omega))]
      exact ih (i + 1) _ (by omega) (by omega) (hg.snoc rfl hx2)
    · rw [bif_f (by simpa using h)]
      have : i = n := by omega
      subst this
      exact ⟨g, rfl, hg⟩

theorem sameC_loop (n a b : Nat) (c d f g : Nat → Nat → CV) (hn : n ≤ 12) (h0 : ∀ j, j < n → CV.len (f j 0) = CV.len (g j 0) ∧ CV.len (f j 0) ≤ 40 ∧ ∃ P, Are P (CV.el (f j 0)) (CV.len (f j 0)) ∧ Are P (CV.el (g j 0)) (CV.len (f j 0))) : ∀ (m i : Nat), n < m + i → i ≤ n →
    L24v1 100 a c n f b d n g m (Int.ofNat i) (some false) (some true) = some true := by
  intro m
  induction m with
  | zero => intro i h1 h2; omega
  | succ m ih =>
    intro i h1 h2
    unfold L24v1
    rw [lt_nat, inb_nat, toNat_nat]
    by_cases h : i < n
    · obtain ⟨e, hl, P, hf, hg⟩ := h0 i h
      rw [bif_t (by simpa using h), bif_t (by simpa using h), bif_t (by simpa using h), w64_succ (by omega), ← e, same_law _ _ _ P hf hg hl, ob_some, bif_f (by simp)]
      exact ih (i + 1) (by omega) (by omega)
    · rw [bif_f (by simpa using h)]

theorem empty_same : F24 100 0 (fun _ _ => .any) 0 (fun _ _ => .any) 0 (fun _ _ => .any) 0 (fun _ _ => .any) = some true := by kernel_rfl

theorem moves_plain (n1 n2 : Nat) (f1 f2 : Nat → Nat → CV) (s : ByteArray) (tx ty turn : Int) (fl : Bool) : F6 100 n1 f1 n2 f2 s tx ty turn fl = some true := by
  unfold F6 D6
  rcases great_law n1 n2 f1 f2 with h | ⟨h, hn1, hn2, hh⟩
  · rw [h, ob_some, bif_f (by simp), alive_law, ob_some]
  · rw [h, ob_some, bif_t (by simp)]
    have fin : ∀ (a b : Nat) (c d c' d' : Nat → Nat → CV), F25 100 n1 f1 n2 f2 s tx ty turn fl = some (a, c, b, d) → F26 100 n1 f1 n2 f2 s tx ty turn fl = some (a, c', b, d') → F24 100 a c b d a c' b d' = some true →
        (ob (F25 100 n1 f1 n2 f2 s tx ty turn fl) fun x11 => (ob (F26 100 n1 f1 n2 f2 s tx ty turn fl) fun x12 => (ob (F24 100 x11.1 x11.2.1 x11.2.2.1 x11.2.2.2 x12.1 x12.2.1 x12.2.2.1 x12.2.2.2) fun x13 => (bif (x13 == true) then (ob (F15 100) fun x14 => (some x14)) else (some false))))) = some true := by
      intro a b c d c' d' e1 e2 e3
      rw [e1, ob_some, e2, ob_some, e3, ob_some, bif_t (by simp), alive_law, ob_some]
    have hN : 1 + n2 ≤ 13 := by omega
    have hl : ∀ j, j < 1 + n2 → CV.len (joinF 1 (rowsF 1 [(.ro false (.pr (.int .i64) (.pr (.int .i64) .nil)) n1 f1)]) f2 j 0) ≤ 40 := by
      intro j hj
      by_cases e : j < 1
      · have : j = 0 := by omega
        subst this
        rw [joinF_old _ _ _ _ _ (by omega)]
        exact hn1
      · rw [joinF_new _ _ _ _ _ (by omega)]
        exact hh _ (by omega)
    have c42 : F42 100 n1 f1 n2 f2 = some (1 + n2, joinF 1 (rowsF 1 [(.ro false (.pr (.int .i64) (.pr (.int .i64) .nil)) n1 f1)]) f2) := by
      unfold F42 D42
      rw [bif_t (ble_ok (by omega))]
    have c44 : F44 100 n1 f1 n2 f2 = some (1 + n2, joinF 1 (rowsF 1 [(.ro false (.pr (.int .i64) (.pr (.int .i64) .nil)) n1 f1)]) f2) := c42
    generalize joinF 1 (rowsF 1 [(.ro false (.pr (.int .i64) (.pr (.int .i64) .nil)) n1 f1)]) f2 = F at hl c42 c44
    generalize 1 + n2 = N at hN hl c42 c44
    by_cases ht1 : turn < 0
    · refine fin 0 0 _ _ _ _ ?_ ?_ empty_same
      · unfold F25 FT25 D25
        rw [bif_f (by simpa using ht1)]; rfl
      · unfold F26 FT26 D26
        rw [c44, ob_some, bif_f (by simpa using ht1), show (0 : Int) = Int.ofNat 0 from rfl, idle_outer N n1 n2 F f1 f2 s tx ty turn fl hN hl _ 100 0 (by omega) (by omega)]; rfl
    · by_cases ht2 : turn > 3
      · refine fin 0 0 _ _ _ _ ?_ ?_ empty_same
        · unfold F25 FT25 D25
          rw [bif_t (by simpa using ht1), bif_f (by simpa using ht2)]; rfl
        · unfold F26 FT26 D26
          rw [c44, ob_some, bif_t (by simpa using ht1), bif_f (by simpa using ht2), show (0 : Int) = Int.ofNat 0 from rfl, idle_outer N n1 n2 F f1 f2 s tx ty turn fl hN hl _ 100 0 (by omega) (by omega)]; rfl
      · obtain ⟨t, rfl⟩ : ∃ t : Nat, turn = Int.ofNat t := ⟨turn.toNat, (Int.toNat_of_nonneg (by omega)).symm⟩
        have ht : t ≤ 3 := by simp at ht2; omega
        have e25 : (farB tx ty = true ∨ FarC N F 0) → F25 100 n1 f1 n2 f2 s tx ty (Int.ofNat t) fl = some (0, (fun _ _ => .any), 0, (fun _ _ => .any)) := by
          intro hb
          unfold F25 FT25 D25
          rw [bif_t (by simpa using ht1), bif_t (by simpa using ht2), far49, ob_some]
          cases hq : farB tx ty with
          | true => rw [bif_t rfl]; rfl
          | false =>
            rw [bif_f rfl, c42, ob_some, show (0 : Int) = Int.ofNat 0 from rfl]
            have hc : FarC N F 0 := hb.resolve_left (by rw [hq]; simp)
            rw [(farC_loop N n1 n2 F f1 f2 s tx ty (Int.ofNat t) fl hN hl _ _ 100 0 (by omega) (by omega)).1 hc]; rfl
        obtain ⟨r, h3, h4⟩ := bad_outer N n1 n2 F f1 f2 s tx ty (Int.ofNat t) fl hN hl (fun x98 => (bif x98 then (some (true, 0, (fun _ _ => CV.any), 0, (fun _ _ => CV.any))) else (ob (F54 100 n1 f1 s tx ty (Int.ofNat t) fl) fun x99 => (L26v4 100 n1 f1 n2 f2 s tx ty (Int.ofNat t) fl x99.1 x99.2 100 0 0 (fun _ _ => .any)
    (fun x129 x130 => (some (false, x99.1, x99.2, x129, x130))))))) 100 0 (farB tx ty) (by omega) (by omega)
        by_cases hb : farB tx ty = true ∨ FarC N F 0
        · refine fin 0 0 _ _ _ _ (e25 hb) ?_ empty_same
          unfold F26 FT26 D26
          rw [c44, ob_some, bif_t (by simpa using ht1), bif_t (by simpa using ht2), far53, ob_some]
          refine (congrArg (fun z => ob z _) h3).trans ?_
          rw [h4.2 hb, bif_t rfl]; rfl
        · obtain ⟨g, hg1, hg2⟩ := moved_law s n1 t fl tx ty f1 hn1 ht
          obtain ⟨g', hg3, hg4⟩ := contour_law s n1 t fl tx ty f1 hn1 ht
          have hr : r = false := by
            cases r with
            | false => rfl
            | true => exact absurd (h4.1 rfl) hb
          have hq : farB tx ty = false := by
            cases hq : farB tx ty with
            | false => rfl
            | true => exact absurd (.inl hq) hb
          obtain ⟨x, hx1, hx2⟩ := holes25 s n2 t fl tx ty f2 n1 n1 f1 g hn2 hh ht (fun x71 x72 => (some (false, n1, g, x71, x72))) 100 0 (fun _ _ => .any) (by omega) (by omega) (fun j hj => by omega)
          obtain ⟨x', hx3, hx4⟩ := holes26 s n2 t fl tx ty f2 n1 n1 f1 g' hn2 hh ht (fun x129 x130 => (some (false, n1, g', x129, x130))) 100 0 (fun _ _ => .any) (by omega) (by omega) (fun j hj => by omega)
          refine fin n1 n2 g x g' x' ?_ ?_ ?_
          · unfold F25 FT25 D25
            rw [bif_t (by simpa using ht1), bif_t (by simpa using ht2), far49, ob_some, hq, bif_f rfl, c42, ob_some]
            rw [show (0 : Int) = Int.ofNat 0 from rfl]
            rw [(farC_loop N n1 n2 F f1 f2 s tx ty (Int.ofNat t) fl hN hl _ _ 100 0 (by omega) (by omega)).2 (fun hc => hb (.inr hc)), hg1, ob_some]
            rw [hx1]; rfl
          · unfold F26 FT26 D26
            rw [c44, ob_some, bif_t (by simpa using ht1), bif_t (by simpa using ht2), far53, ob_some]
            refine (congrArg (fun z => ob z _) h3).trans ?_
            rw [hr, bif_f rfl, hg3, ob_some]
            refine (congrArg (fun z => ob z _) hx3).trans ?_
            rfl
          · unfold F24 D24
            rw [same_law n1 g g' _ hg2 hg4 hn1, ob_some, bif_t (by simp), bif_f (by simp)]
            refine sameC_loop n2 n1 n1 g g' x x' hn2 (fun j hj => ?_) 100 0 (by omega) (by omega)
            obtain ⟨a1, a2⟩ := hx2 j hj
            obtain ⟨b1, b2⟩ := hx4 j hj
            rw [a1]
            exact ⟨b1.symm, hh j hj, _, a2, b2⟩
theorem moves_law (n1 : Nat) (f1 : Nat → Nat → CV) (n2 : Nat) (f2 : Nat → Nat → CV) (_ : ShapeIn n1 f1 n2 f2) (s : ByteArray) (tx ty turn : Int) (fl : Bool) (_ : I64 tx) (_ : I64 ty) (_ : I64 turn) : F6 100 n1 f1 n2 f2 s tx ty turn fl = some true :=
  moves_plain n1 n2 f1 f2 s tx ty turn fl
end Go.Eng.R13
