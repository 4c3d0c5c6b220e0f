/-
 Several texts in one.
-/
import Derived.KernelRfl
import Derived.Test.YtkknnlhhchielaaDoorEngV
import Derived.Test.YtkknnlhhchielaaDoorPlBounds
/-
 Bounds of a list of points (out of PlSums).
-/
set_option linter.all false
namespace Go.Eng.R13
open Go Go.RowKit Go.Eng
theorem joinF_o (n : Nat) (f g : Nat → Nat → CV) (j c : Nat) (h : j < n) : joinF n f g j c = f j c := by
 unfold joinF
 rw [bif_t (by simpa [Nat.blt_eq] using h)]
theorem joinF_n (n : Nat) (f g : Nat → Nat → CV) (j c : Nat) (h : n ≤ j) : joinF n f g j c = g (j - n) c := by
 unfold joinF
 rw [bif_f]
 cases hq : Nat.blt j n with
 | false => rfl
 | true => simp [Nat.blt_eq] at hq; omega
def Col (f : Nat → Nat → CV) (c : Nat) (g : Nat → Nat → CV) (i : Nat) : Prop := ∀ j, j < i → CV.int (g j 0) = CV.int (f j c)
theorem Col.snoc {f g : Nat → Nat → CV} {c i : Nat} (h : Col f c g i) : Col f c (joinF i g (rowsF 1 [.i .i64 (CV.int (f i c))])) (i + 1) := by
 intro j hj
 by_cases e : j = i
 ·subst e
  rw [joinF_n _ _ _ _ _ (Nat.le_refl j), Nat.sub_self]; rfl
 ·rw [joinF_o _ _ _ _ _ (by omega)]
  exact h j (by omega)
theorem cols46 {ρ : Type} (n : Nat) (f : Nat → Nat → CV) (hn : n ≤ 60) (k : Nat → (Nat → Nat → CV) → (Nat → Nat → CV) → Option ρ) : ∀ (m i : Nat) (g h : Nat → Nat → CV), n < m + i → i ≤ n → Col f 0 g i → Col f 1 h i →
  ∃ g' h', L46v1 100 n f (Int.ofNat n) m i (Int.ofNat i) g h k = k n g' h' ∧ Col f 0 g' n ∧ Col f 1 h' n := by
 intro m
 induction m with
 | zero => intro i g h h1 h2; omega
 | succ m ih =>
  intro i g h h1 h2 hg hh
  unfold L46v1
  rw [lt_nat, inb_nat, toNat_nat]
  by_cases hlt : i < n
  ·rw [bif_t (decide_eq_true hlt), bif_t (decide_eq_true hlt), w64_succ (by omega), bif_t (by rw [Nat.ble_eq]; omega), bif_t (by rw [Nat.ble_eq]; omega)]
   exact ih (i + 1) _ _ (by omega) (by omega) hg.snoc hh.snoc
  ·rw [bif_f (decide_eq_false hlt)]
   have : i = n := by omega
   subst this
   exact ⟨g, h, rfl, hg, hh⟩
def Ext (z : Int) (g : Nat → Nat → CV) (i : Nat) (a b : Int) : Prop :=
 (a ≤ z ∧ z ≤ b ∧ ∀ j, j < i → a ≤ CV.int (g j 0) ∧ CV.int (g j 0) ≤ b) ∧ (a = z ∨ ∃ j, j < i ∧ CV.int (g j 0) = a) ∧ (b = z ∨ ∃ j, j < i ∧ CV.int (g j 0) = b)
theorem ext72 {ρ : Type} (n : Nat) (z : Int) (g : Nat → Nat → CV) (hn : n ≤ 60) (k : Int → Int → Option ρ) : ∀ (m i : Nat) (a b : Int), n < m + i → i ≤ n → Ext z g i a b → ∃ a' b', L72v1 100 n g (Int.ofNat n) m a b (Int.ofNat i) k = k a' b' ∧ Ext z g n a' b' := by
 intro m
 induction m with
 | zero => intro i a b h1 h2; omega
 | succ m ih =>
  intro i a b h1 h2 hE
  unfold L72v1
  rw [lt_nat, inb_nat, toNat_nat]
  by_cases hlt : i < n
  ·rw [bif_t (decide_eq_true hlt), bif_t (decide_eq_true hlt), w64_succ (by omega)]
   refine ih (i + 1) _ _ (by omega) (by omega) ?_
   obtain ⟨⟨e1, e2, e3⟩, e4, e5⟩ := hE
   refine ⟨⟨by split <;> omega, by split <;> omega, fun j hj => ?_⟩, ?_, ?_⟩
   ·by_cases e : j = i
    ·rw [e]; constructor <;> split <;> omega
    ·have := e3 j (by omega)
     constructor <;> split <;> omega
   ·by_cases e : CV.int (g i 0) < a
    ·rw [if_pos e]; exact .inr ⟨i, by omega, rfl⟩
    ·rw [if_neg e]
     rcases e4 with h | ⟨j, h, h'⟩
     ·exact .inl h
     ·exact .inr ⟨j, by omega, h'⟩
   ·by_cases e : CV.int (g i 0) > b
    ·rw [if_pos e]; exact .inr ⟨i, by omega, rfl⟩
    ·rw [if_neg e]
     rcases e5 with h | ⟨j, h, h'⟩
     ·exact .inl h
     ·exact .inr ⟨j, by omega, h'⟩
  ·rw [bif_f (decide_eq_false hlt)]
   have : i = n := by omega
   subst this
   exact ⟨a, b, rfl, hE⟩
theorem ext_law (n : Nat) (z : Int) (g : Nat → Nat → CV) (hn : n ≤ 60) : ∃ a b, F72 100 z n g = some (a, b) ∧ Ext z g n a b := by
 unfold F72
 exact ext72 n z g hn _ 100 0 z z (by omega) (by omega) ⟨⟨Int.le_refl _, Int.le_refl _, fun j hj => by omega⟩, .inl rfl, .inl rfl⟩
theorem Bds.unique {f : Nat → Nat → CV} {n : Nat} {a b c d a' b' c' d' : Int} (hn : 0 < n) (h : Bds f n a b c d) (h' : Bds f n a' b' c' d') : a = a' ∧ b = b' ∧ c = c' ∧ d = d' := by
 obtain ⟨h1, h2⟩ := h
 obtain ⟨⟨j1, k1, e1⟩, ⟨j2, k2, e2⟩, ⟨j3, k3, e3⟩, ⟨j4, k4, e4⟩⟩ := h2 hn
 obtain ⟨g1, g2⟩ := h'
 obtain ⟨⟨i1, l1, m1⟩, ⟨i2, l2, m2⟩, ⟨i3, l3, m3⟩, ⟨i4, l4, m4⟩⟩ := g2 hn
 have p1 := h1 i1 l1
 have p2 := h1 i2 l2
 have p3 := h1 i3 l3
 have p4 := h1 i4 l4
 have q1 := g1 j1 k1
 have q2 := g1 j2 k2
 have q3 := g1 j3 k3
 have q4 := g1 j4 k4
 exact ⟨by omega, by omega, by omega, by omega⟩
theorem bounds46 (n : Nat) (f : Nat → Nat → CV) (hn : n ≤ 60) : ∃ p q r s, F46 100 n f = some (p, q, r, s) ∧ (0 < n → Bds f n p q r s) ∧ (n = 0 → p = 0 ∧ q = 0 ∧ r = 0 ∧ s = 0) := by
 unfold F46
 by_cases h0 : n = 0
 ·subst h0
  exact ⟨0, 0, 0, 0, rfl, fun h => by omega, fun _ => ⟨rfl, rfl, rfl, rfl⟩⟩
 ·rw [bif_f (by simp; omega)]
  obtain ⟨g, h, e1, hg, hh⟩ := cols46 n f hn (fun x16 x17 x18 => (bif (inb 0 x16) then (ob (F72 100 (CV.int (x17 0 0)) x16 x17) fun x19 => (bif (inb 0 x16) then (ob (F72 100 (CV.int (x18 0 0)) x16 x18) fun x20 => (some (x19.1, x20.1, x19.2, x20.2))) else none)) else none)) 100 0 (fun _ _ => .any) (fun _ _ => .any) (by omega) (by omega) (fun j hj => by omega) (fun j hj => by omega)
  obtain ⟨a, b, e2, E2⟩ := ext_law n (CV.int (g 0 0)) g hn
  obtain ⟨c, d, e3, E3⟩ := ext_law n (CV.int (h 0 0)) h hn
  refine ⟨a, c, b, d, e1.trans ?_, fun _ => ?_, fun h => absurd h h0⟩
  ·rw [bif_t (inb_true (by omega) (by omega)), e2, ob_some, bif_t (inb_true (by omega) (by omega)), e3, ob_some]
  ·obtain ⟨⟨_, _, x1⟩, x2, x3⟩ := E2
   obtain ⟨⟨_, _, y1⟩, y2, y3⟩ := E3
   have hn0 : 0 < n := by omega
   refine ⟨fun j hj => ?_, fun _ => ⟨?_, ?_, ?_, ?_⟩⟩
   ·have p := x1 j hj
    have q := y1 j hj
    rw [hg j hj] at p
    rw [hh j hj] at q
    exact ⟨p.1, q.1, p.2, q.2⟩
   ·rcases x2 with h | ⟨j, hj, h⟩
    ·exact ⟨0, hn0, by rw [h, hg 0 hn0]⟩
    ·exact ⟨j, hj, by rw [← hg j hj, h]⟩
   ·rcases y2 with h | ⟨j, hj, h⟩
    ·exact ⟨0, hn0, by rw [h, hh 0 hn0]⟩
    ·exact ⟨j, hj, by rw [← hh j hj, h]⟩
   ·rcases x3 with h | ⟨j, hj, h⟩
    ·exact ⟨0, hn0, by rw [h, hg 0 hn0]⟩
    ·exact ⟨j, hj, by rw [← hg j hj, h]⟩
   ·rcases y3 with h | ⟨j, hj, h⟩
    ·exact ⟨0, hn0, by rw [h, hh 0 hn0]⟩
    ·exact ⟨j, hj, by rw [← hh j hj, h]⟩
theorem bounds_eq (n1 : Nat) (f1 : Nat → Nat → CV) (n2 : Nat) (f2 : Nat → Nat → CV) (hn : n1 ≤ 40) : ∃ p, F20 100 n1 f1 n2 f2 = some p ∧ F21 100 n1 f1 n2 f2 = some p := by
 obtain ⟨p, q, r, s, h1, h2, h3⟩ := bounds46 n1 f1 (by omega)
 have e20 : F20 100 n1 f1 n2 f2 = some (p, q, r, s) := by
  unfold F20
  rw [h1, ob_some]
 by_cases h0 : n1 = 0
 ·obtain ⟨rfl, rfl, rfl, rfl⟩ := h3 h0
  subst h0
  exact ⟨_, e20, rfl⟩
 ·obtain ⟨p', q', r', s', h4, h5⟩ := bounds_law n1 n2 f1 f2 hn
  obtain ⟨rfl, rfl, rfl, rfl⟩ := Bds.unique (by omega) (h2 (by omega)) (h5 (by omega))
  exact ⟨_, e20, h4⟩
end Go.Eng.R13
/-
 Nester: numbers in range, the bounding rectangle of a part, when a rectangle fits.
-/
set_option linter.all false
namespace Go.Eng.R13
open Go Go.RowKit Go.Eng
theorem within389 (u : Nat) (n a b : Int) : F389 u n a b = some (decide (a ≤ n) && decide (n ≤ b)) := by
 unfold F389
 by_cases h : a ≤ n
 ·rw [bif_t (by simpa using h), decide_eq_true h, Bool.true_and]
 ·rw [bif_f (by simpa using h), decide_eq_false h, Bool.false_and]
theorem near404 (u : Nat) (x y : Int) (c : Int) (hc : 0 ≤ c ∧ c ≤ 9223372036854775807) : F404 u x y c = some (decide (-c ≤ x ∧ x ≤ c ∧ -c ≤ y ∧ y ≤ c)) := by
 unfold F404
 rw [show w64 (0 - c) = -c from by rw [Int.zero_sub]; exact w64_of (by omega) (by omega)]
 by_cases h1 : x ≥ -c
 ·rw [bif_t (by simpa using h1)]
  by_cases h2 : x ≤ c
  ·rw [bif_t (by simpa using h2)]
   by_cases h3 : y ≥ -c
   ·rw [bif_t (by simpa using h3)]
    refine congrArg some ?_
    by_cases h4 : y ≤ c
    ·rw [decide_eq_true h4, decide_eq_true ⟨h1, h2, h3, h4⟩]
    ·rw [decide_eq_false h4, decide_eq_false (by omega)]
   ·rw [bif_f (by simpa using h3), decide_eq_false (by omega)]
  ·rw [bif_f (by simpa using h2), decide_eq_false (by omega)]
 ·rw [bif_f (by simpa using h1), decide_eq_false (by omega)]
def Nr4 (a b c d : Int) : Prop := (-1099511627776 ≤ a ∧ a ≤ 1099511627776) ∧ (-1099511627776 ≤ b ∧ b ≤ 1099511627776) ∧ (-1099511627776 ≤ c ∧ c ≤ 1099511627776) ∧ (-1099511627776 ≤ d ∧ d ≤ 1099511627776)
instance (a b c d : Int) : Decidable (Nr4 a b c d) := by unfold Nr4; infer_instance
theorem nr393 {ρ : Type} (t a b c d : Int) (k0 k1 : Option ρ) (u m : Nat) : L393v1 u t a b c d (m + 5) 0 k0 k1 = if Nr4 a b c d then k1 else k0 := by
 have e : ∀ (z : Int) (x y : Option ρ), (ob (F389 u z (-1099511627776) 1099511627776) fun q => bif !q then x else y) = if (-1099511627776 ≤ z ∧ z ≤ 1099511627776) then y else x := by
  intro z x y
  rw [within389, ob_some]
  by_cases h : (-1099511627776 ≤ z ∧ z ≤ 1099511627776)
  ·rw [if_pos h, bif_f (by simp [h.1, h.2])]
  ·rw [if_neg h, bif_t (by simp only [Bool.not_eq_true', Bool.and_eq_false_iff, decide_eq_false_iff_not]; omega)]
 have w1 : w64 (0 + 1) = 1 := by decide
 have w2 : w64 (1 + 1) = 2 := by decide
 have w3 : w64 (2 + 1) = 3 := by decide
 have w4 : w64 (3 + 1) = 4 := by decide
 unfold L393v1
 rw [bif_t (by decide), bif_t (by decide), w1, e]
 unfold L393v1
 rw [bif_t (by decide), bif_f (by decide), bif_t (by decide), w2, e]
 unfold L393v1
 rw [bif_t (by decide), bif_f (by decide), bif_f (by decide), bif_t (by decide), w3, e]
 unfold L393v1
 rw [bif_t (by decide), bif_f (by decide), bif_f (by decide), bif_f (by decide), bif_t (by decide), w4, e]
 unfold L393v1
 rw [bif_f (by decide)]
 split
 ·split
  ·split
   ·split
    ·rename_i h1 h2 h3 h4; rw [if_pos (show Nr4 a b c d from ⟨h1, h2, h3, h4⟩)]
    ·rename_i h1; rw [if_neg (fun h : Nr4 a b c d => h1 h.2.2.2)]
   ·rename_i h1; rw [if_neg (fun h : Nr4 a b c d => h1 h.2.2.1)]
  ·rename_i h1; rw [if_neg (fun h : Nr4 a b c d => h1 h.2.1)]
 ·rename_i h1; rw [if_neg (fun h : Nr4 a b c d => h1 h.1)]
def szB (t a b c d : Int) : Int × Int :=
 if Nr4 a b c d then (if Int.tmod t 2 = 0 then (c - a, d - b) else (d - b, c - a)) else (0, 0)
theorem rect393 (x : Nat → CV) (t : Int) (hn : CV.len (x 6) ≤ 40) : ∃ p : Int × Int × Int × Int, F20 100 (CV.len (x 6)) (CV.el (x 6)) (CV.len (x 7)) (CV.el (x 7)) = some p ∧
  F393 100 x t = some (szB t p.1 p.2.1 p.2.2.1 p.2.2.2) := by
 obtain ⟨p, h1, h2⟩ := bounds_eq (CV.len (x 6)) (CV.el (x 6)) (CV.len (x 7)) (CV.el (x 7)) hn
 refine ⟨p, h1, ?_⟩
 unfold F393 szB
 rw [h1, ob_some, nr393 _ _ _ _ _ _ _ 100 95]
 by_cases h : Nr4 p.1 p.2.1 p.2.2.1 p.2.2.2
 ·obtain ⟨q1, q2, q3, q4⟩ := id h
  rw [if_pos h, if_pos h, w64_of (by omega) (by omega), w64_of (by omega) (by omega)]
  by_cases ht : Int.tmod t 2 = 0
  ·rw [if_pos ht, bif_f (by simp [ht])]
  ·rw [if_neg ht, bif_t (by simp [ht])]
 ·rw [if_neg h, if_neg h]
theorem rect_same (x : Nat → CV) (t : Int) (hn : CV.len (x 6) ≤ 40) : ∃ p, F393 100 x t = some p ∧ F405 100 x t = some p := by
 obtain ⟨p, h1, h2⟩ := bounds_eq (CV.len (x 6)) (CV.el (x 6)) (CV.len (x 7)) (CV.el (x 7)) hn
 obtain ⟨p', h1', h3⟩ := rect393 x t hn
 cases h1.symm.trans h1'
 refine ⟨_, h3, ?_⟩
 unfold F405 szB
 rw [h2, ob_some, near404 _ _ _ _ (by omega), ob_some]
 by_cases h : Nr4 p.1 p.2.1 p.2.2.1 p.2.2.2
 ·obtain ⟨q1, q2, q3, q4⟩ := id h
  rw [bif_t (by simp; omega), near404 _ _ _ _ (by omega), ob_some, bif_f (by simp; omega), if_pos h, w64_of (by omega) (by omega), w64_of (by omega) (by omega)]
  by_cases ht : Int.tmod t 2 = 0
  ·rw [if_pos ht, bif_f (by simp [ht])]
  ·rw [if_neg ht, bif_t (by simp [ht])]
 ·rw [if_neg h]
  by_cases h5 : (-1099511627776 ≤ p.1 ∧ p.1 ≤ 1099511627776 ∧ -1099511627776 ≤ p.2.1 ∧ p.2.1 ≤ 1099511627776)
  ·rw [bif_t (by simp; omega), near404 _ _ _ _ (by omega), ob_some, bif_t (by unfold Nr4 at h; simp; omega)]
  ·rw [bif_f (by simp; omega)]
end Go.Eng.R13
/-
 Nester: when a rectangle fits beside others: the program's Fits and the reference's.
-/
set_option linter.all false
namespace Go.Eng.R13
open Go Go.RowKit Go.Eng
abbrev bx (r : FF) (j c : Nat) : Int := CV.int (r j c)
def Apt (lx ly hx hy x y l w g : Int) : Prop := ¬ (x < hx + g ∧ lx < x + l + g ∧ y < hy + g ∧ ly < y + w + g)
def FLim (len wid x y l w gap : Int) : Prop := (0 ≤ len ∧ len ≤ 32768) ∧ (0 ≤ wid ∧ wid ≤ 32768) ∧ (0 ≤ gap ∧ gap ≤ 500) ∧ (1 ≤ l ∧ l ≤ 32768) ∧ (1 ≤ w ∧ w ≤ 32768) ∧ (-32768 ≤ x ∧ x ≤ 32768) ∧ (-32768 ≤ y ∧ y ≤ 32768)
def FIn (len wid x y l w gap : Int) : Prop := gap ≤ x ∧ gap ≤ y ∧ x + l ≤ len - gap ∧ y + w ≤ wid - gap
abbrev gG (gap : Int) : Int := if 1 > gap then 1 else gap
def NrJ (r : FF) (j : Nat) : Prop := Nr4 (bx r j 0) (bx r j 1) (bx r j 2) (bx r j 3)
def AptJ (r : FF) (x y l w g : Int) (j : Nat) : Prop := Apt (bx r j 0) (bx r j 1) (bx r j 2) (bx r j 3) x y l w g
def FitsP (len wid : Int) (n : Nat) (r : FF) (x y l w gap : Int) : Prop :=
 FLim len wid x y l w gap ∧ (∀ j, j < n → NrJ r j) ∧ FIn len wid x y l w gap ∧ ∀ j, j < n → AptJ r x y l w (gG gap) j
theorem nr395 {ρ : Type} (len wid : Int) (n : Nat) (r : FF) (l w gap N i x y a b c d : Int) (k0 k1 : Option ρ) (u m : Nat) : L395v2 u len wid n r l w gap N i a b c d x y (m + 5) 0 k0 k1 = if Nr4 a b c d then k1 else k0 := by
 have e : ∀ (z : Int) (x y : Option ρ), (ob (F389 u z (-1099511627776) 1099511627776) fun q => bif !q then x else y) = if (-1099511627776 ≤ z ∧ z ≤ 1099511627776) then y else x := by
  intro z x y
  rw [within389, ob_some]
  by_cases h : (-1099511627776 ≤ z ∧ z ≤ 1099511627776)
  ·rw [if_pos h, bif_f (by simp [h.1, h.2])]
  ·rw [if_neg h, bif_t (by simp only [Bool.not_eq_true', Bool.and_eq_false_iff, decide_eq_false_iff_not]; omega)]
 have w1 : w64 (0 + 1) = 1 := by decide
 have w2 : w64 (1 + 1) = 2 := by decide
 have w3 : w64 (2 + 1) = 3 := by decide
 have w4 : w64 (3 + 1) = 4 := by decide
 unfold L395v2
 rw [bif_t (by decide), bif_t (by decide), w1, e]
 unfold L395v2
 rw [bif_t (by decide), bif_f (by decide), bif_t (by decide), w2, e]
 unfold L395v2
 rw [bif_t (by decide), bif_f (by decide), bif_f (by decide), bif_t (by decide), w3, e]
 unfold L395v2
 rw [bif_t (by decide), bif_f (by decide), bif_f (by decide), bif_f (by decide), bif_t (by decide), w4, e]
 unfold L395v2
 rw [bif_f (by decide)]
 split
 ·split
  ·split
   ·split
    ·rename_i h1 h2 h3 h4; rw [if_pos (show Nr4 a b c d from ⟨h1, h2, h3, h4⟩)]
    ·rename_i h1; rw [if_neg (fun h : Nr4 a b c d => h1 h.2.2.2)]
   ·rename_i h1; rw [if_neg (fun h : Nr4 a b c d => h1 h.2.2.1)]
  ·rename_i h1; rw [if_neg (fun h : Nr4 a b c d => h1 h.2.1)]
 ·rename_i h1; rw [if_neg (fun h : Nr4 a b c d => h1 h.1)]
theorem nrs395 {ρ : Type} (len wid : Int) (n : Nat) (r : FF) (l w gap x y : Int) (k0 k1 : Option ρ) (hn : n ≤ 60) : ∀ (m i : Nat), n < m + i → i ≤ n →
  (L395v3 100 len wid n r l w gap (Int.ofNat n) x y m (Int.ofNat i) k0 k1 = k1 ∧ ∀ j, i ≤ j → j < n → NrJ r j) ∨ (L395v3 100 len wid n r l w gap (Int.ofNat n) x y m (Int.ofNat i) k0 k1 = k0 ∧ ∃ j, j < n ∧ ¬ NrJ r j) := by
 intro m
 induction m with
 | zero => intro i h1 h2; omega
 | succ m ih =>
  intro i h1 h2
  unfold L395v3
  rw [lt_nat, inb_nat, toNat_nat]
  by_cases h : i < n
  ·rw [bif_t (decide_eq_true h), bif_t (decide_eq_true h), nr395 _ _ _ _ _ _ _ _ _ _ _ _ _ _ _ _ _ 100 95, w64_succ (by omega)]
   by_cases hq : Nr4 (CV.int (r i 0)) (CV.int (r i 1)) (CV.int (r i 2)) (CV.int (r i 3))
   ·rw [if_pos hq]
    rcases ih (i + 1) (by omega) (by omega) with ⟨e, hh⟩ | h3
    ·refine .inl ⟨e, fun j h5 h6 => ?_⟩
     by_cases hj : j = i
     ·subst hj; exact hq
     ·exact hh j (by omega) h6
    ·exact .inr h3
   ·rw [if_neg hq]; exact .inr ⟨rfl, i, h, hq⟩
  ·rw [bif_f (decide_eq_false h)]; exact .inl ⟨rfl, fun j h5 h6 => by omega⟩
theorem apt395 {ρ : Type} (n : Nat) (r : FF) (l w g x y : Int) (k0 k1 : Option ρ) (hn : n ≤ 60) (hN : ∀ j, j < n → NrJ r j) (hg : 1 ≤ g ∧ g ≤ 500) (hl : 1 ≤ l ∧ l ≤ 32768) (hw : 1 ≤ w ∧ w ≤ 32768) (hx : -32768 ≤ x ∧ x ≤ 32768) (hy : -32768 ≤ y ∧ y ≤ 32768) : ∀ (m i : Nat), n < m + i → i ≤ n →
  (L395v4 100 l w g n r (Int.ofNat n) x y m (Int.ofNat i) k0 k1 = k1 ∧ ∀ j, i ≤ j → j < n → AptJ r x y l w g j) ∨ (L395v4 100 l w g n r (Int.ofNat n) x y m (Int.ofNat i) k0 k1 = k0 ∧ ∃ j, j < n ∧ ¬ AptJ r x y l w g j) := by
 intro m
 induction m with
 | zero => intro i h1 h2; omega
 | succ m ih =>
  intro i h1 h2
  unfold L395v4
  rw [lt_nat, inb_nat, toNat_nat]
  by_cases h : i < n
  ·obtain ⟨q1, q2, q3, q4⟩ := hN i h
   simp only [bx] at q1 q2 q3 q4
   rw [bif_t (decide_eq_true h), bif_t (decide_eq_true h), w64_succ (by omega), w64_of (n := CV.int (r i 2) + g) (by omega) (by omega), w64_of (n := CV.int (r i 3) + g) (by omega) (by omega), w64_of (n := x + l) (by omega) (by omega), w64_of (n := y + w) (by omega) (by omega), w64_of (n := x + l + g) (by omega) (by omega), w64_of (n := y + w + g) (by omega) (by omega)]
   have go : AptJ r x y l w g i → (L395v4 100 l w g n r (Int.ofNat n) x y m (Int.ofNat (i + 1)) k0 k1 = k1 ∧ ∀ j, i ≤ j → j < n → AptJ r x y l w g j) ∨ (L395v4 100 l w g n r (Int.ofNat n) x y m (Int.ofNat (i + 1)) k0 k1 = k0 ∧ ∃ j, j < n ∧ ¬ AptJ r x y l w g j) := by
    intro hq
    rcases ih (i + 1) (by omega) (by omega) with ⟨e, hh⟩ | h3
    ·refine .inl ⟨e, fun j h5 h6 => ?_⟩
     by_cases hj : j = i
     ·subst hj; exact hq
     ·exact hh j (by omega) h6
    ·exact .inr h3
   by_cases c1 : x < CV.int (r i 2) + g
   ·rw [bif_t (by simpa using c1)]
    by_cases c2 : x + l + g > CV.int (r i 0)
    ·rw [bif_t (by simpa using c2)]
     by_cases c3 : y < CV.int (r i 3) + g
     ·rw [bif_t (by simpa using c3)]
      by_cases c4 : y + w + g > CV.int (r i 1)
      ·rw [bif_t (by simpa using c4)]; exact .inr ⟨rfl, i, h, fun hq => hq ⟨c1, c2, c3, c4⟩⟩
      ·rw [bif_f (by simpa using c4)]; exact go fun hq => c4 hq.2.2.2
     ·rw [bif_f (by simpa using c3)]; exact go fun hq => c3 hq.2.2.1
    ·rw [bif_f (by simpa using c2)]; exact go fun hq => c2 hq.2.1
   ·rw [bif_f (by simpa using c1)]; exact go fun hq => c1 hq.1
  ·rw [bif_f (decide_eq_false h)]; exact .inl ⟨rfl, fun j h5 h6 => by omega⟩
theorem bi {ρ : Type} (u : Nat) (z a b : Int) (x y : Option ρ) : (ob (F389 u z a b) fun q => bif (!q) == false then x else y) = if (a ≤ z ∧ z ≤ b) then x else y := by
 have e : (decide (a ≤ z) && decide (z ≤ b)) = decide (a ≤ z ∧ z ≤ b) := by simp
 rw [within389, ob_some, e]
 by_cases h : (a ≤ z ∧ z ≤ b)
 ·rw [if_pos h, decide_eq_true h]; rfl
 ·rw [if_neg h, decide_eq_false h]; rfl
theorem fits_tail (len wid : Int) (n : Nat) (r : FF) (x y l w gap : Int) (hn : n ≤ 60) (hL : FLim len wid x y l w gap) (hN : ∀ j, j < n → NrJ r j) : ∃ b, (bif ((decide (x < gap)) == false) then (bif ((decide (y < gap)) == false) then (bif ((decide ((w64 (x + l)) > (w64 (len - gap)))) == false) then (bif (decide ((w64 (y + w)) > (w64 (wid - gap)))) then (some false) else (L395v4 100 l w (if 1 > gap then 1 else gap) n r (Int.ofNat n) x y 100 0 (some false) (some true))) else (some false)) else (some false)) else (some false)) = some b ∧ (b = true ↔ FIn len wid x y l w gap ∧ ∀ j, j < n → AptJ r x y l w (gG gap) j) := by
 obtain ⟨c1, c2, c3, c4, c5, c6, c7⟩ := hL
 have hg : 1 ≤ gG gap ∧ gG gap ≤ 500 := by unfold gG; split <;> omega
 rw [w64_of (n := x + l) (by omega) (by omega), w64_of (n := y + w) (by omega) (by omega), w64_of (n := len - gap) (by omega) (by omega), w64_of (n := wid - gap) (by omega) (by omega)]
 have no : ∀ (P Q : Prop), ¬ P → ∃ b, some false = some b ∧ (b = true ↔ P ∧ Q) := fun P Q h => ⟨false, rfl, by simp only [Bool.false_eq_true, false_iff]; exact fun q => h q.1⟩
 by_cases d1 : x < gap
 ·rw [decide_eq_true d1]; exact no _ _ fun h => by have := h.1; omega
 rw [decide_eq_false d1, bif_t (by rfl)]
 by_cases d2 : y < gap
 ·rw [decide_eq_true d2]; exact no _ _ fun h => by have := h.2.1; omega
 rw [decide_eq_false d2, bif_t (by rfl)]
 by_cases d3 : x + l > len - gap
 ·rw [decide_eq_true d3]; exact no _ _ fun h => by have := h.2.2.1; omega
 rw [decide_eq_false d3, bif_t (by rfl)]
 by_cases d4 : y + w > wid - gap
 ·rw [bif_t (decide_eq_true d4)]; exact no _ _ fun h => by have := h.2.2.2; omega
 rw [bif_f (decide_eq_false d4)]
 rcases apt395 n r l w (gG gap) x y (some false) (some true) hn hN hg c4 c5 c6 c7 100 0 (by omega) (by omega) with ⟨e, hA⟩ | ⟨e, j, hj, hq⟩
 ·exact ⟨true, e, by simp only [true_iff]; exact ⟨⟨by omega, by omega, by omega, by omega⟩, fun j hj => hA j (by omega) hj⟩⟩
 ·exact ⟨false, e, by simp only [Bool.false_eq_true, false_iff]; exact fun q => hq (q.2 j hj)⟩
theorem fits_law (len wid : Int) (n : Nat) (r : FF) (x y l w gap : Int) (hn : n ≤ 60) : ∃ b, F395 100 len wid n r x y l w gap = some b ∧ (b = true ↔ FitsP len wid n r x y l w gap) := by
 have no : ∀ (P Q : Prop), ¬ P → ∃ b, some false = some b ∧ (b = true ↔ P ∧ Q) := fun P Q h => ⟨false, rfl, by simp only [Bool.false_eq_true, false_iff]; exact fun q => h q.1⟩
 unfold F395 FitsP
 rw [bi]
 by_cases c1 : 0 ≤ len ∧ len ≤ 32768
 case neg => rw [if_neg c1]; exact no _ _ fun h => c1 h.1
 rw [if_pos c1, bi]
 by_cases c2 : 0 ≤ wid ∧ wid ≤ 32768
 case neg => rw [if_neg c2]; exact no _ _ fun h => c2 h.2.1
 rw [if_pos c2, bi]
 by_cases c3 : 0 ≤ gap ∧ gap ≤ 500
 case neg => rw [if_neg c3]; exact no _ _ fun h => c3 h.2.2.1
 rw [if_pos c3, bi]
 by_cases c4 : 1 ≤ l ∧ l ≤ 32768
 case neg => rw [if_neg c4]; exact no _ _ fun h => c4 h.2.2.2.1
 rw [if_pos c4, bi]
 by_cases c5 : 1 ≤ w ∧ w ≤ 32768
 case neg => rw [if_neg c5]; exact no _ _ fun h => c5 h.2.2.2.2.1
 rw [if_pos c5, bi]
 by_cases c6 : -32768 ≤ x ∧ x ≤ 32768
 case neg => rw [if_neg c6]; exact no _ _ fun h => c6 h.2.2.2.2.2.1
 rw [if_pos c6, within389, ob_some]
 by_cases c7 : -32768 ≤ y ∧ y ≤ 32768
 case neg => rw [bif_t (by simp only [Bool.not_eq_true', Bool.and_eq_false_iff, decide_eq_false_iff_not]; omega)]; exact no _ _ fun h => c7 h.2.2.2.2.2.2
 rw [bif_f (by simp [c7.1, c7.2])]
 have hL : FLim len wid x y l w gap := ⟨c1, c2, c3, c4, c5, c6, c7⟩
 rcases nrs395 len wid n r l w gap x y (some false) (bif ((decide (x < gap)) == false) then (bif ((decide (y < gap)) == false) then (bif ((decide ((w64 (x + l)) > (w64 (len - gap)))) == false) then (bif (decide ((w64 (y + w)) > (w64 (wid - gap)))) then (some false) else (L395v4 100 l w (if 1 > gap then 1 else gap) n r (Int.ofNat n) x y 100 0 (some false) (some true))) else (some false)) else (some false)) else (some false)) hn 100 0 (by omega) (by omega) with ⟨e, hN⟩ | ⟨e, j, hj, hq⟩
 ·obtain ⟨b, e2, hb⟩ := fits_tail len wid n r x y l w gap hn hL fun j hj => hN j (by omega) hj
  exact ⟨b, e.trans e2, hb.trans ⟨fun h => ⟨hL, fun j hj => hN j (by omega) hj, h.1, h.2⟩, fun h => ⟨h.2.2.1, h.2.2.2⟩⟩⟩
 ·exact ⟨_, e, by simp only [Bool.false_eq_true, false_iff]; exact fun h => hq (h.2.1 j hj)⟩
end Go.Eng.R13
/-
 Nester: the reference's Fits.
-/
set_option linter.all false
namespace Go.Eng.R13
open Go Go.RowKit Go.Eng
theorem ne404 {ρ : Type} (u : Nat) (a b c : Int) (hc : 0 ≤ c ∧ c ≤ 9223372036854775807) (x y : Option ρ) : (ob (F404 u a b c) fun q => bif (!q) == false then x else y) = if (-c ≤ a ∧ a ≤ c ∧ -c ≤ b ∧ b ≤ c) then x else y := by
 rw [near404 u a b c hc, ob_some]
 by_cases h : (-c ≤ a ∧ a ≤ c ∧ -c ≤ b ∧ b ≤ c)
 ·rw [if_pos h, decide_eq_true h]; rfl
 ·rw [if_neg h, decide_eq_false h]; rfl
theorem ne404' {ρ : Type} (u : Nat) (a b c : Int) (hc : 0 ≤ c ∧ c ≤ 9223372036854775807) (x y : Option ρ) : (ob (F404 u a b c) fun q => bif !q then x else y) = if (-c ≤ a ∧ a ≤ c ∧ -c ≤ b ∧ b ≤ c) then y else x := by
 rw [near404 u a b c hc, ob_some]
 by_cases h : (-c ≤ a ∧ a ≤ c ∧ -c ≤ b ∧ b ≤ c)
 ·rw [if_pos h, decide_eq_true h]; rfl
 ·rw [if_neg h, decide_eq_false h]; rfl
theorem apt406 {ρ : Type} (n : Nat) (r : FF) (l w g x y : Int) (k0 k1 : Option ρ) (hn : n ≤ 60) (hg : 1 ≤ g ∧ g ≤ 500) (hl : 1 ≤ l ∧ l ≤ 32768) (hw : 1 ≤ w ∧ w ≤ 32768) (hx : -32768 ≤ x ∧ x ≤ 32768) (hy : -32768 ≤ y ∧ y ≤ 32768) : ∀ (m i : Nat), n < m + i → i ≤ n →
  (L406v1 100 n r l w g x y m (Int.ofNat i) k0 k1 = k1 ∧ ∀ j, i ≤ j → j < n → NrJ r j ∧ AptJ r x y l w g j) ∨ (L406v1 100 n r l w g x y m (Int.ofNat i) k0 k1 = k0 ∧ ∃ j, j < n ∧ ¬ (NrJ r j ∧ AptJ r x y l w g j)) := by
 intro m
 induction m with
 | zero => intro i h1 h2; omega
 | succ m ih =>
  intro i h1 h2
  unfold L406v1
  rw [lt_nat, inb_nat, toNat_nat]
  by_cases h : i < n
  ·rw [bif_t (decide_eq_true h), bif_t (decide_eq_true h), ne404 _ _ _ _ (by omega), ne404' _ _ _ _ (by omega)]
   by_cases a1 : (-1099511627776 ≤ CV.int (r i 0) ∧ CV.int (r i 0) ≤ 1099511627776 ∧ -1099511627776 ≤ CV.int (r i 1) ∧ CV.int (r i 1) ≤ 1099511627776)
   case neg => rw [if_neg a1]; exact .inr ⟨rfl, i, h, fun q => a1 ⟨q.1.1.1, q.1.1.2, q.1.2.1.1, q.1.2.1.2⟩⟩
   by_cases a2 : (-1099511627776 ≤ CV.int (r i 2) ∧ CV.int (r i 2) ≤ 1099511627776 ∧ -1099511627776 ≤ CV.int (r i 3) ∧ CV.int (r i 3) ≤ 1099511627776)
   case neg => rw [if_pos a1, if_neg a2]; exact .inr ⟨rfl, i, h, fun q => a2 ⟨q.1.2.2.1.1, q.1.2.2.1.2, q.1.2.2.2.1, q.1.2.2.2.2⟩⟩
   have hq : NrJ r i := ⟨⟨a1.1, a1.2.1⟩, ⟨a1.2.2.1, a1.2.2.2⟩, ⟨a2.1, a2.2.1⟩, ⟨a2.2.2.1, a2.2.2.2⟩⟩
   rw [if_pos a1, if_pos a2, w64_succ (by omega), w64_of (n := CV.int (r i 2) + g) (by omega) (by omega), w64_of (n := CV.int (r i 3) + g) (by omega) (by omega), w64_of (n := x + l) (by omega) (by omega), w64_of (n := y + w) (by omega) (by omega), w64_of (n := x + l + g) (by omega) (by omega), w64_of (n := y + w + g) (by omega) (by omega)]
   have go : AptJ r x y l w g i → (L406v1 100 n r l w g x y m (Int.ofNat (i + 1)) k0 k1 = k1 ∧ ∀ j, i ≤ j → j < n → NrJ r j ∧ AptJ r x y l w g j) ∨ (L406v1 100 n r l w g x y m (Int.ofNat (i + 1)) k0 k1 = k0 ∧ ∃ j, j < n ∧ ¬ (NrJ r j ∧ AptJ r x y l w g j)) := by
    intro hq2
    rcases ih (i + 1) (by omega) (by omega) with ⟨e, hh⟩ | h3
    ·refine .inl ⟨e, fun j h5 h6 => ?_⟩
     by_cases hj : j = i
     ·subst hj; exact ⟨hq, hq2⟩
     ·exact hh j (by omega) h6
    ·exact .inr h3
   by_cases c1 : x < CV.int (r i 2) + g
   ·rw [bif_t (by simpa using c1)]
    by_cases c2 : x + l + g > CV.int (r i 0)
    ·rw [bif_t (by simpa using c2)]
     by_cases c3 : y < CV.int (r i 3) + g
     ·rw [bif_t (by simpa using c3)]
      by_cases c4 : y + w + g > CV.int (r i 1)
      ·rw [bif_t (by simpa using c4)]; exact .inr ⟨rfl, i, h, fun hq => hq.2 ⟨c1, c2, c3, c4⟩⟩
      ·rw [bif_f (by simpa using c4)]; exact go fun hq => c4 hq.2.2.2
     ·rw [bif_f (by simpa using c3)]; exact go fun hq => c3 hq.2.2.1
    ·rw [bif_f (by simpa using c2)]; exact go fun hq => c2 hq.2.1
   ·rw [bif_f (by simpa using c1)]; exact go fun hq => c1 hq.1
  ·rw [bif_f (decide_eq_false h)]; exact .inl ⟨rfl, fun j h5 h6 => by omega⟩
theorem bd {ρ : Type} (P : Prop) [Decidable P] (x y : ρ) : (bif decide P == false then x else y) = if P then y else x := by
 by_cases h : P
 ·rw [decide_eq_true h, if_pos h]; rfl
 ·rw [decide_eq_false h, if_neg h]; rfl
theorem fits_ref (len wid : Int) (n : Nat) (r : FF) (x y l w gap : Int) (hn : n ≤ 60) : ∃ b, F406 100 len wid n r x y l w gap = some b ∧ (b = true ↔ FitsP len wid n r x y l w gap) := by
 have no : ∀ (P Q : Prop), ¬ P → ∃ b, some false = some b ∧ (b = true ↔ P ∧ Q) := fun P Q h => ⟨false, rfl, by simp only [Bool.false_eq_true, false_iff]; exact fun q => h q.1⟩
 unfold F406 FitsP
 rw [bd, bd, bd, bd, bd]
 by_cases hL : FLim len wid x y l w gap
 case neg =>
  by_cases d1 : (if gap < (if wid < len then wid else len) then gap else (if wid < len then wid else len)) < 0
  ·rw [if_pos d1]; exact no _ _ hL
  rw [if_neg d1]
  by_cases d2 : (if wid > len then wid else len) > 32768
  ·rw [if_pos d2]; exact no _ _ hL
  rw [if_neg d2]
  by_cases d3 : gap > 500
  ·rw [if_pos d3]; exact no _ _ hL
  rw [if_neg d3]
  by_cases d4 : (if w < l then w else l) < 1
  ·rw [if_pos d4]; exact no _ _ hL
  rw [if_neg d4]
  by_cases d5 : (if w > l then w else l) > 32768
  ·rw [if_pos d5]; exact no _ _ hL
  rw [if_neg d5, ne404' _ _ _ _ (by omega)]
  by_cases d6 : (-32768 ≤ x ∧ x ≤ 32768 ∧ -32768 ≤ y ∧ y ≤ 32768)
  ·exfalso
   refine hL ⟨?_, ?_, ?_, ?_, ?_, ⟨d6.1, d6.2.1⟩, d6.2.2⟩ <;> (repeat' split at d1) <;> (repeat' split at d2) <;> (repeat' split at d4) <;> (repeat' split at d5) <;> omega
  ·rw [if_neg d6]; exact no _ _ hL
 obtain ⟨c1, c2, c3, c4, c5, c6, c7⟩ := id hL
 have hg : 1 ≤ gG gap ∧ gG gap ≤ 500 := by unfold gG; split <;> omega
 have hm : ¬ (if gap < (if wid < len then wid else len) then gap else (if wid < len then wid else len)) < 0 := by
  repeat' split
  all_goals omega
 rw [if_neg hm, if_neg (by split <;> omega), if_neg (by omega), if_neg (by split <;> omega), if_neg (by split <;> omega), ne404' _ _ _ _ (by omega), if_pos ⟨c6.1, c6.2, c7.1, c7.2⟩,
  w64_of (n := x + l) (by omega) (by omega), w64_of (n := y + w) (by omega) (by omega), w64_of (n := len - gap) (by omega) (by omega), w64_of (n := wid - gap) (by omega) (by omega), bd, bd, bd]
 have no2 : ¬ FIn len wid x y l w gap → ∃ b, some false = some b ∧ (b = true ↔ FLim len wid x y l w gap ∧ (∀ j, j < n → NrJ r j) ∧ FIn len wid x y l w gap ∧ ∀ j, j < n → AptJ r x y l w (gG gap) j) := fun h => ⟨false, rfl, by simp only [Bool.false_eq_true, false_iff]; exact fun q => h q.2.2.1⟩
 by_cases d1 : x < gap
 ·rw [if_pos d1]; exact no2 fun h => by have := h.1; omega
 rw [if_neg d1]
 by_cases d2 : y < gap
 ·rw [if_pos d2]; exact no2 fun h => by have := h.2.1; omega
 rw [if_neg d2]
 by_cases d3 : x + l > len - gap
 ·rw [if_pos d3]; exact no2 fun h => by have := h.2.2.1; omega
 rw [if_neg d3]
 by_cases d4 : y + w > wid - gap
 ·rw [bif_t (decide_eq_true d4)]; exact no2 fun h => by have := h.2.2.2; omega
 rw [bif_f (decide_eq_false d4)]
 rcases apt406 n r l w (gG gap) x y (some false) (some true) hn hg c4 c5 c6 c7 100 0 (by omega) (by omega) with ⟨e, hA⟩ | ⟨e, j, hj, hq⟩
 ·exact ⟨true, e, by simp only [true_iff]; exact ⟨hL, fun j hj => (hA j (by omega) hj).1, ⟨by omega, by omega, by omega, by omega⟩, fun j hj => (hA j (by omega) hj).2⟩⟩
 ·exact ⟨false, e, by simp only [Bool.false_eq_true, false_iff]; exact fun q => hq ⟨q.2.1 j hj, q.2.2.2 j hj⟩⟩
theorem fits_same (len wid : Int) (n : Nat) (r : FF) (x y l w gap : Int) (hn : n ≤ 60) : ∃ b, F395 100 len wid n r x y l w gap = some b ∧ F406 100 len wid n r x y l w gap = some b := by
 obtain ⟨b, h1, h2⟩ := fits_law len wid n r x y l w gap hn
 obtain ⟨c, h3, h4⟩ := fits_ref len wid n r x y l w gap hn
 have e : b = c := by rw [Bool.eq_iff_iff, h2, h4]
 exact ⟨b, h1, by rw [h3, e]⟩
end Go.Eng.R13
/-
 Nester: the examples of the chapter hold.
-/
set_option linter.all false
namespace Go.Eng.R13
open Go Go.RowKit Go.Eng
theorem alive403 : F403 100 = some true := by kernel_rfl
end Go.Eng.R13
/-
 NesterRects: the plain law.
-/
set_option linter.all false
namespace Go.Eng.R13
open Go Go.RowKit Go.Eng
theorem few_loop {ρ : Type} (x : Nat → CV) (hn : CV.len (x 7) ≤ 12) (k0 k1 : Option ρ) : ∀ (m i : Nat), CV.len (x 7) < m + i → i ≤ CV.len (x 7) → L386v1 100 x m (Int.ofNat i) k0 k1 = k0 ∨ L386v1 100 x m (Int.ofNat i) k0 k1 = k1 := by
 intro m
 induction m with
 | zero => intro i h1 h2; omega
 | succ m ih =>
  intro i h1 h2
  unfold L386v1
  rw [lt_nat, inb_nat, toNat_nat]
  by_cases h : i < CV.len (x 7)
  ·rw [bif_t (decide_eq_true h), bif_t (decide_eq_true h), w64_succ (by omega)]
   by_cases c : (Int.ofNat (CV.len ((CV.el (x 7)) i 0))) > 40
   ·rw [bif_t (decide_eq_true c)]; exact .inl rfl
   ·rw [bif_f (decide_eq_false c)]; exact ih (i + 1) (by omega) (by omega)
  ·rw [bif_f (decide_eq_false h)]; exact .inr rfl
theorem few386 (x : Nat → CV) : ∃ b, F386 100 x = some b ∧ (b = true → CV.len (x 6) ≤ 40) := by
 have no : ∃ b, some false = some b ∧ (b = true → CV.len (x 6) ≤ 40) := ⟨false, rfl, fun h => by cases h⟩
 unfold F386
 rw [bd, bd, bd, bd, bd]
 split; exact no
 split; exact no
 split; exact no
 split; exact no
 split; exact no
 rename_i _ _ _ _ c
 by_cases c2 : (Int.ofNat (CV.len (x 7))) > 12
 ·rw [bif_t (decide_eq_true c2)]; exact no
 rw [bif_f (decide_eq_false c2)]
 have c : ¬ (CV.len (x 6) : Int) > 40 := c
 have c2 : ¬ (CV.len (x 7) : Int) > 12 := c2
 rcases few_loop x (by omega) (some false) (some true) 100 0 (by omega) (by omega) with e | e
 ·exact ⟨_, e, fun _ => by omega⟩
 ·exact ⟨_, e, fun _ => by omega⟩
theorem rects24 (g0 : Nat → CV) (hg0 : RowIn kR0 g0) (n1c0 : Nat) (f1c0 : Nat → Nat → CV) (h1c0 : SlIn (.pr (.int .i64) (.pr (.int .i64) (.pr (.int .i64) (.pr (.int .i64) .nil)))) n1c0 f1c0) (a2c0 : Int) (a2c1 : Int) (a2c2 : Int) (a2c3 : Int) (a2c4 : Int) (a2c5 : Int) (a2c6 : Int) (h2c0 : I64 a2c0) (h2c1 : I64 a2c1) (h2c2 : I64 a2c2) (h2c3 : I64 a2c3) (h2c4 : I64 a2c4) (h2c5 : I64 a2c5) (h2c6 : I64 a2c6) : F407 100 g0 n1c0 f1c0 a2c0 a2c1 a2c2 a2c3 a2c4 a2c5 a2c6 = some true := by
 unfold F407
 generalize hx : listF (pj kR0 g0) = x
 obtain ⟨b, e1, hb⟩ := few386 x
 rw [e1, ob_some, alive403]
 cases b with
 | false => rfl
 | true =>
  rw [bif_t (by rfl)]
  have hn := hb rfl
  by_cases c : (Int.ofNat n1c0) > 60
  ·rw [bif_t (decide_eq_true c)]; rfl
  rw [bif_f (decide_eq_false c)]
  have c : ¬ (n1c0 : Int) > 60 := c
  obtain ⟨p, e2, e3⟩ := rect_same x a2c6 hn
  rw [e2, ob_some, e3, ob_some, bif_t (by simp), bif_t (by simp)]
  obtain ⟨q, e4, e5⟩ := fits_same a2c0 a2c1 n1c0 f1c0 a2c2 a2c3 a2c4 a2c5 a2c6 (by omega)
  rw [e4, ob_some, e5, ob_some, bif_t (by simp)]
  rfl
end Go.Eng.R13
