/-
 Several texts in one.
-/
import Derived.Test.YtbjfmobjdipehaaGreatDoorEngV
import Derived.Test.YtbjfmobjdipehaaGreatDoorPlRv
/-
 Squares, and edges that have a point inside of them: the program's and the reference's answers are alike.
-/
set_option linter.all false
namespace Go.Eng.R13
open Go Go.RowKit Go.Eng Geo
def wc (a1 a2 b1 b2 c1 c2 : Int) : Int := w64 (w64 (w64 (b1 - a1) * w64 (c2 - a2)) - w64 (w64 (b2 - a2) * w64 (c1 - a1)))
def cutB (l1 l2 h1 h2 a1 a2 b1 b2 : Int) : Bool :=
 !(decide ((if b1 > a1 then b1 else a1) ≤ l1)) && (!(decide ((if b1 < a1 then b1 else a1) ≥ h1)) && (!(decide ((if b2 > a2 then b2 else a2) ≤ l2)) && (!(decide ((if b2 < a2 then b2 else a2) ≥ h2)) &&
  ((((decide (wc a1 a2 b1 b2 l1 l2 > 0) || decide (wc a1 a2 b1 b2 h1 l2 > 0)) || decide (wc a1 a2 b1 b2 h1 h2 > 0)) || decide (wc a1 a2 b1 b2 l1 h2 > 0)) &&
   (((decide (wc a1 a2 b1 b2 l1 l2 < 0) || decide (wc a1 a2 b1 b2 h1 l2 < 0)) || decide (wc a1 a2 b1 b2 h1 h2 < 0)) || decide (wc a1 a2 b1 b2 l1 h2 < 0))))))
theorem or4 (p q r s : Bool) : ((((false || p) || q) || r) || s) = (((p || q) || r) || s) := by cases p <;> rfl
theorem l124 {ρ : Type} (x28 x29 x30 x31 x32 x33 x34 x35 x37 x38 x39 x40 a1 a2 b1 b2 : Int) (k0 : Bool → Bool → Option ρ) :
  L124v1 100 x28 x29 x30 x31 x32 x33 x34 x35 x37 x38 x39 x40 a1 a2 b1 b2 100 false false 0 k0 =
   k0 (((decide (wc a1 a2 b1 b2 x28 x29 > 0) || decide (wc a1 a2 b1 b2 x30 x31 > 0)) || decide (wc a1 a2 b1 b2 x32 x33 > 0)) || decide (wc a1 a2 b1 b2 x34 x35 > 0))
     (((decide (wc a1 a2 b1 b2 x28 x29 < 0) || decide (wc a1 a2 b1 b2 x30 x31 < 0)) || decide (wc a1 a2 b1 b2 x32 x33 < 0)) || decide (wc a1 a2 b1 b2 x34 x35 < 0)) := by
 have r0 : ∀ (m : Nat) (x y : Bool), L124v1 100 x28 x29 x30 x31 x32 x33 x34 x35 x37 x38 x39 x40 a1 a2 b1 b2 (m + 1) x y 0 k0 = L124v1 100 x28 x29 x30 x31 x32 x33 x34 x35 x37 x38 x39 x40 a1 a2 b1 b2 m (x || decide (wc a1 a2 b1 b2 x28 x29 > 0)) (y || decide (wc a1 a2 b1 b2 x28 x29 < 0)) 1 k0 := by
  intro m x y; cases x <;> cases y <;> rfl
 have r1 : ∀ (m : Nat) (x y : Bool), L124v1 100 x28 x29 x30 x31 x32 x33 x34 x35 x37 x38 x39 x40 a1 a2 b1 b2 (m + 1) x y 1 k0 = L124v1 100 x28 x29 x30 x31 x32 x33 x34 x35 x37 x38 x39 x40 a1 a2 b1 b2 m (x || decide (wc a1 a2 b1 b2 x30 x31 > 0)) (y || decide (wc a1 a2 b1 b2 x30 x31 < 0)) 2 k0 := by
  intro m x y; cases x <;> cases y <;> rfl
 have r2 : ∀ (m : Nat) (x y : Bool), L124v1 100 x28 x29 x30 x31 x32 x33 x34 x35 x37 x38 x39 x40 a1 a2 b1 b2 (m + 1) x y 2 k0 = L124v1 100 x28 x29 x30 x31 x32 x33 x34 x35 x37 x38 x39 x40 a1 a2 b1 b2 m (x || decide (wc a1 a2 b1 b2 x32 x33 > 0)) (y || decide (wc a1 a2 b1 b2 x32 x33 < 0)) 3 k0 := by
  intro m x y; cases x <;> cases y <;> rfl
 have r3 : ∀ (m : Nat) (x y : Bool), L124v1 100 x28 x29 x30 x31 x32 x33 x34 x35 x37 x38 x39 x40 a1 a2 b1 b2 (m + 1) x y 3 k0 = L124v1 100 x28 x29 x30 x31 x32 x33 x34 x35 x37 x38 x39 x40 a1 a2 b1 b2 m (x || decide (wc a1 a2 b1 b2 x34 x35 > 0)) (y || decide (wc a1 a2 b1 b2 x34 x35 < 0)) 4 k0 := by
  intro m x y; cases x <;> cases y <;> rfl
 have r4 : ∀ (m : Nat) (x y : Bool), L124v1 100 x28 x29 x30 x31 x32 x33 x34 x35 x37 x38 x39 x40 a1 a2 b1 b2 (m + 1) x y 4 k0 = k0 x y := by
  intro m x y; rfl
 rw [r0 99, r1 98, r2 97, r3 96, r4 95, or4, or4]
theorem cut124 (l1 l2 h1 h2 a1 a2 b1 b2 : Int) : F124 100 l1 l2 h1 h2 a1 a2 b1 b2 = some (cutB l1 l2 h1 h2 a1 a2 b1 b2) := by
 unfold F124 D124 F123 D123
 simp only [ob_some, l124]
 unfold cutB
 cases decide ((if b1 > a1 then b1 else a1) ≤ l1) <;> cases decide ((if b1 < a1 then b1 else a1) ≥ h1) <;> cases decide ((if b2 > a2 then b2 else a2) ≤ l2) <;> cases decide ((if b2 < a2 then b2 else a2) ≥ h2) <;> try rfl
 cases (((decide (wc a1 a2 b1 b2 l1 l2 > 0) || decide (wc a1 a2 b1 b2 h1 l2 > 0)) || decide (wc a1 a2 b1 b2 h1 h2 > 0)) || decide (wc a1 a2 b1 b2 l1 h2 > 0)) <;> rfl
theorem l153 {ρ : Type} (a1 a2 b1 b2 l1 l2 h1 h2 : Int) (k0 : Bool → Bool → Option ρ) :
  L153v1 100 a1 a2 b1 b2 l1 l2 h1 h2 (rowsF 2 [(.i .i64 l1), (.i .i64 l2), (.i .i64 h1), (.i .i64 l2), (.i .i64 h1), (.i .i64 h2), (.i .i64 l1), (.i .i64 h2)]) 100 false false 0 k0 =
   k0 (((decide (wc a1 a2 b1 b2 l1 l2 > 0) || decide (wc a1 a2 b1 b2 h1 l2 > 0)) || decide (wc a1 a2 b1 b2 h1 h2 > 0)) || decide (wc a1 a2 b1 b2 l1 h2 > 0))
     (((decide (wc a1 a2 b1 b2 l1 l2 < 0) || decide (wc a1 a2 b1 b2 h1 l2 < 0)) || decide (wc a1 a2 b1 b2 h1 h2 < 0)) || decide (wc a1 a2 b1 b2 l1 h2 < 0)) := by
 generalize hR : rowsF 2 [(.i .i64 l1), (.i .i64 l2), (.i .i64 h1), (.i .i64 l2), (.i .i64 h1), (.i .i64 h2), (.i .i64 l1), (.i .i64 h2)] = R
 have r0 : ∀ (m : Nat) (x y : Bool), L153v1 100 a1 a2 b1 b2 l1 l2 h1 h2 R (m + 1) x y 0 k0 = L153v1 100 a1 a2 b1 b2 l1 l2 h1 h2 R m (x || decide (wc a1 a2 b1 b2 l1 l2 > 0)) (y || decide (wc a1 a2 b1 b2 l1 l2 < 0)) 1 k0 := by
  subst hR; intro m x y; cases x <;> cases y <;> rfl
 have r1 : ∀ (m : Nat) (x y : Bool), L153v1 100 a1 a2 b1 b2 l1 l2 h1 h2 R (m + 1) x y 1 k0 = L153v1 100 a1 a2 b1 b2 l1 l2 h1 h2 R m (x || decide (wc a1 a2 b1 b2 h1 l2 > 0)) (y || decide (wc a1 a2 b1 b2 h1 l2 < 0)) 2 k0 := by
  subst hR; intro m x y; cases x <;> cases y <;> rfl
 have r2 : ∀ (m : Nat) (x y : Bool), L153v1 100 a1 a2 b1 b2 l1 l2 h1 h2 R (m + 1) x y 2 k0 = L153v1 100 a1 a2 b1 b2 l1 l2 h1 h2 R m (x || decide (wc a1 a2 b1 b2 h1 h2 > 0)) (y || decide (wc a1 a2 b1 b2 h1 h2 < 0)) 3 k0 := by
  subst hR; intro m x y; cases x <;> cases y <;> rfl
 have r3 : ∀ (m : Nat) (x y : Bool), L153v1 100 a1 a2 b1 b2 l1 l2 h1 h2 R (m + 1) x y 3 k0 = L153v1 100 a1 a2 b1 b2 l1 l2 h1 h2 R m (x || decide (wc a1 a2 b1 b2 l1 h2 > 0)) (y || decide (wc a1 a2 b1 b2 l1 h2 < 0)) 4 k0 := by
  subst hR; intro m x y; cases x <;> cases y <;> rfl
 have r4 : ∀ (m : Nat) (x y : Bool), L153v1 100 a1 a2 b1 b2 l1 l2 h1 h2 R (m + 1) x y 4 k0 = k0 x y := by
  intro m x y; rfl
 rw [r0 99, r1 98, r2 97, r3 96, r4 95, or4, or4]
theorem cut153 (l1 l2 h1 h2 a1 a2 b1 b2 : Int) : F153 100 a1 a2 b1 b2 l1 l2 h1 h2 = some (cutB l1 l2 h1 h2 a1 a2 b1 b2) := by
 unfold F153 D153
 simp only [l153]
 unfold cutB
 cases decide ((if b1 > a1 then b1 else a1) ≤ l1) <;> cases decide ((if b1 < a1 then b1 else a1) ≥ h1) <;> cases decide ((if b2 > a2 then b2 else a2) ≤ l2) <;> cases decide ((if b2 < a2 then b2 else a2) ≥ h2) <;> try rfl
 cases (((decide (wc a1 a2 b1 b2 l1 l2 > 0) || decide (wc a1 a2 b1 b2 h1 l2 > 0)) || decide (wc a1 a2 b1 b2 h1 h2 > 0)) || decide (wc a1 a2 b1 b2 l1 h2 > 0)) <;> rfl
def CutK (n : Nat) (f : Nat → Nat → CV) (l1 l2 h1 h2 : Int) (i : Nat) : Prop :=
 ∃ j, i ≤ j ∧ j < n ∧ cutB l1 l2 h1 h2 (CV.int (f j 0)) (CV.int (f j 1)) (CV.int (f (nx n j) 0)) (CV.int (f (nx n j) 1)) = true
theorem CutK.step {n : Nat} {f : Nat → Nat → CV} {l1 l2 h1 h2 : Int} {i : Nat} (h : cutB l1 l2 h1 h2 (CV.int (f i 0)) (CV.int (f i 1)) (CV.int (f (nx n i) 0)) (CV.int (f (nx n i) 1)) = false) : CutK n f l1 l2 h1 h2 i ↔ CutK n f l1 l2 h1 h2 (i + 1) := by
 constructor
 ·rintro ⟨j, a, b, c⟩
  refine ⟨j, ?_, b, c⟩
  by_cases e : j = i
  ·subst e; rw [h] at c; cases c
  ·omega
 ·rintro ⟨j, a, b, c⟩
  exact ⟨j, by omega, b, c⟩
theorem edges125 {ρ : Type} (n : Nat) (f g : Nat → Nat → CV) (l1 l2 h1 h2 : Int) (hn : n ≤ 40) (k0 : Int → Int → Option ρ) (kk k1 : Option ρ) (hk : ∀ x y, k0 x y = kk) : ∀ (m i : Nat), n < m + i → i ≤ n →
  (CutK n f l1 l2 h1 h2 i → L125v4 100 n f (Int.ofNat n) l1 l2 h1 h2 g m (Int.ofNat i) k0 k1 = kk) ∧ (¬ CutK n f l1 l2 h1 h2 i → L125v4 100 n f (Int.ofNat n) l1 l2 h1 h2 g m (Int.ofNat i) k0 k1 = k1) := by
 intro m
 induction m with
 | zero => intro i h1 h2; omega
 | succ m ih =>
  intro i h3 h4
  unfold L125v4
  rw [lt_nat, inb_nat, toNat_nat]
  by_cases h : i < n
  ·have hx : nx n i < n := nx_lt' (by omega)
   rw [bif_t (by simpa using h), bif_t (by simpa using h), bif_f (ofNat_ne0 (by omega)), w64_succ (by omega), tmod_nat, inb_nat, toNat_nat, show (i + 1) % n = nx n i from rfl, bif_t (by simpa using hx), cut124, ob_some]
   cases hc : cutB l1 l2 h1 h2 (CV.int (f i 0)) (CV.int (f i 1)) (CV.int (f (nx n i) 0)) (CV.int (f (nx n i) 1)) with
   | true =>
    rw [bif_t rfl]
    exact ⟨fun _ => hk _ _, fun hh => absurd ⟨i, Nat.le_refl i, h, hc⟩ hh⟩
   | false =>
    rw [bif_f rfl, CutK.step hc]
    exact ih (i + 1) (by omega) (by omega)
  ·rw [bif_f (by simpa using h)]
   exact ⟨fun ⟨j, a, b, _⟩ => by omega, fun _ => rfl⟩
theorem edges154 {ρ : Type} (n N : Nat) (f G r : Nat → Nat → CV) (l1 l2 h1 h2 : Int) (hn : n ≤ 40) (k0 k1 : Option ρ) : ∀ (m i : Nat), n < m + i → i ≤ n →
  (CutK n f l1 l2 h1 h2 i → L154v3 100 n f l1 l2 h1 h2 N G r m (Int.ofNat i) k0 k1 = k0) ∧ (¬ CutK n f l1 l2 h1 h2 i → L154v3 100 n f l1 l2 h1 h2 N G r m (Int.ofNat i) k0 k1 = k1) := by
 intro m
 induction m with
 | zero => intro i h1 h2; omega
 | succ m ih =>
  intro i h3 h4
  unfold L154v3
  rw [lt_nat, inb_nat, toNat_nat]
  by_cases h : i < n
  ·have hx : nx n i < n := nx_lt' (by omega)
   rw [bif_t (by simpa using h), bif_t (by simpa using h), bif_f (ofNat_ne0 (by omega)), w64_succ (by omega), tmod_nat, inb_nat, toNat_nat, show (i + 1) % n = nx n i from rfl, bif_t (by simpa using hx), cut153, ob_some]
   cases hc : cutB l1 l2 h1 h2 (CV.int (f i 0)) (CV.int (f i 1)) (CV.int (f (nx n i) 0)) (CV.int (f (nx n i) 1)) with
   | true =>
    rw [bif_t rfl]
    exact ⟨fun _ => rfl, fun hh => absurd ⟨i, Nat.le_refl i, h, hc⟩ hh⟩
   | false =>
    rw [bif_f rfl, CutK.step hc]
    exact ih (i + 1) (by omega) (by omega)
  ·rw [bif_f (by simpa using h)]
   exact ⟨fun ⟨j, a, b, _⟩ => by omega, fun _ => rfl⟩
theorem rev154 {ρ : Type} (n : Nat) (f : Nat → Nat → CV) (a b c d : Int) (hn : n ≤ 40) (k0 : Nat → (Nat → Nat → CV) → Option ρ) : ∀ (m r i : Nat) (h : Nat → Nat → CV), r < m → i + r = n → (∀ j, j < i → pt h j = pt f (n - 1 - j)) →
  ∃ h', L154v1 100 n f a b c d m ((r : Int) - 1) i h k0 = k0 n h' ∧ ∀ j, j < n → pt h' j = pt f (n - 1 - j) := by
 intro m
 induction m with
 | zero => intro r c h h1; omega
 | succ m ih =>
  intro r i h h1 h2 hh
  unfold L154v1
  cases r with
  | zero =>
   rw [bif_f (by simp)]
   have : i = n := by omega
   rw [this] at hh ⊢
   exact ⟨h, rfl, hh⟩
  | succ r =>
   have e : ((r + 1 : Nat) : Int) - 1 = Int.ofNat r := by simp
   have e2 : w64 (Int.ofNat r - 1) = (r : Int) - 1 := by rw [w64_of] <;> simp <;> omega
   rw [e, e2, inb_nat, toNat_nat, bif_t (by simp), bif_t (decide_eq_true (by omega)), bif_t (by rw [Nat.ble_eq]; omega)]
   refine ih r (i + 1) _ (by omega) (by omega) ?_
   intro j hj
   by_cases ej : j = i
   ·subst ej
    unfold pt
    rw [jn _ _ _ _ _ (Nat.le_refl j), jn _ _ _ _ _ (Nat.le_refl j), Nat.sub_self, show n - 1 - j = r from by omega]
    rfl
   ·have := hh j (by omega)
    unfold pt at *
    rw [jo _ _ _ _ _ (by omega), jo _ _ _ _ _ (by omega)]
    exact this
end Go.Eng.R13
/-
 Does a hole cover a square? The program's and the reference's answers are alike, and what they say.
-/
set_option linter.all false
namespace Go.Eng.R13
open Go Go.RowKit Go.Eng Geo
theorem rev_shape_iff {n : Nat} {f g z : Nat → Nat → CV} (e : ∀ j, j < n → pt g j = pt f (n - 1 - j)) : VShape n g 0 z ↔ Valid n f ∧ area n (pt f) < 0 := by
 have e' : ∀ j, j < n → pt f j = pt g (n - 1 - j) := fun j hj => by
  rw [e (n - 1 - j) (by omega), show n - 1 - (n - 1 - j) = j from by omega]
 constructor
 ·intro S
  have V := rev_valid S.outer e'
  refine ⟨V, ?_⟩
  have h1 := rev_area V e
  have h2 := S.pos
  omega
 ·rintro ⟨V, ha⟩
  refine ⟨by omega, rev_valid V e, ?_, fun j hj => by omega, fun j hj => by omega⟩
  rw [rev_area V e]; omega
theorem onC_onK {n : Nat} {p : Nat → Pt} {q : Pt} : OnC n p q 0 ↔ OnK n p q :=
 ⟨fun ⟨j, _, a, b⟩ => ⟨j, a, b⟩, fun ⟨j, a, b⟩ => ⟨j, Nat.zero_le j, a, b⟩⟩
theorem rev_in {n : Nat} {f g : Nat → Nat → CV} (V : Valid n f) (e : ∀ j, j < n → pt g j = pt f (n - 1 - j)) (q : Pt) : (InC n g q ↔ InC n f q) ∧ (OutC n g q ↔ OutC n f q) := by
 have h1 := rev_onK V e q
 rw [← onC_onK, ← onC_onK] at h1
 unfold InC OutC
 by_cases h : OnC n (pt f) q 0
 ·exact ⟨⟨fun hh => absurd (h1.2 h) hh.1, fun hh => absurd h hh.1⟩, ⟨fun hh => absurd (h1.2 h) hh.1, fun hh => absurd h hh.1⟩⟩
 ·have h2 := rev_par V e (q := q) (fun hh => h (onC_onK.2 hh))
  rw [h2, h1]
  exact ⟨Iff.rfl, Iff.rfl⟩
def Cl (n : Nat) (f : Nat → Nat → CV) (x y : Int) : Prop := nr x y ∧ ¬ OutC n f (x, y)
theorem place_rev {n : Nat} {f g z : Nat → Nat → CV} (V : Valid n f) (ha : area n (pt f) < 0) (e : ∀ j, j < n → pt g j = pt f (n - 1 - j)) (x y : Int) :
  ∃ w, F22 100 n g 0 z x y = some w ∧ F23 100 n g 0 z x y = some w ∧ (w < 1 ↔ ¬ (nr x y ∧ InC n f (x, y))) ∧ (w < 0 ↔ ¬ Cl n f x y) := by
 obtain ⟨w, h1, h2, h3⟩ := place_full n g 0 z x y
 have S : VShape n g 0 z := (rev_shape_iff e).2 ⟨V, ha⟩
 have hw := (h3 S).single
 refine ⟨w, h1, h2, ?_⟩
 obtain ⟨i1, i2⟩ := rev_in V e (x, y)
 by_cases hq : nr x y
 ·have a := hw.one S.outer hq
  have b := hw.out S.outer hq
  have c := hw.range
  rw [i1] at a
  rw [i2] at b
  refine ⟨⟨fun h hh => ?_, fun h => ?_⟩, ⟨fun h hh => hh.2 (b.1 h), fun h => ?_⟩⟩
  ·have := a.2 hh.2; omega
  ·rcases c with c | c | c
   ·exact absurd ⟨hq, a.1 c⟩ h
   ·omega
   ·omega
  ·apply b.2
   apply Classical.byContradiction
   intro hh
   exact h ⟨hq, hh⟩
 ·have := hw.2 (fun hh => hq hh.2)
  subst this
  exact ⟨⟨fun _ hh => hq hh.1, fun _ => by decide⟩, ⟨fun _ hh => hq hh.1, fun _ => by decide⟩⟩
structure CovP (n : Nat) (f : Nat → Nat → CV) (l1 l2 h1 h2 : Int) : Prop where
 valid : Valid n f
 neg : area n (pt f) < 0
 mid : nr (w64 (Int.tdiv (w64 (l1 + h1)) 2)) (w64 (Int.tdiv (w64 (l2 + h2)) 2)) ∧ InC n f (w64 (Int.tdiv (w64 (l1 + h1)) 2), w64 (Int.tdiv (w64 (l2 + h2)) 2))
 c0 : Cl n f l1 l2
 c1 : Cl n f h1 l2
 c2 : Cl n f h1 h2
 c3 : Cl n f l1 h2
 cut : ¬ CutK n f l1 l2 h1 h2 0
theorem cor125 {ρ : Type} (n : Nat) (f G : Nat → Nat → CV) (c0 d0 c1 d1 c2 d2 c3 d3 e1 e2 e3 e4 : Int) (z0 z1 z2 z3 : Int) (k0 : Int → Int → Option ρ) (kk k1 : Option ρ) (hk : ∀ x y, k0 x y = kk)
  (h0 : F22 100 n G 0 (fun _ _ => .any) c0 d0 = some z0) (h1 : F22 100 n G 0 (fun _ _ => .any) c1 d1 = some z1) (h2 : F22 100 n G 0 (fun _ _ => .any) c2 d2 = some z2) (h3 : F22 100 n G 0 (fun _ _ => .any) c3 d3 = some z3) :
  L125v3 100 n f c0 d0 c1 d1 c2 d2 c3 d3 e1 e2 e3 e4 G 100 0 k0 k1 = bif decide (z0 < 0) then kk else bif decide (z1 < 0) then kk else bif decide (z2 < 0) then kk else bif decide (z3 < 0) then kk else k1 := by
 have r0 : ∀ m, L125v3 100 n f c0 d0 c1 d1 c2 d2 c3 d3 e1 e2 e3 e4 G (m + 1) 0 k0 k1 = ob (F22 100 n G 0 (fun _ _ => .any) c0 d0) fun z => bif decide (z < 0) then k0 c0 d0 else L125v3 100 n f c0 d0 c1 d1 c2 d2 c3 d3 e1 e2 e3 e4 G m 1 k0 k1 := fun m => rfl
 have r1 : ∀ m, L125v3 100 n f c0 d0 c1 d1 c2 d2 c3 d3 e1 e2 e3 e4 G (m + 1) 1 k0 k1 = ob (F22 100 n G 0 (fun _ _ => .any) c1 d1) fun z => bif decide (z < 0) then k0 c1 d1 else L125v3 100 n f c0 d0 c1 d1 c2 d2 c3 d3 e1 e2 e3 e4 G m 2 k0 k1 := fun m => rfl
 have r2 : ∀ m, L125v3 100 n f c0 d0 c1 d1 c2 d2 c3 d3 e1 e2 e3 e4 G (m + 1) 2 k0 k1 = ob (F22 100 n G 0 (fun _ _ => .any) c2 d2) fun z => bif decide (z < 0) then k0 c2 d2 else L125v3 100 n f c0 d0 c1 d1 c2 d2 c3 d3 e1 e2 e3 e4 G m 3 k0 k1 := fun m => rfl
 have r3 : ∀ m, L125v3 100 n f c0 d0 c1 d1 c2 d2 c3 d3 e1 e2 e3 e4 G (m + 1) 3 k0 k1 = ob (F22 100 n G 0 (fun _ _ => .any) c3 d3) fun z => bif decide (z < 0) then k0 c3 d3 else L125v3 100 n f c0 d0 c1 d1 c2 d2 c3 d3 e1 e2 e3 e4 G m 4 k0 k1 := fun m => rfl
 have r4 : ∀ m, L125v3 100 n f c0 d0 c1 d1 c2 d2 c3 d3 e1 e2 e3 e4 G (m + 1) 4 k0 k1 = k1 := fun m => rfl
 rw [r0 99, h0, ob_some, r1 98, h1, ob_some, r2 97, h2, ob_some, r3 96, h3, ob_some, r4 95, hk, hk, hk, hk]
theorem cor154 {ρ : Type} (n N : Nat) (f G : Nat → Nat → CV) (l1 l2 h1 h2 : Int) (z0 z1 z2 z3 : Int) (k0 k1 : Option ρ)
  (g0 : F23 100 N G 0 (fun _ _ => .any) l1 l2 = some z0) (g1 : F23 100 N G 0 (fun _ _ => .any) h1 l2 = some z1) (g2 : F23 100 N G 0 (fun _ _ => .any) h1 h2 = some z2) (g3 : F23 100 N G 0 (fun _ _ => .any) l1 h2 = some z3) :
  L154v2 100 n f l1 l2 h1 h2 N G (rowsF 2 [(.i .i64 l1), (.i .i64 l2), (.i .i64 h1), (.i .i64 l2), (.i .i64 h1), (.i .i64 h2), (.i .i64 l1), (.i .i64 h2)]) 100 0 k0 k1 =
   bif decide (z0 < 0) then k0 else bif decide (z1 < 0) then k0 else bif decide (z2 < 0) then k0 else bif decide (z3 < 0) then k0 else k1 := by
 generalize hR : rowsF 2 [(.i .i64 l1), (.i .i64 l2), (.i .i64 h1), (.i .i64 l2), (.i .i64 h1), (.i .i64 h2), (.i .i64 l1), (.i .i64 h2)] = R
 have r0 : ∀ m, L154v2 100 n f l1 l2 h1 h2 N G R (m + 1) 0 k0 k1 = ob (F23 100 N G 0 (fun _ _ => .any) l1 l2) fun z => bif decide (z < 0) then k0 else L154v2 100 n f l1 l2 h1 h2 N G R m 1 k0 k1 := by subst hR; exact fun m => rfl
 have r1 : ∀ m, L154v2 100 n f l1 l2 h1 h2 N G R (m + 1) 1 k0 k1 = ob (F23 100 N G 0 (fun _ _ => .any) h1 l2) fun z => bif decide (z < 0) then k0 else L154v2 100 n f l1 l2 h1 h2 N G R m 2 k0 k1 := by subst hR; exact fun m => rfl
 have r2 : ∀ m, L154v2 100 n f l1 l2 h1 h2 N G R (m + 1) 2 k0 k1 = ob (F23 100 N G 0 (fun _ _ => .any) h1 h2) fun z => bif decide (z < 0) then k0 else L154v2 100 n f l1 l2 h1 h2 N G R m 3 k0 k1 := by subst hR; exact fun m => rfl
 have r3 : ∀ m, L154v2 100 n f l1 l2 h1 h2 N G R (m + 1) 3 k0 k1 = ob (F23 100 N G 0 (fun _ _ => .any) l1 h2) fun z => bif decide (z < 0) then k0 else L154v2 100 n f l1 l2 h1 h2 N G R m 4 k0 k1 := by subst hR; exact fun m => rfl
 have r4 : ∀ m, L154v2 100 n f l1 l2 h1 h2 N G R (m + 1) 4 k0 k1 = k1 := fun m => rfl
 rw [r0 99, g0, ob_some, r1 98, g1, ob_some, r2 97, g2, ob_some, r3 96, g3, ob_some, r4 95]
theorem revF_pt (n : Nat) (f : Nat → Nat → CV) : ∀ j, j < n → pt (revF n f) j = pt f (n - 1 - j) := fun j _ => rfl
theorem covers_law (n : Nat) (f : Nat → Nat → CV) (l1 l2 h1 h2 : Int) (hn : n ≤ 40) :
  (CovP n f l1 l2 h1 h2 → F125 100 n f l1 l2 h1 h2 = some true ∧ F154 100 n f l1 l2 h1 h2 = some true) ∧
  (¬ CovP n f l1 l2 h1 h2 → F125 100 n f l1 l2 h1 h2 = some false ∧ F154 100 n f l1 l2 h1 h2 = some false) := by
 obtain ⟨G, hG1, hG2⟩ := rev154 (ρ := Bool) n f l1 l2 h1 h2 hn (fun x25 x26 => (ob (F14 100 x25 x26 0 (fun _ _ => .any)) fun x27 => (bif ((x27 != 0) == false) then (ob (F23 100 x25 x26 0 (fun _ _ => .any) (w64 (Int.tdiv (w64 (l1 + h1)) 2)) (w64 (Int.tdiv (w64 (l2 + h2)) 2))) fun x28 => (bif (decide (x28 < 1)) then (some false) else (L154v2 100 n f l1 l2 h1 h2 x25 x26 (rowsF 2 [(.i .i64 l1), (.i .i64 l2), (.i .i64 h1), (.i .i64 l2), (.i .i64 h1), (.i .i64 h2), (.i .i64 l1), (.i .i64 h2)]) 100 0
  (some false)
  (L154v3 100 n f l1 l2 h1 h2 x25 x26 (rowsF 2 [(.i .i64 l1), (.i .i64 l2), (.i .i64 h1), (.i .i64 l2), (.i .i64 h1), (.i .i64 h2), (.i .i64 l1), (.i .i64 h2)]) 100 0
  (some false)
  (some true))))) else (some false)))) 100 n 0 (fun _ _ => .any) (by omega) (by omega) (fun j hj => by omega)
 have e0 : w64 (Int.ofNat n - 1) = (n : Int) - 1 := by rw [w64_of] <;> simp <;> omega
 have F154e := Eq.trans (a := F154 100 n f l1 l2 h1 h2) (by unfold F154 D154; rw [e0]) hG1
 obtain ⟨c, _, c2, c3⟩ := shape_law n 0 G (fun _ _ => .any)
 rw [rev_shape_iff hG2] at c3
 rw [c2, ob_some] at F154e
 have hrv := revF_pt n f
 by_cases A : Valid n f ∧ area n (pt f) < 0
 ·obtain ⟨V, ha⟩ := A
  have nb := V.big
  have hc : c = 0 := c3.2 ⟨V, ha⟩
  subst hc
  obtain ⟨d, d1, _, d3⟩ := shape_law n 0 (revF n f) (fun _ _ => .any)
  rw [rev_shape_iff hrv] at d3
  have hd : d = 0 := d3.2 ⟨V, ha⟩
  subst hd
  obtain ⟨m, pm, _, im, _⟩ := place_rev (z := fun _ _ => .any) V ha hrv (w64 (Int.tdiv (w64 (l1 + h1)) 2)) (w64 (Int.tdiv (w64 (l2 + h2)) 2))
  obtain ⟨z0, p0, _, _, i0⟩ := place_rev (z := fun _ _ => .any) V ha hrv l1 l2
  obtain ⟨z1, p1, _, _, i1⟩ := place_rev (z := fun _ _ => .any) V ha hrv h1 l2
  obtain ⟨z2, p2, _, _, i2⟩ := place_rev (z := fun _ _ => .any) V ha hrv h1 h2
  obtain ⟨z3, p3, _, _, i3⟩ := place_rev (z := fun _ _ => .any) V ha hrv l1 h2
  obtain ⟨m', _, pm', im', _⟩ := place_rev (z := fun _ _ => .any) V ha hG2 (w64 (Int.tdiv (w64 (l1 + h1)) 2)) (w64 (Int.tdiv (w64 (l2 + h2)) 2))
  obtain ⟨z0', _, p0', _, i0'⟩ := place_rev (z := fun _ _ => .any) V ha hG2 l1 l2
  obtain ⟨z1', _, p1', _, i1'⟩ := place_rev (z := fun _ _ => .any) V ha hG2 h1 l2
  obtain ⟨z2', _, p2', _, i2'⟩ := place_rev (z := fun _ _ => .any) V ha hG2 h1 h2
  obtain ⟨z3', _, p3', _, i3'⟩ := place_rev (z := fun _ _ => .any) V ha hG2 l1 h2
  have F125e : F125 100 n f l1 l2 h1 h2 = bif decide (m < 1) then some false else bif decide (z0 < 0) then some false else bif decide (z1 < 0) then some false else bif decide (z2 < 0) then some false else bif decide (z3 < 0) then some false else
    L125v4 100 n f (Int.ofNat n) l1 l2 h1 h2 (revF n f) 100 (Int.ofNat 0) (fun _ _ => some false) (some true) := by
   unfold F125 D125
   rw [bif_t (by rw [Nat.ble_eq]; omega), bif_t (Nat.beq_refl n), bif_f (by cases hq : Nat.beq n 0 with | false => rfl | true => have := Nat.eq_of_beq_eq_true hq; omega), d1, ob_some, bif_f (by rfl), pm, ob_some]
   unfold F123 D123
   rw [ob_some, cor125 (kk := some false) (hk := fun _ _ => rfl) (h0 := p0) (h1 := p1) (h2 := p2) (h3 := p3)]
   rfl
  rw [bif_t (by rfl), pm', ob_some, cor154 (g0 := p0') (g1 := p1') (g2 := p2') (g3 := p3')] at F154e
  have E1 := edges125 n f (revF n f) l1 l2 h1 h2 hn (fun _ _ => some false) (some false) (some true) (fun _ _ => rfl) 100 0 (by omega) (by omega)
  have E2 := edges154 n n f G (rowsF 2 [(.i .i64 l1), (.i .i64 l2), (.i .i64 h1), (.i .i64 l2), (.i .i64 h1), (.i .i64 h2), (.i .i64 l1), (.i .i64 h2)]) l1 l2 h1 h2 hn (some false) (some true) 100 0 (by omega) (by omega)
  have F154e : F154 100 n f l1 l2 h1 h2 = bif decide (m' < 1) then some false else bif decide (z0' < 0) then some false else bif decide (z1' < 0) then some false else bif decide (z2' < 0) then some false else bif decide (z3' < 0) then some false else
    L154v3 100 n f l1 l2 h1 h2 n G (rowsF 2 [(.i .i64 l1), (.i .i64 l2), (.i .i64 h1), (.i .i64 l2), (.i .i64 h1), (.i .i64 h2), (.i .i64 l1), (.i .i64 h2)]) 100 (Int.ofNat 0) (some false) (some true) := F154e
  rw [F125e, F154e]
  by_cases q0 : nr (w64 (Int.tdiv (w64 (l1 + h1)) 2)) (w64 (Int.tdiv (w64 (l2 + h2)) 2)) ∧ InC n f (w64 (Int.tdiv (w64 (l1 + h1)) 2), w64 (Int.tdiv (w64 (l2 + h2)) 2))
  case neg => rw [bif_t (decide_eq_true (im.2 q0)), bif_t (decide_eq_true (im'.2 q0))]; exact ⟨fun h => absurd h.mid q0, fun _ => ⟨rfl, rfl⟩⟩
  rw [bif_f (decide_eq_false (fun h => im.1 h q0)), bif_f (decide_eq_false (fun h => im'.1 h q0))]
  by_cases q1 : Cl n f l1 l2
  case neg => rw [bif_t (decide_eq_true (i0.2 q1)), bif_t (decide_eq_true (i0'.2 q1))]; exact ⟨fun h => absurd h.c0 q1, fun _ => ⟨rfl, rfl⟩⟩
  rw [bif_f (decide_eq_false (fun h => i0.1 h q1)), bif_f (decide_eq_false (fun h => i0'.1 h q1))]
  by_cases q2 : Cl n f h1 l2
  case neg => rw [bif_t (decide_eq_true (i1.2 q2)), bif_t (decide_eq_true (i1'.2 q2))]; exact ⟨fun h => absurd h.c1 q2, fun _ => ⟨rfl, rfl⟩⟩
  rw [bif_f (decide_eq_false (fun h => i1.1 h q2)), bif_f (decide_eq_false (fun h => i1'.1 h q2))]
  by_cases q3 : Cl n f h1 h2
  case neg => rw [bif_t (decide_eq_true (i2.2 q3)), bif_t (decide_eq_true (i2'.2 q3))]; exact ⟨fun h => absurd h.c2 q3, fun _ => ⟨rfl, rfl⟩⟩
  rw [bif_f (decide_eq_false (fun h => i2.1 h q3)), bif_f (decide_eq_false (fun h => i2'.1 h q3))]
  by_cases q4 : Cl n f l1 h2
  case neg => rw [bif_t (decide_eq_true (i3.2 q4)), bif_t (decide_eq_true (i3'.2 q4))]; exact ⟨fun h => absurd h.c3 q4, fun _ => ⟨rfl, rfl⟩⟩
  rw [bif_f (decide_eq_false (fun h => i3.1 h q4)), bif_f (decide_eq_false (fun h => i3'.1 h q4))]
  by_cases q5 : CutK n f l1 l2 h1 h2 0
  ·rw [E1.1 q5, E2.1 q5]
   exact ⟨fun h => absurd q5 h.cut, fun _ => ⟨rfl, rfl⟩⟩
  ·rw [E1.2 q5, E2.2 q5]
   exact ⟨fun _ => ⟨rfl, rfl⟩, fun h => absurd ⟨V, ha, q0, q1, q2, q3, q4, q5⟩ h⟩
 ·have hc : (c != 0) = true := by
   rw [bne_iff_ne]; intro h; exact A (c3.1 h)
  rw [hc, bif_f (by rfl)] at F154e
  refine ⟨fun h => absurd ⟨h.valid, h.neg⟩ A, fun _ => ⟨?_, F154e⟩⟩
  unfold F125 D125
  rw [bif_t (by rw [Nat.ble_eq]; omega), bif_t (Nat.beq_refl n)]
  by_cases h0 : n = 0
  ·subst h0
   obtain ⟨d, d1, _, d3⟩ := shape_law 0 0 f (fun _ _ => .any)
   have hd : (d != 0) = true := by
    rw [bne_iff_ne]; intro h; have := (d3.1 h).outer.big; omega
   rw [bif_t (by rfl), d1, ob_some, bif_t hd]
  ·obtain ⟨d, d1, _, d3⟩ := shape_law n 0 (revF n f) (fun _ _ => .any)
   rw [rev_shape_iff hrv] at d3
   have hd : (d != 0) = true := by
    rw [bne_iff_ne]; intro h; exact A (d3.1 h)
   rw [bif_f (by cases hq : Nat.beq n 0 with | false => rfl | true => exact absurd (Nat.eq_of_beq_eq_true hq) h0), d1, ob_some, bif_t hd]
end Go.Eng.R13
/-
 Light parts; what a hole covers of an opening: PenetrationCovers.
-/
set_option linter.all false
namespace Go.Eng.R13
open Go Go.RowKit Go.Eng Geo
theorem light_loop {ρ : Type} (g : Nat → CV) (k0 k1 : Option ρ) : ∀ (m i : Nat), 20 < m + i → i ≤ 20 →
  L100v1 100 g m (Int.ofNat i) k0 k1 = k0 ∨
  (L100v1 100 g m (Int.ofNat i) k0 k1 = k1 ∧ ∀ j, i ≤ j → j < (CV.len (g 7)) → j < 20 → CV.len ((CV.el (g 7)) j 0) ≤ 40) := by
 intro m
 induction m with
 | zero => intro i h1 h2; omega
 | succ m ih =>
  intro i h1 h2
  unfold L100v1
  rw [lt_nat, inb_nat, toNat_nat]
  by_cases h : i < (CV.len (g 7))
  ·rw [bif_t (by simp [h])]
   by_cases h20 : i < 20
   ·rw [bif_t (decide_eq_true (by simp; omega)), bif_t (by simpa using h), w64_succ (by omega)]
    by_cases h3 : CV.len ((CV.el (g 7)) i 0) ≤ 40
    ·rw [bif_f (by simp; omega)]
     rcases ih (i + 1) (by omega) (by omega) with h4 | ⟨h4, h5⟩
     ·exact .inl h4
     ·refine .inr ⟨h4, fun j h6 h7 h8 => ?_⟩
      by_cases e : j = i
      ·rw [e]; exact h3
      ·exact h5 j (by omega) h7 h8
    ·rw [bif_t (by simp; omega)]
     exact .inl rfl
   ·rw [bif_f (decide_eq_false (by simp; omega))]
    exact .inr ⟨rfl, fun j h6 h7 h8 => by omega⟩
  ·rw [bif_f (by simp [h])]
   exact .inr ⟨rfl, fun j h6 h7 => by omega⟩
theorem light_law (g : Nat → CV) :
  F100 100 g = some false ∨
  (F100 100 g = some true ∧ (CV.len (g 6)) ≤ 40 ∧ (CV.len (g 7)) ≤ 12 ∧ ∀ j, j < (CV.len (g 7)) → CV.len ((CV.el (g 7)) j 0) ≤ 40) := by
 unfold F100 D100
 rcases light_loop g (some false) (bif ((decide ((Int.ofNat (CV.len (g 6))) ≤ 40)) == true) then (some (decide ((Int.ofNat (CV.len (g 7))) ≤ 12))) else (some false)) 100 0 (by omega) (by omega) with h | ⟨h, h2⟩
 ·exact .inl h
 ·by_cases h7 : (CV.len (g 6)) ≤ 40
  ·by_cases h9 : (CV.len (g 7)) ≤ 12
   ·exact .inr ⟨h.trans (by rw [bif_t (by simp; omega), decide_eq_true (show (Int.ofNat (CV.len (g 7))) ≤ 12 by simp; omega)]), h7, h9, fun j hj => h2 j (by omega) hj (by omega)⟩
   ·exact .inl (h.trans (by rw [bif_t (by simp; omega), decide_eq_false (show ¬ (Int.ofNat (CV.len (g 7))) ≤ 12 by simp; omega)]))
  ·exact .inl (h.trans (by rw [bif_f (by simp; omega)]))
def CovK (n9 : Nat) (f10 : Nat → Nat → CV) (l1 l2 h1 h2 : Int) (i : Nat) : Prop := ∃ j, i ≤ j ∧ j < n9 ∧ CovP (CV.len (f10 j 0)) (CV.el (f10 j 0)) l1 l2 h1 h2
theorem CovK.step {n9 : Nat} {f10 : Nat → Nat → CV} {l1 l2 h1 h2 : Int} {i : Nat} (h : ¬ CovP (CV.len (f10 i 0)) (CV.el (f10 i 0)) l1 l2 h1 h2) : CovK n9 f10 l1 l2 h1 h2 i ↔ CovK n9 f10 l1 l2 h1 h2 (i + 1) := by
 constructor
 ·rintro ⟨j, a, b, c⟩
  refine ⟨j, ?_, b, c⟩
  by_cases e : j = i
  ·subst e; exact absurd c h
  ·omega
 ·rintro ⟨j, a, b, c⟩
  exact ⟨j, by omega, b, c⟩
theorem holes127 {ρ : Type} (n9 : Nat) (f10 : Nat → Nat → CV) (l1 l2 h1 h2 : Int) (hn : n9 ≤ 60) (hl : ∀ j, j < n9 → CV.len (f10 j 0) ≤ 40) (k0 : Int → Option ρ) (k1 : Option ρ) : ∀ (m i : Nat), n9 < m + i → i ≤ n9 →
  (CovK n9 f10 l1 l2 h1 h2 i → ∃ j : Nat, L127v1 100 n9 f10 (listF [(.i .i64 l1), (.i .i64 l2), (.i .i64 h1), (.i .i64 h2)]) (Int.ofNat n9) m (Int.ofNat i) k0 k1 = k0 (Int.ofNat j)) ∧
  (¬ CovK n9 f10 l1 l2 h1 h2 i → L127v1 100 n9 f10 (listF [(.i .i64 l1), (.i .i64 l2), (.i .i64 h1), (.i .i64 h2)]) (Int.ofNat n9) m (Int.ofNat i) k0 k1 = k1) := by
 intro m
 induction m with
 | zero => intro i h1 h2; omega
 | succ m ih =>
  intro i h3 h4
  unfold L127v1
  rw [lt_nat, inb_nat, toNat_nat]
  by_cases h : i < n9
  ·have e126 : F126 100 (CV.len (f10 i 0)) (CV.el (f10 i 0)) (listF [(.i .i64 l1), (.i .i64 l2), (.i .i64 h1), (.i .i64 h2)]) = ob (F125 100 (CV.len (f10 i 0)) (CV.el (f10 i 0)) l1 l2 h1 h2) some := rfl
   obtain ⟨c1, c2⟩ := covers_law (CV.len (f10 i 0)) (CV.el (f10 i 0)) l1 l2 h1 h2 (hl i h)
   rw [bif_t (by simpa using h), bif_t (by simpa using h), w64_succ (by omega), e126]
   by_cases hc : CovP (CV.len (f10 i 0)) (CV.el (f10 i 0)) l1 l2 h1 h2
   ·rw [(c1 hc).1, ob_some, ob_some, bif_t rfl]
    exact ⟨fun _ => ⟨i, rfl⟩, fun hh => absurd ⟨i, Nat.le_refl i, h, hc⟩ hh⟩
   ·rw [(c2 hc).1, ob_some, ob_some, bif_f rfl, CovK.step hc]
    exact ih (i + 1) (by omega) (by omega)
  ·rw [bif_f (by simpa using h)]
   exact ⟨fun ⟨j, a, b, _⟩ => by omega, fun _ => rfl⟩
theorem holes155 {ρ : Type} (g : Nat → CV) (s21 : ByteArray) (a22 a23 a24 : Int) (l1 l2 h1 h2 : Int) (hn : (CV.len (g 7)) ≤ 60) (hl : ∀ j, j < (CV.len (g 7)) → CV.len ((CV.el (g 7)) j 0) ≤ 40) (k0 k1 : Option ρ) : ∀ (m i : Nat), (CV.len (g 7)) < m + i → i ≤ (CV.len (g 7)) →
  (CovK (CV.len (g 7)) (CV.el (g 7)) l1 l2 h1 h2 i → L155v1 100 g s21 a22 a23 a24 l1 l2 h1 h2 m (Int.ofNat i) k0 k1 = k0) ∧
  (¬ CovK (CV.len (g 7)) (CV.el (g 7)) l1 l2 h1 h2 i → L155v1 100 g s21 a22 a23 a24 l1 l2 h1 h2 m (Int.ofNat i) k0 k1 = k1) := by
 intro m
 induction m with
 | zero => intro i h1 h2; omega
 | succ m ih =>
  intro i h3 h4
  unfold L155v1
  rw [lt_nat, inb_nat, toNat_nat]
  by_cases h : i < (CV.len (g 7))
  ·obtain ⟨c1, c2⟩ := covers_law (CV.len ((CV.el (g 7)) i 0)) (CV.el ((CV.el (g 7)) i 0)) l1 l2 h1 h2 (hl i h)
   rw [bif_t (by simpa using h), bif_t (by simpa using h), w64_succ (by omega)]
   by_cases hc : CovP (CV.len ((CV.el (g 7)) i 0)) (CV.el ((CV.el (g 7)) i 0)) l1 l2 h1 h2
   ·rw [(c1 hc).2, ob_some, bif_t rfl]
    exact ⟨fun _ => rfl, fun hh => absurd ⟨i, Nat.le_refl i, h, hc⟩ hh⟩
   ·rw [(c2 hc).2, ob_some, bif_f rfl, CovK.step hc]
    exact ih (i + 1) (by omega) (by omega)
  ·rw [bif_f (by simpa using h)]
   exact ⟨fun ⟨j, a, b, _⟩ => by omega, fun _ => rfl⟩
def hf (s : Int) : Int := w64 (Int.tdiv (w64 (s + 1)) 2)
structure CovO (s1 : ByteArray) (n9 : Nat) (f10 : Nat → Nat → CV) (s21 : ByteArray) (x y s : Int) : Prop where
 same : (ByteArray.toList s21 == ByteArray.toList s1) = true
 low : 1 ≤ s
 high : s ≤ 10000
 near : nr x y
 cov : CovK n9 f10 (w64 (x - hf s)) (w64 (y - hf s)) (w64 (x + hf s)) (w64 (y + hf s)) 0
theorem near151 (x : Int) : F151 100 x = some (decide (-32768 ≤ x ∧ x ≤ 32768)) := by
 unfold F151 D151
 by_cases h : x ≥ -32768
 ·rw [bif_t (by simp [h])]
  congr 1
  exact decide_eq_decide.2 ⟨fun h2 => ⟨h, h2⟩, fun h2 => h2.2⟩
 ·rw [bif_f (by simp [h])]
  rw [decide_eq_false (fun h2 => h h2.1)]
theorem covered129 (g : Nat → CV) (s21 : ByteArray) (a22 a23 a24 : Int) (hn : (CV.len (g 7)) ≤ 60) (hl : ∀ j, j < (CV.len (g 7)) → CV.len ((CV.el (g 7)) j 0) ≤ 40) :
  (CovO (CV.str (g 0)) (CV.len (g 7)) (CV.el (g 7)) s21 a22 a23 a24 → F129 100 g s21 a22 a23 a24 = some true) ∧
  (¬ CovO (CV.str (g 0)) (CV.len (g 7)) (CV.el (g 7)) s21 a22 a23 a24 → F129 100 g s21 a22 a23 a24 = some false) := by
 unfold F129 D129
 cases hs : (ByteArray.toList s21 == ByteArray.toList (CV.str (g 0))) with
 | false => rw [bif_f (by rfl)]; exact ⟨fun h => (by have := h.same; rw [hs] at this; cases this), fun _ => rfl⟩
 | true =>
  rw [bif_t (by rfl)]
  by_cases q1 : a24 < 1
  ·rw [bif_f (by simp [q1])]; exact ⟨fun h => (by have := h.low; omega), fun _ => rfl⟩
  rw [bif_t (by simp only [decide_eq_false q1]; rfl)]
  by_cases q2 : a24 > 10000
  ·rw [bif_f (by simp only [decide_eq_true q2]; rfl)]; exact ⟨fun h => (by have := h.high; omega), fun _ => rfl⟩
  rw [bif_t (by simp only [decide_eq_false q2]; rfl)]
  by_cases q3 : nr a22 a23
  case neg =>
   have hno : ¬ CovO (CV.str (g 0)) (CV.len (g 7)) (CV.el (g 7)) s21 a22 a23 a24 := fun h => q3 h.near
   refine ⟨fun h => absurd h hno, fun _ => ?_⟩
   by_cases h1 : (if a23 > a22 then a23 else a22) > 32768
   ·rw [bif_f (by simp only [decide_eq_true h1]; rfl)]
   ·rw [bif_t (by simp only [decide_eq_false h1]; rfl), bif_t]
    apply decide_eq_true
    apply Classical.byContradiction
    intro h2
    apply q3
    unfold nr
    split at h1 <;> split at h2 <;> omega
  have q3' := q3
  unfold nr at q3'
  rw [bif_t (by rw [decide_eq_false (by split <;> omega)]; rfl), bif_f (decide_eq_false (by split <;> omega))]
  unfold F128 D128 F127 D127
  have H1 := holes127 (CV.len (g 7)) (CV.el (g 7)) (w64 (a22 - hf a24)) (w64 (a23 - hf a24)) (w64 (a22 + hf a24)) (w64 (a23 + hf a24)) hn hl some (some (-1)) 100 0 (by omega) (by omega)
  refine ⟨fun h => ?_, fun h => ?_⟩
  ·obtain ⟨j, hj⟩ := H1.1 h.cov
   refine (congrArg (fun z => ob (ob z fun x4 => some (decide (x4 ≥ 0))) fun x25 => some x25) hj).trans ?_
   show some (decide ((Int.ofNat j) ≥ 0)) = some true
   rw [decide_eq_true (by simp)]
  ·have hk : ¬ CovK (CV.len (g 7)) (CV.el (g 7)) (w64 (a22 - hf a24)) (w64 (a23 - hf a24)) (w64 (a22 + hf a24)) (w64 (a23 + hf a24)) 0 := fun hh => h ⟨hs, by omega, by omega, q3, hh⟩
   exact (congrArg (fun z => ob (ob z fun x4 => some (decide (x4 ≥ 0))) fun x25 => some x25) (H1.2 hk)).trans rfl
theorem covered155 (g : Nat → CV) (s21 : ByteArray) (a22 a23 a24 : Int) (hn : (CV.len (g 7)) ≤ 60) (hl : ∀ j, j < (CV.len (g 7)) → CV.len ((CV.el (g 7)) j 0) ≤ 40) :
  (CovO (CV.str (g 0)) (CV.len (g 7)) (CV.el (g 7)) s21 a22 a23 a24 → F155 100 g s21 a22 a23 a24 = some true) ∧
  (¬ CovO (CV.str (g 0)) (CV.len (g 7)) (CV.el (g 7)) s21 a22 a23 a24 → F155 100 g s21 a22 a23 a24 = some false) := by
 unfold F155 D155
 cases hs : (ByteArray.toList s21 == ByteArray.toList (CV.str (g 0))) with
 | false => rw [bif_f (by rfl)]; exact ⟨fun h => (by have := h.same; rw [hs] at this; cases this), fun _ => rfl⟩
 | true =>
  rw [bif_t (by rfl)]
  by_cases q1 : a24 < 1
  ·rw [bif_f (by simp [q1])]; exact ⟨fun h => (by have := h.low; omega), fun _ => rfl⟩
  rw [bif_t (by simp only [decide_eq_false q1]; rfl)]
  by_cases q2 : a24 > 10000
  ·rw [bif_f (by simp only [decide_eq_true q2]; rfl)]; exact ⟨fun h => (by have := h.high; omega), fun _ => rfl⟩
  rw [bif_t (by simp only [decide_eq_false q2]; rfl), near151, ob_some]
  by_cases h1 : -32768 ≤ a22 ∧ a22 ≤ 32768
  case neg => rw [bif_f (by simp only [decide_eq_false h1]; rfl)]; exact ⟨fun h => absurd ⟨h.near.1, h.near.2.1⟩ h1, fun _ => rfl⟩
  rw [bif_t (by simp only [decide_eq_true h1]; rfl), near151, ob_some]
  by_cases h2 : -32768 ≤ a23 ∧ a23 ≤ 32768
  case neg => rw [bif_t (by simp only [decide_eq_false h2]; rfl)]; exact ⟨fun h => absurd ⟨h.near.2.2.1, h.near.2.2.2⟩ h2, fun _ => rfl⟩
  rw [bif_f (by simp only [decide_eq_true h2]; rfl)]
  have H2 := holes155 g s21 a22 a23 a24 (w64 (a22 - hf a24)) (w64 (a23 - hf a24)) (w64 (a22 + hf a24)) (w64 (a23 + hf a24)) hn hl (some true) (some false) 100 0 (by omega) (by omega)
  refine ⟨fun h => H2.1 h.cov, fun h => ?_⟩
  have hk : ¬ CovK (CV.len (g 7)) (CV.el (g 7)) (w64 (a22 - hf a24)) (w64 (a23 - hf a24)) (w64 (a22 + hf a24)) (w64 (a23 + hf a24)) 0 := fun hh => h ⟨hs, by omega, by omega, ⟨h1.1, h1.2, h2.1, h2.2⟩, hh⟩
  exact H2.2 hk
theorem awake_law : F132 100 = some true := by kernel_rfl
end Go.Eng.R13
/-
 Boxes of whole numbers, the turns and what undoes them: the program's and the reference's answers are alike.
-/
set_option linter.all false
namespace Go.Eng.R13
open Go Go.RowKit Go.Eng Geo
def Bx (r x y z : Int) : Prop := (-r ≤ x ∧ x ≤ r) ∧ (-r ≤ y ∧ y ≤ r) ∧ (-r ≤ z ∧ z ≤ r)
instance (r x y z : Int) : Decidable (Bx r x y z) := inferInstanceAs (Decidable (_ ∧ _))
theorem box105 (r x y z : Int) (h0 : 0 ≤ r) (h1 : r ≤ 1099511627776) : F105 100 x y z r = some (decide (Bx r x y z)) := by
 have hw : w64 (0 - r) = -r := by rw [w64_of (by omega) (by omega)]; omega
 have r0 : ∀ m k0 k1, L105v1 (ρ := Bool) 100 r x y z (m + 1) 0 k0 k1 = bif ((decide (x < (w64 (0 - r)))) == false) then (bif (decide (x > r)) then k0 else (L105v1 100 r x y z m 1 k0 k1)) else k0 := fun _ _ _ => rfl
 have r1 : ∀ m k0 k1, L105v1 (ρ := Bool) 100 r x y z (m + 1) 1 k0 k1 = bif ((decide (y < (w64 (0 - r)))) == false) then (bif (decide (y > r)) then k0 else (L105v1 100 r x y z m 2 k0 k1)) else k0 := fun _ _ _ => rfl
 have r2 : ∀ m k0 k1, L105v1 (ρ := Bool) 100 r x y z (m + 1) 2 k0 k1 = bif ((decide (z < (w64 (0 - r)))) == false) then (bif (decide (z > r)) then k0 else (L105v1 100 r x y z m 3 k0 k1)) else k0 := fun _ _ _ => rfl
 have r3 : ∀ m k0 k1, L105v1 (ρ := Bool) 100 r x y z (m + 1) 3 k0 k1 = k1 := fun _ _ _ => rfl
 unfold F105 D105
 rw [r0 99, r1 98, r2 97, r3 96, hw]
 by_cases a1 : x < -r
 ·rw [bif_f (by simp [a1]), decide_eq_false (by unfold Bx; omega)]
 rw [bif_t (by simp [a1])]
 by_cases a2 : x > r
 ·rw [bif_t (by simp [a2]), decide_eq_false (by unfold Bx; omega)]
 rw [bif_f (by simp [a2])]
 by_cases a1 : y < -r
 ·rw [bif_f (by simp [a1]), decide_eq_false (by unfold Bx; omega)]
 rw [bif_t (by simp [a1])]
 by_cases a2 : y > r
 ·rw [bif_t (by simp [a2]), decide_eq_false (by unfold Bx; omega)]
 rw [bif_f (by simp [a2])]
 by_cases a1 : z < -r
 ·rw [bif_f (by simp [a1]), decide_eq_false (by unfold Bx; omega)]
 rw [bif_t (by simp [a1])]
 by_cases a2 : z > r
 ·rw [bif_t (by simp [a2]), decide_eq_false (by unfold Bx; omega)]
 rw [bif_f (by simp [a2]), decide_eq_true (by unfold Bx; omega)]
theorem box136 (x y z : Int) : F136 100 x y z = some (decide (Bx 1099511627776 x y z)) := by
 unfold F136 D136
 by_cases a1 : x ≥ -1099511627776
 case neg => rw [bif_f (by simp [a1]), decide_eq_false (by unfold Bx; omega)]
 rw [bif_t (by simp [a1])]
 by_cases a1 : x ≤ 1099511627776
 case neg => rw [bif_f (by simp [a1]), decide_eq_false (by unfold Bx; omega)]
 rw [bif_t (by simp [a1])]
 by_cases a1 : y ≥ -1099511627776
 case neg => rw [bif_f (by simp [a1]), decide_eq_false (by unfold Bx; omega)]
 rw [bif_t (by simp [a1])]
 by_cases a1 : y ≤ 1099511627776
 case neg => rw [bif_f (by simp [a1]), decide_eq_false (by unfold Bx; omega)]
 rw [bif_t (by simp [a1])]
 by_cases a1 : z ≥ -1099511627776
 case neg => rw [bif_f (by simp [a1]), decide_eq_false (by unfold Bx; omega)]
 rw [bif_t (by simp [a1])]
 congr 1
 exact decide_eq_decide.2 (by unfold Bx; omega)
def Rp (x y z t : Int) : Prop := Bx 524288 x y z ∧ 0 ≤ t ∧ t ≤ 23
instance (x y z t : Int) : Decidable (Rp x y z t) := inferInstanceAs (Decidable (_ ∧ _))
theorem turn110 (t : Int) : F110 100 t = some (if 0 ≤ t ∧ t ≤ 23 then t else 0) := by
 unfold F110 D110
 by_cases a1 : t < 0
 ·rw [bif_f (by simp [a1]), if_neg (by omega)]
 rw [bif_t (by simp [a1])]
 by_cases a2 : t ≥ 24
 ·rw [bif_t (by simp [a2]), if_neg (by omega)]
 ·rw [bif_f (by simp; omega), if_pos (by omega)]
theorem turn140 (t : Int) : F140 100 t = some (if 0 ≤ t ∧ t ≤ 23 then t else 0) := by
 unfold F140 D140
 by_cases a1 : t < 0
 ·rw [bif_f (by simp [a1]), if_neg (by omega)]
 rw [bif_t (by simp [a1])]
 by_cases a2 : t > 23
 ·rw [bif_t (by simp [a2]), if_neg (by omega)]
 ·rw [bif_f (by simp; omega), if_pos (by omega)]
theorem rp111 (x y z t : Int) : F111 100 x y z t = some (decide (Rp x y z t)) := by
 unfold F111 D111
 rw [box105 _ _ _ _ (by omega) (by omega), ob_some, turn110, ob_some]
 by_cases h : Bx 524288 x y z
 ·rw [bif_t (by simp [h])]
  congr 1
  by_cases h2 : 0 ≤ t ∧ t ≤ 23
  ·rw [if_pos h2, decide_eq_true ⟨h, h2⟩]; simp
  ·rw [if_neg h2, decide_eq_false (fun q => h2 q.2)]
   simp only [beq_eq_false_iff_ne, ne_eq]; omega
 ·rw [bif_f (by simp [h]), decide_eq_false (fun q => h q.1)]
theorem rp133 (x y z t : Int) : F133 100 x y z t = some (decide (Rp x y z t)) := by
 unfold F133 D133
 by_cases a1 : x ≥ -524288
 case neg => rw [bif_f (by simp [a1]), decide_eq_false (by unfold Rp Bx; omega)]
 rw [bif_t (by simp [a1])]
 by_cases a1 : x ≤ 524288
 case neg => rw [bif_f (by simp [a1]), decide_eq_false (by unfold Rp Bx; omega)]
 rw [bif_t (by simp [a1])]
 by_cases a1 : y ≥ -524288
 case neg => rw [bif_f (by simp [a1]), decide_eq_false (by unfold Rp Bx; omega)]
 rw [bif_t (by simp [a1])]
 by_cases a1 : y ≤ 524288
 case neg => rw [bif_f (by simp [a1]), decide_eq_false (by unfold Rp Bx; omega)]
 rw [bif_t (by simp [a1])]
 by_cases a1 : z ≥ -524288
 case neg => rw [bif_f (by simp [a1]), decide_eq_false (by unfold Rp Bx; omega)]
 rw [bif_t (by simp [a1])]
 by_cases a1 : z ≤ 524288
 case neg => rw [bif_f (by simp [a1]), decide_eq_false (by unfold Rp Bx; omega)]
 rw [bif_t (by simp [a1])]
 by_cases a1 : t ≥ 0
 case neg => rw [bif_f (by simp [a1]), decide_eq_false (by unfold Rp Bx; omega)]
 rw [bif_t (by simp [a1])]
 congr 1
 exact decide_eq_decide.2 (by unfold Rp Bx; omega)
theorem quarter_eq {ρ : Type} (a x11 z : Int) (k0 : Int → Int → Option ρ) : ∀ (m : Nat) (i x y : Int), L114v1 100 x11 a z m i x y k0 = L141v1 100 a z m i x y k0 := by
 intro m
 induction m with
 | zero => intro i x y; rfl
 | succ m ih => intro i x y; unfold L114v1 L141v1; rw [ih]
def quarter (q : Int) (x y : Int) : Int × Int :=
 if q = 1 then (-y, x) else if q = 2 then (-x, -y) else if q = 3 then (y, -x) else (x, y)
def face (f : Int) (x y z : Int) : Int × Int × Int :=
 if f = 1 then (x, -z, y) else if f = 2 then (x, -y, -z) else if f = 3 then (x, z, -y) else if f = 4 then (z, y, -x) else if f = 5 then (-z, y, x) else (x, y, z)
def rotE (t x y z : Int) : Int × Int × Int := face (t / 4) (quarter (t % 4) x y).1 (quarter (t % 4) x y).2 z
theorem neg_w {x : Int} (h1 : -4398046511104 ≤ x) (h2 : x ≤ 4398046511104) : w64 (0 - x) = -x := by rw [w64_of (by omega) (by omega)]; omega
theorem quarter_law {ρ : Type} (z : Int) (k0 : Int → Int → Option ρ) (q x y : Int) (hq : 0 ≤ q ∧ q ≤ 3) (hx : -4398046511104 ≤ x ∧ x ≤ 4398046511104) (hy : -4398046511104 ≤ y ∧ y ≤ 4398046511104) :
  L141v1 100 q z 100 0 x y k0 = k0 (quarter q x y).1 (quarter q x y).2 := by
 have hq' : q = 0 ∨ q = 1 ∨ q = 2 ∨ q = 3 := by omega
 have nx : w64 (0 - x) = -x := neg_w hx.1 hx.2
 have ny : w64 (0 - y) = -y := neg_w hy.1 hy.2
 have nnx : w64 (0 - (-x)) = x := by rw [neg_w (by omega) (by omega)]; omega
 rcases hq' with rfl | rfl | rfl | rfl
 ·rfl
 ·exact (show L141v1 100 1 z 100 0 x y k0 = k0 (w64 (0 - y)) x from rfl).trans (by rw [ny]; rfl)
 ·exact (show L141v1 100 2 z 100 0 x y k0 = k0 (w64 (0 - x)) (w64 (0 - y)) from rfl).trans (by rw [nx, ny]; rfl)
 ·exact (show L141v1 100 3 z 100 0 x y k0 = k0 (w64 (0 - w64 (0 - y))) (w64 (0 - x)) from rfl).trans (by rw [nx, ny, neg_w (by omega) (by omega), Int.neg_neg]; rfl)
theorem quarter_bd {q x y R : Int} (hx : -R ≤ x ∧ x ≤ R) (hy : -R ≤ y ∧ y ≤ R) : (-R ≤ (quarter q x y).1 ∧ (quarter q x y).1 ≤ R) ∧ (-R ≤ (quarter q x y).2 ∧ (quarter q x y).2 ≤ R) := by
 unfold quarter
 by_cases h : q = 1
 ·rw [if_pos h]; exact ⟨⟨by simp only; omega, by simp only; omega⟩, hx⟩
 rw [if_neg h]
 by_cases h : q = 2
 ·rw [if_pos h]; exact ⟨⟨by simp only; omega, by simp only; omega⟩, ⟨by simp only; omega, by simp only; omega⟩⟩
 rw [if_neg h]
 by_cases h : q = 3
 ·rw [if_pos h]; exact ⟨hy, ⟨by simp only; omega, by simp only; omega⟩⟩
 rw [if_neg h]; exact ⟨hx, hy⟩
theorem quarter_neg (q x y : Int) : quarter q (-x) (-y) = (-(quarter q x y).1, -(quarter q x y).2) := by
 unfold quarter
 by_cases h : q = 1
 ·simp only [if_pos h]
 simp only [if_neg h]
 by_cases h : q = 2
 ·simp only [if_pos h]
 simp only [if_neg h]
 by_cases h : q = 3
 ·simp only [if_pos h]
 simp only [if_neg h]
theorem face_neg (f x y z : Int) : face f (-x) (-y) (-z) = (-(face f x y z).1, -(face f x y z).2.1, -(face f x y z).2.2) := by
 unfold face
 by_cases h : f = 1
 ·simp only [if_pos h]
 simp only [if_neg h]
 by_cases h : f = 2
 ·simp only [if_pos h]
 simp only [if_neg h]
 by_cases h : f = 3
 ·simp only [if_pos h]
 simp only [if_neg h]
 by_cases h : f = 4
 ·simp only [if_pos h]
 simp only [if_neg h]
 by_cases h : f = 5
 ·simp only [if_pos h]
 simp only [if_neg h]
theorem rot_neg (t x y z : Int) : rotE t (-x) (-y) (-z) = (-(rotE t x y z).1, -(rotE t x y z).2.1, -(rotE t x y z).2.2) := by
 unfold rotE
 rw [quarter_neg]
 exact face_neg _ _ _ _
theorem face_bd {f x y z R : Int} (hx : -R ≤ x ∧ x ≤ R) (hy : -R ≤ y ∧ y ≤ R) (hz : -R ≤ z ∧ z ≤ R) : Bx R (face f x y z).1 (face f x y z).2.1 (face f x y z).2.2 := by
 unfold face Bx
 by_cases h : f = 1
 ·simp only [if_pos h]; omega
 simp only [if_neg h]
 by_cases h : f = 2
 ·simp only [if_pos h]; omega
 simp only [if_neg h]
 by_cases h : f = 3
 ·simp only [if_pos h]; omega
 simp only [if_neg h]
 by_cases h : f = 4
 ·simp only [if_pos h]; omega
 simp only [if_neg h]
 by_cases h : f = 5
 ·simp only [if_pos h]; omega
 simp only [if_neg h]; omega
theorem rot_bd {t x y z R : Int} (h : Bx R x y z) : Bx R (rotE t x y z).1 (rotE t x y z).2.1 (rotE t x y z).2.2 :=
 face_bd (quarter_bd h.1 h.2.1).1 (quarter_bd h.1 h.2.1).2 h.2.2
theorem face142 (f x y z : Int) (hx : -4398046511104 ≤ x ∧ x ≤ 4398046511104) (hy : -4398046511104 ≤ y ∧ y ≤ 4398046511104) (hz : -4398046511104 ≤ z ∧ z ≤ 4398046511104) : F142 100 x y z f = some (face f x y z) := by
 unfold F142 D142 face
 rw [neg_w hx.1 hx.2, neg_w hy.1 hy.2, neg_w hz.1 hz.2]
 by_cases h : f = 1
 ·rw [bif_t (by simp [h]), if_pos h]
 rw [bif_f (by simpa using h), if_neg h]
 by_cases h : f = 2
 ·rw [bif_t (by simp [h]), if_pos h]
 rw [bif_f (by simpa using h), if_neg h]
 by_cases h : f = 3
 ·rw [bif_t (by simp [h]), if_pos h]
 rw [bif_f (by simpa using h), if_neg h]
 by_cases h : f = 4
 ·rw [bif_t (by simp [h]), if_pos h]
 rw [bif_f (by simpa using h), if_neg h]
 by_cases h : f = 5
 ·rw [bif_t (by simp [h]), if_pos h]
 rw [bif_f (by simpa using h), if_neg h]
theorem t_parts {t : Int} (ht : 0 ≤ t ∧ t ≤ 23) : w64 (Int.tdiv t 4) = t / 4 ∧ Int.tmod t 4 = t % 4 ∧ 0 ≤ t % 4 ∧ t % 4 ≤ 3 := by
 rw [Int.tdiv_eq_ediv_of_nonneg ht.1, Int.tmod_eq_emod_of_nonneg ht.1, w64_of (by omega) (by omega)]
 omega
theorem apply143 (x y z t : Int) (ht : 0 ≤ t ∧ t ≤ 23) (h : Bx 4398046511104 x y z) : F143 100 x y z t = some (rotE t x y z) := by
 obtain ⟨e1, e2, e3, e4⟩ := t_parts ht
 obtain ⟨b1, b2⟩ := quarter_bd (q := t % 4) h.1 h.2.1
 unfold F143 D143 F141 D141
 rw [e1, e2, quarter_law _ _ _ _ _ ⟨e3, e4⟩ h.1 h.2.1, ob_some, face142 _ _ _ _ b1 b2 h.2.2, ob_some]
 rfl
theorem apply114 (x y z t : Int) (ht : 0 ≤ t ∧ t ≤ 23) (h : Bx 4398046511104 x y z) : F114 100 x y z t = some (rotE t x y z) := by
 obtain ⟨e1, e2, e3, e4⟩ := t_parts ht
 obtain ⟨b1, b2⟩ := quarter_bd (q := t % 4) h.1 h.2.1
 have H := face142 (t / 4) _ _ _ b1 b2 h.2.2
 unfold F142 D142 at H
 unfold F114 D114
 rw [turn110, ob_some, if_pos ht, e1, e2, quarter_eq, quarter_law _ _ _ _ _ ⟨e3, e4⟩ h.1 h.2.1]
 exact H
def invOk (t : Nat) : Bool :=
 match F115 100 (Int.ofNat t), F145 100 (Int.ofNat t) with
 | some a, some b => a == b && (decide (0 ≤ a) && decide (a ≤ 23))
 | _, _ => false
theorem inv_all : (List.range 24).all invOk = true := by kernel_rfl
theorem inv_law (t : Int) (ht : 0 ≤ t ∧ t ≤ 23) : ∃ r, F115 100 t = some r ∧ F145 100 t = some r ∧ 0 ≤ r ∧ r ≤ 23 := by
 obtain ⟨n, rfl⟩ := Int.eq_ofNat_of_zero_le ht.1
 have h := List.all_eq_true.1 inv_all n (List.mem_range.2 (by omega))
 unfold invOk at h
 have e : (Int.ofNat n) = ((n : Nat) : Int) := rfl
 rw [e] at h
 cases h1 : F115 100 ((n : Nat) : Int) with
 | none => rw [h1] at h; cases h
 | some a =>
  cases h2 : F145 100 ((n : Nat) : Int) with
  | none => rw [h1, h2] at h; cases h
  | some b =>
   rw [h1, h2] at h
   simp only [Bool.and_eq_true, beq_iff_eq, decide_eq_true_eq] at h
   exact ⟨a, rfl, by rw [h.1], h.2⟩
theorem inverse_law (x y z t : Int) (h : Rp x y z t) : ∃ a b c r, F116 100 x y z t = some (a, b, c, r) ∧ F146 100 x y z t = some (a, b, c, r) ∧ 0 ≤ r ∧ r ≤ 23 ∧ Bx 524288 a b c := by
 obtain ⟨hb, ht⟩ := h
 obtain ⟨r, i1, i2, i3⟩ := inv_law t ht
 have hb1 : Bx 1099511627776 x y z := by unfold Bx at *; omega
 have hb2 : Bx 4398046511104 x y z := by unfold Bx at *; omega
 have hb3 : Bx 4398046511104 (-x) (-y) (-z) := by unfold Bx at *; omega
 have hr := rot_bd (t := r) hb
 refine ⟨-(rotE r x y z).1, -(rotE r x y z).2.1, -(rotE r x y z).2.2, r, ?_, ?_, i3.1, i3.2, ?_⟩
 ·unfold F116 D116
  rw [box105 _ _ _ _ (by omega) (by omega), ob_some, bif_f (by simp [hb1]), i1, ob_some]
  unfold F106 D106
  rw [ob_some, neg_w (x := x) (by unfold Bx at hb2; omega) (by unfold Bx at hb2; omega), neg_w (x := y) (by unfold Bx at hb2; omega) (by unfold Bx at hb2; omega), neg_w (x := z) (by unfold Bx at hb2; omega) (by unfold Bx at hb2; omega), apply114 _ _ _ _ i3 hb3, ob_some, rot_neg]
 ·unfold F146 D146
  rw [box136, ob_some, bif_f (by simp [hb1]), i2, ob_some, apply143 _ _ _ _ i3 hb2, ob_some]
  unfold F137 D137
  rw [ob_some, neg_w (by unfold Bx at hr; omega) (by unfold Bx at hr; omega), neg_w (by unfold Bx at hr; omega) (by unfold Bx at hr; omega), neg_w (by unfold Bx at hr; omega) (by unfold Bx at hr; omega)]
 ·unfold Bx at *; omega
theorem apply_law (x y z t a b c : Int) (ht : 0 ≤ t ∧ t ≤ 23) : ∃ p, F117 100 x y z t a b c = some p ∧ F148 100 x y z t a b c = some p := by
 unfold F117 D117 F148 D148
 rw [box105 _ _ _ _ (by omega) (by omega), box136, box105 _ _ _ _ (by omega) (by omega), box136, ob_some, ob_some, ob_some, ob_some]
 by_cases h1 : Bx 1099511627776 x y z
 case neg => exact ⟨_, by rw [bif_f (by simp [h1])], by rw [bif_f (by simp [h1])]⟩
 by_cases h2 : Bx 1099511627776 a b c
 case neg => exact ⟨_, by rw [bif_t (by simp [h1]), bif_t (by simp [h2])], by rw [bif_t (by simp [h1]), bif_t (by simp [h2])]⟩
 have h3 : Bx 4398046511104 a b c := by unfold Bx at *; omega
 refine ⟨(w64 ((rotE t a b c).1 + x), w64 ((rotE t a b c).2.1 + y), w64 ((rotE t a b c).2.2 + z)), ?_, ?_⟩
 ·rw [bif_t (by simp [h1]), bif_f (by simp [h2]), apply114 _ _ _ _ ht h3, ob_some]; rfl
 ·rw [bif_t (by simp [h1]), bif_f (by simp [h2]), turn140, ob_some, if_pos ht, apply143 _ _ _ _ ht h3, ob_some]; rfl
end Go.Eng.R13
/-
 Routes and where they cross a part: PenetrationCrosses.
-/
set_option linter.all false
namespace Go.Eng.R13
open Go Go.RowKit Go.Eng Geo
def Row (r : Int) (f : Nat → Nat → CV) (i : Nat) : Prop := Bx r (CV.int (f i 0)) (CV.int (f i 1)) (CV.int (f i 2))
theorem w64_pred {i : Nat} (h0 : 1 ≤ i) (h : i < 1000000) : w64 (Int.ofNat i - 1) = Int.ofNat (i - 1) := by
 rw [w64_of] <;> simp <;> omega
theorem far102 (x y z : Int) : F102 100 x y z = some (!decide (Bx 524288 x y z)) := by
 unfold F102 D102
 by_cases h1 : (if z > (if y > x then y else x) then z else (if y > x then y else x)) > 524288
 ·rw [bif_f (by simp only [decide_eq_true h1]; rfl), decide_eq_false]; rfl
  unfold Bx
  split at h1 <;> try split at h1
  all_goals omega
 rw [bif_t (by simp only [decide_eq_false h1]; rfl)]
 congr 1
 by_cases h2 : (if z < (if y < x then y else x) then z else (if y < x then y else x)) < -524288
 ·rw [decide_eq_true h2, decide_eq_false]; rfl
  unfold Bx
  split at h2 <;> try split at h2
  all_goals omega
 ·rw [decide_eq_false h2, decide_eq_true]; rfl
  unfold Bx
  split at h1 <;> split at h2 <;> (try split at h1) <;> (try split at h2) <;> omega
theorem far103 (n : Nat) (f : Nat → Nat → CV) (hn : n ≤ 40) : ∀ (m i : Nat), n < m + i → i ≤ n →
  ∃ z, L103v1 100 n f (Int.ofNat n) m (Int.ofNat i) (fun x => some x) (some (-1)) = some z ∧ (z ≥ 0 ↔ ¬ ∀ j, i ≤ j → j < n → Row 524288 f j) := by
 intro m
 induction m with
 | zero => intro i h1 h2; omega
 | succ m ih =>
  intro i h1 h2
  unfold L103v1
  rw [lt_nat, inb_nat, toNat_nat, far102, ob_some]
  by_cases h : i < n
  ·rw [bif_t (by simpa using h), bif_t (by simpa using h), w64_succ (by omega)]
   by_cases hb : Row 524288 f i
   ·have hb' : Bx 524288 (CV.int (f i 0)) (CV.int (f i 1)) (CV.int (f i 2)) := hb
    rw [bif_f (by simpa using hb')]
    obtain ⟨z, e, hz⟩ := ih (i + 1) (by omega) (by omega)
    refine ⟨z, e, hz.trans (not_congr ⟨fun H j a b => ?_, fun H j a b => H j (by omega) b⟩)⟩
    by_cases e : j = i
    ·rw [e]; exact hb
    ·exact H j (by omega) b
   ·have hb' : ¬ Bx 524288 (CV.int (f i 0)) (CV.int (f i 1)) (CV.int (f i 2)) := hb
    rw [bif_t (by simpa using hb')]
    exact ⟨_, rfl, fun _ H => hb (H i (Nat.le_refl i) h), fun _ => by simp⟩
  ·rw [bif_f (by simpa using h)]
   exact ⟨_, rfl, fun h => by omega, fun H => absurd (fun j a b => by omega) H⟩
theorem near139 (n : Nat) (f : Nat → Nat → CV) (hn : n ≤ 40) (k0 k1 : Option Bool) : ∀ (m i : Nat), n < m + i → i ≤ n →
  ((∀ j, i ≤ j → j < n → Row 524288 f j) → L139v1 100 n f m (Int.ofNat i) k0 k1 = k1) ∧
  ((¬ ∀ j, i ≤ j → j < n → Row 524288 f j) → L139v1 100 n f m (Int.ofNat i) k0 k1 = k0) := by
 intro m
 induction m with
 | zero => intro i h1 h2; omega
 | succ m ih =>
  intro i h1 h2
  unfold L139v1
  rw [lt_nat, inb_nat, toNat_nat, rp133, ob_some]
  by_cases h : i < n
  ·rw [bif_t (by simpa using h), bif_t (by simpa using h), w64_succ (by omega)]
   by_cases hb : Row 524288 f i
   ·have hr : Rp (CV.int (f i 0)) (CV.int (f i 1)) (CV.int (f i 2)) 0 := ⟨hb, by omega, by omega⟩
    rw [bif_f (by simp [hr])]
    obtain ⟨e1, e2⟩ := ih (i + 1) (by omega) (by omega)
    refine ⟨fun H => e1 (fun j a b => H j (by omega) b), fun H => e2 (fun H2 => H (fun j a b => ?_))⟩
    by_cases e : j = i
    ·rw [e]; exact hb
    ·exact H2 j (by omega) b
   ·have hr : ¬ Rp (CV.int (f i 0)) (CV.int (f i 1)) (CV.int (f i 2)) 0 := fun q => hb q.1
    rw [bif_t (by simp [hr])]
    exact ⟨fun H => absurd (H i (Nat.le_refl i) h) hb, fun _ => rfl⟩
  ·rw [bif_f (by simpa using h)]
   exact ⟨fun _ => rfl, fun H => absurd (fun j a b => by omega) H⟩
theorem sub_law {x1 x2 x3 x4 x5 x6 : Int} (h1 : Bx 524288 x1 x2 x3) (h2 : Bx 524288 x4 x5 x6) :
  F108 100 x1 x2 x3 x4 x5 x6 = some (x1 - x4, x2 - x5, x3 - x6) ∧ F138 100 x1 x2 x3 x4 x5 x6 = some (x1 - x4, x2 - x5, x3 - x6) := by
 have b1 : Bx 1099511627776 x1 x2 x3 := by unfold Bx at *; omega
 have b2 : Bx 1099511627776 x4 x5 x6 := by unfold Bx at *; omega
 constructor
 ·unfold F108 D108
  rw [box105 _ _ _ _ (by omega) (by omega), box105 _ _ _ _ (by omega) (by omega), ob_some, ob_some, bif_t (by simp [b1]), bif_f (by simp [b2])]
  unfold F106 D106 F107 D107
  unfold Bx at b1 b2
  rw [ob_some, ob_some, neg_w (by omega) (by omega), neg_w (by omega) (by omega), neg_w (by omega) (by omega)]
  show some (w64 (x1 + -x4), w64 (x2 + -x5), w64 (x3 + -x6)) = _
  rw [w64_of (by omega) (by omega), w64_of (by omega) (by omega), w64_of (by omega) (by omega)]
  rfl
 ·unfold F138 D138
  rw [box136, box136, ob_some, ob_some, bif_t (by simp [b1]), bif_f (by simp [b2])]
  unfold F137 D137
  unfold Bx at b1 b2
  rw [ob_some, w64_of (by omega) (by omega), w64_of (by omega) (by omega), w64_of (by omega) (by omega)]
theorem count109 {ρ : Type} (n : Nat) (f : Nat → Nat → CV) (i a b c : Int) (k0 : Int → Option ρ) :
  L109v2 100 n f i a b c 100 0 0 k0 = bif (a != 0) then (bif (b != 0) then (bif (c != 0) then k0 3 else k0 2) else (bif (c != 0) then k0 2 else k0 1)) else (bif (b != 0) then (bif (c != 0) then k0 2 else k0 1) else (bif (c != 0) then k0 1 else k0 0)) := by
 have r0 : ∀ m x, L109v2 100 n f i a b c (m + 1) x 0 k0 = bif (a != 0) then (L109v2 100 n f i a b c m (w64 (x + 1)) 1 k0) else (L109v2 100 n f i a b c m x 1 k0) := fun _ _ => rfl
 have r1 : ∀ m x, L109v2 100 n f i a b c (m + 1) x 1 k0 = bif (b != 0) then (L109v2 100 n f i a b c m (w64 (x + 1)) 2 k0) else (L109v2 100 n f i a b c m x 2 k0) := fun _ _ => rfl
 have r2 : ∀ m x, L109v2 100 n f i a b c (m + 1) x 2 k0 = bif (c != 0) then (L109v2 100 n f i a b c m (w64 (x + 1)) 3 k0) else (L109v2 100 n f i a b c m x 3 k0) := fun _ _ => rfl
 have r3 : ∀ m x, L109v2 100 n f i a b c (m + 1) x 3 k0 = k0 x := fun _ _ => rfl
 rw [r0 99]
 simp only [r1 98, r2 97, r3 96]
 cases (a != 0) <;> cases (b != 0) <;> cases (c != 0) <;> rfl
theorem one_loop (n : Nat) (f : Nat → Nat → CV) (hn : n ≤ 32) (hB : ∀ j, j < n → Row 524288 f j) : ∀ (m i : Nat), n < m + i → 1 ≤ i → i ≤ n →
  ∃ z : Bool, L109v3 100 n f m (Int.ofNat i) (fun _ _ _ => some false) (some true) = some z ∧ L139v2 100 n f m (Int.ofNat i) (fun _ _ _ => some false) (some true) = some z := by
 intro m
 induction m with
 | zero => intro i h1 h2; omega
 | succ m ih =>
  intro i h1 h2 h3
  unfold L109v3 L139v2
  rw [lt_nat, w64_pred h2 (by omega), inb_nat, inb_nat, toNat_nat, toNat_nat]
  by_cases h : i < n
  ·obtain ⟨s1, s2⟩ := sub_law (hB i h) (hB (i - 1) (by omega))
   have hi : i - 1 < n := by omega
   rw [s1, s2, ob_some, ob_some, count109, decide_eq_true h, decide_eq_true hi, w64_succ (by omega)]
   obtain ⟨z, z1, z2⟩ := ih (i + 1) (by omega) (by omega) (by omega)
   simp only [z1, z2]
   cases (CV.int (f i 0) - CV.int (f (i - 1) 0) != 0) <;> cases (CV.int (f i 1) - CV.int (f (i - 1) 1) != 0) <;> cases (CV.int (f i 2) - CV.int (f (i - 1) 2) != 0) <;> exact ⟨_, rfl, rfl⟩
  ·rw [decide_eq_false h]
   exact ⟨_, rfl, rfl⟩
theorem route_law (n : Nat) (f : Nat → Nat → CV) (s : Int) : ∃ b, F109 100 n f s = some b ∧ F139 100 n f s = some b ∧ (b = true → n ≤ 32 ∧ 2 ≤ n) := by
 unfold F109 D109 F139 D139
 by_cases q1 : n < 2
 ·exact ⟨false, by rw [bif_f (by simp; omega)], by rw [bif_f (by simp; omega)], fun h => by cases h⟩
 have t1 : ((decide ((Int.ofNat n) < 2)) == false) = true := by simp; omega
 by_cases q2 : n > 32
 ·exact ⟨false, by rw [bif_t t1, bif_f (by simp; omega)], by rw [bif_t t1, bif_f (by simp; omega)], fun h => by cases h⟩
 have t2 : ((decide ((Int.ofNat n) > 32)) == false) = true := by simp; omega
 rw [bif_t t1, bif_t t1, bif_t t2, bif_t t2]
 unfold F104 D104 F103 D103
 obtain ⟨z, z1, z2⟩ := far103 n f (by omega) 100 0 (by omega) (by omega)
 have z1' : L103v1 100 n f (Int.ofNat n) 100 0 (fun x => some x) (some (-1)) = some z := z1
 obtain ⟨e1, e2⟩ := near139 n f (by omega) (some false) (L139v2 100 n f 100 1 (fun x22 x23 x24 => (some false)) (some true)) 100 0 (by omega) (by omega)
 rw [z1', ob_some, ob_some]
 by_cases q3 : s < 1
 ·refine ⟨false, ?_, by rw [bif_f (by simp [q3])], fun h => by cases h⟩
  by_cases q : z ≥ 0
  ·rw [bif_f (by simp [q])]
  ·rw [bif_t (by simp; omega), bif_f (by simp [q3])]
 have t3 : ((decide (s < 1)) == false) = true := by simp; omega
 rw [bif_t t3, bif_t t3]
 by_cases q4 : s > 10000
 ·refine ⟨false, ?_, by rw [bif_t (by simp [q4])], fun h => by cases h⟩
  by_cases q : z ≥ 0
  ·rw [bif_f (by simp [q])]
  ·rw [bif_t (by simp; omega), bif_t (by simp [q4])]
 have t4 : (decide (s > 10000)) = false := by simp; omega
 rw [bif_f t4, bif_f t4]
 by_cases hB : ∀ j, 0 ≤ j → j < n → Row 524288 f j
 ·have hz : ¬ z ≥ 0 := fun h => z2.1 h hB
  rw [bif_t (by simp; omega)]
  obtain ⟨y, y1, y2⟩ := one_loop n f (by omega) (fun j h => hB j (Nat.zero_le j) h) 100 1 (by omega) (by omega) (by omega)
  exact ⟨y, y1, (e1 hB).trans y2, fun _ => by omega⟩
 ·have hz : z ≥ 0 := z2.2 hB
  rw [bif_f (by simp [hz])]
  exact ⟨false, rfl, e2 hB, fun h => by cases h⟩
theorem target_law (g : Nat → CV) : ∃ b, F113 100 g = some b ∧ F135 100 g = some b ∧ (b = true → Rp (CV.int (g 14)) (CV.int (g 15)) (CV.int (g 16)) (CV.int (g 17))) := by
 unfold F113 D113 F135 D135
 by_cases q1 : ((CV.int (g 2)) == 1) = true
 case neg => exact ⟨false, by rw [bif_f (by simpa using q1)], by rw [bif_f (by simpa using q1)], fun h => by cases h⟩
 rw [q1, rp111, rp133, ob_some, ob_some]
 by_cases q2 : Rp (CV.int (g 14)) (CV.int (g 15)) (CV.int (g 16)) (CV.int (g 17))
 case neg => exact ⟨false, by rw [decide_eq_false q2]; rfl, by rw [decide_eq_false q2]; rfl, fun h => by cases h⟩
 rw [decide_eq_true q2]
 generalize listF (pj kR0 g) = h
 obtain ⟨c, c1, c2, _⟩ := shape_law (CV.len (h 6)) 0 (CV.el (h 6)) (fun _ _ => .any)
 refine ⟨(c == 0), ?_, ?_, fun _ => q2⟩
 ·show ob (F13 100 (CV.len (h 6)) (CV.el (h 6)) 0 (fun _ _ => .any)) (fun x4 => some (x4 == 0)) = some (c == 0)
  rw [c1, ob_some]
 ·show ob (F14 100 (CV.len (h 6)) (CV.el (h 6)) 0 (fun _ _ => .any)) (fun x4 => some (x4 == 0)) = some (c == 0)
  rw [c2, ob_some]
def Hit (out : Nat → Nat → CV) (x y : Int) (j : Nat) : Prop := CV.int (out j 1) = x ∧ CV.int (out j 2) = y
theorem contains119 (cnt : Nat) (out : Nat → Nat → CV) (S : ByteArray) (x y s : Int) (hn : cnt ≤ 40) (hI : ∀ j, j < cnt → ByteArray.toList (CV.str (out j 0)) = ByteArray.toList S ∧ CV.int (out j 3) = s) : ∀ (m i : Nat), cnt < m + i → i ≤ cnt →
  ∃ z, L119v1 100 cnt out (Int.ofNat cnt) S x y s m (Int.ofNat i) (fun x => some x) (some (-1)) = some z ∧ (z ≥ 0 ↔ ∃ j, i ≤ j ∧ j < cnt ∧ Hit out x y j) := by
 intro m
 induction m with
 | zero => intro i h1 h2; omega
 | succ m ih =>
  intro i h1 h2
  unfold L119v1
  rw [lt_nat, inb_nat, toNat_nat]
  by_cases h : i < cnt
  ·obtain ⟨i1, i2⟩ := hI i h
   rw [bif_t (by simpa using h), bif_t (by simpa using h), w64_succ (by omega), i1, i2]
   by_cases hb : Hit out x y i
   ·rw [bif_t (by simp [hb.1, hb.2])]
    exact ⟨_, rfl, fun _ => ⟨i, Nat.le_refl i, h, hb⟩, fun _ => by simp⟩
   ·rw [bif_f]
    ·obtain ⟨z, e, hz⟩ := ih (i + 1) (by omega) (by omega)
     refine ⟨z, e, hz.trans ⟨fun ⟨j, a, b, c⟩ => ⟨j, by omega, b, c⟩, fun ⟨j, a, b, c⟩ => ⟨j, ?_, b, c⟩⟩⟩
     by_cases e : j = i
     ·rw [e] at c; exact absurd c hb
     ·omega
    ·cases hx : (x == CV.int (out i 1)) with
     | false => simp
     | true =>
      cases hy : (y == CV.int (out i 2)) with
      | false => simp
      | true => exact absurd ⟨(eq_of_beq hx).symm, (eq_of_beq hy).symm⟩ hb
  ·rw [bif_f (by simpa using h)]
   exact ⟨_, rfl, fun h => by omega, fun ⟨j, a, b, _⟩ => by omega⟩
theorem known149 {ρ : Type} (n : Nat) (f : Nat → Nat → CV) (s i0 : Int) (g : Nat → CV) (a b c r : Int) (cnt : Nat) (out : Nat → Nat → CV) (x y z1 z2 z3 z4 : Int) (hn : cnt ≤ 40) (k0 : Bool → Option ρ) : ∀ (m i : Nat) (e : Bool), cnt < m + i → i ≤ cnt →
  ((e = true ∨ ∃ j, i ≤ j ∧ j < cnt ∧ Hit out x y j) → L149v2 100 n f s cnt i0 g a b c r out x y z1 z2 z3 z4 m e (Int.ofNat i) k0 = k0 true) ∧
  (¬ (e = true ∨ ∃ j, i ≤ j ∧ j < cnt ∧ Hit out x y j) → L149v2 100 n f s cnt i0 g a b c r out x y z1 z2 z3 z4 m e (Int.ofNat i) k0 = k0 false) := by
 intro m
 induction m with
 | zero => intro i e h1 h2; omega
 | succ m ih =>
  intro i e h1 h2
  unfold L149v2
  rw [lt_nat, inb_nat, toNat_nat]
  by_cases h : i < cnt
  ·rw [bif_t (by simpa using h), w64_succ (by omega)]
   cases e with
   | true =>
    rw [bif_f (by rfl)]
    exact ⟨fun _ => (ih (i + 1) true (by omega) (by omega)).1 (.inl rfl), fun H => absurd (.inl rfl) H⟩
   | false =>
    rw [bif_t (by rfl), bif_t (by simpa using h), Nat.zero_add]
    by_cases hb : Hit out x y i
    ·have e1 : (((CV.int (out i 1)) == x) && (((CV.int (out i 2)) == y) && true)) = true := by simp [hb.1, hb.2]
     rw [e1]
     exact ⟨fun _ => (ih (i + 1) true (by omega) (by omega)).1 (.inl rfl), fun H => absurd (.inr ⟨i, Nat.le_refl i, h, hb⟩) H⟩
    ·have e1 : (((CV.int (out i 1)) == x) && (((CV.int (out i 2)) == y) && true)) = false := by
      cases hx : (CV.int (out i 1) == x) with
      | false => simp
      | true =>
       cases hy : (CV.int (out i 2) == y) with
       | false => simp
       | true => exact absurd ⟨eq_of_beq hx, eq_of_beq hy⟩ hb
     rw [e1]
     obtain ⟨q1, q2⟩ := ih (i + 1) false (by omega) (by omega)
     have hst : (false = true ∨ ∃ j, i ≤ j ∧ j < cnt ∧ Hit out x y j) ↔ (false = true ∨ ∃ j, i + 1 ≤ j ∧ j < cnt ∧ Hit out x y j) := by
      refine or_congr Iff.rfl ⟨fun ⟨j, a, b, c⟩ => ⟨j, ?_, b, c⟩, fun ⟨j, a, b, c⟩ => ⟨j, by omega, b, c⟩⟩
      by_cases e : j = i
      ·rw [e] at c; exact absurd c hb
      ·omega
     exact ⟨fun H => q1 (hst.1 H), fun H => q2 (fun H2 => H (hst.2 H2))⟩
  ·rw [bif_f (by simpa using h)]
   cases e with
   | true => exact ⟨fun _ => rfl, fun H => absurd (.inl rfl) H⟩
   | false => exact ⟨fun H => by rcases H with H | ⟨j, a, b, _⟩; cases H; omega, fun _ => rfl⟩
def orow (S : ByteArray) (x y s : Int) : Nat → Nat → CV := rowsF 4 [(.s S), (.i .i64 x), (.i .i64 y), (.i .i64 s)]
theorem cross_step (g : Nat → CV) (n : Nat) (f : Nat → Nat → CV) (s a b c r : Int) (hr : 0 ≤ r ∧ r ≤ 23) (hn : n ≤ 32) (m i cnt : Nat) (out : Nat → Nat → CV) (h1 : 1 ≤ i) (h2 : i < n) (h3 : cnt < i)
  (hI : ∀ j, j < cnt → ByteArray.toList (CV.str (out j 0)) = ByteArray.toList (CV.str (g 0)) ∧ CV.int (out j 3) = s) (k KL KR : Nat → (Nat → Nat → CV) → Option (Bool × Nat × (Nat → Nat → CV)))
  (hL : ∀ C O, L121v1 100 s g n f a b c r m C (Int.ofNat (i + 1)) O k = KL C O) (hR : ∀ C O, L149v3 100 n f s g a b c r m C (Int.ofNat (i + 1)) O k = KR C O) :
  ∃ (add : Bool) (x y : Int),
   L121v1 100 s g n f a b c r (m + 1) cnt (Int.ofNat i) out k = (bif add then KL (cnt + 1) (joinF cnt out (orow (CV.str (g 0)) x y s)) else KL cnt out) ∧
   L149v3 100 n f s g a b c r (m + 1) cnt (Int.ofNat i) out k = (bif add then KR (cnt + 1) (joinF cnt out (orow (CV.str (g 0)) x y s)) else KR cnt out) := by
 obtain ⟨p, p1, p2⟩ := apply_law a b c r (CV.int (f (i - 1) 0)) (CV.int (f (i - 1) 1)) (CV.int (f (i - 1) 2)) hr
 obtain ⟨q, q1, q2⟩ := apply_law a b c r (CV.int (f i 0)) (CV.int (f i 1)) (CV.int (f i 2)) hr
 have hi : i - 1 < n := by omega
 have e118 : ∀ j, j < n → F118 100 (Int.ofNat j) (listF [(.i .i64 a), (.i .i64 b), (.i .i64 c), (.i .i64 r)]) (listF [(.ro false (.pr (.int .i64) (.pr (.int .i64) (.pr (.int .i64) .nil))) n f)]) = ob (F117 100 a b c r (CV.int (f j 0)) (CV.int (f j 1)) (CV.int (f j 2))) fun x5 => some (x5.1, x5.2.1, x5.2.2) := by
  intro j hj
  have e : F118 100 (Int.ofNat j) (listF [(.i .i64 a), (.i .i64 b), (.i .i64 c), (.i .i64 r)]) (listF [(.ro false (.pr (.int .i64) (.pr (.int .i64) (.pr (.int .i64) .nil))) n f)]) = bif (inb (Int.ofNat j) n) then (ob (F117 100 a b c r (CV.int (f j 0)) (CV.int (f j 1)) (CV.int (f j 2))) fun x5 => some (x5.1, x5.2.1, x5.2.2)) else none := rfl
  rw [e, inb_nat, decide_eq_true hj]; rfl
 unfold L121v1 L149v3
 rw [lt_nat, w64_pred h1 (by omega), inb_nat, inb_nat, toNat_nat, toNat_nat, decide_eq_true h2, decide_eq_true hi, e118 _ hi, e118 _ h2, p1, p2, q1, q2, w64_succ (by omega)]
 simp only [ob_some, cond_true, hL, hR]
 cases hc1 : (p.1 != q.1) with
 | true => exact ⟨false, 0, 0, rfl, rfl⟩
 | false =>
 cases hc2 : (p.2.1 != q.2.1) with
 | true => exact ⟨false, 0, 0, rfl, rfl⟩
 | false =>
 cases hc3 : (decide ((if q.2.2 < p.2.2 then q.2.2 else p.2.2) > 0)) with
 | true => exact ⟨false, 0, 0, rfl, rfl⟩
 | false =>
 cases hc4 : (decide ((if q.2.2 > p.2.2 then q.2.2 else p.2.2) < 0)) with
 | true => exact ⟨false, 0, 0, rfl, rfl⟩
 | false =>
 generalize hG : listF (pj kR0 g) = G
 obtain ⟨z, z1, z2⟩ := place_law (CV.len (G 6)) (CV.el (G 6)) 0 (fun _ _ => .any) p.1 p.2.1
 have w1 : (ob (F112 100 G) fun x37 => (ob (F22 100 x37.1 x37.2.1 x37.2.2.1 x37.2.2.2 p.1 p.2.1) fun x38 => (bif ((decide (x38 ≥ 0)) == true) then (ob (F120 100 cnt out (CV.str (g 0)) p.1 p.2.1 s) fun x39 => (bif (!x39) then (bif (Nat.ble (cnt + 1) 1073741824) then (KL (cnt + 1) (joinF cnt out (rowsF 4 [(.s (CV.str (g 0))), (.i .i64 p.1), (.i .i64 p.2.1), (.i .i64 s)]))) else none) else (KL cnt out))) else (KL cnt out)))) =
   (bif ((decide (z ≥ 0)) == true) then (ob (F120 100 cnt out (CV.str (g 0)) p.1 p.2.1 s) fun x39 => (bif (!x39) then (bif (Nat.ble (cnt + 1) 1073741824) then (KL (cnt + 1) (joinF cnt out (rowsF 4 [(.s (CV.str (g 0))), (.i .i64 p.1), (.i .i64 p.2.1), (.i .i64 s)]))) else none) else (KL cnt out))) else (KL cnt out)) := by
  have e : F112 100 G = some (CV.len (G 6), CV.el (G 6), 0, (fun _ _ => .any)) := rfl
  rw [e, ob_some]
  simp only [z1, ob_some]
 have e134 : F134 100 G = some (CV.len (G 6), CV.el (G 6), 0, (fun _ _ => .any)) := rfl
 have w1' := w1
 simp only [cond_true, cond_false, beq_self_eq_true, Bool.false_eq_true, Bool.true_eq_false] at w1' ⊢
 rw [w1, e134]
 simp only [ob_some, z2]
 have hcn : cnt ≤ 40 := by omega
 have hble : Nat.ble (cnt + 1) 1073741824 = true := by rw [Nat.ble_eq]; omega
 by_cases hz : z < 0
 ·rw [decide_eq_false (by omega), decide_eq_true hz]
  exact ⟨false, 0, 0, rfl, rfl⟩
 ·rw [decide_eq_true (by omega), decide_eq_false hz, hble]
  obtain ⟨y, y1, y2⟩ := contains119 cnt out (CV.str (g 0)) p.1 p.2.1 s hcn hI 100 0 (by omega) (by omega)
  have e120 : F120 100 cnt out (CV.str (g 0)) p.1 p.2.1 s = some (decide (y ≥ 0)) := by
   unfold F120 D120 F119 D119
   have y1' : L119v1 100 cnt out (Int.ofNat cnt) (CV.str (g 0)) p.1 p.2.1 s 100 0 (fun x => some x) (some (-1)) = some y := y1
   rw [y1', ob_some]
  rw [e120, ob_some]
  simp only [cond_true, cond_false]
  obtain ⟨u1, u2⟩ := known149 n f s (Int.ofNat i) g a b c r cnt out p.1 p.2.1 p.2.2 q.1 q.2.1 q.2.2 hcn (fun x90 => (bif (!x90) then (KR (cnt + 1) (joinF cnt out (rowsF 4 [(.s (CV.str (g 0))), (.i .i64 p.1), (.i .i64 p.2.1), (.i .i64 s)]))) else (KR cnt out))) 100 0 false (by omega) (by omega)
  by_cases hy : y ≥ 0
  ·refine ⟨false, 0, 0, ?_, ?_⟩
   ·rw [decide_eq_true hy]; rfl
   ·exact (u1 (.inr (y2.1 hy))).trans rfl
  ·refine ⟨true, p.1, p.2.1, ?_, ?_⟩
   ·rw [decide_eq_false hy]; rfl
   ·exact (u2 (by rintro (h | h); cases h; exact hy (y2.2 h))).trans rfl
theorem cross_loop (g : Nat → CV) (n : Nat) (f : Nat → Nat → CV) (s a b c r : Int) (hr : 0 ≤ r ∧ r ≤ 23) (hn : n ≤ 32) : ∀ (m i cnt : Nat) (out : Nat → Nat → CV), n < m + i → 1 ≤ i → i ≤ n → cnt < i →
  (∀ j, j < cnt → ByteArray.toList (CV.str (out j 0)) = ByteArray.toList (CV.str (g 0)) ∧ CV.int (out j 3) = s) →
  ∃ N O, L121v1 100 s g n f a b c r m cnt (Int.ofNat i) out (fun x y => some (false, x, y)) = some (false, N, O) ∧ L149v3 100 n f s g a b c r m cnt (Int.ofNat i) out (fun x y => some (false, x, y)) = some (false, N, O) ∧ N ≤ 32 := by
 intro m
 induction m with
 | zero => intro i cnt out h1 h2; omega
 | succ m ih =>
  intro i cnt out h1 h2 h3 h4 hI
  by_cases h : i < n
  ·obtain ⟨add, x, y, e1, e2⟩ := cross_step g n f s a b c r hr hn m i cnt out h2 h h4 hI (fun x y => some (false, x, y)) _ _ (fun _ _ => rfl) (fun _ _ => rfl)
   rw [e1, e2]
   cases add with
   | false => exact ih (i + 1) cnt out (by omega) (by omega) (by omega) (by omega) hI
   | true =>
    refine ih (i + 1) (cnt + 1) (joinF cnt out (orow (CV.str (g 0)) x y s)) (by omega) (by omega) (by omega) (by omega) ?_
    intro j hj
    unfold joinF
    by_cases e : j < cnt
    ·have e' : Nat.blt j cnt = true := by rw [Nat.blt_eq]; exact e
     simp only [e', cond_true]
     exact hI j e
    ·have e' : Nat.blt j cnt = false := by rw [← Bool.not_eq_true, Nat.blt_eq]; exact e
     have e2 : j - cnt = 0 := by omega
     simp only [e', cond_false, e2]
     exact ⟨rfl, rfl⟩
  ·unfold L121v1 L149v3
   rw [lt_nat, decide_eq_false h]
   exact ⟨cnt, out, rfl, rfl, by omega⟩
theorem cross_run (g : Nat → CV) (n : Nat) (f : Nat → Nat → CV) (s a b c r : Int) (hr : 0 ≤ r ∧ r ≤ 23) (hn : n ≤ 32) (h2 : 2 ≤ n) : ∃ N O, L121v1 100 s g n f a b c r 100 0 1 (fun _ _ => .any) (fun x42 x43 => some (false, x42, x43)) = some (false, N, O) ∧ L149v3 100 n f s g a b c r 100 0 1 (fun _ _ => .any) (fun x42 x43 => some (false, x42, x43)) = some (false, N, O) ∧ N ≤ 32 := 
  cross_loop g n f s a b c r hr hn 100 1 0 (fun _ _ => .any) (by omega) (by omega) (by omega) (by omega) (fun j h => absurd h (by omega))
theorem rp_of (g : Nat → CV) (h : Rp (CV.int (listF (pj kR0 g) 14)) (CV.int (listF (pj kR0 g) 15)) (CV.int (listF (pj kR0 g) 16)) (CV.int (listF (pj kR0 g) 17))) : Rp (CV.int (g 14)) (CV.int (g 15)) (CV.int (g 16)) (CV.int (g 17)) := by
  have e14 : CV.int (listF (pj kR0 g) 14) = CV.int (g 14) := rfl
  have e15 : CV.int (listF (pj kR0 g) 15) = CV.int (g 15) := rfl
  have e16 : CV.int (listF (pj kR0 g) 16) = CV.int (g 16) := rfl
  have e17 : CV.int (listF (pj kR0 g) 17) = CV.int (g 17) := rfl
  rw [e14, e15, e16, e17] at h
  exact h
theorem cross121 (g : Nat → CV) (n : Nat) (f : Nat → Nat → CV) (s : Int) (r1 : F109 100 n f s = some true) (t1 : F113 100 (listF (pj kR0 g)) = some true) {a b c r : Int} (i1 : F116 100 (CV.int (g 14)) (CV.int (g 15)) (CV.int (g 16)) (CV.int (g 17)) = some (a, b, c, r)) {N : Nat} {O : FF}
 (l1 : L121v1 100 s g n f a b c r 100 0 1 (fun _ _ => .any) (fun x42 x43 => some (false, x42, x43)) = some (false, N, O)) : F121 100 g n f s = some (N, O) := by
 unfold F121 FT121 D121
 rw [r1, ob_some, bif_t (by rfl), t1, ob_some, bif_f (by rfl), i1, ob_some]
 dsimp only
 rw [l1, ob_some]
 rfl
theorem cross149 (g : Nat → CV) (n : Nat) (f : Nat → Nat → CV) (s : Int) (r1 : F139 100 n f s = some true) (t1 : F135 100 (listF (pj kR0 g)) = some true) {a b c r : Int} (i1 : F146 100 (CV.int (g 14)) (CV.int (g 15)) (CV.int (g 16)) (CV.int (g 17)) = some (a, b, c, r)) {N : Nat} {O : FF}
 (l1 : L149v3 100 n f s g a b c r 100 0 1 (fun _ _ => .any) (fun x42 x43 => some (false, x42, x43)) = some (false, N, O)) : F149 100 g n f s = some (N, O) := by
 unfold F149 FT149 D149
 rw [t1, ob_some, bif_t (by rfl), r1, ob_some, bif_f (by rfl), i1, ob_some]
 dsimp only
 rw [l1, ob_some]
 rfl
theorem cross_no (g : Nat → CV) (n : Nat) (f : Nat → Nat → CV) (s : Int) (b1 b2 : Bool) (h : b1 = false ∨ b2 = false) (r1 : F109 100 n f s = some b1) (r2 : F139 100 n f s = some b1) (t1 : F113 100 (listF (pj kR0 g)) = some b2) (t2 : F135 100 (listF (pj kR0 g)) = some b2) :
  F121 100 g n f s = some (0, (fun _ _ => .any)) ∧ F149 100 g n f s = some (0, (fun _ _ => .any)) := by
 constructor
 ·unfold F121 FT121 D121
  rw [r1, ob_some]
  cases b1 with
  | false => rw [bif_f (by rfl), ob_some]; rfl
  | true =>
   cases b2 with
   | false => rw [bif_t (by rfl), t1, ob_some, bif_t (by rfl), ob_some]; rfl
   | true => rcases h with h | h <;> cases h
 ·unfold F149 FT149 D149
  rw [t2, ob_some]
  cases b2 with
  | false => rw [bif_f (by rfl), ob_some]; rfl
  | true =>
   cases b1 with
   | false => rw [bif_t (by rfl), r2, ob_some, bif_t (by rfl), ob_some]; rfl
   | true => rcases h with h | h <;> cases h
theorem cross_law (g : Nat → CV) (n : Nat) (f : Nat → Nat → CV) (s : Int) : ∃ N O, F121 100 g n f s = some (N, O) ∧ F149 100 g n f s = some (N, O) ∧ N ≤ 32 := by
 obtain ⟨b1, r1, r2, r3⟩ := route_law n f s
 obtain ⟨b2, t1, t2, t3⟩ := target_law (listF (pj kR0 g))
 by_cases h : b1 = false ∨ b2 = false
 ·obtain ⟨e1, e2⟩ := cross_no g n f s b1 b2 h r1 r2 t1 t2
  exact ⟨0, _, e1, e2, by omega⟩
 ·have h1 : b1 = true := by cases b1 with | true => rfl | false => exact absurd (.inl rfl) h
  have h2 : b2 = true := by cases b2 with | true => rfl | false => exact absurd (.inr rfl) h
  subst h1; subst h2
  obtain ⟨a, b, c, r, i1, i2, i3, i4, _⟩ := inverse_law (CV.int (g 14)) (CV.int (g 15)) (CV.int (g 16)) (CV.int (g 17)) (rp_of g (t3 rfl))
  obtain ⟨N, O, l1, l2, l3⟩ := cross_run g n f s a b c r ⟨i3, i4⟩ (r3 rfl).1 (r3 rfl).2
  exact ⟨N, O, cross121 g n f s r1 t1 i1 l1, cross149 g n f s r2 t2 i2 l2, l3⟩
end Go.Eng.R13
/-
 PenetrationLists: the plain law. (Printed with SPLIT=131 ROWB=1; the root runs with more fuel.)
-/
set_option linter.all false
namespace Go.Eng.R13
open Go Go.RowKit Go.Eng Geo
def prt (f : Nat → Nat → CV) (j : Nat) : Nat → CV := listF (pj kR0 (f j))
def AllLight (n : Nat) (f : Nat → Nat → CV) : Prop := ∀ j, j < n → F100 100 (prt f j) = some true
theorem light163 (s : ByteArray) (a : Nat) (b : FF) (n : Nat) (f : Nat → Nat → CV) (c : Nat) (d : FF) (e : Nat) (g : FF) (h : Nat) (i : FF) :
  F163 100 s a b n f c d e g h i = some false ∨ (F163 100 s a b n f c d e g h i = some true ∧ n ≤ 60 ∧ AllLight n f) := by
 have K : ∀ m j, 80 < m + j → j ≤ 80 → ∀ k1 : Option Bool,
   L163v1 100 s a b n f c d e g h i m (Int.ofNat j) (some false) k1 = some false ∨ (L163v1 100 s a b n f c d e g h i m (Int.ofNat j) (some false) k1 = k1 ∧ ∀ t, j ≤ t → t < n → t < 80 → F100 100 (prt f t) = some true) := by
  intro m
  induction m with
  | zero => intro j h1 h2; omega
  | succ m ih =>
   intro j h1 h2 k1
   unfold L163v1
   rw [lt_nat, inb_nat, toNat_nat]
   by_cases hj : j < n
   ·rw [decide_eq_true hj, bif_t (by rfl)]
    by_cases h80 : j < 80
    ·rw [bif_t (decide_eq_true (by simp; omega)), bif_t (by rfl), w64_succ (by omega)]
     rcases light_law (prt f j) with q | ⟨q, _⟩
     ·have q' : F100 100 (listF (pj kR0 (f j))) = some false := q
      rw [q', ob_some, bif_t (by rfl)]; exact .inl rfl
     ·have q' : F100 100 (listF (pj kR0 (f j))) = some true := q
      rw [q', ob_some, bif_f (by rfl)]
      rcases ih (j + 1) (by omega) (by omega) k1 with r | ⟨r, r2⟩
      ·exact .inl r
      ·refine .inr ⟨r, fun t t1 t2 t3 => ?_⟩
       by_cases e : t = j
       ·rw [e]; exact q
       ·exact r2 t (by omega) t2 t3
    ·rw [bif_f (decide_eq_false (by simp; omega))]
     exact .inr ⟨rfl, fun t t1 t2 t3 => by omega⟩
   ·rw [decide_eq_false hj, bif_f (by rfl)]
    exact .inr ⟨rfl, fun t t1 t2 t3 => by omega⟩
 unfold F163 D163
 by_cases h60 : n ≤ 60
 ·rw [decide_eq_true (show (Int.ofNat n) ≤ 60 by simp; omega)]
  rcases K 100 0 (by omega) (by omega) (some true) with r | ⟨r, r2⟩
  ·exact .inl r
  ·exact .inr ⟨r, h60, fun j hj => r2 j (by omega) hj (by omega)⟩
 ·rw [decide_eq_false (show ¬ (Int.ofNat n) ≤ 60 by simp; omega)]
  rcases K 100 0 (by omega) (by omega) (some false) with r | ⟨r, r2⟩
  ·exact .inl r
  ·exact .inl r
theorem needed_loop (n : Nat) (f : Nat → Nat → CV) (N1 : Nat) (P1 : Nat → Nat → CV) (s : Int) (hn : n ≤ 60) (a0 : ByteArray) (a1 : Nat) (a2 : FF) (a3 : Nat) (a4 : FF) (a5 : Nat) (a6 : FF) (a7 : Nat) (a8 : FF) : ∀ (m i cnt : Nat) (out : FF), n < m + i → i ≤ n → cnt ≤ 32 * i →
  ∃ N O, L122v1 100 N1 P1 s n f (Int.ofNat n) a0 a1 a2 a3 a4 a5 a6 a7 a8 m cnt (Int.ofNat i) out (fun x y => some (x, y)) = some (N, O) ∧
   L164v1 100 N1 P1 s a0 a1 a2 n f a3 a4 a5 a6 a7 a8 m cnt (Int.ofNat i) out (fun x y => some (x, y)) = some (N, O) ∧ N ≤ 32 * n := by
 intro m
 induction m with
 | zero => intro i cnt out h1 h2; omega
 | succ m ih =>
  intro i cnt out h1 h2 h3
  unfold L122v1 L164v1
  rw [lt_nat, inb_nat, toNat_nat]
  by_cases h : i < n
  ·obtain ⟨N, O, e1, e2, e3⟩ := cross_law (listF (pj kR0 (f i))) N1 P1 s
   have hble : Nat.ble (cnt + N) 1073741824 = true := by rw [Nat.ble_eq]; omega
   rw [decide_eq_true h, bif_t (by rfl), bif_t (by rfl), bif_t (by rfl), bif_t (by rfl), e1, e2, ob_some, ob_some, w64_succ (by omega), bif_t hble, bif_t hble]
   exact ih (i + 1) (cnt + N) _ (by omega) (by omega) (by omega)
  ·rw [decide_eq_false h, bif_f (by rfl), bif_f (by rfl)]
   exact ⟨cnt, out, rfl, rfl, by omega⟩
theorem cov_same (G : Nat → CV) (hL : F100 100 G = some true) (S : ByteArray) (x y s : Int) : ∃ b, F129 100 G S x y s = some b ∧ F155 100 G S x y s = some b := by
 rcases light_law G with q | ⟨_, _, q2, q3⟩
 ·rw [hL] at q; cases q
 ·obtain ⟨c1, c2⟩ := covered129 G S x y s (by omega) q3
  obtain ⟨d1, d2⟩ := covered155 G S x y s (by omega) q3
  by_cases hc : CovO (CV.str (G 0)) (CV.len (G 7)) (CV.el (G 7)) S x y s
  ·exact ⟨true, c1 hc, d1 hc⟩
  ·exact ⟨false, c2 hc, d2 hc⟩
theorem missing_in {ρ σ : Type} (n i : Nat) (f : Nat → Nat → CV) (hi : i < n) (hL : F100 100 (prt f i) = some true) (N : Nat) (U : FF) (hN : N ≤ 32)
  (a1 : Nat) (a2 : FF) (a3 : Int) (a4 : Nat) (a5 : FF) (a6 a7 : Int) (a9 : ByteArray) (a10 : Nat) (a11 : FF) (a12 : Nat) (a13 : FF) (a14 : Nat) (a15 : FF) (a16 : Nat) (a17 : FF)
  (b1 : Nat) (b2 : FF) (b3 : Int) (b5 : ByteArray) (b6 : Nat) (b7 : FF) (b8 : Nat) (b9 : FF) (b10 : Nat) (b11 : FF) (b12 : Nat) (b13 : FF)
  (k0 : Nat → FF → Option ρ) (k1 : Nat → FF → Option σ) : ∀ (m j cnt : Nat) (out : FF), N < m + j → j ≤ N → cnt + (N - j) ≤ 100000 →
  ∃ C O, L130v2 100 a1 a2 a3 a4 a5 a6 a7 N U (Int.ofNat N) a9 a10 a11 a12 a13 a14 a15 a16 a17 (CV.str (f i 0)) (CV.int (f i 1)) (CV.int (f i 2)) (CV.str (f i 3)) (CV.str (f i 4)) (CV.int (f i 5)) (CV.len (f i 6)) (CV.el (f i 6)) (CV.len (f i 7)) (CV.el (f i 7)) (CV.str (f i 8)) (CV.int (f i 9)) (CV.int (f i 10)) (CV.int (f i 11)) (CV.int (f i 12)) (CV.int (f i 13)) (CV.int (f i 14)) (CV.int (f i 15)) (CV.int (f i 16)) (CV.int (f i 17)) m cnt (Int.ofNat j) out k0 = k0 C O ∧
   L165v2 100 b1 b2 b3 (Int.ofNat i) N U b5 b6 b7 n f b8 b9 b10 b11 b12 b13 m cnt (Int.ofNat j) out k1 = k1 C O ∧ C ≤ cnt + (N - j) := by
 have hg : (listF [(.s (CV.str (f i 0))), (.i .i64 (CV.int (f i 1))), (.i .i64 (CV.int (f i 2))), (.s (CV.str (f i 3))), (.s (CV.str (f i 4))), (.i .i64 (CV.int (f i 5))), (.ro false (.pr (.int .i64) (.pr (.int .i64) .nil)) (CV.len (f i 6)) (CV.el (f i 6))), (.ro false (.pr (.sl (.pr (.int .i64) (.pr (.int .i64) .nil))) .nil) (CV.len (f i 7)) (CV.el (f i 7))), (.s (CV.str (f i 8))), (.i .i64 (CV.int (f i 9))), (.i .i64 (CV.int (f i 10))), (.i .i64 (CV.int (f i 11))), (.i .i64 (CV.int (f i 12))), (.i .i64 (CV.int (f i 13))), (.i .i64 (CV.int (f i 14))), (.i .i64 (CV.int (f i 15))), (.i .i64 (CV.int (f i 16))), (.i .i64 (CV.int (f i 17)))]) = prt f i := rfl
 have hg2 : listF (pj kR0 (f i)) = prt f i := rfl
 intro m
 induction m with
 | zero => intro j cnt out h1 h2; omega
 | succ m ih =>
  intro j cnt out h1 h2 h3
  unfold L130v2 L165v2
  rw [lt_nat, inb_nat, inb_nat, toNat_nat, toNat_nat, hg, hg2]
  by_cases h : j < N
  ·obtain ⟨b, c1, c2⟩ := cov_same (prt f i) hL (CV.str (U j 0)) (CV.int (U j 1)) (CV.int (U j 2)) (CV.int (U j 3))
   have hble : Nat.ble (cnt + 1) 1073741824 = true := by rw [Nat.ble_eq]; omega
   rw [decide_eq_true h, decide_eq_true hi, c1, c2, w64_succ (by omega), hble]
   simp only [ob_some, cond_true]
   cases b with
   | true =>
    simp only [Bool.not_true, cond_false]
    obtain ⟨C, O, e1, e2, e3⟩ := ih (j + 1) cnt out (by omega) (by omega) (by omega)
    exact ⟨C, O, e1, e2, by omega⟩
   | false =>
    simp only [Bool.not_false, cond_true]
    obtain ⟨C, O, e1, e2, e3⟩ := ih (j + 1) (cnt + 1) _ (by omega) (by omega) (by omega)
    exact ⟨C, O, e1, e2, by omega⟩
  ·rw [decide_eq_false h, bif_f (by rfl), bif_f (by rfl)]
   exact ⟨cnt, out, rfl, rfl, by omega⟩
theorem missing_loop (n : Nat) (f : Nat → Nat → CV) (N1 : Nat) (P1 : Nat → Nat → CV) (s : Int) (hn : n ≤ 60) (hL : AllLight n f) (a0 : ByteArray) (a1 : Nat) (a2 : FF) (a3 : Nat) (a4 : FF) (a5 : Nat) (a6 : FF) (a7 : Nat) (a8 : FF) : ∀ (m i cnt : Nat) (out : FF), n < m + i → i ≤ n → cnt ≤ 32 * i →
  ∃ N O, L130v3 100 N1 P1 s n f (Int.ofNat n) a0 a1 a2 a3 a4 a5 a6 a7 a8 m cnt (Int.ofNat i) out (fun x y => some (x, y)) = some (N, O) ∧
   L165v3 100 N1 P1 s a0 a1 a2 n f a3 a4 a5 a6 a7 a8 m cnt (Int.ofNat i) out (fun x y => some (x, y)) = some (N, O) ∧ N ≤ 32 * n := by
 intro m
 induction m with
 | zero => intro i cnt out h1 h2; omega
 | succ m ih =>
  intro i cnt out h1 h2 h3
  unfold L130v3 L165v3
  rw [lt_nat, inb_nat, toNat_nat]
  by_cases h : i < n
  ·obtain ⟨N, U, e1, e2, e3⟩ := cross_law (listF (pj kR0 (f i))) N1 P1 s
   rw [decide_eq_true h, bif_t (by rfl), bif_t (by rfl), bif_t (by rfl), bif_t (by rfl), e1, e2, ob_some, ob_some, w64_succ (by omega)]
   obtain ⟨C, O, c1, c2, c3⟩ := missing_in n i f h (hL i h) N U e3 N1 P1 s n f (Int.ofNat n) (Int.ofNat i) a0 a1 a2 a3 a4 a5 a6 a7 a8 N1 P1 s a0 a1 a2 a3 a4 a5 a6 a7 a8
    (fun x222 x223 => (L130v3 100 N1 P1 s n f (Int.ofNat n) a0 a1 a2 a3 a4 a5 a6 a7 a8 m x222 (Int.ofNat (i + 1)) x223 (fun x y => some (x, y))))
    (fun x133 x134 => (L165v3 100 N1 P1 s a0 a1 a2 n f a3 a4 a5 a6 a7 a8 m x133 (Int.ofNat (i + 1)) x134 (fun x y => some (x, y)))) 100 0 cnt out (by omega) (by omega) (by omega)
   obtain ⟨N2, O2, d1, d2, d3⟩ := ih (i + 1) C O (by omega) (by omega) (by omega)
   exact ⟨N2, O2, c1.trans d1, c2.trans d2, d3⟩
  ·rw [decide_eq_false h, bif_f (by rfl), bif_f (by rfl)]
   exact ⟨cnt, out, rfl, rfl, by omega⟩
theorem same2000 (N : Nat) (O : Nat → Nat → CV) (hN : N ≤ 1920) : F131 2000 N O N O = some true := by
 have H : ∀ m i, N < m + i → i ≤ N → L131v1 2000 N O N O m (Int.ofNat i) (some false) (some true) = some true := by
  intro m
  induction m with
  | zero => intro i h1 h2; omega
  | succ m ih =>
   intro i h1 h2
   unfold L131v1
   rw [lt_nat, inb_nat, toNat_nat]
   by_cases h : i < N
   ·rw [decide_eq_true h, w64_succ (by omega)]
    simp only [beq_self_eq_true, Bool.true_and, Bool.not_true, cond_true, cond_false]
    exact ih (i + 1) (by omega) (by omega)
   ·rw [decide_eq_false h]; rfl
 unfold F131 D131
 rw [bif_f (by simp)]
 exact H 2000 0 (by omega) (by omega)
theorem lists46 (s0c0 : ByteArray) (n0c1 : Nat) (f0c1 : Nat → Nat → CV) (n0c2 : Nat) (f0c2 : Nat → Nat → CV) (n0c3 : Nat) (f0c3 : Nat → Nat → CV) (n0c4 : Nat) (f0c4 : Nat → Nat → CV) (n0c5 : Nat) (f0c5 : Nat → Nat → CV) (h0c1 : SlIn (.pr .str (.pr (.int .i64) (.pr .str .nil))) n0c1 f0c1) (h0c2 : SlIn (.pr .str (.pr (.int .i64) (.pr (.int .i64) (.pr .str (.pr .str (.pr (.int .i64) (.pr (.sl (.pr (.int .i64) (.pr (.int .i64) .nil))) (.pr (.sl (.pr (.sl (.pr (.int .i64) (.pr (.int .i64) .nil))) .nil)) (.pr .str (.pr (.int .i64) (.pr (.int .i64) (.pr (.int .i64) (.pr (.int .i64) (.pr (.int .i64) (.pr (.int .i64) (.pr (.int .i64) (.pr (.int .i64) (.pr (.int .i64) .nil)))))))))))))))))) n0c2 f0c2) (h0c3 : SlIn (.pr .str (.pr .str (.pr .str (.pr (.int .i64) (.pr (.int .i64) (.pr (.int .i64) .nil)))))) n0c3 f0c3) (h0c4 : SlIn (.pr .str (.pr .str (.pr (.sl (.pr .str .nil)) (.pr (.int .i64) (.pr (.sl (.pr .str .nil)) .nil))))) n0c4 f0c4) (h0c5 : SlIn (.pr (.int .i64) (.pr .str (.pr .str .nil))) n0c5 f0c5) (n1c0 : Nat) (f1c0 : Nat → Nat → CV) (h1c0 : SlIn (.pr (.int .i64) (.pr (.int .i64) (.pr (.int .i64) .nil))) n1c0 f1c0) (a2c0 : Int) (h2c0 : I64 a2c0) : F166 2000 s0c0 n0c1 f0c1 n0c2 f0c2 n0c3 f0c3 n0c4 f0c4 n0c5 f0c5 n1c0 f1c0 a2c0 = some true := by
 unfold F166 D166
 rcases light163 s0c0 n0c1 f0c1 n0c2 f0c2 n0c3 f0c3 n0c4 f0c4 n0c5 f0c5 with h | ⟨h, hn, hL⟩
 ·rw [h, ob_some, bif_f (by rfl), awake_law, ob_some]
 rw [h, ob_some, bif_t (by rfl)]
 by_cases h40 : n1c0 > 40
 ·rw [bif_t (by simp; omega), awake_law, ob_some]
 rw [bif_f (by simp; omega)]
 obtain ⟨N, O, e1, e2, e3⟩ := needed_loop n0c2 f0c2 n1c0 f1c0 a2c0 hn s0c0 n0c1 f0c1 n0c3 f0c3 n0c4 f0c4 n0c5 f0c5 100 0 0 (fun _ _ => .any) (by omega) (by omega) (by omega)
 obtain ⟨N2, O2, d1, d2, d3⟩ := missing_loop n0c2 f0c2 n1c0 f1c0 a2c0 hn hL s0c0 n0c1 f0c1 n0c3 f0c3 n0c4 f0c4 n0c5 f0c5 100 0 0 (fun _ _ => .any) (by omega) (by omega) (by omega)
 have f1 : F122 100 s0c0 n0c1 f0c1 n0c2 f0c2 n0c3 f0c3 n0c4 f0c4 n0c5 f0c5 n1c0 f1c0 a2c0 = some (N, O) := by unfold F122 D122; exact e1
 have f2 : F164 100 s0c0 n0c1 f0c1 n0c2 f0c2 n0c3 f0c3 n0c4 f0c4 n0c5 f0c5 n1c0 f1c0 a2c0 = some (N, O) := by unfold F164 D164; exact e2
 have f3 : F130 100 s0c0 n0c1 f0c1 n0c2 f0c2 n0c3 f0c3 n0c4 f0c4 n0c5 f0c5 n1c0 f1c0 a2c0 = some (N2, O2) := by unfold F130 D130; exact d1
 have f4 : F165 100 s0c0 n0c1 f0c1 n0c2 f0c2 n0c3 f0c3 n0c4 f0c4 n0c5 f0c5 n1c0 f1c0 a2c0 = some (N2, O2) := by unfold F165 D165; exact d2
 rw [f1, ob_some, f2, ob_some]
 have g1 := same2000 N O (by omega)
 have g2 := same2000 N2 O2 (by omega)
 dsimp only
 rw [g1, ob_some, bif_t (by rfl), f3, ob_some, f4, ob_some]
 dsimp only
 rw [g2, ob_some, bif_t (by rfl), awake_law, ob_some]
end Go.Eng.R13
