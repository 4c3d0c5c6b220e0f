/-
  Several texts in one.
-/
import Derived.Test.YtbjfmobjdipehaaDoorEngV
import Derived.Test.YtbjfmobjdipehaaDoorGeo6
import Derived.Test.YtbjfmobjdipehaaDoorPlRv
/-
  Squares, and edges that have a point inside of them: the program's and the reference's answers are alike.
-/
set_option linter.all false
namespace Go.Eng.R13
open Go Go.RowKit Go.Eng Geo
def wc (a1 a2 b1 b2 c1 c2 : Int) : Int := w64 (w64 (w64 (b1 - a1) * w64 (c2 - a2)) - w64 (w64 (b2 - a2) * w64 (c1 - a1)))
def cutB (l1 l2 h1 h2 a1 a2 b1 b2 : Int) : Bool :=
  !(decide ((if b1 > a1 then b1 else a1) ≤ l1)) && (!(decide ((if b1 < a1 then b1 else a1) ≥ h1)) && (!(decide ((if b2 > a2 then b2 else a2) ≤ l2)) && (!(decide ((if b2 < a2 then b2 else a2) ≥ h2)) &&
    ((((decide (wc a1 a2 b1 b2 l1 l2 > 0) || decide (wc a1 a2 b1 b2 h1 l2 > 0)) || decide (wc a1 a2 b1 b2 h1 h2 > 0)) || decide (wc a1 a2 b1 b2 l1 h2 > 0)) &&
     (((decide (wc a1 a2 b1 b2 l1 l2 < 0) || decide (wc a1 a2 b1 b2 h1 l2 < 0)) || decide (wc a1 a2 b1 b2 h1 h2 < 0)) || decide (wc a1 a2 b1 b2 l1 h2 < 0))))))
theorem or4 (p q r s : Bool) : ((((false || p) || q) || r) || s) = (((p || q) || r) || s) := by cases p <;> rfl
theorem l124 {ρ : Type} (x28 x29 x30 x31 x32 x33 x34 x35 x37 x38 x39 x40 a1 a2 b1 b2 : Int) (k0 : Bool → Bool → Option ρ) :
    L124v1 100 x28 x29 x30 x31 x32 x33 x34 x35 x37 x38 x39 x40 a1 a2 b1 b2 100 false false 0 k0 =
      k0 (((decide (wc a1 a2 b1 b2 x28 x29 > 0) || decide (wc a1 a2 b1 b2 x30 x31 > 0)) || decide (wc a1 a2 b1 b2 x32 x33 > 0)) || decide (wc a1 a2 b1 b2 x34 x35 > 0))
         (((decide (wc a1 a2 b1 b2 x28 x29 < 0) || decide (wc a1 a2 b1 b2 x30 x31 < 0)) || decide (wc a1 a2 b1 b2 x32 x33 < 0)) || decide (wc a1 a2 b1 b2 x34 x35 < 0)) := by
  have r0 : ∀ (m : Nat) (x y : Bool), L124v1 100 x28 x29 x30 x31 x32 x33 x34 x35 x37 x38 x39 x40 a1 a2 b1 b2 (m + 1) x y 0 k0 = L124v1 100 x28 x29 x30 x31 x32 x33 x34 x35 x37 x38 x39 x40 a1 a2 b1 b2 m (x || decide (wc a1 a2 b1 b2 x28 x29 > 0)) (y || decide (wc a1 a2 b1 b2 x28 x29 < 0)) 1 k0 := by
    intro m x y; cases x <;> cases y <;> rfl
  have r1 : ∀ (m : Nat) (x y : Bool), L124v1 100 x28 x29 x30 x31 x32 x33 x34 x35 x37 x38 x39 x40 a1 a2 b1 b2 (m + 1) x y 1 k0 = L124v1 100 x28 x29 x30 x31 x32 x33 x34 x35 x37 x38 x39 x40 a1 a2 b1 b2 m (x || decide (wc a1 a2 b1 b2 x30 x31 > 0)) (y || decide (wc a1 a2 b1 b2 x30 x31 < 0)) 2 k0 := by
    intro m x y; cases x <;> cases y <;> rfl
  have r2 : ∀ (m : Nat) (x y : Bool), L124v1 100 x28 x29 x30 x31 x32 x33 x34 x35 x37 x38 x39 x40 a1 a2 b1 b2 (m + 1) x y 2 k0 = L124v1 100 x28 x29 x30 x31 x32 x33 x34 x35 x37 x38 x39 x40 a1 a2 b1 b2 m (x || decide (wc a1 a2 b1 b2 x32 x33 > 0)) (y || decide (wc a1 a2 b1 b2 x32 x33 < 0)) 3 k0 := by
    intro m x y; cases x <;> cases y <;> rfl
  have r3 : ∀ (m : Nat) (x y : Bool), L124v1 100 x28 x29 x30 x31 x32 x33 x34 x35 x37 x38 x39 x40 a1 a2 b1 b2 (m + 1) x y 3 k0 = L124v1 100 x28 x29 x30 x31 x32 x33 x34 x35 x37 x38 x39 x40 a1 a2 b1 b2 m (x || decide (wc a1 a2 b1 b2 x34 x35 > 0)) (y || decide (wc a1 a2 b1 b2 x34 x35 < 0)) 4 k0 := by
    intro m x y; cases x <;> cases y <;> rfl
  have r4 : ∀ (m : Nat) (x y : Bool), L124v1 100 x28 x29 x30 x31 x32 x33 x34 x35 x37 x38 x39 x40 a1 a2 b1 b2 (m + 1) x y 4 k0 = k0 x y := by
    intro m x y; rfl
  rw [r0 99, r1 98, r2 97, r3 96, r4 95, or4, or4]
theorem cut124 (l1 l2 h1 h2 a1 a2 b1 b2 : Int) : F124 100 l1 l2 h1 h2 a1 a2 b1 b2 = some (cutB l1 l2 h1 h2 a1 a2 b1 b2) := by
  unfold F124 D124 F123 D123
  simp only [ob_some, l124]
  unfold cutB
  cases decide ((if b1 > a1 then b1 else a1) ≤ l1) <;> cases decide ((if b1 < a1 then b1 else a1) ≥ h1) <;> cases decide ((if b2 > a2 then b2 else a2) ≤ l2) <;> cases decide ((if b2 < a2 then b2 else a2) ≥ h2) <;> try rfl
  cases (((decide (wc a1 a2 b1 b2 l1 l2 > 0) || decide (wc a1 a2 b1 b2 h1 l2 > 0)) || decide (wc a1 a2 b1 b2 h1 h2 > 0)) || decide (wc a1 a2 b1 b2 l1 h2 > 0)) <;> rfl
theorem l153 {ρ : Type} (a1 a2 b1 b2 l1 l2 h1 h2 : Int) (k0 : Bool → Bool → Option ρ) :
    L153v1 100 a1 a2 b1 b2 l1 l2 h1 h2 (rowsF 2 [(.i .i64 l1), (.i .i64 l2), (.i .i64 h1), (.i .i64 l2), (.i .i64 h1), (.i .i64 h2), (.i .i64 l1), (.i .i64 h2)]) 100 false false 0 k0 =
      k0 (((decide (wc a1 a2 b1 b2 l1 l2 > 0) || decide (wc a1 a2 b1 b2 h1 l2 > 0)) || decide (wc a1 a2 b1 b2 h1 h2 > 0)) || decide (wc a1 a2 b1 b2 l1 h2 > 0))
         (((decide (wc a1 a2 b1 b2 l1 l2 < 0) || decide (wc a1 a2 b1 b2 h1 l2 < 0)) || decide (wc a1 a2 b1 b2 h1 h2 < 0)) || decide (wc a1 a2 b1 b2 l1 h2 < 0)) := by
  generalize hR : rowsF 2 [(.i .i64 l1), (.i .i64 l2), (.i .i64 h1), (.i .i64 l2), (.i .i64 h1), (.i .i64 h2), (.i .i64 l1), (.i .i64 h2)] = R
  have r0 : ∀ (m : Nat) (x y : Bool), L153v1 100 a1 a2 b1 b2 l1 l2 h1 h2 R (m + 1) x y 0 k0 = L153v1 100 a1 a2 b1 b2 l1 l2 h1 h2 R m (x || decide (wc a1 a2 b1 b2 l1 l2 > 0)) (y || decide (wc a1 a2 b1 b2 l1 l2 < 0)) 1 k0 := by
    subst hR; intro m x y; cases x <;> cases y <;> rfl
  have r1 : ∀ (m : Nat) (x y : Bool), L153v1 100 a1 a2 b1 b2 l1 l2 h1 h2 R (m + 1) x y 1 k0 = L153v1 100 a1 a2 b1 b2 l1 l2 h1 h2 R m (x || decide (wc a1 a2 b1 b2 h1 l2 > 0)) (y || decide (wc a1 a2 b1 b2 h1 l2 < 0)) 2 k0 := by
    subst hR; intro m x y; cases x <;> cases y <;> rfl
  have r2 : ∀ (m : Nat) (x y : Bool), L153v1 100 a1 a2 b1 b2 l1 l2 h1 h2 R (m + 1) x y 2 k0 = L153v1 100 a1 a2 b1 b2 l1 l2 h1 h2 R m (x || decide (wc a1 a2 b1 b2 h1 h2 > 0)) (y || decide (wc a1 a2 b1 b2 h1 h2 < 0)) 3 k0 := by
    subst hR; intro m x y; cases x <;> cases y <;> rfl
  have r3 : ∀ (m : Nat) (x y : Bool), L153v1 100 a1 a2 b1 b2 l1 l2 h1 h2 R (m + 1) x y 3 k0 = L153v1 100 a1 a2 b1 b2 l1 l2 h1 h2 R m (x || decide (wc a1 a2 b1 b2 l1 h2 > 0)) (y || decide (wc a1 a2 b1 b2 l1 h2 < 0)) 4 k0 := by
    subst hR; intro m x y; cases x <;> cases y <;> rfl
  have r4 : ∀ (m : Nat) (x y : Bool), L153v1 100 a1 a2 b1 b2 l1 l2 h1 h2 R (m + 1) x y 4 k0 = k0 x y := by
    intro m x y; rfl
  rw [r0 99, r1 98, r2 97, r3 96, r4 95, or4, or4]
theorem cut153 (l1 l2 h1 h2 a1 a2 b1 b2 : Int) : F153 100 a1 a2 b1 b2 l1 l2 h1 h2 = some (cutB l1 l2 h1 h2 a1 a2 b1 b2) := by
  unfold F153 D153
  simp only [l153]
  unfold cutB
  cases decide ((if b1 > a1 then b1 else a1) ≤ l1) <;> cases decide ((if b1 < a1 then b1 else a1) ≥ h1) <;> cases decide ((if b2 > a2 then b2 else a2) ≤ l2) <;> cases decide ((if b2 < a2 then b2 else a2) ≥ h2) <;> try rfl
  cases (((decide (wc a1 a2 b1 b2 l1 l2 > 0) || decide (wc a1 a2 b1 b2 h1 l2 > 0)) || decide (wc a1 a2 b1 b2 h1 h2 > 0)) || decide (wc a1 a2 b1 b2 l1 h2 > 0)) <;> rfl
def CutK (n : Nat) (f : Nat → Nat → CV) (l1 l2 h1 h2 : Int) (i : Nat) : Prop :=
  ∃ j, i ≤ j ∧ j < n ∧ cutB l1 l2 h1 h2 (CV.int (f j 0)) (CV.int (f j 1)) (CV.int (f (nx n j) 0)) (CV.int (f (nx n j) 1)) = true
theorem CutK.step {n : Nat} {f : Nat → Nat → CV} {l1 l2 h1 h2 : Int} {i : Nat} (h : cutB l1 l2 h1 h2 (CV.int (f i 0)) (CV.int (f i 1)) (CV.int (f (nx n i) 0)) (CV.int (f (nx n i) 1)) = false) : CutK n f l1 l2 h1 h2 i ↔ CutK n f l1 l2 h1 h2 (i + 1) := by
  constructor
  · rintro ⟨j, a, b, c⟩
    refine ⟨j, ?_, b, c⟩
    by_cases e : j = i
    · subst e; rw [h] at c; cases c
    · omega
  · rintro ⟨j, a, b, c⟩
    exact ⟨j, by omega, b, c⟩
theorem edges125 {ρ : Type} (n : Nat) (f g : Nat → Nat → CV) (l1 l2 h1 h2 : Int) (hn : n ≤ 40) (k0 : Int → Int → Option ρ) (kk k1 : Option ρ) (hk : ∀ x y, k0 x y = kk) : ∀ (m i : Nat), n < m + i → i ≤ n →
    (CutK n f l1 l2 h1 h2 i → L125v4 100 n f (Int.ofNat n) l1 l2 h1 h2 g m (Int.ofNat i) k0 k1 = kk) ∧ (¬ CutK n f l1 l2 h1 h2 i → L125v4 100 n f (Int.ofNat n) l1 l2 h1 h2 g m (Int.ofNat i) k0 k1 = k1) := by
  intro m
  induction m with
  | zero => intro i h1 h2; omega
  | succ m ih =>
    intro i h3 h4
    unfold L125v4
    rw [lt_nat, inb_nat, toNat_nat]
    by_cases h : i < n
    · have hx : nx n i < n := nx_lt' (by omega)
      rw [bif_t (by simpa using h), bif_t (by simpa using h), bif_f (ofNat_ne0 (by omega)), w64_succ (by omega), tmod_nat, inb_nat, toNat_nat, show (i + 1) % n = nx n i from rfl, bif_t (by simpa using hx), cut124, ob_some]
      cases hc : cutB l1 l2 h1 h2 (CV.int (f i 0)) (CV.int (f i 1)) (CV.int (f (nx n i) 0)) (CV.int (f (nx n i) 1)) with
      | true =>
        rw [bif_t rfl]
        exact ⟨fun _ => hk _ _, fun hh => absurd ⟨i, Nat.le_refl i, h, hc⟩ hh⟩
      | false =>
        rw [bif_f rfl, CutK.step hc]
        exact ih (i + 1) (by omega) (by omega)
    · rw [bif_f (by simpa using h)]
      exact ⟨fun ⟨j, a, b, _⟩ => by omega, fun _ => rfl⟩
theorem edges154 {ρ : Type} (n N : Nat) (f G r : Nat → Nat → CV) (l1 l2 h1 h2 : Int) (hn : n ≤ 40) (k0 k1 : Option ρ) : ∀ (m i : Nat), n < m + i → i ≤ n →
    (CutK n f l1 l2 h1 h2 i → L154v3 100 n f l1 l2 h1 h2 N G r m (Int.ofNat i) k0 k1 = k0) ∧ (¬ CutK n f l1 l2 h1 h2 i → L154v3 100 n f l1 l2 h1 h2 N G r m (Int.ofNat i) k0 k1 = k1) := by
  intro m
  induction m with
  | zero => intro i h1 h2; omega
  | succ m ih =>
    intro i h3 h4
    unfold L154v3
    rw [lt_nat, inb_nat, toNat_nat]
    by_cases h : i < n
    · have hx : nx n i < n := nx_lt' (by omega)
      rw [bif_t (by simpa using h), bif_t (by simpa using h), bif_f (ofNat_ne0 (by omega)), w64_succ (by omega), tmod_nat, inb_nat, toNat_nat, show (i + 1) % n = nx n i from rfl, bif_t (by simpa using hx), cut153, ob_some]
      cases hc : cutB l1 l2 h1 h2 (CV.int (f i 0)) (CV.int (f i 1)) (CV.int (f (nx n i) 0)) (CV.int (f (nx n i) 1)) with
      | true =>
        rw [bif_t rfl]
        exact ⟨fun _ => rfl, fun hh => absurd ⟨i, Nat.le_refl i, h, hc⟩ hh⟩
      | false =>
        rw [bif_f rfl, CutK.step hc]
        exact ih (i + 1) (by omega) (by omega)
    · rw [bif_f (by simpa using h)]
      exact ⟨fun ⟨j, a, b, _⟩ => by omega, fun _ => rfl⟩
theorem rev154 {ρ : Type} (n : Nat) (f : Nat → Nat → CV) (a b c d : Int) (hn : n ≤ 40) (k0 : Nat → (Nat → Nat → CV) → Option ρ) : ∀ (m r i : Nat) (h : Nat → Nat → CV), r < m → i + r = n → (∀ j, j < i → pt h j = pt f (n - 1 - j)) →
    ∃ h', L154v1 100 n f a b c d m ((r : Int) - 1) i h k0 = k0 n h' ∧ ∀ j, j < n → pt h' j = pt f (n - 1 - j) := by
  intro m
  induction m with
  | zero => intro r c h h1; omega
  | succ m ih =>
    intro r i h h1 h2 hh
    unfold L154v1
    cases r with
    | zero =>
      rw [bif_f (by simp)]
      have : i = n := by omega
      rw [this] at hh ⊢
      exact ⟨h, rfl, hh⟩
    | succ r =>
      have e : ((r + 1 : Nat) : Int) - 1 = Int.ofNat r := by simp
      have e2 : w64 (Int.ofNat r - 1) = (r : Int) - 1 := by rw [w64_of] <;> simp <;> omega
      rw [e, e2, inb_nat, toNat_nat, bif_t (by simp), bif_t (decide_eq_true (by omega)), bif_t (by rw [Nat.ble_eq]; omega)]
      refine ih r (i + 1) _ (by omega) (by omega) ?_
      intro j hj
      by_cases ej : j = i
      · subst ej
        unfold pt
        rw [jn _ _ _ _ _ (Nat.le_refl j), jn _ _ _ _ _ (Nat.le_refl j), Nat.sub_self, show n - 1 - j = r from by omega]
        rfl
      · have := hh j (by omega)
        unfold pt at *
        rw [jo _ _ _ _ _ (by omega), jo _ _ _ _ _ (by omega)]
        exact this
end Go.Eng.R13
/-
  Does a hole cover a square? The program's and the reference's answers are alike, and what they say.
-/
set_option linter.all false
namespace Go.Eng.R13
open Go Go.RowKit Go.Eng Geo
theorem rev_shape_iff {n : Nat} {f g z : Nat → Nat → CV} (e : ∀ j, j < n → pt g j = pt f (n - 1 - j)) : VShape n g 0 z ↔ Valid n f ∧ area n (pt f) < 0 := by
  have e' : ∀ j, j < n → pt f j = pt g (n - 1 - j) := fun j hj => by
    rw [e (n - 1 - j) (by omega), show n - 1 - (n - 1 - j) = j from by omega]
  constructor
  · intro S
    have V := rev_valid S.outer e'
    refine ⟨V, ?_⟩
    have h1 := rev_area V e
    have h2 := S.pos
    omega
  · rintro ⟨V, ha⟩
    refine ⟨by omega, rev_valid V e, ?_, fun j hj => by omega, fun j hj => by omega⟩
    rw [rev_area V e]; omega
theorem onC_onK {n : Nat} {p : Nat → Pt} {q : Pt} : OnC n p q 0 ↔ OnK n p q :=
  ⟨fun ⟨j, _, a, b⟩ => ⟨j, a, b⟩, fun ⟨j, a, b⟩ => ⟨j, Nat.zero_le j, a, b⟩⟩
theorem rev_in {n : Nat} {f g : Nat → Nat → CV} (V : Valid n f) (e : ∀ j, j < n → pt g j = pt f (n - 1 - j)) (q : Pt) : (InC n g q ↔ InC n f q) ∧ (OutC n g q ↔ OutC n f q) := by
  have h1 := rev_onK V e q
  rw [← onC_onK, ← onC_onK] at h1
  unfold InC OutC
  by_cases h : OnC n (pt f) q 0
  · exact ⟨⟨fun hh => absurd (h1.2 h) hh.1, fun hh => absurd h hh.1⟩, ⟨fun hh => absurd (h1.2 h) hh.1, fun hh => absurd h hh.1⟩⟩
  · have h2 := rev_par V e (q := q) (fun hh => h (onC_onK.2 hh))
    rw [h2, h1]
    exact ⟨Iff.rfl, Iff.rfl⟩
def Cl (n : Nat) (f : Nat → Nat → CV) (x y : Int) : Prop := nr x y ∧ ¬ OutC n f (x, y)
theorem place_rev {n : Nat} {f g z : Nat → Nat → CV} (V : Valid n f) (ha : area n (pt f) < 0) (e : ∀ j, j < n → pt g j = pt f (n - 1 - j)) (x y : Int) :
    ∃ w, F22 100 n g 0 z x y = some w ∧ F23 100 n g 0 z x y = some w ∧ (w < 1 ↔ ¬ (nr x y ∧ InC n f (x, y))) ∧ (w < 0 ↔ ¬ Cl n f x y) := by
  obtain ⟨w, h1, h2, h3⟩ := place_full n g 0 z x y
  have S : VShape n g 0 z := (rev_shape_iff e).2 ⟨V, ha⟩
  have hw := (h3 S).single
  refine ⟨w, h1, h2, ?_⟩
  obtain ⟨i1, i2⟩ := rev_in V e (x, y)
  by_cases hq : nr x y
  · have a := hw.one S.outer hq
    have b := hw.out S.outer hq
    have c := hw.range
    rw [i1] at a
    rw [i2] at b
    refine ⟨⟨fun h hh => ?_, fun h => ?_⟩, ⟨fun h hh => hh.2 (b.1 h), fun h => ?_⟩⟩
    · have := a.2 hh.2; omega
    · rcases c with c | c | c
      · exact absurd ⟨hq, a.1 c⟩ h
      · omega
      · omega
    · apply b.2
      apply Classical.byContradiction
      intro hh
      exact h ⟨hq, hh⟩
  · have := hw.2 (fun hh => hq hh.2)
    subst this
    exact ⟨⟨fun _ hh => hq hh.1, fun _ => by decide⟩, ⟨fun _ hh => hq hh.1, fun _ => by decide⟩⟩
structure CovP (n : Nat) (f : Nat → Nat → CV) (l1 l2 h1 h2 : Int) : Prop where
  valid : Valid n f
  neg : area n (pt f) < 0
  mid : nr (w64 (Int.tdiv (w64 (l1 + h1)) 2)) (w64 (Int.tdiv (w64 (l2 + h2)) 2)) ∧ InC n f (w64 (Int.tdiv (w64 (l1 + h1)) 2), w64 (Int.tdiv (w64 (l2 + h2)) 2))
  c0 : Cl n f l1 l2
  c1 : Cl n f h1 l2
  c2 : Cl n f h1 h2
  c3 : Cl n f l1 h2
  cut : ¬ CutK n f l1 l2 h1 h2 0
theorem cor125 {ρ : Type} (n : Nat) (f G : Nat → Nat → CV) (c0 d0 c1 d1 c2 d2 c3 d3 e1 e2 e3 e4 : Int) (z0 z1 z2 z3 : Int) (k0 : Int → Int → Option ρ) (kk k1 : Option ρ) (hk : ∀ x y, k0 x y = kk)
    (h0 : F22 100 n G 0 (fun _ _ => .any) c0 d0 = some z0) (h1 : F22 100 n G 0 (fun _ _ => .any) c1 d1 = some z1) (h2 : F22 100 n G 0 (fun _ _ => .any) c2 d2 = some z2) (h3 : F22 100 n G 0 (fun _ _ => .any) c3 d3 = some z3) :
    L125v3 100 n f c0 d0 c1 d1 c2 d2 c3 d3 e1 e2 e3 e4 G 100 0 k0 k1 = bif decide (z0 < 0) then kk else bif decide (z1 < 0) then kk else bif decide (z2 < 0) then kk else bif decide (z3 < 0) then kk else k1 := by
  have r0 : ∀ m, L125v3 100 n f c0 d0 c1 d1 c2 d2 c3 d3 e1 e2 e3 e4 G (m + 1) 0 k0 k1 = ob (F22 100 n G 0 (fun _ _ => .any) c0 d0) fun z => bif decide (z < 0) then k0 c0 d0 else L125v3 100 n f c0 d0 c1 d1 c2 d2 c3 d3 e1 e2 e3 e4 G m 1 k0 k1 := fun m => rfl
  have r1 : ∀ m, L125v3 100 n f c0 d0 c1 d1 c2 d2 c3 d3 e1 e2 e3 e4 G (m + 1) 1 k0 k1 = ob (F22 100 n G 0 (fun _ _ => .any) c1 d1) fun z => bif decide (z < 0) then k0 c1 d1 else L125v3 100 n f c0 d0 c1 d1 c2 d2 c3 d3 e1 e2 e3 e4 G m 2 k0 k1 := fun m => rfl
  have r2 : ∀ m, L125v3 100 n f c0 d0 c1 d1 c2 d2 c3 d3 e1 e2 e3 e4 G (m + 1) 2 k0 k1 = ob (F22 100 n G 0 (fun _ _ => .any) c2 d2) fun z => bif decide (z < 0) then k0 c2 d2 else L125v3 100 n f c0 d0 c1 d1 c2 d2 c3 d3 e1 e2 e3 e4 G m 3 k0 k1 := fun m => rfl
  have r3 : ∀ m, L125v3 100 n f c0 d0 c1 d1 c2 d2 c3 d3 e1 e2 e3 e4 G (m + 1) 3 k0 k1 = ob (F22 100 n G 0 (fun _ _ => .any) c3 d3) fun z => bif decide (z < 0) then k0 c3 d3 else L125v3 100 n f c0 d0 c1 d1 c2 d2 c3 d3 e1 e2 e3 e4 G m 4 k0 k1 := fun m => rfl
  have r4 : ∀ m, L125v3 100 n f c0 d0 c1 d1 c2 d2 c3 d3 e1 e2 e3 e4 G (m + 1) 4 k0 k1 = k1 := fun m => rfl
  rw [r0 99, h0, ob_some, r1 98, h1, ob_some, r2 97, h2, ob_some, r3 96, h3, ob_some, r4 95, hk, hk, hk, hk]
theorem cor154 {ρ : Type} (n N : Nat) (f G : Nat → Nat → CV) (l1 l2 h1 h2 : Int) (z0 z1 z2 z3 : Int) (k0 k1 : Option ρ)
    (g0 : F23 100 N G 0 (fun _ _ => .any) l1 l2 = some z0) (g1 : F23 100 N G 0 (fun _ _ => .any) h1 l2 = some z1) (g2 : F23 100 N G 0 (fun _ _ => .any) h1 h2 = some z2) (g3 : F23 100 N G 0 (fun _ _ => .any) l1 h2 = some z3) :
    L154v2 100 n f l1 l2 h1 h2 N G (rowsF 2 [(.i .i64 l1), (.i .i64 l2), (.i .i64 h1), (.i .i64 l2), (.i .i64 h1), (.i .i64 h2), (.i .i64 l1), (.i .i64 h2)]) 100 0 k0 k1 =
      bif decide (z0 < 0) then k0 else bif decide (z1 < 0) then k0 else bif decide (z2 < 0) then k0 else bif decide (z3 < 0) then k0 else k1 := by
  generalize hR : rowsF 2 [(.i .i64 l1), (.i .i64 l2), (.i .i64 h1), (.i .i64 l2), (.i .i64 h1), (.i .i64 h2), (.i .i64 l1), (.i .i64 h2)] = R
  have r0 : ∀ m, L154v2 100 n f l1 l2 h1 h2 N G R (m + 1) 0 k0 k1 = ob (F23 100 N G 0 (fun _ _ => .any) l1 l2) fun z => bif decide (z < 0) then k0 else L154v2 100 n f l1 l2 h1 h2 N G R m 1 k0 k1 := by subst hR; exact fun m => rfl
  have r1 : ∀ m, L154v2 100 n f l1 l2 h1 h2 N G R (m + 1) 1 k0 k1 = ob (F23 100 N G 0 (fun _ _ => .any) h1 l2) fun z => bif decide (z < 0) then k0 else L154v2 100 n f l1 l2 h1 h2 N G R m 2 k0 k1 := by subst hR; exact fun m => rfl
  have r2 : ∀ m, L154v2 100 n f l1 l2 h1 h2 N G R (m + 1) 2 k0 k1 = ob (F23 100 N G 0 (fun _ _ => .any) h1 h2) fun z => bif decide (z < 0) then k0 else L154v2 100 n f l1 l2 h1 h2 N G R m 3 k0 k1 := by subst hR; exact fun m => rfl
  have r3 : ∀ m, L154v2 100 n f l1 l2 h1 h2 N G R (m + 1) 3 k0 k1 = ob (F23 100 N G 0 (fun _ _ => .any) l1 h2) fun z => bif decide (z < 0) then k0 else L154v2 100 n f l1 l2 h1 h2 N G R m 4 k0 k1 := by subst hR; exact fun m => rfl
  have r4 : ∀ m, L154v2 100 n f l1 l2 h1 h2 N G R (m + 1) 4 k0 k1 = k1 := fun m => rfl
  rw [r0 99, g0, ob_some, r1 98, g1, ob_some, r2 97, g2, ob_some, r3 96, g3, ob_some, r4 95]
theorem revF_pt (n : Nat) (f : Nat → Nat → CV) : ∀ j, j < n → pt (revF n f) j = pt f (n - 1 - j) := fun j _ => rfl
theorem covers_law (n : Nat) (f : Nat → Nat → CV) (l1 l2 h1 h2 : Int) (hn : n ≤ 40) :
    (CovP n f l1 l2 h1 h2 → F125 100 n f l1 l2 h1 h2 = some true ∧ F154 100 n f l1 l2 h1 h2 = some true) ∧
    (¬ CovP n f l1 l2 h1 h2 → F125 100 n f l1 l2 h1 h2 = some false ∧ F154 100 n f l1 l2 h1 h2 = some false) := by
  obtain ⟨G, hG1, hG2⟩ := rev154 (ρ := Bool) n f l1 l2 h1 h2 hn (fun x25 x26 => (ob (F14 100 x25 x26 0 (fun _ _ => .any)) fun x27 => (bif ((x27 != 0) == false) then (ob (F23 100 x25 x26 0 (fun _ _ => .any) (w64 (Int.tdiv (w64 (l1 + h1)) 2)) (w64 (Int.tdiv (w64 (l2 + h2)) 2))) fun x28 => (bif (decide (x28 < 1)) then (some false) else (L154v2 100 n f l1 l2 h1 h2 x25 x26 (rowsF 2 [(.i .i64 l1), (.i .i64 l2), (.i .i64 h1), (.i .i64 l2), (.i .i64 h1), (.i .i64 h2), (.i .i64 l1), (.i .i64 h2)]) 100 0
    (some false)
    (L154v3 100 n f l1 l2 h1 h2 x25 x26 (rowsF 2 [(.i .i64 l1), (.i .i64 l2), (.i .i64 h1), (.i .i64 l2), (.i .i64 h1), (.i .i64 h2), (.i .i64 l1), (.i .i64 h2)]) 100 0
    (some false)
    (some true))))) else (some false)))) 100 n 0 (fun _ _ => .any) (by omega) (by omega) (fun j hj => by omega)
  have e0 : w64 (Int.ofNat n - 1) = (n : Int) - 1 := by rw [w64_of] <;> simp <;> omega
  have F154e := Eq.trans (a := F154 100 n f l1 l2 h1 h2) (by unfold F154 D154; rw [e0]) hG1
  obtain ⟨c, _, c2, c3⟩ := shape_law n 0 G (fun _ _ => .any)
  rw [rev_shape_iff hG2] at c3
  rw [c2, ob_some] at F154e
  have hrv := revF_pt n f
  by_cases A : Valid n f ∧ area n (pt f) < 0
  · obtain ⟨V, ha⟩ := A
    have nb := V.big
    have hc : c = 0 := c3.2 ⟨V, ha⟩
    subst hc
    obtain ⟨d, d1, _, d3⟩ := shape_law n 0 (revF n f) (fun _ _ => .any)
    rw [rev_shape_iff hrv] at d3
    have hd : d = 0 := d3.2 ⟨V, ha⟩
    subst hd
    obtain ⟨m, pm, _, im, _⟩ := place_rev (z := fun _ _ => .any) V ha hrv (w64 (Int.tdiv (w64 (l1 + h1)) 2)) (w64 (Int.tdiv (w64 (l2 + h2)) 2))
    obtain ⟨z0, p0, _, _, i0⟩ := place_rev (z := fun _ _ => .any) V ha hrv l1 l2
    obtain ⟨z1, p1, _, _, i1⟩ := place_rev (z := fun _ _ => .any) V ha hrv h1 l2
    obtain ⟨z2, p2, _, _, i2⟩ := place_rev (z := fun _ _ => .any) V ha hrv h1 h2
    obtain ⟨z3, p3, _, _, i3⟩ := place_rev (z := fun _ _ => .any) V ha hrv l1 h2
    obtain ⟨m', _, pm', im', _⟩ := place_rev (z := fun _ _ => .any) V ha hG2 (w64 (Int.tdiv (w64 (l1 + h1)) 2)) (w64 (Int.tdiv (w64 (l2 + h2)) 2))
    obtain ⟨z0', _, p0', _, i0'⟩ := place_rev (z := fun _ _ => .any) V ha hG2 l1 l2
    obtain ⟨z1', _, p1', _, i1'⟩ := place_rev (z := fun _ _ => .any) V ha hG2 h1 l2
    obtain ⟨z2', _, p2', _, i2'⟩ := place_rev (z := fun _ _ => .any) V ha hG2 h1 h2
    obtain ⟨z3', _, p3', _, i3'⟩ := place_rev (z := fun _ _ => .any) V ha hG2 l1 h2
    have F125e : F125 100 n f l1 l2 h1 h2 = bif decide (m < 1) then some false else bif decide (z0 < 0) then some false else bif decide (z1 < 0) then some false else bif decide (z2 < 0) then some false else bif decide (z3 < 0) then some false else
        L125v4 100 n f (Int.ofNat n) l1 l2 h1 h2 (revF n f) 100 (Int.ofNat 0) (fun _ _ => some false) (some true) := by
      unfold F125 D125
      rw [bif_t (by rw [Nat.ble_eq]; omega), bif_t (Nat.beq_refl n), bif_f (by cases hq : Nat.beq n 0 with | false => rfl | true => have := Nat.eq_of_beq_eq_true hq; omega), d1, ob_some, bif_f (by rfl), pm, ob_some]
      unfold F123 D123
      rw [ob_some, cor125 (kk := some false) (hk := fun _ _ => rfl) (h0 := p0) (h1 := p1) (h2 := p2) (h3 := p3)]
      rfl
    rw [bif_t (by rfl), pm', ob_some, cor154 (g0 := p0') (g1 := p1') (g2 := p2') (g3 := p3')] at F154e
    have E1 := edges125 n f (revF n f) l1 l2 h1 h2 hn (fun _ _ => some false) (some false) (some true) (fun _ _ => rfl) 100 0 (by omega) (by omega)
    have E2 := edges154 n n f G (rowsF 2 [(.i .i64 l1), (.i .i64 l2), (.i .i64 h1), (.i .i64 l2), (.i .i64 h1), (.i .i64 h2), (.i .i64 l1), (.i .i64 h2)]) l1 l2 h1 h2 hn (some false) (some true) 100 0 (by omega) (by omega)
    have F154e : F154 100 n f l1 l2 h1 h2 = bif decide (m' < 1) then some false else bif decide (z0' < 0) then some false else bif decide (z1' < 0) then some false else bif decide (z2' < 0) then some false else bif decide (z3' < 0) then some false else
        L154v3 100 n f l1 l2 h1 h2 n G (rowsF 2 [(.i .i64 l1), (.i .i64 l2), (.i .i64 h1), (.i .i64 l2), (.i .i64 h1), (.i .i64 h2), (.i .i64 l1), (.i .i64 h2)]) 100 (Int.ofNat 0) (some false) (some true) := F154e
    rw [F125e, F154e]
    by_cases q0 : nr (w64 (Int.tdiv (w64 (l1 + h1)) 2)) (w64 (Int.tdiv (w64 (l2 + h2)) 2)) ∧ InC n f (w64 (Int.tdiv (w64 (l1 + h1)) 2), w64 (Int.tdiv (w64 (l2 + h2)) 2))
    case neg => rw [bif_t (decide_eq_true (im.2 q0)), bif_t (decide_eq_true (im'.2 q0))]; exact ⟨fun h => absurd h.mid q0, fun _ => ⟨rfl, rfl⟩⟩
    rw [bif_f (decide_eq_false (fun h => im.1 h q0)), bif_f (decide_eq_false (fun h => im'.1 h q0))]
    by_cases q1 : Cl n f l1 l2
    case neg => rw [bif_t (decide_eq_true (i0.2 q1)), bif_t (decide_eq_true (i0'.2 q1))]; exact ⟨fun h => absurd h.c0 q1, fun _ => ⟨rfl, rfl⟩⟩
    rw [bif_f (decide_eq_false (fun h => i0.1 h q1)), bif_f (decide_eq_false (fun h => i0'.1 h q1))]
    by_cases q2 : Cl n f h1 l2
    case neg => rw [bif_t (decide_eq_true (i1.2 q2)), bif_t (decide_eq_true (i1'.2 q2))]; exact ⟨fun h => absurd h.c1 q2, fun _ => ⟨rfl, rfl⟩⟩
    rw [bif_f (decide_eq_false (fun h => i1.1 h q2)), bif_f (decide_eq_false (fun h => i1'.1 h q2))]
    by_cases q3 : Cl n f h1 h2
    case neg => rw [bif_t (decide_eq_true (i2.2 q3)), bif_t (decide_eq_true (i2'.2 q3))]; exact ⟨fun h => absurd h.c2 q3, fun _ => ⟨rfl, rfl⟩⟩
    rw [bif_f (decide_eq_false (fun h => i2.1 h q3)), bif_f (decide_eq_false (fun h => i2'.1 h q3))]
    by_cases q4 : Cl n f l1 h2
    case neg => rw [bif_t (decide_eq_true (i3.2 q4)), bif_t (decide_eq_true (i3'.2 q4))]; exact ⟨fun h => absurd h.c3 q4, fun _ => ⟨rfl, rfl⟩⟩
    rw [bif_f (decide_eq_false (fun h => i3.1 h q4)), bif_f (decide_eq_false (fun h => i3'.1 h q4))]
    by_cases q5 : CutK n f l1 l2 h1 h2 0
    · rw [E1.1 q5, E2.1 q5]
      exact ⟨fun h => absurd q5 h.cut, fun _ => ⟨rfl, rfl⟩⟩
    · rw [E1.2 q5, E2.2 q5]
      exact ⟨fun _ => ⟨rfl, rfl⟩, fun h => absurd ⟨V, ha, q0, q1, q2, q3, q4, q5⟩ h⟩
  · have hc : (c != 0) = true := by
      rw [bne_iff_ne]; intro h; exact A (c3.1 h)
    rw [hc, bif_f (by rfl)] at F154e
    refine ⟨fun h => absurd ⟨h.valid, h.neg⟩ A, fun _ => ⟨?_, F154e⟩⟩
    unfold F125 D125
    rw [bif_t (by rw [Nat.ble_eq]; omega), bif_t (Nat.beq_refl n)]
    by_cases h0 : n = 0
    · subst h0
      obtain ⟨d, d1, _, d3⟩ := shape_law 0 0 f (fun _ _ => .any)
      have hd : (d != 0) = true := by
        rw [bne_iff_ne]; intro h; have := (d3.1 h).outer.big; omega
      rw [bif_t (by rfl), d1, ob_some, bif_t hd]
    · obtain ⟨d, d1, _, d3⟩ := shape_law n 0 (revF n f) (fun _ _ => .any)
      rw [rev_shape_iff hrv] at d3
      have hd : (d != 0) = true := by
        rw [bne_iff_ne]; intro h; exact A (d3.1 h)
      rw [bif_f (by cases hq : Nat.beq n 0 with | false => rfl | true => exact absurd (Nat.eq_of_beq_eq_true hq) h0), d1, ob_some, bif_t hd]
end Go.Eng.R13
/-
  Light parts; what a hole covers of an opening: PenetrationCovers.
-/
set_option linter.all false
namespace Go.Eng.R13
open Go Go.RowKit Go.Eng Geo
theorem light_loop {ρ : Type} (g : Nat → CV) (k0 k1 : Option ρ) : ∀ (m i : Nat), 20 < m + i → i ≤ 20 →
    L100v1 100 g m (Int.ofNat i) k0 k1 = k0 ∨
    (L100v1 100 g m (Int.ofNat i) k0 k1 = k1 ∧ ∀ j, i ≤ j → j < (CV.len (g 7)) → j < 20 → CV.len ((CV.el (g 7)) j 0) ≤ 40) := by
  intro m
  induction m with
  | zero => intro i h1 h2; omega
  | succ m ih =>
    intro i h1 h2
    unfold L100v1
    rw [lt_nat, inb_nat, toNat_nat]
    by_cases h : i < (CV.len (g 7))
    · rw [bif_t (by simp [h])]
      by_cases h20 : i < 20
      · rw [bif_t (decide_eq_true (by simp; omega)), bif_t (by simpa using h), w64_succ (by omega)]
        by_cases h3 : CV.len ((CV.el (g 7)) i 0) ≤ 40
        · rw [bif_f (by simp; omega)]
          rcases ih (i + 1) (by omega) (by omega) with h4 | ⟨h4, h5⟩
          · exact .inl h4
          · refine .inr ⟨h4, fun j h6 h7 h8 => ?_⟩
            by_cases e : j = i
            · rw [e]; exact h3
            · exact h5 j (by omega) h7 h8
        · rw [bif_t (by simp; omega)]
          exact .inl rfl
      · rw [bif_f (decide_eq_false (by simp; omega))]
        exact .inr ⟨rfl, fun j h6 h7 h8 => by omega⟩
    · rw [bif_f (by simp [h])]
      exact .inr ⟨rfl, fun j h6 h7 => by omega⟩
theorem light_law (g : Nat → CV) :
    F100 100 g = some false ∨
    (F100 100 g = some true ∧ (CV.len (g 6)) ≤ 40 ∧ (CV.len (g 7)) ≤ 12 ∧ ∀ j, j < (CV.len (g 7)) → CV.len ((CV.el (g 7)) j 0) ≤ 40) := by
  unfold F100 D100
  rcases light_loop g (some false) (bif ((decide ((Int.ofNat (CV.len (g 6))) ≤ 40)) == true) then (some (decide ((Int.ofNat (CV.len (g 7))) ≤ 12))) else (some false)) 100 0 (by omega) (by omega) with h | ⟨h, h2⟩
  · exact .inl h
  · by_cases h7 : (CV.len (g 6)) ≤ 40
    · by_cases h9 : (CV.len (g 7)) ≤ 12
      · exact .inr ⟨h.trans (by rw [bif_t (by simp; omega), decide_eq_true (show (Int.ofNat (CV.len (g 7))) ≤ 12 by simp; omega)]), h7, h9, fun j hj => h2 j (by omega) hj (by omega)⟩
      · exact .inl (h.trans (by rw [bif_t (by simp; omega), decide_eq_false (show ¬ (Int.ofNat (CV.len (g 7))) ≤ 12 by simp; omega)]))
    · exact .inl (h.trans (by rw [bif_f (by simp; omega)]))
def CovK (n9 : Nat) (f10 : Nat → Nat → CV) (l1 l2 h1 h2 : Int) (i : Nat) : Prop := ∃ j, i ≤ j ∧ j < n9 ∧ CovP (CV.len (f10 j 0)) (CV.el (f10 j 0)) l1 l2 h1 h2
theorem CovK.step {n9 : Nat} {f10 : Nat → Nat → CV} {l1 l2 h1 h2 : Int} {i : Nat} (h : ¬ CovP (CV.len (f10 i 0)) (CV.el (f10 i 0)) l1 l2 h1 h2) : CovK n9 f10 l1 l2 h1 h2 i ↔ CovK n9 f10 l1 l2 h1 h2 (i + 1) := by
  constructor
  · rintro ⟨j, a, b, c⟩
    refine ⟨j, ?_, b, c⟩
    by_cases e : j = i
    · subst e; exact absurd c h
    · omega
  · rintro ⟨j, a, b, c⟩
    exact ⟨j, by omega, b, c⟩
theorem holes127 {ρ : Type} (n9 : Nat) (f10 : Nat → Nat → CV) (l1 l2 h1 h2 : Int) (hn : n9 ≤ 60) (hl : ∀ j, j < n9 → CV.len (f10 j 0) ≤ 40) (k0 : Int → Option ρ) (k1 : Option ρ) : ∀ (m i : Nat), n9 < m + i → i ≤ n9 →
    (CovK n9 f10 l1 l2 h1 h2 i → ∃ j : Nat, L127v1 100 n9 f10 (listF [(.i .i64 l1), (.i .i64 l2), (.i .i64 h1), (.i .i64 h2)]) (Int.ofNat n9) m (Int.ofNat i) k0 k1 = k0 (Int.ofNat j)) ∧
    (¬ CovK n9 f10 l1 l2 h1 h2 i → L127v1 100 n9 f10 (listF [(.i .i64 l1), (.i .i64 l2), (.i .i64 h1), (.i .i64 h2)]) (Int.ofNat n9) m (Int.ofNat i) k0 k1 = k1) := by
  intro m
  induction m with
  | zero => intro i h1 h2; omega
  | succ m ih =>
    intro i h3 h4
    unfold L127v1
    rw [lt_nat, inb_nat, toNat_nat]
    by_cases h : i < n9
    · have e126 : F126 100 (CV.len (f10 i 0)) (CV.el (f10 i 0)) (listF [(.i .i64 l1), (.i .i64 l2), (.i .i64 h1), (.i .i64 h2)]) = ob (F125 100 (CV.len (f10 i 0)) (CV.el (f10 i 0)) l1 l2 h1 h2) some := rfl
      obtain ⟨c1, c2⟩ := covers_law (CV.len (f10 i 0)) (CV.el (f10 i 0)) l1 l2 h1 h2 (hl i h)
      rw [bif_t (by simpa using h), bif_t (by simpa using h), w64_succ (by omega), e126]
      by_cases hc : CovP (CV.len (f10 i 0)) (CV.el (f10 i 0)) l1 l2 h1 h2
      · rw [(c1 hc).1, ob_some, ob_some, bif_t rfl]
        exact ⟨fun _ => ⟨i, rfl⟩, fun hh => absurd ⟨i, Nat.le_refl i, h, hc⟩ hh⟩
      · rw [(c2 hc).1, ob_some, ob_some, bif_f rfl, CovK.step hc]
        exact ih (i + 1) (by omega) (by omega)
    · rw [bif_f (by simpa using h)]
      exact ⟨fun ⟨j, a, b, _⟩ => by omega, fun _ => rfl⟩
def hf (s : Int) : Int := w64 (Int.tdiv (w64 (s + 1)) 2)
structure CovO (s1 : ByteArray) (n9 : Nat) (f10 : Nat → Nat → CV) (s21 : ByteArray) (x y s : Int) : Prop where
  same : (ByteArray.toList s21 == ByteArray.toList s1) = true
  low : 1 ≤ s
  high : s ≤ 10000
  near : nr x y
  cov : CovK n9 f10 (w64 (x - hf s)) (w64 (y - hf s)) (w64 (x + hf s)) (w64 (y + hf s)) 0
theorem covered129 (g : Nat → CV) (s21 : ByteArray) (a22 a23 a24 : Int) (hn : (CV.len (g 7)) ≤ 60) (hl : ∀ j, j < (CV.len (g 7)) → CV.len ((CV.el (g 7)) j 0) ≤ 40) :
    (CovO (CV.str (g 0)) (CV.len (g 7)) (CV.el (g 7)) s21 a22 a23 a24 → F129 100 g s21 a22 a23 a24 = some true) ∧
    (¬ CovO (CV.str (g 0)) (CV.len (g 7)) (CV.el (g 7)) s21 a22 a23 a24 → F129 100 g s21 a22 a23 a24 = some false) := by
  unfold F129 D129
  cases hs : (ByteArray.toList s21 == ByteArray.toList (CV.str (g 0))) with
  | false => rw [bif_f (by rfl)]; exact ⟨fun h => (by have := h.same; rw [hs] at this; cases this), fun _ => rfl⟩
  | true =>
    rw [bif_t (by rfl)]
    by_cases q1 : a24 < 1
    · rw [bif_f (by simp [q1])]; exact ⟨fun h => (by have := h.low; omega), fun _ => rfl⟩
    rw [bif_t (by simp only [decide_eq_false q1]; rfl)]
    by_cases q2 : a24 > 10000
    · rw [bif_f (by simp only [decide_eq_true q2]; rfl)]; exact ⟨fun h => (by have := h.high; omega), fun _ => rfl⟩
    rw [bif_t (by simp only [decide_eq_false q2]; rfl)]
    by_cases q3 : nr a22 a23
    case neg =>
      have hno : ¬ CovO (CV.str (g 0)) (CV.len (g 7)) (CV.el (g 7)) s21 a22 a23 a24 := fun h => q3 h.near
      refine ⟨fun h => absurd h hno, fun _ => ?_⟩
      by_cases h1 : (if a23 > a22 then a23 else a22) > 32768
      · rw [bif_f (by simp only [decide_eq_true h1]; rfl)]
      · rw [bif_t (by simp only [decide_eq_false h1]; rfl), bif_t]
        apply decide_eq_true
        apply Classical.byContradiction
        intro h2
        apply q3
        unfold nr
        split at h1 <;> split at h2 <;> omega
    have q3' := q3
    unfold nr at q3'
    rw [bif_t (by rw [decide_eq_false (by split <;> omega)]; rfl), bif_f (decide_eq_false (by split <;> omega))]
    unfold F128 D128 F127 D127
    have H1 := holes127 (CV.len (g 7)) (CV.el (g 7)) (w64 (a22 - hf a24)) (w64 (a23 - hf a24)) (w64 (a22 + hf a24)) (w64 (a23 + hf a24)) hn hl some (some (-1)) 100 0 (by omega) (by omega)
    refine ⟨fun h => ?_, fun h => ?_⟩
    · obtain ⟨j, hj⟩ := H1.1 h.cov
      refine (congrArg (fun z => ob (ob z fun x4 => some (decide (x4 ≥ 0))) fun x25 => some x25) hj).trans ?_
      show some (decide ((Int.ofNat j) ≥ 0)) = some true
      rw [decide_eq_true (by simp)]
    · have hk : ¬ CovK (CV.len (g 7)) (CV.el (g 7)) (w64 (a22 - hf a24)) (w64 (a23 - hf a24)) (w64 (a22 + hf a24)) (w64 (a23 + hf a24)) 0 := fun hh => h ⟨hs, by omega, by omega, q3, hh⟩
      exact (congrArg (fun z => ob (ob z fun x4 => some (decide (x4 ≥ 0))) fun x25 => some x25) (H1.2 hk)).trans rfl
theorem awake_law : F132 100 = some true := by kernel_rfl
end Go.Eng.R13
/-
  Rectangles, and segments that have a point inside of them.
-/
set_option linter.all false
namespace Geo
theorem mpp {x y : Int} (h1 : 0 < x) (h2 : 0 < y) : 0 < x * y := Int.mul_pos h1 h2
theorem mpn {x y : Int} (h1 : 0 < x) (h2 : y ≤ 0) : x * y ≤ 0 := by
  have := Int.mul_nonneg (Int.le_of_lt h1) (show 0 ≤ -y by omega)
  rw [Int.mul_neg] at this; omega
theorem mnp {x y : Int} (h1 : x < 0) (h2 : 0 < y) : x * y < 0 := by
  have := Int.mul_pos (show 0 < -x by omega) h2
  rw [Int.neg_mul] at this; omega
theorem mnn {x y : Int} (h1 : x < 0) (h2 : y ≤ 0) : 0 ≤ x * y := by
  have := Int.mul_nonneg (show 0 ≤ -x by omega) (show 0 ≤ -y by omega)
  rw [Int.neg_mul_neg] at this; exact this
theorem sep {α β t : Int} (hon : ∀ q c d : Pt, On q c d → (ht α β c ≤ ht α β q ∨ ht α β d ≤ ht α β q) ∧ (ht α β q ≤ ht α β c ∨ ht α β q ≤ ht α β d)) {a b u v : Pt}
    (ha : ht α β a ≤ t) (hb : ht α β b ≤ t) (hu : t < ht α β u) (hv : t < ht α β v) : ¬ Meet u v a b := by
  rintro (h | h | h | h | ⟨h1, h2⟩)
  · have := (hon _ _ _ h).1; omega
  · have := (hon _ _ _ h).1; omega
  · have := (hon _ _ _ h).2; omega
  · have := (hon _ _ _ h).2; omega
  · have e1 := cross_diff a b u v
    have e2 := cross_lvl α β t a b u v
    rcases h1 with ⟨r, s⟩ | ⟨r, s⟩ <;> rcases h2 with ⟨p, q⟩ | ⟨p, q⟩
    · omega
    · have f1 := mpp p (show 0 < ht α β v - t by omega)
      have f2 := mnp q (show 0 < ht α β u - t by omega)
      have f3 := mpn s (show ht α β a - t ≤ 0 by omega)
      have f4 := mnn r (show ht α β b - t ≤ 0 by omega)
      omega
    · have f1 := mnp p (show 0 < ht α β v - t by omega)
      have f2 := mpp q (show 0 < ht α β u - t by omega)
      have f3 := mnn s (show ht α β a - t ≤ 0 by omega)
      have f4 := mpn r (show ht α β b - t ≤ 0 by omega)
      omega
    · omega
theorem on_x2 (q c d : Pt) (h : On q c d) : (ht (-1) 0 c ≤ ht (-1) 0 q ∨ ht (-1) 0 d ≤ ht (-1) 0 q) ∧ (ht (-1) 0 q ≤ ht (-1) 0 c ∨ ht (-1) 0 q ≤ ht (-1) 0 d) := by
  obtain ⟨_, h1, _⟩ := h; unfold btw at h1; unfold ht; omega
theorem on_y1 (q c d : Pt) (h : On q c d) : (ht 0 1 c ≤ ht 0 1 q ∨ ht 0 1 d ≤ ht 0 1 q) ∧ (ht 0 1 q ≤ ht 0 1 c ∨ ht 0 1 q ≤ ht 0 1 d) := by
  obtain ⟨_, _, h1⟩ := h; unfold btw at h1; unfold ht; omega
theorem sep_x2 {t : Int} {a b u v : Pt} (ha : t ≤ a.1) (hb : t ≤ b.1) (hu : u.1 < t) (hv : v.1 < t) : ¬ Meet u v a b :=
  sep on_x2 (t := -t) (by unfold ht; omega) (by unfold ht; omega) (by unfold ht; omega) (by unfold ht; omega)
theorem sep_y1 {t : Int} {a b u v : Pt} (ha : a.2 ≤ t) (hb : b.2 ≤ t) (hu : t < u.2) (hv : t < v.2) : ¬ Meet u v a b :=
  sep on_y1 (t := t) (by unfold ht; omega) (by unfold ht; omega) (by unfold ht; omega) (by unfold ht; omega)
def Some4 (P : Pt → Prop) (l1 l2 h1 h2 : Int) : Prop := P (l1, l2) ∨ P (h1, l2) ∨ P (h1, h2) ∨ P (l1, h2)
theorem Some4.imp {P Q : Pt → Prop} {l1 l2 h1 h2 : Int} (h : Some4 P l1 l2 h1 h2) (i : ∀ c, P c → Q c) : Some4 Q l1 l2 h1 h2 :=
  by
    rcases h with h | h | h | h
    · exact .inl (i _ h)
    · exact .inr (.inl (i _ h))
    · exact .inr (.inr (.inl (i _ h)))
    · exact .inr (.inr (.inr (i _ h)))
end Geo
/-
  PenetrationSmaller: the plain law.
-/
set_option linter.all false
namespace Go.Eng.R13
open Go Go.RowKit Go.Eng Geo
def md (x y : Int) : Prop := -40000 ≤ x ∧ x ≤ 40000 ∧ -40000 ≤ y ∧ y ≤ 40000
theorem mid_eq {x h : Int} (hx : -32768 ≤ x ∧ x ≤ 32768) (hh : 0 ≤ h ∧ h ≤ 5001) : w64 (Int.tdiv (w64 (w64 (x - h) + w64 (x + h))) 2) = x := by
  rw [w64_of (n := x - h) (by omega) (by omega), w64_of (n := x + h) (by omega) (by omega), show x - h + (x + h) = x * 2 by omega, w64_of (n := x * 2) (by omega) (by omega), Int.mul_tdiv_cancel _ (by decide), w64_of (by omega) (by omega)]
theorem hf_eq {s : Int} (h1 : 1 ≤ s) (h2 : s ≤ 10000) : hf s = (s + 1) / 2 := by
  unfold hf
  rw [w64_of (n := s + 1) (by omega) (by omega), Int.tdiv_eq_ediv_of_nonneg (by omega), w64_of (by omega) (by omega)]
end Go.Eng.R13
/-
  Boxes of whole numbers, the turns and what undoes them: the program's and the reference's answers are alike.
-/
set_option linter.all false
namespace Go.Eng.R13
open Go Go.RowKit Go.Eng Geo
def Bx (r x y z : Int) : Prop := (-r ≤ x ∧ x ≤ r) ∧ (-r ≤ y ∧ y ≤ r) ∧ (-r ≤ z ∧ z ≤ r)
instance (r x y z : Int) : Decidable (Bx r x y z) := inferInstanceAs (Decidable (_ ∧ _))
theorem box105 (r x y z : Int) (h0 : 0 ≤ r) (h1 : r ≤ 1099511627776) : F105 100 x y z r = some (decide (Bx r x y z)) := by
  have hw : w64 (0 - r) = -r := by rw [w64_of (by omega) (by omega)]; omega
  have r0 : ∀ m k0 k1, L105v1 (ρ := Bool) 100 r x y z (m + 1) 0 k0 k1 = bif ((decide (x < (w64 (0 - r)))) == false) then (bif (decide (x > r)) then k0 else (L105v1 100 r x y z m 1 k0 k1)) else k0 := fun _ _ _ => rfl
  have r1 : ∀ m k0 k1, L105v1 (ρ := Bool) 100 r x y z (m + 1) 1 k0 k1 = bif ((decide (y < (w64 (0 - r)))) == false) then (bif (decide (y > r)) then k0 else (L105v1 100 r x y z m 2 k0 k1)) else k0 := fun _ _ _ => rfl
  have r2 : ∀ m k0 k1, L105v1 (ρ := Bool) 100 r x y z (m + 1) 2 k0 k1 = bif ((decide (z < (w64 (0 - r)))) == false) then (bif (decide (z > r)) then k0 else (L105v1 100 r x y z m 3 k0 k1)) else k0 := fun _ _ _ => rfl
  have r3 : ∀ m k0 k1, L105v1 (ρ := Bool) 100 r x y z (m + 1) 3 k0 k1 = k1 := fun _ _ _ => rfl
  unfold F105 D105
  rw [r0 99, r1 98, r2 97, r3 96, hw]
  by_cases a1 : x < -r
  · rw [bif_f (by simp [a1]), decide_eq_false (by unfold Bx; omega)]
  rw [bif_t (by simp [a1])]
  by_cases a2 : x > r
  · rw [bif_t (by simp [a2]), decide_eq_false (by unfold Bx; omega)]
  rw [bif_f (by simp [a2])]
  by_cases a1 : y < -r
  · rw [bif_f (by simp [a1]), decide_eq_false (by unfold Bx; omega)]
  rw [bif_t (by simp [a1])]
  by_cases a2 : y > r
  · rw [bif_t (by simp [a2]), decide_eq_false (by unfold Bx; omega)]
  rw [bif_f (by simp [a2])]
  by_cases a1 : z < -r
  · rw [bif_f (by simp [a1]), decide_eq_false (by unfold Bx; omega)]
  rw [bif_t (by simp [a1])]
  by_cases a2 : z > r
  · rw [bif_t (by simp [a2]), decide_eq_false (by unfold Bx; omega)]
  rw [bif_f (by simp [a2]), decide_eq_true (by unfold Bx; omega)]
theorem box136 (x y z : Int) : F136 100 x y z = some (decide (Bx 1099511627776 x y z)) := by
  unfold F136 D136
  by_cases a1 : x ≥ -1099511627776
  case neg => rw [bif_f (by simp [a1]), decide_eq_false (by unfold Bx; omega)]
  rw [bif_t (by simp [a1])]
  by_cases a1 : x ≤ 1099511627776
  case neg => rw [bif_f (by simp [a1]), decide_eq_false (by unfold Bx; omega)]
  rw [bif_t (by simp [a1])]
  by_cases a1 : y ≥ -1099511627776
  case neg => rw [bif_f (by simp [a1]), decide_eq_false (by unfold Bx; omega)]
  rw [bif_t (by simp [a1])]
  by_cases a1 : y ≤ 1099511627776
  case neg => rw [bif_f (by simp [a1]), decide_eq_false (by unfold Bx; omega)]
  rw [bif_t (by simp [a1])]
  by_cases a1 : z ≥ -1099511627776
  case neg => rw [bif_f (by simp [a1]), decide_eq_false (by unfold Bx; omega)]
  rw [bif_t (by simp [a1])]
  congr 1
  exact decide_eq_decide.2 (by unfold Bx; omega)
def Rp (x y z t : Int) : Prop := Bx 524288 x y z ∧ 0 ≤ t ∧ t ≤ 23
instance (x y z t : Int) : Decidable (Rp x y z t) := inferInstanceAs (Decidable (_ ∧ _))
theorem turn110 (t : Int) : F110 100 t = some (if 0 ≤ t ∧ t ≤ 23 then t else 0) := by
  unfold F110 D110
  by_cases a1 : t < 0
  · rw [bif_f (by simp [a1]), if_neg (by omega)]
  rw [bif_t (by simp [a1])]
  by_cases a2 : t ≥ 24
  · rw [bif_t (by simp [a2]), if_neg (by omega)]
  · rw [bif_f (by simp; omega), if_pos (by omega)]
theorem rp111 (x y z t : Int) : F111 100 x y z t = some (decide (Rp x y z t)) := by
  unfold F111 D111
  rw [box105 _ _ _ _ (by omega) (by omega), ob_some, turn110, ob_some]
  by_cases h : Bx 524288 x y z
  · rw [bif_t (by simp [h])]
    congr 1
    by_cases h2 : 0 ≤ t ∧ t ≤ 23
    · rw [if_pos h2, decide_eq_true ⟨h, h2⟩]; simp
    · rw [if_neg h2, decide_eq_false (fun q => h2 q.2)]
      simp only [beq_eq_false_iff_ne, ne_eq]; omega
  · rw [bif_f (by simp [h]), decide_eq_false (fun q => h q.1)]
theorem rp133 (x y z t : Int) : F133 100 x y z t = some (decide (Rp x y z t)) := by
  unfold F133 D133
  by_cases a1 : x ≥ -524288
  case neg => rw [bif_f (by simp [a1]), decide_eq_false (by unfold Rp Bx; omega)]
  rw [bif_t (by simp [a1])]
  by_cases a1 : x ≤ 524288
  case neg => rw [bif_f (by simp [a1]), decide_eq_false (by unfold Rp Bx; omega)]
  rw [bif_t (by simp [a1])]
  by_cases a1 : y ≥ -524288
  case neg => rw [bif_f (by simp [a1]), decide_eq_false (by unfold Rp Bx; omega)]
  rw [bif_t (by simp [a1])]
  by_cases a1 : y ≤ 524288
  case neg => rw [bif_f (by simp [a1]), decide_eq_false (by unfold Rp Bx; omega)]
  rw [bif_t (by simp [a1])]
  by_cases a1 : z ≥ -524288
  case neg => rw [bif_f (by simp [a1]), decide_eq_false (by unfold Rp Bx; omega)]
  rw [bif_t (by simp [a1])]
  by_cases a1 : z ≤ 524288
  case neg => rw [bif_f (by simp [a1]), decide_eq_false (by unfold Rp Bx; omega)]
  rw [bif_t (by simp [a1])]
  by_cases a1 : t ≥ 0
  case neg => rw [bif_f (by simp [a1]), decide_eq_false (by unfold Rp Bx; omega)]
  rw [bif_t (by simp [a1])]
  congr 1
  exact decide_eq_decide.2 (by unfold Rp Bx; omega)
theorem quarter_eq {ρ : Type} (a x11 z : Int) (k0 : Int → Int → Option ρ) : ∀ (m : Nat) (i x y : Int), L114v1 100 x11 a z m i x y k0 = L141v1 100 a z m i x y k0 := by
  intro m
  induction m with
  | zero => intro i x y; rfl
  | succ m ih => intro i x y; unfold L114v1 L141v1; rw [ih]
def quarter (q : Int) (x y : Int) : Int × Int :=
  if q = 1 then (-y, x) else if q = 2 then (-x, -y) else if q = 3 then (y, -x) else (x, y)
def face (f : Int) (x y z : Int) : Int × Int × Int :=
  if f = 1 then (x, -z, y) else if f = 2 then (x, -y, -z) else if f = 3 then (x, z, -y) else if f = 4 then (z, y, -x) else if f = 5 then (-z, y, x) else (x, y, z)
def rotE (t x y z : Int) : Int × Int × Int := face (t / 4) (quarter (t % 4) x y).1 (quarter (t % 4) x y).2 z
theorem neg_w {x : Int} (h1 : -4398046511104 ≤ x) (h2 : x ≤ 4398046511104) : w64 (0 - x) = -x := by rw [w64_of (by omega) (by omega)]; omega
theorem quarter_law {ρ : Type} (z : Int) (k0 : Int → Int → Option ρ) (q x y : Int) (hq : 0 ≤ q ∧ q ≤ 3) (hx : -4398046511104 ≤ x ∧ x ≤ 4398046511104) (hy : -4398046511104 ≤ y ∧ y ≤ 4398046511104) :
    L141v1 100 q z 100 0 x y k0 = k0 (quarter q x y).1 (quarter q x y).2 := by
  have hq' : q = 0 ∨ q = 1 ∨ q = 2 ∨ q = 3 := by omega
  have nx : w64 (0 - x) = -x := neg_w hx.1 hx.2
  have ny : w64 (0 - y) = -y := neg_w hy.1 hy.2
  have nnx : w64 (0 - (-x)) = x := by rw [neg_w (by omega) (by omega)]; omega
  rcases hq' with rfl | rfl | rfl | rfl
  · rfl
  · exact (show L141v1 100 1 z 100 0 x y k0 = k0 (w64 (0 - y)) x from rfl).trans (by rw [ny]; rfl)
  · exact (show L141v1 100 2 z 100 0 x y k0 = k0 (w64 (0 - x)) (w64 (0 - y)) from rfl).trans (by rw [nx, ny]; rfl)
  · exact (show L141v1 100 3 z 100 0 x y k0 = k0 (w64 (0 - w64 (0 - y))) (w64 (0 - x)) from rfl).trans (by rw [nx, ny, neg_w (by omega) (by omega), Int.neg_neg]; rfl)
theorem quarter_bd {q x y R : Int} (hx : -R ≤ x ∧ x ≤ R) (hy : -R ≤ y ∧ y ≤ R) : (-R ≤ (quarter q x y).1 ∧ (quarter q x y).1 ≤ R) ∧ (-R ≤ (quarter q x y).2 ∧ (quarter q x y).2 ≤ R) := by
  unfold quarter
  by_cases h : q = 1
  · rw [if_pos h]; exact ⟨⟨by simp only; omega, by simp only; omega⟩, hx⟩
  rw [if_neg h]
  by_cases h : q = 2
  · rw [if_pos h]; exact ⟨⟨by simp only; omega, by simp only; omega⟩, ⟨by simp only; omega, by simp only; omega⟩⟩
  rw [if_neg h]
  by_cases h : q = 3
  · rw [if_pos h]; exact ⟨hy, ⟨by simp only; omega, by simp only; omega⟩⟩
  rw [if_neg h]; exact ⟨hx, hy⟩
theorem quarter_neg (q x y : Int) : quarter q (-x) (-y) = (-(quarter q x y).1, -(quarter q x y).2) := by
  unfold quarter
  by_cases h : q = 1
  · simp only [if_pos h]
  simp only [if_neg h]
  by_cases h : q = 2
  · simp only [if_pos h]
  simp only [if_neg h]
  by_cases h : q = 3
  · simp only [if_pos h]
  simp only [if_neg h]
theorem face_neg (f x y z : Int) : face f (-x) (-y) (-z) = (-(face f x y z).1, -(face f x y z).2.1, -(face f x y z).2.2) := by
  unfold face
  by_cases h : f = 1
  · simp only [if_pos h]
  simp only [if_neg h]
  by_cases h : f = 2
  · simp only [if_pos h]
  simp only [if_neg h]
  by_cases h : f = 3
  · simp only [if_pos h]
  simp only [if_neg h]
  by_cases h : f = 4
  · simp only [if_pos h]
  simp only [if_neg h]
  by_cases h : f = 5
  · simp only [if_pos h]
  simp only [if_neg h]
theorem rot_neg (t x y z : Int) : rotE t (-x) (-y) (-z) = (-(rotE t x y z).1, -(rotE t x y z).2.1, -(rotE t x y z).2.2) := by
  unfold rotE
  rw [quarter_neg]
  exact face_neg _ _ _ _
theorem face_bd {f x y z R : Int} (hx : -R ≤ x ∧ x ≤ R) (hy : -R ≤ y ∧ y ≤ R) (hz : -R ≤ z ∧ z ≤ R) : Bx R (face f x y z).1 (face f x y z).2.1 (face f x y z).2.2 := by
  unfold face Bx
  by_cases h : f = 1
  · simp only [if_pos h]; omega
  simp only [if_neg h]
  by_cases h : f = 2
  · simp only [if_pos h]; omega
  simp only [if_neg h]
  by_cases h : f = 3
  · simp only [if_pos h]; omega
  simp only [if_neg h]
  by_cases h : f = 4
  · simp only [if_pos h]; omega
  simp only [if_neg h]
  by_cases h : f = 5
  · simp only [if_pos h]; omega
  simp only [if_neg h]; omega
theorem rot_bd {t x y z R : Int} (h : Bx R x y z) : Bx R (rotE t x y z).1 (rotE t x y z).2.1 (rotE t x y z).2.2 :=
  face_bd (quarter_bd h.1 h.2.1).1 (quarter_bd h.1 h.2.1).2 h.2.2
theorem face142 (f x y z : Int) (hx : -4398046511104 ≤ x ∧ x ≤ 4398046511104) (hy : -4398046511104 ≤ y ∧ y ≤ 4398046511104) (hz : -4398046511104 ≤ z ∧ z ≤ 4398046511104) : F142 100 x y z f = some (face f x y z) := by
  unfold F142 D142 face
  rw [neg_w hx.1 hx.2, neg_w hy.1 hy.2, neg_w hz.1 hz.2]
  by_cases h : f = 1
  · rw [bif_t (by simp [h]), if_pos h]
  rw [bif_f (by simpa using h), if_neg h]
  by_cases h : f = 2
  · rw [bif_t (by simp [h]), if_pos h]
  rw [bif_f (by simpa using h), if_neg h]
  by_cases h : f = 3
  · rw [bif_t (by simp [h]), if_pos h]
  rw [bif_f (by simpa using h), if_neg h]
  by_cases h : f = 4
  · rw [bif_t (by simp [h]), if_pos h]
  rw [bif_f (by simpa using h), if_neg h]
  by_cases h : f = 5
  · rw [bif_t (by simp [h]), if_pos h]
  rw [bif_f (by simpa using h), if_neg h]
theorem t_parts {t : Int} (ht : 0 ≤ t ∧ t ≤ 23) : w64 (Int.tdiv t 4) = t / 4 ∧ Int.tmod t 4 = t % 4 ∧ 0 ≤ t % 4 ∧ t % 4 ≤ 3 := by
  rw [Int.tdiv_eq_ediv_of_nonneg ht.1, Int.tmod_eq_emod_of_nonneg ht.1, w64_of (by omega) (by omega)]
  omega
theorem apply114 (x y z t : Int) (ht : 0 ≤ t ∧ t ≤ 23) (h : Bx 4398046511104 x y z) : F114 100 x y z t = some (rotE t x y z) := by
  obtain ⟨e1, e2, e3, e4⟩ := t_parts ht
  obtain ⟨b1, b2⟩ := quarter_bd (q := t % 4) h.1 h.2.1
  have H := face142 (t / 4) _ _ _ b1 b2 h.2.2
  unfold F142 D142 at H
  unfold F114 D114
  rw [turn110, ob_some, if_pos ht, e1, e2, quarter_eq, quarter_law _ _ _ _ _ ⟨e3, e4⟩ h.1 h.2.1]
  exact H
def invOk (t : Nat) : Bool :=
  match F115 100 (Int.ofNat t), F145 100 (Int.ofNat t) with
  | some a, some b => a == b && (decide (0 ≤ a) && decide (a ≤ 23))
  | _, _ => false
theorem inv_all : (List.range 24).all invOk = true := by kernel_rfl
theorem inv_law (t : Int) (ht : 0 ≤ t ∧ t ≤ 23) : ∃ r, F115 100 t = some r ∧ F145 100 t = some r ∧ 0 ≤ r ∧ r ≤ 23 := by
  obtain ⟨n, rfl⟩ := Int.eq_ofNat_of_zero_le ht.1
  have h := List.all_eq_true.1 inv_all n (List.mem_range.2 (by omega))
  unfold invOk at h
  have e : (Int.ofNat n) = ((n : Nat) : Int) := rfl
  rw [e] at h
  cases h1 : F115 100 ((n : Nat) : Int) with
  | none => rw [h1] at h; cases h
  | some a =>
    cases h2 : F145 100 ((n : Nat) : Int) with
    | none => rw [h1, h2] at h; cases h
    | some b =>
      rw [h1, h2] at h
      simp only [Bool.and_eq_true, beq_iff_eq, decide_eq_true_eq] at h
      exact ⟨a, rfl, by rw [h.1], h.2⟩
end Go.Eng.R13
/-
  Routes and where they cross a part: PenetrationCrosses.
-/
set_option linter.all false
namespace Go.Eng.R13
open Go Go.RowKit Go.Eng Geo
def Row (r : Int) (f : Nat → Nat → CV) (i : Nat) : Prop := Bx r (CV.int (f i 0)) (CV.int (f i 1)) (CV.int (f i 2))
theorem w64_pred {i : Nat} (h0 : 1 ≤ i) (h : i < 1000000) : w64 (Int.ofNat i - 1) = Int.ofNat (i - 1) := by
  rw [w64_of] <;> simp <;> omega
theorem far102 (x y z : Int) : F102 100 x y z = some (!decide (Bx 524288 x y z)) := by
  unfold F102 D102
  by_cases h1 : (if z > (if y > x then y else x) then z else (if y > x then y else x)) > 524288
  · rw [bif_f (by simp only [decide_eq_true h1]; rfl), decide_eq_false]; rfl
    unfold Bx
    split at h1 <;> try split at h1
    all_goals omega
  rw [bif_t (by simp only [decide_eq_false h1]; rfl)]
  congr 1
  by_cases h2 : (if z < (if y < x then y else x) then z else (if y < x then y else x)) < -524288
  · rw [decide_eq_true h2, decide_eq_false]; rfl
    unfold Bx
    split at h2 <;> try split at h2
    all_goals omega
  · rw [decide_eq_false h2, decide_eq_true]; rfl
    unfold Bx
    split at h1 <;> split at h2 <;> (try split at h1) <;> (try split at h2) <;> omega
theorem far103 (n : Nat) (f : Nat → Nat → CV) (hn : n ≤ 40) : ∀ (m i : Nat), n < m + i → i ≤ n →
    ∃ z, L103v1 100 n f (Int.ofNat n) m (Int.ofNat i) (fun x => some x) (some (-1)) = some z ∧ (z ≥ 0 ↔ ¬ ∀ j, i ≤ j → j < n → Row 524288 f j) := by
  intro m
  induction m with
  | zero => intro i h1 h2; omega
  | succ m ih =>
    intro i h1 h2
    unfold L103v1
    rw [lt_nat, inb_nat, toNat_nat, far102, ob_some]
    by_cases h : i < n
    · rw [bif_t (by simpa using h), bif_t (by simpa using h), w64_succ (by omega)]
      by_cases hb : Row 524288 f i
      · have hb' : Bx 524288 (CV.int (f i 0)) (CV.int (f i 1)) (CV.int (f i 2)) := hb
        rw [bif_f (by simpa using hb')]
        obtain ⟨z, e, hz⟩ := ih (i + 1) (by omega) (by omega)
        refine ⟨z, e, hz.trans (not_congr ⟨fun H j a b => ?_, fun H j a b => H j (by omega) b⟩)⟩
        by_cases e : j = i
        · rw [e]; exact hb
        · exact H j (by omega) b
      · have hb' : ¬ Bx 524288 (CV.int (f i 0)) (CV.int (f i 1)) (CV.int (f i 2)) := hb
        rw [bif_t (by simpa using hb')]
        exact ⟨_, rfl, fun _ H => hb (H i (Nat.le_refl i) h), fun _ => by simp⟩
    · rw [bif_f (by simpa using h)]
      exact ⟨_, rfl, fun h => by omega, fun H => absurd (fun j a b => by omega) H⟩
theorem sub_law {x1 x2 x3 x4 x5 x6 : Int} (h1 : Bx 524288 x1 x2 x3) (h2 : Bx 524288 x4 x5 x6) :
    F108 100 x1 x2 x3 x4 x5 x6 = some (x1 - x4, x2 - x5, x3 - x6) ∧ F138 100 x1 x2 x3 x4 x5 x6 = some (x1 - x4, x2 - x5, x3 - x6) := by
  have b1 : Bx 1099511627776 x1 x2 x3 := by unfold Bx at *; omega
  have b2 : Bx 1099511627776 x4 x5 x6 := by unfold Bx at *; omega
  constructor
  · unfold F108 D108
    rw [box105 _ _ _ _ (by omega) (by omega), box105 _ _ _ _ (by omega) (by omega), ob_some, ob_some, bif_t (by simp [b1]), bif_f (by simp [b2])]
    unfold F106 D106 F107 D107
    unfold Bx at b1 b2
    rw [ob_some, ob_some, neg_w (by omega) (by omega), neg_w (by omega) (by omega), neg_w (by omega) (by omega)]
    show some (w64 (x1 + -x4), w64 (x2 + -x5), w64 (x3 + -x6)) = _
    rw [w64_of (by omega) (by omega), w64_of (by omega) (by omega), w64_of (by omega) (by omega)]
    rfl
  · unfold F138 D138
    rw [box136, box136, ob_some, ob_some, bif_t (by simp [b1]), bif_f (by simp [b2])]
    unfold F137 D137
    unfold Bx at b1 b2
    rw [ob_some, w64_of (by omega) (by omega), w64_of (by omega) (by omega), w64_of (by omega) (by omega)]
theorem count109 {ρ : Type} (n : Nat) (f : Nat → Nat → CV) (i a b c : Int) (k0 : Int → Option ρ) :
    L109v2 100 n f i a b c 100 0 0 k0 = bif (a != 0) then (bif (b != 0) then (bif (c != 0) then k0 3 else k0 2) else (bif (c != 0) then k0 2 else k0 1)) else (bif (b != 0) then (bif (c != 0) then k0 2 else k0 1) else (bif (c != 0) then k0 1 else k0 0)) := by
  have r0 : ∀ m x, L109v2 100 n f i a b c (m + 1) x 0 k0 = bif (a != 0) then (L109v2 100 n f i a b c m (w64 (x + 1)) 1 k0) else (L109v2 100 n f i a b c m x 1 k0) := fun _ _ => rfl
  have r1 : ∀ m x, L109v2 100 n f i a b c (m + 1) x 1 k0 = bif (b != 0) then (L109v2 100 n f i a b c m (w64 (x + 1)) 2 k0) else (L109v2 100 n f i a b c m x 2 k0) := fun _ _ => rfl
  have r2 : ∀ m x, L109v2 100 n f i a b c (m + 1) x 2 k0 = bif (c != 0) then (L109v2 100 n f i a b c m (w64 (x + 1)) 3 k0) else (L109v2 100 n f i a b c m x 3 k0) := fun _ _ => rfl
  have r3 : ∀ m x, L109v2 100 n f i a b c (m + 1) x 3 k0 = k0 x := fun _ _ => rfl
  rw [r0 99]
  simp only [r1 98, r2 97, r3 96]
  cases (a != 0) <;> cases (b != 0) <;> cases (c != 0) <;> rfl
theorem target_law (g : Nat → CV) : ∃ b, F113 100 g = some b ∧ F135 100 g = some b ∧ (b = true → Rp (CV.int (g 14)) (CV.int (g 15)) (CV.int (g 16)) (CV.int (g 17))) := by
  unfold F113 D113 F135 D135
  by_cases q1 : ((CV.int (g 2)) == 1) = true
  case neg => exact ⟨false, by rw [bif_f (by simpa using q1)], by rw [bif_f (by simpa using q1)], fun h => by cases h⟩
  rw [q1, rp111, rp133, ob_some, ob_some]
  by_cases q2 : Rp (CV.int (g 14)) (CV.int (g 15)) (CV.int (g 16)) (CV.int (g 17))
  case neg => exact ⟨false, by rw [decide_eq_false q2]; rfl, by rw [decide_eq_false q2]; rfl, fun h => by cases h⟩
  rw [decide_eq_true q2]
  generalize listF (pj kR0 g) = h
  obtain ⟨c, c1, c2, _⟩ := shape_law (CV.len (h 6)) 0 (CV.el (h 6)) (fun _ _ => .any)
  refine ⟨(c == 0), ?_, ?_, fun _ => q2⟩
  · show ob (F13 100 (CV.len (h 6)) (CV.el (h 6)) 0 (fun _ _ => .any)) (fun x4 => some (x4 == 0)) = some (c == 0)
    rw [c1, ob_some]
  · show ob (F14 100 (CV.len (h 6)) (CV.el (h 6)) 0 (fun _ _ => .any)) (fun x4 => some (x4 == 0)) = some (c == 0)
    rw [c2, ob_some]
def Hit (out : Nat → Nat → CV) (x y : Int) (j : Nat) : Prop := CV.int (out j 1) = x ∧ CV.int (out j 2) = y
theorem contains119 (cnt : Nat) (out : Nat → Nat → CV) (S : ByteArray) (x y s : Int) (hn : cnt ≤ 40) (hI : ∀ j, j < cnt → ByteArray.toList (CV.str (out j 0)) = ByteArray.toList S ∧ CV.int (out j 3) = s) : ∀ (m i : Nat), cnt < m + i → i ≤ cnt →
    ∃ z, L119v1 100 cnt out (Int.ofNat cnt) S x y s m (Int.ofNat i) (fun x => some x) (some (-1)) = some z ∧ (z ≥ 0 ↔ ∃ j, i ≤ j ∧ j < cnt ∧ Hit out x y j) := by
  intro m
  induction m with
  | zero => intro i h1 h2; omega
  | succ m ih =>
    intro i h1 h2
    unfold L119v1
    rw [lt_nat, inb_nat, toNat_nat]
    by_cases h : i < cnt
    · obtain ⟨i1, i2⟩ := hI i h
      rw [bif_t (by simpa using h), bif_t (by simpa using h), w64_succ (by omega), i1, i2]
      by_cases hb : Hit out x y i
      · rw [bif_t (by simp [hb.1, hb.2])]
        exact ⟨_, rfl, fun _ => ⟨i, Nat.le_refl i, h, hb⟩, fun _ => by simp⟩
      · rw [bif_f]
        · obtain ⟨z, e, hz⟩ := ih (i + 1) (by omega) (by omega)
          refine ⟨z, e, hz.trans ⟨fun ⟨j, a, b, c⟩ => ⟨j, by omega, b, c⟩, fun ⟨j, a, b, c⟩ => ⟨j, ?_, b, c⟩⟩⟩
          by_cases e : j = i
          · rw [e] at c; exact absurd c hb
          · omega
        · cases hx : (x == CV.int (out i 1)) with
          | false => simp
          | true =>
            cases hy : (y == CV.int (out i 2)) with
            | false => simp
            | true => exact absurd ⟨(eq_of_beq hx).symm, (eq_of_beq hy).symm⟩ hb
    · rw [bif_f (by simpa using h)]
      exact ⟨_, rfl, fun h => by omega, fun ⟨j, a, b, _⟩ => by omega⟩
def orow (S : ByteArray) (x y s : Int) : Nat → Nat → CV := rowsF 4 [(.s S), (.i .i64 x), (.i .i64 y), (.i .i64 s)]
theorem cross121 (g : Nat → CV) (n : Nat) (f : Nat → Nat → CV) (s : Int) (r1 : F109 100 n f s = some true) (t1 : F113 100 (listF (pj kR0 g)) = some true) {a b c r : Int} (i1 : F116 100 (CV.int (g 14)) (CV.int (g 15)) (CV.int (g 16)) (CV.int (g 17)) = some (a, b, c, r)) {N : Nat} {O : FF}
  (l1 : L121v1 100 s g n f a b c r 100 0 1 (fun _ _ => .any) (fun x42 x43 => some (false, x42, x43)) = some (false, N, O)) : F121 100 g n f s = some (N, O) := by
  unfold F121 FT121 D121
  rw [r1, ob_some, bif_t (by rfl), t1, ob_some, bif_f (by rfl), i1, ob_some]
  dsimp only
  rw [l1, ob_some]
  rfl
end Go.Eng.R13
/-
  What a route's crossing gives: the list of openings.
-/
set_option linter.all false
namespace Go.Eng.R13
open Go Go.RowKit Go.Eng Geo
def One (a b c : Int) : Prop := (a ≠ 0 ∧ b = 0 ∧ c = 0) ∨ (a = 0 ∧ b ≠ 0 ∧ c = 0) ∨ (a = 0 ∧ b = 0 ∧ c ≠ 0)
def df (f : Nat → Nat → CV) (i k : Nat) : Int := CV.int (f i k) - CV.int (f (i - 1) k)
structure Rt (n : Nat) (f : Nat → Nat → CV) (s : Int) : Prop where
  lo : 2 ≤ n
  hi : n ≤ 32
  s1 : 1 ≤ s
  s2 : s ≤ 10000
  box : ∀ j, j < n → Row 524288 f j
  one : ∀ i, 1 ≤ i → i < n → One (df f i 0) (df f i 1) (df f i 2)
theorem one109 (n : Nat) (f : Nat → Nat → CV) (hn : n ≤ 32) (hB : ∀ j, j < n → Row 524288 f j) (k0 : Option Bool) (k1 : Option Bool) : ∀ (m i : Nat), n < m + i → 1 ≤ i → i ≤ n →
    ((∀ j, i ≤ j → j < n → One (df f j 0) (df f j 1) (df f j 2)) → L109v3 100 n f m (Int.ofNat i) (fun _ _ _ => k0) k1 = k1) ∧
    ((¬ ∀ j, i ≤ j → j < n → One (df f j 0) (df f j 1) (df f j 2)) → L109v3 100 n f m (Int.ofNat i) (fun _ _ _ => k0) k1 = k0) := by
  intro m
  induction m with
  | zero => intro i h1 h2; omega
  | succ m ih =>
    intro i h1 h2 h3
    unfold L109v3
    rw [lt_nat, w64_pred h2 (by omega), inb_nat, inb_nat, toNat_nat, toNat_nat]
    by_cases h : i < n
    · obtain ⟨s1, _⟩ := sub_law (hB i h) (hB (i - 1) (by omega))
      have hi : i - 1 < n := by omega
      rw [s1, ob_some, count109, decide_eq_true h, decide_eq_true hi, w64_succ (by omega)]
      obtain ⟨e1, e2⟩ := ih (i + 1) (by omega) (by omega) (by omega)
      simp only [cond_true]
      by_cases ho : One (df f i 0) (df f i 1) (df f i 2)
      · have hst : (∀ j, i ≤ j → j < n → One (df f j 0) (df f j 1) (df f j 2)) ↔ ∀ j, i + 1 ≤ j → j < n → One (df f j 0) (df f j 1) (df f j 2) :=
          ⟨fun H j a b => H j (by omega) b, fun H j a b => by
            by_cases e : j = i
            · rw [e]; exact ho
            · exact H j (by omega) b⟩
        rw [hst]
        have ho' := ho
        unfold One df at ho'
        rcases ho' with ⟨a, b, c⟩ | ⟨a, b, c⟩ | ⟨a, b, c⟩
        · have a' : (CV.int (f i 0) - CV.int (f (i - 1) 0) != 0) = true := by simpa using a
          rw [a', b, c]; exact ⟨e1, e2⟩
        · have b' : (CV.int (f i 1) - CV.int (f (i - 1) 1) != 0) = true := by simpa using b
          rw [a, b', c]; exact ⟨e1, e2⟩
        · have c' : (CV.int (f i 2) - CV.int (f (i - 1) 2) != 0) = true := by simpa using c
          rw [a, b, c']; exact ⟨e1, e2⟩
      · refine ⟨fun H => absurd (H i (Nat.le_refl i) h) ho, fun _ => ?_⟩
        unfold One df at ho
        cases ha : (CV.int (f i 0) - CV.int (f (i - 1) 0) != 0) <;> cases hb : (CV.int (f i 1) - CV.int (f (i - 1) 1) != 0) <;> cases hc : (CV.int (f i 2) - CV.int (f (i - 1) 2) != 0) <;> (try rfl) <;>
          (exfalso; apply ho; simp only [bne_iff_ne, ne_eq, bne_eq_false_iff_eq] at ha hb hc; omega)
    · rw [decide_eq_false h]
      exact ⟨fun _ => rfl, fun H => absurd (fun j a b => by omega) H⟩
theorem route109 (n : Nat) (f : Nat → Nat → CV) (s : Int) : (Rt n f s → F109 100 n f s = some true) ∧ (¬ Rt n f s → F109 100 n f s = some false) := by
  unfold F109 D109
  by_cases q1 : n < 2
  · rw [bif_f (by simp; omega)]; exact ⟨fun h => by have := h.lo; omega, fun _ => rfl⟩
  rw [bif_t (by simp; omega)]
  by_cases q2 : n > 32
  · rw [bif_f (by simp; omega)]; exact ⟨fun h => by have := h.hi; omega, fun _ => rfl⟩
  rw [bif_t (by simp; omega)]
  unfold F104 D104 F103 D103
  obtain ⟨z, z1, z2⟩ := far103 n f (by omega) 100 0 (by omega) (by omega)
  have z1' : L103v1 100 n f (Int.ofNat n) 100 0 (fun x => some x) (some (-1)) = some z := z1
  rw [z1', ob_some, ob_some]
  by_cases hB : ∀ j, 0 ≤ j → j < n → Row 524288 f j
  case neg => rw [bif_f (by simp [z2.2 hB])]; exact ⟨fun h => absurd (fun j _ hj => h.box j hj) hB, fun _ => rfl⟩
  have hz : ¬ z ≥ 0 := fun h => z2.1 h hB
  rw [bif_t (by simp; omega)]
  by_cases q3 : s < 1
  · rw [bif_f (by simp [q3])]; exact ⟨fun h => by have := h.s1; omega, fun _ => rfl⟩
  rw [bif_t (by simp [q3])]
  by_cases q4 : s > 10000
  · rw [bif_t (by simp [q4])]; exact ⟨fun h => by have := h.s2; omega, fun _ => rfl⟩
  rw [bif_f (by simp [q4])]
  obtain ⟨e1, e2⟩ := one109 n f (by omega) (fun j h => hB j (Nat.zero_le j) h) (some false) (some true) 100 1 (by omega) (by omega) (by omega)
  exact ⟨fun h => e1 (fun j a b => h.one j a b), fun h => e2 (fun H => h ⟨by omega, by omega, by omega, by omega, fun j hj => hB j (Nat.zero_le j) hj, H⟩)⟩
def Vg (n : Nat) (f : Nat → Nat → CV) (x y : Int) : Bool := match F22 100 n f 0 (fun _ _ => .any) x y with | some z => decide (z ≥ 0) | none => false
def cxP (P : Nat → Int × Int × Int) (V : Int → Int → Bool) (i : Nat) : Prop :=
  (P (i - 1)).1 = (P i).1 ∧ (P (i - 1)).2.1 = (P i).2.1 ∧ ((P (i - 1)).2.2 ≤ 0 ∨ (P i).2.2 ≤ 0) ∧ (0 ≤ (P (i - 1)).2.2 ∨ 0 ≤ (P i).2.2) ∧ V (P i).1 (P i).2.1 = true
instance (P : Nat → Int × Int × Int) (V : Int → Int → Bool) (i : Nat) : Decidable (cxP P V i) := inferInstanceAs (Decidable (_ ∧ _))
def dd (n : Nat) (P : Nat → Int × Int × Int) (V : Int → Int → Bool) : Nat → Nat → List (Int × Int) → List (Int × Int)
  | 0, _, l => l
  | m + 1, i, l => if i < n then (if cxP P V i ∧ ((P i).1, (P i).2.1) ∉ l then dd n P V m (i + 1) (l ++ [((P i).1, (P i).2.1)]) else dd n P V m (i + 1) l) else l
structure Out (S : ByteArray) (s : Int) (l : List (Int × Int)) (N : Nat) (O : Nat → Nat → CV) : Prop where
  len : N = l.length
  str : ∀ j, j < N → ByteArray.toList (CV.str (O j 0)) = ByteArray.toList S
  size : ∀ j, j < N → CV.int (O j 3) = s
  at_ : ∀ j (h : j < l.length), CV.int (O j 1) = l[j].1 ∧ CV.int (O j 2) = l[j].2
theorem Out.hit {S : ByteArray} {s : Int} {l : List (Int × Int)} {N : Nat} {O : Nat → Nat → CV} (H : Out S s l N O) (x y : Int) : (∃ j, 0 ≤ j ∧ j < N ∧ Hit O x y j) ↔ (x, y) ∈ l := by
  have hl := H.len
  constructor
  · rintro ⟨j, _, h, a, b⟩
    have hj : j < l.length := by omega
    obtain ⟨p, q⟩ := H.at_ j hj
    have e : l[j] = (x, y) := by rw [Prod.ext_iff]; exact ⟨p.symm.trans a, q.symm.trans b⟩
    rw [← e]; exact List.getElem_mem hj
  · intro h
    obtain ⟨j, hj, e⟩ := List.getElem_of_mem h
    obtain ⟨p, q⟩ := H.at_ j hj
    rw [e] at p q
    exact ⟨j, Nat.zero_le j, by omega, p, q⟩
theorem Out.add {S : ByteArray} {s : Int} {l : List (Int × Int)} {N : Nat} {O : Nat → Nat → CV} (H : Out S s l N O) (x y : Int) : Out S s (l ++ [(x, y)]) (N + 1) (joinF N O (orow S x y s)) := by
  have hl := H.len
  have old : ∀ j k, j < N → joinF N O (orow S x y s) j k = O j k := by
    intro j k h
    unfold joinF
    have e' : Nat.blt j N = true := by rw [Nat.blt_eq]; exact h
    simp only [e', cond_true]
  have new : ∀ k, joinF N O (orow S x y s) N k = orow S x y s 0 k := by
    intro k
    unfold joinF
    have e' : Nat.blt N N = false := by rw [← Bool.not_eq_true, Nat.blt_eq]; omega
    simp only [e', cond_false, Nat.sub_self]
  refine ⟨by simp [hl], fun j hj => ?_, fun j hj => ?_, fun j hj => ?_⟩
  · by_cases e : j < N
    · rw [old j 0 e]; exact H.str j e
    · have e : j = N := by omega
      rw [e, new]; rfl
  · by_cases e : j < N
    · rw [old j 3 e]; exact H.size j e
    · have e : j = N := by omega
      rw [e, new]; rfl
  · by_cases e : j < N
    · have hj' : j < l.length := by omega
      rw [old j 1 e, old j 2 e, List.getElem_append_left hj']
      exact H.at_ j hj'
    · have e2 : j = N := by simp at hj; omega
      have e3 : (l ++ [(x, y)])[j] = (x, y) := by rw [List.getElem_append_right (by omega)]; simp
      rw [e3, e2, new, new]
      exact ⟨rfl, rfl⟩
theorem step121 (g : Nat → CV) (n : Nat) (f : Nat → Nat → CV) (s a b c r : Int) (hr : 0 ≤ r ∧ r ≤ 23) (hn : n ≤ 32) (m i cnt : Nat) (out : Nat → Nat → CV) (h1 : 1 ≤ i) (h2 : i < n) (h3 : cnt < i)
    (P : Nat → Int × Int × Int) (hP : ∀ j, j < n → F117 100 a b c r (CV.int (f j 0)) (CV.int (f j 1)) (CV.int (f j 2)) = some (P j)) (l : List (Int × Int)) (H : Out (CV.str (g 0)) s l cnt out) (k KL : Nat → (Nat → Nat → CV) → Option (Bool × Nat × (Nat → Nat → CV)))
    (hL : ∀ C O, L121v1 100 s g n f a b c r m C (Int.ofNat (i + 1)) O k = KL C O) :
      L121v1 100 s g n f a b c r (m + 1) cnt (Int.ofNat i) out k = (if cxP P (Vg (CV.len (g 6)) (CV.el (g 6))) i ∧ ((P i).1, (P i).2.1) ∉ l then KL (cnt + 1) (joinF cnt out (orow (CV.str (g 0)) (P i).1 (P i).2.1 s)) else KL cnt out) := by
  have hi : i - 1 < n := by omega
  have p1 := hP (i - 1) hi
  have q1 := hP i h2
  have e118 : ∀ j, j < n → F118 100 (Int.ofNat j) (listF [(.i .i64 a), (.i .i64 b), (.i .i64 c), (.i .i64 r)]) (listF [(.ro false (.pr (.int .i64) (.pr (.int .i64) (.pr (.int .i64) .nil))) n f)]) = ob (F117 100 a b c r (CV.int (f j 0)) (CV.int (f j 1)) (CV.int (f j 2))) fun x5 => some (x5.1, x5.2.1, x5.2.2) := by
    intro j hj
    have e : F118 100 (Int.ofNat j) (listF [(.i .i64 a), (.i .i64 b), (.i .i64 c), (.i .i64 r)]) (listF [(.ro false (.pr (.int .i64) (.pr (.int .i64) (.pr (.int .i64) .nil))) n f)]) = bif (inb (Int.ofNat j) n) then (ob (F117 100 a b c r (CV.int (f j 0)) (CV.int (f j 1)) (CV.int (f j 2))) fun x5 => some (x5.1, x5.2.1, x5.2.2)) else none := rfl
    rw [e, inb_nat, decide_eq_true hj]; rfl
  unfold L121v1
  rw [lt_nat, w64_pred h1 (by omega), decide_eq_true h2, e118 _ hi, e118 _ h2, p1, q1, w64_succ (by omega)]
  simp only [ob_some, cond_true, hL]
  by_cases hc1 : (P (i - 1)).1 = (P i).1
  case neg =>
    rw [bif_f (by simpa using hc1), if_neg (fun h => hc1 h.1.1)]
  by_cases hc2 : (P (i - 1)).2.1 = (P i).2.1
  case neg =>
    rw [bif_t (by simpa using hc1), bif_f (by simpa using hc2), if_neg (fun h => hc2 h.1.2.1)]
  rw [bif_t (by simpa using hc1), bif_t (by simpa using hc2)]
  by_cases hc3 : (P (i - 1)).2.2 ≤ 0 ∨ (P i).2.2 ≤ 0
  case neg =>
    rw [bif_f, if_neg (fun h => hc3 h.1.2.2.1)]
    rw [decide_eq_true (by split <;> omega)]; rfl
  by_cases hc4 : 0 ≤ (P (i - 1)).2.2 ∨ 0 ≤ (P i).2.2
  case neg =>
    rw [bif_t, bif_t, if_neg (fun h => hc4 h.1.2.2.2.1)]
    · rw [decide_eq_true (by split <;> omega)]
    · rw [decide_eq_false (by split <;> omega)]; rfl
  rw [bif_t (by rw [decide_eq_false (by split <;> omega)]; rfl), bif_f (by rw [decide_eq_false (by split <;> omega)])]
  obtain ⟨z, z1, _⟩ := place_law (CV.len (g 6)) (CV.el (g 6)) 0 (fun _ _ => .any) (P (i - 1)).1 (P (i - 1)).2.1
  have e112 : F112 100 (listF (pj kR0 g)) = some (CV.len (g 6), CV.el (g 6), 0, (fun _ _ => .any)) := rfl
  rw [e112, ob_some]
  simp only [z1, ob_some]
  have hv : Vg (CV.len (g 6)) (CV.el (g 6)) (P i).1 (P i).2.1 = decide (z ≥ 0) := by unfold Vg; rw [← hc1, ← hc2, z1]
  have hcn : cnt ≤ 40 := by omega
  have hble : Nat.ble (cnt + 1) 1073741824 = true := by rw [Nat.ble_eq]; omega
  by_cases hz : z < 0
  · rw [bif_f (by simp; omega), if_neg]
    rintro ⟨⟨_, _, _, _, h⟩, _⟩
    rw [hv] at h
    have := of_decide_eq_true h
    omega
  · rw [bif_t (by simp; omega), hble]
    obtain ⟨y, y1, y2⟩ := contains119 cnt out (CV.str (g 0)) (P (i - 1)).1 (P (i - 1)).2.1 s hcn (fun j hj => ⟨H.str j hj, H.size j hj⟩) 100 0 (by omega) (by omega)
    have e120 : F120 100 cnt out (CV.str (g 0)) (P (i - 1)).1 (P (i - 1)).2.1 s = some (decide (y ≥ 0)) := by
      unfold F120 D120 F119 D119
      have y1' : L119v1 100 cnt out (Int.ofNat cnt) (CV.str (g 0)) (P (i - 1)).1 (P (i - 1)).2.1 s 100 0 (fun x => some x) (some (-1)) = some y := y1
      rw [y1', ob_some]
    rw [e120, ob_some]
    rw [H.hit, hc1, hc2] at y2
    by_cases hy : y ≥ 0
    · rw [decide_eq_true hy, bif_f (by rfl), if_neg (fun h => h.2 (y2.1 hy))]
    · rw [decide_eq_false hy, bif_t (by rfl), bif_t (by rfl), if_pos ⟨⟨hc1, hc2, hc3, hc4, by rw [hv]; exact decide_eq_true (by omega)⟩, fun h => hy (y2.2 h)⟩, hc1, hc2]
      rfl
theorem run121 (g : Nat → CV) (n : Nat) (f : Nat → Nat → CV) (s a b c r : Int) (hr : 0 ≤ r ∧ r ≤ 23) (hn : n ≤ 32)
    (P : Nat → Int × Int × Int) (hP : ∀ j, j < n → F117 100 a b c r (CV.int (f j 0)) (CV.int (f j 1)) (CV.int (f j 2)) = some (P j)) : ∀ (m i cnt : Nat) (out : Nat → Nat → CV) (l : List (Int × Int)), n < m + i → 1 ≤ i → i ≤ n → cnt < i → Out (CV.str (g 0)) s l cnt out →
    ∃ N O, L121v1 100 s g n f a b c r m cnt (Int.ofNat i) out (fun x y => some (false, x, y)) = some (false, N, O) ∧ Out (CV.str (g 0)) s (dd n P (Vg (CV.len (g 6)) (CV.el (g 6))) m i l) N O ∧ N ≤ 32 := by
  intro m
  induction m with
  | zero => intro i cnt out l h1 h2; omega
  | succ m ih =>
    intro i cnt out l h1 h2 h3 h4 H
    unfold dd
    by_cases h : i < n
    · rw [step121 g n f s a b c r hr hn m i cnt out h2 h h4 P hP l H (fun x y => some (false, x, y)) _ (fun _ _ => rfl), if_pos h]
      by_cases hc : cxP P (Vg (CV.len (g 6)) (CV.el (g 6))) i ∧ ((P i).1, (P i).2.1) ∉ l
      · rw [if_pos hc, if_pos hc]
        exact ih (i + 1) (cnt + 1) _ _ (by omega) (by omega) (by omega) (by omega) (H.add _ _)
      · rw [if_neg hc, if_neg hc]
        exact ih (i + 1) cnt out l (by omega) (by omega) (by omega) (by omega) H
    · rw [if_neg h]
      unfold L121v1
      rw [lt_nat, decide_eq_false h]
      exact ⟨cnt, out, rfl, H, by omega⟩
def hits (n : Nat) (P : Nat → Int × Int × Int) (V : Int → Int → Bool) : List (Int × Int) := dd n P V 100 1 []
theorem cross_yes (g : Nat → CV) (n : Nat) (f : Nat → Nat → CV) (s : Int) (R : Rt n f s) (t1 : F113 100 (listF (pj kR0 g)) = some true) {a b c r : Int} (hr : 0 ≤ r ∧ r ≤ 23) (i1 : F116 100 (CV.int (g 14)) (CV.int (g 15)) (CV.int (g 16)) (CV.int (g 17)) = some (a, b, c, r))
    (P : Nat → Int × Int × Int) (hP : ∀ j, j < n → F117 100 a b c r (CV.int (f j 0)) (CV.int (f j 1)) (CV.int (f j 2)) = some (P j)) :
    ∃ N O, F121 100 g n f s = some (N, O) ∧ Out (CV.str (g 0)) s (hits n P (Vg (CV.len (g 6)) (CV.el (g 6)))) N O ∧ N ≤ 32 := by
  have hlo := R.lo
  have hhi := R.hi
  obtain ⟨N, O, l1, l2, l3⟩ := run121 g n f s a b c r hr hhi P hP 100 1 0 (fun _ _ => .any) [] (by omega) (by omega) (by omega) (by omega) ⟨rfl, fun j h => absurd h (by omega), fun j h => absurd h (by omega), fun j h => absurd h (by simp)⟩
  exact ⟨N, O, cross121 g n f s ((route109 n f s).1 R) t1 i1 l1, l2, l3⟩
theorem cross_nope (g : Nat → CV) (n : Nat) (f : Nat → Nat → CV) (s : Int) (b1 b2 : Bool) (h : b1 = false ∨ b2 = false) (r1 : F109 100 n f s = some b1) (t1 : F113 100 (listF (pj kR0 g)) = some b2) :
    F121 100 g n f s = some (0, (fun _ _ => .any)) := by
  unfold F121 FT121 D121
  rw [r1, ob_some]
  cases b1 with
  | false => rw [bif_f (by rfl), ob_some]; rfl
  | true =>
    cases b2 with
    | false => rw [bif_t (by rfl), t1, ob_some, bif_t (by rfl), ob_some]; rfl
    | true => rcases h with h | h <;> cases h
theorem same_out {S S' : ByteArray} {s : Int} {l : List (Int × Int)} {N N' : Nat} {O O' : Nat → Nat → CV} (hS : ByteArray.toList S = ByteArray.toList S') (H : Out S s l N O) (H' : Out S' s l N' O') (hN : N ≤ 60) : F131 100 N O N' O' = some true := by
  have e : N' = N := by rw [H.len, H'.len]
  subst e
  have hl := H.len
  have K : ∀ m i, N' < m + i → i ≤ N' → L131v1 100 N' O N' O' m (Int.ofNat i) (some false) (some true) = some true := by
    intro m
    induction m with
    | zero => intro i h1 h2; omega
    | succ m ih =>
      intro i h1 h2
      unfold L131v1
      rw [lt_nat, inb_nat, toNat_nat]
      by_cases h : i < N'
      · obtain ⟨p1, p2⟩ := H.at_ i (by omega)
        obtain ⟨q1, q2⟩ := H'.at_ i (by omega)
        rw [decide_eq_true h, w64_succ (by omega), H.str i h, H'.str i h, H.size i h, H'.size i h, p1, p2, q1, q2, hS]
        simp only [beq_self_eq_true, Bool.true_and, Bool.not_true, cond_true, cond_false]
        exact ih (i + 1) (by omega) (by omega)
      · rw [decide_eq_false h]; rfl
  unfold F131 D131
  rw [bif_f (by simp)]
  exact K 100 0 (by omega) (by omega)
end Go.Eng.R13
/-
  PenetrationMoved: the plain law.
-/
set_option linter.all false
namespace Go.Eng.R13
open Go Go.RowKit Go.Eng Geo
theorem apply_exact {x y z t a b c : Int} (ht : 0 ≤ t ∧ t ≤ 23) (h1 : Bx 524288 x y z) (h2 : Bx 524288 a b c) : F117 100 x y z t a b c = some ((rotE t a b c).1 + x, (rotE t a b c).2.1 + y, (rotE t a b c).2.2 + z) := by
  have b1 : Bx 1099511627776 x y z := by unfold Bx at *; omega
  have b2 : Bx 1099511627776 a b c := by unfold Bx at *; omega
  have b3 : Bx 4398046511104 a b c := by unfold Bx at *; omega
  have hb := rot_bd (t := t) h2
  unfold F117 D117
  rw [box105 _ _ _ _ (by omega) (by omega), box105 _ _ _ _ (by omega) (by omega), ob_some, ob_some, bif_t (by simp [b1]), bif_f (by simp [b2]), apply114 _ _ _ _ ht b3, ob_some]
  unfold F107 D107
  unfold Bx at hb b1
  rw [ob_some, w64_of (by omega) (by omega), w64_of (by omega) (by omega), w64_of (by omega) (by omega)]
theorem inverse_exact {x y z t r : Int} (h : Rp x y z t) (i1 : F115 100 t = some r) (hr : 0 ≤ r ∧ r ≤ 23) : F116 100 x y z t = some (-(rotE r x y z).1, -(rotE r x y z).2.1, -(rotE r x y z).2.2, r) := by
  obtain ⟨hb, ht⟩ := h
  have hb1 : Bx 1099511627776 x y z := by unfold Bx at *; omega
  have hb3 : Bx 4398046511104 (-x) (-y) (-z) := by unfold Bx at *; omega
  unfold F116 D116
  rw [box105 _ _ _ _ (by omega) (by omega), ob_some, bif_f (by simp [hb1]), i1, ob_some]
  unfold F106 D106
  unfold Bx at hb
  rw [ob_some, neg_w (x := x) (by omega) (by omega), neg_w (x := y) (by omega) (by omega), neg_w (x := z) (by omega) (by omega), apply114 _ _ _ _ hr hb3, ob_some, rot_neg]
theorem neg_bx {R a b c : Int} (h : Bx R a b c) : Bx R (-a) (-b) (-c) := by unfold Bx at *; omega
theorem pj0 (h : Nat → CV) : CV.str (listF (pj kR0 h) 0) = CV.str (h 0) := rfl
theorem pj2 (h : Nat → CV) : CV.int (listF (pj kR0 h) 2) = CV.int (h 2) := rfl
theorem pj14 (h : Nat → CV) : CV.int (listF (pj kR0 h) 14) = CV.int (h 14) := rfl
theorem pj15 (h : Nat → CV) : CV.int (listF (pj kR0 h) 15) = CV.int (h 15) := rfl
theorem pj16 (h : Nat → CV) : CV.int (listF (pj kR0 h) 16) = CV.int (h 16) := rfl
theorem pj17 (h : Nat → CV) : CV.int (listF (pj kR0 h) 17) = CV.int (h 17) := rfl
end Go.Eng.R13
/-
  The square around an opening as a hole: it covers the opening.
-/
set_option linter.all false
namespace Go.Eng.R13
open Go Go.RowKit Go.Eng Geo
def sqF (a b c d : Int) : Nat → Nat → CV := rowsF 2 [(.i .i64 a), (.i .i64 c), (.i .i64 a), (.i .i64 d), (.i .i64 b), (.i .i64 d), (.i .i64 b), (.i .i64 c)]
theorem lt4 {i : Nat} (h : i < 4) : i = 0 ∨ i = 1 ∨ i = 2 ∨ i = 3 := by omega
theorem sq_pos2 {a b c d : Int} (h1 : a < b) (h2 : c < d) : 0 < (d - c) * (b - a) := Int.mul_pos (by omega) (by omega)
theorem sq_area {a b c d : Int} (h1 : a < b) (h2 : c < d) : area 4 (pt (sqF a b c d)) < 0 := by
  have e : area 4 (pt (sqF a b c d)) = 0 + (a * d - a * c) + (a * d - b * d) + (b * c - b * d) + (b * c - a * c) := rfl
  have h := sq_pos2 h1 h2
  rw [Int.mul_sub, Int.sub_mul, Int.sub_mul, Int.mul_comm d b, Int.mul_comm c b, Int.mul_comm d a, Int.mul_comm c a] at h
  rw [e]
  omega
theorem sq_simple {a b c d : Int} (h1 : a < b) (h2 : c < d) : SimpleP 4 (pt (sqF a b c d)) := by
  have h := sq_pos2 h1 h2
  have m1 : (d - c) * (b - a) = -((c - d) * (b - a)) := by rw [← Int.neg_mul]; congr 1; omega
  intro i hi
  rcases lt4 hi with rfl | rfl | rfl | rfl
  · refine ⟨?_, ?_, fun k k1 k2 k3 => ?_⟩
    · show (a, c) ≠ (a, d)
      intro e; rw [Prod.ext_iff] at e; have := e.2; simp only at this; omega
    · rintro ⟨e, _⟩
      have e' : (a - a) * (d - c) - (d - c) * (b - a) = 0 := e
      rw [Int.sub_self, Int.zero_mul] at e'; omega
    · have hk : k = 2 := by
        rcases lt4 k2 with rfl | rfl | rfl | rfl
        · omega
        · omega
        · rfl
        · exact absurd rfl k3
      subst hk
      show ¬ Meet (a, c) (a, d) (b, d) (b, c)
      exact sep_x2 (t := b) (Int.le_refl b) (Int.le_refl b) h1 h1
  · refine ⟨?_, ?_, fun k k1 k2 k3 => ?_⟩
    · show (a, d) ≠ (b, d)
      intro e; rw [Prod.ext_iff] at e; have := e.1; simp only at this; omega
    · rintro ⟨e, _⟩
      have e' : (b - a) * (c - d) - (d - d) * (b - a) = 0 := e
      rw [Int.sub_self, Int.zero_mul, Int.mul_comm] at e'; omega
    · have hk : k = 3 := by omega
      subst hk
      show ¬ Meet (a, d) (b, d) (b, c) (a, c)
      exact sep_y1 (t := c) (Int.le_refl c) (Int.le_refl c) h2 h2
  · refine ⟨?_, ?_, fun k k1 k2 k3 => by omega⟩
    · show (b, d) ≠ (b, c)
      intro e; rw [Prod.ext_iff] at e; have := e.2; simp only at this; omega
    · rintro ⟨e, _⟩
      have e' : (b - b) * (c - d) - (c - d) * (a - b) = 0 := e
      have m2 : (c - d) * (a - b) = (d - c) * (b - a) := by rw [← Int.neg_mul_neg]; congr 1 <;> omega
      rw [Int.sub_self, Int.zero_mul] at e'; omega
  · refine ⟨?_, ?_, fun k k1 k2 k3 => by omega⟩
    · show (b, c) ≠ (a, c)
      intro e; rw [Prod.ext_iff] at e; have := e.1; simp only at this; omega
    · rintro ⟨e, _⟩
      have e' : (a - b) * (d - c) - (c - c) * (a - b) = 0 := e
      have m2 : (a - b) * (d - c) = -((d - c) * (b - a)) := by rw [Int.mul_comm, ← Int.mul_neg]; congr 1; omega
      rw [Int.sub_self, Int.zero_mul] at e'; omega
theorem sq_mid {a b c d x y : Int} (h1 : a < x) (h2 : x < b) (h3 : c < y) (h4 : y < d) : InC 4 (sqF a b c d) (x, y) := by
  have p1 : 0 < (d - c) * (x - a) := Int.mul_pos (by omega) (by omega)
  have p2 : 0 < (d - c) * (b - x) := Int.mul_pos (by omega) (by omega)
  constructor
  · rintro ⟨j, _, hj, ho⟩
    rcases lt4 hj with rfl | rfl | rfl | rfl
    · have : btw a a x := ho.2.1
      unfold btw at this; omega
    · have : btw d d y := ho.2.2
      unfold btw at this; omega
    · have : btw b b x := ho.2.1
      unfold btw at this; omega
    · have : btw c c y := ho.2.2
      unfold btw at this; omega
  · have e : par 4 (pt (sqF a b c d)) (x, y) = ((((false ^^ rc (x, y) (a, c) (a, d)) ^^ rc (x, y) (a, d) (b, d)) ^^ rc (x, y) (b, d) (b, c)) ^^ rc (x, y) (b, c) (a, c)) := rfl
    have r0 : rc (x, y) (a, c) (a, d) = false := by
      have : cross (a, c) (a, d) (x, y) = (a - a) * (y - c) - (d - c) * (x - a) := rfl
      unfold rc
      rw [this, Int.sub_self, Int.zero_mul, decide_eq_false (show ¬ (0 : Int) < 0 - (d - c) * (x - a) by omega)]
      simp only
      rw [decide_eq_true (show d > c by omega)]
      simp
    have r1 : rc (x, y) (a, d) (b, d) = false := by
      unfold rc; simp
    have r2 : rc (x, y) (b, d) (b, c) = true := by
      have : cross (b, d) (b, c) (x, y) = (b - b) * (y - d) - (c - d) * (x - b) := rfl
      have m2 : (c - d) * (x - b) = (d - c) * (b - x) := by rw [← Int.neg_mul_neg]; congr 1 <;> omega
      unfold rc
      rw [this, Int.sub_self, Int.zero_mul, m2, decide_eq_false (show ¬ (0 : Int) < 0 - (d - c) * (b - x) by omega)]
      simp only
      rw [decide_eq_true (show d > y by omega), decide_eq_false (show ¬ c > y by omega), decide_eq_false (show ¬ c > d by omega)]
      rfl
    have r3 : rc (x, y) (b, c) (a, c) = false := by
      unfold rc; simp
    rw [e, r0, r1, r2, r3]; rfl
theorem sq_corner {a b c d : Int} (j : Nat) (hj : j < 4) : OnC 4 (pt (sqF a b c d)) (pt (sqF a b c d) j) 0 := by
  refine ⟨j, Nat.zero_le j, hj, ?_, ?_, ?_⟩
  · unfold cross; rw [Int.sub_self, Int.sub_self, Int.mul_zero, Int.mul_zero]; rfl
  · unfold btw; omega
  · unfold btw; omega
theorem sq_cov {a b c d x y : Int} (ha : -32768 ≤ a) (hb : b ≤ 32768) (hc : -32768 ≤ c) (hd : d ≤ 32768) (h1 : a < x) (h2 : x < b) (h3 : c < y) (h4 : y < d) (e1 : w64 (Int.tdiv (w64 (a + b)) 2) = x) (e2 : w64 (Int.tdiv (w64 (c + d)) 2) = y) :
    CovP 4 (sqF a b c d) a c b d := by
  have hA : AllNr 4 (sqF a b c d) := by
    intro i hi
    rcases lt4 hi with rfl | rfl | rfl | rfl
    · show nr a c; unfold nr; omega
    · show nr a d; unfold nr; omega
    · show nr b d; unfold nr; omega
    · show nr b c; unfold nr; omega
  have cl : ∀ j u v, j < 4 → pt (sqF a b c d) j = (u, v) → nr u v → Cl 4 (sqF a b c d) u v := fun j u v hj e hn => ⟨hn, fun ho => ho.1 (e ▸ sq_corner j hj)⟩
  refine ⟨⟨by omega, by omega, hA, (simpleR_iff (by omega)).1 ((simpleP_R (by omega)).1 (sq_simple (by omega) (by omega)))⟩, sq_area (by omega) (by omega), ?_, cl 0 a c (by omega) rfl (by unfold nr; omega), cl 3 b c (by omega) rfl (by unfold nr; omega), cl 2 b d (by omega) rfl (by unfold nr; omega), cl 1 a d (by omega) rfl (by unfold nr; omega), ?_⟩
  · rw [e1, e2]
    exact ⟨by unfold nr; omega, sq_mid h1 h2 h3 h4⟩
  · rintro ⟨i, _, hi, hcut⟩
    rcases lt4 hi with rfl | rfl | rfl | rfl
    · have : cutB a c b d a c a d = true := hcut
      unfold cutB at this; simp at this
    · have : cutB a c b d a d b d = true := hcut
      unfold cutB at this; simp at this
    · have : cutB a c b d b d b c = true := hcut
      unfold cutB at this; simp at this
    · have : cutB a c b d b c a c = true := hcut
      unfold cutB at this; simp at this
end Go.Eng.R13
/-
  PenetrationHoles: the plain law.
-/
set_option linter.all false
namespace Go.Eng.R13
open Go Go.RowKit Go.Eng Geo
theorem cross_two (G G' : Nat → CV) (n : Nat) (f : Nat → Nat → CV) (s : Int) (k0 : CV.str (G 0) = CV.str (G' 0)) (k2 : CV.int (G 2) = CV.int (G' 2)) (k6 : CV.len (G 6) = CV.len (G' 6)) (k6e : CV.el (G 6) = CV.el (G' 6))
    (k14 : CV.int (G 14) = CV.int (G' 14)) (k15 : CV.int (G 15) = CV.int (G' 15)) (k16 : CV.int (G 16) = CV.int (G' 16)) (k17 : CV.int (G 17) = CV.int (G' 17)) :
    ∃ l N U N' U', F121 100 G n f s = some (N, U) ∧ F121 100 G' n f s = some (N', U') ∧ Out (CV.str (G 0)) s l N U ∧ Out (CV.str (G 0)) s l N' U' ∧ N ≤ 32 ∧ (N = 0 ∨ (1 ≤ s ∧ s ≤ 10000)) := by
  have no : ∀ U : Nat → Nat → CV, Out (CV.str (G 0)) s [] 0 U := fun U => ⟨rfl, fun j h => absurd h (by omega), fun j h => absurd h (by omega), fun j h => absurd h (by simp)⟩
  obtain ⟨bt, t1, _, t3⟩ := target_law (listF (pj kR0 G))
  have hT : ∀ h : Nat → CV, F113 100 (listF (pj kR0 h)) = bif (((CV.int (h 2)) == 1) == true) then (ob (F111 100 (CV.int (h 14)) (CV.int (h 15)) (CV.int (h 16)) (CV.int (h 17))) fun x2 => (bif (x2 == true) then (ob (F13 100 (CV.len (h 6)) (CV.el (h 6)) 0 (fun _ _ => .any)) fun x4 => (some (x4 == 0))) else (some false))) else (some false) := by
    intro h
    have f1 : F112 100 (listF (pj kR0 (listF (pj kR0 h)))) = some (CV.len (h 6), CV.el (h 6), 0, (fun _ _ => .any)) := rfl
    unfold F113 D113
    rw [pj2, pj14, pj15, pj16, pj17, f1]
    rfl
  have t2 : F113 100 (listF (pj kR0 G')) = some bt := by rw [hT] at t1 ⊢; rw [← k2, ← k6, ← k6e, ← k14, ← k15, ← k16, ← k17]; exact t1
  by_cases R : Rt n f s
  case neg =>
    exact ⟨[], 0, _, 0, _, cross_nope _ _ _ _ false bt (.inl rfl) ((route109 _ _ _).2 R) t1, cross_nope _ _ _ _ false bt (.inl rfl) ((route109 _ _ _).2 R) t2, no _, no _, by omega, .inl rfl⟩
  cases bt with
  | false =>
    exact ⟨[], 0, _, 0, _, cross_nope _ _ _ _ true false (.inr rfl) ((route109 _ _ _).1 R) t1, cross_nope _ _ _ _ true false (.inr rfl) ((route109 _ _ _).1 R) t2, no _, no _, by omega, .inl rfl⟩
  | true =>
    have hp := t3 rfl
    rw [pj14, pj15, pj16, pj17] at hp
    obtain ⟨r, i1, _, i3⟩ := inv_law (CV.int (G 17)) hp.2
    have hb := neg_bx (rot_bd (t := r) hp.1)
    obtain ⟨N, U, c1, c2, c3⟩ := cross_yes G n f s R t1 i3 (inverse_exact hp i1 i3) _ (fun j hj => apply_exact i3 hb (R.box j hj))
    obtain ⟨N', U', d1, d2, d3⟩ := cross_yes G' n f s R t2 i3 (by rw [← k14, ← k15, ← k16, ← k17]; exact inverse_exact hp i1 i3) _ (fun j hj => apply_exact i3 hb (R.box j hj))
    rw [← k0, ← k6, ← k6e] at d2
    exact ⟨_, N, U, N', U', c1, d1, c2, d2, c3, .inr ⟨R.s1, R.s2⟩⟩
structure Hs (n7 : Nat) (f7 U F : Nat → Nat → CV) (h : Int) (i : Nat) : Prop where
  old : ∀ j, j < n7 → F j 0 = f7 j 0
  new : ∀ j, j < i → F (n7 + j) 0 = .ro false (.pr (.int .i64) (.pr (.int .i64) .nil)) 4 (sqF (w64 (CV.int (U j 1) - h)) (w64 (CV.int (U j 1) + h)) (w64 (CV.int (U j 2) - h)) (w64 (CV.int (U j 2) + h)))
  range : ∀ j, j < i → -32768 + h ≤ CV.int (U j 1) ∧ CV.int (U j 1) ≤ 32768 - h ∧ -32768 + h ≤ CV.int (U j 2) ∧ CV.int (U j 2) ≤ 32768 - h
theorem join_hole (c : Nat) (F G : Nat → Nat → CV) : (∀ j k, j < c → joinF c F G j k = F j k) ∧ ∀ k, joinF c F G c k = G 0 k := by
  refine ⟨fun j k h => ?_, fun k => ?_⟩
  · unfold joinF
    have e' : Nat.blt j c = true := by rw [Nat.blt_eq]; exact h
    simp only [e', cond_true]
  · unfold joinF
    have e' : Nat.blt c c = false := by rw [← Bool.not_eq_true, Nat.blt_eq]; omega
    simp only [e', cond_false, Nat.sub_self]
theorem loop157 (n : Nat) (f : Nat → Nat → CV) (s : Int) (N : Nat) (U : Nat → Nat → CV) (h : Int) (g : Nat → CV) (hN : N ≤ 32) (hh : 0 < N → 0 ≤ h ∧ h ≤ 5001) (n7 : Nat) (f7 : Nat → Nat → CV) (h7 : n7 ≤ 40) (k1 : Nat → (Nat → Nat → CV) → Option Bool) : ∀ (m i : Nat) (F : Nat → Nat → CV), N < m + i → i ≤ N → Hs n7 f7 U F h i →
    L157v1 100 n f s N U h g m (Int.ofNat i) (n7 + i) F (fun x40 x41 x42 => some x40) k1 = some true ∨
    ∃ F', L157v1 100 n f s N U h g m (Int.ofNat i) (n7 + i) F (fun x40 x41 x42 => some x40) k1 = k1 (n7 + N) F' ∧ Hs n7 f7 U F' h N := by
  intro m
  induction m with
  | zero => intro i F h1 h2; omega
  | succ m ih =>
    intro i F h1 h2 H
    unfold L157v1
    rw [lt_nat, inb_nat, toNat_nat]
    simp only [awake_law, ob_some]
    by_cases hi : i < N
    · have hh' := hh (by omega)
      have w1 : w64 ((-32768) + h) = -32768 + h := w64_of (by omega) (by omega)
      have w2 : w64 (32768 - h) = 32768 - h := w64_of (by omega) (by omega)
      rw [w1, w2]
      have h40 : decide (Int.ofNat i < 40) = true := by simp; omega
      have hble : Nat.ble (n7 + i + 1) 1073741824 = true := by rw [Nat.ble_eq]; omega
      rw [decide_eq_true hi, h40, w64_succ (by omega), hble]
      simp only [cond_true, beq_self_eq_true]
      by_cases q1 : CV.int (U i 1) < -32768 + h
      · rw [bif_f (by simp only [decide_eq_true q1]; rfl)]; exact .inl rfl
      rw [bif_t (by simp only [decide_eq_false q1]; rfl)]
      by_cases q2 : CV.int (U i 1) > 32768 - h
      · rw [bif_f (by simp only [decide_eq_true q2]; rfl)]; exact .inl rfl
      rw [bif_t (by simp only [decide_eq_false q2]; rfl)]
      by_cases q3 : CV.int (U i 2) < -32768 + h
      · rw [bif_f (by simp only [decide_eq_true q3]; rfl)]; exact .inl rfl
      rw [bif_t (by simp only [decide_eq_false q3]; rfl)]
      by_cases q4 : CV.int (U i 2) > 32768 - h
      · rw [bif_t (by simp only [decide_eq_true q4])]; exact .inl rfl
      rw [bif_f (by simp only [decide_eq_false q4])]
      refine ih (i + 1) _ (by omega) (by omega) ⟨fun j hj => ?_, fun j hj => ?_, fun j hj => ?_⟩
      · rw [(join_hole _ _ _).1 j 0 (by omega)]; exact H.old j hj
      · by_cases e : j < i
        · rw [(join_hole _ _ _).1 (n7 + j) 0 (by omega)]; exact H.new j e
        · have e2 : j = i := by omega
          subst e2
          rw [(join_hole _ _ _).2]
          rfl
      · by_cases e : j < i
        · exact H.range j e
        · have e2 : j = i := by omega
          subst e2
          omega
    · rw [decide_eq_false hi]
      have e : i = N := by omega
      subst e
      exact .inr ⟨F, rfl, H⟩
def hlRow (g : Nat → CV) (n : Nat) (F : Nat → Nat → CV) : Nat → CV :=
  listF [(.s (CV.str (g 0))), (.i .i64 (CV.int (g 1))), (.i .i64 (CV.int (g 2))), (.s (CV.str (g 3))), (.s (CV.str (g 4))), (.i .i64 (CV.int (g 5))), (.ro false (.pr (.int .i64) (.pr (.int .i64) .nil)) (CV.len (g 6)) (CV.el (g 6))), (.ro false (.pr (.sl (.pr (.int .i64) (.pr (.int .i64) .nil))) .nil) n F), (.s (CV.str (g 8))), (.i .i64 (CV.int (g 9))), (.i .i64 (CV.int (g 10))), (.i .i64 (CV.int (g 11))), (.i .i64 (CV.int (g 12))), (.i .i64 (CV.int (g 13))), (.i .i64 (CV.int (g 14))), (.i .i64 (CV.int (g 15))), (.i .i64 (CV.int (g 16))), (.i .i64 (CV.int (g 17)))]
theorem hole_covers (g : Nat → CV) (n7 N : Nat) (f7 U F : Nat → Nat → CV) (s : Int) (l : List (Int × Int)) (hl : ∀ j, j < n7 → CV.len (f7 j 0) ≤ 40) (h7 : n7 ≤ 12) (hN : N ≤ 32) (hs : N = 0 ∨ (1 ≤ s ∧ s ≤ 10000)) (H : Hs n7 f7 U F (hf s) N) {N' : Nat} {U' : Nat → Nat → CV} (O : Out (CV.str (g 0)) s l N U) (O' : Out (CV.str (g 0)) s l N' U') :
    ∀ i, i < N' → F129 100 (hlRow g (n7 + N) F) (CV.str (U' i 0)) (CV.int (U' i 1)) (CV.int (U' i 2)) (CV.int (U' i 3)) = some true := by
  intro i hi
  have hl1 := O.len
  have hl2 := O'.len
  have hiN : i < N := by omega
  have hs' : 1 ≤ s ∧ s ≤ 10000 := by omega
  obtain ⟨a1, a2⟩ := O.at_ i (by omega)
  obtain ⟨b1, b2⟩ := O'.at_ i (by omega)
  have x1 : CV.int (U' i 1) = CV.int (U i 1) := b1.trans a1.symm
  have x2 : CV.int (U' i 2) = CV.int (U i 2) := b2.trans a2.symm
  have r := H.range i hiN
  have hv := hf_eq hs'.1 hs'.2
  have hlen : ∀ j, j < n7 + N → CV.len (F j 0) ≤ 40 := by
    intro j hj
    by_cases e : j < n7
    · rw [H.old j e]; exact hl j e
    · have := H.new (j - n7) (by omega)
      rw [show n7 + (j - n7) = j by omega] at this
      rw [this]
      show 4 ≤ 40
      omega
  refine (covered129 (hlRow g (n7 + N) F) (CV.str (U' i 0)) (CV.int (U' i 1)) (CV.int (U' i 2)) (CV.int (U' i 3)) (show n7 + N ≤ 60 by omega) hlen).1 ?_
  rw [x1, x2, O'.size i hi]
  refine ⟨?_, hs'.1, hs'.2, by unfold nr; omega, ?_⟩
  · show (ByteArray.toList (CV.str (U' i 0)) == ByteArray.toList (CV.str (g 0))) = true
    rw [O'.str i hi]; simp
  · refine ⟨n7 + i, Nat.zero_le _, show n7 + i < n7 + N by omega, ?_⟩
    show CovP (CV.len (F (n7 + i) 0)) (CV.el (F (n7 + i) 0)) _ _ _ _
    rw [H.new i hiN]
    show CovP 4 (sqF _ _ _ _) _ _ _ _
    have e1 : w64 (CV.int (U i 1) - hf s) = CV.int (U i 1) - hf s := w64_of (by omega) (by omega)
    have e2 : w64 (CV.int (U i 1) + hf s) = CV.int (U i 1) + hf s := w64_of (by omega) (by omega)
    have e3 : w64 (CV.int (U i 2) - hf s) = CV.int (U i 2) - hf s := w64_of (by omega) (by omega)
    have e4 : w64 (CV.int (U i 2) + hf s) = CV.int (U i 2) + hf s := w64_of (by omega) (by omega)
    have m1 := mid_eq (x := CV.int (U i 1)) (h := hf s) (by omega) (by omega)
    have m2 := mid_eq (x := CV.int (U i 2)) (h := hf s) (by omega) (by omega)
    rw [e1, e2] at m1
    rw [e3, e4] at m2
    rw [e1, e2, e3, e4]
    exact sq_cov (by omega) (by omega) (by omega) (by omega) (by omega) (by omega) (by omega) (by omega) m1 m2
theorem loop157b (g : Nat → CV) (M : Nat) (F : Nat → Nat → CV) (n : Nat) (f : Nat → Nat → CV) (s : Int) (N : Nat) (U : Nat → Nat → CV) (l : List (Int × Int)) (hN : N ≤ 32) (O : Out (CV.str (g 0)) s l N U)
    (hc : ∀ i, i < N → F129 100 (hlRow g M F) (CV.str (U i 0)) (CV.int (U i 1)) (CV.int (U i 2)) (CV.int (U i 3)) = some true) (k1 : Option Bool) : ∀ (m i : Nat), N < m + i → i ≤ N → L157v2 100 n f s N U g M F m (Int.ofNat i) (some false) k1 = k1 := by
  intro m
  induction m with
  | zero => intro i h1 h2; omega
  | succ m ih =>
    intro i h1 h2
    unfold L157v2
    rw [lt_nat, inb_nat, toNat_nat]
    by_cases hi : i < N
    · have e := hc i hi
      unfold hlRow at e
      rw [decide_eq_true hi, w64_succ (by omega), e, O.str i hi, O.size i hi]
      simp only [cond_true, bne_self_eq_false, beq_self_eq_true, Bool.not_true, ob_some]
      exact ih (i + 1) (by omega) (by omega)
    · rw [decide_eq_false hi]; rfl
def gR (R : Nat → Nat → CV) : Nat → CV :=
  listF [(.s (CV.str (R 0 0))), (.i .i64 (CV.int (R 0 1))), (.i .i64 (CV.int (R 0 2))), (.s (CV.str (R 0 3))), (.s (CV.str (R 0 4))), (.i .i64 (CV.int (R 0 5))), (.ro false (.pr (.int .i64) (.pr (.int .i64) .nil)) (CV.len (R 0 6)) (CV.el (R 0 6))), (.ro false (.pr (.sl (.pr (.int .i64) (.pr (.int .i64) .nil))) .nil) (CV.len (R 0 7)) (CV.el (R 0 7))), (.s (CV.str (R 0 8))), (.i .i64 (CV.int (R 0 9))), (.i .i64 (CV.int (R 0 10))), (.i .i64 (CV.int (R 0 11))), (.i .i64 (CV.int (R 0 12))), (.i .i64 (CV.int (R 0 13))), (.i .i64 (CV.int (R 0 14))), (.i .i64 (CV.int (R 0 15))), (.i .i64 (CV.int (R 0 16))), (.i .i64 (CV.int (R 0 17)))]
theorem skip130 {ρ : Type} (a1 : Nat) (a2 : FF) (a3 : Int) (a4 : Nat) (a5 : FF) (a6 a7 : Int) (N : Nat) (U : FF) (a9 : ByteArray) (a10 : Nat) (a11 : FF) (a12 : Nat) (a13 : FF) (a14 : Nat) (a15 : FF) (a16 : Nat) (a17 : FF)
    (x199 : ByteArray) (x200 x201 : Int) (x202 x203 : ByteArray) (x204 : Int) (x205 : Nat) (x206 : FF) (x207 : Nat) (x208 : FF) (x209 : ByteArray) (x210 x211 x212 x213 x214 x215 x216 x217 x218 : Int) (hN : N ≤ 40)
    (hc : ∀ i, i < N → F129 100 (listF [(.s x199), (.i .i64 x200), (.i .i64 x201), (.s x202), (.s x203), (.i .i64 x204), (.ro false (.pr (.int .i64) (.pr (.int .i64) .nil)) x205 x206), (.ro false (.pr (.sl (.pr (.int .i64) (.pr (.int .i64) .nil))) .nil) x207 x208), (.s x209), (.i .i64 x210), (.i .i64 x211), (.i .i64 x212), (.i .i64 x213), (.i .i64 x214), (.i .i64 x215), (.i .i64 x216), (.i .i64 x217), (.i .i64 x218)]) (CV.str (U i 0)) (CV.int (U i 1)) (CV.int (U i 2)) (CV.int (U i 3)) = some true) (cnt : Nat) (out : FF) (k0 : Nat → FF → Option ρ) :
    ∀ (m i : Nat), N < m + i → i ≤ N → L130v2 100 a1 a2 a3 a4 a5 a6 a7 N U (Int.ofNat N) a9 a10 a11 a12 a13 a14 a15 a16 a17 x199 x200 x201 x202 x203 x204 x205 x206 x207 x208 x209 x210 x211 x212 x213 x214 x215 x216 x217 x218 m cnt (Int.ofNat i) out k0 = k0 cnt out := by
  intro m
  induction m with
  | zero => intro i h1 h2; omega
  | succ m ih =>
    intro i h1 h2
    unfold L130v2
    rw [lt_nat, inb_nat, toNat_nat]
    by_cases hi : i < N
    · rw [decide_eq_true hi, w64_succ (by omega), hc i hi]
      simp only [cond_true, Bool.not_true, cond_false, ob_some]
      exact ih (i + 1) (by omega) (by omega)
    · rw [decide_eq_false hi]; rfl
theorem end130 (R : Nat → Nat → CV) (n : Nat) (f : Nat → Nat → CV) (s : Int) (m : Nat) (out : FF) (k0 : Nat → FF → Option (Nat × FF)) :
    L130v3 100 n f s 1 R (Int.ofNat 1) ByteArray.empty 0 (fun _ _ => .any) 0 (fun _ _ => .any) 0 (fun _ _ => .any) 0 (fun _ _ => .any) (m + 1) 0 1 out k0 = k0 0 out := by
  unfold L130v3
  rw [bif_f (by decide)]
theorem only130 (R : Nat → Nat → CV) (n : Nat) (f : Nat → Nat → CV) (s : Int) (t : Nat × FF) (hN : t.1 ≤ 32) (h1 : F121 100 (gR R) n f s = some t)
    (hc : ∀ i, i < t.1 → F129 100 (gR R) (CV.str (t.2 i 0)) (CV.int (t.2 i 1)) (CV.int (t.2 i 2)) (CV.int (t.2 i 3)) = some true) (m : Nat) (out : FF) (k0 : Nat → FF → Option (Nat × FF)) :
    L130v3 100 n f s 1 R (Int.ofNat 1) ByteArray.empty 0 (fun _ _ => .any) 0 (fun _ _ => .any) 0 (fun _ _ => .any) 0 (fun _ _ => .any) (m + 1 + 1) 0 0 out k0 = k0 0 out := by
  unfold gR at h1 hc
  unfold L130v3
  have c1 : decide ((0 : Int) < Int.ofNat 1) = true := by decide
  have c2 : inb 0 1 = true := by decide
  have c3 : Int.toNat 0 = 0 := rfl
  have c4 : w64 (0 + 1) = 1 := by rw [w64_of] <;> decide
  have hz : Int.ofNat 0 = 0 := rfl
  have hs := fun k => skip130 (ρ := Nat × FF) n f s 1 R (Int.ofNat 1) 0 t.1 t.2 ByteArray.empty 0 (fun _ _ => .any) 0 (fun _ _ => .any) 0 (fun _ _ => .any) 0 (fun _ _ => .any) _ _ _ _ _ _ _ _ _ _ _ _ _ _ _ _ _ _ _ _ (by omega) hc 0 out k 100 0 (by omega) (by omega)
  rw [hz] at hs
  rw [bif_t c1, bif_t c2, c3, c4, h1, ob_some, hs]
  exact end130 R n f s m out k0
theorem missing130 (R : Nat → Nat → CV) (n : Nat) (f : Nat → Nat → CV) (s : Int) (N : Nat) (U : Nat → Nat → CV) (hN : N ≤ 32) (h1 : F121 100 (gR R) n f s = some (N, U))
    (hc : ∀ i, i < N → F129 100 (gR R) (CV.str (U i 0)) (CV.int (U i 1)) (CV.int (U i 2)) (CV.int (U i 3)) = some true) :
    F130 100 ByteArray.empty 0 (fun _ _ => .any) 1 R 0 (fun _ _ => .any) 0 (fun _ _ => .any) 0 (fun _ _ => .any) n f s = some (0, (fun _ _ => .any)) := by
  unfold F130 D130
  exact only130 R n f s (N, U) hN h1 hc 98 _ _
def hlTab (g : Nat → CV) (n : Nat) (F : Nat → Nat → CV) : Nat → Nat → CV := rowsF 18 [(.s (CV.str (g 0))), (.i .i64 (CV.int (g 1))), (.i .i64 (CV.int (g 2))), (.s (CV.str (g 3))), (.s (CV.str (g 4))), (.i .i64 (CV.int (g 5))), (.ro false (.pr (.int .i64) (.pr (.int .i64) .nil)) (CV.len (g 6)) (CV.el (g 6))), (.ro false (.pr (.sl (.pr (.int .i64) (.pr (.int .i64) .nil))) .nil) n F), (.s (CV.str (g 8))), (.i .i64 (CV.int (g 9))), (.i .i64 (CV.int (g 10))), (.i .i64 (CV.int (g 11))), (.i .i64 (CV.int (g 12))), (.i .i64 (CV.int (g 13))), (.i .i64 (CV.int (g 14))), (.i .i64 (CV.int (g 15))), (.i .i64 (CV.int (g 16))), (.i .i64 (CV.int (g 17)))]
theorem hlTab_row (g : Nat → CV) (n : Nat) (F : Nat → Nat → CV) : gR (hlTab g n F) = hlRow g n F := rfl
theorem holes46 (g0 : Nat → CV) (hg0 : RowIn kR0 g0) (n1c0 : Nat) (f1c0 : Nat → Nat → CV) (h1c0 : SlIn (.pr (.int .i64) (.pr (.int .i64) (.pr (.int .i64) .nil))) n1c0 f1c0) (a2c0 : Int) (h2c0 : I64 a2c0) : F157 100 g0 n1c0 f1c0 a2c0 = some true := by
  have hE : ∀ M F, (listF [(.s (CV.str (g0 0))), (.i .i64 (CV.int (g0 1))), (.i .i64 (CV.int (g0 2))), (.s (CV.str (g0 3))), (.s (CV.str (g0 4))), (.i .i64 (CV.int (g0 5))), (.ro false (.pr (.int .i64) (.pr (.int .i64) .nil)) (CV.len (g0 6)) (CV.el (g0 6))), (.ro false (.pr (.sl (.pr (.int .i64) (.pr (.int .i64) .nil))) .nil) M F), (.s (CV.str (g0 8))), (.i .i64 (CV.int (g0 9))), (.i .i64 (CV.int (g0 10))), (.i .i64 (CV.int (g0 11))), (.i .i64 (CV.int (g0 12))), (.i .i64 (CV.int (g0 13))), (.i .i64 (CV.int (g0 14))), (.i .i64 (CV.int (g0 15))), (.i .i64 (CV.int (g0 16))), (.i .i64 (CV.int (g0 17)))]) = hlRow g0 M F := fun _ _ => rfl
  have hE2 : ∀ n F, (rowsF 18 [(.s (CV.str (g0 0))), (.i .i64 (CV.int (g0 1))), (.i .i64 (CV.int (g0 2))), (.s (CV.str (g0 3))), (.s (CV.str (g0 4))), (.i .i64 (CV.int (g0 5))), (.ro false (.pr (.int .i64) (.pr (.int .i64) .nil)) (CV.len (g0 6)) (CV.el (g0 6))), (.ro false (.pr (.sl (.pr (.int .i64) (.pr (.int .i64) .nil))) .nil) n F), (.s (CV.str (g0 8))), (.i .i64 (CV.int (g0 9))), (.i .i64 (CV.int (g0 10))), (.i .i64 (CV.int (g0 11))), (.i .i64 (CV.int (g0 12))), (.i .i64 (CV.int (g0 13))), (.i .i64 (CV.int (g0 14))), (.i .i64 (CV.int (g0 15))), (.i .i64 (CV.int (g0 16))), (.i .i64 (CV.int (g0 17)))]) = hlTab g0 n F := fun _ _ => rfl
  unfold F157 D157
  simp only [awake_law, ob_some, hE, hE2]
  rcases light_law (listF (pj kR0 g0)) with h | ⟨h, h6, h7, hl⟩
  · rw [h, ob_some, bif_f (by rfl)]
  have h7' : CV.len (g0 7) ≤ 12 := h7
  have hl' : ∀ j, j < CV.len (g0 7) → CV.len (CV.el (g0 7) j 0) ≤ 40 := hl
  rw [h, ob_some, bif_t (by rfl)]
  by_cases hn : n1c0 > 40
  · rw [bif_t (by simp; omega)]
  rw [bif_f (by simp; omega)]
  obtain ⟨l, N, U, _, _, c1, _, c3, _, c5, c6⟩ := cross_two (listF (pj kR0 g0)) (listF (pj kR0 g0)) n1c0 f1c0 a2c0 rfl rfl rfl rfl rfl rfl rfl rfl
  rw [pj0] at c3
  rw [c1, ob_some, bif_t (by rw [Nat.ble_eq]; omega), Nat.zero_add]
  dsimp only
  have hHs0 : Hs (CV.len (g0 7)) (CV.el (g0 7)) U (joinF 0 (fun _ _ => .any) (CV.el (g0 7))) (hf a2c0) 0 := ⟨fun j hj => rfl, fun j hj => absurd hj (by omega), fun j hj => absurd hj (by omega)⟩
  rcases loop157 n1c0 f1c0 a2c0 N U (hf a2c0) g0 c5 (fun hp => by
    have hs : 1 ≤ a2c0 ∧ a2c0 ≤ 10000 := by omega
    rw [hf_eq hs.1 hs.2]; omega) (CV.len (g0 7)) (CV.el (g0 7)) (by omega) (fun x43 x44 => (L157v2 100 n1c0 f1c0 a2c0 N U g0 x43 x44 100 0
    (some false)
    (ob (F121 100 (hlRow g0 x43 x44) n1c0 f1c0 a2c0) fun x65 => (ob (F131 100 x65.1 x65.2 N U) fun x66 => (bif (x66 == true) then (ob (F130 100 ByteArray.empty 0 (fun _ _ => .any) 1 (hlTab g0 x43 x44) 0 (fun _ _ => .any) 0 (fun _ _ => .any) 0 (fun _ _ => .any) n1c0 f1c0 a2c0) fun x67 => (bif (((Int.ofNat x67.1) == 0) == true) then (some true) else (some false))) else (some false)))))) 100 0 _ (by omega) (by omega) hHs0 with e | ⟨F', e, H⟩
  · exact e
  refine e.trans ?_
  obtain ⟨l2, M, W, N', U', d1, d2, d3, d4, d5, _⟩ := cross_two (listF (pj kR0 g0)) (hlRow g0 (CV.len (g0 7) + N) F') n1c0 f1c0 a2c0 rfl rfl rfl rfl rfl rfl rfl rfl
  rw [pj0] at d3 d4
  rw [c1] at d1
  have ed : (N, U) = (M, W) := Option.some.inj d1
  have e1 : N = M := congrArg Prod.fst ed
  have e2 : U = W := congrArg Prod.snd ed
  subst e1; subst e2
  have hc := hole_covers g0 (CV.len (g0 7)) N (CV.el (g0 7)) U F' a2c0 l2 hl' h7' c5 c6 H d3 d4
  have hc0 := hole_covers g0 (CV.len (g0 7)) N (CV.el (g0 7)) U F' a2c0 l2 hl' h7' c5 c6 H d3 d3
  have hN' : N' ≤ 32 := by rw [d4.len, ← d3.len]; exact c5
  have h130 := missing130 (hlTab g0 (CV.len (g0 7) + N) F') n1c0 f1c0 a2c0 N' U' hN' (by rw [hlTab_row]; exact d2) (by rw [hlTab_row]; exact hc)
  have hL := fun k1 => loop157b g0 (CV.len (g0 7) + N) F' n1c0 f1c0 a2c0 N U l2 c5 d3 hc0 k1 100 0 (by omega) (by omega)
  have hz : Int.ofNat 0 = 0 := rfl
  rw [hz] at hL
  rw [hL, d2, ob_some]
  have h131 := same_out (S := CV.str (g0 0)) rfl d4 d3 (by omega)
  refine (congrArg (fun z => ob z fun x66 => (bif (x66 == true) then (ob (F130 100 ByteArray.empty 0 (fun _ _ => .any) 1 (hlTab g0 (CV.len (g0 7) + N) F') 0 (fun _ _ => .any) 0 (fun _ _ => .any) 0 (fun _ _ => .any) n1c0 f1c0 a2c0) fun x67 => (bif (((Int.ofNat x67.1) == 0) == true) then (some true) else (some false))) else (some false))) h131).trans ?_
  rw [ob_some, bif_t (by rfl), h130, ob_some, bif_t (by rfl)]
end Go.Eng.R13
