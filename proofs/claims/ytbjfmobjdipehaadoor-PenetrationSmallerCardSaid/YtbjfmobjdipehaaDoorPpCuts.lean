/-
  Several texts in one.
-/
import Derived.Test.YtbjfmobjdipehaaDoorEngV
import Derived.Test.YtbjfmobjdipehaaDoorGeo6
import Derived.Test.YtbjfmobjdipehaaDoorPlRv
/-
  Squares, and edges that have a point inside of them: the program's and the reference's answers are alike.
-/
set_option linter.all false
namespace Go.Eng.R13
open Go Go.RowKit Go.Eng Geo
def wc (a1 a2 b1 b2 c1 c2 : Int) : Int := w64 (w64 (w64 (b1 - a1) * w64 (c2 - a2)) - w64 (w64 (b2 - a2) * w64 (c1 - a1)))
def cutB (l1 l2 h1 h2 a1 a2 b1 b2 : Int) : Bool :=
  !(decide ((if b1 > a1 then b1 else a1) ≤ l1)) && (!(decide ((if b1 < a1 then b1 else a1) ≥ h1)) && (!(decide ((if b2 > a2 then b2 else a2) ≤ l2)) && (!(decide ((if b2 < a2 then b2 else a2) ≥ h2)) &&
    ((((decide (wc a1 a2 b1 b2 l1 l2 > 0) || decide (wc a1 a2 b1 b2 h1 l2 > 0)) || decide (wc a1 a2 b1 b2 h1 h2 > 0)) || decide (wc a1 a2 b1 b2 l1 h2 > 0)) &&
     (((decide (wc a1 a2 b1 b2 l1 l2 < 0) || decide (wc a1 a2 b1 b2 h1 l2 < 0)) || decide (wc a1 a2 b1 b2 h1 h2 < 0)) || decide (wc a1 a2 b1 b2 l1 h2 < 0))))))
theorem or4 (p q r s : Bool) : ((((false || p) || q) || r) || s) = (((p || q) || r) || s) := by cases p <;> rfl
theorem l124 {ρ : Type} (x28 x29 x30 x31 x32 x33 x34 x35 x37 x38 x39 x40 a1 a2 b1 b2 : Int) (k0 : Bool → Bool → Option ρ) :
    L124v1 100 x28 x29 x30 x31 x32 x33 x34 x35 x37 x38 x39 x40 a1 a2 b1 b2 100 false false 0 k0 =
      k0 (((decide (wc a1 a2 b1 b2 x28 x29 > 0) || decide (wc a1 a2 b1 b2 x30 x31 > 0)) || decide (wc a1 a2 b1 b2 x32 x33 > 0)) || decide (wc a1 a2 b1 b2 x34 x35 > 0))
         (((decide (wc a1 a2 b1 b2 x28 x29 < 0) || decide (wc a1 a2 b1 b2 x30 x31 < 0)) || decide (wc a1 a2 b1 b2 x32 x33 < 0)) || decide (wc a1 a2 b1 b2 x34 x35 < 0)) := by
  have r0 : ∀ (m : Nat) (x y : Bool), L124v1 100 x28 x29 x30 x31 x32 x33 x34 x35 x37 x38 x39 x40 a1 a2 b1 b2 (m + 1) x y 0 k0 = L124v1 100 x28 x29 x30 x31 x32 x33 x34 x35 x37 x38 x39 x40 a1 a2 b1 b2 m (x || decide (wc a1 a2 b1 b2 x28 x29 > 0)) (y || decide (wc a1 a2 b1 b2 x28 x29 < 0)) 1 k0 := by
    intro m x y; cases x <;> cases y <;> rfl
  have r1 : ∀ (m : Nat) (x y : Bool), L124v1 100 x28 x29 x30 x31 x32 x33 x34 x35 x37 x38 x39 x40 a1 a2 b1 b2 (m + 1) x y 1 k0 = L124v1 100 x28 x29 x30 x31 x32 x33 x34 x35 x37 x38 x39 x40 a1 a2 b1 b2 m (x || decide (wc a1 a2 b1 b2 x30 x31 > 0)) (y || decide (wc a1 a2 b1 b2 x30 x31 < 0)) 2 k0 := by
    intro m x y; cases x <;> cases y <;> rfl
  have r2 : ∀ (m : Nat) (x y : Bool), L124v1 100 x28 x29 x30 x31 x32 x33 x34 x35 x37 x38 x39 x40 a1 a2 b1 b2 (m + 1) x y 2 k0 = L124v1 100 x28 x29 x30 x31 x32 x33 x34 x35 x37 x38 x39 x40 a1 a2 b1 b2 m (x || decide (wc a1 a2 b1 b2 x32 x33 > 0)) (y || decide (wc a1 a2 b1 b2 x32 x33 < 0)) 3 k0 := by
    intro m x y; cases x <;> cases y <;> rfl
  have r3 : ∀ (m : Nat) (x y : Bool), L124v1 100 x28 x29 x30 x31 x32 x33 x34 x35 x37 x38 x39 x40 a1 a2 b1 b2 (m + 1) x y 3 k0 = L124v1 100 x28 x29 x30 x31 x32 x33 x34 x35 x37 x38 x39 x40 a1 a2 b1 b2 m (x || decide (wc a1 a2 b1 b2 x34 x35 > 0)) (y || decide (wc a1 a2 b1 b2 x34 x35 < 0)) 4 k0 := by
    intro m x y; cases x <;> cases y <;> rfl
  have r4 : ∀ (m : Nat) (x y : Bool), L124v1 100 x28 x29 x30 x31 x32 x33 x34 x35 x37 x38 x39 x40 a1 a2 b1 b2 (m + 1) x y 4 k0 = k0 x y := by
    intro m x y; rfl
  rw [r0 99, r1 98, r2 97, r3 96, r4 95, or4, or4]
theorem cut124 (l1 l2 h1 h2 a1 a2 b1 b2 : Int) : F124 100 l1 l2 h1 h2 a1 a2 b1 b2 = some (cutB l1 l2 h1 h2 a1 a2 b1 b2) := by
  unfold F124 D124 F123 D123
  simp only [ob_some, l124]
  unfold cutB
  cases decide ((if b1 > a1 then b1 else a1) ≤ l1) <;> cases decide ((if b1 < a1 then b1 else a1) ≥ h1) <;> cases decide ((if b2 > a2 then b2 else a2) ≤ l2) <;> cases decide ((if b2 < a2 then b2 else a2) ≥ h2) <;> try rfl
  cases (((decide (wc a1 a2 b1 b2 l1 l2 > 0) || decide (wc a1 a2 b1 b2 h1 l2 > 0)) || decide (wc a1 a2 b1 b2 h1 h2 > 0)) || decide (wc a1 a2 b1 b2 l1 h2 > 0)) <;> rfl
theorem cross152 (a1 a2 b1 b2 c1 c2 : Int) : F152 100 a1 a2 b1 b2 c1 c2 = some (wc a1 a2 b1 b2 c1 c2) := rfl
theorem l153 {ρ : Type} (a1 a2 b1 b2 l1 l2 h1 h2 : Int) (k0 : Bool → Bool → Option ρ) :
    L153v1 100 a1 a2 b1 b2 l1 l2 h1 h2 (rowsF 2 [(.i .i64 l1), (.i .i64 l2), (.i .i64 h1), (.i .i64 l2), (.i .i64 h1), (.i .i64 h2), (.i .i64 l1), (.i .i64 h2)]) 100 false false 0 k0 =
      k0 (((decide (wc a1 a2 b1 b2 l1 l2 > 0) || decide (wc a1 a2 b1 b2 h1 l2 > 0)) || decide (wc a1 a2 b1 b2 h1 h2 > 0)) || decide (wc a1 a2 b1 b2 l1 h2 > 0))
         (((decide (wc a1 a2 b1 b2 l1 l2 < 0) || decide (wc a1 a2 b1 b2 h1 l2 < 0)) || decide (wc a1 a2 b1 b2 h1 h2 < 0)) || decide (wc a1 a2 b1 b2 l1 h2 < 0)) := by
  generalize hR : rowsF 2 [(.i .i64 l1), (.i .i64 l2), (.i .i64 h1), (.i .i64 l2), (.i .i64 h1), (.i .i64 h2), (.i .i64 l1), (.i .i64 h2)] = R
  have r0 : ∀ (m : Nat) (x y : Bool), L153v1 100 a1 a2 b1 b2 l1 l2 h1 h2 R (m + 1) x y 0 k0 = L153v1 100 a1 a2 b1 b2 l1 l2 h1 h2 R m (x || decide (wc a1 a2 b1 b2 l1 l2 > 0)) (y || decide (wc a1 a2 b1 b2 l1 l2 < 0)) 1 k0 := by
    subst hR; intro m x y; cases x <;> cases y <;> rfl
  have r1 : ∀ (m : Nat) (x y : Bool), L153v1 100 a1 a2 b1 b2 l1 l2 h1 h2 R (m + 1) x y 1 k0 = L153v1 100 a1 a2 b1 b2 l1 l2 h1 h2 R m (x || decide (wc a1 a2 b1 b2 h1 l2 > 0)) (y || decide (wc a1 a2 b1 b2 h1 l2 < 0)) 2 k0 := by
    subst hR; intro m x y; cases x <;> cases y <;> rfl
  have r2 : ∀ (m : Nat) (x y : Bool), L153v1 100 a1 a2 b1 b2 l1 l2 h1 h2 R (m + 1) x y 2 k0 = L153v1 100 a1 a2 b1 b2 l1 l2 h1 h2 R m (x || decide (wc a1 a2 b1 b2 h1 h2 > 0)) (y || decide (wc a1 a2 b1 b2 h1 h2 < 0)) 3 k0 := by
    subst hR; intro m x y; cases x <;> cases y <;> rfl
  have r3 : ∀ (m : Nat) (x y : Bool), L153v1 100 a1 a2 b1 b2 l1 l2 h1 h2 R (m + 1) x y 3 k0 = L153v1 100 a1 a2 b1 b2 l1 l2 h1 h2 R m (x || decide (wc a1 a2 b1 b2 l1 h2 > 0)) (y || decide (wc a1 a2 b1 b2 l1 h2 < 0)) 4 k0 := by
    subst hR; intro m x y; cases x <;> cases y <;> rfl
  have r4 : ∀ (m : Nat) (x y : Bool), L153v1 100 a1 a2 b1 b2 l1 l2 h1 h2 R (m + 1) x y 4 k0 = k0 x y := by
    intro m x y; rfl
  rw [r0 99, r1 98, r2 97, r3 96, r4 95, or4, or4]
theorem cut153 (l1 l2 h1 h2 a1 a2 b1 b2 : Int) : F153 100 a1 a2 b1 b2 l1 l2 h1 h2 = some (cutB l1 l2 h1 h2 a1 a2 b1 b2) := by
  unfold F153 D153
  simp only [l153]
  unfold cutB
  cases decide ((if b1 > a1 then b1 else a1) ≤ l1) <;> cases decide ((if b1 < a1 then b1 else a1) ≥ h1) <;> cases decide ((if b2 > a2 then b2 else a2) ≤ l2) <;> cases decide ((if b2 < a2 then b2 else a2) ≥ h2) <;> try rfl
  cases (((decide (wc a1 a2 b1 b2 l1 l2 > 0) || decide (wc a1 a2 b1 b2 h1 l2 > 0)) || decide (wc a1 a2 b1 b2 h1 h2 > 0)) || decide (wc a1 a2 b1 b2 l1 h2 > 0)) <;> rfl
def CutK (n : Nat) (f : Nat → Nat → CV) (l1 l2 h1 h2 : Int) (i : Nat) : Prop :=
  ∃ j, i ≤ j ∧ j < n ∧ cutB l1 l2 h1 h2 (CV.int (f j 0)) (CV.int (f j 1)) (CV.int (f (nx n j) 0)) (CV.int (f (nx n j) 1)) = true
theorem CutK.step {n : Nat} {f : Nat → Nat → CV} {l1 l2 h1 h2 : Int} {i : Nat} (h : cutB l1 l2 h1 h2 (CV.int (f i 0)) (CV.int (f i 1)) (CV.int (f (nx n i) 0)) (CV.int (f (nx n i) 1)) = false) : CutK n f l1 l2 h1 h2 i ↔ CutK n f l1 l2 h1 h2 (i + 1) := by
  constructor
  · rintro ⟨j, a, b, c⟩
    refine ⟨j, ?_, b, c⟩
    by_cases e : j = i
    · subst e; rw [h] at c; cases c
    · omega
  · rintro ⟨j, a, b, c⟩
    exact ⟨j, by omega, b, c⟩
theorem edges125 {ρ : Type} (n : Nat) (f g : Nat → Nat → CV) (l1 l2 h1 h2 : Int) (hn : n ≤ 40) (k0 : Int → Int → Option ρ) (kk k1 : Option ρ) (hk : ∀ x y, k0 x y = kk) : ∀ (m i : Nat), n < m + i → i ≤ n →
    (CutK n f l1 l2 h1 h2 i → L125v4 100 n f (Int.ofNat n) l1 l2 h1 h2 g m (Int.ofNat i) k0 k1 = kk) ∧ (¬ CutK n f l1 l2 h1 h2 i → L125v4 100 n f (Int.ofNat n) l1 l2 h1 h2 g m (Int.ofNat i) k0 k1 = k1) := by
  intro m
  induction m with
  | zero => intro i h1 h2; omega
  | succ m ih =>
    intro i h3 h4
    unfold L125v4
    rw [lt_nat, inb_nat, toNat_nat]
    by_cases h : i < n
    · have hx : nx n i < n := nx_lt' (by omega)
      rw [bif_t (by simpa using h), bif_t (by simpa using h), bif_f (ofNat_ne0 (by omega)), w64_succ (by omega), tmod_nat, inb_nat, toNat_nat, show (i + 1) % n = nx n i from rfl, bif_t (by simpa using hx), cut124, ob_some]
      cases hc : cutB l1 l2 h1 h2 (CV.int (f i 0)) (CV.int (f i 1)) (CV.int (f (nx n i) 0)) (CV.int (f (nx n i) 1)) with
      | true =>
        rw [bif_t rfl]
        exact ⟨fun _ => hk _ _, fun hh => absurd ⟨i, Nat.le_refl i, h, hc⟩ hh⟩
      | false =>
        rw [bif_f rfl, CutK.step hc]
        exact ih (i + 1) (by omega) (by omega)
    · rw [bif_f (by simpa using h)]
      exact ⟨fun ⟨j, a, b, _⟩ => by omega, fun _ => rfl⟩
theorem edges154 {ρ : Type} (n N : Nat) (f G r : Nat → Nat → CV) (l1 l2 h1 h2 : Int) (hn : n ≤ 40) (k0 k1 : Option ρ) : ∀ (m i : Nat), n < m + i → i ≤ n →
    (CutK n f l1 l2 h1 h2 i → L154v3 100 n f l1 l2 h1 h2 N G r m (Int.ofNat i) k0 k1 = k0) ∧ (¬ CutK n f l1 l2 h1 h2 i → L154v3 100 n f l1 l2 h1 h2 N G r m (Int.ofNat i) k0 k1 = k1) := by
  intro m
  induction m with
  | zero => intro i h1 h2; omega
  | succ m ih =>
    intro i h3 h4
    unfold L154v3
    rw [lt_nat, inb_nat, toNat_nat]
    by_cases h : i < n
    · have hx : nx n i < n := nx_lt' (by omega)
      rw [bif_t (by simpa using h), bif_t (by simpa using h), bif_f (ofNat_ne0 (by omega)), w64_succ (by omega), tmod_nat, inb_nat, toNat_nat, show (i + 1) % n = nx n i from rfl, bif_t (by simpa using hx), cut153, ob_some]
      cases hc : cutB l1 l2 h1 h2 (CV.int (f i 0)) (CV.int (f i 1)) (CV.int (f (nx n i) 0)) (CV.int (f (nx n i) 1)) with
      | true =>
        rw [bif_t rfl]
        exact ⟨fun _ => rfl, fun hh => absurd ⟨i, Nat.le_refl i, h, hc⟩ hh⟩
      | false =>
        rw [bif_f rfl, CutK.step hc]
        exact ih (i + 1) (by omega) (by omega)
    · rw [bif_f (by simpa using h)]
      exact ⟨fun ⟨j, a, b, _⟩ => by omega, fun _ => rfl⟩
theorem rev154 {ρ : Type} (n : Nat) (f : Nat → Nat → CV) (a b c d : Int) (hn : n ≤ 40) (k0 : Nat → (Nat → Nat → CV) → Option ρ) : ∀ (m r i : Nat) (h : Nat → Nat → CV), r < m → i + r = n → (∀ j, j < i → pt h j = pt f (n - 1 - j)) →
    ∃ h', L154v1 100 n f a b c d m ((r : Int) - 1) i h k0 = k0 n h' ∧ ∀ j, j < n → pt h' j = pt f (n - 1 - j) := by
  intro m
  induction m with
  | zero => intro r c h h1; omega
  | succ m ih =>
    intro r i h h1 h2 hh
    unfold L154v1
    cases r with
    | zero =>
      rw [bif_f (by simp)]
      have : i = n := by omega
      rw [this] at hh ⊢
      exact ⟨h, rfl, hh⟩
    | succ r =>
      have e : ((r + 1 : Nat) : Int) - 1 = Int.ofNat r := by simp
      have e2 : w64 (Int.ofNat r - 1) = (r : Int) - 1 := by rw [w64_of] <;> simp <;> omega
      rw [e, e2, inb_nat, toNat_nat, bif_t (by simp), bif_t (decide_eq_true (by omega)), bif_t (by rw [Nat.ble_eq]; omega)]
      refine ih r (i + 1) _ (by omega) (by omega) ?_
      intro j hj
      by_cases ej : j = i
      · subst ej
        unfold pt
        rw [jn _ _ _ _ _ (Nat.le_refl j), jn _ _ _ _ _ (Nat.le_refl j), Nat.sub_self, show n - 1 - j = r from by omega]
        rfl
      · have := hh j (by omega)
        unfold pt at *
        rw [jo _ _ _ _ _ (by omega), jo _ _ _ _ _ (by omega)]
        exact this
end Go.Eng.R13
/-
  Does a hole cover a square? The program's and the reference's answers are alike, and what they say.
-/
set_option linter.all false
namespace Go.Eng.R13
open Go Go.RowKit Go.Eng Geo
theorem rev_shape_iff {n : Nat} {f g z : Nat → Nat → CV} (e : ∀ j, j < n → pt g j = pt f (n - 1 - j)) : VShape n g 0 z ↔ Valid n f ∧ area n (pt f) < 0 := by
  have e' : ∀ j, j < n → pt f j = pt g (n - 1 - j) := fun j hj => by
    rw [e (n - 1 - j) (by omega), show n - 1 - (n - 1 - j) = j from by omega]
  constructor
  · intro S
    have V := rev_valid S.outer e'
    refine ⟨V, ?_⟩
    have h1 := rev_area V e
    have h2 := S.pos
    omega
  · rintro ⟨V, ha⟩
    refine ⟨by omega, rev_valid V e, ?_, fun j hj => by omega, fun j hj => by omega⟩
    rw [rev_area V e]; omega
theorem onC_onK {n : Nat} {p : Nat → Pt} {q : Pt} : OnC n p q 0 ↔ OnK n p q :=
  ⟨fun ⟨j, _, a, b⟩ => ⟨j, a, b⟩, fun ⟨j, a, b⟩ => ⟨j, Nat.zero_le j, a, b⟩⟩
theorem rev_in {n : Nat} {f g : Nat → Nat → CV} (V : Valid n f) (e : ∀ j, j < n → pt g j = pt f (n - 1 - j)) (q : Pt) : (InC n g q ↔ InC n f q) ∧ (OutC n g q ↔ OutC n f q) := by
  have h1 := rev_onK V e q
  rw [← onC_onK, ← onC_onK] at h1
  unfold InC OutC
  by_cases h : OnC n (pt f) q 0
  · exact ⟨⟨fun hh => absurd (h1.2 h) hh.1, fun hh => absurd h hh.1⟩, ⟨fun hh => absurd (h1.2 h) hh.1, fun hh => absurd h hh.1⟩⟩
  · have h2 := rev_par V e (q := q) (fun hh => h (onC_onK.2 hh))
    rw [h2, h1]
    exact ⟨Iff.rfl, Iff.rfl⟩
def Cl (n : Nat) (f : Nat → Nat → CV) (x y : Int) : Prop := nr x y ∧ ¬ OutC n f (x, y)
theorem place_rev {n : Nat} {f g z : Nat → Nat → CV} (V : Valid n f) (ha : area n (pt f) < 0) (e : ∀ j, j < n → pt g j = pt f (n - 1 - j)) (x y : Int) :
    ∃ w, F22 100 n g 0 z x y = some w ∧ F23 100 n g 0 z x y = some w ∧ (w < 1 ↔ ¬ (nr x y ∧ InC n f (x, y))) ∧ (w < 0 ↔ ¬ Cl n f x y) := by
  obtain ⟨w, h1, h2, h3⟩ := place_full n g 0 z x y
  have S : VShape n g 0 z := (rev_shape_iff e).2 ⟨V, ha⟩
  have hw := (h3 S).single
  refine ⟨w, h1, h2, ?_⟩
  obtain ⟨i1, i2⟩ := rev_in V e (x, y)
  by_cases hq : nr x y
  · have a := hw.one S.outer hq
    have b := hw.out S.outer hq
    have c := hw.range
    rw [i1] at a
    rw [i2] at b
    refine ⟨⟨fun h hh => ?_, fun h => ?_⟩, ⟨fun h hh => hh.2 (b.1 h), fun h => ?_⟩⟩
    · have := a.2 hh.2; omega
    · rcases c with c | c | c
      · exact absurd ⟨hq, a.1 c⟩ h
      · omega
      · omega
    · apply b.2
      apply Classical.byContradiction
      intro hh
      exact h ⟨hq, hh⟩
  · have := hw.2 (fun hh => hq hh.2)
    subst this
    exact ⟨⟨fun _ hh => hq hh.1, fun _ => by decide⟩, ⟨fun _ hh => hq hh.1, fun _ => by decide⟩⟩
structure CovP (n : Nat) (f : Nat → Nat → CV) (l1 l2 h1 h2 : Int) : Prop where
  valid : Valid n f
  neg : area n (pt f) < 0
  mid : nr (w64 (Int.tdiv (w64 (l1 + h1)) 2)) (w64 (Int.tdiv (w64 (l2 + h2)) 2)) ∧ InC n f (w64 (Int.tdiv (w64 (l1 + h1)) 2), w64 (Int.tdiv (w64 (l2 + h2)) 2))
  c0 : Cl n f l1 l2
  c1 : Cl n f h1 l2
  c2 : Cl n f h1 h2
  c3 : Cl n f l1 h2
  cut : ¬ CutK n f l1 l2 h1 h2 0
theorem cor125 {ρ : Type} (n : Nat) (f G : Nat → Nat → CV) (c0 d0 c1 d1 c2 d2 c3 d3 e1 e2 e3 e4 : Int) (z0 z1 z2 z3 : Int) (k0 : Int → Int → Option ρ) (kk k1 : Option ρ) (hk : ∀ x y, k0 x y = kk)
    (h0 : F22 100 n G 0 (fun _ _ => .any) c0 d0 = some z0) (h1 : F22 100 n G 0 (fun _ _ => .any) c1 d1 = some z1) (h2 : F22 100 n G 0 (fun _ _ => .any) c2 d2 = some z2) (h3 : F22 100 n G 0 (fun _ _ => .any) c3 d3 = some z3) :
    L125v3 100 n f c0 d0 c1 d1 c2 d2 c3 d3 e1 e2 e3 e4 G 100 0 k0 k1 = bif decide (z0 < 0) then kk else bif decide (z1 < 0) then kk else bif decide (z2 < 0) then kk else bif decide (z3 < 0) then kk else k1 := by
  have r0 : ∀ m, L125v3 100 n f c0 d0 c1 d1 c2 d2 c3 d3 e1 e2 e3 e4 G (m + 1) 0 k0 k1 = ob (F22 100 n G 0 (fun _ _ => .any) c0 d0) fun z => bif decide (z < 0) then k0 c0 d0 else L125v3 100 n f c0 d0 c1 d1 c2 d2 c3 d3 e1 e2 e3 e4 G m 1 k0 k1 := fun m => rfl
  have r1 : ∀ m, L125v3 100 n f c0 d0 c1 d1 c2 d2 c3 d3 e1 e2 e3 e4 G (m + 1) 1 k0 k1 = ob (F22 100 n G 0 (fun _ _ => .any) c1 d1) fun z => bif decide (z < 0) then k0 c1 d1 else L125v3 100 n f c0 d0 c1 d1 c2 d2 c3 d3 e1 e2 e3 e4 G m 2 k0 k1 := fun m => rfl
  have r2 : ∀ m, L125v3 100 n f c0 d0 c1 d1 c2 d2 c3 d3 e1 e2 e3 e4 G (m + 1) 2 k0 k1 = ob (F22 100 n G 0 (fun _ _ => .any) c2 d2) fun z => bif decide (z < 0) then k0 c2 d2 else L125v3 100 n f c0 d0 c1 d1 c2 d2 c3 d3 e1 e2 e3 e4 G m 3 k0 k1 := fun m => rfl
  have r3 : ∀ m, L125v3 100 n f c0 d0 c1 d1 c2 d2 c3 d3 e1 e2 e3 e4 G (m + 1) 3 k0 k1 = ob (F22 100 n G 0 (fun _ _ => .any) c3 d3) fun z => bif decide (z < 0) then k0 c3 d3 else L125v3 100 n f c0 d0 c1 d1 c2 d2 c3 d3 e1 e2 e3 e4 G m 4 k0 k1 := fun m => rfl
  have r4 : ∀ m, L125v3 100 n f c0 d0 c1 d1 c2 d2 c3 d3 e1 e2 e3 e4 G (m + 1) 4 k0 k1 = k1 := fun m => rfl
  rw [r0 99, h0, ob_some, r1 98, h1, ob_some, r2 97, h2, ob_some, r3 96, h3, ob_some, r4 95, hk, hk, hk, hk]
theorem cor154 {ρ : Type} (n N : Nat) (f G : Nat → Nat → CV) (l1 l2 h1 h2 : Int) (z0 z1 z2 z3 : Int) (k0 k1 : Option ρ)
    (g0 : F23 100 N G 0 (fun _ _ => .any) l1 l2 = some z0) (g1 : F23 100 N G 0 (fun _ _ => .any) h1 l2 = some z1) (g2 : F23 100 N G 0 (fun _ _ => .any) h1 h2 = some z2) (g3 : F23 100 N G 0 (fun _ _ => .any) l1 h2 = some z3) :
    L154v2 100 n f l1 l2 h1 h2 N G (rowsF 2 [(.i .i64 l1), (.i .i64 l2), (.i .i64 h1), (.i .i64 l2), (.i .i64 h1), (.i .i64 h2), (.i .i64 l1), (.i .i64 h2)]) 100 0 k0 k1 =
      bif decide (z0 < 0) then k0 else bif decide (z1 < 0) then k0 else bif decide (z2 < 0) then k0 else bif decide (z3 < 0) then k0 else k1 := by
  generalize hR : rowsF 2 [(.i .i64 l1), (.i .i64 l2), (.i .i64 h1), (.i .i64 l2), (.i .i64 h1), (.i .i64 h2), (.i .i64 l1), (.i .i64 h2)] = R
  have r0 : ∀ m, L154v2 100 n f l1 l2 h1 h2 N G R (m + 1) 0 k0 k1 = ob (F23 100 N G 0 (fun _ _ => .any) l1 l2) fun z => bif decide (z < 0) then k0 else L154v2 100 n f l1 l2 h1 h2 N G R m 1 k0 k1 := by subst hR; exact fun m => rfl
  have r1 : ∀ m, L154v2 100 n f l1 l2 h1 h2 N G R (m + 1) 1 k0 k1 = ob (F23 100 N G 0 (fun _ _ => .any) h1 l2) fun z => bif decide (z < 0) then k0 else L154v2 100 n f l1 l2 h1 h2 N G R m 2 k0 k1 := by subst hR; exact fun m => rfl
  have r2 : ∀ m, L154v2 100 n f l1 l2 h1 h2 N G R (m + 1) 2 k0 k1 = ob (F23 100 N G 0 (fun _ _ => .any) h1 h2) fun z => bif decide (z < 0) then k0 else L154v2 100 n f l1 l2 h1 h2 N G R m 3 k0 k1 := by subst hR; exact fun m => rfl
  have r3 : ∀ m, L154v2 100 n f l1 l2 h1 h2 N G R (m + 1) 3 k0 k1 = ob (F23 100 N G 0 (fun _ _ => .any) l1 h2) fun z => bif decide (z < 0) then k0 else L154v2 100 n f l1 l2 h1 h2 N G R m 4 k0 k1 := by subst hR; exact fun m => rfl
  have r4 : ∀ m, L154v2 100 n f l1 l2 h1 h2 N G R (m + 1) 4 k0 k1 = k1 := fun m => rfl
  rw [r0 99, g0, ob_some, r1 98, g1, ob_some, r2 97, g2, ob_some, r3 96, g3, ob_some, r4 95]
theorem revF_pt (n : Nat) (f : Nat → Nat → CV) : ∀ j, j < n → pt (revF n f) j = pt f (n - 1 - j) := fun j _ => rfl
theorem covers_law (n : Nat) (f : Nat → Nat → CV) (l1 l2 h1 h2 : Int) (hn : n ≤ 40) :
    (CovP n f l1 l2 h1 h2 → F125 100 n f l1 l2 h1 h2 = some true ∧ F154 100 n f l1 l2 h1 h2 = some true) ∧
    (¬ CovP n f l1 l2 h1 h2 → F125 100 n f l1 l2 h1 h2 = some false ∧ F154 100 n f l1 l2 h1 h2 = some false) := by
  obtain ⟨G, hG1, hG2⟩ := rev154 (ρ := Bool) n f l1 l2 h1 h2 hn (fun x25 x26 => (ob (F14 100 x25 x26 0 (fun _ _ => .any)) fun x27 => (bif ((x27 != 0) == false) then (ob (F23 100 x25 x26 0 (fun _ _ => .any) (w64 (Int.tdiv (w64 (l1 + h1)) 2)) (w64 (Int.tdiv (w64 (l2 + h2)) 2))) fun x28 => (bif (decide (x28 < 1)) then (some false) else (L154v2 100 n f l1 l2 h1 h2 x25 x26 (rowsF 2 [(.i .i64 l1), (.i .i64 l2), (.i .i64 h1), (.i .i64 l2), (.i .i64 h1), (.i .i64 h2), (.i .i64 l1), (.i .i64 h2)]) 100 0
    (some false)
    (L154v3 100 n f l1 l2 h1 h2 x25 x26 (rowsF 2 [(.i .i64 l1), (.i .i64 l2), (.i .i64 h1), (.i .i64 l2), (.i .i64 h1), (.i .i64 h2), (.i .i64 l1), (.i .i64 h2)]) 100 0
    (some false)
    (some true))))) else (some false)))) 100 n 0 (fun _ _ => .any) (by omega) (by omega) (fun j hj => by omega)
  have e0 : w64 (Int.ofNat n - 1) = (n : Int) - 1 := by rw [w64_of] <;> simp <;> omega
  have F154e := Eq.trans (a := F154 100 n f l1 l2 h1 h2) (by unfold F154 D154; rw [e0]) hG1
  obtain ⟨c, _, c2, c3⟩ := shape_law n 0 G (fun _ _ => .any)
  rw [rev_shape_iff hG2] at c3
  rw [c2, ob_some] at F154e
  have hrv := revF_pt n f
  by_cases A : Valid n f ∧ area n (pt f) < 0
  · obtain ⟨V, ha⟩ := A
    have nb := V.big
    have hc : c = 0 := c3.2 ⟨V, ha⟩
    subst hc
    obtain ⟨d, d1, _, d3⟩ := shape_law n 0 (revF n f) (fun _ _ => .any)
    rw [rev_shape_iff hrv] at d3
    have hd : d = 0 := d3.2 ⟨V, ha⟩
    subst hd
    obtain ⟨m, pm, _, im, _⟩ := place_rev (z := fun _ _ => .any) V ha hrv (w64 (Int.tdiv (w64 (l1 + h1)) 2)) (w64 (Int.tdiv (w64 (l2 + h2)) 2))
    obtain ⟨z0, p0, _, _, i0⟩ := place_rev (z := fun _ _ => .any) V ha hrv l1 l2
    obtain ⟨z1, p1, _, _, i1⟩ := place_rev (z := fun _ _ => .any) V ha hrv h1 l2
    obtain ⟨z2, p2, _, _, i2⟩ := place_rev (z := fun _ _ => .any) V ha hrv h1 h2
    obtain ⟨z3, p3, _, _, i3⟩ := place_rev (z := fun _ _ => .any) V ha hrv l1 h2
    obtain ⟨m', _, pm', im', _⟩ := place_rev (z := fun _ _ => .any) V ha hG2 (w64 (Int.tdiv (w64 (l1 + h1)) 2)) (w64 (Int.tdiv (w64 (l2 + h2)) 2))
    obtain ⟨z0', _, p0', _, i0'⟩ := place_rev (z := fun _ _ => .any) V ha hG2 l1 l2
    obtain ⟨z1', _, p1', _, i1'⟩ := place_rev (z := fun _ _ => .any) V ha hG2 h1 l2
    obtain ⟨z2', _, p2', _, i2'⟩ := place_rev (z := fun _ _ => .any) V ha hG2 h1 h2
    obtain ⟨z3', _, p3', _, i3'⟩ := place_rev (z := fun _ _ => .any) V ha hG2 l1 h2
    have F125e : F125 100 n f l1 l2 h1 h2 = bif decide (m < 1) then some false else bif decide (z0 < 0) then some false else bif decide (z1 < 0) then some false else bif decide (z2 < 0) then some false else bif decide (z3 < 0) then some false else
        L125v4 100 n f (Int.ofNat n) l1 l2 h1 h2 (revF n f) 100 (Int.ofNat 0) (fun _ _ => some false) (some true) := by
      unfold F125 D125
      rw [bif_t (by rw [Nat.ble_eq]; omega), bif_t (Nat.beq_refl n), bif_f (by cases hq : Nat.beq n 0 with | false => rfl | true => have := Nat.eq_of_beq_eq_true hq; omega), d1, ob_some, bif_f (by rfl), pm, ob_some]
      unfold F123 D123
      rw [ob_some, cor125 (kk := some false) (hk := fun _ _ => rfl) (h0 := p0) (h1 := p1) (h2 := p2) (h3 := p3)]
      rfl
    rw [bif_t (by rfl), pm', ob_some, cor154 (g0 := p0') (g1 := p1') (g2 := p2') (g3 := p3')] at F154e
    have E1 := edges125 n f (revF n f) l1 l2 h1 h2 hn (fun _ _ => some false) (some false) (some true) (fun _ _ => rfl) 100 0 (by omega) (by omega)
    have E2 := edges154 n n f G (rowsF 2 [(.i .i64 l1), (.i .i64 l2), (.i .i64 h1), (.i .i64 l2), (.i .i64 h1), (.i .i64 h2), (.i .i64 l1), (.i .i64 h2)]) l1 l2 h1 h2 hn (some false) (some true) 100 0 (by omega) (by omega)
    have F154e : F154 100 n f l1 l2 h1 h2 = bif decide (m' < 1) then some false else bif decide (z0' < 0) then some false else bif decide (z1' < 0) then some false else bif decide (z2' < 0) then some false else bif decide (z3' < 0) then some false else
        L154v3 100 n f l1 l2 h1 h2 n G (rowsF 2 [(.i .i64 l1), (.i .i64 l2), (.i .i64 h1), (.i .i64 l2), (.i .i64 h1), (.i .i64 h2), (.i .i64 l1), (.i .i64 h2)]) 100 (Int.ofNat 0) (some false) (some true) := F154e
    rw [F125e, F154e]
    by_cases q0 : nr (w64 (Int.tdiv (w64 (l1 + h1)) 2)) (w64 (Int.tdiv (w64 (l2 + h2)) 2)) ∧ InC n f (w64 (Int.tdiv (w64 (l1 + h1)) 2), w64 (Int.tdiv (w64 (l2 + h2)) 2))
    case neg => rw [bif_t (decide_eq_true (im.2 q0)), bif_t (decide_eq_true (im'.2 q0))]; exact ⟨fun h => absurd h.mid q0, fun _ => ⟨rfl, rfl⟩⟩
    rw [bif_f (decide_eq_false (fun h => im.1 h q0)), bif_f (decide_eq_false (fun h => im'.1 h q0))]
    by_cases q1 : Cl n f l1 l2
    case neg => rw [bif_t (decide_eq_true (i0.2 q1)), bif_t (decide_eq_true (i0'.2 q1))]; exact ⟨fun h => absurd h.c0 q1, fun _ => ⟨rfl, rfl⟩⟩
    rw [bif_f (decide_eq_false (fun h => i0.1 h q1)), bif_f (decide_eq_false (fun h => i0'.1 h q1))]
    by_cases q2 : Cl n f h1 l2
    case neg => rw [bif_t (decide_eq_true (i1.2 q2)), bif_t (decide_eq_true (i1'.2 q2))]; exact ⟨fun h => absurd h.c1 q2, fun _ => ⟨rfl, rfl⟩⟩
    rw [bif_f (decide_eq_false (fun h => i1.1 h q2)), bif_f (decide_eq_false (fun h => i1'.1 h q2))]
    by_cases q3 : Cl n f h1 h2
    case neg => rw [bif_t (decide_eq_true (i2.2 q3)), bif_t (decide_eq_true (i2'.2 q3))]; exact ⟨fun h => absurd h.c2 q3, fun _ => ⟨rfl, rfl⟩⟩
    rw [bif_f (decide_eq_false (fun h => i2.1 h q3)), bif_f (decide_eq_false (fun h => i2'.1 h q3))]
    by_cases q4 : Cl n f l1 h2
    case neg => rw [bif_t (decide_eq_true (i3.2 q4)), bif_t (decide_eq_true (i3'.2 q4))]; exact ⟨fun h => absurd h.c3 q4, fun _ => ⟨rfl, rfl⟩⟩
    rw [bif_f (decide_eq_false (fun h => i3.1 h q4)), bif_f (decide_eq_false (fun h => i3'.1 h q4))]
    by_cases q5 : CutK n f l1 l2 h1 h2 0
    · rw [E1.1 q5, E2.1 q5]
      exact ⟨fun h => absurd q5 h.cut, fun _ => ⟨rfl, rfl⟩⟩
    · rw [E1.2 q5, E2.2 q5]
      exact ⟨fun _ => ⟨rfl, rfl⟩, fun h => absurd ⟨V, ha, q0, q1, q2, q3, q4, q5⟩ h⟩
  · have hc : (c != 0) = true := by
      rw [bne_iff_ne]; intro h; exact A (c3.1 h)
    rw [hc, bif_f (by rfl)] at F154e
    refine ⟨fun h => absurd ⟨h.valid, h.neg⟩ A, fun _ => ⟨?_, F154e⟩⟩
    unfold F125 D125
    rw [bif_t (by rw [Nat.ble_eq]; omega), bif_t (Nat.beq_refl n)]
    by_cases h0 : n = 0
    · subst h0
      obtain ⟨d, d1, _, d3⟩ := shape_law 0 0 f (fun _ _ => .any)
      have hd : (d != 0) = true := by
        rw [bne_iff_ne]; intro h; have := (d3.1 h).outer.big; omega
      rw [bif_t (by rfl), d1, ob_some, bif_t hd]
    · obtain ⟨d, d1, _, d3⟩ := shape_law n 0 (revF n f) (fun _ _ => .any)
      rw [rev_shape_iff hrv] at d3
      have hd : (d != 0) = true := by
        rw [bne_iff_ne]; intro h; exact A (d3.1 h)
      rw [bif_f (by cases hq : Nat.beq n 0 with | false => rfl | true => exact absurd (Nat.eq_of_beq_eq_true hq) h0), d1, ob_some, bif_t hd]
end Go.Eng.R13
/-
  Light parts; what a hole covers of an opening: PenetrationCovers.
-/
set_option linter.all false
namespace Go.Eng.R13
open Go Go.RowKit Go.Eng Geo
theorem light_loop {ρ : Type} (g : Nat → CV) (k0 k1 : Option ρ) : ∀ (m i : Nat), 20 < m + i → i ≤ 20 →
    L100v1 100 g m (Int.ofNat i) k0 k1 = k0 ∨
    (L100v1 100 g m (Int.ofNat i) k0 k1 = k1 ∧ ∀ j, i ≤ j → j < (CV.len (g 7)) → j < 20 → CV.len ((CV.el (g 7)) j 0) ≤ 40) := by
  intro m
  induction m with
  | zero => intro i h1 h2; omega
  | succ m ih =>
    intro i h1 h2
    unfold L100v1
    rw [lt_nat, inb_nat, toNat_nat]
    by_cases h : i < (CV.len (g 7))
    · rw [bif_t (by simp [h])]
      by_cases h20 : i < 20
      · rw [bif_t (decide_eq_true (by simp; omega)), bif_t (by simpa using h), w64_succ (by omega)]
        by_cases h3 : CV.len ((CV.el (g 7)) i 0) ≤ 40
        · rw [bif_f (by simp; omega)]
          rcases ih (i + 1) (by omega) (by omega) with h4 | ⟨h4, h5⟩
          · exact .inl h4
          · refine .inr ⟨h4, fun j h6 h7 h8 => ?_⟩
            by_cases e : j = i
            · rw [e]; exact h3
            · exact h5 j (by omega) h7 h8
        · rw [bif_t (by simp; omega)]
          exact .inl rfl
      · rw [bif_f (decide_eq_false (by simp; omega))]
        exact .inr ⟨rfl, fun j h6 h7 h8 => by omega⟩
    · rw [bif_f (by simp [h])]
      exact .inr ⟨rfl, fun j h6 h7 => by omega⟩
theorem light_law (g : Nat → CV) :
    F100 100 g = some false ∨
    (F100 100 g = some true ∧ (CV.len (g 6)) ≤ 40 ∧ (CV.len (g 7)) ≤ 12 ∧ ∀ j, j < (CV.len (g 7)) → CV.len ((CV.el (g 7)) j 0) ≤ 40) := by
  unfold F100 D100
  rcases light_loop g (some false) (bif ((decide ((Int.ofNat (CV.len (g 6))) ≤ 40)) == true) then (some (decide ((Int.ofNat (CV.len (g 7))) ≤ 12))) else (some false)) 100 0 (by omega) (by omega) with h | ⟨h, h2⟩
  · exact .inl h
  · by_cases h7 : (CV.len (g 6)) ≤ 40
    · by_cases h9 : (CV.len (g 7)) ≤ 12
      · exact .inr ⟨h.trans (by rw [bif_t (by simp; omega), decide_eq_true (show (Int.ofNat (CV.len (g 7))) ≤ 12 by simp; omega)]), h7, h9, fun j hj => h2 j (by omega) hj (by omega)⟩
      · exact .inl (h.trans (by rw [bif_t (by simp; omega), decide_eq_false (show ¬ (Int.ofNat (CV.len (g 7))) ≤ 12 by simp; omega)]))
    · exact .inl (h.trans (by rw [bif_f (by simp; omega)]))
def CovK (n9 : Nat) (f10 : Nat → Nat → CV) (l1 l2 h1 h2 : Int) (i : Nat) : Prop := ∃ j, i ≤ j ∧ j < n9 ∧ CovP (CV.len (f10 j 0)) (CV.el (f10 j 0)) l1 l2 h1 h2
theorem CovK.step {n9 : Nat} {f10 : Nat → Nat → CV} {l1 l2 h1 h2 : Int} {i : Nat} (h : ¬ CovP (CV.len (f10 i 0)) (CV.el (f10 i 0)) l1 l2 h1 h2) : CovK n9 f10 l1 l2 h1 h2 i ↔ CovK n9 f10 l1 l2 h1 h2 (i + 1) := by
  constructor
  · rintro ⟨j, a, b, c⟩
    refine ⟨j, ?_, b, c⟩
    by_cases e : j = i
    · subst e; exact absurd c h
    · omega
  · rintro ⟨j, a, b, c⟩
    exact ⟨j, by omega, b, c⟩
theorem holes127 {ρ : Type} (n9 : Nat) (f10 : Nat → Nat → CV) (l1 l2 h1 h2 : Int) (hn : n9 ≤ 60) (hl : ∀ j, j < n9 → CV.len (f10 j 0) ≤ 40) (k0 : Int → Option ρ) (k1 : Option ρ) : ∀ (m i : Nat), n9 < m + i → i ≤ n9 →
    (CovK n9 f10 l1 l2 h1 h2 i → ∃ j : Nat, L127v1 100 n9 f10 (listF [(.i .i64 l1), (.i .i64 l2), (.i .i64 h1), (.i .i64 h2)]) (Int.ofNat n9) m (Int.ofNat i) k0 k1 = k0 (Int.ofNat j)) ∧
    (¬ CovK n9 f10 l1 l2 h1 h2 i → L127v1 100 n9 f10 (listF [(.i .i64 l1), (.i .i64 l2), (.i .i64 h1), (.i .i64 h2)]) (Int.ofNat n9) m (Int.ofNat i) k0 k1 = k1) := by
  intro m
  induction m with
  | zero => intro i h1 h2; omega
  | succ m ih =>
    intro i h3 h4
    unfold L127v1
    rw [lt_nat, inb_nat, toNat_nat]
    by_cases h : i < n9
    · have e126 : F126 100 (CV.len (f10 i 0)) (CV.el (f10 i 0)) (listF [(.i .i64 l1), (.i .i64 l2), (.i .i64 h1), (.i .i64 h2)]) = ob (F125 100 (CV.len (f10 i 0)) (CV.el (f10 i 0)) l1 l2 h1 h2) some := rfl
      obtain ⟨c1, c2⟩ := covers_law (CV.len (f10 i 0)) (CV.el (f10 i 0)) l1 l2 h1 h2 (hl i h)
      rw [bif_t (by simpa using h), bif_t (by simpa using h), w64_succ (by omega), e126]
      by_cases hc : CovP (CV.len (f10 i 0)) (CV.el (f10 i 0)) l1 l2 h1 h2
      · rw [(c1 hc).1, ob_some, ob_some, bif_t rfl]
        exact ⟨fun _ => ⟨i, rfl⟩, fun hh => absurd ⟨i, Nat.le_refl i, h, hc⟩ hh⟩
      · rw [(c2 hc).1, ob_some, ob_some, bif_f rfl, CovK.step hc]
        exact ih (i + 1) (by omega) (by omega)
    · rw [bif_f (by simpa using h)]
      exact ⟨fun ⟨j, a, b, _⟩ => by omega, fun _ => rfl⟩
theorem holes155 {ρ : Type} (g : Nat → CV) (s21 : ByteArray) (a22 a23 a24 : Int) (l1 l2 h1 h2 : Int) (hn : (CV.len (g 7)) ≤ 60) (hl : ∀ j, j < (CV.len (g 7)) → CV.len ((CV.el (g 7)) j 0) ≤ 40) (k0 k1 : Option ρ) : ∀ (m i : Nat), (CV.len (g 7)) < m + i → i ≤ (CV.len (g 7)) →
    (CovK (CV.len (g 7)) (CV.el (g 7)) l1 l2 h1 h2 i → L155v1 100 g s21 a22 a23 a24 l1 l2 h1 h2 m (Int.ofNat i) k0 k1 = k0) ∧
    (¬ CovK (CV.len (g 7)) (CV.el (g 7)) l1 l2 h1 h2 i → L155v1 100 g s21 a22 a23 a24 l1 l2 h1 h2 m (Int.ofNat i) k0 k1 = k1) := by
  intro m
  induction m with
  | zero => intro i h1 h2; omega
  | succ m ih =>
    intro i h3 h4
    unfold L155v1
    rw [lt_nat, inb_nat, toNat_nat]
    by_cases h : i < (CV.len (g 7))
    · obtain ⟨c1, c2⟩ := covers_law (CV.len ((CV.el (g 7)) i 0)) (CV.el ((CV.el (g 7)) i 0)) l1 l2 h1 h2 (hl i h)
      rw [bif_t (by simpa using h), bif_t (by simpa using h), w64_succ (by omega)]
      by_cases hc : CovP (CV.len ((CV.el (g 7)) i 0)) (CV.el ((CV.el (g 7)) i 0)) l1 l2 h1 h2
      · rw [(c1 hc).2, ob_some, bif_t rfl]
        exact ⟨fun _ => rfl, fun hh => absurd ⟨i, Nat.le_refl i, h, hc⟩ hh⟩
      · rw [(c2 hc).2, ob_some, bif_f rfl, CovK.step hc]
        exact ih (i + 1) (by omega) (by omega)
    · rw [bif_f (by simpa using h)]
      exact ⟨fun ⟨j, a, b, _⟩ => by omega, fun _ => rfl⟩
def hf (s : Int) : Int := w64 (Int.tdiv (w64 (s + 1)) 2)
structure CovO (s1 : ByteArray) (n9 : Nat) (f10 : Nat → Nat → CV) (s21 : ByteArray) (x y s : Int) : Prop where
  same : (ByteArray.toList s21 == ByteArray.toList s1) = true
  low : 1 ≤ s
  high : s ≤ 10000
  near : nr x y
  cov : CovK n9 f10 (w64 (x - hf s)) (w64 (y - hf s)) (w64 (x + hf s)) (w64 (y + hf s)) 0
theorem near151 (x : Int) : F151 100 x = some (decide (-32768 ≤ x ∧ x ≤ 32768)) := by
  unfold F151 D151
  by_cases h : x ≥ -32768
  · rw [bif_t (by simp [h])]
    congr 1
    exact decide_eq_decide.2 ⟨fun h2 => ⟨h, h2⟩, fun h2 => h2.2⟩
  · rw [bif_f (by simp [h])]
    rw [decide_eq_false (fun h2 => h h2.1)]
theorem covered129 (g : Nat → CV) (s21 : ByteArray) (a22 a23 a24 : Int) (hn : (CV.len (g 7)) ≤ 60) (hl : ∀ j, j < (CV.len (g 7)) → CV.len ((CV.el (g 7)) j 0) ≤ 40) :
    (CovO (CV.str (g 0)) (CV.len (g 7)) (CV.el (g 7)) s21 a22 a23 a24 → F129 100 g s21 a22 a23 a24 = some true) ∧
    (¬ CovO (CV.str (g 0)) (CV.len (g 7)) (CV.el (g 7)) s21 a22 a23 a24 → F129 100 g s21 a22 a23 a24 = some false) := by
  unfold F129 D129
  cases hs : (ByteArray.toList s21 == ByteArray.toList (CV.str (g 0))) with
  | false => rw [bif_f (by rfl)]; exact ⟨fun h => (by have := h.same; rw [hs] at this; cases this), fun _ => rfl⟩
  | true =>
    rw [bif_t (by rfl)]
    by_cases q1 : a24 < 1
    · rw [bif_f (by simp [q1])]; exact ⟨fun h => (by have := h.low; omega), fun _ => rfl⟩
    rw [bif_t (by simp only [decide_eq_false q1]; rfl)]
    by_cases q2 : a24 > 10000
    · rw [bif_f (by simp only [decide_eq_true q2]; rfl)]; exact ⟨fun h => (by have := h.high; omega), fun _ => rfl⟩
    rw [bif_t (by simp only [decide_eq_false q2]; rfl)]
    by_cases q3 : nr a22 a23
    case neg =>
      have hno : ¬ CovO (CV.str (g 0)) (CV.len (g 7)) (CV.el (g 7)) s21 a22 a23 a24 := fun h => q3 h.near
      refine ⟨fun h => absurd h hno, fun _ => ?_⟩
      by_cases h1 : (if a23 > a22 then a23 else a22) > 32768
      · rw [bif_f (by simp only [decide_eq_true h1]; rfl)]
      · rw [bif_t (by simp only [decide_eq_false h1]; rfl), bif_t]
        apply decide_eq_true
        apply Classical.byContradiction
        intro h2
        apply q3
        unfold nr
        split at h1 <;> split at h2 <;> omega
    have q3' := q3
    unfold nr at q3'
    rw [bif_t (by rw [decide_eq_false (by split <;> omega)]; rfl), bif_f (decide_eq_false (by split <;> omega))]
    unfold F128 D128 F127 D127
    have H1 := holes127 (CV.len (g 7)) (CV.el (g 7)) (w64 (a22 - hf a24)) (w64 (a23 - hf a24)) (w64 (a22 + hf a24)) (w64 (a23 + hf a24)) hn hl some (some (-1)) 100 0 (by omega) (by omega)
    refine ⟨fun h => ?_, fun h => ?_⟩
    · obtain ⟨j, hj⟩ := H1.1 h.cov
      refine (congrArg (fun z => ob (ob z fun x4 => some (decide (x4 ≥ 0))) fun x25 => some x25) hj).trans ?_
      show some (decide ((Int.ofNat j) ≥ 0)) = some true
      rw [decide_eq_true (by simp)]
    · have hk : ¬ CovK (CV.len (g 7)) (CV.el (g 7)) (w64 (a22 - hf a24)) (w64 (a23 - hf a24)) (w64 (a22 + hf a24)) (w64 (a23 + hf a24)) 0 := fun hh => h ⟨hs, by omega, by omega, q3, hh⟩
      exact (congrArg (fun z => ob (ob z fun x4 => some (decide (x4 ≥ 0))) fun x25 => some x25) (H1.2 hk)).trans rfl
theorem covered155 (g : Nat → CV) (s21 : ByteArray) (a22 a23 a24 : Int) (hn : (CV.len (g 7)) ≤ 60) (hl : ∀ j, j < (CV.len (g 7)) → CV.len ((CV.el (g 7)) j 0) ≤ 40) :
    (CovO (CV.str (g 0)) (CV.len (g 7)) (CV.el (g 7)) s21 a22 a23 a24 → F155 100 g s21 a22 a23 a24 = some true) ∧
    (¬ CovO (CV.str (g 0)) (CV.len (g 7)) (CV.el (g 7)) s21 a22 a23 a24 → F155 100 g s21 a22 a23 a24 = some false) := by
  unfold F155 D155
  cases hs : (ByteArray.toList s21 == ByteArray.toList (CV.str (g 0))) with
  | false => rw [bif_f (by rfl)]; exact ⟨fun h => (by have := h.same; rw [hs] at this; cases this), fun _ => rfl⟩
  | true =>
    rw [bif_t (by rfl)]
    by_cases q1 : a24 < 1
    · rw [bif_f (by simp [q1])]; exact ⟨fun h => (by have := h.low; omega), fun _ => rfl⟩
    rw [bif_t (by simp only [decide_eq_false q1]; rfl)]
    by_cases q2 : a24 > 10000
    · rw [bif_f (by simp only [decide_eq_true q2]; rfl)]; exact ⟨fun h => (by have := h.high; omega), fun _ => rfl⟩
    rw [bif_t (by simp only [decide_eq_false q2]; rfl), near151, ob_some]
    by_cases h1 : -32768 ≤ a22 ∧ a22 ≤ 32768
    case neg => rw [bif_f (by simp only [decide_eq_false h1]; rfl)]; exact ⟨fun h => absurd ⟨h.near.1, h.near.2.1⟩ h1, fun _ => rfl⟩
    rw [bif_t (by simp only [decide_eq_true h1]; rfl), near151, ob_some]
    by_cases h2 : -32768 ≤ a23 ∧ a23 ≤ 32768
    case neg => rw [bif_t (by simp only [decide_eq_false h2]; rfl)]; exact ⟨fun h => absurd ⟨h.near.2.2.1, h.near.2.2.2⟩ h2, fun _ => rfl⟩
    rw [bif_f (by simp only [decide_eq_true h2]; rfl)]
    have H2 := holes155 g s21 a22 a23 a24 (w64 (a22 - hf a24)) (w64 (a23 - hf a24)) (w64 (a22 + hf a24)) (w64 (a23 + hf a24)) hn hl (some true) (some false) 100 0 (by omega) (by omega)
    refine ⟨fun h => H2.1 h.cov, fun h => ?_⟩
    have hk : ¬ CovK (CV.len (g 7)) (CV.el (g 7)) (w64 (a22 - hf a24)) (w64 (a23 - hf a24)) (w64 (a22 + hf a24)) (w64 (a23 + hf a24)) 0 := fun hh => h ⟨hs, by omega, by omega, ⟨h1.1, h1.2, h2.1, h2.2⟩, hh⟩
    exact H2.2 hk
theorem awake_law : F132 100 = some true := by kernel_rfl
end Go.Eng.R13
/-
  Rectangles, and segments that have a point inside of them.
-/
set_option linter.all false
namespace Geo
theorem mpp {x y : Int} (h1 : 0 < x) (h2 : 0 < y) : 0 < x * y := Int.mul_pos h1 h2
theorem mpn {x y : Int} (h1 : 0 < x) (h2 : y ≤ 0) : x * y ≤ 0 := by
  have := Int.mul_nonneg (Int.le_of_lt h1) (show 0 ≤ -y by omega)
  rw [Int.mul_neg] at this; omega
theorem mnp {x y : Int} (h1 : x < 0) (h2 : 0 < y) : x * y < 0 := by
  have := Int.mul_pos (show 0 < -x by omega) h2
  rw [Int.neg_mul] at this; omega
theorem mnn {x y : Int} (h1 : x < 0) (h2 : y ≤ 0) : 0 ≤ x * y := by
  have := Int.mul_nonneg (show 0 ≤ -x by omega) (show 0 ≤ -y by omega)
  rw [Int.neg_mul_neg] at this; exact this
theorem sep {α β t : Int} (hon : ∀ q c d : Pt, On q c d → (ht α β c ≤ ht α β q ∨ ht α β d ≤ ht α β q) ∧ (ht α β q ≤ ht α β c ∨ ht α β q ≤ ht α β d)) {a b u v : Pt}
    (ha : ht α β a ≤ t) (hb : ht α β b ≤ t) (hu : t < ht α β u) (hv : t < ht α β v) : ¬ Meet u v a b := by
  rintro (h | h | h | h | ⟨h1, h2⟩)
  · have := (hon _ _ _ h).1; omega
  · have := (hon _ _ _ h).1; omega
  · have := (hon _ _ _ h).2; omega
  · have := (hon _ _ _ h).2; omega
  · have e1 := cross_diff a b u v
    have e2 := cross_lvl α β t a b u v
    rcases h1 with ⟨r, s⟩ | ⟨r, s⟩ <;> rcases h2 with ⟨p, q⟩ | ⟨p, q⟩
    · omega
    · have f1 := mpp p (show 0 < ht α β v - t by omega)
      have f2 := mnp q (show 0 < ht α β u - t by omega)
      have f3 := mpn s (show ht α β a - t ≤ 0 by omega)
      have f4 := mnn r (show ht α β b - t ≤ 0 by omega)
      omega
    · have f1 := mnp p (show 0 < ht α β v - t by omega)
      have f2 := mpp q (show 0 < ht α β u - t by omega)
      have f3 := mnn s (show ht α β a - t ≤ 0 by omega)
      have f4 := mpn r (show ht α β b - t ≤ 0 by omega)
      omega
    · omega
theorem on_x1 (q c d : Pt) (h : On q c d) : (ht 1 0 c ≤ ht 1 0 q ∨ ht 1 0 d ≤ ht 1 0 q) ∧ (ht 1 0 q ≤ ht 1 0 c ∨ ht 1 0 q ≤ ht 1 0 d) := by
  obtain ⟨_, h1, _⟩ := h; unfold btw at h1; unfold ht; omega
theorem on_x2 (q c d : Pt) (h : On q c d) : (ht (-1) 0 c ≤ ht (-1) 0 q ∨ ht (-1) 0 d ≤ ht (-1) 0 q) ∧ (ht (-1) 0 q ≤ ht (-1) 0 c ∨ ht (-1) 0 q ≤ ht (-1) 0 d) := by
  obtain ⟨_, h1, _⟩ := h; unfold btw at h1; unfold ht; omega
theorem on_y1 (q c d : Pt) (h : On q c d) : (ht 0 1 c ≤ ht 0 1 q ∨ ht 0 1 d ≤ ht 0 1 q) ∧ (ht 0 1 q ≤ ht 0 1 c ∨ ht 0 1 q ≤ ht 0 1 d) := by
  obtain ⟨_, _, h1⟩ := h; unfold btw at h1; unfold ht; omega
theorem on_y2 (q c d : Pt) (h : On q c d) : (ht 0 (-1) c ≤ ht 0 (-1) q ∨ ht 0 (-1) d ≤ ht 0 (-1) q) ∧ (ht 0 (-1) q ≤ ht 0 (-1) c ∨ ht 0 (-1) q ≤ ht 0 (-1) d) := by
  obtain ⟨_, _, h1⟩ := h; unfold btw at h1; unfold ht; omega
theorem sep_x1 {t : Int} {a b u v : Pt} (ha : a.1 ≤ t) (hb : b.1 ≤ t) (hu : t < u.1) (hv : t < v.1) : ¬ Meet u v a b :=
  sep on_x1 (t := t) (by unfold ht; omega) (by unfold ht; omega) (by unfold ht; omega) (by unfold ht; omega)
theorem sep_x2 {t : Int} {a b u v : Pt} (ha : t ≤ a.1) (hb : t ≤ b.1) (hu : u.1 < t) (hv : v.1 < t) : ¬ Meet u v a b :=
  sep on_x2 (t := -t) (by unfold ht; omega) (by unfold ht; omega) (by unfold ht; omega) (by unfold ht; omega)
theorem sep_y1 {t : Int} {a b u v : Pt} (ha : a.2 ≤ t) (hb : b.2 ≤ t) (hu : t < u.2) (hv : t < v.2) : ¬ Meet u v a b :=
  sep on_y1 (t := t) (by unfold ht; omega) (by unfold ht; omega) (by unfold ht; omega) (by unfold ht; omega)
theorem sep_y2 {t : Int} {a b u v : Pt} (ha : t ≤ a.2) (hb : t ≤ b.2) (hu : u.2 < t) (hv : v.2 < t) : ¬ Meet u v a b :=
  sep on_y2 (t := -t) (by unfold ht; omega) (by unfold ht; omega) (by unfold ht; omega) (by unfold ht; omega)
def Some4 (P : Pt → Prop) (l1 l2 h1 h2 : Int) : Prop := P (l1, l2) ∨ P (h1, l2) ∨ P (h1, h2) ∨ P (l1, h2)
theorem best {a b u : Pt} {l1 l2 h1 h2 : Int} (x1 : l1 ≤ u.1) (x2 : u.1 ≤ h1) (y1 : l2 ≤ u.2) (y2 : u.2 ≤ h2) : Some4 (fun c => cross a b u ≤ cross a b c ∧ ((l1 < u.1 ∧ u.1 < h1 ∧ l2 < u.2 ∧ u.2 < h2 ∧ a ≠ b) → cross a b u < cross a b c)) l1 l2 h1 h2 := by
  have key : ∀ c : Pt, cross a b c - cross a b u = (b.1 - a.1) * (c.2 - u.2) - (b.2 - a.2) * (c.1 - u.1) := fun c => by unfold cross; grind
  have ne : a ≠ b → (b.1 - a.1 ≠ 0 ∨ b.2 - a.2 ≠ 0) := by
    intro h
    by_cases e1 : b.1 - a.1 = 0
    · right
      intro e2
      exact h (Prod.ext (by omega) (by omega))
    · exact .inl e1
  generalize hP : b.1 - a.1 = P at key ne
  generalize hQ : b.2 - a.2 = Q at key ne
  unfold Some4
  rcases Int.le_total 0 P with p | p <;> rcases Int.le_total 0 Q with q | q
  · refine .inr (.inr (.inr ?_))
    have k := key (l1, h2)
    have f1 := Int.mul_nonneg p (show 0 ≤ h2 - u.2 by omega)
    have f2 := Int.mul_nonneg q (show 0 ≤ u.1 - l1 by omega)
    have e2 : Q * (l1 - u.1) = - (Q * (u.1 - l1)) := by grind
    simp only at k
    refine ⟨by omega, fun ⟨s1, s2, s3, s4, s5⟩ => ?_⟩
    rcases ne s5 with h | h
    · have := Int.mul_pos (show 0 < P by omega) (show 0 < h2 - u.2 by omega); omega
    · have := Int.mul_pos (show 0 < Q by omega) (show 0 < u.1 - l1 by omega); omega
  · refine .inr (.inr (.inl ?_))
    have k := key (h1, h2)
    have f1 := Int.mul_nonneg p (show 0 ≤ h2 - u.2 by omega)
    have f2 := Int.mul_nonneg (show 0 ≤ -Q by omega) (show 0 ≤ h1 - u.1 by omega)
    have e2 : Q * (h1 - u.1) = - ((-Q) * (h1 - u.1)) := by grind
    simp only at k
    refine ⟨by omega, fun ⟨s1, s2, s3, s4, s5⟩ => ?_⟩
    rcases ne s5 with h | h
    · have := Int.mul_pos (show 0 < P by omega) (show 0 < h2 - u.2 by omega); omega
    · have := Int.mul_pos (show 0 < -Q by omega) (show 0 < h1 - u.1 by omega); omega
  · refine .inl ?_
    have k := key (l1, l2)
    have f1 := Int.mul_nonneg (show 0 ≤ -P by omega) (show 0 ≤ u.2 - l2 by omega)
    have f2 := Int.mul_nonneg q (show 0 ≤ u.1 - l1 by omega)
    have e1 : P * (l2 - u.2) = (-P) * (u.2 - l2) := by grind
    have e2 : Q * (l1 - u.1) = - (Q * (u.1 - l1)) := by grind
    simp only at k
    refine ⟨by omega, fun ⟨s1, s2, s3, s4, s5⟩ => ?_⟩
    rcases ne s5 with h | h
    · have := Int.mul_pos (show 0 < -P by omega) (show 0 < u.2 - l2 by omega); omega
    · have := Int.mul_pos (show 0 < Q by omega) (show 0 < u.1 - l1 by omega); omega
  · refine .inr (.inl ?_)
    have k := key (h1, l2)
    have f1 := Int.mul_nonneg (show 0 ≤ -P by omega) (show 0 ≤ u.2 - l2 by omega)
    have f2 := Int.mul_nonneg (show 0 ≤ -Q by omega) (show 0 ≤ h1 - u.1 by omega)
    have e1 : P * (l2 - u.2) = (-P) * (u.2 - l2) := by grind
    have e2 : Q * (h1 - u.1) = - ((-Q) * (h1 - u.1)) := by grind
    simp only at k
    refine ⟨by omega, fun ⟨s1, s2, s3, s4, s5⟩ => ?_⟩
    rcases ne s5 with h | h
    · have := Int.mul_pos (show 0 < -P by omega) (show 0 < u.2 - l2 by omega); omega
    · have := Int.mul_pos (show 0 < -Q by omega) (show 0 < h1 - u.1 by omega); omega
theorem Some4.imp {P Q : Pt → Prop} {l1 l2 h1 h2 : Int} (h : Some4 P l1 l2 h1 h2) (i : ∀ c, P c → Q c) : Some4 Q l1 l2 h1 h2 :=
  by
    rcases h with h | h | h | h
    · exact .inl (i _ h)
    · exact .inr (.inl (i _ h))
    · exact .inr (.inr (.inl (i _ h)))
    · exact .inr (.inr (.inr (i _ h)))
structure Cut (l1 l2 h1 h2 : Int) (a b : Pt) : Prop where
  x1 : ¬ (a.1 ≤ l1 ∧ b.1 ≤ l1)
  x2 : ¬ (h1 ≤ a.1 ∧ h1 ≤ b.1)
  y1 : ¬ (a.2 ≤ l2 ∧ b.2 ≤ l2)
  y2 : ¬ (h2 ≤ a.2 ∧ h2 ≤ b.2)
  pos : Some4 (fun c => 0 < cross a b c) l1 l2 h1 h2
  neg : Some4 (fun c => cross a b c < 0) l1 l2 h1 h2
theorem some_pos {a b u : Pt} {l1 l2 h1 h2 : Int} (x1 : l1 ≤ u.1) (x2 : u.1 ≤ h1) (y1 : l2 ≤ u.2) (y2 : u.2 ≤ h2) (h : 0 < cross a b u) : Some4 (fun c => 0 < cross a b c) l1 l2 h1 h2 :=
  (best (a := a) (b := b) x1 x2 y1 y2).imp fun c hc => by have := hc.1; omega
theorem some_neg {a b u : Pt} {l1 l2 h1 h2 : Int} (x1 : l1 ≤ u.1) (x2 : u.1 ≤ h1) (y1 : l2 ≤ u.2) (y2 : u.2 ≤ h2) (h : cross a b u < 0) : Some4 (fun c => cross a b c < 0) l1 l2 h1 h2 :=
  (best (a := b) (b := a) x1 x2 y1 y2).imp fun c hc => by
    have e0 := hc.1
    have e1 := cross_swap a b u
    have e2 := cross_swap a b c
    omega
theorem zero_pos {a b u : Pt} {l1 l2 h1 h2 : Int} (x1 : l1 < u.1) (x2 : u.1 < h1) (y1 : l2 < u.2) (y2 : u.2 < h2) (hab : a ≠ b) (h : 0 ≤ cross a b u) : Some4 (fun c => 0 < cross a b c) l1 l2 h1 h2 :=
  (best (a := a) (b := b) (Int.le_of_lt x1) (Int.le_of_lt x2) (Int.le_of_lt y1) (Int.le_of_lt y2)).imp fun c hc => by
    have := hc.2 ⟨x1, x2, y1, y2, hab⟩; omega
theorem zero_neg {a b u : Pt} {l1 l2 h1 h2 : Int} (x1 : l1 < u.1) (x2 : u.1 < h1) (y1 : l2 < u.2) (y2 : u.2 < h2) (hab : a ≠ b) (h : cross a b u ≤ 0) : Some4 (fun c => cross a b c < 0) l1 l2 h1 h2 :=
  (best (a := b) (b := a) (Int.le_of_lt x1) (Int.le_of_lt x2) (Int.le_of_lt y1) (Int.le_of_lt y2)).imp fun c hc => by
    have := hc.2 ⟨x1, x2, y1, y2, Ne.symm hab⟩
    have e1 := cross_swap a b u
    have e2 := cross_swap a b c
    omega
theorem cut_mono {a b : Pt} {l1 l2 h1 h2 m1 m2 k1 k2 : Int} (e1 : l1 ≤ m1) (e2 : l2 ≤ m2) (e3 : k1 ≤ h1) (e4 : k2 ≤ h2) (e5 : m1 ≤ k1) (e6 : m2 ≤ k2) (h : Cut m1 m2 k1 k2 a b) : Cut l1 l2 h1 h2 a b := by
  refine ⟨fun hh => h.x1 ⟨by omega, by omega⟩, fun hh => h.x2 ⟨by omega, by omega⟩, fun hh => h.y1 ⟨by omega, by omega⟩, fun hh => h.y2 ⟨by omega, by omega⟩, ?_, ?_⟩
  · rcases h.pos with h | h | h | h <;> exact some_pos (u := (_, _)) (by simp only; omega) (by simp only; omega) (by simp only; omega) (by simp only; omega) h
  · rcases h.neg with h | h | h | h <;> exact some_neg (u := (_, _)) (by simp only; omega) (by simp only; omega) (by simp only; omega) (by simp only; omega) h
theorem cut_of_meet {a b u v : Pt} {l1 l2 h1 h2 : Int} (hab : a ≠ b) (ux1 : l1 < u.1) (ux2 : u.1 < h1) (uy1 : l2 < u.2) (uy2 : u.2 < h2) (vx1 : l1 < v.1) (vx2 : v.1 < h1) (vy1 : l2 < v.2) (vy2 : v.2 < h2)
    (h : Meet u v a b) : Cut l1 l2 h1 h2 a b := by
  refine ⟨fun hh => sep_x1 hh.1 hh.2 ux1 vx1 h, fun hh => sep_x2 hh.1 hh.2 ux2 vx2 h, fun hh => sep_y1 hh.1 hh.2 uy1 vy1 h, fun hh => sep_y2 hh.1 hh.2 uy2 vy2 h, ?_, ?_⟩
  · rcases h with h | h | h | h | ⟨_, h⟩
    · obtain ⟨_, b1, b2⟩ := h
      unfold btw at b1 b2
      exact zero_pos (u := a) (by omega) (by omega) (by omega) (by omega) hab (by rw [cross_self_left]; exact Int.le_refl 0)
    · obtain ⟨_, b1, b2⟩ := h
      unfold btw at b1 b2
      exact zero_pos (u := b) (by omega) (by omega) (by omega) (by omega) hab (by rw [cross_self_right]; exact Int.le_refl 0)
    · exact zero_pos ux1 ux2 uy1 uy2 hab (by rw [h.1]; exact Int.le_refl 0)
    · exact zero_pos vx1 vx2 vy1 vy2 hab (by rw [h.1]; exact Int.le_refl 0)
    · rcases h with h | h
      · exact zero_pos vx1 vx2 vy1 vy2 hab (by omega)
      · exact zero_pos ux1 ux2 uy1 uy2 hab (by omega)
  · rcases h with h | h | h | h | ⟨_, h⟩
    · obtain ⟨_, b1, b2⟩ := h
      unfold btw at b1 b2
      exact zero_neg (u := a) (by omega) (by omega) (by omega) (by omega) hab (by rw [cross_self_left]; exact Int.le_refl 0)
    · obtain ⟨_, b1, b2⟩ := h
      unfold btw at b1 b2
      exact zero_neg (u := b) (by omega) (by omega) (by omega) (by omega) hab (by rw [cross_self_right]; exact Int.le_refl 0)
    · exact zero_neg ux1 ux2 uy1 uy2 hab (by rw [h.1]; exact Int.le_refl 0)
    · exact zero_neg vx1 vx2 vy1 vy2 hab (by rw [h.1]; exact Int.le_refl 0)
    · rcases h with h | h
      · exact zero_neg ux1 ux2 uy1 uy2 hab (by omega)
      · exact zero_neg vx1 vx2 vy1 vy2 hab (by omega)
end Geo
/-
  PenetrationSmaller: the plain law.
-/
set_option linter.all false
namespace Go.Eng.R13
open Go Go.RowKit Go.Eng Geo
def md (x y : Int) : Prop := -40000 ≤ x ∧ x ≤ 40000 ∧ -40000 ≤ y ∧ y ≤ 40000
theorem wc_cross {x1 x2 x3 x4 x5 x6 : Int} (ha : nr x1 x2) (hb : nr x3 x4) (hc : md x5 x6) : wc x1 x2 x3 x4 x5 x6 = cross (x1, x2) (x3, x4) (x5, x6) := by
  unfold nr md wc at *
  have h1 := mul_bd (x := x3 - x1) (y := x6 - x2) (A := 65536) (B := 100000) (by omega) (by omega) (by omega) (by omega)
  have h2 := mul_bd (x := x4 - x2) (y := x5 - x1) (A := 65536) (B := 100000) (by omega) (by omega) (by omega) (by omega)
  rw [w64_of (n := x3 - x1) (by omega) (by omega), w64_of (n := x6 - x2) (by omega) (by omega), w64_of (n := x4 - x2) (by omega) (by omega), w64_of (n := x5 - x1) (by omega) (by omega)]
  rw [w64_of (n := (x3 - x1) * (x6 - x2)) (by omega) (by omega), w64_of (n := (x4 - x2) * (x5 - x1)) (by omega) (by omega), w64_of (by omega) (by omega)]
  rfl
theorem cutB_iff {l1 l2 h1 h2 a1 a2 b1 b2 : Int} (ha : nr a1 a2) (hb : nr b1 b2) (hl : md l1 l2) (hh : md h1 h2) : cutB l1 l2 h1 h2 a1 a2 b1 b2 = true ↔ Cut l1 l2 h1 h2 (a1, a2) (b1, b2) := by
  have m1 : md h1 l2 := ⟨hh.1, hh.2.1, hl.2.2.1, hl.2.2.2⟩
  have m2 : md l1 h2 := ⟨hl.1, hl.2.1, hh.2.2.1, hh.2.2.2⟩
  unfold cutB
  rw [wc_cross ha hb hl, wc_cross ha hb m1, wc_cross ha hb hh, wc_cross ha hb m2]
  simp only [Bool.and_eq_true, Bool.or_eq_true, Bool.not_eq_true', decide_eq_false_iff_not, decide_eq_true_eq]
  constructor
  · rintro ⟨q1, q2, q3, q4, q5, q6⟩
    refine ⟨?_, ?_, ?_, ?_, ?_, ?_⟩
    · rintro ⟨u, v⟩; apply q1; split <;> assumption
    · rintro ⟨u, v⟩; apply q2; split <;> assumption
    · rintro ⟨u, v⟩; apply q3; split <;> assumption
    · rintro ⟨u, v⟩; apply q4; split <;> assumption
    · rcases q5 with ((q | q) | q) | q
      · exact .inl q
      · exact .inr (.inl q)
      · exact .inr (.inr (.inl q))
      · exact .inr (.inr (.inr q))
    · rcases q6 with ((q | q) | q) | q
      · exact .inl q
      · exact .inr (.inl q)
      · exact .inr (.inr (.inl q))
      · exact .inr (.inr (.inr q))
  · rintro ⟨q1, q2, q3, q4, q5, q6⟩
    simp only at q1 q2 q3 q4
    refine ⟨?_, ?_, ?_, ?_, ?_, ?_⟩
    · intro h; apply q1; split at h <;> omega
    · intro h; apply q2; split at h <;> omega
    · intro h; apply q3; split at h <;> omega
    · intro h; apply q4; split at h <;> omega
    · rcases q5 with q | q | q | q
      · exact .inl (.inl (.inl q))
      · exact .inl (.inl (.inr q))
      · exact .inl (.inr q)
      · exact .inr q
    · rcases q6 with q | q | q | q
      · exact .inl (.inl (.inl q))
      · exact .inl (.inl (.inr q))
      · exact .inl (.inr q)
      · exact .inr q
theorem mid_eq {x h : Int} (hx : -32768 ≤ x ∧ x ≤ 32768) (hh : 0 ≤ h ∧ h ≤ 5001) : w64 (Int.tdiv (w64 (w64 (x - h) + w64 (x + h))) 2) = x := by
  rw [w64_of (n := x - h) (by omega) (by omega), w64_of (n := x + h) (by omega) (by omega), show x - h + (x + h) = x * 2 by omega, w64_of (n := x * 2) (by omega) (by omega), Int.mul_tdiv_cancel _ (by decide), w64_of (by omega) (by omega)]
theorem cov_smaller {n : Nat} {f : Nat → Nat → CV} {x y h k : Int} (hq : nr x y) (h1 : 0 ≤ k) (h2 : k < h) (h3 : h ≤ 5001) (C : CovP n f (w64 (x - h)) (w64 (y - h)) (w64 (x + h)) (w64 (y + h))) :
    CovP n f (w64 (x - k)) (w64 (y - k)) (w64 (x + k)) (w64 (y + k)) := by
  have hq' := hq
  unfold nr at hq'
  obtain ⟨V, ha, hm, c0, c1, c2, c3, hc⟩ := C
  rw [mid_eq ⟨hq'.1, hq'.2.1⟩ ⟨by omega, h3⟩, mid_eq ⟨hq'.2.2.1, hq'.2.2.2⟩ ⟨by omega, h3⟩] at hm
  have e1 : w64 (x - h) = x - h := w64_of (by omega) (by omega)
  have e2 : w64 (x + h) = x + h := w64_of (by omega) (by omega)
  have e3 : w64 (y - h) = y - h := w64_of (by omega) (by omega)
  have e4 : w64 (y + h) = y + h := w64_of (by omega) (by omega)
  have k1 : w64 (x - k) = x - k := w64_of (by omega) (by omega)
  have k2 : w64 (x + k) = x + k := w64_of (by omega) (by omega)
  have k3 : w64 (y - k) = y - k := w64_of (by omega) (by omega)
  have k4 : w64 (y + k) = y + k := w64_of (by omega) (by omega)
  rw [e1, e2, e3, e4] at hc
  rw [e1, e3] at c0
  rw [e2, e4] at c2
  have n0 := c0.1
  have n2 := c2.1
  unfold nr at n0 n2
  have mb : md (x - h) (y - h) := ⟨by omega, by omega, by omega, by omega⟩
  have mt : md (x + h) (y + h) := ⟨by omega, by omega, by omega, by omega⟩
  have nc : ∀ i, i < n → ¬ Cut (x - h) (y - h) (x + h) (y + h) (pt f i) (pt f (nx n i)) := fun i hi hh =>
    hc ⟨i, Nat.zero_le i, hi, (cutB_iff (V.near i hi) (V.near _ (nx_lt' (by omega))) mb mt).2 hh⟩
  have vb := V.big
  have cl : ∀ u v : Int, x - h < u → u < x + h → y - h < v → v < y + h → Cl n f u v := by
    intro u v hu1 hu2 hv1 hv2
    refine ⟨⟨by omega, by omega, by omega, by omega⟩, fun ho => ?_⟩
    have hf : Free n (pt f) (x, y) (u, v) := fun i hi hM => nc i hi (cut_of_meet (V.ne i hi) (by simp only; omega) (by simp only; omega) (by simp only; omega) (by simp only; omega) hu1 hu2 hv1 hv2 hM)
    have e := par_free hf
    have p1 := hm.2.2
    have p2 := ho.2
    rw [e, p2] at p1
    cases p1
  refine ⟨V, ha, ?_, ?_, ?_, ?_, ?_, ?_⟩
  · rw [mid_eq ⟨hq'.1, hq'.2.1⟩ ⟨h1, by omega⟩, mid_eq ⟨hq'.2.2.1, hq'.2.2.2⟩ ⟨h1, by omega⟩]; exact hm
  · rw [k1, k3]; exact cl _ _ (by omega) (by omega) (by omega) (by omega)
  · rw [k2, k3]; exact cl _ _ (by omega) (by omega) (by omega) (by omega)
  · rw [k2, k4]; exact cl _ _ (by omega) (by omega) (by omega) (by omega)
  · rw [k1, k4]; exact cl _ _ (by omega) (by omega) (by omega) (by omega)
  · rw [k1, k2, k3, k4]
    rintro ⟨i, _, hi, hcut⟩
    have := (cutB_iff (V.near i hi) (V.near _ (nx_lt' (by omega))) ⟨by omega, by omega, by omega, by omega⟩ ⟨by omega, by omega, by omega, by omega⟩).1 hcut
    exact nc i hi (cut_mono (by omega) (by omega) (by omega) (by omega) (by omega) (by omega) this)
theorem hf_eq {s : Int} (h1 : 1 ≤ s) (h2 : s ≤ 10000) : hf s = (s + 1) / 2 := by
  unfold hf
  rw [w64_of (n := s + 1) (by omega) (by omega), Int.tdiv_eq_ediv_of_nonneg (by omega), w64_of (by omega) (by omega)]
theorem covO_smaller {s1 : ByteArray} {n9 : Nat} {f10 : Nat → Nat → CV} {s21 : ByteArray} {x y s t : Int} (C : CovO s1 n9 f10 s21 x y s) (h1 : 1 ≤ t) (h2 : t ≤ s) : CovO s1 n9 f10 s21 x y t := by
  have hl := C.low
  have hh := C.high
  refine ⟨C.same, h1, by omega, C.near, ?_⟩
  obtain ⟨j, a, b, c⟩ := C.cov
  refine ⟨j, a, b, ?_⟩
  rw [hf_eq hl hh] at c
  rw [hf_eq h1 (by omega)]
  by_cases e : (t + 1) / 2 = (s + 1) / 2
  · rw [e]; exact c
  · exact cov_smaller C.near (by omega) (by omega) (by omega) c
theorem smaller46 (g0 : Nat → CV) (hg0 : RowIn kR0 g0) (s1c0 : ByteArray) (a1c1 : Int) (a1c2 : Int) (a1c3 : Int) (h1c1 : I64 a1c1) (h1c2 : I64 a1c2) (h1c3 : I64 a1c3) (a2c0 : Int) (h2c0 : (Lit.int .u16 a2c0).wf = true) : F160 100 g0 s1c0 a1c1 a1c2 a1c3 a2c0 = some true := by
  unfold F160 D160
  have e0 : CV.str (g0 0) = CV.str (listF (pj kR0 g0) 0) := rfl
  rw [e0]
  generalize listF (pj kR0 g0) = g
  rcases light_law g with h | ⟨h, h7, h9, hl⟩
  · rw [h, ob_some, bif_f (by rfl), awake_law, ob_some]
  · rw [h, ob_some, bif_t (by rfl)]
    obtain ⟨c1, c2⟩ := covered129 g s1c0 a1c1 a1c2 a1c3 (by omega) hl
    by_cases hc : CovO (CV.str (g 0)) (CV.len (g 7)) (CV.el (g 7)) s1c0 a1c1 a1c2 a1c3
    · rw [c1 hc, ob_some, bif_f (by rfl)]
      have e1 : IntKind.u16.min = 0 := rfl
      have e2 : IntKind.u16.max = 65535 := rfl
      have hu : 0 ≤ a2c0 ∧ a2c0 ≤ 65535 := by simpa [Lit.wf, e1, e2] using h2c0
      have l1 := hc.low
      have l2 := hc.high
      have ew : w64 (w64 (a1c3 - 1) - w64 a2c0) = a1c3 - 1 - a2c0 := by
        rw [w64_of (n := a1c3 - 1) (by omega) (by omega), w64_of (n := a2c0) (by omega) (by omega), w64_of (by omega) (by omega)]
      rw [ew]
      have hs : w64 (1 + if 0 > a1c3 - 1 - a2c0 then 0 else a1c3 - 1 - a2c0) = 1 + if 0 > a1c3 - 1 - a2c0 then 0 else a1c3 - 1 - a2c0 := by
        apply w64_of <;> split <;> omega
      rw [hs]
      have hc2 := covO_smaller hc (t := 1 + if 0 > a1c3 - 1 - a2c0 then 0 else a1c3 - 1 - a2c0) (by split <;> omega) (by split <;> omega)
      obtain ⟨d1, _⟩ := covered129 g s1c0 a1c1 a1c2 (1 + if 0 > a1c3 - 1 - a2c0 then 0 else a1c3 - 1 - a2c0) (by omega) hl
      rw [d1 hc2, ob_some, bif_t (by rfl), bif_t (by rw [hc.same]; rfl), awake_law, ob_some]
    · rw [c2 hc, ob_some, bif_t (by rfl), awake_law, ob_some]
end Go.Eng.R13
