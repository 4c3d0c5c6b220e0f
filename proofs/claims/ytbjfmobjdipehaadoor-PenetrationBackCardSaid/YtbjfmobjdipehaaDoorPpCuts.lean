/-
  Several texts in one.
-/
import Derived.Test.YtbjfmobjdipehaaDoorEngV
import Derived.Test.YtbjfmobjdipehaaDoorPlRv
/-
  Squares, and edges that have a point inside of them: the program's and the reference's answers are alike.
-/
set_option linter.all false
namespace Go.Eng.R13
open Go Go.RowKit Go.Eng Geo
def wc (a1 a2 b1 b2 c1 c2 : Int) : Int := w64 (w64 (w64 (b1 - a1) * w64 (c2 - a2)) - w64 (w64 (b2 - a2) * w64 (c1 - a1)))
def cutB (l1 l2 h1 h2 a1 a2 b1 b2 : Int) : Bool :=
  !(decide ((if b1 > a1 then b1 else a1) ≤ l1)) && (!(decide ((if b1 < a1 then b1 else a1) ≥ h1)) && (!(decide ((if b2 > a2 then b2 else a2) ≤ l2)) && (!(decide ((if b2 < a2 then b2 else a2) ≥ h2)) &&
    ((((decide (wc a1 a2 b1 b2 l1 l2 > 0) || decide (wc a1 a2 b1 b2 h1 l2 > 0)) || decide (wc a1 a2 b1 b2 h1 h2 > 0)) || decide (wc a1 a2 b1 b2 l1 h2 > 0)) &&
     (((decide (wc a1 a2 b1 b2 l1 l2 < 0) || decide (wc a1 a2 b1 b2 h1 l2 < 0)) || decide (wc a1 a2 b1 b2 h1 h2 < 0)) || decide (wc a1 a2 b1 b2 l1 h2 < 0))))))
def CutK (n : Nat) (f : Nat → Nat → CV) (l1 l2 h1 h2 : Int) (i : Nat) : Prop :=
  ∃ j, i ≤ j ∧ j < n ∧ cutB l1 l2 h1 h2 (CV.int (f j 0)) (CV.int (f j 1)) (CV.int (f (nx n j) 0)) (CV.int (f (nx n j) 1)) = true
theorem CutK.step {n : Nat} {f : Nat → Nat → CV} {l1 l2 h1 h2 : Int} {i : Nat} (h : cutB l1 l2 h1 h2 (CV.int (f i 0)) (CV.int (f i 1)) (CV.int (f (nx n i) 0)) (CV.int (f (nx n i) 1)) = false) : CutK n f l1 l2 h1 h2 i ↔ CutK n f l1 l2 h1 h2 (i + 1) := by
  constructor
  · rintro ⟨j, a, b, c⟩
    refine ⟨j, ?_, b, c⟩
    by_cases e : j = i
    · subst e; rw [h] at c; cases c
    · omega
  · rintro ⟨j, a, b, c⟩
    exact ⟨j, by omega, b, c⟩
end Go.Eng.R13
/-
  Does a hole cover a square? The program's and the reference's answers are alike, and what they say.
-/
set_option linter.all false
namespace Go.Eng.R13
open Go Go.RowKit Go.Eng Geo
def Cl (n : Nat) (f : Nat → Nat → CV) (x y : Int) : Prop := nr x y ∧ ¬ OutC n f (x, y)
structure CovP (n : Nat) (f : Nat → Nat → CV) (l1 l2 h1 h2 : Int) : Prop where
  valid : Valid n f
  neg : area n (pt f) < 0
  mid : nr (w64 (Int.tdiv (w64 (l1 + h1)) 2)) (w64 (Int.tdiv (w64 (l2 + h2)) 2)) ∧ InC n f (w64 (Int.tdiv (w64 (l1 + h1)) 2), w64 (Int.tdiv (w64 (l2 + h2)) 2))
  c0 : Cl n f l1 l2
  c1 : Cl n f h1 l2
  c2 : Cl n f h1 h2
  c3 : Cl n f l1 h2
  cut : ¬ CutK n f l1 l2 h1 h2 0
end Go.Eng.R13
/-
  Light parts; what a hole covers of an opening: PenetrationCovers.
-/
set_option linter.all false
namespace Go.Eng.R13
open Go Go.RowKit Go.Eng Geo
theorem light_loop {ρ : Type} (g : Nat → CV) (k0 k1 : Option ρ) : ∀ (m i : Nat), 20 < m + i → i ≤ 20 →
    L100v1 100 g m (Int.ofNat i) k0 k1 = k0 ∨
    (L100v1 100 g m (Int.ofNat i) k0 k1 = k1 ∧ ∀ j, i ≤ j → j < (CV.len (g 7)) → j < 20 → CV.len ((CV.el (g 7)) j 0) ≤ 40) := by
  intro m
  induction m with
  | zero => intro i h1 h2; omega
  | succ m ih =>
    intro i h1 h2
    unfold L100v1
    rw [lt_nat, inb_nat, toNat_nat]
    by_cases h : i < (CV.len (g 7))
    · rw [bif_t (by simp [h])]
      by_cases h20 : i < 20
      · rw [bif_t (decide_eq_true (by simp; omega)), bif_t (by simpa using h), w64_succ (by omega)]
        by_cases h3 : CV.len ((CV.el (g 7)) i 0) ≤ 40
        · rw [bif_f (by simp; omega)]
          rcases ih (i + 1) (by omega) (by omega) with h4 | ⟨h4, h5⟩
          · exact .inl h4
          · refine .inr ⟨h4, fun j h6 h7 h8 => ?_⟩
            by_cases e : j = i
            · rw [e]; exact h3
            · exact h5 j (by omega) h7 h8
        · rw [bif_t (by simp; omega)]
          exact .inl rfl
      · rw [bif_f (decide_eq_false (by simp; omega))]
        exact .inr ⟨rfl, fun j h6 h7 h8 => by omega⟩
    · rw [bif_f (by simp [h])]
      exact .inr ⟨rfl, fun j h6 h7 => by omega⟩
theorem light_law (g : Nat → CV) :
    F100 100 g = some false ∨
    (F100 100 g = some true ∧ (CV.len (g 6)) ≤ 40 ∧ (CV.len (g 7)) ≤ 12 ∧ ∀ j, j < (CV.len (g 7)) → CV.len ((CV.el (g 7)) j 0) ≤ 40) := by
  unfold F100 D100
  rcases light_loop g (some false) (bif ((decide ((Int.ofNat (CV.len (g 6))) ≤ 40)) == true) then (some (decide ((Int.ofNat (CV.len (g 7))) ≤ 12))) else (some false)) 100 0 (by omega) (by omega) with h | ⟨h, h2⟩
  · exact .inl h
  · by_cases h7 : (CV.len (g 6)) ≤ 40
    · by_cases h9 : (CV.len (g 7)) ≤ 12
      · exact .inr ⟨h.trans (by rw [bif_t (by simp; omega), decide_eq_true (show (Int.ofNat (CV.len (g 7))) ≤ 12 by simp; omega)]), h7, h9, fun j hj => h2 j (by omega) hj (by omega)⟩
      · exact .inl (h.trans (by rw [bif_t (by simp; omega), decide_eq_false (show ¬ (Int.ofNat (CV.len (g 7))) ≤ 12 by simp; omega)]))
    · exact .inl (h.trans (by rw [bif_f (by simp; omega)]))
def CovK (n9 : Nat) (f10 : Nat → Nat → CV) (l1 l2 h1 h2 : Int) (i : Nat) : Prop := ∃ j, i ≤ j ∧ j < n9 ∧ CovP (CV.len (f10 j 0)) (CV.el (f10 j 0)) l1 l2 h1 h2
theorem CovK.step {n9 : Nat} {f10 : Nat → Nat → CV} {l1 l2 h1 h2 : Int} {i : Nat} (h : ¬ CovP (CV.len (f10 i 0)) (CV.el (f10 i 0)) l1 l2 h1 h2) : CovK n9 f10 l1 l2 h1 h2 i ↔ CovK n9 f10 l1 l2 h1 h2 (i + 1) := by
  constructor
  · rintro ⟨j, a, b, c⟩
    refine ⟨j, ?_, b, c⟩
    by_cases e : j = i
    · subst e; exact absurd c h
    · omega
  · rintro ⟨j, a, b, c⟩
    exact ⟨j, by omega, b, c⟩
def hf (s : Int) : Int := w64 (Int.tdiv (w64 (s + 1)) 2)
theorem awake_law : F132 100 = some true := by kernel_rfl
end Go.Eng.R13
/-
  Boxes of whole numbers, the turns and what undoes them: the program's and the reference's answers are alike.
-/
set_option linter.all false
namespace Go.Eng.R13
open Go Go.RowKit Go.Eng Geo
def Bx (r x y z : Int) : Prop := (-r ≤ x ∧ x ≤ r) ∧ (-r ≤ y ∧ y ≤ r) ∧ (-r ≤ z ∧ z ≤ r)
instance (r x y z : Int) : Decidable (Bx r x y z) := inferInstanceAs (Decidable (_ ∧ _))
theorem box105 (r x y z : Int) (h0 : 0 ≤ r) (h1 : r ≤ 1099511627776) : F105 100 x y z r = some (decide (Bx r x y z)) := by
  have hw : w64 (0 - r) = -r := by rw [w64_of (by omega) (by omega)]; omega
  have r0 : ∀ m k0 k1, L105v1 (ρ := Bool) 100 r x y z (m + 1) 0 k0 k1 = bif ((decide (x < (w64 (0 - r)))) == false) then (bif (decide (x > r)) then k0 else (L105v1 100 r x y z m 1 k0 k1)) else k0 := fun _ _ _ => rfl
  have r1 : ∀ m k0 k1, L105v1 (ρ := Bool) 100 r x y z (m + 1) 1 k0 k1 = bif ((decide (y < (w64 (0 - r)))) == false) then (bif (decide (y > r)) then k0 else (L105v1 100 r x y z m 2 k0 k1)) else k0 := fun _ _ _ => rfl
  have r2 : ∀ m k0 k1, L105v1 (ρ := Bool) 100 r x y z (m + 1) 2 k0 k1 = bif ((decide (z < (w64 (0 - r)))) == false) then (bif (decide (z > r)) then k0 else (L105v1 100 r x y z m 3 k0 k1)) else k0 := fun _ _ _ => rfl
  have r3 : ∀ m k0 k1, L105v1 (ρ := Bool) 100 r x y z (m + 1) 3 k0 k1 = k1 := fun _ _ _ => rfl
  unfold F105 D105
  rw [r0 99, r1 98, r2 97, r3 96, hw]
  by_cases a1 : x < -r
  · rw [bif_f (by simp [a1]), decide_eq_false (by unfold Bx; omega)]
  rw [bif_t (by simp [a1])]
  by_cases a2 : x > r
  · rw [bif_t (by simp [a2]), decide_eq_false (by unfold Bx; omega)]
  rw [bif_f (by simp [a2])]
  by_cases a1 : y < -r
  · rw [bif_f (by simp [a1]), decide_eq_false (by unfold Bx; omega)]
  rw [bif_t (by simp [a1])]
  by_cases a2 : y > r
  · rw [bif_t (by simp [a2]), decide_eq_false (by unfold Bx; omega)]
  rw [bif_f (by simp [a2])]
  by_cases a1 : z < -r
  · rw [bif_f (by simp [a1]), decide_eq_false (by unfold Bx; omega)]
  rw [bif_t (by simp [a1])]
  by_cases a2 : z > r
  · rw [bif_t (by simp [a2]), decide_eq_false (by unfold Bx; omega)]
  rw [bif_f (by simp [a2]), decide_eq_true (by unfold Bx; omega)]
theorem box136 (x y z : Int) : F136 100 x y z = some (decide (Bx 1099511627776 x y z)) := by
  unfold F136 D136
  by_cases a1 : x ≥ -1099511627776
  case neg => rw [bif_f (by simp [a1]), decide_eq_false (by unfold Bx; omega)]
  rw [bif_t (by simp [a1])]
  by_cases a1 : x ≤ 1099511627776
  case neg => rw [bif_f (by simp [a1]), decide_eq_false (by unfold Bx; omega)]
  rw [bif_t (by simp [a1])]
  by_cases a1 : y ≥ -1099511627776
  case neg => rw [bif_f (by simp [a1]), decide_eq_false (by unfold Bx; omega)]
  rw [bif_t (by simp [a1])]
  by_cases a1 : y ≤ 1099511627776
  case neg => rw [bif_f (by simp [a1]), decide_eq_false (by unfold Bx; omega)]
  rw [bif_t (by simp [a1])]
  by_cases a1 : z ≥ -1099511627776
  case neg => rw [bif_f (by simp [a1]), decide_eq_false (by unfold Bx; omega)]
  rw [bif_t (by simp [a1])]
  congr 1
  exact decide_eq_decide.2 (by unfold Bx; omega)
def Rp (x y z t : Int) : Prop := Bx 524288 x y z ∧ 0 ≤ t ∧ t ≤ 23
instance (x y z t : Int) : Decidable (Rp x y z t) := inferInstanceAs (Decidable (_ ∧ _))
theorem turn110 (t : Int) : F110 100 t = some (if 0 ≤ t ∧ t ≤ 23 then t else 0) := by
  unfold F110 D110
  by_cases a1 : t < 0
  · rw [bif_f (by simp [a1]), if_neg (by omega)]
  rw [bif_t (by simp [a1])]
  by_cases a2 : t ≥ 24
  · rw [bif_t (by simp [a2]), if_neg (by omega)]
  · rw [bif_f (by simp; omega), if_pos (by omega)]
theorem rp111 (x y z t : Int) : F111 100 x y z t = some (decide (Rp x y z t)) := by
  unfold F111 D111
  rw [box105 _ _ _ _ (by omega) (by omega), ob_some, turn110, ob_some]
  by_cases h : Bx 524288 x y z
  · rw [bif_t (by simp [h])]
    congr 1
    by_cases h2 : 0 ≤ t ∧ t ≤ 23
    · rw [if_pos h2, decide_eq_true ⟨h, h2⟩]; simp
    · rw [if_neg h2, decide_eq_false (fun q => h2 q.2)]
      simp only [beq_eq_false_iff_ne, ne_eq]; omega
  · rw [bif_f (by simp [h]), decide_eq_false (fun q => h q.1)]
theorem rp133 (x y z t : Int) : F133 100 x y z t = some (decide (Rp x y z t)) := by
  unfold F133 D133
  by_cases a1 : x ≥ -524288
  case neg => rw [bif_f (by simp [a1]), decide_eq_false (by unfold Rp Bx; omega)]
  rw [bif_t (by simp [a1])]
  by_cases a1 : x ≤ 524288
  case neg => rw [bif_f (by simp [a1]), decide_eq_false (by unfold Rp Bx; omega)]
  rw [bif_t (by simp [a1])]
  by_cases a1 : y ≥ -524288
  case neg => rw [bif_f (by simp [a1]), decide_eq_false (by unfold Rp Bx; omega)]
  rw [bif_t (by simp [a1])]
  by_cases a1 : y ≤ 524288
  case neg => rw [bif_f (by simp [a1]), decide_eq_false (by unfold Rp Bx; omega)]
  rw [bif_t (by simp [a1])]
  by_cases a1 : z ≥ -524288
  case neg => rw [bif_f (by simp [a1]), decide_eq_false (by unfold Rp Bx; omega)]
  rw [bif_t (by simp [a1])]
  by_cases a1 : z ≤ 524288
  case neg => rw [bif_f (by simp [a1]), decide_eq_false (by unfold Rp Bx; omega)]
  rw [bif_t (by simp [a1])]
  by_cases a1 : t ≥ 0
  case neg => rw [bif_f (by simp [a1]), decide_eq_false (by unfold Rp Bx; omega)]
  rw [bif_t (by simp [a1])]
  congr 1
  exact decide_eq_decide.2 (by unfold Rp Bx; omega)
theorem quarter_eq {ρ : Type} (a x11 z : Int) (k0 : Int → Int → Option ρ) : ∀ (m : Nat) (i x y : Int), L114v1 100 x11 a z m i x y k0 = L141v1 100 a z m i x y k0 := by
  intro m
  induction m with
  | zero => intro i x y; rfl
  | succ m ih => intro i x y; unfold L114v1 L141v1; rw [ih]
def quarter (q : Int) (x y : Int) : Int × Int :=
  if q = 1 then (-y, x) else if q = 2 then (-x, -y) else if q = 3 then (y, -x) else (x, y)
def face (f : Int) (x y z : Int) : Int × Int × Int :=
  if f = 1 then (x, -z, y) else if f = 2 then (x, -y, -z) else if f = 3 then (x, z, -y) else if f = 4 then (z, y, -x) else if f = 5 then (-z, y, x) else (x, y, z)
def rotE (t x y z : Int) : Int × Int × Int := face (t / 4) (quarter (t % 4) x y).1 (quarter (t % 4) x y).2 z
theorem neg_w {x : Int} (h1 : -4398046511104 ≤ x) (h2 : x ≤ 4398046511104) : w64 (0 - x) = -x := by rw [w64_of (by omega) (by omega)]; omega
theorem quarter_law {ρ : Type} (z : Int) (k0 : Int → Int → Option ρ) (q x y : Int) (hq : 0 ≤ q ∧ q ≤ 3) (hx : -4398046511104 ≤ x ∧ x ≤ 4398046511104) (hy : -4398046511104 ≤ y ∧ y ≤ 4398046511104) :
    L141v1 100 q z 100 0 x y k0 = k0 (quarter q x y).1 (quarter q x y).2 := by
  have hq' : q = 0 ∨ q = 1 ∨ q = 2 ∨ q = 3 := by omega
  have nx : w64 (0 - x) = -x := neg_w hx.1 hx.2
  have ny : w64 (0 - y) = -y := neg_w hy.1 hy.2
  have nnx : w64 (0 - (-x)) = x := by rw [neg_w (by omega) (by omega)]; omega
  rcases hq' with rfl | rfl | rfl | rfl
  · rfl
  · exact (show L141v1 100 1 z 100 0 x y k0 = k0 (w64 (0 - y)) x from rfl).trans (by rw [ny]; rfl)
  · exact (show L141v1 100 2 z 100 0 x y k0 = k0 (w64 (0 - x)) (w64 (0 - y)) from rfl).trans (by rw [nx, ny]; rfl)
  · exact (show L141v1 100 3 z 100 0 x y k0 = k0 (w64 (0 - w64 (0 - y))) (w64 (0 - x)) from rfl).trans (by rw [nx, ny, neg_w (by omega) (by omega), Int.neg_neg]; rfl)
theorem quarter_bd {q x y R : Int} (hx : -R ≤ x ∧ x ≤ R) (hy : -R ≤ y ∧ y ≤ R) : (-R ≤ (quarter q x y).1 ∧ (quarter q x y).1 ≤ R) ∧ (-R ≤ (quarter q x y).2 ∧ (quarter q x y).2 ≤ R) := by
  unfold quarter
  by_cases h : q = 1
  · rw [if_pos h]; exact ⟨⟨by simp only; omega, by simp only; omega⟩, hx⟩
  rw [if_neg h]
  by_cases h : q = 2
  · rw [if_pos h]; exact ⟨⟨by simp only; omega, by simp only; omega⟩, ⟨by simp only; omega, by simp only; omega⟩⟩
  rw [if_neg h]
  by_cases h : q = 3
  · rw [if_pos h]; exact ⟨hy, ⟨by simp only; omega, by simp only; omega⟩⟩
  rw [if_neg h]; exact ⟨hx, hy⟩
theorem quarter_neg (q x y : Int) : quarter q (-x) (-y) = (-(quarter q x y).1, -(quarter q x y).2) := by
  unfold quarter
  by_cases h : q = 1
  · simp only [if_pos h]
  simp only [if_neg h]
  by_cases h : q = 2
  · simp only [if_pos h]
  simp only [if_neg h]
  by_cases h : q = 3
  · simp only [if_pos h]
  simp only [if_neg h]
theorem face_neg (f x y z : Int) : face f (-x) (-y) (-z) = (-(face f x y z).1, -(face f x y z).2.1, -(face f x y z).2.2) := by
  unfold face
  by_cases h : f = 1
  · simp only [if_pos h]
  simp only [if_neg h]
  by_cases h : f = 2
  · simp only [if_pos h]
  simp only [if_neg h]
  by_cases h : f = 3
  · simp only [if_pos h]
  simp only [if_neg h]
  by_cases h : f = 4
  · simp only [if_pos h]
  simp only [if_neg h]
  by_cases h : f = 5
  · simp only [if_pos h]
  simp only [if_neg h]
theorem rot_neg (t x y z : Int) : rotE t (-x) (-y) (-z) = (-(rotE t x y z).1, -(rotE t x y z).2.1, -(rotE t x y z).2.2) := by
  unfold rotE
  rw [quarter_neg]
  exact face_neg _ _ _ _
theorem face_bd {f x y z R : Int} (hx : -R ≤ x ∧ x ≤ R) (hy : -R ≤ y ∧ y ≤ R) (hz : -R ≤ z ∧ z ≤ R) : Bx R (face f x y z).1 (face f x y z).2.1 (face f x y z).2.2 := by
  unfold face Bx
  by_cases h : f = 1
  · simp only [if_pos h]; omega
  simp only [if_neg h]
  by_cases h : f = 2
  · simp only [if_pos h]; omega
  simp only [if_neg h]
  by_cases h : f = 3
  · simp only [if_pos h]; omega
  simp only [if_neg h]
  by_cases h : f = 4
  · simp only [if_pos h]; omega
  simp only [if_neg h]
  by_cases h : f = 5
  · simp only [if_pos h]; omega
  simp only [if_neg h]; omega
theorem rot_bd {t x y z R : Int} (h : Bx R x y z) : Bx R (rotE t x y z).1 (rotE t x y z).2.1 (rotE t x y z).2.2 :=
  face_bd (quarter_bd h.1 h.2.1).1 (quarter_bd h.1 h.2.1).2 h.2.2
theorem face142 (f x y z : Int) (hx : -4398046511104 ≤ x ∧ x ≤ 4398046511104) (hy : -4398046511104 ≤ y ∧ y ≤ 4398046511104) (hz : -4398046511104 ≤ z ∧ z ≤ 4398046511104) : F142 100 x y z f = some (face f x y z) := by
  unfold F142 D142 face
  rw [neg_w hx.1 hx.2, neg_w hy.1 hy.2, neg_w hz.1 hz.2]
  by_cases h : f = 1
  · rw [bif_t (by simp [h]), if_pos h]
  rw [bif_f (by simpa using h), if_neg h]
  by_cases h : f = 2
  · rw [bif_t (by simp [h]), if_pos h]
  rw [bif_f (by simpa using h), if_neg h]
  by_cases h : f = 3
  · rw [bif_t (by simp [h]), if_pos h]
  rw [bif_f (by simpa using h), if_neg h]
  by_cases h : f = 4
  · rw [bif_t (by simp [h]), if_pos h]
  rw [bif_f (by simpa using h), if_neg h]
  by_cases h : f = 5
  · rw [bif_t (by simp [h]), if_pos h]
  rw [bif_f (by simpa using h), if_neg h]
theorem t_parts {t : Int} (ht : 0 ≤ t ∧ t ≤ 23) : w64 (Int.tdiv t 4) = t / 4 ∧ Int.tmod t 4 = t % 4 ∧ 0 ≤ t % 4 ∧ t % 4 ≤ 3 := by
  rw [Int.tdiv_eq_ediv_of_nonneg ht.1, Int.tmod_eq_emod_of_nonneg ht.1, w64_of (by omega) (by omega)]
  omega
theorem apply114 (x y z t : Int) (ht : 0 ≤ t ∧ t ≤ 23) (h : Bx 4398046511104 x y z) : F114 100 x y z t = some (rotE t x y z) := by
  obtain ⟨e1, e2, e3, e4⟩ := t_parts ht
  obtain ⟨b1, b2⟩ := quarter_bd (q := t % 4) h.1 h.2.1
  have H := face142 (t / 4) _ _ _ b1 b2 h.2.2
  unfold F142 D142 at H
  unfold F114 D114
  rw [turn110, ob_some, if_pos ht, e1, e2, quarter_eq, quarter_law _ _ _ _ _ ⟨e3, e4⟩ h.1 h.2.1]
  exact H
def invOk (t : Nat) : Bool :=
  match F115 100 (Int.ofNat t), F145 100 (Int.ofNat t) with
  | some a, some b => a == b && (decide (0 ≤ a) && decide (a ≤ 23))
  | _, _ => false
theorem inv_all : (List.range 24).all invOk = true := by kernel_rfl
theorem inv_law (t : Int) (ht : 0 ≤ t ∧ t ≤ 23) : ∃ r, F115 100 t = some r ∧ F145 100 t = some r ∧ 0 ≤ r ∧ r ≤ 23 := by
  obtain ⟨n, rfl⟩ := Int.eq_ofNat_of_zero_le ht.1
  have h := List.all_eq_true.1 inv_all n (List.mem_range.2 (by omega))
  unfold invOk at h
  have e : (Int.ofNat n) = ((n : Nat) : Int) := rfl
  rw [e] at h
  cases h1 : F115 100 ((n : Nat) : Int) with
  | none => rw [h1] at h; cases h
  | some a =>
    cases h2 : F145 100 ((n : Nat) : Int) with
    | none => rw [h1, h2] at h; cases h
    | some b =>
      rw [h1, h2] at h
      simp only [Bool.and_eq_true, beq_iff_eq, decide_eq_true_eq] at h
      exact ⟨a, rfl, by rw [h.1], h.2⟩
end Go.Eng.R13
/-
  Routes and where they cross a part: PenetrationCrosses.
-/
set_option linter.all false
namespace Go.Eng.R13
open Go Go.RowKit Go.Eng Geo
def Row (r : Int) (f : Nat → Nat → CV) (i : Nat) : Prop := Bx r (CV.int (f i 0)) (CV.int (f i 1)) (CV.int (f i 2))
theorem w64_pred {i : Nat} (h0 : 1 ≤ i) (h : i < 1000000) : w64 (Int.ofNat i - 1) = Int.ofNat (i - 1) := by
  rw [w64_of] <;> simp <;> omega
theorem far102 (x y z : Int) : F102 100 x y z = some (!decide (Bx 524288 x y z)) := by
  unfold F102 D102
  by_cases h1 : (if z > (if y > x then y else x) then z else (if y > x then y else x)) > 524288
  · rw [bif_f (by simp only [decide_eq_true h1]; rfl), decide_eq_false]; rfl
    unfold Bx
    split at h1 <;> try split at h1
    all_goals omega
  rw [bif_t (by simp only [decide_eq_false h1]; rfl)]
  congr 1
  by_cases h2 : (if z < (if y < x then y else x) then z else (if y < x then y else x)) < -524288
  · rw [decide_eq_true h2, decide_eq_false]; rfl
    unfold Bx
    split at h2 <;> try split at h2
    all_goals omega
  · rw [decide_eq_false h2, decide_eq_true]; rfl
    unfold Bx
    split at h1 <;> split at h2 <;> (try split at h1) <;> (try split at h2) <;> omega
theorem far103 (n : Nat) (f : Nat → Nat → CV) (hn : n ≤ 40) : ∀ (m i : Nat), n < m + i → i ≤ n →
    ∃ z, L103v1 100 n f (Int.ofNat n) m (Int.ofNat i) (fun x => some x) (some (-1)) = some z ∧ (z ≥ 0 ↔ ¬ ∀ j, i ≤ j → j < n → Row 524288 f j) := by
  intro m
  induction m with
  | zero => intro i h1 h2; omega
  | succ m ih =>
    intro i h1 h2
    unfold L103v1
    rw [lt_nat, inb_nat, toNat_nat, far102, ob_some]
    by_cases h : i < n
    · rw [bif_t (by simpa using h), bif_t (by simpa using h), w64_succ (by omega)]
      by_cases hb : Row 524288 f i
      · have hb' : Bx 524288 (CV.int (f i 0)) (CV.int (f i 1)) (CV.int (f i 2)) := hb
        rw [bif_f (by simpa using hb')]
        obtain ⟨z, e, hz⟩ := ih (i + 1) (by omega) (by omega)
        refine ⟨z, e, hz.trans (not_congr ⟨fun H j a b => ?_, fun H j a b => H j (by omega) b⟩)⟩
        by_cases e : j = i
        · rw [e]; exact hb
        · exact H j (by omega) b
      · have hb' : ¬ Bx 524288 (CV.int (f i 0)) (CV.int (f i 1)) (CV.int (f i 2)) := hb
        rw [bif_t (by simpa using hb')]
        exact ⟨_, rfl, fun _ H => hb (H i (Nat.le_refl i) h), fun _ => by simp⟩
    · rw [bif_f (by simpa using h)]
      exact ⟨_, rfl, fun h => by omega, fun H => absurd (fun j a b => by omega) H⟩
theorem sub_law {x1 x2 x3 x4 x5 x6 : Int} (h1 : Bx 524288 x1 x2 x3) (h2 : Bx 524288 x4 x5 x6) :
    F108 100 x1 x2 x3 x4 x5 x6 = some (x1 - x4, x2 - x5, x3 - x6) ∧ F138 100 x1 x2 x3 x4 x5 x6 = some (x1 - x4, x2 - x5, x3 - x6) := by
  have b1 : Bx 1099511627776 x1 x2 x3 := by unfold Bx at *; omega
  have b2 : Bx 1099511627776 x4 x5 x6 := by unfold Bx at *; omega
  constructor
  · unfold F108 D108
    rw [box105 _ _ _ _ (by omega) (by omega), box105 _ _ _ _ (by omega) (by omega), ob_some, ob_some, bif_t (by simp [b1]), bif_f (by simp [b2])]
    unfold F106 D106 F107 D107
    unfold Bx at b1 b2
    rw [ob_some, ob_some, neg_w (by omega) (by omega), neg_w (by omega) (by omega), neg_w (by omega) (by omega)]
    show some (w64 (x1 + -x4), w64 (x2 + -x5), w64 (x3 + -x6)) = _
    rw [w64_of (by omega) (by omega), w64_of (by omega) (by omega), w64_of (by omega) (by omega)]
    rfl
  · unfold F138 D138
    rw [box136, box136, ob_some, ob_some, bif_t (by simp [b1]), bif_f (by simp [b2])]
    unfold F137 D137
    unfold Bx at b1 b2
    rw [ob_some, w64_of (by omega) (by omega), w64_of (by omega) (by omega), w64_of (by omega) (by omega)]
theorem count109 {ρ : Type} (n : Nat) (f : Nat → Nat → CV) (i a b c : Int) (k0 : Int → Option ρ) :
    L109v2 100 n f i a b c 100 0 0 k0 = bif (a != 0) then (bif (b != 0) then (bif (c != 0) then k0 3 else k0 2) else (bif (c != 0) then k0 2 else k0 1)) else (bif (b != 0) then (bif (c != 0) then k0 2 else k0 1) else (bif (c != 0) then k0 1 else k0 0)) := by
  have r0 : ∀ m x, L109v2 100 n f i a b c (m + 1) x 0 k0 = bif (a != 0) then (L109v2 100 n f i a b c m (w64 (x + 1)) 1 k0) else (L109v2 100 n f i a b c m x 1 k0) := fun _ _ => rfl
  have r1 : ∀ m x, L109v2 100 n f i a b c (m + 1) x 1 k0 = bif (b != 0) then (L109v2 100 n f i a b c m (w64 (x + 1)) 2 k0) else (L109v2 100 n f i a b c m x 2 k0) := fun _ _ => rfl
  have r2 : ∀ m x, L109v2 100 n f i a b c (m + 1) x 2 k0 = bif (c != 0) then (L109v2 100 n f i a b c m (w64 (x + 1)) 3 k0) else (L109v2 100 n f i a b c m x 3 k0) := fun _ _ => rfl
  have r3 : ∀ m x, L109v2 100 n f i a b c (m + 1) x 3 k0 = k0 x := fun _ _ => rfl
  rw [r0 99]
  simp only [r1 98, r2 97, r3 96]
  cases (a != 0) <;> cases (b != 0) <;> cases (c != 0) <;> rfl
theorem target_law (g : Nat → CV) : ∃ b, F113 100 g = some b ∧ F135 100 g = some b ∧ (b = true → Rp (CV.int (g 14)) (CV.int (g 15)) (CV.int (g 16)) (CV.int (g 17))) := by
  unfold F113 D113 F135 D135
  by_cases q1 : ((CV.int (g 2)) == 1) = true
  case neg => exact ⟨false, by rw [bif_f (by simpa using q1)], by rw [bif_f (by simpa using q1)], fun h => by cases h⟩
  rw [q1, rp111, rp133, ob_some, ob_some]
  by_cases q2 : Rp (CV.int (g 14)) (CV.int (g 15)) (CV.int (g 16)) (CV.int (g 17))
  case neg => exact ⟨false, by rw [decide_eq_false q2]; rfl, by rw [decide_eq_false q2]; rfl, fun h => by cases h⟩
  rw [decide_eq_true q2]
  generalize listF (pj kR0 g) = h
  obtain ⟨c, c1, c2, _⟩ := shape_law (CV.len (h 6)) 0 (CV.el (h 6)) (fun _ _ => .any)
  refine ⟨(c == 0), ?_, ?_, fun _ => q2⟩
  · show ob (F13 100 (CV.len (h 6)) (CV.el (h 6)) 0 (fun _ _ => .any)) (fun x4 => some (x4 == 0)) = some (c == 0)
    rw [c1, ob_some]
  · show ob (F14 100 (CV.len (h 6)) (CV.el (h 6)) 0 (fun _ _ => .any)) (fun x4 => some (x4 == 0)) = some (c == 0)
    rw [c2, ob_some]
def Hit (out : Nat → Nat → CV) (x y : Int) (j : Nat) : Prop := CV.int (out j 1) = x ∧ CV.int (out j 2) = y
theorem contains119 (cnt : Nat) (out : Nat → Nat → CV) (S : ByteArray) (x y s : Int) (hn : cnt ≤ 40) (hI : ∀ j, j < cnt → ByteArray.toList (CV.str (out j 0)) = ByteArray.toList S ∧ CV.int (out j 3) = s) : ∀ (m i : Nat), cnt < m + i → i ≤ cnt →
    ∃ z, L119v1 100 cnt out (Int.ofNat cnt) S x y s m (Int.ofNat i) (fun x => some x) (some (-1)) = some z ∧ (z ≥ 0 ↔ ∃ j, i ≤ j ∧ j < cnt ∧ Hit out x y j) := by
  intro m
  induction m with
  | zero => intro i h1 h2; omega
  | succ m ih =>
    intro i h1 h2
    unfold L119v1
    rw [lt_nat, inb_nat, toNat_nat]
    by_cases h : i < cnt
    · obtain ⟨i1, i2⟩ := hI i h
      rw [bif_t (by simpa using h), bif_t (by simpa using h), w64_succ (by omega), i1, i2]
      by_cases hb : Hit out x y i
      · rw [bif_t (by simp [hb.1, hb.2])]
        exact ⟨_, rfl, fun _ => ⟨i, Nat.le_refl i, h, hb⟩, fun _ => by simp⟩
      · rw [bif_f]
        · obtain ⟨z, e, hz⟩ := ih (i + 1) (by omega) (by omega)
          refine ⟨z, e, hz.trans ⟨fun ⟨j, a, b, c⟩ => ⟨j, by omega, b, c⟩, fun ⟨j, a, b, c⟩ => ⟨j, ?_, b, c⟩⟩⟩
          by_cases e : j = i
          · rw [e] at c; exact absurd c hb
          · omega
        · cases hx : (x == CV.int (out i 1)) with
          | false => simp
          | true =>
            cases hy : (y == CV.int (out i 2)) with
            | false => simp
            | true => exact absurd ⟨(eq_of_beq hx).symm, (eq_of_beq hy).symm⟩ hb
    · rw [bif_f (by simpa using h)]
      exact ⟨_, rfl, fun h => by omega, fun ⟨j, a, b, _⟩ => by omega⟩
def orow (S : ByteArray) (x y s : Int) : Nat → Nat → CV := rowsF 4 [(.s S), (.i .i64 x), (.i .i64 y), (.i .i64 s)]
theorem cross121 (g : Nat → CV) (n : Nat) (f : Nat → Nat → CV) (s : Int) (r1 : F109 100 n f s = some true) (t1 : F113 100 (listF (pj kR0 g)) = some true) {a b c r : Int} (i1 : F116 100 (CV.int (g 14)) (CV.int (g 15)) (CV.int (g 16)) (CV.int (g 17)) = some (a, b, c, r)) {N : Nat} {O : FF}
  (l1 : L121v1 100 s g n f a b c r 100 0 1 (fun _ _ => .any) (fun x42 x43 => some (false, x42, x43)) = some (false, N, O)) : F121 100 g n f s = some (N, O) := by
  unfold F121 FT121 D121
  rw [r1, ob_some, bif_t (by rfl), t1, ob_some, bif_f (by rfl), i1, ob_some]
  dsimp only
  rw [l1, ob_some]
  rfl
end Go.Eng.R13
/-
  What a route's crossing gives: the list of openings.
-/
set_option linter.all false
namespace Go.Eng.R13
open Go Go.RowKit Go.Eng Geo
def One (a b c : Int) : Prop := (a ≠ 0 ∧ b = 0 ∧ c = 0) ∨ (a = 0 ∧ b ≠ 0 ∧ c = 0) ∨ (a = 0 ∧ b = 0 ∧ c ≠ 0)
def df (f : Nat → Nat → CV) (i k : Nat) : Int := CV.int (f i k) - CV.int (f (i - 1) k)
structure Rt (n : Nat) (f : Nat → Nat → CV) (s : Int) : Prop where
  lo : 2 ≤ n
  hi : n ≤ 32
  s1 : 1 ≤ s
  s2 : s ≤ 10000
  box : ∀ j, j < n → Row 524288 f j
  one : ∀ i, 1 ≤ i → i < n → One (df f i 0) (df f i 1) (df f i 2)
theorem one109 (n : Nat) (f : Nat → Nat → CV) (hn : n ≤ 32) (hB : ∀ j, j < n → Row 524288 f j) (k0 : Option Bool) (k1 : Option Bool) : ∀ (m i : Nat), n < m + i → 1 ≤ i → i ≤ n →
    ((∀ j, i ≤ j → j < n → One (df f j 0) (df f j 1) (df f j 2)) → L109v3 100 n f m (Int.ofNat i) (fun _ _ _ => k0) k1 = k1) ∧
    ((¬ ∀ j, i ≤ j → j < n → One (df f j 0) (df f j 1) (df f j 2)) → L109v3 100 n f m (Int.ofNat i) (fun _ _ _ => k0) k1 = k0) := by
  intro m
  induction m with
  | zero => intro i h1 h2; omega
  | succ m ih =>
    intro i h1 h2 h3
    unfold L109v3
    rw [lt_nat, w64_pred h2 (by omega), inb_nat, inb_nat, toNat_nat, toNat_nat]
    by_cases h : i < n
    · obtain ⟨s1, _⟩ := sub_law (hB i h) (hB (i - 1) (by omega))
      have hi : i - 1 < n := by omega
      rw [s1, ob_some, count109, decide_eq_true h, decide_eq_true hi, w64_succ (by omega)]
      obtain ⟨e1, e2⟩ := ih (i + 1) (by omega) (by omega) (by omega)
      simp only [cond_true]
      by_cases ho : One (df f i 0) (df f i 1) (df f i 2)
      · have hst : (∀ j, i ≤ j → j < n → One (df f j 0) (df f j 1) (df f j 2)) ↔ ∀ j, i + 1 ≤ j → j < n → One (df f j 0) (df f j 1) (df f j 2) :=
          ⟨fun H j a b => H j (by omega) b, fun H j a b => by
            by_cases e : j = i
            · rw [e]; exact ho
            · exact H j (by omega) b⟩
        rw [hst]
        have ho' := ho
        unfold One df at ho'
        rcases ho' with ⟨a, b, c⟩ | ⟨a, b, c⟩ | ⟨a, b, c⟩
        · have a' : (CV.int (f i 0) - CV.int (f (i - 1) 0) != 0) = true := by simpa using a
          rw [a', b, c]; exact ⟨e1, e2⟩
        · have b' : (CV.int (f i 1) - CV.int (f (i - 1) 1) != 0) = true := by simpa using b
          rw [a, b', c]; exact ⟨e1, e2⟩
        · have c' : (CV.int (f i 2) - CV.int (f (i - 1) 2) != 0) = true := by simpa using c
          rw [a, b, c']; exact ⟨e1, e2⟩
      · refine ⟨fun H => absurd (H i (Nat.le_refl i) h) ho, fun _ => ?_⟩
        unfold One df at ho
        cases ha : (CV.int (f i 0) - CV.int (f (i - 1) 0) != 0) <;> cases hb : (CV.int (f i 1) - CV.int (f (i - 1) 1) != 0) <;> cases hc : (CV.int (f i 2) - CV.int (f (i - 1) 2) != 0) <;> (try rfl) <;>
          (exfalso; apply ho; simp only [bne_iff_ne, ne_eq, bne_eq_false_iff_eq] at ha hb hc; omega)
    · rw [decide_eq_false h]
      exact ⟨fun _ => rfl, fun H => absurd (fun j a b => by omega) H⟩
theorem route109 (n : Nat) (f : Nat → Nat → CV) (s : Int) : (Rt n f s → F109 100 n f s = some true) ∧ (¬ Rt n f s → F109 100 n f s = some false) := by
  unfold F109 D109
  by_cases q1 : n < 2
  · rw [bif_f (by simp; omega)]; exact ⟨fun h => by have := h.lo; omega, fun _ => rfl⟩
  rw [bif_t (by simp; omega)]
  by_cases q2 : n > 32
  · rw [bif_f (by simp; omega)]; exact ⟨fun h => by have := h.hi; omega, fun _ => rfl⟩
  rw [bif_t (by simp; omega)]
  unfold F104 D104 F103 D103
  obtain ⟨z, z1, z2⟩ := far103 n f (by omega) 100 0 (by omega) (by omega)
  have z1' : L103v1 100 n f (Int.ofNat n) 100 0 (fun x => some x) (some (-1)) = some z := z1
  rw [z1', ob_some, ob_some]
  by_cases hB : ∀ j, 0 ≤ j → j < n → Row 524288 f j
  case neg => rw [bif_f (by simp [z2.2 hB])]; exact ⟨fun h => absurd (fun j _ hj => h.box j hj) hB, fun _ => rfl⟩
  have hz : ¬ z ≥ 0 := fun h => z2.1 h hB
  rw [bif_t (by simp; omega)]
  by_cases q3 : s < 1
  · rw [bif_f (by simp [q3])]; exact ⟨fun h => by have := h.s1; omega, fun _ => rfl⟩
  rw [bif_t (by simp [q3])]
  by_cases q4 : s > 10000
  · rw [bif_t (by simp [q4])]; exact ⟨fun h => by have := h.s2; omega, fun _ => rfl⟩
  rw [bif_f (by simp [q4])]
  obtain ⟨e1, e2⟩ := one109 n f (by omega) (fun j h => hB j (Nat.zero_le j) h) (some false) (some true) 100 1 (by omega) (by omega) (by omega)
  exact ⟨fun h => e1 (fun j a b => h.one j a b), fun h => e2 (fun H => h ⟨by omega, by omega, by omega, by omega, fun j hj => hB j (Nat.zero_le j) hj, H⟩)⟩
def Vg (n : Nat) (f : Nat → Nat → CV) (x y : Int) : Bool := match F22 100 n f 0 (fun _ _ => .any) x y with | some z => decide (z ≥ 0) | none => false
def cxP (P : Nat → Int × Int × Int) (V : Int → Int → Bool) (i : Nat) : Prop :=
  (P (i - 1)).1 = (P i).1 ∧ (P (i - 1)).2.1 = (P i).2.1 ∧ ((P (i - 1)).2.2 ≤ 0 ∨ (P i).2.2 ≤ 0) ∧ (0 ≤ (P (i - 1)).2.2 ∨ 0 ≤ (P i).2.2) ∧ V (P i).1 (P i).2.1 = true
instance (P : Nat → Int × Int × Int) (V : Int → Int → Bool) (i : Nat) : Decidable (cxP P V i) := inferInstanceAs (Decidable (_ ∧ _))
def dd (n : Nat) (P : Nat → Int × Int × Int) (V : Int → Int → Bool) : Nat → Nat → List (Int × Int) → List (Int × Int)
  | 0, _, l => l
  | m + 1, i, l => if i < n then (if cxP P V i ∧ ((P i).1, (P i).2.1) ∉ l then dd n P V m (i + 1) (l ++ [((P i).1, (P i).2.1)]) else dd n P V m (i + 1) l) else l
structure Out (S : ByteArray) (s : Int) (l : List (Int × Int)) (N : Nat) (O : Nat → Nat → CV) : Prop where
  len : N = l.length
  str : ∀ j, j < N → ByteArray.toList (CV.str (O j 0)) = ByteArray.toList S
  size : ∀ j, j < N → CV.int (O j 3) = s
  at_ : ∀ j (h : j < l.length), CV.int (O j 1) = l[j].1 ∧ CV.int (O j 2) = l[j].2
theorem Out.hit {S : ByteArray} {s : Int} {l : List (Int × Int)} {N : Nat} {O : Nat → Nat → CV} (H : Out S s l N O) (x y : Int) : (∃ j, 0 ≤ j ∧ j < N ∧ Hit O x y j) ↔ (x, y) ∈ l := by
  have hl := H.len
  constructor
  · rintro ⟨j, _, h, a, b⟩
    have hj : j < l.length := by omega
    obtain ⟨p, q⟩ := H.at_ j hj
    have e : l[j] = (x, y) := by rw [Prod.ext_iff]; exact ⟨p.symm.trans a, q.symm.trans b⟩
    rw [← e]; exact List.getElem_mem hj
  · intro h
    obtain ⟨j, hj, e⟩ := List.getElem_of_mem h
    obtain ⟨p, q⟩ := H.at_ j hj
    rw [e] at p q
    exact ⟨j, Nat.zero_le j, by omega, p, q⟩
theorem Out.add {S : ByteArray} {s : Int} {l : List (Int × Int)} {N : Nat} {O : Nat → Nat → CV} (H : Out S s l N O) (x y : Int) : Out S s (l ++ [(x, y)]) (N + 1) (joinF N O (orow S x y s)) := by
  have hl := H.len
  have old : ∀ j k, j < N → joinF N O (orow S x y s) j k = O j k := by
    intro j k h
    unfold joinF
    have e' : Nat.blt j N = true := by rw [Nat.blt_eq]; exact h
    simp only [e', cond_true]
  have new : ∀ k, joinF N O (orow S x y s) N k = orow S x y s 0 k := by
    intro k
    unfold joinF
    have e' : Nat.blt N N = false := by rw [← Bool.not_eq_true, Nat.blt_eq]; omega
    simp only [e', cond_false, Nat.sub_self]
  refine ⟨by simp [hl], fun j hj => ?_, fun j hj => ?_, fun j hj => ?_⟩
  · by_cases e : j < N
    · rw [old j 0 e]; exact H.str j e
    · have e : j = N := by omega
      rw [e, new]; rfl
  · by_cases e : j < N
    · rw [old j 3 e]; exact H.size j e
    · have e : j = N := by omega
      rw [e, new]; rfl
  · by_cases e : j < N
    · have hj' : j < l.length := by omega
      rw [old j 1 e, old j 2 e, List.getElem_append_left hj']
      exact H.at_ j hj'
    · have e2 : j = N := by simp at hj; omega
      have e3 : (l ++ [(x, y)])[j] = (x, y) := by rw [List.getElem_append_right (by omega)]; simp
      rw [e3, e2, new, new]
      exact ⟨rfl, rfl⟩
theorem step121 (g : Nat → CV) (n : Nat) (f : Nat → Nat → CV) (s a b c r : Int) (hr : 0 ≤ r ∧ r ≤ 23) (hn : n ≤ 32) (m i cnt : Nat) (out : Nat → Nat → CV) (h1 : 1 ≤ i) (h2 : i < n) (h3 : cnt < i)
    (P : Nat → Int × Int × Int) (hP : ∀ j, j < n → F117 100 a b c r (CV.int (f j 0)) (CV.int (f j 1)) (CV.int (f j 2)) = some (P j)) (l : List (Int × Int)) (H : Out (CV.str (g 0)) s l cnt out) (k KL : Nat → (Nat → Nat → CV) → Option (Bool × Nat × (Nat → Nat → CV)))
    (hL : ∀ C O, L121v1 100 s g n f a b c r m C (Int.ofNat (i + 1)) O k = KL C O) :
      L121v1 100 s g n f a b c r (m + 1) cnt (Int.ofNat i) out k = (if cxP P (Vg (CV.len (g 6)) (CV.el (g 6))) i ∧ ((P i).1, (P i).2.1) ∉ l then KL (cnt + 1) (joinF cnt out (orow (CV.str (g 0)) (P i).1 (P i).2.1 s)) else KL cnt out) := by
  have hi : i - 1 < n := by omega
  have p1 := hP (i - 1) hi
  have q1 := hP i h2
  have e118 : ∀ j, j < n → F118 100 (Int.ofNat j) (listF [(.i .i64 a), (.i .i64 b), (.i .i64 c), (.i .i64 r)]) (listF [(.ro false (.pr (.int .i64) (.pr (.int .i64) (.pr (.int .i64) .nil))) n f)]) = ob (F117 100 a b c r (CV.int (f j 0)) (CV.int (f j 1)) (CV.int (f j 2))) fun x5 => some (x5.1, x5.2.1, x5.2.2) := by
    intro j hj
    have e : F118 100 (Int.ofNat j) (listF [(.i .i64 a), (.i .i64 b), (.i .i64 c), (.i .i64 r)]) (listF [(.ro false (.pr (.int .i64) (.pr (.int .i64) (.pr (.int .i64) .nil))) n f)]) = bif (inb (Int.ofNat j) n) then (ob (F117 100 a b c r (CV.int (f j 0)) (CV.int (f j 1)) (CV.int (f j 2))) fun x5 => some (x5.1, x5.2.1, x5.2.2)) else none := rfl
    rw [e, inb_nat, decide_eq_true hj]; rfl
  unfold L121v1
  rw [lt_nat, w64_pred h1 (by omega), decide_eq_true h2, e118 _ hi, e118 _ h2, p1, q1, w64_succ (by omega)]
  simp only [ob_some, cond_true, hL]
  by_cases hc1 : (P (i - 1)).1 = (P i).1
  case neg =>
    rw [bif_f (by simpa using hc1), if_neg (fun h => hc1 h.1.1)]
  by_cases hc2 : (P (i - 1)).2.1 = (P i).2.1
  case neg =>
    rw [bif_t (by simpa using hc1), bif_f (by simpa using hc2), if_neg (fun h => hc2 h.1.2.1)]
  rw [bif_t (by simpa using hc1), bif_t (by simpa using hc2)]
  by_cases hc3 : (P (i - 1)).2.2 ≤ 0 ∨ (P i).2.2 ≤ 0
  case neg =>
    rw [bif_f, if_neg (fun h => hc3 h.1.2.2.1)]
    rw [decide_eq_true (by split <;> omega)]; rfl
  by_cases hc4 : 0 ≤ (P (i - 1)).2.2 ∨ 0 ≤ (P i).2.2
  case neg =>
    rw [bif_t, bif_t, if_neg (fun h => hc4 h.1.2.2.2.1)]
    · rw [decide_eq_true (by split <;> omega)]
    · rw [decide_eq_false (by split <;> omega)]; rfl
  rw [bif_t (by rw [decide_eq_false (by split <;> omega)]; rfl), bif_f (by rw [decide_eq_false (by split <;> omega)])]
  obtain ⟨z, z1, _⟩ := place_law (CV.len (g 6)) (CV.el (g 6)) 0 (fun _ _ => .any) (P (i - 1)).1 (P (i - 1)).2.1
  have e112 : F112 100 (listF (pj kR0 g)) = some (CV.len (g 6), CV.el (g 6), 0, (fun _ _ => .any)) := rfl
  rw [e112, ob_some]
  simp only [z1, ob_some]
  have hv : Vg (CV.len (g 6)) (CV.el (g 6)) (P i).1 (P i).2.1 = decide (z ≥ 0) := by unfold Vg; rw [← hc1, ← hc2, z1]
  have hcn : cnt ≤ 40 := by omega
  have hble : Nat.ble (cnt + 1) 1073741824 = true := by rw [Nat.ble_eq]; omega
  by_cases hz : z < 0
  · rw [bif_f (by simp; omega), if_neg]
    rintro ⟨⟨_, _, _, _, h⟩, _⟩
    rw [hv] at h
    have := of_decide_eq_true h
    omega
  · rw [bif_t (by simp; omega), hble]
    obtain ⟨y, y1, y2⟩ := contains119 cnt out (CV.str (g 0)) (P (i - 1)).1 (P (i - 1)).2.1 s hcn (fun j hj => ⟨H.str j hj, H.size j hj⟩) 100 0 (by omega) (by omega)
    have e120 : F120 100 cnt out (CV.str (g 0)) (P (i - 1)).1 (P (i - 1)).2.1 s = some (decide (y ≥ 0)) := by
      unfold F120 D120 F119 D119
      have y1' : L119v1 100 cnt out (Int.ofNat cnt) (CV.str (g 0)) (P (i - 1)).1 (P (i - 1)).2.1 s 100 0 (fun x => some x) (some (-1)) = some y := y1
      rw [y1', ob_some]
    rw [e120, ob_some]
    rw [H.hit, hc1, hc2] at y2
    by_cases hy : y ≥ 0
    · rw [decide_eq_true hy, bif_f (by rfl), if_neg (fun h => h.2 (y2.1 hy))]
    · rw [decide_eq_false hy, bif_t (by rfl), bif_t (by rfl), if_pos ⟨⟨hc1, hc2, hc3, hc4, by rw [hv]; exact decide_eq_true (by omega)⟩, fun h => hy (y2.2 h)⟩, hc1, hc2]
      rfl
theorem run121 (g : Nat → CV) (n : Nat) (f : Nat → Nat → CV) (s a b c r : Int) (hr : 0 ≤ r ∧ r ≤ 23) (hn : n ≤ 32)
    (P : Nat → Int × Int × Int) (hP : ∀ j, j < n → F117 100 a b c r (CV.int (f j 0)) (CV.int (f j 1)) (CV.int (f j 2)) = some (P j)) : ∀ (m i cnt : Nat) (out : Nat → Nat → CV) (l : List (Int × Int)), n < m + i → 1 ≤ i → i ≤ n → cnt < i → Out (CV.str (g 0)) s l cnt out →
    ∃ N O, L121v1 100 s g n f a b c r m cnt (Int.ofNat i) out (fun x y => some (false, x, y)) = some (false, N, O) ∧ Out (CV.str (g 0)) s (dd n P (Vg (CV.len (g 6)) (CV.el (g 6))) m i l) N O ∧ N ≤ 32 := by
  intro m
  induction m with
  | zero => intro i cnt out l h1 h2; omega
  | succ m ih =>
    intro i cnt out l h1 h2 h3 h4 H
    unfold dd
    by_cases h : i < n
    · rw [step121 g n f s a b c r hr hn m i cnt out h2 h h4 P hP l H (fun x y => some (false, x, y)) _ (fun _ _ => rfl), if_pos h]
      by_cases hc : cxP P (Vg (CV.len (g 6)) (CV.el (g 6))) i ∧ ((P i).1, (P i).2.1) ∉ l
      · rw [if_pos hc, if_pos hc]
        exact ih (i + 1) (cnt + 1) _ _ (by omega) (by omega) (by omega) (by omega) (H.add _ _)
      · rw [if_neg hc, if_neg hc]
        exact ih (i + 1) cnt out l (by omega) (by omega) (by omega) (by omega) H
    · rw [if_neg h]
      unfold L121v1
      rw [lt_nat, decide_eq_false h]
      exact ⟨cnt, out, rfl, H, by omega⟩
def hits (n : Nat) (P : Nat → Int × Int × Int) (V : Int → Int → Bool) : List (Int × Int) := dd n P V 100 1 []
theorem cross_yes (g : Nat → CV) (n : Nat) (f : Nat → Nat → CV) (s : Int) (R : Rt n f s) (t1 : F113 100 (listF (pj kR0 g)) = some true) {a b c r : Int} (hr : 0 ≤ r ∧ r ≤ 23) (i1 : F116 100 (CV.int (g 14)) (CV.int (g 15)) (CV.int (g 16)) (CV.int (g 17)) = some (a, b, c, r))
    (P : Nat → Int × Int × Int) (hP : ∀ j, j < n → F117 100 a b c r (CV.int (f j 0)) (CV.int (f j 1)) (CV.int (f j 2)) = some (P j)) :
    ∃ N O, F121 100 g n f s = some (N, O) ∧ Out (CV.str (g 0)) s (hits n P (Vg (CV.len (g 6)) (CV.el (g 6)))) N O ∧ N ≤ 32 := by
  have hlo := R.lo
  have hhi := R.hi
  obtain ⟨N, O, l1, l2, l3⟩ := run121 g n f s a b c r hr hhi P hP 100 1 0 (fun _ _ => .any) [] (by omega) (by omega) (by omega) (by omega) ⟨rfl, fun j h => absurd h (by omega), fun j h => absurd h (by omega), fun j h => absurd h (by simp)⟩
  exact ⟨N, O, cross121 g n f s ((route109 n f s).1 R) t1 i1 l1, l2, l3⟩
theorem cross_nope (g : Nat → CV) (n : Nat) (f : Nat → Nat → CV) (s : Int) (b1 b2 : Bool) (h : b1 = false ∨ b2 = false) (r1 : F109 100 n f s = some b1) (t1 : F113 100 (listF (pj kR0 g)) = some b2) :
    F121 100 g n f s = some (0, (fun _ _ => .any)) := by
  unfold F121 FT121 D121
  rw [r1, ob_some]
  cases b1 with
  | false => rw [bif_f (by rfl), ob_some]; rfl
  | true =>
    cases b2 with
    | false => rw [bif_t (by rfl), t1, ob_some, bif_t (by rfl), ob_some]; rfl
    | true => rcases h with h | h <;> cases h
end Go.Eng.R13
/-
  PenetrationMoved: the plain law.
-/
set_option linter.all false
namespace Go.Eng.R13
open Go Go.RowKit Go.Eng Geo
theorem apply_exact {x y z t a b c : Int} (ht : 0 ≤ t ∧ t ≤ 23) (h1 : Bx 524288 x y z) (h2 : Bx 524288 a b c) : F117 100 x y z t a b c = some ((rotE t a b c).1 + x, (rotE t a b c).2.1 + y, (rotE t a b c).2.2 + z) := by
  have b1 : Bx 1099511627776 x y z := by unfold Bx at *; omega
  have b2 : Bx 1099511627776 a b c := by unfold Bx at *; omega
  have b3 : Bx 4398046511104 a b c := by unfold Bx at *; omega
  have hb := rot_bd (t := t) h2
  unfold F117 D117
  rw [box105 _ _ _ _ (by omega) (by omega), box105 _ _ _ _ (by omega) (by omega), ob_some, ob_some, bif_t (by simp [b1]), bif_f (by simp [b2]), apply114 _ _ _ _ ht b3, ob_some]
  unfold F107 D107
  unfold Bx at hb b1
  rw [ob_some, w64_of (by omega) (by omega), w64_of (by omega) (by omega), w64_of (by omega) (by omega)]
theorem inverse_exact {x y z t r : Int} (h : Rp x y z t) (i1 : F115 100 t = some r) (hr : 0 ≤ r ∧ r ≤ 23) : F116 100 x y z t = some (-(rotE r x y z).1, -(rotE r x y z).2.1, -(rotE r x y z).2.2, r) := by
  obtain ⟨hb, ht⟩ := h
  have hb1 : Bx 1099511627776 x y z := by unfold Bx at *; omega
  have hb3 : Bx 4398046511104 (-x) (-y) (-z) := by unfold Bx at *; omega
  unfold F116 D116
  rw [box105 _ _ _ _ (by omega) (by omega), ob_some, bif_f (by simp [hb1]), i1, ob_some]
  unfold F106 D106
  unfold Bx at hb
  rw [ob_some, neg_w (x := x) (by omega) (by omega), neg_w (x := y) (by omega) (by omega), neg_w (x := z) (by omega) (by omega), apply114 _ _ _ _ hr hb3, ob_some, rot_neg]
theorem neg_bx {R a b c : Int} (h : Bx R a b c) : Bx R (-a) (-b) (-c) := by unfold Bx at *; omega
theorem join_at (i : Nat) (O : Nat → Nat → CV) (a b c : Int) : (∀ j k, j < i → joinF i O (rowsF 3 [(.i .i64 a), (.i .i64 b), (.i .i64 c)]) j k = O j k) ∧
    joinF i O (rowsF 3 [(.i .i64 a), (.i .i64 b), (.i .i64 c)]) i 0 = .i .i64 a ∧ joinF i O (rowsF 3 [(.i .i64 a), (.i .i64 b), (.i .i64 c)]) i 1 = .i .i64 b ∧ joinF i O (rowsF 3 [(.i .i64 a), (.i .i64 b), (.i .i64 c)]) i 2 = .i .i64 c := by
  have e' : Nat.blt i i = false := by rw [← Bool.not_eq_true, Nat.blt_eq]; omega
  refine ⟨fun j k h => ?_, ?_, ?_, ?_⟩
  · unfold joinF
    have e' : Nat.blt j i = true := by rw [Nat.blt_eq]; exact h
    simp only [e', cond_true]
  all_goals (unfold joinF; simp only [e', cond_false, Nat.sub_self]; rfl)
theorem pj14 (h : Nat → CV) : CV.int (listF (pj kR0 h) 14) = CV.int (h 14) := rfl
theorem pj15 (h : Nat → CV) : CV.int (listF (pj kR0 h) 15) = CV.int (h 15) := rfl
theorem pj16 (h : Nat → CV) : CV.int (listF (pj kR0 h) 16) = CV.int (h 16) := rfl
theorem pj17 (h : Nat → CV) : CV.int (listF (pj kR0 h) 17) = CV.int (h 17) := rfl
end Go.Eng.R13
/-
  PenetrationBack: the plain law.
-/
set_option linter.all false
namespace Go.Eng.R13
open Go Go.RowKit Go.Eng Geo
theorem mem_dd {n : Nat} {P : Nat → Int × Int × Int} {V : Int → Int → Bool} (q : Int × Int) : ∀ (m i : Nat) (l : List (Int × Int)), n < m + i → (q ∈ dd n P V m i l ↔ q ∈ l ∨ ∃ j, i ≤ j ∧ j < n ∧ cxP P V j ∧ q = ((P j).1, (P j).2.1)) := by
  intro m
  induction m with
  | zero => intro i l h; unfold dd; exact ⟨fun h => .inl h, fun h' => h'.elim id (fun ⟨j, a, b, _⟩ => by omega)⟩
  | succ m ih =>
    intro i l h
    unfold dd
    by_cases hi : i < n
    · rw [if_pos hi]
      have hsplit : (∃ j, i ≤ j ∧ j < n ∧ cxP P V j ∧ q = ((P j).1, (P j).2.1)) ↔ (cxP P V i ∧ q = ((P i).1, (P i).2.1)) ∨ ∃ j, i + 1 ≤ j ∧ j < n ∧ cxP P V j ∧ q = ((P j).1, (P j).2.1) := by
        constructor
        · rintro ⟨j, a, b, c, d⟩
          by_cases e : j = i
          · subst e; exact .inl ⟨c, d⟩
          · exact .inr ⟨j, by omega, b, c, d⟩
        · rintro (⟨c, d⟩ | ⟨j, a, b, c, d⟩)
          · exact ⟨i, Nat.le_refl i, hi, c, d⟩
          · exact ⟨j, by omega, b, c, d⟩
      by_cases hc : cxP P V i ∧ ((P i).1, (P i).2.1) ∉ l
      · rw [if_pos hc, ih _ _ (by omega), hsplit, List.mem_append, List.mem_singleton]
        constructor
        · rintro ((a | a) | a)
          · exact .inl a
          · exact .inr (.inl ⟨hc.1, a⟩)
          · exact .inr (.inr a)
        · rintro (a | ⟨_, a⟩ | a)
          · exact .inl (.inl a)
          · exact .inl (.inr a)
          · exact .inr a
      · rw [if_neg hc, ih _ _ (by omega), hsplit]
        constructor
        · rintro (a | a)
          · exact .inl a
          · exact .inr (.inr a)
        · rintro (a | ⟨c, a⟩ | a)
          · exact .inl a
          · refine .inl (Classical.byContradiction fun hno => hc ⟨c, ?_⟩)
            rw [← a]; exact hno
          · exact .inr a
    · rw [if_neg hi]
      exact ⟨fun h => .inl h, fun h' => h'.elim id (fun ⟨j, a, b, _⟩ => by omega)⟩
theorem nodup_dd {n : Nat} {P : Nat → Int × Int × Int} {V : Int → Int → Bool} : ∀ (m i : Nat) (l : List (Int × Int)), l.Nodup → (dd n P V m i l).Nodup := by
  intro m
  induction m with
  | zero => intro i l h; exact h
  | succ m ih =>
    intro i l h
    unfold dd
    by_cases hi : i < n
    · rw [if_pos hi]
      by_cases hc : cxP P V i ∧ ((P i).1, (P i).2.1) ∉ l
      · rw [if_pos hc]
        apply ih
        rw [List.nodup_append]
        refine ⟨h, by simp, fun a ha b hb => ?_⟩
        rw [List.mem_singleton] at hb
        rintro rfl
        rw [hb] at ha
        exact hc.2 ha
      · rw [if_neg hc]; exact ih _ _ h
    · rw [if_neg hi]; exact h
theorem len_le {α : Type} [DecidableEq α] : ∀ (l l' : List α), l.Nodup → (∀ q, q ∈ l → q ∈ l') → l.length ≤ l'.length := by
  intro l
  induction l with
  | nil => intro l' _ _; simp
  | cons a t ih =>
    intro l' hn hs
    obtain ⟨h1, h2⟩ := List.nodup_cons.1 hn
    have ha : a ∈ l' := hs a (by simp)
    have := ih (l'.erase a) h2 (fun q hq => (List.mem_erase_of_ne (by rintro rfl; exact h1 hq)).2 (hs q (by simp [hq])))
    rw [List.length_erase_of_mem ha] at this
    have := List.length_pos_of_mem ha
    simp only [List.length_cons]
    omega
theorem back_cx {n i : Nat} (P : Nat → Int × Int × Int) (V : Int → Int → Bool) (h1 : 1 ≤ i) (h2 : i < n) :
    (cxP (fun j => P (n - 1 - j)) V i ↔ cxP P V (n - i)) ∧ (cxP P V (n - i) → ((P (n - 1 - i)).1, (P (n - 1 - i)).2.1) = ((P (n - i)).1, (P (n - i)).2.1)) := by
  have e1 : n - 1 - (i - 1) = n - i := by omega
  have e2 : n - 1 - i = n - i - 1 := by omega
  unfold cxP
  simp only [e1, e2]
  generalize P (n - i) = p
  generalize P (n - i - 1) = q
  constructor
  · constructor
    · rintro ⟨a, b, c, d, e⟩; exact ⟨a.symm, b.symm, c.symm, d.symm, by rw [a, b]; exact e⟩
    · rintro ⟨a, b, c, d, e⟩; exact ⟨a.symm, b.symm, c.symm, d.symm, by rw [a, b]; exact e⟩
  · rintro ⟨a, b, _⟩; rw [a, b]
theorem back_hits {n : Nat} (hn : n ≤ 32) (P : Nat → Int × Int × Int) (V : Int → Int → Bool) (q : Int × Int) : q ∈ hits n (fun j => P (n - 1 - j)) V ↔ q ∈ hits n P V := by
  unfold hits
  rw [mem_dd q 100 1 [] (by omega), mem_dd q 100 1 [] (by omega)]
  refine or_congr Iff.rfl ⟨?_, ?_⟩
  · rintro ⟨i, a, b, c, d⟩
    obtain ⟨h1, h2⟩ := back_cx P V a b
    have c' := h1.1 c
    exact ⟨n - i, by omega, by omega, c', d.trans (h2 c')⟩
  · rintro ⟨i, a, b, c, d⟩
    obtain ⟨h1, h2⟩ := back_cx (n := n) (i := n - i) P V (by omega) (by omega)
    have e : n - (n - i) = i := by omega
    rw [e] at h1 h2
    exact ⟨n - i, by omega, by omega, h1.2 c, d.trans (h2 c).symm⟩
theorem has158 (N : Nat) (O : Nat → Nat → CV) (S : ByteArray) (x y s : Int) (hN : N ≤ 40) (hS : ∀ j, j < N → ByteArray.toList (CV.str (O j 0)) = ByteArray.toList S ∧ CV.int (O j 3) = s) :
    ((∃ j, 0 ≤ j ∧ j < N ∧ Hit O x y j) → F158 100 N O S x y s = some true) ∧ (¬ (∃ j, 0 ≤ j ∧ j < N ∧ Hit O x y j) → F158 100 N O S x y s = some false) := by
  have K : ∀ m i, N < m + i → i ≤ N →
      ((∃ j, i ≤ j ∧ j < N ∧ Hit O x y j) → L158v1 100 N O S x y s m (Int.ofNat i) (some true) (some false) = some true) ∧ (¬ (∃ j, i ≤ j ∧ j < N ∧ Hit O x y j) → L158v1 100 N O S x y s m (Int.ofNat i) (some true) (some false) = some false) := by
    intro m
    induction m with
    | zero => intro i h1 h2; omega
    | succ m ih =>
      intro i h1 h2
      unfold L158v1
      rw [lt_nat, inb_nat, toNat_nat]
      by_cases h : i < N
      · obtain ⟨i1, i2⟩ := hS i h
        rw [decide_eq_true h, w64_succ (by omega), i1, i2]
        simp only [cond_true, beq_self_eq_true, Bool.true_and, Bool.and_true]
        by_cases hb : Hit O x y i
        · rw [bif_t (by simp [hb.1, hb.2])]
          exact ⟨fun _ => rfl, fun H => absurd ⟨i, Nat.le_refl i, h, hb⟩ H⟩
        · rw [bif_f]
          · obtain ⟨u1, u2⟩ := ih (i + 1) (by omega) (by omega)
            refine ⟨fun ⟨j, a, b, c⟩ => u1 ⟨j, ?_, b, c⟩, fun H => u2 (fun ⟨j, a, b, c⟩ => H ⟨j, by omega, b, c⟩)⟩
            by_cases e : j = i
            · rw [e] at c; exact absurd c hb
            · omega
          · cases hx : (CV.int (O i 1) == x) with
            | false => rfl
            | true =>
              cases hy : (CV.int (O i 2) == y) with
              | false => rfl
              | true => exact absurd ⟨eq_of_beq hx, eq_of_beq hy⟩ hb
      · rw [decide_eq_false h]
        exact ⟨fun ⟨j, a, b, _⟩ => by omega, fun _ => rfl⟩
  exact K 100 0 (by omega) (by omega)
theorem same_set {S : ByteArray} {s : Int} {l l' : List (Int × Int)} {N N' : Nat} {O O' : Nat → Nat → CV} (H : Out S s l N O) (H' : Out S s l' N' O') (hN : N ≤ 32) (hN' : N' ≤ 32) (hd : l.Nodup) (hs : ∀ q, q ∈ l → q ∈ l') (g : Nat → CV) (k1 : Option Bool) :
    L159v2 100 N O N' O' g 100 0 (some false) k1 = k1 := by
  have hl := H.len
  have K : ∀ m i, N < m + i → i ≤ N → L159v2 100 N O N' O' g m (Int.ofNat i) (some false) k1 = k1 := by
    intro m
    induction m with
    | zero => intro i h1 h2; omega
    | succ m ih =>
      intro i h1 h2
      unfold L159v2
      rw [lt_nat, inb_nat, toNat_nat]
      by_cases h : i < N
      · have hi : i < l.length := by omega
        obtain ⟨p1, p2⟩ := H.at_ i hi
        have hbe : inbe (Int.ofNat i) N = true := by
          unfold inbe
          have : (0 : Int) ≤ Int.ofNat i := Int.natCast_nonneg i
          simp; omega
        have e1 : F158 100 N' O' (CV.str (O i 0)) (CV.int (O i 1)) (CV.int (O i 2)) (CV.int (O i 3)) = some true := by
          refine (has158 N' O' _ _ _ _ (by omega) (fun j hj => ⟨(H'.str j hj).trans (H.str i h).symm, (H'.size j hj).trans (H.size i h).symm⟩)).1 ?_
          rw [H'.hit, p1, p2]
          exact hs _ (List.getElem_mem hi)
        have e2 : F158 100 (i - 0) O (CV.str (O i 0)) (CV.int (O i 1)) (CV.int (O i 2)) (CV.int (O i 3)) = some false := by
          refine (has158 (i - 0) O _ _ _ _ (by omega) (fun j hj => ⟨(H.str j (by omega)).trans (H.str i h).symm, (H.size j (by omega)).trans (H.size i h).symm⟩)).2 ?_
          rintro ⟨j, _, hj, a, b⟩
          have hj' : j < l.length := by omega
          obtain ⟨q1, q2⟩ := H.at_ j hj'
          refine List.pairwise_iff_getElem.1 hd j i hj' hi (by omega) ?_
          rw [Prod.ext_iff]
          exact ⟨q1.symm.trans (a.trans p1), q2.symm.trans (b.trans p2)⟩
        rw [decide_eq_true h, e1, hbe, w64_succ (by omega)]
        simp only [ob_some, cond_true]
        rw [e2, ob_some]
        exact ih (i + 1) (by omega) (by omega)
      · rw [decide_eq_false h]; rfl
  exact K 100 0 (by omega) (by omega)
def BkAt (n : Nat) (f O : Nat → Nat → CV) (j : Nat) : Prop := CV.int (O j 0) = CV.int (f (n - 1 - j) 0) ∧ CV.int (O j 1) = CV.int (f (n - 1 - j) 1) ∧ CV.int (O j 2) = CV.int (f (n - 1 - j) 2)
theorem back_loop {ρ : Type} (n : Nat) (f : Nat → Nat → CV) (s : Int) (g : Nat → CV) (hn : n ≤ 40) (k0 : Nat → (Nat → Nat → CV) → Option ρ) : ∀ (m i cnt : Nat) (O : Nat → Nat → CV), i < m → cnt + i = n → (∀ j, j < cnt → BkAt n f O j) →
    ∃ O', L159v1 100 n f s g m cnt (Int.ofNat i - 1) O k0 = k0 n O' ∧ ∀ j, j < n → BkAt n f O' j := by
  intro m
  induction m with
  | zero => intro i cnt O h1; omega
  | succ m ih =>
    intro i cnt O h1 h2 hI
    unfold L159v1
    by_cases h : i = 0
    · subst h
      rw [bif_f (by decide)]
      have e : cnt = n := by omega
      subst e
      exact ⟨O, rfl, hI⟩
    · have e : Int.ofNat i - 1 = Int.ofNat (i - 1) := by simp; omega
      have hble : Nat.ble (cnt + 1) 1073741824 = true := by rw [Nat.ble_eq]; omega
      rw [e, inb_nat, toNat_nat, decide_eq_true (show i - 1 < n by omega), bif_t (decide_eq_true (by simp)), hble]
      simp only [cond_true]
      have e2 : w64 (Int.ofNat (i - 1) - 1) = Int.ofNat (i - 1) - 1 := by rw [w64_of] <;> simp <;> omega
      rw [e2]
      refine ih (i - 1) (cnt + 1) _ (by omega) (by omega) (fun j hj => ?_)
      obtain ⟨n1, n2, n3, n4⟩ := join_at cnt O (CV.int (f (i - 1) 0)) (CV.int (f (i - 1) 1)) (CV.int (f (i - 1) 2))
      by_cases hj' : j < cnt
      · have := hI j hj'
        unfold BkAt at *
        rw [n1 j 0 hj', n1 j 1 hj', n1 j 2 hj']
        exact this
      · have ej : j = cnt := by omega
        subst ej
        have e3 : n - 1 - j = i - 1 := by omega
        unfold BkAt
        rw [n2, n3, n4, e3]
        exact ⟨rfl, rfl, rfl⟩
theorem back_rt {n : Nat} {f O : Nat → Nat → CV} {s : Int} (h : ∀ j, j < n → BkAt n f O j) : Rt n f s ↔ Rt n O s := by
  have hd : ∀ i, 1 ≤ i → i < n → df O i 0 = -df f (n - i) 0 ∧ df O i 1 = -df f (n - i) 1 ∧ df O i 2 = -df f (n - i) 2 := by
    intro i h1 h2
    obtain ⟨a1, a2, a3⟩ := h i h2
    obtain ⟨b1, b2, b3⟩ := h (i - 1) (by omega)
    have e1 : n - 1 - (i - 1) = n - i := by omega
    have e2 : n - 1 - i = n - i - 1 := by omega
    rw [e2] at a1 a2 a3
    rw [e1] at b1 b2 b3
    unfold df
    rw [a1, a2, a3, b1, b2, b3]
    omega
  have hneg : ∀ {a b c : Int}, One (-a) (-b) (-c) ↔ One a b c := by intro a b c; unfold One; omega
  constructor
  · intro R
    refine ⟨R.lo, R.hi, R.s1, R.s2, fun j hj => ?_, fun i h1 h2 => ?_⟩
    · obtain ⟨a1, a2, a3⟩ := h j hj
      unfold Row
      rw [a1, a2, a3]; exact R.box (n - 1 - j) (by omega)
    · obtain ⟨a1, a2, a3⟩ := hd i h1 h2
      rw [a1, a2, a3, hneg]; exact R.one (n - i) (by omega) (by omega)
  · intro R
    refine ⟨R.lo, R.hi, R.s1, R.s2, fun j hj => ?_, fun i h1 h2 => ?_⟩
    · obtain ⟨a1, a2, a3⟩ := h (n - 1 - j) (by omega)
      have e : n - 1 - (n - 1 - j) = j := by omega
      rw [e] at a1 a2 a3
      have := R.box (n - 1 - j) (by omega)
      unfold Row at *
      rw [a1, a2, a3] at this; exact this
    · obtain ⟨a1, a2, a3⟩ := hd (n - i) (by omega) (by omega)
      have e : n - (n - i) = i := by omega
      rw [e] at a1 a2 a3
      have := R.one (n - i) (by omega) (by omega)
      rw [a1, a2, a3, hneg] at this; exact this
theorem back_same (G : Nat → CV) (n : Nat) (f O : Nat → Nat → CV) (s : Int) (hB : ∀ j, j < n → BkAt n f O j) :
    ∃ N U N' U', F121 100 G n f s = some (N, U) ∧ F121 100 G n O s = some (N', U') ∧ N = N' ∧ ∀ g k1, L159v2 100 N U N' U' g 100 0 (some false) k1 = k1 := by
  obtain ⟨bt, t1, _, t3⟩ := target_law (listF (pj kR0 G))
  by_cases R : Rt n f s
  case neg =>
    exact ⟨0, _, 0, _, cross_nope _ _ _ _ false bt (.inl rfl) ((route109 _ _ _).2 R) t1, cross_nope _ _ _ _ false bt (.inl rfl) ((route109 _ _ _).2 (fun h => R ((back_rt hB).2 h))) t1, rfl, fun _ _ => rfl⟩
  cases bt with
  | false =>
    exact ⟨0, _, 0, _, cross_nope _ _ _ _ true false (.inr rfl) ((route109 _ _ _).1 R) t1, cross_nope _ _ _ _ true false (.inr rfl) ((route109 _ _ _).1 ((back_rt hB).1 R)) t1, rfl, fun _ _ => rfl⟩
  | true =>
    have hp := t3 rfl
    rw [pj14, pj15, pj16, pj17] at hp
    obtain ⟨r, i1, _, i3⟩ := inv_law (CV.int (G 17)) hp.2
    have hb := neg_bx (rot_bd (t := r) hp.1)
    let P : Nat → Int × Int × Int := fun j => ((rotE r (CV.int (f j 0)) (CV.int (f j 1)) (CV.int (f j 2))).1 + -(rotE r (CV.int (G 14)) (CV.int (G 15)) (CV.int (G 16))).1, (rotE r (CV.int (f j 0)) (CV.int (f j 1)) (CV.int (f j 2))).2.1 + -(rotE r (CV.int (G 14)) (CV.int (G 15)) (CV.int (G 16))).2.1, (rotE r (CV.int (f j 0)) (CV.int (f j 1)) (CV.int (f j 2))).2.2 + -(rotE r (CV.int (G 14)) (CV.int (G 15)) (CV.int (G 16))).2.2)
    obtain ⟨N, U, c1, c2, c3⟩ := cross_yes G n f s R t1 i3 (inverse_exact hp i1 i3) P (fun j hj => apply_exact i3 hb (R.box j hj))
    obtain ⟨N', U', d1, d2, d3⟩ := cross_yes G n O s ((back_rt hB).1 R) t1 i3 (inverse_exact hp i1 i3) (fun j => P (n - 1 - j)) (fun j hj => by
      obtain ⟨a1, a2, a3⟩ := hB j hj
      rw [a1, a2, a3]
      exact apply_exact i3 hb (R.box _ (by omega)))
    have hm := fun q => back_hits R.hi P (Vg (CV.len (G 6)) (CV.el (G 6))) q
    refine ⟨N, U, N', U', c1, d1, ?_, fun g k1 => same_set c2 d2 c3 d3 (nodup_dd _ _ _ List.nodup_nil) (fun q hq => (hm q).2 hq) g k1⟩
    rw [c2.len, d2.len]
    exact Nat.le_antisymm (len_le _ _ (nodup_dd _ _ _ List.nodup_nil) (fun q hq => (hm q).2 hq)) (len_le _ _ (nodup_dd _ _ _ List.nodup_nil) (fun q hq => (hm q).1 hq))
theorem back46 (g0 : Nat → CV) (hg0 : RowIn kR0 g0) (n1c0 : Nat) (f1c0 : Nat → Nat → CV) (h1c0 : SlIn (.pr (.int .i64) (.pr (.int .i64) (.pr (.int .i64) .nil))) n1c0 f1c0) (a2c0 : Int) (h2c0 : I64 a2c0) : F159 100 g0 n1c0 f1c0 a2c0 = some true := by
  unfold F159 D159
  simp only [awake_law, ob_some]
  generalize listF (pj kR0 g0) = G
  rcases light_law G with h | ⟨h, _⟩
  · rw [h, ob_some, bif_f (by rfl)]
  rw [h, ob_some, bif_t (by rfl)]
  by_cases hn : n1c0 > 40
  · rw [bif_t (by simp; omega)]
  rw [bif_f (by simp; omega)]
  have e : w64 ((Int.ofNat n1c0) - 1) = Int.ofNat n1c0 - 1 := by rw [w64_of] <;> simp <;> omega
  rw [e]
  obtain ⟨O, l1, l2⟩ := back_loop n1c0 f1c0 a2c0 g0 (by omega) (fun x21 x22 => (ob (F121 100 G n1c0 f1c0 a2c0) fun x25 => (ob (F121 100 G x21 x22 a2c0) fun x26 => (L159v2 100 x25.1 x25.2 x26.1 x26.2 g0 100 0
    (some false)
    (bif (((Int.ofNat x25.1) == (Int.ofNat x26.1)) == true) then (some true) else (some false)))))) 100 n1c0 0 (fun _ _ => .any) (by omega) (by omega) (fun j hj => absurd hj (by omega))
  rw [l1]
  obtain ⟨N, U, N', U', c1, c2, c3, c4⟩ := back_same G n1c0 f1c0 O a2c0 l2
  rw [c1, ob_some, c2, ob_some]
  dsimp only
  rw [c4, c3, bif_t (by simp)]
end Go.Eng.R13
