/-
  Several texts in one.
-/
import Derived.Test.YtbjfmobjdipehaaDoorEngV
import Derived.Test.YtbjfmobjdipehaaDoorPlRv
/-
  Squares, and edges that have a point inside of them: the program's and the reference's answers are alike.
-/
set_option linter.all false
namespace Go.Eng.R13
open Go Go.RowKit Go.Eng Geo
def wc (a1 a2 b1 b2 c1 c2 : Int) : Int := w64 (w64 (w64 (b1 - a1) * w64 (c2 - a2)) - w64 (w64 (b2 - a2) * w64 (c1 - a1)))
def cutB (l1 l2 h1 h2 a1 a2 b1 b2 : Int) : Bool :=
  !(decide ((if b1 > a1 then b1 else a1) ≤ l1)) && (!(decide ((if b1 < a1 then b1 else a1) ≥ h1)) && (!(decide ((if b2 > a2 then b2 else a2) ≤ l2)) && (!(decide ((if b2 < a2 then b2 else a2) ≥ h2)) &&
    ((((decide (wc a1 a2 b1 b2 l1 l2 > 0) || decide (wc a1 a2 b1 b2 h1 l2 > 0)) || decide (wc a1 a2 b1 b2 h1 h2 > 0)) || decide (wc a1 a2 b1 b2 l1 h2 > 0)) &&
     (((decide (wc a1 a2 b1 b2 l1 l2 < 0) || decide (wc a1 a2 b1 b2 h1 l2 < 0)) || decide (wc a1 a2 b1 b2 h1 h2 < 0)) || decide (wc a1 a2 b1 b2 l1 h2 < 0))))))
def CutK (n : Nat) (f : Nat → Nat → CV) (l1 l2 h1 h2 : Int) (i : Nat) : Prop :=
  ∃ j, i ≤ j ∧ j < n ∧ cutB l1 l2 h1 h2 (CV.int (f j 0)) (CV.int (f j 1)) (CV.int (f (nx n j) 0)) (CV.int (f (nx n j) 1)) = true
theorem CutK.step {n : Nat} {f : Nat → Nat → CV} {l1 l2 h1 h2 : Int} {i : Nat} (h : cutB l1 l2 h1 h2 (CV.int (f i 0)) (CV.int (f i 1)) (CV.int (f (nx n i) 0)) (CV.int (f (nx n i) 1)) = false) : CutK n f l1 l2 h1 h2 i ↔ CutK n f l1 l2 h1 h2 (i + 1) := by
  constructor
  · rintro ⟨j, a, b, c⟩
    refine ⟨j, ?_, b, c⟩
    by_cases e : j = i
    · subst e; rw [h] at c; cases c
    · omega
  · rintro ⟨j, a, b, c⟩
    exact ⟨j, by omega, b, c⟩
end Go.Eng.R13
/-
  Does a hole cover a square? The program's and the reference's answers are alike, and what they say.
-/
set_option linter.all false
namespace Go.Eng.R13
open Go Go.RowKit Go.Eng Geo
def Cl (n : Nat) (f : Nat → Nat → CV) (x y : Int) : Prop := nr x y ∧ ¬ OutC n f (x, y)
structure CovP (n : Nat) (f : Nat → Nat → CV) (l1 l2 h1 h2 : Int) : Prop where
  valid : Valid n f
  neg : area n (pt f) < 0
  mid : nr (w64 (Int.tdiv (w64 (l1 + h1)) 2)) (w64 (Int.tdiv (w64 (l2 + h2)) 2)) ∧ InC n f (w64 (Int.tdiv (w64 (l1 + h1)) 2), w64 (Int.tdiv (w64 (l2 + h2)) 2))
  c0 : Cl n f l1 l2
  c1 : Cl n f h1 l2
  c2 : Cl n f h1 h2
  c3 : Cl n f l1 h2
  cut : ¬ CutK n f l1 l2 h1 h2 0
end Go.Eng.R13
/-
  Light parts; what a hole covers of an opening: PenetrationCovers.
-/
set_option linter.all false
namespace Go.Eng.R13
open Go Go.RowKit Go.Eng Geo
theorem light_loop {ρ : Type} (g : Nat → CV) (k0 k1 : Option ρ) : ∀ (m i : Nat), 20 < m + i → i ≤ 20 →
    L100v1 100 g m (Int.ofNat i) k0 k1 = k0 ∨
    (L100v1 100 g m (Int.ofNat i) k0 k1 = k1 ∧ ∀ j, i ≤ j → j < (CV.len (g 7)) → j < 20 → CV.len ((CV.el (g 7)) j 0) ≤ 40) := by
  intro m
  induction m with
  | zero => intro i h1 h2; omega
  | succ m ih =>
    intro i h1 h2
    unfold L100v1
    rw [lt_nat, inb_nat, toNat_nat]
    by_cases h : i < (CV.len (g 7))
    · rw [bif_t (by simp [h])]
      by_cases h20 : i < 20
      · rw [bif_t (decide_eq_true (by simp; omega)), bif_t (by simpa using h), w64_succ (by omega)]
        by_cases h3 : CV.len ((CV.el (g 7)) i 0) ≤ 40
        · rw [bif_f (by simp; omega)]
          rcases ih (i + 1) (by omega) (by omega) with h4 | ⟨h4, h5⟩
          · exact .inl h4
          · refine .inr ⟨h4, fun j h6 h7 h8 => ?_⟩
            by_cases e : j = i
            · rw [e]; exact h3
            · exact h5 j (by omega) h7 h8
        · rw [bif_t (by simp; omega)]
          exact .inl rfl
      · rw [bif_f (decide_eq_false (by simp; omega))]
        exact .inr ⟨rfl, fun j h6 h7 h8 => by omega⟩
    · rw [bif_f (by simp [h])]
      exact .inr ⟨rfl, fun j h6 h7 => by omega⟩
theorem light_law (g : Nat → CV) :
    F100 100 g = some false ∨
    (F100 100 g = some true ∧ (CV.len (g 6)) ≤ 40 ∧ (CV.len (g 7)) ≤ 12 ∧ ∀ j, j < (CV.len (g 7)) → CV.len ((CV.el (g 7)) j 0) ≤ 40) := by
  unfold F100 D100
  rcases light_loop g (some false) (bif ((decide ((Int.ofNat (CV.len (g 6))) ≤ 40)) == true) then (some (decide ((Int.ofNat (CV.len (g 7))) ≤ 12))) else (some false)) 100 0 (by omega) (by omega) with h | ⟨h, h2⟩
  · exact .inl h
  · by_cases h7 : (CV.len (g 6)) ≤ 40
    · by_cases h9 : (CV.len (g 7)) ≤ 12
      · exact .inr ⟨h.trans (by rw [bif_t (by simp; omega), decide_eq_true (show (Int.ofNat (CV.len (g 7))) ≤ 12 by simp; omega)]), h7, h9, fun j hj => h2 j (by omega) hj (by omega)⟩
      · exact .inl (h.trans (by rw [bif_t (by simp; omega), decide_eq_false (show ¬ (Int.ofNat (CV.len (g 7))) ≤ 12 by simp; omega)]))
    · exact .inl (h.trans (by rw [bif_f (by simp; omega)]))
def CovK (n9 : Nat) (f10 : Nat → Nat → CV) (l1 l2 h1 h2 : Int) (i : Nat) : Prop := ∃ j, i ≤ j ∧ j < n9 ∧ CovP (CV.len (f10 j 0)) (CV.el (f10 j 0)) l1 l2 h1 h2
theorem CovK.step {n9 : Nat} {f10 : Nat → Nat → CV} {l1 l2 h1 h2 : Int} {i : Nat} (h : ¬ CovP (CV.len (f10 i 0)) (CV.el (f10 i 0)) l1 l2 h1 h2) : CovK n9 f10 l1 l2 h1 h2 i ↔ CovK n9 f10 l1 l2 h1 h2 (i + 1) := by
  constructor
  · rintro ⟨j, a, b, c⟩
    refine ⟨j, ?_, b, c⟩
    by_cases e : j = i
    · subst e; exact absurd c h
    · omega
  · rintro ⟨j, a, b, c⟩
    exact ⟨j, by omega, b, c⟩
def hf (s : Int) : Int := w64 (Int.tdiv (w64 (s + 1)) 2)
theorem awake_law : F132 100 = some true := by kernel_rfl
end Go.Eng.R13
/-
  Boxes of whole numbers, the turns and what undoes them: the program's and the reference's answers are alike.
-/
set_option linter.all false
namespace Go.Eng.R13
open Go Go.RowKit Go.Eng Geo
def Bx (r x y z : Int) : Prop := (-r ≤ x ∧ x ≤ r) ∧ (-r ≤ y ∧ y ≤ r) ∧ (-r ≤ z ∧ z ≤ r)
instance (r x y z : Int) : Decidable (Bx r x y z) := inferInstanceAs (Decidable (_ ∧ _))
theorem box105 (r x y z : Int) (h0 : 0 ≤ r) (h1 : r ≤ 1099511627776) : F105 100 x y z r = some (decide (Bx r x y z)) := by
  have hw : w64 (0 - r) = -r := by rw [w64_of (by omega) (by omega)]; omega
  have r0 : ∀ m k0 k1, L105v1 (ρ := Bool) 100 r x y z (m + 1) 0 k0 k1 = bif ((decide (x < (w64 (0 - r)))) == false) then (bif (decide (x > r)) then k0 else (L105v1 100 r x y z m 1 k0 k1)) else k0 := fun _ _ _ => rfl
  have r1 : ∀ m k0 k1, L105v1 (ρ := Bool) 100 r x y z (m + 1) 1 k0 k1 = bif ((decide (y < (w64 (0 - r)))) == false) then (bif (decide (y > r)) then k0 else (L105v1 100 r x y z m 2 k0 k1)) else k0 := fun _ _ _ => rfl
  have r2 : ∀ m k0 k1, L105v1 (ρ := Bool) 100 r x y z (m + 1) 2 k0 k1 = bif ((decide (z < (w64 (0 - r)))) == false) then (bif (decide (z > r)) then k0 else (L105v1 100 r x y z m 3 k0 k1)) else k0 := fun _ _ _ => rfl
  have r3 : ∀ m k0 k1, L105v1 (ρ := Bool) 100 r x y z (m + 1) 3 k0 k1 = k1 := fun _ _ _ => rfl
  unfold F105 D105
  rw [r0 99, r1 98, r2 97, r3 96, hw]
  by_cases a1 : x < -r
  · rw [bif_f (by simp [a1]), decide_eq_false (by unfold Bx; omega)]
  rw [bif_t (by simp [a1])]
  by_cases a2 : x > r
  · rw [bif_t (by simp [a2]), decide_eq_false (by unfold Bx; omega)]
  rw [bif_f (by simp [a2])]
  by_cases a1 : y < -r
  · rw [bif_f (by simp [a1]), decide_eq_false (by unfold Bx; omega)]
  rw [bif_t (by simp [a1])]
  by_cases a2 : y > r
  · rw [bif_t (by simp [a2]), decide_eq_false (by unfold Bx; omega)]
  rw [bif_f (by simp [a2])]
  by_cases a1 : z < -r
  · rw [bif_f (by simp [a1]), decide_eq_false (by unfold Bx; omega)]
  rw [bif_t (by simp [a1])]
  by_cases a2 : z > r
  · rw [bif_t (by simp [a2]), decide_eq_false (by unfold Bx; omega)]
  rw [bif_f (by simp [a2]), decide_eq_true (by unfold Bx; omega)]
theorem box136 (x y z : Int) : F136 100 x y z = some (decide (Bx 1099511627776 x y z)) := by
  unfold F136 D136
  by_cases a1 : x ≥ -1099511627776
  case neg => rw [bif_f (by simp [a1]), decide_eq_false (by unfold Bx; omega)]
  rw [bif_t (by simp [a1])]
  by_cases a1 : x ≤ 1099511627776
  case neg => rw [bif_f (by simp [a1]), decide_eq_false (by unfold Bx; omega)]
  rw [bif_t (by simp [a1])]
  by_cases a1 : y ≥ -1099511627776
  case neg => rw [bif_f (by simp [a1]), decide_eq_false (by unfold Bx; omega)]
  rw [bif_t (by simp [a1])]
  by_cases a1 : y ≤ 1099511627776
  case neg => rw [bif_f (by simp [a1]), decide_eq_false (by unfold Bx; omega)]
  rw [bif_t (by simp [a1])]
  by_cases a1 : z ≥ -1099511627776
  case neg => rw [bif_f (by simp [a1]), decide_eq_false (by unfold Bx; omega)]
  rw [bif_t (by simp [a1])]
  congr 1
  exact decide_eq_decide.2 (by unfold Bx; omega)
def Rp (x y z t : Int) : Prop := Bx 524288 x y z ∧ 0 ≤ t ∧ t ≤ 23
instance (x y z t : Int) : Decidable (Rp x y z t) := inferInstanceAs (Decidable (_ ∧ _))
theorem turn110 (t : Int) : F110 100 t = some (if 0 ≤ t ∧ t ≤ 23 then t else 0) := by
  unfold F110 D110
  by_cases a1 : t < 0
  · rw [bif_f (by simp [a1]), if_neg (by omega)]
  rw [bif_t (by simp [a1])]
  by_cases a2 : t ≥ 24
  · rw [bif_t (by simp [a2]), if_neg (by omega)]
  · rw [bif_f (by simp; omega), if_pos (by omega)]
theorem turn140 (t : Int) : F140 100 t = some (if 0 ≤ t ∧ t ≤ 23 then t else 0) := by
  unfold F140 D140
  by_cases a1 : t < 0
  · rw [bif_f (by simp [a1]), if_neg (by omega)]
  rw [bif_t (by simp [a1])]
  by_cases a2 : t > 23
  · rw [bif_t (by simp [a2]), if_neg (by omega)]
  · rw [bif_f (by simp; omega), if_pos (by omega)]
theorem rp111 (x y z t : Int) : F111 100 x y z t = some (decide (Rp x y z t)) := by
  unfold F111 D111
  rw [box105 _ _ _ _ (by omega) (by omega), ob_some, turn110, ob_some]
  by_cases h : Bx 524288 x y z
  · rw [bif_t (by simp [h])]
    congr 1
    by_cases h2 : 0 ≤ t ∧ t ≤ 23
    · rw [if_pos h2, decide_eq_true ⟨h, h2⟩]; simp
    · rw [if_neg h2, decide_eq_false (fun q => h2 q.2)]
      simp only [beq_eq_false_iff_ne, ne_eq]; omega
  · rw [bif_f (by simp [h]), decide_eq_false (fun q => h q.1)]
theorem rp133 (x y z t : Int) : F133 100 x y z t = some (decide (Rp x y z t)) := by
  unfold F133 D133
  by_cases a1 : x ≥ -524288
  case neg => rw [bif_f (by simp [a1]), decide_eq_false (by unfold Rp Bx; omega)]
  rw [bif_t (by simp [a1])]
  by_cases a1 : x ≤ 524288
  case neg => rw [bif_f (by simp [a1]), decide_eq_false (by unfold Rp Bx; omega)]
  rw [bif_t (by simp [a1])]
  by_cases a1 : y ≥ -524288
  case neg => rw [bif_f (by simp [a1]), decide_eq_false (by unfold Rp Bx; omega)]
  rw [bif_t (by simp [a1])]
  by_cases a1 : y ≤ 524288
  case neg => rw [bif_f (by simp [a1]), decide_eq_false (by unfold Rp Bx; omega)]
  rw [bif_t (by simp [a1])]
  by_cases a1 : z ≥ -524288
  case neg => rw [bif_f (by simp [a1]), decide_eq_false (by unfold Rp Bx; omega)]
  rw [bif_t (by simp [a1])]
  by_cases a1 : z ≤ 524288
  case neg => rw [bif_f (by simp [a1]), decide_eq_false (by unfold Rp Bx; omega)]
  rw [bif_t (by simp [a1])]
  by_cases a1 : t ≥ 0
  case neg => rw [bif_f (by simp [a1]), decide_eq_false (by unfold Rp Bx; omega)]
  rw [bif_t (by simp [a1])]
  congr 1
  exact decide_eq_decide.2 (by unfold Rp Bx; omega)
theorem quarter_eq {ρ : Type} (a x11 z : Int) (k0 : Int → Int → Option ρ) : ∀ (m : Nat) (i x y : Int), L114v1 100 x11 a z m i x y k0 = L141v1 100 a z m i x y k0 := by
  intro m
  induction m with
  | zero => intro i x y; rfl
  | succ m ih => intro i x y; unfold L114v1 L141v1; rw [ih]
def quarter (q : Int) (x y : Int) : Int × Int :=
  if q = 1 then (-y, x) else if q = 2 then (-x, -y) else if q = 3 then (y, -x) else (x, y)
def face (f : Int) (x y z : Int) : Int × Int × Int :=
  if f = 1 then (x, -z, y) else if f = 2 then (x, -y, -z) else if f = 3 then (x, z, -y) else if f = 4 then (z, y, -x) else if f = 5 then (-z, y, x) else (x, y, z)
def rotE (t x y z : Int) : Int × Int × Int := face (t / 4) (quarter (t % 4) x y).1 (quarter (t % 4) x y).2 z
theorem neg_w {x : Int} (h1 : -4398046511104 ≤ x) (h2 : x ≤ 4398046511104) : w64 (0 - x) = -x := by rw [w64_of (by omega) (by omega)]; omega
theorem quarter_law {ρ : Type} (z : Int) (k0 : Int → Int → Option ρ) (q x y : Int) (hq : 0 ≤ q ∧ q ≤ 3) (hx : -4398046511104 ≤ x ∧ x ≤ 4398046511104) (hy : -4398046511104 ≤ y ∧ y ≤ 4398046511104) :
    L141v1 100 q z 100 0 x y k0 = k0 (quarter q x y).1 (quarter q x y).2 := by
  have hq' : q = 0 ∨ q = 1 ∨ q = 2 ∨ q = 3 := by omega
  have nx : w64 (0 - x) = -x := neg_w hx.1 hx.2
  have ny : w64 (0 - y) = -y := neg_w hy.1 hy.2
  have nnx : w64 (0 - (-x)) = x := by rw [neg_w (by omega) (by omega)]; omega
  rcases hq' with rfl | rfl | rfl | rfl
  · rfl
  · exact (show L141v1 100 1 z 100 0 x y k0 = k0 (w64 (0 - y)) x from rfl).trans (by rw [ny]; rfl)
  · exact (show L141v1 100 2 z 100 0 x y k0 = k0 (w64 (0 - x)) (w64 (0 - y)) from rfl).trans (by rw [nx, ny]; rfl)
  · exact (show L141v1 100 3 z 100 0 x y k0 = k0 (w64 (0 - w64 (0 - y))) (w64 (0 - x)) from rfl).trans (by rw [nx, ny, neg_w (by omega) (by omega), Int.neg_neg]; rfl)
theorem quarter_bd {q x y R : Int} (hx : -R ≤ x ∧ x ≤ R) (hy : -R ≤ y ∧ y ≤ R) : (-R ≤ (quarter q x y).1 ∧ (quarter q x y).1 ≤ R) ∧ (-R ≤ (quarter q x y).2 ∧ (quarter q x y).2 ≤ R) := by
  unfold quarter
  by_cases h : q = 1
  · rw [if_pos h]; exact ⟨⟨by simp only; omega, by simp only; omega⟩, hx⟩
  rw [if_neg h]
  by_cases h : q = 2
  · rw [if_pos h]; exact ⟨⟨by simp only; omega, by simp only; omega⟩, ⟨by simp only; omega, by simp only; omega⟩⟩
  rw [if_neg h]
  by_cases h : q = 3
  · rw [if_pos h]; exact ⟨hy, ⟨by simp only; omega, by simp only; omega⟩⟩
  rw [if_neg h]; exact ⟨hx, hy⟩
theorem quarter_neg (q x y : Int) : quarter q (-x) (-y) = (-(quarter q x y).1, -(quarter q x y).2) := by
  unfold quarter
  by_cases h : q = 1
  · simp only [if_pos h]
  simp only [if_neg h]
  by_cases h : q = 2
  · simp only [if_pos h]
  simp only [if_neg h]
  by_cases h : q = 3
  · simp only [if_pos h]
  simp only [if_neg h]
theorem face_neg (f x y z : Int) : face f (-x) (-y) (-z) = (-(face f x y z).1, -(face f x y z).2.1, -(face f x y z).2.2) := by
  unfold face
  by_cases h : f = 1
  · simp only [if_pos h]
  simp only [if_neg h]
  by_cases h : f = 2
  · simp only [if_pos h]
  simp only [if_neg h]
  by_cases h : f = 3
  · simp only [if_pos h]
  simp only [if_neg h]
  by_cases h : f = 4
  · simp only [if_pos h]
  simp only [if_neg h]
  by_cases h : f = 5
  · simp only [if_pos h]
  simp only [if_neg h]
theorem rot_neg (t x y z : Int) : rotE t (-x) (-y) (-z) = (-(rotE t x y z).1, -(rotE t x y z).2.1, -(rotE t x y z).2.2) := by
  unfold rotE
  rw [quarter_neg]
  exact face_neg _ _ _ _
theorem face_bd {f x y z R : Int} (hx : -R ≤ x ∧ x ≤ R) (hy : -R ≤ y ∧ y ≤ R) (hz : -R ≤ z ∧ z ≤ R) : Bx R (face f x y z).1 (face f x y z).2.1 (face f x y z).2.2 := by
  unfold face Bx
  by_cases h : f = 1
  · simp only [if_pos h]; omega
  simp only [if_neg h]
  by_cases h : f = 2
  · simp only [if_pos h]; omega
  simp only [if_neg h]
  by_cases h : f = 3
  · simp only [if_pos h]; omega
  simp only [if_neg h]
  by_cases h : f = 4
  · simp only [if_pos h]; omega
  simp only [if_neg h]
  by_cases h : f = 5
  · simp only [if_pos h]; omega
  simp only [if_neg h]; omega
theorem rot_bd {t x y z R : Int} (h : Bx R x y z) : Bx R (rotE t x y z).1 (rotE t x y z).2.1 (rotE t x y z).2.2 :=
  face_bd (quarter_bd h.1 h.2.1).1 (quarter_bd h.1 h.2.1).2 h.2.2
theorem face142 (f x y z : Int) (hx : -4398046511104 ≤ x ∧ x ≤ 4398046511104) (hy : -4398046511104 ≤ y ∧ y ≤ 4398046511104) (hz : -4398046511104 ≤ z ∧ z ≤ 4398046511104) : F142 100 x y z f = some (face f x y z) := by
  unfold F142 D142 face
  rw [neg_w hx.1 hx.2, neg_w hy.1 hy.2, neg_w hz.1 hz.2]
  by_cases h : f = 1
  · rw [bif_t (by simp [h]), if_pos h]
  rw [bif_f (by simpa using h), if_neg h]
  by_cases h : f = 2
  · rw [bif_t (by simp [h]), if_pos h]
  rw [bif_f (by simpa using h), if_neg h]
  by_cases h : f = 3
  · rw [bif_t (by simp [h]), if_pos h]
  rw [bif_f (by simpa using h), if_neg h]
  by_cases h : f = 4
  · rw [bif_t (by simp [h]), if_pos h]
  rw [bif_f (by simpa using h), if_neg h]
  by_cases h : f = 5
  · rw [bif_t (by simp [h]), if_pos h]
  rw [bif_f (by simpa using h), if_neg h]
theorem t_parts {t : Int} (ht : 0 ≤ t ∧ t ≤ 23) : w64 (Int.tdiv t 4) = t / 4 ∧ Int.tmod t 4 = t % 4 ∧ 0 ≤ t % 4 ∧ t % 4 ≤ 3 := by
  rw [Int.tdiv_eq_ediv_of_nonneg ht.1, Int.tmod_eq_emod_of_nonneg ht.1, w64_of (by omega) (by omega)]
  omega
theorem apply143 (x y z t : Int) (ht : 0 ≤ t ∧ t ≤ 23) (h : Bx 4398046511104 x y z) : F143 100 x y z t = some (rotE t x y z) := by
  obtain ⟨e1, e2, e3, e4⟩ := t_parts ht
  obtain ⟨b1, b2⟩ := quarter_bd (q := t % 4) h.1 h.2.1
  unfold F143 D143 F141 D141
  rw [e1, e2, quarter_law _ _ _ _ _ ⟨e3, e4⟩ h.1 h.2.1, ob_some, face142 _ _ _ _ b1 b2 h.2.2, ob_some]
  rfl
theorem apply114 (x y z t : Int) (ht : 0 ≤ t ∧ t ≤ 23) (h : Bx 4398046511104 x y z) : F114 100 x y z t = some (rotE t x y z) := by
  obtain ⟨e1, e2, e3, e4⟩ := t_parts ht
  obtain ⟨b1, b2⟩ := quarter_bd (q := t % 4) h.1 h.2.1
  have H := face142 (t / 4) _ _ _ b1 b2 h.2.2
  unfold F142 D142 at H
  unfold F114 D114
  rw [turn110, ob_some, if_pos ht, e1, e2, quarter_eq, quarter_law _ _ _ _ _ ⟨e3, e4⟩ h.1 h.2.1]
  exact H
def invOk (t : Nat) : Bool :=
  match F115 100 (Int.ofNat t), F145 100 (Int.ofNat t) with
  | some a, some b => a == b && (decide (0 ≤ a) && decide (a ≤ 23))
  | _, _ => false
theorem inv_all : (List.range 24).all invOk = true := by kernel_rfl
theorem inv_law (t : Int) (ht : 0 ≤ t ∧ t ≤ 23) : ∃ r, F115 100 t = some r ∧ F145 100 t = some r ∧ 0 ≤ r ∧ r ≤ 23 := by
  obtain ⟨n, rfl⟩ := Int.eq_ofNat_of_zero_le ht.1
  have h := List.all_eq_true.1 inv_all n (List.mem_range.2 (by omega))
  unfold invOk at h
  have e : (Int.ofNat n) = ((n : Nat) : Int) := rfl
  rw [e] at h
  cases h1 : F115 100 ((n : Nat) : Int) with
  | none => rw [h1] at h; cases h
  | some a =>
    cases h2 : F145 100 ((n : Nat) : Int) with
    | none => rw [h1, h2] at h; cases h
    | some b =>
      rw [h1, h2] at h
      simp only [Bool.and_eq_true, beq_iff_eq, decide_eq_true_eq] at h
      exact ⟨a, rfl, by rw [h.1], h.2⟩
theorem inverse_law (x y z t : Int) (h : Rp x y z t) : ∃ a b c r, F116 100 x y z t = some (a, b, c, r) ∧ F146 100 x y z t = some (a, b, c, r) ∧ 0 ≤ r ∧ r ≤ 23 ∧ Bx 524288 a b c := by
  obtain ⟨hb, ht⟩ := h
  obtain ⟨r, i1, i2, i3⟩ := inv_law t ht
  have hb1 : Bx 1099511627776 x y z := by unfold Bx at *; omega
  have hb2 : Bx 4398046511104 x y z := by unfold Bx at *; omega
  have hb3 : Bx 4398046511104 (-x) (-y) (-z) := by unfold Bx at *; omega
  have hr := rot_bd (t := r) hb
  refine ⟨-(rotE r x y z).1, -(rotE r x y z).2.1, -(rotE r x y z).2.2, r, ?_, ?_, i3.1, i3.2, ?_⟩
  · unfold F116 D116
    rw [box105 _ _ _ _ (by omega) (by omega), ob_some, bif_f (by simp [hb1]), i1, ob_some]
    unfold F106 D106
    rw [ob_some, neg_w (x := x) (by unfold Bx at hb2; omega) (by unfold Bx at hb2; omega), neg_w (x := y) (by unfold Bx at hb2; omega) (by unfold Bx at hb2; omega), neg_w (x := z) (by unfold Bx at hb2; omega) (by unfold Bx at hb2; omega), apply114 _ _ _ _ i3 hb3, ob_some, rot_neg]
  · unfold F146 D146
    rw [box136, ob_some, bif_f (by simp [hb1]), i2, ob_some, apply143 _ _ _ _ i3 hb2, ob_some]
    unfold F137 D137
    rw [ob_some, neg_w (by unfold Bx at hr; omega) (by unfold Bx at hr; omega), neg_w (by unfold Bx at hr; omega) (by unfold Bx at hr; omega), neg_w (by unfold Bx at hr; omega) (by unfold Bx at hr; omega)]
  · unfold Bx at *; omega
theorem apply_law (x y z t a b c : Int) (ht : 0 ≤ t ∧ t ≤ 23) : ∃ p, F117 100 x y z t a b c = some p ∧ F148 100 x y z t a b c = some p := by
  unfold F117 D117 F148 D148
  rw [box105 _ _ _ _ (by omega) (by omega), box136, box105 _ _ _ _ (by omega) (by omega), box136, ob_some, ob_some, ob_some, ob_some]
  by_cases h1 : Bx 1099511627776 x y z
  case neg => exact ⟨_, by rw [bif_f (by simp [h1])], by rw [bif_f (by simp [h1])]⟩
  by_cases h2 : Bx 1099511627776 a b c
  case neg => exact ⟨_, by rw [bif_t (by simp [h1]), bif_t (by simp [h2])], by rw [bif_t (by simp [h1]), bif_t (by simp [h2])]⟩
  have h3 : Bx 4398046511104 a b c := by unfold Bx at *; omega
  refine ⟨(w64 ((rotE t a b c).1 + x), w64 ((rotE t a b c).2.1 + y), w64 ((rotE t a b c).2.2 + z)), ?_, ?_⟩
  · rw [bif_t (by simp [h1]), bif_f (by simp [h2]), apply114 _ _ _ _ ht h3, ob_some]; rfl
  · rw [bif_t (by simp [h1]), bif_f (by simp [h2]), turn140, ob_some, if_pos ht, apply143 _ _ _ _ ht h3, ob_some]; rfl
end Go.Eng.R13
/-
  Routes and where they cross a part: PenetrationCrosses.
-/
set_option linter.all false
namespace Go.Eng.R13
open Go Go.RowKit Go.Eng Geo
def Row (r : Int) (f : Nat → Nat → CV) (i : Nat) : Prop := Bx r (CV.int (f i 0)) (CV.int (f i 1)) (CV.int (f i 2))
theorem w64_pred {i : Nat} (h0 : 1 ≤ i) (h : i < 1000000) : w64 (Int.ofNat i - 1) = Int.ofNat (i - 1) := by
  rw [w64_of] <;> simp <;> omega
theorem far102 (x y z : Int) : F102 100 x y z = some (!decide (Bx 524288 x y z)) := by
  unfold F102 D102
  by_cases h1 : (if z > (if y > x then y else x) then z else (if y > x then y else x)) > 524288
  · rw [bif_f (by simp only [decide_eq_true h1]; rfl), decide_eq_false]; rfl
    unfold Bx
    split at h1 <;> try split at h1
    all_goals omega
  rw [bif_t (by simp only [decide_eq_false h1]; rfl)]
  congr 1
  by_cases h2 : (if z < (if y < x then y else x) then z else (if y < x then y else x)) < -524288
  · rw [decide_eq_true h2, decide_eq_false]; rfl
    unfold Bx
    split at h2 <;> try split at h2
    all_goals omega
  · rw [decide_eq_false h2, decide_eq_true]; rfl
    unfold Bx
    split at h1 <;> split at h2 <;> (try split at h1) <;> (try split at h2) <;> omega
theorem far103 (n : Nat) (f : Nat → Nat → CV) (hn : n ≤ 40) : ∀ (m i : Nat), n < m + i → i ≤ n →
    ∃ z, L103v1 100 n f (Int.ofNat n) m (Int.ofNat i) (fun x => some x) (some (-1)) = some z ∧ (z ≥ 0 ↔ ¬ ∀ j, i ≤ j → j < n → Row 524288 f j) := by
  intro m
  induction m with
  | zero => intro i h1 h2; omega
  | succ m ih =>
    intro i h1 h2
    unfold L103v1
    rw [lt_nat, inb_nat, toNat_nat, far102, ob_some]
    by_cases h : i < n
    · rw [bif_t (by simpa using h), bif_t (by simpa using h), w64_succ (by omega)]
      by_cases hb : Row 524288 f i
      · have hb' : Bx 524288 (CV.int (f i 0)) (CV.int (f i 1)) (CV.int (f i 2)) := hb
        rw [bif_f (by simpa using hb')]
        obtain ⟨z, e, hz⟩ := ih (i + 1) (by omega) (by omega)
        refine ⟨z, e, hz.trans (not_congr ⟨fun H j a b => ?_, fun H j a b => H j (by omega) b⟩)⟩
        by_cases e : j = i
        · rw [e]; exact hb
        · exact H j (by omega) b
      · have hb' : ¬ Bx 524288 (CV.int (f i 0)) (CV.int (f i 1)) (CV.int (f i 2)) := hb
        rw [bif_t (by simpa using hb')]
        exact ⟨_, rfl, fun _ H => hb (H i (Nat.le_refl i) h), fun _ => by simp⟩
    · rw [bif_f (by simpa using h)]
      exact ⟨_, rfl, fun h => by omega, fun H => absurd (fun j a b => by omega) H⟩
theorem near139 (n : Nat) (f : Nat → Nat → CV) (hn : n ≤ 40) (k0 k1 : Option Bool) : ∀ (m i : Nat), n < m + i → i ≤ n →
    ((∀ j, i ≤ j → j < n → Row 524288 f j) → L139v1 100 n f m (Int.ofNat i) k0 k1 = k1) ∧
    ((¬ ∀ j, i ≤ j → j < n → Row 524288 f j) → L139v1 100 n f m (Int.ofNat i) k0 k1 = k0) := by
  intro m
  induction m with
  | zero => intro i h1 h2; omega
  | succ m ih =>
    intro i h1 h2
    unfold L139v1
    rw [lt_nat, inb_nat, toNat_nat, rp133, ob_some]
    by_cases h : i < n
    · rw [bif_t (by simpa using h), bif_t (by simpa using h), w64_succ (by omega)]
      by_cases hb : Row 524288 f i
      · have hr : Rp (CV.int (f i 0)) (CV.int (f i 1)) (CV.int (f i 2)) 0 := ⟨hb, by omega, by omega⟩
        rw [bif_f (by simp [hr])]
        obtain ⟨e1, e2⟩ := ih (i + 1) (by omega) (by omega)
        refine ⟨fun H => e1 (fun j a b => H j (by omega) b), fun H => e2 (fun H2 => H (fun j a b => ?_))⟩
        by_cases e : j = i
        · rw [e]; exact hb
        · exact H2 j (by omega) b
      · have hr : ¬ Rp (CV.int (f i 0)) (CV.int (f i 1)) (CV.int (f i 2)) 0 := fun q => hb q.1
        rw [bif_t (by simp [hr])]
        exact ⟨fun H => absurd (H i (Nat.le_refl i) h) hb, fun _ => rfl⟩
    · rw [bif_f (by simpa using h)]
      exact ⟨fun _ => rfl, fun H => absurd (fun j a b => by omega) H⟩
theorem sub_law {x1 x2 x3 x4 x5 x6 : Int} (h1 : Bx 524288 x1 x2 x3) (h2 : Bx 524288 x4 x5 x6) :
    F108 100 x1 x2 x3 x4 x5 x6 = some (x1 - x4, x2 - x5, x3 - x6) ∧ F138 100 x1 x2 x3 x4 x5 x6 = some (x1 - x4, x2 - x5, x3 - x6) := by
  have b1 : Bx 1099511627776 x1 x2 x3 := by unfold Bx at *; omega
  have b2 : Bx 1099511627776 x4 x5 x6 := by unfold Bx at *; omega
  constructor
  · unfold F108 D108
    rw [box105 _ _ _ _ (by omega) (by omega), box105 _ _ _ _ (by omega) (by omega), ob_some, ob_some, bif_t (by simp [b1]), bif_f (by simp [b2])]
    unfold F106 D106 F107 D107
    unfold Bx at b1 b2
    rw [ob_some, ob_some, neg_w (by omega) (by omega), neg_w (by omega) (by omega), neg_w (by omega) (by omega)]
    show some (w64 (x1 + -x4), w64 (x2 + -x5), w64 (x3 + -x6)) = _
    rw [w64_of (by omega) (by omega), w64_of (by omega) (by omega), w64_of (by omega) (by omega)]
    rfl
  · unfold F138 D138
    rw [box136, box136, ob_some, ob_some, bif_t (by simp [b1]), bif_f (by simp [b2])]
    unfold F137 D137
    unfold Bx at b1 b2
    rw [ob_some, w64_of (by omega) (by omega), w64_of (by omega) (by omega), w64_of (by omega) (by omega)]
theorem count109 {ρ : Type} (n : Nat) (f : Nat → Nat → CV) (i a b c : Int) (k0 : Int → Option ρ) :
    L109v2 100 n f i a b c 100 0 0 k0 = bif (a != 0) then (bif (b != 0) then (bif (c != 0) then k0 3 else k0 2) else (bif (c != 0) then k0 2 else k0 1)) else (bif (b != 0) then (bif (c != 0) then k0 2 else k0 1) else (bif (c != 0) then k0 1 else k0 0)) := by
  have r0 : ∀ m x, L109v2 100 n f i a b c (m + 1) x 0 k0 = bif (a != 0) then (L109v2 100 n f i a b c m (w64 (x + 1)) 1 k0) else (L109v2 100 n f i a b c m x 1 k0) := fun _ _ => rfl
  have r1 : ∀ m x, L109v2 100 n f i a b c (m + 1) x 1 k0 = bif (b != 0) then (L109v2 100 n f i a b c m (w64 (x + 1)) 2 k0) else (L109v2 100 n f i a b c m x 2 k0) := fun _ _ => rfl
  have r2 : ∀ m x, L109v2 100 n f i a b c (m + 1) x 2 k0 = bif (c != 0) then (L109v2 100 n f i a b c m (w64 (x + 1)) 3 k0) else (L109v2 100 n f i a b c m x 3 k0) := fun _ _ => rfl
  have r3 : ∀ m x, L109v2 100 n f i a b c (m + 1) x 3 k0 = k0 x := fun _ _ => rfl
  rw [r0 99]
  simp only [r1 98, r2 97, r3 96]
  cases (a != 0) <;> cases (b != 0) <;> cases (c != 0) <;> rfl
theorem one_loop (n : Nat) (f : Nat → Nat → CV) (hn : n ≤ 32) (hB : ∀ j, j < n → Row 524288 f j) : ∀ (m i : Nat), n < m + i → 1 ≤ i → i ≤ n →
    ∃ z : Bool, L109v3 100 n f m (Int.ofNat i) (fun _ _ _ => some false) (some true) = some z ∧ L139v2 100 n f m (Int.ofNat i) (fun _ _ _ => some false) (some true) = some z := by
  intro m
  induction m with
  | zero => intro i h1 h2; omega
  | succ m ih =>
    intro i h1 h2 h3
    unfold L109v3 L139v2
    rw [lt_nat, w64_pred h2 (by omega), inb_nat, inb_nat, toNat_nat, toNat_nat]
    by_cases h : i < n
    · obtain ⟨s1, s2⟩ := sub_law (hB i h) (hB (i - 1) (by omega))
      have hi : i - 1 < n := by omega
      rw [s1, s2, ob_some, ob_some, count109, decide_eq_true h, decide_eq_true hi, w64_succ (by omega)]
      obtain ⟨z, z1, z2⟩ := ih (i + 1) (by omega) (by omega) (by omega)
      simp only [z1, z2]
      cases (CV.int (f i 0) - CV.int (f (i - 1) 0) != 0) <;> cases (CV.int (f i 1) - CV.int (f (i - 1) 1) != 0) <;> cases (CV.int (f i 2) - CV.int (f (i - 1) 2) != 0) <;> exact ⟨_, rfl, rfl⟩
    · rw [decide_eq_false h]
      exact ⟨_, rfl, rfl⟩
theorem route_law (n : Nat) (f : Nat → Nat → CV) (s : Int) : ∃ b, F109 100 n f s = some b ∧ F139 100 n f s = some b ∧ (b = true → n ≤ 32 ∧ 2 ≤ n) := by
  unfold F109 D109 F139 D139
  by_cases q1 : n < 2
  · exact ⟨false, by rw [bif_f (by simp; omega)], by rw [bif_f (by simp; omega)], fun h => by cases h⟩
  have t1 : ((decide ((Int.ofNat n) < 2)) == false) = true := by simp; omega
  by_cases q2 : n > 32
  · exact ⟨false, by rw [bif_t t1, bif_f (by simp; omega)], by rw [bif_t t1, bif_f (by simp; omega)], fun h => by cases h⟩
  have t2 : ((decide ((Int.ofNat n) > 32)) == false) = true := by simp; omega
  rw [bif_t t1, bif_t t1, bif_t t2, bif_t t2]
  unfold F104 D104 F103 D103
  obtain ⟨z, z1, z2⟩ := far103 n f (by omega) 100 0 (by omega) (by omega)
  have z1' : L103v1 100 n f (Int.ofNat n) 100 0 (fun x => some x) (some (-1)) = some z := z1
  obtain ⟨e1, e2⟩ := near139 n f (by omega) (some false) (L139v2 100 n f 100 1 (fun x22 x23 x24 => (some false)) (some true)) 100 0 (by omega) (by omega)
  rw [z1', ob_some, ob_some]
  by_cases q3 : s < 1
  · refine ⟨false, ?_, by rw [bif_f (by simp [q3])], fun h => by cases h⟩
    by_cases q : z ≥ 0
    · rw [bif_f (by simp [q])]
    · rw [bif_t (by simp; omega), bif_f (by simp [q3])]
  have t3 : ((decide (s < 1)) == false) = true := by simp; omega
  rw [bif_t t3, bif_t t3]
  by_cases q4 : s > 10000
  · refine ⟨false, ?_, by rw [bif_t (by simp [q4])], fun h => by cases h⟩
    by_cases q : z ≥ 0
    · rw [bif_f (by simp [q])]
    · rw [bif_t (by simp; omega), bif_t (by simp [q4])]
  have t4 : (decide (s > 10000)) = false := by simp; omega
  rw [bif_f t4, bif_f t4]
  by_cases hB : ∀ j, 0 ≤ j → j < n → Row 524288 f j
  · have hz : ¬ z ≥ 0 := fun h => z2.1 h hB
    rw [bif_t (by simp; omega)]
    obtain ⟨y, y1, y2⟩ := one_loop n f (by omega) (fun j h => hB j (Nat.zero_le j) h) 100 1 (by omega) (by omega) (by omega)
    exact ⟨y, y1, (e1 hB).trans y2, fun _ => by omega⟩
  · have hz : z ≥ 0 := z2.2 hB
    rw [bif_f (by simp [hz])]
    exact ⟨false, rfl, e2 hB, fun h => by cases h⟩
theorem target_law (g : Nat → CV) : ∃ b, F113 100 g = some b ∧ F135 100 g = some b ∧ (b = true → Rp (CV.int (g 14)) (CV.int (g 15)) (CV.int (g 16)) (CV.int (g 17))) := by
  unfold F113 D113 F135 D135
  by_cases q1 : ((CV.int (g 2)) == 1) = true
  case neg => exact ⟨false, by rw [bif_f (by simpa using q1)], by rw [bif_f (by simpa using q1)], fun h => by cases h⟩
  rw [q1, rp111, rp133, ob_some, ob_some]
  by_cases q2 : Rp (CV.int (g 14)) (CV.int (g 15)) (CV.int (g 16)) (CV.int (g 17))
  case neg => exact ⟨false, by rw [decide_eq_false q2]; rfl, by rw [decide_eq_false q2]; rfl, fun h => by cases h⟩
  rw [decide_eq_true q2]
  generalize listF (pj kR0 g) = h
  obtain ⟨c, c1, c2, _⟩ := shape_law (CV.len (h 6)) 0 (CV.el (h 6)) (fun _ _ => .any)
  refine ⟨(c == 0), ?_, ?_, fun _ => q2⟩
  · show ob (F13 100 (CV.len (h 6)) (CV.el (h 6)) 0 (fun _ _ => .any)) (fun x4 => some (x4 == 0)) = some (c == 0)
    rw [c1, ob_some]
  · show ob (F14 100 (CV.len (h 6)) (CV.el (h 6)) 0 (fun _ _ => .any)) (fun x4 => some (x4 == 0)) = some (c == 0)
    rw [c2, ob_some]
def Hit (out : Nat → Nat → CV) (x y : Int) (j : Nat) : Prop := CV.int (out j 1) = x ∧ CV.int (out j 2) = y
theorem contains119 (cnt : Nat) (out : Nat → Nat → CV) (S : ByteArray) (x y s : Int) (hn : cnt ≤ 40) (hI : ∀ j, j < cnt → ByteArray.toList (CV.str (out j 0)) = ByteArray.toList S ∧ CV.int (out j 3) = s) : ∀ (m i : Nat), cnt < m + i → i ≤ cnt →
    ∃ z, L119v1 100 cnt out (Int.ofNat cnt) S x y s m (Int.ofNat i) (fun x => some x) (some (-1)) = some z ∧ (z ≥ 0 ↔ ∃ j, i ≤ j ∧ j < cnt ∧ Hit out x y j) := by
  intro m
  induction m with
  | zero => intro i h1 h2; omega
  | succ m ih =>
    intro i h1 h2
    unfold L119v1
    rw [lt_nat, inb_nat, toNat_nat]
    by_cases h : i < cnt
    · obtain ⟨i1, i2⟩ := hI i h
      rw [bif_t (by simpa using h), bif_t (by simpa using h), w64_succ (by omega), i1, i2]
      by_cases hb : Hit out x y i
      · rw [bif_t (by simp [hb.1, hb.2])]
        exact ⟨_, rfl, fun _ => ⟨i, Nat.le_refl i, h, hb⟩, fun _ => by simp⟩
      · rw [bif_f]
        · obtain ⟨z, e, hz⟩ := ih (i + 1) (by omega) (by omega)
          refine ⟨z, e, hz.trans ⟨fun ⟨j, a, b, c⟩ => ⟨j, by omega, b, c⟩, fun ⟨j, a, b, c⟩ => ⟨j, ?_, b, c⟩⟩⟩
          by_cases e : j = i
          · rw [e] at c; exact absurd c hb
          · omega
        · cases hx : (x == CV.int (out i 1)) with
          | false => simp
          | true =>
            cases hy : (y == CV.int (out i 2)) with
            | false => simp
            | true => exact absurd ⟨(eq_of_beq hx).symm, (eq_of_beq hy).symm⟩ hb
    · rw [bif_f (by simpa using h)]
      exact ⟨_, rfl, fun h => by omega, fun ⟨j, a, b, _⟩ => by omega⟩
theorem known149 {ρ : Type} (n : Nat) (f : Nat → Nat → CV) (s i0 : Int) (g : Nat → CV) (a b c r : Int) (cnt : Nat) (out : Nat → Nat → CV) (x y z1 z2 z3 z4 : Int) (hn : cnt ≤ 40) (k0 : Bool → Option ρ) : ∀ (m i : Nat) (e : Bool), cnt < m + i → i ≤ cnt →
    ((e = true ∨ ∃ j, i ≤ j ∧ j < cnt ∧ Hit out x y j) → L149v2 100 n f s cnt i0 g a b c r out x y z1 z2 z3 z4 m e (Int.ofNat i) k0 = k0 true) ∧
    (¬ (e = true ∨ ∃ j, i ≤ j ∧ j < cnt ∧ Hit out x y j) → L149v2 100 n f s cnt i0 g a b c r out x y z1 z2 z3 z4 m e (Int.ofNat i) k0 = k0 false) := by
  intro m
  induction m with
  | zero => intro i e h1 h2; omega
  | succ m ih =>
    intro i e h1 h2
    unfold L149v2
    rw [lt_nat, inb_nat, toNat_nat]
    by_cases h : i < cnt
    · rw [bif_t (by simpa using h), w64_succ (by omega)]
      cases e with
      | true =>
        rw [bif_f (by rfl)]
        exact ⟨fun _ => (ih (i + 1) true (by omega) (by omega)).1 (.inl rfl), fun H => absurd (.inl rfl) H⟩
      | false =>
        rw [bif_t (by rfl), bif_t (by simpa using h), Nat.zero_add]
        by_cases hb : Hit out x y i
        · have e1 : (((CV.int (out i 1)) == x) && (((CV.int (out i 2)) == y) && true)) = true := by simp [hb.1, hb.2]
          rw [e1]
          exact ⟨fun _ => (ih (i + 1) true (by omega) (by omega)).1 (.inl rfl), fun H => absurd (.inr ⟨i, Nat.le_refl i, h, hb⟩) H⟩
        · have e1 : (((CV.int (out i 1)) == x) && (((CV.int (out i 2)) == y) && true)) = false := by
            cases hx : (CV.int (out i 1) == x) with
            | false => simp
            | true =>
              cases hy : (CV.int (out i 2) == y) with
              | false => simp
              | true => exact absurd ⟨eq_of_beq hx, eq_of_beq hy⟩ hb
          rw [e1]
          obtain ⟨q1, q2⟩ := ih (i + 1) false (by omega) (by omega)
          have hst : (false = true ∨ ∃ j, i ≤ j ∧ j < cnt ∧ Hit out x y j) ↔ (false = true ∨ ∃ j, i + 1 ≤ j ∧ j < cnt ∧ Hit out x y j) := by
            refine or_congr Iff.rfl ⟨fun ⟨j, a, b, c⟩ => ⟨j, ?_, b, c⟩, fun ⟨j, a, b, c⟩ => ⟨j, by omega, b, c⟩⟩
            by_cases e : j = i
            · rw [e] at c; exact absurd c hb
            · omega
          exact ⟨fun H => q1 (hst.1 H), fun H => q2 (fun H2 => H (hst.2 H2))⟩
    · rw [bif_f (by simpa using h)]
      cases e with
      | true => exact ⟨fun _ => rfl, fun H => absurd (.inl rfl) H⟩
      | false => exact ⟨fun H => by rcases H with H | ⟨j, a, b, _⟩; cases H; omega, fun _ => rfl⟩
def orow (S : ByteArray) (x y s : Int) : Nat → Nat → CV := rowsF 4 [(.s S), (.i .i64 x), (.i .i64 y), (.i .i64 s)]
theorem cross_step (g : Nat → CV) (n : Nat) (f : Nat → Nat → CV) (s a b c r : Int) (hr : 0 ≤ r ∧ r ≤ 23) (hn : n ≤ 32) (m i cnt : Nat) (out : Nat → Nat → CV) (h1 : 1 ≤ i) (h2 : i < n) (h3 : cnt < i)
    (hI : ∀ j, j < cnt → ByteArray.toList (CV.str (out j 0)) = ByteArray.toList (CV.str (g 0)) ∧ CV.int (out j 3) = s) (k KL KR : Nat → (Nat → Nat → CV) → Option (Bool × Nat × (Nat → Nat → CV)))
    (hL : ∀ C O, L121v1 100 s g n f a b c r m C (Int.ofNat (i + 1)) O k = KL C O) (hR : ∀ C O, L149v3 100 n f s g a b c r m C (Int.ofNat (i + 1)) O k = KR C O) :
    ∃ (add : Bool) (x y : Int),
      L121v1 100 s g n f a b c r (m + 1) cnt (Int.ofNat i) out k = (bif add then KL (cnt + 1) (joinF cnt out (orow (CV.str (g 0)) x y s)) else KL cnt out) ∧
      L149v3 100 n f s g a b c r (m + 1) cnt (Int.ofNat i) out k = (bif add then KR (cnt + 1) (joinF cnt out (orow (CV.str (g 0)) x y s)) else KR cnt out) := by
  obtain ⟨p, p1, p2⟩ := apply_law a b c r (CV.int (f (i - 1) 0)) (CV.int (f (i - 1) 1)) (CV.int (f (i - 1) 2)) hr
  obtain ⟨q, q1, q2⟩ := apply_law a b c r (CV.int (f i 0)) (CV.int (f i 1)) (CV.int (f i 2)) hr
  have hi : i - 1 < n := by omega
  have e118 : ∀ j, j < n → F118 100 (Int.ofNat j) (listF [(.i .i64 a), (.i .i64 b), (.i .i64 c), (.i .i64 r)]) (listF [(.ro false (.pr (.int .i64) (.pr (.int .i64) (.pr (.int .i64) .nil))) n f)]) = ob (F117 100 a b c r (CV.int (f j 0)) (CV.int (f j 1)) (CV.int (f j 2))) fun x5 => some (x5.1, x5.2.1, x5.2.2) := by
    intro j hj
    have e : F118 100 (Int.ofNat j) (listF [(.i .i64 a), (.i .i64 b), (.i .i64 c), (.i .i64 r)]) (listF [(.ro false (.pr (.int .i64) (.pr (.int .i64) (.pr (.int .i64) .nil))) n f)]) = bif (inb (Int.ofNat j) n) then (ob (F117 100 a b c r (CV.int (f j 0)) (CV.int (f j 1)) (CV.int (f j 2))) fun x5 => some (x5.1, x5.2.1, x5.2.2)) else none := rfl
    rw [e, inb_nat, decide_eq_true hj]; rfl
  unfold L121v1 L149v3
  rw [lt_nat, w64_pred h1 (by omega), inb_nat, inb_nat, toNat_nat, toNat_nat, decide_eq_true h2, decide_eq_true hi, e118 _ hi, e118 _ h2, p1, p2, q1, q2, w64_succ (by omega)]
  simp only [ob_some, cond_true, hL, hR]
  cases hc1 : (p.1 != q.1) with
  | true => exact ⟨false, 0, 0, rfl, rfl⟩
  | false =>
  cases hc2 : (p.2.1 != q.2.1) with
  | true => exact ⟨false, 0, 0, rfl, rfl⟩
  | false =>
  cases hc3 : (decide ((if q.2.2 < p.2.2 then q.2.2 else p.2.2) > 0)) with
  | true => exact ⟨false, 0, 0, rfl, rfl⟩
  | false =>
  cases hc4 : (decide ((if q.2.2 > p.2.2 then q.2.2 else p.2.2) < 0)) with
  | true => exact ⟨false, 0, 0, rfl, rfl⟩
  | false =>
  generalize hG : listF (pj kR0 g) = G
  obtain ⟨z, z1, z2⟩ := place_law (CV.len (G 6)) (CV.el (G 6)) 0 (fun _ _ => .any) p.1 p.2.1
  have w1 : (ob (F112 100 G) fun x37 => (ob (F22 100 x37.1 x37.2.1 x37.2.2.1 x37.2.2.2 p.1 p.2.1) fun x38 => (bif ((decide (x38 ≥ 0)) == true) then (ob (F120 100 cnt out (CV.str (g 0)) p.1 p.2.1 s) fun x39 => (bif (!x39) then (bif (Nat.ble (cnt + 1) 1073741824) then (KL (cnt + 1) (joinF cnt out (rowsF 4 [(.s (CV.str (g 0))), (.i .i64 p.1), (.i .i64 p.2.1), (.i .i64 s)]))) else none) else (KL cnt out))) else (KL cnt out)))) =
      (bif ((decide (z ≥ 0)) == true) then (ob (F120 100 cnt out (CV.str (g 0)) p.1 p.2.1 s) fun x39 => (bif (!x39) then (bif (Nat.ble (cnt + 1) 1073741824) then (KL (cnt + 1) (joinF cnt out (rowsF 4 [(.s (CV.str (g 0))), (.i .i64 p.1), (.i .i64 p.2.1), (.i .i64 s)]))) else none) else (KL cnt out))) else (KL cnt out)) := by
    have e : F112 100 G = some (CV.len (G 6), CV.el (G 6), 0, (fun _ _ => .any)) := rfl
    rw [e, ob_some]
    simp only [z1, ob_some]
  have e134 : F134 100 G = some (CV.len (G 6), CV.el (G 6), 0, (fun _ _ => .any)) := rfl
  have w1' := w1
  simp only [cond_true, cond_false, beq_self_eq_true, Bool.false_eq_true, Bool.true_eq_false] at w1' ⊢
  rw [w1, e134]
  simp only [ob_some, z2]
  have hcn : cnt ≤ 40 := by omega
  have hble : Nat.ble (cnt + 1) 1073741824 = true := by rw [Nat.ble_eq]; omega
  by_cases hz : z < 0
  · rw [decide_eq_false (by omega), decide_eq_true hz]
    exact ⟨false, 0, 0, rfl, rfl⟩
  · rw [decide_eq_true (by omega), decide_eq_false hz, hble]
    obtain ⟨y, y1, y2⟩ := contains119 cnt out (CV.str (g 0)) p.1 p.2.1 s hcn hI 100 0 (by omega) (by omega)
    have e120 : F120 100 cnt out (CV.str (g 0)) p.1 p.2.1 s = some (decide (y ≥ 0)) := by
      unfold F120 D120 F119 D119
      have y1' : L119v1 100 cnt out (Int.ofNat cnt) (CV.str (g 0)) p.1 p.2.1 s 100 0 (fun x => some x) (some (-1)) = some y := y1
      rw [y1', ob_some]
    rw [e120, ob_some]
    simp only [cond_true, cond_false]
    obtain ⟨u1, u2⟩ := known149 n f s (Int.ofNat i) g a b c r cnt out p.1 p.2.1 p.2.2 q.1 q.2.1 q.2.2 hcn (fun x90 => (bif (!x90) then (KR (cnt + 1) (joinF cnt out (rowsF 4 [(.s (CV.str (g 0))), (.i .i64 p.1), (.i .i64 p.2.1), (.i .i64 s)]))) else (KR cnt out))) 100 0 false (by omega) (by omega)
    by_cases hy : y ≥ 0
    · refine ⟨false, 0, 0, ?_, ?_⟩
      · rw [decide_eq_true hy]; rfl
      · exact (u1 (.inr (y2.1 hy))).trans rfl
    · refine ⟨true, p.1, p.2.1, ?_, ?_⟩
      · rw [decide_eq_false hy]; rfl
      · exact (u2 (by rintro (h | h); cases h; exact hy (y2.2 h))).trans rfl
theorem cross_loop (g : Nat → CV) (n : Nat) (f : Nat → Nat → CV) (s a b c r : Int) (hr : 0 ≤ r ∧ r ≤ 23) (hn : n ≤ 32) : ∀ (m i cnt : Nat) (out : Nat → Nat → CV), n < m + i → 1 ≤ i → i ≤ n → cnt < i →
    (∀ j, j < cnt → ByteArray.toList (CV.str (out j 0)) = ByteArray.toList (CV.str (g 0)) ∧ CV.int (out j 3) = s) →
    ∃ N O, L121v1 100 s g n f a b c r m cnt (Int.ofNat i) out (fun x y => some (false, x, y)) = some (false, N, O) ∧ L149v3 100 n f s g a b c r m cnt (Int.ofNat i) out (fun x y => some (false, x, y)) = some (false, N, O) ∧ N ≤ 32 := by
  intro m
  induction m with
  | zero => intro i cnt out h1 h2; omega
  | succ m ih =>
    intro i cnt out h1 h2 h3 h4 hI
    by_cases h : i < n
    · obtain ⟨add, x, y, e1, e2⟩ := cross_step g n f s a b c r hr hn m i cnt out h2 h h4 hI (fun x y => some (false, x, y)) _ _ (fun _ _ => rfl) (fun _ _ => rfl)
      rw [e1, e2]
      cases add with
      | false => exact ih (i + 1) cnt out (by omega) (by omega) (by omega) (by omega) hI
      | true =>
        refine ih (i + 1) (cnt + 1) (joinF cnt out (orow (CV.str (g 0)) x y s)) (by omega) (by omega) (by omega) (by omega) ?_
        intro j hj
        unfold joinF
        by_cases e : j < cnt
        · have e' : Nat.blt j cnt = true := by rw [Nat.blt_eq]; exact e
          simp only [e', cond_true]
          exact hI j e
        · have e' : Nat.blt j cnt = false := by rw [← Bool.not_eq_true, Nat.blt_eq]; exact e
          have e2 : j - cnt = 0 := by omega
          simp only [e', cond_false, e2]
          exact ⟨rfl, rfl⟩
    · unfold L121v1 L149v3
      rw [lt_nat, decide_eq_false h]
      exact ⟨cnt, out, rfl, rfl, by omega⟩
theorem cross_run (g : Nat → CV) (n : Nat) (f : Nat → Nat → CV) (s a b c r : Int) (hr : 0 ≤ r ∧ r ≤ 23) (hn : n ≤ 32) (h2 : 2 ≤ n) : ∃ N O, L121v1 100 s g n f a b c r 100 0 1 (fun _ _ => .any) (fun x42 x43 => some (false, x42, x43)) = some (false, N, O) ∧ L149v3 100 n f s g a b c r 100 0 1 (fun _ _ => .any) (fun x42 x43 => some (false, x42, x43)) = some (false, N, O) ∧ N ≤ 32 := 
    cross_loop g n f s a b c r hr hn 100 1 0 (fun _ _ => .any) (by omega) (by omega) (by omega) (by omega) (fun j h => absurd h (by omega))
theorem rp_of (g : Nat → CV) (h : Rp (CV.int (listF (pj kR0 g) 14)) (CV.int (listF (pj kR0 g) 15)) (CV.int (listF (pj kR0 g) 16)) (CV.int (listF (pj kR0 g) 17))) : Rp (CV.int (g 14)) (CV.int (g 15)) (CV.int (g 16)) (CV.int (g 17)) := by
    have e14 : CV.int (listF (pj kR0 g) 14) = CV.int (g 14) := rfl
    have e15 : CV.int (listF (pj kR0 g) 15) = CV.int (g 15) := rfl
    have e16 : CV.int (listF (pj kR0 g) 16) = CV.int (g 16) := rfl
    have e17 : CV.int (listF (pj kR0 g) 17) = CV.int (g 17) := rfl
    rw [e14, e15, e16, e17] at h
    exact h
theorem cross121 (g : Nat → CV) (n : Nat) (f : Nat → Nat → CV) (s : Int) (r1 : F109 100 n f s = some true) (t1 : F113 100 (listF (pj kR0 g)) = some true) {a b c r : Int} (i1 : F116 100 (CV.int (g 14)) (CV.int (g 15)) (CV.int (g 16)) (CV.int (g 17)) = some (a, b, c, r)) {N : Nat} {O : FF}
  (l1 : L121v1 100 s g n f a b c r 100 0 1 (fun _ _ => .any) (fun x42 x43 => some (false, x42, x43)) = some (false, N, O)) : F121 100 g n f s = some (N, O) := by
  unfold F121 FT121 D121
  rw [r1, ob_some, bif_t (by rfl), t1, ob_some, bif_f (by rfl), i1, ob_some]
  dsimp only
  rw [l1, ob_some]
  rfl
theorem cross149 (g : Nat → CV) (n : Nat) (f : Nat → Nat → CV) (s : Int) (r1 : F139 100 n f s = some true) (t1 : F135 100 (listF (pj kR0 g)) = some true) {a b c r : Int} (i1 : F146 100 (CV.int (g 14)) (CV.int (g 15)) (CV.int (g 16)) (CV.int (g 17)) = some (a, b, c, r)) {N : Nat} {O : FF}
  (l1 : L149v3 100 n f s g a b c r 100 0 1 (fun _ _ => .any) (fun x42 x43 => some (false, x42, x43)) = some (false, N, O)) : F149 100 g n f s = some (N, O) := by
  unfold F149 FT149 D149
  rw [t1, ob_some, bif_t (by rfl), r1, ob_some, bif_f (by rfl), i1, ob_some]
  dsimp only
  rw [l1, ob_some]
  rfl
theorem cross_no (g : Nat → CV) (n : Nat) (f : Nat → Nat → CV) (s : Int) (b1 b2 : Bool) (h : b1 = false ∨ b2 = false) (r1 : F109 100 n f s = some b1) (r2 : F139 100 n f s = some b1) (t1 : F113 100 (listF (pj kR0 g)) = some b2) (t2 : F135 100 (listF (pj kR0 g)) = some b2) :
    F121 100 g n f s = some (0, (fun _ _ => .any)) ∧ F149 100 g n f s = some (0, (fun _ _ => .any)) := by
  constructor
  · unfold F121 FT121 D121
    rw [r1, ob_some]
    cases b1 with
    | false => rw [bif_f (by rfl), ob_some]; rfl
    | true =>
      cases b2 with
      | false => rw [bif_t (by rfl), t1, ob_some, bif_t (by rfl), ob_some]; rfl
      | true => rcases h with h | h <;> cases h
  · unfold F149 FT149 D149
    rw [t2, ob_some]
    cases b2 with
    | false => rw [bif_f (by rfl), ob_some]; rfl
    | true =>
      cases b1 with
      | false => rw [bif_t (by rfl), r2, ob_some, bif_t (by rfl), ob_some]; rfl
      | true => rcases h with h | h <;> cases h
theorem cross_law (g : Nat → CV) (n : Nat) (f : Nat → Nat → CV) (s : Int) : ∃ N O, F121 100 g n f s = some (N, O) ∧ F149 100 g n f s = some (N, O) ∧ N ≤ 32 := by
  obtain ⟨b1, r1, r2, r3⟩ := route_law n f s
  obtain ⟨b2, t1, t2, t3⟩ := target_law (listF (pj kR0 g))
  by_cases h : b1 = false ∨ b2 = false
  · obtain ⟨e1, e2⟩ := cross_no g n f s b1 b2 h r1 r2 t1 t2
    exact ⟨0, _, e1, e2, by omega⟩
  · have h1 : b1 = true := by cases b1 with | true => rfl | false => exact absurd (.inl rfl) h
    have h2 : b2 = true := by cases b2 with | true => rfl | false => exact absurd (.inr rfl) h
    subst h1; subst h2
    obtain ⟨a, b, c, r, i1, i2, i3, i4, _⟩ := inverse_law (CV.int (g 14)) (CV.int (g 15)) (CV.int (g 16)) (CV.int (g 17)) (rp_of g (t3 rfl))
    obtain ⟨N, O, l1, l2, l3⟩ := cross_run g n f s a b c r ⟨i3, i4⟩ (r3 rfl).1 (r3 rfl).2
    exact ⟨N, O, cross121 g n f s r1 t1 i1 l1, cross149 g n f s r2 t2 i2 l2, l3⟩
theorem same131 (N : Nat) (O : Nat → Nat → CV) (hN : N ≤ 60) : F131 100 N O N O = some true := by
  have H : ∀ m i, N < m + i → i ≤ N → L131v1 100 N O N O m (Int.ofNat i) (some false) (some true) = some true := by
    intro m
    induction m with
    | zero => intro i h1 h2; omega
    | succ m ih =>
      intro i h1 h2
      unfold L131v1
      rw [lt_nat, inb_nat, toNat_nat]
      by_cases h : i < N
      · rw [decide_eq_true h, w64_succ (by omega)]
        simp only [beq_self_eq_true, Bool.true_and, Bool.not_true, cond_true, cond_false]
        exact ih (i + 1) (by omega) (by omega)
      · rw [decide_eq_false h]; rfl
  unfold F131 D131
  rw [bif_f (by simp)]
  exact H 100 0 (by omega) (by omega)
theorem crosses46 (g0 : Nat → CV) (hg0 : RowIn kR0 g0) (n1c0 : Nat) (f1c0 : Nat → Nat → CV) (h1c0 : SlIn (.pr (.int .i64) (.pr (.int .i64) (.pr (.int .i64) .nil))) n1c0 f1c0) (a2c0 : Int) (h2c0 : I64 a2c0) : F150 100 g0 n1c0 f1c0 a2c0 = some true := by
  unfold F150 D150
  generalize listF (pj kR0 g0) = g
  obtain ⟨N, O, l1, l2, l3⟩ := cross_law g n1c0 f1c0 a2c0
  rcases light_law g with h | ⟨h, _⟩
  · rw [h, ob_some, bif_f (by rfl), awake_law, ob_some]
  · rw [h, ob_some, bif_t (by rfl), l1, l2, awake_law]
    simp only [ob_some, same131 N O (by omega)]
    cases (decide ((Int.ofNat n1c0) > 40)) <;> rfl
end Go.Eng.R13
