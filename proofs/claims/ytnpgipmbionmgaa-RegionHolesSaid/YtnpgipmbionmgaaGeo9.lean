/-
  Two contours that do not touch: apart, or one within the other.
-/
import Derived.Test.YtnpgipmbionmgaaGeo8
set_option linter.all false
namespace Geo

/-! scaling -/
def sc (D : Int) (q : Pt) : Pt := (D * q.1, D * q.2)
theorem cross_sc (D : Int) (a b c : Pt) : cross (sc D a) (sc D b) (sc D c) = D * D * cross a b c := by unfold cross sc; grind
theorem le_sc {D x y : Int} (hD : 0 < D) : D * x ≤ D * y ↔ x ≤ y := Int.mul_le_mul_left hD
theorem lt_sc {D x y : Int} (hD : 0 < D) : D * x < D * y ↔ x < y := Int.mul_lt_mul_left hD
theorem btw_sc {D : Int} (hD : 0 < D) (a b q : Int) : btw (D * a) (D * b) (D * q) ↔ btw a b q := by
  unfold btw; rw [le_sc hD, le_sc hD, le_sc hD, le_sc hD]
theorem sgn_sc {D x : Int} (hD : 0 < D) : (0 < D * x ↔ 0 < x) ∧ (D * x < 0 ↔ x < 0) ∧ (D * x = 0 ↔ x = 0) := by
  have h1 := lt_sc (x := 0) (y := x) hD
  have h2 := lt_sc (x := x) (y := 0) hD
  rw [Int.mul_zero] at h1 h2
  exact ⟨h1, h2, ⟨fun h => by omega, fun h => by rw [h, Int.mul_zero]⟩⟩
theorem on_sc {D : Int} (hD : 0 < D) (q a b : Pt) : On (sc D q) (sc D a) (sc D b) ↔ On q a b := by
  unfold On
  rw [cross_sc, (sgn_sc (Int.mul_pos hD hD)).2.2]
  unfold sc
  simp only [btw_sc hD]
theorem opp_sc {D : Int} (hD : 0 < D) (s t : Int) : opp (D * s) (D * t) ↔ opp s t := by
  unfold opp
  rw [(sgn_sc hD).1, (sgn_sc hD).1, (sgn_sc hD).2.1, (sgn_sc hD).2.1]
theorem meet_sc {D : Int} (hD : 0 < D) (a b c d : Pt) : Meet (sc D a) (sc D b) (sc D c) (sc D d) ↔ Meet a b c d := by
  unfold Meet
  rw [on_sc hD, on_sc hD, on_sc hD, on_sc hD, cross_sc, cross_sc, cross_sc, cross_sc, opp_sc (Int.mul_pos hD hD), opp_sc (Int.mul_pos hD hD)]
theorem rc_sc {D : Int} (hD : 0 < D) (q a b : Pt) : rc (sc D q) (sc D a) (sc D b) = rc q a b := by
  unfold rc
  rw [cross_sc]
  have h1 : decide ((sc D a).2 > (sc D q).2) = decide (a.2 > q.2) := decide_eq_decide.2 (lt_sc hD)
  have h2 : decide ((sc D b).2 > (sc D q).2) = decide (b.2 > q.2) := decide_eq_decide.2 (lt_sc hD)
  have h3 : decide ((sc D b).2 > (sc D a).2) = decide (b.2 > a.2) := decide_eq_decide.2 (lt_sc hD)
  have h4 : decide (0 < D * D * cross a b q) = decide (0 < cross a b q) := decide_eq_decide.2 (sgn_sc (Int.mul_pos hD hD)).1
  rw [h1, h2, h3, h4]
theorem par_sc {D : Int} (hD : 0 < D) (n : Nat) (p : Nat → Pt) (q : Pt) : par n (fun i => sc D (p i)) (sc D q) = par n p q := by
  unfold par
  exact xs_congr fun i _ => rc_sc hD q _ _
theorem sc_ne {D : Int} (hD : 0 < D) {a b : Pt} (h : a ≠ b) : sc D a ≠ sc D b := by
  intro e
  apply h
  have h1 : D * a.1 = D * b.1 := congrArg Prod.fst e
  have h2 : D * a.2 = D * b.2 := congrArg Prod.snd e
  have := Int.eq_of_mul_eq_mul_left (by omega) h1
  have := Int.eq_of_mul_eq_mul_left (by omega) h2
  exact Prod.ext (by assumption) (by assumption)

/-! points on a contour -/
def OnK (n : Nat) (p : Nat → Pt) (q : Pt) : Prop := ∃ j, j < n ∧ On q (p j) (p (nx n j))
theorem onK_sc {D : Int} (hD : 0 < D) (n : Nat) (p : Nat → Pt) (q : Pt) : OnK n (fun i => sc D (p i)) (sc D q) ↔ OnK n p q :=
  ⟨fun ⟨j, h, h'⟩ => ⟨j, h, (on_sc hD _ _ _).1 h'⟩, fun ⟨j, h, h'⟩ => ⟨j, h, (on_sc hD _ _ _).2 h'⟩⟩

/-! a level at which all edges are cut at whole numbers -/
def Whole (y : Int) (n : Nat) (p : Nat → Pt) : Prop := ∀ i, i < n → (p i).2 ≠ (p (nx n i)).2 → ∃ x, cross (p i) (p (nx n i)) (x, y) = 0

theorem cross_row {c d : Pt} {x0 y : Int} (h : cross c d (x0, y) = 0) (x : Int) : cross c d (x, y) = (d.2 - c.2) * (x0 - x) := by
  unfold cross at *
  grind
theorem on_row {c d : Pt} {x0 y : Int} (h : cross c d (x0, y) = 0) (hy : (c.2 ≤ y ∧ y ≤ d.2) ∨ (d.2 ≤ y ∧ y ≤ c.2)) (hne : c.2 ≠ d.2) : On (x0, y) c d := by
  rcases hy with ⟨h1, h2⟩ | ⟨h1, h2⟩
  · exact on_of (α := 0) (β := 1) h (by rw [ht01, ht01]; exact h1) (by rw [ht01, ht01]; exact h2) (by rw [ht01, ht01]; omega)
  · have h' : cross d c (x0, y) = 0 := by rw [cross_swap, h]; rfl
    exact (on_of (α := 0) (β := 1) h' (by rw [ht01, ht01]; exact h1) (by rw [ht01, ht01]; exact h2) (by rw [ht01, ht01]; omega)).swap
theorem meet_row {c d : Pt} {x1 x2 y : Int} (hx : x1 ≤ x2) (hw : c.2 ≠ d.2 → ∃ x, cross c d (x, y) = 0) (hm : Meet (x1, y) (x2, y) c d) : ∃ x, x1 ≤ x ∧ x ≤ x2 ∧ On (x, y) c d := by
  have on_seg : ∀ q : Pt, On q (x1, y) (x2, y) → q = (q.1, y) ∧ x1 ≤ q.1 ∧ q.1 ≤ x2 := by
    intro q h
    obtain ⟨_, h2, h3⟩ := h
    unfold btw at h2 h3
    simp only at h2 h3
    exact ⟨Prod.ext rfl (by simp only; omega), by omega, by omega⟩
  rcases hm with h | h | h | h | ⟨h1, h2⟩
  · obtain ⟨e, a, b⟩ := on_seg c h
    exact ⟨c.1, a, b, by rw [← e]; exact On.left c d⟩
  · obtain ⟨e, a, b⟩ := on_seg d h
    exact ⟨d.1, a, b, by rw [← e]; exact On.right c d⟩
  · exact ⟨x1, Int.le_refl _, hx, h⟩
  · exact ⟨x2, hx, Int.le_refl _, h⟩
  · have e1 : ∀ q : Pt, cross (x1, y) (x2, y) q = (x2 - x1) * (q.2 - y) := by intro q; unfold cross; simp only; grind
    rw [e1, e1] at h1
    have hlt : 0 < x2 - x1 := by
      by_cases h : x1 = x2
      · subst h
        rw [Int.sub_self, Int.zero_mul, Int.zero_mul] at h1
        unfold opp at h1
        omega
      · omega
    rw [opp_sc hlt] at h1
    have hne : c.2 ≠ d.2 := by
      intro e
      unfold opp at h1
      omega
    obtain ⟨x, hx'⟩ := hw hne
    rw [cross_row hx', cross_row hx'] at h2
    have hxx : x1 ≤ x ∧ x ≤ x2 := by
      unfold opp at h2
      by_cases hd : 0 < d.2 - c.2
      · rw [(sgn_sc hd).1, (sgn_sc hd).1, (sgn_sc hd).2.1, (sgn_sc hd).2.1] at h2
        omega
      · have hd' : 0 < -(d.2 - c.2) := by omega
        have e : ∀ z, (d.2 - c.2) * z = -(d.2 - c.2) * (-z) := by intro z; grind
        rw [e, e, (sgn_sc hd').1, (sgn_sc hd').1, (sgn_sc hd').2.1, (sgn_sc hd').2.1] at h2
        omega
    refine ⟨x, hxx.1, hxx.2, on_row hx' ?_ hne⟩
    unfold opp at h1
    omega
theorem free_row {n : Nat} {p : Nat → Pt} {x1 x2 y : Int} (hx : x1 ≤ x2) (hw : Whole y n p) (h : ∀ x, x1 ≤ x → x ≤ x2 → ¬ OnK n p (x, y)) : Free n p (x1, y) (x2, y) := by
  intro i hi hm
  obtain ⟨x, a, b, c⟩ := meet_row hx (hw i hi) hm
  exact h x a b ⟨i, hi, c⟩

theorem xs_ex {n : Nat} {f : Nat → Bool} (h : xs n f = true) : ∃ i, i < n ∧ f i = true := by
  induction n with
  | zero => cases h
  | succ n ih =>
    by_cases hf : f n = true
    · exact ⟨n, by omega, hf⟩
    · have : xs n f = true := by
        simp only [xs] at h
        revert h
        cases xs n f <;> cases hq : f n <;> simp_all
      obtain ⟨i, a, b⟩ := ih this
      exact ⟨i, by omega, b⟩
theorem least_nat {P : Nat → Prop} (h : ∃ k, P k) : ∃ k, P k ∧ ∀ j, j < k → ¬ P j := by
  obtain ⟨k, hk⟩ := h
  induction k using Nat.strongRecOn with
  | ind k ih =>
    by_cases h : ∃ j, j < k ∧ P j
    · obtain ⟨j, h1, h2⟩ := h
      exact ih j h1 h2
    · exact ⟨k, hk, fun j h1 h2 => h ⟨j, h1, h2⟩⟩
/-- the first point of the contour to the right of a point within -/
theorem first_hit {n : Nat} {p : Nat → Pt} {q : Pt} (hw : Whole q.2 n p) (hp : par n p q = true) (hq : ¬ OnK n p q) : ∃ x, q.1 ≤ x ∧ OnK n p (x, q.2) ∧ ∀ x', q.1 ≤ x' → x' < x → ¬ OnK n p (x', q.2) := by
  have hex : ∃ x, q.1 ≤ x ∧ OnK n p (x, q.2) := by
    obtain ⟨i, hi, hr⟩ := xs_ex hp
    have hr' : rc q (p i) (p (nx n i)) = true := hr
    by_cases hne : (p i).2 = (p (nx n i)).2
    · rw [rc_flat (by omega)] at hr'; cases hr'
    · obtain ⟨x, hx⟩ := hw i hi hne
      have hc : cross (p i) (p (nx n i)) q = ((p (nx n i)).2 - (p i).2) * (x - q.1) := cross_row hx q.1
      by_cases h1 : (p i).2 ≤ q.2 ∧ q.2 < (p (nx n i)).2
      · rw [rc_up h1.1 h1.2, decide_eq_true_iff, hc, (sgn_sc (by omega)).1] at hr'
        exact ⟨x, by omega, i, hi, on_row hx (by omega) hne⟩
      · by_cases h2 : (p (nx n i)).2 ≤ q.2 ∧ q.2 < (p i).2
        · have hno : ¬ On q (p i) (p (nx n i)) := fun h => hq ⟨i, hi, h⟩
          rw [rc_swap hno, rc_up h2.1 h2.2, decide_eq_true_iff, cross_swap, hc, show -(((p (nx n i)).2 - (p i).2) * (x - q.1)) = ((p i).2 - (p (nx n i)).2) * (x - q.1) from by grind, (sgn_sc (by omega)).1] at hr'
          exact ⟨x, by omega, i, hi, on_row hx (by omega) hne⟩
        · rw [rc_flat (by omega)] at hr'; cases hr'
  obtain ⟨x, h1, h2⟩ := hex
  obtain ⟨k, hk1, hk2⟩ := least_nat (P := fun k : Nat => OnK n p (q.1 + (k : Int), q.2)) ⟨(x - q.1).toNat, by rw [Int.toNat_of_nonneg (by omega)]; rw [show q.1 + (x - q.1) = x from by omega]; exact h2⟩
  refine ⟨q.1 + k, by omega, hk1, fun x' a b => ?_⟩
  have := hk2 (x' - q.1).toNat (by omega)
  rw [Int.toNat_of_nonneg (by omega), show q.1 + (x' - q.1) = x' from by omega] at this
  exact this

/-! contours that do not touch -/
structure NoTouch (n : Nat) (p : Nat → Pt) (n' : Nat) (p' : Nat → Pt) : Prop where
  big : 3 ≤ n
  big' : 3 ≤ n'
  free : ∀ i, i < n → ∀ k, k < n' → ¬ Meet (p i) (p (nx n i)) (p' k) (p' (nx n' k))
  ne : ∀ i, i < n → p i ≠ p (nx n i)
  ne' : ∀ i, i < n' → p' i ≠ p' (nx n' i)
theorem NoTouch.symm {n : Nat} {p : Nat → Pt} {n' : Nat} {p' : Nat → Pt} (h : NoTouch n p n' p') : NoTouch n' p' n p :=
  ⟨h.big', h.big, fun i hi k hk hm => h.free k hk i hi hm.symm, h.ne', h.ne⟩
theorem NoTouch.corner {n : Nat} {p : Nat → Pt} {n' : Nat} {p' : Nat → Pt} (h : NoTouch n p n' p') : ∀ i, i < n → par n' p' (p i) = par n' p' (p 0) := by
  intro i
  induction i with
  | zero => intro _; rfl
  | succ i ih =>
    intro hi
    rw [← ih (by omega)]
    have e := par_free (n := n') (p := p') (a := p i) (b := p (nx n i)) (fun k hk => h.free i (by omega) k hk)
    rw [nx_small hi] at e
    exact e.symm
theorem NoTouch.side {n : Nat} {p : Nat → Pt} {n' : Nat} {p' : Nat → Pt} (h : NoTouch n p n' p') {q : Pt} (hq : OnK n p q) : ¬ OnK n' p' q ∧ par n' p' q = par n' p' (p 0) := by
  obtain ⟨i, hi, ho⟩ := hq
  obtain ⟨h1, h2⟩ := par_edge (n' := n') (p' := p') (fun k hk => h.free i hi k hk) ho (h.ne i hi) h.ne'
  exact ⟨fun ⟨k, hk, hk'⟩ => h1 k hk hk', by rw [h2]; exact h.corner i hi⟩
theorem apart_whole {n : Nat} {p : Nat → Pt} {n' : Nat} {p' : Nat → Pt} (h : NoTouch n p n' p') (o1 : par n' p' (p 0) = false) (o2 : par n p (p' 0) = false) {q : Pt} (w1 : Whole q.2 n p) (w2 : Whole q.2 n' p')
    (h1 : par n p q = true) (h2 : par n' p' q = true) (h3 : ¬ OnK n p q) (h4 : ¬ OnK n' p' q) : False := by
  obtain ⟨x, x1, x2, x3⟩ := first_hit w1 h1 h3
  obtain ⟨y, y1, y2, y3⟩ := first_hit w2 h2 h4
  rcases Int.lt_trichotomy x y with hl | he | hg
  · have e := par_free (free_row (n := n') (p := p') x1 w2 (fun z a b => y3 z a (by omega)))
    rw [(h.side x2).2, o1] at e
    exact absurd (h2.symm.trans e) (by simp)
  · subst he
    exact (h.side x2).1 y2
  · have e := par_free (free_row (n := n) (p := p) y1 w1 (fun z a b => x3 z a (by omega)))
    rw [(h.symm.side y2).2, o2] at e
    exact absurd (h1.symm.trans e) (by simp)
theorem within_whole {n : Nat} {p : Nat → Pt} {n' : Nat} {p' : Nat → Pt} (h : NoTouch n p n' p') (o1 : par n' p' (p 0) = true) (o2 : par n p (p' 0) = false) {q : Pt} (w1 : Whole q.2 n p) (w2 : Whole q.2 n' p')
    (h1 : par n p q = true) (h3 : ¬ OnK n p q) : ¬ OnK n' p' q ∧ par n' p' q = true := by
  have h4 : ¬ OnK n' p' q := by
    intro hq
    have e := (h.symm.side hq).2
    rw [o2, h1] at e
    cases e
  refine ⟨h4, ?_⟩
  obtain ⟨x, x1, x2, x3⟩ := first_hit w1 h1 h3
  by_cases hc : ∃ z, q.1 ≤ z ∧ z ≤ x ∧ OnK n' p' (z, q.2)
  · exfalso
    obtain ⟨z, z1, z2, z3⟩ := hc
    have hz : z < x := by
      by_cases e : z = x
      · subst e; exact absurd z3 (h.side x2).1
      · omega
    have e := par_free (free_row (n := n) (p := p) z1 w1 (fun z' a b => x3 z' a (by omega)))
    rw [(h.symm.side z3).2, o2] at e
    exact absurd (h1.symm.trans e) (by simp)
  · have e := par_free (free_row (n := n') (p := p') x1 w2 (fun z a b hk => hc ⟨z, a, b, hk⟩))
    rw [(h.side x2).2, o1] at e
    exact e
theorem outer_side {n : Nat} {p : Nat → Pt} {n' : Nat} {p' : Nat → Pt} (h : NoTouch n p n' p') (o1 : par n' p' (p 0) = true) : par n p (p' 0) = false := by
  have hb := h.big'
  obtain ⟨t, ht, hm⟩ : ∃ t, t < n' ∧ ∀ j, j < n' → (p' j).2 ≤ (p' t).2 := by
    have : ∀ m, 0 < m → m ≤ n' → ∃ t, t < m ∧ ∀ j, j < m → (p' j).2 ≤ (p' t).2 := by
      intro m
      induction m with
      | zero => intro h; omega
      | succ m ih =>
        intro _ hm
        by_cases h0 : m = 0
        · subst h0
          exact ⟨0, by omega, fun j hj => by rw [show j = 0 from by omega]; exact Int.le_refl _⟩
        · obtain ⟨t, h1, h2⟩ := ih (by omega) (by omega)
          by_cases hc : (p' m).2 ≤ (p' t).2
          · refine ⟨t, by omega, fun j hj => ?_⟩
            by_cases e : j = m
            · rw [e]; exact hc
            · exact h2 j (by omega)
          · refine ⟨m, by omega, fun j hj => ?_⟩
            by_cases e : j = m
            · rw [e]; exact Int.le_refl _
            · have := h2 j (by omega); omega
    exact this n' (by omega) (Nat.le_refl _)
  rw [← h.symm.corner t ht]
  refine par_out (.inl fun c hc => ?_)
  have hin := h.corner c hc
  rw [o1] at hin
  by_cases hle : (p c).2 ≤ (p' t).2
  · exact hle
  · exfalso
    have : par n' p' (p c) = false := par_out (.inl fun j hj => by have := hm j hj; omega)
    rw [hin] at this
    cases this

/-! a scale for a level -/
def dd (a b : Pt) : Int := if a.2 = b.2 then 1 else (b.2 - a.2) * (b.2 - a.2)
theorem dd_pos (a b : Pt) : 0 < dd a b := by
  unfold dd
  split
  · decide
  · exact sq_pos (by omega)
def pd : Nat → (Nat → Int) → Int
  | 0, _ => 1
  | n + 1, f => pd n f * f n
theorem pd_pos {n : Nat} {f : Nat → Int} (h : ∀ i, 0 < f i) : 0 < pd n f := by
  induction n with
  | zero => exact Int.one_pos
  | succ n ih => exact Int.mul_pos ih (h n)
theorem pd_dvd {n : Nat} {f : Nat → Int} {i : Nat} (h : i < n) : f i ∣ pd n f := by
  induction n with
  | zero => omega
  | succ n ih =>
    by_cases e : i = n
    · subst e; exact Int.dvd_mul_left _ _
    · exact Int.dvd_trans (ih (by omega)) (Int.dvd_mul_right _ _)
def scl (n : Nat) (p : Nat → Pt) : Int := pd n fun i => dd (p i) (p (nx n i))
theorem scl_pos (n : Nat) (p : Nat → Pt) : 0 < scl n p := pd_pos fun i => dd_pos _ _
theorem whole_sc {n : Nat} {p : Nat → Pt} {D : Int} (hD : 0 < D) (hd : scl n p ∣ D) (y : Int) : Whole (D * y) n (fun i => sc D (p i)) := by
  intro i hi hne
  have hne' : (p i).2 ≠ (p (nx n i)).2 := fun e => hne (by show D * (p i).2 = D * (p (nx n i)).2; rw [e])
  have h1 : dd (p i) (p (nx n i)) ∣ D := Int.dvd_trans (pd_dvd (f := fun i => dd (p i) (p (nx n i))) hi) hd
  unfold dd at h1
  rw [if_neg hne'] at h1
  obtain ⟨e, he⟩ := h1
  refine ⟨D * (p i).1 + ((p (nx n i)).1 - (p i).1) * ((p (nx n i)).2 - (p i).2) * e * (y - (p i).2), ?_⟩
  have : cross (sc D (p i)) (sc D (p (nx n i))) (D * (p i).1 + ((p (nx n i)).1 - (p i).1) * ((p (nx n i)).2 - (p i).2) * e * (y - (p i).2), D * y) = D * ((p (nx n i)).1 - (p i).1) * (y - (p i).2) * (D - ((p (nx n i)).2 - (p i).2) * ((p (nx n i)).2 - (p i).2) * e) := by
    unfold cross sc
    grind
  refine Eq.trans this ?_
  rw [← he, Int.sub_self, Int.mul_zero]
theorem NoTouch.sc {n : Nat} {p : Nat → Pt} {n' : Nat} {p' : Nat → Pt} (h : NoTouch n p n' p') {D : Int} (hD : 0 < D) : NoTouch n (fun i => sc D (p i)) n' (fun i => sc D (p' i)) :=
  ⟨h.big, h.big', fun i hi k hk hm => h.free i hi k hk ((meet_sc hD _ _ _ _).1 hm), fun i hi => sc_ne hD (h.ne i hi), fun i hi => sc_ne hD (h.ne' i hi)⟩

theorem two_apart {n : Nat} {p : Nat → Pt} {n' : Nat} {p' : Nat → Pt} (h : NoTouch n p n' p') (o1 : par n' p' (p 0) = false) (o2 : par n p (p' 0) = false) {q : Pt}
    (h1 : par n p q = true ∨ OnK n p q) (h2 : par n' p' q = true ∨ OnK n' p' q) : False := by
  by_cases k1 : OnK n p q
  · obtain ⟨a, b⟩ := h.side k1
    rw [o1] at b
    rcases h2 with h | h
    · rw [h] at b; cases b
    · exact a h
  · by_cases k2 : OnK n' p' q
    · obtain ⟨a, b⟩ := h.symm.side k2
      rw [o2] at b
      rcases h1 with h | h
      · rw [h] at b; cases b
      · exact a h
    · have hD : 0 < scl n p * scl n' p' := Int.mul_pos (scl_pos _ _) (scl_pos _ _)
      have g1 : par n p q = true := h1.resolve_right k1
      have g2 : par n' p' q = true := h2.resolve_right k2
      refine apart_whole (h.sc hD) ?_ ?_ (q := Geo.sc (scl n p * scl n' p') q) (whole_sc hD (Int.dvd_mul_right _ _) q.2) (whole_sc hD (Int.dvd_mul_left _ _) q.2) ?_ ?_ ?_ ?_
      · rw [par_sc hD]; exact o1
      · rw [par_sc hD]; exact o2
      · rw [par_sc hD]; exact g1
      · rw [par_sc hD]; exact g2
      · rw [onK_sc hD]; exact k1
      · rw [onK_sc hD]; exact k2
theorem two_within {n : Nat} {p : Nat → Pt} {n' : Nat} {p' : Nat → Pt} (h : NoTouch n p n' p') (o1 : par n' p' (p 0) = true) {q : Pt}
    (h1 : par n p q = true ∨ OnK n p q) : ¬ OnK n' p' q ∧ par n' p' q = true := by
  by_cases k1 : OnK n p q
  · obtain ⟨a, b⟩ := h.side k1
    rw [o1] at b
    exact ⟨a, b⟩
  · have hD : 0 < scl n p * scl n' p' := Int.mul_pos (scl_pos _ _) (scl_pos _ _)
    have g1 : par n p q = true := h1.resolve_right k1
    have := within_whole (h.sc hD) (by rw [par_sc hD]; exact o1) (by rw [par_sc hD]; exact outer_side h o1) (q := Geo.sc (scl n p * scl n' p') q) (whole_sc hD (Int.dvd_mul_right _ _) q.2) (whole_sc hD (Int.dvd_mul_left _ _) q.2) (by rw [par_sc hD]; exact g1) (by rw [onK_sc hD]; exact k1)
    rw [onK_sc hD, par_sc hD] at this
    exact this
end Geo
