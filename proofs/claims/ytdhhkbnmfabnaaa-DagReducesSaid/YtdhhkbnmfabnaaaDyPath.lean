/-
 Paths: what reached and Before compute.
-/
import Derived.Test.YtdhhkbnmfabnaaaDyTopo
set_option linter.all false
namespace Go.Eng.R13
open Go Go.RowKit Go.Eng
def Ed (m : Nat) (f : FF) (a b : Nat) : Prop := ∃ i, i < m ∧ ea f i = (a : Int) ∧ eb f i = (b : Int)
inductive Path (m : Nat) (f : FF) : Nat → Nat → Prop
 | one {a b : Nat} (h : Ed m f a b) : Path m f a b
 | snoc {a c b : Nat} (h : Path m f a c) (h2 : Ed m f c b) : Path m f a b
theorem Path.trans {m : Nat} {f : FF} {a b c : Nat} (h : Path m f a b) (h2 : Path m f b c) : Path m f a c := by
 induction h2 with
 | one h2 => exact .snoc h h2
 | snoc _ h3 ih => exact .snoc ih h3
theorem Path.mono {m m' : Nat} {f f' : FF} (he : ∀ a b, Ed m f a b → Ed m' f' a b) {a b : Nat} (h : Path m f a b) : Path m' f' a b := by
 induction h with
 | one h => exact .one (he _ _ h)
 | snoc _ h ih => exact .snoc ih (he _ _ h)
def Rep (S : List Nat) (A : FF) : Prop := ∀ i, i < S.length → iv A i = ((S.getD i 0 : Nat) : Int)
theorem Rep.push {S : List Nat} {A : FF} (h : Rep S A) (v : Nat) : Rep (S ++ [v]) (joinF S.length A (rowsF 1 [.i .i64 (v : Int)])) := fun i hi => by
 rw [joinI _ _ _ _ (by simp at hi; omega), getD_snoc]
 split
 ·rfl
 ·exact h i (by simp at hi; omega)
def unm (N : Nat) (M : FF) : Int := ct (fun w => !bv M w) 0 N
theorem ct_upd (p q : Nat → Bool) (w : Nat) : ∀ (d i : Nat), i ≤ w → w < i + d → p w = true → q w = false → (∀ j, j ≠ w → q j = p j) → ct q i d = ct p i d - 1
 | 0, i, h1, h2, _, _, _ => by omega
 | d + 1, i, h1, h2, hp, hq, h => by
  unfold ct
  by_cases e : i = w
  ·subst e
   have : ct q (i + 1) d = ct p (i + 1) d := by
    have := ct_split (p := q) (q := p) (r := fun _ => false) d (i + 1) (fun j hj _ => by rw [h j (by omega)]; simp)
    have z : ct (fun _ => false) (i + 1) d = 0 := ct_zero.2 fun _ _ _ => rfl
    omega
   rw [hp, hq, this]; simp; omega
  ·have := ct_upd p q w d (i + 1) (by omega) (by omega) hp hq h
   rw [this, h i e]; omega
section
variable {ρ : Type} {n : Int} {m : Nat} {f : FF}
theorem l231v2 (u : Nat) (hg : Good n m f) (hm : m ≤ 1000000) (hn : n ≤ 256) (v : Nat) (k0 : Nat → FF → Nat → FF → Option ρ) : ∀ (d i t : Nat) (x : Int) (S : List Nat) (M : FF) (Q : Nat) (A : FF), x = (i : Int) → i + d = m → d < t → Rep S A → S.length + unm (Int.toNat n) M ≤ 1000 →
  ∃ S' M' Q' A', (∀ w, bv M' w = true ↔ bv M w = true ∨ ∃ j, i ≤ j ∧ j < m ∧ ea f j = (v : Int) ∧ eb f j = (w : Int)) ∧ Rep S' A' ∧ (∀ w, w ∈ S' ↔ w ∈ S ∨ (bv M' w = true ∧ bv M w = false)) ∧
   S'.length + unm (Int.toNat n) M' = S.length + unm (Int.toNat n) M ∧ (∃ ext, S' = S ++ ext) ∧ L231v2 u m f (Int.toNat n) (v : Int) (Int.ofNat m) t S.length x M Q A k0 = k0 S'.length M' Q' A'
 | 0, i, t + 1, x, S, M, Q, A, hx, hi, ht, hR, hU => by
  refine ⟨S, M, Q, A, fun w => ?_, hR, fun w => ?_, rfl, ⟨[], by simp⟩, ?_⟩
  ·constructor
   ·exact .inl
   ·rintro (h | ⟨j, h1, h2, _⟩)
    ·exact h
    ·omega
  ·constructor
   ·exact .inl
   ·rintro (h | ⟨h1, h2⟩)
    ·exact h
    ·rw [h1] at h2; cases h2
  ·unfold L231v2
   rw [decide_eq_false (show ¬ x < Int.ofNat m by simp only [Int.ofNat_eq_natCast]; omega), cond_false]
 | d + 1, i, t + 1, x, S, M, Q, A, hx, hi, ht, hR, hU => by
  obtain ⟨a1, a2, b1, b2, _⟩ := hg i (by omega)
  have h2 : inb x m = true := inb_true (by omega) (by omega)
  have h3 : Int.toNat x = i := by omega
  have h4 : inb (CV.int (f i 1)) (Int.toNat n) = true := inb_true b1 (show eb f i < _ by omega)
  have hx1 : w64 (x + 1) = ((i + 1 : Nat) : Int) := by rw [w64_of (by omega) (by omega)]; omega
  have hlt : decide (x < Int.ofNat m) = true := decide_eq_true (by simp only [Int.ofNat_eq_natCast]; omega)
  have skip : ¬ (ea f i = (v : Int) ∧ bv M (eb f i).toNat = false) → (L231v2 u m f (Int.toNat n) (v : Int) (Int.ofNat m) (t + 1) S.length x M Q A k0 = L231v2 u m f (Int.toNat n) (v : Int) (Int.ofNat m) t S.length (w64 (x + 1)) M Q A k0) := fun hno => by
   conv => lhs; unfold L231v2
   rw [hlt, cond_true, h2, cond_true, h3]
   by_cases q : ea f i = (v : Int)
   ·rw [show ((CV.int (f i 0) == (v : Int)) == true) = true by have : CV.int (f i 0) = (v : Int) := q; simp [this], cond_true, h4, cond_true]
    have hM : bv M (eb f i).toNat = true := by
     cases hq : bv M (eb f i).toNat with
     | true => rfl
     | false => exact (hno ⟨q, hq⟩).elim
    rw [show CV.bool (M (0 + Int.toNat (CV.int (f i 1))) 0) = true by rw [Nat.zero_add]; exact hM, show (!true) = false from rfl, cond_false]
   ·rw [show ((CV.int (f i 0) == (v : Int)) == true) = false by have : ¬ CV.int (f i 0) = (v : Int) := q; simp [this], cond_false]
  by_cases q : ea f i = (v : Int) ∧ bv M (eb f i).toNat = false
  ·obtain ⟨qa, qM⟩ := q
   have hwN : (eb f i).toNat < Int.toNat n := by omega
   have hU2 : unm (Int.toNat n) (setF M (0 + (eb f i).toNat) 0 1 (listF [.b true])) = unm (Int.toNat n) M - 1 := by
    refine ct_upd _ _ (eb f i).toNat _ 0 (Nat.zero_le _) (by omega) (by simp [qM]) (by rw [setB, if_pos rfl]; rfl) (fun j hj => by rw [setB, if_neg hj])
   have hu0 : 0 ≤ unm (Int.toNat n) (setF M (0 + (eb f i).toNat) 0 1 (listF [.b true])) := ct_nonneg _ _ _
   obtain ⟨S', M', Q', A', r1, r2, r3, r4, ⟨ext, r5⟩, r6⟩ := l231v2 u hg hm hn v k0 d (i + 1) t (w64 (x + 1)) (S ++ [(eb f i).toNat]) (setF M (0 + (eb f i).toNat) 0 1 (listF [.b true])) (S.length + 1) (joinF S.length A (rowsF 1 [.i .i64 (((eb f i).toNat : Nat) : Int)])) hx1 (by omega) (by omega) (hR.push _) (by rw [hU2]; simp; omega)
   have hb0 : bv M' (eb f i).toNat = true := (r1 _).2 (.inl (by rw [setB, if_pos rfl]))
   refine ⟨S', M', Q', A', fun w => ?_, r2, fun w => ?_, by rw [r4, hU2]; simp; omega, ⟨(eb f i).toNat :: ext, by rw [r5]; simp⟩, ?_⟩
   ·rw [r1 w, setB]
    constructor
    ·rintro (h | ⟨j, h1, h2, h3⟩)
     ·split at h
      ·rename_i e
       exact .inr ⟨i, Nat.le_refl _, by omega, qa, by omega⟩
      ·exact .inl h
     ·exact .inr ⟨j, by omega, h2, h3⟩
    ·rintro (h | ⟨j, h1, h2, h3⟩)
     ·left; split
      ·rfl
      ·exact h
     ·by_cases e : j = i
      ·subst e
       left; rw [if_pos (by omega)]
      ·exact .inr ⟨j, by omega, h2, h3⟩
   ·rw [r3 w, setB]
    by_cases e : w = (eb f i).toNat
    ·subst e
     rw [if_pos rfl]
     simp [qM, hb0]
    ·rw [if_neg e]
     simp [e]
   ·rw [← r6]
    conv => lhs; unfold L231v2
    have e1 : eb f i = (((eb f i).toNat : Nat) : Int) := by omega
    rw [hlt, cond_true, h2, cond_true, h3, show ((CV.int (f i 0) == (v : Int)) == true) = true by have : CV.int (f i 0) = (v : Int) := qa; simp [this], cond_true, h4, cond_true,
     show CV.bool (M (0 + Int.toNat (CV.int (f i 1))) 0) = false by rw [Nat.zero_add]; exact qM, show (!false) = true from rfl, cond_true, cond_true]
    have hS : (S.length : Int) ≤ 1000 := by have := ct_nonneg (fun w => !bv M w) (Int.toNat n) 0; unfold unm at hU; omega
    rw [show Nat.ble (S.length + 1) 1073741824 = true by rw [Nat.ble_eq]; omega, cond_true]
    rw [show (S ++ [(eb f i).toNat]).length = S.length + 1 by simp]
    rw [← e1]
  ·obtain ⟨S', M', Q', A', r1, r2, r3, r4, r5, r6⟩ := l231v2 u hg hm hn v k0 d (i + 1) t (w64 (x + 1)) S M Q A hx1 (by omega) (by omega) hR hU
   refine ⟨S', M', Q', A', fun w => ?_, r2, r3, r4, r5, by rw [skip q]; exact r6⟩
   rw [r1 w]
   constructor
   ·rintro (h | ⟨j, h1, h2, h3⟩)
    ·exact .inl h
    ·exact .inr ⟨j, by omega, h2, h3⟩
   ·rintro (h | ⟨j, j1, j2, j3, j4⟩)
    ·exact .inl h
    ·by_cases e : j = i
     ·subst e
      left
      cases hq : bv M w with
      | true => rfl
      | false => exact (q ⟨j3, by rw [show (eb f j).toNat = w by omega]; exact hq⟩).elim
     ·exact .inr ⟨j, by omega, j2, j3, j4⟩
structure SInv (n : Int) (m : Nat) (f : FF) (v0 : Nat) (S : List Nat) (M : FF) : Prop where
 mark : ∀ w, bv M w = true → Path m f v0 w
 stack : ∀ w, w ∈ S → w = v0 ∨ Path m f v0 w
 clos : ∀ v, (v = v0 ∨ bv M v = true) → v ∈ S ∨ ∀ w, Ed m f v w → bv M w = true
theorem l231v3 (u : Nat) (hg : Good n m f) (hm : m ≤ 1000000) (hn : n ≤ 256) (hmu : m < u) (v0 : Nat) (k0 : FF → Nat → FF → Option ρ) : ∀ (t : Nat) (S : List Nat) (M : FF) (Q : Nat) (A : FF), S.length + unm (Int.toNat n) M < t → S.length + unm (Int.toNat n) M ≤ 1000 → Rep S A → SInv n m f v0 S M →
  ∃ M' Q' A', (∀ w, bv M' w = true ↔ Path m f v0 w) ∧ L231v3 u m f (Int.toNat n) t S.length M Q A k0 = k0 M' Q' A'
 | 0, S, M, Q, A, ht, hU, hR, hI => by have := ct_nonneg (fun w => !bv M w) (Int.toNat n) 0; unfold unm at ht; omega
 | t + 1, S, M, Q, A, ht, hU, hR, hI => by
  rcases List.eq_nil_or_concat S with rfl | ⟨S0, v, rfl⟩
  ·refine ⟨M, Q, A, fun w => ⟨hI.mark w, fun hp => ?_⟩, ?_⟩
   ·induction hp with
    | one h => exact ((hI.clos v0 (.inl rfl)).resolve_left (by simp)) _ h
    | snoc _ h2 ih => exact ((hI.clos _ (.inr ih)).resolve_left (by simp)) _ h2
   ·unfold L231v3
    rw [show decide ((Int.ofNat ([] : List Nat).length) > 0) = false from rfl, cond_false]
  ·have hl : (S0.concat v).length = S0.length + 1 := by simp
   have hS : (S0.length : Int) + 1 ≤ 1000 := by have := ct_nonneg (fun w => !bv M w) (Int.toNat n) 0; unfold unm at hU; rw [hl] at hU; omega
   have hw : w64 ((Int.ofNat (S0.length + 1)) - 1) = (S0.length : Int) := by simp only [Int.ofNat_eq_natCast]; rw [w64_of (by omega) (by omega)]; omega
   have hR0 : Rep S0 A := fun i hi => by
    have := hR i (by rw [hl]; omega)
    rw [List.concat_eq_append, getD_snoc, if_neg (by omega)] at this
    exact this
   have hv : CV.int (A S0.length 0) = (v : Int) := by
    have := hR S0.length (by rw [hl]; omega)
    rw [List.concat_eq_append, getD_snoc, if_pos rfl] at this
    exact this
   obtain ⟨S', M', Q', A', r1, r2, r3, r4, ⟨ext, r5⟩, r6⟩ := l231v2 u hg hm hn v (fun x74 x75 x76 x77 => (L231v3 u m f (Int.toNat n) t x74 x75 x76 x77 k0)) m 0 u 0 S0 M Q A rfl (by omega) hmu hR0 (by rw [hl] at hU; omega)
   have hI' : SInv n m f v0 S' M' := by
    have hvp : v = v0 ∨ Path m f v0 v := hI.stack v (by simp)
    have hnew : ∀ w, Ed m f v w → Path m f v0 w := fun w he => by
     rcases hvp with rfl | hvp
     ·exact .one he
     ·exact .snoc hvp he
    have hmk : ∀ w, bv M' w = true → Path m f v0 w := fun w h => by
     rcases (r1 w).1 h with h | ⟨j, _, h2, h3, h4⟩
     ·exact hI.mark w h
     ·exact hnew w ⟨j, h2, h3, h4⟩
    have hmono : ∀ w, bv M w = true → bv M' w = true := fun w h => (r1 w).2 (.inl h)
    refine ⟨hmk, fun w hw => ?_, fun x hx => ?_⟩
    ·rcases (r3 w).1 hw with h | ⟨h, _⟩
     ·exact hI.stack w (by simp [h])
     ·exact .inr (hmk w h)
    ·by_cases e : x = v
     ·subst e
      exact .inr fun w ⟨j, h1, h2, h3⟩ => (r1 w).2 (.inr ⟨j, Nat.zero_le _, h1, h2, h3⟩)
     ·have key : (x = v0 ∨ bv M x = true) → x ∈ S' ∨ ∀ w, Ed m f x w → bv M' w = true := fun hx => by
       rcases hI.clos x hx with h | h
       ·exact .inl ((r3 x).2 (.inl (by simpa [e] using h)))
       ·exact .inr fun w hw => hmono w (h w hw)
      rcases hx with hx | hx
      ·exact key (.inl hx)
      ·cases hq : bv M x with
       | true => exact key (.inr hq)
       | false => exact .inl ((r3 x).2 (.inr ⟨hx, hq⟩))
   obtain ⟨M2, Q2, A2, h1, h2⟩ := l231v3 u hg hm hn hmu v0 k0 t S' M' Q' A' (by rw [r4]; rw [hl] at ht; omega) (by rw [r4]; rw [hl] at hU; omega) r2 hI'
   refine ⟨M2, Q2, A2, h1, ?_⟩
   rw [← h2, ← r6, hl]
   conv => lhs; unfold L231v3
   rw [show decide ((Int.ofNat (S0.length + 1)) > 0) = true from decide_eq_true (by simp only [Int.ofNat_eq_natCast]; omega), cond_true, hw, inb_true (i := (S0.length : Int)) (n := S0.length + 1) (by omega) (by omega), cond_true, inbe_true (i := (S0.length : Int)) (n := S0.length + 1) (by omega) (by omega), cond_true,
    Int.toNat_natCast, Nat.zero_add, hv, Nat.sub_zero]
theorem reached231 (u : Nat) (hg : Good n m f) (hm : m ≤ 1000) (hn0 : 0 ≤ n) (hn : n ≤ 256) (hmu : m < u) (hu : 400 ≤ u) (v0 : Nat) : ∃ M, F231 u n m f (v0 : Int) = some (Int.toNat n, M) ∧ ∀ w, bv M w = true ↔ Path m f v0 w := by
 have hU : unm (Int.toNat n) (fun _ j => listF [(.b false)] j) ≤ 256 := by have := ct_le (fun w => !bv (fun _ j => listF [(.b false)] j) w) (Int.toNat n) 0; unfold unm; omega
 obtain ⟨M', Q', A', h1, h2⟩ := l231v3 (ρ := Nat × FF) u hg (by omega) hn hmu v0 (fun x81 x82 x83 => (some ((Int.toNat n), x81))) u [v0] (fun _ j => listF [(.b false)] j) 1 (rowsF 1 [(.i .i64 (v0 : Int))]) (by simp; omega) (by simp; omega) (fun i hi => by
  have : i = 0 := by simp at hi; omega
  subst this; rfl) ⟨fun w h => (by cases h), fun w h => .inl (by simpa using h), fun v h => by
   rcases h with rfl | h
   ·exact .inl (by simp)
   ·cases h⟩
 have c1 : (decide (0 ≤ n) && decide (n ≤ n) && decide (n ≤ 1073741824) && true) = true := by simp; omega
 refine ⟨M', ?_, h1⟩
 unfold F231
 rw [c1, cond_true]
 exact h2
def Acyc (n : Int) (m : Nat) (f : FF) : Prop := (0 ≤ n ∧ n ≤ 256) ∧ Good n m f ∧ ∃ l, run (Int.toNat n) m f (Int.toNat n) [] = some l
theorem OrdR.ok {k : Nat} {g : FF} {c : Int} (h : OrdR n m f k g c) : c = 0 ↔ Acyc n m f := by
 cases h with
 | range _ h => exact ⟨fun h => absurd h (by decide), fun h' => absurd h'.1 (by omega)⟩
 | bad _ h he => exact ⟨fun h => (he h).elim, fun h' => (he (good_iff.2 h'.2.1)).elim⟩
 | cycle _ h hg hr =>
  refine ⟨fun h => absurd h (by decide), fun h' => ?_⟩
  obtain ⟨_, _, l, hl⟩ := h'
  rw [hr] at hl; cases hl
 | order _ l h hg hr hl => exact ⟨fun _ => ⟨h, hg, l, hr⟩, fun _ => rfl⟩
end
end Go.Eng.R13
