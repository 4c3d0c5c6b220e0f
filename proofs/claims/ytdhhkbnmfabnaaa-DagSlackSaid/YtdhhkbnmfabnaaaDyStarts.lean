/-
 DagStarts: earliest starts, latest starts, the length.
-/
import Derived.Test.YtdhhkbnmfabnaaaDyHours
set_option linter.all false
namespace Go.Eng.R13
open Go Go.RowKit Go.Eng
def Mx (E h : Nat → Int) (m : Nat) (f : FF) (Q : Nat → Prop) (x : Int) : Prop :=
 0 ≤ x ∧ (∀ j, j < m → Q j → E (ea f j).toNat + h (ea f j).toNat ≤ x) ∧ (x = 0 ∨ ∃ j, j < m ∧ Q j ∧ x = E (ea f j).toNat + h (ea f j).toNat)
section
variable {E E' h : Nat → Int} {m : Nat} {f : FF} {Q Q' : Nat → Prop} {x y : Int}
theorem Mx.uniq (hx : Mx E h m f Q x) (hy : Mx E h m f Q y) : x = y := by
 obtain ⟨x1, x2, x3⟩ := hx
 obtain ⟨y1, y2, y3⟩ := hy
 have h1 : x ≤ y := by
  rcases x3 with q | ⟨j, hj, hq, q⟩
  ·omega
  ·have := y2 j hj hq; omega
 have h2 : y ≤ x := by
  rcases y3 with q | ⟨j, hj, hq, q⟩
  ·omega
  ·have := x2 j hj hq; omega
 omega
theorem Mx.congr (hx : Mx E h m f Q x) (hE : ∀ j, j < m → Q j → E' (ea f j).toNat = E (ea f j).toNat) (hQ : ∀ j, j < m → (Q' j ↔ Q j)) : Mx E' h m f Q' x := by
 obtain ⟨x1, x2, x3⟩ := hx
 refine ⟨x1, fun j hj hq => ?_, ?_⟩
 ·have hq := (hQ j hj).1 hq
  rw [hE j hj hq]; exact x2 j hj hq
 ·rcases x3 with q | ⟨j, hj, hq, q⟩
  ·exact .inl q
  ·exact .inr ⟨j, hj, (hQ j hj).2 hq, by rw [hE j hj hq]; exact q⟩
theorem Mx.step (hx : Mx E h m f Q x) {j0 : Nat} (hj0 : j0 < m) (hE : 0 ≤ E (ea f j0).toNat + h (ea f j0).toNat) : Mx E h m f (fun j => Q j ∨ j = j0) (if E (ea f j0).toNat + h (ea f j0).toNat > x then E (ea f j0).toNat + h (ea f j0).toNat else x) := by
 obtain ⟨x1, x2, x3⟩ := hx
 split
 ·rename_i hgt
  refine ⟨hE, fun j hj hq => ?_, .inr ⟨j0, hj0, .inr rfl, rfl⟩⟩
  rcases hq with hq | rfl
  ·have := x2 j hj hq; omega
  ·exact Int.le_refl _
 ·rename_i hgt
  refine ⟨x1, fun j hj hq => ?_, x3.imp id fun ⟨j, hj, hq, q⟩ => ⟨j, hj, .inl hq, q⟩⟩
  rcases hq with hq | rfl
  ·exact x2 j hj hq
  ·omega
theorem Mx.none (hQ : ∀ j, j < m → ¬ Q j) : Mx E h m f Q 0 := ⟨Int.le_refl _, fun j hj hq => (hQ j hj hq).elim, .inl rfl⟩
end
section
variable {ρ : Type} {hn m : Nat} {hf f g : FF} {p : Nat → Nat}
theorem l234v2 (u : Nat) (hg : Good (hn : Int) m f) (hm : m ≤ 1000000) (hh : HOk hn hf) (ht : Topo hn m f p) (hp : ∀ i, i < hn → iv g i = (p i : Int)) (i : Nat) (hi : i < hn) (S0 : FF) (hb : ∀ w, 0 ≤ iv S0 w ∧ iv S0 w ≤ 1000000000) (k0 : FF → Option ρ) : ∀ (d j t : Nat) (x : Int) (S : FF), x = (j : Int) → j + d = m → d < t →
  (∀ w, w ≠ p i → iv S w = iv S0 w) → Mx (iv S0) (iv hf) m f (fun j' => j' < j ∧ eb f j' = (p i : Int)) (iv S (p i)) →
  ∃ S', (∀ w, w ≠ p i → iv S' w = iv S0 w) ∧ Mx (iv S0) (iv hf) m f (fun j' => eb f j' = (p i : Int)) (iv S' (p i)) ∧ L234v2 u hn hf m f hn g hn (i : Int) t x S k0 = k0 S'
 | 0, j, t + 1, x, S, hx, hj, htt, hS, hM => by
  refine ⟨S, hS, hM.congr (fun _ _ _ => rfl) fun j' hj' => ⟨fun q => ⟨by omega, q⟩, fun q => q.2⟩, ?_⟩
  unfold L234v2
  rw [decide_eq_false (show ¬ x < Int.ofNat m by simp only [Int.ofNat_eq_natCast]; omega), cond_false]
 | d + 1, j, t + 1, x, S, hx, hj, htt, hS, hM => by
  obtain ⟨a1, a2, b1, b2, hab⟩ := hg j (by omega)
  have h2 : inb x m = true := inb_true (by omega) (by omega)
  have h3 : Int.toNat x = j := by omega
  have hx1 : w64 (x + 1) = ((j + 1 : Nat) : Int) := by rw [w64_of (by omega) (by omega)]; omega
  have hlt : decide (x < Int.ofNat m) = true := decide_eq_true (by simp only [Int.ofNat_eq_natCast]; omega)
  have hi2 : inb (i : Int) hn = true := inb_true (by omega) (by omega)
  have hpi : CV.int (g i 0) = (p i : Int) := hp i hi
  have hpl := ht.lt i hi
  have hpb : inb (p i : Int) hn = true := inb_true (by omega) (by omega)
  by_cases q : eb f j = (p i : Int)
  ·have hap : (ea f j).toNat ≠ p i := by omega
   have hbS := hb (ea f j).toNat
   have hhS := hh (ea f j).toNat (by omega)
   have hwv : w64 (iv S0 (ea f j).toNat + iv hf (ea f j).toNat) = iv S0 (ea f j).toNat + iv hf (ea f j).toNat := w64_of (by omega) (by omega)
   obtain ⟨S', r1, r2, r3⟩ := l234v2 u hg hm hh ht hp i hi S0 hb k0 d (j + 1) t (w64 (x + 1)) (setF S (0 + p i) 0 1 (listF [.i .i64 (if iv S0 (ea f j).toNat + iv hf (ea f j).toNat > iv S (p i) then iv S0 (ea f j).toNat + iv hf (ea f j).toNat else iv S (p i))])) hx1 (by omega) (by omega) (fun w hw => by rw [setI, if_neg hw]; exact hS w hw) (by
    rw [setI, if_pos rfl]
    refine (hM.step (j0 := j) (by omega) (by omega)).congr (fun _ _ _ => rfl) fun j' hj' => ?_
    constructor
    ·rintro ⟨k1, k2⟩
     by_cases ee : j' = j
     ·exact .inr ee
     ·exact .inl ⟨by omega, k2⟩
    ·rintro (⟨k1, k2⟩ | rfl)
     ·exact ⟨by omega, k2⟩
     ·exact ⟨by omega, q⟩)
   refine ⟨S', r1, r2, ?_⟩
   rw [← r3]
   conv => lhs; unfold L234v2
   rw [hlt, cond_true, h2, cond_true, hi2, cond_true, h3, Int.toNat_natCast, hpi, show (CV.int (f j 1) == (p i : Int)) = true by have : CV.int (f j 1) = (p i : Int) := q; simp [this], cond_true, cond_true, cond_true, cond_true, hpb, cond_true,
    show inb (CV.int (f j 0)) hn = true from inb_true a1 (show ea f j < _ by omega), cond_true, cond_true, cond_true]
   rw [Int.toNat_natCast, Nat.zero_add, Nat.zero_add]
   have e1 : CV.int (S (Int.toNat (CV.int (f j 0))) 0) = iv S0 (ea f j).toNat := hS _ hap
   rw [e1]
   rw [show w64 (iv S0 (ea f j).toNat + CV.int (hf (Int.toNat (CV.int (f j 0))) 0)) = _ from hwv]
  ·obtain ⟨S', r1, r2, r3⟩ := l234v2 u hg hm hh ht hp i hi S0 hb k0 d (j + 1) t (w64 (x + 1)) S hx1 (by omega) (by omega) hS (hM.congr (fun _ _ _ => rfl) fun j' hj' => ⟨fun ⟨k1, k2⟩ => ⟨by
    by_cases ee : j' = j
    ·subst ee; exact (q k2).elim
    ·omega, k2⟩, fun ⟨k1, k2⟩ => ⟨by omega, k2⟩⟩)
   refine ⟨S', r1, r2, ?_⟩
   rw [← r3]
   conv => lhs; unfold L234v2
   rw [hlt, cond_true, h2, cond_true, hi2, cond_true, h3, Int.toNat_natCast, hpi, show (CV.int (f j 1) == (p i : Int)) = false by have : ¬ CV.int (f j 1) = (p i : Int) := q; simp [this], cond_false]
structure Ear (hn : Nat) (hf : FF) (m : Nat) (f : FF) (p : Nat → Nat) (S : FF) : Prop where
 mx : ∀ k, k < hn → Mx (iv S) (iv hf) m f (fun j => eb f j = (p k : Int)) (iv S (p k))
 le : ∀ k, k < hn → iv S (p k) ≤ (k : Int) * 1048576
theorem l234v3 (u : Nat) (hg : Good (hn : Int) m f) (hm : m ≤ 1000000) (hmu : m < u) (hnb : hn ≤ 256) (hh : HOk hn hf) (ht : Topo hn m f p) (hp : ∀ i, i < hn → iv g i = (p i : Int)) (k0 : FF → Option ρ) : ∀ (d i t : Nat) (x : Int) (S : FF), x = (i : Int) → i + d = hn → d < t →
  (∀ k, k < i → Mx (iv S) (iv hf) m f (fun j => eb f j = (p k : Int)) (iv S (p k))) → (∀ k, k < i → iv S (p k) ≤ (k : Int) * 1048576) → (∀ w, (∀ k, k < i → p k ≠ w) → iv S w = 0) →
  ∃ S', Ear hn hf m f p S' ∧ L234v3 u hn hf m f hn g hn t x S k0 = k0 S'
 | 0, i, t + 1, x, S, hx, hi, htt, h1, h2, h3 => by
  refine ⟨S, ⟨fun k hk => h1 k (by omega), fun k hk => h2 k (by omega)⟩, ?_⟩
  unfold L234v3
  rw [decide_eq_false (show ¬ x < Int.ofNat hn by simp only [Int.ofNat_eq_natCast]; omega), cond_false]
 | d + 1, i, t + 1, x, S, hx, hi, htt, h1, h2, h3 => by
  have hb : ∀ w, 0 ≤ iv S w ∧ iv S w ≤ 1000000000 := fun w => by
   by_cases q : ∃ k, k < i ∧ p k = w
   ·obtain ⟨k, hk, rfl⟩ := q
    have := (h1 k hk).1
    have := h2 k hk
    omega
   ·have := h3 w fun k hk e => q ⟨k, hk, e⟩
    omega
  have hnew : ∀ k, k < i → p k ≠ p i := fun k hk e => by have := ht.inj k i (by omega) (by omega) e; omega
  have hx1 : w64 (x + 1) = ((i + 1 : Nat) : Int) := by rw [w64_of (by omega) (by omega)]; omega
  obtain ⟨S', r1, r2, r3⟩ := l234v2 u hg hm hh ht hp i (by omega) S hb (fun x62 => (L234v3 u hn hf m f hn g hn t (w64 (x + 1)) x62 k0)) m 0 u 0 S rfl (by omega) hmu (fun _ _ => rfl) (by
   rw [h3 (p i) hnew]
   exact Mx.none fun j hj hq => by omega)
  have hpre : ∀ k, k ≤ i → ∀ j, j < m → eb f j = (p k : Int) → (ea f j).toNat ≠ p i := fun k hk j hj he e => by
   obtain ⟨k', hk', e2⟩ := ht.fwd j hj k (by omega) he
   exact hnew k' (by omega) (by omega)
  have hmi : Mx (iv S') (iv hf) m f (fun j => eb f j = (p i : Int)) (iv S' (p i)) := r2.congr (fun j hj he => r1 _ (hpre i (Nat.le_refl _) j hj he)) fun _ _ => Iff.rfl
  obtain ⟨S2, s1, s2⟩ := l234v3 u hg hm hmu hnb hh ht hp k0 d (i + 1) t (w64 (x + 1)) S' hx1 (by omega) (by omega) (fun k hk => by
   by_cases e : k = i
   ·subst e; exact hmi
   ·rw [r1 (p k) (hnew k (by omega))]
    exact (h1 k (by omega)).congr (fun j hj he => r1 _ (hpre k (by omega) j hj he)) fun _ _ => Iff.rfl) (fun k hk => by
   by_cases e : k = i
   ·subst e
    rcases r2.2.2 with q | ⟨j, hj, hq, q⟩
    ·omega
    ·obtain ⟨k', hk', e2⟩ := ht.fwd j hj k (by omega) hq
     have e3 : (ea f j).toNat = p k' := by omega
     have hl := ht.lt k' (by omega)
     have := hh (p k') hl
     have := h2 k' hk'
     rw [q, e3]; omega
   ·rw [r1 (p k) (hnew k (by omega))]; exact h2 k (by omega)) (fun w hw => by
   rw [r1 w fun e => hw i (by omega) e.symm]
   exact h3 w fun k hk => hw k (by omega))
  refine ⟨S2, s1, ?_⟩
  rw [← s2, ← r3, hx]
  conv => lhs; unfold L234v3
  rw [decide_eq_true (show (i : Int) < Int.ofNat hn by simp only [Int.ofNat_eq_natCast]; omega), cond_true]
theorem l227v2 (u : Nat) (hg : Good (hn : Int) m f) (hm : m ≤ 1000000) (hh : HOk hn hf) (v : Nat) (hv : v < hn) (E : Nat → Int) (hE : 0 ≤ E v ∧ E v ≤ 1000000000) (P : Nat → Prop) (K : Nat) (G : FF) (y z : Int) (k0 : FF → Option ρ) : ∀ (d j t : Nat) (x : Int) (S : FF), x = (j : Int) → j + d = m → d < t →
  iv S v = E v → (∀ w : Nat, Mx E (iv hf) m f (fun j' => eb f j' = (w : Int) ∧ (P j' ∨ j' < j ∧ ea f j' = (v : Int))) (iv S w)) →
  ∃ S', (∀ w : Nat, Mx E (iv hf) m f (fun j' => eb f j' = (w : Int) ∧ (P j' ∨ ea f j' = (v : Int))) (iv S' w)) ∧ L227v2 u hn hf m f hn (v : Int) K G y z (Int.ofNat m) t x S k0 = k0 S'
 | 0, j, t + 1, x, S, hx, hj, htt, hS, hM => by
  refine ⟨S, fun w => (hM w).congr (fun _ _ _ => rfl) fun j' hj' => ⟨fun ⟨q1, q2⟩ => ⟨q1, q2.imp id fun q => ⟨by omega, q⟩⟩, fun ⟨q1, q2⟩ => ⟨q1, q2.imp id fun q => q.2⟩⟩, ?_⟩
  unfold L227v2
  rw [decide_eq_false (show ¬ x < Int.ofNat m by simp only [Int.ofNat_eq_natCast]; omega), cond_false]
 | d + 1, j, t + 1, x, S, hx, hj, htt, hS, hM => by
  obtain ⟨a1, a2, b1, b2, hab⟩ := hg j (by omega)
  have h2 : inb x m = true := inb_true (by omega) (by omega)
  have h3 : Int.toNat x = j := by omega
  have hx1 : w64 (x + 1) = ((j + 1 : Nat) : Int) := by rw [w64_of (by omega) (by omega)]; omega
  have hlt : decide (x < Int.ofNat m) = true := decide_eq_true (by simp only [Int.ofNat_eq_natCast]; omega)
  have hvb : inb (v : Int) hn = true := inb_true (by omega) (by omega)
  have hbb : inb (CV.int (f j 1)) hn = true := inb_true b1 (show eb f j < _ by omega)
  have hhv := hh v hv
  by_cases q : ea f j = (v : Int)
  ·have hbv : (eb f j).toNat ≠ v := by omega
   have ea' : (ea f j).toNat = v := by omega
   have hwv : w64 (iv S v + iv hf v) = E v + iv hf v := by rw [hS]; exact w64_of (by omega) (by omega)
   obtain ⟨S', r1, r2⟩ := l227v2 u hg hm hh v hv E hE P K G y z k0 d (j + 1) t (w64 (x + 1)) (setF S (0 + (eb f j).toNat) 0 1 (listF [.i .i64 (if E v + iv hf v > iv S (eb f j).toNat then E v + iv hf v else iv S (eb f j).toNat)])) hx1 (by omega) (by omega) (by rw [setI, if_neg (Ne.symm hbv)]; exact hS) (fun w => by
    rw [setI]
    by_cases ew : w = (eb f j).toNat
    ·subst ew
     rw [if_pos rfl]
     have := (hM (eb f j).toNat).step (j0 := j) (by omega) (by rw [ea']; omega)
     rw [ea'] at this
     refine this.congr (fun _ _ _ => rfl) fun j' hj' => ?_
     constructor
     ·rintro ⟨k1, k2 | ⟨k2, k3⟩⟩
      ·exact .inl ⟨k1, .inl k2⟩
      ·by_cases ee : j' = j
       ·exact .inr ee
       ·exact .inl ⟨k1, .inr ⟨by omega, k3⟩⟩
     ·rintro (⟨k1, k2⟩ | rfl)
      ·exact ⟨k1, k2.imp id fun ⟨k3, k4⟩ => ⟨by omega, k4⟩⟩
      ·exact ⟨by omega, .inr ⟨by omega, q⟩⟩
    ·rw [if_neg ew]
     refine (hM w).congr (fun _ _ _ => rfl) fun j' hj' => ⟨fun ⟨k1, k2⟩ => ⟨k1, k2.imp id fun ⟨k3, k4⟩ => ⟨?_, k4⟩⟩, fun ⟨k1, k2⟩ => ⟨k1, k2.imp id fun ⟨k3, k4⟩ => ⟨by omega, k4⟩⟩⟩
     by_cases ee : j' = j
     ·subst ee; omega
     ·omega)
   refine ⟨S', r1, ?_⟩
   rw [← r2]
   conv => lhs; unfold L227v2
   rw [hlt, cond_true, h2, cond_true, h3, show (CV.int (f j 0) == (v : Int)) = true by have : CV.int (f j 0) = (v : Int) := q; simp [this], cond_true, hbb, cond_true, hvb, cond_true, cond_true, cond_true, Int.toNat_natCast, Nat.zero_add, Nat.zero_add]
   rw [show w64 (CV.int (S v 0) + CV.int (hf v 0)) = _ from hwv]
  ·obtain ⟨S', r1, r2⟩ := l227v2 u hg hm hh v hv E hE P K G y z k0 d (j + 1) t (w64 (x + 1)) S hx1 (by omega) (by omega) hS (fun w => (hM w).congr (fun _ _ _ => rfl) fun j' hj' => ⟨fun ⟨k1, k2⟩ => ⟨k1, k2.imp id fun ⟨k3, k4⟩ => ⟨by
    by_cases ee : j' = j
    ·subst ee; exact (q k4).elim
    ·omega, k4⟩⟩, fun ⟨k1, k2⟩ => ⟨k1, k2.imp id fun ⟨k3, k4⟩ => ⟨by omega, k4⟩⟩⟩)
   refine ⟨S', r1, ?_⟩
   rw [← r2]
   conv => lhs; unfold L227v2
   rw [hlt, cond_true, h2, cond_true, h3, show (CV.int (f j 0) == (v : Int)) = false by have : ¬ CV.int (f j 0) = (v : Int) := q; simp [this], cond_false]
theorem l227v3 (u : Nat) (hg : Good (hn : Int) m f) (hm : m ≤ 1000000) (hmu : m < u) (hnb : hn ≤ 256) (hh : HOk hn hf) (ht : Topo hn m f p) (hp : ∀ i, i < hn → iv g i = (p i : Int)) (S0 : FF) (hS0 : Ear hn hf m f p S0) (k0 : FF → Option ρ) : ∀ (d i t : Nat) (x : Int) (S : FF), x = (i : Int) → i + d = hn → d < t →
  (∀ w : Nat, Mx (iv S0) (iv hf) m f (fun j => eb f j = (w : Int) ∧ ∃ k, k < i ∧ ea f j = (p k : Int)) (iv S w)) →
  ∃ S', (∀ k, k < hn → iv S' (p k) = iv S0 (p k)) ∧ L227v3 u hn hf m f hn hn g (Int.ofNat hn) t x S k0 = k0 S'
 | 0, i, t + 1, x, S, hx, hi, htt, hM => by
  refine ⟨S, fun k hk => ?_, ?_⟩
  ·refine (hM (p k)).uniq ((hS0.mx k hk).congr (fun _ _ _ => rfl) fun j hj => ⟨fun q => q.1, fun q => ⟨q, ?_⟩⟩)
   obtain ⟨k', hk', e⟩ := ht.fwd j hj k hk q
   exact ⟨k', by omega, e.symm⟩
  ·unfold L227v3
   rw [decide_eq_false (show ¬ x < Int.ofNat hn by simp only [Int.ofNat_eq_natCast]; omega), cond_false]
 | d + 1, i, t + 1, x, S, hx, hi, htt, hM => by
  have hpl := ht.lt i (by omega)
  have hx1 : w64 (x + 1) = ((i + 1 : Nat) : Int) := by rw [w64_of (by omega) (by omega)]; omega
  have hE : iv S (p i) = iv S0 (p i) := (hM (p i)).uniq ((hS0.mx i (by omega)).congr (fun _ _ _ => rfl) fun j hj => ⟨fun q => q.1, fun q => ⟨q, by
   obtain ⟨k', hk', e⟩ := ht.fwd j hj i (by omega) q
   exact ⟨k', hk', e.symm⟩⟩⟩)
  have hb1 := (hS0.mx i (by omega)).1
  have hb2 := hS0.le i (by omega)
  obtain ⟨S', r1, r2⟩ := l227v2 u hg hm hh (p i) hpl (iv S0) (by omega) (fun j => ∃ k, k < i ∧ ea f j = (p k : Int)) hn g (Int.ofNat hn) x (fun x76 => (L227v3 u hn hf m f hn hn g (Int.ofNat hn) t (w64 (x + 1)) x76 k0)) m 0 u 0 S rfl (by omega) hmu hE (fun w => (hM w).congr (fun _ _ _ => rfl) fun j hj => ⟨fun ⟨q1, q2⟩ => ⟨q1, q2.resolve_right fun q => by omega⟩, fun ⟨q1, q2⟩ => ⟨q1, .inl q2⟩⟩)
  obtain ⟨S2, s1, s2⟩ := l227v3 u hg hm hmu hnb hh ht hp S0 hS0 k0 d (i + 1) t (w64 (x + 1)) S' hx1 (by omega) (by omega) (fun w => (r1 w).congr (fun _ _ _ => rfl) fun j hj => by
   constructor
   ·rintro ⟨q1, k, hk, q2⟩
    refine ⟨q1, ?_⟩
    by_cases e : k = i
    ·subst e; exact .inr q2
    ·exact .inl ⟨k, by omega, q2⟩
   ·rintro ⟨q1, ⟨k, hk, q2⟩ | q2⟩
    ·exact ⟨q1, k, by omega, q2⟩
    ·exact ⟨q1, i, by omega, q2⟩)
  refine ⟨S2, s1, ?_⟩
  rw [← s2, ← r2]
  conv => lhs; unfold L227v3
  have h3 : Int.toNat x = i := by omega
  rw [decide_eq_true (show x < Int.ofNat hn by simp only [Int.ofNat_eq_natCast]; omega), cond_true, inb_true (i := x) (n := hn) (by omega) (by omega), cond_true, h3, show CV.int (g i 0) = (p i : Int) from hp i (by omega)]
def mn (s : Nat → Int) (f : FF) (v : Nat) : Nat → Nat → Int → Int
 | _, 0, acc => acc
 | i, d + 1, acc => mn s f v (i + 1) d (if ea f i = (v : Int) then (if s (eb f i).toNat < acc then s (eb f i).toNat else acc) else acc)
def latGo (p : Nat → Nat) (h : Nat → Int) (f : FF) (m : Nat) (e : Int) : Nat → (Nat → Int) → Nat → Int
 | 0, s => s
 | k + 1, s => latGo p h f m e k fun w => if w = p k then w64 (mn s f (p k) 0 m e - h (p k)) else s w
theorem l241v1 (u : Nat) (hg : Good (hn : Int) m f) (hm : m ≤ 1000000) (v : Nat) (hv : v < hn) (e : Int) (s : Nat → Int) (k0 : FF → Option ρ) : ∀ (d j t : Nat) (x : Int) (S : FF), x = (j : Int) → j + d = m → d < t →
  (∀ w, w ≠ v → iv S w = s w) → ∃ S', (∀ w, w ≠ v → iv S' w = s w) ∧ iv S' v = mn s f v j d (iv S v) ∧ L241v1 u (v : Int) m f (Int.ofNat m) hn hf e hn t x S k0 = k0 S'
 | 0, j, t + 1, x, S, hx, hj, htt, hS => by
  refine ⟨S, hS, rfl, ?_⟩
  unfold L241v1
  rw [decide_eq_false (show ¬ x < Int.ofNat m by simp only [Int.ofNat_eq_natCast]; omega), cond_false]
 | d + 1, j, t + 1, x, S, hx, hj, htt, hS => by
  obtain ⟨a1, a2, b1, b2, hab⟩ := hg j (by omega)
  have h2 : inb x m = true := inb_true (by omega) (by omega)
  have h3 : Int.toNat x = j := by omega
  have hx1 : w64 (x + 1) = ((j + 1 : Nat) : Int) := by rw [w64_of (by omega) (by omega)]; omega
  have hlt : decide (x < Int.ofNat m) = true := decide_eq_true (by simp only [Int.ofNat_eq_natCast]; omega)
  have hvb : inb (v : Int) hn = true := inb_true (by omega) (by omega)
  have hbb : inb (CV.int (f j 1)) hn = true := inb_true b1 (show eb f j < _ by omega)
  by_cases q : ea f j = (v : Int)
  ·have hbv : (eb f j).toNat ≠ v := by omega
   have hsb : CV.int (S (Int.toNat (CV.int (f j 1))) 0) = s (eb f j).toNat := hS _ hbv
   obtain ⟨S', r1, r2, r3⟩ := l241v1 u hg hm v hv e s k0 d (j + 1) t (w64 (x + 1)) (setF S (0 + v) 0 1 (listF [.i .i64 (if s (eb f j).toNat < iv S v then s (eb f j).toNat else iv S v)])) hx1 (by omega) (by omega) (fun w hw => by rw [setI, if_neg hw]; exact hS w hw)
   refine ⟨S', r1, ?_, ?_⟩
   ·rw [r2, setI, if_pos rfl]
    show _ = mn s f v (j + 1) d (if ea f j = (v : Int) then _ else _)
    rw [if_pos q]
   ·rw [← r3]
    conv => lhs; unfold L241v1
    rw [hlt, cond_true, h2, cond_true, h3, show (CV.int (f j 0) == (v : Int)) = true by have : CV.int (f j 0) = (v : Int) := q; simp [this], cond_true, hvb, cond_true, hbb, cond_true, cond_true, Int.toNat_natCast, Nat.zero_add, Nat.zero_add, hsb]
  ·obtain ⟨S', r1, r2, r3⟩ := l241v1 u hg hm v hv e s k0 d (j + 1) t (w64 (x + 1)) S hx1 (by omega) (by omega) hS
   refine ⟨S', r1, ?_, ?_⟩
   ·rw [r2]
    show _ = mn s f v (j + 1) d (if ea f j = (v : Int) then _ else _)
    rw [if_neg q]
   ·rw [← r3]
    conv => lhs; unfold L241v1
    rw [hlt, cond_true, h2, cond_true, h3, show (CV.int (f j 0) == (v : Int)) = false by have : ¬ CV.int (f j 0) = (v : Int) := q; simp [this], cond_false]
theorem l241v2 (u : Nat) (hg : Good (hn : Int) m f) (hm : m ≤ 1000000) (hmu : m < u) (hnb : hn ≤ 256) (ht : Topo hn m f p) (hp : ∀ i, i < hn → iv g i = (p i : Int)) (e : Int) (k0 : Int → FF → Option ρ) : ∀ (i t : Nat) (x : Int) (S : FF), x = (i : Int) → i ≤ hn → i < t →
  ∃ S' y, (∀ w, iv S' w = latGo p (iv hf) f m e i (iv S) w) ∧ L241v2 u hn g hn hf m f e hn t x S k0 = k0 y S'
 | 0, t + 1, x, S, hx, hi, htt => by
  refine ⟨S, x, fun w => rfl, ?_⟩
  unfold L241v2
  rw [decide_eq_false (show ¬ 0 < x by omega), cond_false]
 | i + 1, t + 1, x, S, hx, hi, htt => by
  have hpl := ht.lt i (by omega)
  have hx1 : x - 1 = (i : Int) := by omega
  have hpi : CV.int (g i 0) = (p i : Int) := hp i (by omega)
  have hpb : inb (p i : Int) hn = true := inb_true (by omega) (by omega)
  obtain ⟨S1, r1, r2, r3⟩ := l241v1 (hf := hf) u hg hm (p i) hpl e (iv S) (fun x48 => (L241v2 u hn g hn hf m f e hn t (i : Int) (setF x48 (0 + p i) 0 1 (listF [(.i .i64 (w64 ((CV.int (x48 (0 + p i) 0)) - (CV.int (hf (p i) 0)))))])) k0)) m 0 u 0 (setF S (0 + p i) 0 1 (listF [(.i .i64 e)])) rfl (by omega) hmu (fun w hw => by rw [setI, if_neg hw])
  rw [setI, if_pos rfl] at r2
  obtain ⟨S2, y, s1, s2⟩ := l241v2 u hg hm hmu hnb ht hp e k0 i t (i : Int) (setF S1 (0 + p i) 0 1 (listF [(.i .i64 (w64 ((CV.int (S1 (0 + p i) 0)) - (CV.int (hf (p i) 0)))))])) rfl (by omega) (by omega)
  refine ⟨S2, y, fun w => ?_, ?_⟩
  ·rw [s1]
   show _ = latGo p (iv hf) f m e i (fun w => if w = p i then w64 (mn (iv S) f (p i) 0 m e - iv hf (p i)) else iv S w) w
   congr 1
   funext w
   rw [setI]
   by_cases ew : w = p i
   ·rw [if_pos ew, if_pos ew, Nat.zero_add, show CV.int (S1 (p i) 0) = _ from r2]
   ·rw [if_neg ew, if_neg ew]; exact r1 w ew
  ·rw [← s2, ← r3]
   conv => lhs; unfold L241v2
   rw [decide_eq_true (show 0 < x by omega), cond_true, hx1, Int.toNat_natCast, hpi, hpb, cond_true]
   simp only [Int.toNat_natCast, cond_true, hpb]
theorem l235v1 (u : Nat) (hg : Good (hn : Int) m f) (hm : m ≤ 1000000) (ht : Topo hn m f p) (hp : ∀ i, i < hn → iv g i = (p i : Int)) (i : Nat) (hi : i < hn) (e : Int) (S : FF) (k0 : Int → Option ρ) : ∀ (d j t : Nat) (x acc : Int), x = (j : Int) → j + d = m → d < t →
  L235v1 u hn hf m f e hn g hn (i : Int) S t acc x k0 = k0 (mn (iv S) f (p i) j d acc)
 | 0, j, t + 1, x, acc, hx, hj, htt => by
  unfold L235v1
  rw [decide_eq_false (show ¬ x < Int.ofNat m by simp only [Int.ofNat_eq_natCast]; omega), cond_false]; rfl
 | d + 1, j, t + 1, x, acc, hx, hj, htt => by
  obtain ⟨a1, a2, b1, b2, hab⟩ := hg j (by omega)
  have h2 : inb x m = true := inb_true (by omega) (by omega)
  have h3 : Int.toNat x = j := by omega
  have hx1 : w64 (x + 1) = ((j + 1 : Nat) : Int) := by rw [w64_of (by omega) (by omega)]; omega
  have hlt : decide (x < Int.ofNat m) = true := decide_eq_true (by simp only [Int.ofNat_eq_natCast]; omega)
  have hi2 : inb (i : Int) hn = true := inb_true (by omega) (by omega)
  have hpi : CV.int (g i 0) = (p i : Int) := hp i hi
  have hbb : inb (CV.int (f j 1)) hn = true := inb_true b1 (show eb f j < _ by omega)
  have ih := fun acc => l235v1 u hg hm ht hp i hi e S k0 d (j + 1) t (w64 (x + 1)) acc hx1 (by omega) (by omega)
  show _ = k0 (mn (iv S) f (p i) (j + 1) d (if ea f j = (p i : Int) then _ else _))
  rw [← ih]
  conv => lhs; unfold L235v1
  by_cases q : ea f j = (p i : Int)
  ·rw [hlt, cond_true, h2, cond_true, hi2, cond_true, h3, Int.toNat_natCast, hpi, show (CV.int (f j 0) == (p i : Int)) = true by have : CV.int (f j 0) = (p i : Int) := q; simp [this], cond_true, cond_true, hbb, cond_true, Nat.zero_add, if_pos q]
  ·rw [hlt, cond_true, h2, cond_true, hi2, cond_true, h3, Int.toNat_natCast, hpi, show (CV.int (f j 0) == (p i : Int)) = false by have : ¬ CV.int (f j 0) = (p i : Int) := q; simp [this], cond_false, if_neg q]
theorem l235v2 (u : Nat) (hg : Good (hn : Int) m f) (hm : m ≤ 1000000) (hmu : m < u) (hnb : hn ≤ 256) (ht : Topo hn m f p) (hp : ∀ i, i < hn → iv g i = (p i : Int)) (e : Int) (k0 : FF → Option ρ) : ∀ (i t : Nat) (x : Int) (S : FF), x = (i : Int) - 1 → i ≤ hn → i < t →
  ∃ S', (∀ w, iv S' w = latGo p (iv hf) f m e i (iv S) w) ∧ L235v2 u hn hf m f e hn g hn t x S k0 = k0 S'
 | 0, t + 1, x, S, hx, hi, htt => by
  refine ⟨S, fun w => rfl, ?_⟩
  unfold L235v2
  rw [decide_eq_false (show ¬ x ≥ 0 by omega), cond_false]
 | i + 1, t + 1, x, S, hx, hi, htt => by
  have hpl := ht.lt i (by omega)
  have hx0 : x = (i : Int) := by omega
  subst hx0
  have hpi : CV.int (g i 0) = (p i : Int) := hp i (by omega)
  have hpb : inb (p i : Int) hn = true := inb_true (by omega) (by omega)
  have hi2 : inb (i : Int) hn = true := inb_true (by omega) (by omega)
  have hx1 : w64 ((i : Int) - 1) = (i : Int) - 1 := w64_of (by omega) (by omega)
  have r1 := l235v1 (hf := hf) u hg hm ht hp i (by omega) e S (fun x51 => L235v2 u hn hf m f e hn g hn t ((i : Int) - 1) (setF S (0 + p i) 0 1 (listF [.i .i64 (w64 (x51 - CV.int (hf (p i) 0)))])) k0) m 0 u 0 e rfl (by omega) hmu
  obtain ⟨S2, s1, s2⟩ := l235v2 u hg hm hmu hnb ht hp e k0 i t ((i : Int) - 1) (setF S (0 + p i) 0 1 (listF [.i .i64 (w64 (mn (iv S) f (p i) 0 m e - CV.int (hf (p i) 0)))])) rfl (by omega) (by omega)
  refine ⟨S2, fun w => ?_, ?_⟩
  ·rw [s1]
   show _ = latGo p (iv hf) f m e i (fun w => if w = p i then w64 (mn (iv S) f (p i) 0 m e - iv hf (p i)) else iv S w) w
   congr 1
   funext w
   rw [setI]
  ·rw [← s2, ← r1]
   conv => lhs; unfold L235v2
   rw [decide_eq_true (show (i : Int) ≥ 0 by omega), cond_true, hi2, hx1, Int.toNat_natCast, hpi, hpb]
   simp only [cond_true, Int.toNat_natCast]
def lenGo (s h : Nat → Int) : Nat → Nat → Int → Int
 | _, 0, acc => acc
 | i, d + 1, acc => lenGo s h (i + 1) d (if w64 (s i + h i) > acc then w64 (s i + h i) else acc)
theorem l236v1 (u : Nat) (hnb : hn ≤ 256) (S : FF) (k0 : Int → Option ρ) : ∀ (d i t : Nat) (x acc : Int), x = (i : Int) → i + d = hn → d < t → L236v1 u hn hf hn S (Int.ofNat hn) t acc x k0 = k0 (lenGo (iv S) (iv hf) i d acc)
 | 0, i, t + 1, x, acc, hx, hi, htt => by
  unfold L236v1
  rw [decide_eq_false (show ¬ x < Int.ofNat hn by simp only [Int.ofNat_eq_natCast]; omega), cond_false]; rfl
 | d + 1, i, t + 1, x, acc, hx, hi, htt => by
  have h2 : inb x hn = true := inb_true (by omega) (by omega)
  have h3 : Int.toNat x = i := by omega
  unfold L236v1 lenGo
  rw [decide_eq_true (show x < Int.ofNat hn by simp only [Int.ofNat_eq_natCast]; omega), cond_true, h2, cond_true, cond_true, h3]
  exact l236v1 u hnb S k0 d (i + 1) t (w64 (x + 1)) _ (by rw [w64_of (by omega) (by omega)]; omega) (by omega) (by omega)
theorem Ear.congr {S S' : FF} (h : Ear hn hf m f p S) (hg : Good (hn : Int) m f) (ht : Topo hn m f p) (hS : ∀ k, k < hn → iv S' (p k) = iv S (p k)) : Ear hn hf m f p S' := by
 refine ⟨fun k hk => ?_, fun k hk => by rw [hS k hk]; exact h.le k hk⟩
 rw [hS k hk]
 refine (h.mx k hk).congr (fun j hj _ => ?_) fun _ _ => Iff.rfl
 obtain ⟨a1, a2, _⟩ := hg j hj
 obtain ⟨k', hk', e⟩ := ht.all (ea f j).toNat (by omega)
 rw [← e]; exact hS k' hk'
theorem early (u : Nat) (hm : m ≤ 1000) (hu : 400 ≤ u) (hmu : m < u) : ∃ k c S S', F227 u hn hf m f = some (k, S, c) ∧ F234 u hn hf m f = some (k, S', c) ∧ (∀ i, i < k → iv S i = iv S' i) ∧ k ≤ 256 ∧
  ((c ≠ 0 ∧ k = 0) ∨ (c = 0 ∧ k = hn ∧ hn ≤ 256 ∧ HOk hn hf ∧ Good (hn : Int) m f ∧ ∃ p, Topo hn m f p ∧ Ear hn hf m f p S)) := by
 obtain ⟨k, g, c, e1, h1⟩ := ordered226 (hn := hn) (hf := hf) (m := m) (f := f) (e := 0) u hm hu hmu
 obtain ⟨k', g', c', e2, h2⟩ := hours233 (hn := hn) (hf := hf) (m := m) (f := f) (e := 0) u hm hu hmu
 obtain ⟨rfl, rfl, hgg⟩ := h1.same h2
 by_cases hc : c = 0
 ·obtain ⟨⟨hn256, hH, _⟩, rfl, hg, p, ht, hp⟩ := h1.okay hc
  have hp' : ∀ i, i < k → iv g' i = (p i : Int) := fun i hi => by rw [← hgg i hi]; exact hp i hi
  have c1 : (decide (0 ≤ (Int.ofNat k)) && decide ((Int.ofNat k) ≤ (Int.ofNat k)) && decide ((Int.ofNat k) ≤ 1073741824) && true) = true := by simp; omega
  obtain ⟨S', hE, eS'⟩ := l234v3 (ρ := Bool × Nat × FF × Int) (g := g') u hg (by omega) hmu hn256 hH ht hp' (fun x64 => (some (false, (Int.toNat (Int.ofNat k)), x64, 0))) k 0 u 0 (fun _ j => listF [(.i .i64 0)] j) rfl (by omega) (by omega) (fun k hk => by omega) (fun k hk => by omega) (fun _ _ => rfl)
  obtain ⟨S, hS, eS⟩ := l227v3 (ρ := Bool × Nat × FF × Int) (g := g) u hg (by omega) hmu hn256 hH ht hp S' hE (fun x78 => (some (false, (Int.toNat (Int.ofNat k)), x78, 0))) k 0 u 0 (fun _ j => listF [(.i .i64 0)] j) rfl (by omega) (by omega) (fun w => Mx.none fun j hj ⟨_, k, hk, _⟩ => by omega)
  refine ⟨k, 0, S, S', ?_, ?_, fun i hi => ?_, hn256, .inr ⟨rfl, rfl, hn256, hH, hg, p, ht, hE.congr hg ht hS⟩⟩
  ·unfold F227 FT227
   rw [e1, ob_some]
   dsimp only
   rw [show (c != 0) = false by simp [hc], cond_false, c1, cond_true]
   show ob (L227v3 u k hf m f k k g (Int.ofNat k) u 0 _ _) _ = _
   rw [eS]; rfl
  ·unfold F234 FT234
   rw [e2, ob_some]
   dsimp only
   rw [show (c != 0) = false by simp [hc], cond_false, c1, cond_true]
   show ob (L234v3 u k hf m f k g' k u 0 _ _) _ = _
   rw [eS']; rfl
  ·obtain ⟨j, hj, e⟩ := ht.all i hi
   rw [← e]; exact hS j hj
 ·refine ⟨0, c, (fun _ _ => .any), (fun _ _ => .any), ?_, ?_, fun i hi => by omega, by omega, .inl ⟨hc, rfl⟩⟩
  ·unfold F227 FT227
   rw [e1, ob_some]
   dsimp only
   rw [show (c != 0) = true by simp [hc], cond_true]; rfl
  ·unfold F234 FT234
   rw [e2, ob_some]
   dsimp only
   rw [show (c != 0) = true by simp [hc], cond_true]; rfl
theorem late (u : Nat) (e : Int) (hm : m ≤ 1000) (hu : 400 ≤ u) (hmu : m < u) : ∃ k c S S', F241 u hn hf m f e = some (k, S, c) ∧ F235 u hn hf m f e = some (k, S', c) ∧ (∀ i, i < k → iv S i = iv S' i) ∧ k ≤ 256 ∧
  ((c ≠ 0 ∧ k = 0 ∧ (hn ≤ 256 ∧ HOk hn hf ∧ EOk e → ∃ g, OrdR (hn : Int) m f 0 g c)) ∨ (c = 0 ∧ k = hn ∧ hn ≤ 256 ∧ HOk hn hf ∧ Good (hn : Int) m f ∧ ∃ p, Topo hn m f p ∧ ∀ w, iv S w = latGo p (iv hf) f m e hn (fun _ => 0) w)) := by
 obtain ⟨k, g, c, e1, h1⟩ := ordered226 (hn := hn) (hf := hf) (m := m) (f := f) (e := e) u hm hu hmu
 obtain ⟨k', g', c', e2, h2⟩ := hours233 (hn := hn) (hf := hf) (m := m) (f := f) (e := e) u hm hu hmu
 obtain ⟨rfl, rfl, hgg⟩ := h1.same h2
 by_cases hc : c = 0
 ·obtain ⟨⟨hn256, hH, _⟩, rfl, hg, p, ht, hp⟩ := h1.okay hc
  have hp' : ∀ i, i < k → iv g' i = (p i : Int) := fun i hi => by rw [← hgg i hi]; exact hp i hi
  have c1 : (decide (0 ≤ (Int.ofNat k)) && decide ((Int.ofNat k) ≤ (Int.ofNat k)) && decide ((Int.ofNat k) ≤ 1073741824) && true) = true := by simp; omega
  have z : iv (fun _ j => listF [(.i .i64 0)] j) = fun _ => 0 := rfl
  obtain ⟨S, y, hS, eS⟩ := l241v2 (ρ := Bool × Nat × FF × Int) (g := g) (hf := hf) u hg (by omega) hmu hn256 ht hp e (fun x51 x52 => (some (false, (Int.toNat (Int.ofNat k)), x52, 0))) k u (Int.ofNat k) (fun _ j => listF [(.i .i64 0)] j) rfl (Nat.le_refl _) (by omega)
  obtain ⟨S', hS', eS'⟩ := l235v2 (ρ := Bool × Nat × FF × Int) (g := g') (hf := hf) u hg (by omega) hmu hn256 ht hp' e (fun x53 => (some (false, (Int.toNat (Int.ofNat k)), x53, 0))) k u (w64 ((Int.ofNat k) - 1)) (fun _ j => listF [(.i .i64 0)] j) (by simp only [Int.ofNat_eq_natCast]; rw [w64_of (by omega) (by omega)]) (Nat.le_refl _) (by omega)
  rw [z] at hS hS'
  refine ⟨k, 0, S, S', ?_, ?_, fun i hi => by rw [hS, hS'], hn256, .inr ⟨rfl, rfl, hn256, hH, hg, p, ht, hS⟩⟩
  ·unfold F241 FT241
   rw [e1, ob_some]
   dsimp only
   rw [show (c != 0) = false by simp [hc], cond_false, c1, cond_true]
   show ob (L241v2 u k g k hf m f e k u (Int.ofNat k) _ _) _ = _
   rw [eS]; rfl
  ·unfold F235 FT235
   rw [e2, ob_some]
   dsimp only
   rw [show (c != 0) = false by simp [hc], cond_false, c1, cond_true]
   show ob (L235v2 u k hf m f e k g' k u _ _ _) _ = _
   rw [eS']; rfl
 ·refine ⟨0, c, (fun _ _ => .any), (fun _ _ => .any), ?_, ?_, fun i hi => by omega, by omega, .inl ⟨hc, rfl, fun hok => ?_⟩⟩
  ·unfold F241 FT241
   rw [e1, ob_some]
   dsimp only
   rw [show (c != 0) = true by simp [hc], cond_true]; rfl
  ·unfold F235 FT235
   rw [e2, ob_some]
   dsimp only
   rw [show (c != 0) = true by simp [hc], cond_true]; rfl
  ·cases h1 with
   | bad _ h => exact (h hok).elim
   | ok _ ho =>
    cases ho with
    | range g h => exact ⟨g, .range g h⟩
    | bad g h he => exact ⟨g, .bad g h he⟩
    | cycle g h hg hr => exact ⟨g, .cycle g h hg hr⟩
    | order => exact (hc rfl).elim
end
end Go.Eng.R13
