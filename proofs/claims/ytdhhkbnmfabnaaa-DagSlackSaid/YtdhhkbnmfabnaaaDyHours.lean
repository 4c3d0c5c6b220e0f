/-
 Durations: what is checked; earliest starts, latest starts, the length.
-/
import Derived.Test.YtdhhkbnmfabnaaaDyTopo
import Derived.Test.YtdhhkbnmfabnaaaDyRef
set_option linter.all false
namespace Go.Eng.R13
open Go Go.RowKit Go.Eng
def HOk (hn : Nat) (hf : FF) : Prop := ∀ i, i < hn → 0 ≤ iv hf i ∧ iv hf i ≤ 1048576
def EOk (e : Int) : Prop := 0 ≤ e ∧ e ≤ 1099511627776
inductive HrR (hn : Nat) (hf : FF) (m : Nat) (f : FF) (e : Int) : Nat → FF → Int → Prop
 | bad (g : FF) (h : ¬ (hn ≤ 256 ∧ HOk hn hf ∧ EOk e)) : HrR hn hf m f e 0 g 9
 | ok {k : Nat} {g : FF} {c : Int} (h : hn ≤ 256 ∧ HOk hn hf ∧ EOk e) (ho : OrdR (hn : Int) m f k g c) : HrR hn hf m f e k g c
section
variable {ρ : Type} {hn m : Nat} {hf f : FF} {e : Int}
theorem l226v1 (u : Nat) (hn1 : hn ≤ 1000000) (k0 k1 : Option ρ) : ∀ (d i t : Nat) (x : Int), x = (i : Int) → i + d = hn → d < t →
  ((∀ j, i ≤ j → j < hn → 0 ≤ iv hf j ∧ iv hf j ≤ 1048576) → L226v1 u hn hf m f e (Int.ofNat hn) t x k0 k1 = k1) ∧ (¬ (∀ j, i ≤ j → j < hn → 0 ≤ iv hf j ∧ iv hf j ≤ 1048576) → L226v1 u hn hf m f e (Int.ofNat hn) t x k0 k1 = k0)
 | 0, i, t + 1, x, hx, hi, ht => by
  have hL : L226v1 u hn hf m f e (Int.ofNat hn) (t + 1) x k0 k1 = k1 := by
   unfold L226v1
   rw [decide_eq_false (show ¬ x < Int.ofNat hn by simp only [Int.ofNat_eq_natCast]; omega), cond_false]
  exact ⟨fun _ => hL, fun h => (h fun j h1 h2 => by omega).elim⟩
 | d + 1, i, t + 1, x, hx, hi, ht => by
  obtain ⟨ih1, ih2⟩ := l226v1 u hn1 k0 k1 d (i + 1) t (w64 (x + 1)) (by rw [w64_of (by omega) (by omega)]; omega) (by omega) (by omega)
  have h2 : inb x hn = true := inb_true (by omega) (by omega)
  have h3 : Int.toNat x = i := by omega
  have hL : L226v1 u hn hf m f e (Int.ofNat hn) (t + 1) x k0 k1 = (bif (decide (iv hf i < 0) == false) then (bif decide (iv hf i > 1048576) then k0 else L226v1 u hn hf m f e (Int.ofNat hn) t (w64 (x + 1)) k0 k1) else k0) := by
   conv => lhs; unfold L226v1
   rw [decide_eq_true (show x < Int.ofNat hn by simp only [Int.ofNat_eq_natCast]; omega), cond_true, h2, cond_true, h3]
  by_cases q : 0 ≤ iv hf i ∧ iv hf i ≤ 1048576
  ·rw [show (decide (iv hf i < 0) == false) = true by rw [decide_eq_false (by omega)]; rfl, cond_true, decide_eq_false (show ¬ iv hf i > 1048576 by omega), cond_false] at hL
   rw [hL]
   refine ⟨fun h => ih1 fun j h1 h2 => h j (by omega) h2, fun h => ih2 fun hh => h fun j h1 h2 => ?_⟩
   by_cases ee : j = i
   ·subst ee; exact q
   ·exact hh j (by omega) h2
  ·have hk : L226v1 u hn hf m f e (Int.ofNat hn) (t + 1) x k0 k1 = k0 := by
    rw [hL]
    by_cases q1 : iv hf i < 0
    ·rw [show (decide (iv hf i < 0) == false) = false by rw [decide_eq_true q1]; rfl, cond_false]
    ·rw [show (decide (iv hf i < 0) == false) = true by rw [decide_eq_false q1]; rfl, cond_true, decide_eq_true (show iv hf i > 1048576 by omega), cond_true]
   exact ⟨fun h => (q (h i (Nat.le_refl _) (by omega))).elim, fun _ => hk⟩
theorem l233v1 (u : Nat) (hn1 : hn ≤ 1000000) (k0 k1 : Option ρ) : ∀ (d i t : Nat) (x : Int), x = (i : Int) → i + d = hn → d < t →
  ((∀ j, i ≤ j → j < hn → 0 ≤ iv hf j ∧ iv hf j ≤ 1048576) → L233v1 u hn hf m f e t x k0 k1 = k1) ∧ (¬ (∀ j, i ≤ j → j < hn → 0 ≤ iv hf j ∧ iv hf j ≤ 1048576) → L233v1 u hn hf m f e t x k0 k1 = k0)
 | 0, i, t + 1, x, hx, hi, ht => by
  have hL : L233v1 u hn hf m f e (t + 1) x k0 k1 = k1 := by
   unfold L233v1
   rw [decide_eq_false (show ¬ x < Int.ofNat hn by simp only [Int.ofNat_eq_natCast]; omega), cond_false]
  exact ⟨fun _ => hL, fun h => (h fun j h1 h2 => by omega).elim⟩
 | d + 1, i, t + 1, x, hx, hi, ht => by
  obtain ⟨ih1, ih2⟩ := l233v1 u hn1 k0 k1 d (i + 1) t (w64 (x + 1)) (by rw [w64_of (by omega) (by omega)]; omega) (by omega) (by omega)
  have h2 : inb x hn = true := inb_true (by omega) (by omega)
  have h3 : Int.toNat x = i := by omega
  have hL : L233v1 u hn hf m f e (t + 1) x k0 k1 = (bif (decide (iv hf i < 0) == false) then (bif decide (iv hf i > 1048576) then k0 else L233v1 u hn hf m f e t (w64 (x + 1)) k0 k1) else k0) := by
   conv => lhs; unfold L233v1
   rw [decide_eq_true (show x < Int.ofNat hn by simp only [Int.ofNat_eq_natCast]; omega), cond_true, h2, cond_true, h3, cond_true]
  by_cases q : 0 ≤ iv hf i ∧ iv hf i ≤ 1048576
  ·rw [show (decide (iv hf i < 0) == false) = true by rw [decide_eq_false (by omega)]; rfl, cond_true, decide_eq_false (show ¬ iv hf i > 1048576 by omega), cond_false] at hL
   rw [hL]
   refine ⟨fun h => ih1 fun j h1 h2 => h j (by omega) h2, fun h => ih2 fun hh => h fun j h1 h2 => ?_⟩
   by_cases ee : j = i
   ·subst ee; exact q
   ·exact hh j (by omega) h2
  ·have hk : L233v1 u hn hf m f e (t + 1) x k0 k1 = k0 := by
    rw [hL]
    by_cases q1 : iv hf i < 0
    ·rw [show (decide (iv hf i < 0) == false) = false by rw [decide_eq_true q1]; rfl, cond_false]
    ·rw [show (decide (iv hf i < 0) == false) = true by rw [decide_eq_false q1]; rfl, cond_true, decide_eq_true (show iv hf i > 1048576 by omega), cond_true]
   exact ⟨fun h => (q (h i (Nat.le_refl _) (by omega))).elim, fun _ => hk⟩
theorem ordered226 (u : Nat) (hm : m ≤ 1000) (hu : 400 ≤ u) (hmu : m < u) : ∃ k g c, F226 u hn hf m f e = some (k, g, c) ∧ HrR hn hf m f e k g c := by
 by_cases q : hn ≤ 256
 ·have h0 : decide ((Int.ofNat hn) > 256) = false := decide_eq_false (by simp only [Int.ofNat_eq_natCast]; omega)
  by_cases q2 : HOk hn hf
  ·have hL := fun (k0 k1 : Option (Bool × Nat × FF × Int)) => (l226v1 (m := m) (f := f) (e := e) u (by omega) k0 k1 hn 0 u 0 rfl (by omega) (by omega)).1 fun j _ hj => q2 j hj
   by_cases q3 : EOk e
   ·obtain ⟨k, g, c, e1, h1⟩ := order225 u (hn : Int) m f hm hu hmu
    refine ⟨k, g, c, ?_, .ok ⟨q, q2, q3⟩ h1⟩
    unfold F226 FT226
    rw [h0, cond_false, hL, show (decide (e < 0) == false) = true by rw [decide_eq_false (by have := q3.1; omega)]; rfl, cond_true, decide_eq_false (show ¬ e > 1099511627776 by have := q3.2; omega), cond_false]
    show ob (ob (F225 u (hn : Int) m f) _) _ = _
    rw [e1]; rfl
   ·refine ⟨0, (fun _ _ => .any), 9, ?_, .bad _ fun h => q3 h.2.2⟩
    unfold F226 FT226
    rw [h0, cond_false, hL]
    by_cases q4 : e < 0
    ·rw [show (decide (e < 0) == false) = false by rw [decide_eq_true q4]; rfl, cond_false]; rfl
    ·rw [show (decide (e < 0) == false) = true by rw [decide_eq_false q4]; rfl, cond_true, decide_eq_true (show e > 1099511627776 by unfold EOk at q3; omega), cond_true]; rfl
  ·have hL := fun (k0 k1 : Option (Bool × Nat × FF × Int)) => (l226v1 (m := m) (f := f) (e := e) u (by omega) k0 k1 hn 0 u 0 rfl (by omega) (by omega)).2 fun h => q2 fun j hj => h j (Nat.zero_le _) hj
   refine ⟨0, (fun _ _ => .any), 9, ?_, .bad _ fun h => q2 h.2.1⟩
   unfold F226 FT226
   rw [h0, cond_false, hL]; rfl
 ·refine ⟨0, (fun _ _ => .any), 9, ?_, .bad _ fun h => q h.1⟩
  unfold F226 FT226
  rw [decide_eq_true (show (Int.ofNat hn) > 256 by simp only [Int.ofNat_eq_natCast]; omega), cond_true]; rfl
theorem hours233 (u : Nat) (hm : m ≤ 1000) (hu : 400 ≤ u) (hmu : m < u) : ∃ k g c, F233 u hn hf m f e = some (k, g, c) ∧ HrR hn hf m f e k g c := by
 by_cases q : hn ≤ 256
 ·have h0 : decide ((Int.ofNat hn) > 256) = false := decide_eq_false (by simp only [Int.ofNat_eq_natCast]; omega)
  by_cases q2 : HOk hn hf
  ·have hL := fun (k0 k1 : Option (Bool × Nat × FF × Int)) => (l233v1 (m := m) (f := f) (e := e) u (by omega) k0 k1 hn 0 u 0 rfl (by omega) (by omega)).1 fun j _ hj => q2 j hj
   by_cases q3 : EOk e
   ·obtain ⟨k, g, c, e1, h1⟩ := order229 u (hn : Int) m f hm hu hmu
    refine ⟨k, g, c, ?_, .ok ⟨q, q2, q3⟩ h1⟩
    unfold F233 FT233
    rw [h0, cond_false, hL, show (decide (e < 0) == false) = true by rw [decide_eq_false (by have := q3.1; omega)]; rfl, cond_true, decide_eq_false (show ¬ e > 1099511627776 by have := q3.2; omega), cond_false]
    show ob (ob (F229 u (hn : Int) m f) _) _ = _
    rw [e1]; rfl
   ·refine ⟨0, (fun _ _ => .any), 9, ?_, .bad _ fun h => q3 h.2.2⟩
    unfold F233 FT233
    rw [h0, cond_false, hL]
    by_cases q4 : e < 0
    ·rw [show (decide (e < 0) == false) = false by rw [decide_eq_true q4]; rfl, cond_false]; rfl
    ·rw [show (decide (e < 0) == false) = true by rw [decide_eq_false q4]; rfl, cond_true, decide_eq_true (show e > 1099511627776 by unfold EOk at q3; omega), cond_true]; rfl
  ·have hL := fun (k0 k1 : Option (Bool × Nat × FF × Int)) => (l233v1 (m := m) (f := f) (e := e) u (by omega) k0 k1 hn 0 u 0 rfl (by omega) (by omega)).2 fun h => q2 fun j hj => h j (Nat.zero_le _) hj
   refine ⟨0, (fun _ _ => .any), 9, ?_, .bad _ fun h => q2 h.2.1⟩
   unfold F233 FT233
   rw [h0, cond_false, hL]; rfl
 ·refine ⟨0, (fun _ _ => .any), 9, ?_, .bad _ fun h => q h.1⟩
  unfold F233 FT233
  rw [decide_eq_true (show (Int.ofNat hn) > 256 by simp only [Int.ofNat_eq_natCast]; omega), cond_true]; rfl
theorem HrR.same {k k' : Nat} {g g' : FF} {c c' : Int} (h : HrR hn hf m f e k g c) (h' : HrR hn hf m f e k' g' c') : k = k' ∧ c = c' ∧ ∀ i, i < k → iv g i = iv g' i := by
 cases h with
 | bad _ h =>
  cases h' with
  | bad => exact ⟨rfl, rfl, fun i hi => by omega⟩
  | ok h' => exact (h h').elim
 | ok h ho =>
  cases h' with
  | bad _ h' => exact (h' h).elim
  | ok h' ho' => exact ho.same ho'
theorem HrR.okay {k : Nat} {g : FF} {c : Int} (h : HrR hn hf m f e k g c) (hc : c = 0) : (hn ≤ 256 ∧ HOk hn hf ∧ EOk e) ∧ k = hn ∧ Good (hn : Int) m f ∧ ∃ p, Topo hn m f p ∧ ∀ i, i < hn → iv g i = (p i : Int) := by
 cases h with
 | bad => exact absurd hc (by decide)
 | ok h ho =>
  refine ⟨h, ?_⟩
  cases ho with
  | range => exact absurd hc (by decide)
  | bad g h2 he => exact (he hc).elim
  | cycle => exact absurd hc (by decide)
  | order g l h2 hg hr hl =>
   rw [Int.toNat_natCast] at hr hl
   obtain ⟨_, ht⟩ := topo_of (fun i hi => (hg i hi).1) hr
   exact ⟨Int.toNat_natCast _, hg, _, ht, hl⟩
theorem HrR.len {k : Nat} {g : FF} {c : Int} (h : HrR hn hf m f e k g c) : k ≤ 256 := by
 cases h with
 | bad => omega
 | ok h ho => exact ho.len
end
end Go.Eng.R13
