/-
 DagFirst: the order has every node once, edges lead forward, no lesser node could come earlier.
-/
import Derived.Test.YtdhhkbnmfabnaaaDyTopo
set_option linter.all false
namespace Go.Eng.R13
open Go Go.RowKit Go.Eng
section
variable {ρ : Type} {n : Int} {m : Nat} {f : FF} {p : Nat → Nat} {g : FF}
theorem l246v1 (u : Nat) (hn0 : 0 ≤ n) (hn : n ≤ 256) (ht : Topo (Int.toNat n) m f p) (hp : ∀ i, i < Int.toNat n → iv g i = (p i : Int)) (k0 : Option ρ) (k1 : FF → Option ρ) : ∀ (d i t : Nat) (x : Int) (A : FF), x = (i : Int) → i + d = Int.toNat n → d < t →
  (∀ k, k < i → iv A (p k) = (k : Int) + 1) → (∀ v, (∀ k, k < i → p k ≠ v) → iv A v = 0) →
  ∃ A', (∀ k, k < Int.toNat n → iv A' (p k) = (k : Int) + 1) ∧ L246v1 u n m f (Int.toNat n) g (Int.toNat n) t x A k0 k1 = k1 A'
 | 0, i, t + 1, x, A, hx, hi, htt, hA, hB => by
  refine ⟨A, fun k hk => hA k (by omega), ?_⟩
  unfold L246v1
  rw [decide_eq_false (show ¬ x < n by omega), cond_false]
 | d + 1, i, t + 1, x, A, hx, hi, htt, hA, hB => by
  have hpi := hp i (by omega)
  have hl := ht.lt i (by omega)
  have h2 : inb x (Int.toNat n) = true := inb_true (by omega) (by omega)
  have h3 : Int.toNat x = i := by omega
  have hpi' : CV.int (g i 0) = (p i : Int) := hpi
  have h4 : inb (p i : Int) (Int.toNat n) = true := inb_true (by omega) (by omega)
  have h5 : CV.int (A (0 + Int.toNat (p i : Int)) 0) = 0 := by
   rw [Nat.zero_add, Int.toNat_natCast]
   exact hB (p i) fun k hk e => by have := ht.inj k i (by omega) (by omega) e; omega
  have hx1 : w64 (x + 1) = (i : Int) + 1 := by rw [w64_of (by omega) (by omega)]; omega
  obtain ⟨A', hA', he⟩ := l246v1 u hn0 hn ht hp k0 k1 d (i + 1) t (w64 (x + 1)) (setF A (0 + Int.toNat (p i : Int)) 0 1 (listF [.i .i64 (w64 (x + 1))])) (by rw [hx1]; omega) (by omega) (by omega) (fun k hk => by
   rw [setI, Int.toNat_natCast]
   by_cases e : k = i
   ·subst e; rw [if_pos rfl, hx1]
   ·rw [if_neg fun e2 => e (ht.inj k i (by omega) (by omega) e2)]; exact hA k (by omega)) (fun v hv => by
   rw [setI, Int.toNat_natCast, if_neg fun e2 => hv i (by omega) e2.symm]
   exact hB v fun k hk => hv k (by omega))
  refine ⟨A', hA', ?_⟩
  unfold L246v1
  rw [decide_eq_true (show x < n by omega), cond_true, h2, cond_true, h3, hpi', show (decide ((p i : Int) < 0) == false) = true by rw [decide_eq_false (by omega)]; rfl, cond_true, cond_true,
   show (decide ((p i : Int) ≥ n) == false) = true by rw [decide_eq_false (by omega)]; rfl, cond_true, cond_true, h4, cond_true, h5, show ((0 : Int) != 0) = false from rfl, cond_false, cond_true, cond_true]
  exact he
theorem l246v2 (u : Nat) (hg : Good n m f) (hm : m ≤ 1000000) (hn : n ≤ 256) (ht : Topo (Int.toNat n) m f p) (A : FF) (hA : ∀ k, k < Int.toNat n → iv A (p k) = (k : Int) + 1) (K : Nat) (k0 : Option ρ) (k1 : FF → Option ρ) : ∀ (d i t : Nat) (x : Int) (J : FF), x = (i : Int) → i + d = m → d < t →
  (∀ j, j < i → iv A (Int.toNat (eb f j)) = iv A (Int.toNat (ea f j)) + 1 → bv J (Int.toNat (eb f j)) = true) →
  ∃ J', (∀ j, j < m → iv A (Int.toNat (eb f j)) = iv A (Int.toNat (ea f j)) + 1 → bv J' (Int.toNat (eb f j)) = true) ∧ L246v2 u n m f K g (Int.toNat n) A t x J k0 k1 = k1 J'
 | 0, i, t + 1, x, J, hx, hi, htt, hJ => by
  refine ⟨J, fun j hj => hJ j (by omega), ?_⟩
  unfold L246v2
  rw [decide_eq_false (show ¬ x < Int.ofNat m by simp only [Int.ofNat_eq_natCast]; omega), cond_false]
 | d + 1, i, t + 1, x, J, hx, hi, htt, hJ => by
  obtain ⟨a1, a2, b1, b2, _⟩ := hg i (by omega)
  have h2 : inb x m = true := inb_true (by omega) (by omega)
  have h3 : Int.toNat x = i := by omega
  have ha4 : inb (ea f i) (Int.toNat n) = true := inb_true a1 (by omega)
  have hb4 : inb (eb f i) (Int.toNat n) = true := inb_true b1 (by omega)
  obtain ⟨kb, hkb, hpb⟩ := ht.all (eb f i).toNat (by omega)
  obtain ⟨ka, hka, hpa⟩ := ht.fwd i (by omega) kb hkb (by omega)
  have eA : iv A (ea f i).toNat = (ka : Int) + 1 := by rw [show (ea f i).toNat = p ka by omega]; exact hA ka (by omega)
  have eB : iv A (eb f i).toNat = (kb : Int) + 1 := by rw [← hpb]; exact hA kb hkb
  have hx1 : w64 (x + 1) = ((i + 1 : Nat) : Int) := by rw [w64_of (by omega) (by omega)]; omega
  have hwA : w64 (iv A (ea f i).toNat + 1) = iv A (ea f i).toNat + 1 := w64_of (by omega) (by omega)
  have go : ∀ R : Option ρ, (bif (iv A (eb f i).toNat == iv A (ea f i).toNat + 1) then L246v2 u n m f K g (Int.toNat n) A t (w64 (x + 1)) (setF J (0 + (eb f i).toNat) 0 1 (listF [.b true])) k0 k1 else L246v2 u n m f K g (Int.toNat n) A t (w64 (x + 1)) J k0 k1) = R →
    L246v2 u n m f K g (Int.toNat n) A (t + 1) x J k0 k1 = R := fun R hR => by
   unfold L246v2
   rw [decide_eq_true (show x < Int.ofNat m by simp only [Int.ofNat_eq_natCast]; omega), cond_true, h2, cond_true, cond_true, h3]
   show (bif (decide (ea f i < 0) == false) then (bif (decide (ea f i ≥ n) == false) then (bif (decide (eb f i < 0) == false) then (bif (decide (eb f i ≥ n) == false) then (bif inb (ea f i) (Int.toNat n) then (bif inb (eb f i) (Int.toNat n) then (bif decide (CV.int (A (0 + (ea f i).toNat) 0) ≥ CV.int (A (0 + (eb f i).toNat) 0)) then k0 else (bif inb (eb f i) (Int.toNat n) then (bif inb (ea f i) (Int.toNat n) then (bif (CV.int (A (0 + (eb f i).toNat) 0) == w64 (CV.int (A (0 + (ea f i).toNat) 0) + 1)) then (bif inb (eb f i) (Int.toNat n) then _ else none) else _) else none) else none)) else none) else none) else k0) else k0) else k0) else k0) = R
   rw [show (decide (ea f i < 0) == false) = true by rw [decide_eq_false (by omega)]; rfl, show (decide (ea f i ≥ n) == false) = true by rw [decide_eq_false (by omega)]; rfl,
    show (decide (eb f i < 0) == false) = true by rw [decide_eq_false (by omega)]; rfl, show (decide (eb f i ≥ n) == false) = true by rw [decide_eq_false (by omega)]; rfl,
    cond_true, cond_true, cond_true, cond_true, ha4, hb4, cond_true, cond_true, Nat.zero_add, Nat.zero_add]
   show (bif decide (iv A (ea f i).toNat ≥ iv A (eb f i).toNat) then k0 else (bif true then (bif true then (bif (iv A (eb f i).toNat == w64 (iv A (ea f i).toNat + 1)) then _ else _) else none) else none)) = R
   rw [hwA, decide_eq_false (show ¬ iv A (ea f i).toNat ≥ iv A (eb f i).toNat by omega), cond_false, cond_true, cond_true, cond_true]
   rw [Nat.zero_add] at hR
   exact hR
  cases q : (iv A (eb f i).toNat == iv A (ea f i).toNat + 1) with
  | true =>
   obtain ⟨J', hJ', he⟩ := l246v2 u hg hm hn ht A hA K k0 k1 d (i + 1) t (w64 (x + 1)) (setF J (0 + (eb f i).toNat) 0 1 (listF [.b true])) hx1 (by omega) (by omega) (fun j hj hh => by
    rw [setB]
    by_cases e : (eb f j).toNat = (eb f i).toNat
    ·rw [if_pos e]
    ·rw [if_neg e]
     have : j ≠ i := fun e2 => e (by rw [e2])
     exact hJ j (by omega) hh)
   refine ⟨J', hJ', go _ ?_⟩
   rw [q, cond_true]; exact he
  | false =>
   obtain ⟨J', hJ', he⟩ := l246v2 u hg hm hn ht A hA K k0 k1 d (i + 1) t (w64 (x + 1)) J hx1 (by omega) (by omega) (fun j hj hh => by
    by_cases e : j = i
    ·subst e
     have : (iv A (eb f j).toNat == iv A (ea f j).toNat + 1) = true := by simpa using hh
     rw [q] at this; cases this
    ·exact hJ j (by omega) hh)
   refine ⟨J', hJ', go _ ?_⟩
   rw [q, cond_false]; exact he
theorem l246v3 (u : Nat) (hn0 : 0 ≤ n) (hn : n ≤ 256) (ht : Topo (Int.toNat n) m f p) (hp : ∀ i, i < Int.toNat n → iv g i = (p i : Int)) (J : FF)
  (hJ : ∀ k, k + 1 < Int.toNat n → p (k + 1) < p k → bv J (p (k + 1)) = true) (k0 k1 : Option ρ) : ∀ (d i t : Nat) (x : Int), x = (i : Int) → 1 ≤ i → (i + d = Int.toNat n ∨ d = 0 ∧ Int.toNat n ≤ i) → d < t →
  L246v3 u n (Int.toNat n) g (Int.toNat n) J t x k0 k1 = k1
 | 0, i, t + 1, x, hx, h1, hi, htt => by
  unfold L246v3
  rw [decide_eq_false (show ¬ x < n by omega), cond_false]
 | d + 1, i, t + 1, x, hx, h1, hi, htt => by
  have hi : i + (d + 1) = Int.toNat n := hi.resolve_right (by omega)
  obtain ⟨j, rfl⟩ : ∃ j, i = j + 1 := ⟨i - 1, by omega⟩
  have h2 : inb x (Int.toNat n) = true := inb_true (by omega) (by omega)
  have h3 : Int.toNat x = j + 1 := by omega
  have hw : w64 (x - 1) = (j : Int) := by rw [w64_of (by omega) (by omega)]; omega
  have h2' : inb (j : Int) (Int.toNat n) = true := inb_true (by omega) (by omega)
  have e1 : CV.int (g (j + 1) 0) = (p (j + 1) : Int) := hp (j + 1) (by omega)
  have e2 : CV.int (g j 0) = (p j : Int) := hp j (by omega)
  have hl := ht.lt (j + 1) (by omega)
  have h4 : inb (p (j + 1) : Int) (Int.toNat n) = true := inb_true (by omega) (by omega)
  have ih := l246v3 u hn0 hn ht hp J hJ k0 k1 d (j + 1 + 1) t (w64 (x + 1)) (by rw [w64_of (by omega) (by omega)]; omega) (by omega) (.inl (by omega)) (by omega)
  unfold L246v3
  rw [decide_eq_true (show x < n by omega), cond_true, h2, cond_true, hw, h2', cond_true, h3, Int.toNat_natCast, e1, e2]
  by_cases q : p (j + 1) < p j
  ·rw [decide_eq_true (show (p (j + 1) : Int) < (p j : Int) by omega), show ((true : Bool) == true) = true from rfl, cond_true, cond_true, h4, cond_true, Int.toNat_natCast, Nat.zero_add]
   rw [show CV.bool (J (p (j + 1)) 0) = true from hJ j (by omega) q, show (!true) = false from rfl, cond_false]
   exact ih
  ·rw [decide_eq_false (show ¬ (p (j + 1) : Int) < (p j : Int) by omega), show ((false : Bool) == true) = false from rfl, cond_false]
   exact ih
end
theorem first10 (n : Int) (_ : I64 n) (m : Nat) (f : FF) (_ : SlIn (.pr (.int .i64) (.pr (.int .i64) .nil)) m f) : F246 400 n m f = some true := by
 unfold F246 F223
 rw [ob_some]
 by_cases hm : (Int.ofNat m) > 300
 ·rw [decide_eq_true hm, cond_true, awake_law]; rfl
 ·have hm' : m ≤ 300 := by simp only [Int.ofNat_eq_natCast] at hm; omega
  rw [decide_eq_false hm, cond_false]
  obtain ⟨k, g, c, e1, h1⟩ := order225 400 n m f (by omega) (by omega) (by omega)
  rw [e1, ob_some]
  dsimp only
  have bad : ∀ c : Int, c ≠ 0 → (bif (c != 0) then (bif (((Int.ofNat 0) == 0) == true) then (ob (F243 400) fun x7 => (some x7)) else (some false)) else none) = some true := fun c hc => by
   rw [show (c != 0) = true by simp [hc], cond_true, show (((Int.ofNat 0) == 0) == true) = true from rfl, cond_true, awake_law]; rfl
  cases h1 with
  | range g h => rw [show ((9 : Int) != 0) = true from rfl, cond_true, show (((Int.ofNat 0) == 0) == true) = true from rfl, cond_true, awake_law]; rfl
  | bad g h he => rw [show (errE n f 0 m != 0) = true by simp [he], cond_true, show (((Int.ofNat 0) == 0) == true) = true from rfl, cond_true, awake_law]; rfl
  | cycle g h hg hr => rw [show ((20 : Int) != 0) = true from rfl, cond_true, show (((Int.ofNat 0) == 0) == true) = true from rfl, cond_true, awake_law]; rfl
  | order g l h hg hr hl =>
   obtain ⟨hlen, ht⟩ := topo_of (fun i hi => (hg i hi).1) hr
   have c1 : (decide (0 ≤ n) && decide (n ≤ n) && decide (n ≤ 1073741824) && true) = true := by simp; omega
   obtain ⟨A, hA, eA⟩ := l246v1 (ρ := Bool) 400 h.1 h.2 ht hl (some false) (fun x24 => (bif (decide (0 ≤ n) && decide (n ≤ n) && decide (n ≤ 1073741824) && true) then (L246v2 400 n m f (Int.toNat n) g (Int.toNat n) x24 400 0 (fun _ j => listF [(.b false)] j)
  (some false)
  (fun x43 => (L246v3 400 n (Int.toNat n) g (Int.toNat n) x43 400 1
  (some false)
  (ob (F243 400) fun x55 => (some x55))))) else none)) (Int.toNat n) 0 400 0 (fun _ j => listF [(.i .i64 0)] j) rfl (by omega) (by omega) (fun k hk => by omega) (fun v _ => rfl)
   obtain ⟨J, hJ, eJ⟩ := l246v2 (ρ := Bool) (g := g) 400 hg (by omega) h.2 ht A hA (Int.toNat n) (some false) (fun x43 => (L246v3 400 n (Int.toNat n) g (Int.toNat n) x43 400 1
  (some false)
  (ob (F243 400) fun x55 => (some x55)))) m 0 400 0 (fun _ j => listF [(.b false)] j) rfl (by omega) (by omega) (fun j hj => by omega)
   have e3 := l246v3 (ρ := Bool) 400 h.1 h.2 ht hl J (fun k hk hlt => by
    obtain ⟨i, hi, hb, ha⟩ := ht.least k hk hlt
    have := hJ i hi (by
     rw [hb, ha, Int.toNat_natCast, Int.toNat_natCast, hA (k + 1) hk, hA k (by omega)]; omega)
    rw [hb, Int.toNat_natCast] at this
    exact this) (some false) (ob (F243 400) fun x55 => (some x55)) (Int.toNat n - 1) 1 400 1 rfl (Nat.le_refl _) (by omega) (by omega)
   rw [show ((0 : Int) != 0) = false from rfl, cond_false]
   rw [show (((Int.ofNat (Int.toNat n)) != n) == false) = true by
    have : Int.ofNat (Int.toNat n) = n := by simp only [Int.ofNat_eq_natCast]; omega
    rw [this]; simp, cond_true, show (decide (n < 0) == false) = true by rw [decide_eq_false (by omega)]; rfl, cond_true, decide_eq_false (show ¬ n > 256 by omega), cond_false, c1, cond_true]
   rw [c1] at eA
   rw [cond_true] at eA
   simp only [cond_true] at eA ⊢
   rw [eA, eJ, e3, awake_law]; rfl
end Go.Eng.R13
