/-
 DagSlack: latest starts lie between the earliest ones and the end, and keep all edges.
-/
import Derived.Test.YtdhhkbnmfabnaaaDyStarts
set_option linter.all false
namespace Go.Eng.R13
open Go Go.RowKit Go.Eng
section
variable {s s' h : Nat → Int} {f : FF} {v m : Nat} {e : Int}
theorem mn_congr : ∀ (d i : Nat) (acc : Int), (∀ j, i ≤ j → j < i + d → ea f j = (v : Int) → s (eb f j).toNat = s' (eb f j).toNat) → mn s f v i d acc = mn s' f v i d acc
 | 0, _, _, _ => rfl
 | d + 1, i, acc, hh => by
  unfold mn
  by_cases q : ea f i = (v : Int)
  ·rw [if_pos q, if_pos q, hh i (Nat.le_refl _) (by omega) q]
   exact mn_congr d (i + 1) _ fun j h1 h2 => hh j (by omega) (by omega)
  ·rw [if_neg q, if_neg q]
   exact mn_congr d (i + 1) _ fun j h1 h2 => hh j (by omega) (by omega)
theorem mn_spec : ∀ (d i : Nat) (acc : Int), mn s f v i d acc ≤ acc ∧ (∀ j, i ≤ j → j < i + d → ea f j = (v : Int) → mn s f v i d acc ≤ s (eb f j).toNat) ∧
  (mn s f v i d acc = acc ∨ ∃ j, i ≤ j ∧ j < i + d ∧ ea f j = (v : Int) ∧ mn s f v i d acc = s (eb f j).toNat)
 | 0, i, acc => ⟨Int.le_refl _, fun j h1 h2 => by omega, .inl rfl⟩
 | d + 1, i, acc => by
  unfold mn
  by_cases q : ea f i = (v : Int)
  ·rw [if_pos q]
   by_cases q2 : s (eb f i).toNat < acc
   ·rw [if_pos q2]
    obtain ⟨h1, h2, h3⟩ := mn_spec d (i + 1) (s (eb f i).toNat)
    refine ⟨by omega, fun j j1 j2 j3 => ?_, .inr ?_⟩
    ·by_cases ej : j = i
     ·subst ej; exact h1
     ·exact h2 j (by omega) (by omega) j3
    ·rcases h3 with h3 | ⟨j, j1, j2, j3, j4⟩
     ·exact ⟨i, Nat.le_refl _, by omega, q, h3⟩
     ·exact ⟨j, by omega, by omega, j3, j4⟩
   ·rw [if_neg q2]
    obtain ⟨h1, h2, h3⟩ := mn_spec d (i + 1) acc
    refine ⟨h1, fun j j1 j2 j3 => ?_, h3.imp id fun ⟨j, j1, j2, j3, j4⟩ => ⟨j, by omega, by omega, j3, j4⟩⟩
    by_cases ej : j = i
    ·subst ej; omega
    ·exact h2 j (by omega) (by omega) j3
  ·rw [if_neg q]
   obtain ⟨h1, h2, h3⟩ := mn_spec d (i + 1) acc
   refine ⟨h1, fun j j1 j2 j3 => ?_, h3.imp id fun ⟨j, j1, j2, j3, j4⟩ => ⟨j, by omega, by omega, j3, j4⟩⟩
   by_cases ej : j = i
   ·subst ej; exact (q j3).elim
   ·exact h2 j (by omega) (by omega) j3
theorem lenGo_spec : ∀ (d i : Nat) (acc : Int), (∀ j, i ≤ j → j < i + d → 0 ≤ s j + h j ∧ s j + h j ≤ 1000000000) → acc ≤ lenGo s h i d acc ∧ (∀ j, i ≤ j → j < i + d → s j + h j ≤ lenGo s h i d acc) ∧
  (lenGo s h i d acc = acc ∨ ∃ j, i ≤ j ∧ j < i + d ∧ lenGo s h i d acc = s j + h j)
 | 0, i, acc, _ => ⟨Int.le_refl _, fun j h1 h2 => by omega, .inl rfl⟩
 | d + 1, i, acc, hb => by
  have hi := hb i (Nat.le_refl _) (by omega)
  unfold lenGo
  rw [w64_of (n := s i + h i) (by omega) (by omega)]
  by_cases q : s i + h i > acc
  ·rw [if_pos q]
   obtain ⟨h1, h2, h3⟩ := lenGo_spec d (i + 1) (s i + h i) fun j j1 j2 => hb j (by omega) (by omega)
   refine ⟨by omega, fun j j1 j2 => ?_, .inr ?_⟩
   ·by_cases ej : j = i
    ·subst ej; exact h1
    ·exact h2 j (by omega) (by omega)
   ·rcases h3 with h3 | ⟨j, j1, j2, j3⟩
    ·exact ⟨i, Nat.le_refl _, by omega, h3⟩
    ·exact ⟨j, by omega, by omega, j3⟩
  ·rw [if_neg q]
   obtain ⟨h1, h2, h3⟩ := lenGo_spec d (i + 1) acc fun j j1 j2 => hb j (by omega) (by omega)
   refine ⟨h1, fun j j1 j2 => ?_, h3.imp id fun ⟨j, j1, j2, j3⟩ => ⟨j, by omega, by omega, j3⟩⟩
   by_cases ej : j = i
   ·subst ej; omega
   ·exact h2 j (by omega) (by omega)
end
section
variable {hn m : Nat} {f : FF} {p : Nat → Nat} {h : Nat → Int} {e : Int}
theorem latGo_other : ∀ (i : Nat) (s : Nat → Int) (w : Nat), (∀ k, k < i → p k ≠ w) → latGo p h f m e i s w = s w
 | 0, _, _, _ => rfl
 | i + 1, s, w, hw => by
  unfold latGo
  rw [latGo_other i _ w fun k hk => hw k (by omega), if_neg fun ee => hw i (by omega) ee.symm]
theorem latGo_at (hg : Good (hn : Int) m f) (ht : Topo hn m f p) : ∀ (i : Nat) (s : Nat → Int), i ≤ hn → ∀ k, k < i → latGo p h f m e i s (p k) = w64 (mn (latGo p h f m e i s) f (p k) 0 m e - h (p k))
 | 0, _, _, k, hk => by omega
 | i + 1, s, hi, k, hk => by
  have hinj : ∀ k, k < i → p k ≠ p i := fun k hk ee => by have := ht.inj k i (by omega) (by omega) ee; omega
  show latGo p h f m e i (fun w => if w = p i then w64 (mn s f (p i) 0 m e - h (p i)) else s w) (p k) = w64 (mn (latGo p h f m e i (fun w => if w = p i then w64 (mn s f (p i) 0 m e - h (p i)) else s w)) f (p k) 0 m e - h (p k))
  by_cases q : k = i
  ·subst q
   rw [latGo_other k _ (p k) fun k' hk' => hinj k' hk', if_pos rfl]
   congr 2
   refine mn_congr m 0 e fun j _ hj he => ?_
   obtain ⟨a1, a2, b1, b2, hab⟩ := hg j (by omega)
   obtain ⟨j', hj', ej'⟩ := ht.all (eb f j).toNat (by omega)
   obtain ⟨k', hk', ek'⟩ := ht.fwd j (by omega) j' hj' (by omega)
   have : k' = k := ht.inj k' k (by omega) (by omega) (by omega)
   have hne : ∀ x, x ≤ k → p x ≠ (eb f j).toNat := fun x hx ee => by
    have := ht.inj x j' (by omega) hj' (by rw [ee, ej'])
    omega
   rw [latGo_other k _ _ fun x hx => hne x (by omega), if_neg (Ne.symm (hne k (Nat.le_refl _)))]
  ·exact latGo_at hg ht i _ (by omega) k (by omega)
theorem lat_facts (hg : Good (hn : Int) m f) (ht : Topo hn m f p) {E : Nat → Int} (hh : ∀ v, v < hn → 0 ≤ h v ∧ h v ≤ 1048576) (hE0 : ∀ v, v < hn → 0 ≤ E v) (hEe : ∀ v, v < hn → E v + h v ≤ e) (he : e ≤ 1000000000)
  (hEd : ∀ j, j < m → E (ea f j).toNat + h (ea f j).toNat ≤ E (eb f j).toNat) (s : Nat → Int) :
  ∀ d k, k + d = hn → k < hn → E (p k) ≤ latGo p h f m e hn s (p k) ∧ latGo p h f m e hn s (p k) + h (p k) ≤ e ∧ ∀ j, j < m → ea f j = (p k : Int) → latGo p h f m e hn s (p k) + h (p k) ≤ latGo p h f m e hn s (eb f j).toNat := by
 intro d
 induction d using Nat.strongRecOn with
 | _ d ih =>
  intro k hkd hk
  have hpk := ht.lt k hk
  have hat := latGo_at (h := h) (e := e) hg ht hn s (Nat.le_refl _) k hk
  obtain ⟨m1, m2, m3⟩ := mn_spec (s := latGo p h f m e hn s) (f := f) (v := p k) m 0 e
  have hk1 := hh (p k) hpk
  have hk2 := hE0 (p k) hpk
  have hk3 := hEe (p k) hpk
  have hmn : E (p k) + h (p k) ≤ mn (latGo p h f m e hn s) f (p k) 0 m e := by
   rcases m3 with m3 | ⟨j, _, j2, j3, j4⟩
   ·omega
   ·obtain ⟨a1, a2, b1, b2, hab⟩ := hg j (by omega)
    obtain ⟨j', hj', ej'⟩ := ht.all (eb f j).toNat (by omega)
    obtain ⟨k', hk', ek'⟩ := ht.fwd j (by omega) j' hj' (by omega)
    have : k' = k := ht.inj k' k (by omega) (by omega) (by omega)
    have hi := (ih (hn - j') (by omega) j' (by omega) hj').1
    have hd := hEd j (by omega)
    rw [show (ea f j).toNat = p k by omega] at hd
    rw [j4, ← ej']
    rw [← ej'] at hd
    omega
  have hw : latGo p h f m e hn s (p k) = mn (latGo p h f m e hn s) f (p k) 0 m e - h (p k) := by
   rw [hat]; exact w64_of (by omega) (by omega)
  refine ⟨by omega, by omega, fun j hj hej => ?_⟩
  have := m2 j (Nat.zero_le _) (by omega) hej
  omega
end
section
variable {ρ : Type} {hn m : Nat} {hf f : FF}
theorem l248v1 (u : Nat) (hnb : hn ≤ 256) (A B : FF) (e : Int) (hA : ∀ v, v < hn → 0 ≤ iv A v) (hAB : ∀ v, v < hn → iv A v ≤ iv B v) (hB : ∀ v, v < hn → iv B v + iv hf v ≤ e) (hh : HOk hn hf) (he : e ≤ 1000000000) (k0 : Option ρ) (k1 : Bool → Option ρ) :
  ∀ (d i t : Nat) (x : Int) (fl : Bool), x = (i : Int) → i + d = hn → d < t → L248v1 u hn hf m f e hn A hn B t fl x k0 k1 = k1 (fl || (List.range' i d).any fun j => iv A j == iv B j)
 | 0, i, t + 1, x, fl, hx, hi, htt => by
  unfold L248v1
  rw [decide_eq_false (show ¬ x < Int.ofNat hn by simp only [Int.ofNat_eq_natCast]; omega), cond_false]; simp
 | d + 1, i, t + 1, x, fl, hx, hi, htt => by
  have h2 : inb x hn = true := inb_true (by omega) (by omega)
  have h3 : Int.toNat x = i := by omega
  have q1 := hA i (by omega)
  have q2 := hAB i (by omega)
  have q3 := hB i (by omega)
  have q4 := hh i (by omega)
  have ih := fun fl => l248v1 u hnb A B e hA hAB hB hh he k0 k1 d (i + 1) t (w64 (x + 1)) fl (by rw [w64_of (by omega) (by omega)]; omega) (by omega) (by omega)
  have hw : w64 (CV.int (B i 0) + CV.int (hf i 0)) = iv B i + iv hf i := w64_of (n := iv B i + iv hf i) (by omega) (by omega)
  unfold L248v1
  rw [decide_eq_true (show x < Int.ofNat hn by simp only [Int.ofNat_eq_natCast]; omega), cond_true, h2, cond_true, h3, hw,
   show (decide (CV.int (A i 0) < 0) == false) = true by rw [decide_eq_false (show ¬ iv A i < 0 by omega)]; rfl, cond_true, cond_true, cond_true,
   show (decide (CV.int (B i 0) < CV.int (A i 0)) == false) = true by rw [decide_eq_false (show ¬ iv B i < iv A i by omega)]; rfl, cond_true, cond_true, cond_true, decide_eq_false (show ¬ iv B i + iv hf i > e by omega), cond_false, cond_true, cond_true, ih, ih, List.range'_succ, List.any_cons]
  cases fl with
  | true => rfl
  | false =>
   rw [show ((false : Bool) == false) = true from rfl, cond_true, Bool.false_or]
theorem l248v2 (u : Nat) (hg : Good (hn : Int) m f) (hm : m ≤ 1000000) (A B : FF) (e : Int) (hA : ∀ v, v < hn → 0 ≤ iv A v ∧ iv A v ≤ 1000000000) (hB : ∀ v, v < hn → 0 ≤ iv B v ∧ iv B v ≤ 1000000000) (hh : HOk hn hf)
  (h1 : ∀ j, j < m → iv A (ea f j).toNat + iv hf (ea f j).toNat ≤ iv A (eb f j).toNat) (h2 : ∀ j, j < m → iv B (ea f j).toNat + iv hf (ea f j).toNat ≤ iv B (eb f j).toNat) (fl : Bool) (k0 k1 : Option ρ) :
  ∀ (d j t : Nat) (x : Int), x = (j : Int) → j + d = m → d < t → L248v2 u hn hf m f hn A hn B fl t x k0 k1 = k1
 | 0, j, t + 1, x, hx, hj, htt => by
  unfold L248v2
  rw [decide_eq_false (show ¬ x < Int.ofNat m by simp only [Int.ofNat_eq_natCast]; omega), cond_false]
 | d + 1, j, t + 1, x, hx, hj, htt => by
  obtain ⟨a1, a2, b1, b2, hab⟩ := hg j (by omega)
  have hi2 : inb x m = true := inb_true (by omega) (by omega)
  have h3 : Int.toNat x = j := by omega
  have ih := l248v2 u hg hm A B e hA hB hh h1 h2 fl k0 k1 d (j + 1) t (w64 (x + 1)) (by rw [w64_of (by omega) (by omega)]; omega) (by omega) (by omega)
  have ha4 : inb (ea f j) hn = true := inb_true a1 (by omega)
  have hb4 : inb (eb f j) hn = true := inb_true b1 (by omega)
  have qa := hA (ea f j).toNat (by omega)
  have qb := hB (ea f j).toNat (by omega)
  have qh := hh (ea f j).toNat (by omega)
  have w1 : w64 (iv A (ea f j).toNat + iv hf (ea f j).toNat) = iv A (ea f j).toNat + iv hf (ea f j).toNat := w64_of (by omega) (by omega)
  have w2 : w64 (iv B (ea f j).toNat + iv hf (ea f j).toNat) = iv B (ea f j).toNat + iv hf (ea f j).toNat := w64_of (by omega) (by omega)
  have g1 := h1 j (by omega)
  have g2 := h2 j (by omega)
  unfold L248v2
  rw [decide_eq_true (show x < Int.ofNat m by simp only [Int.ofNat_eq_natCast]; omega), cond_true, hi2, cond_true, cond_true, h3]
  show (bif (decide (ea f j < 0) == false) then (bif (decide (ea f j ≥ (hn : Int)) == false) then (bif (decide (eb f j < 0) == false) then (bif (decide (eb f j ≥ (hn : Int)) == false) then (bif inb (ea f j) hn then (bif inb (ea f j) hn then (bif inb (eb f j) hn then (bif (decide (w64 (iv A (ea f j).toNat + iv hf (ea f j).toNat) > iv A (eb f j).toNat) == false) then (bif inb (ea f j) hn then (bif inb (ea f j) hn then (bif inb (eb f j) hn then (bif decide (w64 (iv B (ea f j).toNat + iv hf (ea f j).toNat) > iv B (eb f j).toNat) then k0 else _) else none) else none) else none) else k0) else none) else none) else none) else k0) else k0) else k0) else k0) = k1
  rw [show (decide (ea f j < 0) == false) = true by rw [decide_eq_false (by omega)]; rfl, show (decide (ea f j ≥ (hn : Int)) == false) = true by rw [decide_eq_false (by omega)]; rfl,
   show (decide (eb f j < 0) == false) = true by rw [decide_eq_false (by omega)]; rfl, show (decide (eb f j ≥ (hn : Int)) == false) = true by rw [decide_eq_false (by omega)]; rfl, w1, w2,
   show (decide (iv A (ea f j).toNat + iv hf (ea f j).toNat > iv A (eb f j).toNat) == false) = true by rw [decide_eq_false (by omega)]; rfl, decide_eq_false (show ¬ iv B (ea f j).toNat + iv hf (ea f j).toNat > iv B (eb f j).toNat by omega), ha4, hb4]
  exact ih
theorem early_ord (u : Nat) (hm : m ≤ 1000) (hu : 400 ≤ u) (hmu : m < u) {k : Nat} {S : FF} (h : F227 u hn hf m f = some (k, S, 0)) : ∃ k' g, OrdR (hn : Int) m f k' g 0 := by
 obtain ⟨k', g, c, e1, h1⟩ := ordered226 (hn := hn) (hf := hf) (m := m) (f := f) (e := 0) u hm hu hmu
 by_cases hc : c = 0
 ·subst hc
  cases h1 with
  | ok _ ho => exact ⟨_, _, ho⟩
 ·exfalso
  unfold F227 FT227 at h
  rw [e1, ob_some] at h
  dsimp only at h
  rw [show (c != 0) = true by simp [hc], cond_true, ob_some] at h
  simp at h
  exact hc h.2.2
end
theorem slack10 (hn : Nat) (hf : FF) (_ : SlIn (.pr (.int .i64) .nil) hn hf) (m : Nat) (f : FF) (_ : SlIn (.pr (.int .i64) (.pr (.int .i64) .nil)) m f) : F248 400 hn hf m f = some true := by
 unfold F248 F223
 rw [ob_some]
 by_cases hm : (Int.ofNat m) > 300
 ·rw [decide_eq_true hm, show ((true : Bool) == false) = false from rfl, cond_false, awake_law]; rfl
 ·have hm' : m ≤ 300 := by simp only [Int.ofNat_eq_natCast] at hm; omega
  rw [decide_eq_false hm, show ((false : Bool) == false) = true from rfl, cond_true]
  by_cases hh : (Int.ofNat hn) > 300
  ·rw [decide_eq_true hh, cond_true, awake_law]; rfl
  ·have hh' : hn ≤ 300 := by simp only [Int.ofNat_eq_natCast] at hh; omega
   rw [decide_eq_false hh, cond_false]
   obtain ⟨k, c, S, S', e1, e2, hS, hk, hR⟩ := early (hn := hn) (hf := hf) (m := m) (f := f) 400 (by omega) (by omega) (by omega)
   rcases hR with ⟨hc, rfl⟩ | ⟨rfl, rfl, h256, hH, hg, p, ht, hE⟩
   ·have e3 : F236 400 hn hf m f = some (0, c) := by
     unfold F236
     rw [e1, ob_some]
     dsimp only
     rw [show (c != 0) = true by simp [hc], cond_true]
    rw [e3, ob_some]
    dsimp only
    rw [show (c != 0) = true by simp [hc], cond_true, show (((0 : Int) == 0) == true) = true from rfl, cond_true, awake_law]; rfl
   ·
    have hE0 : ∀ v, v < k → 0 ≤ iv S v ∧ iv S v ≤ 300000000 := fun v hv => by
     obtain ⟨i, hi, rfl⟩ := ht.all v hv
     have := (hE.mx i hi).1
     have := hE.le i hi
     omega
    have hEd : ∀ j, j < m → iv S (ea f j).toNat + iv hf (ea f j).toNat ≤ iv S (eb f j).toNat := fun j hj => by
     obtain ⟨a1, a2, b1, b2, hab⟩ := hg j hj
     obtain ⟨i, hi, ei⟩ := ht.all (eb f j).toNat (by omega)
     have := (hE.mx i hi).2.1 j hj (by omega)
     rw [← ei]; exact this
    obtain ⟨n1, n2, n3⟩ := lenGo_spec (s := iv S) (h := iv hf) k 0 0 (fun j _ hj => by have := hE0 j (by omega); have := hH j (by omega); omega)
    obtain ⟨e, he⟩ : ∃ e, e = lenGo (iv S) (iv hf) 0 k 0 := ⟨_, rfl⟩
    rw [← he] at n1 n2 n3
    have e3 : F236 400 k hf m f = some (e, 0) := by
     unfold F236
     rw [e1, ob_some]
     dsimp only
     rw [show ((0 : Int) != 0) = false from rfl, cond_false, l236v1 (ρ := Int × Int) (hf := hf) 400 h256 S (fun x19 => (some (x19, 0))) k 0 400 0 0 rfl (by omega) (by omega), ← he]
    have heb : e ≤ 400000000 := by
     rcases n3 with n3 | ⟨j, _, hj, n3⟩
     ·omega
     ·have := hE0 j (by omega); have := hH j (by omega); omega
    -- the latest starts
    obtain ⟨k2, c2, T, T', e4, e5, hT, hk2, hR2⟩ := late (hn := k) (hf := hf) (m := m) (f := f) 400 e (by omega) (by omega) (by omega)
    have hR3 : c2 = 0 ∧ k2 = k ∧ ∃ p, Topo k m f p ∧ ∀ w, iv T w = latGo p (iv hf) f m e k (fun _ => 0) w := by
     rcases hR2 with ⟨hc, _, hx⟩ | ⟨q1, q2, _, _, _, q3⟩
     ·obtain ⟨g, hO⟩ := hx ⟨h256, hH, n1, by omega⟩
      obtain ⟨k', g', hO'⟩ := early_ord 400 (by omega) (by omega) (by omega) e1
      exact (hc (hO.same hO').2.1).elim
     ·exact ⟨q1, q2, q3⟩
    obtain ⟨rfl, rfl, p2, ht2, hL⟩ := hR3
    have key : ∀ v, v < k2 → iv S v ≤ iv T v ∧ iv T v + iv hf v ≤ e ∧ ∀ j, j < m → ea f j = (v : Int) → iv T v + iv hf v ≤ iv T (eb f j).toNat := fun v hv => by
     obtain ⟨i, hi, rfl⟩ := ht2.all v hv
     have := lat_facts (h := iv hf) (e := e) hg ht2 (E := iv S) (fun v hv => hH v hv) (fun v hv => (hE0 v hv).1) (fun v hv => n2 v (Nat.zero_le _) (by omega)) (by omega) hEd (fun _ => 0) (k2 - i) i (by omega) hi
     rw [← hL] at this
     exact ⟨this.1, this.2.1, fun j hj he => by rw [hL (eb f j).toNat]; exact this.2.2 j hj he⟩
    rw [e3, ob_some]
    dsimp only
    rw [show ((0 : Int) != 0) = false from rfl, cond_false, e1, ob_some, e4, ob_some]
    dsimp only
    rw [show (((0 : Int) != 0) == false) = true from rfl, cond_true, cond_true, show (((Int.ofNat k2) != (Int.ofNat k2)) == false) = true by simp, cond_true, show ((Int.ofNat k2) != (Int.ofNat k2)) = false by simp, cond_false]
    rw [l248v1 (m := m) (f := f) 400 h256 S T e (fun v hv => (hE0 v hv).1) (fun v hv => (key v hv).1) (fun v hv => (key v hv).2.1) hH (by omega) _ _ k2 0 400 0 _ rfl (by omega) (by omega)]
    rw [l248v2 400 hg (by omega) S T e (fun v hv => by have := hE0 v hv; omega) (fun v hv => by have := hE0 v hv; have := key v hv; have := hH v hv; omega) hH hEd (fun j hj => by
     obtain ⟨a1, a2, b1, b2, hab⟩ := hg j hj
     exact (key (ea f j).toNat (by omega)).2.2 j hj (by omega)) _ _ _ m 0 400 0 rfl (by omega) (by omega)]
    have hany : (((Int.ofNat k2) == 0) || (List.range' 0 k2).any fun j => iv S j == iv T j) = true := by
     by_cases hz : k2 = 0
     ·subst hz; rfl
     ·have : ∃ i, i < k2 ∧ iv S i = iv T i := by
       rcases n3 with n3 | ⟨j, _, hj, n3⟩
       ·have h1 := n2 0 (Nat.le_refl _) (by omega)
        have h2 := hE0 0 (by omega)
        have h3 := hH 0 (by omega)
        have h4 := key 0 (by omega)
        exact ⟨0, by omega, by omega⟩
       ·have h4 := key j (by omega)
        exact ⟨j, by omega, by omega⟩
      obtain ⟨i, hi, ei⟩ := this
      rw [Bool.or_eq_true]
      right
      rw [List.any_eq_true]
      exact ⟨i, by simp; omega, by simp [ei]⟩
    rw [hany, show ((true : Bool) == true) = true from rfl, cond_true, awake_law]; rfl
end Go.Eng.R13
