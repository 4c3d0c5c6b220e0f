/-
 slices.Compact over points: the plain law.
-/
import Derived.Test.YtdhhkbnmfabnaaaDecT1
import Derived.Test.YtdhhkbnmfabnaaaEngU
import Derived.Test.YtdhhkbnmfabnaaaEngX0
set_option linter.all false
namespace Go.Eng.R13
open Go Go.RowKit Go.Eng
open Go Go.RowKit Go.Eng
theorem setF_at (f : Nat → Nat → CV) (i : Nat) (L : Nat → CV) (a c : Nat) : setF f i 0 2 L a c = if a = i ∧ c < 2 then L c else f a c := by
 unfold setF
 by_cases h1 : a = i
 ·subst h1
  by_cases h2 : c < 2
  ·have : (Nat.beq a a && Nat.ble 0 c && Nat.blt c (0 + 2)) = true := by
    simp [Nat.blt_eq, h2]
   rw [this, if_pos ⟨rfl, h2⟩]; rfl
  ·have : (Nat.beq a a && Nat.ble 0 c && Nat.blt c (0 + 2)) = false := by
    have : Nat.blt c (0 + 2) = false := by
     cases hq : Nat.blt c (0 + 2) with
     | false => rfl
     | true => exact (h2 (by simpa [Nat.blt_eq] using hq)).elim
    rw [this]; simp
   rw [this, if_neg (fun h => h2 h.2)]; rfl
 ·have : (Nat.beq a i && Nat.ble 0 c && Nat.blt c (0 + 2)) = false := by
   have : Nat.beq a i = false := by
    cases hq : Nat.beq a i with
    | false => rfl
    | true => exact (h1 (Nat.eq_of_beq_eq_true hq)).elim
   simp [this]
  rw [this, if_neg (fun h => h1 h.1)]; rfl
theorem listF_2 (a b : CV) (c : Nat) (h : c < 2) : listF [a, b] c = if c = 0 then a else b := by
 match c, h with
 | 0, _ => rfl
 | 1, _ => rfl
theorem prsP_succ (t : Nat) (g : FF) : prsP (t + 1) g = prsP t g ++ [prP g t] := by
 unfold prsP; rw [List.range_succ, List.map_append]; rfl
theorem prsP_len (t : Nat) (g : FF) : (prsP t g).length = t := by unfold prsP; simp
theorem prsP_at {t : Nat} {g : FF} {i : Nat} (h : i < t) : (prsP t g)[i]? = some (prP g i) := by
 unfold prsP; simp [h]
theorem compG_snoc (b : Int × Int) : ∀ (l : List (Int × Int)) (a : Int × Int), compG a (l ++ [b]) = compG a l ++ (if (a :: l).getLast (List.cons_ne_nil _ _) = b then [] else [b])
 | [], a => by
  by_cases h : a = b
  ·subst h; simp [compG]
  ·have : (b.1 == a.1 && b.2 == a.2) = false := by
    rw [Bool.eq_false_iff]; intro hh
    simp at hh
    exact h (Prod.ext hh.1.symm hh.2.symm)
   simp only [List.nil_append, compG, this, cond_false]
   simp [h]
 | c :: l, a => by
  simp only [List.cons_append, compG]
  cases hq : (c.1 == a.1 && c.2 == a.2) with
  | true =>
   have : a = c := by simp at hq; exact Prod.ext hq.1.symm hq.2.symm
   subst this
   simp only [cond_true]
   rw [compG_snoc b l a]
   congr 2
  | false =>
   simp only [cond_false]
   rw [compG_snoc b l c, List.getLast_cons_cons]
   rfl
theorem comp_step (t : Nat) (g : FF) : compP (prsP (t + 1) g) = if 0 < t ∧ prP g (t - 1) = prP g t then compP (prsP t g) else compP (prsP t g) ++ [prP g t] := by
 rw [prsP_succ]
 match t with
 | 0 => rfl
 | t + 1 =>
  have e : ∃ a l, prsP (t + 1) g = a :: l := by
   cases hq : prsP (t + 1) g with
   | nil => have := prsP_len (t + 1) g; rw [hq] at this; cases this
   | cons a l => exact ⟨a, l, rfl⟩
  obtain ⟨a, l, e⟩ := e
  have hl : (a :: l).getLast (List.cons_ne_nil _ _) = prP g t := by
   have h1 := prsP_succ t g
   rw [e] at h1
   simp [h1]
  rw [e]
  show a :: compG a (l ++ [_]) = _
  rw [compG_snoc, hl]
  by_cases h : prP g t = prP g (t + 1)
  ·rw [if_pos h, if_pos ⟨by omega, h⟩]; simp [compP]
  ·rw [if_neg h, if_neg (fun hh => h hh.2)]; rfl
theorem compG_len (l : List (Int × Int)) : ∀ a, (compG a l).length ≤ l.length := by
 induction l with
 | nil => intro a; exact Nat.le_refl _
 | cons b l ih =>
  intro a
  unfold compG
  cases (b.1 == a.1 && b.2 == a.2) with
  | true => exact Nat.le_succ_of_le (ih a)
  | false => exact Nat.succ_le_succ (ih b)
theorem compP_len (l : List (Int × Int)) : (compP l).length ≤ l.length := by
 cases l with
 | nil => exact Nat.le_refl _
 | cons a l => exact Nat.succ_le_succ (compG_len l a)
theorem cutN_le (n : Nat) (g : FF) : cutN n g ≤ n := by
 have := compP_len (prsP n g)
 rw [prsP_len] at this; exact this
def Ints (n : Nat) (g : FF) : Prop := ∀ i j, i < n → j < 2 → ∃ z, g i j = .i .i64 z
theorem Ints.row {n : Nat} {g : FF} (h : Ints n g) {i : Nat} (hi : i < n) : g i 0 = vi (prP g i).1 ∧ g i 1 = vi (prP g i).2 := by
 obtain ⟨a, ha⟩ := h i 0 hi (by omega)
 obtain ⟨b, hb⟩ := h i 1 hi (by omega)
 simp [prP, ha, hb, toI]
theorem pairsF_at {l : List (Int × Int)} {i : Nat} {p : Int × Int} (h : l[i]? = some p) : pairsF l i 0 = vi p.1 ∧ pairsF l i 1 = vi p.2 := by
 refine ⟨?_, ?_⟩ <;> (unfold pairsF; rw [h]; rfl)
theorem eq_rows {n : Nat} {g : FF} (h : Ints n g) {a b : Nat} (ha : a < n) (hb : b < n) : ((CV.int (g a 0) == CV.int (g b 0)) && ((CV.int (g a 1) == CV.int (g b 1)) && true)) = decide (prP g b = prP g a) := by
 rw [(h.row ha).1, (h.row ha).2, (h.row hb).1, (h.row hb).2]
 show (((prP g a).1 == (prP g b).1) && (((prP g a).2 == (prP g b).2) && true)) = _
 rw [Bool.eq_iff_iff]
 simp only [Bool.and_true, Bool.and_eq_true, beq_iff_eq, decide_eq_true_eq]
 exact ⟨fun hh => Prod.ext hh.1.symm hh.2.symm, fun hh => by rw [hh]; exact ⟨rfl, rfl⟩⟩
theorem cut_inner {ρ : Type} (fuel n k0 : Nat) (g : FF) (hn : n < 9223372036854775808) (hg : Ints n g) (hk0 : k0 < n) (K : Int → FF → Option ρ) :
  ∀ (m k k2 : Nat) (f : FF), n < m + k0 + k2 → 1 ≤ k2 → k0 + k2 ≤ n → k + 1 ≤ k0 + k2 → (compP (prsP (k0 + k2) g)).length = k →
   (∀ i j, i < k → j < 2 → f i j = pairsF (compP (prsP (k0 + k2) g)) i j) → (∀ i j, k ≤ i → f i j = g i j) →
   ∃ f', L250v2 fuel n k0 (n - k0) m (Int.ofNat k) (Int.ofNat k2) f K = K (Int.ofNat (cutN n g)) f' ∧ cutN n g + 1 ≤ n ∧ ∀ i j, i < cutN n g → j < 2 → f' i j = cutF n g i j := by
 intro m
 induction m with
 | zero => intro k k2 f h1 h2 h3 h4; omega
 | succ m ih =>
  intro k k2 f h1 h2 h3 h4 hlen hlow hhigh
  unfold L250v2
  by_cases hlt : k0 + k2 < n
  ·have e1 : w64 (Int.ofNat k2 - 1) = Int.ofNat (k2 - 1) := by rw [w64_of] <;> simp <;> omega
   rw [bif_t (by simp; omega), e1, inb_nat, inb_nat, bif_t (by simp; omega), bif_t (by simp; omega), toNat_nat, toNat_nat]
   have r1 : ∀ j, f (k0 + k2) j = g (k0 + k2) j := fun j => hhigh _ _ (by omega)
   have r2 : ∀ j, f (k0 + (k2 - 1)) j = g (k0 + (k2 - 1)) j := fun j => hhigh _ _ (by omega)
   rw [r1, r1, r2, r2, eq_rows hg hlt (by omega), w64_succ (by omega), w64_succ (by omega)]
   have hs := comp_step (k0 + k2) g
   rw [show k0 + k2 - 1 = k0 + (k2 - 1) by omega] at hs
   by_cases hd : prP g (k0 + (k2 - 1)) = prP g (k0 + k2)
   ·rw [if_pos ⟨by omega, hd⟩] at hs
    rw [bif_f (by simp [hd])]
    refine ih k (k2 + 1) f (by omega) (by omega) (by omega) (by omega) ?_ (fun i j hi hj => ?_) hhigh
    ·rw [← Nat.add_assoc, hs]; exact hlen
    ·rw [← Nat.add_assoc, hs]; exact hlow i j hi hj
   ·rw [if_neg (fun hh => hd hh.2)] at hs
    rw [bif_t (by simp [hd]), bif_t (by simp; omega), inb_nat, bif_t (by simp; omega), toNat_nat, Nat.zero_add]
    refine ih (k + 1) (k2 + 1) _ (by omega) (by omega) (by omega) (by omega) ?_ (fun i j hi hj => ?_) (fun i j hi => ?_)
    ·rw [← Nat.add_assoc, hs]; simp [hlen]
    ·rw [← Nat.add_assoc, hs, setF_at]
     by_cases hik : i = k
     ·subst hik
      rw [if_pos ⟨rfl, hj⟩, listF_2 _ _ j hj, (hg.row hlt).1, (hg.row hlt).2]
      have hp : (compP (prsP (k0 + k2) g) ++ [prP g (k0 + k2)])[i]? = some (prP g (k0 + k2)) := by rw [← hlen]; simp
      match j, hj with
      | 0, _ => rw [(pairsF_at hp).1]; rfl
      | 1, _ => rw [(pairsF_at hp).2]; rfl
     ·rw [if_neg (fun h => hik h.1), hlow i j (by omega) hj]
      unfold pairsF
      rw [List.getElem?_append_left (by omega)]
    ·rw [setF_at, if_neg (fun h => by omega)]
     exact hhigh i j (by omega)
  ·have hkn : k0 + k2 = n := by omega
   rw [bif_f (by simp; omega)]
   rw [hkn] at hlen hlow
   refine ⟨f, ?_, ?_, fun i j hi hj => ?_⟩
   ·rw [show cutN n g = k from hlen]
   ·rw [show cutN n g = k from hlen]; omega
   ·rw [show cutN n g = k from hlen] at hi
    exact hlow i j hi hj
theorem cut_outer {ρ : Type} (fuel n : Nat) (g : FF) (hf : n < fuel) (hn : n < 9223372036854775808) (hg : Ints n g) (K : Nat → FF → Option ρ) (K1 : Option ρ) :
  ∀ (m k : Nat), n < m + k → 1 ≤ k → k ≤ n → compP (prsP k g) = prsP k g →
   (∃ f', L250v3 fuel n g m (Int.ofNat k) K K1 = K (cutN n g) f' ∧ ∀ i j, i < cutN n g → j < 2 → f' i j = cutF n g i j) ∨ (L250v3 fuel n g m (Int.ofNat k) K K1 = K1 ∧ compP (prsP n g) = prsP n g) := by
 intro m
 induction m with
 | zero => intro k h1 h2 h3; omega
 | succ m ih =>
  intro k h1 h2 h3 hc
  unfold L250v3
  by_cases hlt : k < n
  ·have e1 : w64 (Int.ofNat k - 1) = Int.ofNat (k - 1) := by rw [w64_of] <;> simp <;> omega
   rw [bif_t (by simp; omega), e1, inb_nat, inb_nat, bif_t (by simp; omega), bif_t (by simp; omega), toNat_nat, toNat_nat]
   rw [show 0 + (k - 1) = k - 1 from Nat.zero_add _, show (g (0 + k) 0) = g k 0 by rw [Nat.zero_add], show (g (0 + k) 1) = g k 1 by rw [Nat.zero_add], eq_rows hg hlt (by omega)]
   have hs := comp_step k g
   by_cases hd : prP g (k - 1) = prP g k
   ·rw [if_pos ⟨by omega, hd⟩] at hs
    rw [bif_t (by simp [hd]), bif_t (inbe_true (by simp) (by simp; omega))]
    obtain ⟨f', h4, h5, h6⟩ := cut_inner fuel n k g hn hg hlt (fun x33 x34 => (bif (inbe x33 n) then (bif (Nat.blt 0 (n - (Int.toNat x33)) && Nat.ble ((0 + (Int.toNat x33)) + (n - (Int.toNat x33))) n) then (bif (inbe x33 n) then (K ((Int.toNat x33) - 0) (putF (0 + (Int.toNat x33)) (n - (Int.toNat x33)) x34 (fun _ j => listF [(.i .i64 0), (.i .i64 0)] j))) else none) else none) else none))
     fuel k 1 g (by omega) (by omega) (by omega) (by omega) (by rw [hs, hc, prsP_len]) (fun i j hi hj => by
      rw [hs, hc]
      have hp := prsP_at (g := g) hi
      match j, hj with
      | 0, _ => rw [(pairsF_at hp).1, (hg.row (by omega)).1]
      | 1, _ => rw [(pairsF_at hp).2, (hg.row (by omega)).2]) (fun i j _ => rfl)
    left
    refine ⟨putF (0 + cutN n g) (n - cutN n g) f' (fun _ j => listF [(.i .i64 0), (.i .i64 0)] j), ?_, fun i j hi hj => ?_⟩
    ·rw [show (1 : Int) = Int.ofNat 1 from rfl, show 0 + k = k from Nat.zero_add _, h4]
     rw [bif_t (inbe_true (by simp) (by simp; omega)), bif_t (by simp; omega), bif_t (inbe_true (by simp) (by simp; omega)), toNat_nat]
     rfl
    ·rw [putF_at, if_neg (by omega)]
     exact h6 i j hi hj
   ·rw [if_neg (fun hh => hd hh.2)] at hs
    rw [bif_f (by simp [hd]), w64_succ (by omega)]
    exact ih (k + 1) (by omega) (by omega) (by omega) (by rw [hs, hc, ← prsP_succ])
  ·have : k = n := by omega
   subst this
   rw [bif_f (by simp)]
   exact .inr ⟨rfl, hc⟩
theorem cut_law (fuel n : Nat) (g : FF) (hf : n < fuel) (hn : n < 9223372036854775808) (hg : Ints n g) :
  ∃ g', F250 fuel n g = some (cutN n g, g') ∧ ∀ i j, i < cutN n g → j < 2 → g' i j = cutF n g i j := by
 unfold F250 D250
 have hsame : compP (prsP n g) = prsP n g → cutN n g = n ∧ ∀ i j, i < cutN n g → j < 2 → g i j = cutF n g i j := by
  intro h
  have e : cutN n g = n := by unfold cutN; rw [h, prsP_len]
  refine ⟨e, fun i j hi hj => ?_⟩
  rw [e] at hi
  unfold cutF
  rw [h]
  have hp := prsP_at (g := g) hi
  match j, hj with
  | 0, _ => rw [(pairsF_at hp).1, (hg.row (by omega)).1]
  | 1, _ => rw [(pairsF_at hp).2, (hg.row (by omega)).2]
 have hb : Nat.beq n n = true := by simp
 by_cases h2 : n < 2
 ·have hc : compP (prsP n g) = prsP n g := by
   match n, h2 with
   | 0, _ => rfl
   | 1, _ => rfl
  obtain ⟨e, h3⟩ := hsame hc
  rw [bif_t (by simp; omega), bif_t hb]
  exact ⟨g, by rw [e], h3⟩
 ·rw [bif_f (by simp; omega)]
  rcases cut_outer fuel n g hf hn hg (fun x37 x38 => (bif (Nat.beq n n) then (some (x37, x38)) else none)) (bif (Nat.beq n n) then (some (n, g)) else none) fuel 1 (by omega) (by omega) (by omega) rfl with ⟨f', h3, h4⟩ | ⟨h3, h4⟩
  ·refine ⟨f', ?_, h4⟩
   rw [show (1 : Int) = Int.ofNat 1 from rfl, h3, bif_t hb]
  ·obtain ⟨e, h5⟩ := hsame h4
   refine ⟨g, ?_, h5⟩
   rw [show (1 : Int) = Int.ofNat 1 from rfl, h3, bif_t hb, e]
end Go.Eng.R13
