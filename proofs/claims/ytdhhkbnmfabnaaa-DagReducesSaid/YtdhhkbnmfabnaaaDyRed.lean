/-
 Reduce: what the program computes.
-/
import Derived.Test.YtdhhkbnmfabnaaaDyPath
set_option linter.all false
namespace Go.Eng.R13
open Go Go.RowKit Go.Eng
theorem toI_int (c : CV) : toI c = CV.int c := by cases c <;> rfl
theorem prP_e (g : FF) (i : Nat) : prP g i = (ea g i, eb g i) := by
 show (toI _, toI _) = _
 rw [toI_int, toI_int]
theorem mem_prs {m : Nat} {f : FF} {x : Int × Int} : x ∈ prsP m f ↔ ∃ i, i < m ∧ ea f i = x.1 ∧ eb f i = x.2 := by
 unfold prsP
 rw [List.mem_map]
 constructor
 ·rintro ⟨i, hi, rfl⟩
  exact ⟨i, by simpa using hi, by rw [prP_e], by rw [prP_e]⟩
 ·rintro ⟨i, hi, h1, h2⟩
  exact ⟨i, by simpa using hi, by rw [prP_e, h1, h2]⟩
theorem ed_iff {m : Nat} {f : FF} {a b : Nat} : Ed m f a b ↔ ((a : Int), (b : Int)) ∈ prsP m f := by
 rw [mem_prs]; rfl
theorem prs_pairs (l : List (Int × Int)) : prsP l.length (pairsF l) = l := by
 apply List.ext_getElem
 ·rw [prsP_len]
 ·intro i h1 h2
  have := prsP_at (g := pairsF l) (show i < l.length by rwa [prsP_len] at h1)
  rw [List.getElem?_eq_getElem h1] at this
  have hq : l[i]? = some l[i] := List.getElem?_eq_getElem h2
  rw [Option.some.inj this]
  show (toI _, toI _) = _
  rw [(pairsF_at hq).1, (pairsF_at hq).2]; rfl
theorem leP_lt {a b : Int × Int} (h : leP a b = true) (hne : b ≠ a) : ltP a b = true := by
 rw [leP_iff] at h
 rw [ltP_iff]
 have : ¬ (b.1 = a.1 ∧ b.2 = a.2) := fun hh => hne (Prod.ext hh.1 hh.2)
 omega
theorem ltP_trans {a b c : Int × Int} (h : ltP a b = true) (h' : ltP b c = true) : ltP a c = true := by rw [ltP_iff] at *; omega
theorem compG_sorted : ∀ (l : List (Int × Int)) (a : Int × Int), (a :: l).Pairwise (fun x y => leP x y = true) → (a :: compG a l).Pairwise (fun x y => ltP x y = true) ∧ ∀ x, x ∈ a :: compG a l ↔ x ∈ a :: l
 | [], a, _ => ⟨List.pairwise_singleton _ _, fun x => Iff.rfl⟩
 | b :: l, a, h => by
  unfold compG
  have h1 := List.pairwise_cons.1 h
  cases hq : (b.1 == a.1 && b.2 == a.2) with
  | true =>
   have e : b = a := by simp at hq; exact Prod.ext hq.1 hq.2
   subst e
   obtain ⟨k1, k2⟩ := compG_sorted l b h1.2
   refine ⟨k1, fun x => (k2 x).trans ?_⟩
   simp
  | false =>
   have e : b ≠ a := fun hh => by subst hh; simp at hq
   obtain ⟨k1, k2⟩ := compG_sorted l b h1.2
   have hab : ltP a b = true := leP_lt (h1.1 b (by simp)) e
   refine ⟨List.pairwise_cons.2 ⟨fun x hx => ?_, k1⟩, fun x => ?_⟩
   ·rcases List.mem_cons.1 hx with rfl | hx
    ·exact hab
    ·exact ltP_trans hab ((List.pairwise_cons.1 k1).1 x hx)
   ·show x ∈ a :: b :: compG b l ↔ _
    rw [List.mem_cons, k2 x, List.mem_cons (a := x) (b := a)]
theorem compP_sorted {l : List (Int × Int)} (h : l.Pairwise (fun x y => leP x y = true)) : (compP l).Pairwise (fun x y => ltP x y = true) ∧ ∀ x, x ∈ compP l ↔ x ∈ l := by
 cases l with
 | nil => exact ⟨List.Pairwise.nil, fun x => Iff.rfl⟩
 | cons a l => exact compG_sorted l a h
def dsP (n : Nat) (f : FF) : List (Int × Int) := compP (sortP (prsP n f))
theorem sort_len (n : Nat) (f : FF) : (sortP (prsP n f)).length = n := by rw [(sortP_perm _).length_eq, prsP_len]
theorem cut_sort (n : Nat) (f : FF) : cutN n (sortF n f) = (dsP n f).length ∧ cutF n (sortF n f) = pairsF (dsP n f) := by
 have : prsP n (sortF n f) = sortP (prsP n f) := by
  have := prs_pairs (sortP (prsP n f))
  rw [sort_len] at this; exact this
 unfold cutN cutF dsP
 rw [this]
 exact ⟨rfl, rfl⟩
theorem ds_sorted (n : Nat) (f : FF) : (dsP n f).Pairwise (fun x y => ltP x y = true) := (compP_sorted (sortP_sorted _)).1
theorem ds_mem {n : Nat} {f : FF} (x : Int × Int) : x ∈ dsP n f ↔ x ∈ prsP n f := by
 unfold dsP
 rw [(compP_sorted (sortP_sorted _)).2 x, (sortP_perm _).mem_iff]
theorem ds_len (n : Nat) (f : FF) : (dsP n f).length ≤ n := by
 have := compP_len (sortP (prsP n f))
 rw [sort_len] at this; exact this
def Far (m : Nat) (f : FF) (a w : Nat) : Prop := ∃ b, Ed m f a b ∧ Path m f b w
open Classical in
noncomputable def keepB (m : Nat) (f : FF) (x : Int × Int) : Bool := if Far m f x.1.toNat x.2.toNat then false else true
theorem keepB_iff {m : Nat} {f : FF} {x : Int × Int} : keepB m f x = true ↔ ¬ Far m f x.1.toNat x.2.toNat := by
 unfold keepB
 split <;> simp_all
theorem filter_split {P : Int × Int → Bool} (c : Int) : ∀ {l : List (Int × Int)}, l.Pairwise (fun x y => x.1 ≤ y.1) → l.filter (fun x => decide (x.1 < c + 1) && P x) = l.filter (fun x => decide (x.1 < c) && P x) ++ l.filter (fun x => decide (x.1 = c) && P x)
 | [], _ => rfl
 | a :: l, h => by
  have h1 := List.pairwise_cons.1 h
  have ih := filter_split (P := P) c h1.2
  rw [List.filter_cons, List.filter_cons, List.filter_cons]
  by_cases q1 : a.1 < c
  ·rw [decide_eq_true (show a.1 < c + 1 by omega), decide_eq_true q1, decide_eq_false (show ¬ a.1 = c by omega)]
   cases P a <;> simp [ih]
  ·have hnil : l.filter (fun x => decide (x.1 < c) && P x) = [] := List.filter_eq_nil_iff.2 fun x hx => by
    have := h1.1 x hx
    simp; intro hh; omega
   rw [hnil] at ih ⊢
   rw [decide_eq_false q1]
   by_cases q2 : a.1 = c
   ·rw [decide_eq_true (show a.1 < c + 1 by omega), decide_eq_true q2]
    cases P a <;> simp [ih]
   ·rw [decide_eq_false (show ¬ a.1 < c + 1 by omega), decide_eq_false q2]
    simp [ih]
section
variable {ρ : Type} {n : Int} {M : Nat} {F : FF}
theorem l242v6 (u : Nat) (K a : Nat) (ai : Int) (X R Y : FF) (o1 o2 o3 : Int) (x0 x1 : Int) (N : Nat) (hN : N ≤ 1000000) (k0 : FF → Option ρ) : ∀ (d i t : Nat) (x : Int) (A : FF), x = (i : Int) → i + d = N → d < t →
  ∃ A', (∀ w, w < N → bv A' w = (bv A w || (decide (i ≤ w) && bv R w))) ∧ L242v6 u n M F K ai N o2 o3 N R (Int.ofNat N) Y x0 x1 t x A k0 = k0 A'
 | 0, i, t + 1, x, A, hx, hi, ht => by
  refine ⟨A, fun w hw => by rw [decide_eq_false (show ¬ i ≤ w by omega)]; simp, ?_⟩
  unfold L242v6
  rw [decide_eq_false (show ¬ x < Int.ofNat N by simp only [Int.ofNat_eq_natCast]; omega), cond_false]
 | d + 1, i, t + 1, x, A, hx, hi, ht => by
  have h2 : inb x N = true := inb_true (by omega) (by omega)
  have h3 : Int.toNat x = i := by omega
  have hx1 : w64 (x + 1) = ((i + 1 : Nat) : Int) := by rw [w64_of (by omega) (by omega)]; omega
  have key : ∃ z : Bool, z = (bv A i || bv R i) ∧ L242v6 u n M F K ai N o2 o3 N R (Int.ofNat N) Y x0 x1 (t + 1) x A k0 = L242v6 u n M F K ai N o2 o3 N R (Int.ofNat N) Y x0 x1 t (w64 (x + 1)) (setF A (0 + i) 0 1 (listF [.b z])) k0 := by
   cases hA : bv A i with
   | true =>
    refine ⟨true, rfl, ?_⟩
    conv => lhs; unfold L242v6
    rw [decide_eq_true (show x < Int.ofNat N by simp only [Int.ofNat_eq_natCast]; omega), cond_true, h2, cond_true, cond_true, h3, show CV.bool (A (0 + i) 0) = true by rw [Nat.zero_add]; exact hA, show ((true : Bool) == false) = false from rfl, cond_false, cond_true]
   | false =>
    refine ⟨bv R i, by simp, ?_⟩
    conv => lhs; unfold L242v6
    rw [decide_eq_true (show x < Int.ofNat N by simp only [Int.ofNat_eq_natCast]; omega), cond_true, h2, cond_true, cond_true, h3, show CV.bool (A (0 + i) 0) = false by rw [Nat.zero_add]; exact hA, show ((false : Bool) == false) = true from rfl, cond_true, cond_true]
  obtain ⟨z, hz, e⟩ := key
  obtain ⟨A', h1, he⟩ := l242v6 u K a ai X R Y o1 o2 o3 x0 x1 N hN k0 d (i + 1) t (w64 (x + 1)) (setF A (0 + i) 0 1 (listF [.b z])) hx1 (by omega) (by omega)
  refine ⟨A', fun w hw => ?_, e.trans he⟩
  rw [h1 w hw, setB]
  by_cases q : w = i
  ·subst q
   rw [if_pos rfl, hz, decide_eq_true (Nat.le_refl w), decide_eq_false (show ¬ w + 1 ≤ w by omega)]
   simp
  ·rw [if_neg q]
   by_cases q2 : i ≤ w
   ·rw [decide_eq_true q2, decide_eq_true (show i + 1 ≤ w by omega)]
   ·rw [decide_eq_false q2, decide_eq_false (show ¬ i + 1 ≤ w by omega)]
theorem l242v7 (u : Nat) (hg : Good n M F) (hM : M ≤ 1000) (hn0 : 0 ≤ n) (hn : n ≤ 256) (hMu : M < u) (hu : 400 ≤ u) (K a : Nat) (Y : FF) (k0 : FF → Option ρ) : ∀ (d j t : Nat) (x : Int) (A : FF), x = (j : Int) → j + d = M → d < t →
  ∃ A', (∀ w, w < Int.toNat n → (bv A' w = true ↔ bv A w = true ∨ ∃ i, j ≤ i ∧ i < M ∧ ea F i = (a : Int) ∧ Path M F (eb F i).toNat w)) ∧ L242v7 u n M F K (a : Int) (Int.toNat n) (Int.ofNat M) Y t x A k0 = k0 A'
 | 0, j, t + 1, x, A, hx, hj, ht => by
  refine ⟨A, fun w hw => ⟨.inl, fun h => h.resolve_right fun ⟨i, h1, h2, _⟩ => by omega⟩, ?_⟩
  unfold L242v7
  rw [decide_eq_false (show ¬ x < Int.ofNat M by simp only [Int.ofNat_eq_natCast]; omega), cond_false]
 | d + 1, j, t + 1, x, A, hx, hj, ht => by
  obtain ⟨a1, a2, b1, b2, _⟩ := hg j (by omega)
  have h2 : inb x M = true := inb_true (by omega) (by omega)
  have h3 : Int.toNat x = j := by omega
  have hx1 : w64 (x + 1) = ((j + 1 : Nat) : Int) := by rw [w64_of (by omega) (by omega)]; omega
  have hlt : decide (x < Int.ofNat M) = true := decide_eq_true (by simp only [Int.ofNat_eq_natCast]; omega)
  by_cases q : ea F j = (a : Int)
  ·obtain ⟨R, hR, hp⟩ := reached231 u hg hM hn0 hn hMu hu (eb F j).toNat
   have hR : F231 u n M F (CV.int (F j 1)) = some (Int.toNat n, R) := by
    rw [show (((eb F j).toNat : Nat) : Int) = CV.int (F j 1) from Int.toNat_of_nonneg b1] at hR; exact hR
   obtain ⟨A1, hA1, e1⟩ := l242v6 (n := n) (M := M) (F := F) u K a (a : Int) Y R Y 0 (Int.ofNat M) x (CV.int (F j 0)) (CV.int (F j 1)) (Int.toNat n) (by omega) (fun x187 => (L242v7 u n M F K (a : Int) (Int.toNat n) (Int.ofNat M) Y t (w64 (x + 1)) x187 k0)) (Int.toNat n) 0 u 0 A rfl (by omega) (by omega)
   obtain ⟨A2, hA2, e2⟩ := l242v7 u hg hM hn0 hn hMu hu K a Y k0 d (j + 1) t (w64 (x + 1)) A1 hx1 (by omega) (by omega)
   refine ⟨A2, fun w hw => ?_, ?_⟩
   ·rw [hA2 w hw, hA1 w hw, Bool.or_eq_true, decide_eq_true (Nat.zero_le w), Bool.true_and, hp]
    constructor
    ·rintro ((h | h) | ⟨i, h1, h2, h3, h4⟩)
     ·exact .inl h
     ·exact .inr ⟨j, Nat.le_refl _, by omega, q, h⟩
     ·exact .inr ⟨i, by omega, h2, h3, h4⟩
    ·rintro (h | ⟨i, j1, j2, j3, j4⟩)
     ·exact .inl (.inl h)
     ·by_cases e : i = j
      ·subst e; exact .inl (.inr j4)
      ·exact .inr ⟨i, by omega, j2, j3, j4⟩
   ·rw [← e2, ← e1]
    conv => lhs; unfold L242v7
    rw [hlt, cond_true, h2, cond_true, h3, show (CV.int (F j 0) != (a : Int)) = false by have : CV.int (F j 0) = (a : Int) := q; simp [this], cond_false, hR, ob_some]
  ·obtain ⟨A2, hA2, e2⟩ := l242v7 u hg hM hn0 hn hMu hu K a Y k0 d (j + 1) t (w64 (x + 1)) A hx1 (by omega) (by omega)
   refine ⟨A2, fun w hw => ?_, ?_⟩
   ·rw [hA2 w hw]
    constructor
    ·rintro (h | ⟨i, h1, h2, h3, h4⟩)
     ·exact .inl h
     ·exact .inr ⟨i, by omega, h2, h3, h4⟩
    ·rintro (h | ⟨i, j1, j2, j3, j4⟩)
     ·exact .inl h
     ·by_cases e : i = j
      ·subst e; exact (q j3).elim
      ·exact .inr ⟨i, by omega, j2, j3, j4⟩
   ·rw [← e2]
    conv => lhs; unfold L242v7
    rw [hlt, cond_true, h2, cond_true, h3, show (CV.int (F j 0) != (a : Int)) = true by have : ¬ CV.int (F j 0) = (a : Int) := q; simp [this], cond_true]
theorem prs_push (k : Nat) (g : FF) (a b : Int) : prsP (k + 1) (joinF k g (rowsF 2 [(.i .i64 a), (.i .i64 b)])) = prsP k g ++ [(a, b)] := by
 rw [prsP_succ]
 congr 1
 ·unfold prsP
  refine List.map_congr_left fun i hi => ?_
  have hi : i < k := by simpa using hi
  unfold prP joinF
  rw [show Nat.blt i k = true by rw [Nat.blt_eq]; exact hi, cond_true, cond_true]
 ·have : Nat.blt k k = false := by
   cases q : Nat.blt k k with
   | false => rfl
   | true => rw [Nat.blt_eq] at q; omega
  unfold prP joinF
  rw [this, cond_false, cond_false, Nat.sub_self]; rfl
theorem prs_drop {m : Nat} {f : FF} {j : Nat} (h : j < m) : (prsP m f).drop j = (ea f j, eb f j) :: (prsP m f).drop (j + 1) := by
 have hl : j < (prsP m f).length := by rw [prsP_len]; exact h
 rw [List.drop_eq_getElem_cons hl]
 congr 1
 have := prsP_at (g := f) h
 rw [List.getElem?_eq_getElem hl] at this
 rw [Option.some.inj this, prP_e]
theorem l242v8 (u : Nat) (hg : Good n M F) (hM : M ≤ 1000) (hn : n ≤ 256) (a : Nat) (A : FF) (k0 : Nat → FF → Option ρ) : ∀ (d j t : Nat) (x : Int) (k : Nat) (out : FF), x = (j : Int) → j + d = M → d < t → k + d ≤ 1000000 →
  ∃ k' out', prsP k' out' = prsP k out ++ ((prsP M F).drop j).filter (fun x => decide (x.1 = (a : Int)) && !bv A x.2.toNat) ∧ k' ≤ k + d ∧ L242v8 u n M F (a : Int) (Int.toNat n) (Int.ofNat M) A t k x out k0 = k0 k' out'
 | 0, j, t + 1, x, k, out, hx, hj, ht, hk => by
  refine ⟨k, out, ?_, Nat.le_refl _, ?_⟩
  ·rw [List.drop_eq_nil_of_le (by rw [prsP_len]; omega)]; simp
  ·unfold L242v8
   rw [decide_eq_false (show ¬ x < Int.ofNat M by simp only [Int.ofNat_eq_natCast]; omega), cond_false]
 | d + 1, j, t + 1, x, k, out, hx, hj, ht, hk => by
  obtain ⟨a1, a2, b1, b2, _⟩ := hg j (by omega)
  have h2 : inb x M = true := inb_true (by omega) (by omega)
  have h3 : Int.toNat x = j := by omega
  have hx1 : w64 (x + 1) = ((j + 1 : Nat) : Int) := by rw [w64_of (by omega) (by omega)]; omega
  have hlt : decide (x < Int.ofNat M) = true := decide_eq_true (by simp only [Int.ofNat_eq_natCast]; omega)
  have hbb : inb (CV.int (F j 1)) (Int.toNat n) = true := inb_true b1 (show eb F j < _ by omega)
  rw [prs_drop (show j < M by omega), List.filter_cons]
  dsimp only
  by_cases q : ea F j = (a : Int)
  ·cases hA : bv A (eb F j).toNat with
   | true =>
    obtain ⟨k', out', r1, r2, r3⟩ := l242v8 u hg hM hn a A k0 d (j + 1) t (w64 (x + 1)) k out hx1 (by omega) (by omega) (by omega)
    refine ⟨k', out', by rw [r1]; simp, by omega, ?_⟩
    rw [← r3]
    conv => lhs; unfold L242v8
    rw [hlt, cond_true, h2, cond_true, h3, show ((CV.int (F j 0) == (a : Int)) == true) = true by have : CV.int (F j 0) = (a : Int) := q; simp [this], cond_true, hbb, cond_true, show CV.bool (A (0 + Int.toNat (CV.int (F j 1))) 0) = true by rw [Nat.zero_add]; exact hA, show (!true) = false from rfl, cond_false]
   | false =>
    obtain ⟨k', out', r1, r2, r3⟩ := l242v8 u hg hM hn a A k0 d (j + 1) t (w64 (x + 1)) (k + 1) (joinF k out (rowsF 2 [(.i .i64 (CV.int (F j 0))), (.i .i64 (CV.int (F j 1)))])) hx1 (by omega) (by omega) (by omega)
    refine ⟨k', out', ?_, by omega, ?_⟩
    ·rw [r1, prs_push]
     simp [q]
    ·rw [← r3]
     conv => lhs; unfold L242v8
     rw [hlt, cond_true, h2, cond_true, h3, show ((CV.int (F j 0) == (a : Int)) == true) = true by have : CV.int (F j 0) = (a : Int) := q; simp [this], cond_true, hbb, cond_true, show CV.bool (A (0 + Int.toNat (CV.int (F j 1))) 0) = false by rw [Nat.zero_add]; exact hA, show (!false) = true from rfl, cond_true,
      show Nat.ble (k + 1) 1073741824 = true by rw [Nat.ble_eq]; omega, cond_true]
  ·obtain ⟨k', out', r1, r2, r3⟩ := l242v8 u hg hM hn a A k0 d (j + 1) t (w64 (x + 1)) k out hx1 (by omega) (by omega) (by omega)
   refine ⟨k', out', by rw [r1]; simp [q], by omega, ?_⟩
   rw [← r3]
   conv => lhs; unfold L242v8
   rw [hlt, cond_true, h2, cond_true, h3, show ((CV.int (F j 0) == (a : Int)) == true) = false by have : ¬ CV.int (F j 0) = (a : Int) := q; simp [this], cond_false]
theorem l242v9 (u : Nat) (hg : Good n M F) (hM : M ≤ 1000) (hn0 : 0 ≤ n) (hn : n ≤ 256) (hMu : M < u) (hu : 400 ≤ u) (hs : (prsP M F).Pairwise (fun x y => x.1 ≤ y.1)) (k0 : Nat → FF → Option ρ) : ∀ (d i t : Nat) (x : Int) (k : Nat) (out : FF), x = (i : Int) → i + d = Int.toNat n → d < t → k ≤ i * 1000 →
  prsP k out = (prsP M F).filter (fun x => decide (x.1 < (i : Int)) && keepB M F x) →
  ∃ k' out', prsP k' out' = (prsP M F).filter (fun x => decide (x.1 < n) && keepB M F x) ∧ L242v9 u n M F t k x out k0 = k0 k' out'
 | 0, i, t + 1, x, k, out, hx, hi, ht, hk, ho => by
  refine ⟨k, out, by rw [ho, show ((i : Nat) : Int) = n by omega], ?_⟩
  unfold L242v9
  rw [decide_eq_false (show ¬ x < n by omega), cond_false]
 | d + 1, i, t + 1, x, k, out, hx, hi, ht, hk, ho => by
  have hx1 : w64 (x + 1) = ((i + 1 : Nat) : Int) := by rw [w64_of (by omega) (by omega)]; omega
  have c1 : (decide (0 ≤ n) && decide (n ≤ n) && decide (n ≤ 1073741824) && true) = true := by simp; omega
  obtain ⟨A, hA, e7⟩ := l242v7 (ρ := ρ) u hg hM hn0 hn hMu hu k i out (fun x189 => (L242v8 u n M F (i : Int) (Int.toNat n) (Int.ofNat M) x189 u k 0 out
  (fun x211 x212 => (L242v9 u n M F t x211 (w64 (x + 1)) x212 k0)))) M 0 u 0 (fun _ j => listF [(.b false)] j) rfl (by omega) (by omega)
  obtain ⟨k', out', r1, r2, e8⟩ := l242v8 (ρ := ρ) u hg hM hn i A (fun x211 x212 => (L242v9 u n M F t x211 (w64 (x + 1)) x212 k0)) M 0 u 0 k out rfl (by omega) (by omega) (by omega)
  have hrow : ((prsP M F).drop 0).filter (fun x => decide (x.1 = (i : Int)) && !bv A x.2.toNat) = (prsP M F).filter (fun x => decide (x.1 = (i : Int)) && keepB M F x) := by
   rw [List.drop_zero]
   refine List.filter_congr fun x hx => ?_
   obtain ⟨j, hj, q1, q2⟩ := mem_prs.1 hx
   obtain ⟨a1, a2, b1, b2, _⟩ := hg j hj
   by_cases q : x.1 = (i : Int)
   ·rw [decide_eq_true q, Bool.true_and, Bool.true_and]
    have hw : x.2.toNat < Int.toNat n := by rw [← q2]; omega
    have hiff : bv A x.2.toNat = true ↔ Far M F x.1.toNat x.2.toNat := by
     rw [hA _ hw]
     constructor
     ·rintro (h | ⟨i', _, h2, h3, h4⟩)
      ·cases h
      ·exact ⟨(eb F i').toNat, ⟨i', h2, by rw [h3]; omega, by have := hg i' h2; omega⟩, h4⟩
     ·rintro ⟨b, ⟨i', h2, h3, h4⟩, h5⟩
      exact .inr ⟨i', Nat.zero_le _, h2, by rw [h3]; omega, by rw [show (eb F i').toNat = b by omega]; exact h5⟩
    cases hq : bv A x.2.toNat with
    | true =>
     have : ¬ keepB M F x = true := fun h => keepB_iff.1 h (hiff.1 hq)
     simpa using this
    | false =>
     have : keepB M F x = true := keepB_iff.2 fun h => by rw [hiff.2 h] at hq; cases hq
     rw [this]; rfl
   ·rw [decide_eq_false q]; rfl
  rw [hrow, ho, ← filter_split (P := keepB M F) (i : Int) hs] at r1
  obtain ⟨k2, out2, s1, s2⟩ := l242v9 u hg hM hn0 hn hMu hu hs k0 d (i + 1) t (w64 (x + 1)) k' out' hx1 (by omega) (by omega) (by omega) (by rw [r1]; rfl)
  refine ⟨k2, out2, s1, ?_⟩
  rw [← s2, ← e8, ← e7]
  conv => lhs; unfold L242v9
  rw [decide_eq_true (show x < n by omega), cond_true, c1, cond_true, hx]
end
noncomputable def red (m : Nat) (f : FF) : List (Int × Int) := (dsP m f).filter (keepB m f)
theorem ed_ds {m : Nat} {f : FF} {a b : Nat} : Ed (dsP m f).length (pairsF (dsP m f)) a b ↔ Ed m f a b := by
 rw [ed_iff, ed_iff, prs_pairs, ds_mem]
theorem path_iff {m m' : Nat} {f f' : FF} (h : ∀ a b, Ed m f a b ↔ Ed m' f' a b) {a b : Nat} : Path m f a b ↔ Path m' f' a b :=
 ⟨Path.mono fun a b => (h a b).1, Path.mono fun a b => (h a b).2⟩
theorem far_iff {m m' : Nat} {f f' : FF} (h : ∀ a b, Ed m f a b ↔ Ed m' f' a b) {a b : Nat} : Far m f a b ↔ Far m' f' a b :=
 ⟨fun ⟨c, h1, h2⟩ => ⟨c, (h _ _).1 h1, (path_iff h).1 h2⟩, fun ⟨c, h1, h2⟩ => ⟨c, (h _ _).2 h1, (path_iff h).2 h2⟩⟩
theorem good_of {n : Int} {m m' : Nat} {f f' : FF} (hg : Good n m f) (h : ∀ x, x ∈ prsP m' f' → x ∈ prsP m f) : Good n m' f' := fun i hi => by
 obtain ⟨j, hj, h1, h2⟩ := mem_prs.1 (h (ea f' i, eb f' i) (mem_prs.2 ⟨i, hi, rfl, rfl⟩))
 have := hg j hj
 rw [h1, h2] at this
 exact this
theorem reduce242 (u : Nat) (n : Int) (m : Nat) (f : FF) (hm : m ≤ 1000) (hmu : m < u) (hu : 400 ≤ u) : ∃ k g c, F242 u n m f = some (k, g, c) ∧ ((c ≠ 0 ∧ k = 0 ∧ ¬ Acyc n m f) ∨ (c = 0 ∧ Acyc n m f ∧ prsP k g = red m f)) := by
 obtain ⟨k, g, c, e1, h1⟩ := order225 u n m f (by omega) hu hmu
 have hok := h1.ok
 by_cases hc : c = 0
 ·have hA := hok.1 hc
  obtain ⟨⟨hn0, hn⟩, hg, _⟩ := hA
  have hD : Good n (dsP m f).length (pairsF (dsP m f)) := good_of hg fun x hx => by rw [prs_pairs] at hx; exact (ds_mem x).1 hx
  have hDl := ds_len m f
  have hs : (prsP (dsP m f).length (pairsF (dsP m f))).Pairwise (fun x y => x.1 ≤ y.1) := by
   rw [prs_pairs]
   exact (ds_sorted m f).imp fun h => by rw [ltP_iff] at h; omega
  have hsort : sortT m f = some (sortF m f) := by
   unfold sortT
   have : sortable m f = true := by
    unfold sortable
    rw [Bool.and_eq_true, List.all_eq_true]
    refine ⟨by rw [Nat.ble_eq]; omega, fun x hx => ?_⟩
    obtain ⟨j, hj, q1, q2⟩ := mem_prs.1 hx
    have := hg j hj
    have hl : sortLim = 2305843009213693952 := rfl
    simp only [inB, Bool.and_eq_true, decide_eq_true_eq, hl]
    omega
   rw [this, cond_true]
  obtain ⟨k', out', r1, r2⟩ := l242v9 (ρ := Bool × Nat × FF × Int) u hD (by omega) hn0 hn (by omega) hu hs (fun x215 x216 => (some (false, x215, x216, 0))) (Int.toNat n) 0 u 0 0 (fun _ _ => .any) rfl (by omega) (by omega) (Nat.zero_le _) (by
   symm
   refine List.filter_eq_nil_iff.2 fun x hx => ?_
   obtain ⟨j, hj, q1, q2⟩ := mem_prs.1 hx
   have := hD j hj
   simp; intro h; omega)
  have hred : prsP k' out' = red m f := by
   rw [r1, prs_pairs]
   unfold red
   refine List.filter_congr fun x hx => ?_
   obtain ⟨j, hj, q1, q2⟩ := mem_prs.1 ((ds_mem x).1 hx)
   have := hg j hj
   rw [decide_eq_true (show x.1 < n by omega), Bool.true_and, Bool.eq_iff_iff, keepB_iff, keepB_iff, far_iff fun a b => ed_ds]
  refine ⟨k', out', 0, ?_, .inr ⟨rfl, hok.1 hc, hred⟩⟩
  have hF : FT242 u n m f = some (false, k', out', 0) := by
   unfold FT242 F239
   rw [e1, ob_some]
   dsimp only
   rw [show (c != 0) = false by simp [hc], cond_false, show Nat.ble m 1073741824 = true by rw [Nat.ble_eq]; omega, cond_true, hsort, ob_some, show Nat.beq m m = true from Nat.beq_refl m, cond_true]
   by_cases h0 : m = 0
   ·subst h0
    rw [show Nat.beq 0 0 = true from rfl, cond_true, show (true && Nat.ble (cutN 0 f) 0) = true by rfl, cond_true]
    exact r2
   ·rw [show Nat.beq m 0 = false by
     cases q : Nat.beq m 0 with
     | false => rfl
     | true => exact (h0 (Nat.eq_of_beq_eq_true q)).elim, cond_false, (cut_sort m f).1, (cut_sort m f).2, show (true && Nat.ble (dsP m f).length m) = true by rw [Bool.true_and, Nat.ble_eq]; exact hDl, cond_true]
    exact r2
  unfold F242
  rw [hF]; rfl
 ·refine ⟨0, (fun _ _ => .any), c, ?_, .inl ⟨hc, rfl, fun h => hc (hok.2 h)⟩⟩
  unfold F242 FT242
  rw [e1, ob_some]
  dsimp only
  rw [show (c != 0) = true by simp [hc], cond_true]; rfl
end Go.Eng.R13
