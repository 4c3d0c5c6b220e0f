/-
 What the reference's Reduce computes; DagReduces.
-/
import Derived.Test.YtdhhkbnmfabnaaaDyReach
import Derived.Test.YtdhhkbnmfabnaaaDySame
set_option linter.all false
namespace Go.Eng.R13
open Go Go.RowKit Go.Eng
theorem sorted_ext : ∀ {l l' : List (Int × Int)}, l.Pairwise (fun x y => ltP x y = true) → l'.Pairwise (fun x y => ltP x y = true) → (∀ x, x ∈ l ↔ x ∈ l') → l = l'
 | [], [], _, _, _ => rfl
 | [], y :: l', _, _, h => by have := (h y).2 (List.mem_cons_self ..); cases this
 | x :: l, [], _, _, h => by have := (h x).1 (List.mem_cons_self ..); cases this
 | x :: l, y :: l', h1, h2, h => by
  obtain ⟨a1, a2⟩ := List.pairwise_cons.1 h1
  obtain ⟨b1, b2⟩ := List.pairwise_cons.1 h2
  have nl : ∀ a b : Int × Int, ltP a b = true → ltP b a = true → False := fun a b q1 q2 => by rw [ltP_iff] at q1 q2; omega
  have nr : ∀ a : Int × Int, ltP a a = true → False := fun a q1 => nl a a q1 q1
  have e : x = y := by
   rcases List.mem_cons.1 ((h x).1 (List.mem_cons_self ..)) with q | q
   ·exact q
   ·rcases List.mem_cons.1 ((h y).2 (List.mem_cons_self ..)) with r | r
    ·exact r.symm
    ·exact (nl _ _ (a1 y r) (b1 x q)).elim
  subst e
  rw [sorted_ext a2 b2 fun z => ?_]
  have hz := h z
  rw [List.mem_cons, List.mem_cons] at hz
  constructor
  ·intro q
   rcases hz.1 (.inr q) with e | e
   ·subst e; exact (nr _ (a1 _ q)).elim
   ·exact e
  ·intro q
   rcases hz.2 (.inr q) with e | e
   ·subst e; exact (nr _ (b1 _ q)).elim
   ·exact e
section
variable {ρ : Type} {n : Int} {m : Nat} {f : FF}
theorem l298v1 (u : Nat) (hn0 : 0 ≤ n) (hn : n ≤ 256) (K : Nat) (M : FF) (k0 : (Nat → Nat) → FF → Option ρ) : ∀ (d i t : Nat) (LN : Nat → Nat) (F : FF), i + d = Int.toNat n → d < t → (∀ a, a < i → LN a = Int.toNat n ∧ ∀ k, mb F a k = false) →
  ∃ LN' F', (∀ a, a < Int.toNat n → LN' a = Int.toNat n ∧ ∀ k, mb F' a k = false) ∧ L298v1 u n m f K M (Int.toNat n) t (i : Int) LN F k0 = k0 LN' F'
 | 0, i, t + 1, LN, F, hi, ht, h => by
  refine ⟨LN, F, fun a ha => h a (by omega), ?_⟩
  unfold L298v1
  rw [decide_eq_false (by omega), cond_false]
 | d + 1, i, t + 1, LN, F, hi, ht, h => by
  have c1 : (decide (0 ≤ n) && decide (n ≤ n) && decide (n ≤ 1073741824)) = true := by simp; omega
  have h1 : decide ((i : Int) < n) = true := decide_eq_true (by omega)
  have h2 : inb (i : Int) (Int.toNat n) = true := inb_true (by omega) (by omega)
  have h4 : Nat.blt i (Int.toNat n) = true := by rw [Nat.blt_eq]; omega
  have hx1 : w64 ((i : Int) + 1) = ((i + 1 : Nat) : Int) := by rw [w64_of (by omega) (by omega)]; omega
  obtain ⟨LN', F', r1, r2⟩ := l298v1 u hn0 hn K M k0 d (i + 1) t (updN LN i (Int.toNat n)) (updM F i (fun _ j => listF [(.b false)] j)) (by omega) (by omega) (fun a ha => by
   by_cases e : a = i
   ·subst e
    exact ⟨updN_same .., fun k => by unfold mb; rw [updM_same]; rfl⟩
   ·obtain ⟨q1, q2⟩ := h a (by omega)
    exact ⟨by rw [updN_ne e]; exact q1, fun k => by unfold mb; rw [updM_ne e]; exact q2 k⟩)
  refine ⟨LN', F', r1, ?_⟩
  rw [← r2]
  conv => lhs; unfold L298v1
  simp only [h1, h2, c1, Int.toNat_natCast, Nat.beq_refl, h4, Bool.and_true, cond_true, hx1]
abbrev mt (M : FF) (a k : Nat) : Bool := CV.bool (CV.el (M a 0) k 0)
theorem l298v3 (u : Nat) (hn : n ≤ 256) (M : FF) (y1 : Int) (V W : Nat) (LN : Nat → Nat) (NX : FF) (hV : V < Int.toNat n) (hW : W < Int.toNat n) (hLV : LN V = Int.toNat n) (hM : CV.len (M W 0) = Int.toNat n) (k0 : FF → Option ρ) :
  ∀ (d i t : Nat) (F : FF), i + d = Int.toNat n → d < t →
  ∃ F', (∀ a, a ≠ V → ∀ k, F' a k = F a k) ∧ (∀ k, mb F' V k = (mb F V k || (decide (i ≤ k ∧ k < Int.toNat n) && mt M W k))) ∧ L298v3 u n m f (Int.toNat n) M (Int.toNat n) y1 (V : Int) (W : Int) LN NX t (i : Int) F k0 = k0 F'
 | 0, i, t + 1, F, hi, ht => by
  refine ⟨F, fun _ _ _ => rfl, fun k => ?_, ?_⟩
  ·rw [decide_eq_false (by omega)]; simp
  ·unfold L298v3
   rw [decide_eq_false (by omega), cond_false]
 | d + 1, i, t + 1, F, hi, ht => by
  have h1 : decide ((i : Int) < n) = true := decide_eq_true (by omega)
  have h2 : inb (V : Int) (Int.toNat n) = true := inb_true (by omega) (by omega)
  have h3 : inb (W : Int) (Int.toNat n) = true := inb_true (by omega) (by omega)
  have h4 : inb (i : Int) (Int.toNat n) = true := inb_true (by omega) (by omega)
  have h5 : Nat.blt V (Int.toNat n) = true := by rw [Nat.blt_eq]; exact hV
  have hx1 : w64 ((i : Int) + 1) = ((i + 1 : Nat) : Int) := by rw [w64_of (by omega) (by omega)]; omega
  have step : ∀ F2 : FF, (∀ a, a ≠ V → ∀ k, F2 a k = F a k) → (∀ k, mb F2 V k = if k = i then (mb F V i || mt M W i) else mb F V k) → L298v3 u n m f (Int.toNat n) M (Int.toNat n) y1 (V : Int) (W : Int) LN NX (t + 1) (i : Int) F k0 = L298v3 u n m f (Int.toNat n) M (Int.toNat n) y1 (V : Int) (W : Int) LN NX t ((i + 1 : Nat) : Int) F2 k0 →
    ∃ F', (∀ a, a ≠ V → ∀ k, F' a k = F a k) ∧ (∀ k, mb F' V k = (mb F V k || (decide (i ≤ k ∧ k < Int.toNat n) && mt M W k))) ∧ L298v3 u n m f (Int.toNat n) M (Int.toNat n) y1 (V : Int) (W : Int) LN NX (t + 1) (i : Int) F k0 = k0 F' := by
   intro F2 q1 q2 q3
   obtain ⟨F', r1, r2, r3⟩ := l298v3 u hn M y1 V W LN NX hV hW hLV hM k0 d (i + 1) t F2 (by omega) (by omega)
   refine ⟨F', fun a ha k => (r1 a ha k).trans (q1 a ha k), fun k => ?_, q3.trans r3⟩
   rw [r2, q2]
   by_cases e : k = i
   ·subst e
    rw [if_pos rfl, decide_eq_false (by omega), decide_eq_true (by omega)]; simp
   ·rw [if_neg e]
    congr 2
    rw [decide_eq_decide]; omega
  cases hq : mb F V i with
  | false =>
   refine step (setM F V i (.b (CV.bool (CV.el (M W 0) i 0)))) (fun a ha k => setM_ne ha k) (fun k => ?_) ?_
   ·rw [setM_mb, hq]
    by_cases e : k = i <;> simp [e]
   ·conv => lhs; unfold L298v3
    simp only [h1, h2, h3, Int.toNat_natCast, h5, hLV, hM, h4, Bool.and_true, cond_true, hx1, show CV.bool (F V i) = false from hq, show (false == false) = true from rfl]
  | true =>
   refine step (setM F V i (.b true)) (fun a ha k => setM_ne ha k) (fun k => ?_) ?_
   ·rw [setM_mb, hq]
    by_cases e : k = i <;> simp [e]
   ·conv => lhs; unfold L298v3
    simp only [h1, h2, h3, Int.toNat_natCast, h5, hLV, hM, h4, Bool.and_true, cond_true, hx1, show CV.bool (F V i) = true from hq, show (true == false) = false from rfl, cond_false]
theorem l298v4 (u : Nat) (hg : Good n m f) (hm : m ≤ 1000000) (hn : n ≤ 256) (hu : 400 ≤ u) (M : FF) (LN : Nat → Nat) (hL : ∀ a, a < Int.toNat n → LN a = Int.toNat n) (hM : ∀ a, a < Int.toNat n → CV.len (M a 0) = Int.toNat n) (k0 : FF → FF → Option ρ) :
  ∀ (d i t : Nat) (NX LG : FF), i + d = m → d < t →
  ∃ NX' LG', (∀ a k, a < Int.toNat n → k < Int.toNat n → mb NX' a k = (mb NX a k || (List.range' i d).any fun j => decide (ea f j = (a : Int)) && decide (eb f j = (k : Int)))) ∧
   (∀ a k, a < Int.toNat n → k < Int.toNat n → mb LG' a k = (mb LG a k || (List.range' i d).any fun j => decide (ea f j = (a : Int)) && mt M (eb f j).toNat k)) ∧
   L298v4 u n m f (Int.toNat n) M (Int.toNat n) LN t (i : Int) NX LG k0 = k0 NX' LG'
 | 0, i, t + 1, NX, LG, hi, ht => by
  refine ⟨NX, LG, fun a k _ _ => by simp, fun a k _ _ => by simp, ?_⟩
  unfold L298v4
  rw [decide_eq_false (by simp only [Int.ofNat_eq_natCast]; omega), cond_false]
 | d + 1, i, t + 1, NX, LG, hi, ht => by
  obtain ⟨a1, a2, b1, b2, _⟩ := hg i (by omega)
  have h1 : decide ((i : Int) < Int.ofNat m) = true := decide_eq_true (by simp only [Int.ofNat_eq_natCast]; omega)
  have h2 : inb (i : Int) m = true := inb_true (by omega) (by omega)
  have hx1 : w64 ((i : Int) + 1) = ((i + 1 : Nat) : Int) := by rw [w64_of (by omega) (by omega)]; omega
  obtain ⟨V, hV⟩ : ∃ V : Nat, ea f i = (V : Int) := ⟨(ea f i).toNat, by omega⟩
  obtain ⟨W, hW⟩ : ∃ W : Nat, eb f i = (W : Int) := ⟨(eb f i).toNat, by omega⟩
  have h3 : inb (V : Int) (Int.toNat n) = true := inb_true (by omega) (by omega)
  have h4 : inb (W : Int) (Int.toNat n) = true := inb_true (by omega) (by omega)
  have h5 : Nat.blt V (Int.toNat n) = true := by rw [Nat.blt_eq]; omega
  have hLV := hL V (by omega)
  obtain ⟨F1, p1, p2, p3⟩ := l298v3 (ρ := ρ) (m := m) (f := f) u hn M (i : Int) V W LN (setM NX V W (.b true)) (by omega) (by omega) hLV (hM W (by omega)) (fun x96 => (L298v4 u n m f (Int.toNat n) M (Int.toNat n) LN t ((i + 1 : Nat) : Int) (setM NX V W (.b true)) x96 k0)) (Int.toNat n) 0 u LG (by omega) (by omega)
  obtain ⟨NX', LG', r1, r2, r3⟩ := l298v4 u hg hm hn hu M LN hL hM k0 d (i + 1) t (setM NX V W (.b true)) F1 (by omega) (by omega)
  refine ⟨NX', LG', fun a k ha hk => ?_, fun a k ha hk => ?_, ?_⟩
  ·rw [r1 a k ha hk, List.range'_succ, List.any_cons, hV, hW, setM_mb]
   by_cases e1 : a = V
   ·by_cases e2 : k = W
    ·subst e1 e2; simp
    ·rw [if_neg (fun h => e2 h.2), decide_eq_false (show ¬ (W : Int) = (k : Int) by omega)]; simp
   ·rw [if_neg (fun h => e1 h.1), decide_eq_false (show ¬ (V : Int) = (a : Int) by omega)]; simp
  ·rw [r2 a k ha hk, List.range'_succ, List.any_cons, hV, hW, Int.toNat_natCast]
   by_cases e1 : a = V
   ·subst e1
    rw [p2, decide_eq_true (show 0 ≤ k ∧ k < Int.toNat n by omega), decide_eq_true rfl]; simp [Bool.or_assoc]
   ·rw [show mb F1 a k = mb LG a k from congrArg CV.bool (p1 a e1 k), decide_eq_false (show ¬ (V : Int) = (a : Int) by omega)]; simp
  ·rw [← r3, ← p3]
   conv => lhs; unfold L298v4
   rw [h1, cond_true, h2, cond_true]
   rw [show CV.int (f (Int.toNat (i : Int)) 0) = (V : Int) from hV, show CV.int (f (Int.toNat (i : Int)) 1) = (W : Int) from hW]
   simp only [Int.toNat_natCast, h3, h5, hLV, h4, Bool.and_true, cond_true, hx1]
   rfl
def SO (N : Nat) (NX LG : FF) (i j : Nat) (l : List (Int × Int)) : Prop := l.Pairwise (fun x y => ltP x y = true) ∧
 ∀ x, x ∈ l ↔ ∃ a b : Nat, x = ((a : Int), (b : Int)) ∧ b < N ∧ (a < i ∨ (a = i ∧ b < j)) ∧ mb NX a b = true ∧ mb LG a b = false
theorem l298v6 (u : Nat) (hn : n ≤ 256) (A : Nat) (LN : Nat → Nat) (NX LG : FF) (hA : A < Int.toNat n) (hL : LN A = Int.toNat n) (k0 : Nat → FF → Option ρ) :
  ∀ (d j t k : Nat) (out : FF), j + d = Int.toNat n → d < t → k + d ≤ 1000000 → SO (Int.toNat n) NX LG A j (prsP k out) →
  ∃ k' out', SO (Int.toNat n) NX LG A (Int.toNat n) (prsP k' out') ∧ k' ≤ k + d ∧ L298v6 u n (Int.toNat n) (A : Int) LN NX LG t k (j : Int) out k0 = k0 k' out'
 | 0, j, t + 1, k, out, hj, ht, hk, hS => by
  refine ⟨k, out, by rw [show Int.toNat n = j by omega] at hS ⊢; exact hS, Nat.le_refl _, ?_⟩
  unfold L298v6
  rw [decide_eq_false (by omega), cond_false]
 | d + 1, j, t + 1, k, out, hj, ht, hk, hS => by
  have h1 : decide ((j : Int) < n) = true := decide_eq_true (by omega)
  have h2 : inb (A : Int) (Int.toNat n) = true := inb_true (by omega) (by omega)
  have h3 : inb (j : Int) (Int.toNat n) = true := inb_true (by omega) (by omega)
  have h5 : Nat.blt A (Int.toNat n) = true := by rw [Nat.blt_eq]; exact hA
  have hx1 : w64 ((j : Int) + 1) = ((j + 1 : Nat) : Int) := by rw [w64_of (by omega) (by omega)]; omega
  have hno : (mb NX A j = true ∧ mb LG A j = false → False) → SO (Int.toNat n) NX LG A (j + 1) (prsP k out) := fun hno => ⟨hS.1, fun x => (hS.2 x).trans ⟨fun ⟨a, b, q1, q2, q3, q4⟩ => ⟨a, b, q1, q2, by omega, q4⟩, fun ⟨a, b, q1, q2, q3, q4⟩ => by
   by_cases e : a = A ∧ b = j
   ·obtain ⟨rfl, rfl⟩ := e
    exact (hno q4).elim
   ·exact ⟨a, b, q1, q2, by omega, q4⟩⟩⟩
  cases hq : mb NX A j with
  | false =>
   obtain ⟨k', out', r1, r2, r3⟩ := l298v6 u hn A LN NX LG hA hL k0 d (j + 1) t k out (by omega) (by omega) (by omega) (hno fun h => by rw [hq] at h; cases h.1)
   refine ⟨k', out', r1, by omega, ?_⟩
   rw [← r3]
   conv => lhs; unfold L298v6
   simp only [h1, h2, h3, Int.toNat_natCast, h5, hL, Bool.and_true, cond_true, hx1, show CV.bool (NX A j) = false from hq, show (false == true) = false from rfl, cond_false]
  | true =>
   cases hq2 : mb LG A j with
   | true =>
    obtain ⟨k', out', r1, r2, r3⟩ := l298v6 u hn A LN NX LG hA hL k0 d (j + 1) t k out (by omega) (by omega) (by omega) (hno fun h => by rw [hq2] at h; cases h.2)
    refine ⟨k', out', r1, by omega, ?_⟩
    rw [← r3]
    conv => lhs; unfold L298v6
    simp only [h1, h2, h3, Int.toNat_natCast, h5, hL, Bool.and_true, cond_true, hx1, show CV.bool (NX A j) = true from hq, show CV.bool (LG A j) = true from hq2, show (true == true) = true from rfl, Bool.not_true, cond_false]
   | false =>
    obtain ⟨k', out', r1, r2, r3⟩ := l298v6 u hn A LN NX LG hA hL k0 d (j + 1) t (k + 1) (joinF k out (rowsF 2 [(.i .i64 (A : Int)), (.i .i64 (j : Int))])) (by omega) (by omega) (by omega) (by
     rw [prs_push]
     refine ⟨List.pairwise_append.2 ⟨hS.1, List.pairwise_singleton _ _, fun x hx y hy => ?_⟩, fun x => ?_⟩
     ·rw [List.mem_singleton] at hy
      subst hy
      obtain ⟨a, b, rfl, q2, q3, q4⟩ := (hS.2 x).1 hx
      rw [ltP_iff]; dsimp only; omega
     ·rw [List.mem_append, List.mem_singleton, hS.2 x]
      constructor
      ·rintro (⟨a, b, q1, q2, q3, q4⟩ | rfl)
       ·exact ⟨a, b, q1, q2, by omega, q4⟩
       ·exact ⟨A, j, rfl, by omega, by omega, hq, hq2⟩
      ·rintro ⟨a, b, q1, q2, q3, q4⟩
       by_cases e : a = A ∧ b = j
       ·obtain ⟨rfl, rfl⟩ := e
        exact .inr q1
       ·exact .inl ⟨a, b, q1, q2, by omega, q4⟩)
    refine ⟨k', out', r1, by omega, ?_⟩
    rw [← r3]
    conv => lhs; unfold L298v6
    simp only [h1, h2, h3, Int.toNat_natCast, h5, hL, Bool.and_true, cond_true, hx1, show CV.bool (NX A j) = true from hq, show CV.bool (LG A j) = false from hq2, show (true == true) = true from rfl, Bool.not_false, show Nat.ble (k + 1) 1073741824 = true by rw [Nat.ble_eq]; omega]
theorem l298v7 (u : Nat) (hn : n ≤ 256) (hu : 400 ≤ u) (LN : Nat → Nat) (NX LG : FF) (hL : ∀ a, a < Int.toNat n → LN a = Int.toNat n) (k0 : Nat → FF → Option ρ) :
  ∀ (d i t k : Nat) (out : FF), i + d = Int.toNat n → d < t → k ≤ i * 1000 → SO (Int.toNat n) NX LG i 0 (prsP k out) →
  ∃ k' out', SO (Int.toNat n) NX LG (Int.toNat n) 0 (prsP k' out') ∧ L298v7 u n (Int.toNat n) LN NX LG t k (i : Int) out k0 = k0 k' out'
 | 0, i, t + 1, k, out, hi, ht, hk, hS => by
  refine ⟨k, out, by rw [show Int.toNat n = i by omega] at hS ⊢; exact hS, ?_⟩
  unfold L298v7
  rw [decide_eq_false (by omega), cond_false]
 | d + 1, i, t + 1, k, out, hi, ht, hk, hS => by
  have hx1 : w64 ((i : Int) + 1) = ((i + 1 : Nat) : Int) := by rw [w64_of (by omega) (by omega)]; omega
  obtain ⟨k1, out1, p1, p2, p3⟩ := l298v6 (ρ := ρ) u hn i LN NX LG (by omega) (hL i (by omega)) (fun x150 x151 => (L298v7 u n (Int.toNat n) LN NX LG t x150 ((i + 1 : Nat) : Int) x151 k0)) (Int.toNat n) 0 u k out (by omega) (by omega) (by omega) hS
  obtain ⟨k', out', r1, r2⟩ := l298v7 u hn hu LN NX LG hL k0 d (i + 1) t k1 out1 (by omega) (by omega) (by omega) ⟨p1.1, fun x => (p1.2 x).trans ⟨fun ⟨a, b, q1, q2, q3, q4⟩ => ⟨a, b, q1, q2, by omega, q4⟩, fun ⟨a, b, q1, q2, q3, q4⟩ => ⟨a, b, q1, q2, by omega, q4⟩⟩⟩
  refine ⟨k', out', r1, ?_⟩
  rw [← r2, ← p3]
  conv => lhs; unfold L298v7
  rw [decide_eq_true (show (i : Int) < n by omega), cond_true, hx1]
  rfl
theorem mem_red {x : Int × Int} (hg : Good n m f) : x ∈ red m f ↔ ∃ a b : Nat, x = ((a : Int), (b : Int)) ∧ Ed m f a b ∧ ¬ Far m f a b := by
 unfold red
 rw [List.mem_filter, ds_mem, keepB_iff]
 constructor
 ·rintro ⟨h1, h2⟩
  obtain ⟨i, hi, q1, q2⟩ := mem_prs.1 h1
  have := hg i hi
  refine ⟨x.1.toNat, x.2.toNat, Prod.ext (by dsimp only; omega) (by dsimp only; omega), ⟨i, hi, by omega, by omega⟩, h2⟩
 ·rintro ⟨a, b, rfl, ⟨i, hi, q1, q2⟩, h2⟩
  exact ⟨mem_prs.2 ⟨i, hi, q1, q2⟩, by simpa using h2⟩
theorem reduce298 (u : Nat) (n : Int) (m : Nat) (f : FF) (hm : m ≤ 1000) (hmu : m < u) (hu : 400 ≤ u) : ∃ k g c k0 g0, F298 u n m f = some (k, g, c) ∧ OrdR n m f k0 g0 c ∧ ((c ≠ 0 ∧ k = 0) ∨ (c = 0 ∧ prsP k g = red m f)) := by
 obtain ⟨k, g, c, e1, h1⟩ := order229 u n m f (by omega) hu hmu
 have hok := h1.ok
 by_cases hc : c = 0
 ·subst hc
  have hA := hok.1 rfl
  have ⟨⟨hn0, hn⟩, hg, _⟩ := hA
  obtain ⟨LT, FT, hF, hLT, hP⟩ := reach295 u (by omega) hu hmu h1 hA
  obtain ⟨NX, LG, a1, a2, a3⟩ : ∃ NX LG : FF, (∀ a b, a < Int.toNat n → b < Int.toNat n → (mb NX a b = true ↔ Ed m f a b)) ∧ (∀ a b, a < Int.toNat n → b < Int.toNat n → (mb LG a b = true ↔ Far m f a b)) ∧
    ∃ LN : Nat → Nat, (∀ a, a < Int.toNat n → LN a = Int.toNat n) ∧ FT298 u n m f = L298v7 u n (Int.toNat n) LN NX LG u 0 0 (fun _ _ => .any) (fun x154 x155 => (some (false, x154, x155, 0))) := by
   obtain ⟨LN, F, b1, b2⟩ := l298v1 (ρ := Bool × Nat × FF × Int) (m := m) (f := f) u hn0 hn (Int.toNat n) (matF .bool LT FT) (fun x25 x26 => (L298v4 u n m f (Int.toNat n) (matF .bool LT FT) (Int.toNat n) x25 u 0 x26 x26
    (fun x99 x100 => (L298v7 u n (Int.toNat n) x25 x99 x100 u 0 0 (fun _ _ => .any)
    (fun x154 x155 => (some (false, x154, x155, 0))))))) (Int.toNat n) 0 u (fun _ => 0) (fun _ _ => .any) (by omega) (by omega) (fun a ha => by omega)
   obtain ⟨NX, LG, c1, c2, c3⟩ := l298v4 (ρ := Bool × Nat × FF × Int) u hg (by omega) hn hu (matF .bool LT FT) LN (fun a ha => (b1 a ha).1) (fun a ha => hLT a ha) (fun x99 x100 => (L298v7 u n (Int.toNat n) LN x99 x100 u 0 0 (fun _ _ => .any)
    (fun x154 x155 => (some (false, x154, x155, 0))))) m 0 u F F (by omega) hmu
   refine ⟨NX, LG, fun a b ha hb => ?_, fun a b ha hb => ?_, LN, fun a ha => (b1 a ha).1, ?_⟩
   ·rw [c1 a b ha hb, (b1 a ha).2, Bool.false_or, List.any_eq_true]
    constructor
    ·rintro ⟨j, hj, h⟩
     rw [List.mem_range'_1] at hj
     rw [Bool.and_eq_true, decide_eq_true_eq, decide_eq_true_eq] at h
     exact ⟨j, by omega, h.1, h.2⟩
    ·rintro ⟨j, hj, q1, q2⟩
     exact ⟨j, by rw [List.mem_range'_1]; omega, by rw [decide_eq_true q1, decide_eq_true q2]; rfl⟩
   ·rw [c2 a b ha hb, (b1 a ha).2, Bool.false_or, List.any_eq_true]
    constructor
    ·rintro ⟨j, hj, h⟩
     rw [List.mem_range'_1] at hj
     rw [Bool.and_eq_true, decide_eq_true_eq] at h
     have := hg j (by omega)
     exact ⟨(eb f j).toNat, ⟨j, by omega, h.1, by omega⟩, (hP _ b (by omega) hb).1 h.2⟩
    ·rintro ⟨w, ⟨j, hj, q1, q2⟩, hp⟩
     have := hg j hj
     refine ⟨j, by rw [List.mem_range'_1]; omega, ?_⟩
     rw [decide_eq_true q1, Bool.true_and, q2, Int.toNat_natCast]
     exact (hP w b (by omega) hb).2 hp
   ·unfold FT298
    rw [e1, ob_some]
    dsimp only
    rw [show ((0 : Int) != 0) = false from rfl, cond_false, hF, ob_some]
    dsimp only
    rw [show (decide (0 ≤ n) && decide (n = n) && decide (n ≤ 1073741824)) = true by simp; omega, cond_true, cond_true]
    exact b2.trans c3
  obtain ⟨LN, hL, hFT⟩ := a3
  obtain ⟨k', out', r1, r2⟩ := l298v7 (ρ := Bool × Nat × FF × Int) u hn hu LN NX LG hL (fun x154 x155 => (some (false, x154, x155, 0))) (Int.toNat n) 0 u 0 (fun _ _ => .any) (by omega) (by omega) (Nat.zero_le _) ⟨List.Pairwise.nil, fun x => ⟨fun h => (by cases h), fun ⟨a, b, _, _, h, _⟩ => by omega⟩⟩
  refine ⟨k', out', 0, k, g, ?_, h1, .inr ⟨rfl, ?_⟩⟩
  ·unfold F298
   rw [hFT, show (L298v7 u n (Int.toNat n) LN NX LG u 0 0 (fun _ _ => .any) (fun x154 x155 => (some (false, x154, x155, (0 : Int))))) = some (false, k', out', 0) from r2]
   rfl
  ·refine sorted_ext r1.1 ((ds_sorted m f).sublist (List.filter_sublist ..)) fun x => ?_
   rw [r1.2 x, mem_red hg]
   constructor
   ·rintro ⟨a, b, q1, q2, q3, q4, q5⟩
    have ha : a < Int.toNat n := by omega
    exact ⟨a, b, q1, (a1 a b ha q2).1 q4, fun h => by rw [(a2 a b ha q2).2 h] at q5; cases q5⟩
   ·rintro ⟨a, b, q1, q2, q3⟩
    obtain ⟨j, hj, w1, w2⟩ := id q2
    have := hg j hj
    have ha : a < Int.toNat n := by omega
    have hb : b < Int.toNat n := by omega
    refine ⟨a, b, q1, hb, by omega, (a1 a b ha hb).2 q2, ?_⟩
    cases hq : mb LG a b with
    | false => rfl
    | true => exact (q3 ((a2 a b ha hb).1 hq)).elim
 ·refine ⟨0, (fun _ _ => .any), c, k, g, ?_, h1, .inl ⟨hc, rfl⟩⟩
  unfold F298 FT298
  rw [e1, ob_some]
  dsimp only
  rw [show (c != 0) = true by simp [hc], cond_true]; rfl
theorem code242 (u : Nat) (n : Int) (m : Nat) (f : FF) (hm : m ≤ 1000) (hmu : m < u) (hu : 400 ≤ u) {k : Nat} {g : FF} {c : Int} (h : F242 u n m f = some (k, g, c)) (hc : c ≠ 0) : ∃ k0 g0, OrdR n m f k0 g0 c := by
 obtain ⟨k0, g0, c0, e1, h1⟩ := order225 u n m f (by omega) hu hmu
 have hok := h1.ok
 by_cases hc0 : c0 = 0
 ·obtain ⟨k2, g2, c2, e2, h2⟩ := reduce242 u n m f hm hmu hu
  rw [e2] at h
  cases h
  rcases h2 with ⟨_, _, h2⟩ | ⟨h2, _⟩
  ·exact (h2 (hok.1 hc0)).elim
  ·exact (hc h2).elim
 ·unfold F242 FT242 at h
  rw [e1, ob_some] at h
  dsimp only at h
  rw [show (c0 != 0) = true by simp [hc0], cond_true] at h
  cases h
  exact ⟨k0, g0, h1⟩
end
theorem reduces10 (n : Int) (_ : I64 n) (m : Nat) (f : FF) (_ : SlIn (.pr (.int .i64) (.pr (.int .i64) .nil)) m f) : F299 400 n m f = some true := by
 unfold F299 F223
 rw [ob_some]
 by_cases hm : (Int.ofNat m) > 300
 ·rw [decide_eq_true hm, cond_true, awake_law]; rfl
 ·have hm' : m ≤ 300 := by simp only [Int.ofNat_eq_natCast] at hm; omega
  rw [decide_eq_false hm, cond_false]
  obtain ⟨k1, g1, c1, e1, h1⟩ := reduce242 400 n m f (by omega) (by omega) (by omega)
  obtain ⟨k2, g2, c2, k0, g0, e2, ho, h2⟩ := reduce298 400 n m f (by omega) (by omega) (by omega)
  have hok := ho.ok
  have ⟨hcc, hk, hpp⟩ : c1 = c2 ∧ k1 ≤ 300 ∧ prsP k1 g1 = prsP k2 g2 := by
   rcases h1 with ⟨a1, a2, a3⟩ | ⟨a1, a2, a3⟩
   ·obtain ⟨k3, g3, ho3⟩ := code242 400 n m f (by omega) (by omega) (by omega) e1 a1
    obtain ⟨_, hcc, _⟩ := ho3.same ho
    subst hcc
    rcases h2 with ⟨b1, b2⟩ | ⟨b1, _⟩
    ·subst a2 b2; exact ⟨rfl, by omega, rfl⟩
    ·exact (a1 b1).elim
   ·have hc2 := hok.2 a2
    rcases h2 with ⟨b1, _⟩ | ⟨b1, b2⟩
    ·exact (b1 hc2).elim
    ·refine ⟨by rw [a1, hc2], ?_, by rw [a3, b2]⟩
     have := congrArg List.length a3
     rw [prsP_len] at this
     have h3 : (red m f).length ≤ (dsP m f).length := List.length_filter_le _ _
     have := ds_len m f
     omega
  subst hcc
  rw [e1, ob_some, e2, ob_some]
  dsimp only
  rw [edges240 (by omega) (by omega) hpp, ob_some, show ((true : Bool) == true) = true from rfl, cond_true, show ((c1 == c1) == true) = true by simp, cond_true, awake_law]
  rfl
end Go.Eng.R13
