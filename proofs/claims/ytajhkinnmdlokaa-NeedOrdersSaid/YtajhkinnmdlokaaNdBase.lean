/-
 need: lists of strings, blocks, what comes before what, the precedence of the reference.
-/
import Derived.Test.YtajhkinnmdlokaaDyRef
set_option linter.all false
namespace Go.Eng.R13
open Go Go.RowKit Go.Eng
theorem tl_eq (a b : ByteArray) : (ByteArray.toList a == ByteArray.toList b) = decide (a = b) := by
 by_cases h : a = b
 ·subst h; simp
 ·rw [decide_eq_false h]
  have : ¬ ByteArray.toList a = ByteArray.toList b := fun hh => h (by
   rw [ByteArray.toList_eq, ByteArray.toList_eq] at hh
   exact ByteArray.ext (Array.ext' hh))
  simpa using this
abbrev sv (g : FF) (i : Nat) : ByteArray := CV.str (g i 0)
def strs (k : Nat) (g : FF) : List ByteArray := (List.range k).map (sv g)
def prs (k : Nat) (g : FF) : List (Int × Int) := (List.range k).map fun i => (ea g i, eb g i)
theorem prs_len (k : Nat) (g : FF) : (prs k g).length = k := by simp [prs]
theorem prs_at {k i : Nat} {g : FF} (h : i < k) : (prs k g)[i]? = some (ea g i, eb g i) := by
 unfold prs; rw [List.getElem?_map, List.getElem?_range h]; rfl
theorem joinF_lt {k : Nat} {f g : FF} {i : Nat} (h : i < k) : joinF k f g i = f i := by
 funext j; unfold joinF; rw [show Nat.blt i k = true by rw [Nat.blt_eq]; exact h]; rfl
theorem joinF_at (k : Nat) (f g : FF) : joinF k f g k = g 0 := by
 funext j; unfold joinF
 have : Nat.blt k k = false := by
  cases h : Nat.blt k k with
  | false => rfl
  | true => rw [Nat.blt_eq] at h; omega
 rw [this, Nat.sub_self]; rfl
theorem strs_join (k : Nat) (g : FF) (s : ByteArray) : strs (k + 1) (joinF k g (rowsF 1 [.s s])) = strs k g ++ [s] := by
 unfold strs sv
 rw [List.range_succ, List.map_append]
 congr 1
 ·exact List.map_congr_left fun i hi => by rw [joinF_lt (List.mem_range.1 hi)]
 ·simp [joinF_at, rowsF, listF, CV.str]
theorem prs_join (k : Nat) (g : FF) (a b : Int) : prs (k + 1) (joinF k g (rowsF 2 [.i .i64 a, .i .i64 b])) = prs k g ++ [(a, b)] := by
 unfold prs
 rw [List.range_succ, List.map_append]
 congr 1
 ·exact List.map_congr_left fun i hi => by simp only [ea, eb, joinF_lt (List.mem_range.1 hi)]
 ·simp [ea, eb, joinF_at, rowsF, listF, CV.int]
section
variable {ρ : Type}
def isBl (f : FF) (i : Nat) : Bool := decide (CV.int (f i 1) = 1)
def bls (n : Nat) (f : FF) : List ByteArray := ((List.range n).filter (isBl f)).map (sv f)
theorem int_beq (a b : Int) : (a == b) = decide (a = b) := by
 by_cases h : a = b <;> simp [h]
theorem l252 (u : Nat) (s : ByteArray) (n : Nat) (f : FF) (a1 : Nat) (f1 : FF) (a2 : Nat) (f2 : FF) (a3 : Nat) (f3 : FF) (a4 : Nat) (f4 : FF) (hn : n ≤ 1000000) (k0 : Nat → FF → Option ρ) : ∀ (d i t : Nat) (x : Int) (k : Nat) (g : FF), x = (i : Int) → i + d = n → d < t → k ≤ i →
  ∃ k' g', k' ≤ n ∧ strs k' g' = strs k g ++ ((List.range' i d).filter (isBl f)).map (sv f) ∧ L252v1 u s n f a1 f1 a2 f2 a3 f3 a4 f4 t k x g k0 = k0 k' g'
 | 0, i, t + 1, x, k, g, hx, hi, ht, hk => by
  refine ⟨k, g, by omega, by simp, ?_⟩
  unfold L252v1
  rw [show decide (x < Int.ofNat n) = false from decide_eq_false (by simp only [Int.ofNat_eq_natCast]; omega), cond_false]
 | d + 1, i, t + 1, x, k, g, hx, hi, ht, hk => by
  have h1 : decide (x < Int.ofNat n) = true := decide_eq_true (by simp only [Int.ofNat_eq_natCast]; omega)
  have h2 : inb x n = true := inb_true (by omega) (by omega)
  have h3 : Int.toNat x = i := by omega
  have hx1 : w64 (x + 1) = ((i + 1 : Nat) : Int) := by rw [w64_of (by omega) (by omega)]; omega
  cases q : isBl f i with
  | true =>
   obtain ⟨k', g', b1, b2, b3⟩ := l252 u s n f a1 f1 a2 f2 a3 f3 a4 f4 hn k0 d (i + 1) t (w64 (x + 1)) (k + 1) (joinF k g (rowsF 1 [.s (CV.str (f i 0))])) hx1 (by omega) (by omega) (by omega)
   refine ⟨k', g', b1, ?_, ?_⟩
   ·rw [b2, strs_join, List.range'_succ, List.filter_cons_of_pos q]; simp
   ·unfold L252v1
    have h4 : Nat.ble (k + 1) 1073741824 = true := by simp; omega
    have h5 : (CV.int (f i 1) == 1) = true := by rw [int_beq]; exact q
    rw [h1, cond_true, h2, cond_true, cond_true, h3, h5, cond_true, h4, cond_true]
    exact b3
  | false =>
   obtain ⟨k', g', b1, b2, b3⟩ := l252 u s n f a1 f1 a2 f2 a3 f3 a4 f4 hn k0 d (i + 1) t (w64 (x + 1)) k g hx1 (by omega) (by omega) (by omega)
   refine ⟨k', g', b1, ?_, ?_⟩
   ·rw [b2, List.range'_succ, List.filter_cons_of_neg (by rw [q]; exact Bool.false_ne_true)]
   ·unfold L252v1
    have h5 : (CV.int (f i 1) == 1) = false := by rw [int_beq]; exact q
    rw [h1, cond_true, h2, cond_true, cond_true, h3, h5, cond_false]
    exact b3
theorem l251 (u : Nat) (s : ByteArray) (n : Nat) (f : FF) (a1 : Nat) (f1 : FF) (a2 : Nat) (f2 : FF) (a3 : Nat) (f3 : FF) (a4 : Nat) (f4 : FF) (k0 : Nat → FF → Option ρ) : ∀ (t : Nat) (x : Int) (k : Nat) (g : FF),
  L251v1 u n f (Int.ofNat n) s a1 f1 a2 f2 a3 f3 a4 f4 t k x g k0 = L252v1 u s n f a1 f1 a2 f2 a3 f3 a4 f4 t k x g k0
 | 0, x, k, g => rfl
 | t + 1, x, k, g => by
  unfold L251v1 L252v1
  cases decide (x < Int.ofNat n) with
  | false => rfl
  | true =>
   cases inb x n with
   | false => rfl
   | true =>
    simp only [cond_true, l251 u s n f a1 f1 a2 f2 a3 f3 a4 f4 k0 t]
theorem blocks251 (u : Nat) (s : ByteArray) (n : Nat) (f : FF) (a1 : Nat) (f1 : FF) (a2 : Nat) (f2 : FF) (a3 : Nat) (f3 : FF) (a4 : Nat) (f4 : FF) : F251 u s n f a1 f1 a2 f2 a3 f3 a4 f4 = F252 u s n f a1 f1 a2 f2 a3 f3 a4 f4 := by
 unfold F251 F252
 exact l251 ..
theorem blocks252 (u : Nat) (s : ByteArray) (n : Nat) (f : FF) (a1 : Nat) (f1 : FF) (a2 : Nat) (f2 : FF) (a3 : Nat) (f3 : FF) (a4 : Nat) (f4 : FF) (hn : n ≤ 1000000) (hu : n < u) :
  ∃ k g, F252 u s n f a1 f1 a2 f2 a3 f3 a4 f4 = some (k, g) ∧ k ≤ n ∧ strs k g = bls n f := by
 obtain ⟨k, g, b1, b2, b3⟩ := l252 u s n f a1 f1 a2 f2 a3 f3 a4 f4 hn (fun x39 x40 => (some (x39, x40))) n 0 u 0 0 (fun _ _ => .any) rfl (by omega) hu (Nat.le_refl _)
 refine ⟨k, g, by unfold F252; exact b3, b1, ?_⟩
 rw [b2]; simp [strs, bls, List.range_eq_range']
def cmR (f : FF) (a b : ByteArray) (r : Nat) : Bool := (decide (CV.int (f r 0) = 1) && (decide (CV.str (f r 1) = b) && decide (CV.str (f r 2) = a))) || (decide (CV.int (f r 0) = 2) && (decide (CV.str (f r 1) = a) && decide (CV.str (f r 2) = b)))
theorem l253 (u : Nat) (a b s : ByteArray) (a1 : Nat) (f1 : FF) (a2 : Nat) (f2 : FF) (a3 : Nat) (f3 : FF) (a4 : Nat) (f4 : FF) (m : Nat) (f : FF) (hm : m ≤ 1000000) (k0 : Int → ByteArray → ByteArray → Option ρ) (r0 k1 : Option ρ) (hk0 : ∀ x y z, k0 x y z = r0) :
  ∀ (d i t : Nat) (x : Int), x = (i : Int) → i + d = m → d < t → L253v1 u a b s a1 f1 a2 f2 a3 f3 a4 f4 m f t x k0 k1 = bif (List.range' i d).any (cmR f a b) then r0 else k1
 | 0, i, t + 1, x, hx, hi, ht => by
  unfold L253v1
  rw [show decide (x < Int.ofNat m) = false from decide_eq_false (by simp only [Int.ofNat_eq_natCast]; omega), cond_false]; rfl
 | d + 1, i, t + 1, x, hx, hi, ht => by
  have h1 : decide (x < Int.ofNat m) = true := decide_eq_true (by simp only [Int.ofNat_eq_natCast]; omega)
  have h2 : inb x m = true := inb_true (by omega) (by omega)
  have h3 : Int.toNat x = i := by omega
  have hx1 : w64 (x + 1) = ((i + 1 : Nat) : Int) := by rw [w64_of (by omega) (by omega)]; omega
  have ih := l253 u a b s a1 f1 a2 f2 a3 f3 a4 f4 m f hm k0 r0 k1 hk0 d (i + 1) t (w64 (x + 1)) hx1 (by omega) (by omega)
  unfold L253v1
  rw [h1, cond_true, h2, cond_true, h3, ih, List.range'_succ, List.any_cons]
  simp only [hk0, tl_eq, int_beq]
  have e : cmR f a b i = ((decide (CV.int (f i 0) = 1) && (decide (CV.str (f i 1) = b) && decide (CV.str (f i 2) = a))) || (decide (CV.int (f i 0) = 2) && (decide (CV.str (f i 1) = a) && decide (CV.str (f i 2) = b)))) := rfl
  rw [e]
  cases decide (CV.int (f i 0) = 1) <;> cases decide (CV.str (f i 1) = b) <;> cases decide (CV.str (f i 2) = a) <;> cases decide (CV.int (f i 0) = 2) <;> cases decide (CV.str (f i 1) = a) <;> cases decide (CV.str (f i 2) = b) <;> rfl
def comes (m : Nat) (f : FF) (a b : ByteArray) : Bool := (List.range m).any (cmR f a b)
theorem comes253 (u : Nat) (s : ByteArray) (a1 : Nat) (f1 : FF) (a2 : Nat) (f2 : FF) (a3 : Nat) (f3 : FF) (a4 : Nat) (f4 : FF) (m : Nat) (f : FF) (a b : ByteArray) (hm : m ≤ 1000000) (hu : m < u) : F253 u s a1 f1 a2 f2 a3 f3 a4 f4 m f a b = some (comes m f a b) := by
 unfold F253
 rw [l253 u a b s a1 f1 a2 f2 a3 f3 a4 f4 m f hm _ (some true) _ (fun _ _ _ => rfl) m 0 u 0 rfl (by omega) hu, ← List.range_eq_range']
 unfold comes
 cases (List.range m).any (cmR f a b) <;> rfl
def prec (m : Nat) (f : FF) (B : Nat → ByteArray) (i k : Nat) : Bool := decide (i ≠ k) && comes m f (B i) (B k)
def edgesRow (m : Nat) (f : FF) (B : Nat → ByteArray) (i : Nat) (l : List Nat) : List (Int × Int) := (l.filter (prec m f B i)).map fun (k : Nat) => ((i : Int), (k : Int))
def edgesL (m : Nat) (f : FF) (B : Nat → ByteArray) (nb : Nat) (l : List Nat) : List (Int × Int) := (l.map fun i => edgesRow m f B i (List.range nb)).flatten
theorem l254v2 (u : Nat) (nb : Nat) (bg : FF) (s : ByteArray) (a1 : Nat) (f1 : FF) (a2 : Nat) (f2 : FF) (a3 : Nat) (f3 : FF) (a4 : Nat) (f4 : FF) (m : Nat) (f : FF) (hm : m ≤ 1000000) (hu : m < u) (hnb : nb ≤ 1000) (i : Nat) (hi : i < nb) (k0 : Nat → FF → Option ρ) :
  ∀ (d j t : Nat) (x : Int) (k : Nat) (g : FF), x = (j : Int) → j + d = nb → d < t → k ≤ i * nb + j →
  ∃ k' g', k' ≤ i * nb + nb ∧ prs k' g' = prs k g ++ edgesRow m f (sv bg) i (List.range' j d) ∧ L254v2 u nb bg (i : Int) s a1 f1 a2 f2 a3 f3 a4 f4 m f t k x g k0 = k0 k' g'
 | 0, j, t + 1, x, k, g, hx, hj, ht, hk => by
  refine ⟨k, g, by omega, by simp [edgesRow], ?_⟩
  unfold L254v2
  rw [show decide (x < Int.ofNat nb) = false from decide_eq_false (by simp only [Int.ofNat_eq_natCast]; omega), cond_false]
 | d + 1, j, t + 1, x, k, g, hx, hj, ht, hk => by
  have h1 : decide (x < Int.ofNat nb) = true := decide_eq_true (by simp only [Int.ofNat_eq_natCast]; omega)
  have h2 : inb x nb = true := inb_true (by omega) (by omega)
  have h2' : inb (i : Int) nb = true := inb_true (by omega) (by omega)
  have h3 : Int.toNat x = j := by omega
  have h3' : Int.toNat (i : Int) = i := by omega
  have hx1 : w64 (x + 1) = ((j + 1 : Nat) : Int) := by rw [w64_of (by omega) (by omega)]; omega
  have hmul : i * nb + nb ≤ 1000000 := by
   have : (i + 1) * nb ≤ 1000 * 1000 := Nat.mul_le_mul (by omega) hnb
   rw [Nat.add_mul, Nat.one_mul] at this; omega
  have h4 : Nat.ble (k + 1) 1073741824 = true := by simp; omega
  have hne : (((i : Int) != x) == true) = decide (i ≠ j) := by
   by_cases h : i = j
   ·have : (i : Int) = x := by omega
    simp [h, this]; omega
   ·have : ¬ (i : Int) = x := by omega
    simp [h, this]
  cases q : prec m f (sv bg) i j with
  | true =>
   obtain ⟨k', g', b1, b2, b3⟩ := l254v2 u nb bg s a1 f1 a2 f2 a3 f3 a4 f4 m f hm hu hnb i hi k0 d (j + 1) t (w64 (x + 1)) (k + 1) (joinF k g (rowsF 2 [.i .i64 (i : Int), .i .i64 x])) hx1 (by omega) (by omega) (by omega)
   refine ⟨k', g', b1, ?_, ?_⟩
   ·rw [b2, prs_join, List.range'_succ]
    unfold edgesRow
    rw [List.filter_cons_of_pos q, hx]; simp
   ·unfold prec at q
    rw [Bool.and_eq_true] at q
    unfold L254v2
    rw [h1, cond_true, hne, q.1, cond_true, h2', cond_true, h2, cond_true, h3, h3', comes253 u s a1 f1 a2 f2 a3 f3 a4 f4 m f _ _ hm hu, ob_some, q.2, cond_true, h4, cond_true]
    exact b3
  | false =>
   obtain ⟨k', g', b1, b2, b3⟩ := l254v2 u nb bg s a1 f1 a2 f2 a3 f3 a4 f4 m f hm hu hnb i hi k0 d (j + 1) t (w64 (x + 1)) k g hx1 (by omega) (by omega) (by omega)
   refine ⟨k', g', b1, ?_, ?_⟩
   ·rw [b2, List.range'_succ]
    unfold edgesRow
    rw [List.filter_cons_of_neg (by rw [q]; exact Bool.false_ne_true)]
   ·unfold prec at q
    unfold L254v2
    rw [h1, cond_true, hne]
    cases q1 : decide (i ≠ j) with
    | false => rw [cond_false]; exact b3
    | true =>
     rw [q1, Bool.true_and] at q
     rw [cond_true, h2', cond_true, h2, cond_true, h3, h3', comes253 u s a1 f1 a2 f2 a3 f3 a4 f4 m f _ _ hm hu, ob_some, q, cond_false]
     exact b3
theorem l254v3 (u : Nat) (nb : Nat) (bg : FF) (s : ByteArray) (a1 : Nat) (f1 : FF) (a2 : Nat) (f2 : FF) (a3 : Nat) (f3 : FF) (a4 : Nat) (f4 : FF) (m : Nat) (f : FF) (hm : m ≤ 1000000) (hu : m < u) (hnb : nb ≤ 1000) (hub : nb < u) (k0 : Nat → FF → Option ρ) :
  ∀ (d i t : Nat) (x : Int) (k : Nat) (g : FF), x = (i : Int) → i + d = nb → d < t → k ≤ i * nb →
  ∃ k' g', k' ≤ nb * nb ∧ prs k' g' = prs k g ++ edgesL m f (sv bg) nb (List.range' i d) ∧ L254v3 u nb bg s a1 f1 a2 f2 a3 f3 a4 f4 m f t k x g k0 = k0 k' g'
 | 0, i, t + 1, x, k, g, hx, hi, ht, hk => by
  have : i = nb := by omega
  subst this
  refine ⟨k, g, hk, by simp [edgesL], ?_⟩
  unfold L254v3
  rw [show decide (x < Int.ofNat i) = false from decide_eq_false (by simp only [Int.ofNat_eq_natCast]; omega), cond_false]
 | d + 1, i, t + 1, x, k, g, hx, hi, ht, hk => by
  have h1 : decide (x < Int.ofNat nb) = true := decide_eq_true (by simp only [Int.ofNat_eq_natCast]; omega)
  have hx1 : w64 (x + 1) = ((i + 1 : Nat) : Int) := by rw [w64_of (by omega) (by omega)]; omega
  obtain ⟨k1, g1, c1, c2, c3⟩ := l254v2 u nb bg s a1 f1 a2 f2 a3 f3 a4 f4 m f hm hu hnb i (by omega) (fun x128 x129 => (L254v3 u nb bg s a1 f1 a2 f2 a3 f3 a4 f4 m f t x128 (w64 (x + 1)) x129 k0)) nb 0 u 0 k g rfl (by omega) hub (by omega)
  have hk1 : k1 ≤ (i + 1) * nb := by rw [Nat.add_mul, Nat.one_mul]; exact c1
  obtain ⟨k', g', b1, b2, b3⟩ := l254v3 u nb bg s a1 f1 a2 f2 a3 f3 a4 f4 m f hm hu hnb hub k0 d (i + 1) t (w64 (x + 1)) k1 g1 hx1 (by omega) (by omega) hk1
  refine ⟨k', g', b1, ?_, ?_⟩
  ·rw [b2, c2, List.range'_succ]
   unfold edgesL
   rw [List.map_cons, List.flatten_cons, List.append_assoc, List.range_eq_range']
  ·unfold L254v3
   rw [h1, cond_true, hx]
   rw [hx] at c3
   exact c3.trans (by rw [← hx]; exact b3)
theorem edges254 (u : Nat) (s : ByteArray) (a1 : Nat) (f1 : FF) (a2 : Nat) (f2 : FF) (a3 : Nat) (f3 : FF) (a4 : Nat) (f4 : FF) (m : Nat) (f : FF) (hm : m ≤ 1000000) (hu : m < u) (ha : a1 ≤ 1000) (hua : a1 < u) :
  ∃ nb bg k g, F252 u s a1 f1 a2 f2 a3 f3 a4 f4 m f = some (nb, bg) ∧ strs nb bg = bls a1 f1 ∧ nb ≤ a1 ∧ F254 u s a1 f1 a2 f2 a3 f3 a4 f4 m f = some (k, g) ∧ k ≤ nb * nb ∧ prs k g = edgesL m f (sv bg) nb (List.range nb) := by
 obtain ⟨nb, bg, e1, e2, e3⟩ := blocks252 u s a1 f1 a2 f2 a3 f3 a4 f4 m f (by omega) hua
 obtain ⟨k, g, b1, b2, b3⟩ := l254v3 u nb bg s a1 f1 a2 f2 a3 f3 a4 f4 m f hm hu (by omega) (by omega) (fun x132 x133 => (some (x132, x133))) nb 0 u 0 0 (fun _ _ => .any) rfl (by omega) (by omega) (by omega)
 refine ⟨nb, bg, k, g, e1, e3, e2, ?_, b1, ?_⟩
 ·unfold F254
  rw [e1, ob_some]
  exact b3
 ·rw [b2, List.range_eq_range']; simp [prs]
end
end Go.Eng.R13
