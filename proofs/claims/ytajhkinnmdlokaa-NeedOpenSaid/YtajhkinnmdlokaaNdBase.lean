/-
 need: lists of strings, blocks, what comes before what, the precedence of the reference.
-/
import Derived.Test.YtajhkinnmdlokaaDyRef
set_option linter.all false
namespace Go.Eng.R13
open Go Go.RowKit Go.Eng
theorem tl_eq (a b : ByteArray) : (ByteArray.toList a == ByteArray.toList b) = decide (a = b) := by
 by_cases h : a = b
 ·subst h; simp
 ·rw [decide_eq_false h]
  have : ¬ ByteArray.toList a = ByteArray.toList b := fun hh => h (by
   rw [ByteArray.toList_eq, ByteArray.toList_eq] at hh
   exact ByteArray.ext (Array.ext' hh))
  simpa using this
abbrev sv (g : FF) (i : Nat) : ByteArray := CV.str (g i 0)
def strs (k : Nat) (g : FF) : List ByteArray := (List.range k).map (sv g)
theorem joinF_lt {k : Nat} {f g : FF} {i : Nat} (h : i < k) : joinF k f g i = f i := by
 funext j; unfold joinF; rw [show Nat.blt i k = true by rw [Nat.blt_eq]; exact h]; rfl
theorem joinF_at (k : Nat) (f g : FF) : joinF k f g k = g 0 := by
 funext j; unfold joinF
 have : Nat.blt k k = false := by
  cases h : Nat.blt k k with
  | false => rfl
  | true => rw [Nat.blt_eq] at h; omega
 rw [this, Nat.sub_self]; rfl
theorem strs_join (k : Nat) (g : FF) (s : ByteArray) : strs (k + 1) (joinF k g (rowsF 1 [.s s])) = strs k g ++ [s] := by
 unfold strs sv
 rw [List.range_succ, List.map_append]
 congr 1
 ·exact List.map_congr_left fun i hi => by rw [joinF_lt (List.mem_range.1 hi)]
 ·simp [joinF_at, rowsF, listF, CV.str]
section
variable {ρ : Type}
def isBl (f : FF) (i : Nat) : Bool := decide (CV.int (f i 1) = 1)
def bls (n : Nat) (f : FF) : List ByteArray := ((List.range n).filter (isBl f)).map (sv f)
theorem int_beq (a b : Int) : (a == b) = decide (a = b) := by
 by_cases h : a = b <;> simp [h]
theorem l252 (u : Nat) (s : ByteArray) (n : Nat) (f : FF) (a1 : Nat) (f1 : FF) (a2 : Nat) (f2 : FF) (a3 : Nat) (f3 : FF) (a4 : Nat) (f4 : FF) (hn : n ≤ 1000000) (k0 : Nat → FF → Option ρ) : ∀ (d i t : Nat) (x : Int) (k : Nat) (g : FF), x = (i : Int) → i + d = n → d < t → k ≤ i →
  ∃ k' g', k' ≤ n ∧ strs k' g' = strs k g ++ ((List.range' i d).filter (isBl f)).map (sv f) ∧ L252v1 u s n f a1 f1 a2 f2 a3 f3 a4 f4 t k x g k0 = k0 k' g'
 | 0, i, t + 1, x, k, g, hx, hi, ht, hk => by
  refine ⟨k, g, by omega, by simp, ?_⟩
  unfold L252v1
  rw [show decide (x < Int.ofNat n) = false from decide_eq_false (by simp only [Int.ofNat_eq_natCast]; omega), cond_false]
 | d + 1, i, t + 1, x, k, g, hx, hi, ht, hk => by
  have h1 : decide (x < Int.ofNat n) = true := decide_eq_true (by simp only [Int.ofNat_eq_natCast]; omega)
  have h2 : inb x n = true := inb_true (by omega) (by omega)
  have h3 : Int.toNat x = i := by omega
  have hx1 : w64 (x + 1) = ((i + 1 : Nat) : Int) := by rw [w64_of (by omega) (by omega)]; omega
  cases q : isBl f i with
  | true =>
   obtain ⟨k', g', b1, b2, b3⟩ := l252 u s n f a1 f1 a2 f2 a3 f3 a4 f4 hn k0 d (i + 1) t (w64 (x + 1)) (k + 1) (joinF k g (rowsF 1 [.s (CV.str (f i 0))])) hx1 (by omega) (by omega) (by omega)
   refine ⟨k', g', b1, ?_, ?_⟩
   ·rw [b2, strs_join, List.range'_succ, List.filter_cons_of_pos q]; simp
   ·unfold L252v1
    have h4 : Nat.ble (k + 1) 1073741824 = true := by simp; omega
    have h5 : (CV.int (f i 1) == 1) = true := by rw [int_beq]; exact q
    rw [h1, cond_true, h2, cond_true, cond_true, h3, h5, cond_true, h4, cond_true]
    exact b3
  | false =>
   obtain ⟨k', g', b1, b2, b3⟩ := l252 u s n f a1 f1 a2 f2 a3 f3 a4 f4 hn k0 d (i + 1) t (w64 (x + 1)) k g hx1 (by omega) (by omega) (by omega)
   refine ⟨k', g', b1, ?_, ?_⟩
   ·rw [b2, List.range'_succ, List.filter_cons_of_neg (by rw [q]; exact Bool.false_ne_true)]
   ·unfold L252v1
    have h5 : (CV.int (f i 1) == 1) = false := by rw [int_beq]; exact q
    rw [h1, cond_true, h2, cond_true, cond_true, h3, h5, cond_false]
    exact b3
theorem l251 (u : Nat) (s : ByteArray) (n : Nat) (f : FF) (a1 : Nat) (f1 : FF) (a2 : Nat) (f2 : FF) (a3 : Nat) (f3 : FF) (a4 : Nat) (f4 : FF) (k0 : Nat → FF → Option ρ) : ∀ (t : Nat) (x : Int) (k : Nat) (g : FF),
  L251v1 u n f (Int.ofNat n) s a1 f1 a2 f2 a3 f3 a4 f4 t k x g k0 = L252v1 u s n f a1 f1 a2 f2 a3 f3 a4 f4 t k x g k0
 | 0, x, k, g => rfl
 | t + 1, x, k, g => by
  unfold L251v1 L252v1
  cases decide (x < Int.ofNat n) with
  | false => rfl
  | true =>
   cases inb x n with
   | false => rfl
   | true =>
    simp only [cond_true, l251 u s n f a1 f1 a2 f2 a3 f3 a4 f4 k0 t]
theorem blocks251 (u : Nat) (s : ByteArray) (n : Nat) (f : FF) (a1 : Nat) (f1 : FF) (a2 : Nat) (f2 : FF) (a3 : Nat) (f3 : FF) (a4 : Nat) (f4 : FF) : F251 u s n f a1 f1 a2 f2 a3 f3 a4 f4 = F252 u s n f a1 f1 a2 f2 a3 f3 a4 f4 := by
 unfold F251 F252
 exact l251 ..
theorem blocks252 (u : Nat) (s : ByteArray) (n : Nat) (f : FF) (a1 : Nat) (f1 : FF) (a2 : Nat) (f2 : FF) (a3 : Nat) (f3 : FF) (a4 : Nat) (f4 : FF) (hn : n ≤ 1000000) (hu : n < u) :
  ∃ k g, F252 u s n f a1 f1 a2 f2 a3 f3 a4 f4 = some (k, g) ∧ k ≤ n ∧ strs k g = bls n f := by
 obtain ⟨k, g, b1, b2, b3⟩ := l252 u s n f a1 f1 a2 f2 a3 f3 a4 f4 hn (fun x39 x40 => (some (x39, x40))) n 0 u 0 0 (fun _ _ => .any) rfl (by omega) hu (Nat.le_refl _)
 refine ⟨k, g, by unfold F252; exact b3, b1, ?_⟩
 rw [b2]; simp [strs, bls, List.range_eq_range']
theorem l256 (u : Nat) (k : Nat) (g : FF) (s : ByteArray) (hk : k ≤ 1000000) : ∀ (d i t : Nat) (x : Int), x = (i : Int) → i + d = k → d < t →
  ∃ z, L256v1 u k g s (Int.ofNat k) t x (fun x => some x) (some (-1)) = some z ∧ (decide (z ≥ 0) = (List.range' i d).any fun j => decide (sv g j = s))
 | 0, i, t + 1, x, hx, hi, ht => by
  refine ⟨-1, ?_, rfl⟩
  unfold L256v1
  rw [show decide (x < Int.ofNat k) = false from decide_eq_false (by simp only [Int.ofNat_eq_natCast]; omega), cond_false]
 | d + 1, i, t + 1, x, hx, hi, ht => by
  have h1 : decide (x < Int.ofNat k) = true := decide_eq_true (by simp only [Int.ofNat_eq_natCast]; omega)
  have h2 : inb x k = true := inb_true (by omega) (by omega)
  have h3 : Int.toNat x = i := by omega
  have hx1 : w64 (x + 1) = ((i + 1 : Nat) : Int) := by rw [w64_of (by omega) (by omega)]; omega
  have h4 : (ByteArray.toList s == ByteArray.toList (CV.str (g i 0))) = decide (sv g i = s) := by rw [tl_eq]; exact decide_eq_decide.2 eq_comm
  unfold L256v1
  rw [h1, cond_true, h2, cond_true, h3, h4, List.range'_succ, List.any_cons]
  cases q : decide (sv g i = s) with
  | true => exact ⟨x, rfl, by rw [decide_eq_true (show x ≥ 0 by omega)]; rfl⟩
  | false =>
   obtain ⟨z, e1, e2⟩ := l256 u k g s hk d (i + 1) t (w64 (x + 1)) hx1 (by omega) (by omega)
   exact ⟨z, e1, by rw [e2]; rfl⟩
def hasB (s : ByteArray) (l : List ByteArray) : Bool := l.any fun x => decide (x = s)
theorem any_mem (k : Nat) (g : FF) (s : ByteArray) : ((List.range' 0 k).any fun j => decide (sv g j = s)) = hasB s (strs k g) := by
 unfold hasB strs
 rw [List.any_map, List.range_eq_range']; rfl
theorem has257 (u : Nat) (k : Nat) (g : FF) (s : ByteArray) (hk : k ≤ 1000000) (hu : k < u) : F257 u k g s = some (hasB s (strs k g)) := by
 obtain ⟨z, e1, e2⟩ := l256 u k g s hk k 0 u 0 rfl (by omega) hu
 unfold F257 F256
 rw [e1, ob_some, e2, any_mem]
theorem l264 (u : Nat) (k : Nat) (g : FF) (s : ByteArray) (hk : k ≤ 1000000) (k0 k1 : Option ρ) : ∀ (d i t : Nat) (x : Int), x = (i : Int) → i + d = k → d < t →
  L264v1 u k g s t x k0 k1 = bif (List.range' i d).any fun j => decide (sv g j = s) then k0 else k1
 | 0, i, t + 1, x, hx, hi, ht => by
  unfold L264v1
  rw [show decide (x < Int.ofNat k) = false from decide_eq_false (by simp only [Int.ofNat_eq_natCast]; omega), cond_false]; rfl
 | d + 1, i, t + 1, x, hx, hi, ht => by
  have h1 : decide (x < Int.ofNat k) = true := decide_eq_true (by simp only [Int.ofNat_eq_natCast]; omega)
  have h2 : inb x k = true := inb_true (by omega) (by omega)
  have h3 : Int.toNat x = i := by omega
  have hx1 : w64 (x + 1) = ((i + 1 : Nat) : Int) := by rw [w64_of (by omega) (by omega)]; omega
  unfold L264v1
  rw [h1, cond_true, h2, cond_true, h3, tl_eq, List.range'_succ, List.any_cons]
  cases q : decide (sv g i = s) with
  | true => rfl
  | false => rw [cond_false, Bool.false_or]; exact l264 u k g s hk k0 k1 d (i + 1) t _ hx1 (by omega) (by omega)
theorem has264 (u : Nat) (k : Nat) (g : FF) (s : ByteArray) (hk : k ≤ 1000000) (hu : k < u) : F264 u k g s = some (hasB s (strs k g)) := by
 unfold F264
 rw [l264 u k g s hk _ _ k 0 u 0 rfl (by omega) hu, any_mem]
 cases hasB s (strs k g) <;> rfl
def cmR (f : FF) (a b : ByteArray) (r : Nat) : Bool := (decide (CV.int (f r 0) = 1) && (decide (CV.str (f r 1) = b) && decide (CV.str (f r 2) = a))) || (decide (CV.int (f r 0) = 2) && (decide (CV.str (f r 1) = a) && decide (CV.str (f r 2) = b)))
def comes (m : Nat) (f : FF) (a b : ByteArray) : Bool := (List.range m).any (cmR f a b)
def prec (m : Nat) (f : FF) (B : Nat → ByteArray) (i k : Nat) : Bool := decide (i ≠ k) && comes m f (B i) (B k)
def edgesRow (m : Nat) (f : FF) (B : Nat → ByteArray) (i : Nat) (l : List Nat) : List (Int × Int) := (l.filter (prec m f B i)).map fun (k : Nat) => ((i : Int), (k : Int))
def edgesL (m : Nat) (f : FF) (B : Nat → ByteArray) (nb : Nat) (l : List Nat) : List (Int × Int) := (l.map fun i => edgesRow m f B i (List.range nb)).flatten
end
end Go.Eng.R13
