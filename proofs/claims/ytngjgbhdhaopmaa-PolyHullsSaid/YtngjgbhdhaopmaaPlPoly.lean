/-
 Checking,areas and places of polygons: the program's and the reference's.
-/
import Derived.Test.YtngjgbhdhaopmaaPlLeaf
set_option linter.all false
namespace Go.Eng.R13
open Go Go.RowKit Go.Eng Geo
def AllNr (n : Nat) (f : Nat → Nat → CV) : Prop := ∀ i,i < n → nr (CV.int (f i 0)) (CV.int (f i 1))
theorem ofNat_ne0 {n : Nat} (h : 0 < n) : (Int.ofNat n == 0) = false:=by simp;omega
theorem far73 (n : Nat) (f : Nat → Nat → CV) (hn : n ≤ 60) : ∀ (m i : Nat),n < m + i → i ≤ n →
  ∃ z,L73v1 100 n f (Int.ofNat n) m (Int.ofNat i) (fun x => some x) (some (-1)) = some z ∧ (z < 0 ↔ ∀ j,i ≤ j → j < n → nr (CV.int (f j 0)) (CV.int (f j 1))):=by
 intro m
 induction m with
 | zero => intro i h1 h2;omega
 | succ m ih =>
  intro i h1 h2
  unfold L73v1
  rw [lt_nat,inb_nat,toNat_nat]
  by_cases h : i < n
  ·obtain ⟨b,hb1,hb2⟩ := far61 (CV.int (f i 0)) (CV.int (f i 1))
   rw [bif_t (by simpa using h),bif_t (by simpa using h),w64_succ (by omega),hb1,ob_some]
   cases b with
   | true =>
    rw [bif_t rfl]
    refine ⟨_,rfl,fun hh => ?_,fun hh => ?_⟩
    ·have := Int.natCast_nonneg i
     simp at hh;omega
    ·have := hb2.2 (hh i (Nat.le_refl i) h);cases this
   | false =>
    rw [bif_f rfl]
    obtain ⟨z,h3,h4⟩ := ih (i + 1) (by omega) (by omega)
    refine ⟨z,h3,h4.trans ⟨fun hh j a b => ?_,fun hh j a b => hh j (by omega) b⟩⟩
    by_cases e : j = i
    ·rw [e];exact hb2.1 rfl
    ·exact hh j (by omega) b
  ·rw [bif_f (by simpa using h)]
   exact ⟨-1,rfl,fun _ j a b => by omega,fun _ => by decide⟩
theorem far50 (n : Nat) (f : Nat → Nat → CV) (hn : n ≤ 60) : ∃ b,F50 100 n f = some b ∧ (b = false ↔ AllNr n f):=by
 unfold F50 F73
 obtain ⟨z,h1,h2⟩ := far73 n f hn 100 0 (by omega) (by omega)
 rw [show (0 : Int) = Int.ofNat 0 from rfl,h1,ob_some]
 refine ⟨_,rfl,?_⟩
 rw [decide_eq_false_iff_not]
 have e : (¬ z ≥ Int.ofNat 0) ↔ z < 0:=by simp
 rw [e,h2]
 exact ⟨fun h i hi => h i (by omega) hi,fun h i _ hi => h i hi⟩
theorem near_loop (n : Nat) (f : Nat → Nat → CV) (hn : n ≤ 60) : ∀ (m i : Nat),n < m + i → i ≤ n →
  ∃ b,L66v1 100 n f m (Int.ofNat i) (some false) (some true) = some b ∧ (b = true ↔ ∀ j,i ≤ j → j < n → nr (CV.int (f j 0)) (CV.int (f j 1))):=by
 intro m
 induction m with
 | zero => intro i h1 h2;omega
 | succ m ih =>
  intro i h1 h2
  unfold L66v1
  rw [lt_nat,inb_nat,toNat_nat]
  by_cases h : i < n
  ·obtain ⟨b,hb1,hb2⟩ := near69 (CV.int (f i 0)) (CV.int (f i 1))
   rw [bif_t (by simpa using h),bif_t (by simpa using h),w64_succ (by omega),hb1,ob_some]
   cases b with
   | true =>
    rw [bif_f (show (!true) = false from rfl)]
    obtain ⟨z,h3,h4⟩ := ih (i + 1) (by omega) (by omega)
    refine ⟨z,h3,h4.trans ⟨fun hh j a b => ?_,fun hh j a b => hh j (by omega) b⟩⟩
    by_cases e : j = i
    ·rw [e];exact hb2.1 rfl
    ·exact hh j (by omega) b
   | false =>
    rw [bif_t (show (!false) = true from rfl)]
    refine ⟨false,rfl,fun hh => (by cases hh),fun hh => ?_⟩
    have := hb2.2 (hh i (Nat.le_refl i) h);cases this
  ·rw [bif_f (by simpa using h)]
   exact ⟨true,rfl,fun _ j a b => by omega,fun _ => rfl⟩
theorem near66 (n : Nat) (f : Nat → Nat → CV) (hn : n ≤ 60) : ∃ b,F66 100 n f = some b ∧ (b = true ↔ AllNr n f):=by
 unfold F66
 obtain ⟨z,h1,h2⟩ := near_loop n f hn 100 0 (by omega) (by omega)
 rw [show (0 : Int) = Int.ofNat 0 from rfl,h1]
 exact ⟨_,rfl,h2.trans ⟨fun h i hi => h i (by omega) hi,fun h i _ hi => h i hi⟩⟩
def BadK (n : Nat) (p : Nat → Pt) (i k : Nat) : Prop := ∃ k',k ≤ k' ∧ k' < n ∧ nx n k' ≠ i ∧ Meet (p i) (p (nx n i)) (p k') (p (nx n k'))
theorem BadK.step {n : Nat} {p : Nat → Pt} {i k : Nat} (h : ¬ (nx n k ≠ i ∧ Meet (p i) (p (nx n i)) (p k) (p (nx n k)))) : BadK n p i k ↔ BadK n p i (k + 1):=by
 constructor
 ·rintro ⟨k',a,b,c,d⟩
  refine ⟨k',?_,b,c,d⟩
  by_cases e : k' = k
  ·subst e;exact absurd ⟨c,d⟩ h
  ·omega
 ·rintro ⟨k',a,b,c,d⟩
  exact ⟨k',by omega,b,c,d⟩
theorem eqB (a b c d : Int) : ((a == c) && ((b == d) && true)) = decide (((a,b) : Pt) = (c,d)):=by
 rw [Bool.eq_iff_iff,Bool.and_eq_true,Bool.and_true,beq_iff_eq,beq_iff_eq,decide_eq_true_iff,Prod.mk.injEq]
structure Valid (n : Nat) (f : Nat → Nat → CV) : Prop where
 big : 3 ≤ n
 small : n ≤ 32
 near : AllNr n f
 simple : Simple n (pt f)
def OnC (n : Nat) (p : Nat → Pt) (q : Pt) (i : Nat) : Prop := ∃ j,i ≤ j ∧ j < n ∧ On q (p j) (p (nx n j))
theorem OnC.step {n : Nat} {p : Nat → Pt} {q : Pt} {i : Nat} (h : ¬ On q (p i) (p (nx n i))) : OnC n p q i ↔ OnC n p q (i + 1):=by
 refine ⟨fun ⟨j,a,b,c⟩ => ⟨j,?_,b,c⟩,fun ⟨j,a,b,c⟩ => ⟨j,by omega,b,c⟩⟩
 by_cases e : j = i
 ·subst e;exact absurd c h
 ·omega
end Go.Eng.R13
