/-
 Checking,areas and places of polygons: the program's and the reference's.
-/
import Derived.Test.YtngjgbhdhaopmaaPlLeaf
set_option linter.all false
namespace Go.Eng.R13
open Go Go.RowKit Go.Eng Geo
def AllNr (n : Nat) (f : Nat → Nat → CV) : Prop := ∀ i,i < n → nr (CV.int (f i 0)) (CV.int (f i 1))
theorem tmod_nat (a n : Nat) : Int.tmod (Int.ofNat a) (Int.ofNat n) = Int.ofNat (a % n) := rfl
theorem ofNat_ne0 {n : Nat} (h : 0 < n) : (Int.ofNat n == 0) = false:=by simp;omega
theorem w64_succ2 {i : Nat} (h : i < 9223372036854775800) : w64 (Int.ofNat i + 2) = Int.ofNat (i + 2):=by
 rw [w64_of] <;> simp <;> omega
theorem far73 (n : Nat) (f : Nat → Nat → CV) (hn : n ≤ 60) : ∀ (m i : Nat),n < m + i → i ≤ n →
  ∃ z,L73v1 100 n f (Int.ofNat n) m (Int.ofNat i) (fun x => some x) (some (-1)) = some z ∧ (z < 0 ↔ ∀ j,i ≤ j → j < n → nr (CV.int (f j 0)) (CV.int (f j 1))):=by
 intro m
 induction m with
 | zero => intro i h1 h2;omega
 | succ m ih =>
  intro i h1 h2
  unfold L73v1
  rw [lt_nat,inb_nat,toNat_nat]
  by_cases h : i < n
  ·obtain ⟨b,hb1,hb2⟩ := far61 (CV.int (f i 0)) (CV.int (f i 1))
   rw [bif_t (by simpa using h),bif_t (by simpa using h),w64_succ (by omega),hb1,ob_some]
   cases b with
   | true =>
    rw [bif_t rfl]
    refine ⟨_,rfl,fun hh => ?_,fun hh => ?_⟩
    ·have := Int.natCast_nonneg i
     simp at hh;omega
    ·have := hb2.2 (hh i (Nat.le_refl i) h);cases this
   | false =>
    rw [bif_f rfl]
    obtain ⟨z,h3,h4⟩ := ih (i + 1) (by omega) (by omega)
    refine ⟨z,h3,h4.trans ⟨fun hh j a b => ?_,fun hh j a b => hh j (by omega) b⟩⟩
    by_cases e : j = i
    ·rw [e];exact hb2.1 rfl
    ·exact hh j (by omega) b
  ·rw [bif_f (by simpa using h)]
   exact ⟨-1,rfl,fun _ j a b => by omega,fun _ => by decide⟩
theorem far50 (n : Nat) (f : Nat → Nat → CV) (hn : n ≤ 60) : ∃ b,F50 100 n f = some b ∧ (b = false ↔ AllNr n f):=by
 unfold F50 F73
 obtain ⟨z,h1,h2⟩ := far73 n f hn 100 0 (by omega) (by omega)
 rw [show (0 : Int) = Int.ofNat 0 from rfl,h1,ob_some]
 refine ⟨_,rfl,?_⟩
 rw [decide_eq_false_iff_not]
 have e : (¬ z ≥ Int.ofNat 0) ↔ z < 0:=by simp
 rw [e,h2]
 exact ⟨fun h i hi => h i (by omega) hi,fun h i _ hi => h i hi⟩
theorem near_loop (n : Nat) (f : Nat → Nat → CV) (hn : n ≤ 60) : ∀ (m i : Nat),n < m + i → i ≤ n →
  ∃ b,L66v1 100 n f m (Int.ofNat i) (some false) (some true) = some b ∧ (b = true ↔ ∀ j,i ≤ j → j < n → nr (CV.int (f j 0)) (CV.int (f j 1))):=by
 intro m
 induction m with
 | zero => intro i h1 h2;omega
 | succ m ih =>
  intro i h1 h2
  unfold L66v1
  rw [lt_nat,inb_nat,toNat_nat]
  by_cases h : i < n
  ·obtain ⟨b,hb1,hb2⟩ := near69 (CV.int (f i 0)) (CV.int (f i 1))
   rw [bif_t (by simpa using h),bif_t (by simpa using h),w64_succ (by omega),hb1,ob_some]
   cases b with
   | true =>
    rw [bif_f (show (!true) = false from rfl)]
    obtain ⟨z,h3,h4⟩ := ih (i + 1) (by omega) (by omega)
    refine ⟨z,h3,h4.trans ⟨fun hh j a b => ?_,fun hh j a b => hh j (by omega) b⟩⟩
    by_cases e : j = i
    ·rw [e];exact hb2.1 rfl
    ·exact hh j (by omega) b
   | false =>
    rw [bif_t (show (!false) = true from rfl)]
    refine ⟨false,rfl,fun hh => (by cases hh),fun hh => ?_⟩
    have := hb2.2 (hh i (Nat.le_refl i) h);cases this
  ·rw [bif_f (by simpa using h)]
   exact ⟨true,rfl,fun _ j a b => by omega,fun _ => rfl⟩
theorem near66 (n : Nat) (f : Nat → Nat → CV) (hn : n ≤ 60) : ∃ b,F66 100 n f = some b ∧ (b = true ↔ AllNr n f):=by
 unfold F66
 obtain ⟨z,h1,h2⟩ := near_loop n f hn 100 0 (by omega) (by omega)
 rw [show (0 : Int) = Int.ofNat 0 from rfl,h1]
 exact ⟨_,rfl,h2.trans ⟨fun h i hi => h i (by omega) hi,fun h i _ hi => h i hi⟩⟩
def BadK (n : Nat) (p : Nat → Pt) (i k : Nat) : Prop := ∃ k',k ≤ k' ∧ k' < n ∧ nx n k' ≠ i ∧ Meet (p i) (p (nx n i)) (p k') (p (nx n k'))
theorem BadK.step {n : Nat} {p : Nat → Pt} {i k : Nat} (h : ¬ (nx n k ≠ i ∧ Meet (p i) (p (nx n i)) (p k) (p (nx n k)))) : BadK n p i k ↔ BadK n p i (k + 1):=by
 constructor
 ·rintro ⟨k',a,b,c,d⟩
  refine ⟨k',?_,b,c,d⟩
  by_cases e : k' = k
  ·subst e;exact absurd ⟨c,d⟩ h
  ·omega
 ·rintro ⟨k',a,b,c,d⟩
  exact ⟨k',by omega,b,c,d⟩
theorem meets62 {ρ : Type} (n i : Nat) (f : Nat → Nat → CV) (hn : n ≤ 32) (h0 : 3 ≤ n) (hi : i < n) (hA : AllNr n f) (c1 c2 : Int) (k0 k1 : Option ρ) : ∀ (m k : Nat),n + 2 < m + k → k ≤ n + 1 →
  (BadK n (pt f) i k → L62v2 100 n f (Int.ofNat n) (Int.ofNat i) (CV.int (f i 0)) (CV.int (f i 1)) (CV.int (f (nx n i) 0)) (CV.int (f (nx n i) 1)) c1 c2 m (Int.ofNat k) k0 k1 = k0) ∧
  (¬ BadK n (pt f) i k → L62v2 100 n f (Int.ofNat n) (Int.ofNat i) (CV.int (f i 0)) (CV.int (f i 1)) (CV.int (f (nx n i) 0)) (CV.int (f (nx n i) 1)) c1 c2 m (Int.ofNat k) k0 k1 = k1):=by
 intro m
 induction m with
 | zero =>
  intro k h1 h2;omega
 | succ m ih =>
  intro k h1 h2
  unfold L62v2
  rw [lt_nat]
  by_cases h : k < n
  ·have hx : nx n k < n := nx_lt h0
   have hm : nr (CV.int (f i 0)) (CV.int (f i 1)) := hA i hi
   rw [bif_t (by simpa using h),bif_f (ofNat_ne0 (by omega)),w64_succ (by omega),tmod_nat,inb_nat,inb_nat,toNat_nat,toNat_nat,bif_f (ofNat_ne0 (by omega))]
   have e : (k + 1) % n = nx n k := rfl
   rw [e]
   by_cases hne : nx n k ≠ i
   ·rw [bif_t (by simp;omega),bif_t (by simpa using h),bif_t (by simpa using hx),meet80 hm (hA _ (nx_lt h0)) (hA k h) (hA _ hx),ob_some]
    by_cases hM : Meet (pt f i) (pt f (nx n i)) (pt f k) (pt f (nx n k))
    ·rw [bif_t (decide_eq_true hM)]
     exact ⟨fun _ => rfl,fun hh => absurd ⟨k,Nat.le_refl k,h,hne,hM⟩ hh⟩
    ·rw [bif_f (decide_eq_false hM),BadK.step (fun hh => hM hh.2)]
     exact ih (k + 1) (by omega) (by omega)
   ·rw [bif_f (by simp;omega),BadK.step (fun hh => hne hh.1)]
    exact ih (k + 1) (by omega) (by omega)
  ·rw [bif_f (by simpa using h)]
   exact ⟨fun ⟨k',a,b,_⟩ => by omega,fun _ => rfl⟩
theorem meets67 {ρ : Type} (n i : Nat) (f : Nat → Nat → CV) (hn : n ≤ 32) (h0 : 3 ≤ n) (hi : i < n) (hA : AllNr n f) (c1 c2 : Int) (k0 k1 : Option ρ) : ∀ (m k : Nat),n + 2 < m + k → k ≤ n + 1 →
  (BadK n (pt f) i k → L67v5 100 n f (Int.ofNat n) (Int.ofNat i) (CV.int (f i 0)) (CV.int (f i 1)) (CV.int (f (nx n i) 0)) (CV.int (f (nx n i) 1)) c1 c2 m (Int.ofNat k) k0 k1 = k0) ∧
  (¬ BadK n (pt f) i k → L67v5 100 n f (Int.ofNat n) (Int.ofNat i) (CV.int (f i 0)) (CV.int (f i 1)) (CV.int (f (nx n i) 0)) (CV.int (f (nx n i) 1)) c1 c2 m (Int.ofNat k) k0 k1 = k1):=by
 intro m
 induction m with
 | zero =>
  intro k h1 h2;omega
 | succ m ih =>
  intro k h1 h2
  unfold L67v5
  rw [lt_nat]
  by_cases h : k < n
  ·have hx : nx n k < n := nx_lt h0
   have hm : nr (CV.int (f i 0)) (CV.int (f i 1)) := hA i hi
   rw [bif_t (by simpa using h),bif_f (ofNat_ne0 (by omega)),w64_succ (by omega),tmod_nat,inb_nat,inb_nat,toNat_nat,toNat_nat,bif_f (ofNat_ne0 (by omega))]
   have e : (k + 1) % n = nx n k := rfl
   rw [e]
   by_cases hne : nx n k ≠ i
   ·rw [bif_t (by simp;omega),bif_t (by simpa using h),bif_t (by simpa using hx),meet82 hm (hA _ (nx_lt h0)) (hA k h) (hA _ hx),ob_some]
    by_cases hM : Meet (pt f i) (pt f (nx n i)) (pt f k) (pt f (nx n k))
    ·rw [bif_t (decide_eq_true hM)]
     exact ⟨fun _ => rfl,fun hh => absurd ⟨k,Nat.le_refl k,h,hne,hM⟩ hh⟩
    ·rw [bif_f (decide_eq_false hM),BadK.step (fun hh => hM hh.2)]
     exact ih (k + 1) (by omega) (by omega)
   ·rw [bif_f (by simp;omega),BadK.step (fun hh => hne hh.1)]
    exact ih (k + 1) (by omega) (by omega)
  ·rw [bif_f (by simpa using h)]
   exact ⟨fun ⟨k',a,b,_⟩ => by omega,fun _ => rfl⟩
theorem nx2 {n i : Nat} (h0 : 3 ≤ n) (hi : i < n) : (i + 2) % n = nx n (nx n i):=by
 rcases nx_cases hi with ⟨h1,h2⟩ | ⟨h1,h2⟩
 ·rw [h2];rfl
 ·rw [h2]
  show (i + 2) % n = (0 + 1) % n
  rw [show i + 2 = 1 + n from by omega,Nat.add_mod_right]
theorem w_dot {x1 x2 x3 x4 x5 x6 : Int} (ha : nr x1 x2) (hb : nr x3 x4) (hc : nr x5 x6) :
  w64 (w64 (w64 (x1 - x3) * w64 (x5 - x3)) + w64 (w64 (x2 - x4) * w64 (x6 - x4))) = dot (x1,x2) (x3,x4) (x5,x6):=by
 unfold nr at *
 have h1 := mul_bd (x := x1 - x3) (y := x5 - x3) (A := 65536) (B := 65536) (by omega) (by omega) (by omega) (by omega)
 have h2 := mul_bd (x := x2 - x4) (y := x6 - x4) (A := 65536) (B := 65536) (by omega) (by omega) (by omega) (by omega)
 rw [w64_of (n := x1 - x3) (by omega) (by omega),w64_of (n := x5 - x3) (by omega) (by omega),w64_of (n := x2 - x4) (by omega) (by omega),w64_of (n := x6 - x4) (by omega) (by omega)]
 rw [w64_of (n:=(x1 - x3) * (x5 - x3)) (by omega) (by omega),w64_of (n:=(x2 - x4) * (x6 - x4)) (by omega) (by omega),w64_of (by omega) (by omega)]
 rfl
theorem eqB (a b c d : Int) : ((a == c) && ((b == d) && true)) = decide (((a,b) : Pt) = (c,d)):=by
 rw [Bool.eq_iff_iff,Bool.and_eq_true,Bool.and_true,beq_iff_eq,beq_iff_eq,decide_eq_true_iff,Prod.mk.injEq]
def OkP (n : Nat) (p : Nat → Pt) (i : Nat) : Prop := p i ≠ p (nx n i) ∧ ¬ (cross (p i) (p (nx n i)) (p (nx n (nx n i))) = 0 ∧ 0 < dot (p i) (p (nx n i)) (p (nx n (nx n i)))) ∧ ¬ BadK n p i (i + 2)
theorem okP_iff {n : Nat} {p : Nat → Pt} : SimpleP n p ↔ ∀ i,0 ≤ i → i < n → OkP n p i:=by
 constructor
 ·intro h i _ hi
  obtain ⟨h1,h2,h3⟩ := h i hi
  exact ⟨h1,h2,fun ⟨k,a,b,c,d⟩ => h3 k a b c d⟩
 ·intro h i hi
  obtain ⟨h1,h2,h3⟩ := h i (by omega) hi
  exact ⟨h1,h2,fun k a b c d => h3 ⟨k,a,b,c,d⟩⟩
theorem all_step {n i : Nat} {Q : Nat → Prop} (h : Q i) : (∀ j,i ≤ j → j < n → Q j) ↔ ∀ j,i + 1 ≤ j → j < n → Q j:=by
 refine ⟨fun hh j a b => hh j (by omega) b,fun hh j a b => ?_⟩
 by_cases e : j = i
 ·rw [e];exact h
 ·exact hh j (by omega) b
theorem simple62 (n : Nat) (f : Nat → Nat → CV) (hn : n ≤ 32) (h0 : 3 ≤ n) (hA : AllNr n f) : ∀ (m i : Nat),n < m + i → i ≤ n →
  ∃ r,L62v3 100 n f (Int.ofNat n) m (Int.ofNat i) (fun _ _ _ _ => some false) (fun _ _ _ _ _ _ => some false) (some true) = some r ∧ (r = true ↔ ∀ j,i ≤ j → j < n → OkP n (pt f) j):=by
 intro m
 induction m with
 | zero => intro i h1 h2;omega
 | succ m ih =>
  intro i h1 h2
  unfold L62v3
  rw [lt_nat,inb_nat,toNat_nat]
  by_cases h : i < n
  ·have hx : nx n i < n := nx_lt h0
   have hxx : nx n (nx n i) < n := nx_lt h0
   have e1 : (i + 1) % n = nx n i := rfl
   have no : ¬ OkP n (pt f) i → ∃ r : Bool,(some false : Option Bool) = some r ∧ (r = true ↔ ∀ j,i ≤ j → j < n → OkP n (pt f) j):=fun hh => ⟨false,rfl,fun h' => (by cases h'),fun h' => absurd (h' i (Nat.le_refl i) h) hh⟩
   rw [bif_t (by simpa using h),bif_t (by simpa using h),bif_f (ofNat_ne0 (by omega)),w64_succ (by omega),w64_succ2 (by omega),tmod_nat,tmod_nat,inb_nat,inb_nat,toNat_nat,toNat_nat,e1,nx2 h0 h,
    bif_t (by simpa using hx),eqB]
   by_cases heq : pt f i = pt f (nx n i)
   ·rw [bif_t (decide_eq_true heq)]
    exact no fun hh => hh.1 heq
   ·rw [bif_f (decide_eq_false heq),bif_f (ofNat_ne0 (by omega)),bif_t (by simpa using hxx),cross79 (hA i h) (hA _ hx) (hA _ hxx),ob_some,w_dot (hA i h) (hA _ hx) (hA _ hxx)]
    have tail : ¬ (cross (pt f i) (pt f (nx n i)) (pt f (nx n (nx n i))) = 0 ∧ 0 < dot (pt f i) (pt f (nx n i)) (pt f (nx n (nx n i)))) →
      ∃ r,L62v2 100 n f (Int.ofNat n) (Int.ofNat i) (CV.int (f i 0)) (CV.int (f i 1)) (CV.int (f (nx n i) 0)) (CV.int (f (nx n i) 1)) (CV.int (f (nx n (nx n i)) 0)) (CV.int (f (nx n (nx n i)) 1)) 100 (Int.ofNat (i + 2)) (some false)
       (L62v3 100 n f (Int.ofNat n) m (Int.ofNat (i + 1)) (fun _ _ _ _ => some false) (fun _ _ _ _ _ _ => some false) (some true)) = some r ∧ (r = true ↔ ∀ j,i ≤ j → j < n → OkP n (pt f) j):=by
     intro hc
     obtain ⟨m1,m2⟩ := meets62 n i f hn h0 h hA (CV.int (f (nx n (nx n i)) 0)) (CV.int (f (nx n (nx n i)) 1)) (some false) (L62v3 100 n f (Int.ofNat n) m (Int.ofNat (i + 1)) (fun _ _ _ _ => some false) (fun _ _ _ _ _ _ => some false) (some true)) 100 (i + 2) (by omega) (by omega)
     by_cases hb : BadK n (pt f) i (i + 2)
     ·rw [m1 hb]
      exact no fun hh => hh.2.2 hb
     ·rw [m2 hb,all_step (Q := OkP n (pt f)) ⟨heq,hc,hb⟩]
      exact ih (i + 1) (by omega) (by omega)
    by_cases hz : cross (pt f i) (pt f (nx n i)) (pt f (nx n (nx n i))) = 0
    ·rw [bif_t (by rw [show cross (CV.int (f i 0),CV.int (f i 1)) (CV.int (f (nx n i) 0),CV.int (f (nx n i) 1)) (CV.int (f (nx n (nx n i)) 0),CV.int (f (nx n (nx n i)) 1)) = 0 from hz];rfl)]
     by_cases hd : 0 < dot (pt f i) (pt f (nx n i)) (pt f (nx n (nx n i)))
     ·rw [bif_t (decide_eq_true hd)]
      exact no fun hh => hh.2.1 ⟨hz,hd⟩
     ·rw [bif_f (decide_eq_false hd)]
      exact tail fun hh => hd hh.2
    ·rw [bif_f (by rw [show (cross (CV.int (f i 0),CV.int (f i 1)) (CV.int (f (nx n i) 0),CV.int (f (nx n i) 1)) (CV.int (f (nx n (nx n i)) 0),CV.int (f (nx n (nx n i)) 1)) == 0) = false from by rw [beq_eq_false_iff_ne];exact hz];rfl)]
     exact tail fun hh => hz hh.1
  ·rw [bif_f (by simpa using h)]
   exact ⟨true,rfl,fun _ j a b => by omega,fun _ => rfl⟩
theorem simple_law62 (n : Nat) (f : Nat → Nat → CV) (hn : n ≤ 32) (h0 : 3 ≤ n) (hA : AllNr n f) : ∃ r,F62 100 n f = some r ∧ (r = true ↔ SimpleP n (pt f)):=by
 unfold F62
 obtain ⟨r,h1,h2⟩ := simple62 n f hn h0 hA 100 0 (by omega) (by omega)
 exact ⟨r,h1,h2.trans okP_iff.symm⟩
theorem dist_inner {ρ : Type} (n i : Nat) (f : Nat → Nat → CV) (hn : n ≤ 32) (hi : i < n) (c : Int) (k0 k1 : Option ρ) : ∀ (m k : Nat),i < m + k → k ≤ i →
  ((∃ j,k ≤ j ∧ j < i ∧ pt f i = pt f j) → L67v2 100 n f c (Int.ofNat i) m (Int.ofNat k) k0 k1 = k0) ∧ (¬ (∃ j,k ≤ j ∧ j < i ∧ pt f i = pt f j) → L67v2 100 n f c (Int.ofNat i) m (Int.ofNat k) k0 k1 = k1):=by
 intro m
 induction m with
 | zero => intro k h1 h2;omega
 | succ m ih =>
  intro k h1 h2
  unfold L67v2
  rw [lt_nat,inb_nat,inb_nat,toNat_nat,toNat_nat]
  by_cases h : k < i
  ·have hkn : k < n:=by omega
   rw [bif_t (by simpa using h),bif_t (by simpa using hi),bif_t (by simpa using hkn),w64_succ (by omega),eqB]
   by_cases heq : pt f i = pt f k
   ·rw [bif_t (decide_eq_true heq)]
    exact ⟨fun _ => rfl,fun hh => absurd ⟨k,Nat.le_refl k,h,heq⟩ hh⟩
   ·rw [bif_f (decide_eq_false heq)]
    have e : (∃ j,k ≤ j ∧ j < i ∧ pt f i = pt f j) ↔ ∃ j,k + 1 ≤ j ∧ j < i ∧ pt f i = pt f j:=by
     refine ⟨fun ⟨j,a,b,c⟩ => ⟨j,?_,b,c⟩,fun ⟨j,a,b,c⟩ => ⟨j,by omega,b,c⟩⟩
     by_cases e : j = k
     ·subst e;exact absurd c heq
     ·omega
    rw [e]
    exact ih (k + 1) (by omega) (by omega)
  ·rw [bif_f (by simpa using h)]
   exact ⟨fun ⟨j,a,b,_⟩ => by omega,fun _ => rfl⟩
theorem dist_outer {ρ : Type} (n : Nat) (f : Nat → Nat → CV) (hn : n ≤ 32) (k0 k1 : Option ρ) : ∀ (m i : Nat),n < m + i → i ≤ n →
  ((∀ j,i ≤ j → j < n → ∀ k,k < j → pt f j ≠ pt f k) → L67v3 100 n f (Int.ofNat n) m (Int.ofNat i) k0 k1 = k1) ∧ (¬ (∀ j,i ≤ j → j < n → ∀ k,k < j → pt f j ≠ pt f k) → L67v3 100 n f (Int.ofNat n) m (Int.ofNat i) k0 k1 = k0):=by
 intro m
 induction m with
 | zero => intro i h1 h2;omega
 | succ m ih =>
  intro i h1 h2
  unfold L67v3
  rw [lt_nat]
  by_cases h : i < n
  ·rw [bif_t (by simpa using h),w64_succ (by omega),show (0 : Int) = Int.ofNat 0 from rfl]
   obtain ⟨m1,m2⟩ := dist_inner n i f hn h (Int.ofNat n) k0 (L67v3 100 n f (Int.ofNat n) m (Int.ofNat (i + 1)) k0 k1) 100 0 (by omega) (by omega)
   by_cases hb : ∃ j,0 ≤ j ∧ j < i ∧ pt f i = pt f j
   ·rw [m1 hb]
    refine ⟨fun hh => ?_,fun _ => rfl⟩
    obtain ⟨j,_,b,c⟩ := hb
    exact absurd c (hh i (Nat.le_refl i) h j b)
   ·rw [m2 hb]
    rw [all_step (Q:=fun j => ∀ k,k < j → pt f j ≠ pt f k) (fun k hk hh => hb ⟨k,by omega,hk,hh⟩)]
    exact ih (i + 1) (by omega) (by omega)
  ·rw [bif_f (by simpa using h)]
   exact ⟨fun _ => rfl,fun hh => absurd (fun j a b => by omega) hh⟩
def OkR (n : Nat) (p : Nat → Pt) (i : Nat) : Prop := ¬ On (p i) (p (nx n i)) (p (nx n (nx n i))) ∧ ¬ On (p (nx n (nx n i))) (p i) (p (nx n i)) ∧ ¬ BadK n p i (i + 2)
theorem simple67 (n : Nat) (f : Nat → Nat → CV) (hn : n ≤ 32) (h0 : 3 ≤ n) (hA : AllNr n f) : ∀ (m i : Nat),n < m + i → i ≤ n →
  ∃ r,L67v6 100 n f (Int.ofNat n) m (Int.ofNat i) (fun _ _ _ _ _ _ => some false) (some true) = some r ∧ (r = true ↔ ∀ j,i ≤ j → j < n → OkR n (pt f) j):=by
 intro m
 induction m with
 | zero => intro i h1 h2;omega
 | succ m ih =>
  intro i h1 h2
  unfold L67v6
  rw [lt_nat,inb_nat,toNat_nat]
  by_cases h : i < n
  ·have hx : nx n i < n := nx_lt h0
   have hxx : nx n (nx n i) < n := nx_lt h0
   have e1 : (i + 1) % n = nx n i := rfl
   have no : ¬ OkR n (pt f) i → ∃ r : Bool,(some false : Option Bool) = some r ∧ (r = true ↔ ∀ j,i ≤ j → j < n → OkR n (pt f) j):=fun hh => ⟨false,rfl,fun h' => (by cases h'),fun h' => absurd (h' i (Nat.le_refl i) h) hh⟩
   rw [bif_t (by simpa using h),bif_t (by simpa using h),bif_f (ofNat_ne0 (by omega)),w64_succ (by omega),w64_succ2 (by omega),tmod_nat,tmod_nat,inb_nat,inb_nat,toNat_nat,toNat_nat,e1,nx2 h0 h,
    bif_t (by simpa using hx),bif_f (ofNat_ne0 (by omega)),bif_t (by simpa using hxx),on70 (hA i h) (hA _ hx) (hA _ hxx),ob_some,on70 (hA _ hxx) (hA i h) (hA _ hx),ob_some]
   by_cases ho1 : On (pt f i) (pt f (nx n i)) (pt f (nx n (nx n i)))
   ·rw [bif_f (by rw [decide_eq_true ho1];rfl)]
    exact no fun hh => hh.1 ho1
   ·rw [bif_t (by rw [decide_eq_false ho1];rfl)]
    by_cases ho2 : On (pt f (nx n (nx n i))) (pt f i) (pt f (nx n i))
    ·rw [bif_t (decide_eq_true ho2)]
     exact no fun hh => hh.2.1 ho2
    ·rw [bif_f (decide_eq_false ho2)]
     obtain ⟨m1,m2⟩ := meets67 n i f hn h0 h hA (CV.int (f (nx n (nx n i)) 0)) (CV.int (f (nx n (nx n i)) 1)) (some false) (L67v6 100 n f (Int.ofNat n) m (Int.ofNat (i + 1)) (fun _ _ _ _ _ _ => some false) (some true)) 100 (i + 2) (by omega) (by omega)
     by_cases hb : BadK n (pt f) i (i + 2)
     ·rw [m1 hb]
      exact no fun hh => hh.2.2 hb
     ·rw [m2 hb,all_step (Q := OkR n (pt f)) ⟨ho1,ho2,hb⟩]
      exact ih (i + 1) (by omega) (by omega)
  ·rw [bif_f (by simpa using h)]
   exact ⟨true,rfl,fun _ j a b => by omega,fun _ => rfl⟩
theorem simple_law67 (n : Nat) (f : Nat → Nat → CV) (hn : n ≤ 32) (h0 : 3 ≤ n) (hA : AllNr n f) : ∃ r,F67 100 n f = some r ∧ (r = true ↔ SimpleR n (pt f)):=by
 unfold F67
 obtain ⟨m1,m2⟩ := dist_outer n f hn (some false) (L67v6 100 n f (Int.ofNat n) 100 (Int.ofNat 0) (fun _ _ _ _ _ _ => some false) (some true)) 100 0 (by omega) (by omega)
 obtain ⟨r,h1,h2⟩ := simple67 n f hn h0 hA 100 0 (by omega) (by omega)
 rw [show (0 : Int) = Int.ofNat 0 from rfl]
 by_cases hd : ∀ j,0 ≤ j → j < n → ∀ k,k < j → pt f j ≠ pt f k
 ·rw [m1 hd,h1]
  refine ⟨r,rfl,h2.trans ⟨fun hh => ⟨fun i hi k hk => hd i (by omega) hi k hk,fun i hi => ?_⟩,fun hh j _ hj => ?_⟩⟩
  ·obtain ⟨a,b,c⟩ := hh i (by omega) hi
   exact ⟨a,b,fun k h1 h2 h3 h4 => c ⟨k,h1,h2,h3,h4⟩⟩
  ·obtain ⟨a,b,c⟩ := hh.2 j hj
   exact ⟨a,b,fun ⟨k,h1,h2,h3,h4⟩ => c k h1 h2 h3 h4⟩
 ·rw [m2 hd]
  exact ⟨false,rfl,fun hh => (by cases hh),fun hh => absurd (fun j _ hj k hk => hh.1 j hj k hk) hd⟩
theorem term_bd {a b c d : Int} (h1 : nr a b) (h2 : nr c d) : (-1073741824 ≤ a * d ∧ a * d ≤ 1073741824) ∧ (-1073741824 ≤ c * b ∧ c * b ≤ 1073741824):=by
 unfold nr at *
 have k1 := mul_bd (x := a) (y := d) (A := 32768) (B := 32768) (by omega) (by omega) (by omega) (by omega)
 have k2 := mul_bd (x := c) (y := b) (A := 32768) (B := 32768) (by omega) (by omega) (by omega) (by omega)
 omega
def aterm (n : Nat) (f : Nat → Nat → CV) (i : Nat) : Int:=(pt f i).1 * (pt f (nx n i)).2 - (pt f (nx n i)).1 * (pt f i).2
theorem aterm_bd {n : Nat} {f : Nat → Nat → CV} (h0 : 3 ≤ n) (hA : AllNr n f) {i : Nat} (hi : i < n) : -2147483648 ≤ aterm n f i ∧ aterm n f i ≤ 2147483648:=by
 have := term_bd (hA i hi) (hA _ (nx_lt (i := i) h0))
 unfold aterm
 dsimp only
 omega
theorem asum_bd {n : Nat} {f : Nat → Nat → CV} (h0 : 3 ≤ n) (hA : AllNr n f) : ∀ i,i ≤ n → -2147483648 * (i : Int) ≤ sm i (aterm n f) ∧ sm i (aterm n f) ≤ 2147483648 * (i : Int)
 | 0,_ => by simp [sm]
 | i + 1,h => by
  have h1 := asum_bd h0 hA i (by omega)
  have h2 := aterm_bd h0 hA (i := i) (by omega)
  rw [sm]
  omega
theorem area63 {ρ : Type} (n : Nat) (f : Nat → Nat → CV) (hn : n ≤ 32) (h0 : 3 ≤ n) (hA : AllNr n f) (k0 : Int → Option ρ) : ∀ (m i : Nat),n < m + i → i ≤ n →
  L63v1 100 n f (Int.ofNat n) m (sm i (aterm n f)) (Int.ofNat i) k0 = k0 (sm n (aterm n f)):=by
 intro m
 induction m with
 | zero => intro i h1 h2;omega
 | succ m ih =>
  intro i h1 h2
  unfold L63v1
  rw [lt_nat,inb_nat,toNat_nat]
  by_cases h : i < n
  ·have hx : nx n i < n := nx_lt h0
   have e1 : (i + 1) % n = nx n i := rfl
   have b1 := term_bd (hA i h) (hA _ hx)
   have b2 := asum_bd h0 hA i h2
   have b3 := asum_bd h0 hA (i + 1) (by omega)
   have e2 : sm (i + 1) (aterm n f) = sm i (aterm n f) + ((CV.int (f i 0)) * (CV.int (f (nx n i) 1)) - (CV.int (f (nx n i) 0)) * (CV.int (f i 1))) := rfl
   rw [bif_t (by simpa using h),bif_t (by simpa using h),bif_f (ofNat_ne0 (by omega)),w64_succ (by omega),tmod_nat,inb_nat,toNat_nat,e1,bif_t (by simpa using hx)]
   rw [w64_of (n := CV.int (f i 0) * CV.int (f (nx n i) 1)) (by omega) (by omega),w64_of (n := CV.int (f (nx n i) 0) * CV.int (f i 1)) (by omega) (by omega),w64_of (n := CV.int (f i 0) * CV.int (f (nx n i) 1) - CV.int (f (nx n i) 0) * CV.int (f i 1)) (by omega) (by omega)]
   rw [w64_of (by omega) (by omega),← e2]
   exact ih (i + 1) (by omega) (by omega)
  ·rw [bif_f (by simpa using h)]
   have : i = n:=by omega
   rw [this]
theorem area_law63 (n : Nat) (f : Nat → Nat → CV) (hn : n ≤ 32) (h0 : 3 ≤ n) (hA : AllNr n f) : F63 100 n f = some (area n (pt f)):=by
 unfold F63
 exact area63 n f hn h0 hA some 100 0 (by omega) (by omega)
theorem area38 {ρ : Type} (n : Nat) (f : Nat → Nat → CV) (hn : n ≤ 32) (h0 : 3 ≤ n) (hA : AllNr n f) (k0 : Int → Option ρ) : ∀ (m i : Nat),n < m + i → i ≤ n →
  L38v1 100 n f m (sm i (aterm n f)) (Int.ofNat i) k0 = k0 (sm n (aterm n f)):=by
 intro m
 induction m with
 | zero => intro i h1 h2;omega
 | succ m ih =>
  intro i h1 h2
  unfold L38v1
  rw [lt_nat,inb_nat,toNat_nat]
  by_cases h : i < n
  ·have hx : nx n i < n := nx_lt h0
   have e1 : (i + 1) % n = nx n i := rfl
   have b1 := term_bd (hA i h) (hA _ hx)
   have b2 := asum_bd h0 hA i h2
   have b3 := asum_bd h0 hA (i + 1) (by omega)
   have e2 : sm (i + 1) (aterm n f) = sm i (aterm n f) + ((CV.int (f i 0)) * (CV.int (f (nx n i) 1)) - (CV.int (f (nx n i) 0)) * (CV.int (f i 1))) := rfl
   have e3 : CV.int (f i 1) * CV.int (f (nx n i) 0) = CV.int (f (nx n i) 0) * CV.int (f i 1) := Int.mul_comm _ _
   rw [bif_t (by simpa using h),bif_t (by simpa using h),bif_f (ofNat_ne0 (by omega)),w64_succ (by omega),tmod_nat,inb_nat,toNat_nat,e1,bif_t (by simpa using hx),e3]
   rw [w64_of (n := CV.int (f i 0) * CV.int (f (nx n i) 1)) (by omega) (by omega),w64_of (n := CV.int (f (nx n i) 0) * CV.int (f i 1)) (by omega) (by omega),w64_of (n := sm i (aterm n f) + CV.int (f i 0) * CV.int (f (nx n i) 1)) (by omega) (by omega)]
   rw [w64_of (by omega) (by omega),show sm i (aterm n f) + CV.int (f i 0) * CV.int (f (nx n i) 1) - CV.int (f (nx n i) 0) * CV.int (f i 1) = sm (i + 1) (aterm n f) from by rw [e2];omega]
   exact ih (i + 1) (by omega) (by omega)
  ·rw [bif_f (by simpa using h)]
   have : i = n:=by omega
   rw [this]
structure Valid (n : Nat) (f : Nat → Nat → CV) : Prop where
 big : 3 ≤ n
 small : n ≤ 32
 near : AllNr n f
 simple : Simple n (pt f)
theorem check_law (n : Nat) (f : Nat → Nat → CV) : ∃ c,F33 100 n f = some c ∧ F37 100 n f = some c ∧ (c = 0 ↔ Valid n f):=by
 unfold F33 F37
 by_cases h1 : n < 3
 ·have d1 : decide (Int.ofNat n < 3) = true:=by simp;omega
  rw [bif_t d1,bif_t d1]
  exact ⟨3,rfl,rfl,fun h => (by cases h),fun h => by have := h.big;omega⟩
 ·have d1 : decide (Int.ofNat n < 3) = false:=by simp;omega
  rw [bif_f d1,bif_f d1]
  by_cases h2 : n ≤ 32
  ·have d2 : decide (Int.ofNat n > 32) = false:=by simp;omega
   rw [bif_f d2,bif_f d2]
   obtain ⟨b,hb1,hb2⟩ := far50 n f (by omega)
   obtain ⟨d,hd1,hd2⟩ := near66 n f (by omega)
   rw [hb1,hd1,ob_some,ob_some]
   by_cases hA : AllNr n f
   ·have eb := hb2.2 hA
    have ed := hd2.2 hA
    subst eb;subst ed
    obtain ⟨r,hr1,hr2⟩ := simple_law62 n f h2 (by omega) hA
    obtain ⟨s,hs1,hs2⟩ := simple_law67 n f h2 (by omega) hA
    rw [bif_f rfl,bif_f (show (!true) = false from rfl),hr1,hs1,ob_some,ob_some]
    by_cases hS : SimpleP n (pt f)
    ·have er := hr2.2 hS
     have es := hs2.2 ((simpleP_R (by omega)).1 hS)
     subst er;subst es
     have ha : area n (pt f) ≠ 0 := simple_area (by omega) hS
     rw [bif_t (by rfl),bif_f (show (!true) = false from rfl),area_law63 n f h2 (by omega) hA,ob_some,bif_f (by simpa using ha)]
     exact ⟨0,rfl,rfl,fun _ => ⟨by omega,h2,hA,(simpleR_iff (by omega)).1 ((simpleP_R (by omega)).1 hS)⟩,fun _ => rfl⟩
    ·have er : r = false:=by
      cases r with
      | false => rfl
      | true => exact absurd (hr2.1 rfl) hS
     have es : s = false:=by
      cases s with
      | false => rfl
      | true => exact absurd ((simpleP_R (by omega)).2 (hs2.1 rfl)) hS
     subst er;subst es
     rw [bif_f (by rfl),bif_t (show (!false) = true from rfl)]
     exact ⟨17,rfl,rfl,fun h => (by cases h),fun h => absurd ((simpleP_R (by omega)).2 ((simpleR_iff (by omega)).2 h.simple)) hS⟩
   ·have eb : b = true:=by
     cases b with
     | false => exact absurd (hb2.1 rfl) hA
     | true => rfl
    have ed : d = false:=by
     cases d with
     | false => rfl
     | true => exact absurd (hd2.1 rfl) hA
    subst eb;subst ed
    rw [bif_t rfl,bif_t (show (!false) = true from rfl)]
    exact ⟨9,rfl,rfl,fun h => (by cases h),fun h => absurd h.near hA⟩
  ·have d2 : decide (Int.ofNat n > 32) = true:=by simp;omega
   rw [bif_t d2,bif_t d2]
   exact ⟨4,rfl,rfl,fun h => (by cases h),fun h => by have := h.small;omega⟩
theorem area_law (n : Nat) (f : Nat → Nat → CV) : ∃ a,F34 100 n f = some a ∧ F38 100 n f = some a ∧ (Valid n f → a = area n (pt f)):=by
 obtain ⟨c,h1,h2,h3⟩ := check_law n f
 unfold F34 F38
 rw [h1,h2,ob_some,ob_some]
 by_cases hc : c = 0
 ·subst hc
  have V := h3.1 rfl
  have hs := V.small
  rw [bif_f (by rfl),bif_f (by rfl),area_law63 n f V.small V.big V.near,ob_some]
  exact ⟨_,rfl,area38 n f V.small V.big V.near some 100 0 (by omega) (by omega),fun _ => rfl⟩
 ·rw [bif_t (by simpa using hc),bif_t (by simpa using hc)]
  exact ⟨0,rfl,rfl,fun V => absurd (h3.2 V) hc⟩
def OnC (n : Nat) (p : Nat → Pt) (q : Pt) (i : Nat) : Prop := ∃ j,i ≤ j ∧ j < n ∧ On q (p j) (p (nx n j))
theorem OnC.step {n : Nat} {p : Nat → Pt} {q : Pt} {i : Nat} (h : ¬ On q (p i) (p (nx n i))) : OnC n p q i ↔ OnC n p q (i + 1):=by
 refine ⟨fun ⟨j,a,b,c⟩ => ⟨j,?_,b,c⟩,fun ⟨j,a,b,c⟩ => ⟨j,by omega,b,c⟩⟩
 by_cases e : j = i
 ·subst e;exact absurd c h
 ·omega
theorem rcB (q a b : Pt) : rc q a b = ((decide (a.2 > q.2) != decide (b.2 > q.2)) && (decide (0 < cross a b q) == decide (b.2 > a.2))) := rfl
theorem where65 (n : Nat) (f : Nat → Nat → CV) (qx qy : Int) (hn : n ≤ 32) (h0 : 3 ≤ n) (hA : AllNr n f) (hq : nr qx qy) : ∀ (m i : Nat) (s : Bool),n < m + i → i ≤ n → s = xs i (fun j => rc (qx,qy) (pt f j) (pt f (nx n j))) →
  (OnC n (pt f) (qx,qy) i → L65v1 100 n f (Int.ofNat n) qx qy m s (Int.ofNat i) (fun _ _ _ _ => some (0 : Int)) (fun b => (bif b then some 1 else some (-1))) = some 0) ∧
  (¬ OnC n (pt f) (qx,qy) i → L65v1 100 n f (Int.ofNat n) qx qy m s (Int.ofNat i) (fun _ _ _ _ => some (0 : Int)) (fun b => (bif b then some 1 else some (-1))) = (bif par n (pt f) (qx,qy) then some 1 else some (-1))):=by
 intro m
 induction m with
 | zero => intro i s h1 h2;omega
 | succ m ih =>
  intro i s h1 h2 hs
  unfold L65v1
  rw [lt_nat,inb_nat,toNat_nat]
  by_cases h : i < n
  ·have hx : nx n i < n := nx_lt h0
   have e1 : (i + 1) % n = nx n i := rfl
   rw [bif_t (by simpa using h),bif_t (by simpa using h),bif_f (ofNat_ne0 (by omega)),w64_succ (by omega),tmod_nat,inb_nat,toNat_nat,e1,bif_t (by simpa using hx),on81 (hA i h) (hA _ hx) hq,ob_some]
   by_cases ho : On (qx,qy) (pt f i) (pt f (nx n i))
   ·rw [bif_t (decide_eq_true ho)]
    exact ⟨fun _ => rfl,fun hh => absurd ⟨i,Nat.le_refl i,h,ho⟩ hh⟩
   ·rw [bif_f (decide_eq_false ho),OnC.step ho,cross79 (hA i h) (hA _ hx) hq,ob_some]
    have hr := rcB (qx,qy) (pt f i) (pt f (nx n i))
    have hxs : xs (i + 1) (fun j => rc (qx,qy) (pt f j) (pt f (nx n j))) = (s ^^ rc (qx,qy) (pt f i) (pt f (nx n i))):=by rw [xs,hs]
    have hg : ∀ x : Int,decide (x > 0) = decide (0 < x):=fun _ => rfl
    rw [hg]
    cases h3 : (decide (CV.int (f i 1) > qy) == decide (CV.int (f (nx n i) 1) > qy)) with
    | true =>
     rw [bif_t rfl]
     have : rc (qx,qy) (pt f i) (pt f (nx n i)) = false:=by
      rw [hr,bne]
      have h3 : (decide ((pt f i).2 > ((qx,qy) : Pt).2) == decide ((pt f (nx n i)).2 > ((qx,qy) : Pt).2)) = true := h3
      rw [h3];rfl
     refine ih (i + 1) s (by omega) (by omega) ?_
     rw [hxs,this,Bool.xor_false]
    | false =>
     rw [bif_f rfl]
     have h5 : rc (qx,qy) (pt f i) (pt f (nx n i)) = (decide (0 < cross (CV.int (f i 0),CV.int (f i 1)) (CV.int (f (nx n i) 0),CV.int (f (nx n i) 1)) (qx,qy)) == decide (CV.int (f (nx n i) 1) > CV.int (f i 1))):=by
      rw [hr,bne]
      have h3 : (decide ((pt f i).2 > ((qx,qy) : Pt).2) == decide ((pt f (nx n i)).2 > ((qx,qy) : Pt).2)) = false := h3
      rw [h3];rfl
     rw [← h5]
     cases h6 : rc (qx,qy) (pt f i) (pt f (nx n i)) with
     | true =>
      rw [bif_t rfl]
      refine ih (i + 1) (!s) (by omega) (by omega) ?_
      rw [hxs,h6,Bool.xor_true]
     | false =>
      rw [bif_f rfl]
      refine ih (i + 1) s (by omega) (by omega) ?_
      rw [hxs,h6,Bool.xor_false]
  ·rw [bif_f (by simpa using h)]
   have e : i = n:=by omega
   subst e
   refine ⟨fun ⟨j,a,b,_⟩ => by omega,fun _ => ?_⟩
   rw [hs];rfl
end Go.Eng.R13
