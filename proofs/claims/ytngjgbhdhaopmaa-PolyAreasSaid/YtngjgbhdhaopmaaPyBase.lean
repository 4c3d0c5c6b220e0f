/-
 Several texts in one.
-/
import Derived.Test.YtngjgbhdhaopmaaGeo6
import Derived.Test.YtngjgbhdhaopmaaPlSums
import Derived.Test.YtngjgbhdhaopmaaPySort
/-
 The examples of the chapter;Check,Where.
-/
set_option linter.all false
set_option maxRecDepth 100000
namespace Go.Eng.R13
open Go Go.RowKit Go.Eng Geo
theorem awake_law : F207 100 = some true:=by kernel_rfl
end Go.Eng.R13
/-
 Moments and convexity: what the program computes of a valid polygon.
-/
set_option linter.all false
namespace Go.Eng.R13
open Go Go.RowKit Go.Eng Geo
theorem valid_code {n : Nat} {f : FF} (V : Valid n f) : F33 100 n f = some 0 ∧ F37 100 n f = some 0:=by
 obtain ⟨c,h1,h2,h3⟩ := check_law n f
 have hc := h3.2 V
 subst hc
 exact ⟨h1,h2⟩
def cr (n : Nat) (p : Nat → Pt) (i : Nat) : Int := cross (p i) (p (nx n i)) (p (nx n (nx n i)))
def Cvx (n : Nat) (p : Nat → Pt) : Prop := ∀ i,i < n → ¬ opp (cr n p i) (area n p)
theorem conv200 {ρ : Type} (n : Nat) (f : FF) (a : Int) (hn : n ≤ 32) (h0 : 3 ≤ n) (hA : AllNr n f) (k0 k1 : Option ρ) : ∀ (m i : Nat),n < m + i → i ≤ n →
  ((∃ j,i ≤ j ∧ j < n ∧ opp (cr n (pt f) j) a) ∧ L200v1 100 n f (sgn a) (Int.ofNat n) m (Int.ofNat i) k0 k1 = k0) ∨ ((∀ j,i ≤ j → j < n → ¬ opp (cr n (pt f) j) a) ∧ L200v1 100 n f (sgn a) (Int.ofNat n) m (Int.ofNat i) k0 k1 = k1):=by
 intro m
 induction m with
 | zero => intro i h1 h2;omega
 | succ m ih =>
  intro i h1 h2
  unfold L200v1
  rw [lt_nat,inb_nat,toNat_nat]
  by_cases h : i < n
  ·have hx : nx n i < n := nx_lt h0
   have hy : nx n (nx n i) < n := nx_lt h0
   have e1 : (i + 1) % n = nx n i := rfl
   have e2 := nx2 h0 h
   rw [bif_t (by simpa using h),bif_t (by simpa using h),bif_f (ofNat_ne0 (by omega)),w64_succ (by omega),w64_succ2 (by omega),tmod_nat,tmod_nat,inb_nat,inb_nat,toNat_nat,toNat_nat,e1,e2,bif_t (by simpa using hx),bif_f (ofNat_ne0 (by omega)),bif_t (by simpa using hy)]
   rw [cross79 (hA i h) (hA _ hx) (hA _ hy),show cross (CV.int (f i 0),CV.int (f i 1)) (CV.int (f (nx n i) 0),CV.int (f (nx n i) 1)) (CV.int (f (nx n (nx n i)) 0),CV.int (f (nx n (nx n i)) 1)) = cr n (pt f) i from rfl,ob_some,sign86,ob_some,sgn_opp]
   by_cases ho : opp (cr n (pt f) i) a
   ·left
    refine ⟨⟨i,Nat.le_refl _,h,ho⟩,?_⟩
    rw [bif_t (decide_eq_true ho)]
   ·rw [bif_f (decide_eq_false ho)]
    rcases ih (i + 1) (by omega) (by omega) with ⟨⟨j,h3,h4,h5⟩,h6⟩ | ⟨h3,h4⟩
    ·exact .inl ⟨⟨j,by omega,h4,h5⟩,h6⟩
    ·refine .inr ⟨fun j hj hjn => ?_,h4⟩
     by_cases hji : j = i
     ·subst hji;exact ho
     ·exact h3 j (by omega) hjn
  ·rw [bif_f (by simpa using h)]
   exact .inr ⟨fun j h3 h4 => by omega,rfl⟩
theorem convex_law {n : Nat} {f : FF} (V : Valid n f) : ∃ b,F200 100 n f = some b ∧ (b = true ↔ Cvx n (pt f)):=by
 unfold F200
 have hs := V.small
 rw [(valid_code V).1,ob_some,bif_f (by rfl),area_law63 n f V.small V.big V.near,ob_some,sign86,ob_some]
 rcases conv200 n f (area n (pt f)) V.small V.big V.near (some false) (some true) 100 0 (by omega) (by omega) with ⟨⟨j,_,h4,h5⟩,h6⟩ | ⟨h3,h4⟩
 ·exact ⟨false,h6,by simp;exact fun h => h j h4 h5⟩
 ·exact ⟨true,h4,by simp;exact fun j hj => h3 j (Nat.zero_le _) hj⟩
end Go.Eng.R13
/-
 Areas,moments and convexity: the program's and the reference's.
-/
set_option linter.all false
set_option maxRecDepth 100000
namespace Go.Eng.R13
open Go Go.RowKit Go.Eng Geo
theorem conv209 {ρ : Type} (n : Nat) (f : FF) (hn : n ≤ 32) (h0 : 3 ≤ n) (hA : AllNr n f) (k0 : Bool → Bool → Option ρ) : ∀ (m i : Nat) (l r : Bool),n < m + i → i ≤ n →
  ∃ l' r',L209v1 100 n f m l r (Int.ofNat i) k0 = k0 l' r' ∧ (l' = true ↔ l = true ∨ ∃ j,i ≤ j ∧ j < n ∧ 0 < cr n (pt f) j) ∧ (r' = true ↔ r = true ∨ ∃ j,i ≤ j ∧ j < n ∧ cr n (pt f) j < 0):=by
 intro m
 induction m with
 | zero => intro i l r h1 h2;omega
 | succ m ih =>
  intro i l r h1 h2
  unfold L209v1
  rw [lt_nat,inb_nat,toNat_nat]
  by_cases h : i < n
  ·have hx : nx n i < n := nx_lt h0
   have hy : nx n (nx n i) < n := nx_lt h0
   have e1 : (i + 1) % n = nx n i := rfl
   have e2 := nx2 h0 h
   rw [bif_t (by simpa using h),bif_t (by simpa using h),bif_f (ofNat_ne0 (by omega)),w64_succ (by omega),w64_succ2 (by omega),tmod_nat,tmod_nat,inb_nat,inb_nat,toNat_nat,toNat_nat,e1,e2,bif_t (by simpa using hx),bif_f (ofNat_ne0 (by omega)),bif_t (by simpa using hy)]
   rw [cross71 (hA i h) (hA _ hx) (hA _ hy),show cross (CV.int (f i 0),CV.int (f i 1)) (CV.int (f (nx n i) 0),CV.int (f (nx n i) 1)) (CV.int (f (nx n (nx n i)) 0),CV.int (f (nx n (nx n i)) 1)) = cr n (pt f) i from rfl,ob_some]
   have stepL : ∀ P : Int → Prop,(P (cr n (pt f) i) ∨ ∃ j,i + 1 ≤ j ∧ j < n ∧ P (cr n (pt f) j)) ↔ ∃ j,i ≤ j ∧ j < n ∧ P (cr n (pt f) j):=by
    intro P
    constructor
    ·rintro (hp | ⟨j,h3,h4,h5⟩)
     ·exact ⟨i,Nat.le_refl _,h,hp⟩
     ·exact ⟨j,by omega,h4,h5⟩
    ·rintro ⟨j,h3,h4,h5⟩
     by_cases hj : j = i
     ·subst hj;exact .inl h5
     ·exact .inr ⟨j,by omega,h4,h5⟩
   have s1 := stepL (fun z => 0 < z)
   have s2 := stepL (fun z => z < 0)
   cases l with
   | false =>
    cases r with
    | false =>
     obtain ⟨l',r',a1,a2,a3⟩ := ih (i + 1) (decide (cr n (pt f) i > 0)) (decide (cr n (pt f) i < 0)) (by omega) (by omega)
     refine ⟨l',r',a1,?_,?_⟩
     ·rw [a2,← s1];simp
     ·rw [a3,← s2];simp
    | true =>
     obtain ⟨l',r',a1,a2,a3⟩ := ih (i + 1) (decide (cr n (pt f) i > 0)) true (by omega) (by omega)
     refine ⟨l',r',a1,?_,?_⟩
     ·rw [a2,← s1];simp
     ·rw [a3];simp
   | true =>
    cases r with
    | false =>
     obtain ⟨l',r',a1,a2,a3⟩ := ih (i + 1) true (decide (cr n (pt f) i < 0)) (by omega) (by omega)
     refine ⟨l',r',a1,?_,?_⟩
     ·rw [a2];simp
     ·rw [a3,← s2];simp
    | true =>
     obtain ⟨l',r',a1,a2,a3⟩ := ih (i + 1) true true (by omega) (by omega)
     refine ⟨l',r',a1,?_,?_⟩
     ·rw [a2];simp
     ·rw [a3];simp
  ·rw [bif_f (by simpa using h)]
   refine ⟨l,r,rfl,?_,?_⟩
   ·exact ⟨.inl,fun hh => hh.elim id fun ⟨j,h3,h4,_⟩ => by omega⟩
   ·exact ⟨.inl,fun hh => hh.elim id fun ⟨j,h3,h4,_⟩ => by omega⟩
theorem conv_same (n : Nat) (f : FF) : ∃ b,F200 100 n f = some b ∧ F209 100 n f = some b:=by
 obtain ⟨c,h1,h2,h3⟩ := check_law n f
 by_cases hc : c = 0
 ·have V := h3.1 hc
  have hs := V.small
  obtain ⟨b,hb,hb2⟩ := convex_law V
  refine ⟨b,hb,?_⟩
  unfold F209
  rw [(valid_code V).2,ob_some,bif_f (by rfl)]
  obtain ⟨l,r,a1,a2,a3⟩ := conv209 n f V.small V.big V.near (fun x16 x17 => (bif ((!x16) == false) then (some (!x17)) else (some true))) 100 0 false false (by omega) (by omega)
  rw [show (0 : Int) = Int.ofNat 0 from rfl,a1]
  have key : b = true ↔ ¬ (l = true ∧ r = true):=by
   rw [hb2,a2,a3]
   unfold Cvx
   obtain ⟨e,he,hh⟩ := top_corner V.simple
   have hcr : cross (pt f e) (pt f (nx n e)) (pt f (nx n (nx n e))) = cr n (pt f) e := rfl
   rw [hcr] at hh
   rcases hh with ⟨p1,p2⟩ | ⟨p1,p2⟩
   ·constructor
    ·rintro h ⟨_,hr⟩
     obtain ⟨j,_,hj,hn⟩ := hr.resolve_left (by simp)
     exact h j hj (.inl ⟨hn,p1⟩)
    ·intro h j hj ho
     refine h ⟨.inr ⟨e,Nat.zero_le _,he,p2⟩,.inr ⟨j,Nat.zero_le _,hj,?_⟩⟩
     unfold opp at ho;omega
   ·constructor
    ·rintro h ⟨hl,_⟩
     obtain ⟨j,_,hj,hn⟩ := hl.resolve_left (by simp)
     exact h j hj (.inr ⟨hn,p1⟩)
    ·intro h j hj ho
     refine h ⟨.inr ⟨j,Nat.zero_le _,hj,?_⟩,.inr ⟨e,Nat.zero_le _,he,p2⟩⟩
     unfold opp at ho;omega
  cases b <;> cases l <;> cases r <;> first | rfl | simp at key
 ·refine ⟨false,?_,?_⟩
  ·unfold F200;rw [h1,ob_some,bif_t (by simpa using hc)]
  ·unfold F209;rw [h2,ob_some,bif_t (by simpa using hc)]
theorem areas12 (n : Nat) (f : Nat → Nat → CV) (_ : SlIn (.pr (.int .i64) (.pr (.int .i64) .nil)) n f) : F210 100 n f = some true:=by
 unfold F210
 rw [awake_law,← f43v45,← f34v38]
 obtain ⟨x,hx⟩ := f43_some n f
 obtain ⟨a,ha,_⟩ := area_law n f
 obtain ⟨b,h1,h2⟩ := conv_same n f
 simp only [hx,ha,h1,h2,ob_some]
 cases decide ((Int.ofNat n) > 60) <;> simp
end Go.Eng.R13
