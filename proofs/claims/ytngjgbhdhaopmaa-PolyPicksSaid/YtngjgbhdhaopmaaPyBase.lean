/-
 Several texts in one.
-/
import Derived.Test.YtngjgbhdhaopmaaGeo6
import Derived.Test.YtngjgbhdhaopmaaPlRv
import Derived.Test.YtngjgbhdhaopmaaPlShift
import Derived.Test.YtngjgbhdhaopmaaPlSums
import Derived.Test.YtngjgbhdhaopmaaPySort
/-
 The examples of the chapter;Check,Where.
-/
set_option linter.all false
set_option maxRecDepth 100000
namespace Go.Eng.R13
open Go Go.RowKit Go.Eng Geo
theorem awake_law : F207 100 = some true:=by kernel_rfl
end Go.Eng.R13
/-
 Moments and convexity: what the program computes of a valid polygon.
-/
set_option linter.all false
namespace Go.Eng.R13
open Go Go.RowKit Go.Eng Geo
theorem valid_code {n : Nat} {f : FF} (V : Valid n f) : F33 100 n f = some 0 ∧ F37 100 n f = some 0:=by
 obtain ⟨c,h1,h2,h3⟩ := check_law n f
 have hc := h3.2 V
 subst hc
 exact ⟨h1,h2⟩
theorem area34 {n : Nat} {f : FF} (V : Valid n f) : F34 100 n f = some (area n (pt f)):=by
 obtain ⟨a,h1,_,h2⟩ := area_law n f
 rw [h1,h2 V]
def cr (n : Nat) (p : Nat → Pt) (i : Nat) : Int := cross (p i) (p (nx n i)) (p (nx n (nx n i)))
def Cvx (n : Nat) (p : Nat → Pt) : Prop := ∀ i,i < n → ¬ opp (cr n p i) (area n p)
theorem conv200 {ρ : Type} (n : Nat) (f : FF) (a : Int) (hn : n ≤ 32) (h0 : 3 ≤ n) (hA : AllNr n f) (k0 k1 : Option ρ) : ∀ (m i : Nat),n < m + i → i ≤ n →
  ((∃ j,i ≤ j ∧ j < n ∧ opp (cr n (pt f) j) a) ∧ L200v1 100 n f (sgn a) (Int.ofNat n) m (Int.ofNat i) k0 k1 = k0) ∨ ((∀ j,i ≤ j → j < n → ¬ opp (cr n (pt f) j) a) ∧ L200v1 100 n f (sgn a) (Int.ofNat n) m (Int.ofNat i) k0 k1 = k1):=by
 intro m
 induction m with
 | zero => intro i h1 h2;omega
 | succ m ih =>
  intro i h1 h2
  unfold L200v1
  rw [lt_nat,inb_nat,toNat_nat]
  by_cases h : i < n
  ·have hx : nx n i < n := nx_lt h0
   have hy : nx n (nx n i) < n := nx_lt h0
   have e1 : (i + 1) % n = nx n i := rfl
   have e2 := nx2 h0 h
   rw [bif_t (by simpa using h),bif_t (by simpa using h),bif_f (ofNat_ne0 (by omega)),w64_succ (by omega),w64_succ2 (by omega),tmod_nat,tmod_nat,inb_nat,inb_nat,toNat_nat,toNat_nat,e1,e2,bif_t (by simpa using hx),bif_f (ofNat_ne0 (by omega)),bif_t (by simpa using hy)]
   rw [cross79 (hA i h) (hA _ hx) (hA _ hy),show cross (CV.int (f i 0),CV.int (f i 1)) (CV.int (f (nx n i) 0),CV.int (f (nx n i) 1)) (CV.int (f (nx n (nx n i)) 0),CV.int (f (nx n (nx n i)) 1)) = cr n (pt f) i from rfl,ob_some,sign86,ob_some,sgn_opp]
   by_cases ho : opp (cr n (pt f) i) a
   ·left
    refine ⟨⟨i,Nat.le_refl _,h,ho⟩,?_⟩
    rw [bif_t (decide_eq_true ho)]
   ·rw [bif_f (decide_eq_false ho)]
    rcases ih (i + 1) (by omega) (by omega) with ⟨⟨j,h3,h4,h5⟩,h6⟩ | ⟨h3,h4⟩
    ·exact .inl ⟨⟨j,by omega,h4,h5⟩,h6⟩
    ·refine .inr ⟨fun j hj hjn => ?_,h4⟩
     by_cases hji : j = i
     ·subst hji;exact ho
     ·exact h3 j (by omega) hjn
  ·rw [bif_f (by simpa using h)]
   exact .inr ⟨fun j h3 h4 => by omega,rfl⟩
theorem convex_law {n : Nat} {f : FF} (V : Valid n f) : ∃ b,F200 100 n f = some b ∧ (b = true ↔ Cvx n (pt f)):=by
 unfold F200
 have hs := V.small
 rw [(valid_code V).1,ob_some,bif_f (by rfl),area_law63 n f V.small V.big V.near,ob_some,sign86,ob_some]
 rcases conv200 n f (area n (pt f)) V.small V.big V.near (some false) (some true) 100 0 (by omega) (by omega) with ⟨⟨j,_,h4,h5⟩,h6⟩ | ⟨h3,h4⟩
 ·exact ⟨false,h6,by simp;exact fun h => h j h4 h5⟩
 ·exact ⟨true,h4,by simp;exact fun j hj => h3 j (Nat.zero_le _) hj⟩
theorem Cvx.eq {n m : Nat} {f g : FF} (V : Valid n f) (W : Valid m g) (h : Cvx n (pt f) ↔ Cvx m (pt g)) : ∃ b,F200 100 n f = some b ∧ F200 100 m g = some b:=by
 obtain ⟨b,h1,h2⟩ := convex_law V
 obtain ⟨c,h3,h4⟩ := convex_law W
 have : b = c:=by
  cases b <;> cases c <;> simp_all
 subst this
 exact ⟨b,h1,h3⟩
end Go.Eng.R13
/-
 Another first corner,and the opposite order.
-/
set_option linter.all false
set_option maxRecDepth 100000
namespace Geo
theorem nx_surj {n i : Nat} (h : 0 < n) (hi : i < n) : ∃ j,j < n ∧ nx n j = i:=by
 match i with
 | 0 => exact ⟨n - 1,by omega,by unfold nx;rw [show n - 1 + 1 = n by omega,Nat.mod_self]⟩
 | i + 1 => exact ⟨i,by omega,by unfold nx;exact Nat.mod_eq_of_lt hi⟩
end Geo
namespace Go.Eng.R13
open Go Go.RowKit Go.Eng Geo
structure Alike (s : Int) (n : Nat) (p q : Nat → Pt) : Prop where
 simple : Simple n p → Simple n q
 area : area n q = s * area n p
 on : ∀ z,OnK n q z ↔ OnK n p z
 par : ∀ z,¬ OnK n p z → par n q z = par n p z
 cvx : Cvx n q ↔ Cvx n p
 mx : sm n (mxp n q) = s * sm n (mxp n p)
 my : sm n (myp n q) = s * sm n (myp n p)
 pts : ∀ i,i < n → ∃ j,j < n ∧ q i = p j
theorem Alike.trans {s t : Int} {n : Nat} {p q r : Nat → Pt} (h : Alike s n p q) (k : Alike t n q r) : Alike (t * s) n p r where
 simple:=fun S => k.simple (h.simple S)
 area:=by rw [k.area,h.area,Int.mul_assoc]
 on:=fun z => (k.on z).trans (h.on z)
 par:=fun z hz => (k.par z (fun hh => hz ((h.on z).1 hh))).trans (h.par z hz)
 cvx := k.cvx.trans h.cvx
 mx:=by rw [k.mx,h.mx,Int.mul_assoc]
 my:=by rw [k.my,h.my,Int.mul_assoc]
 pts:=fun i hi => by
  obtain ⟨j,hj,e⟩ := k.pts i hi
  obtain ⟨l,hl,e2⟩ := h.pts j hj
  exact ⟨l,hl,e.trans e2⟩
theorem Alike.congr {s : Int} {n : Nat} (h0 : 0 < n) {p q r : Nat → Pt} (h : Alike s n p q) (e : ∀ i,i < n → r i = q i) : Alike s n p r where
 simple:=fun S => simple_congr (fun i hi => (e i hi).symm) (h.simple S)
 area:=by rw [area_congr h0 e];exact h.area
 on:=fun z => (onK_congr h0 e z).trans (h.on z)
 par:=fun z hz => (par_congr h0 e z).trans (h.par z hz)
 cvx:=by
  refine Iff.trans ?_ h.cvx
  unfold Cvx cr
  rw [area_congr h0 e]
  refine forall_congr' fun i => forall_congr' fun hi => ?_
  rw [e i hi,e _ (nx_lt' h0),e _ (nx_lt' h0)]
 mx:=by
  rw [← h.mx]
  refine sm_congr fun i hi => ?_
  unfold mxp
  rw [e i hi,e _ (nx_lt' h0)]
 my:=by
  rw [← h.my]
  refine sm_congr fun i hi => ?_
  unfold myp
  rw [e i hi,e _ (nx_lt' h0)]
 pts:=fun i hi => by rw [e i hi];exact h.pts i hi
theorem ej_nx {n j : Nat} (h3 : 3 ≤ n) (hj : j < n) : nx n (ej n (nx n j)) = ej n j:=by
 have hx : nx n j < n := nx_lt h3
 have h1 : rv n (fun i => ((i : Int),(0 : Int))) (nx n j) = (((ej n j : Nat) : Int),0):=(rv_edge (p:=fun i => ((i : Int),(0 : Int))) hj).2
 have h2 : rv n (fun i => ((i : Int),(0 : Int))) (nx n j) = (((nx n (ej n (nx n j)) : Nat) : Int),0):=(rv_edge (p:=fun i => ((i : Int),(0 : Int))) hx).1
 rw [h1] at h2
 have := congrArg Prod.fst h2
 simp at this
 omega
theorem alike_rev {n : Nat} (h3 : 3 ≤ n) (p : Nat → Pt) : Alike (-1) n p (rv n p) where
 simple := rv_simple
 area:=by rw [rv_area];omega
 on:=fun z => rv_onK
 par:=fun z hz => rv_par hz
 cvx:=by
  unfold Cvx
  rw [rv_area]
  have key : ∀ j,j < n → ∃ i,i < n ∧ cr n (rv n p) j = - cr n p i:=by
   intro j hj
   have hx : nx n j < n := nx_lt h3
   obtain ⟨e1,e2⟩ := rv_edge (p := p) hj
   obtain ⟨e3,e4⟩ := rv_edge (p := p) hx
   refine ⟨ej n (nx n j),ej_lt (by omega),?_⟩
   have e5 := ej_nx h3 hj
   unfold cr
   rw [e1,e2,e4,e5]
   unfold cross;grind
  have surj : ∀ i,i < n → ∃ j,j < n ∧ cr n (rv n p) j = - cr n p i:=by
   intro i hi
   obtain ⟨k,hk,e⟩ := nx_surj (by omega) (ej_lt (n := n) (j := i) (by omega))
   have h1 := ej_ej hi
   obtain ⟨i',hi',e'⟩ := key k hk
   have : ∃ j,j < n ∧ nx n j = ej n i := ⟨k,hk,e⟩
   refine ⟨k,hk,?_⟩
   have hx : nx n k < n := nx_lt h3
   obtain ⟨e1,e2⟩ := rv_edge (p := p) hk
   obtain ⟨e3,e4⟩ := rv_edge (p := p) hx
   have e5 := ej_nx h3 hk
   unfold cr
   rw [e1,e2,e4,← e5,e,h1]
   unfold cross;grind
  have ho : ∀ a b : Int,opp (-a) (-b) ↔ opp a b:=by intro a b;unfold opp;omega
  constructor
  ·intro h i hi hh
   obtain ⟨j,hj,e⟩ := surj i hi
   exact h j hj (by rw [e];exact (ho _ _).2 hh)
  ·intro h j hj hh
   obtain ⟨i,hi,e⟩ := key j hj
   rw [e] at hh
   exact h i hi ((ho _ _).1 hh)
 mx:=by
  have : sm n (mxp n (rv n p)) = sm n fun j => (fun e => - mxp n p e) (ej n j) := sm_congr fun j hj => by
   obtain ⟨e1,e2⟩ := rv_edge (p := p) hj
   show mxp n (rv n p) j = - mxp n p (ej n j)
   unfold mxp;rw [e1,e2];grind
  rw [this.trans (sm_ej n (fun e => - mxp n p e)),← sm_mul]
  exact sm_congr fun i _ => by omega
 my:=by
  have : sm n (myp n (rv n p)) = sm n fun j => (fun e => - myp n p e) (ej n j) := sm_congr fun j hj => by
   obtain ⟨e1,e2⟩ := rv_edge (p := p) hj
   show myp n (rv n p) j = - myp n p (ej n j)
   unfold myp;rw [e1,e2];grind
  rw [this.trans (sm_ej n (fun e => - myp n p e)),← sm_mul]
  exact sm_congr fun i _ => by omega
 pts:=fun i hi => ⟨n - 1 - i,by omega,rfl⟩
theorem onC_K {n : Nat} {p : Nat → Pt} {q : Pt} : OnC n p q 0 ↔ OnK n p q := ⟨fun ⟨j,_,h,h'⟩ => ⟨j,h,h'⟩,fun ⟨j,h,h'⟩ => ⟨j,Nat.zero_le _,h,h'⟩⟩
theorem Are.pt {P : Nat → Int × Int} {g : FF} {n : Nat} (h : Are P g n) {i : Nat} (hi : i < n) : R13.pt g i = P i:=by
 obtain ⟨h1,h2⟩ := h i hi
 show (CV.int (g i 0),CV.int (g i 1)) = P i
 rw [h1,h2];rfl
end Go.Eng.R13
/-
 One side of the hull: what chain returns.
-/
set_option linter.all false
namespace Go.Eng.R13
open Go Go.RowKit Go.Eng Geo
end Go.Eng.R13
/-
 Hull: what the program returns.
-/
set_option linter.all false
set_option maxRecDepth 100000
namespace Go.Eng.R13
open Go Go.RowKit Go.Eng Geo
end Go.Eng.R13
/-
 Hull: what the reference returns.
-/
set_option linter.all false
set_option maxRecDepth 100000
namespace Go.Eng.R13
open Go Go.RowKit Go.Eng Geo
end Go.Eng.R13
/-
 Hull and Bounds: the program's and the reference's.
-/
set_option linter.all false
set_option maxRecDepth 100000
namespace Go.Eng.R13
open Go Go.RowKit Go.Eng Geo
theorem bounds_loop215 {ρ : Type} (u n : Nat) (f : FF) (k0 : Int → Int → Int → Int → Option ρ) (hn : n ≤ 9223372036854775807) : ∀ (m i : Nat) (p q r s : Int),n < m + i → i ≤ n → (0 < i → Bds f i p q r s) →
  ∃ p' q' r' s',L215v1 u n f m (Int.ofNat i) p q r s k0 = k0 p' q' r' s' ∧ (0 < n → Bds f n p' q' r' s') ∧ (n = 0 → p' = p ∧ q' = q ∧ r' = r ∧ s' = s):=by
 intro m
 induction m with
 | zero => intro i p q r s h1 h2;omega
 | succ m ih =>
  intro i p q r s h1 h2 hB
  unfold L215v1
  rw [lt_nat,inb_nat,toNat_nat]
  by_cases h : i < n
  ·rw [bif_t (by simpa using h),w64_succ (by omega)]
   have hd := decide_eq_true h
   by_cases h0 : i = 0
   ·subst h0
    have hd0 : inb 0 n = true:=by rw [show inb 0 n = inb (Int.ofNat 0) n from rfl,inb_nat];exact hd
    rw [bif_t (by simp),bif_t hd0,bif_t hd0,bif_t hd,bif_t hd,bif_t hd,bif_t hd]
    obtain ⟨p',q',r',s',a1,a2,a3⟩ := ih 1 (if (CV.int (f 0 0)) < (CV.int (f 0 0)) then (CV.int (f 0 0)) else (CV.int (f 0 0))) (if (CV.int (f 0 1)) < (CV.int (f 0 1)) then (CV.int (f 0 1)) else (CV.int (f 0 1))) (if (CV.int (f 0 0)) > (CV.int (f 0 0)) then (CV.int (f 0 0)) else (CV.int (f 0 0))) (if (CV.int (f 0 1)) > (CV.int (f 0 1)) then (CV.int (f 0 1)) else (CV.int (f 0 1))) (by omega) (by omega) (fun _ => by
     simp only [gt_iff_lt,ite_self]
     refine ⟨fun j hj => ?_,fun _ => ⟨⟨0,by omega,rfl⟩,⟨0,by omega,rfl⟩,⟨0,by omega,rfl⟩,⟨0,by omega,rfl⟩⟩⟩
     have : j = 0:=by omega
     subst this
     exact ⟨Int.le_refl _,Int.le_refl _,Int.le_refl _,Int.le_refl _⟩)
    exact ⟨p',q',r',s',a1,a2,fun hh => by omega⟩
   ·rw [bif_f (by simp [h0]),bif_t hd,bif_t hd,bif_t hd,bif_t hd]
    obtain ⟨p',q',r',s',a1,a2,a3⟩ := ih (i + 1) _ _ _ _ (by omega) (by omega) fun _ => (hB (by omega)).step (by omega) rfl rfl rfl rfl
    exact ⟨p',q',r',s',a1,a2,fun hh => by omega⟩
  ·rw [bif_f (by simpa using h)]
   have : i = n:=by omega
   subst this
   exact ⟨p,q,r,s,rfl,hB,fun _ => ⟨rfl,rfl,rfl,rfl⟩⟩
end Go.Eng.R13
/-
 Pick's theorem,as the program counts.
-/
set_option linter.all false
set_option maxRecDepth 100000
namespace Go.Eng.R13
open Go Go.RowKit Go.Eng Geo
def whF (n : Nat) (f : FF) (z : Pt) : Int := match F65 100 n f z.1 z.2 with
 | some w => w + 1
 | none => 0
theorem whF_val {n : Nat} {f : FF} (V : Valid n f) {x y : Int} (hq : nr x y) : F65 100 n f x y = some (whF n f (x,y) - 1) ∧ (0 ≤ whF n f (x,y) ∧ whF n f (x,y) ≤ 2) ∧ (OnK n (pt f) (x,y) → whF n f (x,y) = 1) ∧ (¬ OnK n (pt f) (x,y) → whF n f (x,y) = if par n (pt f) (x,y) = true then 2 else 0):=by
 obtain ⟨w,h1,_,h2⟩ := where_law n f x y
 have e : whF n f (x,y) = w + 1:=by unfold whF;rw [h1]
 obtain ⟨k1,k2⟩ := h2.1 ⟨V,hq⟩
 rw [e,h1]
 have r := h2.range
 refine ⟨by congr 1;omega,by omega,fun h => ?_,fun h => ?_⟩
 ·rw [k1 (onC_K.2 h)];rfl
 ·rw [k2 (fun hh => h (onC_K.1 hh))]
  split <;> rfl
theorem inner219 {ρ : Type} {n : Nat} {f : FF} (u : Nat) (V : Valid n f) (x a b c ly hy : Int) (NY : Nat) (hNY : hy = ly + NY - 1) (h41 : NY ≤ 41) (hnr : ∀ j : Nat,j < NY → nr x (ly + j)) (S0 : Int) (hS : 0 ≤ S0 ∧ S0 ≤ 100000) (k0 : Int → Option ρ) : ∀ (m j : Nat),NY < m + j → j ≤ NY →
  L219v2 u n f x a b c hy m (S0 + sm j (fun j => whF n f (x,ly + j))) (ly + j) k0 = k0 (S0 + sm NY (fun j => whF n f (x,ly + j))):=by
 have bd : ∀ j,j ≤ NY → 0 ≤ sm j (fun j => whF n f (x,ly + j)) ∧ sm j (fun j => whF n f (x,ly + j)) ≤ 2 * j:=by
  intro j
  induction j with
  | zero => intro _;simp [sm]
  | succ j ih =>
   intro h
   have h1 := ih (by omega)
   have h2:=(whF_val V (hnr j (by omega))).2.1
   rw [sm]
   omega
 intro m
 induction m with
 | zero => intro j h1 h2;omega
 | succ m ih =>
  intro j h1 h2
  unfold L219v2
  by_cases hj : j < NY
  ·have hv := whF_val V (hnr j hj)
   have b1 := bd j (by omega)
   have hn := hnr j hj
   unfold nr at hn
   rw [bif_t (decide_eq_true (by omega)),hv.1,ob_some]
   have e1 : w64 (w64 (S0 + sm j (fun j => whF n f (x,ly + j)) + (whF n f (x,ly + j) - 1)) + 1) = S0 + sm (j + 1) (fun j => whF n f (x,ly + j)):=by
    rw [sm,w64_of (n := S0 + sm j (fun j => whF n f (x,ly + j)) + (whF n f (x,ly + j) - 1)) (by omega) (by omega),w64_of (by omega) (by omega)]
    omega
   have e2 : w64 (ly + j + 1) = ly + ((j + 1 : Nat) : Int):=by rw [w64_of] <;> omega
   rw [e1,e2]
   exact ih (j + 1) (by omega) (by omega)
  ·have : j = NY:=by omega
   subst this
   rw [bif_f (decide_eq_false (by omega))]
theorem outer219 {ρ : Type} {n : Nat} {f : FF} (u : Nat) (hu : 100 ≤ u) (V : Valid n f) (lx ly hx hy : Int) (N NY : Nat) (hN : hx = lx + N - 1) (hNY : hy = ly + NY - 1) (h41 : N ≤ 41) (h41' : NY ≤ 41) (hnr : ∀ i : Nat,i < N → ∀ j : Nat,j < NY → nr (lx + i) (ly + j)) (hlx : -32768 ≤ lx ∧ lx ≤ 32768) (k0 : Int → Option ρ) : ∀ (m i : Nat),N < m + i → i ≤ N →
  L219v3 u n f lx ly hx hy m (sm i (fun i => sm NY (fun j => whF n f (lx + i,ly + j)))) (lx + i) k0 = k0 (sm N (fun i => sm NY (fun j => whF n f (lx + i,ly + j)))):=by
 have bd : ∀ i,i ≤ N → 0 ≤ sm i (fun i => sm NY (fun j => whF n f (lx + i,ly + j))) ∧ sm i (fun i => sm NY (fun j => whF n f (lx + i,ly + j))) ≤ 82 * i:=by
  intro i
  induction i with
  | zero => intro _;simp [sm]
  | succ i ih =>
   intro h
   have h1 := ih (by omega)
   have h2 : 0 ≤ sm NY (fun j => whF n f (lx + i,ly + j)) := sm_nonneg fun j hj => (whF_val V (hnr i (by omega) j hj)).2.1.1
   have h3 := sm_le (n := NY) (f:=fun j => whF n f (lx + i,ly + j)) (g:=fun _ => 2) (fun j hj => (whF_val V (hnr i (by omega) j hj)).2.1.2)
   rw [sm_const] at h3
   rw [sm]
   omega
 intro m
 induction m with
 | zero => intro i h1 h2;omega
 | succ m ih =>
  intro i h1 h2
  unfold L219v3
  by_cases hi : i < N
  ·have b1 := bd i (by omega)
   have inn := inner219 (ρ := ρ) u V (lx + i) lx ly hx ly hy NY hNY h41' (fun j hj => hnr i hi j hj) (sm i (fun i => sm NY (fun j => whF n f (lx + i,ly + j)))) (by omega)
    (fun x58 => (L219v3 u n f lx ly hx hy m x58 (w64 (lx + i + 1)) k0)) u 0 (by omega) (by omega)
   have e0 : sm i (fun i => sm NY (fun j => whF n f (lx + i,ly + j))) + sm 0 (fun j => whF n f (lx + i,ly + j)) = sm i (fun i => sm NY (fun j => whF n f (lx + i,ly + j))):=by
    show _ + 0 = _
    omega
   have e1 : ly + ((0 : Nat) : Int) = ly:=by omega
   rw [e0,e1] at inn
   rw [bif_t (decide_eq_true (by omega)),inn]
   have e2 : w64 (lx + i + 1) = lx + ((i + 1 : Nat) : Int):=by rw [w64_of] <;> omega
   rw [e2]
   exact ih (i + 1) (by omega) (by omega)
  ·have : i = N:=by omega
   subst this
   rw [bif_f (decide_eq_false (by omega))]
theorem picks12 (n0c0 : Nat) (f0c0 : Nat → Nat → CV) (h0c0 : SlIn (.pr (.int .i64) (.pr (.int .i64) .nil)) n0c0 f0c0) : F219 (n0c0 + 100) n0c0 f0c0 = some true:=by
 have hn : n0c0 ≤ 9223372036854775807 := h0c0.1
 generalize n0c0 = n at *
 generalize f0c0 = f at *
 unfold F219
 rw [awake_law]
 have hB : ∃ p q r s,F215 (n + 100) n f = some (p,q,r,s) ∧ (0 < n → Bds f n p q r s):=by
  unfold F215
  obtain ⟨p',q',r',s',a1,a2,_⟩ := bounds_loop215 (n + 100) n f (fun x16 x17 x18 x19 => (some (x16,x17,x18,x19))) hn (n + 100) 0 0 0 0 0 (by omega) (by omega) (fun h => absurd h (by omega))
  exact ⟨p',q',r',s',a1,a2⟩
 obtain ⟨lx,ly,hx,hy,hb1,hb2⟩ := hB
 obtain ⟨c,_,h2,h3⟩ := check_law n f
 rw [hb1,ob_some,h2,ob_some]
 dsimp only
 by_cases hc : c = 0
 ·have V := h3.1 hc
  have hbig := V.big
  have hs := V.small
  rw [bif_t (by simp [hc])]
  have B := hb2 (by omega)
  obtain ⟨⟨j1,g1,e1⟩,⟨j2,g2,e2⟩,⟨j3,g3,e3⟩,⟨j4,g4,e4⟩⟩ := B.2 (by omega)
  have v1 := V.near j1 g1
  have v2 := V.near j2 g2
  have v3 := V.near j3 g3
  have v4 := V.near j4 g4
  have o1 := B.1 j1 g1
  have o2 := B.1 j2 g2
  unfold nr at v1 v2 v3 v4
  have w1 : w64 (hx - lx) = hx - lx := w64_of (by omega) (by omega)
  have w2 : w64 (hy - ly) = hy - ly := w64_of (by omega) (by omega)
  rw [w1,w2]
  by_cases hdx : hx - lx > 40
  ·rw [bif_f (by rw [decide_eq_true hdx];rfl)];rfl
  rw [bif_t (by rw [decide_eq_false hdx];rfl)]
  by_cases hdy : hy - ly > 40
  ·rw [bif_t (decide_eq_true hdy)];rfl
  rw [bif_f (decide_eq_false hdy)]
  obtain ⟨N,hN⟩ : ∃ N : Nat,hx = lx + N - 1 := ⟨(hx - lx + 1).toNat,by omega⟩
  obtain ⟨NY,hNY⟩ : ∃ NY : Nat,hy = ly + NY - 1 := ⟨(hy - ly + 1).toNat,by omega⟩
  have hnr : ∀ i : Nat,i < N → ∀ j : Nat,j < NY → nr (lx + i) (ly + j):=by
   intro i hi j hj
   unfold nr
   omega
  have out := outer219 (ρ := Bool) (n + 100) (by omega) V lx ly hx hy N NY hN hNY (by omega) (by omega) hnr (by omega)
   (fun x60 => (ob (F34 100 n f) fun x61 => (bif (((if (w64 (0 - x61)) > x61 then (w64 (0 - x61)) else x61) == (w64 (x60 - 2))) == true) then (ob (some true) fun x62 => (some x62)) else (some false)))) (n + 100) 0 (by omega) (by omega)
  have e5 : lx + ((0 : Nat) : Int) = lx:=by omega
  have e6 : sm 0 (fun i => sm NY (fun j => whF n f (lx + i,ly + j))) = 0 := rfl
  rw [e5,e6] at out
  rw [out,area34 V,ob_some]
  have bx : ∀ i,i < n → lx ≤ (pt f i).1 ∧ (pt f i).1 ≤ lx + N - 1:=fun i hi => by
   have := B.1 i hi
   show lx ≤ CV.int (f i 0) ∧ CV.int (f i 0) ≤ lx + N - 1
   omega
  have byy : ∀ i,i < n → ly ≤ (pt f i).2 ∧ (pt f i).2 ≤ ly + NY - 1:=fun i hi => by
   have := B.1 i hi
   show ly ≤ CV.int (f i 1) ∧ CV.int (f i 1) ≤ ly + NY - 1
   omega
  have ba := asum_bd V.big V.near n (Nat.le_refl _)
  have ba' : sm n (aterm n f) = area n (pt f) := rfl
  rw [ba'] at ba
  have hne := area_simple V.simple
  have hw : ∀ i,i < N → ∀ j,j < NY → _:=fun i hi j hj => (whF_val V (hnr i hi j hj)).2.2
  have tot : sm N (fun i => sm NY (fun j => whF n f (lx + i,ly + j))) = (if 0 < area n (pt f) then area n (pt f) else - area n (pt f)) + 2:=by
   rcases Int.lt_or_lt_of_ne hne with hneg | hpos
   ·rw [if_neg (by omega)]
    have al := alike_rev V.big (pt f)
    have := pick (L := lx) (Y := ly) (N := N) (NY := NY) (al.simple V.simple) (by rw [al.area];omega) (fun i hi => by
     obtain ⟨r,hr,e⟩ := al.pts i hi
     rw [e];exact bx r hr) (fun i hi => by
     obtain ⟨r,hr,e⟩ := al.pts i hi
     rw [e];exact byy r hr) (whF n f) (fun i hi j hj => by
     have h := hw i hi j hj
     refine ⟨fun k => h.1 ((al.on _).1 k),fun k => ?_⟩
     have k' : ¬ OnK n (pt f) (lx + (i : Int),ly + (j : Int)):=fun kk => k ((al.on _).2 kk)
     rw [al.par _ k']
     exact h.2 k')
    rw [this,al.area];omega
   ·rw [if_pos hpos]
    exact pick (L := lx) (Y := ly) (N := N) (NY := NY) V.simple hpos bx byy (whF n f) (fun i hi j hj => hw i hi j hj)
  rw [tot]
  have f1 : w64 (0 - area n (pt f)) = - area n (pt f):=by rw [w64_of] <;> omega
  have f2 : w64 ((if 0 < area n (pt f) then area n (pt f) else - area n (pt f)) + 2 - 2) = if 0 < area n (pt f) then area n (pt f) else - area n (pt f):=by
   rw [w64_of] <;> split <;> omega
  rw [f1,f2]
  have f3 : (if - area n (pt f) > area n (pt f) then - area n (pt f) else area n (pt f)) = if 0 < area n (pt f) then area n (pt f) else - area n (pt f):=by
   split <;> split <;> omega
  rw [f3,bif_t (by simp)]
  rfl
 ·rw [bif_f (by simp [hc])]
  rfl
end Go.Eng.R13
