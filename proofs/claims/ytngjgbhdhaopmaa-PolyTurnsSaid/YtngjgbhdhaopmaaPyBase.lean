/-
 Several texts in one.
-/
import Derived.Test.YtngjgbhdhaopmaaPlRv
import Derived.Test.YtngjgbhdhaopmaaPlShift
import Derived.Test.YtngjgbhdhaopmaaPlSums
import Derived.Test.YtngjgbhdhaopmaaPySort
/-
 The examples of the chapter;Check,Where.
-/
set_option linter.all false
set_option maxRecDepth 100000
namespace Go.Eng.R13
open Go Go.RowKit Go.Eng Geo
theorem awake_law : F207 100 = some true:=by kernel_rfl
end Go.Eng.R13
/-
 Moments and convexity: what the program computes of a valid polygon.
-/
set_option linter.all false
namespace Go.Eng.R13
open Go Go.RowKit Go.Eng Geo
def mxt (n : Nat) (f : FF) (i : Nat) : Int:=((pt f i).1 + (pt f (nx n i)).1) * aterm n f i
def myt (n : Nat) (f : FF) (i : Nat) : Int:=((pt f i).2 + (pt f (nx n i)).2) * aterm n f i
theorem mt_bd {n : Nat} {f : FF} (h0 : 3 ≤ n) (hA : AllNr n f) {i : Nat} (hi : i < n) : (-140737488355328 ≤ mxt n f i ∧ mxt n f i ≤ 140737488355328) ∧ (-140737488355328 ≤ myt n f i ∧ myt n f i ≤ 140737488355328):=by
 have h1 := hA i hi
 have h2 := hA _ (nx_lt (i := i) h0)
 have h3 := aterm_bd h0 hA hi
 unfold nr at h1 h2
 have k1 := mul_bd (x := CV.int (f i 0) + CV.int (f (nx n i) 0)) (y := aterm n f i) (A := 65536) (B := 2147483648) (by omega) (by omega) (by omega) (by omega)
 have k2 := mul_bd (x := CV.int (f i 1) + CV.int (f (nx n i) 1)) (y := aterm n f i) (A := 65536) (B := 2147483648) (by omega) (by omega) (by omega) (by omega)
 unfold mxt myt
 dsimp only [pt]
 omega
theorem ms_bd {n : Nat} {f : FF} (h0 : 3 ≤ n) (hA : AllNr n f) : ∀ i,i ≤ n → (-140737488355328 * (i : Int) ≤ sm i (mxt n f) ∧ sm i (mxt n f) ≤ 140737488355328 * (i : Int)) ∧ (-140737488355328 * (i : Int) ≤ sm i (myt n f) ∧ sm i (myt n f) ≤ 140737488355328 * (i : Int))
 | 0,_ => by simp [sm]
 | i + 1,h => by
  have h1 := ms_bd h0 hA i (by omega)
  have h2 := mt_bd h0 hA (i := i) (by omega)
  rw [sm,sm]
  omega
theorem mom43 {ρ : Type} (n : Nat) (f : FF) (hn : n ≤ 32) (h0 : 3 ≤ n) (hA : AllNr n f) (k0 : Int → Int → Option ρ) : ∀ (m i : Nat),n < m + i → i ≤ n →
  L43v1 100 n f (Int.ofNat n) m (sm i (mxt n f)) (sm i (myt n f)) (Int.ofNat i) k0 = k0 (sm n (mxt n f)) (sm n (myt n f)):=by
 intro m
 induction m with
 | zero => intro i h1 h2;omega
 | succ m ih =>
  intro i h1 h2
  unfold L43v1
  rw [lt_nat,inb_nat,toNat_nat]
  by_cases h : i < n
  ·have hx : nx n i < n := nx_lt h0
   have e1 : (i + 1) % n = nx n i := rfl
   have b1 := term_bd (hA i h) (hA _ hx)
   have b2 := ms_bd h0 hA i h2
   have b3 := ms_bd h0 hA (i + 1) (by omega)
   have b4 := aterm_bd h0 hA h
   have b5 := mt_bd h0 hA h
   have n1 := hA i h
   have n2 := hA _ hx
   unfold nr at n1 n2
   have ea : (CV.int (f i 0)) * (CV.int (f (nx n i) 1)) - (CV.int (f (nx n i) 0)) * (CV.int (f i 1)) = aterm n f i := rfl
   have ex : (CV.int (f i 0) + CV.int (f (nx n i) 0)) * aterm n f i = mxt n f i := rfl
   have ey : (CV.int (f i 1) + CV.int (f (nx n i) 1)) * aterm n f i = myt n f i := rfl
   have e2 : sm (i + 1) (mxt n f) = sm i (mxt n f) + mxt n f i := rfl
   have e3 : sm (i + 1) (myt n f) = sm i (myt n f) + myt n f i := rfl
   rw [bif_t (by simpa using h),bif_t (by simpa using h),bif_f (ofNat_ne0 (by omega)),w64_succ (by omega),tmod_nat,inb_nat,toNat_nat,e1,bif_t (by simpa using hx)]
   rw [w64_of (n := CV.int (f i 0) * CV.int (f (nx n i) 1)) (by omega) (by omega),w64_of (n := CV.int (f (nx n i) 0) * CV.int (f i 1)) (by omega) (by omega),ea,w64_of (n := aterm n f i) (by omega) (by omega)]
   rw [w64_of (n := CV.int (f i 0) + CV.int (f (nx n i) 0)) (by omega) (by omega),w64_of (n := CV.int (f i 1) + CV.int (f (nx n i) 1)) (by omega) (by omega),ex,ey,w64_of (n := mxt n f i) (by omega) (by omega),w64_of (n := myt n f i) (by omega) (by omega)]
   rw [w64_of (n := sm i (mxt n f) + mxt n f i) (by omega) (by omega),w64_of (n := sm i (myt n f) + myt n f i) (by omega) (by omega),← e2,← e3]
   exact ih (i + 1) (by omega) (by omega)
  ·rw [bif_f (by simpa using h)]
   have : i = n:=by omega
   rw [this]
theorem moment_law {n : Nat} {f : FF} (V : Valid n f) : F43 100 n f = some (sm n (mxt n f),sm n (myt n f)):=by
 unfold F43
 obtain ⟨c,h1,_,h3⟩ := check_law n f
 have hc := h3.2 V
 subst hc
 have hs := V.small
 rw [h1,ob_some,bif_f (by rfl)]
 exact mom43 n f V.small V.big V.near (fun x15 x16 => some (x15,x16)) 100 0 (by omega) (by omega)
theorem valid_code {n : Nat} {f : FF} (V : Valid n f) : F33 100 n f = some 0 ∧ F37 100 n f = some 0:=by
 obtain ⟨c,h1,h2,h3⟩ := check_law n f
 have hc := h3.2 V
 subst hc
 exact ⟨h1,h2⟩
theorem area34 {n : Nat} {f : FF} (V : Valid n f) : F34 100 n f = some (area n (pt f)):=by
 obtain ⟨a,h1,_,h2⟩ := area_law n f
 rw [h1,h2 V]
def cr (n : Nat) (p : Nat → Pt) (i : Nat) : Int := cross (p i) (p (nx n i)) (p (nx n (nx n i)))
def Cvx (n : Nat) (p : Nat → Pt) : Prop := ∀ i,i < n → ¬ opp (cr n p i) (area n p)
theorem conv200 {ρ : Type} (n : Nat) (f : FF) (a : Int) (hn : n ≤ 32) (h0 : 3 ≤ n) (hA : AllNr n f) (k0 k1 : Option ρ) : ∀ (m i : Nat),n < m + i → i ≤ n →
  ((∃ j,i ≤ j ∧ j < n ∧ opp (cr n (pt f) j) a) ∧ L200v1 100 n f (sgn a) (Int.ofNat n) m (Int.ofNat i) k0 k1 = k0) ∨ ((∀ j,i ≤ j → j < n → ¬ opp (cr n (pt f) j) a) ∧ L200v1 100 n f (sgn a) (Int.ofNat n) m (Int.ofNat i) k0 k1 = k1):=by
 intro m
 induction m with
 | zero => intro i h1 h2;omega
 | succ m ih =>
  intro i h1 h2
  unfold L200v1
  rw [lt_nat,inb_nat,toNat_nat]
  by_cases h : i < n
  ·have hx : nx n i < n := nx_lt h0
   have hy : nx n (nx n i) < n := nx_lt h0
   have e1 : (i + 1) % n = nx n i := rfl
   have e2 := nx2 h0 h
   rw [bif_t (by simpa using h),bif_t (by simpa using h),bif_f (ofNat_ne0 (by omega)),w64_succ (by omega),w64_succ2 (by omega),tmod_nat,tmod_nat,inb_nat,inb_nat,toNat_nat,toNat_nat,e1,e2,bif_t (by simpa using hx),bif_f (ofNat_ne0 (by omega)),bif_t (by simpa using hy)]
   rw [cross79 (hA i h) (hA _ hx) (hA _ hy),show cross (CV.int (f i 0),CV.int (f i 1)) (CV.int (f (nx n i) 0),CV.int (f (nx n i) 1)) (CV.int (f (nx n (nx n i)) 0),CV.int (f (nx n (nx n i)) 1)) = cr n (pt f) i from rfl,ob_some,sign86,ob_some,sgn_opp]
   by_cases ho : opp (cr n (pt f) i) a
   ·left
    refine ⟨⟨i,Nat.le_refl _,h,ho⟩,?_⟩
    rw [bif_t (decide_eq_true ho)]
   ·rw [bif_f (decide_eq_false ho)]
    rcases ih (i + 1) (by omega) (by omega) with ⟨⟨j,h3,h4,h5⟩,h6⟩ | ⟨h3,h4⟩
    ·exact .inl ⟨⟨j,by omega,h4,h5⟩,h6⟩
    ·refine .inr ⟨fun j hj hjn => ?_,h4⟩
     by_cases hji : j = i
     ·subst hji;exact ho
     ·exact h3 j (by omega) hjn
  ·rw [bif_f (by simpa using h)]
   exact .inr ⟨fun j h3 h4 => by omega,rfl⟩
theorem convex_law {n : Nat} {f : FF} (V : Valid n f) : ∃ b,F200 100 n f = some b ∧ (b = true ↔ Cvx n (pt f)):=by
 unfold F200
 have hs := V.small
 rw [(valid_code V).1,ob_some,bif_f (by rfl),area_law63 n f V.small V.big V.near,ob_some,sign86,ob_some]
 rcases conv200 n f (area n (pt f)) V.small V.big V.near (some false) (some true) 100 0 (by omega) (by omega) with ⟨⟨j,_,h4,h5⟩,h6⟩ | ⟨h3,h4⟩
 ·exact ⟨false,h6,by simp;exact fun h => h j h4 h5⟩
 ·exact ⟨true,h4,by simp;exact fun j hj => h3 j (Nat.zero_le _) hj⟩
theorem Cvx.eq {n m : Nat} {f g : FF} (V : Valid n f) (W : Valid m g) (h : Cvx n (pt f) ↔ Cvx m (pt g)) : ∃ b,F200 100 n f = some b ∧ F200 100 m g = some b:=by
 obtain ⟨b,h1,h2⟩ := convex_law V
 obtain ⟨c,h3,h4⟩ := convex_law W
 have : b = c:=by
  cases b <;> cases c <;> simp_all
 subst this
 exact ⟨b,h1,h3⟩
end Go.Eng.R13
/-
 Another first corner,and the opposite order.
-/
set_option linter.all false
set_option maxRecDepth 100000
namespace Geo
theorem nx_surj {n i : Nat} (h : 0 < n) (hi : i < n) : ∃ j,j < n ∧ nx n j = i:=by
 match i with
 | 0 => exact ⟨n - 1,by omega,by unfold nx;rw [show n - 1 + 1 = n by omega,Nat.mod_self]⟩
 | i + 1 => exact ⟨i,by omega,by unfold nx;exact Nat.mod_eq_of_lt hi⟩
def mxp (n : Nat) (p : Nat → Pt) (i : Nat) : Int:=((p i).1 + (p (nx n i)).1) * ((p i).1 * (p (nx n i)).2 - (p (nx n i)).1 * (p i).2)
def myp (n : Nat) (p : Nat → Pt) (i : Nat) : Int:=((p i).2 + (p (nx n i)).2) * ((p i).1 * (p (nx n i)).2 - (p (nx n i)).1 * (p i).2)
end Geo
namespace Go.Eng.R13
open Go Go.RowKit Go.Eng Geo
structure Alike (s : Int) (n : Nat) (p q : Nat → Pt) : Prop where
 simple : Simple n p → Simple n q
 area : area n q = s * area n p
 on : ∀ z,OnK n q z ↔ OnK n p z
 par : ∀ z,¬ OnK n p z → par n q z = par n p z
 cvx : Cvx n q ↔ Cvx n p
 mx : sm n (mxp n q) = s * sm n (mxp n p)
 my : sm n (myp n q) = s * sm n (myp n p)
 pts : ∀ i,i < n → ∃ j,j < n ∧ q i = p j
theorem Alike.trans {s t : Int} {n : Nat} {p q r : Nat → Pt} (h : Alike s n p q) (k : Alike t n q r) : Alike (t * s) n p r where
 simple:=fun S => k.simple (h.simple S)
 area:=by rw [k.area,h.area,Int.mul_assoc]
 on:=fun z => (k.on z).trans (h.on z)
 par:=fun z hz => (k.par z (fun hh => hz ((h.on z).1 hh))).trans (h.par z hz)
 cvx := k.cvx.trans h.cvx
 mx:=by rw [k.mx,h.mx,Int.mul_assoc]
 my:=by rw [k.my,h.my,Int.mul_assoc]
 pts:=fun i hi => by
  obtain ⟨j,hj,e⟩ := k.pts i hi
  obtain ⟨l,hl,e2⟩ := h.pts j hj
  exact ⟨l,hl,e.trans e2⟩
theorem Alike.congr {s : Int} {n : Nat} (h0 : 0 < n) {p q r : Nat → Pt} (h : Alike s n p q) (e : ∀ i,i < n → r i = q i) : Alike s n p r where
 simple:=fun S => simple_congr (fun i hi => (e i hi).symm) (h.simple S)
 area:=by rw [area_congr h0 e];exact h.area
 on:=fun z => (onK_congr h0 e z).trans (h.on z)
 par:=fun z hz => (par_congr h0 e z).trans (h.par z hz)
 cvx:=by
  refine Iff.trans ?_ h.cvx
  unfold Cvx cr
  rw [area_congr h0 e]
  refine forall_congr' fun i => forall_congr' fun hi => ?_
  rw [e i hi,e _ (nx_lt' h0),e _ (nx_lt' h0)]
 mx:=by
  rw [← h.mx]
  refine sm_congr fun i hi => ?_
  unfold mxp
  rw [e i hi,e _ (nx_lt' h0)]
 my:=by
  rw [← h.my]
  refine sm_congr fun i hi => ?_
  unfold myp
  rw [e i hi,e _ (nx_lt' h0)]
 pts:=fun i hi => by rw [e i hi];exact h.pts i hi
theorem alike_refl (n : Nat) (p : Nat → Pt) : Alike 1 n p p := ⟨id,(Int.one_mul _).symm,fun _ => Iff.rfl,fun _ _ => rfl,Iff.rfl,(Int.one_mul _).symm,(Int.one_mul _).symm,fun i hi => ⟨i,hi,rfl⟩⟩
theorem alike_next {n : Nat} (h3 : 3 ≤ n) (p : Nat → Pt) : Alike 1 n p (fun i => p (nx n i)) where
 simple:=fun S => by
  refine ⟨S.big,fun i j hi hj hne => S.dist _ _ (nx_lt h3) (nx_lt h3) (fun h => hne (nx_inj hi hj h)),fun e he => S.corner _ (nx_lt h3),fun e i he hi h1 h2 h4 => ?_⟩
  exact S.apart _ _ (nx_lt h3) (nx_lt h3) (fun h => h1 (nx_inj hi he h)) (fun h => h2 (nx_inj hi (nx_lt h3) h)) (fun h => h4 (nx_inj (nx_lt h3) he h))
 area:=by rw [Int.one_mul];exact sm_next n fun i => (p i).1 * (p (nx n i)).2 - (p (nx n i)).1 * (p i).2
 on:=fun z => by
  constructor
  ·rintro ⟨j,hj,h⟩;exact ⟨_,nx_lt h3,h⟩
  ·rintro ⟨j,hj,h⟩
   obtain ⟨i,hi,rfl⟩ := nx_surj (by omega) hj
   exact ⟨i,hi,h⟩
 par:=fun z _ => xs_next n fun i => rc z (p i) (p ((i + 1) % n))
 cvx:=by
  unfold Cvx
  have ha : area n (fun i => p (nx n i)) = area n p := sm_next n fun i => (p i).1 * (p (nx n i)).2 - (p (nx n i)).1 * (p i).2
  rw [ha]
  constructor
  ·intro h i hi
   obtain ⟨j,hj,rfl⟩ := nx_surj (by omega) hi
   exact h j hj
  ·intro h i hi;exact h _ (nx_lt h3)
 mx:=by rw [Int.one_mul];exact sm_next n (mxp n p)
 my:=by rw [Int.one_mul];exact sm_next n (myp n p)
 pts:=fun i _ => ⟨nx n i,nx_lt h3,rfl⟩
theorem alike_turn {n : Nat} (h3 : 3 ≤ n) (p : Nat → Pt) : ∀ k,Alike 1 n p (fun i => p ((i + k) % n))
 | 0 => (alike_refl n p).congr (by omega) fun i hi => by rw [Nat.add_zero,Nat.mod_eq_of_lt hi]
 | k + 1 => ((alike_turn h3 p k).trans (alike_next h3 _)).congr (by omega) fun i _ => by
  show p ((i + (k + 1)) % n) = p ((nx n i + k) % n)
  unfold nx
  rw [Nat.mod_add_mod,Nat.add_assoc,Nat.add_comm 1 k]
theorem ej_nx {n j : Nat} (h3 : 3 ≤ n) (hj : j < n) : nx n (ej n (nx n j)) = ej n j:=by
 have hx : nx n j < n := nx_lt h3
 have h1 : rv n (fun i => ((i : Int),(0 : Int))) (nx n j) = (((ej n j : Nat) : Int),0):=(rv_edge (p:=fun i => ((i : Int),(0 : Int))) hj).2
 have h2 : rv n (fun i => ((i : Int),(0 : Int))) (nx n j) = (((nx n (ej n (nx n j)) : Nat) : Int),0):=(rv_edge (p:=fun i => ((i : Int),(0 : Int))) hx).1
 rw [h1] at h2
 have := congrArg Prod.fst h2
 simp at this
 omega
theorem alike_rev {n : Nat} (h3 : 3 ≤ n) (p : Nat → Pt) : Alike (-1) n p (rv n p) where
 simple := rv_simple
 area:=by rw [rv_area];omega
 on:=fun z => rv_onK
 par:=fun z hz => rv_par hz
 cvx:=by
  unfold Cvx
  rw [rv_area]
  have key : ∀ j,j < n → ∃ i,i < n ∧ cr n (rv n p) j = - cr n p i:=by
   intro j hj
   have hx : nx n j < n := nx_lt h3
   obtain ⟨e1,e2⟩ := rv_edge (p := p) hj
   obtain ⟨e3,e4⟩ := rv_edge (p := p) hx
   refine ⟨ej n (nx n j),ej_lt (by omega),?_⟩
   have e5 := ej_nx h3 hj
   unfold cr
   rw [e1,e2,e4,e5]
   unfold cross;grind
  have surj : ∀ i,i < n → ∃ j,j < n ∧ cr n (rv n p) j = - cr n p i:=by
   intro i hi
   obtain ⟨k,hk,e⟩ := nx_surj (by omega) (ej_lt (n := n) (j := i) (by omega))
   have h1 := ej_ej hi
   obtain ⟨i',hi',e'⟩ := key k hk
   have : ∃ j,j < n ∧ nx n j = ej n i := ⟨k,hk,e⟩
   refine ⟨k,hk,?_⟩
   have hx : nx n k < n := nx_lt h3
   obtain ⟨e1,e2⟩ := rv_edge (p := p) hk
   obtain ⟨e3,e4⟩ := rv_edge (p := p) hx
   have e5 := ej_nx h3 hk
   unfold cr
   rw [e1,e2,e4,← e5,e,h1]
   unfold cross;grind
  have ho : ∀ a b : Int,opp (-a) (-b) ↔ opp a b:=by intro a b;unfold opp;omega
  constructor
  ·intro h i hi hh
   obtain ⟨j,hj,e⟩ := surj i hi
   exact h j hj (by rw [e];exact (ho _ _).2 hh)
  ·intro h j hj hh
   obtain ⟨i,hi,e⟩ := key j hj
   rw [e] at hh
   exact h i hi ((ho _ _).1 hh)
 mx:=by
  have : sm n (mxp n (rv n p)) = sm n fun j => (fun e => - mxp n p e) (ej n j) := sm_congr fun j hj => by
   obtain ⟨e1,e2⟩ := rv_edge (p := p) hj
   show mxp n (rv n p) j = - mxp n p (ej n j)
   unfold mxp;rw [e1,e2];grind
  rw [this.trans (sm_ej n (fun e => - mxp n p e)),← sm_mul]
  exact sm_congr fun i _ => by omega
 my:=by
  have : sm n (myp n (rv n p)) = sm n fun j => (fun e => - myp n p e) (ej n j) := sm_congr fun j hj => by
   obtain ⟨e1,e2⟩ := rv_edge (p := p) hj
   show myp n (rv n p) j = - myp n p (ej n j)
   unfold myp;rw [e1,e2];grind
  rw [this.trans (sm_ej n (fun e => - myp n p e)),← sm_mul]
  exact sm_congr fun i _ => by omega
 pts:=fun i hi => ⟨n - 1 - i,by omega,rfl⟩
theorem mxt_p (n : Nat) (f : FF) : mxt n f = mxp n (pt f) := rfl
theorem myt_p (n : Nat) (f : FF) : myt n f = myp n (pt f) := rfl
theorem alike_valid {s : Int} {n : Nat} {f g : FF} (V : Valid n f) (h : Alike s n (pt f) (pt g)) : Valid n g:=by
 refine ⟨V.big,V.small,fun i hi => ?_,h.simple V.simple⟩
 obtain ⟨j,hj,e⟩ := h.pts i hi
 have h1 := V.near j hj
 rw [show CV.int (g i 0) = CV.int (f j 0) from congrArg Prod.fst e,show CV.int (g i 1) = CV.int (f j 1) from congrArg Prod.snd e]
 exact h1
theorem onC_K {n : Nat} {p : Nat → Pt} {q : Pt} : OnC n p q 0 ↔ OnK n p q := ⟨fun ⟨j,_,h,h'⟩ => ⟨j,h,h'⟩,fun ⟨j,h,h'⟩ => ⟨j,Nat.zero_le _,h,h'⟩⟩
theorem alike_where {s : Int} {n : Nat} {f g : FF} (V : Valid n f) (h : Alike s n (pt f) (pt g)) {q : Pt} {w z : Int} (hw : IsWhere n f q w) (hz : IsWhere n g q z) : z = w:=by
 have W := alike_valid V h
 by_cases hq : nr q.1 q.2
 ·obtain ⟨a1,a2⟩ := hw.1 ⟨V,hq⟩
  obtain ⟨b1,b2⟩ := hz.1 ⟨W,hq⟩
  by_cases ho : OnC n (pt f) q 0
  ·rw [a1 ho,b1 (onC_K.2 ((h.on q).2 (onC_K.1 ho)))]
  ·have ho' : ¬ OnC n (pt g) q 0:=fun hh => ho (onC_K.2 ((h.on q).1 (onC_K.1 hh)))
   rw [a2 ho,b2 ho',h.par q (fun hh => ho (onC_K.2 hh))]
 ·rw [hw.2 (fun hh => hq hh.2),hz.2 (fun hh => hq hh.2)]
theorem loop217 {ρ : Type} (n A : Nat) (f B : FF) (x y : Int) (hn : n ≤ 32) (k0 : Nat → FF → Option ρ) : ∀ (m j : Nat) (g : FF),n < m + j → j ≤ n → Are (fun a => pt f (n - 1 - a)) g j →
  ∃ g',L217v1 100 n f A x y B m j (Int.ofNat n - 1 - Int.ofNat j) g k0 = k0 n g' ∧ Are (fun a => pt f (n - 1 - a)) g' n:=by
 intro m
 induction m with
 | zero => intro j g h1 h2;omega
 | succ m ih =>
  intro j g h1 h2 hg
  unfold L217v1
  by_cases h : j < n
  ·have e : Int.ofNat n - 1 - Int.ofNat j = Int.ofNat (n - 1 - j):=by simp;omega
   rw [e,bif_t (by simp),inb_nat,bif_t (by simp;omega),bif_t (ble_ok (by omega)),toNat_nat]
   have e2 : w64 (Int.ofNat (n - 1 - j) - 1) = Int.ofNat n - 1 - Int.ofNat (j + 1):=by rw [w64_of] <;> simp <;> omega
   rw [e2]
   exact ih (j + 1) _ (by omega) (by omega) (hg.snoc (P:=fun a => pt f (n - 1 - a)) rfl)
  ·have : j = n:=by omega
   subst this
   rw [bif_f (by simp;omega)]
   exact ⟨g,rfl,hg⟩
theorem loop217r {ρ : Type} (n A : Nat) (f B : FF) (x y : Int) (hn : n ≤ 32) (k0 : Nat → FF → Option ρ) (r : Option ρ) (h : ∀ g,Are (fun a => pt f (n - 1 - a)) g n → k0 n g = r) :
  L217v1 100 n f A x y B 100 0 (Int.ofNat n - 1 - Int.ofNat 0) (fun _ _ => .any) k0 = r:=by
 obtain ⟨g,h1,h2⟩ := loop217 n A f B x y hn k0 100 0 (fun _ _ => .any) (by omega) (by omega) (fun j hj => by omega)
 rw [h1]
 exact h g h2
theorem Are.pt {P : Nat → Int × Int} {g : FF} {n : Nat} (h : Are P g n) {i : Nat} (hi : i < n) : R13.pt g i = P i:=by
 obtain ⟨h1,h2⟩ := h i hi
 show (CV.int (g i 0),CV.int (g i 1)) = P i
 rw [h1,h2];rfl
def rotF (n t : Nat) (f : FF) : FF := joinF (0 + (n - t)) (joinF 0 (rowsF 2 []) (shiftF t f)) f
theorem rotF_pt {n t : Nat} {f : FF} (ht : t < n) {i : Nat} (hi : i < n) : pt (rotF n t f) i = pt f ((i + t) % n):=by
 unfold rotF
 show (CV.int _,CV.int _) = _
 by_cases h : i < n - t
 ·have e : ∀ c,joinF (0 + (n - t)) (joinF 0 (rowsF 2 []) (shiftF t f)) f i c = f (t + i) c:=by
   intro c
   rw [joinF_old _ _ _ _ _ (by omega),joinF_new _ _ _ _ _ (by omega),shiftF_eq,Nat.sub_zero]
  rw [e,e,Nat.mod_eq_of_lt (by omega),Nat.add_comm t i]
 ·rw [joinF_new _ _ _ _ _ (by omega),joinF_new _ _ _ _ _ (by omega)]
  have : (i + t) % n = i - (0 + (n - t)):=by
   rw [show i + t = (i - (n - t)) + n by omega,Nat.add_mod_right,Nat.mod_eq_of_lt (by omega)]
   omega
  rw [this]
theorem turns_plain (n : Nat) (f : FF) (x y : Int) (k : Nat) (hk : k ≤ 255) : F217 100 n f x y (Int.ofNat k) = some true:=by
 unfold F217
 rw [awake_law]
 obtain ⟨c,_,h2,h3⟩ := check_law n f
 rw [h2,ob_some]
 by_cases hc : c = 0
 ·have V := h3.1 hc
  have hb := V.big
  have hs := V.small
  have ht : k % n < n := Nat.mod_lt _ (by omega)
  have ek : w64 (Int.ofNat k) = Int.ofNat k := w64_of (by simp <;> omega) (by simp <;> omega)
  rw [bif_f (by simp [hc]),bif_f (ofNat_ne0 (by omega)),ek,tmod_nat,toNat_nat]
  generalize k % n = t at ht
  have e0 : (0 + (n - t)) + (t - 0) = n:=by omega
  rw [bif_t (inbe_true (by simp) (by simp;omega)),bif_t (ble_ok (by omega)),bif_t (inbe_true (by simp) (by simp;omega)),bif_t (ble_ok (by omega)),e0]
  have e1 : w64 (Int.ofNat n - 1) = Int.ofNat n - 1 - Int.ofNat 0:=by rw [w64_of] <;> simp <;> omega
  rw [e1,show joinF (0 + (n - t)) (joinF 0 (rowsF 2 []) (shiftF t f)) f = rotF n t f from rfl]
  have aT : Alike 1 n (pt f) (pt (rotF n t f)):=(alike_turn hb (pt f) t).congr (by omega) fun i hi => rotF_pt ht hi
  generalize rotF n t f = T at aT
  have VT := alike_valid V aT
  refine loop217r n n f T x y hs _ _ fun g hg2 => ?_
  have aB : Alike (-1) n (pt f) (pt g):=(alike_rev hb (pt f)).congr (by omega) fun i hi => hg2.pt hi
  have VB := alike_valid V aB
  obtain ⟨w,hw,_,hw'⟩ := where_law n f x y
  obtain ⟨wT,hwT,_,hwT'⟩ := where_law n T x y
  obtain ⟨wB,hwB,_,hwB'⟩ := where_law n g x y
  have q1 := alike_where V aT hw' hwT'
  have q2 := alike_where V aB hw' hwB'
  subst q1;subst q2
  obtain ⟨b1,c1,c2⟩ := Cvx.eq VT V aT.cvx
  obtain ⟨b2,c3,c4⟩ := Cvx.eq VB V aB.cvx
  have bm := ms_bd V.big V.near n (Nat.le_refl _)
  have ba := asum_bd V.big V.near n (Nat.le_refl _)
  have m0 := moment_law V
  have mT := moment_law VT
  have mB := moment_law VB
  rw [mxt_p,myt_p] at m0 mT mB bm
  rw [aT.mx,aT.my,Int.one_mul,Int.one_mul] at mT
  rw [aB.mx,aB.my] at mB
  have a0 := area34 V
  have a1 := area34 VT
  have a2 := area34 VB
  rw [aT.area,Int.one_mul] at a1
  rw [aB.area] at a2
  have eA : w64 (0 - area n (pt f)) = -1 * area n (pt f):=by
   have : sm n (aterm n f) = area n (pt f) := rfl
   rw [this] at ba
   rw [w64_of] <;> omega
  have eX : w64 (0 - sm n (mxp n (pt f))) = -1 * sm n (mxp n (pt f)):=by rw [w64_of] <;> omega
  have eY : w64 (0 - sm n (myp n (pt f))) = -1 * sm n (myp n (pt f)):=by rw [w64_of] <;> omega
  have hbb : b1 = b2 := Option.some.inj (c2.symm.trans c4)
  subst hbb
  simp only [m0,mT,mB,(valid_code VT).1,(valid_code VB).1,a0,a1,a2,hw,hwT,hwB,c1,c2,c3,ob_some,eA,eX,eY]
  simp
 ·rw [bif_t (by simpa using hc)]
  rfl
theorem turns12 (n0c0 : Nat) (f0c0 : Nat → Nat → CV) (h0c0 : SlIn (.pr (.int .i64) (.pr (.int .i64) .nil)) n0c0 f0c0) (a1c0 : Int) (a1c1 : Int) (h1c0 : I64 a1c0) (h1c1 : I64 a1c1) (a2c0 : Int) (h2c0 : (Lit.int .u8 a2c0).wf = true) : F217 100 n0c0 f0c0 a1c0 a1c1 a2c0 = some true:=by
 have h : 0 ≤ a2c0 ∧ a2c0 ≤ 255:=by
  have e1 : IntKind.u8.min = 0 := rfl
  have e2 : IntKind.u8.max = 255 := rfl
  simpa [Lit.wf,e1,e2] using h2c0
 obtain ⟨k,rfl⟩ : ∃ k : Nat,a2c0 = Int.ofNat k := ⟨a2c0.toNat,by simp;omega⟩
 exact turns_plain _ _ _ _ k (by have := h.2;simp at this;omega)
end Go.Eng.R13
