/-
 Several texts in one.
-/
import Derived.Test.YtngjgbhdhaopmaaGeo6
import Derived.Test.YtngjgbhdhaopmaaPlRv
import Derived.Test.YtngjgbhdhaopmaaPlShift
import Derived.Test.YtngjgbhdhaopmaaPlSums
import Derived.Test.YtngjgbhdhaopmaaPySort
/-
 The examples of the chapter;Check,Where.
-/
set_option linter.all false
set_option maxRecDepth 100000
namespace Go.Eng.R13
open Go Go.RowKit Go.Eng Geo
theorem awake_law : F207 100 = some true:=by kernel_rfl
end Go.Eng.R13
/-
 Moments and convexity: what the program computes of a valid polygon.
-/
set_option linter.all false
namespace Go.Eng.R13
open Go Go.RowKit Go.Eng Geo
def mxt (n : Nat) (f : FF) (i : Nat) : Int:=((pt f i).1 + (pt f (nx n i)).1) * aterm n f i
def myt (n : Nat) (f : FF) (i : Nat) : Int:=((pt f i).2 + (pt f (nx n i)).2) * aterm n f i
theorem mt_bd {n : Nat} {f : FF} (h0 : 3 ≤ n) (hA : AllNr n f) {i : Nat} (hi : i < n) : (-140737488355328 ≤ mxt n f i ∧ mxt n f i ≤ 140737488355328) ∧ (-140737488355328 ≤ myt n f i ∧ myt n f i ≤ 140737488355328):=by
 have h1 := hA i hi
 have h2 := hA _ (nx_lt (i := i) h0)
 have h3 := aterm_bd h0 hA hi
 unfold nr at h1 h2
 have k1 := mul_bd (x := CV.int (f i 0) + CV.int (f (nx n i) 0)) (y := aterm n f i) (A := 65536) (B := 2147483648) (by omega) (by omega) (by omega) (by omega)
 have k2 := mul_bd (x := CV.int (f i 1) + CV.int (f (nx n i) 1)) (y := aterm n f i) (A := 65536) (B := 2147483648) (by omega) (by omega) (by omega) (by omega)
 unfold mxt myt
 dsimp only [pt]
 omega
theorem ms_bd {n : Nat} {f : FF} (h0 : 3 ≤ n) (hA : AllNr n f) : ∀ i,i ≤ n → (-140737488355328 * (i : Int) ≤ sm i (mxt n f) ∧ sm i (mxt n f) ≤ 140737488355328 * (i : Int)) ∧ (-140737488355328 * (i : Int) ≤ sm i (myt n f) ∧ sm i (myt n f) ≤ 140737488355328 * (i : Int))
 | 0,_ => by simp [sm]
 | i + 1,h => by
  have h1 := ms_bd h0 hA i (by omega)
  have h2 := mt_bd h0 hA (i := i) (by omega)
  rw [sm,sm]
  omega
theorem mom43 {ρ : Type} (n : Nat) (f : FF) (hn : n ≤ 32) (h0 : 3 ≤ n) (hA : AllNr n f) (k0 : Int → Int → Option ρ) : ∀ (m i : Nat),n < m + i → i ≤ n →
  L43v1 100 n f (Int.ofNat n) m (sm i (mxt n f)) (sm i (myt n f)) (Int.ofNat i) k0 = k0 (sm n (mxt n f)) (sm n (myt n f)):=by
 intro m
 induction m with
 | zero => intro i h1 h2;omega
 | succ m ih =>
  intro i h1 h2
  unfold L43v1
  rw [lt_nat,inb_nat,toNat_nat]
  by_cases h : i < n
  ·have hx : nx n i < n := nx_lt h0
   have e1 : (i + 1) % n = nx n i := rfl
   have b1 := term_bd (hA i h) (hA _ hx)
   have b2 := ms_bd h0 hA i h2
   have b3 := ms_bd h0 hA (i + 1) (by omega)
   have b4 := aterm_bd h0 hA h
   have b5 := mt_bd h0 hA h
   have n1 := hA i h
   have n2 := hA _ hx
   unfold nr at n1 n2
   have ea : (CV.int (f i 0)) * (CV.int (f (nx n i) 1)) - (CV.int (f (nx n i) 0)) * (CV.int (f i 1)) = aterm n f i := rfl
   have ex : (CV.int (f i 0) + CV.int (f (nx n i) 0)) * aterm n f i = mxt n f i := rfl
   have ey : (CV.int (f i 1) + CV.int (f (nx n i) 1)) * aterm n f i = myt n f i := rfl
   have e2 : sm (i + 1) (mxt n f) = sm i (mxt n f) + mxt n f i := rfl
   have e3 : sm (i + 1) (myt n f) = sm i (myt n f) + myt n f i := rfl
   rw [bif_t (by simpa using h),bif_t (by simpa using h),bif_f (ofNat_ne0 (by omega)),w64_succ (by omega),tmod_nat,inb_nat,toNat_nat,e1,bif_t (by simpa using hx)]
   rw [w64_of (n := CV.int (f i 0) * CV.int (f (nx n i) 1)) (by omega) (by omega),w64_of (n := CV.int (f (nx n i) 0) * CV.int (f i 1)) (by omega) (by omega),ea,w64_of (n := aterm n f i) (by omega) (by omega)]
   rw [w64_of (n := CV.int (f i 0) + CV.int (f (nx n i) 0)) (by omega) (by omega),w64_of (n := CV.int (f i 1) + CV.int (f (nx n i) 1)) (by omega) (by omega),ex,ey,w64_of (n := mxt n f i) (by omega) (by omega),w64_of (n := myt n f i) (by omega) (by omega)]
   rw [w64_of (n := sm i (mxt n f) + mxt n f i) (by omega) (by omega),w64_of (n := sm i (myt n f) + myt n f i) (by omega) (by omega),← e2,← e3]
   exact ih (i + 1) (by omega) (by omega)
  ·rw [bif_f (by simpa using h)]
   have : i = n:=by omega
   rw [this]
theorem moment_law {n : Nat} {f : FF} (V : Valid n f) : F43 100 n f = some (sm n (mxt n f),sm n (myt n f)):=by
 unfold F43
 obtain ⟨c,h1,_,h3⟩ := check_law n f
 have hc := h3.2 V
 subst hc
 have hs := V.small
 rw [h1,ob_some,bif_f (by rfl)]
 exact mom43 n f V.small V.big V.near (fun x15 x16 => some (x15,x16)) 100 0 (by omega) (by omega)
theorem valid_code {n : Nat} {f : FF} (V : Valid n f) : F33 100 n f = some 0 ∧ F37 100 n f = some 0:=by
 obtain ⟨c,h1,h2,h3⟩ := check_law n f
 have hc := h3.2 V
 subst hc
 exact ⟨h1,h2⟩
theorem area34 {n : Nat} {f : FF} (V : Valid n f) : F34 100 n f = some (area n (pt f)):=by
 obtain ⟨a,h1,_,h2⟩ := area_law n f
 rw [h1,h2 V]
def cr (n : Nat) (p : Nat → Pt) (i : Nat) : Int := cross (p i) (p (nx n i)) (p (nx n (nx n i)))
def Cvx (n : Nat) (p : Nat → Pt) : Prop := ∀ i,i < n → ¬ opp (cr n p i) (area n p)
theorem conv200 {ρ : Type} (n : Nat) (f : FF) (a : Int) (hn : n ≤ 32) (h0 : 3 ≤ n) (hA : AllNr n f) (k0 k1 : Option ρ) : ∀ (m i : Nat),n < m + i → i ≤ n →
  ((∃ j,i ≤ j ∧ j < n ∧ opp (cr n (pt f) j) a) ∧ L200v1 100 n f (sgn a) (Int.ofNat n) m (Int.ofNat i) k0 k1 = k0) ∨ ((∀ j,i ≤ j → j < n → ¬ opp (cr n (pt f) j) a) ∧ L200v1 100 n f (sgn a) (Int.ofNat n) m (Int.ofNat i) k0 k1 = k1):=by
 intro m
 induction m with
 | zero => intro i h1 h2;omega
 | succ m ih =>
  intro i h1 h2
  unfold L200v1
  rw [lt_nat,inb_nat,toNat_nat]
  by_cases h : i < n
  ·have hx : nx n i < n := nx_lt h0
   have hy : nx n (nx n i) < n := nx_lt h0
   have e1 : (i + 1) % n = nx n i := rfl
   have e2 := nx2 h0 h
   rw [bif_t (by simpa using h),bif_t (by simpa using h),bif_f (ofNat_ne0 (by omega)),w64_succ (by omega),w64_succ2 (by omega),tmod_nat,tmod_nat,inb_nat,inb_nat,toNat_nat,toNat_nat,e1,e2,bif_t (by simpa using hx),bif_f (ofNat_ne0 (by omega)),bif_t (by simpa using hy)]
   rw [cross79 (hA i h) (hA _ hx) (hA _ hy),show cross (CV.int (f i 0),CV.int (f i 1)) (CV.int (f (nx n i) 0),CV.int (f (nx n i) 1)) (CV.int (f (nx n (nx n i)) 0),CV.int (f (nx n (nx n i)) 1)) = cr n (pt f) i from rfl,ob_some,sign86,ob_some,sgn_opp]
   by_cases ho : opp (cr n (pt f) i) a
   ·left
    refine ⟨⟨i,Nat.le_refl _,h,ho⟩,?_⟩
    rw [bif_t (decide_eq_true ho)]
   ·rw [bif_f (decide_eq_false ho)]
    rcases ih (i + 1) (by omega) (by omega) with ⟨⟨j,h3,h4,h5⟩,h6⟩ | ⟨h3,h4⟩
    ·exact .inl ⟨⟨j,by omega,h4,h5⟩,h6⟩
    ·refine .inr ⟨fun j hj hjn => ?_,h4⟩
     by_cases hji : j = i
     ·subst hji;exact ho
     ·exact h3 j (by omega) hjn
  ·rw [bif_f (by simpa using h)]
   exact .inr ⟨fun j h3 h4 => by omega,rfl⟩
theorem convex_law {n : Nat} {f : FF} (V : Valid n f) : ∃ b,F200 100 n f = some b ∧ (b = true ↔ Cvx n (pt f)):=by
 unfold F200
 have hs := V.small
 rw [(valid_code V).1,ob_some,bif_f (by rfl),area_law63 n f V.small V.big V.near,ob_some,sign86,ob_some]
 rcases conv200 n f (area n (pt f)) V.small V.big V.near (some false) (some true) 100 0 (by omega) (by omega) with ⟨⟨j,_,h4,h5⟩,h6⟩ | ⟨h3,h4⟩
 ·exact ⟨false,h6,by simp;exact fun h => h j h4 h5⟩
 ·exact ⟨true,h4,by simp;exact fun j hj => h3 j (Nat.zero_le _) hj⟩
theorem Cvx.eq {n m : Nat} {f g : FF} (V : Valid n f) (W : Valid m g) (h : Cvx n (pt f) ↔ Cvx m (pt g)) : ∃ b,F200 100 n f = some b ∧ F200 100 m g = some b:=by
 obtain ⟨b,h1,h2⟩ := convex_law V
 obtain ⟨c,h3,h4⟩ := convex_law W
 have : b = c:=by
  cases b <;> cases c <;> simp_all
 subst this
 exact ⟨b,h1,h3⟩
end Go.Eng.R13
/-
 Another first corner,and the opposite order.
-/
set_option linter.all false
set_option maxRecDepth 100000
namespace Geo
theorem nx_surj {n i : Nat} (h : 0 < n) (hi : i < n) : ∃ j,j < n ∧ nx n j = i:=by
 match i with
 | 0 => exact ⟨n - 1,by omega,by unfold nx;rw [show n - 1 + 1 = n by omega,Nat.mod_self]⟩
 | i + 1 => exact ⟨i,by omega,by unfold nx;exact Nat.mod_eq_of_lt hi⟩
end Geo
namespace Go.Eng.R13
open Go Go.RowKit Go.Eng Geo
structure Alike (s : Int) (n : Nat) (p q : Nat → Pt) : Prop where
 simple : Simple n p → Simple n q
 area : area n q = s * area n p
 on : ∀ z,OnK n q z ↔ OnK n p z
 par : ∀ z,¬ OnK n p z → par n q z = par n p z
 cvx : Cvx n q ↔ Cvx n p
 mx : sm n (mxp n q) = s * sm n (mxp n p)
 my : sm n (myp n q) = s * sm n (myp n p)
 pts : ∀ i,i < n → ∃ j,j < n ∧ q i = p j
theorem Alike.trans {s t : Int} {n : Nat} {p q r : Nat → Pt} (h : Alike s n p q) (k : Alike t n q r) : Alike (t * s) n p r where
 simple:=fun S => k.simple (h.simple S)
 area:=by rw [k.area,h.area,Int.mul_assoc]
 on:=fun z => (k.on z).trans (h.on z)
 par:=fun z hz => (k.par z (fun hh => hz ((h.on z).1 hh))).trans (h.par z hz)
 cvx := k.cvx.trans h.cvx
 mx:=by rw [k.mx,h.mx,Int.mul_assoc]
 my:=by rw [k.my,h.my,Int.mul_assoc]
 pts:=fun i hi => by
  obtain ⟨j,hj,e⟩ := k.pts i hi
  obtain ⟨l,hl,e2⟩ := h.pts j hj
  exact ⟨l,hl,e.trans e2⟩
theorem Alike.congr {s : Int} {n : Nat} (h0 : 0 < n) {p q r : Nat → Pt} (h : Alike s n p q) (e : ∀ i,i < n → r i = q i) : Alike s n p r where
 simple:=fun S => simple_congr (fun i hi => (e i hi).symm) (h.simple S)
 area:=by rw [area_congr h0 e];exact h.area
 on:=fun z => (onK_congr h0 e z).trans (h.on z)
 par:=fun z hz => (par_congr h0 e z).trans (h.par z hz)
 cvx:=by
  refine Iff.trans ?_ h.cvx
  unfold Cvx cr
  rw [area_congr h0 e]
  refine forall_congr' fun i => forall_congr' fun hi => ?_
  rw [e i hi,e _ (nx_lt' h0),e _ (nx_lt' h0)]
 mx:=by
  rw [← h.mx]
  refine sm_congr fun i hi => ?_
  unfold mxp
  rw [e i hi,e _ (nx_lt' h0)]
 my:=by
  rw [← h.my]
  refine sm_congr fun i hi => ?_
  unfold myp
  rw [e i hi,e _ (nx_lt' h0)]
 pts:=fun i hi => by rw [e i hi];exact h.pts i hi
theorem ej_nx {n j : Nat} (h3 : 3 ≤ n) (hj : j < n) : nx n (ej n (nx n j)) = ej n j:=by
 have hx : nx n j < n := nx_lt h3
 have h1 : rv n (fun i => ((i : Int),(0 : Int))) (nx n j) = (((ej n j : Nat) : Int),0):=(rv_edge (p:=fun i => ((i : Int),(0 : Int))) hj).2
 have h2 : rv n (fun i => ((i : Int),(0 : Int))) (nx n j) = (((nx n (ej n (nx n j)) : Nat) : Int),0):=(rv_edge (p:=fun i => ((i : Int),(0 : Int))) hx).1
 rw [h1] at h2
 have := congrArg Prod.fst h2
 simp at this
 omega
theorem alike_rev {n : Nat} (h3 : 3 ≤ n) (p : Nat → Pt) : Alike (-1) n p (rv n p) where
 simple := rv_simple
 area:=by rw [rv_area];omega
 on:=fun z => rv_onK
 par:=fun z hz => rv_par hz
 cvx:=by
  unfold Cvx
  rw [rv_area]
  have key : ∀ j,j < n → ∃ i,i < n ∧ cr n (rv n p) j = - cr n p i:=by
   intro j hj
   have hx : nx n j < n := nx_lt h3
   obtain ⟨e1,e2⟩ := rv_edge (p := p) hj
   obtain ⟨e3,e4⟩ := rv_edge (p := p) hx
   refine ⟨ej n (nx n j),ej_lt (by omega),?_⟩
   have e5 := ej_nx h3 hj
   unfold cr
   rw [e1,e2,e4,e5]
   unfold cross;grind
  have surj : ∀ i,i < n → ∃ j,j < n ∧ cr n (rv n p) j = - cr n p i:=by
   intro i hi
   obtain ⟨k,hk,e⟩ := nx_surj (by omega) (ej_lt (n := n) (j := i) (by omega))
   have h1 := ej_ej hi
   obtain ⟨i',hi',e'⟩ := key k hk
   have : ∃ j,j < n ∧ nx n j = ej n i := ⟨k,hk,e⟩
   refine ⟨k,hk,?_⟩
   have hx : nx n k < n := nx_lt h3
   obtain ⟨e1,e2⟩ := rv_edge (p := p) hk
   obtain ⟨e3,e4⟩ := rv_edge (p := p) hx
   have e5 := ej_nx h3 hk
   unfold cr
   rw [e1,e2,e4,← e5,e,h1]
   unfold cross;grind
  have ho : ∀ a b : Int,opp (-a) (-b) ↔ opp a b:=by intro a b;unfold opp;omega
  constructor
  ·intro h i hi hh
   obtain ⟨j,hj,e⟩ := surj i hi
   exact h j hj (by rw [e];exact (ho _ _).2 hh)
  ·intro h j hj hh
   obtain ⟨i,hi,e⟩ := key j hj
   rw [e] at hh
   exact h i hi ((ho _ _).1 hh)
 mx:=by
  have : sm n (mxp n (rv n p)) = sm n fun j => (fun e => - mxp n p e) (ej n j) := sm_congr fun j hj => by
   obtain ⟨e1,e2⟩ := rv_edge (p := p) hj
   show mxp n (rv n p) j = - mxp n p (ej n j)
   unfold mxp;rw [e1,e2];grind
  rw [this.trans (sm_ej n (fun e => - mxp n p e)),← sm_mul]
  exact sm_congr fun i _ => by omega
 my:=by
  have : sm n (myp n (rv n p)) = sm n fun j => (fun e => - myp n p e) (ej n j) := sm_congr fun j hj => by
   obtain ⟨e1,e2⟩ := rv_edge (p := p) hj
   show myp n (rv n p) j = - myp n p (ej n j)
   unfold myp;rw [e1,e2];grind
  rw [this.trans (sm_ej n (fun e => - myp n p e)),← sm_mul]
  exact sm_congr fun i _ => by omega
 pts:=fun i hi => ⟨n - 1 - i,by omega,rfl⟩
theorem mxt_p (n : Nat) (f : FF) : mxt n f = mxp n (pt f) := rfl
theorem myt_p (n : Nat) (f : FF) : myt n f = myp n (pt f) := rfl
theorem Are.pt {P : Nat → Int × Int} {g : FF} {n : Nat} (h : Are P g n) {i : Nat} (hi : i < n) : R13.pt g i = P i:=by
 obtain ⟨h1,h2⟩ := h i hi
 show (CV.int (g i 0),CV.int (g i 1)) = P i
 rw [h1,h2];rfl
end Go.Eng.R13
/-
 One side of the hull: what chain returns.
-/
set_option linter.all false
namespace Go.Eng.R13
open Go Go.RowKit Go.Eng Geo
structure Sgn (sg : Pt → Pt) : Prop where
 cr : ∀ a b c,cross (sg a) (sg b) (sg c) = cross a b c
 inj : ∀ a b,sg a = sg b → a = b
theorem pop204 {ρ : Type} {sg : Pt → Pt} (hs : Sgn sg) {P : Nat → Pt} {N t K : Nat} (hP : ∀ i j,i < j → j < N → fw (P i) (P j)) (ht : t < N) {g : FF} (C : Chn P t K (fun i => sg (pt g i))) (hK : K ≤ 60) (hnr : ∀ i,i < K → nr (CV.int (g i 0)) (CV.int (g i 1)))
  (a : Nat) (b : FF) (c d : Int) (e : Nat) {qx qy : Int} (hq : nr qx qy) (hqP : P t = sg (qx,qy)) (k0 : Nat → Option ρ) : ∀ (m k : Nat),k < m → Pop P t K (fun i => sg (pt g i)) k →
  ∃ k',L204v2 100 a b c d e g qx qy m k k0 = k0 k' ∧ Pop P t K (fun i => sg (pt g i)) k' ∧ (1 < k' → 0 < cross (sg (pt g (k' - 2))) (sg (pt g (k' - 1))) (P t)):=by
 intro m
 induction m with
 | zero => intro k h;omega
 | succ m ih =>
  intro k hm O
  have hk := O.size
  unfold L204v2
  by_cases h1 : 1 < k
  ·have e1 : w64 (Int.ofNat k - 2) = Int.ofNat (k - 2):=by rw [w64_of] <;> simp <;> omega
   have e2 : w64 (Int.ofNat k - 1) = Int.ofNat (k - 1):=by rw [w64_of] <;> simp <;> omega
   rw [bif_t (by simp;omega),e1,e2,inb_nat,inb_nat,bif_t (by simp;omega),bif_t (by simp;omega),toNat_nat,toNat_nat,Nat.zero_add,Nat.zero_add]
   rw [cross79 (hnr _ (by omega)) (hnr _ (by omega)) hq,ob_some]
   have ec : cross (CV.int (g (k - 2) 0),CV.int (g (k - 2) 1)) (CV.int (g (k - 1) 0),CV.int (g (k - 1) 1)) (qx,qy) = cross (sg (pt g (k - 2))) (sg (pt g (k - 1))) (P t):=by
    rw [hqP,hs.cr]
   rw [ec]
   by_cases h2 : cross (sg (pt g (k - 2))) (sg (pt g (k - 1))) (P t) ≤ 0
   ·rw [bif_t (decide_eq_true h2),bif_t (inbe_true (by simp) (by simp)),Nat.sub_zero]
    exact ih (k - 1) (by omega) (O.step hP ht C h1 h2)
   ·rw [bif_f (decide_eq_false h2)]
    exact ⟨k,rfl,O,fun _ => by omega⟩
  ·rw [bif_f (by simp;omega)]
   exact ⟨k,rfl,O,fun h => absurd h h1⟩
theorem pop_none {ρ : Type} (m a : Nat) (b : FF) (c d : Int) (e : Nat) (g : FF) (qx qy : Int) (k0 : Nat → Option ρ) : L204v2 100 a b c d e g qx qy (m + 1) 0 k0 = k0 0:=by
 unfold L204v2
 rw [bif_f (by rfl)]
theorem chain_loop {ρ : Type} {sg : Pt → Pt} (hs : Sgn sg) {N : Nat} {F : FF} (hN : N ≤ 60) (hnr : ∀ i,i < N → nr (CV.int (F i 0)) (CV.int (F i 1))) (hP : ∀ i j,i < j → j < N → fw (sg (pt F i)) (sg (pt F j))) (k0 : Nat → FF → Option ρ) :
  ∀ (m t k : Nat) (g : FF),N < m + t → t ≤ N → (t = 0 ∧ k = 0 ∨ 0 < t ∧ Chn (fun i => sg (pt F i)) t k (fun i => sg (pt g i))) →
   ∃ k' g',L204v3 100 N F (Int.ofNat N) m k (Int.ofNat t) g k0 = k0 k' g' ∧ (N = 0 ∧ k' = 0 ∨ 0 < N ∧ Chn (fun i => sg (pt F i)) N k' (fun i => sg (pt g' i))):=by
 intro m
 induction m with
 | zero => intro t k g h1 h2;omega
 | succ m ih =>
  intro t k g h1 h2 hC
  unfold L204v3
  rw [lt_nat,inb_nat,toNat_nat]
  by_cases h : t < N
  ·have new : ∀ (k' : Nat) (g' : FF),g' = joinF k' g (rowsF 2 [(.i .i64 (CV.int (F t 0))),(.i .i64 (CV.int (F t 1)))]) → (∀ i,i < k' → pt g' i = pt g i) ∧ pt g' k' = pt F t:=by
    intro k' g' hg
    subst hg
    refine ⟨fun i hi => ?_,?_⟩
    ·show (CV.int _,CV.int _) = (CV.int _,CV.int _)
     rw [joinF_old _ _ _ _ _ hi,joinF_old _ _ _ _ _ hi]
    ·show (CV.int _,CV.int _) = (CV.int _,CV.int _)
     rw [joinF_new _ _ _ _ _ (Nat.le_refl _),joinF_new _ _ _ _ _ (Nat.le_refl _),Nat.sub_self]
     rfl
   rw [bif_t (decide_eq_true h),bif_t (decide_eq_true h),w64_succ (by omega)]
   rcases hC with ⟨rfl,rfl⟩ | ⟨h0,C⟩
   ·rw [pop_none 99 N F (Int.ofNat N) (Int.ofNat 0) 0 g (CV.int (F 0 0)) (CV.int (F 0 1))]
    rw [bif_t (by rfl)]
    obtain ⟨n1,n2⟩ := new 0 _ rfl
    refine ih (0 + 1) (0 + 1) _ (by omega) (by omega) (.inr ⟨by omega,?_⟩)
    have := chn_one (P:=fun i => sg (pt F i))
    refine ⟨by omega,by omega,congrArg sg n2,congrArg sg n2,fun i hi => by omega,fun i hi => ⟨0,by omega,?_⟩,fun i hi => by omega,fun i hi => by omega⟩
    have : i = 0:=by omega
    subst this
    exact congrArg sg n2
   ·have hk := C.size
    have hpos := C.pos
    have hq := hnr t h
    have hg : ∀ i,i < k → nr (CV.int (g i 0)) (CV.int (g i 1)):=by
     intro i hi
     obtain ⟨j,hj,e⟩ := C.mem i hi
     have e2 := hs.inj _ _ e
     rw [show CV.int (g i 0) = CV.int (F j 0) from congrArg Prod.fst e2,show CV.int (g i 1) = CV.int (F j 1) from congrArg Prod.snd e2]
     exact hnr j (by omega)
    obtain ⟨k',p1,p2,p3⟩ := pop204 (P:=fun i => sg (pt F i)) hs hP h C (by omega) hg N F (Int.ofNat N) (Int.ofNat t) k hq rfl
     (fun x37 => (bif (Nat.ble (x37 + 1) 1073741824) then (L204v3 100 N F (Int.ofNat N) m (x37 + 1) (Int.ofNat (t + 1)) (joinF x37 g (rowsF 2 [(.i .i64 (CV.int (F t 0))),(.i .i64 (CV.int (F t 1)))])) k0) else none)) 100 k (by omega) (C.pop hP h)
    have hk' := p2.size
    rw [p1,bif_t (ble_ok (by omega))]
    obtain ⟨n1,n2⟩ := new k' _ rfl
    exact ih (t + 1) (k' + 1) _ (by omega) (by omega) (.inr ⟨by omega,p2.push hP h C p3 (fun i hi => congrArg sg (n1 i hi)) (congrArg sg n2)⟩)
  ·have : t = N:=by omega
   subst this
   rw [bif_f (by simp)]
   exact ⟨k,g,rfl,hC⟩
theorem chain_law {sg : Pt → Pt} (hs : Sgn sg) {N : Nat} {F : FF} (h0 : 0 < N) (hN : N ≤ 60) (hnr : ∀ i,i < N → nr (CV.int (F i 0)) (CV.int (F i 1))) (hP : ∀ i j,i < j → j < N → fw (sg (pt F i)) (sg (pt F j))) :
  ∃ k g,F204 100 N F = some (k,g) ∧ Chn (fun i => sg (pt F i)) N k (fun i => sg (pt g i)):=by
 unfold F204 D204
 obtain ⟨k,g,h1,h2⟩ := chain_loop hs hN hnr hP (fun x40 x41 => some (x40,x41)) 100 0 0 (fun _ _ => .any) (by omega) (by omega) (.inl ⟨rfl,rfl⟩)
 rcases h2 with ⟨h3,_⟩ | ⟨_,h4⟩
 ·omega
 ·exact ⟨k,g,h1,h4⟩
theorem sgn_id : Sgn (fun p => p) := ⟨fun _ _ _ => rfl,fun _ _ h => h⟩
theorem sgn_ng : Sgn ng := ⟨cross_ng,fun _ _ h => ng_inj h⟩
end Go.Eng.R13
/-
 Hull: what the program returns.
-/
set_option linter.all false
set_option maxRecDepth 100000
namespace Go.Eng.R13
open Go Go.RowKit Go.Eng Geo
theorem toI_int (c : CV) : toI c = CV.int c:=by cases c <;> rfl
theorem prP_pt (g : FF) (i : Nat) : prP g i = pt g i:=by
 show (toI _,toI _) = (CV.int _,CV.int _)
 rw [toI_int,toI_int]
theorem pairs_pt {l : List (Int × Int)} {i : Nat} (h : i < l.length) : pt (pairsF l) i = l[i]:=by
 have hq : l[i]? = some l[i] := List.getElem?_eq_getElem h
 show (CV.int _,CV.int _) = _
 rw [(pairsF_at hq).1,(pairsF_at hq).2];rfl
theorem prs_pairs (l : List (Int × Int)) : prsP l.length (pairsF l) = l:=by
 apply List.ext_getElem
 ·rw [prsP_len]
 ·intro i h1 h2
  have := prsP_at (g := pairsF l) (show i < l.length by rwa [prsP_len] at h1)
  rw [List.getElem?_eq_getElem h1] at this
  rw [Option.some.inj this,prP_pt,pairs_pt]
theorem leP_fw {a b : Int × Int} (h : leP a b = true) (hne : b ≠ a) : fw a b:=by
 rw [leP_iff] at h
 unfold fw
 have : ¬ (b.1 = a.1 ∧ b.2 = a.2):=fun hh => hne (Prod.ext hh.1 hh.2)
 omega
theorem compG_sorted : ∀ (l : List (Int × Int)) (a : Int × Int),(a :: l).Pairwise (fun x y => leP x y = true) → (a :: compG a l).Pairwise fw ∧ ∀ x,x ∈ a :: compG a l ↔ x ∈ a :: l
 | [],a,_ => ⟨List.pairwise_singleton _ _,fun x => Iff.rfl⟩
 | b :: l,a,h => by
  unfold compG
  have h1 := List.pairwise_cons.1 h
  cases hq : (b.1 == a.1 && b.2 == a.2) with
  | true =>
   have e : b = a:=by simp at hq;exact Prod.ext hq.1 hq.2
   subst e
   obtain ⟨k1,k2⟩ := compG_sorted l b h1.2
   refine ⟨k1,fun x => (k2 x).trans ?_⟩
   simp
  | false =>
   have e : b ≠ a:=fun hh => by subst hh;simp at hq
   obtain ⟨k1,k2⟩ := compG_sorted l b h1.2
   have hab : fw a b := leP_fw (h1.1 b (by simp)) e
   refine ⟨List.pairwise_cons.2 ⟨fun x hx => ?_,k1⟩,fun x => ?_⟩
   ·rcases List.mem_cons.1 hx with rfl | hx
    ·exact hab
    ·exact hab.trans ((List.pairwise_cons.1 k1).1 x hx)
   ·show x ∈ a :: b :: compG b l ↔ _
    rw [List.mem_cons,k2 x,List.mem_cons (a := x) (b := a)]
theorem compP_sorted {l : List (Int × Int)} (h : l.Pairwise (fun x y => leP x y = true)) : (compP l).Pairwise fw ∧ ∀ x,x ∈ compP l ↔ x ∈ l:=by
 cases l with
 | nil => exact ⟨List.Pairwise.nil,fun x => Iff.rfl⟩
 | cons a l => exact compG_sorted l a h
def dsP (n : Nat) (f : FF) : List (Int × Int) := compP (sortP (prsP n f))
theorem sort_len (n : Nat) (f : FF) : (sortP (prsP n f)).length = n:=by rw [(sortP_perm _).length_eq,prsP_len]
theorem cut_sort (n : Nat) (f : FF) : cutN n (sortF n f) = (dsP n f).length ∧ cutF n (sortF n f) = pairsF (dsP n f):=by
 have : prsP n (sortF n f) = sortP (prsP n f):=by
  have := prs_pairs (sortP (prsP n f))
  rw [sort_len] at this;exact this
 unfold cutN cutF dsP
 rw [this]
 exact ⟨rfl,rfl⟩
theorem ds_mem {n : Nat} {f : FF} (x : Int × Int) : x ∈ dsP n f ↔ ∃ r,r < n ∧ pt f r = x:=by
 unfold dsP
 rw [(compP_sorted (sortP_sorted _)).2 x,(sortP_perm _).mem_iff]
 unfold prsP
 simp only [List.mem_map,List.mem_range,prP_pt]
theorem ds_fw {n : Nat} {f : FF} {i j : Nat} (hij : i < j) (hj : j < (dsP n f).length) : fw (pt (pairsF (dsP n f)) i) (pt (pairsF (dsP n f)) j):=by
 rw [pairs_pt hj,pairs_pt (Nat.lt_trans hij hj)]
 exact (List.pairwise_iff_getElem.1 (compP_sorted (sortP_sorted (prsP n f))).1) i j _ _ hij
theorem ds_cov {n : Nat} {f : FF} {r : Nat} (hr : r < n) : ∃ j,j < (dsP n f).length ∧ pt f r = pt (pairsF (dsP n f)) j:=by
 obtain ⟨j,hj,e⟩ := List.getElem_of_mem ((ds_mem (pt f r)).2 ⟨r,hr,rfl⟩)
 exact ⟨j,hj,by rw [pairs_pt hj,e]⟩
theorem ds_bck {n : Nat} {f : FF} {j : Nat} (hj : j < (dsP n f).length) : ∃ r,r < n ∧ pt (pairsF (dsP n f)) j = pt f r:=by
 obtain ⟨r,hr,e⟩:=(ds_mem _).1 (List.getElem_mem hj)
 exact ⟨r,hr,by rw [pairs_pt hj,e]⟩
theorem ds_len_le (n : Nat) (f : FF) : (dsP n f).length ≤ n:=by
 have := compP_len (sortP (prsP n f))
 rwa [sort_len] at this
theorem sortable_nr {n : Nat} {f : FF} (hn : n ≤ 60) (hA : AllNr n f) : sortable n f = true:=by
 unfold sortable
 rw [Bool.and_eq_true]
 refine ⟨by rw [Nat.ble_eq];omega,List.all_eq_true.2 fun x hx => ?_⟩
 unfold prsP at hx
 simp only [List.mem_map,List.mem_range] at hx
 obtain ⟨r,hr,e⟩ := hx
 subst e
 have := hA r hr
 unfold nr at this
 rw [prP_pt]
 have hl : sortLim = 2305843009213693952 := rfl
 simp only [inB,Bool.and_eq_true,decide_eq_true_eq]
 rw [hl]
 show ((_ < CV.int (f r 0) ∧ CV.int (f r 0) < _) ∧ _ < CV.int (f r 1)) ∧ CV.int (f r 1) < _
 omega
theorem hull205 (n : Nat) (f : FF) (h0 : 0 < n) (hn : n ≤ 60) (hA : AllNr n f) : ∃ m g,F205 100 n f = some (m,g) ∧ Hul n (pt f) m (pt g):=by
 have hN := ds_len_le n f
 obtain ⟨c1,c2⟩ := cut_sort n f
 obtain ⟨b,hb1,hb2⟩ := far50 n f hn
 have hb := hb2.2 hA
 subst hb
 have hsT : F203 100 n f = some (sortF n f):=by
  unfold F203 sortT
  rw [sortable_nr hn hA];rfl
 have hbn : Nat.beq n n = true:=by simp
 have hb0 : Nat.beq n 0 = false:=by
  cases n with
  | zero => omega
  | succ n => rfl
 unfold F205 FT205
 rw [hb1,ob_some,bif_f (by rfl),bif_t (ble_ok (by omega)),hsT,ob_some,bif_t hbn,bif_f hb0,c1,c2]
 have hNb : Nat.ble (dsP n f).length n = true:=by rw [Nat.ble_eq];exact hN
 rw [hbn,hNb,bif_t (by rfl)]
 have hnr : ∀ j,j < (dsP n f).length → nr (CV.int (pairsF (dsP n f) j 0)) (CV.int (pairsF (dsP n f) j 1)):=by
  intro j hj
  obtain ⟨r,hr,e⟩ := ds_bck hj
  rw [show CV.int (pairsF (dsP n f) j 0) = CV.int (f r 0) from congrArg Prod.fst e,show CV.int (pairsF (dsP n f) j 1) = CV.int (f r 1) from congrArg Prod.snd e]
  exact hA r hr
 have hP : ∀ i j,i < j → j < (dsP n f).length → fw (pt (pairsF (dsP n f)) i) (pt (pairsF (dsP n f)) j):=fun i j hij hj => ds_fw hij hj
 have cov : ∀ r,r < n → ∃ j,j < (dsP n f).length ∧ pt f r = pt (pairsF (dsP n f)) j:=fun r hr => ds_cov hr
 have bck : ∀ j,j < (dsP n f).length → ∃ r,r < n ∧ pt (pairsF (dsP n f)) j = pt f r:=fun j hj => ds_bck hj
 generalize hD : pairsF (dsP n f) = D at *
 generalize hL : (dsP n f).length = N at *
 by_cases h3 : N < 3
 ·rw [bif_t (by simp;omega),ob_some]
  refine ⟨N,D,rfl,?_⟩
  obtain ⟨j,hj,_⟩ := cov 0 h0
  match N,h3,hj with
  | 1,_,_ => exact hul_one h0 (fun r hr => by
    obtain ⟨j,hj,e⟩ := cov r hr
    rw [e];congr 1;omega)
  | 2,_,_ => exact hul_two (hP 0 1 (by omega) (by omega)) cov bck
 ·obtain ⟨k1,g1,p1,C1⟩ := chain_law sgn_id (N := N) (F := D) (by omega) (by omega) hnr hP
  have hrev : ∀ i,i < N → pt (revF N D) i = pt D (N - 1 - i):=fun i hi => rfl
  obtain ⟨k2,g2,p2,C2⟩ := chain_law sgn_ng (N := N) (F := revF N D) (by omega) (by omega) (fun i hi => hnr (N - 1 - i) (by omega)) (fun i j hij hj => by
   rw [hrev i (by omega),hrev j hj]
   exact fw_ng.2 (hP _ _ (by omega) (by omega)))
  have q1 : Nat.beq N N = true:=by simp
  have q2 : Nat.beq N 0 = false:=by
   cases N with
   | zero => omega
   | succ N => rfl
  have t1 := C1.two hP (by omega)
  have t2 := C2.two (N := N) (P:=fun i => ng (pt (revF N D) i)) (fun i j hij hj => by
   show fw (ng (pt (revF N D) i)) (ng (pt (revF N D) j))
   rw [hrev i (by omega),hrev j hj]
   exact fw_ng.2 (hP _ _ (by omega) (by omega))) (by omega)
  have z1 := C1.size
  have z2 := C2.size
  have w1 : w64 (Int.ofNat k1 - 1) = Int.ofNat (k1 - 1):=by rw [w64_of] <;> simp <;> omega
  have w2 : w64 (Int.ofNat k2 - 1) = Int.ofNat (k2 - 1):=by rw [w64_of] <;> simp <;> omega
  rw [bif_f (by simp;omega),p1,ob_some]
  dsimp only
  rw [bif_t (ble_ok (by omega)),bif_t q1,bif_f q2,p2,ob_some]
  dsimp only
  rw [w1,w2,bif_t (ble_ok (by omega)),bif_t (inbe_true (by simp) (by simp <;> omega)),bif_t (inbe_true (by simp) (by simp <;> omega)),toNat_nat,toNat_nat,Nat.sub_zero,Nat.sub_zero,bif_t (ble_ok (by omega)),ob_some]
  refine ⟨_,_,rfl,?_⟩
  refine hul_of (P := pt D) hP (by omega) C1 (s2 := pt g2) ?_ cov bck (fun i hi => ?_) (fun i hi => ?_)
  ·exact C2
  ·show (CV.int (joinF _ _ _ _ _),CV.int (joinF _ _ _ _ _)) = _
   rw [joinF_old _ _ _ _ _ hi,joinF_old _ _ _ _ _ hi]
  ·show (CV.int (joinF _ _ _ _ _),CV.int (joinF _ _ _ _ _)) = _
   rw [joinF_new _ _ _ _ _ (by omega),joinF_new _ _ _ _ _ (by omega),show k1 - 1 + i - (k1 - 1) = i by omega]
end Go.Eng.R13
/-
 Hull: what the reference returns.
-/
set_option linter.all false
set_option maxRecDepth 100000
namespace Go.Eng.R13
open Go Go.RowKit Go.Eng Geo
end Go.Eng.R13
/-
 Hull and Bounds: the program's and the reference's.
-/
set_option linter.all false
set_option maxRecDepth 100000
namespace Go.Eng.R13
open Go Go.RowKit Go.Eng Geo
theorem bounds_loop215 {ρ : Type} (u n : Nat) (f : FF) (k0 : Int → Int → Int → Int → Option ρ) (hn : n ≤ 9223372036854775807) : ∀ (m i : Nat) (p q r s : Int),n < m + i → i ≤ n → (0 < i → Bds f i p q r s) →
  ∃ p' q' r' s',L215v1 u n f m (Int.ofNat i) p q r s k0 = k0 p' q' r' s' ∧ (0 < n → Bds f n p' q' r' s') ∧ (n = 0 → p' = p ∧ q' = q ∧ r' = r ∧ s' = s):=by
 intro m
 induction m with
 | zero => intro i p q r s h1 h2;omega
 | succ m ih =>
  intro i p q r s h1 h2 hB
  unfold L215v1
  rw [lt_nat,inb_nat,toNat_nat]
  by_cases h : i < n
  ·rw [bif_t (by simpa using h),w64_succ (by omega)]
   have hd := decide_eq_true h
   by_cases h0 : i = 0
   ·subst h0
    have hd0 : inb 0 n = true:=by rw [show inb 0 n = inb (Int.ofNat 0) n from rfl,inb_nat];exact hd
    rw [bif_t (by simp),bif_t hd0,bif_t hd0,bif_t hd,bif_t hd,bif_t hd,bif_t hd]
    obtain ⟨p',q',r',s',a1,a2,a3⟩ := ih 1 (if (CV.int (f 0 0)) < (CV.int (f 0 0)) then (CV.int (f 0 0)) else (CV.int (f 0 0))) (if (CV.int (f 0 1)) < (CV.int (f 0 1)) then (CV.int (f 0 1)) else (CV.int (f 0 1))) (if (CV.int (f 0 0)) > (CV.int (f 0 0)) then (CV.int (f 0 0)) else (CV.int (f 0 0))) (if (CV.int (f 0 1)) > (CV.int (f 0 1)) then (CV.int (f 0 1)) else (CV.int (f 0 1))) (by omega) (by omega) (fun _ => by
     simp only [gt_iff_lt,ite_self]
     refine ⟨fun j hj => ?_,fun _ => ⟨⟨0,by omega,rfl⟩,⟨0,by omega,rfl⟩,⟨0,by omega,rfl⟩,⟨0,by omega,rfl⟩⟩⟩
     have : j = 0:=by omega
     subst this
     exact ⟨Int.le_refl _,Int.le_refl _,Int.le_refl _,Int.le_refl _⟩)
    exact ⟨p',q',r',s',a1,a2,fun hh => by omega⟩
   ·rw [bif_f (by simp [h0]),bif_t hd,bif_t hd,bif_t hd,bif_t hd]
    obtain ⟨p',q',r',s',a1,a2,a3⟩ := ih (i + 1) _ _ _ _ (by omega) (by omega) fun _ => (hB (by omega)).step (by omega) rfl rfl rfl rfl
    exact ⟨p',q',r',s',a1,a2,fun hh => by omega⟩
  ·rw [bif_f (by simpa using h)]
   have : i = n:=by omega
   subst this
   exact ⟨p,q,r,s,rfl,hB,fun _ => ⟨rfl,rfl,rfl,rfl⟩⟩
end Go.Eng.R13
/-
 The centroid lies inside of the hull.
-/
set_option linter.all false
set_option maxRecDepth 100000
namespace Geo
theorem para {d1 d2 u1 u2 v1 v2 : Int} (h0 : ¬ (d1 = 0 ∧ d2 = 0)) (h1 : d1 * u2 - d2 * u1 = 0) (h2 : d1 * v2 - d2 * v1 = 0) : u1 * v2 - u2 * v1 = 0:=by
 have e1 : d1 * (u1 * v2 - u2 * v1) = 0:=by grind
 have e2 : d2 * (u1 * v2 - u2 * v1) = 0:=by grind
 rcases Int.mul_eq_zero.1 e1 with k | k
 ·rcases Int.mul_eq_zero.1 e2 with k2 | k2
  ·exact absurd ⟨k,k2⟩ h0
  ·exact k2
 ·exact k
theorem hul3 {n m : Nat} {p h : Nat → Pt} (S : Simple n p) (H : Hul n p m h) : 3 ≤ m:=by
 have hb := S.big
 have hp := H.pos
 rcases Nat.lt_or_ge m 3 with hm | hm
 ·exfalso
  rcases Nat.lt_or_ge m 2 with h1 | h1
  ·have hall := H.one (by omega)
   exact S.dist 0 1 (by omega) (by omega) (by omega) ((hall 0 (by omega)).trans (hall 1 (by omega)).symm)
  ·have : m = 2:=by omega
   subst this
   have st := H.step (by omega) (show 0 < 2 by omega)
   have e0 : nx 2 0 = 1 := rfl
   have e1 : nx 2 1 = 0 := rfl
   rw [e0] at st
   have flat : ∀ r,r < n → cross (h 0) (h 1) (p r) = 0:=by
    intro r hr
    have k0:=(H.edge (by omega) 0 (by omega) r hr).nonneg
    have k1:=(H.edge (by omega) 1 (by omega) r hr).nonneg
    rw [e0] at k0
    rw [e1] at k1
    have : cross (h 1) (h 0) (p r) = - cross (h 0) (h 1) (p r):=by unfold cross;grind
    omega
   refine area_simple S ?_
   rw [area_fan n p (h 0),sm_congr (g:=fun _ => 0) (fun i hi => ?_),sm_zero]
   have f1 := flat i hi
   have f2 := flat (nx n i) (nx_lt hb)
   unfold cross at f1 f2 ⊢
   exact para (fun hh => st (Prod.ext (by omega) (by omega))) f1 f2
 ·exact hm
end Geo
namespace Go.Eng.R13
open Go Go.RowKit Go.Eng Geo
theorem mom_bd {n : Nat} {p : Nat → Pt} (hb : 3 ≤ n) (hn : n ≤ 32) (h : ∀ i,i < n → -4096 ≤ (p i).1 ∧ (p i).1 ≤ 4096 ∧ -4096 ≤ (p i).2 ∧ (p i).2 ≤ 4096) :
  (-8796093022208 ≤ sm n (mxp n p) ∧ sm n (mxp n p) ≤ 8796093022208) ∧ (-8796093022208 ≤ sm n (myp n p) ∧ sm n (myp n p) ≤ 8796093022208) ∧ (-1073741824 ≤ area n p ∧ area n p ≤ 1073741824):=by
 have term : ∀ i,i < n → (-33554432 ≤ (p i).1 * (p (nx n i)).2 - (p (nx n i)).1 * (p i).2 ∧ (p i).1 * (p (nx n i)).2 - (p (nx n i)).1 * (p i).2 ≤ 33554432):=by
  intro i hi
  have h1 := h i hi
  have h2 := h _ (nx_lt (i := i) hb)
  have k1 := mul_bd (x:=(p i).1) (y:=(p (nx n i)).2) (A := 4096) (B := 4096) (by omega) (by omega) (by omega) (by omega)
  have k2 := mul_bd (x:=(p (nx n i)).1) (y:=(p i).2) (A := 4096) (B := 4096) (by omega) (by omega) (by omega) (by omega)
  omega
 have tx : ∀ i,i < n → (-274877906944 ≤ mxp n p i ∧ mxp n p i ≤ 274877906944) ∧ (-274877906944 ≤ myp n p i ∧ myp n p i ≤ 274877906944):=by
  intro i hi
  have h1 := h i hi
  have h2 := h _ (nx_lt (i := i) hb)
  have h3 := term i hi
  have k1 := mul_bd (x:=(p i).1 + (p (nx n i)).1) (y:=(p i).1 * (p (nx n i)).2 - (p (nx n i)).1 * (p i).2) (A := 8192) (B := 33554432) (by omega) (by omega) (by omega) (by omega)
  have k2 := mul_bd (x:=(p i).2 + (p (nx n i)).2) (y:=(p i).1 * (p (nx n i)).2 - (p (nx n i)).1 * (p i).2) (A := 8192) (B := 33554432) (by omega) (by omega) (by omega) (by omega)
  unfold mxp myp
  omega
 have bd : ∀ (g : Nat → Int) (C : Int),(∀ i,i < n → -C ≤ g i ∧ g i ≤ C) → -(n * C) ≤ sm n g ∧ sm n g ≤ n * C:=by
  intro g C hg
  have h1 := sm_le (n := n) (f := g) (g:=fun _ => C) (fun i hi => (hg i hi).2)
  have h2 := sm_le (n := n) (f:=fun _ => -C) (g := g) (fun i hi => (hg i hi).1)
  rw [sm_const] at h1 h2
  rw [Int.mul_neg] at h2
  exact ⟨h2,h1⟩
 have b1 := bd (mxp n p) 274877906944 (fun i hi => (tx i hi).1)
 have b2 := bd (myp n p) 274877906944 (fun i hi => (tx i hi).2)
 have b3 := bd (fun i => (p i).1 * (p (nx n i)).2 - (p (nx n i)).1 * (p i).2) 33554432 term
 have e : sm n (fun i => (p i).1 * (p (nx n i)).2 - (p (nx n i)).1 * (p i).2) = area n p := rfl
 rw [e] at b3
 omega
theorem side_test {n : Nat} {q : Nat → Pt} {a b : Pt} (S : Simple n q) (hs : n ≤ 32) (hA : 0 < area n q) (hne : a ≠ b) (hl : ∀ i,i < n → 0 ≤ cross a b (q i)) (ha : nr a.1 a.2) (hab : -4096 ≤ b.1 - a.1 ∧ b.1 - a.1 ≤ 4096 ∧ -4096 ≤ b.2 - a.2 ∧ b.2 - a.2 ≤ 4096)
  (hq : ∀ i,i < n → nr (q i).1 (q i).2) (hbox : ∀ i,i < n → -4096 ≤ (q i).1 - a.1 ∧ (q i).1 - a.1 ≤ 4096 ∧ -4096 ≤ (q i).2 - a.2 ∧ (q i).2 - a.2 ≤ 4096) (hX : -9007199254740992 ≤ sm n (mxp n q) ∧ sm n (mxp n q) ≤ 9007199254740992) (hY : -9007199254740992 ≤ sm n (myp n q) ∧ sm n (myp n q) ≤ 9007199254740992) :
  decide (w64 (w64 (b.1 - a.1) * w64 (sm n (myp n q) - w64 (w64 (3 * area n q) * a.2))) ≤ w64 (w64 (b.2 - a.2) * w64 (sm n (mxp n q) - w64 (w64 (3 * area n q) * a.1)))) = false:=by
 have hb := S.big
 have key := mom_side S hA hne hl
 obtain ⟨m1,m2,m3⟩ := mom_bd (p:=fun i => ((q i).1 + -a.1,(q i).2 + -a.2)) hb hs (fun i hi => by
  have := hbox i hi
  dsimp only
  omega)
 have X1 := mx_tr (-a.1) (-a.2) (n := n) (p := q) (q:=fun i => ((q i).1 + -a.1,(q i).2 + -a.2)) (by omega) (fun i _ => rfl)
 have Y1 := my_tr (-a.1) (-a.2) (n := n) (p := q) (q:=fun i => ((q i).1 + -a.1,(q i).2 + -a.2)) (by omega) (fun i _ => rfl)
 have A1 : area n (fun i => ((q i).1 + -a.1,(q i).2 + -a.2)) = area n q:=by
  have:=(rigid_tr (-a.1, -a.2)).area n q
  rw [Int.one_mul] at this
  exact this
 rw [X1] at m1
 rw [Y1] at m2
 rw [A1] at m3
 unfold nr at ha
 have p1 := mul_bd (x := 3 * area n q) (y := a.1) (A := 3221225472) (B := 32768) (by omega) (by omega) (by omega) (by omega)
 have p2 := mul_bd (x := 3 * area n q) (y := a.2) (A := 3221225472) (B := 32768) (by omega) (by omega) (by omega) (by omega)
 have q1 : 3 * -a.1 * area n q = - (3 * area n q * a.1):=by grind
 have q2 : 3 * -a.2 * area n q = - (3 * area n q * a.2):=by grind
 rw [q1] at m1
 rw [q2] at m2
 rw [w64_of (n := b.1 - a.1) (by omega) (by omega),w64_of (n := b.2 - a.2) (by omega) (by omega),w64_of (n := 3 * area n q) (by omega) (by omega),w64_of (n := 3 * area n q * a.2) (by omega) (by omega),w64_of (n := 3 * area n q * a.1) (by omega) (by omega),
  w64_of (n := sm n (myp n q) - 3 * area n q * a.2) (by omega) (by omega),w64_of (n := sm n (mxp n q) - 3 * area n q * a.1) (by omega) (by omega)]
 have r1 := mul_bd (x := b.1 - a.1) (y := sm n (myp n q) - 3 * area n q * a.2) (A := 4096) (B := 8796093022208) (by omega) (by omega) (by omega) (by omega)
 have r2 := mul_bd (x := b.2 - a.2) (y := sm n (mxp n q) - 3 * area n q * a.1) (A := 4096) (B := 8796093022208) (by omega) (by omega) (by omega) (by omega)
 rw [w64_of (by omega) (by omega),w64_of (by omega) (by omega)]
 exact decide_eq_false (by omega)
theorem loop221 {ρ : Type} {n m : Nat} {f g : FF} {q : Nat → Pt} (u : Nat) (V : Valid n f) (H : Hul n (pt f) m (pt g)) (S : Simple n q) (hA : 0 < area n q) (hpts : ∀ i,i < n → ∃ j,j < n ∧ q i = pt f j)
  (hbox : ∀ i j,i < n → j < n → -4096 ≤ (pt f i).1 - (pt f j).1 ∧ (pt f i).1 - (pt f j).1 ≤ 4096 ∧ -4096 ≤ (pt f i).2 - (pt f j).2 ∧ (pt f i).2 - (pt f j).2 ≤ 4096)
  (hX : -9007199254740992 ≤ sm n (mxp n q) ∧ sm n (mxp n q) ≤ 9007199254740992) (hY : -9007199254740992 ≤ sm n (myp n q) ∧ sm n (myp n q) ≤ 9007199254740992) (k0 k1 : Option ρ) : ∀ (M i : Nat),m < M + i → i ≤ m →
  L221v1 u (area n q) (sm n (mxp n q)) (sm n (myp n q)) m g M (Int.ofNat i) k0 k1 = k1:=by
 have h3 := hul3 V.simple H
 have hsz := H.size
 have hs := V.small
 intro M
 induction M with
 | zero => intro i h1 h2;omega
 | succ M ih =>
  intro i h1 h2
  unfold L221v1
  rw [lt_nat,inb_nat,toNat_nat]
  by_cases hi : i < m
  ·have hx : nx m i < m := nx_lt h3
   obtain ⟨ra,hra,ea⟩ := H.mem i hi
   obtain ⟨rb,hrb,eb⟩ := H.mem _ hx
   have na : nr (CV.int (g i 0)) (CV.int (g i 1)):=by
    have := V.near ra hra
    rw [show CV.int (g i 0) = CV.int (f ra 0) from congrArg Prod.fst ea,show CV.int (g i 1) = CV.int (f ra 1) from congrArg Prod.snd ea]
    exact this
   have nb : nr (CV.int (g (nx m i) 0)) (CV.int (g (nx m i) 1)):=by
    have := V.near rb hrb
    rw [show CV.int (g (nx m i) 0) = CV.int (f rb 0) from congrArg Prod.fst eb,show CV.int (g (nx m i) 1) = CV.int (f rb 1) from congrArg Prod.snd eb]
    exact this
   obtain ⟨z1,c1,c2⟩ := near69 (CV.int (g i 0)) (CV.int (g i 1))
   obtain ⟨z2,d1,d2⟩ := near69 (CV.int (g (nx m i) 0)) (CV.int (g (nx m i) 1))
   have := c2.2 na
   subst this
   have := d2.2 nb
   subst this
   have e1 : (i + 1) % m = nx m i := rfl
   have st := H.step (by omega) hi
   have bab := hbox rb ra hrb hra
   rw [← ea,← eb] at bab
   have test := side_test (a := pt g i) (b := pt g (nx m i)) S hs hA (fun e => st e.symm) (fun j hj => by
    obtain ⟨r,hr,e⟩ := hpts j hj
    rw [e]
    exact (H.edge (by omega) i hi r hr).nonneg) na bab (fun j hj => by
    obtain ⟨r,hr,e⟩ := hpts j hj
    rw [e];exact V.near r hr) (fun j hj => by
    obtain ⟨r,hr,e⟩ := hpts j hj
    rw [e,ea]
    exact hbox r ra hr hra) hX hY
   rw [bif_t (decide_eq_true hi),bif_t (decide_eq_true hi),bif_f (ofNat_ne0 (by omega)),w64_succ (by omega),tmod_nat,inb_nat,toNat_nat,e1,bif_t (decide_eq_true hx),c1,ob_some,bif_t (by rfl),d1,ob_some,bif_t (by rfl)]
   refine Eq.trans (bif_f ?_ _ _) (ih (i + 1) (by omega) (by omega))
   exact test
  ·rw [bif_f (by simp;omega)]
theorem centres12 (n0c0 : Nat) (f0c0 : Nat → Nat → CV) (h0c0 : SlIn (.pr (.int .i64) (.pr (.int .i64) .nil)) n0c0 f0c0) : F221 (n0c0 + 100) n0c0 f0c0 = some true:=by
 have hn : n0c0 ≤ 9223372036854775807 := h0c0.1
 generalize n0c0 = n at *
 generalize f0c0 = f at *
 unfold F221
 rw [awake_law]
 have hB : ∃ p q r s,F215 (n + 100) n f = some (p,q,r,s) ∧ (0 < n → Bds f n p q r s):=by
  unfold F215
  obtain ⟨p',q',r',s',a1,a2,_⟩ := bounds_loop215 (n + 100) n f (fun x16 x17 x18 x19 => (some (x16,x17,x18,x19))) hn (n + 100) 0 0 0 0 0 (by omega) (by omega) (fun h => absurd h (by omega))
  exact ⟨p',q',r',s',a1,a2⟩
 obtain ⟨lx,ly,hx,hy,hb1,hb2⟩ := hB
 obtain ⟨c,_,h2,h3⟩ := check_law n f
 rw [hb1,ob_some,h2,ob_some]
 dsimp only
 by_cases hc : c = 0
 ·have V := h3.1 hc
  have hbig := V.big
  have hs := V.small
  rw [bif_t (by simp [hc])]
  have B := hb2 (by omega)
  obtain ⟨⟨j1,g1,e1⟩,⟨j2,g2,e2⟩,⟨j3,g3,e3⟩,⟨j4,g4,e4⟩⟩ := B.2 (by omega)
  have v1 := V.near j1 g1
  have v2 := V.near j2 g2
  have v3 := V.near j3 g3
  have v4 := V.near j4 g4
  unfold nr at v1 v2 v3 v4
  have w1 : w64 (hx - lx) = hx - lx := w64_of (by omega) (by omega)
  have w2 : w64 (hy - ly) = hy - ly := w64_of (by omega) (by omega)
  rw [w1,w2]
  by_cases hdx : hx - lx > 4096
  ·rw [bif_f (by rw [decide_eq_true hdx];rfl)];rfl
  rw [bif_t (by rw [decide_eq_false hdx];rfl)]
  by_cases hdy : hy - ly > 4096
  ·rw [bif_t (decide_eq_true hdy)];rfl
  rw [bif_f (decide_eq_false hdy)]
  have hbox : ∀ i j,i < n → j < n → -4096 ≤ (pt f i).1 - (pt f j).1 ∧ (pt f i).1 - (pt f j).1 ≤ 4096 ∧ -4096 ≤ (pt f i).2 - (pt f j).2 ∧ (pt f i).2 - (pt f j).2 ≤ 4096:=by
   intro i j hi hj
   have k1 := B.1 i hi
   have k2 := B.1 j hj
   show -4096 ≤ CV.int (f i 0) - CV.int (f j 0) ∧ CV.int (f i 0) - CV.int (f j 0) ≤ 4096 ∧ -4096 ≤ CV.int (f i 1) - CV.int (f j 1) ∧ CV.int (f i 1) - CV.int (f j 1) ≤ 4096
   omega
  have bm := ms_bd V.big V.near n (Nat.le_refl _)
  have ba := asum_bd V.big V.near n (Nat.le_refl _)
  have ba' : sm n (aterm n f) = area n (pt f) := rfl
  rw [ba'] at ba
  obtain ⟨m,g,hh,H⟩ := hull205 n f (by omega) (by omega) V.near
  have hm3 := hul3 V.simple H
  have hne := area_simple V.simple
  rw [area34 V,ob_some,moment_law V,ob_some,mxt_p,myt_p]
  rw [mxt_p,myt_p] at bm
  dsimp only
  by_cases hneg : area n (pt f) < 0
  ·have al := alike_rev V.big (pt f)
   have ea : w64 (0 - area n (pt f)) = area n (rv n (pt f)):=by rw [al.area,w64_of] <;> omega
   have ex : w64 (0 - sm n (mxp n (pt f))) = sm n (mxp n (rv n (pt f))):=by rw [al.mx,w64_of] <;> omega
   have ey : w64 (0 - sm n (myp n (pt f))) = sm n (myp n (rv n (pt f))):=by rw [al.my,w64_of] <;> omega
   have hA : 0 < area n (rv n (pt f)):=by rw [al.area];omega
   rw [bif_t (decide_eq_true hneg),hh,ob_some]
   dsimp only
   rw [ea,ex,ey,bif_t (by rw [decide_eq_false (by omega)];rfl),bif_f (by simp;omega),show (0 : Int) = Int.ofNat 0 from rfl]
   rw [loop221 (n + 100) V H (al.simple V.simple) hA al.pts hbox (by rw [al.mx];omega) (by rw [al.my];omega) _ _ (n + 100) 0 (by have := H.size;omega) (by omega)]
   rfl
  ·rw [bif_f (decide_eq_false hneg),hh,ob_some]
   dsimp only
   rw [bif_t (by rw [decide_eq_false (by omega)];rfl),bif_f (by simp;omega),show (0 : Int) = Int.ofNat 0 from rfl]
   rw [loop221 (n + 100) V H V.simple (by omega) (fun i hi => ⟨i,hi,rfl⟩) hbox (by omega) (by omega) _ _ (n + 100) 0 (by have := H.size;omega) (by omega)]
   rfl
 ·rw [bif_f (by simp [hc])]
  rfl
end Go.Eng.R13
