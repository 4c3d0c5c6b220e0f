/-
 Several texts in one.
-/
import Derived.Test.YtngjgbhdhaopmaaGeo6
import Derived.Test.YtngjgbhdhaopmaaPlRv
import Derived.Test.YtngjgbhdhaopmaaPlShift
import Derived.Test.YtngjgbhdhaopmaaPlSums
import Derived.Test.YtngjgbhdhaopmaaPySort
/-
 The examples of the chapter;Check,Where.
-/
set_option linter.all false
set_option maxRecDepth 100000
namespace Go.Eng.R13
open Go Go.RowKit Go.Eng Geo
theorem awake_law : F207 100 = some true:=by kernel_rfl
end Go.Eng.R13
/-
 Moments and convexity: what the program computes of a valid polygon.
-/
set_option linter.all false
namespace Go.Eng.R13
open Go Go.RowKit Go.Eng Geo
theorem valid_code {n : Nat} {f : FF} (V : Valid n f) : F33 100 n f = some 0 ∧ F37 100 n f = some 0:=by
 obtain ⟨c,h1,h2,h3⟩ := check_law n f
 have hc := h3.2 V
 subst hc
 exact ⟨h1,h2⟩
theorem area34 {n : Nat} {f : FF} (V : Valid n f) : F34 100 n f = some (area n (pt f)):=by
 obtain ⟨a,h1,_,h2⟩ := area_law n f
 rw [h1,h2 V]
def cr (n : Nat) (p : Nat → Pt) (i : Nat) : Int := cross (p i) (p (nx n i)) (p (nx n (nx n i)))
def Cvx (n : Nat) (p : Nat → Pt) : Prop := ∀ i,i < n → ¬ opp (cr n p i) (area n p)
theorem conv200 {ρ : Type} (n : Nat) (f : FF) (a : Int) (hn : n ≤ 32) (h0 : 3 ≤ n) (hA : AllNr n f) (k0 k1 : Option ρ) : ∀ (m i : Nat),n < m + i → i ≤ n →
  ((∃ j,i ≤ j ∧ j < n ∧ opp (cr n (pt f) j) a) ∧ L200v1 100 n f (sgn a) (Int.ofNat n) m (Int.ofNat i) k0 k1 = k0) ∨ ((∀ j,i ≤ j → j < n → ¬ opp (cr n (pt f) j) a) ∧ L200v1 100 n f (sgn a) (Int.ofNat n) m (Int.ofNat i) k0 k1 = k1):=by
 intro m
 induction m with
 | zero => intro i h1 h2;omega
 | succ m ih =>
  intro i h1 h2
  unfold L200v1
  rw [lt_nat,inb_nat,toNat_nat]
  by_cases h : i < n
  ·have hx : nx n i < n := nx_lt h0
   have hy : nx n (nx n i) < n := nx_lt h0
   have e1 : (i + 1) % n = nx n i := rfl
   have e2 := nx2 h0 h
   rw [bif_t (by simpa using h),bif_t (by simpa using h),bif_f (ofNat_ne0 (by omega)),w64_succ (by omega),w64_succ2 (by omega),tmod_nat,tmod_nat,inb_nat,inb_nat,toNat_nat,toNat_nat,e1,e2,bif_t (by simpa using hx),bif_f (ofNat_ne0 (by omega)),bif_t (by simpa using hy)]
   rw [cross79 (hA i h) (hA _ hx) (hA _ hy),show cross (CV.int (f i 0),CV.int (f i 1)) (CV.int (f (nx n i) 0),CV.int (f (nx n i) 1)) (CV.int (f (nx n (nx n i)) 0),CV.int (f (nx n (nx n i)) 1)) = cr n (pt f) i from rfl,ob_some,sign86,ob_some,sgn_opp]
   by_cases ho : opp (cr n (pt f) i) a
   ·left
    refine ⟨⟨i,Nat.le_refl _,h,ho⟩,?_⟩
    rw [bif_t (decide_eq_true ho)]
   ·rw [bif_f (decide_eq_false ho)]
    rcases ih (i + 1) (by omega) (by omega) with ⟨⟨j,h3,h4,h5⟩,h6⟩ | ⟨h3,h4⟩
    ·exact .inl ⟨⟨j,by omega,h4,h5⟩,h6⟩
    ·refine .inr ⟨fun j hj hjn => ?_,h4⟩
     by_cases hji : j = i
     ·subst hji;exact ho
     ·exact h3 j (by omega) hjn
  ·rw [bif_f (by simpa using h)]
   exact .inr ⟨fun j h3 h4 => by omega,rfl⟩
theorem convex_law {n : Nat} {f : FF} (V : Valid n f) : ∃ b,F200 100 n f = some b ∧ (b = true ↔ Cvx n (pt f)):=by
 unfold F200
 have hs := V.small
 rw [(valid_code V).1,ob_some,bif_f (by rfl),area_law63 n f V.small V.big V.near,ob_some,sign86,ob_some]
 rcases conv200 n f (area n (pt f)) V.small V.big V.near (some false) (some true) 100 0 (by omega) (by omega) with ⟨⟨j,_,h4,h5⟩,h6⟩ | ⟨h3,h4⟩
 ·exact ⟨false,h6,by simp;exact fun h => h j h4 h5⟩
 ·exact ⟨true,h4,by simp;exact fun j hj => h3 j (Nat.zero_le _) hj⟩
theorem Cvx.eq {n m : Nat} {f g : FF} (V : Valid n f) (W : Valid m g) (h : Cvx n (pt f) ↔ Cvx m (pt g)) : ∃ b,F200 100 n f = some b ∧ F200 100 m g = some b:=by
 obtain ⟨b,h1,h2⟩ := convex_law V
 obtain ⟨c,h3,h4⟩ := convex_law W
 have : b = c:=by
  cases b <;> cases c <;> simp_all
 subst this
 exact ⟨b,h1,h3⟩
end Go.Eng.R13
/-
 Another first corner,and the opposite order.
-/
set_option linter.all false
set_option maxRecDepth 100000
namespace Geo
theorem nx_surj {n i : Nat} (h : 0 < n) (hi : i < n) : ∃ j,j < n ∧ nx n j = i:=by
 match i with
 | 0 => exact ⟨n - 1,by omega,by unfold nx;rw [show n - 1 + 1 = n by omega,Nat.mod_self]⟩
 | i + 1 => exact ⟨i,by omega,by unfold nx;exact Nat.mod_eq_of_lt hi⟩
end Geo
namespace Go.Eng.R13
open Go Go.RowKit Go.Eng Geo
structure Alike (s : Int) (n : Nat) (p q : Nat → Pt) : Prop where
 simple : Simple n p → Simple n q
 area : area n q = s * area n p
 on : ∀ z,OnK n q z ↔ OnK n p z
 par : ∀ z,¬ OnK n p z → par n q z = par n p z
 cvx : Cvx n q ↔ Cvx n p
 mx : sm n (mxp n q) = s * sm n (mxp n p)
 my : sm n (myp n q) = s * sm n (myp n p)
 pts : ∀ i,i < n → ∃ j,j < n ∧ q i = p j
theorem Alike.trans {s t : Int} {n : Nat} {p q r : Nat → Pt} (h : Alike s n p q) (k : Alike t n q r) : Alike (t * s) n p r where
 simple:=fun S => k.simple (h.simple S)
 area:=by rw [k.area,h.area,Int.mul_assoc]
 on:=fun z => (k.on z).trans (h.on z)
 par:=fun z hz => (k.par z (fun hh => hz ((h.on z).1 hh))).trans (h.par z hz)
 cvx := k.cvx.trans h.cvx
 mx:=by rw [k.mx,h.mx,Int.mul_assoc]
 my:=by rw [k.my,h.my,Int.mul_assoc]
 pts:=fun i hi => by
  obtain ⟨j,hj,e⟩ := k.pts i hi
  obtain ⟨l,hl,e2⟩ := h.pts j hj
  exact ⟨l,hl,e.trans e2⟩
theorem Alike.congr {s : Int} {n : Nat} (h0 : 0 < n) {p q r : Nat → Pt} (h : Alike s n p q) (e : ∀ i,i < n → r i = q i) : Alike s n p r where
 simple:=fun S => simple_congr (fun i hi => (e i hi).symm) (h.simple S)
 area:=by rw [area_congr h0 e];exact h.area
 on:=fun z => (onK_congr h0 e z).trans (h.on z)
 par:=fun z hz => (par_congr h0 e z).trans (h.par z hz)
 cvx:=by
  refine Iff.trans ?_ h.cvx
  unfold Cvx cr
  rw [area_congr h0 e]
  refine forall_congr' fun i => forall_congr' fun hi => ?_
  rw [e i hi,e _ (nx_lt' h0),e _ (nx_lt' h0)]
 mx:=by
  rw [← h.mx]
  refine sm_congr fun i hi => ?_
  unfold mxp
  rw [e i hi,e _ (nx_lt' h0)]
 my:=by
  rw [← h.my]
  refine sm_congr fun i hi => ?_
  unfold myp
  rw [e i hi,e _ (nx_lt' h0)]
 pts:=fun i hi => by rw [e i hi];exact h.pts i hi
theorem ej_nx {n j : Nat} (h3 : 3 ≤ n) (hj : j < n) : nx n (ej n (nx n j)) = ej n j:=by
 have hx : nx n j < n := nx_lt h3
 have h1 : rv n (fun i => ((i : Int),(0 : Int))) (nx n j) = (((ej n j : Nat) : Int),0):=(rv_edge (p:=fun i => ((i : Int),(0 : Int))) hj).2
 have h2 : rv n (fun i => ((i : Int),(0 : Int))) (nx n j) = (((nx n (ej n (nx n j)) : Nat) : Int),0):=(rv_edge (p:=fun i => ((i : Int),(0 : Int))) hx).1
 rw [h1] at h2
 have := congrArg Prod.fst h2
 simp at this
 omega
theorem alike_rev {n : Nat} (h3 : 3 ≤ n) (p : Nat → Pt) : Alike (-1) n p (rv n p) where
 simple := rv_simple
 area:=by rw [rv_area];omega
 on:=fun z => rv_onK
 par:=fun z hz => rv_par hz
 cvx:=by
  unfold Cvx
  rw [rv_area]
  have key : ∀ j,j < n → ∃ i,i < n ∧ cr n (rv n p) j = - cr n p i:=by
   intro j hj
   have hx : nx n j < n := nx_lt h3
   obtain ⟨e1,e2⟩ := rv_edge (p := p) hj
   obtain ⟨e3,e4⟩ := rv_edge (p := p) hx
   refine ⟨ej n (nx n j),ej_lt (by omega),?_⟩
   have e5 := ej_nx h3 hj
   unfold cr
   rw [e1,e2,e4,e5]
   unfold cross;grind
  have surj : ∀ i,i < n → ∃ j,j < n ∧ cr n (rv n p) j = - cr n p i:=by
   intro i hi
   obtain ⟨k,hk,e⟩ := nx_surj (by omega) (ej_lt (n := n) (j := i) (by omega))
   have h1 := ej_ej hi
   obtain ⟨i',hi',e'⟩ := key k hk
   have : ∃ j,j < n ∧ nx n j = ej n i := ⟨k,hk,e⟩
   refine ⟨k,hk,?_⟩
   have hx : nx n k < n := nx_lt h3
   obtain ⟨e1,e2⟩ := rv_edge (p := p) hk
   obtain ⟨e3,e4⟩ := rv_edge (p := p) hx
   have e5 := ej_nx h3 hk
   unfold cr
   rw [e1,e2,e4,← e5,e,h1]
   unfold cross;grind
  have ho : ∀ a b : Int,opp (-a) (-b) ↔ opp a b:=by intro a b;unfold opp;omega
  constructor
  ·intro h i hi hh
   obtain ⟨j,hj,e⟩ := surj i hi
   exact h j hj (by rw [e];exact (ho _ _).2 hh)
  ·intro h j hj hh
   obtain ⟨i,hi,e⟩ := key j hj
   rw [e] at hh
   exact h i hi ((ho _ _).1 hh)
 mx:=by
  have : sm n (mxp n (rv n p)) = sm n fun j => (fun e => - mxp n p e) (ej n j) := sm_congr fun j hj => by
   obtain ⟨e1,e2⟩ := rv_edge (p := p) hj
   show mxp n (rv n p) j = - mxp n p (ej n j)
   unfold mxp;rw [e1,e2];grind
  rw [this.trans (sm_ej n (fun e => - mxp n p e)),← sm_mul]
  exact sm_congr fun i _ => by omega
 my:=by
  have : sm n (myp n (rv n p)) = sm n fun j => (fun e => - myp n p e) (ej n j) := sm_congr fun j hj => by
   obtain ⟨e1,e2⟩ := rv_edge (p := p) hj
   show myp n (rv n p) j = - myp n p (ej n j)
   unfold myp;rw [e1,e2];grind
  rw [this.trans (sm_ej n (fun e => - myp n p e)),← sm_mul]
  exact sm_congr fun i _ => by omega
 pts:=fun i hi => ⟨n - 1 - i,by omega,rfl⟩
theorem onC_K {n : Nat} {p : Nat → Pt} {q : Pt} : OnC n p q 0 ↔ OnK n p q := ⟨fun ⟨j,_,h,h'⟩ => ⟨j,h,h'⟩,fun ⟨j,h,h'⟩ => ⟨j,Nat.zero_le _,h,h'⟩⟩
theorem Are.pt {P : Nat → Int × Int} {g : FF} {n : Nat} (h : Are P g n) {i : Nat} (hi : i < n) : R13.pt g i = P i:=by
 obtain ⟨h1,h2⟩ := h i hi
 show (CV.int (g i 0),CV.int (g i 1)) = P i
 rw [h1,h2];rfl
end Go.Eng.R13
/-
 One side of the hull: what chain returns.
-/
set_option linter.all false
namespace Go.Eng.R13
open Go Go.RowKit Go.Eng Geo
structure Sgn (sg : Pt → Pt) : Prop where
 cr : ∀ a b c,cross (sg a) (sg b) (sg c) = cross a b c
 inj : ∀ a b,sg a = sg b → a = b
theorem pop204 {ρ : Type} {sg : Pt → Pt} (hs : Sgn sg) {P : Nat → Pt} {N t K : Nat} (hP : ∀ i j,i < j → j < N → fw (P i) (P j)) (ht : t < N) {g : FF} (C : Chn P t K (fun i => sg (pt g i))) (hK : K ≤ 60) (hnr : ∀ i,i < K → nr (CV.int (g i 0)) (CV.int (g i 1)))
  (a : Nat) (b : FF) (c d : Int) (e : Nat) {qx qy : Int} (hq : nr qx qy) (hqP : P t = sg (qx,qy)) (k0 : Nat → Option ρ) : ∀ (m k : Nat),k < m → Pop P t K (fun i => sg (pt g i)) k →
  ∃ k',L204v2 100 a b c d e g qx qy m k k0 = k0 k' ∧ Pop P t K (fun i => sg (pt g i)) k' ∧ (1 < k' → 0 < cross (sg (pt g (k' - 2))) (sg (pt g (k' - 1))) (P t)):=by
 intro m
 induction m with
 | zero => intro k h;omega
 | succ m ih =>
  intro k hm O
  have hk := O.size
  unfold L204v2
  by_cases h1 : 1 < k
  ·have e1 : w64 (Int.ofNat k - 2) = Int.ofNat (k - 2):=by rw [w64_of] <;> simp <;> omega
   have e2 : w64 (Int.ofNat k - 1) = Int.ofNat (k - 1):=by rw [w64_of] <;> simp <;> omega
   rw [bif_t (by simp;omega),e1,e2,inb_nat,inb_nat,bif_t (by simp;omega),bif_t (by simp;omega),toNat_nat,toNat_nat,Nat.zero_add,Nat.zero_add]
   rw [cross79 (hnr _ (by omega)) (hnr _ (by omega)) hq,ob_some]
   have ec : cross (CV.int (g (k - 2) 0),CV.int (g (k - 2) 1)) (CV.int (g (k - 1) 0),CV.int (g (k - 1) 1)) (qx,qy) = cross (sg (pt g (k - 2))) (sg (pt g (k - 1))) (P t):=by
    rw [hqP,hs.cr]
   rw [ec]
   by_cases h2 : cross (sg (pt g (k - 2))) (sg (pt g (k - 1))) (P t) ≤ 0
   ·rw [bif_t (decide_eq_true h2),bif_t (inbe_true (by simp) (by simp)),Nat.sub_zero]
    exact ih (k - 1) (by omega) (O.step hP ht C h1 h2)
   ·rw [bif_f (decide_eq_false h2)]
    exact ⟨k,rfl,O,fun _ => by omega⟩
  ·rw [bif_f (by simp;omega)]
   exact ⟨k,rfl,O,fun h => absurd h h1⟩
theorem pop_none {ρ : Type} (m a : Nat) (b : FF) (c d : Int) (e : Nat) (g : FF) (qx qy : Int) (k0 : Nat → Option ρ) : L204v2 100 a b c d e g qx qy (m + 1) 0 k0 = k0 0:=by
 unfold L204v2
 rw [bif_f (by rfl)]
theorem chain_loop {ρ : Type} {sg : Pt → Pt} (hs : Sgn sg) {N : Nat} {F : FF} (hN : N ≤ 60) (hnr : ∀ i,i < N → nr (CV.int (F i 0)) (CV.int (F i 1))) (hP : ∀ i j,i < j → j < N → fw (sg (pt F i)) (sg (pt F j))) (k0 : Nat → FF → Option ρ) :
  ∀ (m t k : Nat) (g : FF),N < m + t → t ≤ N → (t = 0 ∧ k = 0 ∨ 0 < t ∧ Chn (fun i => sg (pt F i)) t k (fun i => sg (pt g i))) →
   ∃ k' g',L204v3 100 N F (Int.ofNat N) m k (Int.ofNat t) g k0 = k0 k' g' ∧ (N = 0 ∧ k' = 0 ∨ 0 < N ∧ Chn (fun i => sg (pt F i)) N k' (fun i => sg (pt g' i))):=by
 intro m
 induction m with
 | zero => intro t k g h1 h2;omega
 | succ m ih =>
  intro t k g h1 h2 hC
  unfold L204v3
  rw [lt_nat,inb_nat,toNat_nat]
  by_cases h : t < N
  ·have new : ∀ (k' : Nat) (g' : FF),g' = joinF k' g (rowsF 2 [(.i .i64 (CV.int (F t 0))),(.i .i64 (CV.int (F t 1)))]) → (∀ i,i < k' → pt g' i = pt g i) ∧ pt g' k' = pt F t:=by
    intro k' g' hg
    subst hg
    refine ⟨fun i hi => ?_,?_⟩
    ·show (CV.int _,CV.int _) = (CV.int _,CV.int _)
     rw [joinF_old _ _ _ _ _ hi,joinF_old _ _ _ _ _ hi]
    ·show (CV.int _,CV.int _) = (CV.int _,CV.int _)
     rw [joinF_new _ _ _ _ _ (Nat.le_refl _),joinF_new _ _ _ _ _ (Nat.le_refl _),Nat.sub_self]
     rfl
   rw [bif_t (decide_eq_true h),bif_t (decide_eq_true h),w64_succ (by omega)]
   rcases hC with ⟨rfl,rfl⟩ | ⟨h0,C⟩
   ·rw [pop_none 99 N F (Int.ofNat N) (Int.ofNat 0) 0 g (CV.int (F 0 0)) (CV.int (F 0 1))]
    rw [bif_t (by rfl)]
    obtain ⟨n1,n2⟩ := new 0 _ rfl
    refine ih (0 + 1) (0 + 1) _ (by omega) (by omega) (.inr ⟨by omega,?_⟩)
    have := chn_one (P:=fun i => sg (pt F i))
    refine ⟨by omega,by omega,congrArg sg n2,congrArg sg n2,fun i hi => by omega,fun i hi => ⟨0,by omega,?_⟩,fun i hi => by omega,fun i hi => by omega⟩
    have : i = 0:=by omega
    subst this
    exact congrArg sg n2
   ·have hk := C.size
    have hpos := C.pos
    have hq := hnr t h
    have hg : ∀ i,i < k → nr (CV.int (g i 0)) (CV.int (g i 1)):=by
     intro i hi
     obtain ⟨j,hj,e⟩ := C.mem i hi
     have e2 := hs.inj _ _ e
     rw [show CV.int (g i 0) = CV.int (F j 0) from congrArg Prod.fst e2,show CV.int (g i 1) = CV.int (F j 1) from congrArg Prod.snd e2]
     exact hnr j (by omega)
    obtain ⟨k',p1,p2,p3⟩ := pop204 (P:=fun i => sg (pt F i)) hs hP h C (by omega) hg N F (Int.ofNat N) (Int.ofNat t) k hq rfl
     (fun x37 => (bif (Nat.ble (x37 + 1) 1073741824) then (L204v3 100 N F (Int.ofNat N) m (x37 + 1) (Int.ofNat (t + 1)) (joinF x37 g (rowsF 2 [(.i .i64 (CV.int (F t 0))),(.i .i64 (CV.int (F t 1)))])) k0) else none)) 100 k (by omega) (C.pop hP h)
    have hk' := p2.size
    rw [p1,bif_t (ble_ok (by omega))]
    obtain ⟨n1,n2⟩ := new k' _ rfl
    exact ih (t + 1) (k' + 1) _ (by omega) (by omega) (.inr ⟨by omega,p2.push hP h C p3 (fun i hi => congrArg sg (n1 i hi)) (congrArg sg n2)⟩)
  ·have : t = N:=by omega
   subst this
   rw [bif_f (by simp)]
   exact ⟨k,g,rfl,hC⟩
theorem chain_law {sg : Pt → Pt} (hs : Sgn sg) {N : Nat} {F : FF} (h0 : 0 < N) (hN : N ≤ 60) (hnr : ∀ i,i < N → nr (CV.int (F i 0)) (CV.int (F i 1))) (hP : ∀ i j,i < j → j < N → fw (sg (pt F i)) (sg (pt F j))) :
  ∃ k g,F204 100 N F = some (k,g) ∧ Chn (fun i => sg (pt F i)) N k (fun i => sg (pt g i)):=by
 unfold F204 D204
 obtain ⟨k,g,h1,h2⟩ := chain_loop hs hN hnr hP (fun x40 x41 => some (x40,x41)) 100 0 0 (fun _ _ => .any) (by omega) (by omega) (.inl ⟨rfl,rfl⟩)
 rcases h2 with ⟨h3,_⟩ | ⟨_,h4⟩
 ·omega
 ·exact ⟨k,g,h1,h4⟩
theorem sgn_id : Sgn (fun p => p) := ⟨fun _ _ _ => rfl,fun _ _ h => h⟩
theorem sgn_ng : Sgn ng := ⟨cross_ng,fun _ _ h => ng_inj h⟩
end Go.Eng.R13
/-
 Hull: what the program returns.
-/
set_option linter.all false
set_option maxRecDepth 100000
namespace Go.Eng.R13
open Go Go.RowKit Go.Eng Geo
theorem toI_int (c : CV) : toI c = CV.int c:=by cases c <;> rfl
theorem prP_pt (g : FF) (i : Nat) : prP g i = pt g i:=by
 show (toI _,toI _) = (CV.int _,CV.int _)
 rw [toI_int,toI_int]
theorem pairs_pt {l : List (Int × Int)} {i : Nat} (h : i < l.length) : pt (pairsF l) i = l[i]:=by
 have hq : l[i]? = some l[i] := List.getElem?_eq_getElem h
 show (CV.int _,CV.int _) = _
 rw [(pairsF_at hq).1,(pairsF_at hq).2];rfl
theorem prs_pairs (l : List (Int × Int)) : prsP l.length (pairsF l) = l:=by
 apply List.ext_getElem
 ·rw [prsP_len]
 ·intro i h1 h2
  have := prsP_at (g := pairsF l) (show i < l.length by rwa [prsP_len] at h1)
  rw [List.getElem?_eq_getElem h1] at this
  rw [Option.some.inj this,prP_pt,pairs_pt]
theorem leP_fw {a b : Int × Int} (h : leP a b = true) (hne : b ≠ a) : fw a b:=by
 rw [leP_iff] at h
 unfold fw
 have : ¬ (b.1 = a.1 ∧ b.2 = a.2):=fun hh => hne (Prod.ext hh.1 hh.2)
 omega
theorem compG_sorted : ∀ (l : List (Int × Int)) (a : Int × Int),(a :: l).Pairwise (fun x y => leP x y = true) → (a :: compG a l).Pairwise fw ∧ ∀ x,x ∈ a :: compG a l ↔ x ∈ a :: l
 | [],a,_ => ⟨List.pairwise_singleton _ _,fun x => Iff.rfl⟩
 | b :: l,a,h => by
  unfold compG
  have h1 := List.pairwise_cons.1 h
  cases hq : (b.1 == a.1 && b.2 == a.2) with
  | true =>
   have e : b = a:=by simp at hq;exact Prod.ext hq.1 hq.2
   subst e
   obtain ⟨k1,k2⟩ := compG_sorted l b h1.2
   refine ⟨k1,fun x => (k2 x).trans ?_⟩
   simp
  | false =>
   have e : b ≠ a:=fun hh => by subst hh;simp at hq
   obtain ⟨k1,k2⟩ := compG_sorted l b h1.2
   have hab : fw a b := leP_fw (h1.1 b (by simp)) e
   refine ⟨List.pairwise_cons.2 ⟨fun x hx => ?_,k1⟩,fun x => ?_⟩
   ·rcases List.mem_cons.1 hx with rfl | hx
    ·exact hab
    ·exact hab.trans ((List.pairwise_cons.1 k1).1 x hx)
   ·show x ∈ a :: b :: compG b l ↔ _
    rw [List.mem_cons,k2 x,List.mem_cons (a := x) (b := a)]
theorem compP_sorted {l : List (Int × Int)} (h : l.Pairwise (fun x y => leP x y = true)) : (compP l).Pairwise fw ∧ ∀ x,x ∈ compP l ↔ x ∈ l:=by
 cases l with
 | nil => exact ⟨List.Pairwise.nil,fun x => Iff.rfl⟩
 | cons a l => exact compG_sorted l a h
def dsP (n : Nat) (f : FF) : List (Int × Int) := compP (sortP (prsP n f))
theorem sort_len (n : Nat) (f : FF) : (sortP (prsP n f)).length = n:=by rw [(sortP_perm _).length_eq,prsP_len]
theorem cut_sort (n : Nat) (f : FF) : cutN n (sortF n f) = (dsP n f).length ∧ cutF n (sortF n f) = pairsF (dsP n f):=by
 have : prsP n (sortF n f) = sortP (prsP n f):=by
  have := prs_pairs (sortP (prsP n f))
  rw [sort_len] at this;exact this
 unfold cutN cutF dsP
 rw [this]
 exact ⟨rfl,rfl⟩
theorem ds_mem {n : Nat} {f : FF} (x : Int × Int) : x ∈ dsP n f ↔ ∃ r,r < n ∧ pt f r = x:=by
 unfold dsP
 rw [(compP_sorted (sortP_sorted _)).2 x,(sortP_perm _).mem_iff]
 unfold prsP
 simp only [List.mem_map,List.mem_range,prP_pt]
theorem ds_fw {n : Nat} {f : FF} {i j : Nat} (hij : i < j) (hj : j < (dsP n f).length) : fw (pt (pairsF (dsP n f)) i) (pt (pairsF (dsP n f)) j):=by
 rw [pairs_pt hj,pairs_pt (Nat.lt_trans hij hj)]
 exact (List.pairwise_iff_getElem.1 (compP_sorted (sortP_sorted (prsP n f))).1) i j _ _ hij
theorem ds_cov {n : Nat} {f : FF} {r : Nat} (hr : r < n) : ∃ j,j < (dsP n f).length ∧ pt f r = pt (pairsF (dsP n f)) j:=by
 obtain ⟨j,hj,e⟩ := List.getElem_of_mem ((ds_mem (pt f r)).2 ⟨r,hr,rfl⟩)
 exact ⟨j,hj,by rw [pairs_pt hj,e]⟩
theorem ds_bck {n : Nat} {f : FF} {j : Nat} (hj : j < (dsP n f).length) : ∃ r,r < n ∧ pt (pairsF (dsP n f)) j = pt f r:=by
 obtain ⟨r,hr,e⟩:=(ds_mem _).1 (List.getElem_mem hj)
 exact ⟨r,hr,by rw [pairs_pt hj,e]⟩
theorem ds_len_le (n : Nat) (f : FF) : (dsP n f).length ≤ n:=by
 have := compP_len (sortP (prsP n f))
 rwa [sort_len] at this
theorem sortable_nr {n : Nat} {f : FF} (hn : n ≤ 60) (hA : AllNr n f) : sortable n f = true:=by
 unfold sortable
 rw [Bool.and_eq_true]
 refine ⟨by rw [Nat.ble_eq];omega,List.all_eq_true.2 fun x hx => ?_⟩
 unfold prsP at hx
 simp only [List.mem_map,List.mem_range] at hx
 obtain ⟨r,hr,e⟩ := hx
 subst e
 have := hA r hr
 unfold nr at this
 rw [prP_pt]
 have hl : sortLim = 2305843009213693952 := rfl
 simp only [inB,Bool.and_eq_true,decide_eq_true_eq]
 rw [hl]
 show ((_ < CV.int (f r 0) ∧ CV.int (f r 0) < _) ∧ _ < CV.int (f r 1)) ∧ CV.int (f r 1) < _
 omega
theorem hull205 (n : Nat) (f : FF) (h0 : 0 < n) (hn : n ≤ 60) (hA : AllNr n f) : ∃ m g,F205 100 n f = some (m,g) ∧ Hul n (pt f) m (pt g):=by
 have hN := ds_len_le n f
 obtain ⟨c1,c2⟩ := cut_sort n f
 obtain ⟨b,hb1,hb2⟩ := far50 n f hn
 have hb := hb2.2 hA
 subst hb
 have hsT : F203 100 n f = some (sortF n f):=by
  unfold F203 sortT
  rw [sortable_nr hn hA];rfl
 have hbn : Nat.beq n n = true:=by simp
 have hb0 : Nat.beq n 0 = false:=by
  cases n with
  | zero => omega
  | succ n => rfl
 unfold F205 FT205
 rw [hb1,ob_some,bif_f (by rfl),bif_t (ble_ok (by omega)),hsT,ob_some,bif_t hbn,bif_f hb0,c1,c2]
 have hNb : Nat.ble (dsP n f).length n = true:=by rw [Nat.ble_eq];exact hN
 rw [hbn,hNb,bif_t (by rfl)]
 have hnr : ∀ j,j < (dsP n f).length → nr (CV.int (pairsF (dsP n f) j 0)) (CV.int (pairsF (dsP n f) j 1)):=by
  intro j hj
  obtain ⟨r,hr,e⟩ := ds_bck hj
  rw [show CV.int (pairsF (dsP n f) j 0) = CV.int (f r 0) from congrArg Prod.fst e,show CV.int (pairsF (dsP n f) j 1) = CV.int (f r 1) from congrArg Prod.snd e]
  exact hA r hr
 have hP : ∀ i j,i < j → j < (dsP n f).length → fw (pt (pairsF (dsP n f)) i) (pt (pairsF (dsP n f)) j):=fun i j hij hj => ds_fw hij hj
 have cov : ∀ r,r < n → ∃ j,j < (dsP n f).length ∧ pt f r = pt (pairsF (dsP n f)) j:=fun r hr => ds_cov hr
 have bck : ∀ j,j < (dsP n f).length → ∃ r,r < n ∧ pt (pairsF (dsP n f)) j = pt f r:=fun j hj => ds_bck hj
 generalize hD : pairsF (dsP n f) = D at *
 generalize hL : (dsP n f).length = N at *
 by_cases h3 : N < 3
 ·rw [bif_t (by simp;omega),ob_some]
  refine ⟨N,D,rfl,?_⟩
  obtain ⟨j,hj,_⟩ := cov 0 h0
  match N,h3,hj with
  | 1,_,_ => exact hul_one h0 (fun r hr => by
    obtain ⟨j,hj,e⟩ := cov r hr
    rw [e];congr 1;omega)
  | 2,_,_ => exact hul_two (hP 0 1 (by omega) (by omega)) cov bck
 ·obtain ⟨k1,g1,p1,C1⟩ := chain_law sgn_id (N := N) (F := D) (by omega) (by omega) hnr hP
  have hrev : ∀ i,i < N → pt (revF N D) i = pt D (N - 1 - i):=fun i hi => rfl
  obtain ⟨k2,g2,p2,C2⟩ := chain_law sgn_ng (N := N) (F := revF N D) (by omega) (by omega) (fun i hi => hnr (N - 1 - i) (by omega)) (fun i j hij hj => by
   rw [hrev i (by omega),hrev j hj]
   exact fw_ng.2 (hP _ _ (by omega) (by omega)))
  have q1 : Nat.beq N N = true:=by simp
  have q2 : Nat.beq N 0 = false:=by
   cases N with
   | zero => omega
   | succ N => rfl
  have t1 := C1.two hP (by omega)
  have t2 := C2.two (N := N) (P:=fun i => ng (pt (revF N D) i)) (fun i j hij hj => by
   show fw (ng (pt (revF N D) i)) (ng (pt (revF N D) j))
   rw [hrev i (by omega),hrev j hj]
   exact fw_ng.2 (hP _ _ (by omega) (by omega))) (by omega)
  have z1 := C1.size
  have z2 := C2.size
  have w1 : w64 (Int.ofNat k1 - 1) = Int.ofNat (k1 - 1):=by rw [w64_of] <;> simp <;> omega
  have w2 : w64 (Int.ofNat k2 - 1) = Int.ofNat (k2 - 1):=by rw [w64_of] <;> simp <;> omega
  rw [bif_f (by simp;omega),p1,ob_some]
  dsimp only
  rw [bif_t (ble_ok (by omega)),bif_t q1,bif_f q2,p2,ob_some]
  dsimp only
  rw [w1,w2,bif_t (ble_ok (by omega)),bif_t (inbe_true (by simp) (by simp <;> omega)),bif_t (inbe_true (by simp) (by simp <;> omega)),toNat_nat,toNat_nat,Nat.sub_zero,Nat.sub_zero,bif_t (ble_ok (by omega)),ob_some]
  refine ⟨_,_,rfl,?_⟩
  refine hul_of (P := pt D) hP (by omega) C1 (s2 := pt g2) ?_ cov bck (fun i hi => ?_) (fun i hi => ?_)
  ·exact C2
  ·show (CV.int (joinF _ _ _ _ _),CV.int (joinF _ _ _ _ _)) = _
   rw [joinF_old _ _ _ _ _ hi,joinF_old _ _ _ _ _ hi]
  ·show (CV.int (joinF _ _ _ _ _),CV.int (joinF _ _ _ _ _)) = _
   rw [joinF_new _ _ _ _ _ (by omega),joinF_new _ _ _ _ _ (by omega),show k1 - 1 + i - (k1 - 1) = i by omega]
end Go.Eng.R13
/-
 Hull: what the reference returns.
-/
set_option linter.all false
set_option maxRecDepth 100000
namespace Go.Eng.R13
open Go Go.RowKit Go.Eng Geo
end Go.Eng.R13
/-
 Hull and Bounds: the program's and the reference's.
-/
set_option linter.all false
set_option maxRecDepth 100000
namespace Go.Eng.R13
open Go Go.RowKit Go.Eng Geo
theorem same206 (m : Nat) (g g' : FF) (hm : m ≤ 60) (h : ∀ i,i < m → pt g' i = pt g i) : F206 100 m g m g' = some true:=by
 unfold F206
 rw [bif_f (by simp)]
 have key : ∀ (M i : Nat),m < M + i → i ≤ m → L206v1 100 m g m g' M (Int.ofNat i) (some false) (some true) = some true:=by
  intro M
  induction M with
  | zero => intro i h1 h2;omega
  | succ M ih =>
   intro i h1 h2
   unfold L206v1
   rw [lt_nat,inb_nat,toNat_nat]
   by_cases hi : i < m
   ·have e := h i hi
    rw [bif_t (decide_eq_true hi),bif_t (decide_eq_true hi),bif_t (decide_eq_true hi),eqB,w64_succ (by omega)]
    have e2 : ((CV.int (g i 0),CV.int (g i 1)) : Pt) = (CV.int (g' i 0),CV.int (g' i 1)) := e.symm
    rw [bif_f (by rw [decide_eq_true e2];rfl)]
    exact ih (i + 1) (by omega) (by omega)
   ·rw [bif_f (by simp;omega)]
 exact key 100 0 (by omega) (by omega)
end Go.Eng.R13
/-
 The hull of a valid polygon,and when a polygon is convex.
-/
set_option linter.all false
set_option maxRecDepth 100000
namespace Geo
theorem para3 {d1 d2 u1 u2 v1 v2 : Int} (h0 : ¬ (d1 = 0 ∧ d2 = 0)) (h1 : d1 * u2 - d2 * u1 = 0) (h2 : d1 * v2 - d2 * v1 = 0) : u1 * v2 - u2 * v1 = 0:=by
 have e1 : d1 * (u1 * v2 - u2 * v1) = 0:=by grind
 have e2 : d2 * (u1 * v2 - u2 * v1) = 0:=by grind
 rcases Int.mul_eq_zero.1 e1 with k | k
 ·rcases Int.mul_eq_zero.1 e2 with k2 | k2
  ·exact absurd ⟨k,k2⟩ h0
  ·exact k2
 ·exact k
theorem Hul.three {n m : Nat} {p h : Nat → Pt} (S : Simple n p) (H : Hul n p m h) : 3 ≤ m:=by
 have hb := S.big
 have hp := H.pos
 rcases Nat.lt_or_ge m 3 with hm | hm
 ·exfalso
  rcases Nat.lt_or_ge m 2 with h1 | h1
  ·have hall := H.one (by omega)
   exact S.dist 0 1 (by omega) (by omega) (by omega) ((hall 0 (by omega)).trans (hall 1 (by omega)).symm)
  ·have : m = 2:=by omega
   subst this
   have st := H.step (by omega) (show 0 < 2 by omega)
   have e0 : nx 2 0 = 1 := rfl
   have e1 : nx 2 1 = 0 := rfl
   rw [e0] at st
   have flat : ∀ r,r < n → cross (h 0) (h 1) (p r) = 0:=by
    intro r hr
    have k0:=(H.edge (by omega) 0 (by omega) r hr).nonneg
    have k1:=(H.edge (by omega) 1 (by omega) r hr).nonneg
    rw [e0] at k0
    rw [e1] at k1
    have : cross (h 1) (h 0) (p r) = - cross (h 0) (h 1) (p r):=by unfold cross;grind
    omega
   refine area_simple S ?_
   rw [area_fan n p (h 0),sm_congr (g:=fun _ => 0) (fun i hi => ?_),sm_zero]
   have f1 := flat i hi
   have f2 := flat (nx n i) (nx_lt hb)
   unfold cross at f1 f2 ⊢
   exact para3 (fun hh => st (Prod.ext (by omega) (by omega))) f1 f2
 ·exact hm
theorem Hul.perm {n m n' : Nat} {p h q : Nat → Pt} (H : Hul n p m h) (h1 : ∀ r,r < n' → ∃ s,s < n ∧ q r = p s) (h2 : ∀ r,r < n → ∃ s,s < n' ∧ p r = q s) : Hul n' q m h where
 pos := H.pos
 first:=fun r hr => by
  obtain ⟨s,hs,e⟩ := h1 r hr
  rw [e];exact H.first s hs
 mem:=fun i hi => by
  obtain ⟨r,hr,e⟩ := H.mem i hi
  obtain ⟨s,hs,e2⟩ := h2 r hr
  exact ⟨s,hs,e.trans e2⟩
 back := H.back
 edge:=fun hm i hi r hr => by
  obtain ⟨s,hs,e⟩ := h1 r hr
  rw [e];exact H.edge hm i hi s hs
 one:=fun hm r hr => by
  obtain ⟨s,hs,e⟩ := h1 r hr
  rw [e];exact H.one hm s hs
theorem Hul.self {n m : Nat} {p h : Nat → Pt} (H : Hul n p m h) : Hul m h m h where
 pos := H.pos
 first:=fun r hr => by
  obtain ⟨s,hs,e⟩ := H.mem r hr
  rw [e];exact H.first s hs
 mem:=fun i hi => ⟨i,hi,rfl⟩
 back := H.back
 edge:=fun hm i hi r hr => by
  obtain ⟨s,hs,e⟩ := H.mem r hr
  rw [e];exact H.edge hm i hi s hs
 one:=fun hm r hr => by
  obtain ⟨s,hs,e⟩ := H.mem r hr
  rw [e];exact H.one hm s hs
theorem Hul.uniq {n m m' : Nat} {p h h' : Nat → Pt} (H : Hul n p m h) (H' : Hul n p m' h') (hm : 2 ≤ m) (hm' : 2 ≤ m') : m = m' ∧ ∀ i,i < m → h i = h' i:=by
 have e0 : h 0 = h' 0:=by
  obtain ⟨r,hr,er⟩ := H.mem 0 (by omega)
  obtain ⟨r',hr',er'⟩ := H'.mem 0 (by omega)
  rcases H.first r' hr' with k | k
  ·exact k.trans er'.symm
  ·rcases H'.first r hr with k2 | k2
   ·exact er.trans k2.symm
   ·rw [← er] at k2
    rw [← er'] at k
    exact absurd k2 k.asymm
 have step : ∀ i j,i < m → j < m' → h i = h' j → h (nx m i) = h' (nx m' j):=by
  intro i j hi hj e
  have hx : nx m i < m := Nat.mod_lt _ (by omega)
  have hx' : nx m' j < m' := Nat.mod_lt _ (by omega)
  obtain ⟨r,hr,er⟩ := H.mem _ hx
  obtain ⟨r',hr',er'⟩ := H'.mem _ hx'
  have l1 := H.edge (by omega) i hi r' hr'
  have l2 := H'.edge (by omega) j hj r hr
  rw [← er'] at l1
  rw [← er,← e] at l2
  exact leftOn_eq (H.step (by omega) hi) (fun k => H'.step (by omega) hj (k.trans e)) l1 l2
 have all : ∀ i,i < m → i < m' → h i = h' i:=by
  intro i
  induction i with
  | zero => intro _ _;exact e0
  | succ i ih =>
   intro h1 h2
   have := step i i (by omega) (by omega) (ih (by omega) (by omega))
   rwa [show nx m i = i + 1 from Nat.mod_eq_of_lt h1,show nx m' i = i + 1 from Nat.mod_eq_of_lt h2] at this
 have wrap : ∀ k,0 < k → nx k (k - 1) = 0:=fun k hk => by unfold nx;rw [show k - 1 + 1 = k by omega,Nat.mod_self]
 have em : m = m':=by
  rcases Nat.lt_trichotomy m m' with k | k | k
  ·exfalso
   have := step (m - 1) (m - 1) (by omega) (by omega) (all _ (by omega) (by omega))
   rw [wrap m (by omega),show nx m' (m - 1) = m by unfold nx;rw [show m - 1 + 1 = m by omega];exact Nat.mod_eq_of_lt k] at this
   exact H'.back m (by omega) k (this.symm.trans e0)
  ·exact k
  ·exfalso
   have := step (m' - 1) (m' - 1) (by omega) (by omega) (all _ (by omega) (by omega))
   rw [wrap m' (by omega),show nx m (m' - 1) = m' by unfold nx;rw [show m' - 1 + 1 = m' by omega];exact Nat.mod_eq_of_lt k] at this
   exact H.back m' (by omega) k (this.trans e0.symm)
 exact ⟨em,fun i hi => all i hi (by omega)⟩
end Geo
namespace Go.Eng.R13
open Go Go.RowKit Go.Eng Geo
theorem wrap_in {ρ : Type} {n m : Nat} {f g : FF} (hn : n ≤ 32) (V : Valid n f) (W : Valid m g) (H : Hul n (pt f) m (pt g)) (k0 k1 : Option ρ) : ∀ (M i : Nat),n < M + i → i ≤ n → L220v1 100 n f m g M (Int.ofNat i) k0 k1 = k1:=by
 have hm := W.big
 have hA := H.area_pos hm
 intro M
 induction M with
 | zero => intro i h1 h2;omega
 | succ M ih =>
  intro i h1 h2
  unfold L220v1
  rw [lt_nat,inb_nat,toNat_nat]
  by_cases hi : i < n
  ·obtain ⟨w,h65,_,hw⟩ := where_law m g (CV.int (f i 0)) (CV.int (f i 1))
   have hnr := V.near i hi
   obtain ⟨w1,w2⟩ := hw.1 ⟨W,hnr⟩
   have hw0 : 0 ≤ w:=by
    by_cases o : OnC m (pt g) (CV.int (f i 0),CV.int (f i 1)) 0
    ·rw [w1 o];omega
    ·rw [w2 o]
     have:=(in_all W.simple hA (z:=(CV.int (f i 0),CV.int (f i 1))) (fun k hk => by
      rcases H.edge (by omega) k hk i hi with q | q
      ·exact q
      ·exact absurd (onC_K.2 ⟨k,hk,q⟩) o)).2
     rw [if_pos this];omega
   rw [bif_t (decide_eq_true hi),bif_t (decide_eq_true hi),h65,ob_some,bif_f (decide_eq_false (by omega)),w64_succ (by omega)]
   exact ih (i + 1) (by omega) (by omega)
  ·rw [bif_f (by simp;omega)]
theorem wrap_find {ρ : Type} {n m : Nat} {f g : FF} (hn : n ≤ 32) {c : Nat} (hc : c < m) (k0 : Bool → Option ρ) : ∀ (M j : Nat) (b : Bool),n < M + j → j ≤ n → (b = true ∨ ∃ r,j ≤ r ∧ r < n ∧ pt g c = pt f r) → L220v3 100 n f m g (Int.ofNat c) M b (Int.ofNat j) k0 = k0 true:=by
 intro M
 induction M with
 | zero => intro j b h1 h2;omega
 | succ M ih =>
  intro j b h1 h2 hb
  unfold L220v3
  rw [lt_nat,inb_nat,inb_nat,toNat_nat,toNat_nat]
  by_cases hj : j < n
  ·rw [bif_t (decide_eq_true hj)]
   cases b with
   | true =>
    rw [bif_f (by rfl),w64_succ (by omega)]
    exact ih (j + 1) true (by omega) (by omega) (.inl rfl)
   | false =>
    rw [bif_t (by rfl),bif_t (decide_eq_true hj),bif_t (decide_eq_true hc),w64_succ (by omega),eqB]
    obtain ⟨r,hr1,hr2,er⟩ := hb.resolve_left (by simp)
    by_cases e : r = j
    ·subst e
     refine ih (r + 1) _ (by omega) (by omega) (.inl (decide_eq_true ?_))
     exact er.symm
    ·exact ih (j + 1) _ (by omega) (by omega) (.inr ⟨r,by omega,hr2,er⟩)
  ·rw [bif_f (by simp;omega)]
   rcases hb with e | ⟨r,h3,h4,_⟩
   ·rw [e]
   ·omega
theorem wrap_mem {ρ : Type} {n m : Nat} {f g : FF} (hn : n ≤ 32) (hm : m ≤ 32) (H : Hul n (pt f) m (pt g)) (k0 k1 : Option ρ) : ∀ (M i : Nat),m < M + i → i ≤ m → L220v4 100 n f m g M (Int.ofNat i) k0 k1 = k1:=by
 intro M
 induction M with
 | zero => intro i h1 h2;omega
 | succ M ih =>
  intro i h1 h2
  unfold L220v4
  rw [lt_nat]
  by_cases hi : i < m
  ·obtain ⟨r,hr,e⟩ := H.mem i hi
   rw [bif_t (decide_eq_true hi),show (0 : Int) = Int.ofNat 0 from rfl,wrap_find hn hi _ 100 0 false (by omega) (by omega) (.inr ⟨r,by omega,hr,e⟩),bif_f (by rfl),w64_succ (by omega)]
   exact ih (i + 1) (by omega) (by omega)
  ·rw [bif_f (by simp;omega)]
theorem cvx_area {n m : Nat} {p h : Nat → Pt} (S : Simple n p) (hA : 0 < area n p) (H : Hul n p m h) (hm : 3 ≤ m) : Cvx n p ↔ area n p = area m h:=by
 constructor
 ·intro c
  refine conv_area S hA H hm fun i hi => ?_
  have := c i hi
  unfold opp cr at this
  omega
 ·intro e i hi
  have := area_conv S hA H hm e i hi (nx n (nx n i)) (nx_lt S.big)
  unfold opp cr
  omega
theorem wraps12 (n : Nat) (f : Nat → Nat → CV) (_ : SlIn (.pr (.int .i64) (.pr (.int .i64) .nil)) n f) : F220 100 n f = some true:=by
 unfold F220
 obtain ⟨c,_,h2,h3⟩ := check_law n f
 rw [awake_law,h2,ob_some]
 by_cases hc : c = 0
 ·have V := h3.1 hc
  have hbig := V.big
  have hs := V.small
  rw [bif_f (by simp [hc])]
  obtain ⟨m,g,hh,H⟩ := hull205 n f (by omega) (by omega) V.near
  have hm3 := H.three V.simple
  have hsz := H.size
  have near : AllNr m g:=by
   intro i hi
   obtain ⟨r,hr,e⟩ := H.mem i hi
   have := V.near r hr
   have e1 : CV.int (g i 0) = CV.int (f r 0) := congrArg Prod.fst e
   have e2 : CV.int (g i 1) = CV.int (f r 1) := congrArg Prod.snd e
   rw [e1,e2];exact this
  have W : Valid m g := ⟨hm3,by omega,near,H.simple hm3⟩
  have hA := H.area_pos hm3
  have cW : Cvx m (pt g):=by
   intro i hi
   have:=(H.self.left hm3 hi (nx_lt hm3 : nx m (nx m i) < m))
   unfold opp cr
   omega
  obtain ⟨b,hb1,hb2⟩ := convex_law W
  have := hb2.2 cW
  subst this
  obtain ⟨b,hc1,hc2⟩ := convex_law V
  obtain ⟨m',g',hh',H'⟩ := hull205 m g (by omega) (by omega) near
  have hm3' := H'.three W.simple
  obtain ⟨em,eg⟩ := H.self.uniq H' (by omega) (by omega)
  subst em
  have bd := asum_bd V.big V.near n (Nat.le_refl _)
  rw [show sm n (aterm n f) = area n (pt f) from rfl] at bd
  have hne := area_simple V.simple
  have key : (b == ((if (w64 (0 - area n (pt f))) > area n (pt f) then (w64 (0 - area n (pt f))) else area n (pt f)) == area m (pt g))) = true:=by
   rw [w64_of (by omega) (by omega)]
   have iff : b = true ↔ (if (0 - area n (pt f)) > area n (pt f) then (0 - area n (pt f)) else area n (pt f)) = area m (pt g):=by
    rw [hc2]
    by_cases hneg : area n (pt f) < 0
    ·have al := alike_rev V.big (pt f)
     have Hr : Hul n (rv n (pt f)) m (pt g) := H.perm al.pts (fun r hr => ⟨n - 1 - r,by omega,by unfold rv;rw [show n - 1 - (n - 1 - r) = r by omega]⟩)
     have := cvx_area (al.simple V.simple) (by rw [al.area];omega) Hr hm3
     rw [if_pos (by omega),← al.cvx,this,al.area]
     omega
    ·rw [if_neg (by omega)]
     exact cvx_area V.simple (by omega) H hm3
   cases b with
   | true => rw [iff.1 rfl];simp
   | false =>
    have : ¬ (if (0 - area n (pt f)) > area n (pt f) then (0 - area n (pt f)) else area n (pt f)) = area m (pt g):=fun k => by have := iff.2 k;simp at this
    rw [beq_eq_false_iff_ne.2 this];rfl
  rw [hh,ob_some]
  dsimp only
  rw [bif_t (by rw [decide_eq_false (show ¬ Int.ofNat m > Int.ofNat n from fun k => by have k2 : (n : Int) < (m : Int) := k;omega)];rfl),(valid_code W).1,ob_some,bif_t (by rfl),hb1,ob_some,bif_t (by rfl),area34 W,ob_some,bif_f (decide_eq_false (by omega)),show (0 : Int) = Int.ofNat 0 from rfl,
   wrap_in hs V W H _ _ 100 0 (by omega) (by omega),wrap_mem hs (by omega) H _ _ 100 0 (by omega) (by omega),area34 V,ob_some,hc1,ob_some,ob_some]
  rw [show Int.ofNat 0 = 0 from rfl,bif_t (by rw [key];rfl),hh',ob_some]
  dsimp only
  rw [same206 m g' g (by omega) (fun i hi => eg i hi),ob_some,bif_t (by rfl)]
  rfl
 ·rw [bif_t (by simp [hc])]
  rfl
end Go.Eng.R13
