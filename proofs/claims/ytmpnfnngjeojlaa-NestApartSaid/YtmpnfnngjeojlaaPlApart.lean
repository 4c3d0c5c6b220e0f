/-
 Several texts in one.
-/
import Derived.Test.YtmpnfnngjeojlaaDecT3
import Derived.Test.YtmpnfnngjeojlaaEngU
import Derived.Test.YtmpnfnngjeojlaaGeo6
import Derived.Test.YtmpnfnngjeojlaaPlCheck
import Derived.Test.YtmpnfnngjeojlaaPlClose
import Derived.Test.YtmpnfnngjeojlaaPlGreat
import Derived.Test.YtmpnfnngjeojlaaPlNest
import Derived.Test.YtmpnfnngjeojlaaPlRv
/-
 RegionApart: the plain law.
-/
set_option linter.all false
namespace Go.Eng.R13
open Go Go.RowKit Go.Eng Geo
theorem Near.mono {x p q : Pt} {g h : Int} (h0 : 0 ≤ h) (hg : h ≤ g) (hn : Near x p q h) : Near x p q g:=by
 have hh : h * h ≤ g * g := Int.mul_le_mul hg hg h0 (by omega)
 by_cases h1 : dot x p q ≤ 0
 ·rw [near_p h1] at hn ⊢;omega
 ·by_cases h2 : dot q p q ≤ dot x p q
  ·rw [near_q h1 h2] at hn ⊢;omega
  ·rw [near_m h1 h2] at hn ⊢
   have := Int.mul_le_mul_of_nonneg_right hh (dot_self (a := q) (b := p))
   omega
theorem Close.mono {g h : Int} {a b c d : Pt} (h0 : 0 ≤ h) (hg : h ≤ g) (hc : Close h a b c d) : Close g a b c d:=by
 rcases hc with k | k | k | k | k
 ·exact .inl k
 ·exact .inr (.inl (k.mono h0 hg))
 ·exact .inr (.inr (.inl (k.mono h0 hg)))
 ·exact .inr (.inr (.inr (.inl (k.mono h0 hg))))
 ·exact .inr (.inr (.inr (.inr (k.mono h0 hg))))
theorem Close.symm {g : Int} {a b c d : Pt} (hc : Close g a b c d) : Close g c d a b:=by
 rcases hc with k | k | k | k | k
 ·exact .inl k.symm
 ·exact .inr (.inr (.inr (.inl k)))
 ·exact .inr (.inr (.inr (.inr k)))
 ·exact .inr (.inl k)
 ·exact .inr (.inr (.inl k))
def Cl (gap : Int) (n1 : Nat) (f1 : Nat → Nat → CV) (n2 : Nat) (f2 : Nat → Nat → CV) (m1 : Nat) (g1 : Nat → Nat → CV) (m2 : Nat) (g2 : Nat → Nat → CV) : Prop :=
 ∀ i,i < 1 + n2 → ∀ k,k < 1 + m2 → ¬ CloseC gap (cl (cf n1 f1 f2) i) (cl (cf m1 g1 g2) k) (ce (cf n1 f1 f2) i) (ce (cf m1 g1 g2) k)
def Off (n1 : Nat) (f1 : Nat → Nat → CV) (n2 : Nat) (f2 : Nat → Nat → CV) (q : Pt) : Prop := ∃ z,F47 100 n1 f1 n2 f2 q.1 q.2 = some z ∧ z < 0
structure Clr (gap : Int) (n1 : Nat) (f1 : Nat → Nat → CV) (n2 : Nat) (f2 : Nat → Nat → CV) (m1 : Nat) (g1 : Nat → Nat → CV) (m2 : Nat) (g2 : Nat → Nat → CV) : Prop where
 lo : 0 ≤ gap
 hi : gap ≤ 1000
 left : VShape n1 f1 n2 f2
 right : VShape m1 g1 m2 g2
 off : Off n1 f1 n2 f2 (pt g1 0)
 off' : Off m1 g1 m2 g2 (pt f1 0)
 cl : Cl gap n1 f1 n2 f2 m1 g1 m2 g2
theorem Clr.symm {gap : Int} {n1 : Nat} {f1 : Nat → Nat → CV} {n2 : Nat} {f2 : Nat → Nat → CV} {m1 : Nat} {g1 : Nat → Nat → CV} {m2 : Nat} {g2 : Nat → Nat → CV} (h : Clr gap n1 f1 n2 f2 m1 g1 m2 g2) : Clr gap m1 g1 m2 g2 n1 f1 n2 f2 :=
 ⟨h.lo,h.hi,h.right,h.left,h.off',h.off,fun i hi k hk ⟨a,ha,b,hb,hc⟩ => h.cl k hk i hi ⟨b,hb,a,ha,hc.symm⟩⟩
theorem Clr.mono {gap g : Int} {n1 : Nat} {f1 : Nat → Nat → CV} {n2 : Nat} {f2 : Nat → Nat → CV} {m1 : Nat} {g1 : Nat → Nat → CV} {m2 : Nat} {g2 : Nat → Nat → CV} (h : Clr gap n1 f1 n2 f2 m1 g1 m2 g2) (h0 : 0 ≤ g) (hg : g ≤ gap) : Clr g n1 f1 n2 f2 m1 g1 m2 g2 :=
 ⟨h0,by have := h.hi;omega,h.left,h.right,h.off,h.off',fun i hi k hk ⟨a,ha,b,hb,hc⟩ => h.cl i hi k hk ⟨a,ha,b,hb,hc.mono h0 hg⟩⟩
theorem clear27 (n1 : Nat) (f1 : Nat → Nat → CV) (n2 : Nat) (f2 : Nat → Nat → CV) (m1 : Nat) (g1 : Nat → Nat → CV) (m2 : Nat) (g2 : Nat → Nat → CV) (gap : Int) : ∃ r,F27 100 n1 f1 n2 f2 m1 g1 m2 g2 gap = some r ∧ (r = true ↔ Clr gap n1 f1 n2 f2 m1 g1 m2 g2):=by
 unfold F27
 obtain ⟨c,c1,_,c3⟩ := shape_law n1 n2 f1 f2
 obtain ⟨d,d1,_,d3⟩ := shape_law m1 m2 g1 g2
 rw [c1,d1]
 simp only [ob_some]
 have tf0 : (true == false) = false := rfl
 by_cases ha : gap < 0
 ·simp only [decide_eq_true ha,tf0,cond_false]
  exact ⟨false,rfl,fun h => (by cases h),fun h => absurd h.lo (by omega)⟩
 ·by_cases hb : gap > 1000
  ·simp only [decide_eq_false ha,decide_eq_true hb,tf0,beq_self_eq_true,cond_true,cond_false]
   exact ⟨false,rfl,fun h => (by cases h),fun h => absurd h.hi (by omega)⟩
  ·simp only [decide_eq_false ha,decide_eq_false hb,beq_self_eq_true,cond_true]
   by_cases hc : c = 0
   ·have S := c3.1 hc
    subst hc
    have z0 : ((0 : Int) != 0) = false := rfl
    by_cases hd : d = 0
    ·have T := d3.1 hd
     subst hd
     obtain ⟨z,z1,_⟩ := place47_eq S (CV.int (g1 0 0)) (CV.int (g1 0 1))
     obtain ⟨y,y1,_⟩ := place47_eq T (CV.int (f1 0 0)) (CV.int (f1 0 1))
     have vb := S.outer.big
     have wb := T.outer.big
     have sf := S.few
     have tf := T.few
     have i1 : inb 0 n1 = true := inb_true (by omega) (by omega)
     have i2 : inb 0 m1 = true := inb_true (by omega) (by omega)
     simp only [z0,beq_self_eq_true,cond_true,cond_false,i1,i2,z1,y1,cont42 S.few,ob_some]
     by_cases hz : z ≥ 0
     ·have hz' : (decide (z ≥ 0) == false) = false:=by rw [decide_eq_true hz];rfl
      simp only [hz',cond_false]
      refine ⟨false,rfl,fun h => (by cases h),fun h => ?_⟩
      obtain ⟨z',e,e'⟩ := h.off
      rw [show F47 100 n1 f1 n2 f2 (pt g1 0).1 (pt g1 0).2 = some z from z1] at e
      cases e
      omega
     ·have hz' : (decide (z ≥ 0) == false) = true:=by rw [decide_eq_false hz];rfl
      simp only [hz',cond_true]
      by_cases hy : y ≥ 0
      ·simp only [decide_eq_true hy,cond_true]
       refine ⟨false,rfl,fun h => (by cases h),fun h => ?_⟩
       obtain ⟨z',e,e'⟩ := h.off'
       rw [show F47 100 m1 g1 m2 g2 (pt f1 0).1 (pt f1 0).2 = some y from y1] at e
       cases e
       omega
      ·simp only [decide_eq_false hy,cond_false]
       rw [show (0 : Int) = Int.ofNat 0 from rfl]
       obtain ⟨r,r1,r2⟩ := clear27_3 (1 + n2) (cf n1 f1 f2) n1 n2 m1 m2 f1 f2 g1 g2 gap (by omega) (by omega) (by omega) (fun j hj => cf_valid S hj) T 100 0 (by omega) (by omega)
       refine ⟨r,r1,?_⟩
       have e : (r = true ↔ Cl gap n1 f1 n2 f2 m1 g1 m2 g2):=by
        have e1 : (r = true ↔ ¬ (r = false)):=by cases r <;> simp
        rw [e1,r2,Ex.zero]
        constructor
        ·intro h i hi k hk hc
         exact h ⟨i,hi,Ex.zero.2 ⟨k,hk,hc⟩⟩
        ·rintro h ⟨i,hi,hE⟩
         obtain ⟨k,hk,hc⟩ := Ex.zero.1 hE
         exact h i hi k hk hc
       exact ⟨fun h => ⟨by omega,by omega,S,T,⟨z,z1,by omega⟩,⟨y,y1,by omega⟩,e.1 h⟩,fun h => e.2 h.cl⟩
    ·have e1 : (d != 0) = true:=by simpa using hd
     simp only [z0,e1,beq_self_eq_true,cond_true]
     exact ⟨false,rfl,fun h => (by cases h),fun h => absurd (d3.2 h.right) hd⟩
   ·have e1 : (c != 0) = true:=by simpa using hc
    simp only [e1,tf0,cond_false]
    exact ⟨false,rfl,fun h => (by cases h),fun h => absurd (c3.2 h.left) hc⟩
theorem cf_zero (n1 : Nat) (f1 f2 : Nat → Nat → CV) : cl (cf n1 f1 f2) 0 = n1 ∧ ce (cf n1 f1 f2) 0 = f1 := ⟨rfl,rfl⟩
theorem cf_succ (n1 : Nat) (f1 f2 : Nat → Nat → CV) (j : Nat) : cl (cf n1 f1 f2) (j + 1) = CV.len (f2 j 0) ∧ ce (cf n1 f1 f2) (j + 1) = CV.el (f2 j 0):=by
 have e : cf n1 f1 f2 (j + 1) 0 = f2 j 0:=by
  unfold cf joinF
  rw [bif_f (by cases hq : Nat.blt (j + 1) 1 with | false => rfl | true => simp [Nat.blt_eq] at hq)]
  rfl
 unfold cl ce
 rw [e]
 exact ⟨rfl,rfl⟩
theorem Cl.free {gap : Int} {n1 : Nat} {f1 : Nat → Nat → CV} {n2 : Nat} {f2 : Nat → Nat → CV} {m1 : Nat} {g1 : Nat → Nat → CV} {m2 : Nat} {g2 : Nat → Nat → CV} (h : Cl gap n1 f1 n2 f2 m1 g1 m2 g2) {i k : Nat} (hi : i < 1 + n2) (hk : k < 1 + m2) :
  ¬ Touch (cl (cf n1 f1 f2) i) (pt (ce (cf n1 f1 f2) i)) (cl (cf m1 g1 g2) k) (pt (ce (cf m1 g1 g2) k)):=fun ⟨a,b,ha,hb,hm⟩ => h i hi k hk ⟨a,ha,b,hb,.inl hm⟩
theorem Off.cases {n1 : Nat} {f1 : Nat → Nat → CV} {n2 : Nat} {f2 : Nat → Nat → CV} {q : Pt} (S : VShape n1 f1 n2 f2) (hq : nr q.1 q.2) (h : Off n1 f1 n2 f2 q) :
  par n1 (pt f1) q = false ∨ ∃ j,j < n2 ∧ par (CV.len (f2 j 0)) (pt (CV.el (f2 j 0))) q = true:=by
 obtain ⟨z,z1,z2⟩ := h
 obtain ⟨z',e1,_,_,w,W,hw,hW,_,_,h3⟩ := place47_full S q.1 q.2
 rw [z1] at e1
 cases e1
 rcases h3 with h | ⟨j,hj,h⟩
 ·exact .inl ((hw.out S.outer hq).1 (by omega)).2
 ·refine .inr ⟨j,hj,?_⟩
  have hr:=(hW j).range
  exact (((hW j).one (S.hole j hj).valid hq).1 (by omega)).2
theorem in_hole {gap : Int} {n1 : Nat} {f1 : Nat → Nat → CV} {n2 : Nat} {f2 : Nat → Nat → CV} {m1 : Nat} {g1 : Nat → Nat → CV} {m2 : Nat} {g2 : Nat → Nat → CV} (C : Clr gap n1 f1 n2 f2 m1 g1 m2 g2) {j : Nat} (hj : j < n2) (hp : par (CV.len (f2 j 0)) (pt (CV.el (f2 j 0))) (pt g1 0) = true)
  {q : Pt} (hq : nr q.1 q.2) (h2 : ClosedC m1 g1 q) {W : Int} (hW : IsWhere (CV.len (f2 j 0)) (CV.el (f2 j 0)) q W) : W = 1:=by
 have V:=(C.left.hole j hj).valid
 have hT := C.cl.free (i := j + 1) (k := 0) (by omega) (by omega)
 rw [(cf_succ n1 f1 f2 j).1,(cf_succ n1 f1 f2 j).2,(cf_zero m1 g1 g2).1,(cf_zero m1 g1 g2).2] at hT
 have N := noTouch C.right.outer V (fun h => hT h.symm)
 obtain ⟨a,b⟩ := two_within N hp h2
 exact (hW.one V hq).2 ⟨fun h => a (onK_C.1 h),b⟩
theorem no_common {gap : Int} {n1 : Nat} {f1 : Nat → Nat → CV} {n2 : Nat} {f2 : Nat → Nat → CV} {m1 : Nat} {g1 : Nat → Nat → CV} {m2 : Nat} {g2 : Nat → Nat → CV} (C : Clr gap n1 f1 n2 f2 m1 g1 m2 g2) {q : Pt} {z y : Int} (hz : IsPlace n1 f1 n2 f2 q z) (hy : IsPlace m1 g1 m2 g2 q y) (z0 : 0 ≤ z) : y < 0:=by
 by_cases y0 : y < 0
 ·exact y0
 ·exfalso
  obtain ⟨w,W,hw,hW,w1,w2,_⟩ := hz
  obtain ⟨v,V,hv,hV,v1,v2,_⟩ := hy
  obtain ⟨hq,c1⟩ := hw.nonneg C.left.outer (by omega)
  obtain ⟨_,c2⟩ := hv.nonneg C.right.outer (by omega)
  have nf : nr (pt f1 0).1 (pt f1 0).2 := C.left.outer.near 0 (by have := C.left.outer.big;omega)
  have ng : nr (pt g1 0).1 (pt g1 0).2 := C.right.outer.near 0 (by have := C.right.outer.big;omega)
  rcases C.off.cases C.left ng with o1 | ⟨j,hj,o1⟩
  ·rcases C.off'.cases C.right nf with o2 | ⟨j,hj,o2⟩
   ·have hT := C.cl.free (i := 0) (k := 0) (by omega) (by omega)
    rw [(cf_zero n1 f1 f2).1,(cf_zero n1 f1 f2).2,(cf_zero m1 g1 g2).1,(cf_zero m1 g1 g2).2] at hT
    exact two_apart (noTouch C.left.outer C.right.outer hT) o2 o1 c1 c2
   ·have e := in_hole C.symm hj o2 hq c1 (hV j)
    have := v2 j hj
    omega
  ·have e := in_hole C hj o1 hq c2 (hW j)
   have := w2 j hj
   omega
end Go.Eng.R13
/-
 A shape at a spot.
-/
set_option linter.all false
namespace Go.Eng.R13
open Go Go.RowKit Go.Eng
theorem joinF_old (n : Nat) (f g : Nat → Nat → CV) (j c : Nat) (h : j < n) : joinF n f g j c = f j c:=by
 unfold joinF
 rw [bif_t (by simpa [Nat.blt_eq] using h)]
theorem joinF_new (n : Nat) (f g : Nat → Nat → CV) (j c : Nat) (h : n ≤ j) : joinF n f g j c = g (j - n) c:=by
 unfold joinF
 rw [bif_f]
 cases hq : Nat.blt j n with
 | false => rfl
 | true => simp [Nat.blt_eq] at hq;omega
theorem ble_ok {n : Nat} (h : n ≤ 1073741824) : Nat.ble n 1073741824 = true:=by rw [Nat.ble_eq];exact h
def rot : Nat → Int → Int → Int × Int
 | 0,x,y => (x,y)
 | n + 1,x,y => rot n (w64 (0 - y)) x
def tp (fl : Bool) (t : Nat) (tx ty x y : Int) : Int × Int :=
 (w64 ((rot t (bif fl then w64 (0 - x) else x) y).1 + tx),w64 ((rot t (bif fl then w64 (0 - x) else x) y).2 + ty))
theorem rot32 {ρ : Type} (a : ByteArray) (b c : Int) (t : Nat) (fl : Bool) (ht : t ≤ 3) (k0 : Int → Int → Option ρ) : ∀ (m i : Nat) (x y : Int),t < m + i → i ≤ t →
  L32v1 100 a b c (Int.ofNat t) fl m (Int.ofNat i) x y k0 = k0 (rot (t - i) x y).1 (rot (t - i) x y).2:=by
 intro m
 induction m with
 | zero => intro i x y h1 h2;omega
 | succ m ih =>
  intro i x y h1 h2
  unfold L32v1
  rw [lt_nat]
  by_cases h : i < t
  ·rw [bif_t (by simpa using h),w64_succ (by omega),ih (i + 1) _ _ (by omega) (by omega)]
   rw [show t - i = (t - (i + 1)) + 1 from by omega]
   rfl
  ·rw [bif_f (by simpa using h),show t - i = 0 from by omega]
   rfl
theorem rot51 {ρ : Type} (a : Nat → CV) (b c : Nat) (d : Nat → Nat → CV) (e g : Int) (t : Nat) (z : Nat → CV) (hz : CV.int (z 3) = Int.ofNat t) (q : Nat → Nat → CV) (ht : t ≤ 3) (k0 : Int → Int → Option ρ) : ∀ (m i : Nat) (x y : Int),t < m + i → i ≤ t →
  L51v2 100 a b c d e g z q m (Int.ofNat i) x y k0 = k0 (rot (t - i) x y).1 (rot (t - i) x y).2:=by
 intro m
 induction m with
 | zero => intro i x y h1 h2;omega
 | succ m ih =>
  intro i x y h1 h2
  unfold L51v2
  rw [hz,lt_nat]
  by_cases h : i < t
  ·rw [bif_t (by simpa using h),w64_succ (by omega),ih (i + 1) _ _ (by omega) (by omega)]
   rw [show t - i = (t - (i + 1)) + 1 from by omega]
   rfl
  ·rw [bif_f (by simpa using h),show t - i = 0 from by omega]
   rfl
theorem point_law (x y : Int) (s : ByteArray) (tx ty : Int) (t : Nat) (fl : Bool) (ht : t ≤ 3) : F32 100 x y s tx ty (Int.ofNat t) fl = some (tp fl t tx ty x y):=by
 unfold F32
 cases fl with
 | true =>
  rw [bif_t rfl]
  exact rot32 s tx ty t true ht _ 100 0 _ _ (by omega) (by omega)
 | false =>
  rw [bif_f rfl]
  exact rot32 s tx ty t false ht _ 100 0 _ _ (by omega) (by omega)
def Are (P : Nat → Int × Int) (g : Nat → Nat → CV) (i : Nat) : Prop := ∀ j,j < i → g j 0 = .i .i64 (P j).1 ∧ g j 1 = .i .i64 (P j).2
theorem Are.snoc {P : Nat → Int × Int} {g : Nat → Nat → CV} {i : Nat} (h : Are P g i) {a b : Int} (hp : P i = (a,b)) : Are P (joinF i g (rowsF 2 [.i .i64 a,.i .i64 b])) (i + 1):=by
 intro j hj
 by_cases e : j = i
 ·subst e
  rw [joinF_new _ _ _ _ _ (Nat.le_refl j),joinF_new _ _ _ _ _ (Nat.le_refl j),Nat.sub_self,hp]
  exact ⟨rfl,rfl⟩
 ·rw [joinF_old _ _ _ _ _ (by omega),joinF_old _ _ _ _ _ (by omega)]
  exact h j (by omega)
def cp (fl : Bool) (t : Nat) (tx ty : Int) (f : Nat → Nat → CV) (j : Nat) : Int × Int := tp fl t tx ty (CV.int (f j 0)) (CV.int (f j 1))
def cq (fl : Bool) (t : Nat) (tx ty : Int) (n : Nat) (f : Nat → Nat → CV) (j : Nat) : Int × Int := cp fl t tx ty f (bif fl then n - 1 - j else j)
theorem loop51 {ρ : Type} (s : ByteArray) (n t : Nat) (fl : Bool) (tx ty : Int) (f : Nat → Nat → CV) (hn : n ≤ 40) (ht : t ≤ 3) (k0 : Nat → (Nat → Nat → CV) → Option ρ) : ∀ (m i : Nat) (g : Nat → Nat → CV),n < m + i → i ≤ n → Are (cp fl t tx ty f) g i →
  ∃ g',L51v3 100 (listF [.s s,.i .i64 tx,.i .i64 ty,.i .i64 (Int.ofNat t),.b fl]) n f (Int.ofNat n) m i (Int.ofNat i) g k0 = k0 n g' ∧ Are (cp fl t tx ty f) g' n:=by
 intro m
 induction m with
 | zero => intro i g h1 h2;omega
 | succ m ih =>
  intro i g h1 h2 hg
  unfold L51v3
  rw [lt_nat,inb_nat,toNat_nat]
  by_cases h : i < n
  ·rw [bif_t (by simpa using h),bif_t (by simpa using h),w64_succ (by omega)]
   have e4 : CV.bool (listF [.s s,.i .i64 tx,.i .i64 ty,.i .i64 (Int.ofNat t),.b fl] 4) = fl := rfl
   have e3 : CV.int (listF [.s s,.i .i64 tx,.i .i64 ty,.i .i64 (Int.ofNat t),.b fl] 3) = Int.ofNat t := rfl
   have e1 : CV.int (listF [.s s,.i .i64 tx,.i .i64 ty,.i .i64 (Int.ofNat t),.b fl] 1) = tx := rfl
   have e2 : CV.int (listF [.s s,.i .i64 tx,.i .i64 ty,.i .i64 (Int.ofNat t),.b fl] 2) = ty := rfl
   rw [e4,e1,e2]
   cases fl with
   | true =>
    rw [bif_t rfl]
    rw [show (0 : Int) = Int.ofNat 0 from rfl,rot51 _ _ _ _ _ _ t _ e3 _ ht _ 100 0 _ _ (by omega) (by omega),bif_t (ble_ok (by omega))]
    exact ih (i + 1) _ (by omega) (by omega) (hg.snoc rfl)
   | false =>
    rw [bif_f rfl]
    rw [show (0 : Int) = Int.ofNat 0 from rfl,rot51 _ _ _ _ _ _ t _ e3 _ ht _ 100 0 _ _ (by omega) (by omega),bif_t (ble_ok (by omega))]
    exact ih (i + 1) _ (by omega) (by omega) (hg.snoc rfl)
  ·rw [bif_f (by simpa using h)]
   have : i = n:=by omega
   subst this
   exact ⟨g,rfl,hg⟩
theorem moved_law (s : ByteArray) (n t : Nat) (fl : Bool) (tx ty : Int) (f : Nat → Nat → CV) (hn : n ≤ 40) (ht : t ≤ 3) :
  ∃ g,F51 100 n f (listF [.s s,.i .i64 tx,.i .i64 ty,.i .i64 (Int.ofNat t),.b fl]) = some (n,g) ∧ Are (cq fl t tx ty n f) g n:=by
 unfold F51
 obtain ⟨g,h1,h2⟩ := loop51 s n t fl tx ty f hn ht (fun x65 x66 => (bif (CV.bool (listF [.s s,.i .i64 tx,.i .i64 ty,.i .i64 (Int.ofNat t),.b fl] 4)) then (bif (Nat.beq x65 x65) then (bif (Nat.beq x65 0) then (some (x65,x66)) else (some (x65,(revF x65 x66)))) else none) else (some (x65,x66)))) 100 0 (fun _ _ => .any) (by omega) (by omega) (fun j hj => by omega)
 rw [show (0 : Int) = Int.ofNat 0 from rfl,h1]
 have e4 : CV.bool (listF [.s s,.i .i64 tx,.i .i64 ty,.i .i64 (Int.ofNat t),.b fl] 4) = fl := rfl
 rw [e4]
 cases fl with
 | true =>
  rw [bif_t rfl,bif_t (Nat.beq_refl n)]
  by_cases h0 : n = 0
  ·subst h0
   exact ⟨g,rfl,fun j hj => by omega⟩
  ·rw [bif_f (by cases hq : Nat.beq n 0 with | false => rfl | true => exact (h0 (Nat.eq_of_beq_eq_true hq)).elim)]
   refine ⟨_,rfl,fun j hj => ?_⟩
   unfold revF cq
   exact h2 (n - 1 - j) (by omega)
 | false =>
  rw [bif_f rfl]
  exact ⟨g,rfl,h2⟩
def farB (x y : Int) : Bool := decide (x < -1099511627776 ∨ x > 1099511627776 ∨ y < -1099511627776 ∨ y > 1099511627776)
theorem far49 (x y : Int) : F49 100 x y = some (farB x y):=by
 unfold F49 farB
 by_cases h1 : x < -1099511627776
 ·rw [bif_f (by simpa using h1)];simp [h1]
 ·rw [bif_t (by simpa using h1)]
  by_cases h2 : x > 1099511627776
  ·rw [bif_f (by simpa using h2)];simp [h2]
  ·rw [bif_t (by simpa using h2)]
   by_cases h3 : y < -1099511627776
   ·rw [bif_f (by simpa using h3)];simp [h3]
   ·rw [bif_t (by simpa using h3)]
    congr 1
    rw [Bool.eq_iff_iff]
    simp only [decide_eq_true_eq]
    omega
def FarFrom (n : Nat) (f : Nat → Nat → CV) (i : Nat) : Prop := ∃ j,i ≤ j ∧ j < n ∧ farB (CV.int (f j 0)) (CV.int (f j 1)) = true
theorem far_loop (n : Nat) (f : Nat → Nat → CV) (hn : n ≤ 40) : ∀ (m i : Nat),n < m + i → i ≤ n →
  ∃ z,L73cv1 100 n f (Int.ofNat n) m (Int.ofNat i) (fun x => some x) (some (-1)) = some z ∧ (z ≥ 0 ↔ FarFrom n f i):=by
 intro m
 induction m with
 | zero => intro i h1 h2;omega
 | succ m ih =>
  intro i h1 h2
  unfold L73cv1
  rw [lt_nat,inb_nat,toNat_nat]
  by_cases h : i < n
  ·rw [bif_t (by simpa using h),bif_t (by simpa using h),w64_succ (by omega),far49,ob_some]
   cases hq : farB (CV.int (f i 0)) (CV.int (f i 1)) with
   | true =>
    rw [bif_t rfl]
    exact ⟨_,rfl,fun _ => ⟨i,Nat.le_refl i,h,hq⟩,fun _ => Int.natCast_nonneg i⟩
   | false =>
    rw [bif_f rfl]
    obtain ⟨z,h3,h4⟩ := ih (i + 1) (by omega) (by omega)
    refine ⟨z,h3,h4.trans ⟨fun ⟨j,a,b,c⟩ => ⟨j,by omega,b,c⟩,fun ⟨j,a,b,c⟩ => ⟨j,?_,b,c⟩⟩⟩
    by_cases e : j = i
    ·subst e;rw [hq] at c;cases c
    ·omega
  ·rw [bif_f (by simpa using h)]
   exact ⟨-1,rfl,fun hh => by omega,fun ⟨j,a,b,c⟩ => by omega⟩
theorem far_law (n : Nat) (f : Nat → Nat → CV) (hn : n ≤ 40) : ∃ b,F50c 100 n f = some b ∧ (b = true ↔ FarFrom n f 0):=by
 unfold F50c F73c
 obtain ⟨z,h1,h2⟩ := far_loop n f hn 100 0 (by omega) (by omega)
 rw [show (0 : Int) = Int.ofNat 0 from rfl,h1,ob_some]
 exact ⟨_,rfl,by rw [decide_eq_true_iff];exact h2⟩
def FarC (n : Nat) (f : Nat → Nat → CV) (i : Nat) : Prop := ∃ j,i ≤ j ∧ j < n ∧ FarFrom (CV.len (f j 0)) (CV.el (f j 0)) 0
theorem farC_loop {ρ : Type} (n a b : Nat) (f c d : Nat → Nat → CV) (s : ByteArray) (x y z : Int) (e : Bool) (hn : n ≤ 13) (hl : ∀ j,j < n → CV.len (f j 0) ≤ 40) (k0 k1 : Option ρ) : ∀ (m i : Nat),n < m + i → i ≤ n →
  (FarC n f i → L25v1 100 n f (Int.ofNat n) a c b d s x y z e m (Int.ofNat i) k0 k1 = k0) ∧ (¬ FarC n f i → L25v1 100 n f (Int.ofNat n) a c b d s x y z e m (Int.ofNat i) k0 k1 = k1):=by
 intro m
 induction m with
 | zero => intro i h1 h2;omega
 | succ m ih =>
  intro i h1 h2
  unfold L25v1
  rw [lt_nat,inb_nat,toNat_nat]
  by_cases h : i < n
  ·obtain ⟨q,hq1,hq2⟩ := far_law (CV.len (f i 0)) (CV.el (f i 0)) (hl i h)
   rw [bif_t (by simpa using h),bif_t (by simpa using h),w64_succ (by omega),hq1,ob_some]
   cases q with
   | true =>
    rw [bif_t rfl]
    exact ⟨fun _ => rfl,fun hh => absurd ⟨i,Nat.le_refl i,h,hq2.1 rfl⟩ hh⟩
   | false =>
    rw [bif_f rfl]
    have e1 : FarC n f i ↔ FarC n f (i + 1):=by
     refine ⟨fun ⟨j,a,b,c⟩ => ⟨j,?_,b,c⟩,fun ⟨j,a,b,c⟩ => ⟨j,by omega,b,c⟩⟩
     by_cases e : j = i
     ·subst e
      have := hq2.2 c
      cases this
     ·omega
    rw [e1]
    exact ih (i + 1) (by omega) (by omega)
  ·rw [bif_f (by simpa using h)]
   exact ⟨fun ⟨j,a,b,c⟩ => by omega,fun _ => rfl⟩
def Holes (fl : Bool) (t : Nat) (tx ty : Int) (f g : Nat → Nat → CV) (i : Nat) : Prop :=
 ∀ j,j < i → CV.len (g j 0) = CV.len (f j 0) ∧ Are (cq fl t tx ty (CV.len (f j 0)) (CV.el (f j 0))) (CV.el (g j 0)) (CV.len (f j 0))
theorem Holes.snoc {fl : Bool} {t : Nat} {tx ty : Int} {f g : Nat → Nat → CV} {i n : Nat} (h : Holes fl t tx ty f g i) {x : Nat → Nat → CV} {r : Kd} {b : Bool} (hn : n = CV.len (f i 0)) (hx : Are (cq fl t tx ty n (CV.el (f i 0))) x n) :
  Holes fl t tx ty f (joinF i g (rowsF 1 [.ro b r n x])) (i + 1):=by
 intro j hj
 by_cases e : j = i
 ·subst e
  rw [joinF_new _ _ _ _ _ (Nat.le_refl j),Nat.sub_self]
  subst hn
  exact ⟨rfl,hx⟩
 ·rw [joinF_old _ _ _ _ _ (by omega)]
  exact h j (by omega)
theorem holes25 {ρ : Type} (s : ByteArray) (n t : Nat) (fl : Bool) (tx ty : Int) (f : Nat → Nat → CV) (a b : Nat) (c d : Nat → Nat → CV) (hn : n ≤ 12) (hl : ∀ j,j < n → CV.len (f j 0) ≤ 40) (ht : t ≤ 3) (k0 : Nat → (Nat → Nat → CV) → Option ρ) : ∀ (m i : Nat) (g : Nat → Nat → CV),n < m + i → i ≤ n → Holes fl t tx ty f g i →
  ∃ g',L25v2 100 s tx ty (Int.ofNat t) fl n f (Int.ofNat n) a c b d m (Int.ofNat i) i g k0 = k0 n g' ∧ Holes fl t tx ty f g' n:=by
 intro m
 induction m with
 | zero => intro i g h1 h2;omega
 | succ m ih =>
  intro i g h1 h2 hg
  unfold L25v2
  rw [lt_nat,inb_nat,toNat_nat]
  by_cases h : i < n
  ·obtain ⟨x,hx1,hx2⟩ := moved_law s (CV.len (f i 0)) t fl tx ty (CV.el (f i 0)) (hl i h) ht
   rw [bif_t (by simpa using h),bif_t (by simpa using h),w64_succ (by omega),hx1,ob_some,bif_t (ble_ok (by omega))]
   exact ih (i + 1) _ (by omega) (by omega) (hg.snoc rfl hx2)
  ·rw [bif_f (by simpa using h)]
   have : i = n:=by omega
   subst this
   exact ⟨g,rfl,hg⟩
end Go.Eng.R13
/-
 RegionMoves: the plain law.
-/
set_option linter.all false
namespace Go.Eng.R13
open Go Go.RowKit Go.Eng
theorem loop54 {ρ : Type} (s : ByteArray) (n t : Nat) (fl : Bool) (tx ty : Int) (f : Nat → Nat → CV) (hn : n ≤ 40) (ht : t ≤ 3) (k0 : Nat → (Nat → Nat → CV) → Option ρ) : ∀ (m i : Nat) (g : Nat → Nat → CV),n < m + i → i ≤ n → Are (cq fl t tx ty n f) g i →
  ∃ g',L54v1 100 n f s tx ty (Int.ofNat t) fl m i (Int.ofNat i) g k0 = k0 n g' ∧ Are (cq fl t tx ty n f) g' n:=by
 intro m
 induction m with
 | zero => intro i g h1 h2;omega
 | succ m ih =>
  intro i g h1 h2 hg
  unfold L54v1
  rw [lt_nat,inb_nat,toNat_nat]
  by_cases h : i < n
  ·rw [bif_t (by simpa using h),w64_succ (by omega)]
   cases fl with
   | true =>
    have e : w64 (w64 (Int.ofNat n - 1) - Int.ofNat i) = Int.ofNat (n - 1 - i):=by
     rw [w64_of (n := Int.ofNat n - 1) (by simp;omega) (by simp;omega),w64_of (by simp;omega) (by simp;omega)]
     simp;omega
    rw [bif_t rfl,e,inb_nat,toNat_nat,bif_t (by simp;omega),point_law _ _ _ _ _ _ _ ht,ob_some,bif_t (ble_ok (by omega))]
    exact ih (i + 1) _ (by omega) (by omega) (hg.snoc rfl)
   | false =>
    rw [bif_f rfl,bif_t (by simpa using h),point_law _ _ _ _ _ _ _ ht,ob_some,bif_t (ble_ok (by omega))]
    exact ih (i + 1) _ (by omega) (by omega) (hg.snoc rfl)
  ·rw [bif_f (by simpa using h)]
   have : i = n:=by omega
   subst this
   exact ⟨g,rfl,hg⟩
theorem contour_law (s : ByteArray) (n t : Nat) (fl : Bool) (tx ty : Int) (f : Nat → Nat → CV) (hn : n ≤ 40) (ht : t ≤ 3) :
  ∃ g,F54 100 n f s tx ty (Int.ofNat t) fl = some (n,g) ∧ Are (cq fl t tx ty n f) g n:=by
 unfold F54
 exact loop54 s n t fl tx ty f hn ht _ 100 0 (fun _ _ => .any) (by omega) (by omega) (fun j hj => by omega)
theorem far53 (x y : Int) : F53 100 x y = some (farB x y) := far49 x y
theorem bad_inner {ρ : Type} (N a b i : Nat) (F c d : Nat → Nat → CV) (s : ByteArray) (x y z : Int) (e : Bool) (hi : i < N) (hl : CV.len (F i 0) ≤ 40) (k0 : Bool → Option ρ) : ∀ (m j : Nat) (bad : Bool),CV.len (F i 0) < m + j → j ≤ CV.len (F i 0) →
  ∃ r,L26v2 100 N F (Int.ofNat i) a c b d s x y z e m bad (Int.ofNat j) k0 = k0 r ∧ (r = true ↔ bad = true ∨ FarFrom (CV.len (F i 0)) (CV.el (F i 0)) j):=by
 intro m
 induction m with
 | zero => intro j bad h1 h2;omega
 | succ m ih =>
  intro j bad h1 h2
  unfold L26v2
  rw [inb_nat,toNat_nat,lt_nat,inb_nat,toNat_nat]
  rw [bif_t (by simpa using hi)]
  by_cases h : j < CV.len (F i 0)
  ·rw [bif_t (by simpa using h),w64_succ (by omega)]
   cases bad with
   | true =>
    rw [bif_f (by simp)]
    obtain ⟨r,h3,h4⟩ := ih (j + 1) true (by omega) (by omega)
    exact ⟨r,h3,h4.trans ⟨fun _ => .inl rfl,fun _ => .inl rfl⟩⟩
   | false =>
    rw [bif_t (by simp),bif_t (by simpa using hi),bif_t (by simpa using h),far53,ob_some]
    obtain ⟨r,h3,h4⟩ := ih (j + 1) (farB (CV.int (CV.el (F i 0) j 0)) (CV.int (CV.el (F i 0) j 1))) (by omega) (by omega)
    refine ⟨r,h3,h4.trans ⟨fun hh => ?_,fun hh => ?_⟩⟩
    ·rcases hh with hh | ⟨j',a,b,c⟩
     ·exact .inr ⟨j,Nat.le_refl j,h,hh⟩
     ·exact .inr ⟨j',by omega,b,c⟩
    ·rcases hh with hh | ⟨j',a,b,c⟩
     ·cases hh
     ·by_cases e : j' = j
      ·subst e;exact .inl c
      ·exact .inr ⟨j',by omega,b,c⟩
  ·rw [bif_f (by simpa using h)]
   exact ⟨bad,rfl,fun h => .inl h,fun hh => hh.elim id fun ⟨j',a,b,c⟩ => by omega⟩
theorem bad_outer {ρ : Type} (N a b : Nat) (F c d : Nat → Nat → CV) (s : ByteArray) (x y z : Int) (e : Bool) (hN : N ≤ 13) (hl : ∀ j,j < N → CV.len (F j 0) ≤ 40) (k0 : Bool → Option ρ) : ∀ (m i : Nat) (bad : Bool),N < m + i → i ≤ N →
  ∃ r,L26v3 100 N F a c b d s x y z e m bad (Int.ofNat i) k0 = k0 r ∧ (r = true ↔ bad = true ∨ FarC N F i):=by
 intro m
 induction m with
 | zero => intro i bad h1 h2;omega
 | succ m ih =>
  intro i bad h1 h2
  unfold L26v3
  rw [lt_nat]
  by_cases h : i < N
  ·rw [bif_t (by simpa using h),w64_succ (by omega)]
   obtain ⟨r1,h3,h4⟩ := bad_inner N a b i F c d s x y z e h (hl i h) (fun x96 => (L26v3 100 N F a c b d s x y z e m x96 (Int.ofNat (i + 1)) k0)) 100 0 bad (by have := hl i h;omega) (by omega)
   rw [show (0 : Int) = Int.ofNat 0 from rfl,h3]
   obtain ⟨r,h5,h6⟩ := ih (i + 1) r1 (by omega) (by omega)
   refine ⟨r,h5,h6.trans ⟨fun hh => ?_,fun hh => ?_⟩⟩
   ·rcases hh with hh | ⟨j',a,b,c⟩
    ·rcases h4.1 hh with hh | hh
     ·exact .inl hh
     ·exact .inr ⟨i,Nat.le_refl i,h,hh⟩
    ·exact .inr ⟨j',by omega,b,c⟩
   ·rcases hh with hh | ⟨j',a,b,c⟩
    ·exact .inl (h4.2 (.inl hh))
    ·by_cases e : j' = i
     ·subst e;exact .inl (h4.2 (.inr c))
     ·exact .inr ⟨j',by omega,b,c⟩
  ·rw [bif_f (by simpa using h)]
   exact ⟨bad,rfl,fun h => .inl h,fun hh => hh.elim id fun ⟨j',a,b,c⟩ => by omega⟩
theorem idle_inner {ρ : Type} (N a b i : Nat) (F c d : Nat → Nat → CV) (s : ByteArray) (x y z : Int) (e : Bool) (hi : i < N) (hl : CV.len (F i 0) ≤ 40) (k0 : Option ρ) : ∀ (m j : Nat),CV.len (F i 0) < m + j → j ≤ CV.len (F i 0) →
  L26v6 100 N F (Int.ofNat i) a c b d s x y z e m (Int.ofNat j) k0 = k0:=by
 intro m
 induction m with
 | zero => intro j h1 h2;omega
 | succ m ih =>
  intro j h1 h2
  unfold L26v6
  rw [inb_nat,toNat_nat,lt_nat,bif_t (by simpa using hi)]
  by_cases h : j < CV.len (F i 0)
  ·rw [bif_t (by simpa using h),w64_succ (by omega)]
   exact ih (j + 1) (by omega) (by omega)
  ·rw [bif_f (by simpa using h)]
theorem idle_outer {ρ : Type} (N a b : Nat) (F c d : Nat → Nat → CV) (s : ByteArray) (x y z : Int) (e : Bool) (hN : N ≤ 13) (hl : ∀ j,j < N → CV.len (F j 0) ≤ 40) (k0 : Option ρ) : ∀ (m i : Nat),N < m + i → i ≤ N →
  L26v7 100 N F a c b d s x y z e m (Int.ofNat i) k0 = k0:=by
 intro m
 induction m with
 | zero => intro i h1 h2;omega
 | succ m ih =>
  intro i h1 h2
  unfold L26v7
  rw [lt_nat]
  by_cases h : i < N
  ·rw [bif_t (by simpa using h),w64_succ (by omega),show (0 : Int) = Int.ofNat 0 from rfl,idle_inner N a b i F c d s x y z e h (hl i h) _ 100 0 (by have := hl i h;omega) (by omega)]
   exact ih (i + 1) (by omega) (by omega)
  ·rw [bif_f (by simpa using h)]
theorem holes26 {ρ : Type} (s : ByteArray) (n t : Nat) (fl : Bool) (tx ty : Int) (f : Nat → Nat → CV) (a b : Nat) (c d : Nat → Nat → CV) (hn : n ≤ 12) (hl : ∀ j,j < n → CV.len (f j 0) ≤ 40) (ht : t ≤ 3) (k0 : Nat → (Nat → Nat → CV) → Option ρ) : ∀ (m i : Nat) (g : Nat → Nat → CV),n < m + i → i ≤ n → Holes fl t tx ty f g i →
  ∃ g',L26v4 100 a c n f s tx ty (Int.ofNat t) fl b d m (Int.ofNat i) i g k0 = k0 n g' ∧ Holes fl t tx ty f g' n:=by
 intro m
 induction m with
 | zero => intro i g h1 h2;omega
 | succ m ih =>
  intro i g h1 h2 hg
  unfold L26v4
  rw [lt_nat,inb_nat,toNat_nat]
  by_cases h : i < n
  ·obtain ⟨x,hx1,hx2⟩ := contour_law s (CV.len (f i 0)) t fl tx ty (CV.el (f i 0)) (hl i h) ht
   rw [bif_t (by simpa using h),bif_t (by simpa using h),w64_succ (by omega),hx1,ob_some,bif_t (ble_ok (by omega))]
   exact ih (i + 1) _ (by omega) (by omega) (hg.snoc rfl hx2)
  ·rw [bif_f (by simpa using h)]
   have : i = n:=by omega
   subst this
   exact ⟨g,rfl,hg⟩
end Go.Eng.R13
/-
 Bounds: the reference's loop.
-/
set_option linter.all false
namespace Go.Eng.R13
open Go Go.RowKit Go.Eng
def Bds (f : Nat → Nat → CV) (i : Nat) (a b c d : Int) : Prop :=
 (∀ j,j < i → a ≤ CV.int (f j 0) ∧ b ≤ CV.int (f j 1) ∧ CV.int (f j 0) ≤ c ∧ CV.int (f j 1) ≤ d) ∧
 (0 < i → (∃ j,j < i ∧ CV.int (f j 0) = a) ∧ (∃ j,j < i ∧ CV.int (f j 1) = b) ∧ (∃ j,j < i ∧ CV.int (f j 0) = c) ∧ (∃ j,j < i ∧ CV.int (f j 1) = d))
theorem Bds.step {f : Nat → Nat → CV} {i : Nat} {a b c d a' b' c' d' : Int} (hi : 0 < i) (h : Bds f i a b c d)
  (ha : a' = if CV.int (f i 0) < a then CV.int (f i 0) else a) (hb : b' = if CV.int (f i 1) < b then CV.int (f i 1) else b)
  (hc : c' = if CV.int (f i 0) > c then CV.int (f i 0) else c) (hd : d' = if CV.int (f i 1) > d then CV.int (f i 1) else d) : Bds f (i + 1) a' b' c' d':=by
 obtain ⟨h1,h2⟩ := h
 obtain ⟨⟨j1,k1,e1⟩,⟨j2,k2,e2⟩,⟨j3,k3,e3⟩,⟨j4,k4,e4⟩⟩ := h2 hi
 have q1 : a' ≤ a ∧ a' ≤ CV.int (f i 0):=by rw [ha];split <;> omega
 have q2 : b' ≤ b ∧ b' ≤ CV.int (f i 1):=by rw [hb];split <;> omega
 have q3 : c ≤ c' ∧ CV.int (f i 0) ≤ c':=by rw [hc];split <;> omega
 have q4 : d ≤ d' ∧ CV.int (f i 1) ≤ d':=by rw [hd];split <;> omega
 refine ⟨fun j hj => ?_,fun _ => ⟨?_,?_,?_,?_⟩⟩
 ·by_cases e : j = i
  ·rw [e];exact ⟨q1.2,q2.2,q3.2,q4.2⟩
  ·obtain ⟨p1,p2,p3,p4⟩ := h1 j (by omega)
   exact ⟨by omega,by omega,by omega,by omega⟩
 ·by_cases e : CV.int (f i 0) < a
  ·exact ⟨i,by omega,by rw [ha,if_pos e]⟩
  ·exact ⟨j1,by omega,by rw [ha,if_neg e];exact e1⟩
 ·by_cases e : CV.int (f i 1) < b
  ·exact ⟨i,by omega,by rw [hb,if_pos e]⟩
  ·exact ⟨j2,by omega,by rw [hb,if_neg e];exact e2⟩
 ·by_cases e : CV.int (f i 0) > c
  ·exact ⟨i,by omega,by rw [hc,if_pos e]⟩
  ·exact ⟨j3,by omega,by rw [hc,if_neg e];exact e3⟩
 ·by_cases e : CV.int (f i 1) > d
  ·exact ⟨i,by omega,by rw [hd,if_pos e]⟩
  ·exact ⟨j4,by omega,by rw [hd,if_neg e];exact e4⟩
theorem bounds_loop {ρ : Type} (n a : Nat) (f b : Nat → Nat → CV) (k0 : Int → Int → Int → Int → Option ρ) (hn : n ≤ 40) : ∀ (m i : Nat) (p q r s : Int),n < m + i → i ≤ n → (0 < i → Bds f i p q r s) →
  ∃ p' q' r' s',L21v1 100 n f a b m (Int.ofNat i) p q r s k0 = k0 p' q' r' s' ∧ (0 < n → Bds f n p' q' r' s'):=by
 intro m
 induction m with
 | zero => intro i p q r s h1 h2;omega
 | succ m ih =>
  intro i p q r s h1 h2 hB
  unfold L21v1
  rw [lt_nat,inb_nat,toNat_nat]
  by_cases h : i < n
  ·rw [bif_t (by simpa using h),bif_t (by simpa using h),w64_succ (by omega)]
   by_cases h0 : i = 0
   ·subst h0
    rw [bif_t (by simp)]
    refine ih 1 _ _ _ _ (by omega) (by omega) fun _ => ?_
    simp only [gt_iff_lt,ite_self]
    refine ⟨fun j hj => ?_,fun _ => ⟨⟨0,by omega,rfl⟩,⟨0,by omega,rfl⟩,⟨0,by omega,rfl⟩,⟨0,by omega,rfl⟩⟩⟩
    have : j = 0:=by omega
    subst this
    exact ⟨Int.le_refl _,Int.le_refl _,Int.le_refl _,Int.le_refl _⟩
   ·rw [bif_f (by simp [h0])]
    exact ih (i + 1) _ _ _ _ (by omega) (by omega) fun _ => (hB (by omega)).step (by omega) rfl rfl rfl rfl
  ·rw [bif_f (by simpa using h)]
   have : i = n:=by omega
   subst this
   exact ⟨p,q,r,s,rfl,hB⟩
theorem bounds_law (n a : Nat) (f b : Nat → Nat → CV) (hn : n ≤ 40) : ∃ p q r s,F21 100 n f a b = some (p,q,r,s) ∧ (0 < n → Bds f n p q r s):=by
 unfold F21
 exact bounds_loop n a f b _ hn 100 0 0 0 0 0 (by omega) (by omega) (fun h => absurd h (by omega))
end Go.Eng.R13
/-
 RegionWithins: the plain law.
-/
set_option linter.all false
namespace Go.Eng.R13
open Go Go.RowKit Go.Eng
theorem from_law (a b c : Int) : F60 100 a b c = some (decide (b ≤ a ∧ a ≤ c)):=by
 unfold F60
 by_cases h : b ≤ a
 ·rw [bif_t (by simpa using h)]
  simp [h]
 ·rw [bif_f (by simpa using h)]
  simp [h]
def InB (lo hx hy : Int) (n : Nat) (f : Nat → Nat → CV) (i : Nat) : Prop :=
 ∀ j,i ≤ j → j < n → (lo ≤ CV.int (f j 0) ∧ CV.int (f j 0) ≤ hx) ∧ (lo ≤ CV.int (f j 1) ∧ CV.int (f j 1) ≤ hy)
theorem within_loop (n a : Nat) (f b : Nat → Nat → CV) (l w lo : Int) (hn : n ≤ 40) : ∀ (m i : Nat),n < m + i → i ≤ n →
  ∃ r,L29v1 100 l w lo n f (Int.ofNat n) a b m (Int.ofNat i) (fun _ _ => some false) (some true) = some r ∧ (r = true ↔ InB lo (w64 (l - lo)) (w64 (w - lo)) n f i):=by
 intro m
 induction m with
 | zero => intro i h1 h2;omega
 | succ m ih =>
  intro i h1 h2
  unfold L29v1
  rw [lt_nat,inb_nat,toNat_nat]
  by_cases h : i < n
  ·rw [bif_t (by simpa using h),bif_t (by simpa using h),w64_succ (by omega),from_law,from_law,ob_some,ob_some]
   by_cases h3 : lo ≤ CV.int (f i 0) ∧ CV.int (f i 0) ≤ w64 (l - lo)
   ·rw [bif_t (by simp [h3])]
    by_cases h4 : lo ≤ CV.int (f i 1) ∧ CV.int (f i 1) ≤ w64 (w - lo)
    ·rw [bif_f (by simp [h4])]
     obtain ⟨r,h5,h6⟩ := ih (i + 1) (by omega) (by omega)
     refine ⟨r,h5,h6.trans ⟨fun h7 j h8 h9 => ?_,fun h7 j h8 h9 => h7 j (by omega) h9⟩⟩
     by_cases e : j = i
     ·rw [e];exact ⟨h3,h4⟩
     ·exact h7 j (by omega) h9
    ·rw [bif_t (by simp [h4])]
     exact ⟨false,rfl,fun h => (by cases h),fun h7 => absurd (h7 i (Nat.le_refl i) h).2 h4⟩
   ·rw [bif_f (by simp [h3])]
    exact ⟨false,rfl,fun h => (by cases h),fun h7 => absurd (h7 i (Nat.le_refl i) h).1 h3⟩
  ·rw [bif_f (by simpa using h)]
   exact ⟨true,rfl,fun _ j h6 h7 => by omega,fun _ => rfl⟩
def Fine (n : Nat) (l w lo : Int) : Prop := n ≠ 0 ∧ (0 ≤ l ∧ l ≤ 32768) ∧ (0 ≤ w ∧ w ≤ 32768) ∧ (0 ≤ lo ∧ lo ≤ 1000)
theorem within_law (n a : Nat) (f b : Nat → Nat → CV) (l w lo : Int) (hn : n ≤ 40) :
  ∃ r,F29 100 n f a b l w lo = some r ∧ (r = true ↔ Fine n l w lo ∧ InB lo (w64 (l - lo)) (w64 (w - lo)) n f 0):=by
 unfold F29
 rw [from_law,from_law,from_law,ob_some,ob_some,ob_some]
 by_cases h0 : n = 0
 ·rw [bif_f (by simp [h0])]
  exact ⟨false,rfl,fun h => (by cases h),fun h => absurd h0 h.1.1⟩
 ·rw [bif_t (by simp [h0])]
  by_cases h1 : 0 ≤ l ∧ l ≤ 32768
  ·rw [bif_t (by simp [h1])]
   by_cases h2 : 0 ≤ w ∧ w ≤ 32768
   ·rw [bif_t (by simp [h2])]
    by_cases h3 : 0 ≤ lo ∧ lo ≤ 1000
    ·rw [bif_f (by simp [h3])]
     obtain ⟨r,h4,h5⟩ := within_loop n a f b l w lo hn 100 0 (by omega) (by omega)
     exact ⟨r,h4,h5.trans ⟨fun h => ⟨⟨h0,h1,h2,h3⟩,h⟩,fun h => h.2⟩⟩
    ·rw [bif_t (by simp [h3])]
     exact ⟨false,rfl,fun h => (by cases h),fun h => absurd h.1.2.2.2 h3⟩
   ·rw [bif_f (by simp [h2])]
    exact ⟨false,rfl,fun h => (by cases h),fun h => absurd h.1.2.2.1 h2⟩
  ·rw [bif_f (by simp [h1])]
   exact ⟨false,rfl,fun h => (by cases h),fun h => absurd h.1.2.1 h1⟩
theorem bds_in {n : Nat} {f : Nat → Nat → CV} {p q r s lo hx hy : Int} (hn : 0 < n) (h : Bds f n p q r s) : (lo ≤ p ∧ lo ≤ q ∧ r ≤ hx ∧ s ≤ hy) ↔ InB lo hx hy n f 0:=by
 obtain ⟨h1,h2⟩ := h
 obtain ⟨⟨j1,k1,e1⟩,⟨j2,k2,e2⟩,⟨j3,k3,e3⟩,⟨j4,k4,e4⟩⟩ := h2 hn
 constructor
 ·rintro ⟨a1,a2,a3,a4⟩ j _ hj
  obtain ⟨b1,b2,b3,b4⟩ := h1 j hj
  exact ⟨⟨by omega,by omega⟩,⟨by omega,by omega⟩⟩
 ·intro hI
  exact ⟨e1 ▸ (hI j1 (by omega) k1).1.1,e2 ▸ (hI j2 (by omega) k2).2.1,e3 ▸ (hI j3 (by omega) k3).1.2,e4 ▸ (hI j4 (by omega) k4).2.2⟩
theorem within_ref (n a : Nat) (f b : Nat → Nat → CV) (l w lo : Int) (hn : n ≤ 40) :
  ∃ r,F30 100 n f a b l w lo = some r ∧ (r = true ↔ Fine n l w lo ∧ InB lo (w64 (l - lo)) (w64 (w - lo)) n f 0):=by
 unfold F30
 have no : ∀ (P : Prop),¬ P → ∃ r : Bool,(some false : Option Bool) = some r ∧ (r = true ↔ P):=fun P h => ⟨false,rfl,fun h => (by cases h),fun h' => absurd h' h⟩
 by_cases h0 : n = 0
 ·rw [bif_f (by simp [h0])]
  exact no _ fun h => h.1.1 h0
 ·rw [bif_t (by simp [h0])]
  by_cases h1 : l < 0
  ·rw [bif_f (by simp [h1])]
   exact no _ fun h => by have := h.1.2.1.1;omega
  ·rw [bif_t (by simp [h1])]
   by_cases h2 : l > 32768
   ·rw [bif_f (by simp;omega)]
    exact no _ fun h => by have := h.1.2.1.2;omega
   ·rw [bif_t (by simp;omega)]
    by_cases h3 : w < 0
    ·rw [bif_f (by simp [h3])]
     exact no _ fun h => by have := h.1.2.2.1.1;omega
    ·rw [bif_t (by simp [h3])]
     by_cases h4 : w > 32768
     ·rw [bif_f (by simp;omega)]
      exact no _ fun h => by have := h.1.2.2.1.2;omega
     ·rw [bif_t (by simp;omega)]
      by_cases h5 : lo < 0
      ·rw [bif_f (by simp [h5])]
       exact no _ fun h => by have := h.1.2.2.2.1;omega
      ·rw [bif_t (by simp [h5])]
       by_cases h6 : lo > 1000
       ·rw [bif_t (by simp;omega)]
        exact no _ fun h => by have := h.1.2.2.2.2;omega
       ·rw [bif_f (by simp;omega)]
        obtain ⟨p,q,r,s,hb,hB⟩ := bounds_law n a f b hn
        have hB := hB (by omega)
        have hF : Fine n l w lo := ⟨h0,⟨by omega,by omega⟩,⟨by omega,by omega⟩,⟨by omega,by omega⟩⟩
        rw [hb,ob_some]
        have hI := bds_in (lo := lo) (hx := w64 (l - lo)) (hy := w64 (w - lo)) (by omega) hB
        by_cases h7 : lo ≤ p
        ·rw [bif_t (by simpa using h7)]
         by_cases h8 : lo ≤ q
         ·rw [bif_t (by simpa using h8)]
          by_cases h9 : r ≤ w64 (l - lo)
          ·rw [bif_t (by simpa using h9)]
           refine ⟨_,rfl,?_⟩
           rw [decide_eq_true_iff]
           exact ⟨fun h => ⟨hF,hI.1 ⟨h7,h8,h9,h⟩⟩,fun h => (hI.2 h.2).2.2.2⟩
          ·rw [bif_f (by simpa using h9)]
           exact no _ fun h => h9 (hI.2 h.2).2.2.1
         ·rw [bif_f (by simpa using h8)]
          exact no _ fun h => h8 (hI.2 h.2).2.1
        ·rw [bif_f (by simpa using h7)]
         exact no _ fun h => h7 (hI.2 h.2).1
end Go.Eng.R13
/-
 RegionClears: the plain law.
-/
set_option linter.all false
namespace Go.Eng.R13
open Go Go.RowKit Go.Eng Geo
theorem near78 {x1 x2 x3 x4 x5 x6 g : Int} (ha : nr x1 x2) (hb : nr x3 x4) (hc : nr x5 x6) (hg : 0 ≤ g) (hg' : g ≤ 1000) : F78 100 x3 x4 x5 x6 x1 x2 g = some (decide (Near (x1,x2) (x3,x4) (x5,x6) g)):=by
 have b1 := dot_bd (a:=(x1,x2)) (b:=(x3,x4)) (c:=(x5,x6)) ha hb hc
 have b2 := dot_bd (a:=(x5,x6)) (b:=(x3,x4)) (c:=(x5,x6)) hc hb hc
 have b3 := cross_bd (a:=(x3,x4)) (b:=(x5,x6)) (c:=(x1,x2)) hb hc ha
 have p2 := dot_self (a:=(x5,x6)) (b:=(x3,x4))
 have g1 := mul_bd (x := g) (y := g) (A := 1000) (B := 1000) (by omega) (by omega) (by omega) (by omega)
 have g0 : 0 ≤ g * g := Int.mul_nonneg hg hg
 have g2 := mul_bd (x := g * g) (y := dot (x5,x6) (x3,x4) (x5,x6)) (A := 1000000) (B := 8589934592) (by omega) (by omega) (by omega) (by omega)
 unfold F78
 rw [w_dot hc hb ha,w_dot hc hb hc,w_dot ha hb ha,w_dot ha hc ha,w64_of (n := g * g) (by omega) (by omega),w64_of (n := g * g * _) (by omega) (by omega),w_cross hb hc ha,dot_comm (x5,x6) (x3,x4) (x1,x2)]
 rw [w64_of (n := 0 - cross (x3,x4) (x5,x6) (x1,x2)) (by omega) (by omega)]
 by_cases h1 : dot (x1,x2) (x3,x4) (x5,x6) ≤ 0
 ·rw [bif_t (decide_eq_true h1)]
  congr 1
  exact decide_eq_decide.2 (near_p h1).symm
 ·rw [bif_f (decide_eq_false h1)]
  by_cases h2 : dot (x5,x6) (x3,x4) (x5,x6) ≤ dot (x1,x2) (x3,x4) (x5,x6)
  ·rw [bif_t (decide_eq_true (by omega))]
   congr 1
   exact decide_eq_decide.2 (near_q h1 h2).symm
  ·rw [bif_f (decide_eq_false (by omega))]
   by_cases h3 : cross (x3,x4) (x5,x6) (x1,x2) < 0
   ·rw [bif_t (decide_eq_true h3)]
    by_cases h4 : 0 - cross (x3,x4) (x5,x6) (x1,x2) < 2147483648
    ·have m1 := mul_bd (x := 0 - cross (x3,x4) (x5,x6) (x1,x2)) (y := 0 - cross (x3,x4) (x5,x6) (x1,x2)) (A := 2147483648) (B := 2147483648) (by omega) (by omega) (by omega) (by omega)
     rw [bif_t (by rw [decide_eq_true h4];rfl),w64_of (by omega) (by omega)]
     congr 1
     refine decide_eq_decide.2 (Iff.trans ?_ (near_m h1 h2).symm)
     rw [show (0 - cross (x3,x4) (x5,x6) (x1,x2)) * (0 - cross (x3,x4) (x5,x6) (x1,x2)) = cross (x3,x4) (x5,x6) (x1,x2) * cross (x3,x4) (x5,x6) (x1,x2) from by grind]
    ·rw [bif_f (by rw [decide_eq_false h4];rfl)]
     congr 1
     symm
     rw [decide_eq_false_iff_not,near_m h1 h2]
     have m1 : 2147483648 * 2147483648 ≤ (0 - cross (x3,x4) (x5,x6) (x1,x2)) * (0 - cross (x3,x4) (x5,x6) (x1,x2)) := Int.mul_le_mul (by omega) (by omega) (by omega) (by omega)
     rw [show (0 - cross (x3,x4) (x5,x6) (x1,x2)) * (0 - cross (x3,x4) (x5,x6) (x1,x2)) = cross (x3,x4) (x5,x6) (x1,x2) * cross (x3,x4) (x5,x6) (x1,x2) from by grind] at m1
     omega
   ·rw [bif_f (decide_eq_false h3)]
    by_cases h4 : cross (x3,x4) (x5,x6) (x1,x2) < 2147483648
    ·have m1 := mul_bd (x := cross (x3,x4) (x5,x6) (x1,x2)) (y := cross (x3,x4) (x5,x6) (x1,x2)) (A := 2147483648) (B := 2147483648) (by omega) (by omega) (by omega) (by omega)
     rw [bif_t (by rw [decide_eq_true h4];rfl),w64_of (by omega) (by omega)]
     congr 1
     exact decide_eq_decide.2 (near_m h1 h2).symm
    ·rw [bif_f (by rw [decide_eq_false h4];rfl)]
     congr 1
     symm
     rw [decide_eq_false_iff_not,near_m h1 h2]
     have m1 : 2147483648 * 2147483648 ≤ cross (x3,x4) (x5,x6) (x1,x2) * cross (x3,x4) (x5,x6) (x1,x2) := Int.mul_le_mul (by omega) (by omega) (by omega) (by omega)
     omega
def NearI (gap : Int) (n n' : Nat) (f g : Nat → Nat → CV) (i : Nat) : Prop := Ex n' (fun k => Near (pt f i) (pt g k) (pt g (nx n' k)) gap) 0
theorem near59_2 {ρ : Type} (n n' i : Nat) (f g : Nat → Nat → CV) (gap : Int) (hg : 0 ≤ gap) (hg' : gap ≤ 1000) (hn : n ≤ 32) (hn' : n' ≤ 32) (h0 : 3 ≤ n) (h0' : 3 ≤ n') (hi : i < n) (hA : AllNr n f) (hB : AllNr n' g) (k0 k1 : Option ρ) : ∀ (m k : Nat),n' < m + k → k ≤ n' →
  (Ex n' (fun k => Near (pt f i) (pt g k) (pt g (nx n' k)) gap) k → L59v2 100 n f n' g gap (Int.ofNat i) m (Int.ofNat k) k0 k1 = k0) ∧
  (¬ Ex n' (fun k => Near (pt f i) (pt g k) (pt g (nx n' k)) gap) k → L59v2 100 n f n' g gap (Int.ofNat i) m (Int.ofNat k) k0 k1 = k1):=by
 intro m
 induction m with
 | zero => intro k h1 h2;omega
 | succ m ih =>
  intro k h1 h2
  unfold L59v2
  rw [lt_nat,inb_nat,toNat_nat,inb_nat,toNat_nat]
  by_cases h : k < n'
  ·have hy : nx n' k < n' := nx_lt h0'
   have e2 : (k + 1) % n' = nx n' k := rfl
   rw [bif_t (decide_eq_true h),bif_t (decide_eq_true h),bif_f (ofNat_ne0 (by omega)),w64_succ (i := k) (by omega),tmod_nat,inb_nat,toNat_nat,e2,bif_t (decide_eq_true hy),bif_t (decide_eq_true hi),near78 (hA i hi) (hB k h) (hB _ hy) hg hg',ob_some]
   by_cases hM : Near (pt f i) (pt g k) (pt g (nx n' k)) gap
   ·rw [bif_t (decide_eq_true hM)]
    exact ⟨fun _ => rfl,fun hh => absurd (Ex.here h hM) hh⟩
   ·rw [bif_f (decide_eq_false hM),Ex.step hM]
    exact ih (k + 1) (by omega) (by omega)
  ·rw [bif_f (decide_eq_false h)]
   exact ⟨fun hh => absurd hh (Ex.none h),fun _ => rfl⟩
theorem near59_3 (n n' : Nat) (f g : Nat → Nat → CV) (gap : Int) (hg : 0 ≤ gap) (hg' : gap ≤ 1000) (hn : n ≤ 32) (hn' : n' ≤ 32) (h0 : 3 ≤ n) (h0' : 3 ≤ n') (hA : AllNr n f) (hB : AllNr n' g) : ∀ (m i : Nat),n < m + i → i ≤ n →
  ∃ r,L59v3 100 n f n' g gap m (Int.ofNat i) (some true) (some false) = some r ∧ (r = true ↔ Ex n (NearI gap n n' f g) i):=by
 intro m
 induction m with
 | zero => intro i h1 h2;omega
 | succ m ih =>
  intro i h1 h2
  unfold L59v3
  rw [lt_nat]
  by_cases h : i < n
  ·obtain ⟨m1,m2⟩ := near59_2 n n' i f g gap hg hg' hn hn' h0 h0' h hA hB (some true) (L59v3 100 n f n' g gap m (Int.ofNat (i + 1)) (some true) (some false)) 100 0 (by omega) (by omega)
   rw [bif_t (decide_eq_true h),w64_succ (by omega),show (0 : Int) = Int.ofNat 0 from rfl]
   by_cases hT : NearI gap n n' f g i
   ·rw [m1 hT]
    exact ⟨true,rfl,fun _ => Ex.here h hT,fun _ => rfl⟩
   ·rw [m2 hT,Ex.step hT]
    exact ih (i + 1) (by omega) (by omega)
  ·rw [bif_f (decide_eq_false h)]
   exact ⟨false,rfl,fun hh => (by cases hh),fun hh => absurd hh (Ex.none h)⟩
def NearC (gap : Int) (n n' : Nat) (f g : Nat → Nat → CV) : Prop := ∃ i,i < n ∧ ∃ k,k < n' ∧ Near (pt f i) (pt g k) (pt g (nx n' k)) gap
theorem near59 (n n' : Nat) (f g : Nat → Nat → CV) (gap : Int) (hg : 0 ≤ gap) (hg' : gap ≤ 1000) (V : Valid n f) (W : Valid n' g) : ∃ r,F59 100 n f n' g gap = some r ∧ (r = true ↔ NearC gap n n' f g):=by
 have := V.small
 unfold F59
 obtain ⟨r,h1,h2⟩ := near59_3 n n' f g gap hg hg' V.small W.small V.big W.big V.near W.near 100 0 (by omega) (by omega)
 refine ⟨r,h1,h2.trans (Ex.zero.trans ?_)⟩
 simp only [NearI,Ex.zero,NearC]
theorem close_iff {gap : Int} {n n' : Nat} {f g : Nat → Nat → CV} (V : Valid n f) (W : Valid n' g) : CloseC gap n n' f g ↔ Touch n (pt f) n' (pt g) ∨ NearC gap n n' f g ∨ NearC gap n' n g f:=by
 constructor
 ·rintro ⟨i,hi,k,hk,h | h | h | h | h⟩
  ·exact .inl ⟨i,k,hi,hk,h⟩
  ·exact .inr (.inl ⟨i,hi,k,hk,h⟩)
  ·exact .inr (.inl ⟨nx n i,nx_lt V.big,k,hk,h⟩)
  ·exact .inr (.inr ⟨k,hk,i,hi,h⟩)
  ·exact .inr (.inr ⟨nx n' k,nx_lt W.big,i,hi,h⟩)
 ·rintro (⟨i,k,hi,hk,h⟩ | ⟨i,hi,k,hk,h⟩ | ⟨k,hk,i,hi,h⟩)
  ·exact ⟨i,hi,k,hk,.inl h⟩
  ·exact ⟨i,hi,k,hk,.inr (.inl h)⟩
  ·exact ⟨i,hi,k,hk,.inr (.inr (.inr (.inl h)))⟩
theorem cont44 {n1 : Nat} {f1 : Nat → Nat → CV} {n2 : Nat} {f2 : Nat → Nat → CV} (h : n2 ≤ 8) : F44 100 n1 f1 n2 f2 = some (1 + n2,cf n1 f1 f2):=by
 unfold F44
 rw [bif_t (by rw [Nat.ble_eq];omega)]
 rfl
theorem clear28_2 {ρ : Type} (M N i : Nat) (F G : Nat → Nat → CV) (gap : Int) (hg : 0 ≤ gap) (hg' : gap ≤ 1000) (hi : i < M) (hN : N ≤ 9) (hV : Valid (cl F i) (ce F i)) (hW : ∀ j,j < N → Valid (cl G j) (ce G j)) (a1 a3 b1 b3 : Nat) (a2 a4 b2 b4 : Nat → Nat → CV) (k0 k1 : Option ρ) : ∀ (m k : Nat),N < m + k → k ≤ N →
  (Ex N (fun k => CloseC gap (cl F i) (cl G k) (ce F i) (ce G k)) k → L28v2 100 gap M F N G (Int.ofNat i) a1 a2 a3 a4 b1 b2 b3 b4 m (Int.ofNat k) k0 k1 = k0) ∧
  (¬ Ex N (fun k => CloseC gap (cl F i) (cl G k) (ce F i) (ce G k)) k → L28v2 100 gap M F N G (Int.ofNat i) a1 a2 a3 a4 b1 b2 b3 b4 m (Int.ofNat k) k0 k1 = k1):=by
 intro m
 induction m with
 | zero => intro k h1 h2;omega
 | succ m ih =>
  intro k h1 h2
  unfold L28v2
  rw [lt_nat,inb_nat,toNat_nat,inb_nat,toNat_nat]
  by_cases h : k < N
  ·obtain ⟨r,hr,hr'⟩ := touch39 (cl F i) (cl G k) (ce F i) (ce G k) hV (hW k h)
   obtain ⟨s,hs,hs'⟩ := near59 (cl F i) (cl G k) (ce F i) (ce G k) gap hg hg' hV (hW k h)
   obtain ⟨t,ht,ht'⟩ := near59 (cl G k) (cl F i) (ce G k) (ce F i) gap hg hg' (hW k h) hV
   have hc := close_iff (gap := gap) hV (hW k h)
   rw [bif_t (decide_eq_true h),bif_t (decide_eq_true hi),bif_t (decide_eq_true h),hr,ob_some,bif_t (decide_eq_true hi),bif_t (decide_eq_true h),hs,ob_some,bif_t (decide_eq_true h),bif_t (decide_eq_true hi),ht,ob_some,w64_succ (by omega)]
   by_cases hM : CloseC gap (cl F i) (cl G k) (ce F i) (ce G k)
   ·refine ⟨fun _ => ?_,fun hh => absurd (Ex.here (P:=fun k => CloseC gap (cl F i) (cl G k) (ce F i) (ce G k)) h hM) hh⟩
    have ho := hc.1 hM
    rw [← hr',← hs',← ht'] at ho
    cases r <;> cases s <;> cases t <;> first | rfl | (exfalso;revert ho;simp)
   ·rw [Ex.step (P:=fun k => CloseC gap (cl F i) (cl G k) (ce F i) (ce G k)) hM]
    have ho := mt hc.2 hM
    rw [← hr',← hs',← ht'] at ho
    obtain ⟨i1,i2⟩ := ih (k + 1) (by omega) (by omega)
    have key : ∀ X : Option ρ,(bif r == false then (bif s == false then (bif t then k0 else X) else k0) else k0) = X:=by
     intro X
     cases r <;> cases s <;> cases t <;> first | rfl | (exfalso;revert ho;simp)
    rw [key]
    exact ⟨i1,i2⟩
  ·rw [bif_f (decide_eq_false h)]
   exact ⟨fun hh => absurd hh (Ex.none h),fun _ => rfl⟩
theorem clear28_3 (M N : Nat) (F G : Nat → Nat → CV) (gap : Int) (hg : 0 ≤ gap) (hg' : gap ≤ 1000) (hM : M ≤ 9) (hN : N ≤ 9) (hV : ∀ j,j < M → Valid (cl F j) (ce F j)) (hW : ∀ j,j < N → Valid (cl G j) (ce G j)) (a1 a3 b1 b3 : Nat) (a2 a4 b2 b4 : Nat → Nat → CV) : ∀ (m i : Nat),M < m + i → i ≤ M →
  ∃ r,L28v3 100 gap M F N G a1 a2 a3 a4 b1 b2 b3 b4 m (Int.ofNat i) (some false) (some true) = some r ∧ (r = false ↔ Ex M (CloseS gap N F G) i):=by
 intro m
 induction m with
 | zero => intro i h1 h2;omega
 | succ m ih =>
  intro i h1 h2
  unfold L28v3
  rw [lt_nat]
  by_cases h : i < M
  ·obtain ⟨p1,p2⟩ := clear28_2 M N i F G gap hg hg' h hN (hV i h) hW a1 a3 b1 b3 a2 a4 b2 b4 (some false) (L28v3 100 gap M F N G a1 a2 a3 a4 b1 b2 b3 b4 m (Int.ofNat (i + 1)) (some false) (some true)) 100 0 (by omega) (by omega)
   rw [bif_t (decide_eq_true h),w64_succ (by omega),show (0 : Int) = Int.ofNat 0 from rfl]
   by_cases hT : CloseS gap N F G i
   ·exact ⟨false,p1 hT,fun _ => Ex.here h hT,fun _ => rfl⟩
   ·obtain ⟨r,hr,hr'⟩ := ih (i + 1) (by omega) (by omega)
    refine ⟨r,(p2 hT).trans hr,?_⟩
    rw [Ex.step hT];exact hr'
  ·rw [bif_f (decide_eq_false h)]
   exact ⟨true,rfl,fun hh => (by cases hh),fun hh => absurd hh (Ex.none h)⟩
theorem clear_eq (n1 : Nat) (f1 : Nat → Nat → CV) (n2 : Nat) (f2 : Nat → Nat → CV) (m1 : Nat) (g1 : Nat → Nat → CV) (m2 : Nat) (g2 : Nat → Nat → CV) (gap : Int) : ∃ r,F27 100 n1 f1 n2 f2 m1 g1 m2 g2 gap = some r ∧ F28 100 n1 f1 n2 f2 m1 g1 m2 g2 gap = some r:=by
 unfold F27 F28
 obtain ⟨c,c1,c2,c3⟩ := shape_law n1 n2 f1 f2
 obtain ⟨d,d1,d2,d3⟩ := shape_law m1 m2 g1 g2
 rw [c1,c2,d1,d2]
 simp only [ob_some]
 by_cases hc : c = 0
 ·by_cases hd : d = 0
  ·have S := c3.1 hc
   have T := d3.1 hd
   subst hc
   subst hd
   have z0 : ((0 : Int) != 0) = false := rfl
   have tf0 : (true == false) = false := rfl
   simp only [z0,beq_self_eq_true,cond_true,cond_false]
   by_cases ha : gap < 0
   ·simp only [decide_eq_true ha,tf0,cond_false]
    exact ⟨_,rfl,rfl⟩
   ·by_cases hb : gap > 1000
    ·simp only [decide_eq_false ha,decide_eq_true hb,tf0,beq_self_eq_true,cond_true,cond_false]
     exact ⟨_,rfl,rfl⟩
    ·obtain ⟨z,z1,z2⟩ := place47_eq S (CV.int (g1 0 0)) (CV.int (g1 0 1))
     obtain ⟨y,y1,y2⟩ := place47_eq T (CV.int (f1 0 0)) (CV.int (f1 0 1))
     have vb := S.outer.big
     have wb := T.outer.big
     have sf := S.few
     have tf := T.few
     have i1 : inb 0 n1 = true := inb_true (by omega) (by omega)
     have i2 : inb 0 m1 = true := inb_true (by omega) (by omega)
     simp only [decide_eq_false ha,decide_eq_false hb,beq_self_eq_true,cond_true,cond_false,i1,i2,z1,z2,y1,y2,cont42 S.few,cont44 S.few,cont44 T.few]
     simp only [ob_some]
     by_cases hz : z ≥ 0
     ·have hz' : (decide (z ≥ 0) == false) = false:=by rw [decide_eq_true hz];rfl
      simp only [hz',cond_false]
      exact ⟨_,rfl,rfl⟩
     ·have hz' : (decide (z ≥ 0) == false) = true:=by rw [decide_eq_false hz];rfl
      simp only [hz',cond_true]
      by_cases hy : y ≥ 0
      ·simp only [decide_eq_true hy,cond_true]
       exact ⟨_,rfl,rfl⟩
      ·simp only [decide_eq_false hy,cond_false]
       rw [show (0 : Int) = Int.ofNat 0 from rfl]
       obtain ⟨r,r1,r2⟩ := clear27_3 (1 + n2) (cf n1 f1 f2) n1 n2 m1 m2 f1 f2 g1 g2 gap (by omega) (by omega) (by omega) (fun j hj => cf_valid S hj) T 100 0 (by omega) (by omega)
       obtain ⟨s,s1,s2⟩ := clear28_3 (1 + n2) (1 + m2) (cf n1 f1 f2) (cf m1 g1 g2) gap (by omega) (by omega) (by omega) (by omega) (fun j hj => cf_valid S hj) (fun j hj => cf_valid T hj) n1 n2 m1 m2 f1 f2 g1 g2 100 0 (by omega) (by omega)
       refine ⟨r,r1,s1.trans ?_⟩
       have e : (s = false ↔ r = false) := s2.trans r2.symm
       cases r <;> cases s <;> simp at e <;> rfl
  ·have e1 : (d != 0) = true:=by simpa using hd
   rw [e1]
   refine ⟨false,?_,?_⟩
   ·cases decide (gap < 0) <;> cases decide (gap > 1000) <;> cases (c != 0) <;> rfl
   ·cases (c != 0) <;> rfl
 ·have e1 : (c != 0) = true:=by simpa using hc
  rw [e1]
  refine ⟨false,?_,rfl⟩
  cases decide (gap < 0) <;> cases decide (gap > 1000) <;> rfl
end Go.Eng.R13
/-
 The area of a valid shape.
-/
set_option linter.all false
namespace Go.Eng.R13
open Go Go.RowKit Go.Eng Geo
def harea (f2 : Nat → Nat → CV) (j : Nat) : Int := area (CV.len (f2 j 0)) (pt (CV.el (f2 j 0)))
theorem area_bd {n : Nat} {f : Nat → Nat → CV} (V : Valid n f) : -68719476736 ≤ area n (pt f) ∧ area n (pt f) ≤ 68719476736:=by
 have h := asum_bd V.big V.near n (Nat.le_refl n)
 have hs := V.small
 have e : area n (pt f) = sm n (aterm n f) := rfl
 rw [e]
 omega
theorem sm_bd {f : Nat → Int} {B : Int} (n : Nat) (h : ∀ i,i < n → -B ≤ f i ∧ f i ≤ B) : -(B * (n : Int)) ≤ sm n f ∧ sm n f ≤ B * (n : Int):=by
 induction n with
 | zero => simp [sm]
 | succ n ih =>
  have h1 := ih (fun i hi => h i (by omega))
  have h2 := h n (by omega)
  rw [sm]
  have e : B * ((n + 1 : Nat) : Int) = B * (n : Int) + B:=by rw [Int.natCast_succ];grind
  rw [e]
  omega
def cfh (n1 : Nat) (f1 f2 : Nat → Nat → CV) : Nat → Nat → CV := joinF 1 (rowsF 1 [(.ro false (.pr (.int .i64) (.pr (.int .i64) .nil)) n1 f1)]) f2
theorem cfh_succ (n1 : Nat) (f1 f2 : Nat → Nat → CV) (j : Nat) : cfh n1 f1 f2 (j + 1) 0 = f2 j 0:=by
 unfold cfh
 rw [jn _ _ _ _ _ (by omega)]
 rfl
theorem cfh_valid {n1 n2 : Nat} {f1 f2 : Nat → Nat → CV} (S : VShape n1 f1 n2 f2) {j : Nat} (h : j < 1 + n2) : Valid (CV.len (cfh n1 f1 f2 j 0)) (CV.el (cfh n1 f1 f2 j 0)):=by
 cases j with
 | zero => exact S.outer
 | succ j => rw [cfh_succ];exact (S.hole j (by omega)).valid
theorem sums18 {ρ : Type} (N a b : Nat) (F c d : Nat → Nat → CV) (hN : N ≤ 9) (hV : ∀ j,j < N → Valid (CV.len (F j 0)) (CV.el (F j 0))) (k : Int → Option ρ) : ∀ (m i : Nat),N < m + i → i ≤ N → L18v1 100 N F (Int.ofNat N) a c b d m (sm i (harea F)) (Int.ofNat i) k = k (sm N (harea F)):=by
 intro m
 induction m with
 | zero => intro i h1 h2;omega
 | succ m ih =>
  intro i h1 h2
  unfold L18v1
  rw [lt_nat,inb_nat,toNat_nat]
  by_cases h : i < N
  ·obtain ⟨x,hx,_,hx'⟩ := area_law (CV.len (F i 0)) (CV.el (F i 0))
   have hb := sm_bd (f := harea F) (B := 68719476736) (i + 1) (fun j hj => area_bd (hV j (by omega)))
   rw [bif_t (decide_eq_true h),bif_t (decide_eq_true h),hx,ob_some,hx' (hV i h),w64_succ (by omega)]
   have e : sm i (harea F) + area (CV.len (F i 0)) (pt (CV.el (F i 0))) = sm (i + 1) (harea F) := rfl
   rw [e,w64_of (by omega) (by omega)]
   exact ih (i + 1) (by omega) (by omega)
  ·rw [bif_f (decide_eq_false h)]
   have : i = N:=by omega
   rw [this]
theorem area18 {n1 n2 : Nat} {f1 f2 : Nat → Nat → CV} (S : VShape n1 f1 n2 f2) : F18 100 n1 f1 n2 f2 = some (area n1 (pt f1) + sm n2 (harea f2)):=by
 have few := S.few
 unfold F18
 obtain ⟨c,h1,_,h3⟩ := shape_law n1 n2 f1 f2
 have hc := h3.2 S
 subst hc
 have c42 : F42 100 n1 f1 n2 f2 = some (1 + n2,cfh n1 f1 f2):=by
  unfold F42
  rw [bif_t (by rw [Nat.ble_eq];omega)]
  rfl
 rw [h1,ob_some,bif_f (by simp),c42,ob_some]
 refine (sums18 (1 + n2) n1 n2 (cfh n1 f1 f2) f1 f2 (by omega) (fun j hj => cfh_valid S hj) (fun x => some x) 100 0 (by omega) (by omega)).trans ?_
 congr 1
 have e := sm_shift n2 (harea (cfh n1 f1 f2))
 have e2 : sm n2 (fun i => harea (cfh n1 f1 f2) (i + 1)) = sm n2 (harea f2) := sm_congr fun i hi => by unfold harea;rw [cfh_succ]
 have e3 : sm (1 + n2) (harea (cfh n1 f1 f2)) = sm n2 (harea (cfh n1 f1 f2)) + harea (cfh n1 f1 f2) n2:=by rw [Nat.add_comm];rfl
 have e4 : harea (cfh n1 f1 f2) 0 = area n1 (pt f1) := rfl
 rw [e3,← e,e2,e4]
 omega
end Go.Eng.R13
/-
 Contours and shapes that are turned,mirrored and shifted: the same answers.
-/
set_option linter.all false
namespace Go.Eng.R13
open Go Go.RowKit Go.Eng Geo
def Turned (T : Pt → Pt) (b : Bool) (n : Nat) (f g : Nat → Nat → CV) : Prop := ∀ j,j < n → pt g j = T (pt f (bif b then n - 1 - j else j))
def Fit (T : Pt → Pt) (b : Bool) : Prop := Rigid (bif b then -1 else 1) T
theorem Turned.rvd {T : Pt → Pt} {n : Nat} {f g : Nat → Nat → CV} (h : Turned T true n f g) : ∀ j,j < n → pt g j = rv n (fun i => T (pt f i)) j:=fun j hj => h j hj
theorem Turned.fwd {T : Pt → Pt} {n : Nat} {f g : Nat → Nat → CV} (h : Turned T false n f g) : ∀ j,j < n → pt g j = (fun i => T (pt f i)) j:=fun j hj => h j hj
theorem t_simple {T : Pt → Pt} {b : Bool} {n : Nat} {f g : Nat → Nat → CV} (R : Fit T b) (h : Turned T b n f g) : Simple n (pt g) ↔ Simple n (pt f):=by
 cases b with
 | true => exact ⟨fun S => R.simple.1 (rv_simple_iff.1 (simple_congr h.rvd S)),fun S => simple_congr (fun j hj => (h.rvd j hj).symm) (rv_simple (R.simple.2 S))⟩
 | false => exact ⟨fun S => R.simple.1 (simple_congr h.fwd S),fun S => simple_congr (fun j hj => (h.fwd j hj).symm) (R.simple.2 S)⟩
theorem t_area {T : Pt → Pt} {b : Bool} {n : Nat} {f g : Nat → Nat → CV} (h0 : 0 < n) (R : Fit T b) (h : Turned T b n f g) : area n (pt g) = area n (pt f):=by
 cases b with
 | true =>
  have e : area n (fun i => T (pt f i)) = (-1) * area n (pt f) := R.area n (pt f)
  rw [area_congr h0 h.rvd,rv_area,e];omega
 | false =>
  have e : area n (fun i => T (pt f i)) = 1 * area n (pt f) := R.area n (pt f)
  rw [area_congr h0 h.fwd,e];omega
theorem t_onK {T : Pt → Pt} {b : Bool} {n : Nat} {f g : Nat → Nat → CV} (h0 : 0 < n) (R : Fit T b) (h : Turned T b n f g) (q : Pt) : OnK n (pt g) (T q) ↔ OnK n (pt f) q:=by
 cases b with
 | true => rw [onK_congr h0 h.rvd,rv_onK];exact R.onK n (pt f) q
 | false => rw [onK_congr h0 h.fwd];exact R.onK n (pt f) q
theorem t_par {T : Pt → Pt} {b : Bool} {n : Nat} {f g : Nat → Nat → CV} (h0 : 0 < n) (R : Fit T b) (h : Turned T b n f g) {q : Pt} (hq : ¬ OnK n (pt f) q) : par n (pt g) (T q) = par n (pt f) q:=by
 have h1 : ¬ OnK n (fun i => T (pt f i)) (T q):=fun hh => hq ((R.onK n (pt f) q).1 hh)
 cases b with
 | true => rw [par_congr h0 h.rvd,rv_par h1];exact R.par n (pt f) q hq
 | false => rw [par_congr h0 h.fwd];exact R.par n (pt f) q hq
theorem t_in {T : Pt → Pt} {b : Bool} {n : Nat} {f g : Nat → Nat → CV} (h0 : 0 < n) (R : Fit T b) (h : Turned T b n f g) (q : Pt) : InC n g (T q) ↔ InC n f q:=by
 unfold InC
 rw [onK_C,onK_C,t_onK h0 R h]
 exact ⟨fun ⟨a,c⟩ => ⟨a,by rw [← t_par h0 R h a];exact c⟩,fun ⟨a,c⟩ => ⟨a,by rw [t_par h0 R h a];exact c⟩⟩
theorem t_out {T : Pt → Pt} {b : Bool} {n : Nat} {f g : Nat → Nat → CV} (h0 : 0 < n) (R : Fit T b) (h : Turned T b n f g) (q : Pt) : OutC n g (T q) ↔ OutC n f q:=by
 unfold OutC
 rw [onK_C,onK_C,t_onK h0 R h]
 exact ⟨fun ⟨a,c⟩ => ⟨a,by rw [← t_par h0 R h a];exact c⟩,fun ⟨a,c⟩ => ⟨a,by rw [t_par h0 R h a];exact c⟩⟩
theorem t_valid {T : Pt → Pt} {b : Bool} {n : Nat} {f g : Nat → Nat → CV} (R : Fit T b) (h : Turned T b n f g) (hf : AllNr n f) (hg : AllNr n g) : Valid n g ↔ Valid n f :=
 ⟨fun V => ⟨V.big,V.small,hf,(t_simple R h).1 V.simple⟩,fun V => ⟨V.big,V.small,hg,(t_simple R h).2 V.simple⟩⟩
theorem t_corner {T : Pt → Pt} {b : Bool} {n : Nat} {f g : Nat → Nat → CV} (h : Turned T b n f g) : (∀ j,j < n → ∃ i,i < n ∧ pt g j = T (pt f i)) ∧ (∀ i,i < n → ∃ j,j < n ∧ pt g j = T (pt f i)):=by
 constructor
 ·intro j hj
  refine ⟨bif b then n - 1 - j else j,?_,h j hj⟩
  cases b <;> simp <;> omega
 ·intro i hi
  refine ⟨bif b then n - 1 - i else i,?_,?_⟩
  ·cases b <;> simp <;> omega
  ·rw [h _ (by cases b <;> simp <;> omega)]
   congr 2
   cases b
   ·rfl
   ·simp;omega
theorem t_edge {T : Pt → Pt} {b : Bool} {n : Nat} {f g : Nat → Nat → CV} (h : Turned T b n f g) : ∀ j,j < n → ∃ i,i < n ∧ ((pt g j = T (pt f i) ∧ pt g (nx n j) = T (pt f (nx n i))) ∨ (pt g j = T (pt f (nx n i)) ∧ pt g (nx n j) = T (pt f i))):=by
 intro j hj
 have hx : nx n j < n := nx_lt' (by omega)
 cases b with
 | false => exact ⟨j,hj,.inl ⟨h j hj,h _ hx⟩⟩
 | true =>
  obtain ⟨e1,e2⟩ := rv_edge (p:=fun i => T (pt f i)) hj
  exact ⟨ej n j,ej_lt (by omega),.inr ⟨(h.rvd j hj).trans e1,(h.rvd _ hx).trans e2⟩⟩
theorem t_edge' {T : Pt → Pt} {b : Bool} {n : Nat} {f g : Nat → Nat → CV} (h : Turned T b n f g) : ∀ i,i < n → ∃ j,j < n ∧ ((pt g j = T (pt f i) ∧ pt g (nx n j) = T (pt f (nx n i))) ∨ (pt g j = T (pt f (nx n i)) ∧ pt g (nx n j) = T (pt f i))):=by
 intro i hi
 cases b with
 | false => exact ⟨i,hi,.inl ⟨h i hi,h _ (nx_lt' (by omega))⟩⟩
 | true =>
  have hl : ej n i < n := ej_lt (by omega)
  obtain ⟨e1,e2⟩ := rv_edge (p:=fun i => T (pt f i)) hl
  rw [ej_ej hi] at e1 e2
  exact ⟨ej n i,hl,.inr ⟨(h.rvd _ hl).trans e1,(h.rvd _ (nx_lt' (by omega))).trans e2⟩⟩
theorem meet_any {T : Pt → Pt} {e : Int} (R : Rigid e T) {a b c d x y z w : Pt} (h1 : (x = T a ∧ y = T b) ∨ (x = T b ∧ y = T a)) (h2 : (z = T c ∧ w = T d) ∨ (z = T d ∧ w = T c)) : Meet x y z w ↔ Meet a b c d:=by
 rw [← R.meet a b c d]
 rcases h1 with ⟨rfl,rfl⟩ | ⟨rfl,rfl⟩ <;> rcases h2 with ⟨rfl,rfl⟩ | ⟨rfl,rfl⟩
 ·exact Iff.rfl
 ·exact ⟨fun h => h.swap2,fun h => h.swap2⟩
 ·exact ⟨fun h => h.swap,fun h => h.swap⟩
 ·exact ⟨fun h => h.swap.swap2,fun h => h.swap.swap2⟩
theorem t_touch {T : Pt → Pt} {b : Bool} {n n' : Nat} {f g f' g' : Nat → Nat → CV} (R : Fit T b) (h : Turned T b n f g) (h' : Turned T b n' f' g') : Touch n (pt g) n' (pt g') ↔ Touch n (pt f) n' (pt f'):=by
 constructor
 ·rintro ⟨i,k,hi,hk,hm⟩
  obtain ⟨i',hi',e1⟩ := t_edge h i hi
  obtain ⟨k',hk',e2⟩ := t_edge h' k hk
  exact ⟨i',k',hi',hk',(meet_any R e1 e2).1 hm⟩
 ·rintro ⟨i,k,hi,hk,hm⟩
  obtain ⟨i',hi',e1⟩ := t_edge' h i hi
  obtain ⟨k',hk',e2⟩ := t_edge' h' k hk
  exact ⟨i',k',hi',hk',(meet_any R e1 e2).2 hm⟩
theorem code33 (n : Nat) (f : Nat → Nat → CV) (hA : AllNr n f) : ∃ c,F33 100 n f = some c ∧ ((n < 3 ∧ c = 3) ∨ (32 < n ∧ c = 4) ∨ (3 ≤ n ∧ n ≤ 32 ∧ Simple n (pt f) ∧ c = 0) ∨ (3 ≤ n ∧ n ≤ 32 ∧ ¬ Simple n (pt f) ∧ c = 17)):=by
 unfold F33
 by_cases h1 : n < 3
 ·rw [bif_t (by simp;omega)]
  exact ⟨3,rfl,.inl ⟨h1,rfl⟩⟩
 ·rw [bif_f (by simp;omega)]
  by_cases h2 : n ≤ 32
  ·rw [bif_f (by simp;omega)]
   obtain ⟨b,hb,hb'⟩ := far50 n f (by omega)
   have b0 := hb'.2 hA
   subst b0
   obtain ⟨r,hr,hr'⟩ := simple_law62 n f h2 (by omega) hA
   have e : SimpleP n (pt f) ↔ Simple n (pt f):=(simpleP_R (by omega)).trans (simpleR_iff (by omega))
   rw [hb,ob_some,bif_f rfl,hr,ob_some]
   cases r with
   | true =>
    have S := e.1 (hr'.1 rfl)
    have ha := area_simple S
    rw [bif_t (show ((!true) == false) = true from rfl),area_law63 n f h2 (by omega) hA,ob_some,bif_f (by simpa using ha)]
    exact ⟨0,rfl,.inr (.inr (.inl ⟨by omega,h2,S,rfl⟩))⟩
   | false =>
    rw [bif_f (show ((!false) == false) = false from rfl)]
    exact ⟨17,rfl,.inr (.inr (.inr ⟨by omega,h2,fun S => (by have h9 := hr'.2 (e.2 S);cases h9),rfl⟩))⟩
  ·rw [bif_t (by simp;omega)]
   exact ⟨4,rfl,.inr (.inl ⟨by omega,rfl⟩)⟩
theorem t33 {T : Pt → Pt} {b : Bool} {n : Nat} {f g : Nat → Nat → CV} (R : Fit T b) (h : Turned T b n f g) (hf : AllNr n f) (hg : AllNr n g) : F33 100 n g = F33 100 n f:=by
 obtain ⟨c,h1,h2⟩ := code33 n f hf
 obtain ⟨d,h3,h4⟩ := code33 n g hg
 rw [t_simple R h] at h4
 rw [h1,h3]
 congr 1
 rcases h2 with h2 | h2 | ⟨_,_,h2,_⟩ | ⟨_,_,h2,_⟩ <;> rcases h4 with h4 | h4 | ⟨_,_,h4,_⟩ | ⟨_,_,h4,_⟩ <;> first | omega | exact absurd h2 h4 | exact absurd h4 h2
theorem t34 {T : Pt → Pt} {b : Bool} {n : Nat} {f g : Nat → Nat → CV} (R : Fit T b) (h : Turned T b n f g) (V : Valid n f) (W : Valid n g) : F34 100 n g = F34 100 n f:=by
 obtain ⟨c,h1,_,h2⟩ := area_law n f
 obtain ⟨d,h3,_,h4⟩ := area_law n g
 have hb := V.big
 rw [h1,h3,h2 V,h4 W,t_area (by omega) R h]
theorem bool_eq {r s : Bool} {P Q : Prop} (h1 : r = true ↔ P) (h2 : s = true ↔ Q) (h : P ↔ Q) : r = s:=by
 have := h1.trans (h.trans h2.symm)
 cases r <;> cases s <;> simp at this <;> rfl
theorem t35 {T : Pt → Pt} {b : Bool} {n n' : Nat} {f g f' g' : Nat → Nat → CV} (R : Fit T b) (h : Turned T b n f g) (h' : Turned T b n' f' g') (V : Valid n f) (W : Valid n g) (V' : Valid n' f') (W' : Valid n' g') : F35 100 n g n' g' = F35 100 n f n' f':=by
 obtain ⟨r,h1,h2⟩ := within35 n n' g g' W W'
 obtain ⟨s,h3,h4⟩ := within35 n n' f f' V V'
 rw [h1,h3]
 congr 1
 refine bool_eq h2 h4 ?_
 rw [t_touch R h h']
 have hb := V'.big
 refine and_congr_right fun _ => ⟨fun k i hi => ?_,fun k i hi => ?_⟩
 ·obtain ⟨j,hj,e⟩:=(t_corner h).2 i hi
  have := k j hj
  rw [e,t_in (by omega) R h'] at this
  exact this
 ·obtain ⟨j,hj,e⟩:=(t_corner h).1 i hi
  rw [e,t_in (by omega) R h']
  exact k j hj
theorem out_all {n n' : Nat} {f g : Nat → Nat → CV} (h0 : 3 ≤ n) (h : ¬ Touch n (pt f) n' (pt g)) : OutC n' g (pt f 0) ↔ ∀ i,i < n → OutC n' g (pt f i):=by
 constructor
 ·intro k i hi
  obtain ⟨a,b⟩ := all_corners h0 h i hi
  exact ⟨a,by rw [b];exact k.2⟩
 ·intro k
  exact k 0 (by omega)
theorem t_outs {T : Pt → Pt} {b : Bool} {n n' : Nat} {f g f' g' : Nat → Nat → CV} (h0 : 0 < n') (R : Fit T b) (h : Turned T b n f g) (h' : Turned T b n' f' g') : (∀ i,i < n → OutC n' g' (pt g i)) ↔ ∀ i,i < n → OutC n' f' (pt f i):=by
 refine ⟨fun k i hi => ?_,fun k i hi => ?_⟩
 ·obtain ⟨j,hj,e⟩:=(t_corner h).2 i hi
  have := k j hj
  rw [e,t_out h0 R h'] at this
  exact this
 ·obtain ⟨j,hj,e⟩:=(t_corner h).1 i hi
  rw [e,t_out h0 R h']
  exact k j hj
theorem t36 {T : Pt → Pt} {b : Bool} {n n' : Nat} {f g f' g' : Nat → Nat → CV} (R : Fit T b) (h : Turned T b n f g) (h' : Turned T b n' f' g') (V : Valid n f) (W : Valid n g) (V' : Valid n' f') (W' : Valid n' g') : F36 100 n g n' g' = F36 100 n f n' f':=by
 obtain ⟨r,h1,h2⟩ := apart36 n n' g g' W W'
 obtain ⟨s,h3,h4⟩ := apart36 n n' f f' V V'
 have hb := V.big
 have hb' := V'.big
 rw [h1,h3]
 congr 1
 refine bool_eq h2 h4 ?_
 rw [t_touch R h h']
 refine and_congr_right fun k => ?_
 have k' : ¬ Touch n (pt g) n' (pt g'):=by rw [t_touch R h h'];exact k
 rw [out_all hb k,out_all hb k',out_all hb' (fun hh => k hh.symm),out_all hb' (fun hh => k' hh.symm),t_outs (by omega) R h h',t_outs (by omega) R h' h]
end Go.Eng.R13
/-
 RegionSums: the plain law.
-/
set_option linter.all false
namespace Go.Eng.R13
open Go Go.RowKit Go.Eng Geo
theorem f34v38 (n : Nat) (f : Nat → Nat → CV) : F34 100 n f = F38 100 n f:=by
 obtain ⟨c,h1,h2,_⟩ := area_law n f
 rw [h1,h2]
theorem f13v14 (n1 : Nat) (f1 : Nat → Nat → CV) (n2 : Nat) (f2 : Nat → Nat → CV) : F13 100 n1 f1 n2 f2 = F14 100 n1 f1 n2 f2:=by
 obtain ⟨c,h1,h2,_⟩ := shape_law n1 n2 f1 f2
 rw [h1,h2]
theorem f42v44 (n1 : Nat) (f1 : Nat → Nat → CV) (n2 : Nat) (f2 : Nat → Nat → CV) : F42 100 n1 f1 n2 f2 = F44 100 n1 f1 n2 f2:=by
 unfold F42 F44;rfl
theorem l18v19 {ρ : Type} (N a b : Nat) (F c d : Nat → Nat → CV) (k : Int → Option ρ) : ∀ (m : Nat) (s i : Int),L18v1 100 N F (Int.ofNat N) a c b d m s i k = L19v1 100 N F a c b d m s i k:=by
 intro m
 induction m with
 | zero => intro s i;rfl
 | succ m ih =>
  intro s i
  unfold L18v1 L19v1
  rw [f34v38]
  simp only [ih]
theorem f18v19 (n1 : Nat) (f1 : Nat → Nat → CV) (n2 : Nat) (f2 : Nat → Nat → CV) : F18 100 n1 f1 n2 f2 = F19 100 n1 f1 n2 f2:=by
 unfold F18 F19
 rw [f13v14,f42v44]
 simp only [l18v19]
theorem some18 {ρ : Type} (N a b : Nat) (F c d : Nat → Nat → CV) (hN : N ≤ 13) (k : Int → Option ρ) : ∀ (m i : Nat) (s : Int),N < m + i → i ≤ N → ∃ x,L18v1 100 N F (Int.ofNat N) a c b d m s (Int.ofNat i) k = k x:=by
 intro m
 induction m with
 | zero => intro i s h1 h2;omega
 | succ m ih =>
  intro i s h1 h2
  unfold L18v1
  rw [lt_nat,inb_nat,toNat_nat]
  by_cases h : i < N
  ·obtain ⟨x,hx,_⟩ := area_law (CV.len (F i 0)) (CV.el (F i 0))
   rw [bif_t (decide_eq_true h),bif_t (decide_eq_true h),hx,ob_some,w64_succ (by omega)]
   exact ih (i + 1) _ (by omega) (by omega)
  ·rw [bif_f (decide_eq_false h)]
   exact ⟨s,rfl⟩
theorem f18_some (n1 : Nat) (f1 : Nat → Nat → CV) (n2 : Nat) (f2 : Nat → Nat → CV) (hn : n2 ≤ 12) : ∃ x,F18 100 n1 f1 n2 f2 = some x:=by
 unfold F18
 obtain ⟨c,h1,_,_⟩ := shape_law n1 n2 f1 f2
 rw [h1,ob_some]
 have c42 : F42 100 n1 f1 n2 f2 = some (1 + n2,joinF 1 (rowsF 1 [(.ro false (.pr (.int .i64) (.pr (.int .i64) .nil)) n1 f1)]) f2):=by
  unfold F42
  rw [bif_t (by rw [Nat.ble_eq];omega)]
 by_cases hc : c = 0
 ·rw [bif_f (by simpa using hc),c42,ob_some,show (0 : Int) = Int.ofNat 0 from rfl]
  obtain ⟨x,hx⟩ := some18 (1 + n2) n1 n2 (joinF 1 (rowsF 1 [(.ro false (.pr (.int .i64) (.pr (.int .i64) .nil)) n1 f1)]) f2) f1 f2 (by omega) (fun x26 => some x26) 100 0 (Int.ofNat 0) (by omega) (by omega)
  exact ⟨x,hx⟩
 ·rw [bif_t (by simpa using hc)]
  exact ⟨_,rfl⟩
theorem joinF_o (n : Nat) (f g : Nat → Nat → CV) (j c : Nat) (h : j < n) : joinF n f g j c = f j c:=by
 unfold joinF
 rw [bif_t (by simpa [Nat.blt_eq] using h)]
theorem joinF_n (n : Nat) (f g : Nat → Nat → CV) (j c : Nat) (h : n ≤ j) : joinF n f g j c = g (j - n) c:=by
 unfold joinF
 rw [bif_f]
 cases hq : Nat.blt j n with
 | false => rfl
 | true => simp [Nat.blt_eq] at hq;omega
def Col (f : Nat → Nat → CV) (c : Nat) (g : Nat → Nat → CV) (i : Nat) : Prop := ∀ j,j < i → CV.int (g j 0) = CV.int (f j c)
theorem Col.snoc {f g : Nat → Nat → CV} {c i : Nat} (h : Col f c g i) : Col f c (joinF i g (rowsF 1 [.i .i64 (CV.int (f i c))])) (i + 1):=by
 intro j hj
 by_cases e : j = i
 ·subst e
  rw [joinF_n _ _ _ _ _ (Nat.le_refl j),Nat.sub_self];rfl
 ·rw [joinF_o _ _ _ _ _ (by omega)]
  exact h j (by omega)
def Ext (z : Int) (g : Nat → Nat → CV) (i : Nat) (a b : Int) : Prop :=
 (a ≤ z ∧ z ≤ b ∧ ∀ j,j < i → a ≤ CV.int (g j 0) ∧ CV.int (g j 0) ≤ b) ∧ (a = z ∨ ∃ j,j < i ∧ CV.int (g j 0) = a) ∧ (b = z ∨ ∃ j,j < i ∧ CV.int (g j 0) = b)
end Go.Eng.R13
/-
 RegionTurns: the plain law.
-/
set_option linter.all false
namespace Go.Eng.R13
open Go Go.RowKit Go.Eng Geo
structure TShape (T : Pt → Pt) (b : Bool) (n1 : Nat) (f1 : Nat → Nat → CV) (n2 : Nat) (f2 g1 g2 : Nat → Nat → CV) : Prop where
 fit : Fit T b
 outer : Turned T b n1 f1 g1
 len : ∀ j,j < n2 → CV.len (g2 j 0) = CV.len (f2 j 0)
 hole : ∀ j,j < n2 → Turned T b (CV.len (f2 j 0)) (CV.el (f2 j 0)) (CV.el (g2 j 0))
 near : AllNr n1 f1
 near' : AllNr n1 g1
 hnear : ∀ j,j < n2 → AllNr (CV.len (f2 j 0)) (CV.el (f2 j 0))
 hnear' : ∀ j,j < n2 → AllNr (CV.len (f2 j 0)) (CV.el (g2 j 0))
theorem t13v2 {ρ : Type} {T : Pt → Pt} {b : Bool} {n1 n2 : Nat} {f1 f2 g1 g2 : Nat → Nat → CV} (h : TShape T b n1 f1 n2 f2 g1 g2) {i : Nat} (hi : i < n2) (hn : n2 ≤ 8) (V : ∀ j,j ≤ i → Valid (CV.len (f2 j 0)) (CV.el (f2 j 0))) (c1 c2 : Int) (k0 k1 : Option ρ) : ∀ (m j : Nat),i < m + j → j ≤ i →
  L13v2 100 (CV.len (f2 i 0)) (CV.el (g2 i 0)) n2 g2 c1 c2 i (Int.ofNat i) n1 g1 m (Int.ofNat j) k0 k1 = L13v2 100 (CV.len (f2 i 0)) (CV.el (f2 i 0)) n2 f2 c1 c2 i (Int.ofNat i) n1 f1 m (Int.ofNat j) k0 k1:=by
 intro m
 induction m with
 | zero => intro j h1 h2;omega
 | succ m ih =>
  intro j h1 h2
  unfold L13v2
  rw [lt_nat,inb_nat,toNat_nat]
  by_cases hj : j < i
  ·have Wi:=(t_valid h.fit (h.hole i hi) (h.hnear i hi) (h.hnear' i hi)).2 (V i (Nat.le_refl i))
   have Wj:=(t_valid h.fit (h.hole j (by omega)) (h.hnear j (by omega)) (h.hnear' j (by omega))).2 (V j h2)
   rw [bif_t (decide_eq_true hj),bif_t (decide_eq_true hj),bif_t (decide_eq_true hj),bif_t (decide_eq_true hj),w64_succ (by omega),ih (j + 1) (by omega) (by omega),h.len j (by omega),t36 h.fit (h.hole i hi) (h.hole j (by omega)) (V i (Nat.le_refl i)) Wi (V j h2) Wj]
  ·rw [bif_f (decide_eq_false hj),bif_f (decide_eq_false hj)]
theorem t13v3 {T : Pt → Pt} {b : Bool} {n1 n2 : Nat} {f1 f2 g1 g2 : Nat → Nat → CV} (h : TShape T b n1 f1 n2 f2 g1 g2) (hn : n2 ≤ 8) (V1 : Valid n1 f1) : ∀ (m i : Nat),n2 < m + i → i ≤ n2 → (∀ j,j < i → Valid (CV.len (f2 j 0)) (CV.el (f2 j 0))) →
  L13v3 100 n2 g2 (Int.ofNat n2) n1 g1 m (Int.ofNat i) (fun x => some x) (some 0) = L13v3 100 n2 f2 (Int.ofNat n2) n1 f1 m (Int.ofNat i) (fun x => some x) (some 0):=by
 intro m
 have W1:=(t_valid h.fit h.outer h.near h.near').2 V1
 induction m with
 | zero => intro i h1 h2;omega
 | succ m ih =>
  intro i h1 h2 hv
  unfold L13v3
  rw [lt_nat,inb_nat,toNat_nat]
  by_cases hi : i < n2
  ·rw [h.len i hi,t33 h.fit (h.hole i hi) (h.hnear i hi) (h.hnear' i hi)]
   obtain ⟨c,e1,_,e3⟩ := check_law (CV.len (f2 i 0)) (CV.el (f2 i 0))
   rw [bif_t (decide_eq_true hi),bif_t (decide_eq_true hi),bif_t (decide_eq_true hi),bif_t (decide_eq_true hi),e1,ob_some,ob_some]
   by_cases hc : c = 0
   ·have V := e3.1 hc
    have W:=(t_valid h.fit (h.hole i hi) (h.hnear i hi) (h.hnear' i hi)).2 V
    subst hc
    have hv' : ∀ j,j ≤ i → Valid (CV.len (f2 j 0)) (CV.el (f2 j 0)):=fun j hj => by
     by_cases e : j = i
     ·rw [e];exact V
     ·exact hv j (by omega)
    rw [t34 h.fit (h.hole i hi) V W,t35 h.fit (h.hole i hi) h.outer V W V1 W1,w64_succ (by omega),show (0 : Int) = Int.ofNat 0 from rfl]
    rw [Nat.sub_zero,t13v2 h hi hn hv' _ _ _ _ 100 0 (by omega) (by omega)]
    have e := ih (i + 1) (by omega) (by omega) (fun j hj => hv' j (by omega))
    rw [show (Int.ofNat 0 : Int) = 0 from rfl] at *
    rw [e]
   ·have hc' : (c != 0) = true:=by simpa using hc
    rw [bif_t hc',bif_t hc']
  ·rw [bif_f (decide_eq_false hi),bif_f (decide_eq_false hi)]
theorem t13 {T : Pt → Pt} {b : Bool} {n1 n2 : Nat} {f1 f2 g1 g2 : Nat → Nat → CV} (h : TShape T b n1 f1 n2 f2 g1 g2) : F13 100 n1 g1 n2 g2 = F13 100 n1 f1 n2 f2:=by
 unfold F13
 by_cases hn : n2 ≤ 8
 ·have d1 : decide (Int.ofNat n2 > 8) = false:=by simp;omega
  rw [bif_f d1,bif_f d1,t33 h.fit h.outer h.near h.near']
  obtain ⟨c,e1,_,e3⟩ := check_law n1 f1
  rw [e1,ob_some,ob_some]
  by_cases hc : c = 0
  ·have V := e3.1 hc
   have W:=(t_valid h.fit h.outer h.near h.near').2 V
   subst hc
   rw [t34 h.fit h.outer V W,show L13v3 100 n2 g2 (Int.ofNat n2) n1 g1 100 0 (fun x55 => some x55) (some 0) = L13v3 100 n2 f2 (Int.ofNat n2) n1 f1 100 0 (fun x55 => some x55) (some 0) from t13v3 h hn V 100 0 (by omega) (by omega) (fun j hj => by omega)]
  ·have hc' : (c != 0) = true:=by simpa using hc
   rw [bif_t hc',bif_t hc']
 ·have d1 : decide (Int.ofNat n2 > 8) = true:=by simp;omega
  rw [bif_t d1,bif_t d1]
theorem t18 {T : Pt → Pt} {b : Bool} {n1 n2 : Nat} {f1 f2 g1 g2 : Nat → Nat → CV} (h : TShape T b n1 f1 n2 f2 g1 g2) : ∃ a,F18 100 n1 g1 n2 g2 = some a ∧ F18 100 n1 f1 n2 f2 = some a:=by
 obtain ⟨c,c1,_,c3⟩ := shape_law n1 n2 f1 f2
 obtain ⟨d,d1,_,d3⟩ := shape_law n1 n2 g1 g2
 have hcd : d = c:=by
  have := t13 h
  rw [c1,d1] at this
  exact Option.some.inj this
 subst hcd
 by_cases hc : d = 0
 ·have S := c3.1 hc
  have U := d3.1 hc
  have hb := S.outer.big
  refine ⟨_,area18 U,?_⟩
  rw [area18 S,t_area (by omega) h.fit h.outer]
  congr 2
  refine sm_congr fun j hj => ?_
  unfold harea
  have hb:=(S.hole j hj).valid.big
  rw [h.len j hj,t_area (by omega) h.fit (h.hole j hj)]
 ·have hc' : (d != 0) = true:=by simpa using hc
  refine ⟨0,?_,?_⟩
  ·unfold F18;rw [d1,ob_some,bif_t hc']
  ·unfold F18;rw [c1,ob_some,bif_t hc']
theorem on_nr {z a b : Pt} (ha : nr a.1 a.2) (hb : nr b.1 b.2) (h : On z a b) : nr z.1 z.2:=by
 obtain ⟨_,h2,h3⟩ := h
 unfold btw at h2 h3
 unfold nr at *
 omega
theorem far_out {n : Nat} {f : Nat → Nat → CV} (h0 : 0 < n) (hA : AllNr n f) {z : Pt} (hz : ¬ nr z.1 z.2) : OutC n f z:=by
 have ho : ¬ OnK n (pt f) z:=fun ⟨j,hj,hh⟩ => hz (on_nr (hA j hj) (hA _ (nx_lt' h0)) hh)
 refine ⟨fun h => ho (onK_C.1 h),?_⟩
 by_cases h2 : 32768 < z.2
 ·exact par_out (.inl fun i hi => by have := hA i hi;unfold nr at this;show CV.int (f i 1) ≤ z.2;omega)
 ·by_cases h3 : z.2 < -32768
  ·exact par_out (.inr fun i hi => by have := hA i hi;unfold nr at this;show z.2 < CV.int (f i 1);omega)
  ·rw [← rigid_qt.par n (pt f) z ho]
   by_cases h4 : 32768 < z.1
   ·exact par_out (.inl fun i hi => by have := hA i hi;unfold nr at this;show CV.int (f i 0) ≤ z.1;omega)
   ·exact par_out (.inr fun i hi => by have := hA i hi;unfold nr at *;show z.1 < CV.int (f i 0);omega)
theorem t_where {T : Pt → Pt} {b : Bool} {n : Nat} {f g : Nat → Nat → CV} (R : Fit T b) (h : Turned T b n f g) (V : Valid n f) (hg : AllNr n g) {q : Pt} (hq : nr q.1 q.2) {w w' : Int} (hw : IsWhere n f q w) (hw' : IsWhere n g (T q) w') : w' = w:=by
 have W:=(t_valid R h V.near hg).2 V
 have hb := V.big
 have r1 := hw.range
 have r2 := hw'.range
 by_cases hz : nr (T q).1 (T q).2
 ·have a1:=(hw.one V hq).trans ((t_in (by omega) R h q).symm.trans (hw'.one W hz).symm)
  have a2:=(hw.out V hq).trans ((t_out (by omega) R h q).symm.trans (hw'.out W hz).symm)
  omega
 ·have e1 : w' = -1 := hw'.2 (fun hh => hz hh.2)
  have e2:=(hw.out V hq).2 ((t_out (by omega) R h q).1 (far_out (by omega) hg hz))
  omega
theorem t22 {T : Pt → Pt} {b : Bool} {n1 n2 : Nat} {f1 f2 g1 g2 : Nat → Nat → CV} (h : TShape T b n1 f1 n2 f2 g1 g2) {q : Pt} (hq : nr q.1 q.2) : ∃ z,F22 100 n1 g1 n2 g2 (T q).1 (T q).2 = some z ∧ F22 100 n1 f1 n2 f2 q.1 q.2 = some z:=by
 obtain ⟨c,c1,_,c3⟩ := shape_law n1 n2 f1 f2
 obtain ⟨d,d1,_,d3⟩ := shape_law n1 n2 g1 g2
 have hcd : d = c:=by
  have := t13 h
  rw [c1,d1] at this
  exact Option.some.inj this
 subst hcd
 by_cases hc : d = 0
 ·have S := c3.1 hc
  have U := d3.1 hc
  obtain ⟨z,z1,_,z2⟩ := place_full n1 f1 n2 f2 q.1 q.2
  obtain ⟨y,y1,_,y2⟩ := place_full n1 g1 n2 g2 (T q).1 (T q).2
  refine ⟨z,?_,z1⟩
  rw [y1]
  congr 1
  obtain ⟨w,W,hw,hW,w1,w2,w3⟩ := z2 S
  obtain ⟨v,Q,hv,hQ,v1,v2,v3⟩ := y2 U
  have ew : v = w := t_where h.fit h.outer S.outer h.near' hq hw hv
  have eW : ∀ j,j < n2 → Q j = W j:=fun j hj => by
   have hQj := hQ j
   rw [h.len j hj] at hQj
   exact t_where h.fit (h.hole j hj) (S.hole j hj).valid (h.hnear' j hj) hq (hW j) hQj
  rcases w3 with k | ⟨j,hj,k⟩
  ·rcases v3 with k' | ⟨j',hj',k'⟩
   ·omega
   ·have := w2 j' hj';have := eW j' hj';omega
  ·have a1 := v2 j hj
   have a2 := eW j hj
   rcases v3 with k' | ⟨j',hj',k'⟩
   ·omega
   ·have := w2 j' hj';have := eW j' hj';omega
 ·have hc' : (d != 0) = true:=by simpa using hc
  refine ⟨-1,?_,?_⟩
  ·unfold F22;rw [d1,ob_some,bif_t hc']
  ·unfold F22;rw [c1,ob_some,bif_t hc']
end Go.Eng.R13
/-
 RegionTurns: the plain law.
-/
set_option linter.all false
namespace Go.Eng.R13
open Go Go.RowKit Go.Eng Geo
def tmap (fl : Bool) (t : Nat) (tx ty : Int) (p : Pt) : Pt := tr (tx,ty) (qts t (bif fl then mi p else p))
theorem tmap_fit (fl : Bool) (t : Nat) (tx ty : Int) : Fit (tmap fl t tx ty) fl:=by
 cases fl with
 | true => exact ((rigid_tr (tx,ty)).comp ((rigid_qts t).comp rigid_mi) : Rigid (1 * (1 * -1)) _)
 | false => exact ((rigid_tr (tx,ty)).comp (rigid_qts t) : Rigid (1 * 1) _)
theorem rot_qts : ∀ (t : Nat) (x y : Int),nr x y → rot t x y = qts t (x,y) ∧ nr (qts t (x,y)).1 (qts t (x,y)).2
 | 0,x,y,h => ⟨rfl,h⟩
 | t + 1,x,y,h => by
  have h' : nr (-y) x:=by unfold nr at *;omega
  have e : w64 (0 - y) = -y:=by rw [w64_of] <;> (unfold nr at h;omega)
  have := rot_qts t (-y) x h'
  show rot t (w64 (0 - y)) x = qts t (qt (x,y)) ∧ _
  rw [e]
  exact this
theorem tp_map {fl : Bool} {t : Nat} {tx ty x y : Int} (h : nr x y) (hf : farB tx ty = false) : tp fl t tx ty x y = tmap fl t tx ty (x,y):=by
 have hb : ¬ (tx < -1099511627776 ∨ tx > 1099511627776 ∨ ty < -1099511627776 ∨ ty > 1099511627776):=by
  unfold farB at hf;exact of_decide_eq_false hf
 have e : ∀ X Y,nr X Y → (w64 ((rot t X Y).1 + tx),w64 ((rot t X Y).2 + ty)) = tr (tx,ty) (qts t (X,Y)):=by
  intro X Y hX
  obtain ⟨h1,h2⟩ := rot_qts t X Y hX
  rw [h1]
  unfold nr at h2
  rw [w64_of (by omega) (by omega),w64_of (by omega) (by omega)]
  rfl
 unfold tp tmap
 cases fl with
 | true =>
  have e1 : w64 (0 - x) = -x:=by rw [w64_of] <;> (unfold nr at h;omega)
  simp only [cond_true,e1]
  exact e (-x) y (by unfold nr at *;omega)
 | false => exact e x y h
theorem are_pt {P : Nat → Int × Int} {g : Nat → Nat → CV} {n : Nat} (h : Are P g n) : ∀ j,j < n → pt g j = P j:=by
 intro j hj
 obtain ⟨h1,h2⟩ := h j hj
 unfold pt
 rw [h1,h2]
 rfl
theorem turned_of {fl : Bool} {t : Nat} {tx ty : Int} {n : Nat} {f g : Nat → Nat → CV} (hA : AllNr n f) (hf : farB tx ty = false) (h : Are (cq fl t tx ty n f) g n) : Turned (tmap fl t tx ty) fl n f g:=by
 intro j hj
 rw [are_pt h j hj]
 unfold cq cp
 have hi : (bif fl then n - 1 - j else j) < n:=by cases fl <;> simp <;> omega
 exact tp_map (hA _ hi) hf
theorem near_far {x y : Int} (h : nr x y) : farB x y = false:=by
 unfold farB nr at *
 exact decide_eq_false (by omega)
theorem not_farC {n1 n2 : Nat} {f1 f2 : Nat → Nat → CV} (h1 : AllNr n1 f1) (h2 : ∀ j,j < n2 → AllNr (CV.len (f2 j 0)) (CV.el (f2 j 0))) : ¬ FarC (1 + n2) (cfh n1 f1 f2) 0:=by
 rintro ⟨j,_,hj,i,_,hi,hb⟩
 cases j with
 | zero =>
  have := near_far (h1 i hi)
  rw [show CV.el (cfh n1 f1 f2 0 0) = f1 from rfl,this] at hb
  cases hb
 | succ j =>
  rw [cfh_succ] at hi hb
  rw [near_far (h2 j (by omega) i hi)] at hb
  cases hb
end Go.Eng.R13
