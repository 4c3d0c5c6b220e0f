/-
 Several texts in one.
-/
import Derived.KernelRfl
import Derived.Test.YtkknnlhhchielaaGreatDoorEngU
import Derived.Test.YtkknnlhhchielaaGreatDoorEngV
import Derived.Test.YtkknnlhhchielaaGreatDoorEngX0
import Derived.Test.YtkknnlhhchielaaGreatDoorNsTurns
import Derived.Test.YtkknnlhhchielaaGreatDoorPlRev
import Derived.Test.YtkknnlhhchielaaGreatDoorPlRev
import Derived.Test.YtkknnlhhchielaaGreatDoorPlRev
import Derived.Test.YtkknnlhhchielaaGreatDoorPlRev
/-
 Bounds of a list of points (out of PlSums).
-/
set_option linter.all false
namespace Go.Eng.R13
open Go Go.RowKit Go.Eng
theorem joinF_o (n:Nat) (f g:Nat→Nat→CV) (j c:Nat) (h:j<n):joinF n f g j c=f j c:=by
 unfold joinF
 rw [bif_t (by simpa [Nat.blt_eq] using h)]
theorem joinF_n (n:Nat) (f g:Nat→Nat→CV) (j c:Nat) (h:n≤j):joinF n f g j c=g (j-n) c:=by
 unfold joinF
 rw [bif_f]
 cases hq:Nat.blt j n with
 | false=>rfl
 | true=>simp [Nat.blt_eq] at hq;omega
def Col (f:Nat→Nat→CV) (c:Nat) (g:Nat→Nat→CV) (i:Nat):Prop:=∀ j,j<i→CV.int (g j 0)=CV.int (f j c)
theorem Col.snoc {f g:Nat→Nat→CV} {c i:Nat} (h:Col f c g i):Col f c (joinF i g (rowsF 1 [.i .i64 (CV.int (f i c))])) (i+1):=by
 intro j hj
 by_cases e:j=i
 ·subst e
  rw [joinF_n _ _ _ _ _ (Nat.le_refl j),Nat.sub_self];rfl
 ·rw [joinF_o _ _ _ _ _ (by omega)]
  exact h j (by omega)
theorem cols46 {ρ:Type} (n:Nat) (f:Nat→Nat→CV) (hn:n≤60) (k:Nat→(Nat→Nat→CV)→(Nat→Nat→CV)→Option ρ):∀ (m i:Nat) (g h:Nat→Nat→CV),n<m+i→i≤n→Col f 0 g i→Col f 1 h i →
  ∃ g' h',L46v1 100 n f (Int.ofNat n) m i (Int.ofNat i) g h k=k n g' h'∧Col f 0 g' n∧Col f 1 h' n:=by
 intro m
 induction m with
 | zero=>intro i g h h1 h2;omega
 | succ m ih =>
  intro i g h h1 h2 hg hh
  unfold L46v1
  rw [lt_nat,inb_nat,toNat_nat]
  by_cases hlt:i<n
  ·rw [bif_t (decide_eq_true hlt),bif_t (decide_eq_true hlt),w64_succ (by omega),bif_t (by rw [Nat.ble_eq];omega),bif_t (by rw [Nat.ble_eq];omega)]
   exact ih (i+1) _ _ (by omega) (by omega) hg.snoc hh.snoc
  ·rw [bif_f (decide_eq_false hlt)]
   have:i=n:=by omega
   subst this
   exact ⟨g,h,rfl,hg,hh⟩
def Ext (z:Int) (g:Nat→Nat→CV) (i:Nat) (a b:Int):Prop :=
 (a≤z∧z≤b∧∀ j,j<i→a≤CV.int (g j 0)∧CV.int (g j 0)≤b)∧(a=z∨∃ j,j<i∧CV.int (g j 0)=a)∧(b=z∨∃ j,j<i∧CV.int (g j 0)=b)
theorem ext72 {ρ:Type} (n:Nat) (z:Int) (g:Nat→Nat→CV) (hn:n≤60) (k:Int→Int→Option ρ):∀ (m i:Nat) (a b:Int),n<m+i→i≤n→Ext z g i a b→∃ a' b',L72v1 100 n g (Int.ofNat n) m a b (Int.ofNat i) k=k a' b'∧Ext z g n a' b':=by
 intro m
 induction m with
 | zero=>intro i a b h1 h2;omega
 | succ m ih =>
  intro i a b h1 h2 hE
  unfold L72v1
  rw [lt_nat,inb_nat,toNat_nat]
  by_cases hlt:i<n
  ·rw [bif_t (decide_eq_true hlt),bif_t (decide_eq_true hlt),w64_succ (by omega)]
   refine ih (i+1) _ _ (by omega) (by omega) ?_
   obtain ⟨⟨e1,e2,e3⟩,e4,e5⟩:=hE
   refine ⟨⟨by split<;>omega,by split<;>omega,fun j hj=>?_⟩,?_,?_⟩
   ·by_cases e:j=i
    ·rw [e];constructor<;>split<;>omega
    ·have:=e3 j (by omega)
     constructor<;>split<;>omega
   ·by_cases e:CV.int (g i 0)<a
    ·rw [if_pos e];exact .inr ⟨i,by omega,rfl⟩
    ·rw [if_neg e]
     rcases e4 with h | ⟨j,h,h'⟩
     ·exact .inl h
     ·exact .inr ⟨j,by omega,h'⟩
   ·by_cases e:CV.int (g i 0)>b
    ·rw [if_pos e];exact .inr ⟨i,by omega,rfl⟩
    ·rw [if_neg e]
     rcases e5 with h | ⟨j,h,h'⟩
     ·exact .inl h
     ·exact .inr ⟨j,by omega,h'⟩
  ·rw [bif_f (decide_eq_false hlt)]
   have:i=n:=by omega
   subst this
   exact ⟨a,b,rfl,hE⟩
theorem ext_law (n:Nat) (z:Int) (g:Nat→Nat→CV) (hn:n≤60):∃ a b,F72 100 z n g=some (a,b)∧Ext z g n a b:=by
 unfold F72
 exact ext72 n z g hn _ 100 0 z z (by omega) (by omega) ⟨⟨Int.le_refl _,Int.le_refl _,fun j hj=>by omega⟩,.inl rfl,.inl rfl⟩
theorem Bds.unique {f:Nat→Nat→CV} {n:Nat} {a b c d a' b' c' d' : Int} (hn:0<n) (h:Bds f n a b c d) (h' : Bds f n a' b' c' d'):a=a'∧b=b'∧c=c'∧d=d':=by
 obtain ⟨h1,h2⟩:=h
 obtain ⟨⟨j1,k1,e1⟩,⟨j2,k2,e2⟩,⟨j3,k3,e3⟩,⟨j4,k4,e4⟩⟩:=h2 hn
 obtain ⟨g1,g2⟩:=h'
 obtain ⟨⟨i1,l1,m1⟩,⟨i2,l2,m2⟩,⟨i3,l3,m3⟩,⟨i4,l4,m4⟩⟩:=g2 hn
 have p1:=h1 i1 l1
 have p2:=h1 i2 l2
 have p3:=h1 i3 l3
 have p4:=h1 i4 l4
 have q1:=g1 j1 k1
 have q2:=g1 j2 k2
 have q3:=g1 j3 k3
 have q4:=g1 j4 k4
 exact ⟨by omega,by omega,by omega,by omega⟩
theorem bounds46 (n:Nat) (f:Nat→Nat→CV) (hn:n≤60):∃ p q r s,F46 100 n f=some (p,q,r,s)∧(0<n→Bds f n p q r s)∧(n=0→p=0∧q=0∧r=0∧s=0):=by
 unfold F46
 by_cases h0:n=0
 ·subst h0
  exact ⟨0,0,0,0,rfl,fun h=>by omega,fun _=>⟨rfl,rfl,rfl,rfl⟩⟩
 ·rw [bif_f (by simp;omega)]
  obtain ⟨g,h,e1,hg,hh⟩:=cols46 n f hn (fun x16 x17 x18=>(bif (inb 0 x16) then (ob (F72 100 (CV.int (x17 0 0)) x16 x17) fun x19=>(bif (inb 0 x16) then (ob (F72 100 (CV.int (x18 0 0)) x16 x18) fun x20=>(some (x19.1,x20.1,x19.2,x20.2))) else none)) else none)) 100 0 (fun _ _=>.any) (fun _ _=>.any) (by omega) (by omega) (fun j hj=>by omega) (fun j hj=>by omega)
  obtain ⟨a,b,e2,E2⟩:=ext_law n (CV.int (g 0 0)) g hn
  obtain ⟨c,d,e3,E3⟩:=ext_law n (CV.int (h 0 0)) h hn
  refine ⟨a,c,b,d,e1.trans ?_,fun _=>?_,fun h=>absurd h h0⟩
  ·rw [bif_t (inb_true (by omega) (by omega)),e2,ob_some,bif_t (inb_true (by omega) (by omega)),e3,ob_some]
  ·obtain ⟨⟨_,_,x1⟩,x2,x3⟩:=E2
   obtain ⟨⟨_,_,y1⟩,y2,y3⟩:=E3
   have hn0:0<n:=by omega
   refine ⟨fun j hj=>?_,fun _=>⟨?_,?_,?_,?_⟩⟩
   ·have p:=x1 j hj
    have q:=y1 j hj
    rw [hg j hj] at p
    rw [hh j hj] at q
    exact ⟨p.1,q.1,p.2,q.2⟩
   ·rcases x2 with h | ⟨j,hj,h⟩
    ·exact ⟨0,hn0,by rw [h,hg 0 hn0]⟩
    ·exact ⟨j,hj,by rw [← hg j hj,h]⟩
   ·rcases y2 with h | ⟨j,hj,h⟩
    ·exact ⟨0,hn0,by rw [h,hh 0 hn0]⟩
    ·exact ⟨j,hj,by rw [← hh j hj,h]⟩
   ·rcases x3 with h | ⟨j,hj,h⟩
    ·exact ⟨0,hn0,by rw [h,hg 0 hn0]⟩
    ·exact ⟨j,hj,by rw [← hg j hj,h]⟩
   ·rcases y3 with h | ⟨j,hj,h⟩
    ·exact ⟨0,hn0,by rw [h,hh 0 hn0]⟩
    ·exact ⟨j,hj,by rw [← hh j hj,h]⟩
theorem bounds_eq (n1:Nat) (f1:Nat→Nat→CV) (n2:Nat) (f2:Nat→Nat→CV) (hn:n1≤40):∃ p,F20 100 n1 f1 n2 f2=some p∧F21 100 n1 f1 n2 f2=some p:=by
 obtain ⟨p,q,r,s,h1,h2,h3⟩:=bounds46 n1 f1 (by omega)
 have e20:F20 100 n1 f1 n2 f2=some (p,q,r,s):=by
  unfold F20
  rw [h1,ob_some]
 by_cases h0:n1=0
 ·obtain ⟨rfl,rfl,rfl,rfl⟩:=h3 h0
  subst h0
  exact ⟨_,e20,rfl⟩
 ·obtain ⟨p',q',r',s',h4,h5⟩:=bounds_law n1 n2 f1 f2 hn
  obtain ⟨rfl,rfl,rfl,rfl⟩:=Bds.unique (by omega) (h2 (by omega)) (h5 (by omega))
  exact ⟨_,e20,h4⟩
end Go.Eng.R13
/-
 Nester: numbers in range,the bounding rectangle of a part,when a rectangle fits.
-/
set_option linter.all false
namespace Go.Eng.R13
open Go Go.RowKit Go.Eng
theorem within389 (u:Nat) (n a b:Int):F389 u n a b=some (decide (a≤n)&&decide (n≤b)):=by
 unfold F389
 by_cases h:a≤n
 ·rw [bif_t (by simpa using h),decide_eq_true h,Bool.true_and]
 ·rw [bif_f (by simpa using h),decide_eq_false h,Bool.false_and]
theorem near404 (u:Nat) (x y:Int) (c:Int) (hc:0≤c∧c≤9223372036854775807):F404 u x y c=some (decide (-c≤x∧x≤c∧-c≤y∧y≤c)):=by
 unfold F404
 rw [show w64 (0-c) = -c from by rw [Int.zero_sub];exact w64_of (by omega) (by omega)]
 by_cases h1:x≥-c
 ·rw [bif_t (by simpa using h1)]
  by_cases h2:x≤c
  ·rw [bif_t (by simpa using h2)]
   by_cases h3:y≥-c
   ·rw [bif_t (by simpa using h3)]
    refine congrArg some ?_
    by_cases h4:y≤c
    ·rw [decide_eq_true h4,decide_eq_true ⟨h1,h2,h3,h4⟩]
    ·rw [decide_eq_false h4,decide_eq_false (by omega)]
   ·rw [bif_f (by simpa using h3),decide_eq_false (by omega)]
  ·rw [bif_f (by simpa using h2),decide_eq_false (by omega)]
 ·rw [bif_f (by simpa using h1),decide_eq_false (by omega)]
def Nr4 (a b c d:Int):Prop:=(-1099511627776≤a∧a≤1099511627776)∧(-1099511627776≤b∧b≤1099511627776)∧(-1099511627776≤c∧c≤1099511627776)∧(-1099511627776≤d∧d≤1099511627776)
instance (a b c d:Int):Decidable (Nr4 a b c d):=by unfold Nr4;infer_instance
theorem nr393 {ρ:Type} (t a b c d:Int) (k0 k1:Option ρ) (u m:Nat):L393v1 u t a b c d (m+5) 0 k0 k1=if Nr4 a b c d then k1 else k0:=by
 have e:∀ (z:Int) (x y:Option ρ),(ob (F389 u z (-1099511627776) 1099511627776) fun q=>bif !q then x else y)=if (-1099511627776≤z∧z≤1099511627776) then y else x:=by
  intro z x y
  rw [within389,ob_some]
  by_cases h:(-1099511627776≤z∧z≤1099511627776)
  ·rw [if_pos h,bif_f (by simp [h.1,h.2])]
  ·rw [if_neg h,bif_t (by simp only [Bool.not_eq_true',Bool.and_eq_false_iff,decide_eq_false_iff_not];omega)]
 have w1:w64 (0+1)=1:=by decide
 have w2:w64 (1+1)=2:=by decide
 have w3:w64 (2+1)=3:=by decide
 have w4:w64 (3+1)=4:=by decide
 unfold L393v1
 rw [bif_t (by decide),bif_t (by decide),w1,e]
 unfold L393v1
 rw [bif_t (by decide),bif_f (by decide),bif_t (by decide),w2,e]
 unfold L393v1
 rw [bif_t (by decide),bif_f (by decide),bif_f (by decide),bif_t (by decide),w3,e]
 unfold L393v1
 rw [bif_t (by decide),bif_f (by decide),bif_f (by decide),bif_f (by decide),bif_t (by decide),w4,e]
 unfold L393v1
 rw [bif_f (by decide)]
 split
 ·split
  ·split
   ·split
    ·rename_i h1 h2 h3 h4;rw [if_pos (show Nr4 a b c d from ⟨h1,h2,h3,h4⟩)]
    ·rename_i h1;rw [if_neg (fun h:Nr4 a b c d=>h1 h.2.2.2)]
   ·rename_i h1;rw [if_neg (fun h:Nr4 a b c d=>h1 h.2.2.1)]
  ·rename_i h1;rw [if_neg (fun h:Nr4 a b c d=>h1 h.2.1)]
 ·rename_i h1;rw [if_neg (fun h:Nr4 a b c d=>h1 h.1)]
def szB (t a b c d:Int):Int × Int :=
 if Nr4 a b c d then (if Int.tmod t 2=0 then (c-a,d-b) else (d-b,c-a)) else (0,0)
theorem rect393 (x:Nat→CV) (t:Int) (hn:CV.len (x 6)≤40):∃ p:Int × Int × Int × Int,F20 100 (CV.len (x 6)) (CV.el (x 6)) (CV.len (x 7)) (CV.el (x 7))=some p ∧
  F393 100 x t=some (szB t p.1 p.2.1 p.2.2.1 p.2.2.2):=by
 obtain ⟨p,h1,h2⟩:=bounds_eq (CV.len (x 6)) (CV.el (x 6)) (CV.len (x 7)) (CV.el (x 7)) hn
 refine ⟨p,h1,?_⟩
 unfold F393 szB
 rw [h1,ob_some,nr393 _ _ _ _ _ _ _ 100 95]
 by_cases h:Nr4 p.1 p.2.1 p.2.2.1 p.2.2.2
 ·obtain ⟨q1,q2,q3,q4⟩:=id h
  rw [if_pos h,if_pos h,w64_of (by omega) (by omega),w64_of (by omega) (by omega)]
  by_cases ht:Int.tmod t 2=0
  ·rw [if_pos ht,bif_f (by simp [ht])]
  ·rw [if_neg ht,bif_t (by simp [ht])]
 ·rw [if_neg h,if_neg h]
theorem rect_same (x:Nat→CV) (t:Int) (hn:CV.len (x 6)≤40):∃ p,F393 100 x t=some p∧F405 100 x t=some p:=by
 obtain ⟨p,h1,h2⟩:=bounds_eq (CV.len (x 6)) (CV.el (x 6)) (CV.len (x 7)) (CV.el (x 7)) hn
 obtain ⟨p',h1',h3⟩:=rect393 x t hn
 cases h1.symm.trans h1'
 refine ⟨_,h3,?_⟩
 unfold F405 szB
 rw [h2,ob_some,near404 _ _ _ _ (by omega),ob_some]
 by_cases h:Nr4 p.1 p.2.1 p.2.2.1 p.2.2.2
 ·obtain ⟨q1,q2,q3,q4⟩:=id h
  rw [bif_t (by simp;omega),near404 _ _ _ _ (by omega),ob_some,bif_f (by simp;omega),if_pos h,w64_of (by omega) (by omega),w64_of (by omega) (by omega)]
  by_cases ht:Int.tmod t 2=0
  ·rw [if_pos ht,bif_f (by simp [ht])]
  ·rw [if_neg ht,bif_t (by simp [ht])]
 ·rw [if_neg h]
  by_cases h5:(-1099511627776≤p.1∧p.1≤1099511627776∧-1099511627776≤p.2.1∧p.2.1≤1099511627776)
  ·rw [bif_t (by simp;omega),near404 _ _ _ _ (by omega),ob_some,bif_t (by unfold Nr4 at h;simp;omega)]
  ·rw [bif_f (by simp;omega)]
end Go.Eng.R13
/-
 Nester: when a rectangle fits beside others: the program's Fits and the reference's.
-/
set_option linter.all false
namespace Go.Eng.R13
open Go Go.RowKit Go.Eng
abbrev bx (r:FF) (j c:Nat):Int:=CV.int (r j c)
def Apt (lx ly hx hy x y l w g:Int):Prop:=¬ (x<hx+g∧lx<x+l+g∧y<hy+g∧ly<y+w+g)
def FLim (len wid x y l w gap:Int):Prop:=(0≤len∧len≤32768)∧(0≤wid∧wid≤32768)∧(0≤gap∧gap≤500)∧(1≤l∧l≤32768)∧(1≤w∧w≤32768)∧(-32768≤x∧x≤32768)∧(-32768≤y∧y≤32768)
def FIn (len wid x y l w gap:Int):Prop:=gap≤x∧gap≤y∧x+l≤len-gap∧y+w≤wid-gap
abbrev gG (gap:Int):Int:=if 1>gap then 1 else gap
def NrJ (r:FF) (j:Nat):Prop:=Nr4 (bx r j 0) (bx r j 1) (bx r j 2) (bx r j 3)
def AptJ (r:FF) (x y l w g:Int) (j:Nat):Prop:=Apt (bx r j 0) (bx r j 1) (bx r j 2) (bx r j 3) x y l w g
def FitsP (len wid:Int) (n:Nat) (r:FF) (x y l w gap:Int):Prop :=
 FLim len wid x y l w gap∧(∀ j,j<n→NrJ r j)∧FIn len wid x y l w gap∧∀ j,j<n→AptJ r x y l w (gG gap) j
theorem nr395 {ρ:Type} (len wid:Int) (n:Nat) (r:FF) (l w gap N i x y a b c d:Int) (k0 k1:Option ρ) (u m:Nat):L395v2 u len wid n r l w gap N i a b c d x y (m+5) 0 k0 k1=if Nr4 a b c d then k1 else k0:=by
 have e:∀ (z:Int) (x y:Option ρ),(ob (F389 u z (-1099511627776) 1099511627776) fun q=>bif !q then x else y)=if (-1099511627776≤z∧z≤1099511627776) then y else x:=by
  intro z x y
  rw [within389,ob_some]
  by_cases h:(-1099511627776≤z∧z≤1099511627776)
  ·rw [if_pos h,bif_f (by simp [h.1,h.2])]
  ·rw [if_neg h,bif_t (by simp only [Bool.not_eq_true',Bool.and_eq_false_iff,decide_eq_false_iff_not];omega)]
 have w1:w64 (0+1)=1:=by decide
 have w2:w64 (1+1)=2:=by decide
 have w3:w64 (2+1)=3:=by decide
 have w4:w64 (3+1)=4:=by decide
 unfold L395v2
 rw [bif_t (by decide),bif_t (by decide),w1,e]
 unfold L395v2
 rw [bif_t (by decide),bif_f (by decide),bif_t (by decide),w2,e]
 unfold L395v2
 rw [bif_t (by decide),bif_f (by decide),bif_f (by decide),bif_t (by decide),w3,e]
 unfold L395v2
 rw [bif_t (by decide),bif_f (by decide),bif_f (by decide),bif_f (by decide),bif_t (by decide),w4,e]
 unfold L395v2
 rw [bif_f (by decide)]
 split
 ·split
  ·split
   ·split
    ·rename_i h1 h2 h3 h4;rw [if_pos (show Nr4 a b c d from ⟨h1,h2,h3,h4⟩)]
    ·rename_i h1;rw [if_neg (fun h:Nr4 a b c d=>h1 h.2.2.2)]
   ·rename_i h1;rw [if_neg (fun h:Nr4 a b c d=>h1 h.2.2.1)]
  ·rename_i h1;rw [if_neg (fun h:Nr4 a b c d=>h1 h.2.1)]
 ·rename_i h1;rw [if_neg (fun h:Nr4 a b c d=>h1 h.1)]
theorem nrs395 {ρ:Type} (len wid:Int) (n:Nat) (r:FF) (l w gap x y:Int) (k0 k1:Option ρ) (hn:n≤60):∀ (m i:Nat),n<m+i→i≤n →
  (L395v3 100 len wid n r l w gap (Int.ofNat n) x y m (Int.ofNat i) k0 k1=k1∧∀ j,i≤j→j<n→NrJ r j)∨(L395v3 100 len wid n r l w gap (Int.ofNat n) x y m (Int.ofNat i) k0 k1=k0∧∃ j,j<n∧¬ NrJ r j):=by
 intro m
 induction m with
 | zero=>intro i h1 h2;omega
 | succ m ih =>
  intro i h1 h2
  unfold L395v3
  rw [lt_nat,inb_nat,toNat_nat]
  by_cases h:i<n
  ·rw [bif_t (decide_eq_true h),bif_t (decide_eq_true h),nr395 _ _ _ _ _ _ _ _ _ _ _ _ _ _ _ _ _ 100 95,w64_succ (by omega)]
   by_cases hq:Nr4 (CV.int (r i 0)) (CV.int (r i 1)) (CV.int (r i 2)) (CV.int (r i 3))
   ·rw [if_pos hq]
    rcases ih (i+1) (by omega) (by omega) with ⟨e,hh⟩ | h3
    ·refine .inl ⟨e,fun j h5 h6=>?_⟩
     by_cases hj:j=i
     ·subst hj;exact hq
     ·exact hh j (by omega) h6
    ·exact .inr h3
   ·rw [if_neg hq];exact .inr ⟨rfl,i,h,hq⟩
  ·rw [bif_f (decide_eq_false h)];exact .inl ⟨rfl,fun j h5 h6=>by omega⟩
theorem apt395 {ρ:Type} (n:Nat) (r:FF) (l w g x y:Int) (k0 k1:Option ρ) (hn:n≤60) (hN:∀ j,j<n→NrJ r j) (hg:1≤g∧g≤500) (hl:1≤l∧l≤32768) (hw:1≤w∧w≤32768) (hx : -32768≤x∧x≤32768) (hy : -32768≤y∧y≤32768):∀ (m i:Nat),n<m+i→i≤n →
  (L395v4 100 l w g n r (Int.ofNat n) x y m (Int.ofNat i) k0 k1=k1∧∀ j,i≤j→j<n→AptJ r x y l w g j)∨(L395v4 100 l w g n r (Int.ofNat n) x y m (Int.ofNat i) k0 k1=k0∧∃ j,j<n∧¬ AptJ r x y l w g j):=by
 intro m
 induction m with
 | zero=>intro i h1 h2;omega
 | succ m ih =>
  intro i h1 h2
  unfold L395v4
  rw [lt_nat,inb_nat,toNat_nat]
  by_cases h:i<n
  ·obtain ⟨q1,q2,q3,q4⟩:=hN i h
   simp only [bx] at q1 q2 q3 q4
   rw [bif_t (decide_eq_true h),bif_t (decide_eq_true h),w64_succ (by omega),w64_of (n:=CV.int (r i 2)+g) (by omega) (by omega),w64_of (n:=CV.int (r i 3)+g) (by omega) (by omega),w64_of (n:=x+l) (by omega) (by omega),w64_of (n:=y+w) (by omega) (by omega),w64_of (n:=x+l+g) (by omega) (by omega),w64_of (n:=y+w+g) (by omega) (by omega)]
   have go:AptJ r x y l w g i→(L395v4 100 l w g n r (Int.ofNat n) x y m (Int.ofNat (i+1)) k0 k1=k1∧∀ j,i≤j→j<n→AptJ r x y l w g j)∨(L395v4 100 l w g n r (Int.ofNat n) x y m (Int.ofNat (i+1)) k0 k1=k0∧∃ j,j<n∧¬ AptJ r x y l w g j):=by
    intro hq
    rcases ih (i+1) (by omega) (by omega) with ⟨e,hh⟩ | h3
    ·refine .inl ⟨e,fun j h5 h6=>?_⟩
     by_cases hj:j=i
     ·subst hj;exact hq
     ·exact hh j (by omega) h6
    ·exact .inr h3
   by_cases c1:x<CV.int (r i 2)+g
   ·rw [bif_t (by simpa using c1)]
    by_cases c2:x+l+g>CV.int (r i 0)
    ·rw [bif_t (by simpa using c2)]
     by_cases c3:y<CV.int (r i 3)+g
     ·rw [bif_t (by simpa using c3)]
      by_cases c4:y+w+g>CV.int (r i 1)
      ·rw [bif_t (by simpa using c4)];exact .inr ⟨rfl,i,h,fun hq=>hq ⟨c1,c2,c3,c4⟩⟩
      ·rw [bif_f (by simpa using c4)];exact go fun hq=>c4 hq.2.2.2
     ·rw [bif_f (by simpa using c3)];exact go fun hq=>c3 hq.2.2.1
    ·rw [bif_f (by simpa using c2)];exact go fun hq=>c2 hq.2.1
   ·rw [bif_f (by simpa using c1)];exact go fun hq=>c1 hq.1
  ·rw [bif_f (decide_eq_false h)];exact .inl ⟨rfl,fun j h5 h6=>by omega⟩
theorem bi {ρ:Type} (u:Nat) (z a b:Int) (x y:Option ρ):(ob (F389 u z a b) fun q=>bif (!q)==false then x else y)=if (a≤z∧z≤b) then x else y:=by
 have e:(decide (a≤z)&&decide (z≤b))=decide (a≤z∧z≤b):=by simp
 rw [within389,ob_some,e]
 by_cases h:(a≤z∧z≤b)
 ·rw [if_pos h,decide_eq_true h];rfl
 ·rw [if_neg h,decide_eq_false h];rfl
theorem fits_tail (len wid:Int) (n:Nat) (r:FF) (x y l w gap:Int) (hn:n≤60) (hL:FLim len wid x y l w gap) (hN:∀ j,j<n→NrJ r j):∃ b,(bif ((decide (x<gap))==false) then (bif ((decide (y<gap))==false) then (bif ((decide ((w64 (x+l))>(w64 (len-gap))))==false) then (bif (decide ((w64 (y+w))>(w64 (wid-gap)))) then (some false) else (L395v4 100 l w (if 1>gap then 1 else gap) n r (Int.ofNat n) x y 100 0 (some false) (some true))) else (some false)) else (some false)) else (some false))=some b∧(b=true↔FIn len wid x y l w gap∧∀ j,j<n→AptJ r x y l w (gG gap) j):=by
 obtain ⟨c1,c2,c3,c4,c5,c6,c7⟩:=hL
 have hg:1≤gG gap∧gG gap≤500:=by unfold gG;split<;>omega
 rw [w64_of (n:=x+l) (by omega) (by omega),w64_of (n:=y+w) (by omega) (by omega),w64_of (n:=len-gap) (by omega) (by omega),w64_of (n:=wid-gap) (by omega) (by omega)]
 have no:∀ (P Q:Prop),¬ P→∃ b,some false=some b∧(b=true↔P∧Q):=fun P Q h=>⟨false,rfl,by simp only [Bool.false_eq_true,false_iff];exact fun q=>h q.1⟩
 by_cases d1:x<gap
 ·rw [decide_eq_true d1];exact no _ _ fun h=>by have:=h.1;omega
 rw [decide_eq_false d1,bif_t (by rfl)]
 by_cases d2:y<gap
 ·rw [decide_eq_true d2];exact no _ _ fun h=>by have:=h.2.1;omega
 rw [decide_eq_false d2,bif_t (by rfl)]
 by_cases d3:x+l>len-gap
 ·rw [decide_eq_true d3];exact no _ _ fun h=>by have:=h.2.2.1;omega
 rw [decide_eq_false d3,bif_t (by rfl)]
 by_cases d4:y+w>wid-gap
 ·rw [bif_t (decide_eq_true d4)];exact no _ _ fun h=>by have:=h.2.2.2;omega
 rw [bif_f (decide_eq_false d4)]
 rcases apt395 n r l w (gG gap) x y (some false) (some true) hn hN hg c4 c5 c6 c7 100 0 (by omega) (by omega) with ⟨e,hA⟩ | ⟨e,j,hj,hq⟩
 ·exact ⟨true,e,by simp only [true_iff];exact ⟨⟨by omega,by omega,by omega,by omega⟩,fun j hj=>hA j (by omega) hj⟩⟩
 ·exact ⟨false,e,by simp only [Bool.false_eq_true,false_iff];exact fun q=>hq (q.2 j hj)⟩
theorem fits_law (len wid:Int) (n:Nat) (r:FF) (x y l w gap:Int) (hn:n≤60):∃ b,F395 100 len wid n r x y l w gap=some b∧(b=true↔FitsP len wid n r x y l w gap):=by
 have no:∀ (P Q:Prop),¬ P→∃ b,some false=some b∧(b=true↔P∧Q):=fun P Q h=>⟨false,rfl,by simp only [Bool.false_eq_true,false_iff];exact fun q=>h q.1⟩
 unfold F395 FitsP
 rw [bi]
 by_cases c1:0≤len∧len≤32768
 case neg=>rw [if_neg c1];exact no _ _ fun h=>c1 h.1
 rw [if_pos c1,bi]
 by_cases c2:0≤wid∧wid≤32768
 case neg=>rw [if_neg c2];exact no _ _ fun h=>c2 h.2.1
 rw [if_pos c2,bi]
 by_cases c3:0≤gap∧gap≤500
 case neg=>rw [if_neg c3];exact no _ _ fun h=>c3 h.2.2.1
 rw [if_pos c3,bi]
 by_cases c4:1≤l∧l≤32768
 case neg=>rw [if_neg c4];exact no _ _ fun h=>c4 h.2.2.2.1
 rw [if_pos c4,bi]
 by_cases c5:1≤w∧w≤32768
 case neg=>rw [if_neg c5];exact no _ _ fun h=>c5 h.2.2.2.2.1
 rw [if_pos c5,bi]
 by_cases c6 : -32768≤x∧x≤32768
 case neg=>rw [if_neg c6];exact no _ _ fun h=>c6 h.2.2.2.2.2.1
 rw [if_pos c6,within389,ob_some]
 by_cases c7 : -32768≤y∧y≤32768
 case neg=>rw [bif_t (by simp only [Bool.not_eq_true',Bool.and_eq_false_iff,decide_eq_false_iff_not];omega)];exact no _ _ fun h=>c7 h.2.2.2.2.2.2
 rw [bif_f (by simp [c7.1,c7.2])]
 have hL:FLim len wid x y l w gap:=⟨c1,c2,c3,c4,c5,c6,c7⟩
 rcases nrs395 len wid n r l w gap x y (some false) (bif ((decide (x<gap))==false) then (bif ((decide (y<gap))==false) then (bif ((decide ((w64 (x+l))>(w64 (len-gap))))==false) then (bif (decide ((w64 (y+w))>(w64 (wid-gap)))) then (some false) else (L395v4 100 l w (if 1>gap then 1 else gap) n r (Int.ofNat n) x y 100 0 (some false) (some true))) else (some false)) else (some false)) else (some false)) hn 100 0 (by omega) (by omega) with ⟨e,hN⟩ | ⟨e,j,hj,hq⟩
 ·obtain ⟨b,e2,hb⟩:=fits_tail len wid n r x y l w gap hn hL fun j hj=>hN j (by omega) hj
  exact ⟨b,e.trans e2,hb.trans ⟨fun h=>⟨hL,fun j hj=>hN j (by omega) hj,h.1,h.2⟩,fun h=>⟨h.2.2.1,h.2.2.2⟩⟩⟩
 ·exact ⟨_,e,by simp only [Bool.false_eq_true,false_iff];exact fun h=>hq (h.2.1 j hj)⟩
end Go.Eng.R13
/-
 Nester: the reference's Fits.
-/
set_option linter.all false
namespace Go.Eng.R13
open Go Go.RowKit Go.Eng
theorem ne404 {ρ:Type} (u:Nat) (a b c:Int) (hc:0≤c∧c≤9223372036854775807) (x y:Option ρ):(ob (F404 u a b c) fun q=>bif (!q)==false then x else y)=if (-c≤a∧a≤c∧-c≤b∧b≤c) then x else y:=by
 rw [near404 u a b c hc,ob_some]
 by_cases h:(-c≤a∧a≤c∧-c≤b∧b≤c)
 ·rw [if_pos h,decide_eq_true h];rfl
 ·rw [if_neg h,decide_eq_false h];rfl
theorem ne404' {ρ:Type} (u:Nat) (a b c:Int) (hc:0≤c∧c≤9223372036854775807) (x y:Option ρ):(ob (F404 u a b c) fun q=>bif !q then x else y)=if (-c≤a∧a≤c∧-c≤b∧b≤c) then y else x:=by
 rw [near404 u a b c hc,ob_some]
 by_cases h:(-c≤a∧a≤c∧-c≤b∧b≤c)
 ·rw [if_pos h,decide_eq_true h];rfl
 ·rw [if_neg h,decide_eq_false h];rfl
theorem apt406 {ρ:Type} (n:Nat) (r:FF) (l w g x y:Int) (k0 k1:Option ρ) (hn:n≤60) (hg:1≤g∧g≤500) (hl:1≤l∧l≤32768) (hw:1≤w∧w≤32768) (hx : -32768≤x∧x≤32768) (hy : -32768≤y∧y≤32768):∀ (m i:Nat),n<m+i→i≤n →
  (L406v1 100 n r l w g x y m (Int.ofNat i) k0 k1=k1∧∀ j,i≤j→j<n→NrJ r j∧AptJ r x y l w g j)∨(L406v1 100 n r l w g x y m (Int.ofNat i) k0 k1=k0∧∃ j,j<n∧¬ (NrJ r j∧AptJ r x y l w g j)):=by
 intro m
 induction m with
 | zero=>intro i h1 h2;omega
 | succ m ih =>
  intro i h1 h2
  unfold L406v1
  rw [lt_nat,inb_nat,toNat_nat]
  by_cases h:i<n
  ·rw [bif_t (decide_eq_true h),bif_t (decide_eq_true h),ne404 _ _ _ _ (by omega),ne404' _ _ _ _ (by omega)]
   by_cases a1:(-1099511627776≤CV.int (r i 0)∧CV.int (r i 0)≤1099511627776∧-1099511627776≤CV.int (r i 1)∧CV.int (r i 1)≤1099511627776)
   case neg=>rw [if_neg a1];exact .inr ⟨rfl,i,h,fun q=>a1 ⟨q.1.1.1,q.1.1.2,q.1.2.1.1,q.1.2.1.2⟩⟩
   by_cases a2:(-1099511627776≤CV.int (r i 2)∧CV.int (r i 2)≤1099511627776∧-1099511627776≤CV.int (r i 3)∧CV.int (r i 3)≤1099511627776)
   case neg=>rw [if_pos a1,if_neg a2];exact .inr ⟨rfl,i,h,fun q=>a2 ⟨q.1.2.2.1.1,q.1.2.2.1.2,q.1.2.2.2.1,q.1.2.2.2.2⟩⟩
   have hq:NrJ r i:=⟨⟨a1.1,a1.2.1⟩,⟨a1.2.2.1,a1.2.2.2⟩,⟨a2.1,a2.2.1⟩,⟨a2.2.2.1,a2.2.2.2⟩⟩
   rw [if_pos a1,if_pos a2,w64_succ (by omega),w64_of (n:=CV.int (r i 2)+g) (by omega) (by omega),w64_of (n:=CV.int (r i 3)+g) (by omega) (by omega),w64_of (n:=x+l) (by omega) (by omega),w64_of (n:=y+w) (by omega) (by omega),w64_of (n:=x+l+g) (by omega) (by omega),w64_of (n:=y+w+g) (by omega) (by omega)]
   have go:AptJ r x y l w g i→(L406v1 100 n r l w g x y m (Int.ofNat (i+1)) k0 k1=k1∧∀ j,i≤j→j<n→NrJ r j∧AptJ r x y l w g j)∨(L406v1 100 n r l w g x y m (Int.ofNat (i+1)) k0 k1=k0∧∃ j,j<n∧¬ (NrJ r j∧AptJ r x y l w g j)):=by
    intro hq2
    rcases ih (i+1) (by omega) (by omega) with ⟨e,hh⟩ | h3
    ·refine .inl ⟨e,fun j h5 h6=>?_⟩
     by_cases hj:j=i
     ·subst hj;exact ⟨hq,hq2⟩
     ·exact hh j (by omega) h6
    ·exact .inr h3
   by_cases c1:x<CV.int (r i 2)+g
   ·rw [bif_t (by simpa using c1)]
    by_cases c2:x+l+g>CV.int (r i 0)
    ·rw [bif_t (by simpa using c2)]
     by_cases c3:y<CV.int (r i 3)+g
     ·rw [bif_t (by simpa using c3)]
      by_cases c4:y+w+g>CV.int (r i 1)
      ·rw [bif_t (by simpa using c4)];exact .inr ⟨rfl,i,h,fun hq=>hq.2 ⟨c1,c2,c3,c4⟩⟩
      ·rw [bif_f (by simpa using c4)];exact go fun hq=>c4 hq.2.2.2
     ·rw [bif_f (by simpa using c3)];exact go fun hq=>c3 hq.2.2.1
    ·rw [bif_f (by simpa using c2)];exact go fun hq=>c2 hq.2.1
   ·rw [bif_f (by simpa using c1)];exact go fun hq=>c1 hq.1
  ·rw [bif_f (decide_eq_false h)];exact .inl ⟨rfl,fun j h5 h6=>by omega⟩
theorem bd {ρ:Type} (P:Prop) [Decidable P] (x y:ρ):(bif decide P==false then x else y)=if P then y else x:=by
 by_cases h:P
 ·rw [decide_eq_true h,if_pos h];rfl
 ·rw [decide_eq_false h,if_neg h];rfl
theorem fits_ref (len wid:Int) (n:Nat) (r:FF) (x y l w gap:Int) (hn:n≤60):∃ b,F406 100 len wid n r x y l w gap=some b∧(b=true↔FitsP len wid n r x y l w gap):=by
 have no:∀ (P Q:Prop),¬ P→∃ b,some false=some b∧(b=true↔P∧Q):=fun P Q h=>⟨false,rfl,by simp only [Bool.false_eq_true,false_iff];exact fun q=>h q.1⟩
 unfold F406 FitsP
 rw [bd,bd,bd,bd,bd]
 by_cases hL:FLim len wid x y l w gap
 case neg =>
  by_cases d1:(if gap<(if wid<len then wid else len) then gap else (if wid<len then wid else len))<0
  ·rw [if_pos d1];exact no _ _ hL
  rw [if_neg d1]
  by_cases d2:(if wid>len then wid else len)>32768
  ·rw [if_pos d2];exact no _ _ hL
  rw [if_neg d2]
  by_cases d3:gap>500
  ·rw [if_pos d3];exact no _ _ hL
  rw [if_neg d3]
  by_cases d4:(if w<l then w else l)<1
  ·rw [if_pos d4];exact no _ _ hL
  rw [if_neg d4]
  by_cases d5:(if w>l then w else l)>32768
  ·rw [if_pos d5];exact no _ _ hL
  rw [if_neg d5,ne404' _ _ _ _ (by omega)]
  by_cases d6:(-32768≤x∧x≤32768∧-32768≤y∧y≤32768)
  ·exfalso
   refine hL ⟨?_,?_,?_,?_,?_,⟨d6.1,d6.2.1⟩,d6.2.2⟩<;>(repeat' split at d1)<;>(repeat' split at d2)<;>(repeat' split at d4)<;>(repeat' split at d5)<;>omega
  ·rw [if_neg d6];exact no _ _ hL
 obtain ⟨c1,c2,c3,c4,c5,c6,c7⟩:=id hL
 have hg:1≤gG gap∧gG gap≤500:=by unfold gG;split<;>omega
 have hm:¬ (if gap<(if wid<len then wid else len) then gap else (if wid<len then wid else len))<0:=by
  repeat' split
  all_goals omega
 rw [if_neg hm,if_neg (by split<;>omega),if_neg (by omega),if_neg (by split<;>omega),if_neg (by split<;>omega),ne404' _ _ _ _ (by omega),if_pos ⟨c6.1,c6.2,c7.1,c7.2⟩,
  w64_of (n:=x+l) (by omega) (by omega),w64_of (n:=y+w) (by omega) (by omega),w64_of (n:=len-gap) (by omega) (by omega),w64_of (n:=wid-gap) (by omega) (by omega),bd,bd,bd]
 have no2:¬ FIn len wid x y l w gap→∃ b,some false=some b∧(b=true↔FLim len wid x y l w gap∧(∀ j,j<n→NrJ r j)∧FIn len wid x y l w gap∧∀ j,j<n→AptJ r x y l w (gG gap) j):=fun h=>⟨false,rfl,by simp only [Bool.false_eq_true,false_iff];exact fun q=>h q.2.2.1⟩
 by_cases d1:x<gap
 ·rw [if_pos d1];exact no2 fun h=>by have:=h.1;omega
 rw [if_neg d1]
 by_cases d2:y<gap
 ·rw [if_pos d2];exact no2 fun h=>by have:=h.2.1;omega
 rw [if_neg d2]
 by_cases d3:x+l>len-gap
 ·rw [if_pos d3];exact no2 fun h=>by have:=h.2.2.1;omega
 rw [if_neg d3]
 by_cases d4:y+w>wid-gap
 ·rw [bif_t (decide_eq_true d4)];exact no2 fun h=>by have:=h.2.2.2;omega
 rw [bif_f (decide_eq_false d4)]
 rcases apt406 n r l w (gG gap) x y (some false) (some true) hn hg c4 c5 c6 c7 100 0 (by omega) (by omega) with ⟨e,hA⟩ | ⟨e,j,hj,hq⟩
 ·exact ⟨true,e,by simp only [true_iff];exact ⟨hL,fun j hj=>(hA j (by omega) hj).1,⟨by omega,by omega,by omega,by omega⟩,fun j hj=>(hA j (by omega) hj).2⟩⟩
 ·exact ⟨false,e,by simp only [Bool.false_eq_true,false_iff];exact fun q=>hq ⟨q.2.1 j hj,q.2.2.2 j hj⟩⟩
end Go.Eng.R13
/-
 Nester: the examples of the chapter hold.
-/
set_option linter.all false
namespace Go.Eng.R13
open Go Go.RowKit Go.Eng
theorem alive403:F403 100=some true:=by kernel_rfl
end Go.Eng.R13
/-
 NesterRects: the plain law.
-/
set_option linter.all false
namespace Go.Eng.R13
open Go Go.RowKit Go.Eng
theorem few_loop {ρ:Type} (x:Nat→CV) (hn:CV.len (x 7)≤12) (k0 k1:Option ρ):∀ (m i:Nat),CV.len (x 7)<m+i→i≤CV.len (x 7)→L386v1 100 x m (Int.ofNat i) k0 k1=k0∨L386v1 100 x m (Int.ofNat i) k0 k1=k1:=by
 intro m
 induction m with
 | zero=>intro i h1 h2;omega
 | succ m ih =>
  intro i h1 h2
  unfold L386v1
  rw [lt_nat,inb_nat,toNat_nat]
  by_cases h:i<CV.len (x 7)
  ·rw [bif_t (decide_eq_true h),bif_t (decide_eq_true h),w64_succ (by omega)]
   by_cases c:(Int.ofNat (CV.len ((CV.el (x 7)) i 0)))>40
   ·rw [bif_t (decide_eq_true c)];exact .inl rfl
   ·rw [bif_f (decide_eq_false c)];exact ih (i+1) (by omega) (by omega)
  ·rw [bif_f (decide_eq_false h)];exact .inr rfl
theorem few386 (x:Nat→CV):∃ b,F386 100 x=some b∧(b=true→CV.len (x 6)≤40):=by
 have no:∃ b,some false=some b∧(b=true→CV.len (x 6)≤40):=⟨false,rfl,fun h=>by cases h⟩
 unfold F386
 rw [bd,bd,bd,bd,bd]
 split;exact no
 split;exact no
 split;exact no
 split;exact no
 split;exact no
 rename_i _ _ _ _ c
 by_cases c2:(Int.ofNat (CV.len (x 7)))>12
 ·rw [bif_t (decide_eq_true c2)];exact no
 rw [bif_f (decide_eq_false c2)]
 have c:¬ (CV.len (x 6):Int)>40:=c
 have c2:¬ (CV.len (x 7):Int)>12:=c2
 rcases few_loop x (by omega) (some false) (some true) 100 0 (by omega) (by omega) with e | e
 ·exact ⟨_,e,fun _=>by omega⟩
 ·exact ⟨_,e,fun _=>by omega⟩
end Go.Eng.R13
/-
 Nester: the packing of parts by two orders.
-/
set_option linter.all false
namespace Go.Eng.R13
open Go Go.RowKit Go.Eng
def ixGo (l:List Int) (a:Int):Nat→Nat→Int
 | 0,_=>-1
 | m+1,i=>if a=l.getD i 0 then (i:Int) else ixGo l a m (i+1)
def ixI (l:List Int) (a:Int):Int:=ixGo l a l.length 0
def Bef (first:List Int) (a b:Int):Prop:=ixI first a<ixI first b
instance (first:List Int) (a b:Int):Decidable (Bef first a b):=by unfold Bef;infer_instance
def szOf (p:Nat→CV) (t:Int):Int × Int:=(F393 100 p t).getD (0,0)
structure Good (p:Nat→CV):Prop where
 len:CV.len (p 6)≤40
 sz:∀ t,(0≤(szOf p t).1∧(szOf p t).1≤131072)∧(0≤(szOf p t).2∧(szOf p t).2≤131072)
theorem f393_congr (u:Nat) (x y:Nat→CV) (t:Int) (h1:CV.len (x 6)=CV.len (y 6)) (h2:CV.el (x 6)=CV.el (y 6)) (h3:CV.len (x 7)=CV.len (y 7)) (h4:CV.el (x 7)=CV.el (y 7)):F393 u x t=F393 u y t:=by
 unfold F393
 rw [h1,h2,h3,h4]
theorem Good.rect {p:Nat→CV} (h:Good p) (t:Int):F393 100 p t=some (szOf p t):=by
 obtain ⟨q,_,h2⟩:=rect393 p t h.len
 unfold szOf
 rw [h2];rfl
theorem rect397 {p:Nat→CV} (G:Good p) (q:Nat→CV) (t x y:Int) (h1:CV.len (q 6)=CV.len (p 6)) (h2:CV.el (q 6)=CV.el (p 6)) (h3:CV.len (q 7)=CV.len (p 7)) (h4:CV.el (q 7)=CV.el (p 7)) (hx:0≤x∧x≤1099511627776) (hy:0≤y∧y≤1099511627776) :
  F397 100 q t x y=some (x,y,x+(szOf p t).1,y+(szOf p t).2):=by
 unfold F397
 have s:=G.sz t
 rw [f393_congr 100 (listF (pj kR0 q)) p t h1 h2 h3 h4,G.rect t,ob_some,w64_of (by omega) (by omega),w64_of (by omega) (by omega)]
end Go.Eng.R13
/-
 Nester: what the iterators enumerate.
-/
set_option linter.all false
namespace Go.Eng.R13
open Go Go.RowKit Go.Eng
def okV (n:Nat) (l:List Int):Bool:=Nat.beq l.length n&&l.all fun x=>x == -1||(x==0||x==1)
end Go.Eng.R13
/-
 Nester: the suitable parts.
-/
set_option linter.all false
namespace Go.Eng.R13
open Go Go.RowKit Go.Eng
theorem tl_eq (a b:ByteArray):(ByteArray.toList a==ByteArray.toList b)=decide (a=b):=by
 by_cases h:a=b
 ·subst h;simp
 ·rw [decide_eq_false h]
  have:¬ ByteArray.toList a=ByteArray.toList b:=fun hh=>h (by
   rw [ByteArray.toList_eq,ByteArray.toList_eq] at hh
   exact ByteArray.ext (Array.ext' hh))
  simpa using this
theorem blt_t {a b:Nat} (h:a<b):Nat.blt a b=true:=by rw [Nat.blt_eq];exact h
theorem ble_okN {n:Nat} (h:n≤1073741824):Nat.ble n 1073741824=true:=by rw [Nat.ble_eq];exact h
theorem mapF_congr {n:Nat} {f f' : FF} (h:∀ i,i<n→CV.str (f' i 0)=CV.str (f i 0)) (s:ByteArray):mapF n f' s=mapF n f s:=by
 unfold mapF
 have:∀ l:List Nat,(∀ i,i∈l→i<n)→l.find? (fun i=>ByteArray.toList (CV.str (f' i 0))==ByteArray.toList s)=l.find? (fun i=>ByteArray.toList (CV.str (f i 0))==ByteArray.toList s):=fun l=>by
  induction l with
  | nil=>intro _;rfl
  | cons a l ih =>
   intro hl
   rw [List.find?_cons,List.find?_cons,h a (hl a (List.mem_cons_self ..)),ih fun i hi=>hl i (List.mem_cons_of_mem _ hi)]
 exact this _ fun i hi=>List.mem_range.1 hi
theorem mapG_put (n:Nat) (f:FF) (s:ByteArray) (v:Int) (s' : ByteArray):mapG (mapN n f s) (mapR n f s v) s' = if s' = s then v else mapG n f s':=by
 unfold mapG mapN mapR
 cases h:mapF n f s with
 | some i0 =>
  dsimp only
  obtain ⟨h1,h2⟩:=mapF_some h
  have hk:mapF n (fun i j=>bif Nat.beq i i0&&Nat.beq j 1 then .i .i64 v else f i j) s' = mapF n f s':=mapF_congr (fun i _=>by
   show CV.str (bif Nat.beq i i0&&Nat.beq 0 1 then _ else f i 0)=_
   rw [show Nat.beq 0 1=false from rfl,Bool.and_false,cond_false]) s'
  rw [hk]
  by_cases hs:s' = s
  ·subst hs
   rw [if_pos rfl,h]
   show CV.int (bif Nat.beq i0 i0&&Nat.beq 1 1 then CV.i .i64 v else f i0 1)=v
   rw [Nat.beq_refl];rfl
  ·rw [if_neg hs]
   cases h3:mapF n f s' with
   | none=>rfl
   | some j =>
    obtain ⟨h4,h5⟩:=mapF_some h3
    have hne:Nat.beq j i0=false:=by
     cases e:Nat.beq j i0 with
     | false=>rfl
     | true=>have:=Nat.eq_of_beq_eq_true e;subst this;exact absurd (h5.symm.trans h2) hs
    show CV.int (bif Nat.beq j i0&&Nat.beq 1 1 then CV.i .i64 v else f j 1)=CV.int (f j 1)
    rw [hne];rfl
 | none =>
  dsimp only
  have hlt:∀ i,i<n→CV.str (bif Nat.blt i n then f i 0 else (bif Nat.beq 0 0 then CV.s s else .i .i64 v))=CV.str (f i 0):=fun i hi=>by rw [blt_t hi,cond_true]
  have hb:Nat.blt n n=false:=by
   cases e:Nat.blt n n with
   | false=>rfl
   | true=>rw [Nat.blt_eq] at e;omega
  have hnew:mapF (n+1) (fun i j=>bif Nat.blt i n then f i j else (bif Nat.beq j 0 then CV.s s else .i .i64 v)) s' = match mapF n f s' with | some i=>some i | none=>if s' = s then some n else none:=by
   have e1:=mapF_congr (f:=f) (f':=fun i j=>bif Nat.blt i n then f i j else (bif Nat.beq j 0 then CV.s s else .i .i64 v)) hlt s'
   rw [← e1]
   unfold mapF
   rw [List.range_succ,List.find?_append]
   cases List.find? (fun i=>ByteArray.toList (CV.str (bif Nat.blt i n then f i 0 else (bif Nat.beq 0 0 then CV.s s else .i .i64 v)))==ByteArray.toList s') (List.range n) with
   | some i=>rfl
   | none =>
    rw [Option.none_or,List.find?_cons]
    dsimp only
    rw [hb]
    show (match (ByteArray.toList s==ByteArray.toList s') with | true=>some n | false=>List.find? _ [])=_
    rw [tl_eq]
    by_cases hs:s' = s
    ·subst hs;rw [decide_eq_true rfl,if_pos rfl]
    ·rw [decide_eq_false (fun e=>hs e.symm),if_neg hs];rfl
  rw [hnew]
  by_cases hs:s' = s
  ·subst hs
   rw [h,if_pos rfl,if_pos rfl]
   show CV.int (bif Nat.blt n n then f n 1 else (bif Nat.beq 1 0 then CV.s s' else .i .i64 v))=v
   rw [hb];rfl
  ·rw [if_neg hs,if_neg hs]
   cases h3:mapF n f s' with
   | none=>rfl
   | some j =>
    have:=(mapF_some h3).1
    show CV.int (bif Nat.blt j n then f j 1 else _)=CV.int (f j 1)
    rw [blt_t this];rfl
def SuitP (gr:ByteArray) (th:Int) (PF:FF) (j:Nat):Prop :=
 (∀ i,i<j→CV.str (PF i 0)≠CV.str (PF j 0))∧CV.int (PF j 2)=1∧ByteArray.toList (CV.str (PF j 4))=ByteArray.toList gr∧CV.int (PF j 5)=th∧F13 100 (CV.len (PF j 6)) (CV.el (PF j 6)) (CV.len (PF j 7)) (CV.el (PF j 7))=some 0
structure RowE (x y:Nat→CV):Prop where
 id:CV.str (x 0)=CV.str (y 0)
 ol:CV.len (x 6)=CV.len (y 6)
 oe:CV.el (x 6)=CV.el (y 6)
 hl:CV.len (x 7)=CV.len (y 7)
 he:CV.el (x 7)=CV.el (y 7)
structure Suits (gr:ByteArray) (th:Int) (PF:FF) (i:Nat) (js:List Nat) (f:FF):Prop where
 asc:js.Pairwise (· < ·)
 ok:∀ j∈js,j<i∧SuitP gr th PF j
 all:∀ j,j<i→SuitP gr th PF j→j∈js
 row:∀ k,k<js.length→RowE (f k) (PF (js.getD k 0))
theorem Suits.skip {gr:ByteArray} {th:Int} {PF:FF} {i:Nat} {js:List Nat} {f:FF} (h:Suits gr th PF i js f) (hn:¬ SuitP gr th PF i):Suits gr th PF (i+1) js f :=
 ⟨h.asc,fun j hj=>⟨by have:=(h.ok j hj).1;omega,(h.ok j hj).2⟩,fun j hj hs=>by
  by_cases e:j=i
  ·subst e;exact absurd hs hn
  ·exact h.all j (by omega) hs,h.row⟩
theorem suit_loop {ρ:Type} (P:Nat) (PF:FF) (a gr e:ByteArray) (th L W:Int) (hP:P≤20) (k0:Nat→Nat→FF→FF→Option ρ):∀ (m i:Nat) (c:Nat) (M:FF) (js:List Nat) (f:FF),P<m+i→i≤P→js.length≤i →
  (∀ s,mapG c M s=1↔∃ j,j<i∧CV.str (PF j 0)=s)→Suits gr th PF i js f →
  ∃ c' M' js' f',L391v1 100 P PF (Int.ofNat P) a gr th L W e m js.length (Int.ofNat i) c M f k0=k0 js'.length c' M' f'∧js'.length≤P∧Suits gr th PF P js' f':=by
 intro m
 induction m with
 | zero=>intro i c M js f h1 h2;omega
 | succ m ih =>
  intro i c M js f h1 h2 hl hM hS
  unfold L391v1
  rw [lt_nat,inb_nat,toNat_nat]
  by_cases h:i<P
  ·have hM' : ∀ s,mapG (mapN c M (CV.str (PF i 0))) (mapR c M (CV.str (PF i 0)) 1) s=1↔∃ j,j<i+1∧CV.str (PF j 0)=s:=by
    intro s
    rw [mapG_put]
    by_cases hs:s=CV.str (PF i 0)
    ·rw [if_pos hs];exact ⟨fun _=>⟨i,by omega,hs.symm⟩,fun _=>rfl⟩
    ·rw [if_neg hs,hM]
     exact ⟨fun ⟨j,h3,h4⟩=>⟨j,by omega,h4⟩,fun ⟨j,h3,h4⟩=>by
      by_cases hj:j=i
      ·subst hj;exact absurd h4.symm hs
      ·exact ⟨j,by omega,h4⟩⟩
   rw [bif_t (decide_eq_true h),bif_t (decide_eq_true h),w64_succ (by omega)]
   have skip:¬ SuitP gr th PF i→∃ c' M' js' f',L391v1 100 P PF (Int.ofNat P) a gr th L W e m js.length (Int.ofNat (i+1)) (mapN c M (CV.str (PF i 0))) (mapR c M (CV.str (PF i 0)) 1) f k0=k0 js'.length c' M' f'∧js'.length≤P∧Suits gr th PF P js' f' :=
    fun hn=>ih (i+1) _ _ js f (by omega) (by omega) (by omega) hM' (hS.skip hn)
   by_cases c1:mapG c M (CV.str (PF i 0))=1
   ·rw [bif_f (by simp [c1])]
    obtain ⟨j,h3,h4⟩:=(hM _).1 c1
    exact skip fun hs=>hs.1 j h3 h4
   rw [bif_t (by simp [c1])]
   by_cases c2:CV.int (PF i 2)=1
   case neg=>rw [bif_f (by simp [c2])];exact skip fun hs=>c2 hs.2.1
   rw [bif_t (by simp [c2])]
   by_cases c3:ByteArray.toList (CV.str (PF i 4))=ByteArray.toList gr
   case neg=>rw [bif_f (by simp [c3])];exact skip fun hs=>c3 hs.2.2.1
   rw [bif_t (by simp [c3])]
   by_cases c4:CV.int (PF i 5)=th
   case neg=>rw [bif_f (by simp [c4])];exact skip fun hs=>c4 hs.2.2.2.1
   rw [bif_t (by simp [c4])]
   obtain ⟨z,z1,_⟩:=shape_law (CV.len (PF i 6)) (CV.len (PF i 7)) (CV.el (PF i 6)) (CV.el (PF i 7))
   rw [z1,ob_some]
   by_cases c5:z=0
   case neg=>rw [bif_f (by simp [c5])];exact skip fun hs=>c5 (Option.some.inj (z1.symm.trans hs.2.2.2.2))
   rw [bif_t (by simp [c5]),bif_t (ble_okN (by omega))]
   have hs:SuitP gr th PF i:=⟨fun j hj he=>c1 ((hM _).2 ⟨j,hj,he⟩),c2,c3,c4,by rw [z1,c5]⟩
   have hlen:(js ++ [i]).length=js.length+1:=by simp
   have:=ih (i+1) (mapN c M (CV.str (PF i 0))) (mapR c M (CV.str (PF i 0)) 1) (js ++ [i]) (joinF js.length f (rowsF 18 [(.s (CV.str (PF i 0))),(.i .i64 (CV.int (PF i 1))),(.i .i64 (CV.int (PF i 2))),(.s (CV.str (PF i 3))),(.s (CV.str (PF i 4))),(.i .i64 (CV.int (PF i 5))),(.ro false (.pr (.int .i64) (.pr (.int .i64) .nil)) (CV.len (PF i 6)) (CV.el (PF i 6))),(.ro false (.pr (.sl (.pr (.int .i64) (.pr (.int .i64) .nil))) .nil) (CV.len (PF i 7)) (CV.el (PF i 7))),(.s (CV.str (PF i 8))),(.i .i64 (CV.int (PF i 9))),(.i .i64 (CV.int (PF i 10))),(.i .i64 (CV.int (PF i 11))),(.i .i64 (CV.int (PF i 12))),(.i .i64 (CV.int (PF i 13))),(.i .i64 (CV.int (PF i 14))),(.i .i64 (CV.int (PF i 15))),(.i .i64 (CV.int (PF i 16))),(.i .i64 (CV.int (PF i 17)))]))
    (by omega) (by omega) (by omega) hM' ?_
   ·rw [hlen] at this;exact this
   refine ⟨?_,fun j hj=>?_,fun j hj hjs=>?_,fun k hk=>?_⟩
   ·rw [List.pairwise_append]
    exact ⟨hS.asc,List.pairwise_singleton _ _,fun x hx y hy=>by rw [List.mem_singleton] at hy;rw [hy];exact (hS.ok x hx).1⟩
   ·rcases List.mem_append.1 hj with hj | hj
    ·exact ⟨by have:=(hS.ok j hj).1;omega,(hS.ok j hj).2⟩
    ·rw [List.mem_singleton] at hj;subst hj;exact ⟨by omega,hs⟩
   ·by_cases hji:j=i
    ·subst hji;simp
    ·exact List.mem_append_left _ (hS.all j (by omega) hjs)
   ·by_cases hki:k<js.length
    ·have h1:=hS.row k hki
     rw [show (js ++ [i]).getD k 0=js.getD k 0 from by rw [List.getD_eq_getElem?_getD,List.getD_eq_getElem?_getD,List.getElem?_append_left hki]]
     exact ⟨by rw [joinF_o _ _ _ _ _ hki];exact h1.id,by rw [joinF_o _ _ _ _ _ hki];exact h1.ol,by rw [joinF_o _ _ _ _ _ hki];exact h1.oe,by rw [joinF_o _ _ _ _ _ hki];exact h1.hl,by rw [joinF_o _ _ _ _ _ hki];exact h1.he⟩
    ·have hke:k=js.length:=by omega
     subst hke
     have hg:(js ++ [i]).getD js.length 0=i:=by simp
     rw [hg]
     refine ⟨?_,?_,?_,?_,?_⟩<;>(rw [joinF_n _ _ _ _ _ (Nat.le_refl _),Nat.sub_self];rfl)
  ·rw [bif_f (decide_eq_false h)]
   have:i=P:=by omega
   subst this
   exact ⟨c,M,js,f,rfl,hl,hS⟩
theorem suit_law (P:Nat) (PF:FF) (a gr e:ByteArray) (th L W:Int) (hP:P≤20):∃ js f,F391 100 a gr th L W e P PF=some (js.length,f)∧js.length≤P∧Suits gr th PF P js f:=by
 unfold F391
 have hM:∀ s,mapG 0 (fun _ _=>CV.any) s=1↔∃ j,j<0∧CV.str (PF j 0)=s:=fun s=>by
  have e:mapG 0 (fun _ _=>CV.any) s=0:=rfl
  rw [e]
  refine ⟨fun h=>?_,fun h=>?_⟩
  ·cases h
  ·obtain ⟨j,h,_⟩:=h
   omega
 have hS:Suits gr th PF 0 [] (fun _ _=>.any):=by
  refine ⟨List.Pairwise.nil,fun j hj=>?_,fun j hj=>?_,fun k hk=>?_⟩
  ·cases hj
  ·omega
  ·cases hk
 obtain ⟨c,M,js,f,h1,h2,h3⟩:=suit_loop P PF a gr e th L W hP (fun x38 x39 x40 x41=>(some (x38,x41))) 100 0 0 (fun _ _=>.any) [] (fun _ _=>.any) (by omega) (by omega) (Nat.le_refl _) hM hS
 exact ⟨js,f,h1,h2,h3⟩
end Go.Eng.R13
/-
 Nester: a part moved (out of PnMove).
-/
set_option linter.all false
namespace Go.Eng.R13
open Go Go.RowKit Go.Eng Geo
structure Mv (T:Pt→Pt) (n1:Nat) (f1:Nat→Nat→CV) (n2:Nat) (f2 g1 g2:Nat→Nat→CV):Prop where
 fit:Rigid 1 T
 outer:∀ j,j<n1→pt g1 j=T (pt f1 j)
 len:∀ j,j<n2→CV.len (g2 j 0)=CV.len (f2 j 0)
 hole:∀ j,j<n2→∀ i,i<CV.len (f2 j 0)→pt (CV.el (g2 j 0)) i=T (pt (CV.el (f2 j 0)) i)
def Small (n1:Nat) (n2:Nat) (f2:Nat→Nat→CV):Prop:=n1≤40∧n2≤12∧∀ j,j<n2→CV.len (f2 j 0)≤40
structure MovedTo (s:ByteArray) (tx ty:Int) (turn:Int) (fl:Bool) (n1:Nat) (f1:Nat→Nat→CV) (n2:Nat) (f2:Nat→Nat→CV) (a:Nat) (c:Nat→Nat→CV) (b:Nat) (d:Nat→Nat→CV):Prop where
 small:Small a b d
 size:a≤n1∧b≤n2
 all:∀ t:Nat,turn=Int.ofNat t→t≤3→¬ (farB tx ty=true∨FarC (1+n2) (cfh n1 f1 f2) 0)→a=n1∧b=n2∧Are (cq fl t tx ty n1 f1) c n1∧Holes fl t tx ty f2 d n2
 none:(turn<0∨3<turn∨farB tx ty=true∨FarC (1+n2) (cfh n1 f1 f2) 0)→a=0∧b=0
theorem are_are {P:Nat→Int × Int} {f g:Nat→Nat→CV} {n:Nat} (h:Are P f n) (h' : Are P g n):∀ j,j<n→pt g j=pt f j:=fun j hj=>(are_pt h' j hj).trans (are_pt h j hj).symm
theorem move_eq (n1 n2:Nat) (f1 f2:Nat→Nat→CV) (s:ByteArray) (tx ty turn:Int) (fl:Bool) (S:Small n1 n2 f2):∃ a c b d c' d',
  F25 100 n1 f1 n2 f2 s tx ty turn fl=some (a,c,b,d)∧F26 100 n1 f1 n2 f2 s tx ty turn fl=some (a,c',b,d')∧Mv (fun p=>p) a c b d c' d'∧MovedTo s tx ty turn fl n1 f1 n2 f2 a c b d:=by
 obtain ⟨hn1,hn2,hh⟩:=S
 have nothing:∀ c d:Nat→Nat→CV,Mv (fun p=>p) 0 c 0 d (fun _ _=>.any) (fun _ _=>.any):=fun c d=>⟨rigid_id,fun j hj=>by omega,fun j hj=>by omega,fun j hj=>by omega⟩
 have hN:1+n2≤13:=by omega
 have hl:∀ j,j<1+n2→CV.len (joinF 1 (rowsF 1 [(.ro false (.pr (.int .i64) (.pr (.int .i64) .nil)) n1 f1)]) f2 j 0)≤40:=by
  intro j hj
  by_cases e:j<1
  ·have:j=0:=by omega
   subst this
   rw [joinF_old _ _ _ _ _ (by omega)]
   exact hn1
  ·rw [joinF_new _ _ _ _ _ (by omega)]
   exact hh _ (by omega)
 have c42:F42 100 n1 f1 n2 f2=some (1+n2,joinF 1 (rowsF 1 [(.ro false (.pr (.int .i64) (.pr (.int .i64) .nil)) n1 f1)]) f2):=by
  unfold F42
  rw [bif_t (ble_ok (by omega))]
 have c44:F44 100 n1 f1 n2 f2=some (1+n2,joinF 1 (rowsF 1 [(.ro false (.pr (.int .i64) (.pr (.int .i64) .nil)) n1 f1)]) f2):=c42
 have hcf:cfh n1 f1 f2=joinF 1 (rowsF 1 [(.ro false (.pr (.int .i64) (.pr (.int .i64) .nil)) n1 f1)]) f2:=rfl
 have nomove:(turn<0∨3<turn∨farB tx ty=true∨FarC (1+n2) (cfh n1 f1 f2) 0)→∀ c d,MovedTo s tx ty turn fl n1 f1 n2 f2 0 c 0 d:=fun h c d =>
  ⟨⟨by omega,by omega,fun j hj=>by omega⟩,⟨by omega,by omega⟩,fun t e1 e2 e3=>by
   rcases h with k | k | k
   ·rw [e1] at k;simp at k;omega
   ·rw [e1] at k;simp at k;omega
   ·exact absurd k e3,fun _=>⟨rfl,rfl⟩⟩
 rw [hcf] at nomove
 generalize hF:joinF 1 (rowsF 1 [(.ro false (.pr (.int .i64) (.pr (.int .i64) .nil)) n1 f1)]) f2=F at hl c42 c44 nomove hcf
 generalize hNN:1+n2=N at hN hl c42 c44 nomove
 by_cases ht1:turn<0
 ·refine ⟨0,(fun _ _=>.any),0,(fun _ _=>.any),_,_,?_,?_,nothing _ _,nomove (.inl ht1) _ _⟩
  ·unfold F25 FT25
   rw [bif_f (by simpa using ht1)];rfl
  ·unfold F26 FT26
   rw [c44,ob_some,bif_f (by simpa using ht1),show (0:Int)=Int.ofNat 0 from rfl,idle_outer N n1 n2 F f1 f2 s tx ty turn fl hN hl _ 100 0 (by omega) (by omega)];rfl
 ·by_cases ht2:turn>3
  ·refine ⟨0,(fun _ _=>.any),0,(fun _ _=>.any),_,_,?_,?_,nothing _ _,nomove (.inr (.inl ht2)) _ _⟩
   ·unfold F25 FT25
    rw [bif_t (by simpa using ht1),bif_f (by simpa using ht2)];rfl
   ·unfold F26 FT26
    rw [c44,ob_some,bif_t (by simpa using ht1),bif_f (by simpa using ht2),show (0:Int)=Int.ofNat 0 from rfl,idle_outer N n1 n2 F f1 f2 s tx ty turn fl hN hl _ 100 0 (by omega) (by omega)];rfl
  ·obtain ⟨t,rfl⟩:∃ t:Nat,turn=Int.ofNat t:=⟨turn.toNat,(Int.toNat_of_nonneg (by omega)).symm⟩
   have ht:t≤3:=by simp at ht2;omega
   have e25:(farB tx ty=true∨FarC N F 0)→F25 100 n1 f1 n2 f2 s tx ty (Int.ofNat t) fl=some (0,(fun _ _=>.any),0,(fun _ _=>.any)):=by
    intro hb
    unfold F25 FT25
    rw [bif_t (by simpa using ht1),bif_t (by simpa using ht2),far49,ob_some]
    cases hq:farB tx ty with
    | true=>rw [bif_t rfl];rfl
    | false =>
     rw [bif_f rfl,c42,ob_some,show (0:Int)=Int.ofNat 0 from rfl]
     have hc:FarC N F 0:=hb.resolve_left (by rw [hq];simp)
     rw [(farC_loop N n1 n2 F f1 f2 s tx ty (Int.ofNat t) fl hN hl _ _ 100 0 (by omega) (by omega)).1 hc];rfl
   obtain ⟨r,h3,h4⟩:=bad_outer N n1 n2 F f1 f2 s tx ty (Int.ofNat t) fl hN hl (fun x98=>(bif x98 then (some (true,0,(fun _ _=>CV.any),0,(fun _ _=>CV.any))) else (ob (F54 100 n1 f1 s tx ty (Int.ofNat t) fl) fun x99=>(L26v4 100 n1 f1 n2 f2 s tx ty (Int.ofNat t) fl x99.1 x99.2 100 0 0 (fun _ _=>.any)
 (fun x129 x130=>(some (false,x99.1,x99.2,x129,x130))))))) 100 0 (farB tx ty) (by omega) (by omega)
   by_cases hb:farB tx ty=true∨FarC N F 0
   ·refine ⟨0,_,0,_,_,_,e25 hb,?_,nothing _ _,nomove (.inr (.inr hb)) _ _⟩
    unfold F26 FT26
    rw [c44,ob_some,bif_t (by simpa using ht1),bif_t (by simpa using ht2),far53,ob_some]
    refine (congrArg (fun z=>ob z _) h3).trans ?_
    rw [h4.2 hb,bif_t rfl];rfl
   ·obtain ⟨g,hg1,hg2⟩:=moved_law s n1 t fl tx ty f1 hn1 ht
    obtain ⟨g',hg3,hg4⟩:=contour_law s n1 t fl tx ty f1 hn1 ht
    have hr:r=false:=by
     cases r with
     | false=>rfl
     | true=>exact absurd (h4.1 rfl) hb
    have hq:farB tx ty=false:=by
     cases hq:farB tx ty with
     | false=>rfl
     | true=>exact absurd (.inl hq) hb
    obtain ⟨x,hx1,hx2⟩:=holes25 s n2 t fl tx ty f2 n1 n1 f1 g hn2 hh ht (fun x71 x72=>(some (false,n1,g,x71,x72))) 100 0 (fun _ _=>.any) (by omega) (by omega) (fun j hj=>by omega)
    obtain ⟨x',hx3,hx4⟩:=holes26 s n2 t fl tx ty f2 n1 n1 f1 g' hn2 hh ht (fun x129 x130=>(some (false,n1,g',x129,x130))) 100 0 (fun _ _=>.any) (by omega) (by omega) (fun j hj=>by omega)
    refine ⟨n1,g,n2,x,g',x',?_,?_,⟨rigid_id,are_are hg2 hg4,fun j hj=>?_,fun j hj=>?_⟩,⟨⟨hn1,hn2,fun j hj=>?_⟩,⟨by omega,by omega⟩,fun t' e1 e2 e3=>?_,fun h=>?_⟩⟩
    ·unfold F25 FT25
     rw [bif_t (by simpa using ht1),bif_t (by simpa using ht2),far49,ob_some,hq,bif_f rfl,c42,ob_some]
     rw [show (0:Int)=Int.ofNat 0 from rfl]
     rw [(farC_loop N n1 n2 F f1 f2 s tx ty (Int.ofNat t) fl hN hl _ _ 100 0 (by omega) (by omega)).2 (fun hc=>hb (.inr hc)),hg1,ob_some]
     rw [hx1];rfl
    ·unfold F26 FT26
     rw [c44,ob_some,bif_t (by simpa using ht1),bif_t (by simpa using ht2),far53,ob_some]
     refine (congrArg (fun z=>ob z _) h3).trans ?_
     rw [hr,bif_f rfl,hg3,ob_some]
     refine (congrArg (fun z=>ob z _) hx3).trans ?_
     rfl
    ·exact (hx4 j hj).1.trans (hx2 j hj).1.symm
    ·obtain ⟨a1,a2⟩:=hx2 j hj
     obtain ⟨b1,b2⟩:=hx4 j hj
     rw [a1]
     exact are_are a2 b2
    ·rw [(hx2 j hj).1];exact hh j hj
    ·have:t' = t:=by have:=e1;simp at this;omega
     subst this
     exact ⟨rfl,rfl,hg2,hx2⟩
    ·rw [hcf,hNN] at h
     rcases h with k | k | k
     ·exact absurd k (by simp)
     ·exact absurd k ht2
     ·exact absurd k hb
end Go.Eng.R13
/-
 Nester: where a part comes to lie.
-/
set_option linter.all false
namespace Go.Eng.R13
open Go Go.RowKit Go.Eng Geo
theorem bounds20 (n:Nat) (f:FF) (n2:Nat) (f2:FF) (hn:n≤60):∃ p q r s,F20 100 n f n2 f2=some (p,q,r,s)∧(0<n→Bds f n p q r s):=by
 obtain ⟨p,q,r,s,h1,h2,_⟩:=bounds46 n f hn
 refine ⟨p,q,r,s,?_,h2⟩
 unfold F20
 rw [h1,ob_some]
structure PartV (p:Nat→CV):Prop where
 small:Small (CV.len (p 6)) (CV.len (p 7)) (CV.el (p 7))
 shape:VShape (CV.len (p 6)) (CV.el (p 6)) (CV.len (p 7)) (CV.el (p 7))
theorem PartV.box {p:Nat→CV} (V:PartV p):∃ a b c d,F20 100 (CV.len (p 6)) (CV.el (p 6)) (CV.len (p 7)) (CV.el (p 7))=some (a,b,c,d)∧Bds (CV.el (p 6)) (CV.len (p 6)) a b c d ∧
  (-32768≤a∧a≤c∧c≤32768)∧(-32768≤b∧b≤d∧d≤32768):=by
 have h3:=V.shape.outer.big
 have h4:=V.shape.outer.small
 obtain ⟨a,b,c,d,h1,h2⟩:=bounds20 (CV.len (p 6)) (CV.el (p 6)) (CV.len (p 7)) (CV.el (p 7)) (by omega)
 have hB:=h2 (by omega)
 refine ⟨a,b,c,d,h1,hB,?_⟩
 obtain ⟨q1,q2⟩:=hB
 obtain ⟨⟨j1,k1,e1⟩,⟨j2,k2,e2⟩,⟨j3,k3,e3⟩,⟨j4,k4,e4⟩⟩:=q2 (by omega)
 obtain ⟨n1,n2,n3,n4⟩:=V.shape.outer.near j1 k1
 obtain ⟨m1,m2,m3,m4⟩:=V.shape.outer.near j2 k2
 obtain ⟨r1,r2,r3,r4⟩:=V.shape.outer.near j3 k3
 obtain ⟨s1,s2,s3,s4⟩:=V.shape.outer.near j4 k4
 obtain ⟨w1,w2,w3,w4⟩:=q1 j1 k1
 omega
theorem PartV.good {p:Nat→CV} (V:PartV p):Good p:=by
 have h4:=V.shape.outer.small
 refine ⟨by omega,fun t=>?_⟩
 obtain ⟨a,b,c,d,h1,_,h2,h3⟩:=V.box
 obtain ⟨q,g1,g2⟩:=rect393 p t (by omega)
 have e:q=(a,b,c,d):=Option.some.inj (g1.symm.trans h1)
 subst e
 have e:szOf p t=szB t a b c d:=by unfold szOf;rw [g2];rfl
 rw [e]
 unfold szB
 split
 ·split<;>(dsimp only;omega)
 ·dsimp only;omega
theorem PartV.turned {p:Nat→CV} (V:PartV p) (t:Int) (ht:t=0∨t=1):∃ n f n2 f2 lx ly hx hy,F25 100 (CV.len (p 6)) (CV.el (p 6)) (CV.len (p 7)) (CV.el (p 7)) ByteArray.empty 0 0 t false=some (n,f,n2,f2) ∧
  F20 100 n f n2 f2=some (lx,ly,hx,hy)∧(-32768≤lx∧lx≤32768)∧(-32768≤ly∧ly≤32768):=by
 obtain ⟨tn,rfl,htn⟩:∃ tn:Nat,t=Int.ofNat tn∧tn≤1:=by
  rcases ht with rfl | rfl
  ·exact ⟨0,rfl,by omega⟩
  ·exact ⟨1,rfl,by omega⟩
 have h3:=V.shape.outer.big
 have h4:=V.shape.outer.small
 obtain ⟨a,c,b,d,c',d',e1,_,_,M⟩:=move_eq (CV.len (p 6)) (CV.len (p 7)) (CV.el (p 6)) (CV.el (p 7)) ByteArray.empty 0 0 (Int.ofNat tn) false V.small
 have nf:¬ (farB 0 0=true∨FarC (1+CV.len (p 7)) (cfh (CV.len (p 6)) (CV.el (p 6)) (CV.el (p 7))) 0):=by
  rintro (h | h)
  ·exact absurd h (by decide)
  ·exact not_farC V.shape.outer.near (fun j hj=>(V.shape.hole j hj).valid.near) h
 obtain ⟨rfl,rfl,hA,_⟩:=M.all tn rfl (by omega) nf
 obtain ⟨lx,ly,hx,hy,e2,e3⟩:=bounds20 (CV.len (p 6)) c (CV.len (p 7)) d (by omega)
 refine ⟨_,c,_,d,lx,ly,hx,hy,e1,e2,?_⟩
 obtain ⟨_,q2⟩:=e3 (by omega)
 obtain ⟨⟨j1,k1,w1⟩,⟨j2,k2,w2⟩,_⟩:=q2 (by omega)
 have key:∀ j,j<CV.len (p 6)→(-32768≤CV.int (c j 0)∧CV.int (c j 0)≤32768)∧(-32768≤CV.int (c j 1)∧CV.int (c j 1)≤32768):=by
  intro j hj
  obtain ⟨z1,z2⟩:=hA j hj
  obtain ⟨n1,n2,n3,n4⟩:=V.shape.outer.near j hj
  rw [z1,z2]
  have:tn=0∨tn=1:=by omega
  rcases this with rfl | rfl
  ·show (-32768≤w64 (CV.int (CV.el (p 6) j 0)+0)∧w64 (CV.int (CV.el (p 6) j 0)+0)≤32768)∧(-32768≤w64 (CV.int (CV.el (p 6) j 1)+0)∧w64 (CV.int (CV.el (p 6) j 1)+0)≤32768)
   rw [w64_of (by omega) (by omega),w64_of (by omega) (by omega)]
   omega
  ·show (-32768≤w64 (w64 (0-CV.int (CV.el (p 6) j 1))+0)∧w64 (w64 (0-CV.int (CV.el (p 6) j 1))+0)≤32768)∧(-32768≤w64 (CV.int (CV.el (p 6) j 0)+0)∧w64 (CV.int (CV.el (p 6) j 0)+0)≤32768)
   rw [w64_of (n:=0-CV.int (CV.el (p 6) j 1)) (by omega) (by omega),w64_of (by omega) (by omega),w64_of (by omega) (by omega)]
   omega
 rw [← w1,← w2]
 exact ⟨(key j1 k1).1,(key j2 k2).2⟩
def loOf (p:Nat→CV) (t:Int):Int × Int:=match F25 100 (CV.len (p 6)) (CV.el (p 6)) (CV.len (p 7)) (CV.el (p 7)) ByteArray.empty 0 0 t false with
 | some z=>match F20 100 z.1 z.2.1 z.2.2.1 z.2.2.2 with
  | some y=>(y.1,y.2.1)
  | none=>(0,0)
 | none=>(0,0)
def AtOk (p:Nat→CV) (t x y:Int):Prop:=(-32768≤x-(loOf p t).1∧x-(loOf p t).1≤32768)∧(-32768≤y-(loOf p t).2∧y-(loOf p t).2≤32768)
theorem PartV.lo {p:Nat→CV} (V:PartV p) (t:Int) (ht:t=0∨t=1):(-32768≤(loOf p t).1∧(loOf p t).1≤32768)∧(-32768≤(loOf p t).2∧(loOf p t).2≤32768):=by
 obtain ⟨n,f,n2,f2,lx,ly,hx,hy,e1,e2,e3⟩:=V.turned t ht
 unfold loOf
 rw [e1]
 dsimp only
 rw [e2]
 exact e3
theorem spot_law {p q:Nat→CV} (V:PartV p) (E:RowE q p) (t x y:Int) (ht:t=0∨t=1) (hx : -1099511627776≤x∧x≤1099511627776) (hy : -1099511627776≤y∧y≤1099511627776) :
  ∃ b,F394 100 q t x y=some (CV.str (p 0),x-(loOf p t).1,y-(loOf p t).2,t,false,b)∧(b=true↔AtOk p t x y):=by
 have L:=V.lo t ht
 obtain ⟨n,f,n2,f2,lx,ly,hx',hy',e1,e2,_⟩:=V.turned t ht
 have el:loOf p t=(lx,ly):=by
  unfold loOf
  rw [e1]
  dsimp only
  rw [e2]
 unfold F394 AtOk
 rw [E.ol,E.oe,E.hl,E.he,e1,ob_some]
 dsimp only
 rw [e2,ob_some,E.id,el]
 rw [el] at L
 dsimp only at L ⊢
 rw [w64_of (n:=x-lx) (by omega) (by omega),w64_of (n:=y-ly) (by omega) (by omega),within389,ob_some]
 by_cases c1 : -32768≤x-lx∧x-lx≤32768
 ·rw [bif_t (by simp [c1.1,c1.2]),within389,ob_some]
  refine ⟨_,rfl,?_⟩
  simp only [Bool.and_eq_true,decide_eq_true_eq]
  exact ⟨fun h=>⟨c1,h⟩,fun h=>h.2⟩
 ·rw [bif_f (by simp only [beq_eq_false_iff_ne,ne_eq,Bool.not_eq_true,Bool.and_eq_false_iff,decide_eq_false_iff_not];omega)]
  exact ⟨false,rfl,by simp only [Bool.false_eq_true,false_iff];exact fun h=>c1 h.1⟩
end Go.Eng.R13
/-
 Nester: the plan of parts at rectangles.
-/
set_option linter.all false
namespace Go.Eng.R13
open Go Go.RowKit Go.Eng Geo
theorem FitsP.congr {len wid:Int} {n:Nat} {r r' : FF} {x y l w gap:Int} (e:∀ j c,j<n→c<4→bx r' j c=bx r j c) (h:FitsP len wid n r x y l w gap):FitsP len wid n r' x y l w gap:=by
 obtain ⟨h1,h2,h3,h4⟩:=h
 refine ⟨h1,fun j hj=>?_,h3,fun j hj=>?_⟩
 ·have:=h2 j hj
  unfold NrJ at this ⊢
  rw [e j 0 hj (by omega),e j 1 hj (by omega),e j 2 hj (by omega),e j 3 hj (by omega)];exact this
 ·have:=h4 j hj
  unfold AptJ at this ⊢
  rw [e j 0 hj (by omega),e j 1 hj (by omega),e j 2 hj (by omega),e j 3 hj (by omega)];exact this
abbrev cN (ch:FF) (i:Nat):Nat:=(CV.int (ch i 0)).toNat
structure ChosenOk (n:Nat) (f:FF) (tl:List Int) (k:Nat) (ch R:FF):Prop where
 n4:n≤4
 tlen:tl.length=n
 k4:k≤4
 part:∀ i,i<n→PartV (f i)
 mem:∀ i,i<k→0≤CV.int (ch i 0)∧CV.int (ch i 0)<n
 turn:∀ i,i<k→tl.getD (cN ch i) 0=0∨tl.getD (cN ch i) 0=1
 rng:∀ i,i<k→∀ c,c<4→0≤bx R (cN ch i) c∧bx R (cN ch i) c≤1099511627776
end Go.Eng.R13
/-
 Nester: a part found by its name;parts that are few (out of PnCheck).
-/
set_option linter.all false
namespace Go.Eng.R13
open Go Go.RowKit Go.Eng Geo
abbrev FF':=Nat→Nat→CV
abbrev Sp:=ByteArray × Int × Int × Int × Bool
abbrev Sh:=Nat × (Nat→Nat→CV) × Nat × (Nat→Nat→CV)
def sp (S:FF') (j:Nat):Sp:=(CV.str (S j 0),CV.int (S j 1),CV.int (S j 2),CV.int (S j 3),CV.bool (S j 4))
def eqS (a b:ByteArray):Bool:=ByteArray.toList a==ByteArray.toList b
def fdGo (PF:FF') (s:ByteArray):Nat→Nat→Int
 | 0,_=>-1
 | m+1,i=>bif eqS (CV.str (PF i 0)) s then Int.ofNat i else fdGo PF s m (i+1)
def fd (P:Nat) (PF:FF') (s:ByteArray):Int:=fdGo PF s P 0
structure FewP (P:Nat) (PF:FF'):Prop where
 parts:P≤20
 outer:∀ j,j<P→CV.len (PF j 6)≤12
 holes:∀ j,j<P→CV.len (PF j 7)≤4
 hole:∀ j,j<P→∀ i,i<CV.len (PF j 7)→CV.len (CV.el (PF j 7) i 0)≤12
theorem FewP.small {P:Nat} {PF:FF'} (h:FewP P PF) {j:Nat} (hj:j<P):Small (CV.len (PF j 6)) (CV.len (PF j 7)) (CV.el (PF j 7)) :=
 ⟨by have:=h.outer j hj;omega,by have:=h.holes j hj;omega,fun i hi=>by have:=h.hole j hj i hi;omega⟩
end Go.Eng.R13
/-
 Nester: the area that a plan uses.
-/
set_option linter.all false
namespace Go.Eng.R13
open Go Go.RowKit Go.Eng Geo
end Go.Eng.R13
/-
 Nester: one step of Best: the chosen parts,their packing,and that a smaller gap or a larger plate lets more be laid.
-/
set_option linter.all false
namespace Go.Eng.R13
open Go Go.RowKit Go.Eng Geo
structure Chs (tl:List Int) (i k:Nat) (c:FF):Prop where
 le:k≤i
 mem:∀ t,t<k→(0≤CV.int (c t 0)∧CV.int (c t 0)<i)∧0≤tl.getD (cN c t) 0
 asc:∀ s t,s<t→t<k→CV.int (c s 0)<CV.int (c t 0)
 all:∀ j:Nat,j<i→0≤tl.getD j 0→∃ t,t<k∧CV.int (c t 0)=j
structure StepS (n:Nat) (f:FF) (tl:List Int) (k:Nat) (c:FF) (first second:List Int):Prop where
 n4:n≤4
 part:∀ i,i<n→PartV (f i)
 vec:okV n tl=true
 chs:Chs tl n k c
 p1:first.Perm (liL k c)
 p2:second.Perm (liL k c)
theorem liL_len (k:Nat) (c:FF):(liL k c).length=k:=by simp [liL]
theorem liL_get {k:Nat} {c:FF} {t:Nat} (h:t<k):(liL k c)[t]?=some (CV.int (c t 0)):=by
 unfold liL
 rw [List.getElem?_map,List.getElem?_range h];rfl
theorem StepS.tlen {n k:Nat} {f c:FF} {tl first second:List Int} (H:StepS n f tl k c first second):tl.length=n:=by
 have:=H.vec
 unfold okV at this
 rw [Bool.and_eq_true] at this
 exact Nat.eq_of_beq_eq_true this.1
theorem okV_turn {n:Nat} {tl:List Int} (h:okV n tl=true) {i:Nat} (hi:i<n) (h0:0≤tl.getD i 0):tl.getD i 0=0∨tl.getD i 0=1:=by
 unfold okV at h
 rw [Bool.and_eq_true] at h
 have hl:=Nat.eq_of_beq_eq_true h.1
 have h2:=List.all_eq_true.1 h.2 (tl.getD i 0) (by rw [List.getD_eq_getElem?_getD,List.getElem?_eq_getElem (by omega)];exact List.getElem_mem _)
 simp only [Bool.or_eq_true,beq_iff_eq] at h2
 omega
theorem StepS.place {n k:Nat} {f c:FF} {tl first second:List Int} (H:StepS n f tl k c first second):second.length=k∧first.length=k ∧
  (∀ t,t<k→∃ i,i<k∧second.getD t 0=CV.int (c i 0))∧(∀ i,i<k→∃ t,t<k∧second.getD t 0=CV.int (c i 0))∧(∀ s t,s<t→t<k→second.getD s 0≠second.getD t 0):=by
 have l2:=H.p2.length_eq
 have l1:=H.p1.length_eq
 rw [liL_len] at l1 l2
 have nd:(liL k c).Nodup:=by
  rw [List.nodup_iff_pairwise_ne,List.pairwise_iff_getElem]
  intro i j hi hj hij
  rw [liL_len] at hi hj
  have e1:=liL_get (c:=c) hi
  have e2:=liL_get (c:=c) hj
  rw [List.getElem?_eq_getElem (by rw [liL_len];exact hi)] at e1
  rw [List.getElem?_eq_getElem (by rw [liL_len];exact hj)] at e2
  rw [Option.some.inj e1,Option.some.inj e2]
  have:=H.chs.asc i j hij hj
  omega
 have nd2:second.Nodup:=H.p2.nodup_iff.2 nd
 refine ⟨l2,l1,fun t ht=>?_,fun i hi=>?_,fun s t hst ht=>?_⟩
 ·have hm:second.getD t 0∈liL k c:=H.p2.subset (by rw [List.getD_eq_getElem?_getD,List.getElem?_eq_getElem (by omega)];exact List.getElem_mem _)
  obtain ⟨i,hi,e⟩:=List.getElem_of_mem hm
  rw [liL_len] at hi
  have e1:=liL_get (c:=c) hi
  rw [List.getElem?_eq_getElem (by rw [liL_len];exact hi)] at e1
  exact ⟨i,hi,e.symm.trans (Option.some.inj e1)⟩
 ·have hm:CV.int (c i 0)∈second:=H.p2.symm.subset (by
   have e1:=liL_get (c:=c) hi
   rw [List.getElem?_eq_getElem (by rw [liL_len];exact hi)] at e1
   rw [← Option.some.inj e1];exact List.getElem_mem _)
  obtain ⟨t,ht,e⟩:=List.getElem_of_mem hm
  exact ⟨t,by omega,by rw [List.getD_eq_getElem?_getD,List.getElem?_eq_getElem ht];exact e⟩
 ·rw [List.nodup_iff_pairwise_ne,List.pairwise_iff_getElem] at nd2
  have:=nd2 s t (by omega) (by omega) hst
  rw [List.getD_eq_getElem?_getD,List.getElem?_eq_getElem (by omega),List.getD_eq_getElem?_getD,List.getElem?_eq_getElem (by omega)]
  exact this
end Go.Eng.R13
/-
 Nester: the packing of a step;a smaller gap or a larger plate lets more be laid.
-/
set_option linter.all false
namespace Go.Eng.R13
open Go Go.RowKit Go.Eng Geo
structure PkC (f:FF) (tl:List Int) (gap:Int) (k:Nat) (c R:FF):Prop where
 lo:∀ i,i<k→(gap≤bx R (cN c i) 0∧bx R (cN c i) 0≤1000000)∧(gap≤bx R (cN c i) 1∧bx R (cN c i) 1≤1000000)
 hi:∀ i,i<k→bx R (cN c i) 2=bx R (cN c i) 0+(szOf (f (cN c i)) (tl.getD (cN c i) 0)).1∧bx R (cN c i) 3=bx R (cN c i) 1+(szOf (f (cN c i)) (tl.getD (cN c i) 0)).2
 sep:∀ i j,i<k→j<k→i≠j→(bx R (cN c i) 2+gG gap≤bx R (cN c j) 0∨bx R (cN c i) 3+gG gap≤bx R (cN c j) 1)∨(bx R (cN c j) 2+gG gap≤bx R (cN c i) 0∨bx R (cN c j) 3+gG gap≤bx R (cN c i) 1)
theorem PkC.ok {n k:Nat} {f c:FF} {tl first second:List Int} (H:StepS n f tl k c first second) {gap:Int} {R:FF} (hgap:0≤gap) (h:PkC f tl gap k c R):ChosenOk n f tl k c R:=by
 have hk:=H.chs.le
 have hn:=H.n4
 refine ⟨hn,H.tlen,by omega,H.part,fun i hi=>(H.chs.mem i hi).1,fun i hi=>okV_turn H.vec (by have:=(H.chs.mem i hi).1;unfold cN;omega) (H.chs.mem i hi).2,fun i hi d hd=>?_⟩
 have m:=(H.chs.mem i hi).1
 have s:=(H.part (cN c i) (by unfold cN;omega)).good.sz (tl.getD (cN c i) 0)
 have l:=h.lo i hi
 have u:=h.hi i hi
 have:d=0∨d=1∨d=2∨d=3:=by omega
 rcases this with rfl | rfl | rfl | rfl<;>omega
end Go.Eng.R13
/-
 Nester: Best's three loops as folds of one step.
-/
set_option linter.all false
namespace Go.Eng.R13
open Go Go.RowKit Go.Eng Geo
end Go.Eng.R13
/-
 NesterLess: Best at two settings in lockstep.
-/
set_option linter.all false
namespace Go.Eng.R13
open Go Go.RowKit Go.Eng Geo
end Go.Eng.R13
/-
 NesterLess: the plain law.
-/
set_option linter.all false
namespace Go.Eng.R13
open Go Go.RowKit Go.Eng Geo
theorem few390v2 {ρ:Type} (P:Nat) (PF:FF) (i:Nat) (hi:i<P) (hh:CV.len (PF i 7)≤4) (k0 k1:Option ρ):∀ (m j:Nat),CV.len (PF i 7)<m+j→j≤CV.len (PF i 7) →
  L390v2 100 P PF (Int.ofNat i) m (Int.ofNat j) k0 k1=k0∨(L390v2 100 P PF (Int.ofNat i) m (Int.ofNat j) k0 k1=k1∧∀ t,j≤t→t<CV.len (PF i 7)→CV.len (CV.el (PF i 7) t 0)≤12):=by
 intro m
 induction m with
 | zero=>intro j h1 h2;omega
 | succ m ih =>
  intro j h1 h2
  unfold L390v2
  rw [inb_nat,toNat_nat,toNat_nat,lt_nat,inb_nat,bif_t (decide_eq_true hi)]
  by_cases h:j<CV.len (PF i 7)
  ·rw [bif_t (decide_eq_true h),bif_t (decide_eq_true hi),bif_t (decide_eq_true h),w64_succ (by omega)]
   by_cases c:(Int.ofNat (CV.len ((CV.el (PF i 7)) j 0)))>12
   ·rw [bif_t (decide_eq_true c)];exact .inl rfl
   ·rw [bif_f (decide_eq_false c)]
    have c:¬ (CV.len ((CV.el (PF i 7)) j 0):Int)>12:=c
    rcases ih (j+1) (by omega) (by omega) with e | ⟨e,hq⟩
    ·exact .inl e
    ·refine .inr ⟨e,fun t h3 h4=>?_⟩
     by_cases ht:t=j
     ·subst ht;omega
     ·exact hq t (by omega) h4
  ·rw [bif_f (decide_eq_false h)];exact .inr ⟨rfl,fun t h3 h4=>by omega⟩
theorem few390v3 {ρ:Type} (P:Nat) (PF:FF) (hP:P≤20) (k0 k1:Option ρ):∀ (m i:Nat),P<m+i→i≤P →
  L390v3 100 P PF m (Int.ofNat i) k0 k1=k0∨(L390v3 100 P PF m (Int.ofNat i) k0 k1=k1∧∀ j,i≤j→j<P→CV.len (PF j 6)≤12∧CV.len (PF j 7)≤4∧∀ t,t<CV.len (PF j 7)→CV.len (CV.el (PF j 7) t 0)≤12):=by
 intro m
 induction m with
 | zero=>intro i h1 h2;omega
 | succ m ih =>
  intro i h1 h2
  unfold L390v3
  rw [lt_nat,inb_nat,toNat_nat]
  by_cases h:i<P
  ·obtain ⟨b,e1,_⟩:=few386 (listF (pj kR0 (PF i)))
   rw [bif_t (decide_eq_true h),bif_t (decide_eq_true h),e1,ob_some]
   cases b with
   | false=>exact .inl rfl
   | true =>
    rw [bif_t (by rfl),bif_t (decide_eq_true h),bd]
    by_cases c1:(Int.ofNat (CV.len (PF i 6)))>12
    ·rw [if_pos c1];exact .inl rfl
    rw [if_neg c1,bif_t (decide_eq_true h)]
    by_cases c2:(Int.ofNat (CV.len (PF i 7)))>4
    ·rw [bif_t (decide_eq_true c2)];exact .inl rfl
    rw [bif_f (decide_eq_false c2),w64_succ (by omega)]
    have c1:¬ (CV.len (PF i 6):Int)>12:=c1
    have c2:¬ (CV.len (PF i 7):Int)>4:=c2
    rcases few390v2 P PF i h (by omega) k0 (L390v3 100 P PF m (Int.ofNat (i+1)) k0 k1) 100 0 (by omega) (by omega) with e | ⟨e,hq⟩
    ·exact .inl e
    ·rcases ih (i+1) (by omega) (by omega) with e2 | ⟨e2,hr⟩
     ·exact .inl (e.trans e2)
     ·refine .inr ⟨e.trans e2,fun j h3 h4=>?_⟩
      by_cases hj:j=i
      ·subst hj;exact ⟨by omega,by omega,fun t ht=>hq t (by omega) ht⟩
      ·exact hr j (by omega) h4
  ·rw [bif_f (decide_eq_false h)];exact .inr ⟨rfl,fun j h3 h4=>by omega⟩
theorem few390 (P:Nat) (PF:FF) (n:Nat) (hn:n≤20):∃ b,F390 100 P PF (n:Int)=some b∧(b=true→FewP P PF∧P≤n):=by
 unfold F390
 by_cases c:(Int.ofNat P)>(n:Int)
 ·rw [bif_t (decide_eq_true c)];exact ⟨false,rfl,fun h=>by cases h⟩
 rw [bif_f (decide_eq_false c)]
 have c:¬ (P:Int)>(n:Int):=c
 rcases few390v3 P PF (by omega) (some false) (some true) 100 0 (by omega) (by omega) with e | ⟨e,h⟩
 ·exact ⟨false,e,fun h=>by cases h⟩
 ·exact ⟨true,e,fun _=>⟨⟨by omega,fun j hj=>(h j (by omega) hj).1,fun j hj=>(h j (by omega) hj).2.1,fun j hj=>(h j (by omega) hj).2.2⟩,by omega⟩⟩
theorem PartV.of_row {x y:Nat→CV} (E:RowE x y) (V:PartV y):PartV x:=⟨by rw [E.ol,E.hl,E.he];exact V.small,by rw [E.ol,E.oe,E.hl,E.he];exact V.shape⟩
theorem part_of {P:Nat} {PF:FF} (hP:FewP P PF) {gr:ByteArray} {th:Int} {j:Nat} (hj:j<P) (h:SuitP gr th PF j):PartV (PF j):=by
 refine ⟨hP.small hj,?_⟩
 obtain ⟨z,z1,_,z3⟩:=shape_law (CV.len (PF j 6)) (CV.len (PF j 7)) (CV.el (PF j 6)) (CV.el (PF j 7))
 exact z3.1 (Option.some.inj (z1.symm.trans h.2.2.2.2))
end Go.Eng.R13
/-
 Nester: the reference's suitable parts are the program's.
-/
set_option linter.all false
namespace Go.Eng.R13
open Go Go.RowKit Go.Eng
theorem find176_loop (P:Nat) (PF:FF') (s:ByteArray) (hP:P≤90):∀ (m i:Nat),P<m+i→i≤P→L176v1 100 P PF s m (Int.ofNat i) (fun x=>some x) (some (-1))=some (fdGo PF s (P-i) i):=by
 intro m
 induction m with
 | zero=>intro i h1 h2;omega
 | succ m ih =>
  intro i h1 h2
  unfold L176v1
  rw [lt_nat,inb_nat,toNat_nat]
  by_cases h:i<P
  ·rw [bif_t (decide_eq_true h),bif_t (decide_eq_true h),show P-i=(P-(i+1))+1 from by omega,fdGo]
   unfold eqS
   cases hq:(ByteArray.toList (CV.str (PF i 0))==ByteArray.toList s) with
   | true=>rfl
   | false=>rw [bif_f rfl,bif_f rfl,w64_succ (by omega)];exact ih (i+1) (by omega) (by omega)
  ·rw [bif_f (decide_eq_false h),show P-i=0 from by omega];rfl
theorem find176 (P:Nat) (PF:FF') (s:ByteArray) (hP:P≤90):F176 100 P PF s=some (fd P PF s):=find176_loop P PF s hP 100 0 (by omega) (by omega)
theorem fdGo_first (PF:FF') (s:ByteArray):∀ (m i k:Nat),fdGo PF s m i=Int.ofNat k→∀ j,i≤j→j<k→eqS (CV.str (PF j 0)) s=false:=by
 intro m
 induction m with
 | zero=>intro i k h;exact absurd h (by intro h;have h:(-1:Int)=(k:Int):=h;omega)
 | succ m ih =>
  intro i k h j h1 h2
  unfold fdGo at h
  cases hq:eqS (CV.str (PF i 0)) s with
  | true =>
   rw [hq] at h
   have h:(i:Int)=(k:Int):=h
   omega
  | false =>
   rw [hq] at h
   by_cases e:j=i
   ·subst e;exact hq
   ·exact ih (i+1) k h j (by omega) h2
theorem fdGo_hit (PF:FF') (s:ByteArray):∀ (m i k:Nat),i≤k→k<i+m→eqS (CV.str (PF k 0)) s=true→(∀ j,i≤j→j<k→eqS (CV.str (PF j 0)) s=false)→fdGo PF s m i=Int.ofNat k:=by
 intro m
 induction m with
 | zero=>intro i k h1 h2;omega
 | succ m ih =>
  intro i k h1 h2 h3 h4
  unfold fdGo
  by_cases e:i=k
  ·subst e;rw [h3];rfl
  ·rw [h4 i (Nat.le_refl _) (by omega)]
   exact ih (i+1) k (by omega) (by omega) h3 fun j a b=>h4 j (by omega) b
theorem eqS_iff (a b:ByteArray):eqS a b=true↔a=b:=by unfold eqS;rw [tl_eq,decide_eq_true_eq]
theorem fd_first {P:Nat} {PF:FF'} {i:Nat} (hi:i<P):fd P PF (CV.str (PF i 0))=Int.ofNat i↔∀ j,j<i→CV.str (PF j 0)≠CV.str (PF i 0):=by
 constructor
 ·intro h j hj e
  have:=fdGo_first PF _ P 0 i h j (by omega) hj
  rw [(eqS_iff _ _).2 e] at this;cases this
 ·intro h
  refine fdGo_hit PF _ P 0 i (by omega) (by omega) ((eqS_iff _ _).2 rfl) fun j _ hj=>?_
  cases hq:eqS (CV.str (PF j 0)) (CV.str (PF i 0)) with
  | false=>rfl
  | true=>exact absurd ((eqS_iff _ _).1 hq) (h j hj)
theorem suit_ref_loop {ρ:Type} (P:Nat) (PF:FF) (a gr e:ByteArray) (th L W:Int) (hP:P≤20) (k0:Nat→FF→Option ρ):∀ (m i n:Nat) (c:Nat) (M f:FF),P<m+i→i≤P→n≤i →
  (∀ s,mapG c M s=1↔∃ j,j<i∧CV.str (PF j 0)=s) →
  L409v1 100 P PF a gr th L W e m n (Int.ofNat i) f k0=L391v1 100 P PF (Int.ofNat P) a gr th L W e m n (Int.ofNat i) c M f (fun x _ _ y=>k0 x y):=by
 intro m
 induction m with
 | zero=>intro i n c M f h1 h2;omega
 | succ m ih =>
  intro i n c M f h1 h2 hl hM
  unfold L409v1 L391v1
  rw [lt_nat,inb_nat,toNat_nat]
  by_cases h:i<P
  ·have hM' : ∀ s,mapG (mapN c M (CV.str (PF i 0))) (mapR c M (CV.str (PF i 0)) 1) s=1↔∃ j,j<i+1∧CV.str (PF j 0)=s:=by
    intro s
    rw [mapG_put]
    by_cases hs:s=CV.str (PF i 0)
    ·rw [if_pos hs];exact ⟨fun _=>⟨i,by omega,hs.symm⟩,fun _=>rfl⟩
    ·rw [if_neg hs,hM]
     exact ⟨fun ⟨j,h3,h4⟩=>⟨j,by omega,h4⟩,fun ⟨j,h3,h4⟩=>by
      by_cases hj:j=i
      ·subst hj;exact absurd h4.symm hs
      ·exact ⟨j,by omega,h4⟩⟩
   rw [bif_t (decide_eq_true h),bif_t (decide_eq_true h),bif_t (decide_eq_true h),bif_t (decide_eq_true h),w64_succ (by omega),find176 P PF _ (by omega),ob_some]
   have go:=fun (n:Nat) (f:FF) (hn:n≤i+1)=>ih (i+1) n _ _ f (by omega) (by omega) hn hM'
   obtain ⟨z,z1,z2,_⟩:=shape_law (CV.len (PF i 6)) (CV.len (PF i 7)) (CV.el (PF i 6)) (CV.el (PF i 7))
   rw [z1,z2,ob_some,ob_some]
   have hf:=fd_first (PF:=PF) h
   by_cases c1:mapG c M (CV.str (PF i 0))=1
   ·have hnf:¬ fd P PF (CV.str (PF i 0))=Int.ofNat i:=fun q=>by
     obtain ⟨j,h3,h4⟩:=(hM _).1 c1
     exact hf.1 q j h3 h4
    rw [bif_f (c:=((!(mapG c M (CV.str (PF i 0))==1))==true)) (by simp [c1]),bif_f (c:=((fd P PF (CV.str (PF i 0))==Int.ofNat i)==true)) (by simpa using hnf),← go n f (by omega)]
    cases (CV.int (PF i 2)==1)<;>cases (ByteArray.toList (CV.str (PF i 4))==ByteArray.toList gr)<;>cases (CV.int (PF i 5)==th)<;>rfl
   ·have hyf:fd P PF (CV.str (PF i 0))=Int.ofNat i:=hf.2 fun j hj e=>c1 ((hM _).2 ⟨j,hj,e⟩)
    rw [bif_t (c:=((!(mapG c M (CV.str (PF i 0))==1))==true)) (by simp [c1]),bif_t (c:=((fd P PF (CV.str (PF i 0))==Int.ofNat i)==true)) (by simp [hyf]),← go n f (by omega),← go (n+1) _ (by omega)]
  ·rw [bif_f (decide_eq_false h),bif_f (decide_eq_false h)]
theorem suit_ref (P:Nat) (PF:FF) (a gr e:ByteArray) (th L W:Int) (hP:P≤20):F409 100 a gr th L W e P PF=F391 100 a gr th L W e P PF:=by
 unfold F409 F391
 have hM:∀ s,mapG 0 (fun _ _=>CV.any) s=1↔∃ j,j<0∧CV.str (PF j 0)=s:=fun s=>by
  have e:mapG 0 (fun _ _=>CV.any) s=0:=rfl
  rw [e]
  refine ⟨fun h=>?_,fun h=>?_⟩
  ·cases h
  ·obtain ⟨j,h,_⟩:=h
   omega
 exact suit_ref_loop P PF a gr e th L W hP (fun x34 x35=>(some (x34,x35))) 100 0 0 0 (fun _ _=>.any) (fun _ _=>.any) (by omega) (by omega) (Nat.le_refl _) hM
end Go.Eng.R13
/-
 Nester: the reference's spot;the box of a part that is laid.
-/
set_option linter.all false
namespace Go.Eng.R13
open Go Go.RowKit Go.Eng Geo
theorem Bds.congr {f f' : FF} {n:Nat} {a b c d:Int} (e:∀ j,j<n→pt f' j=pt f j) (h:Bds f n a b c d):Bds f' n a b c d:=by
 have e0:∀ j,j<n→CV.int (f' j 0)=CV.int (f j 0):=fun j hj=>congrArg Prod.fst (e j hj)
 have e1:∀ j,j<n→CV.int (f' j 1)=CV.int (f j 1):=fun j hj=>congrArg Prod.snd (e j hj)
 obtain ⟨h1,h2⟩:=h
 refine ⟨fun j hj=>?_,fun hn=>?_⟩
 ·rw [e0 j hj,e1 j hj];exact h1 j hj
 ·obtain ⟨⟨j1,k1,w1⟩,⟨j2,k2,w2⟩,⟨j3,k3,w3⟩,⟨j4,k4,w4⟩⟩:=h2 hn
  exact ⟨⟨j1,k1,by rw [e0 j1 k1];exact w1⟩,⟨j2,k2,by rw [e1 j2 k2];exact w2⟩,⟨j3,k3,by rw [e0 j3 k3];exact w3⟩,⟨j4,k4,by rw [e1 j4 k4];exact w4⟩⟩
theorem PartV.turned_ref {p:Nat→CV} (V:PartV p) (t:Int) (ht:t=0∨t=1):∃ n f n2 f2 hx hy,F26 100 (CV.len (p 6)) (CV.el (p 6)) (CV.len (p 7)) (CV.el (p 7)) ByteArray.empty 0 0 t false=some (n,f,n2,f2) ∧
  F21 100 n f n2 f2=some ((loOf p t).1,(loOf p t).2,hx,hy):=by
 obtain ⟨tn,rfl,htn⟩:∃ tn:Nat,t=Int.ofNat tn∧tn≤1:=by
  rcases ht with rfl | rfl
  ·exact ⟨0,rfl,by omega⟩
  ·exact ⟨1,rfl,by omega⟩
 have h3:=V.shape.outer.big
 have h4:=V.shape.outer.small
 obtain ⟨a,c,b,d,c',d',e1,e2,M1,M⟩:=move_eq (CV.len (p 6)) (CV.len (p 7)) (CV.el (p 6)) (CV.el (p 7)) ByteArray.empty 0 0 (Int.ofNat tn) false V.small
 have nf:¬ (farB 0 0=true∨FarC (1+CV.len (p 7)) (cfh (CV.len (p 6)) (CV.el (p 6)) (CV.el (p 7))) 0):=by
  rintro (h | h)
  ·exact absurd h (by decide)
  ·exact not_farC V.shape.outer.near (fun j hj=>(V.shape.hole j hj).valid.near) h
 obtain ⟨rfl,rfl,hA,_⟩:=M.all tn rfl (by omega) nf
 obtain ⟨lx,ly,hx,hy,b1,b2⟩:=bounds20 (CV.len (p 6)) c (CV.len (p 7)) d (by omega)
 obtain ⟨lx',ly',hx',hy',b3,b4⟩:=bounds_law (CV.len (p 6)) (CV.len (p 7)) c' d' (by omega)
 obtain ⟨rfl,rfl,rfl,rfl⟩:=Bds.unique (by omega) ((b2 (by omega)).congr M1.outer) (b4 (by omega))
 have el:loOf p (Int.ofNat tn)=(lx,ly):=by
  unfold loOf
  rw [e1]
  dsimp only
  rw [b1]
 exact ⟨_,c',_,d',hx,hy,e2,by rw [el];exact b3⟩
theorem spot_ref {p q:Nat→CV} (V:PartV p) (E:RowE q p) (t x y:Int) (ht:t=0∨t=1) (hx : -1099511627776≤x∧x≤1099511627776) (hy : -1099511627776≤y∧y≤1099511627776) :
  ∃ b,F410 100 q x y t=some (CV.str (p 0),x-(loOf p t).1,y-(loOf p t).2,t,false,b)∧(b=true↔AtOk p t x y):=by
 have L:=V.lo t ht
 obtain ⟨n,f,n2,f2,hx',hy',e1,e2⟩:=V.turned_ref t ht
 unfold F410 AtOk
 rw [E.ol,E.oe,E.hl,E.he,e1,ob_some]
 dsimp only
 rw [e2,ob_some,E.id]
 dsimp only
 rw [w64_of (n:=x-(loOf p t).1) (by omega) (by omega),w64_of (n:=y-(loOf p t).2) (by omega) (by omega),near404 _ _ _ _ (by omega),ob_some]
 refine ⟨_,rfl,?_⟩
 rw [decide_eq_true_eq]
 exact ⟨fun h=>⟨⟨h.1,h.2.1⟩,h.2.2.1,h.2.2.2⟩,fun h=>⟨h.1.1,h.1.2,h.2.1,h.2.2⟩⟩
end Go.Eng.R13
/-
 Nester: the box of a part at a spot.
-/
set_option linter.all false
namespace Go.Eng.R13
open Go Go.RowKit Go.Eng Geo
def trnB (t:Int) (a b c d:Int):Int × Int × Int × Int:=if t=0 then (a,b,c,d) else (-d,a,-b,c)
theorem moved_bds {f g:FF} {n:Nat} {a b c d:Int} (tn:Nat) (htn:tn≤1) (x y:Int) (hx : -32768≤x∧x≤32768) (hy : -32768≤y∧y≤32768) (hnr:AllNr n f) (hA:Are (cq false tn x y n f) g n) (hn:0<n) (h:Bds f n a b c d) :
  Bds g n ((trnB tn a b c d).1+x) ((trnB tn a b c d).2.1+y) ((trnB tn a b c d).2.2.1+x) ((trnB tn a b c d).2.2.2+y):=by
 have key:∀ j,j<n→(tn=0→CV.int (g j 0)=CV.int (f j 0)+x∧CV.int (g j 1)=CV.int (f j 1)+y)∧(tn=1→CV.int (g j 0) = -CV.int (f j 1)+x∧CV.int (g j 1)=CV.int (f j 0)+y):=by
  intro j hj
  obtain ⟨z1,z2⟩:=hA j hj
  obtain ⟨n1,n2,n3,n4⟩:=hnr j hj
  rw [z1,z2]
  refine ⟨fun e=>?_,fun e=>?_⟩
  ·subst e
   show w64 (CV.int (f j 0)+x)=_∧w64 (CV.int (f j 1)+y)=_
   rw [w64_of (by omega) (by omega),w64_of (by omega) (by omega)];exact ⟨rfl,rfl⟩
  ·subst e
   show w64 (w64 (0-CV.int (f j 1))+x)=_∧w64 (CV.int (f j 0)+y)=_
   rw [w64_of (n:=0-CV.int (f j 1)) (by omega) (by omega),w64_of (by omega) (by omega),w64_of (by omega) (by omega)]
   exact ⟨by omega,rfl⟩
 obtain ⟨h1,h2⟩:=h
 obtain ⟨⟨j1,k1,w1⟩,⟨j2,k2,w2⟩,⟨j3,k3,w3⟩,⟨j4,k4,w4⟩⟩:=h2 hn
 have:tn=0∨tn=1:=by omega
 rcases this with e | e
 ·have eT:trnB (tn:Int) a b c d=(a,b,c,d):=by unfold trnB;rw [if_pos (by omega)]
  rw [eT]
  dsimp only
  refine ⟨fun j hj=>?_,fun _=>⟨⟨j1,k1,?_⟩,⟨j2,k2,?_⟩,⟨j3,k3,?_⟩,⟨j4,k4,?_⟩⟩⟩
  ·obtain ⟨q1,q2⟩:=(key j hj).1 e
   have:=h1 j hj
   omega
  ·rw [((key j1 k1).1 e).1,w1]
  ·rw [((key j2 k2).1 e).2,w2]
  ·rw [((key j3 k3).1 e).1,w3]
  ·rw [((key j4 k4).1 e).2,w4]
 ·have eT:trnB (tn:Int) a b c d=(-d,a,-b,c):=by unfold trnB;rw [if_neg (by omega)]
  rw [eT]
  dsimp only
  refine ⟨fun j hj=>?_,fun _=>⟨⟨j4,k4,?_⟩,⟨j1,k1,?_⟩,⟨j2,k2,?_⟩,⟨j3,k3,?_⟩⟩⟩
  ·obtain ⟨q1,q2⟩:=(key j hj).2 e
   have:=h1 j hj
   omega
  ·rw [((key j4 k4).2 e).1,w4]
  ·rw [((key j1 k1).2 e).2,w1]
  ·rw [((key j2 k2).2 e).1,w2]
  ·rw [((key j3 k3).2 e).2,w3]
theorem PartV.at_ {p:Nat→CV} (V:PartV p) (s:ByteArray) (x y t:Int) (ht:t=0∨t=1) (hx : -32768≤x∧x≤32768) (hy : -32768≤y∧y≤32768):∃ n f n2 f2 f' f2',
  F25 100 (CV.len (p 6)) (CV.el (p 6)) (CV.len (p 7)) (CV.el (p 7)) s x y t false=some (n,f,n2,f2)∧F26 100 (CV.len (p 6)) (CV.el (p 6)) (CV.len (p 7)) (CV.el (p 7)) s x y t false=some (n,f',n2,f2') ∧
  F20 100 n f n2 f2=some ((loOf p t).1+x,(loOf p t).2+y,(loOf p t).1+x+(szOf p t).1,(loOf p t).2+y+(szOf p t).2) ∧
  F21 100 n f' n2 f2' = some ((loOf p t).1+x,(loOf p t).2+y,(loOf p t).1+x+(szOf p t).1,(loOf p t).2+y+(szOf p t).2):=by
 have h3:=V.shape.outer.big
 have h4:=V.shape.outer.small
 obtain ⟨A,B,C,D,hb,hB,hr1,hr2⟩:=V.box
 obtain ⟨tn,rfl,htn⟩:∃ tn:Nat,t=Int.ofNat tn∧tn≤1:=by
  rcases ht with rfl | rfl
  ·exact ⟨0,rfl,by omega⟩
  ·exact ⟨1,rfl,by omega⟩
 have main:∀ (s:ByteArray) (x y:Int),(-32768≤x∧x≤32768)→(-32768≤y∧y≤32768)→∃ n f n2 f2 f' f2',
   F25 100 (CV.len (p 6)) (CV.el (p 6)) (CV.len (p 7)) (CV.el (p 7)) s x y (Int.ofNat tn) false=some (n,f,n2,f2)∧F26 100 (CV.len (p 6)) (CV.el (p 6)) (CV.len (p 7)) (CV.el (p 7)) s x y (Int.ofNat tn) false=some (n,f',n2,f2') ∧
   F20 100 n f n2 f2=some ((trnB tn A B C D).1+x,(trnB tn A B C D).2.1+y,(trnB tn A B C D).2.2.1+x,(trnB tn A B C D).2.2.2+y) ∧
   F21 100 n f' n2 f2' = some ((trnB tn A B C D).1+x,(trnB tn A B C D).2.1+y,(trnB tn A B C D).2.2.1+x,(trnB tn A B C D).2.2.2+y):=by
  intro s x y hx hy
  obtain ⟨a,c,b,d,c',d',e1,e2,M1,M⟩:=move_eq (CV.len (p 6)) (CV.len (p 7)) (CV.el (p 6)) (CV.el (p 7)) s x y (Int.ofNat tn) false V.small
  have nf:¬ (farB x y=true∨FarC (1+CV.len (p 7)) (cfh (CV.len (p 6)) (CV.el (p 6)) (CV.el (p 7))) 0):=by
   rintro (h | h)
   ·unfold farB at h
    rw [decide_eq_true_eq] at h
    omega
   ·exact not_farC V.shape.outer.near (fun j hj=>(V.shape.hole j hj).valid.near) h
  obtain ⟨rfl,rfl,hA,_⟩:=M.all tn rfl (by omega) nf
  have hM:=moved_bds tn htn x y hx hy V.shape.outer.near hA (by omega) hB
  obtain ⟨l1,l2,l3,l4,b1,b2⟩:=bounds20 (CV.len (p 6)) c (CV.len (p 7)) d (by omega)
  obtain ⟨rfl,rfl,rfl,rfl⟩:=Bds.unique (by omega) hM (b2 (by omega))
  obtain ⟨l1',l2',l3',l4',b3,b4⟩:=bounds_law (CV.len (p 6)) (CV.len (p 7)) c' d' (by omega)
  obtain ⟨rfl,rfl,rfl,rfl⟩:=Bds.unique (by omega) (hM.congr M1.outer) (b4 (by omega))
  exact ⟨_,c,_,d,c',d',e1,e2,b1,b3⟩
 have el:loOf p (Int.ofNat tn)=((trnB tn A B C D).1,(trnB tn A B C D).2.1):=by
  obtain ⟨n,f,n2,f2,f',f2',e1,_,e3,_⟩:=main ByteArray.empty 0 0 (by omega) (by omega)
  unfold loOf
  rw [e1]
  dsimp only
  rw [e3]
  dsimp only
  rw [Int.add_zero,Int.add_zero]
 have es:szOf p (Int.ofNat tn)=((trnB tn A B C D).2.2.1-(trnB tn A B C D).1,(trnB tn A B C D).2.2.2-(trnB tn A B C D).2.1):=by
  obtain ⟨q,g1,g2⟩:=rect393 p (Int.ofNat tn) (by omega)
  have e:q=(A,B,C,D):=Option.some.inj (g1.symm.trans hb)
  subst e
  have e:szOf p (Int.ofNat tn)=szB (Int.ofNat tn) A B C D:=by unfold szOf;rw [g2];rfl
  rw [e]
  unfold szB
  rw [if_pos (by unfold Nr4;omega)]
  have:tn=0∨tn=1:=by omega
  rcases this with rfl | rfl
  ·rfl
  ·show (D-B,C-A)=(-B - -D,C-A)
   rw [show -B - -D=D-B from by omega]
 obtain ⟨n,f,n2,f2,f',f2',e1,e2,e3,e4⟩:=main s x y hx hy
 refine ⟨n,f,n2,f2,f',f2',e1,e2,?_,?_⟩
 ·rw [e3,el,es]
  dsimp only
  refine congrArg some ?_
  rw [Prod.mk.injEq,Prod.mk.injEq,Prod.mk.injEq]
  exact ⟨rfl,rfl,by omega,by omega⟩
 ·rw [e4,el,es]
  dsimp only
  refine congrArg some ?_
  rw [Prod.mk.injEq,Prod.mk.injEq,Prod.mk.injEq]
  exact ⟨rfl,rfl,by omega,by omega⟩
end Go.Eng.R13
/-
 Nester: possible plans,in plain words.
-/
set_option linter.all false
namespace Go.Eng.R13
open Go Go.RowKit Go.Eng Geo
abbrev pS (n:Nat) (f S:FF) (j:Nat):Nat→CV:=f (fd n f (CV.str (S j 0))).toNat
def bxS (n:Nat) (f S:FF):FF:=fun j c=>match c with
 | 0=>.i .i64 ((loOf (pS n f S j) (CV.int (S j 3))).1+CV.int (S j 1))
 | 1=>.i .i64 ((loOf (pS n f S j) (CV.int (S j 3))).2+CV.int (S j 2))
 | 2=>.i .i64 ((loOf (pS n f S j) (CV.int (S j 3))).1+CV.int (S j 1)+(szOf (pS n f S j) (CV.int (S j 3))).1)
 | _=>.i .i64 ((loOf (pS n f S j) (CV.int (S j 3))).2+CV.int (S j 2)+(szOf (pS n f S j) (CV.int (S j 3))).2)
def PossI (n:Nat) (f S:FF) (L W gap:Int) (i:Nat):Prop :=
 0≤fd n f (CV.str (S i 0))∧CV.bool (S i 4)=false∧(CV.int (S i 3)=0∨CV.int (S i 3)=1)∧((-32768≤CV.int (S i 1)∧CV.int (S i 1)≤32768)∧(-32768≤CV.int (S i 2)∧CV.int (S i 2)≤32768)) ∧
 (∀ j,j<i→CV.str (S j 0)≠CV.str (S i 0)) ∧
 FitsP L W i (bxS n f S) (bx (bxS n f S) i 0) (bx (bxS n f S) i 1) (szOf (pS n f S i) (CV.int (S i 3))).1 (szOf (pS n f S i) (CV.int (S i 3))).2 gap
theorem rect405 {p:Nat→CV} (V:PartV p) (q:Nat→CV) (E:RowE q p) (t:Int):F405 100 q t=some (szOf p t):=by
 have h4:=V.shape.outer.small
 obtain ⟨z,e1,e2⟩:=rect_same q t (by rw [E.ol];omega)
 rw [e2]
 have:F393 100 q t=F393 100 p t:=f393_congr 100 q p t E.ol E.oe E.hl E.he
 rw [← e1,this,V.good.rect]
end Go.Eng.R13
/-
 Nester: the places that Fill tries.
-/
set_option linter.all false
namespace Go.Eng.R13
open Go Go.RowKit Go.Eng Geo
def candL (r:FF) (n c:Nat) (gap:Int):List Int:=gap :: (List.range n).map fun j=>bx r j c+gG gap
theorem candL_succ (r:FF) (n c:Nat) (gap:Int):candL r (n+1) c gap=candL r n c gap ++ [bx r n c+gG gap]:=by
 unfold candL
 rw [List.range_succ,List.map_append,List.cons_append];rfl
theorem candL_len (r:FF) (n c:Nat) (gap:Int):(candL r n c gap).length=n+1:=by simp [candL]
theorem cand396 {ρ:Type} (n:Nat) (r:FF) (hn:n≤60) (hr:∀ j,j<n→NrJ r j) (t gap:Int) (hg:0≤gap∧gap≤500) (a b e:ByteArray) (th L W:Int) (p:Nat→CV):∀ (m i:Nat) (xs ys:FF),n<m+i→i≤n →
  numsI (i+1) xs=candL r i 2 gap→numsI (i+1) ys=candL r i 3 gap →
  ∃ xs' ys',(∀ k0:Nat→FF→FF→Option ρ,L396v1 100 n r t gap (Int.ofNat n) a b th L W e p m (i+1) (Int.ofNat i) xs ys k0=k0 (n+1) xs' ys')∧numsI (n+1) xs' = candL r n 2 gap∧numsI (n+1) ys' = candL r n 3 gap:=by
 have snoc:∀ (k:Nat) (f:FF) (z:Int),numsI (k+1) (joinF k f (rowsF 1 [(.i .i64 z)]))=numsI k f ++ [z]:=by
  intro k f z
  unfold numsI
  rw [List.range_succ,List.map_append]
  congr 1
  ·refine List.map_congr_left fun j hj=>?_
   rw [List.mem_range] at hj
   rw [joinF_o _ _ _ _ _ hj]
  ·show [CV.int _] = [z]
   rw [joinF_n _ _ _ _ _ (Nat.le_refl _),Nat.sub_self];rfl
 intro m
 induction m with
 | zero=>intro i xs ys h1 h2;omega
 | succ m ih =>
  intro i xs ys h1 h2 hx hy
  by_cases h:i<n
  ·obtain ⟨q1,q2,q3,q4⟩:=hr i h
   have hG:1≤gG gap∧gG gap≤500:=by unfold gG;split<;>omega
   obtain ⟨xs',ys',e1,e2,e3⟩:=ih (i+1) (joinF (i+1) xs (rowsF 1 [(.i .i64 (bx r i 2+gG gap))])) (joinF (i+1) ys (rowsF 1 [(.i .i64 (bx r i 3+gG gap))])) (by omega) (by omega) (by rw [snoc,hx,candL_succ]) (by rw [snoc,hy,candL_succ])
   refine ⟨xs',ys',fun k0=>?_,e2,e3⟩
   unfold L396v1
   rw [lt_nat,inb_nat,toNat_nat,bif_t (decide_eq_true h),bif_t (decide_eq_true h),bif_t (ble_okN (by omega)),bif_t (ble_okN (by omega)),w64_succ (by omega)]
   have w1:w64 (CV.int (r i 2)+(if 1>gap then 1 else gap))=bx r i 2+gG gap:=w64_of (by show -9223372036854775808≤bx r i 2+gG gap;omega) (by show bx r i 2+gG gap≤9223372036854775807;omega)
   have w2:w64 (CV.int (r i 3)+(if 1>gap then 1 else gap))=bx r i 3+gG gap:=w64_of (by show -9223372036854775808≤bx r i 3+gG gap;omega) (by show bx r i 3+gG gap≤9223372036854775807;omega)
   rw [w1,w2]
   exact e1 k0
  ·have:i=n:=by omega
   subst this
   refine ⟨xs,ys,fun k0=>?_,hx,hy⟩
   unfold L396v1
   rw [lt_nat,bif_f (decide_eq_false h)]
theorem sort392 (u k:Nat) (g:FF) (h0:0<k) (hk:k≤1000):F392 u k g=some (sortIF k g)∧∀ i,i<k→CV.int (sortIF k g i 0)=(sortL (numsI k g)).getD i 0:=by
 refine ⟨?_,fun i hi=>rfl⟩
 unfold F392 sortIT
 rw [bif_t]
 rw [Bool.and_eq_true,Nat.blt_eq,Nat.ble_eq]
 exact ⟨h0,by omega⟩
end Go.Eng.R13
/-
 Nester: the lowest,then leftmost place.
-/
set_option linter.all false
namespace Go.Eng.R13
open Go Go.RowKit Go.Eng Geo
def OkPl (p:Nat→CV) (t:Int) (n:Nat) (r:FF) (L W gap x y:Int):Prop:=AtOk p t x y∧FitsP L W n r x y (szOf p t).1 (szOf p t).2 gap
theorem low3 {ρ:Type} {p q:Nat→CV} (V:PartV p) (E:RowE q p) (t:Int) (ht:t=0∨t=1) (n:Nat) (hn:n≤60) (r:FF) (gap y:Int) (N:Nat) (hN:N≤61) (X Y:FF) (a1:Int) (a b e:ByteArray) (th L W:Int) (hX:∀ i,i<N→-1099511627776≤CV.int (X i 0)∧CV.int (X i 0)≤1099511627776) (hy : -1099511627776≤y∧y≤1099511627776) (c1 c2:Int) (k0:Int→Option ρ) (k1:Option ρ)
  (E' : RowE (listF (pj kR0 q)) p):∀ (m i:Nat),N<m+i→i≤N →
  (∃ j,i≤j∧j<N∧OkPl p t n r L W gap (CV.int (X j 0)) y∧(∀ j',i≤j'→j' < j→¬ OkPl p t n r L W gap (CV.int (X j' 0)) y) ∧
   L396v3 100 n r t gap N (szOf p t).1 (szOf p t).2 y c1 c2 (Int.ofNat N) a b th L W e q X Y m (Int.ofNat i) k0 k1=k0 (CV.int (X j 0))) ∨
  (L396v3 100 n r t gap N (szOf p t).1 (szOf p t).2 y c1 c2 (Int.ofNat N) a b th L W e q X Y m (Int.ofNat i) k0 k1=k1∧∀ j,i≤j→j<N→¬ OkPl p t n r L W gap (CV.int (X j 0)) y):=by
 intro m
 induction m with
 | zero=>intro i h1 h2;omega
 | succ m ih =>
  intro i h1 h2
  unfold L396v3
  rw [lt_nat,inb_nat,toNat_nat,Nat.zero_add]
  by_cases h:i<N
  case neg=>rw [bif_f (decide_eq_false h)];exact .inr ⟨rfl,fun j h5 h6=>by omega⟩
  obtain ⟨z,e1,hz⟩:=spot_law V E' t (CV.int (X i 0)) y ht (hX i h) hy
  rw [bif_t (decide_eq_true h),bif_t (decide_eq_true h),e1,ob_some,w64_succ (by omega)]
  dsimp only
  have skip:¬ OkPl p t n r L W gap (CV.int (X i 0)) y→(∃ j,i≤j∧j<N∧OkPl p t n r L W gap (CV.int (X j 0)) y∧(∀ j',i≤j'→j' < j→¬ OkPl p t n r L W gap (CV.int (X j' 0)) y) ∧
   L396v3 100 n r t gap N (szOf p t).1 (szOf p t).2 y c1 c2 (Int.ofNat N) a b th L W e q X Y m (Int.ofNat (i+1)) k0 k1=k0 (CV.int (X j 0))) ∨
   (L396v3 100 n r t gap N (szOf p t).1 (szOf p t).2 y c1 c2 (Int.ofNat N) a b th L W e q X Y m (Int.ofNat (i+1)) k0 k1=k1∧∀ j,i≤j→j<N→¬ OkPl p t n r L W gap (CV.int (X j 0)) y):=by
   intro no
   rcases ih (i+1) (by omega) (by omega) with ⟨j,q1,q2,q3,q4,q5⟩ | ⟨q1,q2⟩
   ·refine .inl ⟨j,by omega,q2,q3,fun j' w1 w2=>?_,q5⟩
    by_cases hj:j' = i
    ·subst hj;exact no
    ·exact q4 j' (by omega) w2
   ·refine .inr ⟨q1,fun j w1 w2=>?_⟩
    by_cases hj:j=i
    ·subst hj;exact no
    ·exact q2 j (by omega) w2
  cases z with
  | false =>
   rw [bif_f (by rfl)]
   exact skip fun o=>by have:=hz.2 o.1;cases this
  | true =>
   obtain ⟨u,e2,hu⟩:=fits_law L W n r (CV.int (X i 0)) y (szOf p t).1 (szOf p t).2 gap hn
   rw [bif_t (by rfl),e2,ob_some]
   cases u with
   | false =>
    rw [bif_f (by rfl)]
    exact skip fun o=>by have:=hu.2 o.2;cases this
   | true =>
    rw [bif_t (by rfl)]
    exact .inl ⟨i,Nat.le_refl _,h,⟨hz.1 rfl,hu.1 rfl⟩,fun j' w1 w2=>by omega,rfl⟩
theorem low4 {ρ:Type} {p q:Nat→CV} (V:PartV p) (E:RowE q p) (t:Int) (ht:t=0∨t=1) (n:Nat) (hn:n≤60) (r:FF) (gap:Int) (N:Nat) (hN:N≤61) (X Y:FF) (a b e:ByteArray) (th L W:Int) (hX:∀ i,i<N→-1099511627776≤CV.int (X i 0)∧CV.int (X i 0)≤1099511627776) (hY:∀ i,i<N→-1099511627776≤CV.int (Y i 0)∧CV.int (Y i 0)≤1099511627776) (k0:Int→Int→Option ρ) (k1:Option ρ)
  (E' : RowE (listF (pj kR0 q)) p):∀ (m i:Nat),N<m+i→i≤N →
  (∃ j jy,jy<N∧j<N∧i≤jy∧OkPl p t n r L W gap (CV.int (X j 0)) (CV.int (Y jy 0))∧(∀ j',j' < j→¬ OkPl p t n r L W gap (CV.int (X j' 0)) (CV.int (Y jy 0)))∧(∀ jy' j',i≤jy'→jy' < jy→j' < N→¬ OkPl p t n r L W gap (CV.int (X j' 0)) (CV.int (Y jy' 0))) ∧
   L396v4 100 n r t gap N (szOf p t).1 (szOf p t).2 (Int.ofNat N) a b th L W e q X Y m (Int.ofNat i) k0 k1=k0 (CV.int (X j 0)) (CV.int (Y jy 0))) ∨
  (L396v4 100 n r t gap N (szOf p t).1 (szOf p t).2 (Int.ofNat N) a b th L W e q X Y m (Int.ofNat i) k0 k1=k1∧∀ jy j,i≤jy→jy<N→j<N→¬ OkPl p t n r L W gap (CV.int (X j 0)) (CV.int (Y jy 0))):=by
 intro m
 induction m with
 | zero=>intro i h1 h2;omega
 | succ m ih =>
  intro i h1 h2
  unfold L396v4
  rw [lt_nat,inb_nat,toNat_nat,Nat.zero_add]
  by_cases h:i<N
  case neg=>rw [bif_f (decide_eq_false h)];exact .inr ⟨rfl,fun jy j h5 h6=>by omega⟩
  rw [bif_t (decide_eq_true h),bif_t (decide_eq_true h),w64_succ (by omega)]
  rcases low3 V E t ht n hn r gap (CV.int (Y i 0)) N hN X Y (Int.ofNat N) a b e th L W hX (hY i h) (Int.ofNat N) (Int.ofNat i) (fun x176=>(k0 x176 (CV.int (Y i 0)))) (L396v4 100 n r t gap N (szOf p t).1 (szOf p t).2 (Int.ofNat N) a b th L W e q X Y m (Int.ofNat (i+1)) k0 k1) E' 100 0 (by omega) (by omega) with ⟨j,q1,q2,q3,q4,q5⟩ | ⟨q1,q2⟩
  ·exact .inl ⟨j,i,h,q2,Nat.le_refl _,q3,fun j' w=>q4 j' (by omega) w,fun jy' j' w1 w2=>by omega,q5⟩
  ·rcases ih (i+1) (by omega) (by omega) with ⟨j,jy,w1,w2,w3,w4,w5,w6,w7⟩ | ⟨w1,w2⟩
   ·refine .inl ⟨j,jy,w1,w2,by omega,w4,w5,fun jy' j' u1 u2 u3=>?_,q1.trans w7⟩
    by_cases hj:jy' = i
    ·subst hj;exact q2 j' (by omega) u3
    ·exact w6 jy' j' (by omega) u2 u3
   ·refine .inr ⟨q1.trans w1,fun jy j u1 u2 u3=>?_⟩
    by_cases hj:jy=i
    ·subst hj;exact q2 j (by omega) u3
    ·exact w2 jy j (by omega) u2 u3
end Go.Eng.R13
/-
 Nester: lowest,the law.
-/
set_option linter.all false
namespace Go.Eng.R13
open Go Go.RowKit Go.Eng Geo
theorem low_law {p q:Nat→CV} (V:PartV p) (E:RowE q p) (E' : RowE (listF (pj kR0 q)) p) (t:Int) (ht:t=0∨t=1) (n:Nat) (hn:n≤60) (r:FF) (gap:Int) (hg:0≤gap∧gap≤500) (hr:∀ j,j<n→∀ c,c<4→0≤bx r j c∧bx r j c≤1073741824) (a b e:ByteArray) (th L W:Int) :
  (∃ x y,F396 100 a b th L W e n r q t gap=some (x,y,true)∧x∈candL r n 2 gap∧y∈candL r n 3 gap∧OkPl p t n r L W gap x y∧∀ x' ∈ candL r n 2 gap,∀ y' ∈ candL r n 3 gap,OkPl p t n r L W gap x' y'→y<y'∨(y=y'∧x≤x')) ∨
  (F396 100 a b th L W e n r q t gap=some (0,0,false)∧∀ x' ∈ candL r n 2 gap,∀ y' ∈ candL r n 3 gap,¬ OkPl p t n r L W gap x' y'):=by
 have hG:1≤gG gap∧gG gap≤500:=by unfold gG;split<;>omega
 obtain ⟨xs,ys,e1,e2,e3⟩:=cand396 (ρ:=Int × Int × Bool) n r hn (fun j hj=>by
  have:=hr j hj
  have h0:=this 0 (by omega)
  have h1:=this 1 (by omega)
  have h2:=this 2 (by omega)
  have h3:=this 3 (by omega)
  unfold NrJ Nr4
  omega) t gap hg a b e th L W q 100 0 (rowsF 1 [(.i .i64 gap)]) (rowsF 1 [(.i .i64 gap)]) (by omega) (by omega) rfl rfl
 obtain ⟨s1,s2⟩:=sort392 100 (n+1) xs (by omega) (by omega)
 obtain ⟨s3,s4⟩:=sort392 100 (n+1) ys (by omega) (by omega)
 have hbd:∀ c,(c=2∨c=3)→∀ x∈candL r n c gap,-1099511627776≤x∧x≤1099511627776:=by
  intro c hc x hx
  unfold candL at hx
  rcases List.mem_cons.1 hx with rfl | hx
  ·omega
  ·obtain ⟨j,hj,rfl⟩:=List.mem_map.1 hx
   rw [List.mem_range] at hj
   have:=hr j hj c (by omega)
   omega
 have at_:∀ (l:List Int) (i:Nat),i<l.length→l.getD i 0∈l:=fun l i hi=>by rw [List.getD_eq_getElem?_getD,List.getElem?_eq_getElem hi];exact List.getElem_mem _
 have of_:∀ (l:List Int) (x:Int),x∈l→∃ i,i<l.length∧l.getD i 0=x:=fun l x hx=>by
  obtain ⟨i,hi,e⟩:=List.getElem_of_mem hx
  exact ⟨i,hi,by rw [List.getD_eq_getElem?_getD,List.getElem?_eq_getElem hi];exact e⟩
 have le_:∀ (l:List Int) (i j:Nat),i≤j→j<(sortL l).length→(sortL l).getD i 0≤(sortL l).getD j 0:=fun l i j hij hj=>by
  have:=sortL_sorted l
  rw [List.pairwise_iff_getElem] at this
  rw [List.getD_eq_getElem?_getD,List.getElem?_eq_getElem (by omega),List.getD_eq_getElem?_getD,List.getElem?_eq_getElem hj]
  by_cases q:i=j
  ·subst q;exact Int.le_refl _
  ·exact this i j (by omega) hj (by omega)
 have lx:(sortL (candL r n 2 gap)).length=n+1:=by rw [(sortL_perm _).length_eq,candL_len]
 have ly:(sortL (candL r n 3 gap)).length=n+1:=by rw [(sortL_perm _).length_eq,candL_len]
 have X:∀ i,i<n+1→CV.int (sortIF (n+1) xs i 0)=(sortL (candL r n 2 gap)).getD i 0:=fun i hi=>by rw [s2 i hi,e2]
 have Y:∀ i,i<n+1→CV.int (sortIF (n+1) ys i 0)=(sortL (candL r n 3 gap)).getD i 0:=fun i hi=>by rw [s4 i hi,e3]
 have mX:∀ i,i<n+1→CV.int (sortIF (n+1) xs i 0)∈candL r n 2 gap:=fun i hi=>by rw [X i hi];exact (sortL_perm _).subset (at_ _ _ (by omega))
 have mY:∀ i,i<n+1→CV.int (sortIF (n+1) ys i 0)∈candL r n 3 gap:=fun i hi=>by rw [Y i hi];exact (sortL_perm _).subset (at_ _ _ (by omega))
 have key:=low4 V E t ht n hn r gap (n+1) (by omega) (sortIF (n+1) xs) (sortIF (n+1) ys) a b e th L W (fun i hi=>hbd 2 (.inl rfl) _ (mX i hi)) (fun i hi=>hbd 3 (.inr rfl) _ (mY i hi)) (fun x188 x189=>(some (x188,x189,true))) (some (0,0,false)) E' 100 0 (by omega) (by omega)
 have run:F396 100 a b th L W e n r q t gap=L396v4 100 n r t gap (n+1) (szOf p t).1 (szOf p t).2 (Int.ofNat (n+1)) a b th L W e q (sortIF (n+1) xs) (sortIF (n+1) ys) 100 (Int.ofNat 0) (fun x188 x189=>(some (x188,x189,true))) (some (0,0,false)):=by
  unfold F396
  refine (e1 _).trans ?_
  have hb:Nat.beq (n+1) (n+1)=true:=Nat.beq_refl _
  have h0:Nat.beq (n+1) 0=false:=rfl
  rw [s1,ob_some,bif_t hb,bif_f h0,s3,ob_some,bif_t hb,bif_f h0,f393_congr 100 (listF (pj kR0 q)) p t E'.ol E'.oe E'.hl E'.he,V.good.rect,ob_some]
  rfl
 rw [run]
 have fX:∀ x' ∈ candL r n 2 gap,∃ i,i<n+1∧(sortL (candL r n 2 gap)).getD i 0=x':=fun x' hx'=>by
  obtain ⟨i,hi,e⟩:=of_ (sortL (candL r n 2 gap)) x' ((sortL_perm _).symm.subset hx')
  exact ⟨i,by omega,e⟩
 have fY:∀ x' ∈ candL r n 3 gap,∃ i,i<n+1∧(sortL (candL r n 3 gap)).getD i 0=x':=fun x' hx'=>by
  obtain ⟨i,hi,e⟩:=of_ (sortL (candL r n 3 gap)) x' ((sortL_perm _).symm.subset hx')
  exact ⟨i,by omega,e⟩
 rcases key with ⟨j,jy,k1,k2,_,k4,k5,k6,k7⟩ | ⟨k1,k2⟩
 ·refine .inl ⟨_,_,k7,mX j k2,mY jy k1,k4,fun x' hx' y' hy' ok=>?_⟩
  obtain ⟨i,hi,ei⟩:=fX x' hx'
  obtain ⟨iy,hiy,eiy⟩:=fY y' hy'
  rw [← ei,← eiy,← X i hi,← Y iy hiy] at ok ⊢
  by_cases c:iy<jy
  ·exact absurd ok (k6 iy i (by omega) c hi)
  ·have hyy:CV.int (sortIF (n+1) ys jy 0)≤CV.int (sortIF (n+1) ys iy 0):=by rw [Y jy k1,Y iy hiy];exact le_ _ jy iy (by omega) (by omega)
   by_cases d:CV.int (sortIF (n+1) ys jy 0)<CV.int (sortIF (n+1) ys iy 0)
   ·exact .inl d
   ·have ey:CV.int (sortIF (n+1) ys jy 0)=CV.int (sortIF (n+1) ys iy 0):=by omega
    refine .inr ⟨ey,?_⟩
    by_cases f:i<j
    ·rw [← ey] at ok;exact absurd ok (k5 i f)
    ·rw [X j k2,X i hi];exact le_ _ j i (by omega) (by omega)
 ·refine .inr ⟨k1,fun x' hx' y' hy' ok=>?_⟩
  obtain ⟨i,hi,ei⟩:=fX x' hx'
  obtain ⟨iy,hiy,eiy⟩:=fY y' hy'
  rw [← ei,← eiy,← X i hi,← Y iy hiy] at ok
  exact k2 iy i (by omega) hiy hi ok
end Go.Eng.R13
/-
 Nester: Fill,step by step.
-/
set_option linter.all false
namespace Go.Eng.R13
open Go Go.RowKit Go.Eng Geo
def pick (r0 r1:Int × Int × Bool):Int × Bool × Int × Int :=
 if r0.2.2=true then (if r1.2.2=true∧(r1.2.1<r0.2.1∨r1.2.1=r0.2.1∧r1.1<r0.1) then (1,true,r1.1,r1.2.1) else (0,true,r0.1,r0.2.1))
 else if r1.2.2=true then (1,true,r1.1,r1.2.1) else (0,false,0,0)
theorem pick398 {ρ:Type} (p:Nat→CV) (gap:Int) (k:Nat) (a b e:ByteArray) (th L W:Int) (T:FF) {r0 r1:Int × Int × Bool}
  (h0:F396 100 a b th L W e k T (listF (pj kR0 p)) 0 gap=some r0) (h1:F396 100 a b th L W e k T (listF (pj kR0 p)) 1 gap=some r1)
  (n:Nat) (f:FF) (N i:Int) (S:FF) (k0:Int→Bool→Int→Int→Option ρ) (m:Nat) :
  L398v2 100 gap k n f N i a b th L W e S T (CV.str (p 0)) (CV.int (p 1)) (CV.int (p 2)) (CV.str (p 3)) (CV.str (p 4)) (CV.int (p 5)) (CV.len (p 6)) (CV.el (p 6)) (CV.len (p 7)) (CV.el (p 7)) (CV.str (p 8)) (CV.int (p 9)) (CV.int (p 10)) (CV.int (p 11)) (CV.int (p 12)) (CV.int (p 13)) (CV.int (p 14)) (CV.int (p 15)) (CV.int (p 16)) (CV.int (p 17)) (m+3) 0 false 0 0 0 k0 =
   k0 (pick r0 r1).1 (pick r0 r1).2.1 (pick r0 r1).2.2.1 (pick r0 r1).2.2.2:=by
 have w1:w64 (0+1)=1:=by decide
 have w2:w64 (1+1)=2:=by decide
 obtain ⟨x0,y0,b0⟩:=r0
 obtain ⟨x1,y1,b1⟩:=r1
 have last:∀ (t:Int) (s:Bool) (x y:Int),L398v2 100 gap k n f N i a b th L W e S T (CV.str (p 0)) (CV.int (p 1)) (CV.int (p 2)) (CV.str (p 3)) (CV.str (p 4)) (CV.int (p 5)) (CV.len (p 6)) (CV.el (p 6)) (CV.len (p 7)) (CV.el (p 7)) (CV.str (p 8)) (CV.int (p 9)) (CV.int (p 10)) (CV.int (p 11)) (CV.int (p 12)) (CV.int (p 13)) (CV.int (p 14)) (CV.int (p 15)) (CV.int (p 16)) (CV.int (p 17)) (m+1) t s 2 x y k0=k0 t s x y:=by
  intro t s x y
  unfold L398v2
  rw [bif_f (by decide)]
 have second:∀ (s:Bool) (x y:Int),L398v2 100 gap k n f N i a b th L W e S T (CV.str (p 0)) (CV.int (p 1)) (CV.int (p 2)) (CV.str (p 3)) (CV.str (p 4)) (CV.int (p 5)) (CV.len (p 6)) (CV.el (p 6)) (CV.len (p 7)) (CV.el (p 7)) (CV.str (p 8)) (CV.int (p 9)) (CV.int (p 10)) (CV.int (p 11)) (CV.int (p 12)) (CV.int (p 13)) (CV.int (p 14)) (CV.int (p 15)) (CV.int (p 16)) (CV.int (p 17)) (m+2) 0 s 1 x y k0 =
   if b1=true∧(s=false∨(y1<y∨y1=y∧x1<x)) then k0 1 true x1 y1 else k0 0 s x y:=by
  intro s x y
  unfold L398v2
  rw [bif_t (by decide)]
  refine (congrArg (fun z=>ob z _) h1).trans ?_
  rw [ob_some]
  dsimp only
  rw [w2,last,last]
  cases b1 with
  | false=>rw [bif_f (by rfl),if_neg (fun h=>by cases h.1)]
  | true =>
   rw [bif_t (by rfl)]
   cases s with
   | false=>rw [bif_f (by rfl),if_pos ⟨rfl,.inl rfl⟩]
   | true =>
    rw [bif_t (by rfl)]
    by_cases c1:y1<y
    ·rw [decide_eq_true c1,bif_f (by rfl),if_pos ⟨rfl,.inr (.inl c1)⟩]
    rw [decide_eq_false c1,bif_t (by rfl)]
    by_cases c2:y1=y
    ·rw [bif_t (by simp [c2])]
     by_cases c3:x1<x
     ·rw [bif_t (decide_eq_true c3),if_pos ⟨rfl,.inr (.inr ⟨c2,c3⟩)⟩]
     ·rw [bif_f (decide_eq_false c3),if_neg (fun h=>by
       rcases h.2 with h | h | h
       ·cases h
       ·exact c1 h
       ·exact c3 h.2)]
    ·rw [bif_f (by simp [c2]),if_neg (fun h=>by
      rcases h.2 with h | h | h
      ·cases h
      ·exact c1 h
      ·exact c2 h.1)]
 unfold L398v2
 rw [bif_t (by decide)]
 refine (congrArg (fun z=>ob z _) h0).trans ?_
 rw [ob_some]
 dsimp only
 rw [w1,second,second]
 unfold pick
 dsimp only
 cases b0 with
 | false =>
  rw [bif_f (by rfl),if_neg (show ¬ ((false:Bool)=true) from by decide)]
  by_cases h:b1=true
  ·rw [if_pos (show b1=true∧_ from ⟨h,.inl rfl⟩),if_pos h]
  ·rw [if_neg (fun q=>h q.1),if_neg h]
 | true =>
  rw [bif_t (by rfl),bif_f (by rfl),if_pos (show (true:Bool)=true from rfl)]
  by_cases h:b1=true∧(y1<y0∨y1=y0∧x1<x0)
  ·rw [if_pos (show b1=true∧(true=false∨_) from ⟨h.1,.inr h.2⟩),if_pos h]
  ·rw [if_neg (fun q=>h ⟨q.1,q.2.resolve_left (by decide)⟩),if_neg h]
section
variable (a b e : ByteArray) (th L W gap : Int) (f : FF)
def lowR (k:Nat) (T:FF) (i:Nat) (t:Int):Int × Int × Bool:=(F396 100 a b th L W e k T (listF (pj kR0 (f i))) t gap).getD (0,0,false)
def pickR (k:Nat) (T:FF) (i:Nat):Int × Bool × Int × Int:=pick (lowR a b e th L W gap f k T i 0) (lowR a b e th L W gap f k T i 1)
def stepF (i k:Nat) (S T:FF):Nat × FF × FF :=
 if (pickR a b e th L W gap f k T i).2.1=true then
  (k+1,joinF k S (rowsF 5 [(.s (CV.str (f i 0))),(.i .i64 ((pickR a b e th L W gap f k T i).2.2.1-(loOf (f i) (pickR a b e th L W gap f k T i).1).1)),(.i .i64 ((pickR a b e th L W gap f k T i).2.2.2-(loOf (f i) (pickR a b e th L W gap f k T i).1).2)),(.i .i64 (pickR a b e th L W gap f k T i).1),(.b false)]),
   joinF k T (rowsF 4 [(.i .i64 (pickR a b e th L W gap f k T i).2.2.1),(.i .i64 (pickR a b e th L W gap f k T i).2.2.2),(.i .i64 ((pickR a b e th L W gap f k T i).2.2.1+(szOf (f i) (pickR a b e th L W gap f k T i).1).1)),(.i .i64 ((pickR a b e th L W gap f k T i).2.2.2+(szOf (f i) (pickR a b e th L W gap f k T i).1).2))]))
 else (k,S,T)
def fillN:Nat→Nat→Nat→FF→FF→Nat × FF × FF
 | 0,_,k,S,T=>(k,S,T)
 | m+1,i,k,S,T=>fillN m (i+1) (stepF a b e th L W gap f i k S T).1 (stepF a b e th L W gap f i k S T).2.1 (stepF a b e th L W gap f i k S T).2.2
end
def BoxOk (k:Nat) (T:FF):Prop:=∀ j,j<k→∀ c,c<4→0≤bx T j c∧bx T j c≤32768
section
variable {a b e : ByteArray} {th L W gap : Int} {f : FF}
theorem lowR_law {i:Nat} (V:PartV (f i)) (t:Int) (ht:t=0∨t=1) {k:Nat} (hk:k≤60) {T:FF} (hg:0≤gap∧gap≤500) (hT:BoxOk k T) :
  F396 100 a b th L W e k T (listF (pj kR0 (f i))) t gap=some (lowR a b e th L W gap f k T i t) ∧
  ((lowR a b e th L W gap f k T i t).2.2=true→OkPl (f i) t k T L W gap (lowR a b e th L W gap f k T i t).1 (lowR a b e th L W gap f k T i t).2.1 ∧
   (lowR a b e th L W gap f k T i t).1∈candL T k 2 gap∧(lowR a b e th L W gap f k T i t).2.1∈candL T k 3 gap ∧
   ∀ x' ∈ candL T k 2 gap,∀ y' ∈ candL T k 3 gap,OkPl (f i) t k T L W gap x' y'→(lowR a b e th L W gap f k T i t).2.1<y'∨((lowR a b e th L W gap f k T i t).2.1=y'∧(lowR a b e th L W gap f k T i t).1≤x')) ∧
  ((lowR a b e th L W gap f k T i t).2.2=false→lowR a b e th L W gap f k T i t=(0,0,false)∧∀ x' ∈ candL T k 2 gap,∀ y' ∈ candL T k 3 gap,¬ OkPl (f i) t k T L W gap x' y'):=by
 rcases low_law V (q:=listF (pj kR0 (f i))) ⟨rfl,rfl,rfl,rfl,rfl⟩ ⟨rfl,rfl,rfl,rfl,rfl⟩ t ht k hk T gap hg (fun j hj c hc=>by have:=hT j hj c hc;omega) a b e th L W with ⟨x,y,h1,h2,h3,h4,h5⟩ | ⟨h1,h2⟩
 ·have e:lowR a b e th L W gap f k T i t=(x,y,true):=by unfold lowR;rw [h1];rfl
  rw [e]
  exact ⟨h1,fun _=>⟨h4,h2,h3,h5⟩,fun h=>by cases h⟩
 ·have e:lowR a b e th L W gap f k T i t=(0,0,false):=by unfold lowR;rw [h1];rfl
  rw [e]
  exact ⟨h1,fun h=>(by cases h),fun _=>⟨rfl,h2⟩⟩
theorem pickR_law {i:Nat} (V:PartV (f i)) {k:Nat} (hk:k≤60) {T:FF} (hg:0≤gap∧gap≤500) (hT:BoxOk k T) :
  ((pickR a b e th L W gap f k T i).1=0∨(pickR a b e th L W gap f k T i).1=1) ∧
  ((pickR a b e th L W gap f k T i).2.1=true→OkPl (f i) (pickR a b e th L W gap f k T i).1 k T L W gap (pickR a b e th L W gap f k T i).2.2.1 (pickR a b e th L W gap f k T i).2.2.2) ∧
  ((pickR a b e th L W gap f k T i).2.1=false→∀ t,(t=0∨t=1)→∀ x' ∈ candL T k 2 gap,∀ y' ∈ candL T k 3 gap,¬ OkPl (f i) t k T L W gap x' y'):=by
 obtain ⟨_,a1,a2⟩:=lowR_law (a:=a) (b:=b) (e:=e) (th:=th) (L:=L) (W:=W) V 0 (.inl rfl) hk hg hT
 obtain ⟨_,b1,b2⟩:=lowR_law (a:=a) (b:=b) (e:=e) (th:=th) (L:=L) (W:=W) V 1 (.inr rfl) hk hg hT
 unfold pickR pick
 generalize lowR a b e th L W gap f k T i 0=r0 at *
 generalize lowR a b e th L W gap f k T i 1=r1 at *
 by_cases c0:r0.2.2=true
 ·rw [if_pos c0]
  by_cases c1:r1.2.2=true∧(r1.2.1<r0.2.1∨r1.2.1=r0.2.1∧r1.1<r0.1)
  ·rw [if_pos c1]
   exact ⟨.inr rfl,fun _=>(b1 c1.1).1,fun h=>by cases h⟩
  ·rw [if_neg c1]
   exact ⟨.inl rfl,fun _=>(a1 c0).1,fun h=>by cases h⟩
 ·rw [if_neg c0]
  by_cases c1:r1.2.2=true
  ·rw [if_pos c1]
   exact ⟨.inr rfl,fun _=>(b1 c1).1,fun h=>by cases h⟩
  ·rw [if_neg c1]
   refine ⟨.inl rfl,fun h=>(by cases h),fun _ t ht=>?_⟩
   rcases ht with rfl | rfl
   ·exact (a2 (by simpa using c0)).2
   ·exact (b2 (by simpa using c1)).2
theorem stepF_box {i:Nat} (V:PartV (f i)) {k:Nat} (hk:k≤60) {S T:FF} (hg:0≤gap∧gap≤500) (hT:BoxOk k T) :
  BoxOk (stepF a b e th L W gap f i k S T).1 (stepF a b e th L W gap f i k S T).2.2:=by
 obtain ⟨_,h1,_⟩:=pickR_law (a:=a) (b:=b) (e:=e) (th:=th) (L:=L) (W:=W) V hk hg hT
 unfold stepF
 by_cases c:(pickR a b e th L W gap f k T i).2.1=true
 ·rw [if_pos c]
  obtain ⟨_,q1,_,q3,_⟩:=h1 c
  unfold FLim at q1
  unfold FIn at q3
  intro j hj d hd
  have hj:j<k+1:=hj
  dsimp only
  by_cases hjk:j<k
  ·show 0≤CV.int _∧CV.int _≤32768
   rw [joinF_o _ _ _ _ _ hjk];exact hT j hjk d hd
  ·have:j=k:=by omega
   subst this
   show 0≤CV.int _∧CV.int _≤32768
   rw [joinF_n _ _ _ _ _ (Nat.le_refl _),Nat.sub_self]
   match d,hd with
   | 0,_=>show 0≤(pickR a b e th L W gap f j T i).2.2.1∧(pickR a b e th L W gap f j T i).2.2.1≤32768;omega
   | 1,_=>show 0≤(pickR a b e th L W gap f j T i).2.2.2∧(pickR a b e th L W gap f j T i).2.2.2≤32768;omega
   | 2,_=>show 0≤(pickR a b e th L W gap f j T i).2.2.1+(szOf (f i) (pickR a b e th L W gap f j T i).1).1∧(pickR a b e th L W gap f j T i).2.2.1+(szOf (f i) (pickR a b e th L W gap f j T i).1).1≤32768;omega
   | 3,_=>show 0≤(pickR a b e th L W gap f j T i).2.2.2+(szOf (f i) (pickR a b e th L W gap f j T i).1).2∧(pickR a b e th L W gap f j T i).2.2.2+(szOf (f i) (pickR a b e th L W gap f j T i).1).2≤32768;omega
 ·rw [if_neg c];exact hT
theorem stepF_le {i k:Nat} {S T:FF} (h:k≤i):(stepF a b e th L W gap f i k S T).1≤i+1:=by
 unfold stepF
 split
 ·show k+1≤i+1;omega
 ·show k≤i+1;omega
theorem fill398_loop {ρ:Type} {n:Nat} (hn:n≤20) (hV:∀ i,i<n→PartV (f i)) (hg:0≤gap∧gap≤500) (k0 k1:Nat→FF→Option ρ):∀ (m i k:Nat) (S T:FF),n<m+i→i≤n→k≤i→BoxOk k T →
  L398v3 100 gap n f (Int.ofNat n) a b th L W e m k (Int.ofNat i) S T k0 k1=k1 (fillN a b e th L W gap f (n-i) i k S T).1 (fillN a b e th L W gap f (n-i) i k S T).2.1:=by
 intro m
 induction m with
 | zero=>intro i k S T h1 h2;omega
 | succ m ih =>
  intro i k S T h1 h2 hk hT
  unfold L398v3
  rw [lt_nat,inb_nat,toNat_nat]
  by_cases h:i<n
  case neg =>
   have:n-i=0:=by omega
   rw [bif_f (decide_eq_false h),this];rfl
  have V:=hV i h
  have c32:(Int.ofNat k==32)=false:=by
   rw [beq_eq_false_iff_ne]
   show (k:Int)≠32
   omega
  rw [bif_t (decide_eq_true h),bif_t (decide_eq_true h),c32,cond_false]
  rw [show n-i=(n-(i+1))+1 from by omega,fillN]
  have hb:=stepF_box (a:=a) (b:=b) (e:=e) (th:=th) (L:=L) (W:=W) (S:=S) V (by omega:k≤60) hg hT
  have hl:=stepF_le (a:=a) (b:=b) (e:=e) (th:=th) (L:=L) (W:=W) (gap:=gap) (f:=f) (S:=S) (T:=T) hk
  rw [← ih (i+1) _ _ _ (by omega) (by omega) hl hb]
  obtain ⟨e0,_⟩:=lowR_law (a:=a) (b:=b) (e:=e) (th:=th) (L:=L) (W:=W) V 0 (.inl rfl) (by omega:k≤60) hg hT
  obtain ⟨e1,_⟩:=lowR_law (a:=a) (b:=b) (e:=e) (th:=th) (L:=L) (W:=W) V 1 (.inr rfl) (by omega:k≤60) hg hT
  refine (pick398 (f i) gap k a b e th L W T e0 e1 n f (Int.ofNat n) (Int.ofNat i) S _ 97).trans ?_
  rw [show pick (lowR a b e th L W gap f k T i 0) (lowR a b e th L W gap f k T i 1)=pickR a b e th L W gap f k T i from rfl]
  obtain ⟨p1,p2,_⟩:=pickR_law (a:=a) (b:=b) (e:=e) (th:=th) (L:=L) (W:=W) V (by omega:k≤60) hg hT
  unfold stepF
  rw [w64_succ (by omega)]
  generalize pickR a b e th L W gap f k T i=r at *
  obtain ⟨t,s,x,y⟩:=r
  dsimp only at p1 p2 ⊢
  cases s with
  | false=>rw [cond_false,if_neg (by decide)]
  | true =>
   obtain ⟨q0,q1,_,q3,_⟩:=p2 rfl
   unfold FLim at q1
   unfold FIn at q3
   obtain ⟨z,e2,_⟩:=spot_law V (q:=listF (pj kR0 (f i))) ⟨rfl,rfl,rfl,rfl,rfl⟩ t x y p1 (by omega) (by omega)
   have e3:=rect397 V.good (listF (pj kR0 (f i))) t x y rfl rfl rfl rfl (by omega) (by omega)
   rw [cond_true,if_pos rfl,e2,ob_some,bif_t (ble_okN (by omega)),e3,ob_some,bif_t (ble_okN (by omega))]
theorem fill398 {P:Nat} {PF:FF} {n:Nat} (hs:F391 100 a b th L W e P PF=some (n,f)) (hn:n≤20) (hV:∀ i,i<n→PartV (f i)) :
  ((0≤gap∧gap≤500)→F398 100 a b th L W e P PF gap=some (a,gap,(fillN a b e th L W gap f n 0 0 (fun _ _=>.any) (fun _ _=>.any)).1,(fillN a b e th L W gap f n 0 0 (fun _ _=>.any) (fun _ _=>.any)).2.1)) ∧
  (¬ (0≤gap∧gap≤500)→F398 100 a b th L W e P PF gap=some (a,gap,0,(fun _ _=>.any))):=by
 refine ⟨fun hg=>?_,fun hg=>?_⟩
 ·have h1:=fill398_loop (a:=a) (b:=b) (e:=e) (th:=th) (L:=L) (W:=W) hn hV hg (fun x276 x277=>(some (false,a,gap,x276,x277))) (fun x276 x277=>(some (false,a,gap,x276,x277))) 100 0 0 (fun _ _=>.any) (fun _ _=>.any) (by omega) (by omega) (by omega) (fun j hj=>by omega)
  unfold F398 FT398
  rw [within389,ob_some,bif_f (by simp [hg.1,hg.2]),hs,ob_some]
  refine (congrArg (fun z=>ob z _) h1).trans ?_
  rw [ob_some];rfl
 ·unfold F398 FT398
  rw [within389,ob_some,bif_t (by simp only [Bool.not_eq_true',Bool.and_eq_false_iff,decide_eq_false_iff_not];omega)]
  rfl
end
end Go.Eng.R13
/-
 Nester: what Fill's plan is: possible,and no further part has a place.
-/
set_option linter.all false
namespace Go.Eng.R13
open Go Go.RowKit Go.Eng Geo
theorem candL_mem {r:FF} {n c:Nat} {gap x:Int} (h:x∉candL r n c gap):x≠gap∧∀ j,j<n→x≠bx r j c+gG gap:=by
 unfold candL at h
 rw [List.mem_cons,not_or] at h
 refine ⟨h.1,fun j hj e=>h.2 (List.mem_map.2 ⟨j,List.mem_range.2 hj,e.symm⟩)⟩
theorem slide {p:Nat→CV} (V:PartV p) {t:Int} (ht:t=0∨t=1) {n:Nat} {r:FF} {L W gap:Int} (hno:∀ x' ∈ candL r n 2 gap,∀ y' ∈ candL r n 3 gap,¬ OkPl p t n r L W gap x' y') (x y:Int):¬ OkPl p t n r L W gap x y:=by
 have lo:=V.lo t ht
 have key:∀ (N:Nat) (x y:Int),x.toNat+y.toNat<N→¬ OkPl p t n r L W gap x y:=by
  intro N
  induction N with
  | zero=>intro x y h;omega
  | succ N ih =>
   intro x y h ok
   obtain ⟨h1,h2,h3,h4,h5⟩:=id ok
   unfold AtOk at h1
   unfold FLim at h2
   unfold FIn at h4
   by_cases cx:x∈candL r n 2 gap
   ·by_cases cy:y∈candL r n 3 gap
    ·exact hno x cx y cy ok
    ·obtain ⟨q1,q2⟩:=candL_mem cy
     refine ih x (y-1) (by omega) ⟨by unfold AtOk;omega,by unfold FLim;omega,h3,by unfold FIn;omega,fun j hj=>?_⟩
     have a:=h5 j hj
     have b:=q2 j hj
     unfold AptJ Apt at a ⊢
     omega
   ·obtain ⟨q1,q2⟩:=candL_mem cx
    refine ih (x-1) y (by omega) ⟨by unfold AtOk;omega,by unfold FLim;omega,h3,by unfold FIn;omega,fun j hj=>?_⟩
    have a:=h5 j hj
    have b:=q2 j hj
    unfold AptJ Apt at a ⊢
    omega
 exact key _ x y (Nat.lt_succ_self _)
theorem FitsP.mono {len wid:Int} {n n' : Nat} {r:FF} {x y l w gap:Int} (h:FitsP len wid n' r x y l w gap) (hn:n≤n'):FitsP len wid n r x y l w gap :=
 ⟨h.1,fun j hj=>h.2.1 j (by omega),h.2.2.1,fun j hj=>h.2.2.2 j (by omega)⟩
theorem bxS_congr {n:Nat} {f S S' : FF} {j:Nat} (e:S' j=S j):bxS n f S' j=bxS n f S j:=by
 funext c
 unfold bxS pS
 rw [e]
theorem PossI.congr {n:Nat} {f S S' : FF} {L W gap:Int} {i:Nat} (e:∀ j,j≤i→S' j=S j) (h:PossI n f S L W gap i):PossI n f S' L W gap i:=by
 obtain ⟨h1,h2,h3,h4,h5,h6⟩:=h
 have ei:=e i (Nat.le_refl _)
 refine ⟨by rw [ei];exact h1,by rw [ei];exact h2,by rw [ei];exact h3,by rw [ei];exact h4,fun j hj=>by rw [ei,e j (by omega)];exact h5 j hj,?_⟩
 have eb:=bxS_congr (n:=n) (f:=f) ei
 have ep:pS n f S' i=pS n f S i:=by unfold pS;rw [ei]
 rw [ep,ei,show bx (bxS n f S') i 0=bx (bxS n f S) i 0 from by unfold bx;rw [eb],show bx (bxS n f S') i 1=bx (bxS n f S) i 1 from by unfold bx;rw [eb]]
 exact h6.congr fun j c hj _=>by unfold bx;rw [bxS_congr (e j (by omega))]
structure FillS (n:Nat) (f:FF) (L W gap:Int) (i k:Nat) (S T:FF):Prop where
 le:k≤i
 box:BoxOk k T
 same:∀ j c,j<k→c<4→bx T j c=bx (bxS n f S) j c
 idx:∀ j,j<k→∃ m,m<i∧CV.str (S j 0)=CV.str (f m 0)
 poss:∀ j,j<k→PossI n f S L W gap j
 no:∀ m,m<i→(∀ j,j<k→CV.str (S j 0)≠CV.str (f m 0))→∀ t x y,(t=0∨t=1)→¬ OkPl (f m) t k T L W gap x y
theorem joinF_row {n:Nat} {f g:FF} {j:Nat} (h:j<n):joinF n f g j=f j:=by funext c;exact joinF_o _ _ _ _ _ h
section
variable {a b e : ByteArray} {th L W gap : Int} {f : FF} {n : Nat} (hn : n ≤ 20) (hV : ∀ i, i < n → PartV (f i)) (hD : ∀ i j, i < j → j < n → CV.str (f i 0) ≠ CV.str (f j 0)) (hg : 0 ≤ gap ∧ gap ≤ 500)
include hn hV hD hg
theorem FillS.step {i k:Nat} {S T:FF} (h:FillS n f L W gap i k S T) (hi:i<n):FillS n f L W gap (i+1) (stepF a b e th L W gap f i k S T).1 (stepF a b e th L W gap f i k S T).2.1 (stepF a b e th L W gap f i k S T).2.2:=by
 have hk:=h.le
 have V:=hV i hi
 have hbx:=stepF_box (a:=a) (b:=b) (e:=e) (th:=th) (L:=L) (W:=W) (S:=S) V (by omega:k≤60) hg h.box
 obtain ⟨p1,p2,p3⟩:=pickR_law (a:=a) (b:=b) (e:=e) (th:=th) (L:=L) (W:=W) V (by omega:k≤60) hg h.box
 unfold stepF at hbx ⊢
 generalize pickR a b e th L W gap f k T i=r at *
 obtain ⟨t,s,x,y⟩:=r
 dsimp only at p1 p2 p3 hbx ⊢
 cases s with
 | false =>
  rw [if_neg (by decide)] at hbx ⊢
  refine ⟨Nat.le_succ_of_le hk,hbx,h.same,fun j hj=>?_,h.poss,fun m hm hno t x y ht=>?_⟩
  ·obtain ⟨m,q1,q2⟩:=h.idx j hj
   exact ⟨m,by omega,q2⟩
  ·by_cases c:m<i
   ·exact h.no m c hno t x y ht
   ·have:m=i:=by omega
    subst this
    exact slide V ht (p3 rfl t ht) x y
 | true =>
  obtain ⟨q0,q1,q2,q3,q4⟩:=p2 rfl
  rw [if_pos rfl] at hbx ⊢
  dsimp only at hbx ⊢
  generalize hS:joinF k S (rowsF 5 [(.s (CV.str (f i 0))),(.i .i64 (x-(loOf (f i) t).1)),(.i .i64 (y-(loOf (f i) t).2)),(.i .i64 t),(.b false)])=S' at *
  generalize hT:joinF k T (rowsF 4 [(.i .i64 x),(.i .i64 y),(.i .i64 (x+(szOf (f i) t).1)),(.i .i64 (y+(szOf (f i) t).2))])=T' at *
  have old:∀ j,j<k→S' j=S j:=fun j hj=>by rw [← hS];exact joinF_row hj
  have oldT:∀ j,j<k→T' j=T j:=fun j hj=>by rw [← hT];exact joinF_row hj
  have s0:CV.str (S' k 0)=CV.str (f i 0):=by rw [← hS,joinF_n _ _ _ _ _ (Nat.le_refl _),Nat.sub_self];rfl
  have s1:CV.int (S' k 1)=x-(loOf (f i) t).1:=by rw [← hS,joinF_n _ _ _ _ _ (Nat.le_refl _),Nat.sub_self];rfl
  have s2:CV.int (S' k 2)=y-(loOf (f i) t).2:=by rw [← hS,joinF_n _ _ _ _ _ (Nat.le_refl _),Nat.sub_self];rfl
  have s3:CV.int (S' k 3)=t:=by rw [← hS,joinF_n _ _ _ _ _ (Nat.le_refl _),Nat.sub_self];rfl
  have s4:CV.bool (S' k 4)=false:=by rw [← hS,joinF_n _ _ _ _ _ (Nat.le_refl _),Nat.sub_self];rfl
  have t0:bx T' k 0=x:=by unfold bx;rw [← hT,joinF_n _ _ _ _ _ (Nat.le_refl _),Nat.sub_self];rfl
  have t1:bx T' k 1=y:=by unfold bx;rw [← hT,joinF_n _ _ _ _ _ (Nat.le_refl _),Nat.sub_self];rfl
  have t2:bx T' k 2=x+(szOf (f i) t).1:=by unfold bx;rw [← hT,joinF_n _ _ _ _ _ (Nat.le_refl _),Nat.sub_self];rfl
  have t3:bx T' k 3=y+(szOf (f i) t).2:=by unfold bx;rw [← hT,joinF_n _ _ _ _ _ (Nat.le_refl _),Nat.sub_self];rfl
  have hfd:fd n f (CV.str (f i 0))=Int.ofNat i:=(fd_first hi).2 fun j hj=>hD j i hj hi
  have hp:pS n f S' k=f i:=by unfold pS;rw [s0,hfd];rfl
  have same:∀ j c,j<k+1→c<4→bx T' j c=bx (bxS n f S') j c:=by
   intro j c hj hc
   by_cases hjk:j<k
   ·unfold bx
    rw [oldT j hjk,bxS_congr (old j hjk)]
    exact h.same j c hjk hc
   ·have:j=k:=by omega
    subst this
    match c,hc with
    | 0,_ =>
     show _=(loOf (pS n f S' j) (CV.int (S' j 3))).1+CV.int (S' j 1)
     rw [t0,hp,s1,s3];omega
    | 1,_ =>
     show _=(loOf (pS n f S' j) (CV.int (S' j 3))).2+CV.int (S' j 2)
     rw [t1,hp,s2,s3];omega
    | 2,_ =>
     show _=(loOf (pS n f S' j) (CV.int (S' j 3))).1+CV.int (S' j 1)+(szOf (pS n f S' j) (CV.int (S' j 3))).1
     rw [t2,hp,s1,s3];omega
    | 3,_ =>
     show _=(loOf (pS n f S' j) (CV.int (S' j 3))).2+CV.int (S' j 2)+(szOf (pS n f S' j) (CV.int (S' j 3))).2
     rw [t3,hp,s2,s3];omega
  refine ⟨Nat.succ_le_succ hk,hbx,same,fun j hj=>?_,fun j hj=>?_,fun m hm hno t x y ht ok=>?_⟩
  ·by_cases hjk:j<k
   ·obtain ⟨m,w1,w2⟩:=h.idx j hjk
    exact ⟨m,by omega,by rw [old j hjk];exact w2⟩
   ·have:j=k:=by omega
    subst this
    exact ⟨i,by omega,s0⟩
  ·by_cases hjk:j<k
   ·exact (h.poss j hjk).congr fun j' hj'=>old j' (by omega)
   ·have:j=k:=by omega
    subst this
    unfold AtOk at q0
    refine ⟨by rw [s0,hfd];exact Int.natCast_nonneg _,s4,by rw [s3];exact p1,by rw [s1,s2];exact q0,fun j' hj'=>?_,?_⟩
    ·obtain ⟨m,w1,w2⟩:=h.idx j' hj'
     rw [s0,old j' hj',w2]
     exact hD m i w1 hi
    ·rw [hp,s3,← same j 0 (by omega) (by omega),← same j 1 (by omega) (by omega),t0,t1]
     refine FitsP.congr (r:=T) (fun j' c hj' hc=>?_) ⟨q1,q2,q3,q4⟩
     rw [← same j' c (by omega) hc]
     unfold bx
     rw [oldT j' hj']
  ·by_cases c:m<i
   ·refine h.no m c (fun j hj=>?_) t x y ht ⟨ok.1,(ok.2.mono (Nat.le_succ _)).congr fun j c hj _=>by unfold bx;rw [oldT j hj]⟩
    have:=hno j (by omega)
    rw [old j hj] at this;exact this
   ·have:m=i:=by omega
    subst this
    exact hno k (by omega) s0
end
theorem suit_parts {P:Nat} {PF:FF} (hP:FewP P PF) (h20:P≤20) (a gr e:ByteArray) (th L W:Int):∃ n f,F391 100 a gr th L W e P PF=some (n,f)∧n≤P∧(∀ i,i<n→PartV (f i))∧(∀ i j,i<j→j<n→CV.str (f i 0)≠CV.str (f j 0)):=by
 obtain ⟨js,f,e1,hl,hS⟩:=suit_law P PF a gr e th L W h20
 have hm:∀ i,i<js.length→js.getD i 0∈js:=fun i hi=>by rw [List.getD_eq_getElem?_getD,List.getElem?_eq_getElem hi];exact List.getElem_mem _
 refine ⟨_,f,e1,hl,fun i hi=>?_,fun i j hij hj=>?_⟩
 ·obtain ⟨q1,q2⟩:=hS.ok _ (hm i hi)
  exact (part_of hP q1 q2).of_row (hS.row i hi)
 ·rw [(hS.row i (by omega)).id,(hS.row j hj).id]
  have hlt:js.getD i 0<js.getD j 0:=by
   have:=hS.asc
   rw [List.pairwise_iff_getElem] at this
   have:=this i j (by omega) hj hij
   rw [List.getD_eq_getElem?_getD,List.getElem?_eq_getElem (by omega),List.getD_eq_getElem?_getD,List.getElem?_eq_getElem hj]
   exact this
  exact (hS.ok _ (hm j hj)).2.1 _ hlt
end Go.Eng.R13
/-
 Nester: the reference's Fill does the same.
-/
set_option linter.all false
namespace Go.Eng.R13
open Go Go.RowKit Go.Eng Geo
noncomputable def upd (p:Nat→CV) (t:Int) (n:Nat) (r:FF) (L W gap X Y:Int) (s:Bool) (x y:Int):Bool × Int × Int :=
 @ite _ (OkPl p t n r L W gap X Y∧(s=false∨Y<y∨Y=y∧X<x)) (Classical.propDecidable _) (true,X,Y) (s,x,y)
theorem tail411 {ρ:Type} {p q:Nat→CV} (V:PartV p) (E:RowE q p) (t:Int) (ht:t=0∨t=1) (n:Nat) (hn:n≤60) (r:FF) (L W gap X Y:Int) (hX : -1099511627776≤X∧X≤1099511627776) (hY : -1099511627776≤Y∧Y≤1099511627776) (s:Bool) (x y:Int) (K:Bool→Int→Int→Option ρ) :
  (ob (F410 100 q X Y t) fun z=>bif (z.2.2.2.2.2==true) then (ob (F406 100 L W n r X Y (szOf p t).1 (szOf p t).2 gap) fun c=>bif (c==true) then (bif ((!s)==false) then (bif ((decide (Y<y))==false) then (bif ((Y==y)==true) then (bif (decide (X<x)) then K true X Y else K s x y) else K s x y) else K true X Y) else K true X Y) else K s x y) else K s x y) =
   K (upd p t n r L W gap X Y s x y).1 (upd p t n r L W gap X Y s x y).2.1 (upd p t n r L W gap X Y s x y).2.2:=by
 obtain ⟨b,e1,hb⟩:=spot_ref V E t X Y ht hX hY
 obtain ⟨c,e2,hc⟩:=fits_ref L W n r X Y (szOf p t).1 (szOf p t).2 gap hn
 rw [e1,ob_some]
 dsimp only
 cases b with
 | false =>
  have no:¬ (OkPl p t n r L W gap X Y∧(s=false∨Y<y∨Y=y∧X<x)):=fun h=>by have:=hb.2 h.1.1;cases this
  unfold upd
  rw [bif_f (by rfl),if_neg no]
 | true =>
  rw [bif_t (by rfl),e2,ob_some]
  cases c with
  | false =>
   have no:¬ (OkPl p t n r L W gap X Y∧(s=false∨Y<y∨Y=y∧X<x)):=fun h=>by have:=hc.2 h.1.2;cases this
   unfold upd
   rw [bif_f (by rfl),if_neg no]
  | true =>
   have ok:OkPl p t n r L W gap X Y:=⟨hb.1 rfl,hc.1 rfl⟩
   rw [bif_t (by rfl)]
   unfold upd
   cases s with
   | false=>rw [bif_f (by rfl),if_pos ⟨ok,.inl rfl⟩]
   | true =>
    rw [bif_t (by rfl)]
    by_cases c1:Y<y
    ·rw [decide_eq_true c1,bif_f (by rfl),if_pos ⟨ok,.inr (.inl c1)⟩]
    rw [decide_eq_false c1,bif_t (by rfl)]
    by_cases c2:Y=y
    ·rw [bif_t (by simp [c2])]
     by_cases c3:X<x
     ·rw [bif_t (decide_eq_true c3),if_pos ⟨ok,.inr (.inr ⟨c2,c3⟩)⟩]
     ·rw [bif_f (decide_eq_false c3),if_neg (fun h=>by
       rcases h.2 with h | h | h
       ·cases h
       ·exact c1 h
       ·exact c3 h.2)]
    ·rw [bif_f (by simp [c2]),if_neg (fun h=>by
      rcases h.2 with h | h | h
      ·cases h
      ·exact c1 h
      ·exact c2 h.1)]
structure BestQ (p:Nat→CV) (t:Int) (n:Nat) (r:FF) (L W gap:Int) (Q:Int→Int→Prop) (s:Bool) (x y:Int):Prop where
 no:s=false→(x=0∧y=0)∧∀ x' y',Q x' y'→¬ OkPl p t n r L W gap x' y'
 yes:s=true→OkPl p t n r L W gap x y∧Q x y∧∀ x' y',Q x' y'→OkPl p t n r L W gap x' y'→y<y'∨(y=y'∧x≤x')
theorem BestQ.imp {p:Nat→CV} {t:Int} {n:Nat} {r:FF} {L W gap:Int} {Q Q' : Int→Int→Prop} {s:Bool} {x y:Int} (h:BestQ p t n r L W gap Q s x y) (hq:∀ x y,Q x y↔Q' x y):BestQ p t n r L W gap Q' s x y :=
 ⟨fun e=>⟨(h.no e).1,fun x' y' q=>(h.no e).2 x' y' ((hq _ _).2 q)⟩,fun e=>⟨(h.yes e).1,(hq _ _).1 (h.yes e).2.1,fun x' y' q=>(h.yes e).2.2 x' y' ((hq _ _).2 q)⟩⟩
theorem BestQ.upd {p:Nat→CV} {t:Int} {n:Nat} {r:FF} {L W gap:Int} {Q:Int→Int→Prop} {s:Bool} {x y:Int} (h:BestQ p t n r L W gap Q s x y) (X Y:Int) :
  BestQ p t n r L W gap (fun x' y'=>Q x' y'∨(x' = X∧y' = Y)) (upd p t n r L W gap X Y s x y).1 (upd p t n r L W gap X Y s x y).2.1 (upd p t n r L W gap X Y s x y).2.2:=by
 unfold R13.upd
 by_cases c:OkPl p t n r L W gap X Y∧(s=false∨Y<y∨Y=y∧X<x)
 ·rw [if_pos c]
  refine ⟨fun e=>(by cases e),fun _=>⟨c.1,.inr ⟨rfl,rfl⟩,fun x' y' q ok=>?_⟩⟩
  rcases q with q | ⟨rfl,rfl⟩
  ·cases s with
   | false=>exact absurd ok ((h.no rfl).2 x' y' q)
   | true =>
    have a:=(h.yes rfl).2.2 x' y' q ok
    have b:=c.2.resolve_left (by decide)
    show Y<y'∨(Y=y'∧X≤x')
    omega
  ·exact .inr ⟨rfl,Int.le_refl _⟩
 ·rw [if_neg c]
  refine ⟨fun e=>⟨(h.no e).1,fun x' y' q ok=>?_⟩,fun e=>⟨(h.yes e).1,.inl (h.yes e).2.1,fun x' y' q ok=>?_⟩⟩
  ·rcases q with q | ⟨rfl,rfl⟩
   ·exact (h.no e).2 x' y' q ok
   ·exact c ⟨ok,.inl e⟩
  ·rcases q with q | ⟨rfl,rfl⟩
   ·exact (h.yes e).2.2 x' y' q ok
   ·show y<y'∨(y=y'∧x≤x')
    have:¬ (y' < y∨y' = y∧x' < x):=fun q=>c ⟨ok,.inr q⟩
    omega
def cX (r:FF) (c:Nat) (gap:Int):Nat→Int
 | 0=>gap
 | j+1=>bx r j c+gG gap
theorem candL_iff {r:FF} {n c:Nat} {gap x:Int}:x∈candL r n c gap↔∃ j,j≤n∧x=cX r c gap j:=by
 unfold candL
 rw [List.mem_cons,List.mem_map]
 constructor
 ·rintro (rfl | ⟨j,hj,rfl⟩)
  ·exact ⟨0,by omega,rfl⟩
  ·rw [List.mem_range] at hj
   exact ⟨j+1,by omega,rfl⟩
 ·rintro ⟨j,hj,rfl⟩
  cases j with
  | zero=>exact .inl rfl
  | succ j=>exact .inr ⟨j,List.mem_range.2 (by omega),rfl⟩
section
variable {p q : Nat → CV} (V : PartV p) (E : RowE (listF (pj kR0 q)) p) (t : Int) (ht : t = 0 ∨ t = 1) (n : Nat) (hn : n ≤ 60) (r : FF) (gap : Int) (hg : 0 ≤ gap ∧ gap ≤ 500) (hr : ∀ j, j < n → ∀ c, c < 4 → 0 ≤ bx r j c ∧ bx r j c ≤ 1073741824) (a b e : ByteArray) (th L W : Int)
include hg hr in
theorem cX_bd {c j:Nat} (hc:c<4) (hj:j≤n) : -1099511627776≤cX r c gap j∧cX r c gap j≤1099511627776:=by
 have hG:1≤gG gap∧gG gap≤500:=by unfold gG;split<;>omega
 cases j with
 | zero=>show -1099511627776≤gap∧gap≤1099511627776;omega
 | succ j =>
  have:=hr j (by omega) c hc
  show -1099511627776≤bx r j c+gG gap∧bx r j c+gG gap≤1099511627776
  omega
include hg hr in
theorem cX_w {c j:Nat} (hc:c<4) (hj:j+1≤n):w64 (CV.int (r j c)+gG gap)=cX r c gap (j+1):=by
 have:=cX_bd n r gap hg hr hc hj
 exact w64_of (n:=CV.int (r j c)+gG gap) (by have:=this.1;show _≤cX r c gap (j+1);omega) (by have:=this.2;show cX r c gap (j+1)≤_;omega)
include V E ht hn hg hr in
theorem inner411 {ρ:Type} (i:Nat) (hi:i≤n):∀ (m k:Nat) (s:Bool) (x y:Int) (Q:Int→Int→Prop),n+1<m+k→k≤n+1→BestQ p t n r L W gap Q s x y →
  ∃ s' x' y',(∀ K:Bool→Int→Int→Option ρ,L411v2 100 n r t gap (szOf p t).1 (szOf p t).2 (gG gap) ((i:Int)-1) a b th L W e q m s ((k:Int)-1) x y K=K s' x' y') ∧
   BestQ p t n r L W gap (fun X Y=>Q X Y∨(Y=cX r 3 gap i∧∃ j,k≤j∧j≤n∧X=cX r 2 gap j)) s' x' y':=by
 intro m
 induction m with
 | zero=>intro k s x y Q h1 h2;omega
 | succ m ih =>
  intro k s x y Q h1 h2 B
  by_cases h:k≤n
  case neg =>
   refine ⟨s,x,y,fun K=>?_,B.imp fun X Y=>⟨.inl,fun q=>?_⟩⟩
   ·unfold L411v2
    rw [bif_f (decide_eq_false (by show ¬ ((k:Int)-1<(n:Int));omega))]
   ·rcases q with q | ⟨_,j,q1,q2,_⟩
    ·exact q
    ·omega
  have B':=B.upd (cX r 2 gap k) (cX r 3 gap i)
  obtain ⟨s',x',y',e1,B2⟩:=ih (k+1) _ _ _ _ (by omega) (by omega) B'
  refine ⟨s',x',y',fun K=>?_,B2.imp fun X Y=>⟨fun q=>?_,fun q=>?_⟩⟩
  ·refine Eq.trans ?_ (e1 K)
   obtain ⟨K',hK'⟩:∃ K' : Bool→Int→Int→Option ρ,K' = fun s x y=>L411v2 100 n r t gap (szOf p t).1 (szOf p t).2 (gG gap) ((i:Int)-1) a b th L W e q m s (((k+1:Nat):Int)-1) x y K:=⟨_,rfl⟩
   have T:=tail411 V E t ht n hn r L W gap (cX r 2 gap k) (cX r 3 gap i) (cX_bd n r gap hg hr (by omega) h) (cX_bd n r gap hg hr (by omega) hi) s x y K'
   refine Eq.trans ?_ (T.trans (by rw [hK']))
   have w1:w64 ((k:Int)-1+1)=((k+1:Nat):Int)-1:=by rw [w64_of (by omega) (by omega)];omega
   have hlt:(k:Int)-1<Int.ofNat n:=by show (k:Int)-1<(n:Int);omega
   unfold L411v2
   rw [bif_t (decide_eq_true hlt),w1]
   cases i with
   | zero =>
    rw [bif_f (decide_eq_false (by omega:¬ (((0:Nat):Int)-1≥0)))]
    cases k with
    | zero =>
     rw [bif_f (decide_eq_false (by omega:¬ (((0:Nat):Int)-1≥0)))]
     subst hK';rfl
    | succ k =>
     have e2:((k+1:Nat):Int)-1=Int.ofNat k:=by show ((k+1:Nat):Int)-1=(k:Int);omega
     rw [bif_t (decide_eq_true (by omega:(((k+1:Nat):Int)-1≥0))),e2,inb_nat,toNat_nat,bif_t (decide_eq_true (by omega:k<n)),show CV.int (r k 2)+gG gap=bx r k 2+gG gap from rfl]
     rw [show w64 (bx r k 2+gG gap)=cX r 2 gap (k+1) from cX_w n r gap hg hr (by omega) h]
     subst hK';rfl
   | succ i =>
    have e3:((i+1:Nat):Int)-1=Int.ofNat i:=by show ((i+1:Nat):Int)-1=(i:Int);omega
    rw [e3] at hK'
    rw [bif_t (decide_eq_true (by omega:(((i+1:Nat):Int)-1≥0))),e3,inb_nat,toNat_nat,bif_t (decide_eq_true (by omega:i<n)),show CV.int (r i 3)+gG gap=bx r i 3+gG gap from rfl]
    rw [show w64 (bx r i 3+gG gap)=cX r 3 gap (i+1) from cX_w n r gap hg hr (by omega) hi]
    cases k with
    | zero =>
     rw [bif_f (decide_eq_false (by omega:¬ (((0:Nat):Int)-1≥0)))]
     subst hK';rfl
    | succ k =>
     have e2:((k+1:Nat):Int)-1=Int.ofNat k:=by show ((k+1:Nat):Int)-1=(k:Int);omega
     rw [bif_t (decide_eq_true (by omega:(((k+1:Nat):Int)-1≥0))),e2,inb_nat,toNat_nat,bif_t (decide_eq_true (by omega:k<n)),show CV.int (r k 2)+gG gap=bx r k 2+gG gap from rfl]
     rw [show w64 (bx r k 2+gG gap)=cX r 2 gap (k+1) from cX_w n r gap hg hr (by omega) h]
     subst hK';rfl
  ·rcases q with (q | ⟨rfl,rfl⟩) | ⟨rfl,j,q1,q2,rfl⟩
   ·exact .inl q
   ·exact .inr ⟨rfl,k,Nat.le_refl _,h,rfl⟩
   ·exact .inr ⟨rfl,j,by omega,q2,rfl⟩
  ·rcases q with q | ⟨rfl,j,q1,q2,rfl⟩
   ·exact .inl (.inl q)
   ·by_cases hj:j=k
    ·subst hj;exact .inl (.inr ⟨rfl,rfl⟩)
    ·exact .inr ⟨rfl,j,by omega,q2,rfl⟩
include V E ht hn hg hr in
theorem outer411 {ρ:Type}:∀ (m i:Nat) (s:Bool) (x y:Int) (Q:Int→Int→Prop),n+1<m+i→i≤n+1→BestQ p t n r L W gap Q s x y →
  ∃ s' x' y',(∀ K:Bool→Int→Int→Option ρ,L411v3 100 n r t gap (szOf p t).1 (szOf p t).2 (gG gap) a b th L W e q m s ((i:Int)-1) x y K=K s' x' y') ∧
   BestQ p t n r L W gap (fun X Y=>Q X Y∨∃ l,i≤l∧l≤n∧Y=cX r 3 gap l∧∃ j,j≤n∧X=cX r 2 gap j) s' x' y':=by
 intro m
 induction m with
 | zero=>intro i s x y Q h1 h2;omega
 | succ m ih =>
  intro i s x y Q h1 h2 B
  by_cases h:i≤n
  case neg =>
   refine ⟨s,x,y,fun K=>?_,B.imp fun X Y=>⟨.inl,fun q=>?_⟩⟩
   ·unfold L411v3
    rw [bif_f (decide_eq_false (by show ¬ ((i:Int)-1<(n:Int));omega))]
   ·rcases q with q | ⟨l,q1,q2,_⟩
    ·exact q
    ·omega
  obtain ⟨s1,x1,y1,e1,B1⟩:=inner411 (ρ:=ρ) V E t ht n hn r gap hg hr a b e th L W i h 100 0 s x y Q (by omega) (by omega) B
  obtain ⟨s',x',y',e2,B2⟩:=ih (i+1) s1 x1 y1 _ (by omega) (by omega) B1
  refine ⟨s',x',y',fun K=>?_,B2.imp fun X Y=>⟨fun q=>?_,fun q=>?_⟩⟩
  ·have w1:w64 ((i:Int)-1+1)=((i+1:Nat):Int)-1:=by rw [w64_of (by omega) (by omega)];omega
   unfold L411v3
   rw [bif_t (decide_eq_true (show (i:Int)-1<Int.ofNat n by show (i:Int)-1<(n:Int);omega)),w1]
   exact (e1 _).trans (e2 K)
  ·rcases q with (q | ⟨rfl,j,_,q2,rfl⟩) | ⟨l,q1,q2,rfl,j,q3,rfl⟩
   ·exact .inl q
   ·exact .inr ⟨i,Nat.le_refl _,h,rfl,j,q2,rfl⟩
   ·exact .inr ⟨l,by omega,q2,rfl,j,q3,rfl⟩
  ·rcases q with q | ⟨l,q1,q2,rfl,j,q3,rfl⟩
   ·exact .inl (.inl q)
   ·by_cases hl:l=i
    ·subst hl;exact .inl (.inr ⟨rfl,j,Nat.zero_le _,q3,rfl⟩)
    ·exact .inr ⟨l,by omega,q2,rfl,j,q3,rfl⟩
end
section
variable {a b e : ByteArray} {th L W gap : Int} {f : FF}
theorem first411 {i:Nat} (V:PartV (f i)) (t:Int) (ht:t=0∨t=1) {k:Nat} (hk:k≤60) {T:FF} (hg:0≤gap∧gap≤500) (hT:BoxOk k T) :
  F411 100 a b th L W e k T (listF (pj kR0 (f i))) t gap=some (lowR a b e th L W gap f k T i t):=by
 obtain ⟨_,a1,a2⟩:=lowR_law (a:=a) (b:=b) (e:=e) (th:=th) (L:=L) (W:=W) V t ht hk hg hT
 obtain ⟨s,x,y,e1,B⟩:=outer411 (ρ:=Int × Int × Bool) (p:=f i) (q:=listF (pj kR0 (f i))) V ⟨rfl,rfl,rfl,rfl,rfl⟩ t ht k hk T gap hg (fun j hj c hc=>by have:=hT j hj c hc;omega) a b e th L W 100 0 false 0 0 (fun _ _=>False) (by omega) (by omega) ⟨fun _=>⟨⟨rfl,rfl⟩,fun _ _ h=>h.elim⟩,fun h=>by cases h⟩
 have run:F411 100 a b th L W e k T (listF (pj kR0 (f i))) t gap=some (x,y,s):=by
  unfold F411
  rw [rect405 V (listF (pj kR0 (listF (pj kR0 (f i))))) ⟨rfl,rfl,rfl,rfl,rfl⟩ t,ob_some]
  exact e1 (fun x168 x169 x170=>some (x169,x170,x168))
 rw [run]
 have mem:∀ x' y',(x' ∈ candL T k 2 gap∧y' ∈ candL T k 3 gap)→(False∨∃ l,0≤l∧l≤k∧y' = cX T 3 gap l∧∃ j,j≤k∧x' = cX T 2 gap j):=fun x' y' h=>by
  obtain ⟨j,h1,h2⟩:=candL_iff.1 h.1
  obtain ⟨l,h3,h4⟩:=candL_iff.1 h.2
  exact .inr ⟨l,Nat.zero_le _,h3,h4,j,h1,h2⟩
 have mem' : ∀ x' y',(False∨∃ l,0≤l∧l≤k∧y' = cX T 3 gap l∧∃ j,j≤k∧x' = cX T 2 gap j)→(x' ∈ candL T k 2 gap∧y' ∈ candL T k 3 gap):=fun x' y' h=>by
  rcases h with h | ⟨l,_,h3,h4,j,h1,h2⟩
  ·exact h.elim
  ·exact ⟨candL_iff.2 ⟨j,h1,h2⟩,candL_iff.2 ⟨l,h3,h4⟩⟩
 generalize lowR a b e th L W gap f k T i t=z at *
 obtain ⟨x0,y0,s0⟩:=z
 dsimp only at a1 a2
 cases s0 with
 | false =>
  obtain ⟨h1,h2⟩:=a2 rfl
  rw [h1]
  cases s with
  | false =>
   obtain ⟨⟨rfl,rfl⟩,_⟩:=B.no rfl
   rfl
  | true =>
   obtain ⟨ok,q,_⟩:=B.yes rfl
   obtain ⟨m1,m2⟩:=mem' _ _ q
   exact absurd ok (h2 x m1 y m2)
 | true =>
  obtain ⟨ok,m1,m2,best⟩:=a1 rfl
  cases s with
  | false=>exact absurd ok ((B.no rfl).2 x0 y0 (mem _ _ ⟨m1,m2⟩))
  | true =>
   obtain ⟨ok',q,best'⟩:=B.yes rfl
   obtain ⟨m3,m4⟩:=mem' _ _ q
   have c1:=best x m3 y m4 ok'
   have c2:=best' x0 y0 (mem _ _ ⟨m1,m2⟩) ok
   obtain rfl:x=x0:=by omega
   obtain rfl:y=y0:=by omega
   rfl
theorem fill412_loop {ρ:Type} {n:Nat} (hn:n≤20) (hV:∀ i,i<n→PartV (f i)) (hg:0≤gap∧gap≤500) (k0:Nat→FF→Option ρ):∀ (m i k:Nat) (S T:FF),n<m+i→i≤n→k≤i→BoxOk k T →
  L412v1 100 gap n f a b th L W e m k (Int.ofNat i) T S k0=k0 (fillN a b e th L W gap f (n-i) i k S T).1 (fillN a b e th L W gap f (n-i) i k S T).2.1:=by
 intro m
 induction m with
 | zero=>intro i k S T h1 h2;omega
 | succ m ih =>
  intro i k S T h1 h2 hk hT
  unfold L412v1
  rw [lt_nat,inb_nat,toNat_nat]
  by_cases h:i<n
  case neg =>
   have:n-i=0:=by omega
   rw [decide_eq_false h,bif_f (by rfl),this];rfl
  have V:=hV i h
  have c32:decide (Int.ofNat k<32)=true:=decide_eq_true (by show (k:Int)<32;omega)
  have e0:=first411 (a:=a) (b:=b) (e:=e) (th:=th) (L:=L) (W:=W) V 0 (.inl rfl) (by omega:k≤60) hg hT
  have e1:=first411 (a:=a) (b:=b) (e:=e) (th:=th) (L:=L) (W:=W) V 1 (.inr rfl) (by omega:k≤60) hg hT
  have hd:decide (i<n)=true:=decide_eq_true h
  rw [hd,bif_t (by rfl),c32,cond_true,cond_true,e0,ob_some,cond_true,e1,ob_some,w64_succ (by omega)]
  rw [show n-i=(n-(i+1))+1 from by omega,fillN]
  have hb:=stepF_box (a:=a) (b:=b) (e:=e) (th:=th) (L:=L) (W:=W) (S:=S) V (by omega:k≤60) hg hT
  have hl:=stepF_le (a:=a) (b:=b) (e:=e) (th:=th) (L:=L) (W:=W) (gap:=gap) (f:=f) (S:=S) (T:=T) hk
  rw [← ih (i+1) _ _ _ (by omega) (by omega) hl hb]
  obtain ⟨p1,p2,_⟩:=pickR_law (a:=a) (b:=b) (e:=e) (th:=th) (L:=L) (W:=W) V (by omega:k≤60) hg hT
  have take:∀ (t x y:Int),pickR a b e th L W gap f k T i=(t,true,x,y) →
    (bif true then (ob (F405 100 (listF (pj kR0 (f i))) t) fun z=>(bif true then (ob (F410 100 (listF (pj kR0 (f i))) x y t) fun w=>(bif (Nat.ble (k+1) 1073741824) then (bif (Nat.ble (k+1) 1073741824) then (L412v1 100 gap n f a b th L W e m (k+1) (Int.ofNat (i+1)) (joinF k T (rowsF 4 [(.i .i64 x),(.i .i64 y),(.i .i64 (w64 (x+z.1))),(.i .i64 (w64 (y+z.2)))])) (joinF k S (rowsF 5 [(.s w.1),(.i .i64 w.2.1),(.i .i64 w.2.2.1),(.i .i64 w.2.2.2.1),(.b w.2.2.2.2.1)])) k0) else none) else none)) else none)) else none) =
    L412v1 100 gap n f a b th L W e m (stepF a b e th L W gap f i k S T).1 (Int.ofNat (i+1)) (stepF a b e th L W gap f i k S T).2.2 (stepF a b e th L W gap f i k S T).2.1 k0:=by
   intro t x y hp
   rw [hp] at p1 p2
   dsimp only at p1 p2
   obtain ⟨q0,q1,_,q3,_⟩:=p2 rfl
   unfold FLim at q1
   unfold FIn at q3
   obtain ⟨z,e2,_⟩:=spot_ref V (q:=listF (pj kR0 (f i))) ⟨rfl,rfl,rfl,rfl,rfl⟩ t x y p1 (by omega) (by omega)
   rw [cond_true,rect405 V (listF (pj kR0 (f i))) ⟨rfl,rfl,rfl,rfl,rfl⟩,ob_some,cond_true,e2,ob_some,bif_t (ble_okN (by omega)),bif_t (ble_okN (by omega))]
   dsimp only
   rw [w64_of (n:=x+(szOf (f i) t).1) (by omega) (by omega),w64_of (n:=y+(szOf (f i) t).2) (by omega) (by omega)]
   unfold stepF
   rw [hp,if_pos rfl]
  have skip:(pickR a b e th L W gap f k T i).2.1=false→L412v1 100 gap n f a b th L W e m k (Int.ofNat (i+1)) T S k0=L412v1 100 gap n f a b th L W e m (stepF a b e th L W gap f i k S T).1 (Int.ofNat (i+1)) (stepF a b e th L W gap f i k S T).2.2 (stepF a b e th L W gap f i k S T).2.1 k0:=by
   intro hp
   unfold stepF
   rw [if_neg (by rw [hp];decide)]
  unfold pickR at take skip
  generalize lowR a b e th L W gap f k T i 0=r0 at *
  generalize lowR a b e th L W gap f k T i 1=r1 at *
  obtain ⟨x0,y0,b0⟩:=r0
  obtain ⟨x1,y1,b1⟩:=r1
  dsimp only
  cases b0 with
  | false =>
   cases b1 with
   | false=>rw [bif_t (by rfl),bif_t (by rfl)];exact skip rfl
   | true =>
    rw [bif_t (by rfl),bif_f (by rfl),bif_f (by rfl)]
    exact take 1 x1 y1 rfl
  | true =>
   rw [bif_f (by rfl),bif_t (by rfl)]
   cases b1 with
   | false =>
    rw [bif_f (by rfl)]
    exact take 0 x0 y0 rfl
   | true =>
    rw [bif_t (by rfl)]
    by_cases c1:y1<y0
    ·rw [decide_eq_true c1,bif_f (by rfl)]
     exact take 1 x1 y1 (by unfold pick;rw [if_pos rfl,if_pos ⟨rfl,.inl c1⟩])
    rw [decide_eq_false c1,bif_t (by rfl)]
    by_cases c2:y1=y0
    ·rw [bif_t (by simp [c2])]
     by_cases c3:x1<x0
     ·rw [bif_t (decide_eq_true c3)]
      exact take 1 x1 y1 (by unfold pick;rw [if_pos rfl,if_pos ⟨rfl,.inr ⟨c2,c3⟩⟩])
     ·rw [bif_f (decide_eq_false c3)]
      exact take 0 x0 y0 (by unfold pick;rw [if_pos rfl,if_neg (fun h=>by
       rcases h.2 with h | h
       ·exact c1 h
       ·exact c3 h.2)])
    ·rw [bif_f (by simp [c2])]
     exact take 0 x0 y0 (by unfold pick;rw [if_pos rfl,if_neg (fun h=>by
      rcases h.2 with h | h
      ·exact c1 h
      ·exact c2 h.1)])
theorem fill412 {P:Nat} {PF:FF} {n:Nat} (hP:P≤20) (hs:F391 100 a b th L W e P PF=some (n,f)) (hn:n≤20) (hV:∀ i,i<n→PartV (f i)) :
  F412 100 a b th L W e P PF gap=F398 100 a b th L W e P PF gap:=by
 obtain ⟨r1,r2⟩:=fill398 (gap:=gap) hs hn hV
 unfold F412 FT412
 by_cases h1:gap<0
 ·rw [r2 (by omega),decide_eq_true h1,bif_f (by rfl)];rfl
 rw [decide_eq_false h1,bif_t (by rfl)]
 by_cases h2:gap>500
 ·rw [r2 (by omega),bif_t (decide_eq_true h2)];rfl
 rw [bif_f (decide_eq_false h2),suit_ref P PF a b e th L W hP,hs,ob_some,r1 (by omega)]
 refine (congrArg (fun z=>ob z _) (fill412_loop (a:=a) (b:=b) (e:=e) (th:=th) (L:=L) (W:=W) hn hV (by omega) (fun x87 x88=>(some (false,a,gap,x87,x88))) 100 0 0 (fun _ _=>.any) (fun _ _=>.any) (by omega) (by omega) (by omega) (fun j hj=>by omega))).trans ?_
 rw [ob_some];rfl
end
end Go.Eng.R13
/-
 NesterFills: the law.
-/
set_option linter.all false
namespace Go.Eng.R13
open Go Go.RowKit Go.Eng Geo
theorem same402_loop (a:ByteArray) (g:Int) (k:Nat) (S:FF) (hk:k≤60):∀ (m i:Nat),k<m+i→i≤k→L402v1 100 a g k S a g k S m (Int.ofNat i) (some false) (some true)=some true:=by
 intro m
 induction m with
 | zero=>intro i h1 h2;omega
 | succ m ih =>
  intro i h1 h2
  unfold L402v1
  rw [lt_nat,inb_nat,toNat_nat]
  by_cases h:i<k
  ·rw [bif_t (decide_eq_true h),bif_t (decide_eq_true h),bif_t (decide_eq_true h),w64_succ (by omega),ih (i+1) (by omega) (by omega)]
   simp
  ·rw [bif_f (decide_eq_false h)]
theorem same402 (a:ByteArray) (g:Int) (k:Nat) (S:FF) (hk:k≤60):F402 100 a g k S a g k S=some true:=by
 unfold F402
 rw [bif_t (by simp),bif_t (by simp),bif_f (by simp)]
 exact same402_loop a g k S hk 100 0 (by omega) (by omega)
theorem fillN_le (a b e:ByteArray) (th L W gap:Int) (f:FF):∀ (m i k:Nat) (S T:FF),k≤i→(fillN a b e th L W gap f m i k S T).1≤i+m
 | 0,_,_,_,_,h=>h
 | m+1,i,k,S,T,h=>by
  unfold fillN
  have:=fillN_le a b e th L W gap f m (i+1) _ (stepF a b e th L W gap f i k S T).2.1 (stepF a b e th L W gap f i k S T).2.2 (stepF_le (a:=a) (b:=b) (e:=e) (th:=th) (L:=L) (W:=W) (gap:=gap) (f:=f) (S:=S) (T:=T) h)
  omega
theorem fills24 (s0c0:ByteArray) (s0c1:ByteArray) (a0c2:Int) (a0c3:Int) (a0c4:Int) (s0c5:ByteArray) (h0c2:I64 a0c2) (h0c3:I64 a0c3) (h0c4:I64 a0c4) (n1c0:Nat) (f1c0:Nat→Nat→CV) (h1c0:SlIn (.pr .str (.pr (.int .i64) (.pr (.int .i64) (.pr .str (.pr .str (.pr (.int .i64) (.pr (.sl (.pr (.int .i64) (.pr (.int .i64) .nil))) (.pr (.sl (.pr (.sl (.pr (.int .i64) (.pr (.int .i64) .nil))) .nil)) (.pr .str (.pr (.int .i64) (.pr (.int .i64) (.pr (.int .i64) (.pr (.int .i64) (.pr (.int .i64) (.pr (.int .i64) (.pr (.int .i64) (.pr (.int .i64) (.pr (.int .i64) .nil)))))))))))))))))) n1c0 f1c0) (a2c0:Int) (h2c0:I64 a2c0):F413 100 s0c0 s0c1 a0c2 a0c3 a0c4 s0c5 n1c0 f1c0 a2c0=some true:=by
 unfold F413
 obtain ⟨c,e1,hc⟩:=few390 n1c0 f1c0 10 (by omega)
 have e1:F390 100 n1c0 f1c0 10=some c:=e1
 rw [e1,ob_some,alive403]
 cases c with
 | false=>rfl
 | true =>
  obtain ⟨hP,h10⟩:=hc rfl
  rw [bif_f (by rfl)]
  obtain ⟨n,f,hs,hn,hV,hD⟩:=suit_parts hP (by omega) s0c0 s0c1 s0c5 a0c2 a0c3 a0c4
  have main:∃ (k:Nat) (S:FF),F398 100 s0c0 s0c1 a0c2 a0c3 a0c4 s0c5 n1c0 f1c0 a2c0=some (s0c0,a2c0,k,S)∧k≤n:=by
   obtain ⟨r1,r2⟩:=fill398 (gap:=a2c0) hs (by omega) hV
   by_cases hg:0≤a2c0∧a2c0≤500
   ·exact ⟨_,_,r1 hg,by have:=fillN_le s0c0 s0c1 s0c5 a0c2 a0c3 a0c4 a2c0 f n 0 0 (fun _ _=>.any) (fun _ _=>.any) (Nat.le_refl _);omega⟩
   ·exact ⟨0,_,r2 hg,by omega⟩
  obtain ⟨k,S,e2,hk⟩:=main
  rw [fill412 (by omega) hs (by omega) hV,e2,ob_some,ob_some]
  dsimp only
  rw [same402 _ _ _ _ (by omega),ob_some]
  rfl
end Go.Eng.R13
