/-
 Several texts in one.
-/
import Derived.KernelRfl
import Derived.Test.YtkknnlhhchielaaDoorEngU
import Derived.Test.YtkknnlhhchielaaDoorEngV
import Derived.Test.YtkknnlhhchielaaDoorNsTurns
import Derived.Test.YtkknnlhhchielaaDoorPlRev
import Derived.Test.YtkknnlhhchielaaDoorPlRev
import Derived.Test.YtkknnlhhchielaaDoorPlRev
import Derived.Test.YtkknnlhhchielaaDoorPlRev
/-
 Bounds of a list of points (out of PlSums).
-/
set_option linter.all false
namespace Go.Eng.R13
open Go Go.RowKit Go.Eng
theorem joinF_o (n:Nat) (f g:Nat→Nat→CV) (j c:Nat) (h:j<n):joinF n f g j c=f j c:=by
 unfold joinF
 rw [bif_t (by simpa [Nat.blt_eq] using h)]
theorem joinF_n (n:Nat) (f g:Nat→Nat→CV) (j c:Nat) (h:n≤j):joinF n f g j c=g (j-n) c:=by
 unfold joinF
 rw [bif_f]
 cases hq:Nat.blt j n with
 | false=>rfl
 | true=>simp [Nat.blt_eq] at hq;omega
def Col (f:Nat→Nat→CV) (c:Nat) (g:Nat→Nat→CV) (i:Nat):Prop:=∀ j,j<i→CV.int (g j 0)=CV.int (f j c)
theorem Col.snoc {f g:Nat→Nat→CV} {c i:Nat} (h:Col f c g i):Col f c (joinF i g (rowsF 1 [.i .i64 (CV.int (f i c))])) (i+1):=by
 intro j hj
 by_cases e:j=i
 ·subst e
  rw [joinF_n _ _ _ _ _ (Nat.le_refl j),Nat.sub_self];rfl
 ·rw [joinF_o _ _ _ _ _ (by omega)]
  exact h j (by omega)
theorem cols46 {ρ:Type} (n:Nat) (f:Nat→Nat→CV) (hn:n≤60) (k:Nat→(Nat→Nat→CV)→(Nat→Nat→CV)→Option ρ):∀ (m i:Nat) (g h:Nat→Nat→CV),n<m+i→i≤n→Col f 0 g i→Col f 1 h i →
  ∃ g' h',L46v1 100 n f (Int.ofNat n) m i (Int.ofNat i) g h k=k n g' h'∧Col f 0 g' n∧Col f 1 h' n:=by
 intro m
 induction m with
 | zero=>intro i g h h1 h2;omega
 | succ m ih =>
  intro i g h h1 h2 hg hh
  unfold L46v1
  rw [lt_nat,inb_nat,toNat_nat]
  by_cases hlt:i<n
  ·rw [bif_t (decide_eq_true hlt),bif_t (decide_eq_true hlt),w64_succ (by omega),bif_t (by rw [Nat.ble_eq];omega),bif_t (by rw [Nat.ble_eq];omega)]
   exact ih (i+1) _ _ (by omega) (by omega) hg.snoc hh.snoc
  ·rw [bif_f (decide_eq_false hlt)]
   have:i=n:=by omega
   subst this
   exact ⟨g,h,rfl,hg,hh⟩
def Ext (z:Int) (g:Nat→Nat→CV) (i:Nat) (a b:Int):Prop :=
 (a≤z∧z≤b∧∀ j,j<i→a≤CV.int (g j 0)∧CV.int (g j 0)≤b)∧(a=z∨∃ j,j<i∧CV.int (g j 0)=a)∧(b=z∨∃ j,j<i∧CV.int (g j 0)=b)
theorem ext72 {ρ:Type} (n:Nat) (z:Int) (g:Nat→Nat→CV) (hn:n≤60) (k:Int→Int→Option ρ):∀ (m i:Nat) (a b:Int),n<m+i→i≤n→Ext z g i a b→∃ a' b',L72v1 100 n g (Int.ofNat n) m a b (Int.ofNat i) k=k a' b'∧Ext z g n a' b':=by
 intro m
 induction m with
 | zero=>intro i a b h1 h2;omega
 | succ m ih =>
  intro i a b h1 h2 hE
  unfold L72v1
  rw [lt_nat,inb_nat,toNat_nat]
  by_cases hlt:i<n
  ·rw [bif_t (decide_eq_true hlt),bif_t (decide_eq_true hlt),w64_succ (by omega)]
   refine ih (i+1) _ _ (by omega) (by omega) ?_
   obtain ⟨⟨e1,e2,e3⟩,e4,e5⟩:=hE
   refine ⟨⟨by split<;>omega,by split<;>omega,fun j hj=>?_⟩,?_,?_⟩
   ·by_cases e:j=i
    ·rw [e];constructor<;>split<;>omega
    ·have:=e3 j (by omega)
     constructor<;>split<;>omega
   ·by_cases e:CV.int (g i 0)<a
    ·rw [if_pos e];exact .inr ⟨i,by omega,rfl⟩
    ·rw [if_neg e]
     rcases e4 with h | ⟨j,h,h'⟩
     ·exact .inl h
     ·exact .inr ⟨j,by omega,h'⟩
   ·by_cases e:CV.int (g i 0)>b
    ·rw [if_pos e];exact .inr ⟨i,by omega,rfl⟩
    ·rw [if_neg e]
     rcases e5 with h | ⟨j,h,h'⟩
     ·exact .inl h
     ·exact .inr ⟨j,by omega,h'⟩
  ·rw [bif_f (decide_eq_false hlt)]
   have:i=n:=by omega
   subst this
   exact ⟨a,b,rfl,hE⟩
theorem ext_law (n:Nat) (z:Int) (g:Nat→Nat→CV) (hn:n≤60):∃ a b,F72 100 z n g=some (a,b)∧Ext z g n a b:=by
 unfold F72
 exact ext72 n z g hn _ 100 0 z z (by omega) (by omega) ⟨⟨Int.le_refl _,Int.le_refl _,fun j hj=>by omega⟩,.inl rfl,.inl rfl⟩
theorem Bds.unique {f:Nat→Nat→CV} {n:Nat} {a b c d a' b' c' d' : Int} (hn:0<n) (h:Bds f n a b c d) (h' : Bds f n a' b' c' d'):a=a'∧b=b'∧c=c'∧d=d':=by
 obtain ⟨h1,h2⟩:=h
 obtain ⟨⟨j1,k1,e1⟩,⟨j2,k2,e2⟩,⟨j3,k3,e3⟩,⟨j4,k4,e4⟩⟩:=h2 hn
 obtain ⟨g1,g2⟩:=h'
 obtain ⟨⟨i1,l1,m1⟩,⟨i2,l2,m2⟩,⟨i3,l3,m3⟩,⟨i4,l4,m4⟩⟩:=g2 hn
 have p1:=h1 i1 l1
 have p2:=h1 i2 l2
 have p3:=h1 i3 l3
 have p4:=h1 i4 l4
 have q1:=g1 j1 k1
 have q2:=g1 j2 k2
 have q3:=g1 j3 k3
 have q4:=g1 j4 k4
 exact ⟨by omega,by omega,by omega,by omega⟩
theorem bounds46 (n:Nat) (f:Nat→Nat→CV) (hn:n≤60):∃ p q r s,F46 100 n f=some (p,q,r,s)∧(0<n→Bds f n p q r s)∧(n=0→p=0∧q=0∧r=0∧s=0):=by
 unfold F46
 by_cases h0:n=0
 ·subst h0
  exact ⟨0,0,0,0,rfl,fun h=>by omega,fun _=>⟨rfl,rfl,rfl,rfl⟩⟩
 ·rw [bif_f (by simp;omega)]
  obtain ⟨g,h,e1,hg,hh⟩:=cols46 n f hn (fun x16 x17 x18=>(bif (inb 0 x16) then (ob (F72 100 (CV.int (x17 0 0)) x16 x17) fun x19=>(bif (inb 0 x16) then (ob (F72 100 (CV.int (x18 0 0)) x16 x18) fun x20=>(some (x19.1,x20.1,x19.2,x20.2))) else none)) else none)) 100 0 (fun _ _=>.any) (fun _ _=>.any) (by omega) (by omega) (fun j hj=>by omega) (fun j hj=>by omega)
  obtain ⟨a,b,e2,E2⟩:=ext_law n (CV.int (g 0 0)) g hn
  obtain ⟨c,d,e3,E3⟩:=ext_law n (CV.int (h 0 0)) h hn
  refine ⟨a,c,b,d,e1.trans ?_,fun _=>?_,fun h=>absurd h h0⟩
  ·rw [bif_t (inb_true (by omega) (by omega)),e2,ob_some,bif_t (inb_true (by omega) (by omega)),e3,ob_some]
  ·obtain ⟨⟨_,_,x1⟩,x2,x3⟩:=E2
   obtain ⟨⟨_,_,y1⟩,y2,y3⟩:=E3
   have hn0:0<n:=by omega
   refine ⟨fun j hj=>?_,fun _=>⟨?_,?_,?_,?_⟩⟩
   ·have p:=x1 j hj
    have q:=y1 j hj
    rw [hg j hj] at p
    rw [hh j hj] at q
    exact ⟨p.1,q.1,p.2,q.2⟩
   ·rcases x2 with h | ⟨j,hj,h⟩
    ·exact ⟨0,hn0,by rw [h,hg 0 hn0]⟩
    ·exact ⟨j,hj,by rw [← hg j hj,h]⟩
   ·rcases y2 with h | ⟨j,hj,h⟩
    ·exact ⟨0,hn0,by rw [h,hh 0 hn0]⟩
    ·exact ⟨j,hj,by rw [← hh j hj,h]⟩
   ·rcases x3 with h | ⟨j,hj,h⟩
    ·exact ⟨0,hn0,by rw [h,hg 0 hn0]⟩
    ·exact ⟨j,hj,by rw [← hg j hj,h]⟩
   ·rcases y3 with h | ⟨j,hj,h⟩
    ·exact ⟨0,hn0,by rw [h,hh 0 hn0]⟩
    ·exact ⟨j,hj,by rw [← hh j hj,h]⟩
theorem bounds_eq (n1:Nat) (f1:Nat→Nat→CV) (n2:Nat) (f2:Nat→Nat→CV) (hn:n1≤40):∃ p,F20 100 n1 f1 n2 f2=some p∧F21 100 n1 f1 n2 f2=some p:=by
 obtain ⟨p,q,r,s,h1,h2,h3⟩:=bounds46 n1 f1 (by omega)
 have e20:F20 100 n1 f1 n2 f2=some (p,q,r,s):=by
  unfold F20
  rw [h1,ob_some]
 by_cases h0:n1=0
 ·obtain ⟨rfl,rfl,rfl,rfl⟩:=h3 h0
  subst h0
  exact ⟨_,e20,rfl⟩
 ·obtain ⟨p',q',r',s',h4,h5⟩:=bounds_law n1 n2 f1 f2 hn
  obtain ⟨rfl,rfl,rfl,rfl⟩:=Bds.unique (by omega) (h2 (by omega)) (h5 (by omega))
  exact ⟨_,e20,h4⟩
end Go.Eng.R13
/-
 Nester: numbers in range,the bounding rectangle of a part,when a rectangle fits.
-/
set_option linter.all false
namespace Go.Eng.R13
open Go Go.RowKit Go.Eng
theorem within389 (u:Nat) (n a b:Int):F389 u n a b=some (decide (a≤n)&&decide (n≤b)):=by
 unfold F389
 by_cases h:a≤n
 ·rw [bif_t (by simpa using h),decide_eq_true h,Bool.true_and]
 ·rw [bif_f (by simpa using h),decide_eq_false h,Bool.false_and]
def Nr4 (a b c d:Int):Prop:=(-1099511627776≤a∧a≤1099511627776)∧(-1099511627776≤b∧b≤1099511627776)∧(-1099511627776≤c∧c≤1099511627776)∧(-1099511627776≤d∧d≤1099511627776)
instance (a b c d:Int):Decidable (Nr4 a b c d):=by unfold Nr4;infer_instance
theorem nr393 {ρ:Type} (t a b c d:Int) (k0 k1:Option ρ) (u m:Nat):L393v1 u t a b c d (m+5) 0 k0 k1=if Nr4 a b c d then k1 else k0:=by
 have e:∀ (z:Int) (x y:Option ρ),(ob (F389 u z (-1099511627776) 1099511627776) fun q=>bif !q then x else y)=if (-1099511627776≤z∧z≤1099511627776) then y else x:=by
  intro z x y
  rw [within389,ob_some]
  by_cases h:(-1099511627776≤z∧z≤1099511627776)
  ·rw [if_pos h,bif_f (by simp [h.1,h.2])]
  ·rw [if_neg h,bif_t (by simp only [Bool.not_eq_true',Bool.and_eq_false_iff,decide_eq_false_iff_not];omega)]
 have w1:w64 (0+1)=1:=by decide
 have w2:w64 (1+1)=2:=by decide
 have w3:w64 (2+1)=3:=by decide
 have w4:w64 (3+1)=4:=by decide
 unfold L393v1
 rw [bif_t (by decide),bif_t (by decide),w1,e]
 unfold L393v1
 rw [bif_t (by decide),bif_f (by decide),bif_t (by decide),w2,e]
 unfold L393v1
 rw [bif_t (by decide),bif_f (by decide),bif_f (by decide),bif_t (by decide),w3,e]
 unfold L393v1
 rw [bif_t (by decide),bif_f (by decide),bif_f (by decide),bif_f (by decide),bif_t (by decide),w4,e]
 unfold L393v1
 rw [bif_f (by decide)]
 split
 ·split
  ·split
   ·split
    ·rename_i h1 h2 h3 h4;rw [if_pos (show Nr4 a b c d from ⟨h1,h2,h3,h4⟩)]
    ·rename_i h1;rw [if_neg (fun h:Nr4 a b c d=>h1 h.2.2.2)]
   ·rename_i h1;rw [if_neg (fun h:Nr4 a b c d=>h1 h.2.2.1)]
  ·rename_i h1;rw [if_neg (fun h:Nr4 a b c d=>h1 h.2.1)]
 ·rename_i h1;rw [if_neg (fun h:Nr4 a b c d=>h1 h.1)]
def szB (t a b c d:Int):Int × Int :=
 if Nr4 a b c d then (if Int.tmod t 2=0 then (c-a,d-b) else (d-b,c-a)) else (0,0)
theorem rect393 (x:Nat→CV) (t:Int) (hn:CV.len (x 6)≤40):∃ p:Int × Int × Int × Int,F20 100 (CV.len (x 6)) (CV.el (x 6)) (CV.len (x 7)) (CV.el (x 7))=some p ∧
  F393 100 x t=some (szB t p.1 p.2.1 p.2.2.1 p.2.2.2):=by
 obtain ⟨p,h1,h2⟩:=bounds_eq (CV.len (x 6)) (CV.el (x 6)) (CV.len (x 7)) (CV.el (x 7)) hn
 refine ⟨p,h1,?_⟩
 unfold F393 szB
 rw [h1,ob_some,nr393 _ _ _ _ _ _ _ 100 95]
 by_cases h:Nr4 p.1 p.2.1 p.2.2.1 p.2.2.2
 ·obtain ⟨q1,q2,q3,q4⟩:=id h
  rw [if_pos h,if_pos h,w64_of (by omega) (by omega),w64_of (by omega) (by omega)]
  by_cases ht:Int.tmod t 2=0
  ·rw [if_pos ht,bif_f (by simp [ht])]
  ·rw [if_neg ht,bif_t (by simp [ht])]
 ·rw [if_neg h,if_neg h]
end Go.Eng.R13
/-
 Nester: when a rectangle fits beside others: the program's Fits and the reference's.
-/
set_option linter.all false
namespace Go.Eng.R13
open Go Go.RowKit Go.Eng
abbrev bx (r:FF) (j c:Nat):Int:=CV.int (r j c)
def Apt (lx ly hx hy x y l w g:Int):Prop:=¬ (x<hx+g∧lx<x+l+g∧y<hy+g∧ly<y+w+g)
def FLim (len wid x y l w gap:Int):Prop:=(0≤len∧len≤32768)∧(0≤wid∧wid≤32768)∧(0≤gap∧gap≤500)∧(1≤l∧l≤32768)∧(1≤w∧w≤32768)∧(-32768≤x∧x≤32768)∧(-32768≤y∧y≤32768)
def FIn (len wid x y l w gap:Int):Prop:=gap≤x∧gap≤y∧x+l≤len-gap∧y+w≤wid-gap
abbrev gG (gap:Int):Int:=if 1>gap then 1 else gap
def NrJ (r:FF) (j:Nat):Prop:=Nr4 (bx r j 0) (bx r j 1) (bx r j 2) (bx r j 3)
def AptJ (r:FF) (x y l w g:Int) (j:Nat):Prop:=Apt (bx r j 0) (bx r j 1) (bx r j 2) (bx r j 3) x y l w g
def FitsP (len wid:Int) (n:Nat) (r:FF) (x y l w gap:Int):Prop :=
 FLim len wid x y l w gap∧(∀ j,j<n→NrJ r j)∧FIn len wid x y l w gap∧∀ j,j<n→AptJ r x y l w (gG gap) j
theorem nr395 {ρ:Type} (len wid:Int) (n:Nat) (r:FF) (l w gap N i x y a b c d:Int) (k0 k1:Option ρ) (u m:Nat):L395v2 u len wid n r l w gap N i a b c d x y (m+5) 0 k0 k1=if Nr4 a b c d then k1 else k0:=by
 have e:∀ (z:Int) (x y:Option ρ),(ob (F389 u z (-1099511627776) 1099511627776) fun q=>bif !q then x else y)=if (-1099511627776≤z∧z≤1099511627776) then y else x:=by
  intro z x y
  rw [within389,ob_some]
  by_cases h:(-1099511627776≤z∧z≤1099511627776)
  ·rw [if_pos h,bif_f (by simp [h.1,h.2])]
  ·rw [if_neg h,bif_t (by simp only [Bool.not_eq_true',Bool.and_eq_false_iff,decide_eq_false_iff_not];omega)]
 have w1:w64 (0+1)=1:=by decide
 have w2:w64 (1+1)=2:=by decide
 have w3:w64 (2+1)=3:=by decide
 have w4:w64 (3+1)=4:=by decide
 unfold L395v2
 rw [bif_t (by decide),bif_t (by decide),w1,e]
 unfold L395v2
 rw [bif_t (by decide),bif_f (by decide),bif_t (by decide),w2,e]
 unfold L395v2
 rw [bif_t (by decide),bif_f (by decide),bif_f (by decide),bif_t (by decide),w3,e]
 unfold L395v2
 rw [bif_t (by decide),bif_f (by decide),bif_f (by decide),bif_f (by decide),bif_t (by decide),w4,e]
 unfold L395v2
 rw [bif_f (by decide)]
 split
 ·split
  ·split
   ·split
    ·rename_i h1 h2 h3 h4;rw [if_pos (show Nr4 a b c d from ⟨h1,h2,h3,h4⟩)]
    ·rename_i h1;rw [if_neg (fun h:Nr4 a b c d=>h1 h.2.2.2)]
   ·rename_i h1;rw [if_neg (fun h:Nr4 a b c d=>h1 h.2.2.1)]
  ·rename_i h1;rw [if_neg (fun h:Nr4 a b c d=>h1 h.2.1)]
 ·rename_i h1;rw [if_neg (fun h:Nr4 a b c d=>h1 h.1)]
theorem nrs395 {ρ:Type} (len wid:Int) (n:Nat) (r:FF) (l w gap x y:Int) (k0 k1:Option ρ) (hn:n≤60):∀ (m i:Nat),n<m+i→i≤n →
  (L395v3 100 len wid n r l w gap (Int.ofNat n) x y m (Int.ofNat i) k0 k1=k1∧∀ j,i≤j→j<n→NrJ r j)∨(L395v3 100 len wid n r l w gap (Int.ofNat n) x y m (Int.ofNat i) k0 k1=k0∧∃ j,j<n∧¬ NrJ r j):=by
 intro m
 induction m with
 | zero=>intro i h1 h2;omega
 | succ m ih =>
  intro i h1 h2
  unfold L395v3
  rw [lt_nat,inb_nat,toNat_nat]
  by_cases h:i<n
  ·rw [bif_t (decide_eq_true h),bif_t (decide_eq_true h),nr395 _ _ _ _ _ _ _ _ _ _ _ _ _ _ _ _ _ 100 95,w64_succ (by omega)]
   by_cases hq:Nr4 (CV.int (r i 0)) (CV.int (r i 1)) (CV.int (r i 2)) (CV.int (r i 3))
   ·rw [if_pos hq]
    rcases ih (i+1) (by omega) (by omega) with ⟨e,hh⟩ | h3
    ·refine .inl ⟨e,fun j h5 h6=>?_⟩
     by_cases hj:j=i
     ·subst hj;exact hq
     ·exact hh j (by omega) h6
    ·exact .inr h3
   ·rw [if_neg hq];exact .inr ⟨rfl,i,h,hq⟩
  ·rw [bif_f (decide_eq_false h)];exact .inl ⟨rfl,fun j h5 h6=>by omega⟩
theorem apt395 {ρ:Type} (n:Nat) (r:FF) (l w g x y:Int) (k0 k1:Option ρ) (hn:n≤60) (hN:∀ j,j<n→NrJ r j) (hg:1≤g∧g≤500) (hl:1≤l∧l≤32768) (hw:1≤w∧w≤32768) (hx : -32768≤x∧x≤32768) (hy : -32768≤y∧y≤32768):∀ (m i:Nat),n<m+i→i≤n →
  (L395v4 100 l w g n r (Int.ofNat n) x y m (Int.ofNat i) k0 k1=k1∧∀ j,i≤j→j<n→AptJ r x y l w g j)∨(L395v4 100 l w g n r (Int.ofNat n) x y m (Int.ofNat i) k0 k1=k0∧∃ j,j<n∧¬ AptJ r x y l w g j):=by
 intro m
 induction m with
 | zero=>intro i h1 h2;omega
 | succ m ih =>
  intro i h1 h2
  unfold L395v4
  rw [lt_nat,inb_nat,toNat_nat]
  by_cases h:i<n
  ·obtain ⟨q1,q2,q3,q4⟩:=hN i h
   simp only [bx] at q1 q2 q3 q4
   rw [bif_t (decide_eq_true h),bif_t (decide_eq_true h),w64_succ (by omega),w64_of (n:=CV.int (r i 2)+g) (by omega) (by omega),w64_of (n:=CV.int (r i 3)+g) (by omega) (by omega),w64_of (n:=x+l) (by omega) (by omega),w64_of (n:=y+w) (by omega) (by omega),w64_of (n:=x+l+g) (by omega) (by omega),w64_of (n:=y+w+g) (by omega) (by omega)]
   have go:AptJ r x y l w g i→(L395v4 100 l w g n r (Int.ofNat n) x y m (Int.ofNat (i+1)) k0 k1=k1∧∀ j,i≤j→j<n→AptJ r x y l w g j)∨(L395v4 100 l w g n r (Int.ofNat n) x y m (Int.ofNat (i+1)) k0 k1=k0∧∃ j,j<n∧¬ AptJ r x y l w g j):=by
    intro hq
    rcases ih (i+1) (by omega) (by omega) with ⟨e,hh⟩ | h3
    ·refine .inl ⟨e,fun j h5 h6=>?_⟩
     by_cases hj:j=i
     ·subst hj;exact hq
     ·exact hh j (by omega) h6
    ·exact .inr h3
   by_cases c1:x<CV.int (r i 2)+g
   ·rw [bif_t (by simpa using c1)]
    by_cases c2:x+l+g>CV.int (r i 0)
    ·rw [bif_t (by simpa using c2)]
     by_cases c3:y<CV.int (r i 3)+g
     ·rw [bif_t (by simpa using c3)]
      by_cases c4:y+w+g>CV.int (r i 1)
      ·rw [bif_t (by simpa using c4)];exact .inr ⟨rfl,i,h,fun hq=>hq ⟨c1,c2,c3,c4⟩⟩
      ·rw [bif_f (by simpa using c4)];exact go fun hq=>c4 hq.2.2.2
     ·rw [bif_f (by simpa using c3)];exact go fun hq=>c3 hq.2.2.1
    ·rw [bif_f (by simpa using c2)];exact go fun hq=>c2 hq.2.1
   ·rw [bif_f (by simpa using c1)];exact go fun hq=>c1 hq.1
  ·rw [bif_f (decide_eq_false h)];exact .inl ⟨rfl,fun j h5 h6=>by omega⟩
theorem bi {ρ:Type} (u:Nat) (z a b:Int) (x y:Option ρ):(ob (F389 u z a b) fun q=>bif (!q)==false then x else y)=if (a≤z∧z≤b) then x else y:=by
 have e:(decide (a≤z)&&decide (z≤b))=decide (a≤z∧z≤b):=by simp
 rw [within389,ob_some,e]
 by_cases h:(a≤z∧z≤b)
 ·rw [if_pos h,decide_eq_true h];rfl
 ·rw [if_neg h,decide_eq_false h];rfl
theorem fits_tail (len wid:Int) (n:Nat) (r:FF) (x y l w gap:Int) (hn:n≤60) (hL:FLim len wid x y l w gap) (hN:∀ j,j<n→NrJ r j):∃ b,(bif ((decide (x<gap))==false) then (bif ((decide (y<gap))==false) then (bif ((decide ((w64 (x+l))>(w64 (len-gap))))==false) then (bif (decide ((w64 (y+w))>(w64 (wid-gap)))) then (some false) else (L395v4 100 l w (if 1>gap then 1 else gap) n r (Int.ofNat n) x y 100 0 (some false) (some true))) else (some false)) else (some false)) else (some false))=some b∧(b=true↔FIn len wid x y l w gap∧∀ j,j<n→AptJ r x y l w (gG gap) j):=by
 obtain ⟨c1,c2,c3,c4,c5,c6,c7⟩:=hL
 have hg:1≤gG gap∧gG gap≤500:=by unfold gG;split<;>omega
 rw [w64_of (n:=x+l) (by omega) (by omega),w64_of (n:=y+w) (by omega) (by omega),w64_of (n:=len-gap) (by omega) (by omega),w64_of (n:=wid-gap) (by omega) (by omega)]
 have no:∀ (P Q:Prop),¬ P→∃ b,some false=some b∧(b=true↔P∧Q):=fun P Q h=>⟨false,rfl,by simp only [Bool.false_eq_true,false_iff];exact fun q=>h q.1⟩
 by_cases d1:x<gap
 ·rw [decide_eq_true d1];exact no _ _ fun h=>by have:=h.1;omega
 rw [decide_eq_false d1,bif_t (by rfl)]
 by_cases d2:y<gap
 ·rw [decide_eq_true d2];exact no _ _ fun h=>by have:=h.2.1;omega
 rw [decide_eq_false d2,bif_t (by rfl)]
 by_cases d3:x+l>len-gap
 ·rw [decide_eq_true d3];exact no _ _ fun h=>by have:=h.2.2.1;omega
 rw [decide_eq_false d3,bif_t (by rfl)]
 by_cases d4:y+w>wid-gap
 ·rw [bif_t (decide_eq_true d4)];exact no _ _ fun h=>by have:=h.2.2.2;omega
 rw [bif_f (decide_eq_false d4)]
 rcases apt395 n r l w (gG gap) x y (some false) (some true) hn hN hg c4 c5 c6 c7 100 0 (by omega) (by omega) with ⟨e,hA⟩ | ⟨e,j,hj,hq⟩
 ·exact ⟨true,e,by simp only [true_iff];exact ⟨⟨by omega,by omega,by omega,by omega⟩,fun j hj=>hA j (by omega) hj⟩⟩
 ·exact ⟨false,e,by simp only [Bool.false_eq_true,false_iff];exact fun q=>hq (q.2 j hj)⟩
theorem fits_law (len wid:Int) (n:Nat) (r:FF) (x y l w gap:Int) (hn:n≤60):∃ b,F395 100 len wid n r x y l w gap=some b∧(b=true↔FitsP len wid n r x y l w gap):=by
 have no:∀ (P Q:Prop),¬ P→∃ b,some false=some b∧(b=true↔P∧Q):=fun P Q h=>⟨false,rfl,by simp only [Bool.false_eq_true,false_iff];exact fun q=>h q.1⟩
 unfold F395 FitsP
 rw [bi]
 by_cases c1:0≤len∧len≤32768
 case neg=>rw [if_neg c1];exact no _ _ fun h=>c1 h.1
 rw [if_pos c1,bi]
 by_cases c2:0≤wid∧wid≤32768
 case neg=>rw [if_neg c2];exact no _ _ fun h=>c2 h.2.1
 rw [if_pos c2,bi]
 by_cases c3:0≤gap∧gap≤500
 case neg=>rw [if_neg c3];exact no _ _ fun h=>c3 h.2.2.1
 rw [if_pos c3,bi]
 by_cases c4:1≤l∧l≤32768
 case neg=>rw [if_neg c4];exact no _ _ fun h=>c4 h.2.2.2.1
 rw [if_pos c4,bi]
 by_cases c5:1≤w∧w≤32768
 case neg=>rw [if_neg c5];exact no _ _ fun h=>c5 h.2.2.2.2.1
 rw [if_pos c5,bi]
 by_cases c6 : -32768≤x∧x≤32768
 case neg=>rw [if_neg c6];exact no _ _ fun h=>c6 h.2.2.2.2.2.1
 rw [if_pos c6,within389,ob_some]
 by_cases c7 : -32768≤y∧y≤32768
 case neg=>rw [bif_t (by simp only [Bool.not_eq_true',Bool.and_eq_false_iff,decide_eq_false_iff_not];omega)];exact no _ _ fun h=>c7 h.2.2.2.2.2.2
 rw [bif_f (by simp [c7.1,c7.2])]
 have hL:FLim len wid x y l w gap:=⟨c1,c2,c3,c4,c5,c6,c7⟩
 rcases nrs395 len wid n r l w gap x y (some false) (bif ((decide (x<gap))==false) then (bif ((decide (y<gap))==false) then (bif ((decide ((w64 (x+l))>(w64 (len-gap))))==false) then (bif (decide ((w64 (y+w))>(w64 (wid-gap)))) then (some false) else (L395v4 100 l w (if 1>gap then 1 else gap) n r (Int.ofNat n) x y 100 0 (some false) (some true))) else (some false)) else (some false)) else (some false)) hn 100 0 (by omega) (by omega) with ⟨e,hN⟩ | ⟨e,j,hj,hq⟩
 ·obtain ⟨b,e2,hb⟩:=fits_tail len wid n r x y l w gap hn hL fun j hj=>hN j (by omega) hj
  exact ⟨b,e.trans e2,hb.trans ⟨fun h=>⟨hL,fun j hj=>hN j (by omega) hj,h.1,h.2⟩,fun h=>⟨h.2.2.1,h.2.2.2⟩⟩⟩
 ·exact ⟨_,e,by simp only [Bool.false_eq_true,false_iff];exact fun h=>hq (h.2.1 j hj)⟩
end Go.Eng.R13
/-
 Nester: the reference's Fits.
-/
set_option linter.all false
namespace Go.Eng.R13
open Go Go.RowKit Go.Eng
theorem bd {ρ:Type} (P:Prop) [Decidable P] (x y:ρ):(bif decide P==false then x else y)=if P then y else x:=by
 by_cases h:P
 ·rw [decide_eq_true h,if_pos h];rfl
 ·rw [decide_eq_false h,if_neg h];rfl
end Go.Eng.R13
/-
 Nester: the examples of the chapter hold.
-/
set_option linter.all false
namespace Go.Eng.R13
open Go Go.RowKit Go.Eng
theorem alive403:F403 100=some true:=by kernel_rfl
end Go.Eng.R13
/-
 NesterRects: the plain law.
-/
set_option linter.all false
namespace Go.Eng.R13
open Go Go.RowKit Go.Eng
theorem few_loop {ρ:Type} (x:Nat→CV) (hn:CV.len (x 7)≤12) (k0 k1:Option ρ):∀ (m i:Nat),CV.len (x 7)<m+i→i≤CV.len (x 7)→L386v1 100 x m (Int.ofNat i) k0 k1=k0∨L386v1 100 x m (Int.ofNat i) k0 k1=k1:=by
 intro m
 induction m with
 | zero=>intro i h1 h2;omega
 | succ m ih =>
  intro i h1 h2
  unfold L386v1
  rw [lt_nat,inb_nat,toNat_nat]
  by_cases h:i<CV.len (x 7)
  ·rw [bif_t (decide_eq_true h),bif_t (decide_eq_true h),w64_succ (by omega)]
   by_cases c:(Int.ofNat (CV.len ((CV.el (x 7)) i 0)))>40
   ·rw [bif_t (decide_eq_true c)];exact .inl rfl
   ·rw [bif_f (decide_eq_false c)];exact ih (i+1) (by omega) (by omega)
  ·rw [bif_f (decide_eq_false h)];exact .inr rfl
theorem few386 (x:Nat→CV):∃ b,F386 100 x=some b∧(b=true→CV.len (x 6)≤40):=by
 have no:∃ b,some false=some b∧(b=true→CV.len (x 6)≤40):=⟨false,rfl,fun h=>by cases h⟩
 unfold F386
 rw [bd,bd,bd,bd,bd]
 split;exact no
 split;exact no
 split;exact no
 split;exact no
 split;exact no
 rename_i _ _ _ _ c
 by_cases c2:(Int.ofNat (CV.len (x 7)))>12
 ·rw [bif_t (decide_eq_true c2)];exact no
 rw [bif_f (decide_eq_false c2)]
 have c:¬ (CV.len (x 6):Int)>40:=c
 have c2:¬ (CV.len (x 7):Int)>12:=c2
 rcases few_loop x (by omega) (some false) (some true) 100 0 (by omega) (by omega) with e | e
 ·exact ⟨_,e,fun _=>by omega⟩
 ·exact ⟨_,e,fun _=>by omega⟩
end Go.Eng.R13
/-
 Nester: the packing of parts by two orders.
-/
set_option linter.all false
namespace Go.Eng.R13
open Go Go.RowKit Go.Eng
def ixGo (l:List Int) (a:Int):Nat→Nat→Int
 | 0,_=>-1
 | m+1,i=>if a=l.getD i 0 then (i:Int) else ixGo l a m (i+1)
def ixI (l:List Int) (a:Int):Int:=ixGo l a l.length 0
theorem ix338_loop (l:List Int) (a:Int) (hl:l.length≤60):∀ (m i:Nat),l.length<m+i→i≤l.length→L338v1 100 l.length (fL l) a (Int.ofNat l.length) m (Int.ofNat i) (fun x=>some x) (some (-1))=some (ixGo l a (l.length-i) i):=by
 intro m
 induction m with
 | zero=>intro i h1 h2;omega
 | succ m ih =>
  intro i h1 h2
  unfold L338v1
  rw [lt_nat,inb_nat,toNat_nat]
  by_cases h:i<l.length
  ·rw [bif_t (decide_eq_true h),bif_t (decide_eq_true h),show l.length-i=(l.length-(i+1))+1 from by omega,ixGo,w64_succ (by omega)]
   have e:CV.int (fL l i 0)=l.getD i 0:=rfl
   rw [e]
   by_cases c:a=l.getD i 0
   ·rw [if_pos c,bif_t (by simpa using c)];rfl
   ·rw [if_neg c,bif_f (by simpa using c)];exact ih (i+1) (by omega) (by omega)
  ·rw [bif_f (decide_eq_false h),show l.length-i=0 from by omega];rfl
theorem ix338 (l:List Int) (a:Int) (hl:l.length≤60):F338 100 l.length (fL l) a=some (ixI l a):=ix338_loop l a hl 100 0 (by omega) (by omega)
def Bef (first:List Int) (a b:Int):Prop:=ixI first a<ixI first b
instance (first:List Int) (a b:Int):Decidable (Bef first a b):=by unfold Bef;infer_instance
structure Fnd (first second:List Int) (R:FF) (g b:Int) (k i:Nat) (x y x' y' : Int):Prop where
 gex:x≤x'
 gey:y≤y'
 left:∀ t,i≤t→t<k→Bef first (second.getD t 0) b→bx R (second.getD t 0).toNat 2+g≤x'
 below:∀ t,i≤t→t<k→¬ Bef first (second.getD t 0) b→bx R (second.getD t 0).toNat 3+g≤y'
 leastx:∀ X,x≤X→(∀ t,i≤t→t<k→Bef first (second.getD t 0) b→bx R (second.getD t 0).toNat 2+g≤X)→x'≤X
 leasty:∀ Y,y≤Y→(∀ t,i≤t→t<k→¬ Bef first (second.getD t 0) b→bx R (second.getD t 0).toNat 3+g≤Y)→y'≤Y
theorem inner399 {ρ:Type} (n N2 N3 N5:Nat) (f F3:FF) (first second:List Int) (R:FF) (g b gap a1 a2:Int) (k:Nat) (hf:first.length≤60) (hk:k≤60)
  (hin:∀ t,t<k→0≤second.getD t 0∧second.getD t 0<n) (hg:1≤g∧g≤500)
  (hR:∀ t,t<k→(0≤bx R (second.getD t 0).toNat 2∧bx R (second.getD t 0).toNat 2≤1099511627776)∧(0≤bx R (second.getD t 0).toNat 3∧bx R (second.getD t 0).toNat 3≤1099511627776)):∀ (m i:Nat) (x y:Int),k<m+i→i≤k →
  ∃ x' y',(∀ k0:Int→Int→Option ρ,L399v2 100 N2 f N3 F3 first.length (fL first) N5 (fL second) gap n g b a1 a2 k (Int.ofNat k) R m (Int.ofNat i) x y k0=k0 x' y')∧Fnd first second R g b k i x y x' y':=by
 intro m
 induction m with
 | zero=>intro i x y h1 h2;omega
 | succ m ih =>
  intro i x y h1 h2
  by_cases h:i<k
  ·have e:CV.int (fL second i 0)=second.getD i 0:=rfl
   obtain ⟨z0,z1⟩:=hin i h
   obtain ⟨r2,r3⟩:=hR i h
   have hb:inb (second.getD i 0) n=true:=inb_true z0 z1
   by_cases c:Bef first (second.getD i 0) b
   ·obtain ⟨x',y',e1,F⟩:=ih (i+1) (if CV.int (R (second.getD i 0).toNat 2)+g>x then CV.int (R (second.getD i 0).toNat 2)+g else x) y (by omega) (by omega)
    have hx:x≤x'∧bx R (second.getD i 0).toNat 2+g≤x':=by
     have:=F.gex
     simp only [bx]
     split at this<;>omega
    refine ⟨x',y',fun k0=>?_,hx.1,F.gey,fun t q1 q2 q3=>?_,fun t q1 q2 q3=>?_,fun X q1 q2=>?_,fun Y q1 q2=>?_⟩
    ·unfold L399v2
     rw [lt_nat,inb_nat,toNat_nat,bif_t (decide_eq_true h),bif_t (decide_eq_true h),e,ix338 _ _ hf,ob_some,ix338 _ _ hf,ob_some,w64_succ (by omega),Nat.zero_add,bif_t (decide_eq_true (show ixI first (second.getD i 0)<ixI first b from c)),bif_t hb,w64_of (n:=CV.int (R (second.getD i 0).toNat 2)+g) (by simp only [bx] at r2;omega) (by simp only [bx] at r2;omega)]
     exact e1 k0
    ·by_cases ht:t=i
     ·rw [ht];exact hx.2
     ·exact F.left t (by omega) q2 q3
    ·by_cases ht:t=i
     ·rw [ht] at q3;exact absurd c q3
     ·exact F.below t (by omega) q2 q3
    ·refine F.leastx X ?_ fun t w1 w2 w3=>q2 t (by omega) w2 w3
     have:=q2 i (by omega) h c
     simp only [bx] at this
     split<;>omega
    ·exact F.leasty Y q1 fun t w1 w2 w3=>q2 t (by omega) w2 w3
   ·obtain ⟨x',y',e1,F⟩:=ih (i+1) x (if CV.int (R (second.getD i 0).toNat 3)+g>y then CV.int (R (second.getD i 0).toNat 3)+g else y) (by omega) (by omega)
    have hy:y≤y'∧bx R (second.getD i 0).toNat 3+g≤y':=by
     have:=F.gey
     simp only [bx]
     split at this<;>omega
    refine ⟨x',y',fun k0=>?_,F.gex,hy.1,fun t q1 q2 q3=>?_,fun t q1 q2 q3=>?_,fun X q1 q2=>?_,fun Y q1 q2=>?_⟩
    ·unfold L399v2
     rw [lt_nat,inb_nat,toNat_nat,bif_t (decide_eq_true h),bif_t (decide_eq_true h),e,ix338 _ _ hf,ob_some,ix338 _ _ hf,ob_some,w64_succ (by omega),Nat.zero_add,bif_f (decide_eq_false (show ¬ ixI first (second.getD i 0)<ixI first b from c)),bif_t hb,w64_of (n:=CV.int (R (second.getD i 0).toNat 3)+g) (by simp only [bx] at r3;omega) (by simp only [bx] at r3;omega)]
     exact e1 k0
    ·by_cases ht:t=i
     ·rw [ht] at q3;exact absurd q3 c
     ·exact F.left t (by omega) q2 q3
    ·by_cases ht:t=i
     ·rw [ht];exact hy.2
     ·exact F.below t (by omega) q2 q3
    ·exact F.leastx X q1 fun t w1 w2 w3=>q2 t (by omega) w2 w3
    ·refine F.leasty Y ?_ fun t w1 w2 w3=>q2 t (by omega) w2 w3
     have:=q2 i (by omega) h c
     simp only [bx] at this
     split<;>omega
  ·refine ⟨x,y,fun k0=>?_,Int.le_refl _,Int.le_refl _,fun t q1 q2=>by omega,fun t q1 q2=>by omega,fun X q1 _=>q1,fun Y q1 _=>q1⟩
   unfold L399v2
   rw [lt_nat,bif_f (decide_eq_false h)]
theorem setF4 (f:FF) (i:Nat) (L:Nat→CV) (a c:Nat):setF f i 0 4 L a c=if a=i∧c<4 then L c else f a c:=by
 unfold setF
 by_cases h1:a=i
 ·subst h1
  by_cases h2:c<4
  ·have:(Nat.beq a a&&Nat.ble 0 c&&Nat.blt c (0+4))=true:=by
    simp [Nat.blt_eq,h2]
   rw [this,if_pos ⟨rfl,h2⟩];rfl
  ·have:(Nat.beq a a&&Nat.ble 0 c&&Nat.blt c (0+4))=false:=by
    have:Nat.blt c (0+4)=false:=by
     cases hq:Nat.blt c (0+4) with
     | false=>rfl
     | true=>exact (h2 (by simpa [Nat.blt_eq] using hq)).elim
    rw [this];simp
   rw [this,if_neg (fun h=>h2 h.2)];rfl
 ·have:(Nat.beq a i&&Nat.ble 0 c&&Nat.blt c (0+4))=false:=by
   have:Nat.beq a i=false:=by
    cases hq:Nat.beq a i with
    | false=>rfl
    | true=>exact (h1 (Nat.eq_of_beq_eq_true hq)).elim
   rw [this];simp
  rw [this,if_neg (fun h=>h1 h.1)];rfl
def szOf (p:Nat→CV) (t:Int):Int × Int:=(F393 100 p t).getD (0,0)
structure Good (p:Nat→CV):Prop where
 len:CV.len (p 6)≤40
 sz:∀ t,(0≤(szOf p t).1∧(szOf p t).1≤131072)∧(0≤(szOf p t).2∧(szOf p t).2≤131072)
theorem f393_congr (u:Nat) (x y:Nat→CV) (t:Int) (h1:CV.len (x 6)=CV.len (y 6)) (h2:CV.el (x 6)=CV.el (y 6)) (h3:CV.len (x 7)=CV.len (y 7)) (h4:CV.el (x 7)=CV.el (y 7)):F393 u x t=F393 u y t:=by
 unfold F393
 rw [h1,h2,h3,h4]
theorem Good.rect {p:Nat→CV} (h:Good p) (t:Int):F393 100 p t=some (szOf p t):=by
 obtain ⟨q,_,h2⟩:=rect393 p t h.len
 unfold szOf
 rw [h2];rfl
theorem rect397 {p:Nat→CV} (G:Good p) (q:Nat→CV) (t x y:Int) (h1:CV.len (q 6)=CV.len (p 6)) (h2:CV.el (q 6)=CV.el (p 6)) (h3:CV.len (q 7)=CV.len (p 7)) (h4:CV.el (q 7)=CV.el (p 7)) (hx:0≤x∧x≤1099511627776) (hy:0≤y∧y≤1099511627776) :
  F397 100 q t x y=some (x,y,x+(szOf p t).1,y+(szOf p t).2):=by
 unfold F397
 have s:=G.sz t
 rw [f393_congr 100 (listF (pj kR0 q)) p t h1 h2 h3 h4,G.rect t,ob_some,w64_of (by omega) (by omega),w64_of (by omega) (by omega)]
structure Pk (f:FF) (tl first second:List Int) (gap:Int) (k:Nat) (R:FF):Prop where
 lo:∀ t,t<k→(gap≤bx R (second.getD t 0).toNat 0∧bx R (second.getD t 0).toNat 0≤500+t*140000)∧(gap≤bx R (second.getD t 0).toNat 1∧bx R (second.getD t 0).toNat 1≤500+t*140000)
 hi:∀ t,t<k→bx R (second.getD t 0).toNat 2=bx R (second.getD t 0).toNat 0+(szOf (f (second.getD t 0).toNat) (tl.getD (second.getD t 0).toNat 0)).1∧bx R (second.getD t 0).toNat 3=bx R (second.getD t 0).toNat 1+(szOf (f (second.getD t 0).toNat) (tl.getD (second.getD t 0).toNat 0)).2
 sep:∀ s t,s<t→t<k→(Bef first (second.getD s 0) (second.getD t 0)→bx R (second.getD s 0).toNat 2+gG gap≤bx R (second.getD t 0).toNat 0)∧(¬ Bef first (second.getD s 0) (second.getD t 0)→bx R (second.getD s 0).toNat 3+gG gap≤bx R (second.getD t 0).toNat 1)
 least:∀ X Y:Nat→Int,(∀ t,t<k→gap≤X (second.getD t 0).toNat∧gap≤Y (second.getD t 0).toNat) →
  (∀ s t,s<t→t<k→(Bef first (second.getD s 0) (second.getD t 0)→X (second.getD s 0).toNat+(szOf (f (second.getD s 0).toNat) (tl.getD (second.getD s 0).toNat 0)).1+gG gap≤X (second.getD t 0).toNat) ∧
   (¬ Bef first (second.getD s 0) (second.getD t 0)→Y (second.getD s 0).toNat+(szOf (f (second.getD s 0).toNat) (tl.getD (second.getD s 0).toNat 0)).2+gG gap≤Y (second.getD t 0).toNat)) →
  ∀ t,t<k→bx R (second.getD t 0).toNat 0≤X (second.getD t 0).toNat∧bx R (second.getD t 0).toNat 1≤Y (second.getD t 0).toNat
theorem outer399 {ρ:Type} (n:Nat) (f:FF) (tl first second:List Int) (gap:Int) (hn:n≤4) (ht:tl.length=n) (hf:first.length≤60) (hs:second.length≤4) (hin:∀ t,t<second.length→0≤second.getD t 0∧second.getD t 0<n)
  (hd:∀ s t,s<t→t<second.length→second.getD s 0≠second.getD t 0) (hgap:0≤gap∧gap≤500) (hG:∀ i,i<n→Good (f i)) (k0:FF→Option ρ):∀ (m i:Nat) (R:FF),second.length<m+i→i≤second.length→Pk f tl first second gap i R →
  ∃ R',L399v3 100 n f tl.length (fL tl) first.length (fL first) second.length (fL second) gap n (gG gap) (Int.ofNat second.length) m (Int.ofNat i) R k0=k0 R'∧Pk f tl first second gap second.length R':=by
 intro m
 induction m with
 | zero=>intro i R h1 h2;omega
 | succ m ih =>
  intro i R h1 h2 hP
  unfold L399v3
  rw [lt_nat,inb_nat,toNat_nat]
  by_cases h:i<second.length
  ·have e:CV.int (fL second i 0)=second.getD i 0:=rfl
   obtain ⟨z0,z1⟩:=hin i h
   obtain ⟨j,hj⟩:∃ j:Nat,second.getD i 0=(j:Int):=⟨(second.getD i 0).toNat,by omega⟩
   have hjn:j<n:=by omega
   have hg:1≤gG gap∧gG gap≤500:=by unfold gG;split<;>omega
   have hz:∀ t,t<i→(0≤bx R (second.getD t 0).toNat 2∧bx R (second.getD t 0).toNat 2≤500+(t+1:Nat)*140000-1000)∧(0≤bx R (second.getD t 0).toNat 3∧bx R (second.getD t 0).toNat 3≤500+(t+1:Nat)*140000-1000):=by
    intro t hti
    have q1:=hP.lo t hti
    have q2:=hP.hi t hti
    obtain ⟨y0,y1⟩:=hin t (by omega)
    have q3:=(hG (second.getD t 0).toNat (by omega)).sz (tl.getD (second.getD t 0).toNat 0)
    omega
   obtain ⟨x',y',e1,F⟩:=inner399 (ρ:=ρ) n n tl.length second.length f (fL tl) first second R (gG gap) (second.getD i 0) gap (Int.ofNat second.length) (Int.ofNat i) i hf (by omega) (fun t q=>hin t (by omega)) hg (fun t q=>by have:=hz t q;omega) 100 0 gap gap (by omega) (by omega)
   have hb:inb (second.getD i 0) n=true:=inb_true z0 z1
   have GP:=hG (second.getD i 0).toNat (by omega)
   have hsz:=GP.sz (tl.getD (second.getD i 0).toNat 0)
   have hx' : x'≤500+i*140000:=F.leastx _ (by omega) fun t _ q _=>by
    have:=(hz t q).1.2
    have:((t+1:Nat):Int)≤(i:Int):=by omega
    omega
   have hy' : y'≤500+i*140000:=F.leasty _ (by omega) fun t _ q _=>by
    have:=(hz t q).2.2
    have:((t+1:Nat):Int)≤(i:Int):=by omega
    omega
   have hxy:=And.intro F.gex F.gey
   obtain ⟨R1,hR1⟩:∃ R1,R1=setF R (second.getD i 0).toNat 0 4 (listF [(.i .i64 x'),(.i .i64 y'),(.i .i64 (x'+(szOf (f (second.getD i 0).toNat) (tl.getD (second.getD i 0).toNat 0)).1)),(.i .i64 (y'+(szOf (f (second.getD i 0).toNat) (tl.getD (second.getD i 0).toNat 0)).2))]):=⟨_,rfl⟩
   have old:∀ t c,t<i→bx R1 (second.getD t 0).toNat c=bx R (second.getD t 0).toNat c:=by
    intro t c q
    have q1:=hd t i q h
    obtain ⟨y0,y1⟩:=hin t (by omega)
    simp only [bx]
    rw [hR1,setF4,if_neg (fun hh=>q1 (by omega))]
   have new:∀ c,c<4→bx R1 (second.getD i 0).toNat c=CV.int (listF [(.i .i64 x'),(.i .i64 y'),(.i .i64 (x'+(szOf (f (second.getD i 0).toNat) (tl.getD (second.getD i 0).toNat 0)).1)),(.i .i64 (y'+(szOf (f (second.getD i 0).toNat) (tl.getD (second.getD i 0).toNat 0)).2))] c):=by
    intro c q
    simp only [bx]
    rw [hR1,setF4,if_pos ⟨rfl,q⟩]
   have n0:bx R1 (second.getD i 0).toNat 0=x':=new 0 (by omega)
   have n1:bx R1 (second.getD i 0).toNat 1=y':=new 1 (by omega)
   have n2:bx R1 (second.getD i 0).toNat 2=x'+(szOf (f (second.getD i 0).toNat) (tl.getD (second.getD i 0).toNat 0)).1:=new 2 (by omega)
   have n3:bx R1 (second.getD i 0).toNat 3=y'+(szOf (f (second.getD i 0).toNat) (tl.getD (second.getD i 0).toNat 0)).2:=new 3 (by omega)
   have hP1:Pk f tl first second gap (i+1) R1:=by
    refine ⟨fun t q=>?_,fun t q=>?_,fun s t q1 q2=>?_,fun X Y g1 g2 t q=>?_⟩
    ·by_cases c:t=i
     ·rw [c,n0,n1];omega
     ·rw [old t _ (by omega),old t _ (by omega)];exact hP.lo t (by omega)
    ·by_cases c:t=i
     ·rw [c,n0,n1,n2,n3];exact ⟨rfl,rfl⟩
     ·rw [old t _ (by omega),old t _ (by omega),old t _ (by omega),old t _ (by omega)];exact hP.hi t (by omega)
    ·by_cases c:t=i
     ·rw [c] at q1 ⊢
      rw [n0,n1,old s _ q1,old s _ q1]
      exact ⟨F.left s (by omega) q1,F.below s (by omega) q1⟩
     ·rw [old t _ (by omega),old t _ (by omega),old s _ (by omega),old s _ (by omega)];exact hP.sep s t q1 (by omega)
    ·have L:=hP.least X Y (fun t q=>g1 t (by omega)) (fun s t q1 q2=>g2 s t q1 (by omega))
     by_cases c:t=i
     ·rw [c,n0,n1]
      refine ⟨F.leastx _ (g1 i (by omega)).1 fun s _ q1 q2=>?_,F.leasty _ (g1 i (by omega)).2 fun s _ q1 q2=>?_⟩
      ·have w1:=(g2 s i q1 (by omega)).1 q2
       have w2:=(L s q1).1
       have w3:=(hP.hi s q1).1
       omega
      ·have w1:=(g2 s i q1 (by omega)).2 q2
       have w2:=(L s q1).2
       have w3:=(hP.hi s q1).2
       omega
     ·rw [old t _ (by omega),old t _ (by omega)];exact L t (by omega)
   obtain ⟨R',e2,hP'⟩:=ih (i+1) R1 (by omega) (by omega) hP1
   refine ⟨R',?_,hP'⟩
   rw [bif_t (decide_eq_true h),bif_t (decide_eq_true h),bif_t (inbe_true (by show (0:Int)≤(i:Int);omega) (by show (i:Int)≤(second.length:Int);omega)),e]
   refine (e1 _).trans ?_
   rw [bif_t hb,ht,bif_t hb]
   refine (congrArg (fun z=>ob z _) (rect397 GP _ _ x' y' rfl rfl rfl rfl (by omega) (by omega))).trans ?_
   rw [ob_some,bif_t hb,w64_succ (by omega),Nat.zero_add,← e2,hR1,ht]
   rfl
  ·rw [bif_f (decide_eq_false h)]
   exact ⟨R,rfl,by rwa [show i=second.length from by omega] at hP⟩
end Go.Eng.R13
/-
 Nester: what the iterators enumerate.
-/
set_option linter.all false
namespace Go.Eng.R13
open Go Go.RowKit Go.Eng
theorem eraseIdx_perm:∀ (l:List Int) (i:Nat),i<l.length→(l.getD i 0 :: l.eraseIdx i).Perm l
 | [],i,h=>by simp at h
 | a :: l,0,_=>.refl _
 | a :: l,i+1,h=>by
  have:=eraseIdx_perm l i (by simpa using h)
  rw [List.eraseIdx_cons_succ,List.getD_cons_succ]
  exact (List.Perm.swap a (l.getD i 0) _).trans (this.cons a)
theorem permL_perm:∀ (k:Nat) (l:List Int),l.length=k→∀ q∈permL k l,q.Perm l
 | 0,l,h,q,hq=>by
  have hq:q∈[[]]:=hq
  rw [List.mem_singleton] at hq
  rw [hq,List.length_eq_zero_iff.1 h]
 | k+1,l,h,q,hq=>by
  have hq:q∈(List.range l.length).flatMap fun i=>(permL k (l.eraseIdx i)).map (l.getD i 0 :: ·):=hq
  obtain ⟨i,hi,hq⟩:=List.mem_flatMap.1 hq
  obtain ⟨q',hq',rfl⟩:=List.mem_map.1 hq
  rw [List.mem_range] at hi
  exact ((permL_perm k _ (by rw [List.length_eraseIdx_of_lt hi];omega) q' hq').cons _).trans (eraseIdx_perm l i hi)
theorem permsL_perm {l q:List Int} (h:q∈permsL l):q.Perm l:=permL_perm _ l rfl q h
theorem permL_len:∀ (k:Nat) (l:List Int),l.length=k→k≤4→(permL k l).length≤24:=by
 have h1:∀ (k N:Nat),(∀ l:List Int,l.length=k→(permL k l).length≤N)→∀ l:List Int,l.length=k+1→(permL (k+1) l).length≤(k+1)*N:=by
  intro k N h l hl
  have:∀ m,m≤l.length→(preL k l m).length≤m*N:=by
   intro m
   induction m with
   | zero=>intro _;simp [preL]
   | succ m ih =>
    intro hm
    rw [preL_succ,List.length_append,List.length_map]
    have:=h (l.eraseIdx m) (by rw [List.length_eraseIdx_of_lt (by omega)];omega)
    have:=ih (by omega)
    rw [Nat.succ_mul]
    omega
  have:=this l.length (Nat.le_refl _)
  rw [hl] at this
  have e:permL (k+1) l=preL k l l.length:=rfl
  rw [e,hl];exact this
 have e0:∀ l:List Int,l.length=0→(permL 0 l).length≤1:=fun l _=>by simp [permL]
 have e1:∀ l:List Int,l.length=1→(permL 1 l).length≤1:=h1 0 1 e0
 have e2:∀ l:List Int,l.length=2→(permL 2 l).length≤2:=h1 1 1 e1
 have e3:∀ l:List Int,l.length=3→(permL 3 l).length≤6:=h1 2 2 e2
 have e4:∀ l:List Int,l.length=4→(permL 4 l).length≤24:=h1 3 6 e3
 intro k l hl hk
 have:k=0∨k=1∨k=2∨k=3∨k=4:=by omega
 rcases this with rfl | rfl | rfl | rfl | rfl
 ·have:=e0 l hl;omega
 ·have:=e1 l hl;omega
 ·have:=e2 l hl;omega
 ·have:=e3 l hl;omega
 ·have:=e4 l hl;omega
theorem permsL_len {l:List Int} (h:l.length≤4):(permsL l).length≤24:=permL_len _ l rfl h
def okV (n:Nat) (l:List Int):Bool:=Nat.beq l.length n&&l.all fun x=>x == -1||(x==0||x==1)
theorem turnL_ok:∀ n,n≤4→∀ c,c<turnN n→okV n (turnL n c)=true:=by
 have h0:∀ n<5,∀ c<82,c<turnN n→okV n (turnL n c)=true:=by decide +kernel
 intro n hn c hc
 have:turnN n≤81:=by
  have:∀ n<5,turnN n≤81:=by decide +kernel
  exact this n (by omega)
 exact h0 n (by omega) c (by omega) hc
end Go.Eng.R13
/-
 Nester: the suitable parts.
-/
set_option linter.all false
namespace Go.Eng.R13
open Go Go.RowKit Go.Eng
theorem tl_eq (a b:ByteArray):(ByteArray.toList a==ByteArray.toList b)=decide (a=b):=by
 by_cases h:a=b
 ·subst h;simp
 ·rw [decide_eq_false h]
  have:¬ ByteArray.toList a=ByteArray.toList b:=fun hh=>h (by
   rw [ByteArray.toList_eq,ByteArray.toList_eq] at hh
   exact ByteArray.ext (Array.ext' hh))
  simpa using this
theorem blt_t {a b:Nat} (h:a<b):Nat.blt a b=true:=by rw [Nat.blt_eq];exact h
theorem ble_okN {n:Nat} (h:n≤1073741824):Nat.ble n 1073741824=true:=by rw [Nat.ble_eq];exact h
theorem mapF_congr {n:Nat} {f f' : FF} (h:∀ i,i<n→CV.str (f' i 0)=CV.str (f i 0)) (s:ByteArray):mapF n f' s=mapF n f s:=by
 unfold mapF
 have:∀ l:List Nat,(∀ i,i∈l→i<n)→l.find? (fun i=>ByteArray.toList (CV.str (f' i 0))==ByteArray.toList s)=l.find? (fun i=>ByteArray.toList (CV.str (f i 0))==ByteArray.toList s):=fun l=>by
  induction l with
  | nil=>intro _;rfl
  | cons a l ih =>
   intro hl
   rw [List.find?_cons,List.find?_cons,h a (hl a (List.mem_cons_self ..)),ih fun i hi=>hl i (List.mem_cons_of_mem _ hi)]
 exact this _ fun i hi=>List.mem_range.1 hi
theorem mapG_put (n:Nat) (f:FF) (s:ByteArray) (v:Int) (s' : ByteArray):mapG (mapN n f s) (mapR n f s v) s' = if s' = s then v else mapG n f s':=by
 unfold mapG mapN mapR
 cases h:mapF n f s with
 | some i0 =>
  dsimp only
  obtain ⟨h1,h2⟩:=mapF_some h
  have hk:mapF n (fun i j=>bif Nat.beq i i0&&Nat.beq j 1 then .i .i64 v else f i j) s' = mapF n f s':=mapF_congr (fun i _=>by
   show CV.str (bif Nat.beq i i0&&Nat.beq 0 1 then _ else f i 0)=_
   rw [show Nat.beq 0 1=false from rfl,Bool.and_false,cond_false]) s'
  rw [hk]
  by_cases hs:s' = s
  ·subst hs
   rw [if_pos rfl,h]
   show CV.int (bif Nat.beq i0 i0&&Nat.beq 1 1 then CV.i .i64 v else f i0 1)=v
   rw [Nat.beq_refl];rfl
  ·rw [if_neg hs]
   cases h3:mapF n f s' with
   | none=>rfl
   | some j =>
    obtain ⟨h4,h5⟩:=mapF_some h3
    have hne:Nat.beq j i0=false:=by
     cases e:Nat.beq j i0 with
     | false=>rfl
     | true=>have:=Nat.eq_of_beq_eq_true e;subst this;exact absurd (h5.symm.trans h2) hs
    show CV.int (bif Nat.beq j i0&&Nat.beq 1 1 then CV.i .i64 v else f j 1)=CV.int (f j 1)
    rw [hne];rfl
 | none =>
  dsimp only
  have hlt:∀ i,i<n→CV.str (bif Nat.blt i n then f i 0 else (bif Nat.beq 0 0 then CV.s s else .i .i64 v))=CV.str (f i 0):=fun i hi=>by rw [blt_t hi,cond_true]
  have hb:Nat.blt n n=false:=by
   cases e:Nat.blt n n with
   | false=>rfl
   | true=>rw [Nat.blt_eq] at e;omega
  have hnew:mapF (n+1) (fun i j=>bif Nat.blt i n then f i j else (bif Nat.beq j 0 then CV.s s else .i .i64 v)) s' = match mapF n f s' with | some i=>some i | none=>if s' = s then some n else none:=by
   have e1:=mapF_congr (f:=f) (f':=fun i j=>bif Nat.blt i n then f i j else (bif Nat.beq j 0 then CV.s s else .i .i64 v)) hlt s'
   rw [← e1]
   unfold mapF
   rw [List.range_succ,List.find?_append]
   cases List.find? (fun i=>ByteArray.toList (CV.str (bif Nat.blt i n then f i 0 else (bif Nat.beq 0 0 then CV.s s else .i .i64 v)))==ByteArray.toList s') (List.range n) with
   | some i=>rfl
   | none =>
    rw [Option.none_or,List.find?_cons]
    dsimp only
    rw [hb]
    show (match (ByteArray.toList s==ByteArray.toList s') with | true=>some n | false=>List.find? _ [])=_
    rw [tl_eq]
    by_cases hs:s' = s
    ·subst hs;rw [decide_eq_true rfl,if_pos rfl]
    ·rw [decide_eq_false (fun e=>hs e.symm),if_neg hs];rfl
  rw [hnew]
  by_cases hs:s' = s
  ·subst hs
   rw [h,if_pos rfl,if_pos rfl]
   show CV.int (bif Nat.blt n n then f n 1 else (bif Nat.beq 1 0 then CV.s s' else .i .i64 v))=v
   rw [hb];rfl
  ·rw [if_neg hs,if_neg hs]
   cases h3:mapF n f s' with
   | none=>rfl
   | some j =>
    have:=(mapF_some h3).1
    show CV.int (bif Nat.blt j n then f j 1 else _)=CV.int (f j 1)
    rw [blt_t this];rfl
def SuitP (gr:ByteArray) (th:Int) (PF:FF) (j:Nat):Prop :=
 (∀ i,i<j→CV.str (PF i 0)≠CV.str (PF j 0))∧CV.int (PF j 2)=1∧ByteArray.toList (CV.str (PF j 4))=ByteArray.toList gr∧CV.int (PF j 5)=th∧F13 100 (CV.len (PF j 6)) (CV.el (PF j 6)) (CV.len (PF j 7)) (CV.el (PF j 7))=some 0
structure RowE (x y:Nat→CV):Prop where
 id:CV.str (x 0)=CV.str (y 0)
 ol:CV.len (x 6)=CV.len (y 6)
 oe:CV.el (x 6)=CV.el (y 6)
 hl:CV.len (x 7)=CV.len (y 7)
 he:CV.el (x 7)=CV.el (y 7)
structure Suits (gr:ByteArray) (th:Int) (PF:FF) (i:Nat) (js:List Nat) (f:FF):Prop where
 asc:js.Pairwise (· < ·)
 ok:∀ j∈js,j<i∧SuitP gr th PF j
 all:∀ j,j<i→SuitP gr th PF j→j∈js
 row:∀ k,k<js.length→RowE (f k) (PF (js.getD k 0))
theorem Suits.skip {gr:ByteArray} {th:Int} {PF:FF} {i:Nat} {js:List Nat} {f:FF} (h:Suits gr th PF i js f) (hn:¬ SuitP gr th PF i):Suits gr th PF (i+1) js f :=
 ⟨h.asc,fun j hj=>⟨by have:=(h.ok j hj).1;omega,(h.ok j hj).2⟩,fun j hj hs=>by
  by_cases e:j=i
  ·subst e;exact absurd hs hn
  ·exact h.all j (by omega) hs,h.row⟩
theorem suit_loop {ρ:Type} (P:Nat) (PF:FF) (a gr e:ByteArray) (th L W:Int) (hP:P≤20) (k0:Nat→Nat→FF→FF→Option ρ):∀ (m i:Nat) (c:Nat) (M:FF) (js:List Nat) (f:FF),P<m+i→i≤P→js.length≤i →
  (∀ s,mapG c M s=1↔∃ j,j<i∧CV.str (PF j 0)=s)→Suits gr th PF i js f →
  ∃ c' M' js' f',L391v1 100 P PF (Int.ofNat P) a gr th L W e m js.length (Int.ofNat i) c M f k0=k0 js'.length c' M' f'∧js'.length≤P∧Suits gr th PF P js' f':=by
 intro m
 induction m with
 | zero=>intro i c M js f h1 h2;omega
 | succ m ih =>
  intro i c M js f h1 h2 hl hM hS
  unfold L391v1
  rw [lt_nat,inb_nat,toNat_nat]
  by_cases h:i<P
  ·have hM' : ∀ s,mapG (mapN c M (CV.str (PF i 0))) (mapR c M (CV.str (PF i 0)) 1) s=1↔∃ j,j<i+1∧CV.str (PF j 0)=s:=by
    intro s
    rw [mapG_put]
    by_cases hs:s=CV.str (PF i 0)
    ·rw [if_pos hs];exact ⟨fun _=>⟨i,by omega,hs.symm⟩,fun _=>rfl⟩
    ·rw [if_neg hs,hM]
     exact ⟨fun ⟨j,h3,h4⟩=>⟨j,by omega,h4⟩,fun ⟨j,h3,h4⟩=>by
      by_cases hj:j=i
      ·subst hj;exact absurd h4.symm hs
      ·exact ⟨j,by omega,h4⟩⟩
   rw [bif_t (decide_eq_true h),bif_t (decide_eq_true h),w64_succ (by omega)]
   have skip:¬ SuitP gr th PF i→∃ c' M' js' f',L391v1 100 P PF (Int.ofNat P) a gr th L W e m js.length (Int.ofNat (i+1)) (mapN c M (CV.str (PF i 0))) (mapR c M (CV.str (PF i 0)) 1) f k0=k0 js'.length c' M' f'∧js'.length≤P∧Suits gr th PF P js' f' :=
    fun hn=>ih (i+1) _ _ js f (by omega) (by omega) (by omega) hM' (hS.skip hn)
   by_cases c1:mapG c M (CV.str (PF i 0))=1
   ·rw [bif_f (by simp [c1])]
    obtain ⟨j,h3,h4⟩:=(hM _).1 c1
    exact skip fun hs=>hs.1 j h3 h4
   rw [bif_t (by simp [c1])]
   by_cases c2:CV.int (PF i 2)=1
   case neg=>rw [bif_f (by simp [c2])];exact skip fun hs=>c2 hs.2.1
   rw [bif_t (by simp [c2])]
   by_cases c3:ByteArray.toList (CV.str (PF i 4))=ByteArray.toList gr
   case neg=>rw [bif_f (by simp [c3])];exact skip fun hs=>c3 hs.2.2.1
   rw [bif_t (by simp [c3])]
   by_cases c4:CV.int (PF i 5)=th
   case neg=>rw [bif_f (by simp [c4])];exact skip fun hs=>c4 hs.2.2.2.1
   rw [bif_t (by simp [c4])]
   obtain ⟨z,z1,_⟩:=shape_law (CV.len (PF i 6)) (CV.len (PF i 7)) (CV.el (PF i 6)) (CV.el (PF i 7))
   rw [z1,ob_some]
   by_cases c5:z=0
   case neg=>rw [bif_f (by simp [c5])];exact skip fun hs=>c5 (Option.some.inj (z1.symm.trans hs.2.2.2.2))
   rw [bif_t (by simp [c5]),bif_t (ble_okN (by omega))]
   have hs:SuitP gr th PF i:=⟨fun j hj he=>c1 ((hM _).2 ⟨j,hj,he⟩),c2,c3,c4,by rw [z1,c5]⟩
   have hlen:(js ++ [i]).length=js.length+1:=by simp
   have:=ih (i+1) (mapN c M (CV.str (PF i 0))) (mapR c M (CV.str (PF i 0)) 1) (js ++ [i]) (joinF js.length f (rowsF 18 [(.s (CV.str (PF i 0))),(.i .i64 (CV.int (PF i 1))),(.i .i64 (CV.int (PF i 2))),(.s (CV.str (PF i 3))),(.s (CV.str (PF i 4))),(.i .i64 (CV.int (PF i 5))),(.ro false (.pr (.int .i64) (.pr (.int .i64) .nil)) (CV.len (PF i 6)) (CV.el (PF i 6))),(.ro false (.pr (.sl (.pr (.int .i64) (.pr (.int .i64) .nil))) .nil) (CV.len (PF i 7)) (CV.el (PF i 7))),(.s (CV.str (PF i 8))),(.i .i64 (CV.int (PF i 9))),(.i .i64 (CV.int (PF i 10))),(.i .i64 (CV.int (PF i 11))),(.i .i64 (CV.int (PF i 12))),(.i .i64 (CV.int (PF i 13))),(.i .i64 (CV.int (PF i 14))),(.i .i64 (CV.int (PF i 15))),(.i .i64 (CV.int (PF i 16))),(.i .i64 (CV.int (PF i 17)))]))
    (by omega) (by omega) (by omega) hM' ?_
   ·rw [hlen] at this;exact this
   refine ⟨?_,fun j hj=>?_,fun j hj hjs=>?_,fun k hk=>?_⟩
   ·rw [List.pairwise_append]
    exact ⟨hS.asc,List.pairwise_singleton _ _,fun x hx y hy=>by rw [List.mem_singleton] at hy;rw [hy];exact (hS.ok x hx).1⟩
   ·rcases List.mem_append.1 hj with hj | hj
    ·exact ⟨by have:=(hS.ok j hj).1;omega,(hS.ok j hj).2⟩
    ·rw [List.mem_singleton] at hj;subst hj;exact ⟨by omega,hs⟩
   ·by_cases hji:j=i
    ·subst hji;simp
    ·exact List.mem_append_left _ (hS.all j (by omega) hjs)
   ·by_cases hki:k<js.length
    ·have h1:=hS.row k hki
     rw [show (js ++ [i]).getD k 0=js.getD k 0 from by rw [List.getD_eq_getElem?_getD,List.getD_eq_getElem?_getD,List.getElem?_append_left hki]]
     exact ⟨by rw [joinF_o _ _ _ _ _ hki];exact h1.id,by rw [joinF_o _ _ _ _ _ hki];exact h1.ol,by rw [joinF_o _ _ _ _ _ hki];exact h1.oe,by rw [joinF_o _ _ _ _ _ hki];exact h1.hl,by rw [joinF_o _ _ _ _ _ hki];exact h1.he⟩
    ·have hke:k=js.length:=by omega
     subst hke
     have hg:(js ++ [i]).getD js.length 0=i:=by simp
     rw [hg]
     refine ⟨?_,?_,?_,?_,?_⟩<;>(rw [joinF_n _ _ _ _ _ (Nat.le_refl _),Nat.sub_self];rfl)
  ·rw [bif_f (decide_eq_false h)]
   have:i=P:=by omega
   subst this
   exact ⟨c,M,js,f,rfl,hl,hS⟩
theorem suit_law (P:Nat) (PF:FF) (a gr e:ByteArray) (th L W:Int) (hP:P≤20):∃ js f,F391 100 a gr th L W e P PF=some (js.length,f)∧js.length≤P∧Suits gr th PF P js f:=by
 unfold F391
 have hM:∀ s,mapG 0 (fun _ _=>CV.any) s=1↔∃ j,j<0∧CV.str (PF j 0)=s:=fun s=>by
  have e:mapG 0 (fun _ _=>CV.any) s=0:=rfl
  rw [e]
  refine ⟨fun h=>?_,fun h=>?_⟩
  ·cases h
  ·obtain ⟨j,h,_⟩:=h
   omega
 have hS:Suits gr th PF 0 [] (fun _ _=>.any):=by
  refine ⟨List.Pairwise.nil,fun j hj=>?_,fun j hj=>?_,fun k hk=>?_⟩
  ·cases hj
  ·omega
  ·cases hk
 obtain ⟨c,M,js,f,h1,h2,h3⟩:=suit_loop P PF a gr e th L W hP (fun x38 x39 x40 x41=>(some (x38,x41))) 100 0 0 (fun _ _=>.any) [] (fun _ _=>.any) (by omega) (by omega) (Nat.le_refl _) hM hS
 exact ⟨js,f,h1,h2,h3⟩
theorem suit_indep (P:Nat) (PF:FF) (a gr e:ByteArray) (th L W L' W' : Int):F391 100 a gr th L W e P PF=F391 100 a gr th L' W' e P PF:=by
 have h:∀ (m c:Nat) (i:Int) (x:Nat) (M f:FF),L391v1 100 P PF (Int.ofNat P) a gr th L W e m c i x M f (fun x38 x39 x40 x41=>(some (x38,x41)))=L391v1 100 P PF (Int.ofNat P) a gr th L' W' e m c i x M f (fun x38 x39 x40 x41=>(some (x38,x41))):=by
  intro m
  induction m with
  | zero=>intro c i x M f;rfl
  | succ m ih=>intro c i x M f;unfold L391v1;simp only [ih]
 unfold F391
 exact h _ _ _ _ _ _
end Go.Eng.R13
/-
 Nester: a part moved (out of PnMove).
-/
set_option linter.all false
namespace Go.Eng.R13
open Go Go.RowKit Go.Eng Geo
structure Mv (T:Pt→Pt) (n1:Nat) (f1:Nat→Nat→CV) (n2:Nat) (f2 g1 g2:Nat→Nat→CV):Prop where
 fit:Rigid 1 T
 outer:∀ j,j<n1→pt g1 j=T (pt f1 j)
 len:∀ j,j<n2→CV.len (g2 j 0)=CV.len (f2 j 0)
 hole:∀ j,j<n2→∀ i,i<CV.len (f2 j 0)→pt (CV.el (g2 j 0)) i=T (pt (CV.el (f2 j 0)) i)
def Small (n1:Nat) (n2:Nat) (f2:Nat→Nat→CV):Prop:=n1≤40∧n2≤12∧∀ j,j<n2→CV.len (f2 j 0)≤40
structure MovedTo (s:ByteArray) (tx ty:Int) (turn:Int) (fl:Bool) (n1:Nat) (f1:Nat→Nat→CV) (n2:Nat) (f2:Nat→Nat→CV) (a:Nat) (c:Nat→Nat→CV) (b:Nat) (d:Nat→Nat→CV):Prop where
 small:Small a b d
 size:a≤n1∧b≤n2
 all:∀ t:Nat,turn=Int.ofNat t→t≤3→¬ (farB tx ty=true∨FarC (1+n2) (cfh n1 f1 f2) 0)→a=n1∧b=n2∧Are (cq fl t tx ty n1 f1) c n1∧Holes fl t tx ty f2 d n2
 none:(turn<0∨3<turn∨farB tx ty=true∨FarC (1+n2) (cfh n1 f1 f2) 0)→a=0∧b=0
theorem are_are {P:Nat→Int × Int} {f g:Nat→Nat→CV} {n:Nat} (h:Are P f n) (h' : Are P g n):∀ j,j<n→pt g j=pt f j:=fun j hj=>(are_pt h' j hj).trans (are_pt h j hj).symm
theorem move_eq (n1 n2:Nat) (f1 f2:Nat→Nat→CV) (s:ByteArray) (tx ty turn:Int) (fl:Bool) (S:Small n1 n2 f2):∃ a c b d c' d',
  F25 100 n1 f1 n2 f2 s tx ty turn fl=some (a,c,b,d)∧F26 100 n1 f1 n2 f2 s tx ty turn fl=some (a,c',b,d')∧Mv (fun p=>p) a c b d c' d'∧MovedTo s tx ty turn fl n1 f1 n2 f2 a c b d:=by
 obtain ⟨hn1,hn2,hh⟩:=S
 have nothing:∀ c d:Nat→Nat→CV,Mv (fun p=>p) 0 c 0 d (fun _ _=>.any) (fun _ _=>.any):=fun c d=>⟨rigid_id,fun j hj=>by omega,fun j hj=>by omega,fun j hj=>by omega⟩
 have hN:1+n2≤13:=by omega
 have hl:∀ j,j<1+n2→CV.len (joinF 1 (rowsF 1 [(.ro false (.pr (.int .i64) (.pr (.int .i64) .nil)) n1 f1)]) f2 j 0)≤40:=by
  intro j hj
  by_cases e:j<1
  ·have:j=0:=by omega
   subst this
   rw [joinF_old _ _ _ _ _ (by omega)]
   exact hn1
  ·rw [joinF_new _ _ _ _ _ (by omega)]
   exact hh _ (by omega)
 have c42:F42 100 n1 f1 n2 f2=some (1+n2,joinF 1 (rowsF 1 [(.ro false (.pr (.int .i64) (.pr (.int .i64) .nil)) n1 f1)]) f2):=by
  unfold F42
  rw [bif_t (ble_ok (by omega))]
 have c44:F44 100 n1 f1 n2 f2=some (1+n2,joinF 1 (rowsF 1 [(.ro false (.pr (.int .i64) (.pr (.int .i64) .nil)) n1 f1)]) f2):=c42
 have hcf:cfh n1 f1 f2=joinF 1 (rowsF 1 [(.ro false (.pr (.int .i64) (.pr (.int .i64) .nil)) n1 f1)]) f2:=rfl
 have nomove:(turn<0∨3<turn∨farB tx ty=true∨FarC (1+n2) (cfh n1 f1 f2) 0)→∀ c d,MovedTo s tx ty turn fl n1 f1 n2 f2 0 c 0 d:=fun h c d =>
  ⟨⟨by omega,by omega,fun j hj=>by omega⟩,⟨by omega,by omega⟩,fun t e1 e2 e3=>by
   rcases h with k | k | k
   ·rw [e1] at k;simp at k;omega
   ·rw [e1] at k;simp at k;omega
   ·exact absurd k e3,fun _=>⟨rfl,rfl⟩⟩
 rw [hcf] at nomove
 generalize hF:joinF 1 (rowsF 1 [(.ro false (.pr (.int .i64) (.pr (.int .i64) .nil)) n1 f1)]) f2=F at hl c42 c44 nomove hcf
 generalize hNN:1+n2=N at hN hl c42 c44 nomove
 by_cases ht1:turn<0
 ·refine ⟨0,(fun _ _=>.any),0,(fun _ _=>.any),_,_,?_,?_,nothing _ _,nomove (.inl ht1) _ _⟩
  ·unfold F25 FT25
   rw [bif_f (by simpa using ht1)];rfl
  ·unfold F26 FT26
   rw [c44,ob_some,bif_f (by simpa using ht1),show (0:Int)=Int.ofNat 0 from rfl,idle_outer N n1 n2 F f1 f2 s tx ty turn fl hN hl _ 100 0 (by omega) (by omega)];rfl
 ·by_cases ht2:turn>3
  ·refine ⟨0,(fun _ _=>.any),0,(fun _ _=>.any),_,_,?_,?_,nothing _ _,nomove (.inr (.inl ht2)) _ _⟩
   ·unfold F25 FT25
    rw [bif_t (by simpa using ht1),bif_f (by simpa using ht2)];rfl
   ·unfold F26 FT26
    rw [c44,ob_some,bif_t (by simpa using ht1),bif_f (by simpa using ht2),show (0:Int)=Int.ofNat 0 from rfl,idle_outer N n1 n2 F f1 f2 s tx ty turn fl hN hl _ 100 0 (by omega) (by omega)];rfl
  ·obtain ⟨t,rfl⟩:∃ t:Nat,turn=Int.ofNat t:=⟨turn.toNat,(Int.toNat_of_nonneg (by omega)).symm⟩
   have ht:t≤3:=by simp at ht2;omega
   have e25:(farB tx ty=true∨FarC N F 0)→F25 100 n1 f1 n2 f2 s tx ty (Int.ofNat t) fl=some (0,(fun _ _=>.any),0,(fun _ _=>.any)):=by
    intro hb
    unfold F25 FT25
    rw [bif_t (by simpa using ht1),bif_t (by simpa using ht2),far49,ob_some]
    cases hq:farB tx ty with
    | true=>rw [bif_t rfl];rfl
    | false =>
     rw [bif_f rfl,c42,ob_some,show (0:Int)=Int.ofNat 0 from rfl]
     have hc:FarC N F 0:=hb.resolve_left (by rw [hq];simp)
     rw [(farC_loop N n1 n2 F f1 f2 s tx ty (Int.ofNat t) fl hN hl _ _ 100 0 (by omega) (by omega)).1 hc];rfl
   obtain ⟨r,h3,h4⟩:=bad_outer N n1 n2 F f1 f2 s tx ty (Int.ofNat t) fl hN hl (fun x98=>(bif x98 then (some (true,0,(fun _ _=>CV.any),0,(fun _ _=>CV.any))) else (ob (F54 100 n1 f1 s tx ty (Int.ofNat t) fl) fun x99=>(L26v4 100 n1 f1 n2 f2 s tx ty (Int.ofNat t) fl x99.1 x99.2 100 0 0 (fun _ _=>.any)
 (fun x129 x130=>(some (false,x99.1,x99.2,x129,x130))))))) 100 0 (farB tx ty) (by omega) (by omega)
   by_cases hb:farB tx ty=true∨FarC N F 0
   ·refine ⟨0,_,0,_,_,_,e25 hb,?_,nothing _ _,nomove (.inr (.inr hb)) _ _⟩
    unfold F26 FT26
    rw [c44,ob_some,bif_t (by simpa using ht1),bif_t (by simpa using ht2),far53,ob_some]
    refine (congrArg (fun z=>ob z _) h3).trans ?_
    rw [h4.2 hb,bif_t rfl];rfl
   ·obtain ⟨g,hg1,hg2⟩:=moved_law s n1 t fl tx ty f1 hn1 ht
    obtain ⟨g',hg3,hg4⟩:=contour_law s n1 t fl tx ty f1 hn1 ht
    have hr:r=false:=by
     cases r with
     | false=>rfl
     | true=>exact absurd (h4.1 rfl) hb
    have hq:farB tx ty=false:=by
     cases hq:farB tx ty with
     | false=>rfl
     | true=>exact absurd (.inl hq) hb
    obtain ⟨x,hx1,hx2⟩:=holes25 s n2 t fl tx ty f2 n1 n1 f1 g hn2 hh ht (fun x71 x72=>(some (false,n1,g,x71,x72))) 100 0 (fun _ _=>.any) (by omega) (by omega) (fun j hj=>by omega)
    obtain ⟨x',hx3,hx4⟩:=holes26 s n2 t fl tx ty f2 n1 n1 f1 g' hn2 hh ht (fun x129 x130=>(some (false,n1,g',x129,x130))) 100 0 (fun _ _=>.any) (by omega) (by omega) (fun j hj=>by omega)
    refine ⟨n1,g,n2,x,g',x',?_,?_,⟨rigid_id,are_are hg2 hg4,fun j hj=>?_,fun j hj=>?_⟩,⟨⟨hn1,hn2,fun j hj=>?_⟩,⟨by omega,by omega⟩,fun t' e1 e2 e3=>?_,fun h=>?_⟩⟩
    ·unfold F25 FT25
     rw [bif_t (by simpa using ht1),bif_t (by simpa using ht2),far49,ob_some,hq,bif_f rfl,c42,ob_some]
     rw [show (0:Int)=Int.ofNat 0 from rfl]
     rw [(farC_loop N n1 n2 F f1 f2 s tx ty (Int.ofNat t) fl hN hl _ _ 100 0 (by omega) (by omega)).2 (fun hc=>hb (.inr hc)),hg1,ob_some]
     rw [hx1];rfl
    ·unfold F26 FT26
     rw [c44,ob_some,bif_t (by simpa using ht1),bif_t (by simpa using ht2),far53,ob_some]
     refine (congrArg (fun z=>ob z _) h3).trans ?_
     rw [hr,bif_f rfl,hg3,ob_some]
     refine (congrArg (fun z=>ob z _) hx3).trans ?_
     rfl
    ·exact (hx4 j hj).1.trans (hx2 j hj).1.symm
    ·obtain ⟨a1,a2⟩:=hx2 j hj
     obtain ⟨b1,b2⟩:=hx4 j hj
     rw [a1]
     exact are_are a2 b2
    ·rw [(hx2 j hj).1];exact hh j hj
    ·have:t' = t:=by have:=e1;simp at this;omega
     subst this
     exact ⟨rfl,rfl,hg2,hx2⟩
    ·rw [hcf,hNN] at h
     rcases h with k | k | k
     ·exact absurd k (by simp)
     ·exact absurd k ht2
     ·exact absurd k hb
end Go.Eng.R13
/-
 Nester: where a part comes to lie.
-/
set_option linter.all false
namespace Go.Eng.R13
open Go Go.RowKit Go.Eng Geo
theorem bounds20 (n:Nat) (f:FF) (n2:Nat) (f2:FF) (hn:n≤60):∃ p q r s,F20 100 n f n2 f2=some (p,q,r,s)∧(0<n→Bds f n p q r s):=by
 obtain ⟨p,q,r,s,h1,h2,_⟩:=bounds46 n f hn
 refine ⟨p,q,r,s,?_,h2⟩
 unfold F20
 rw [h1,ob_some]
structure PartV (p:Nat→CV):Prop where
 small:Small (CV.len (p 6)) (CV.len (p 7)) (CV.el (p 7))
 shape:VShape (CV.len (p 6)) (CV.el (p 6)) (CV.len (p 7)) (CV.el (p 7))
theorem PartV.box {p:Nat→CV} (V:PartV p):∃ a b c d,F20 100 (CV.len (p 6)) (CV.el (p 6)) (CV.len (p 7)) (CV.el (p 7))=some (a,b,c,d)∧Bds (CV.el (p 6)) (CV.len (p 6)) a b c d ∧
  (-32768≤a∧a≤c∧c≤32768)∧(-32768≤b∧b≤d∧d≤32768):=by
 have h3:=V.shape.outer.big
 have h4:=V.shape.outer.small
 obtain ⟨a,b,c,d,h1,h2⟩:=bounds20 (CV.len (p 6)) (CV.el (p 6)) (CV.len (p 7)) (CV.el (p 7)) (by omega)
 have hB:=h2 (by omega)
 refine ⟨a,b,c,d,h1,hB,?_⟩
 obtain ⟨q1,q2⟩:=hB
 obtain ⟨⟨j1,k1,e1⟩,⟨j2,k2,e2⟩,⟨j3,k3,e3⟩,⟨j4,k4,e4⟩⟩:=q2 (by omega)
 obtain ⟨n1,n2,n3,n4⟩:=V.shape.outer.near j1 k1
 obtain ⟨m1,m2,m3,m4⟩:=V.shape.outer.near j2 k2
 obtain ⟨r1,r2,r3,r4⟩:=V.shape.outer.near j3 k3
 obtain ⟨s1,s2,s3,s4⟩:=V.shape.outer.near j4 k4
 obtain ⟨w1,w2,w3,w4⟩:=q1 j1 k1
 omega
theorem PartV.good {p:Nat→CV} (V:PartV p):Good p:=by
 have h4:=V.shape.outer.small
 refine ⟨by omega,fun t=>?_⟩
 obtain ⟨a,b,c,d,h1,_,h2,h3⟩:=V.box
 obtain ⟨q,g1,g2⟩:=rect393 p t (by omega)
 have e:q=(a,b,c,d):=Option.some.inj (g1.symm.trans h1)
 subst e
 have e:szOf p t=szB t a b c d:=by unfold szOf;rw [g2];rfl
 rw [e]
 unfold szB
 split
 ·split<;>(dsimp only;omega)
 ·dsimp only;omega
theorem PartV.turned {p:Nat→CV} (V:PartV p) (t:Int) (ht:t=0∨t=1):∃ n f n2 f2 lx ly hx hy,F25 100 (CV.len (p 6)) (CV.el (p 6)) (CV.len (p 7)) (CV.el (p 7)) ByteArray.empty 0 0 t false=some (n,f,n2,f2) ∧
  F20 100 n f n2 f2=some (lx,ly,hx,hy)∧(-32768≤lx∧lx≤32768)∧(-32768≤ly∧ly≤32768):=by
 obtain ⟨tn,rfl,htn⟩:∃ tn:Nat,t=Int.ofNat tn∧tn≤1:=by
  rcases ht with rfl | rfl
  ·exact ⟨0,rfl,by omega⟩
  ·exact ⟨1,rfl,by omega⟩
 have h3:=V.shape.outer.big
 have h4:=V.shape.outer.small
 obtain ⟨a,c,b,d,c',d',e1,_,_,M⟩:=move_eq (CV.len (p 6)) (CV.len (p 7)) (CV.el (p 6)) (CV.el (p 7)) ByteArray.empty 0 0 (Int.ofNat tn) false V.small
 have nf:¬ (farB 0 0=true∨FarC (1+CV.len (p 7)) (cfh (CV.len (p 6)) (CV.el (p 6)) (CV.el (p 7))) 0):=by
  rintro (h | h)
  ·exact absurd h (by decide)
  ·exact not_farC V.shape.outer.near (fun j hj=>(V.shape.hole j hj).valid.near) h
 obtain ⟨rfl,rfl,hA,_⟩:=M.all tn rfl (by omega) nf
 obtain ⟨lx,ly,hx,hy,e2,e3⟩:=bounds20 (CV.len (p 6)) c (CV.len (p 7)) d (by omega)
 refine ⟨_,c,_,d,lx,ly,hx,hy,e1,e2,?_⟩
 obtain ⟨_,q2⟩:=e3 (by omega)
 obtain ⟨⟨j1,k1,w1⟩,⟨j2,k2,w2⟩,_⟩:=q2 (by omega)
 have key:∀ j,j<CV.len (p 6)→(-32768≤CV.int (c j 0)∧CV.int (c j 0)≤32768)∧(-32768≤CV.int (c j 1)∧CV.int (c j 1)≤32768):=by
  intro j hj
  obtain ⟨z1,z2⟩:=hA j hj
  obtain ⟨n1,n2,n3,n4⟩:=V.shape.outer.near j hj
  rw [z1,z2]
  have:tn=0∨tn=1:=by omega
  rcases this with rfl | rfl
  ·show (-32768≤w64 (CV.int (CV.el (p 6) j 0)+0)∧w64 (CV.int (CV.el (p 6) j 0)+0)≤32768)∧(-32768≤w64 (CV.int (CV.el (p 6) j 1)+0)∧w64 (CV.int (CV.el (p 6) j 1)+0)≤32768)
   rw [w64_of (by omega) (by omega),w64_of (by omega) (by omega)]
   omega
  ·show (-32768≤w64 (w64 (0-CV.int (CV.el (p 6) j 1))+0)∧w64 (w64 (0-CV.int (CV.el (p 6) j 1))+0)≤32768)∧(-32768≤w64 (CV.int (CV.el (p 6) j 0)+0)∧w64 (CV.int (CV.el (p 6) j 0)+0)≤32768)
   rw [w64_of (n:=0-CV.int (CV.el (p 6) j 1)) (by omega) (by omega),w64_of (by omega) (by omega),w64_of (by omega) (by omega)]
   omega
 rw [← w1,← w2]
 exact ⟨(key j1 k1).1,(key j2 k2).2⟩
def loOf (p:Nat→CV) (t:Int):Int × Int:=match F25 100 (CV.len (p 6)) (CV.el (p 6)) (CV.len (p 7)) (CV.el (p 7)) ByteArray.empty 0 0 t false with
 | some z=>match F20 100 z.1 z.2.1 z.2.2.1 z.2.2.2 with
  | some y=>(y.1,y.2.1)
  | none=>(0,0)
 | none=>(0,0)
def AtOk (p:Nat→CV) (t x y:Int):Prop:=(-32768≤x-(loOf p t).1∧x-(loOf p t).1≤32768)∧(-32768≤y-(loOf p t).2∧y-(loOf p t).2≤32768)
theorem PartV.lo {p:Nat→CV} (V:PartV p) (t:Int) (ht:t=0∨t=1):(-32768≤(loOf p t).1∧(loOf p t).1≤32768)∧(-32768≤(loOf p t).2∧(loOf p t).2≤32768):=by
 obtain ⟨n,f,n2,f2,lx,ly,hx,hy,e1,e2,e3⟩:=V.turned t ht
 unfold loOf
 rw [e1]
 dsimp only
 rw [e2]
 exact e3
theorem spot_law {p q:Nat→CV} (V:PartV p) (E:RowE q p) (t x y:Int) (ht:t=0∨t=1) (hx : -1099511627776≤x∧x≤1099511627776) (hy : -1099511627776≤y∧y≤1099511627776) :
  ∃ b,F394 100 q t x y=some (CV.str (p 0),x-(loOf p t).1,y-(loOf p t).2,t,false,b)∧(b=true↔AtOk p t x y):=by
 have L:=V.lo t ht
 obtain ⟨n,f,n2,f2,lx,ly,hx',hy',e1,e2,_⟩:=V.turned t ht
 have el:loOf p t=(lx,ly):=by
  unfold loOf
  rw [e1]
  dsimp only
  rw [e2]
 unfold F394 AtOk
 rw [E.ol,E.oe,E.hl,E.he,e1,ob_some]
 dsimp only
 rw [e2,ob_some,E.id,el]
 rw [el] at L
 dsimp only at L ⊢
 rw [w64_of (n:=x-lx) (by omega) (by omega),w64_of (n:=y-ly) (by omega) (by omega),within389,ob_some]
 by_cases c1 : -32768≤x-lx∧x-lx≤32768
 ·rw [bif_t (by simp [c1.1,c1.2]),within389,ob_some]
  refine ⟨_,rfl,?_⟩
  simp only [Bool.and_eq_true,decide_eq_true_eq]
  exact ⟨fun h=>⟨c1,h⟩,fun h=>h.2⟩
 ·rw [bif_f (by simp only [beq_eq_false_iff_ne,ne_eq,Bool.not_eq_true,Bool.and_eq_false_iff,decide_eq_false_iff_not];omega)]
  exact ⟨false,rfl,by simp only [Bool.false_eq_true,false_iff];exact fun h=>c1 h.1⟩
end Go.Eng.R13
/-
 Nester: the plan of parts at rectangles.
-/
set_option linter.all false
namespace Go.Eng.R13
open Go Go.RowKit Go.Eng Geo
theorem FitsP.congr {len wid:Int} {n:Nat} {r r' : FF} {x y l w gap:Int} (e:∀ j c,j<n→c<4→bx r' j c=bx r j c) (h:FitsP len wid n r x y l w gap):FitsP len wid n r' x y l w gap:=by
 obtain ⟨h1,h2,h3,h4⟩:=h
 refine ⟨h1,fun j hj=>?_,h3,fun j hj=>?_⟩
 ·have:=h2 j hj
  unfold NrJ at this ⊢
  rw [e j 0 hj (by omega),e j 1 hj (by omega),e j 2 hj (by omega),e j 3 hj (by omega)];exact this
 ·have:=h4 j hj
  unfold AptJ at this ⊢
  rw [e j 0 hj (by omega),e j 1 hj (by omega),e j 2 hj (by omega),e j 3 hj (by omega)];exact this
abbrev cN (ch:FF) (i:Nat):Nat:=(CV.int (ch i 0)).toNat
def takenF (ch R:FF):FF:=fun j c=>R (cN ch j) c
def OkI (f:FF) (tl:List Int) (ch R:FF) (gap L W:Int) (i:Nat):Prop :=
 AtOk (f (cN ch i)) (tl.getD (cN ch i) 0) (bx R (cN ch i) 0) (bx R (cN ch i) 1) ∧
 FitsP L W i (takenF ch R) (bx R (cN ch i) 0) (bx R (cN ch i) 1) (bx R (cN ch i) 2-bx R (cN ch i) 0) (bx R (cN ch i) 3-bx R (cN ch i) 1) gap
structure SpotI (f:FF) (tl:List Int) (ch R S:FF) (i:Nat):Prop where
 id:CV.str (S i 0)=CV.str (f (cN ch i) 0)
 x:CV.int (S i 1)=bx R (cN ch i) 0-(loOf (f (cN ch i)) (tl.getD (cN ch i) 0)).1
 y:CV.int (S i 2)=bx R (cN ch i) 1-(loOf (f (cN ch i)) (tl.getD (cN ch i) 0)).2
 turn:CV.int (S i 3)=tl.getD (cN ch i) 0
 flip:CV.bool (S i 4)=false
structure ChosenOk (n:Nat) (f:FF) (tl:List Int) (k:Nat) (ch R:FF):Prop where
 n4:n≤4
 tlen:tl.length=n
 k4:k≤4
 part:∀ i,i<n→PartV (f i)
 mem:∀ i,i<k→0≤CV.int (ch i 0)∧CV.int (ch i 0)<n
 turn:∀ i,i<k→tl.getD (cN ch i) 0=0∨tl.getD (cN ch i) 0=1
 rng:∀ i,i<k→∀ c,c<4→0≤bx R (cN ch i) c∧bx R (cN ch i) c≤1099511627776
theorem plan_loop {ρ:Type} {n:Nat} {f:FF} {tl:List Int} {k:Nat} {ch R:FF} (H:ChosenOk n f tl k ch R) (a b e:ByteArray) (c L W gap:Int) (k0:Option ρ) (k1:Nat→FF→Option ρ):∀ (m i:Nat) (S T:FF),k<m+i→i≤k →
  (∀ j,j<i→SpotI f tl ch R S j)→(∀ j c,j<i→c<4→T j c=CV.i .i64 (bx R (cN ch j) c)) →
  (∃ S',L400v1 100 n f tl.length (fL tl) n R gap k ch (Int.ofNat k) a b c L W e m i (Int.ofNat i) S T k0 k1=k1 k S'∧(∀ j,j<k→SpotI f tl ch R S' j)∧∀ j,i≤j→j<k→OkI f tl ch R gap L W j) ∨
  (L400v1 100 n f tl.length (fL tl) n R gap k ch (Int.ofNat k) a b c L W e m i (Int.ofNat i) S T k0 k1=k0∧∃ j,j<k∧¬ OkI f tl ch R gap L W j):=by
 intro m
 induction m with
 | zero=>intro i S T h1 h2;omega
 | succ m ih =>
  intro i S T h1 h2 hS hT
  unfold L400v1
  rw [lt_nat,inb_nat,toNat_nat]
  by_cases h:i<k
  ·obtain ⟨m0,m1⟩:=H.mem i h
   have hb:inb (CV.int (ch i 0)) n=true:=inb_true m0 m1
   have hj:cN ch i<n:=by unfold cN;omega
   have g:=H.rng i h
   have g0:=g 0 (by omega)
   have g1:=g 1 (by omega)
   have g2:=g 2 (by omega)
   have g3:=g 3 (by omega)
   have hk4:=H.k4
   obtain ⟨z,e1,hz⟩:=spot_law (q:=listF [(.s (CV.str (f (cN ch i) 0))),(.i .i64 (CV.int (f (cN ch i) 1))),(.i .i64 (CV.int (f (cN ch i) 2))),(.s (CV.str (f (cN ch i) 3))),(.s (CV.str (f (cN ch i) 4))),(.i .i64 (CV.int (f (cN ch i) 5))),(.ro false (.pr (.int .i64) (.pr (.int .i64) .nil)) (CV.len (f (cN ch i) 6)) (CV.el (f (cN ch i) 6))),(.ro false (.pr (.sl (.pr (.int .i64) (.pr (.int .i64) .nil))) .nil) (CV.len (f (cN ch i) 7)) (CV.el (f (cN ch i) 7))),(.s (CV.str (f (cN ch i) 8))),(.i .i64 (CV.int (f (cN ch i) 9))),(.i .i64 (CV.int (f (cN ch i) 10))),(.i .i64 (CV.int (f (cN ch i) 11))),(.i .i64 (CV.int (f (cN ch i) 12))),(.i .i64 (CV.int (f (cN ch i) 13))),(.i .i64 (CV.int (f (cN ch i) 14))),(.i .i64 (CV.int (f (cN ch i) 15))),(.i .i64 (CV.int (f (cN ch i) 16))),(.i .i64 (CV.int (f (cN ch i) 17)))])
    (H.part _ hj) ⟨rfl,rfl,rfl,rfl,rfl⟩ (tl.getD (cN ch i) 0) (bx R (cN ch i) 0) (bx R (cN ch i) 1) (H.turn i h) (by omega) (by omega)
   rw [bif_t (decide_eq_true h),bif_t (decide_eq_true h),bif_t hb,H.tlen,bif_t hb,bif_t hb]
   have e1':=e1
   rw [show CV.int (fL tl (Int.toNat (CV.int (ch i 0))) 0)=tl.getD (cN ch i) 0 from rfl]
   rw [e1,ob_some]
   cases z with
   | false =>
    rw [bif_f (by rfl)]
    exact .inr ⟨rfl,i,h,fun q=>by have:=hz.2 q.1;cases this⟩
   | true =>
    obtain ⟨y,e2,hy⟩:=fits_law L W i T (bx R (cN ch i) 0) (bx R (cN ch i) 1) (bx R (cN ch i) 2-bx R (cN ch i) 0) (bx R (cN ch i) 3-bx R (cN ch i) 1) gap (by omega)
    rw [bif_t (by rfl),bif_t hb,bif_t hb,bif_t hb,bif_t hb,bif_t hb,w64_of (n:=bx R (cN ch i) 2-bx R (cN ch i) 0) (by omega) (by omega),w64_of (n:=bx R (cN ch i) 3-bx R (cN ch i) 1) (by omega) (by omega),e2,ob_some]
    have hTT:∀ j c,j<i→c<4→bx T j c=bx (takenF ch R) j c:=fun j c q1 q2=>by
     unfold bx
     rw [hT j c q1 q2];rfl
    cases y with
    | false =>
     rw [bif_t (by rfl)]
     refine .inr ⟨rfl,i,h,fun q=>?_⟩
     have:=hy.2 (q.2.congr hTT)
     cases this
    | true =>
     have hOk:OkI f tl ch R gap L W i:=⟨hz.1 rfl,(hy.1 rfl).congr fun j c q1 q2=>(hTT j c q1 q2).symm⟩
     rw [bif_f (by rfl),bif_t (ble_okN (by omega)),bif_t (ble_okN (by omega)),bif_t hb,w64_succ (by omega)]
     have:=ih (i+1) (joinF i S (rowsF 5 [(.s (CV.str (f (cN ch i) 0))),(.i .i64 (bx R (cN ch i) 0-(loOf (f (cN ch i)) (tl.getD (cN ch i) 0)).1)),(.i .i64 (bx R (cN ch i) 1-(loOf (f (cN ch i)) (tl.getD (cN ch i) 0)).2)),(.i .i64 (tl.getD (cN ch i) 0)),(.b false)]))
      (joinF i T (rowsF 4 [(.i .i64 (bx R (cN ch i) 0)),(.i .i64 (bx R (cN ch i) 1)),(.i .i64 (bx R (cN ch i) 2)),(.i .i64 (bx R (cN ch i) 3))])) (by omega) (by omega) (fun j hj=>?_) (fun j c hj hc=>?_)
     ·rw [H.tlen] at this
      rcases this with ⟨S',e3,hS',hO⟩ | hno
      ·refine .inl ⟨S',e3,hS',fun j h5 h6=>?_⟩
       by_cases hji:j=i
       ·rw [hji];exact hOk
       ·exact hO j (by omega) h6
      ·exact .inr hno
     ·by_cases hji:j<i
      ·have q:=hS j hji
       exact ⟨by rw [joinF_o _ _ _ _ _ hji];exact q.id,by rw [joinF_o _ _ _ _ _ hji];exact q.x,by rw [joinF_o _ _ _ _ _ hji];exact q.y,by rw [joinF_o _ _ _ _ _ hji];exact q.turn,by rw [joinF_o _ _ _ _ _ hji];exact q.flip⟩
      ·have hje:j=i:=by omega
       subst hje
       refine ⟨?_,?_,?_,?_,?_⟩<;>(rw [joinF_n _ _ _ _ _ (Nat.le_refl _),Nat.sub_self];rfl)
     ·by_cases hji:j<i
      ·rw [joinF_o _ _ _ _ _ hji];exact hT j c hji hc
      ·have hje:j=i:=by omega
       subst hje
       rw [joinF_n _ _ _ _ _ (Nat.le_refl _),Nat.sub_self]
       match c,hc with
       | 0,_=>rfl
       | 1,_=>rfl
       | 2,_=>rfl
       | 3,_=>rfl
  ·rw [bif_f (decide_eq_false h)]
   have:i=k:=by omega
   subst this
   exact .inl ⟨S,rfl,hS,fun j h5 h6=>by omega⟩
theorem plan_law {n:Nat} {f:FF} {tl:List Int} {k:Nat} {ch R:FF} (H:ChosenOk n f tl k ch R) (a b e:ByteArray) (c L W gap:Int) :
  (∃ S,F400 100 a b c L W e n f tl.length (fL tl) k ch n R gap=some (a,gap,k,S,true)∧(∀ j,j<k→SpotI f tl ch R S j)∧∀ j,j<k→OkI f tl ch R gap L W j) ∨
  (F400 100 a b c L W e n f tl.length (fL tl) k ch n R gap=some (ByteArray.empty,0,0,(fun _ _=>.any),false)∧∃ j,j<k∧¬ OkI f tl ch R gap L W j):=by
 unfold F400 FT400
 rcases plan_loop H a b e c L W gap (some (true,ByteArray.empty,0,0,(fun _ _=>CV.any),false)) (fun x58 x59=>(some (false,a,gap,x58,x59,true))) 100 0 (fun _ _=>.any) (fun _ _=>.any) (by have:=H.k4;omega) (by omega) (fun j hj=>by omega) (fun j c hj=>by omega) with ⟨S,h1,h2,h3⟩ | ⟨h1,h2⟩
 ·refine .inl ⟨S,?_,h2,fun j hj=>h3 j (by omega) hj⟩
  refine (congrArg (fun z=>ob z _) h1).trans ?_
  rfl
 ·refine .inr ⟨?_,h2⟩
  refine (congrArg (fun z=>ob z _) h1).trans ?_
  rfl
end Go.Eng.R13
/-
 Nester: a part found by its name;parts that are few (out of PnCheck).
-/
set_option linter.all false
namespace Go.Eng.R13
open Go Go.RowKit Go.Eng Geo
abbrev FF':=Nat→Nat→CV
abbrev Sp:=ByteArray × Int × Int × Int × Bool
abbrev Sh:=Nat × (Nat→Nat→CV) × Nat × (Nat→Nat→CV)
def sp (S:FF') (j:Nat):Sp:=(CV.str (S j 0),CV.int (S j 1),CV.int (S j 2),CV.int (S j 3),CV.bool (S j 4))
def eqS (a b:ByteArray):Bool:=ByteArray.toList a==ByteArray.toList b
def fdGo (PF:FF') (s:ByteArray):Nat→Nat→Int
 | 0,_=>-1
 | m+1,i=>bif eqS (CV.str (PF i 0)) s then Int.ofNat i else fdGo PF s m (i+1)
def fd (P:Nat) (PF:FF') (s:ByteArray):Int:=fdGo PF s P 0
theorem fdGo_cases (PF:FF') (s:ByteArray):∀ m i,fdGo PF s m i = -1∨∃ k:Nat,i≤k∧k<i+m∧fdGo PF s m i=Int.ofNat k∧eqS (CV.str (PF k 0)) s=true
 | 0,i=>.inl rfl
 | m+1,i=>by
  unfold fdGo
  cases h:eqS (CV.str (PF i 0)) s with
  | true=>exact .inr ⟨i,Nat.le_refl i,by omega,rfl,h⟩
  | false =>
   rcases fdGo_cases PF s m (i+1) with h1 | ⟨k,k1,k2,k3,k4⟩
   ·exact .inl h1
   ·exact .inr ⟨k,by omega,by omega,k3,k4⟩
theorem fd_cases (P:Nat) (PF:FF') (s:ByteArray):fd P PF s = -1∨∃ k:Nat,k<P∧fd P PF s=Int.ofNat k∧eqS (CV.str (PF k 0)) s=true:=by
 rcases fdGo_cases PF s P 0 with h | ⟨k,k1,k2,k3,k4⟩
 ·exact .inl h
 ·exact .inr ⟨k,by omega,k3,k4⟩
theorem find171_loop (P:Nat) (PF:FF') (s:ByteArray) (hP:P≤90):∀ (m i:Nat),P<m+i→i≤P→L171v1 100 P PF (listF [.s s]) (Int.ofNat P) m (Int.ofNat i) (fun x=>some x) (some (-1))=some (fdGo PF s (P-i) i):=by
 intro m
 induction m with
 | zero=>intro i h1 h2;omega
 | succ m ih =>
  intro i h1 h2
  unfold L171v1
  rw [lt_nat,inb_nat,toNat_nat]
  by_cases h:i<P
  ·have e:F170 100 (listF (pj kR0 (PF i))) (listF [.s s])=some (eqS (CV.str (PF i 0)) s):=rfl
   rw [bif_t (decide_eq_true h),bif_t (decide_eq_true h),e,ob_some,show P-i=(P-(i+1))+1 from by omega,fdGo]
   cases hq:eqS (CV.str (PF i 0)) s with
   | true=>rfl
   | false=>rw [bif_f rfl,bif_f rfl,w64_succ (by omega)];exact ih (i+1) (by omega) (by omega)
  ·rw [bif_f (decide_eq_false h),show P-i=0 from by omega];rfl
theorem find171 (P:Nat) (PF:FF') (s:ByteArray) (hP:P≤90):F171 100 P PF (listF [.s s])=some (fd P PF s):=find171_loop P PF s hP 100 0 (by omega) (by omega)
theorem find172_no {P:Nat} {PF:FF'} {s:ByteArray} (hP:P≤90) (h:fd P PF s = -1):F172 100 P PF s=some (ByteArray.empty,0,0,ByteArray.empty,ByteArray.empty,0,0,(fun _ _=>.any),0,(fun _ _=>.any),ByteArray.empty,0,0,0,0,0,0,0,0,0,false):=by
 unfold F172 FT172
 rw [find171 P PF s hP,ob_some,h,bif_t (by rfl)]
 rfl
theorem find172_yes {P:Nat} {PF:FF'} {s:ByteArray} {k:Nat} (hP:P≤90) (hk:k<P) (h:fd P PF s=Int.ofNat k):F172 100 P PF s=some (CV.str (PF k 0),CV.int (PF k 1),CV.int (PF k 2),CV.str (PF k 3),CV.str (PF k 4),CV.int (PF k 5),CV.len (PF k 6),CV.el (PF k 6),CV.len (PF k 7),CV.el (PF k 7),CV.str (PF k 8),CV.int (PF k 9),CV.int (PF k 10),CV.int (PF k 11),CV.int (PF k 12),CV.int (PF k 13),CV.int (PF k 14),CV.int (PF k 15),CV.int (PF k 16),CV.int (PF k 17),true):=by
 unfold F172 FT172
 rw [find171 P PF s hP,ob_some,h,bif_f (decide_eq_false (by simp)),inb_nat,bif_t (decide_eq_true hk),toNat_nat]
 rfl
structure FewP (P:Nat) (PF:FF'):Prop where
 parts:P≤20
 outer:∀ j,j<P→CV.len (PF j 6)≤12
 holes:∀ j,j<P→CV.len (PF j 7)≤4
 hole:∀ j,j<P→∀ i,i<CV.len (PF j 7)→CV.len (CV.el (PF j 7) i 0)≤12
theorem FewP.small {P:Nat} {PF:FF'} (h:FewP P PF) {j:Nat} (hj:j<P):Small (CV.len (PF j 6)) (CV.len (PF j 7)) (CV.el (PF j 7)) :=
 ⟨by have:=h.outer j hj;omega,by have:=h.holes j hj;omega,fun i hi=>by have:=h.hole j hj i hi;omega⟩
end Go.Eng.R13
/-
 Nester: the area that a plan uses.
-/
set_option linter.all false
namespace Go.Eng.R13
open Go Go.RowKit Go.Eng Geo
theorem some18 {ρ:Type} (N a b:Nat) (F c d:Nat→Nat→CV) (hN:N≤13) (k:Int→Option ρ):∀ (m i:Nat) (s:Int),N<m+i→i≤N→∃ x,L18v1 100 N F (Int.ofNat N) a c b d m s (Int.ofNat i) k=k x:=by
 intro m
 induction m with
 | zero=>intro i s h1 h2;omega
 | succ m ih =>
  intro i s h1 h2
  unfold L18v1
  rw [lt_nat,inb_nat,toNat_nat]
  by_cases h:i<N
  ·obtain ⟨x,hx,_⟩:=area_law (CV.len (F i 0)) (CV.el (F i 0))
   rw [bif_t (decide_eq_true h),bif_t (decide_eq_true h),hx,ob_some,w64_succ (by omega)]
   exact ih (i+1) _ (by omega) (by omega)
  ·rw [bif_f (decide_eq_false h)]
   exact ⟨s,rfl⟩
theorem f18_some (n1:Nat) (f1:Nat→Nat→CV) (n2:Nat) (f2:Nat→Nat→CV) (hn:n2≤12):∃ x,F18 100 n1 f1 n2 f2=some x:=by
 unfold F18
 obtain ⟨c,h1,_,_⟩:=shape_law n1 n2 f1 f2
 rw [h1,ob_some]
 have c42:F42 100 n1 f1 n2 f2=some (1+n2,joinF 1 (rowsF 1 [(.ro false (.pr (.int .i64) (.pr (.int .i64) .nil)) n1 f1)]) f2):=by
  unfold F42
  rw [bif_t (by rw [Nat.ble_eq];omega)]
 by_cases hc:c=0
 ·rw [bif_f (by simpa using hc),c42,ob_some,show (0:Int)=Int.ofNat 0 from rfl]
  obtain ⟨x,hx⟩:=some18 (1+n2) n1 n2 (joinF 1 (rowsF 1 [(.ro false (.pr (.int .i64) (.pr (.int .i64) .nil)) n1 f1)]) f2) f1 f2 (by omega) (fun x26=>some x26) 100 0 (Int.ofNat 0) (by omega) (by omega)
  exact ⟨x,hx⟩
 ·rw [bif_t (by simpa using hc)]
  exact ⟨_,rfl⟩
def area2P (PF:FF') (k:Nat):Int:=(F18 100 (CV.len (PF k 6)) (CV.el (PF k 6)) (CV.len (PF k 7)) (CV.el (PF k 7))).getD 0
theorem area2P_law {P:Nat} {PF:FF'} (hP:FewP P PF) {k:Nat} (hk:k<P):F18 100 (CV.len (PF k 6)) (CV.el (PF k 6)) (CV.len (PF k 7)) (CV.el (PF k 7))=some (area2P PF k):=by
 obtain ⟨x,hx⟩:=f18_some (CV.len (PF k 6)) (CV.el (PF k 6)) (CV.len (PF k 7)) (CV.el (PF k 7)) (by have:=hP.holes k hk;omega)
 have:area2P PF k=x:=by unfold area2P;rw [hx];rfl
 rw [this]
 exact hx
def pkN (P:Nat) (PF:FF') (s:ByteArray):Nat:=(fd P PF s).toNat
def ua (P:Nat) (PF S:FF'):Int→Nat→Nat→Int
 | acc,0,_=>acc
 | acc,m+1,j=>ua P PF S (bif decide (fd P PF (CV.str (S j 0))<0) then acc else w64 (acc+area2P PF (pkN P PF (CV.str (S j 0))))) m (j+1)
theorem ua_congr {P:Nat} {PF S S' : FF'}:∀ {m j:Nat} {acc:Int},(∀ t,j≤t→t<j+m→CV.str (S' t 0)=CV.str (S t 0))→ua P PF S' acc m j=ua P PF S acc m j
 | 0,_,_,_=>rfl
 | m+1,j,acc,h=>by
  unfold ua
  have e:=h j (Nat.le_refl j) (by omega)
  rw [e]
  exact ua_congr fun t a b=>h t (by omega) (by omega)
theorem used183_loop {ρ:Type} (P n:Nat) (PF S:FF') (hP:FewP P PF) (hn:n≤90) (a:ByteArray) (b:Int) (k0:Int→Option ρ):∀ (m j:Nat) (acc:Int),n<m+j→j≤n→L183v1 100 P PF n S (Int.ofNat n) a b m acc (Int.ofNat j) k0=k0 (ua P PF S acc (n-j) j):=by
 have hP':=hP.parts
 intro m
 induction m with
 | zero=>intro j acc h1 h2;omega
 | succ m ih =>
  intro j acc h1 h2
  unfold L183v1
  rw [lt_nat,inb_nat,toNat_nat]
  by_cases h:j<n
  ·rw [bif_t (decide_eq_true h),bif_t (decide_eq_true h),w64_succ (by omega),show n-j=(n-(j+1))+1 from by omega,ua]
   rcases fd_cases P PF (CV.str (S j 0)) with hf | ⟨k,hk,hf,_⟩
   ·rw [find172_no (by omega) hf,ob_some,bif_f (by rfl),hf,ih (j+1) acc (by omega) (by omega)];rfl
   ·have hpk:pkN P PF (CV.str (S j 0))=k:=by unfold pkN;rw [hf];rfl
    rw [find172_yes (by omega) hk hf,ob_some]
    dsimp only
    rw [bif_t rfl,area2P_law hP hk,ob_some,hf,hpk,ih (j+1) _ (by omega) (by omega),bif_f (decide_eq_false (by simp))]
  ·rw [bif_f (decide_eq_false h),show n-j=0 from by omega];rfl
def usedN (P:Nat) (PF S:FF') (n:Nat):Int:=ua P PF S 0 n 0
theorem used183 {P n:Nat} {PF S:FF'} (hP:FewP P PF) (hn:n≤32) (a:ByteArray) (b:Int):F183 100 a b n S P PF=some (usedN P PF S n):=by
 unfold F183
 have hn' : ¬ (Int.ofNat n)>32:=by show ¬ (n:Int)>32;omega
 rw [bif_f (decide_eq_false hn')]
 exact used183_loop P n PF S hP (by omega) a b (fun x28=>some x28) 100 0 0 (by omega) (by omega)
theorem usedN_congr {P n:Nat} {PF S S' : FF'} (h:∀ t,t<n→CV.str (S' t 0)=CV.str (S t 0)):usedN P PF S' n=usedN P PF S n:=ua_congr fun t _ q=>h t (by omega)
theorem usedN_zero (P:Nat) (PF S:FF'):usedN P PF S 0=0:=rfl
end Go.Eng.R13
/-
 Nester: one step of Best: the chosen parts,their packing,and that a smaller gap or a larger plate lets more be laid.
-/
set_option linter.all false
namespace Go.Eng.R13
open Go Go.RowKit Go.Eng Geo
structure Chs (tl:List Int) (i k:Nat) (c:FF):Prop where
 le:k≤i
 mem:∀ t,t<k→(0≤CV.int (c t 0)∧CV.int (c t 0)<i)∧0≤tl.getD (cN c t) 0
 asc:∀ s t,s<t→t<k→CV.int (c s 0)<CV.int (c t 0)
 all:∀ j:Nat,j<i→0≤tl.getD j 0→∃ t,t<k∧CV.int (c t 0)=j
def chN (tl:List Int):Nat→Nat→Nat→FF→Nat × FF
 | 0,_,k,c=>(k,c)
 | m+1,i,k,c=>if 0≤tl.getD i 0 then chN tl m (i+1) (k+1) (joinF k c (rowsF 1 [(.i .i64 (Int.ofNat i))])) else chN tl m (i+1) k c
theorem chosen_loop {ρ:Type} (tl:List Int) (ht:tl.length≤4) (a1 a2:ByteArray) (a3 a4 a5:Int) (a6:ByteArray) (a7:Nat) (a8:FF) (a9:Int) (a10:Nat) (a11:FF) (a12:ByteArray) (a13:Int) (a14:Nat) (a15:FF) (a16:Int):∀ (m i k:Nat) (c:FF),tl.length<m+i→i≤tl.length→Chs tl i k c →
  ∃ k' c',(k',c')=chN tl (tl.length-i) i k c∧(∀ k0:Nat→FF→Option ρ,L401v5 100 tl.length (fL tl) (Int.ofNat tl.length) a1 a2 a3 a4 a5 a6 a7 a8 a9 a10 a11 a12 a13 a14 a15 a16 m (Int.ofNat i) k c k0=k0 k' c')∧Chs tl tl.length k' c':=by
 intro m
 induction m with
 | zero=>intro i k c h1 h2;omega
 | succ m ih =>
  intro i k c h1 h2 hC
  by_cases h:i<tl.length
  ·have e:CV.int (fL tl i 0)=tl.getD i 0:=rfl
   by_cases q:tl.getD i 0≥0
   ·have hle:=hC.le
    have hN:Chs tl (i+1) (k+1) (joinF k c (rowsF 1 [(.i .i64 (Int.ofNat i))])):=by
     have new:CV.int (joinF k c (rowsF 1 [(.i .i64 (Int.ofNat i))]) k 0)=(i:Int):=by rw [joinF_n _ _ _ _ _ (Nat.le_refl _),Nat.sub_self];rfl
     have old:∀ t,t<k→CV.int (joinF k c (rowsF 1 [(.i .i64 (Int.ofNat i))]) t 0)=CV.int (c t 0):=fun t w=>by rw [joinF_o _ _ _ _ _ w]
     refine ⟨by omega,fun t w=>?_,fun s t w1 w2=>?_,fun j w1 w2=>?_⟩
     ·by_cases hk:t<k
      ·unfold cN
       rw [old t hk]
       have:=hC.mem t hk
       exact ⟨⟨this.1.1,by omega⟩,this.2⟩
      ·have:t=k:=by omega
       subst this
       unfold cN
       rw [new]
       exact ⟨by omega,by simpa using q⟩
     ·by_cases hk:t<k
      ·rw [old t hk,old s (by omega)];exact hC.asc s t w1 hk
      ·have:t=k:=by omega
       subst this
       rw [new,old s w1]
       exact (hC.mem s w1).1.2
     ·by_cases hj:j=i
      ·subst hj;exact ⟨k,by omega,new⟩
      ·obtain ⟨t,u1,u2⟩:=hC.all j (by omega) w2
       exact ⟨t,by omega,by rw [old t u1];exact u2⟩
    obtain ⟨k',c',e0,e1,hC'⟩:=ih (i+1) (k+1) _ (by omega) (by omega) hN
    refine ⟨k',c',by rw [show tl.length-i=(tl.length-(i+1))+1 from by omega,chN,if_pos q];exact e0,fun k0=>?_,hC'⟩
    unfold L401v5
    rw [lt_nat,inb_nat,toNat_nat,bif_t (decide_eq_true h),bif_t (decide_eq_true h),e,bif_t (decide_eq_true q),bif_t (ble_okN (by omega)),w64_succ (by omega)]
    exact e1 k0
   ·have hN:Chs tl (i+1) k c:=⟨by have:=hC.le;omega,fun t w=>⟨⟨(hC.mem t w).1.1,by have:=(hC.mem t w).1.2;omega⟩,(hC.mem t w).2⟩,hC.asc,fun j w1 w2=>by
     by_cases hj:j=i
     ·subst hj;exact absurd w2 q
     ·exact hC.all j (by omega) w2⟩
    obtain ⟨k',c',e0,e1,hC'⟩:=ih (i+1) k c (by omega) (by omega) hN
    refine ⟨k',c',by rw [show tl.length-i=(tl.length-(i+1))+1 from by omega,chN,if_neg q];exact e0,fun k0=>?_,hC'⟩
    unfold L401v5
    rw [lt_nat,inb_nat,toNat_nat,bif_t (decide_eq_true h),bif_t (decide_eq_true h),e,bif_f (decide_eq_false q),w64_succ (by omega)]
    exact e1 k0
  ·have:i=tl.length:=by omega
   subst this
   refine ⟨k,c,by rw [Nat.sub_self];rfl,fun k0=>?_,hC⟩
   unfold L401v5
   rw [lt_nat,bif_f (decide_eq_false h)]
structure StepS (n:Nat) (f:FF) (tl:List Int) (k:Nat) (c:FF) (first second:List Int):Prop where
 n4:n≤4
 part:∀ i,i<n→PartV (f i)
 vec:okV n tl=true
 chs:Chs tl n k c
 p1:first.Perm (liL k c)
 p2:second.Perm (liL k c)
theorem liL_len (k:Nat) (c:FF):(liL k c).length=k:=by simp [liL]
theorem liL_get {k:Nat} {c:FF} {t:Nat} (h:t<k):(liL k c)[t]?=some (CV.int (c t 0)):=by
 unfold liL
 rw [List.getElem?_map,List.getElem?_range h];rfl
theorem StepS.tlen {n k:Nat} {f c:FF} {tl first second:List Int} (H:StepS n f tl k c first second):tl.length=n:=by
 have:=H.vec
 unfold okV at this
 rw [Bool.and_eq_true] at this
 exact Nat.eq_of_beq_eq_true this.1
theorem okV_turn {n:Nat} {tl:List Int} (h:okV n tl=true) {i:Nat} (hi:i<n) (h0:0≤tl.getD i 0):tl.getD i 0=0∨tl.getD i 0=1:=by
 unfold okV at h
 rw [Bool.and_eq_true] at h
 have hl:=Nat.eq_of_beq_eq_true h.1
 have h2:=List.all_eq_true.1 h.2 (tl.getD i 0) (by rw [List.getD_eq_getElem?_getD,List.getElem?_eq_getElem (by omega)];exact List.getElem_mem _)
 simp only [Bool.or_eq_true,beq_iff_eq] at h2
 omega
theorem StepS.place {n k:Nat} {f c:FF} {tl first second:List Int} (H:StepS n f tl k c first second):second.length=k∧first.length=k ∧
  (∀ t,t<k→∃ i,i<k∧second.getD t 0=CV.int (c i 0))∧(∀ i,i<k→∃ t,t<k∧second.getD t 0=CV.int (c i 0))∧(∀ s t,s<t→t<k→second.getD s 0≠second.getD t 0):=by
 have l2:=H.p2.length_eq
 have l1:=H.p1.length_eq
 rw [liL_len] at l1 l2
 have nd:(liL k c).Nodup:=by
  rw [List.nodup_iff_pairwise_ne,List.pairwise_iff_getElem]
  intro i j hi hj hij
  rw [liL_len] at hi hj
  have e1:=liL_get (c:=c) hi
  have e2:=liL_get (c:=c) hj
  rw [List.getElem?_eq_getElem (by rw [liL_len];exact hi)] at e1
  rw [List.getElem?_eq_getElem (by rw [liL_len];exact hj)] at e2
  rw [Option.some.inj e1,Option.some.inj e2]
  have:=H.chs.asc i j hij hj
  omega
 have nd2:second.Nodup:=H.p2.nodup_iff.2 nd
 refine ⟨l2,l1,fun t ht=>?_,fun i hi=>?_,fun s t hst ht=>?_⟩
 ·have hm:second.getD t 0∈liL k c:=H.p2.subset (by rw [List.getD_eq_getElem?_getD,List.getElem?_eq_getElem (by omega)];exact List.getElem_mem _)
  obtain ⟨i,hi,e⟩:=List.getElem_of_mem hm
  rw [liL_len] at hi
  have e1:=liL_get (c:=c) hi
  rw [List.getElem?_eq_getElem (by rw [liL_len];exact hi)] at e1
  exact ⟨i,hi,e.symm.trans (Option.some.inj e1)⟩
 ·have hm:CV.int (c i 0)∈second:=H.p2.symm.subset (by
   have e1:=liL_get (c:=c) hi
   rw [List.getElem?_eq_getElem (by rw [liL_len];exact hi)] at e1
   rw [← Option.some.inj e1];exact List.getElem_mem _)
  obtain ⟨t,ht,e⟩:=List.getElem_of_mem hm
  exact ⟨t,by omega,by rw [List.getD_eq_getElem?_getD,List.getElem?_eq_getElem ht];exact e⟩
 ·rw [List.nodup_iff_pairwise_ne,List.pairwise_iff_getElem] at nd2
  have:=nd2 s t (by omega) (by omega) hst
  rw [List.getD_eq_getElem?_getD,List.getElem?_eq_getElem (by omega),List.getD_eq_getElem?_getD,List.getElem?_eq_getElem (by omega)]
  exact this
end Go.Eng.R13
/-
 Nester: the packing of a step;a smaller gap or a larger plate lets more be laid.
-/
set_option linter.all false
namespace Go.Eng.R13
open Go Go.RowKit Go.Eng Geo
theorem packed_law {n k:Nat} {f c:FF} {tl first second:List Int} (H:StepS n f tl k c first second) (gap:Int) (hgap:0≤gap∧gap≤500) :
  ∃ R,F399 100 n f tl.length (fL tl) first.length (fL first) second.length (fL second) gap=some (n,R)∧Pk f tl first second gap second.length R:=by
 obtain ⟨l2,l1,p1,p2,p3⟩:=H.place
 have hk:=H.chs.le
 have hn:=H.n4
 obtain ⟨R,e,hP⟩:=outer399 n f tl first second gap H.n4 H.tlen (by omega) (by omega) (fun t ht=>by
  obtain ⟨i,hi,e⟩:=p1 t (by omega)
  rw [e];exact (H.chs.mem i hi).1) (fun s t h1 h2=>p3 s t h1 (by omega)) hgap (fun i hi=>(H.part i hi).good) (fun x100=>(some ((Int.toNat (Int.ofNat n)),x100))) 100 0 (fun _ j=>listF [(.i .i64 0),(.i .i64 0),(.i .i64 0),(.i .i64 0)] j) (by omega) (by omega)
  ⟨fun t q=>by omega,fun t q=>by omega,fun s t q1 q2=>by omega,fun X Y q1 q2 t q=>by omega⟩
 refine ⟨R,?_,hP⟩
 unfold F399
 have hc:(decide (0≤(Int.ofNat n))&&decide ((Int.ofNat n)≤(Int.ofNat n))&&decide ((Int.ofNat n)≤1073741824)&&true)=true:=by
  have h1:(0:Int)≤Int.ofNat n:=by show (0:Int)≤(n:Int);omega
  have h2:(Int.ofNat n)≤1073741824:=by show (n:Int)≤1073741824;omega
  rw [decide_eq_true h1,decide_eq_true h2,decide_eq_true (Int.le_refl _)];rfl
 rw [bif_t hc]
 exact e
structure PkC (f:FF) (tl:List Int) (gap:Int) (k:Nat) (c R:FF):Prop where
 lo:∀ i,i<k→(gap≤bx R (cN c i) 0∧bx R (cN c i) 0≤1000000)∧(gap≤bx R (cN c i) 1∧bx R (cN c i) 1≤1000000)
 hi:∀ i,i<k→bx R (cN c i) 2=bx R (cN c i) 0+(szOf (f (cN c i)) (tl.getD (cN c i) 0)).1∧bx R (cN c i) 3=bx R (cN c i) 1+(szOf (f (cN c i)) (tl.getD (cN c i) 0)).2
 sep:∀ i j,i<k→j<k→i≠j→(bx R (cN c i) 2+gG gap≤bx R (cN c j) 0∨bx R (cN c i) 3+gG gap≤bx R (cN c j) 1)∨(bx R (cN c j) 2+gG gap≤bx R (cN c i) 0∨bx R (cN c j) 3+gG gap≤bx R (cN c i) 1)
theorem Pk.chosen {n k:Nat} {f c:FF} {tl first second:List Int} (H:StepS n f tl k c first second) {gap:Int} {R:FF} (h:Pk f tl first second gap second.length R):PkC f tl gap k c R:=by
 obtain ⟨l2,l1,p1,p2,p3⟩:=H.place
 have hk:=H.chs.le
 have hn:=H.n4
 refine ⟨fun i hi=>?_,fun i hi=>?_,fun i j hi hj hij=>?_⟩
 ·obtain ⟨t,ht,e⟩:=p2 i hi
  have:=h.lo t (by omega)
  rw [e] at this
  unfold cN
  omega
 ·obtain ⟨t,ht,e⟩:=p2 i hi
  have:=h.hi t (by omega)
  rw [e] at this
  exact this
 ·obtain ⟨s,hs,e1⟩:=p2 i hi
  obtain ⟨t,ht,e2⟩:=p2 j hj
  have hne:s≠t:=by
   intro hst
   subst hst
   rw [e1] at e2
   by_cases q:i<j
   ·have:=H.chs.asc i j q hj;omega
   ·have:=H.chs.asc j i (by omega) hi;omega
  by_cases q:s<t
  ·have:=h.sep s t q (by omega)
   rw [e1,e2] at this
   by_cases b:Bef first (CV.int (c i 0)) (CV.int (c j 0))
   ·exact .inl (.inl (this.1 b))
   ·exact .inl (.inr (this.2 b))
  ·have:=h.sep t s (by omega) (by omega)
   rw [e1,e2] at this
   by_cases b:Bef first (CV.int (c j 0)) (CV.int (c i 0))
   ·exact .inr (.inl (this.1 b))
   ·exact .inr (.inr (this.2 b))
theorem PkC.ok {n k:Nat} {f c:FF} {tl first second:List Int} (H:StepS n f tl k c first second) {gap:Int} {R:FF} (hgap:0≤gap) (h:PkC f tl gap k c R):ChosenOk n f tl k c R:=by
 have hk:=H.chs.le
 have hn:=H.n4
 refine ⟨hn,H.tlen,by omega,H.part,fun i hi=>(H.chs.mem i hi).1,fun i hi=>okV_turn H.vec (by have:=(H.chs.mem i hi).1;unfold cN;omega) (H.chs.mem i hi).2,fun i hi d hd=>?_⟩
 have m:=(H.chs.mem i hi).1
 have s:=(H.part (cN c i) (by unfold cN;omega)).good.sz (tl.getD (cN c i) 0)
 have l:=h.lo i hi
 have u:=h.hi i hi
 have:d=0∨d=1∨d=2∨d=3:=by omega
 rcases this with rfl | rfl | rfl | rfl<;>omega
theorem lay_ok {n k:Nat} {f c:FF} {tl first second:List Int} (H:StepS n f tl k c first second) {gap L W:Int} {R:FF} (hgap:0≤gap∧gap≤500) (hP:PkC f tl gap k c R) (hL:0≤L∧L≤32768) (hW:0≤W∧W≤32768) {i:Nat} (hi:i<k)
  (hat:AtOk (f (cN c i)) (tl.getD (cN c i) 0) (bx R (cN c i) 0) (bx R (cN c i) 1))
  (hsz:(1≤(szOf (f (cN c i)) (tl.getD (cN c i) 0)).1∧(szOf (f (cN c i)) (tl.getD (cN c i) 0)).1≤32768)∧(1≤(szOf (f (cN c i)) (tl.getD (cN c i) 0)).2∧(szOf (f (cN c i)) (tl.getD (cN c i) 0)).2≤32768))
  (hin:bx R (cN c i) 0+(szOf (f (cN c i)) (tl.getD (cN c i) 0)).1≤L-gap∧bx R (cN c i) 1+(szOf (f (cN c i)) (tl.getD (cN c i) 0)).2≤W-gap):OkI f tl c R gap L W i:=by
 have l:=hP.lo i hi
 have u:=hP.hi i hi
 have C:=hP.ok H hgap.1
 refine ⟨hat,?_,fun j hj=>?_,?_,fun j hj=>?_⟩
 ·unfold FLim;omega
 ·have g:=C.rng j (by omega)
  have g0:=g 0 (by omega)
  have g1:=g 1 (by omega)
  have g2:=g 2 (by omega)
  have g3:=g 3 (by omega)
  show Nr4 (bx R (cN c j) 0) (bx R (cN c j) 1) (bx R (cN c j) 2) (bx R (cN c j) 3)
  unfold Nr4
  omega
 ·unfold FIn;omega
 ·have s:=hP.sep i j hi (by omega) (by omega)
  show Apt (bx R (cN c j) 0) (bx R (cN c j) 1) (bx R (cN c j) 2) (bx R (cN c j) 3) _ _ _ _ _
  unfold Apt
  omega
theorem ok_mono {n k:Nat} {f c:FF} {tl first second:List Int} (H:StepS n f tl k c first second) {gap gap' L W L' W' : Int} {R R' : FF} (hg:0≤gap∧gap≤gap'∧gap'≤500) (hL:L'≤L∧L≤32768) (hW:W'≤W∧W≤32768)
  (hP:Pk f tl first second gap second.length R) (hP' : Pk f tl first second gap' second.length R') (h:∀ i,i<k→OkI f tl c R' gap' L' W' i):∀ i,i<k→OkI f tl c R gap L W i:=by
 obtain ⟨l2,l1,p1,p2,p3⟩:=H.place
 have hgG:gG gap≤gG gap':=by unfold gG;split<;>split<;>omega
 have hle:∀ t,t<second.length→bx R (second.getD t 0).toNat 0≤bx R' (second.getD t 0).toNat 0∧bx R (second.getD t 0).toNat 1≤bx R' (second.getD t 0).toNat 1:=by
  refine hP.least (fun b=>bx R' b 0) (fun b=>bx R' b 1) (fun t ht=>?_) (fun s t hst ht=>?_)
  ·have:=hP'.lo t ht
   omega
  ·have a1:=hP'.sep s t hst ht
   have a2:=hP'.hi s (by omega)
   exact ⟨fun b=>by have:=a1.1 b;omega,fun b=>by have:=a1.2 b;omega⟩
 have C:=hP.chosen H
 have C':=hP'.chosen H
 intro i hi
 obtain ⟨t,ht,e⟩:=p2 i hi
 have q:=hle t (by omega)
 rw [e] at q
 obtain ⟨o1,o2,o3,o4,o5⟩:=h i hi
 have l:=C.lo i hi
 have u:=C.hi i hi
 have u':=C'.hi i hi
 have mm:=(H.chs.mem i hi).1
 have hv:=okV_turn H.vec (i:=cN c i) (by unfold cN;omega) (H.chs.mem i hi).2
 have lob:=(H.part (cN c i) (by unfold cN;omega)).lo (tl.getD (cN c i) 0) hv
 unfold AtOk at o1
 unfold FLim at o2
 unfold FIn at o4
 have q:bx R (cN c i) 0≤bx R' (cN c i) 0∧bx R (cN c i) 1≤bx R' (cN c i) 1:=q
 refine lay_ok H ⟨hg.1,by omega⟩ C (by omega) (by omega) hi ?_ (by omega) (by omega)
 unfold AtOk
 omega
end Go.Eng.R13
/-
 Nester: Best's three loops as folds of one step.
-/
set_option linter.all false
namespace Go.Eng.R13
open Go Go.RowKit Go.Eng Geo
abbrev NSt:=ByteArray × Int × Nat × FF × Int
structure Set24 where
 a:ByteArray
 gr:ByteArray
 th:Int
 L:Int
 W:Int
 e:ByteArray
 P:Nat
 PF:FF
 gap:Int
 n:Nat
 f:FF
def pkR (z:Set24) (tl first second:List Int):FF:=((F399 100 z.n z.f tl.length (fL tl) first.length (fL first) second.length (fL second) z.gap).getD (0,fun _ _=>.any)).2
def plR (z:Set24) (tl:List Int) (k:Nat) (c:FF) (first second:List Int):ByteArray × Int × Nat × FF × Bool:=(F400 100 z.a z.gr z.th z.L z.W z.e z.n z.f tl.length (fL tl) k c z.n (pkR z tl first second) z.gap).getD (ByteArray.empty,0,0,(fun _ _=>.any),false)
def stepB (z:Set24) (tl:List Int) (k:Nat) (c:FF) (first second:List Int) (s:NSt):NSt :=
 if (plR z tl k c first second).2.2.2.2=true∧usedN z.P z.PF (plR z tl k c first second).2.2.2.1 (plR z tl k c first second).2.2.1>s.2.2.2.2 then
  ((plR z tl k c first second).1,(plR z tl k c first second).2.1,(plR z tl k c first second).2.2.1,(plR z tl k c first second).2.2.2.1,usedN z.P z.PF (plR z tl k c first second).2.2.2.1 (plR z tl k c first second).2.2.1)
 else s
structure Fix (z:Set24):Prop where
 gap:0≤z.gap∧z.gap≤500
 few:FewP z.P z.PF
 n4:z.n≤4
 part:∀ i,i<z.n→PartV (z.f i)
theorem step_plan {z:Set24} (Z:Fix z) {tl:List Int} {k:Nat} {c:FF} {first second:List Int} (H:StepS z.n z.f tl k c first second) :
  F399 100 z.n z.f tl.length (fL tl) first.length (fL first) second.length (fL second) z.gap=some (z.n,pkR z tl first second)∧Pk z.f tl first second z.gap second.length (pkR z tl first second) ∧
  F400 100 z.a z.gr z.th z.L z.W z.e z.n z.f tl.length (fL tl) k c z.n (pkR z tl first second) z.gap=some (plR z tl k c first second) ∧
  ((plR z tl k c first second).2.2.2.2=true↔∀ i,i<k→OkI z.f tl c (pkR z tl first second) z.gap z.L z.W i) ∧
  ((plR z tl k c first second).2.2.2.2=true→(plR z tl k c first second).1=z.a∧(plR z tl k c first second).2.1=z.gap∧(plR z tl k c first second).2.2.1=k∧∀ j,j<k→SpotI z.f tl c (pkR z tl first second) (plR z tl k c first second).2.2.2.1 j) ∧
  (plR z tl k c first second).2.2.1≤4:=by
 obtain ⟨R,e1,hP⟩:=packed_law H z.gap Z.gap
 have eR:pkR z tl first second=R:=by unfold pkR;rw [e1];rfl
 have hk:=H.chs.le
 have hn:=H.n4
 have C:=(hP.chosen H).ok H Z.gap.1
 rw [eR]
 rcases plan_law C z.a z.gr z.e z.th z.L z.W z.gap with ⟨S,e2,h2,h3⟩ | ⟨e2,i,hi,h2⟩
 ·have eP:plR z tl k c first second=(z.a,z.gap,k,S,true):=by unfold plR;rw [eR,e2];rfl
  rw [eP]
  exact ⟨e1,hP,e2,⟨fun _=>h3,fun _=>rfl⟩,fun _=>⟨rfl,rfl,rfl,h2⟩,by show k≤4;omega⟩
 ·have eP:plR z tl k c first second=(ByteArray.empty,0,0,(fun _ _=>.any),false):=by unfold plR;rw [eR,e2];rfl
  rw [eP]
  exact ⟨e1,hP,e2,⟨fun h=>(by cases h),fun h=>absurd (h i hi) h2⟩,fun h=>(by cases h),by show 0≤4;omega⟩
theorem drop_fold {β:Type} (l:List (List Int)) (i:Nat) (h:i<l.length) (g:β→List Int→β) (s:β):(l.drop i).foldl g s=(l.drop (i+1)).foldl g (g s (l.getD i [])):=by
 rw [List.drop_eq_getElem_cons h,List.foldl_cons,List.getD_eq_getElem?_getD,List.getElem?_eq_getElem h];rfl
theorem loop3 {ρ:Type} {z:Set24} (Z:Fix z) {tl:List Int} {k:Nat} {c:FF} {first:List Int} (H:∀ second∈permsL (liL k c),StepS z.n z.f tl k c first second) (hk:k≤4) (k0:ByteArray→Int→Nat→FF→Int→Option ρ):∀ (m i:Nat) (s:NSt),(permsL (liL k c)).length<m+i→i≤(permsL (liL k c)).length →
  L401v3 100 k c z.a z.gr z.th z.L z.W z.e z.P z.PF z.gap z.n z.f tl.length (fL tl) first.length (fL first) m (i:Int) s.1 s.2.1 s.2.2.1 s.2.2.2.1 s.2.2.2.2 k0 =
   k0 (((permsL (liL k c)).drop i).foldl (fun s q=>stepB z tl k c first q s) s).1 (((permsL (liL k c)).drop i).foldl (fun s q=>stepB z tl k c first q s) s).2.1 (((permsL (liL k c)).drop i).foldl (fun s q=>stepB z tl k c first q s) s).2.2.1 (((permsL (liL k c)).drop i).foldl (fun s q=>stepB z tl k c first q s) s).2.2.2.1 (((permsL (liL k c)).drop i).foldl (fun s q=>stepB z tl k c first q s) s).2.2.2.2:=by
 have hb:(Nat.ble k 4&&true)=true:=by rw [Bool.and_true,Nat.ble_eq];exact hk
 intro m
 induction m with
 | zero=>intro i s h1 h2;omega
 | succ m ih =>
  intro i s h1 h2
  unfold L401v3
  rw [bif_t hb]
  by_cases h:i<(permsL (liL k c)).length
  ·have hlt:(i:Int)<Int.ofNat (permsL (liL k c)).length:=by show (i:Int)<((permsL (liL k c)).length:Int);omega
   rw [bif_t (decide_eq_true hlt),drop_fold _ i h,show Int.toNat (i:Int)=i from rfl]
   generalize hq:(permsL (liL k c)).getD i []=q
   have hm:q∈permsL (liL k c):=by rw [← hq,List.getD_eq_getElem?_getD,List.getElem?_eq_getElem h];exact List.getElem_mem _
   obtain ⟨e1,_,e2,_,_,hle⟩:=step_plan Z (H q hm)
   rw [e1,ob_some,e2,ob_some,used183 Z.few (by omega),ob_some]
   have hi:(i:Int)+1=((i+1:Nat):Int):=by omega
   rw [hi]
   by_cases c1:(plR z tl k c first q).2.2.2.2=true
   ·rw [bif_t (by simpa using c1)]
    by_cases c2:usedN z.P z.PF (plR z tl k c first q).2.2.2.1 (plR z tl k c first q).2.2.1>s.2.2.2.2
    ·rw [bif_t (decide_eq_true c2)]
     have e3:stepB z tl k c first q s=((plR z tl k c first q).1,(plR z tl k c first q).2.1,(plR z tl k c first q).2.2.1,(plR z tl k c first q).2.2.2.1,usedN z.P z.PF (plR z tl k c first q).2.2.2.1 (plR z tl k c first q).2.2.1):=by
      unfold stepB;rw [if_pos ⟨c1,c2⟩]
     rw [e3]
     exact ih (i+1) (_,_,_,_,_) (by omega) (by omega)
    ·rw [bif_f (decide_eq_false c2)]
     have e3:stepB z tl k c first q s=s:=by unfold stepB;rw [if_neg (fun q=>c2 q.2)]
     rw [e3]
     exact ih (i+1) s (by omega) (by omega)
   ·rw [bif_f (by simpa using c1)]
    have e3:stepB z tl k c first q s=s:=by unfold stepB;rw [if_neg (fun q=>c1 q.1)]
    rw [e3]
    exact ih (i+1) s (by omega) (by omega)
  ·have hlt:¬ (i:Int)<Int.ofNat (permsL (liL k c)).length:=by show ¬ (i:Int)<((permsL (liL k c)).length:Int);omega
   rw [bif_f (decide_eq_false hlt),List.drop_eq_nil_of_le (by omega)]
   rfl
def fold3 (z:Set24) (tl:List Int) (k:Nat) (c:FF) (first:List Int) (s:NSt):NSt:=(permsL (liL k c)).foldl (fun s q=>stepB z tl k c first q s) s
theorem loop6 {ρ:Type} {z:Set24} (Z:Fix z) {tl:List Int} {k:Nat} {c:FF} (H:∀ first∈permsL (liL k c),∀ second∈permsL (liL k c),StepS z.n z.f tl k c first second) (hk:k≤4) (k0:ByteArray→Int→Nat→FF→Int→Option ρ):∀ (m i:Nat) (s:NSt),(permsL (liL k c)).length<m+i→i≤(permsL (liL k c)).length →
  L401v6 100 k c z.a z.gr z.th z.L z.W z.e z.P z.PF z.gap z.n z.f tl.length (fL tl) m (i:Int) s.1 s.2.1 s.2.2.1 s.2.2.2.1 s.2.2.2.2 k0 =
   k0 (((permsL (liL k c)).drop i).foldl (fun s q=>fold3 z tl k c q s) s).1 (((permsL (liL k c)).drop i).foldl (fun s q=>fold3 z tl k c q s) s).2.1 (((permsL (liL k c)).drop i).foldl (fun s q=>fold3 z tl k c q s) s).2.2.1 (((permsL (liL k c)).drop i).foldl (fun s q=>fold3 z tl k c q s) s).2.2.2.1 (((permsL (liL k c)).drop i).foldl (fun s q=>fold3 z tl k c q s) s).2.2.2.2:=by
 have hb:(Nat.ble k 4&&true)=true:=by rw [Bool.and_true,Nat.ble_eq];exact hk
 have hl:=permsL_len (l:=liL k c) (by rw [liL_len];exact hk)
 intro m
 induction m with
 | zero=>intro i s h1 h2;omega
 | succ m ih =>
  intro i s h1 h2
  unfold L401v6
  rw [bif_t hb]
  by_cases h:i<(permsL (liL k c)).length
  ·have hlt:(i:Int)<Int.ofNat (permsL (liL k c)).length:=by show (i:Int)<((permsL (liL k c)).length:Int);omega
   rw [bif_t (decide_eq_true hlt),drop_fold _ i h,show Int.toNat (i:Int)=i from rfl]
   generalize hq:(permsL (liL k c)).getD i []=q
   have hm:q∈permsL (liL k c):=by rw [← hq,List.getD_eq_getElem?_getD,List.getElem?_eq_getElem h];exact List.getElem_mem _
   refine (loop3 Z (H q hm) hk _ 100 0 s (by omega) (by omega)).trans ?_
   rw [List.drop_zero,show (i:Int)+1=((i+1:Nat):Int) from by omega]
   exact ih (i+1) (fold3 z tl k c q s) (by omega) (by omega)
  ·have hlt:¬ (i:Int)<Int.ofNat (permsL (liL k c)).length:=by show ¬ (i:Int)<((permsL (liL k c)).length:Int);omega
   rw [bif_f (decide_eq_false hlt),List.drop_eq_nil_of_le (by omega)]
   rfl
def fold6 (z:Set24) (tl:List Int) (s:NSt):NSt:=(permsL (liL (chN tl tl.length 0 0 (fun _ _=>.any)).1 (chN tl tl.length 0 0 (fun _ _=>.any)).2)).foldl (fun s q=>fold3 z tl (chN tl tl.length 0 0 (fun _ _=>.any)).1 (chN tl tl.length 0 0 (fun _ _=>.any)).2 q s) s
def fold7 (z:Set24) (i:Nat) (s:NSt):NSt:=((List.range (turnN z.n)).drop i).foldl (fun s t=>fold6 z (turnL z.n t) s) s
theorem steps_of {z:Set24} (Z:Fix z) {tl:List Int} (hv:okV z.n tl=true) {k:Nat} {c:FF} (hC:Chs tl z.n k c):∀ first∈permsL (liL k c),∀ second∈permsL (liL k c),StepS z.n z.f tl k c first second :=
 fun first h1 second h2=>⟨Z.n4,Z.part,hv,hC,permsL_perm h1,permsL_perm h2⟩
theorem okV_len {n:Nat} {tl:List Int} (h:okV n tl=true):tl.length=n:=by
 unfold okV at h
 rw [Bool.and_eq_true] at h
 exact Nat.eq_of_beq_eq_true h.1
theorem chs_zero (tl:List Int) (c:FF):Chs tl 0 0 c:=⟨Nat.le_refl _,fun t h=>by omega,fun s t h1 h2=>by omega,fun j h=>by omega⟩
theorem loop7 {ρ:Type} {z:Set24} (Z:Fix z) (k0:ByteArray→Int→Nat→FF→Int→Option ρ):∀ (m i:Nat) (s:NSt),turnN z.n<m+i→i≤turnN z.n →
  L401v7 100 (Int.ofNat z.n) z.a z.gr z.th z.L z.W z.e z.P z.PF z.gap z.n z.f m (i:Int) s.1 s.2.1 s.2.2.1 s.2.2.2.1 s.2.2.2.2 k0 =
   k0 (fold7 z i s).1 (fold7 z i s).2.1 (fold7 z i s).2.2.1 (fold7 z i s).2.2.2.1 (fold7 z i s).2.2.2.2:=by
 have hn:=Z.n4
 have hb:((decide (0≤Int.ofNat z.n)&&decide (Int.ofNat z.n≤4))&&true)=true:=by
  have h1:(0:Int)≤Int.ofNat z.n:=by show (0:Int)≤(z.n:Int);omega
  have h2:(Int.ofNat z.n)≤4:=by show (z.n:Int)≤4;omega
  rw [decide_eq_true h1,decide_eq_true h2];rfl
 intro m
 induction m with
 | zero=>intro i s h1 h2;omega
 | succ m ih =>
  intro i s h1 h2
  unfold L401v7
  rw [bif_t hb,toNat_nat]
  by_cases h:i<turnN z.n
  ·have hlt:(i:Int)<Int.ofNat (turnN z.n):=by show (i:Int)<(turnN z.n:Int);omega
   rw [bif_t (decide_eq_true hlt),show Int.toNat (i:Int)=i from rfl]
   have hv:=turnL_ok z.n hn i h
   have hl:=okV_len hv
   have hf:fold7 z i s=fold7 z (i+1) (fold6 z (turnL z.n i) s):=by
    unfold fold7
    rw [List.drop_eq_getElem_cons (by simpa using h),List.foldl_cons,List.getElem_range]
   rw [hf]
   generalize turnL z.n i=tl at hv hl ⊢
   obtain ⟨k,c,e0,e1,hC⟩:=chosen_loop (ρ:=ρ) tl (by omega) z.a z.gr z.th z.L z.W z.e z.P z.PF z.gap z.n z.f s.1 s.2.1 s.2.2.1 s.2.2.2.1 s.2.2.2.2 100 0 0 (fun _ _=>.any) (by omega) (by omega) (chs_zero _ _)
   rw [Nat.sub_zero] at e0
   rw [hl] at hC
   have hle:=hC.le
   have hp:=permsL_len (l:=liL k c) (by rw [liL_len];omega)
   refine (e1 _).trans ?_
   refine (loop6 Z (steps_of Z hv hC) (by omega) _ 100 0 s (by omega) (by omega)).trans ?_
   have e6:fold6 z tl s=(permsL (liL k c)).foldl (fun s q=>fold3 z tl k c q s) s:=by unfold fold6;rw [← e0]
   rw [List.drop_zero,← e6,show (i:Int)+1=((i+1:Nat):Int) from by omega]
   exact ih (i+1) (fold6 z tl s) (by omega) (by omega)
  ·have hlt:¬ (i:Int)<Int.ofNat (turnN z.n):=by show ¬ (i:Int)<(turnN z.n:Int);omega
   have hf:fold7 z i s=s:=by unfold fold7;rw [List.drop_eq_nil_of_le (by simp;omega)];rfl
   rw [bif_f (decide_eq_false hlt),hf]
end Go.Eng.R13
/-
 NesterLess: Best at two settings in lockstep.
-/
set_option linter.all false
namespace Go.Eng.R13
open Go Go.RowKit Go.Eng Geo
theorem foldl_inv2 {α β:Type} {Q:β→β→Prop} {g g' : β→α→β}:∀ (l:List α),(∀ x∈l,∀ s s',Q s s'→Q (g s x) (g' s' x))→∀ s s',Q s s'→Q (l.foldl g s) (l.foldl g' s')
 | [],_,s,s',h=>h
 | x :: l,hs,s,s',h=>foldl_inv2 l (fun y hy=>hs y (List.mem_cons_of_mem _ hy)) _ _ (hs x List.mem_cons_self s s' h)
theorem foldl_inv1 {α β:Type} {Q:β→Prop} {g:β→α→β}:∀ (l:List α),(∀ x∈l,∀ s,Q s→Q (g s x))→∀ s,Q s→Q (l.foldl g s)
 | [],_,s,h=>h
 | x :: l,hs,s,h=>foldl_inv1 l (fun y hy=>hs y (List.mem_cons_of_mem _ hy)) _ (hs x List.mem_cons_self s h)
theorem fold7_inv1 {z:Set24} (Z:Fix z) {Q:NSt→Prop} (h:∀ tl k c first second,StepS z.n z.f tl k c first second→∀ s,Q s→Q (stepB z tl k c first second s)) {s:NSt} (h0:Q s):Q (fold7 z 0 s):=by
 unfold fold7
 rw [List.drop_zero]
 refine foldl_inv1 _ (fun t ht s hs=>?_) s h0
 rw [List.mem_range] at ht
 have hv:=turnL_ok z.n Z.n4 t ht
 generalize turnL z.n t=tl at hv
 have hl:=okV_len hv
 obtain ⟨k,c,e0,_,hC⟩:=chosen_loop (ρ:=Nat) tl (by have:=Z.n4;omega) z.a z.gr z.th z.L z.W z.e z.P z.PF z.gap z.n z.f s.1 s.2.1 s.2.2.1 s.2.2.2.1 s.2.2.2.2 100 0 0 (fun _ _=>.any) (by have:=Z.n4;omega) (by omega) (chs_zero _ _)
 rw [Nat.sub_zero] at e0
 rw [hl] at hC
 unfold fold6
 rw [← e0]
 refine foldl_inv1 _ (fun first h1 s hs=>?_) s hs
 unfold fold3
 exact foldl_inv1 _ (fun second h2 s hs=>h tl k c first second (steps_of Z hv hC first h1 second h2) s hs) s hs
theorem fold7_inv2 {z z' : Set24} (Z:Fix z) (en:z'.n=z.n) {Q:NSt→NSt→Prop} (h:∀ tl k c first second,StepS z.n z.f tl k c first second→∀ s s',Q s s'→Q (stepB z tl k c first second s) (stepB z' tl k c first second s')) {s s' : NSt} (h0:Q s s'):Q (fold7 z 0 s) (fold7 z' 0 s'):=by
 unfold fold7
 rw [List.drop_zero,List.drop_zero,en]
 refine foldl_inv2 _ (fun t ht s s' hs=>?_) s s' h0
 rw [List.mem_range] at ht
 have hv:=turnL_ok z.n Z.n4 t ht
 generalize turnL z.n t=tl at hv
 have hl:=okV_len hv
 obtain ⟨k,c,e0,_,hC⟩:=chosen_loop (ρ:=Nat) tl (by have:=Z.n4;omega) z.a z.gr z.th z.L z.W z.e z.P z.PF z.gap z.n z.f s.1 s.2.1 s.2.2.1 s.2.2.2.1 s.2.2.2.2 100 0 0 (fun _ _=>.any) (by have:=Z.n4;omega) (by omega) (chs_zero _ _)
 rw [Nat.sub_zero] at e0
 rw [hl] at hC
 unfold fold6
 rw [← e0]
 refine foldl_inv2 _ (fun first h1 s s' hs=>?_) s s' hs
 unfold fold3
 exact foldl_inv2 _ (fun second h2 s s' hs=>h tl k c first second (steps_of Z hv hC first h1 second h2) s s' hs) s s' hs
def ValOk (z:Set24) (s:NSt):Prop:=s.2.2.2.2=usedN z.P z.PF s.2.2.2.1 s.2.2.1∧s.2.2.1≤4
theorem val_step {z:Set24} (Z:Fix z) {tl:List Int} {k:Nat} {c:FF} {first second:List Int} (H:StepS z.n z.f tl k c first second) {s:NSt} (h:ValOk z s):ValOk z (stepB z tl k c first second s):=by
 obtain ⟨_,_,_,_,_,hle⟩:=step_plan Z H
 unfold stepB
 split
 ·exact ⟨rfl,hle⟩
 ·exact h
structure Lesser (z z' : Set24):Prop where
 n:z'.n=z.n
 f:z'.f=z.f
 P:z'.P=z.P
 PF:z'.PF=z.PF
 gap:z.gap≤z'.gap
 L:z'.L≤z.L∧z.L≤32768
 W:z'.W≤z.W∧z.W≤32768
theorem less_step {z z' : Set24} (Z:Fix z) (Z' : Fix z') (hl:Lesser z z') {tl:List Int} {k:Nat} {c:FF} {first second:List Int} (H:StepS z.n z.f tl k c first second) {s s' : NSt} (h:s'.2.2.2.2≤s.2.2.2.2) :
  (stepB z' tl k c first second s').2.2.2.2≤(stepB z tl k c first second s).2.2.2.2:=by
 have H' : StepS z'.n z'.f tl k c first second:=by rw [hl.n,hl.f];exact H
 obtain ⟨_,hP,_,h1,h2,_⟩:=step_plan Z H
 obtain ⟨_,hP',_,h1',h2',_⟩:=step_plan Z' H'
 rw [hl.f] at hP' h1' h2'
 have hup:(plR z' tl k c first second).2.2.2.2=true→(plR z tl k c first second).2.2.2.2=true∧usedN z'.P z'.PF (plR z' tl k c first second).2.2.2.1 (plR z' tl k c first second).2.2.1=usedN z.P z.PF (plR z tl k c first second).2.2.2.1 (plR z tl k c first second).2.2.1:=by
  intro q
  have ok:=h1.2 (ok_mono H ⟨Z.gap.1,hl.gap,Z'.gap.2⟩ hl.L hl.W hP hP' (h1'.1 q))
  refine ⟨ok,?_⟩
  obtain ⟨_,_,a3,a4⟩:=h2 ok
  obtain ⟨_,_,b3,b4⟩:=h2' q
  rw [hl.P,hl.PF,a3,b3]
  exact usedN_congr fun t ht=>(b4 t ht).id.trans (a4 t ht).id.symm
 unfold stepB
 by_cases q:(plR z' tl k c first second).2.2.2.2=true
 ·obtain ⟨ok,eu⟩:=hup q
  rw [eu]
  generalize usedN z.P z.PF (plR z tl k c first second).2.2.2.1 (plR z tl k c first second).2.2.1=u
  by_cases c1:u>s'.2.2.2.2
  ·rw [if_pos ⟨q,c1⟩]
   by_cases c2:u>s.2.2.2.2
   ·rw [if_pos ⟨ok,c2⟩];exact Int.le_refl _
   ·rw [if_neg (fun hh=>c2 hh.2)];show u≤s.2.2.2.2;omega
  ·rw [if_neg (fun hh=>c1 hh.2)]
   by_cases c2:u>s.2.2.2.2
   ·rw [if_pos ⟨ok,c2⟩];show s'.2.2.2.2≤u;omega
   ·rw [if_neg (fun hh=>c2 hh.2)];exact h
 ·rw [if_neg (fun hh=>q hh.1)]
  split
  ·rename_i hh
   have:=hh.2
   show s'.2.2.2.2≤usedN z.P z.PF (plR z tl k c first second).2.2.2.1 (plR z tl k c first second).2.2.1
   omega
  ·exact h
theorem none_step {z:Set24} (Z:Fix z) (hL:z.L>32768∨z.W>32768) {tl:List Int} {k:Nat} {c:FF} {first second:List Int} (H:StepS z.n z.f tl k c first second) {s:NSt} (h:s.2.2.1=0∧s.2.2.2.2=0) :
  (stepB z tl k c first second s).2.2.1=0∧(stepB z tl k c first second s).2.2.2.2=0:=by
 obtain ⟨_,hP,_,h1,h2,_⟩:=step_plan Z H
 unfold stepB
 rw [if_neg]
 ·exact h
 ·intro q
  obtain ⟨_,_,e3,_⟩:=h2 q.1
  have hk:k=0:=by
   by_cases hk:k=0
   ·exact hk
   ·have:=(h1.1 q.1 0 (by omega)).2.1
    unfold FLim at this
    omega
  rw [e3,hk,usedN_zero,h.2] at q
  omega
end Go.Eng.R13
/-
 NesterLess: the plain law.
-/
set_option linter.all false
namespace Go.Eng.R13
open Go Go.RowKit Go.Eng Geo
theorem few390v2 {ρ:Type} (P:Nat) (PF:FF) (i:Nat) (hi:i<P) (hh:CV.len (PF i 7)≤4) (k0 k1:Option ρ):∀ (m j:Nat),CV.len (PF i 7)<m+j→j≤CV.len (PF i 7) →
  L390v2 100 P PF (Int.ofNat i) m (Int.ofNat j) k0 k1=k0∨(L390v2 100 P PF (Int.ofNat i) m (Int.ofNat j) k0 k1=k1∧∀ t,j≤t→t<CV.len (PF i 7)→CV.len (CV.el (PF i 7) t 0)≤12):=by
 intro m
 induction m with
 | zero=>intro j h1 h2;omega
 | succ m ih =>
  intro j h1 h2
  unfold L390v2
  rw [inb_nat,toNat_nat,toNat_nat,lt_nat,inb_nat,bif_t (decide_eq_true hi)]
  by_cases h:j<CV.len (PF i 7)
  ·rw [bif_t (decide_eq_true h),bif_t (decide_eq_true hi),bif_t (decide_eq_true h),w64_succ (by omega)]
   by_cases c:(Int.ofNat (CV.len ((CV.el (PF i 7)) j 0)))>12
   ·rw [bif_t (decide_eq_true c)];exact .inl rfl
   ·rw [bif_f (decide_eq_false c)]
    have c:¬ (CV.len ((CV.el (PF i 7)) j 0):Int)>12:=c
    rcases ih (j+1) (by omega) (by omega) with e | ⟨e,hq⟩
    ·exact .inl e
    ·refine .inr ⟨e,fun t h3 h4=>?_⟩
     by_cases ht:t=j
     ·subst ht;omega
     ·exact hq t (by omega) h4
  ·rw [bif_f (decide_eq_false h)];exact .inr ⟨rfl,fun t h3 h4=>by omega⟩
theorem few390v3 {ρ:Type} (P:Nat) (PF:FF) (hP:P≤20) (k0 k1:Option ρ):∀ (m i:Nat),P<m+i→i≤P →
  L390v3 100 P PF m (Int.ofNat i) k0 k1=k0∨(L390v3 100 P PF m (Int.ofNat i) k0 k1=k1∧∀ j,i≤j→j<P→CV.len (PF j 6)≤12∧CV.len (PF j 7)≤4∧∀ t,t<CV.len (PF j 7)→CV.len (CV.el (PF j 7) t 0)≤12):=by
 intro m
 induction m with
 | zero=>intro i h1 h2;omega
 | succ m ih =>
  intro i h1 h2
  unfold L390v3
  rw [lt_nat,inb_nat,toNat_nat]
  by_cases h:i<P
  ·obtain ⟨b,e1,_⟩:=few386 (listF (pj kR0 (PF i)))
   rw [bif_t (decide_eq_true h),bif_t (decide_eq_true h),e1,ob_some]
   cases b with
   | false=>exact .inl rfl
   | true =>
    rw [bif_t (by rfl),bif_t (decide_eq_true h),bd]
    by_cases c1:(Int.ofNat (CV.len (PF i 6)))>12
    ·rw [if_pos c1];exact .inl rfl
    rw [if_neg c1,bif_t (decide_eq_true h)]
    by_cases c2:(Int.ofNat (CV.len (PF i 7)))>4
    ·rw [bif_t (decide_eq_true c2)];exact .inl rfl
    rw [bif_f (decide_eq_false c2),w64_succ (by omega)]
    have c1:¬ (CV.len (PF i 6):Int)>12:=c1
    have c2:¬ (CV.len (PF i 7):Int)>4:=c2
    rcases few390v2 P PF i h (by omega) k0 (L390v3 100 P PF m (Int.ofNat (i+1)) k0 k1) 100 0 (by omega) (by omega) with e | ⟨e,hq⟩
    ·exact .inl e
    ·rcases ih (i+1) (by omega) (by omega) with e2 | ⟨e2,hr⟩
     ·exact .inl (e.trans e2)
     ·refine .inr ⟨e.trans e2,fun j h3 h4=>?_⟩
      by_cases hj:j=i
      ·subst hj;exact ⟨by omega,by omega,fun t ht=>hq t (by omega) ht⟩
      ·exact hr j (by omega) h4
  ·rw [bif_f (decide_eq_false h)];exact .inr ⟨rfl,fun j h3 h4=>by omega⟩
theorem few390 (P:Nat) (PF:FF) (n:Nat) (hn:n≤20):∃ b,F390 100 P PF (n:Int)=some b∧(b=true→FewP P PF∧P≤n):=by
 unfold F390
 by_cases c:(Int.ofNat P)>(n:Int)
 ·rw [bif_t (decide_eq_true c)];exact ⟨false,rfl,fun h=>by cases h⟩
 rw [bif_f (decide_eq_false c)]
 have c:¬ (P:Int)>(n:Int):=c
 rcases few390v3 P PF (by omega) (some false) (some true) 100 0 (by omega) (by omega) with e | ⟨e,h⟩
 ·exact ⟨false,e,fun h=>by cases h⟩
 ·exact ⟨true,e,fun _=>⟨⟨by omega,fun j hj=>(h j (by omega) hj).1,fun j hj=>(h j (by omega) hj).2.1,fun j hj=>(h j (by omega) hj).2.2⟩,by omega⟩⟩
theorem PartV.of_row {x y:Nat→CV} (E:RowE x y) (V:PartV y):PartV x:=⟨by rw [E.ol,E.hl,E.he];exact V.small,by rw [E.ol,E.oe,E.hl,E.he];exact V.shape⟩
theorem part_of {P:Nat} {PF:FF} (hP:FewP P PF) {gr:ByteArray} {th:Int} {j:Nat} (hj:j<P) (h:SuitP gr th PF j):PartV (PF j):=by
 refine ⟨hP.small hj,?_⟩
 obtain ⟨z,z1,_,z3⟩:=shape_law (CV.len (PF j 6)) (CV.len (PF j 7)) (CV.el (PF j 6)) (CV.el (PF j 7))
 exact z3.1 (Option.some.inj (z1.symm.trans h.2.2.2.2))
theorem best_law {P:Nat} {PF:FF} (hP:FewP P PF) (h4:P≤4) (a gr e:ByteArray) (th:Int):∃ n f,∀ L W gap:Int,0≤gap∧gap≤500 →
  Fix ⟨a,gr,th,L,W,e,P,PF,gap,n,f⟩∧F401 100 a gr th L W e P PF gap 10473=some ((fold7 ⟨a,gr,th,L,W,e,P,PF,gap,n,f⟩ 0 (a,gap,0,(fun _ _=>.any),0)).1,(fold7 ⟨a,gr,th,L,W,e,P,PF,gap,n,f⟩ 0 (a,gap,0,(fun _ _=>.any),0)).2.1,
   (fold7 ⟨a,gr,th,L,W,e,P,PF,gap,n,f⟩ 0 (a,gap,0,(fun _ _=>.any),0)).2.2.1,(fold7 ⟨a,gr,th,L,W,e,P,PF,gap,n,f⟩ 0 (a,gap,0,(fun _ _=>.any),0)).2.2.2.1,0):=by
 obtain ⟨js,f,e1,hl,hS⟩:=suit_law P PF a gr e th 0 0 (by omega)
 refine ⟨js.length,f,fun L W gap hgap=>?_⟩
 have Z:Fix ⟨a,gr,th,L,W,e,P,PF,gap,js.length,f⟩:=by
  refine ⟨hgap,hP,by show js.length≤4;omega,fun i hi=>?_⟩
  have hm:js.getD i 0∈js:=by rw [List.getD_eq_getElem?_getD,List.getElem?_eq_getElem hi];exact List.getElem_mem _
  obtain ⟨q1,q2⟩:=hS.ok _ hm
  exact (part_of hP q1 q2).of_row (hS.row i hi)
 refine ⟨Z,?_⟩
 have T:turnN js.length≤81:=by
  have:∀ n<5,turnN n≤81:=by decide +kernel
  exact this _ (by omega)
 have e7:=loop7 Z (fun x352 x353 x354 x355 (x356:Int)=>(some (x352,x353,x354,x355,(0:Int)))) 100 0 (a,gap,0,(fun _ _=>.any),0) (by show turnN js.length<100+0;omega) (Nat.zero_le _)
 unfold F401
 rw [within389,ob_some,bif_f (by simp [hgap.1,hgap.2]),suit_indep P PF a gr e th L W 0 0,e1,ob_some]
 have c4:¬ (Int.ofNat js.length)>4:=by show ¬ (js.length:Int)>4;omega
 dsimp only
 rw [bif_f (decide_eq_false c4)]
 have beq:∀ n:Nat,(Int.ofNat js.length==(n:Int))=decide (js.length=n):=fun n=>by
  rw [Bool.eq_iff_iff,beq_iff_eq,decide_eq_true_eq]
  show (js.length:Int)=(n:Int)↔_
  omega
 have b0:=beq 0
 have b1:=beq 1
 have b2:=beq 2
 have b3:=beq 3
 have b4:=beq 4
 by_cases h0:js.length=0
 ·rw [show (Int.ofNat js.length==0)=true from b0.trans (decide_eq_true h0),cond_true,bif_f (by decide)]
  exact e7
 rw [show (Int.ofNat js.length==0)=false from b0.trans (decide_eq_false h0),cond_false]
 by_cases h1:js.length=1
 ·rw [show (Int.ofNat js.length==1)=true from b1.trans (decide_eq_true h1),cond_true,bif_f (by decide)]
  exact e7
 rw [show (Int.ofNat js.length==1)=false from b1.trans (decide_eq_false h1),cond_false]
 by_cases h2:js.length=2
 ·rw [show (Int.ofNat js.length==2)=true from b2.trans (decide_eq_true h2),cond_true,bif_f (by decide)]
  exact e7
 rw [show (Int.ofNat js.length==2)=false from b2.trans (decide_eq_false h2),cond_false]
 by_cases h3:js.length=3
 ·rw [show (Int.ofNat js.length==3)=true from b3.trans (decide_eq_true h3),cond_true,bif_f (by decide)]
  exact e7
 rw [show (Int.ofNat js.length==3)=false from b3.trans (decide_eq_false h3),cond_false]
 rw [show (Int.ofNat js.length==4)=true from b4.trans (decide_eq_true (by omega)),cond_true,bif_f (by decide)]
 exact e7
end Go.Eng.R13
/-
 NesterLess: the law.
-/
set_option linter.all false
namespace Go.Eng.R13
open Go Go.RowKit Go.Eng Geo
theorem u8N_wf {n:Int} (h:(Lit.int .u8 n).wf=true):0≤n∧n≤255:=by
 have e1:IntKind.u8.min=0:=rfl
 have e2:IntKind.u8.max=255:=rfl
 simpa [Lit.wf,e1,e2] using h
theorem less24 (g0:Nat→CV) (hg0:RowIn kR1 g0) (a1c0:Int) (a1c1:Int) (a1c2:Int) (h1c0:(Lit.int .u8 a1c0).wf=true) (h1c1:(Lit.int .u8 a1c1).wf=true) (h1c2:(Lit.int .u8 a1c2).wf=true):F408 100 g0 a1c0 a1c1 a1c2=some true:=by
 obtain ⟨p0,p1⟩:=u8N_wf h1c0
 obtain ⟨q0,q1⟩:=u8N_wf h1c1
 obtain ⟨r0,r1⟩:=u8N_wf h1c2
 unfold F408
 obtain ⟨b,e1,hb⟩:=few390 (CV.len (g0 6)) (CV.el (g0 6)) 4 (by omega)
 have e1:F390 100 (CV.len (g0 6)) (CV.el (g0 6)) 4=some b:=e1
 rw [e1,ob_some,alive403]
 cases b with
 | false=>rfl
 | true =>
  obtain ⟨hP,h4⟩:=hb rfl
  rw [bif_t (by rfl),bd,bd,bd]
  by_cases c1:CV.int (g0 7)<0
  ·rw [if_pos c1];rfl
  rw [if_neg c1]
  by_cases c2:CV.int (g0 7)>500
  ·rw [if_pos c2];rfl
  rw [if_neg c2]
  by_cases c3:CV.int (g0 3)<0
  ·rw [if_pos c3];rfl
  rw [if_neg c3]
  by_cases c4:CV.int (g0 4)<0
  ·rw [bif_t (decide_eq_true c4)];rfl
  rw [bif_f (decide_eq_false c4)]
  rw [w64_of (n:=a1c0) (by omega) (by omega),w64_of (n:=a1c1) (by omega) (by omega),w64_of (n:=a1c2) (by omega) (by omega),w64_of (n:=CV.int (g0 7)+a1c0) (by omega) (by omega)]
  obtain ⟨n,f,H⟩:=best_law hP h4 (CV.str (g0 0)) (CV.str (g0 1)) (CV.str (g0 5)) (CV.int (g0 2))
  generalize hL' : w64 (CV.int (g0 3)-(if a1c1<CV.int (g0 3) then a1c1 else CV.int (g0 3)))=L'
  generalize hW' : w64 (CV.int (g0 4)-(if a1c2<CV.int (g0 4) then a1c2 else CV.int (g0 4)))=W'
  generalize hg' : (if CV.int (g0 7)+a1c0<500 then CV.int (g0 7)+a1c0 else 500)=g'
  have hg'' : CV.int (g0 7)≤g'∧g'≤500:=by rw [← hg'];split<;>omega
  obtain ⟨Z,e2⟩:=H (CV.int (g0 3)) (CV.int (g0 4)) (CV.int (g0 7)) (by omega)
  obtain ⟨Z',e3⟩:=H L' W' g' (by omega)
  rw [e2,ob_some,e3,ob_some]
  have V:=fold7_inv1 Z (Q:=ValOk _) (fun tl k c first second h s hs=>val_step Z h hs) (s:=(CV.str (g0 0),CV.int (g0 7),0,(fun _ _=>.any),0)) ⟨rfl,by show 0≤4;omega⟩
  have V':=fold7_inv1 Z' (Q:=ValOk _) (fun tl k c first second h s hs=>val_step Z' h hs) (s:=(CV.str (g0 0),g',0,(fun _ _=>.any),0)) ⟨rfl,by show 0≤4;omega⟩
  dsimp only
  rw [show ((0:Int) != 0)=false from rfl,bif_t (by rfl),cond_false,bd]
  have big:(CV.int (g0 3)>32768∨CV.int (g0 4)>32768)→(fold7 ⟨CV.str (g0 0),CV.str (g0 1),CV.int (g0 2),CV.int (g0 3),CV.int (g0 4),CV.str (g0 5),CV.len (g0 6),CV.el (g0 6),CV.int (g0 7),n,f⟩ 0 (CV.str (g0 0),CV.int (g0 7),0,(fun _ _=>.any),0)).2.2.1=0:=fun hb =>
   (fold7_inv1 Z (Q:=fun s=>s.2.2.1=0∧s.2.2.2.2=0) (fun tl k c first second h s hs=>none_step Z hb h hs) (s:=(CV.str (g0 0),CV.int (g0 7),0,(fun _ _=>.any),0)) ⟨rfl,rfl⟩).1
  have less:CV.int (g0 3)≤32768→CV.int (g0 4)≤32768→(fold7 ⟨CV.str (g0 0),CV.str (g0 1),CV.int (g0 2),L',W',CV.str (g0 5),CV.len (g0 6),CV.el (g0 6),g',n,f⟩ 0 (CV.str (g0 0),g',0,(fun _ _=>.any),0)).2.2.2.2≤(fold7 ⟨CV.str (g0 0),CV.str (g0 1),CV.int (g0 2),CV.int (g0 3),CV.int (g0 4),CV.str (g0 5),CV.len (g0 6),CV.el (g0 6),CV.int (g0 7),n,f⟩ 0 (CV.str (g0 0),CV.int (g0 7),0,(fun _ _=>.any),0)).2.2.2.2:=by
   intro u1 u2
   have hLL:L'≤CV.int (g0 3):=by rw [← hL',w64_of (by split<;>omega) (by split<;>omega)];split<;>omega
   have hWW:W'≤CV.int (g0 4):=by rw [← hW',w64_of (by split<;>omega) (by split<;>omega)];split<;>omega
   have hl:Lesser ⟨CV.str (g0 0),CV.str (g0 1),CV.int (g0 2),CV.int (g0 3),CV.int (g0 4),CV.str (g0 5),CV.len (g0 6),CV.el (g0 6),CV.int (g0 7),n,f⟩ ⟨CV.str (g0 0),CV.str (g0 1),CV.int (g0 2),L',W',CV.str (g0 5),CV.len (g0 6),CV.el (g0 6),g',n,f⟩:=by
    constructor
    ·rfl
    ·rfl
    ·rfl
    ·rfl
    ·exact hg''.1
    ·exact ⟨hLL,u1⟩
    ·exact ⟨hWW,u2⟩
   refine fold7_inv2 Z ?_ (Q:=fun s s'=>s'.2.2.2.2≤s.2.2.2.2) ?_ (s:=(CV.str (g0 0),CV.int (g0 7),0,(fun _ _=>.any),0)) (s':=(CV.str (g0 0),g',0,(fun _ _=>.any),0)) ?_
   ·rfl
   ·intro tl k c first second h s s' hs
    exact less_step Z Z' hl h hs
   ·exact Int.le_refl _
  have U:=used183 (n:=(fold7 ⟨CV.str (g0 0),CV.str (g0 1),CV.int (g0 2),CV.int (g0 3),CV.int (g0 4),CV.str (g0 5),CV.len (g0 6),CV.el (g0 6),CV.int (g0 7),n,f⟩ 0 (CV.str (g0 0),CV.int (g0 7),0,(fun _ _=>.any),0)).2.2.1) (S:=(fold7 ⟨CV.str (g0 0),CV.str (g0 1),CV.int (g0 2),CV.int (g0 3),CV.int (g0 4),CV.str (g0 5),CV.len (g0 6),CV.el (g0 6),CV.int (g0 7),n,f⟩ 0 (CV.str (g0 0),CV.int (g0 7),0,(fun _ _=>.any),0)).2.2.2.1) hP (Nat.le_trans V.2 (by omega))
  have U':=used183 (n:=(fold7 ⟨CV.str (g0 0),CV.str (g0 1),CV.int (g0 2),L',W',CV.str (g0 5),CV.len (g0 6),CV.el (g0 6),g',n,f⟩ 0 (CV.str (g0 0),g',0,(fun _ _=>.any),0)).2.2.1) (S:=(fold7 ⟨CV.str (g0 0),CV.str (g0 1),CV.int (g0 2),L',W',CV.str (g0 5),CV.len (g0 6),CV.el (g0 6),g',n,f⟩ 0 (CV.str (g0 0),g',0,(fun _ _=>.any),0)).2.2.2.1) hP (Nat.le_trans V'.2 (by omega))
  have v1:=V.1
  have v2:=V'.1
  dsimp only at v1 v2
  generalize fold7 ⟨CV.str (g0 0),CV.str (g0 1),CV.int (g0 2),CV.int (g0 3),CV.int (g0 4),CV.str (g0 5),CV.len (g0 6),CV.el (g0 6),CV.int (g0 7),n,f⟩ 0 (CV.str (g0 0),CV.int (g0 7),0,(fun _ _=>.any),0)=A at *
  generalize fold7 ⟨CV.str (g0 0),CV.str (g0 1),CV.int (g0 2),L',W',CV.str (g0 5),CV.len (g0 6),CV.el (g0 6),g',n,f⟩ 0 (CV.str (g0 0),g',0,(fun _ _=>.any),0)=B at *
  by_cases c5:CV.int (g0 3)>32768
  ·rw [if_pos c5,big (.inl c5)];rfl
  rw [if_neg c5]
  by_cases c6:CV.int (g0 4)>32768
  ·rw [bif_t (decide_eq_true c6),big (.inr c6)];rfl
  rw [bif_f (decide_eq_false c6),U',ob_some,U,ob_some]
  have hl:=less (by omega) (by omega)
  rw [v1,v2] at hl
  rw [decide_eq_true hl];rfl
end Go.Eng.R13
