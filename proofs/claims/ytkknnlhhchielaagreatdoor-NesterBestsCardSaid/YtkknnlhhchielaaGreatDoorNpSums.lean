/-
 Several texts in one.
-/
import Derived.KernelRfl
import Derived.Test.YtkknnlhhchielaaGreatDoorEngU
import Derived.Test.YtkknnlhhchielaaGreatDoorEngV
import Derived.Test.YtkknnlhhchielaaGreatDoorEngX0
import Derived.Test.YtkknnlhhchielaaGreatDoorNsTurns
import Derived.Test.YtkknnlhhchielaaGreatDoorPlRev
import Derived.Test.YtkknnlhhchielaaGreatDoorPlRev
import Derived.Test.YtkknnlhhchielaaGreatDoorPlRev
import Derived.Test.YtkknnlhhchielaaGreatDoorPlRev
import Derived.Test.YtkknnlhhchielaaGreatDoorPlRev
import Derived.Test.YtkknnlhhchielaaGreatDoorPlRev
import Derived.Test.YtkknnlhhchielaaGreatDoorPlRev
/-
 Bounds of a list of points (out of PlSums).
-/
set_option linter.all false
namespace Go.Eng.R13
open Go Go.RowKit Go.Eng
theorem dw (n:Nat) (f g:Nat->Nat->CV) (j c:Nat) (h:j<n):aB n f g j c=f j c:=by
 unfold aB
 rw [ae (by simpa [Nat.blt_eq] using h)]
theorem dk (n:Nat) (f g:Nat->Nat->CV) (j c:Nat) (h:n<=j):aB n f g j c=g (j-n) c:=by
 unfold aB
 rw [ai]
 cases hq:Nat.blt j n with
 | false=>rfl
 | true=>simp [Nat.blt_eq] at hq;omega
def Col (f:Nat->Nat->CV) (c:Nat) (g:Nat->Nat->CV) (i:Nat):Prop:=∀ j,j<i->(g j 0).int=(f j c).int
theorem Col.snoc {f g:Nat->Nat->CV} {c i:Nat} (h:Col f c g i):Col f c (aB i g (aG 1 [.i .i64 ((f i c).int)])) (i+1):=by
 intro j hj
 by_cases e:j=i
 ·subst e
  rw [dk _ _ _ _ _ (rkZ j),Nat.sub_self];rfl
 ·rw [dw _ _ _ _ _ (by omega)]
  exact h j (by omega)
theorem WQ {ρ:Type} (n:Nat) (f:Nat->Nat->CV) (hn:n<=60) (k:Nat->(Nat->Nat->CV)->(Nat->Nat->CV)->Option ρ):∀ (m i:Nat) (g h:Nat->Nat->CV),n<m+i->i<=n->Col f 0 g i->Col f 1 h i ->
  ∃ g' h',vh 100 n f (Int.ofNat n) m i (Int.ofNat i) g h k=k n g' h'/\Col f 0 g' n/\Col f 1 h' n:=by
 intro m
 induction m with
 | zero=>intro i g h h1 h2;omega
 | succ m ih =>
  intro i g h h1 h2 hg hh
  unfold vh
  rw [aE,ax,aq]
  by_cases hlt:i<n
  ·rw [ae (qcZ hlt),ae (qcZ hlt),ay (by omega),ae (by rw [Nat.ble_eq];omega),ae (by rw [Nat.ble_eq];omega)]
   exact ih (i+1) _ _ (by omega) (by omega) hg.snoc hh.snoc
  ·rw [ai (qeZ hlt)]
   have:i=n:=by omega
   subst this
   exact ⟨g,h,rfl,hg,hh⟩
def Ext (z:Int) (g:Nat->Nat->CV) (i:Nat) (a b:Int):Prop :=
 (a<=z/\z<=b/\∀ j,j<i->a<=(g j 0).int/\(g j 0).int<=b)/\(a=z\/∃ j,j<i/\(g j 0).int=a)/\(b=z\/∃ j,j<i/\(g j 0).int=b)
theorem YC {ρ:Type} (n:Nat) (z:Int) (g:Nat->Nat->CV) (hn:n<=60) (k:Int->Int->Option ρ):∀ (m i:Nat) (a b:Int),n<m+i->i<=n->Ext z g i a b->∃ a' b',vc 100 n g (Int.ofNat n) m a b (Int.ofNat i) k=k a' b'/\Ext z g n a' b':=by
 intro m
 induction m with
 | zero=>intro i a b h1 h2;omega
 | succ m ih =>
  intro i a b h1 h2 hE
  unfold vc
  rw [aE,ax,aq]
  by_cases hlt:i<n
  ·rw [ae (qcZ hlt),ae (qcZ hlt),ay (by omega)]
   refine ih (i+1) _ _ (by omega) (by omega) ?_
   obtain ⟨⟨e1,e2,e3⟩,e4,e5⟩:=hE
   refine ⟨⟨by split<;>omega,by split<;>omega,fun j hj=>?_⟩,?_,?_⟩
   ·by_cases e:j=i
    ·rw [e];constructor<;>split<;>omega
    ·have:=e3 j (by omega)
     constructor<;>split<;>omega
   ·by_cases e:(g i 0).int<a
    ·rw [if_pos e];exact .inr ⟨i,by omega,rfl⟩
    ·rw [if_neg e]
     rcases e4 with h | ⟨j,h,h'⟩
     ·exact .inl h
     ·exact .inr ⟨j,by omega,h'⟩
   ·by_cases e:(g i 0).int>b
    ·rw [if_pos e];exact .inr ⟨i,by omega,rfl⟩
    ·rw [if_neg e]
     rcases e5 with h | ⟨j,h,h'⟩
     ·exact .inl h
     ·exact .inr ⟨j,by omega,h'⟩
  ·rw [ai (qeZ hlt)]
   have:i=n:=by omega
   subst this
   exact ⟨a,b,rfl,hE⟩
theorem Je (n:Nat) (z:Int) (g:Nat->Nat->CV) (hn:n<=60):∃ a b,F72 100 z n g=some (a,b)/\Ext z g n a b:=by
 unfold F72
 exact YC n z g hn _ 100 0 z z (by omega) (by omega) ⟨⟨Int.le_refl _,Int.le_refl _,fun j hj=>by omega⟩,.inl rfl,.inl rfl⟩
theorem Bds.unique {f:Nat->Nat->CV} {n:Nat} {a b c d a' b' c' d' : Int} (hn:0<n) (h:Bds f n a b c d) (h' : Bds f n a' b' c' d'):a=a'/\b=b'/\c=c'/\d=d':=by
 obtain ⟨h1,h2⟩:=h
 obtain ⟨⟨j1,k1,e1⟩,⟨j2,k2,e2⟩,⟨j3,k3,e3⟩,⟨j4,k4,e4⟩⟩:=h2 hn
 obtain ⟨g1,g2⟩:=h'
 obtain ⟨⟨i1,l1,m1⟩,⟨i2,l2,m2⟩,⟨i3,l3,m3⟩,⟨i4,l4,m4⟩⟩:=g2 hn
 have p1:=h1 i1 l1
 have p2:=h1 i2 l2
 have p3:=h1 i3 l3
 have p4:=h1 i4 l4
 have q1:=g1 j1 k1
 have q2:=g1 j2 k2
 have q3:=g1 j3 k3
 have q4:=g1 j4 k4
 exact ⟨by omega,by omega,by omega,by omega⟩
theorem FJ (n:Nat) (f:Nat->Nat->CV) (hn:n<=60):∃ p q r s,F46 100 n f=some (p,q,r,s)/\(0<n->Bds f n p q r s)/\(n=0->p=0/\q=0/\r=0/\s=0):=by
 unfold F46
 by_cases h0:n=0
 ·subst h0
  exact ⟨0,0,0,0,rfl,fun h=>by omega,fun _=>⟨rfl,rfl,rfl,rfl⟩⟩
 ·rw [ai (by simp;omega)]
  obtain ⟨g,h,e1,hg,hh⟩:=WQ n f hn (fun x16 x17 x18=>(bif (inb 0 x16) then (ob (F72 100 ((x17 0 0).int) x16 x17) fun x19=>(bif (inb 0 x16) then (ob (F72 100 ((x18 0 0).int) x16 x18) fun x20=>(some (x19.1,x20.1,x19.2,x20.2))) else none)) else none)) 100 0 (fun _ _=>.any) (fun _ _=>.any) (by omega) (by omega) (fun j hj=>by omega) (fun j hj=>by omega)
  obtain ⟨a,b,e2,E2⟩:=Je n ((g 0 0).int) g hn
  obtain ⟨c,d,e3,E3⟩:=Je n ((h 0 0).int) h hn
  refine ⟨a,c,b,d,e1.trans ?_,fun _=>?_,fun h=>absurd h h0⟩
  ·rw [ae (dx (by omega) (by omega)),e2,aa,ae (dx (by omega) (by omega)),e3,aa]
  ·obtain ⟨⟨_,_,x1⟩,x2,x3⟩:=E2
   obtain ⟨⟨_,_,y1⟩,y2,y3⟩:=E3
   have hn0:0<n:=by omega
   refine ⟨fun j hj=>?_,fun _=>⟨?_,?_,?_,?_⟩⟩
   ·have p:=x1 j hj
    have q:=y1 j hj
    rw [hg j hj] at p
    rw [hh j hj] at q
    exact ⟨p.1,q.1,p.2,q.2⟩
   ·rcases x2 with h | ⟨j,hj,h⟩
    ·exact ⟨0,hn0,by rw [h,hg 0 hn0]⟩
    ·exact ⟨j,hj,by rw [<- hg j hj,h]⟩
   ·rcases y2 with h | ⟨j,hj,h⟩
    ·exact ⟨0,hn0,by rw [h,hh 0 hn0]⟩
    ·exact ⟨j,hj,by rw [<- hh j hj,h]⟩
   ·rcases x3 with h | ⟨j,hj,h⟩
    ·exact ⟨0,hn0,by rw [h,hg 0 hn0]⟩
    ·exact ⟨j,hj,by rw [<- hg j hj,h]⟩
   ·rcases y3 with h | ⟨j,hj,h⟩
    ·exact ⟨0,hn0,by rw [h,hh 0 hn0]⟩
    ·exact ⟨j,hj,by rw [<- hh j hj,h]⟩
theorem Da (n1:Nat) (f1:Nat->Nat->CV) (n2:Nat) (f2:Nat->Nat->CV) (hn:n1<=40):∃ p,F20 100 n1 f1 n2 f2=some p/\F21 100 n1 f1 n2 f2=some p:=by
 obtain ⟨p,q,r,s,h1,h2,h3⟩:=FJ n1 f1 (by omega)
 have e20:F20 100 n1 f1 n2 f2=some (p,q,r,s):=by
  unfold F20
  rw [h1,aa]
 by_cases h0:n1=0
 ·obtain ⟨rfl,rfl,rfl,rfl⟩:=h3 h0
  subst h0
  exact ⟨_,e20,rfl⟩
 ·obtain ⟨p',q',r',s',h4,h5⟩:=sQ n1 n2 f1 f2 hn
  obtain ⟨rfl,rfl,rfl,rfl⟩:=Bds.unique (by omega) (h2 (by omega)) (h5 (by omega))
  exact ⟨_,e20,h4⟩
theorem eo (u:Nat) (n a b:Int):d8 u n a b=some (decide (a<=n)&&decide (n<=b)):=by
 unfold d8
 by_cases h:a<=n
 ·rw [ae (by simpa using h),qcZ h,Bool.true_and]
 ·rw [ai (by simpa using h),qeZ h,Bool.false_and]
theorem rn (u:Nat) (x y:Int) (c:Int) (hc:0<=c/\c<=9223372036854775807):rI u x y c=some (decide (-c<=x/\x<=c/\-c<=y/\y<=c)):=by
 unfold rI
 rw [show w64 (0-c) = -c from by rw [Int.zero_sub];exact aC (by omega) (by omega)]
 by_cases h1:x>=-c
 ·rw [ae (by simpa using h1)]
  by_cases h2:x<=c
  ·rw [ae (by simpa using h2)]
   by_cases h3:y>=-c
   ·rw [ae (by simpa using h3)]
    refine congrArg some ?_
    by_cases h4:y<=c
    ·rw [qcZ h4,qcZ ⟨h1,h2,h3,h4⟩]
    ·rw [qeZ h4,qeZ (by omega)]
   ·rw [ai (by simpa using h3),qeZ (by omega)]
  ·rw [ai (by simpa using h2),qeZ (by omega)]
 ·rw [ai (by simpa using h1),qeZ (by omega)]
def Nr4 (a b c d:Int):Prop:=(-1099511627776<=a/\a<=1099511627776)/\(-1099511627776<=b/\b<=1099511627776)/\(-1099511627776<=c/\c<=1099511627776)/\(-1099511627776<=d/\d<=1099511627776)
instance (a b c d:Int):Decidable (Nr4 a b c d):=by unfold Nr4;infer_instance
theorem X2 {ρ:Type} (t a b c d:Int) (k0 k1:Option ρ) (u m:Nat):eF u t a b c d (m+5) 0 k0 k1=if Nr4 a b c d then k1 else k0:=by
 have e:∀ (z:Int) (x y:Option ρ),(ob (d8 u z (-1099511627776) 1099511627776) fun q=>bif !q then x else y)=if (-1099511627776<=z/\z<=1099511627776) then y else x:=by
  intro z x y
  rw [eo,aa]
  by_cases h:(-1099511627776<=z/\z<=1099511627776)
  ·rw [if_pos h,ai (by simp [h.1,h.2])]
  ·rw [if_neg h,ae (by simp only [Bool.not_eq_true',Bool.and_eq_false_iff,decide_eq_false_iff_not];omega)]
 have w1:w64 (0+1)=1:=by decide
 have w2:w64 (1+1)=2:=by decide
 have w3:w64 (2+1)=3:=by decide
 have w4:w64 (3+1)=4:=by decide
 unfold eF
 rw [ae (by decide),ae (by decide),w1,e]
 unfold eF
 rw [ae (by decide),ai (by decide),ae (by decide),w2,e]
 unfold eF
 rw [ae (by decide),ai (by decide),ai (by decide),ae (by decide),w3,e]
 unfold eF
 rw [ae (by decide),ai (by decide),ai (by decide),ai (by decide),ae (by decide),w4,e]
 unfold eF
 rw [ai (by decide)]
 split
 ·split
  ·split
   ·split
    ·rename_i h1 h2 h3 h4;rw [if_pos (show Nr4 a b c d from ⟨h1,h2,h3,h4⟩)]
    ·rename_i h1;rw [if_neg (fun h:Nr4 a b c d=>h1 h.2.2.2)]
   ·rename_i h1;rw [if_neg (fun h:Nr4 a b c d=>h1 h.2.2.1)]
  ·rename_i h1;rw [if_neg (fun h:Nr4 a b c d=>h1 h.2.1)]
 ·rename_i h1;rw [if_neg (fun h:Nr4 a b c d=>h1 h.1)]
def szB (t a b c d:Int):Int × Int :=
 if Nr4 a b c d then (if Int.tmod t 2=0 then (c-a,d-b) else (d-b,c-a)) else (0,0)
theorem AQ (x:Nat->CV) (t:Int) (hn:(x 6).len<=40):∃ p:Int × Int × Int × Int,F20 100 ((x 6).len) ((x 6).el) ((x 7).len) ((x 7).el)=some p /\
  lG 100 x t=some (szB t p.1 p.2.1 p.2.2.1 p.2.2.2):=by
 obtain ⟨p,h1,h2⟩:=Da ((x 6).len) ((x 6).el) ((x 7).len) ((x 7).el) hn
 refine ⟨p,h1,?_⟩
 unfold lG szB
 rw [h1,aa,X2 _ _ _ _ _ _ _ 100 95]
 by_cases h:Nr4 p.1 p.2.1 p.2.2.1 p.2.2.2
 ·obtain ⟨q1,q2,q3,q4⟩:=id h
  rw [if_pos h,if_pos h,aC (by omega) (by omega),aC (by omega) (by omega)]
  by_cases ht:Int.tmod t 2=0
  ·rw [if_pos ht,ai (by simp [ht])]
  ·rw [if_neg ht,ae (by simp [ht])]
 ·rw [if_neg h,if_neg h]
theorem JU (x:Nat->CV) (t:Int) (hn:(x 6).len<=40):∃ p,lG 100 x t=some p/\s9 100 x t=some p:=by
 obtain ⟨p,h1,h2⟩:=Da ((x 6).len) ((x 6).el) ((x 7).len) ((x 7).el) hn
 obtain ⟨p',h1',h3⟩:=AQ x t hn
 cases h1.symm.trans h1'
 refine ⟨_,h3,?_⟩
 unfold s9 szB
 rw [h2,aa,rn _ _ _ _ (by omega),aa]
 by_cases h:Nr4 p.1 p.2.1 p.2.2.1 p.2.2.2
 ·obtain ⟨q1,q2,q3,q4⟩:=id h
  rw [ae (by simp;omega),rn _ _ _ _ (by omega),aa,ai (by simp;omega),if_pos h,aC (by omega) (by omega),aC (by omega) (by omega)]
  by_cases ht:Int.tmod t 2=0
  ·rw [if_pos ht,ai (by simp [ht])]
  ·rw [if_neg ht,ae (by simp [ht])]
 ·rw [if_neg h]
  by_cases h5:(-1099511627776<=p.1/\p.1<=1099511627776/\-1099511627776<=p.2.1/\p.2.1<=1099511627776)
  ·rw [ae (by simp;omega),rn _ _ _ _ (by omega),aa,ae (by unfold Nr4 at h;simp;omega)]
  ·rw [ai (by simp;omega)]
abbrev bx (r:FF) (j c:Nat):Int:=(r j c).int
def Apt (lx ly hx hy x y l w g:Int):Prop:=¬ (x<hx+g/\lx<x+l+g/\y<hy+g/\ly<y+w+g)
def rH (len wid x y l w gap:Int):Prop:=(0<=len/\len<=32768)/\(0<=wid/\wid<=32768)/\(0<=gap/\gap<=500)/\(1<=l/\l<=32768)/\(1<=w/\w<=32768)/\(-32768<=x/\x<=32768)/\(-32768<=y/\y<=32768)
def FIn (len wid x y l w gap:Int):Prop:=gap<=x/\gap<=y/\x+l<=len-gap/\y+w<=wid-gap
abbrev gG (gap:Int):Int:=if 1>gap then 1 else gap
def NrJ (r:FF) (j:Nat):Prop:=Nr4 (bx r j 0) (bx r j 1) (bx r j 2) (bx r j 3)
def oq (r:FF) (x y l w g:Int) (j:Nat):Prop:=Apt (bx r j 0) (bx r j 1) (bx r j 2) (bx r j 3) x y l w g
def en (len wid:Int) (n:Nat) (r:FF) (x y l w gap:Int):Prop :=
 rH len wid x y l w gap/\(∀ j,j<n->NrJ r j)/\FIn len wid x y l w gap/\∀ j,j<n->oq r x y l w (gG gap) j
theorem X1 {ρ:Type} (len wid:Int) (n:Nat) (r:FF) (l w gap N i x y a b c d:Int) (k0 k1:Option ρ) (u m:Nat):eE u len wid n r l w gap N i a b c d x y (m+5) 0 k0 k1=if Nr4 a b c d then k1 else k0:=by
 have e:∀ (z:Int) (x y:Option ρ),(ob (d8 u z (-1099511627776) 1099511627776) fun q=>bif !q then x else y)=if (-1099511627776<=z/\z<=1099511627776) then y else x:=by
  intro z x y
  rw [eo,aa]
  by_cases h:(-1099511627776<=z/\z<=1099511627776)
  ·rw [if_pos h,ai (by simp [h.1,h.2])]
  ·rw [if_neg h,ae (by simp only [Bool.not_eq_true',Bool.and_eq_false_iff,decide_eq_false_iff_not];omega)]
 have w1:w64 (0+1)=1:=by decide
 have w2:w64 (1+1)=2:=by decide
 have w3:w64 (2+1)=3:=by decide
 have w4:w64 (3+1)=4:=by decide
 unfold eE
 rw [ae (by decide),ae (by decide),w1,e]
 unfold eE
 rw [ae (by decide),ai (by decide),ae (by decide),w2,e]
 unfold eE
 rw [ae (by decide),ai (by decide),ai (by decide),ae (by decide),w3,e]
 unfold eE
 rw [ae (by decide),ai (by decide),ai (by decide),ai (by decide),ae (by decide),w4,e]
 unfold eE
 rw [ai (by decide)]
 split
 ·split
  ·split
   ·split
    ·rename_i h1 h2 h3 h4;rw [if_pos (show Nr4 a b c d from ⟨h1,h2,h3,h4⟩)]
    ·rename_i h1;rw [if_neg (fun h:Nr4 a b c d=>h1 h.2.2.2)]
   ·rename_i h1;rw [if_neg (fun h:Nr4 a b c d=>h1 h.2.2.1)]
  ·rename_i h1;rw [if_neg (fun h:Nr4 a b c d=>h1 h.2.1)]
 ·rename_i h1;rw [if_neg (fun h:Nr4 a b c d=>h1 h.1)]
theorem V8 {ρ:Type} (len wid:Int) (n:Nat) (r:FF) (l w gap x y:Int) (k0 k1:Option ρ) (hn:n<=60):∀ (m i:Nat),n<m+i->i<=n ->
  (mc 100 len wid n r l w gap (Int.ofNat n) x y m (Int.ofNat i) k0 k1=k1/\∀ j,i<=j->j<n->NrJ r j)\/(mc 100 len wid n r l w gap (Int.ofNat n) x y m (Int.ofNat i) k0 k1=k0/\∃ j,j<n/\¬ NrJ r j):=by
 intro m
 induction m with
 | zero=>intro i h1 h2;omega
 | succ m ih =>
  intro i h1 h2
  unfold mc
  rw [aE,ax,aq]
  by_cases h:i<n
  ·rw [ae (qcZ h),ae (qcZ h),X1 _ _ _ _ _ _ _ _ _ _ _ _ _ _ _ _ _ 100 95,ay (by omega)]
   by_cases hq:Nr4 ((r i 0).int) ((r i 1).int) ((r i 2).int) ((r i 3).int)
   ·rw [if_pos hq]
    rcases ih (i+1) (by omega) (by omega) with ⟨e,hh⟩ | h3
    ·refine .inl ⟨e,fun j h5 h6=>?_⟩
     by_cases hj:j=i
     ·subst hj;exact hq
     ·exact hh j (by omega) h6
    ·exact .inr h3
   ·rw [if_neg hq];exact .inr ⟨rfl,i,h,hq⟩
  ·rw [ai (qeZ h)];exact .inl ⟨rfl,fun j h5 h6=>by omega⟩
theorem WV {ρ:Type} (n:Nat) (r:FF) (l w g x y:Int) (k0 k1:Option ρ) (hn:n<=60) (hN:∀ j,j<n->NrJ r j) (hg:1<=g/\g<=500) (hl:1<=l/\l<=32768) (hw:1<=w/\w<=32768) (hx : -32768<=x/\x<=32768) (hy : -32768<=y/\y<=32768):∀ (m i:Nat),n<m+i->i<=n ->
  (ek 100 l w g n r (Int.ofNat n) x y m (Int.ofNat i) k0 k1=k1/\∀ j,i<=j->j<n->oq r x y l w g j)\/(ek 100 l w g n r (Int.ofNat n) x y m (Int.ofNat i) k0 k1=k0/\∃ j,j<n/\¬ oq r x y l w g j):=by
 intro m
 induction m with
 | zero=>intro i h1 h2;omega
 | succ m ih =>
  intro i h1 h2
  unfold ek
  rw [aE,ax,aq]
  by_cases h:i<n
  ·obtain ⟨q1,q2,q3,q4⟩:=hN i h
   simp only [bx] at q1 q2 q3 q4
   rw [ae (qcZ h),ae (qcZ h),ay (by omega),aC (n:=(r i 2).int+g) (by omega) (by omega),aC (n:=(r i 3).int+g) (by omega) (by omega),aC (n:=x+l) (by omega) (by omega),aC (n:=y+w) (by omega) (by omega),aC (n:=x+l+g) (by omega) (by omega),aC (n:=y+w+g) (by omega) (by omega)]
   have go:oq r x y l w g i->(ek 100 l w g n r (Int.ofNat n) x y m (Int.ofNat (i+1)) k0 k1=k1/\∀ j,i<=j->j<n->oq r x y l w g j)\/(ek 100 l w g n r (Int.ofNat n) x y m (Int.ofNat (i+1)) k0 k1=k0/\∃ j,j<n/\¬ oq r x y l w g j):=by
    intro hq
    rcases ih (i+1) (by omega) (by omega) with ⟨e,hh⟩ | h3
    ·refine .inl ⟨e,fun j h5 h6=>?_⟩
     by_cases hj:j=i
     ·subst hj;exact hq
     ·exact hh j (by omega) h6
    ·exact .inr h3
   by_cases c1:x<(r i 2).int+g
   ·rw [ae (by simpa using c1)]
    by_cases c2:x+l+g>(r i 0).int
    ·rw [ae (by simpa using c2)]
     by_cases c3:y<(r i 3).int+g
     ·rw [ae (by simpa using c3)]
      by_cases c4:y+w+g>(r i 1).int
      ·rw [ae (by simpa using c4)];exact .inr ⟨rfl,i,h,fun hq=>hq ⟨c1,c2,c3,c4⟩⟩
      ·rw [ai (by simpa using c4)];exact go fun hq=>c4 hq.2.2.2
     ·rw [ai (by simpa using c3)];exact go fun hq=>c3 hq.2.2.1
    ·rw [ai (by simpa using c2)];exact go fun hq=>c2 hq.2.1
   ·rw [ai (by simpa using c1)];exact go fun hq=>c1 hq.1
  ·rw [ai (qeZ h)];exact .inl ⟨rfl,fun j h5 h6=>by omega⟩
theorem bi {ρ:Type} (u:Nat) (z a b:Int) (x y:Option ρ):(ob (d8 u z a b) fun q=>bif (!q)==false then x else y)=if (a<=z/\z<=b) then x else y:=by
 have e:(decide (a<=z)&&decide (z<=b))=decide (a<=z/\z<=b):=by simp
 rw [eo,aa,e]
 by_cases h:(a<=z/\z<=b)
 ·rw [if_pos h,qcZ h];rfl
 ·rw [if_neg h,qeZ h];rfl
theorem Kv (len wid:Int) (n:Nat) (r:FF) (x y l w gap:Int) (hn:n<=60) (hL:rH len wid x y l w gap) (hN:∀ j,j<n->NrJ r j):∃ b,(bif ((decide (x<gap))==false) then (bif ((decide (y<gap))==false) then (bif ((decide ((w64 (x+l))>(w64 (len-gap))))==false) then (bif (decide ((w64 (y+w))>(w64 (wid-gap)))) then (some false) else (ek 100 l w (if 1>gap then 1 else gap) n r (Int.ofNat n) x y 100 0 (some false) (some true))) else (some false)) else (some false)) else (some false))=some b/\(b=true↔FIn len wid x y l w gap/\∀ j,j<n->oq r x y l w (gG gap) j):=by
 obtain ⟨c1,c2,c3,c4,c5,c6,c7⟩:=hL
 have hg:1<=gG gap/\gG gap<=500:=by unfold gG;split<;>omega
 rw [aC (n:=x+l) (by omega) (by omega),aC (n:=y+w) (by omega) (by omega),aC (n:=len-gap) (by omega) (by omega),aC (n:=wid-gap) (by omega) (by omega)]
 have no:∀ (P Q:Prop),¬ P->∃ b,some false=some b/\(b=true↔P/\Q):=fun P Q h=>⟨false,rfl,by simp only [Bool.false_eq_true,false_iff];exact fun q=>h q.1⟩
 by_cases d1:x<gap
 ·rw [qcZ d1];exact no _ _ fun h=>by have:=h.1;omega
 rw [qeZ d1,ae (by rfl)]
 by_cases d2:y<gap
 ·rw [qcZ d2];exact no _ _ fun h=>by have:=h.2.1;omega
 rw [qeZ d2,ae (by rfl)]
 by_cases d3:x+l>len-gap
 ·rw [qcZ d3];exact no _ _ fun h=>by have:=h.2.2.1;omega
 rw [qeZ d3,ae (by rfl)]
 by_cases d4:y+w>wid-gap
 ·rw [ae (qcZ d4)];exact no _ _ fun h=>by have:=h.2.2.2;omega
 rw [ai (qeZ d4)]
 rcases WV n r l w (gG gap) x y (some false) (some true) hn hN hg c4 c5 c6 c7 100 0 (by omega) (by omega) with ⟨e,hA⟩ | ⟨e,j,hj,hq⟩
 ·exact ⟨true,e,by simp only [true_iff];exact ⟨⟨by omega,by omega,by omega,by omega⟩,fun j hj=>hA j (by omega) hj⟩⟩
 ·exact ⟨false,e,by simp only [Bool.false_eq_true,false_iff];exact fun q=>hq (q.2 j hj)⟩
theorem Fs (len wid:Int) (n:Nat) (r:FF) (x y l w gap:Int) (hn:n<=60):∃ b,Eb 100 len wid n r x y l w gap=some b/\(b=true↔en len wid n r x y l w gap):=by
 have no:∀ (P Q:Prop),¬ P->∃ b,some false=some b/\(b=true↔P/\Q):=fun P Q h=>⟨false,rfl,by simp only [Bool.false_eq_true,false_iff];exact fun q=>h q.1⟩
 unfold Eb en
 rw [bi]
 by_cases c1:0<=len/\len<=32768
 case neg=>rw [if_neg c1];exact no _ _ fun h=>c1 h.1
 rw [if_pos c1,bi]
 by_cases c2:0<=wid/\wid<=32768
 case neg=>rw [if_neg c2];exact no _ _ fun h=>c2 h.2.1
 rw [if_pos c2,bi]
 by_cases c3:0<=gap/\gap<=500
 case neg=>rw [if_neg c3];exact no _ _ fun h=>c3 h.2.2.1
 rw [if_pos c3,bi]
 by_cases c4:1<=l/\l<=32768
 case neg=>rw [if_neg c4];exact no _ _ fun h=>c4 h.2.2.2.1
 rw [if_pos c4,bi]
 by_cases c5:1<=w/\w<=32768
 case neg=>rw [if_neg c5];exact no _ _ fun h=>c5 h.2.2.2.2.1
 rw [if_pos c5,bi]
 by_cases c6 : -32768<=x/\x<=32768
 case neg=>rw [if_neg c6];exact no _ _ fun h=>c6 h.2.2.2.2.2.1
 rw [if_pos c6,eo,aa]
 by_cases c7 : -32768<=y/\y<=32768
 case neg=>rw [ae (by simp only [Bool.not_eq_true',Bool.and_eq_false_iff,decide_eq_false_iff_not];omega)];exact no _ _ fun h=>c7 h.2.2.2.2.2.2
 rw [ai (by simp [c7.1,c7.2])]
 have hL:rH len wid x y l w gap:=⟨c1,c2,c3,c4,c5,c6,c7⟩
 rcases V8 len wid n r l w gap x y (some false) (bif ((decide (x<gap))==false) then (bif ((decide (y<gap))==false) then (bif ((decide ((w64 (x+l))>(w64 (len-gap))))==false) then (bif (decide ((w64 (y+w))>(w64 (wid-gap)))) then (some false) else (ek 100 l w (if 1>gap then 1 else gap) n r (Int.ofNat n) x y 100 0 (some false) (some true))) else (some false)) else (some false)) else (some false)) hn 100 0 (by omega) (by omega) with ⟨e,hN⟩ | ⟨e,j,hj,hq⟩
 ·obtain ⟨b,e2,hb⟩:=Kv len wid n r x y l w gap hn hL fun j hj=>hN j (by omega) hj
  exact ⟨b,e.trans e2,hb.trans ⟨fun h=>⟨hL,fun j hj=>hN j (by omega) hj,h.1,h.2⟩,fun h=>⟨h.2.2.1,h.2.2.2⟩⟩⟩
 ·exact ⟨_,e,by simp only [Bool.false_eq_true,false_iff];exact fun h=>hq (h.2.1 j hj)⟩
theorem X3 {ρ:Type} (u:Nat) (a b c:Int) (hc:0<=c/\c<=9223372036854775807) (x y:Option ρ):(ob (rI u a b c) fun q=>bif (!q)==false then x else y)=if (-c<=a/\a<=c/\-c<=b/\b<=c) then x else y:=by
 rw [rn u a b c hc,aa]
 by_cases h:(-c<=a/\a<=c/\-c<=b/\b<=c)
 ·rw [if_pos h,qcZ h];rfl
 ·rw [if_neg h,qeZ h];rfl
theorem DP {ρ:Type} (u:Nat) (a b c:Int) (hc:0<=c/\c<=9223372036854775807) (x y:Option ρ):(ob (rI u a b c) fun q=>bif !q then x else y)=if (-c<=a/\a<=c/\-c<=b/\b<=c) then y else x:=by
 rw [rn u a b c hc,aa]
 by_cases h:(-c<=a/\a<=c/\-c<=b/\b<=c)
 ·rw [if_pos h,qcZ h];rfl
 ·rw [if_neg h,qeZ h];rfl
theorem WU {ρ:Type} (n:Nat) (r:FF) (l w g x y:Int) (k0 k1:Option ρ) (hn:n<=60) (hg:1<=g/\g<=500) (hl:1<=l/\l<=32768) (hw:1<=w/\w<=32768) (hx : -32768<=x/\x<=32768) (hy : -32768<=y/\y<=32768):∀ (m i:Nat),n<m+i->i<=n ->
  (eV 100 n r l w g x y m (Int.ofNat i) k0 k1=k1/\∀ j,i<=j->j<n->NrJ r j/\oq r x y l w g j)\/(eV 100 n r l w g x y m (Int.ofNat i) k0 k1=k0/\∃ j,j<n/\¬ (NrJ r j/\oq r x y l w g j)):=by
 intro m
 induction m with
 | zero=>intro i h1 h2;omega
 | succ m ih =>
  intro i h1 h2
  unfold eV
  rw [aE,ax,aq]
  by_cases h:i<n
  ·rw [ae (qcZ h),ae (qcZ h),X3 _ _ _ _ (by omega),DP _ _ _ _ (by omega)]
   by_cases a1:(-1099511627776<=(r i 0).int/\(r i 0).int<=1099511627776/\-1099511627776<=(r i 1).int/\(r i 1).int<=1099511627776)
   case neg=>rw [if_neg a1];exact .inr ⟨rfl,i,h,fun q=>a1 ⟨q.1.1.1,q.1.1.2,q.1.2.1.1,q.1.2.1.2⟩⟩
   by_cases a2:(-1099511627776<=(r i 2).int/\(r i 2).int<=1099511627776/\-1099511627776<=(r i 3).int/\(r i 3).int<=1099511627776)
   case neg=>rw [if_pos a1,if_neg a2];exact .inr ⟨rfl,i,h,fun q=>a2 ⟨q.1.2.2.1.1,q.1.2.2.1.2,q.1.2.2.2.1,q.1.2.2.2.2⟩⟩
   have hq:NrJ r i:=⟨⟨a1.1,a1.2.1⟩,⟨a1.2.2.1,a1.2.2.2⟩,⟨a2.1,a2.2.1⟩,⟨a2.2.2.1,a2.2.2.2⟩⟩
   rw [if_pos a1,if_pos a2,ay (by omega),aC (n:=(r i 2).int+g) (by omega) (by omega),aC (n:=(r i 3).int+g) (by omega) (by omega),aC (n:=x+l) (by omega) (by omega),aC (n:=y+w) (by omega) (by omega),aC (n:=x+l+g) (by omega) (by omega),aC (n:=y+w+g) (by omega) (by omega)]
   have go:oq r x y l w g i->(eV 100 n r l w g x y m (Int.ofNat (i+1)) k0 k1=k1/\∀ j,i<=j->j<n->NrJ r j/\oq r x y l w g j)\/(eV 100 n r l w g x y m (Int.ofNat (i+1)) k0 k1=k0/\∃ j,j<n/\¬ (NrJ r j/\oq r x y l w g j)):=by
    intro hq2
    rcases ih (i+1) (by omega) (by omega) with ⟨e,hh⟩ | h3
    ·refine .inl ⟨e,fun j h5 h6=>?_⟩
     by_cases hj:j=i
     ·subst hj;exact ⟨hq,hq2⟩
     ·exact hh j (by omega) h6
    ·exact .inr h3
   by_cases c1:x<(r i 2).int+g
   ·rw [ae (by simpa using c1)]
    by_cases c2:x+l+g>(r i 0).int
    ·rw [ae (by simpa using c2)]
     by_cases c3:y<(r i 3).int+g
     ·rw [ae (by simpa using c3)]
      by_cases c4:y+w+g>(r i 1).int
      ·rw [ae (by simpa using c4)];exact .inr ⟨rfl,i,h,fun hq=>hq.2 ⟨c1,c2,c3,c4⟩⟩
      ·rw [ai (by simpa using c4)];exact go fun hq=>c4 hq.2.2.2
     ·rw [ai (by simpa using c3)];exact go fun hq=>c3 hq.2.2.1
    ·rw [ai (by simpa using c2)];exact go fun hq=>c2 hq.2.1
   ·rw [ai (by simpa using c1)];exact go fun hq=>c1 hq.1
  ·rw [ai (qeZ h)];exact .inl ⟨rfl,fun j h5 h6=>by omega⟩
theorem bd {ρ:Type} (P:Prop) [Decidable P] (x y:ρ):(bif decide P==false then x else y)=if P then y else x:=by
 by_cases h:P
 ·rw [qcZ h,if_pos h];rfl
 ·rw [qeZ h,if_neg h];rfl
theorem Fr (len wid:Int) (n:Nat) (r:FF) (x y l w gap:Int) (hn:n<=60):∃ b,BW 100 len wid n r x y l w gap=some b/\(b=true↔en len wid n r x y l w gap):=by
 have no:∀ (P Q:Prop),¬ P->∃ b,some false=some b/\(b=true↔P/\Q):=fun P Q h=>⟨false,rfl,by simp only [Bool.false_eq_true,false_iff];exact fun q=>h q.1⟩
 unfold BW en
 rw [bd,bd,bd,bd,bd]
 by_cases hL:rH len wid x y l w gap
 case neg =>
  by_cases d1:(if gap<(if wid<len then wid else len) then gap else (if wid<len then wid else len))<0
  ·rw [if_pos d1];exact no _ _ hL
  rw [if_neg d1]
  by_cases d2:(if wid>len then wid else len)>32768
  ·rw [if_pos d2];exact no _ _ hL
  rw [if_neg d2]
  by_cases d3:gap>500
  ·rw [if_pos d3];exact no _ _ hL
  rw [if_neg d3]
  by_cases d4:(if w<l then w else l)<1
  ·rw [if_pos d4];exact no _ _ hL
  rw [if_neg d4]
  by_cases d5:(if w>l then w else l)>32768
  ·rw [if_pos d5];exact no _ _ hL
  rw [if_neg d5,DP _ _ _ _ (by omega)]
  by_cases d6:(-32768<=x/\x<=32768/\-32768<=y/\y<=32768)
  ·exfalso
   refine hL ⟨?_,?_,?_,?_,?_,⟨d6.1,d6.2.1⟩,d6.2.2⟩<;>(repeat' split at d1)<;>(repeat' split at d2)<;>(repeat' split at d4)<;>(repeat' split at d5)<;>omega
  ·rw [if_neg d6];exact no _ _ hL
 obtain ⟨c1,c2,c3,c4,c5,c6,c7⟩:=id hL
 have hg:1<=gG gap/\gG gap<=500:=by unfold gG;split<;>omega
 have hm:¬ (if gap<(if wid<len then wid else len) then gap else (if wid<len then wid else len))<0:=by
  repeat' split
  all_goals omega
 rw [if_neg hm,if_neg (by split<;>omega),if_neg (by omega),if_neg (by split<;>omega),if_neg (by split<;>omega),DP _ _ _ _ (by omega),if_pos ⟨c6.1,c6.2,c7.1,c7.2⟩,
  aC (n:=x+l) (by omega) (by omega),aC (n:=y+w) (by omega) (by omega),aC (n:=len-gap) (by omega) (by omega),aC (n:=wid-gap) (by omega) (by omega),bd,bd,bd]
 have no2:¬ FIn len wid x y l w gap->∃ b,some false=some b/\(b=true↔rH len wid x y l w gap/\(∀ j,j<n->NrJ r j)/\FIn len wid x y l w gap/\∀ j,j<n->oq r x y l w (gG gap) j):=fun h=>⟨false,rfl,by simp only [Bool.false_eq_true,false_iff];exact fun q=>h q.2.2.1⟩
 by_cases d1:x<gap
 ·rw [if_pos d1];exact no2 fun h=>by have:=h.1;omega
 rw [if_neg d1]
 by_cases d2:y<gap
 ·rw [if_pos d2];exact no2 fun h=>by have:=h.2.1;omega
 rw [if_neg d2]
 by_cases d3:x+l>len-gap
 ·rw [if_pos d3];exact no2 fun h=>by have:=h.2.2.1;omega
 rw [if_neg d3]
 by_cases d4:y+w>wid-gap
 ·rw [ae (qcZ d4)];exact no2 fun h=>by have:=h.2.2.2;omega
 rw [ai (qeZ d4)]
 rcases WU n r l w (gG gap) x y (some false) (some true) hn hg c4 c5 c6 c7 100 0 (by omega) (by omega) with ⟨e,hA⟩ | ⟨e,j,hj,hq⟩
 ·exact ⟨true,e,by simp only [true_iff];exact ⟨hL,fun j hj=>(hA j (by omega) hj).1,⟨by omega,by omega,by omega,by omega⟩,fun j hj=>(hA j (by omega) hj).2⟩⟩
 ·exact ⟨false,e,by simp only [Bool.false_eq_true,false_iff];exact fun q=>hq ⟨q.2.1 j hj,q.2.2.2 j hj⟩⟩
theorem OR:Ha 100=some true:=by kernel_rfl
theorem Ow {ρ:Type} (x:Nat->CV) (hn:(x 7).len<=12) (k0 k1:Option ρ):∀ (m i:Nat),(x 7).len<m+i->i<=(x 7).len->mf 100 x m (Int.ofNat i) k0 k1=k0\/mf 100 x m (Int.ofNat i) k0 k1=k1:=by
 intro m
 induction m with
 | zero=>intro i h1 h2;omega
 | succ m ih =>
  intro i h1 h2
  unfold mf
  rw [aE,ax,aq]
  by_cases h:i<(x 7).len
  ·rw [ae (qcZ h),ae (qcZ h),ay (by omega)]
   by_cases c:(Int.ofNat ((((x 7).el) i 0).len))>40
   ·rw [ae (qcZ c)];exact .inl rfl
   ·rw [ai (qeZ c)];exact ih (i+1) (by omega) (by omega)
  ·rw [ai (qeZ h)];exact .inr rfl
theorem WL (x:Nat->CV):∃ b,Hg 100 x=some b/\(b=true->(x 6).len<=40):=by
 have no:∃ b,some false=some b/\(b=true->(x 6).len<=40):=⟨false,rfl,fun h=>by cases h⟩
 unfold Hg
 rw [bd,bd,bd,bd,bd]
 split;exact no
 split;exact no
 split;exact no
 split;exact no
 split;exact no
 rename_i _ _ _ _ c
 by_cases c2:(Int.ofNat ((x 7).len))>12
 ·rw [ae (qcZ c2)];exact no
 rw [ai (qeZ c2)]
 have c:¬ ((x 6).len:Int)>40:=c
 have c2:¬ ((x 7).len:Int)>12:=c2
 rcases Ow x (by omega) (some false) (some true) 100 0 (by omega) (by omega) with e | e
 ·exact ⟨_,e,fun _=>by omega⟩
 ·exact ⟨_,e,fun _=>by omega⟩
def Km (l:List Int) (a:Int):Nat->Nat->Int
 | 0,_=>-1
 | m+1,i=>if a=l.getD i 0 then (i:Int) else Km l a m (i+1)
def ixI (l:List Int) (a:Int):Int:=Km l a l.length 0
theorem GG (l:List Int) (a:Int) (hl:l.length<=60):∀ (m i:Nat),l.length<m+i->i<=l.length->m7 100 l.length (fL l) a (Int.ofNat l.length) m (Int.ofNat i) (fun x=>some x) (some (-1))=some (Km l a (l.length-i) i):=by
 intro m
 induction m with
 | zero=>intro i h1 h2;omega
 | succ m ih =>
  intro i h1 h2
  unfold m7
  rw [aE,ax,aq]
  by_cases h:i<l.length
  ·rw [ae (qcZ h),ae (qcZ h),show l.length-i=(l.length-(i+1))+1 from by omega,Km,ay (by omega)]
   have e:(fL l i 0).int=l.getD i 0:=rfl
   rw [e]
   by_cases c:a=l.getD i 0
   ·rw [if_pos c,ae (by simpa using c)];rfl
   ·rw [if_neg c,ai (by simpa using c)];exact ih (i+1) (by omega) (by omega)
  ·rw [ai (qeZ h),show l.length-i=0 from by omega];rfl
theorem I7 (l:List Int) (a:Int) (hl:l.length<=60):KO 100 l.length (fL l) a=some (ixI l a):=GG l a hl 100 0 (by omega) (by omega)
def Bef (first:List Int) (a b:Int):Prop:=ixI first a<ixI first b
instance (first:List Int) (a b:Int):Decidable (Bef first a b):=by unfold Bef;infer_instance
structure Fnd (first second:List Int) (R:FF) (g b:Int) (k i:Nat) (x y x' y' : Int):Prop where
 gex:x<=x'
 gey:y<=y'
 left:∀ t,i<=t->t<k->Bef first (second.getD t 0) b->bx R (second.getD t 0).toNat 2+g<=x'
 below:∀ t,i<=t->t<k->¬ Bef first (second.getD t 0) b->bx R (second.getD t 0).toNat 3+g<=y'
 leastx:∀ X,x<=X->(∀ t,i<=t->t<k->Bef first (second.getD t 0) b->bx R (second.getD t 0).toNat 2+g<=X)->x'<=X
 leasty:∀ Y,y<=Y->(∀ t,i<=t->t<k->¬ Bef first (second.getD t 0) b->bx R (second.getD t 0).toNat 3+g<=Y)->y'<=Y
theorem Og {ρ:Type} (n N2 N3 N5:Nat) (f F3:FF) (first second:List Int) (R:FF) (g b gap a1 a2:Int) (k:Nat) (hf:first.length<=60) (hk:k<=60)
  (hin:∀ t,t<k->0<=second.getD t 0/\second.getD t 0<n) (hg:1<=g/\g<=500)
  (hR:∀ t,t<k->(0<=bx R (second.getD t 0).toNat 2/\bx R (second.getD t 0).toNat 2<=1099511627776)/\(0<=bx R (second.getD t 0).toNat 3/\bx R (second.getD t 0).toNat 3<=1099511627776)):∀ (m i:Nat) (x y:Int),k<m+i->i<=k ->
  ∃ x' y',(∀ k0:Int->Int->Option ρ,jT 100 N2 f N3 F3 first.length (fL first) N5 (fL second) gap n g b a1 a2 k (Int.ofNat k) R m (Int.ofNat i) x y k0=k0 x' y')/\Fnd first second R g b k i x y x' y':=by
 intro m
 induction m with
 | zero=>intro i x y h1 h2;omega
 | succ m ih =>
  intro i x y h1 h2
  by_cases h:i<k
  ·have e:(fL second i 0).int=second.getD i 0:=rfl
   obtain ⟨z0,z1⟩:=hin i h
   obtain ⟨r2,r3⟩:=hR i h
   have hb:inb (second.getD i 0) n=true:=dx z0 z1
   by_cases c:Bef first (second.getD i 0) b
   ·obtain ⟨x',y',e1,F⟩:=ih (i+1) (if (R (second.getD i 0).toNat 2).int+g>x then (R (second.getD i 0).toNat 2).int+g else x) y (by omega) (by omega)
    have hx:x<=x'/\bx R (second.getD i 0).toNat 2+g<=x':=by
     have:=F.gex
     simp only [bx]
     split at this<;>omega
    refine ⟨x',y',fun k0=>?_,hx.1,F.gey,fun t q1 q2 q3=>?_,fun t q1 q2 q3=>?_,fun X q1 q2=>?_,fun Y q1 q2=>?_⟩
    ·unfold jT
     rw [aE,ax,aq,ae (qcZ h),ae (qcZ h),e,I7 _ _ hf,aa,I7 _ _ hf,aa,ay (by omega),rlZ,ae (qcZ (show ixI first (second.getD i 0)<ixI first b from c)),ae hb,aC (n:=(R (second.getD i 0).toNat 2).int+g) (by simp only [bx] at r2;omega) (by simp only [bx] at r2;omega)]
     exact e1 k0
    ·by_cases ht:t=i
     ·rw [ht];exact hx.2
     ·exact F.left t (by omega) q2 q3
    ·by_cases ht:t=i
     ·rw [ht] at q3;exact absurd c q3
     ·exact F.below t (by omega) q2 q3
    ·refine F.leastx X ?_ fun t w1 w2 w3=>q2 t (by omega) w2 w3
     have:=q2 i (by omega) h c
     simp only [bx] at this
     split<;>omega
    ·exact F.leasty Y q1 fun t w1 w2 w3=>q2 t (by omega) w2 w3
   ·obtain ⟨x',y',e1,F⟩:=ih (i+1) x (if (R (second.getD i 0).toNat 3).int+g>y then (R (second.getD i 0).toNat 3).int+g else y) (by omega) (by omega)
    have hy:y<=y'/\bx R (second.getD i 0).toNat 3+g<=y':=by
     have:=F.gey
     simp only [bx]
     split at this<;>omega
    refine ⟨x',y',fun k0=>?_,F.gex,hy.1,fun t q1 q2 q3=>?_,fun t q1 q2 q3=>?_,fun X q1 q2=>?_,fun Y q1 q2=>?_⟩
    ·unfold jT
     rw [aE,ax,aq,ae (qcZ h),ae (qcZ h),e,I7 _ _ hf,aa,I7 _ _ hf,aa,ay (by omega),rlZ,ai (qeZ (show ¬ ixI first (second.getD i 0)<ixI first b from c)),ae hb,aC (n:=(R (second.getD i 0).toNat 3).int+g) (by simp only [bx] at r3;omega) (by simp only [bx] at r3;omega)]
     exact e1 k0
    ·by_cases ht:t=i
     ·rw [ht] at q3;exact absurd q3 c
     ·exact F.left t (by omega) q2 q3
    ·by_cases ht:t=i
     ·rw [ht];exact hy.2
     ·exact F.below t (by omega) q2 q3
    ·exact F.leastx X q1 fun t w1 w2 w3=>q2 t (by omega) w2 w3
    ·refine F.leasty Y ?_ fun t w1 w2 w3=>q2 t (by omega) w2 w3
     have:=q2 i (by omega) h c
     simp only [bx] at this
     split<;>omega
  ·refine ⟨x,y,fun k0=>?_,Int.le_refl _,Int.le_refl _,fun t q1 q2=>by omega,fun t q1 q2=>by omega,fun X q1 _=>q1,fun Y q1 _=>q1⟩
   unfold jT
   rw [aE,ai (qeZ h)]
theorem Rv (f:FF) (i:Nat) (L:Nat->CV) (a c:Nat):cm f i 0 4 L a c=if a=i/\c<4 then L c else f a c:=by
 unfold cm
 by_cases h1:a=i
 ·subst h1
  by_cases h2:c<4
  ·have:(Nat.beq a a&&Nat.ble 0 c&&Nat.blt c (0+4))=true:=by
    simp [Nat.blt_eq,h2]
   rw [this,if_pos ⟨rfl,h2⟩];rfl
  ·have:(Nat.beq a a&&Nat.ble 0 c&&Nat.blt c (0+4))=false:=by
    have:Nat.blt c (0+4)=false:=by
     cases hq:Nat.blt c (0+4) with
     | false=>rfl
     | true=>exact (h2 (by simpa [Nat.blt_eq] using hq)).elim
    rw [this];simp
   rw [this,if_neg (fun h=>h2 h.2)];rfl
 ·have:(Nat.beq a i&&Nat.ble 0 c&&Nat.blt c (0+4))=false:=by
   have:Nat.beq a i=false:=by
    cases hq:Nat.beq a i with
    | false=>rfl
    | true=>exact (h1 (qbZ hq)).elim
   rw [this];simp
  rw [this,if_neg (fun h=>h1 h.1)];rfl
def aL (p:Nat->CV) (t:Int):Int × Int:=(lG 100 p t).getD (0,0)
structure Ps (p:Nat->CV):Prop where
 len:(p 6).len<=40
 sz:∀ t,(0<=(aL p t).1/\(aL p t).1<=131072)/\(0<=(aL p t).2/\(aL p t).2<=131072)
theorem sO (u:Nat) (x y:Nat->CV) (t:Int) (h1:(x 6).len=(y 6).len) (h2:(x 6).el=(y 6).el) (h3:(x 7).len=(y 7).len) (h4:(x 7).el=(y 7).el):lG u x t=lG u y t:=by
 unfold lG
 rw [h1,h2,h3,h4]
theorem Ps.rect {p:Nat->CV} (h:Ps p) (t:Int):lG 100 p t=some (aL p t):=by
 obtain ⟨q,_,h2⟩:=AQ p t h.len
 unfold aL
 rw [h2];rfl
theorem Qs {p:Nat->CV} (G:Ps p) (q:Nat->CV) (t x y:Int) (h1:(q 6).len=(p 6).len) (h2:(q 6).el=(p 6).el) (h3:(q 7).len=(p 7).len) (h4:(q 7).el=(p 7).el) (hx:0<=x/\x<=1099511627776) (hy:0<=y/\y<=1099511627776) :
  Ea 100 q t x y=some (x,y,x+(aL p t).1,y+(aL p t).2):=by
 unfold Ea
 have s:=G.sz t
 rw [sO 100 (au (pj kR0 q)) p t h1 h2 h3 h4,G.rect t,aa,aC (by omega) (by omega),aC (by omega) (by omega)]
structure Pk (f:FF) (tl first second:List Int) (gap:Int) (k:Nat) (R:FF):Prop where
 lo:∀ t,t<k->(gap<=bx R (second.getD t 0).toNat 0/\bx R (second.getD t 0).toNat 0<=500+t*140000)/\(gap<=bx R (second.getD t 0).toNat 1/\bx R (second.getD t 0).toNat 1<=500+t*140000)
 hi:∀ t,t<k->bx R (second.getD t 0).toNat 2=bx R (second.getD t 0).toNat 0+(aL (f (second.getD t 0).toNat) (tl.getD (second.getD t 0).toNat 0)).1/\bx R (second.getD t 0).toNat 3=bx R (second.getD t 0).toNat 1+(aL (f (second.getD t 0).toNat) (tl.getD (second.getD t 0).toNat 0)).2
 sep:∀ s t,s<t->t<k->(Bef first (second.getD s 0) (second.getD t 0)->bx R (second.getD s 0).toNat 2+gG gap<=bx R (second.getD t 0).toNat 0)/\(¬ Bef first (second.getD s 0) (second.getD t 0)->bx R (second.getD s 0).toNat 3+gG gap<=bx R (second.getD t 0).toNat 1)
 least:∀ X Y:Nat->Int,(∀ t,t<k->gap<=X (second.getD t 0).toNat/\gap<=Y (second.getD t 0).toNat) ->
  (∀ s t,s<t->t<k->(Bef first (second.getD s 0) (second.getD t 0)->X (second.getD s 0).toNat+(aL (f (second.getD s 0).toNat) (tl.getD (second.getD s 0).toNat 0)).1+gG gap<=X (second.getD t 0).toNat) /\
   (¬ Bef first (second.getD s 0) (second.getD t 0)->Y (second.getD s 0).toNat+(aL (f (second.getD s 0).toNat) (tl.getD (second.getD s 0).toNat 0)).2+gG gap<=Y (second.getD t 0).toNat)) ->
  ∀ t,t<k->bx R (second.getD t 0).toNat 0<=X (second.getD t 0).toNat/\bx R (second.getD t 0).toNat 1<=Y (second.getD t 0).toNat
theorem M0 {ρ:Type} (n:Nat) (f:FF) (tl first second:List Int) (gap:Int) (hn:n<=4) (ht:tl.length=n) (hf:first.length<=60) (hs:second.length<=4) (hin:∀ t,t<second.length->0<=second.getD t 0/\second.getD t 0<n)
  (hd:∀ s t,s<t->t<second.length->second.getD s 0≠second.getD t 0) (hgap:0<=gap/\gap<=500) (hG:∀ i,i<n->Ps (f i)) (k0:FF->Option ρ):∀ (m i:Nat) (R:FF),second.length<m+i->i<=second.length->Pk f tl first second gap i R ->
  ∃ R',m6 100 n f tl.length (fL tl) first.length (fL first) second.length (fL second) gap n (gG gap) (Int.ofNat second.length) m (Int.ofNat i) R k0=k0 R'/\Pk f tl first second gap second.length R':=by
 intro m
 induction m with
 | zero=>intro i R h1 h2;omega
 | succ m ih =>
  intro i R h1 h2 hP
  unfold m6
  rw [aE,ax,aq]
  by_cases h:i<second.length
  ·have e:(fL second i 0).int=second.getD i 0:=rfl
   obtain ⟨z0,z1⟩:=hin i h
   obtain ⟨j,hj⟩:∃ j:Nat,second.getD i 0=(j:Int):=⟨(second.getD i 0).toNat,by omega⟩
   have hjn:j<n:=by omega
   have hg:1<=gG gap/\gG gap<=500:=by unfold gG;split<;>omega
   have hz:∀ t,t<i->(0<=bx R (second.getD t 0).toNat 2/\bx R (second.getD t 0).toNat 2<=500+(t+1:Nat)*140000-1000)/\(0<=bx R (second.getD t 0).toNat 3/\bx R (second.getD t 0).toNat 3<=500+(t+1:Nat)*140000-1000):=by
    intro t hti
    have q1:=hP.lo t hti
    have q2:=hP.hi t hti
    obtain ⟨y0,y1⟩:=hin t (by omega)
    have q3:=(hG (second.getD t 0).toNat (by omega)).sz (tl.getD (second.getD t 0).toNat 0)
    omega
   obtain ⟨x',y',e1,F⟩:=Og (ρ:=ρ) n n tl.length second.length f (fL tl) first second R (gG gap) (second.getD i 0) gap (Int.ofNat second.length) (Int.ofNat i) i hf (by omega) (fun t q=>hin t (by omega)) hg (fun t q=>by have:=hz t q;omega) 100 0 gap gap (by omega) (by omega)
   have hb:inb (second.getD i 0) n=true:=dx z0 z1
   have GP:=hG (second.getD i 0).toNat (by omega)
   have hsz:=GP.sz (tl.getD (second.getD i 0).toNat 0)
   have hx' : x'<=500+i*140000:=F.leastx _ (by omega) fun t _ q _=>by
    have:=(hz t q).1.2
    have:((t+1:Nat):Int)<=(i:Int):=by omega
    omega
   have hy' : y'<=500+i*140000:=F.leasty _ (by omega) fun t _ q _=>by
    have:=(hz t q).2.2
    have:((t+1:Nat):Int)<=(i:Int):=by omega
    omega
   have hxy:=And.intro F.gex F.gey
   obtain ⟨R1,hR1⟩:∃ R1,R1=cm R (second.getD i 0).toNat 0 4 (au [(.i .i64 x'),(.i .i64 y'),(.i .i64 (x'+(aL (f (second.getD i 0).toNat) (tl.getD (second.getD i 0).toNat 0)).1)),(.i .i64 (y'+(aL (f (second.getD i 0).toNat) (tl.getD (second.getD i 0).toNat 0)).2))]):=⟨_,rfl⟩
   have old:∀ t c,t<i->bx R1 (second.getD t 0).toNat c=bx R (second.getD t 0).toNat c:=by
    intro t c q
    have q1:=hd t i q h
    obtain ⟨y0,y1⟩:=hin t (by omega)
    simp only [bx]
    rw [hR1,Rv,if_neg (fun hh=>q1 (by omega))]
   have new:∀ c,c<4->bx R1 (second.getD i 0).toNat c=(au [(.i .i64 x'),(.i .i64 y'),(.i .i64 (x'+(aL (f (second.getD i 0).toNat) (tl.getD (second.getD i 0).toNat 0)).1)),(.i .i64 (y'+(aL (f (second.getD i 0).toNat) (tl.getD (second.getD i 0).toNat 0)).2))] c).int:=by
    intro c q
    simp only [bx]
    rw [hR1,Rv,if_pos ⟨rfl,q⟩]
   have n0:bx R1 (second.getD i 0).toNat 0=x':=new 0 (by omega)
   have n1:bx R1 (second.getD i 0).toNat 1=y':=new 1 (by omega)
   have n2:bx R1 (second.getD i 0).toNat 2=x'+(aL (f (second.getD i 0).toNat) (tl.getD (second.getD i 0).toNat 0)).1:=new 2 (by omega)
   have n3:bx R1 (second.getD i 0).toNat 3=y'+(aL (f (second.getD i 0).toNat) (tl.getD (second.getD i 0).toNat 0)).2:=new 3 (by omega)
   have hP1:Pk f tl first second gap (i+1) R1:=by
    refine ⟨fun t q=>?_,fun t q=>?_,fun s t q1 q2=>?_,fun X Y g1 g2 t q=>?_⟩
    ·by_cases c:t=i
     ·rw [c,n0,n1];omega
     ·rw [old t _ (by omega),old t _ (by omega)];exact hP.lo t (by omega)
    ·by_cases c:t=i
     ·rw [c,n0,n1,n2,n3];exact ⟨rfl,rfl⟩
     ·rw [old t _ (by omega),old t _ (by omega),old t _ (by omega),old t _ (by omega)];exact hP.hi t (by omega)
    ·by_cases c:t=i
     ·rw [c] at q1 ⊢
      rw [n0,n1,old s _ q1,old s _ q1]
      exact ⟨F.left s (by omega) q1,F.below s (by omega) q1⟩
     ·rw [old t _ (by omega),old t _ (by omega),old s _ (by omega),old s _ (by omega)];exact hP.sep s t q1 (by omega)
    ·have L:=hP.least X Y (fun t q=>g1 t (by omega)) (fun s t q1 q2=>g2 s t q1 (by omega))
     by_cases c:t=i
     ·rw [c,n0,n1]
      refine ⟨F.leastx _ (g1 i (by omega)).1 fun s _ q1 q2=>?_,F.leasty _ (g1 i (by omega)).2 fun s _ q1 q2=>?_⟩
      ·have w1:=(g2 s i q1 (by omega)).1 q2
       have w2:=(L s q1).1
       have w3:=(hP.hi s q1).1
       omega
      ·have w1:=(g2 s i q1 (by omega)).2 q2
       have w2:=(L s q1).2
       have w3:=(hP.hi s q1).2
       omega
     ·rw [old t _ (by omega),old t _ (by omega)];exact L t (by omega)
   obtain ⟨R',e2,hP'⟩:=ih (i+1) R1 (by omega) (by omega) hP1
   refine ⟨R',?_,hP'⟩
   rw [ae (qcZ h),ae (qcZ h),ae (CO (by show (0:Int)<=(i:Int);omega) (by show (i:Int)<=(second.length:Int);omega)),e]
   refine (e1 _).trans ?_
   rw [ae hb,ht,ae hb]
   refine (congrArg (fun z=>ob z _) (Qs GP _ _ x' y' rfl rfl rfl rfl (by omega) (by omega))).trans ?_
   rw [aa,ae hb,ay (by omega),rlZ,<- e2,hR1,ht]
   rfl
  ·rw [ai (qeZ h)]
   exact ⟨R,rfl,by rwa [show i=second.length from by omega] at hP⟩
theorem lZ:∀ (l:List Int) (i:Nat),i<l.length->(l.getD i 0::l.eraseIdx i).Perm l
 | [],i,h=>by simp at h
 | a::l,0,_=>.refl _
 | a::l,i+1,h=>by
  have:=lZ l i (by simpa using h)
  rw [List.eraseIdx_cons_succ,List.getD_cons_succ]
  exact (List.Perm.swap a (l.getD i 0) _).trans (this.cons a)
theorem Bm:∀ (k:Nat) (l:List Int),l.length=k->∀ q∈cJ k l,q.Perm l
 | 0,l,h,q,hq=>by
  have hq:q∈[[]]:=hq
  rw [qzZ] at hq
  rw [hq,List.length_eq_zero_iff.1 h]
 | k+1,l,h,q,hq=>by
  have hq:q∈(List.range l.length).flatMap fun i=>(cJ k (l.eraseIdx i)).map (l.getD i 0::·):=hq
  obtain ⟨i,hi,hq⟩:=List.mem_flatMap.1 hq
  obtain ⟨q',hq',rfl⟩:=rjZ.1 hq
  rw [riZ] at hi
  exact ((Bm k _ (by rw [List.length_eraseIdx_of_lt hi];omega) q' hq').cons _).trans (lZ l i hi)
theorem Aa {l q:List Int} (h:q∈aK l):q.Perm l:=Bm _ l rfl q h
theorem CG:∀ (k:Nat) (l:List Int),l.length=k->∀ q:List Int,q.Perm l->q∈cJ k l
 | 0,l,h,q,hq=>by
  rw [List.length_eq_zero_iff.1 h] at hq
  show q∈[[]]
  rw [qzZ];exact List.perm_nil.1 hq
 | k+1,l,h,q,hq=>by
  cases q with
  | nil=>have:=hq.length_eq;simp at this;omega
  | cons a q =>
   obtain ⟨i,hi,ha⟩:=List.getElem_of_mem (hq.subset qmZ)
   have e:l.getD i 0=a:=by rw [qdZ,qgZ hi];exact ha
   have hp:q.Perm (l.eraseIdx i):=by
    have:=hq.trans (lZ l i hi).symm
    rw [e] at this
    exact this.cons_inv
   show a::q∈(List.range l.length).flatMap fun i=>(cJ k (l.eraseIdx i)).map (l.getD i 0::·)
   refine List.mem_flatMap.2 ⟨i,riZ.2 hi,rjZ.2 ⟨q,CG k _ (by rw [List.length_eraseIdx_of_lt hi];omega) q hp,by rw [e]⟩⟩
theorem sH {l q:List Int} (h:q.Perm l):q∈aK l:=CG _ l rfl q h
theorem JZ:∀ (k:Nat) (l:List Int),l.length=k->k<=4->(cJ k l).length<=24:=by
 have h1:∀ (k N:Nat),(∀ l:List Int,l.length=k->(cJ k l).length<=N)->∀ l:List Int,l.length=k+1->(cJ (k+1) l).length<=(k+1)*N:=by
  intro k N h l hl
  have:∀ m,m<=l.length->(rF k l m).length<=m*N:=by
   intro m
   induction m with
   | zero=>intro _;simp [rF]
   | succ m ih =>
    intro hm
    rw [rj,List.length_append,rcZ]
    have:=h (l.eraseIdx m) (by rw [List.length_eraseIdx_of_lt (by omega)];omega)
    have:=ih (by omega)
    rw [Nat.succ_mul]
    omega
  have:=this l.length (rkZ _)
  rw [hl] at this
  have e:cJ (k+1) l=rF k l l.length:=rfl
  rw [e,hl];exact this
 have e0:∀ l:List Int,l.length=0->(cJ 0 l).length<=1:=fun l _=>by simp [cJ]
 have e1:∀ l:List Int,l.length=1->(cJ 1 l).length<=1:=h1 0 1 e0
 have e2:∀ l:List Int,l.length=2->(cJ 2 l).length<=2:=h1 1 1 e1
 have e3:∀ l:List Int,l.length=3->(cJ 3 l).length<=6:=h1 2 2 e2
 have e4:∀ l:List Int,l.length=4->(cJ 4 l).length<=24:=h1 3 6 e3
 intro k l hl hk
 have:k=0\/k=1\/k=2\/k=3\/k=4:=by omega
 rcases this with rfl | rfl | rfl | rfl | rfl
 ·have:=e0 l hl;omega
 ·have:=e1 l hl;omega
 ·have:=e2 l hl;omega
 ·have:=e3 l hl;omega
 ·have:=e4 l hl;omega
theorem Bl {l:List Int} (h:l.length<=4):(aK l).length<=24:=JZ _ l rfl h
def okV (n:Nat) (l:List Int):Bool:=Nat.beq l.length n&&l.all fun x=>x == -1||(x==0||x==1)
theorem El:∀ n,n<=4->∀ c,c<db n->okV n (aV n c)=true:=by
 have h0:∀ n<5,∀ c<82,c<db n->okV n (aV n c)=true:=by decide +kernel
 intro n hn c hc
 have:db n<=81:=by
  have:∀ n<5,db n<=81:=by decide +kernel
  exact this n (by omega)
 exact h0 n (by omega) c (by omega) hc
theorem Hv (a b:ByteArray):(ByteArray.toList a==ByteArray.toList b)=decide (a=b):=by
 by_cases h:a=b
 ·subst h;simp
 ·rw [qeZ h]
  have:¬ ByteArray.toList a=ByteArray.toList b:=fun hh=>h (by
   rw [ByteArray.toList_eq,ByteArray.toList_eq] at hh
   exact ByteArray.ext (Array.ext' hh))
  simpa using this
theorem Ti {a b:Nat} (h:a<b):Nat.blt a b=true:=by rw [Nat.blt_eq];exact h
theorem lR {n:Nat} (h:n<=1073741824):Nat.ble n 1073741824=true:=by rw [Nat.ble_eq];exact h
theorem Bs {n:Nat} {f f' : FF} (h:∀ i,i<n->(f' i 0).str=(f i 0).str) (s:ByteArray):lJ n f' s=lJ n f s:=by
 unfold lJ
 have:∀ l:List Nat,(∀ i,i∈l->i<n)->l.find? (fun i=>ByteArray.toList ((f' i 0).str)==ByteArray.toList s)=l.find? (fun i=>ByteArray.toList ((f i 0).str)==ByteArray.toList s):=fun l=>by
  induction l with
  | nil=>intro _;rfl
  | cons a l ih =>
   intro hl
   rw [List.find?_cons,List.find?_cons,h a (hl a (qmZ ..)),ih fun i hi=>hl i (qjZ _ hi)]
 exact this _ fun i hi=>riZ.1 hi
theorem Fa (n:Nat) (f:FF) (s:ByteArray) (v:Int) (s' : ByteArray):lX (oG n f s) (oF n f s v) s' = if s' = s then v else lX n f s':=by
 unfold lX oG oF
 cases h:lJ n f s with
 | some i0 =>
  dsimp only
  obtain ⟨h1,h2⟩:=mo h
  have hk:lJ n (fun i j=>bif Nat.beq i i0&&Nat.beq j 1 then .i .i64 v else f i j) s' = lJ n f s':=Bs (fun i _=>by
   show (bif Nat.beq i i0&&Nat.beq 0 1 then _ else f i 0).str=_
   rw [show Nat.beq 0 1=false from rfl,Bool.and_false,cond_false]) s'
  rw [hk]
  by_cases hs:s' = s
  ·subst hs
   rw [if_pos rfl,h]
   show (bif Nat.beq i0 i0&&Nat.beq 1 1 then CV.i .i64 v else f i0 1).int=v
   rw [Nat.beq_refl];rfl
  ·rw [if_neg hs]
   cases h3:lJ n f s' with
   | none=>rfl
   | some j =>
    obtain ⟨h4,h5⟩:=mo h3
    have hne:Nat.beq j i0=false:=by
     cases e:Nat.beq j i0 with
     | false=>rfl
     | true=>have:=qbZ e;subst this;exact absurd (h5.symm.trans h2) hs
    show (bif Nat.beq j i0&&Nat.beq 1 1 then CV.i .i64 v else f j 1).int=(f j 1).int
    rw [hne];rfl
 | none =>
  dsimp only
  have hlt:∀ i,i<n->(bif Nat.blt i n then f i 0 else (bif Nat.beq 0 0 then CV.s s else .i .i64 v)).str=(f i 0).str:=fun i hi=>by rw [Ti hi,cond_true]
  have hb:Nat.blt n n=false:=by
   cases e:Nat.blt n n with
   | false=>rfl
   | true=>rw [Nat.blt_eq] at e;omega
  have hnew:lJ (n+1) (fun i j=>bif Nat.blt i n then f i j else (bif Nat.beq j 0 then CV.s s else .i .i64 v)) s' = match lJ n f s' with | some i=>some i | none=>if s' = s then some n else none:=by
   have e1:=Bs (f:=f) (f':=fun i j=>bif Nat.blt i n then f i j else (bif Nat.beq j 0 then CV.s s else .i .i64 v)) hlt s'
   rw [<- e1]
   unfold lJ
   rw [List.range_succ,List.find?_append]
   cases List.find? (fun i=>ByteArray.toList ((bif Nat.blt i n then f i 0 else (bif Nat.beq 0 0 then CV.s s else .i .i64 v)).str)==ByteArray.toList s') (List.range n) with
   | some i=>rfl
   | none =>
    rw [Option.none_or,List.find?_cons]
    dsimp only
    rw [hb]
    show (match (ByteArray.toList s==ByteArray.toList s') with | true=>some n | false=>List.find? _ [])=_
    rw [Hv]
    by_cases hs:s' = s
    ·subst hs;rw [qcZ rfl,if_pos rfl]
    ·rw [qeZ (fun e=>hs e.symm),if_neg hs];rfl
  rw [hnew]
  by_cases hs:s' = s
  ·subst hs
   rw [h,if_pos rfl,if_pos rfl]
   show (bif Nat.blt n n then f n 1 else (bif Nat.beq 1 0 then CV.s s' else .i .i64 v)).int=v
   rw [hb];rfl
  ·rw [if_neg hs,if_neg hs]
   cases h3:lJ n f s' with
   | none=>rfl
   | some j =>
    have:=(mo h3).1
    show (bif Nat.blt j n then f j 1 else _).int=(f j 1).int
    rw [Ti this];rfl
def Ap (gr:ByteArray) (th:Int) (PF:FF) (j:Nat):Prop :=
 (∀ i,i<j->(PF i 0).str≠(PF j 0).str)/\(PF j 2).int=1/\ByteArray.toList ((PF j 4).str)=ByteArray.toList gr/\(PF j 5).int=th/\F13 100 ((PF j 6).len) ((PF j 6).el) ((PF j 7).len) ((PF j 7).el)=some 0
structure oQ (x y:Nat->CV):Prop where
 id:(x 0).str=(y 0).str
 ol:(x 6).len=(y 6).len
 oe:(x 6).el=(y 6).el
 hl:(x 7).len=(y 7).len
 he:(x 7).el=(y 7).el
structure Ao (gr:ByteArray) (th:Int) (PF:FF) (i:Nat) (js:List Nat) (f:FF):Prop where
 asc:js.Pairwise (· < ·)
 ok:∀ j∈js,j<i/\Ap gr th PF j
 all:∀ j,j<i->Ap gr th PF j->j∈js
 row:∀ k,k<js.length->oQ (f k) (PF (js.getD k 0))
theorem Ao.skip {gr:ByteArray} {th:Int} {PF:FF} {i:Nat} {js:List Nat} {f:FF} (h:Ao gr th PF i js f) (hn:¬ Ap gr th PF i):Ao gr th PF (i+1) js f :=
 ⟨h.asc,fun j hj=>⟨by have:=(h.ok j hj).1;omega,(h.ok j hj).2⟩,fun j hj hs=>by
  by_cases e:j=i
  ·subst e;exact absurd hs hn
  ·exact h.all j (by omega) hs,h.row⟩
theorem JM {ρ:Type} (P:Nat) (PF:FF) (a gr e:ByteArray) (th L W:Int) (hP:P<=20) (k0:Nat->Nat->FF->FF->Option ρ):∀ (m i:Nat) (c:Nat) (M:FF) (js:List Nat) (f:FF),P<m+i->i<=P->js.length<=i ->
  (∀ s,lX c M s=1↔∃ j,j<i/\(PF j 0).str=s)->Ao gr th PF i js f ->
  ∃ c' M' js' f',em 100 P PF (Int.ofNat P) a gr th L W e m js.length (Int.ofNat i) c M f k0=k0 js'.length c' M' f'/\js'.length<=P/\Ao gr th PF P js' f':=by
 intro m
 induction m with
 | zero=>intro i c M js f h1 h2;omega
 | succ m ih =>
  intro i c M js f h1 h2 hl hM hS
  unfold em
  rw [aE,ax,aq]
  by_cases h:i<P
  ·have hM' : ∀ s,lX (oG c M ((PF i 0).str)) (oF c M ((PF i 0).str) 1) s=1↔∃ j,j<i+1/\(PF j 0).str=s:=by
    intro s
    rw [Fa]
    by_cases hs:s=(PF i 0).str
    ·rw [if_pos hs];exact ⟨fun _=>⟨i,by omega,hs.symm⟩,fun _=>rfl⟩
    ·rw [if_neg hs,hM]
     exact ⟨fun ⟨j,h3,h4⟩=>⟨j,by omega,h4⟩,fun ⟨j,h3,h4⟩=>by
      by_cases hj:j=i
      ·subst hj;exact absurd h4.symm hs
      ·exact ⟨j,by omega,h4⟩⟩
   rw [ae (qcZ h),ae (qcZ h),ay (by omega)]
   have skip:¬ Ap gr th PF i->∃ c' M' js' f',em 100 P PF (Int.ofNat P) a gr th L W e m js.length (Int.ofNat (i+1)) (oG c M ((PF i 0).str)) (oF c M ((PF i 0).str) 1) f k0=k0 js'.length c' M' f'/\js'.length<=P/\Ao gr th PF P js' f' :=
    fun hn=>ih (i+1) _ _ js f (by omega) (by omega) (by omega) hM' (hS.skip hn)
   by_cases c1:lX c M ((PF i 0).str)=1
   ·rw [ai (by simp [c1])]
    obtain ⟨j,h3,h4⟩:=(hM _).1 c1
    exact skip fun hs=>hs.1 j h3 h4
   rw [ae (by simp [c1])]
   by_cases c2:(PF i 2).int=1
   case neg=>rw [ai (by simp [c2])];exact skip fun hs=>c2 hs.2.1
   rw [ae (by simp [c2])]
   by_cases c3:ByteArray.toList ((PF i 4).str)=ByteArray.toList gr
   case neg=>rw [ai (by simp [c3])];exact skip fun hs=>c3 hs.2.2.1
   rw [ae (by simp [c3])]
   by_cases c4:(PF i 5).int=th
   case neg=>rw [ai (by simp [c4])];exact skip fun hs=>c4 hs.2.2.2.1
   rw [ae (by simp [c4])]
   obtain ⟨z,z1,_⟩:=mi ((PF i 6).len) ((PF i 7).len) ((PF i 6).el) ((PF i 7).el)
   rw [z1,aa]
   by_cases c5:z=0
   case neg=>rw [ai (by simp [c5])];exact skip fun hs=>c5 (rhZ (z1.symm.trans hs.2.2.2.2))
   rw [ae (by simp [c5]),ae (lR (by omega))]
   have hs:Ap gr th PF i:=⟨fun j hj he=>c1 ((hM _).2 ⟨j,hj,he⟩),c2,c3,c4,by rw [z1,c5]⟩
   have hlen:(js ++ [i]).length=js.length+1:=by simp
   have:=ih (i+1) (oG c M ((PF i 0).str)) (oF c M ((PF i 0).str) 1) (js ++ [i]) (aB js.length f (aG 18 [(.s ((PF i 0).str)),(.i .i64 ((PF i 1).int)),(.i .i64 ((PF i 2).int)),(.s ((PF i 3).str)),(.s ((PF i 4).str)),(.i .i64 ((PF i 5).int)),(.ro false (.pr (.int .i64) (.pr (.int .i64) .nil)) ((PF i 6).len) ((PF i 6).el)),(.ro false (.pr (.sl (.pr (.int .i64) (.pr (.int .i64) .nil))) .nil) ((PF i 7).len) ((PF i 7).el)),(.s ((PF i 8).str)),(.i .i64 ((PF i 9).int)),(.i .i64 ((PF i 10).int)),(.i .i64 ((PF i 11).int)),(.i .i64 ((PF i 12).int)),(.i .i64 ((PF i 13).int)),(.i .i64 ((PF i 14).int)),(.i .i64 ((PF i 15).int)),(.i .i64 ((PF i 16).int)),(.i .i64 ((PF i 17).int))]))
    (by omega) (by omega) (by omega) hM' ?_
   ·rw [hlen] at this;exact this
   refine ⟨?_,fun j hj=>?_,fun j hj hjs=>?_,fun k hk=>?_⟩
   ·rw [List.pairwise_append]
    exact ⟨hS.asc,List.pairwise_singleton _ _,fun x hx y hy=>by rw [qzZ] at hy;rw [hy];exact (hS.ok x hx).1⟩
   ·rcases List.mem_append.1 hj with hj | hj
    ·exact ⟨by have:=(hS.ok j hj).1;omega,(hS.ok j hj).2⟩
    ·rw [qzZ] at hj;subst hj;exact ⟨by omega,hs⟩
   ·by_cases hji:j=i
    ·subst hji;simp
    ·exact qvZ _ (hS.all j (by omega) hjs)
   ·by_cases hki:k<js.length
    ·have h1:=hS.row k hki
     rw [show (js ++ [i]).getD k 0=js.getD k 0 from by rw [qdZ,qdZ,qnZ hki]]
     exact ⟨by rw [dw _ _ _ _ _ hki];exact h1.id,by rw [dw _ _ _ _ _ hki];exact h1.ol,by rw [dw _ _ _ _ _ hki];exact h1.oe,by rw [dw _ _ _ _ _ hki];exact h1.hl,by rw [dw _ _ _ _ _ hki];exact h1.he⟩
    ·have hke:k=js.length:=by omega
     subst hke
     have hg:(js ++ [i]).getD js.length 0=i:=by simp
     rw [hg]
     refine ⟨?_,?_,?_,?_,?_⟩<;>(rw [dk _ _ _ _ _ (rkZ _),Nat.sub_self];rfl)
  ·rw [ai (qeZ h)]
   have:i=P:=by omega
   subst this
   exact ⟨c,M,js,f,rfl,hl,hS⟩
theorem Eo (P:Nat) (PF:FF) (a gr e:ByteArray) (th L W:Int) (hP:P<=20):∃ js f,te 100 a gr th L W e P PF=some (js.length,f)/\js.length<=P/\Ao gr th PF P js f:=by
 unfold te
 have hM:∀ s,lX 0 (fun _ _=>CV.any) s=1↔∃ j,j<0/\(PF j 0).str=s:=fun s=>by
  have e:lX 0 (fun _ _=>CV.any) s=0:=rfl
  rw [e]
  refine ⟨fun h=>?_,fun h=>?_⟩
  ·cases h
  ·obtain ⟨j,h,_⟩:=h
   omega
 have hS:Ao gr th PF 0 [] (fun _ _=>.any):=by
  refine ⟨List.Pairwise.nil,fun j hj=>?_,fun j hj=>?_,fun k hk=>?_⟩
  ·cases hj
  ·omega
  ·cases hk
 obtain ⟨c,M,js,f,h1,h2,h3⟩:=JM P PF a gr e th L W hP (fun x38 x39 x40 x41=>(some (x38,x41))) 100 0 0 (fun _ _=>.any) [] (fun _ _=>.any) (by omega) (by omega) (rkZ _) hM hS
 exact ⟨js,f,h1,h2,h3⟩
open Geo
structure Mv (T:Pt->Pt) (n1:Nat) (f1:Nat->Nat->CV) (n2:Nat) (f2 g1 g2:Nat->Nat->CV):Prop where
 fit:Aq 1 T
 outer:∀ j,j<n1->pt g1 j=T (pt f1 j)
 len:∀ j,j<n2->(g2 j 0).len=(f2 j 0).len
 hole:∀ j,j<n2->∀ i,i<(f2 j 0).len->pt ((g2 j 0).el) i=T (pt ((f2 j 0).el) i)
def Jl (n1:Nat) (n2:Nat) (f2:Nat->Nat->CV):Prop:=n1<=40/\n2<=12/\∀ j,j<n2->(f2 j 0).len<=40
structure Js (s:ByteArray) (tx ty:Int) (turn:Int) (fl:Bool) (n1:Nat) (f1:Nat->Nat->CV) (n2:Nat) (f2:Nat->Nat->CV) (a:Nat) (c:Nat->Nat->CV) (b:Nat) (d:Nat->Nat->CV):Prop where
 small:Jl a b d
 size:a<=n1/\b<=n2
 all:∀ t:Nat,turn=Int.ofNat t->t<=3->¬ (lY tx ty=true\/s8 (1+n2) (cfh n1 f1 f2) 0)->a=n1/\b=n2/\Are (cq fl t tx ty n1 f1) c n1/\As fl t tx ty f2 d n2
 none:(turn<0\/3<turn\/lY tx ty=true\/s8 (1+n2) (cfh n1 f1 f2) 0)->a=0/\b=0
theorem Jk {P:Nat->Int × Int} {f g:Nat->Nat->CV} {n:Nat} (h:Are P f n) (h' : Are P g n):∀ j,j<n->pt g j=pt f j:=fun j hj=>(OP h' j hj).trans (OP h j hj).symm
theorem DQ (n1 n2:Nat) (f1 f2:Nat->Nat->CV) (s:ByteArray) (tx ty turn:Int) (fl:Bool) (S:Jl n1 n2 f2):∃ a c b d c' d',
  F25 100 n1 f1 n2 f2 s tx ty turn fl=some (a,c,b,d)/\F26 100 n1 f1 n2 f2 s tx ty turn fl=some (a,c',b,d')/\Mv (fun p=>p) a c b d c' d'/\Js s tx ty turn fl n1 f1 n2 f2 a c b d:=by
 obtain ⟨hn1,hn2,hh⟩:=S
 have nothing:∀ c d:Nat->Nat->CV,Mv (fun p=>p) 0 c 0 d (fun _ _=>.any) (fun _ _=>.any):=fun c d=>⟨ED,fun j hj=>by omega,fun j hj=>by omega,fun j hj=>by omega⟩
 have hN:1+n2<=13:=by omega
 have hl:∀ j,j<1+n2->(aB 1 (aG 1 [(.ro false (.pr (.int .i64) (.pr (.int .i64) .nil)) n1 f1)]) f2 j 0).len<=40:=by
  intro j hj
  by_cases e:j<1
  ·have:j=0:=by omega
   subst this
   rw [rq _ _ _ _ _ (by omega)]
   exact hn1
  ·rw [ru _ _ _ _ _ (by omega)]
   exact hh _ (by omega)
 have c42:F42 100 n1 f1 n2 f2=some (1+n2,aB 1 (aG 1 [(.ro false (.pr (.int .i64) (.pr (.int .i64) .nil)) n1 f1)]) f2):=by
  unfold F42
  rw [ae (sR (by omega))]
 have c44:F44 100 n1 f1 n2 f2=some (1+n2,aB 1 (aG 1 [(.ro false (.pr (.int .i64) (.pr (.int .i64) .nil)) n1 f1)]) f2):=c42
 have hcf:cfh n1 f1 f2=aB 1 (aG 1 [(.ro false (.pr (.int .i64) (.pr (.int .i64) .nil)) n1 f1)]) f2:=rfl
 have nomove:(turn<0\/3<turn\/lY tx ty=true\/s8 (1+n2) (cfh n1 f1 f2) 0)->∀ c d,Js s tx ty turn fl n1 f1 n2 f2 0 c 0 d:=fun h c d =>
  ⟨⟨by omega,by omega,fun j hj=>by omega⟩,⟨by omega,by omega⟩,fun t e1 e2 e3=>by
   rcases h with k | k | k
   ·rw [e1] at k;simp at k;omega
   ·rw [e1] at k;simp at k;omega
   ·exact absurd k e3,fun _=>⟨rfl,rfl⟩⟩
 rw [hcf] at nomove
 generalize hF:aB 1 (aG 1 [(.ro false (.pr (.int .i64) (.pr (.int .i64) .nil)) n1 f1)]) f2=F at hl c42 c44 nomove hcf
 generalize hNN:1+n2=N at hN hl c42 c44 nomove
 by_cases ht1:turn<0
 ·refine ⟨0,(fun _ _=>.any),0,(fun _ _=>.any),_,_,?_,?_,nothing _ _,nomove (.inl ht1) _ _⟩
  ·unfold F25 G8
   rw [ai (by simpa using ht1)];rfl
  ·unfold F26 G7
   rw [c44,aa,ai (by simpa using ht1),show (0:Int)=Int.ofNat 0 from rfl,BD N n1 n2 F f1 f2 s tx ty turn fl hN hl _ 100 0 (by omega) (by omega)];rfl
 ·by_cases ht2:turn>3
  ·refine ⟨0,(fun _ _=>.any),0,(fun _ _=>.any),_,_,?_,?_,nothing _ _,nomove (.inr (.inl ht2)) _ _⟩
   ·unfold F25 G8
    rw [ae (by simpa using ht1),ai (by simpa using ht2)];rfl
   ·unfold F26 G7
    rw [c44,aa,ae (by simpa using ht1),ai (by simpa using ht2),show (0:Int)=Int.ofNat 0 from rfl,BD N n1 n2 F f1 f2 s tx ty turn fl hN hl _ 100 0 (by omega) (by omega)];rfl
  ·obtain ⟨t,rfl⟩:∃ t:Nat,turn=Int.ofNat t:=⟨turn.toNat,(Int.toNat_of_nonneg (by omega)).symm⟩
   have ht:t<=3:=by simp at ht2;omega
   have e25:(lY tx ty=true\/s8 N F 0)->F25 100 n1 f1 n2 f2 s tx ty (Int.ofNat t) fl=some (0,(fun _ _=>.any),0,(fun _ _=>.any)):=by
    intro hb
    unfold F25 G8
    rw [ae (by simpa using ht1),ae (by simpa using ht2),Jd,aa]
    cases hq:lY tx ty with
    | true=>rw [ae rfl];rfl
    | false =>
     rw [ai rfl,c42,aa,show (0:Int)=Int.ofNat 0 from rfl]
     have hc:s8 N F 0:=hb.resolve_left (by rw [hq];simp)
     rw [(CP N n1 n2 F f1 f2 s tx ty (Int.ofNat t) fl hN hl _ _ 100 0 (by omega) (by omega)).1 hc];rfl
   obtain ⟨r,h3,h4⟩:=KD N n1 n2 F f1 f2 s tx ty (Int.ofNat t) fl hN hl (fun x98=>(bif x98 then (some (true,0,(fun _ _=>CV.any),0,(fun _ _=>CV.any))) else (ob (F54 100 n1 f1 s tx ty (Int.ofNat t) fl) fun x99=>(r8 100 n1 f1 n2 f2 s tx ty (Int.ofNat t) fl x99.1 x99.2 100 0 0 (fun _ _=>.any)
 (fun x129 x130=>(some (false,x99.1,x99.2,x129,x130))))))) 100 0 (lY tx ty) (by omega) (by omega)
   by_cases hb:lY tx ty=true\/s8 N F 0
   ·refine ⟨0,_,0,_,_,_,e25 hb,?_,nothing _ _,nomove (.inr (.inr hb)) _ _⟩
    unfold F26 G7
    rw [c44,aa,ae (by simpa using ht1),ae (by simpa using ht2),OB,aa]
    refine (congrArg (fun z=>ob z _) h3).trans ?_
    rw [h4.2 hb,ae rfl];rfl
   ·obtain ⟨g,hg1,hg2⟩:=CK s n1 t fl tx ty f1 hn1 ht
    obtain ⟨g',hg3,hg4⟩:=Aj s n1 t fl tx ty f1 hn1 ht
    have hr:r=false:=by
     cases r with
     | false=>rfl
     | true=>exact absurd (h4.1 rfl) hb
    have hq:lY tx ty=false:=by
     cases hq:lY tx ty with
     | false=>rfl
     | true=>exact absurd (.inl hq) hb
    obtain ⟨x,hx1,hx2⟩:=Q1 s n2 t fl tx ty f2 n1 n1 f1 g hn2 hh ht (fun x71 x72=>(some (false,n1,g,x71,x72))) 100 0 (fun _ _=>.any) (by omega) (by omega) (fun j hj=>by omega)
    obtain ⟨x',hx3,hx4⟩:=Q0 s n2 t fl tx ty f2 n1 n1 f1 g' hn2 hh ht (fun x129 x130=>(some (false,n1,g',x129,x130))) 100 0 (fun _ _=>.any) (by omega) (by omega) (fun j hj=>by omega)
    refine ⟨n1,g,n2,x,g',x',?_,?_,⟨ED,Jk hg2 hg4,fun j hj=>?_,fun j hj=>?_⟩,⟨⟨hn1,hn2,fun j hj=>?_⟩,⟨by omega,by omega⟩,fun t' e1 e2 e3=>?_,fun h=>?_⟩⟩
    ·unfold F25 G8
     rw [ae (by simpa using ht1),ae (by simpa using ht2),Jd,aa,hq,ai rfl,c42,aa]
     rw [show (0:Int)=Int.ofNat 0 from rfl]
     rw [(CP N n1 n2 F f1 f2 s tx ty (Int.ofNat t) fl hN hl _ _ 100 0 (by omega) (by omega)).2 (fun hc=>hb (.inr hc)),hg1,aa]
     rw [hx1];rfl
    ·unfold F26 G7
     rw [c44,aa,ae (by simpa using ht1),ae (by simpa using ht2),OB,aa]
     refine (congrArg (fun z=>ob z _) h3).trans ?_
     rw [hr,ai rfl,hg3,aa]
     refine (congrArg (fun z=>ob z _) hx3).trans ?_
     rfl
    ·exact (hx4 j hj).1.trans (hx2 j hj).1.symm
    ·obtain ⟨a1,a2⟩:=hx2 j hj
     obtain ⟨b1,b2⟩:=hx4 j hj
     rw [a1]
     exact Jk a2 b2
    ·rw [(hx2 j hj).1];exact hh j hj
    ·have:t' = t:=by have:=e1;simp at this;omega
     subst this
     exact ⟨rfl,rfl,hg2,hx2⟩
    ·rw [hcf,hNN] at h
     rcases h with k | k | k
     ·exact absurd k (by simp)
     ·exact absurd k ht2
     ·exact absurd k hb
theorem tU (n:Nat) (f:FF) (n2:Nat) (f2:FF) (hn:n<=60):∃ p q r s,F20 100 n f n2 f2=some (p,q,r,s)/\(0<n->Bds f n p q r s):=by
 obtain ⟨p,q,r,s,h1,h2,_⟩:=FJ n f hn
 refine ⟨p,q,r,s,?_,h2⟩
 unfold F20
 rw [h1,aa]
structure ck (p:Nat->CV):Prop where
 small:Jl ((p 6).len) ((p 7).len) ((p 7).el)
 shape:OU ((p 6).len) ((p 6).el) ((p 7).len) ((p 7).el)
theorem ck.box {p:Nat->CV} (V:ck p):∃ a b c d,F20 100 ((p 6).len) ((p 6).el) ((p 7).len) ((p 7).el)=some (a,b,c,d)/\Bds ((p 6).el) ((p 6).len) a b c d /\
  (-32768<=a/\a<=c/\c<=32768)/\(-32768<=b/\b<=d/\d<=32768):=by
 have h3:=V.shape.outer.big
 have h4:=V.shape.outer.small
 obtain ⟨a,b,c,d,h1,h2⟩:=tU ((p 6).len) ((p 6).el) ((p 7).len) ((p 7).el) (by omega)
 have hB:=h2 (by omega)
 refine ⟨a,b,c,d,h1,hB,?_⟩
 obtain ⟨q1,q2⟩:=hB
 obtain ⟨⟨j1,k1,e1⟩,⟨j2,k2,e2⟩,⟨j3,k3,e3⟩,⟨j4,k4,e4⟩⟩:=q2 (by omega)
 obtain ⟨n1,n2,n3,n4⟩:=V.shape.outer.near j1 k1
 obtain ⟨m1,m2,m3,m4⟩:=V.shape.outer.near j2 k2
 obtain ⟨r1,r2,r3,r4⟩:=V.shape.outer.near j3 k3
 obtain ⟨s1,s2,s3,s4⟩:=V.shape.outer.near j4 k4
 obtain ⟨w1,w2,w3,w4⟩:=q1 j1 k1
 omega
theorem ck.good {p:Nat->CV} (V:ck p):Ps p:=by
 have h4:=V.shape.outer.small
 refine ⟨by omega,fun t=>?_⟩
 obtain ⟨a,b,c,d,h1,_,h2,h3⟩:=V.box
 obtain ⟨q,g1,g2⟩:=AQ p t (by omega)
 have e:q=(a,b,c,d):=rhZ (g1.symm.trans h1)
 subst e
 have e:aL p t=szB t a b c d:=by unfold aL;rw [g2];rfl
 rw [e]
 unfold szB
 split
 ·split<;>(dsimp only;omega)
 ·dsimp only;omega
theorem ck.turned {p:Nat->CV} (V:ck p) (t:Int) (ht:t=0\/t=1):∃ n f n2 f2 lx ly hx hy,F25 100 ((p 6).len) ((p 6).el) ((p 7).len) ((p 7).el) ByteArray.empty 0 0 t false=some (n,f,n2,f2) /\
  F20 100 n f n2 f2=some (lx,ly,hx,hy)/\(-32768<=lx/\lx<=32768)/\(-32768<=ly/\ly<=32768):=by
 obtain ⟨tn,rfl,htn⟩:∃ tn:Nat,t=Int.ofNat tn/\tn<=1:=by
  rcases ht with rfl | rfl
  ·exact ⟨0,rfl,by omega⟩
  ·exact ⟨1,rfl,by omega⟩
 have h3:=V.shape.outer.big
 have h4:=V.shape.outer.small
 obtain ⟨a,c,b,d,c',d',e1,_,_,M⟩:=DQ ((p 6).len) ((p 7).len) ((p 6).el) ((p 7).el) ByteArray.empty 0 0 (Int.ofNat tn) false V.small
 have nf:¬ (lY 0 0=true\/s8 (1+(p 7).len) (cfh ((p 6).len) ((p 6).el) ((p 7).el)) 0):=by
  rintro (h | h)
  ·exact absurd h (by decide)
  ·exact Bp V.shape.outer.near (fun j hj=>(V.shape.hole j hj).valid.near) h
 obtain ⟨rfl,rfl,hA,_⟩:=M.all tn rfl (by omega) nf
 obtain ⟨lx,ly,hx,hy,e2,e3⟩:=tU ((p 6).len) c ((p 7).len) d (by omega)
 refine ⟨_,c,_,d,lx,ly,hx,hy,e1,e2,?_⟩
 obtain ⟨_,q2⟩:=e3 (by omega)
 obtain ⟨⟨j1,k1,w1⟩,⟨j2,k2,w2⟩,_⟩:=q2 (by omega)
 have key:∀ j,j<(p 6).len->(-32768<=(c j 0).int/\(c j 0).int<=32768)/\(-32768<=(c j 1).int/\(c j 1).int<=32768):=by
  intro j hj
  obtain ⟨z1,z2⟩:=hA j hj
  obtain ⟨n1,n2,n3,n4⟩:=V.shape.outer.near j hj
  rw [z1,z2]
  have:tn=0\/tn=1:=by omega
  rcases this with rfl | rfl
  ·show (-32768<=w64 (((p 6).el j 0).int+0)/\w64 (((p 6).el j 0).int+0)<=32768)/\(-32768<=w64 (((p 6).el j 1).int+0)/\w64 (((p 6).el j 1).int+0)<=32768)
   rw [aC (by omega) (by omega),aC (by omega) (by omega)]
   omega
  ·show (-32768<=w64 (w64 (0-((p 6).el j 1).int)+0)/\w64 (w64 (0-((p 6).el j 1).int)+0)<=32768)/\(-32768<=w64 (((p 6).el j 0).int+0)/\w64 (((p 6).el j 0).int+0)<=32768)
   rw [aC (n:=0-((p 6).el j 1).int) (by omega) (by omega),aC (by omega) (by omega),aC (by omega) (by omega)]
   omega
 rw [<- w1,<- w2]
 exact ⟨(key j1 k1).1,(key j2 k2).2⟩
def aW (p:Nat->CV) (t:Int):Int × Int:=match F25 100 ((p 6).len) ((p 6).el) ((p 7).len) ((p 7).el) ByteArray.empty 0 0 t false with
 | some z=>match F20 100 z.1 z.2.1 z.2.2.1 z.2.2.2 with
  | some y=>(y.1,y.2.1)
  | none=>(0,0)
 | none=>(0,0)
def mz (p:Nat->CV) (t x y:Int):Prop:=(-32768<=x-(aW p t).1/\x-(aW p t).1<=32768)/\(-32768<=y-(aW p t).2/\y-(aW p t).2<=32768)
theorem ck.lo {p:Nat->CV} (V:ck p) (t:Int) (ht:t=0\/t=1):(-32768<=(aW p t).1/\(aW p t).1<=32768)/\(-32768<=(aW p t).2/\(aW p t).2<=32768):=by
 obtain ⟨n,f,n2,f2,lx,ly,hx,hy,e1,e2,e3⟩:=V.turned t ht
 unfold aW
 rw [e1]
 dsimp only
 rw [e2]
 exact e3
theorem Es {p q:Nat->CV} (V:ck p) (E:oQ q p) (t x y:Int) (ht:t=0\/t=1) (hx : -1099511627776<=x/\x<=1099511627776) (hy : -1099511627776<=y/\y<=1099511627776) :
  ∃ b,Ec 100 q t x y=some ((p 0).str,x-(aW p t).1,y-(aW p t).2,t,false,b)/\(b=true↔mz p t x y):=by
 have L:=V.lo t ht
 obtain ⟨n,f,n2,f2,lx,ly,hx',hy',e1,e2,_⟩:=V.turned t ht
 have el:aW p t=(lx,ly):=by
  unfold aW
  rw [e1]
  dsimp only
  rw [e2]
 unfold Ec mz
 rw [E.ol,E.oe,E.hl,E.he,e1,aa]
 dsimp only
 rw [e2,aa,E.id,el]
 rw [el] at L
 dsimp only at L ⊢
 rw [aC (n:=x-lx) (by omega) (by omega),aC (n:=y-ly) (by omega) (by omega),eo,aa]
 by_cases c1 : -32768<=x-lx/\x-lx<=32768
 ·rw [ae (by simp [c1.1,c1.2]),eo,aa]
  refine ⟨_,rfl,?_⟩
  simp only [qaZ,decide_eq_true_eq]
  exact ⟨fun h=>⟨c1,h⟩,fun h=>h.2⟩
 ·rw [ai (by simp only [beq_eq_false_iff_ne,ne_eq,Bool.not_eq_true,Bool.and_eq_false_iff,decide_eq_false_iff_not];omega)]
  exact ⟨false,rfl,by simp only [Bool.false_eq_true,false_iff];exact fun h=>c1 h.1⟩
theorem en.congr {len wid:Int} {n:Nat} {r r' : FF} {x y l w gap:Int} (e:∀ j c,j<n->c<4->bx r' j c=bx r j c) (h:en len wid n r x y l w gap):en len wid n r' x y l w gap:=by
 obtain ⟨h1,h2,h3,h4⟩:=h
 refine ⟨h1,fun j hj=>?_,h3,fun j hj=>?_⟩
 ·have:=h2 j hj
  unfold NrJ at this ⊢
  rw [e j 0 hj (by omega),e j 1 hj (by omega),e j 2 hj (by omega),e j 3 hj (by omega)];exact this
 ·have:=h4 j hj
  unfold oq at this ⊢
  rw [e j 0 hj (by omega),e j 1 hj (by omega),e j 2 hj (by omega),e j 3 hj (by omega)];exact this
abbrev cN (ch:FF) (i:Nat):Nat:=((ch i 0).int).toNat
def K8 (ch R:FF):FF:=fun j c=>R (cN ch j) c
def OkI (f:FF) (tl:List Int) (ch R:FF) (gap L W:Int) (i:Nat):Prop :=
 mz (f (cN ch i)) (tl.getD (cN ch i) 0) (bx R (cN ch i) 0) (bx R (cN ch i) 1) /\
 en L W i (K8 ch R) (bx R (cN ch i) 0) (bx R (cN ch i) 1) (bx R (cN ch i) 2-bx R (cN ch i) 0) (bx R (cN ch i) 3-bx R (cN ch i) 1) gap
structure FO (f:FF) (tl:List Int) (ch R S:FF) (i:Nat):Prop where
 id:(S i 0).str=(f (cN ch i) 0).str
 x:(S i 1).int=bx R (cN ch i) 0-(aW (f (cN ch i)) (tl.getD (cN ch i) 0)).1
 y:(S i 2).int=bx R (cN ch i) 1-(aW (f (cN ch i)) (tl.getD (cN ch i) 0)).2
 turn:(S i 3).int=tl.getD (cN ch i) 0
 flip:(S i 4).bool=false
structure BX (n:Nat) (f:FF) (tl:List Int) (k:Nat) (ch R:FF):Prop where
 n4:n<=4
 tlen:tl.length=n
 k4:k<=4
 part:∀ i,i<n->ck (f i)
 mem:∀ i,i<k->0<=(ch i 0).int/\(ch i 0).int<n
 turn:∀ i,i<k->tl.getD (cN ch i) 0=0\/tl.getD (cN ch i) 0=1
 rng:∀ i,i<k->∀ c,c<4->0<=bx R (cN ch i) c/\bx R (cN ch i) c<=1099511627776
theorem JY {ρ:Type} {n:Nat} {f:FF} {tl:List Int} {k:Nat} {ch R:FF} (H:BX n f tl k ch R) (a b e:ByteArray) (c L W gap:Int) (k0:Option ρ) (k1:Nat->FF->Option ρ):∀ (m i:Nat) (S T:FF),k<m+i->i<=k ->
  (∀ j,j<i->FO f tl ch R S j)->(∀ j c,j<i->c<4->T j c=CV.i .i64 (bx R (cN ch j) c)) ->
  (∃ S',ma 100 n f tl.length (fL tl) n R gap k ch (Int.ofNat k) a b c L W e m i (Int.ofNat i) S T k0 k1=k1 k S'/\(∀ j,j<k->FO f tl ch R S' j)/\∀ j,i<=j->j<k->OkI f tl ch R gap L W j) \/
  (ma 100 n f tl.length (fL tl) n R gap k ch (Int.ofNat k) a b c L W e m i (Int.ofNat i) S T k0 k1=k0/\∃ j,j<k/\¬ OkI f tl ch R gap L W j):=by
 intro m
 induction m with
 | zero=>intro i S T h1 h2;omega
 | succ m ih =>
  intro i S T h1 h2 hS hT
  unfold ma
  rw [aE,ax,aq]
  by_cases h:i<k
  ·obtain ⟨m0,m1⟩:=H.mem i h
   have hb:inb ((ch i 0).int) n=true:=dx m0 m1
   have hj:cN ch i<n:=by unfold cN;omega
   have g:=H.rng i h
   have g0:=g 0 (by omega)
   have g1:=g 1 (by omega)
   have g2:=g 2 (by omega)
   have g3:=g 3 (by omega)
   have hk4:=H.k4
   obtain ⟨z,e1,hz⟩:=Es (q:=au [(.s ((f (cN ch i) 0).str)),(.i .i64 ((f (cN ch i) 1).int)),(.i .i64 ((f (cN ch i) 2).int)),(.s ((f (cN ch i) 3).str)),(.s ((f (cN ch i) 4).str)),(.i .i64 ((f (cN ch i) 5).int)),(.ro false (.pr (.int .i64) (.pr (.int .i64) .nil)) ((f (cN ch i) 6).len) ((f (cN ch i) 6).el)),(.ro false (.pr (.sl (.pr (.int .i64) (.pr (.int .i64) .nil))) .nil) ((f (cN ch i) 7).len) ((f (cN ch i) 7).el)),(.s ((f (cN ch i) 8).str)),(.i .i64 ((f (cN ch i) 9).int)),(.i .i64 ((f (cN ch i) 10).int)),(.i .i64 ((f (cN ch i) 11).int)),(.i .i64 ((f (cN ch i) 12).int)),(.i .i64 ((f (cN ch i) 13).int)),(.i .i64 ((f (cN ch i) 14).int)),(.i .i64 ((f (cN ch i) 15).int)),(.i .i64 ((f (cN ch i) 16).int)),(.i .i64 ((f (cN ch i) 17).int))])
    (H.part _ hj) ⟨rfl,rfl,rfl,rfl,rfl⟩ (tl.getD (cN ch i) 0) (bx R (cN ch i) 0) (bx R (cN ch i) 1) (H.turn i h) (by omega) (by omega)
   rw [ae (qcZ h),ae (qcZ h),ae hb,H.tlen,ae hb,ae hb]
   have e1':=e1
   rw [show (fL tl (Int.toNat ((ch i 0).int)) 0).int=tl.getD (cN ch i) 0 from rfl]
   rw [e1,aa]
   cases z with
   | false =>
    rw [ai (by rfl)]
    exact .inr ⟨rfl,i,h,fun q=>by have:=hz.2 q.1;cases this⟩
   | true =>
    obtain ⟨y,e2,hy⟩:=Fs L W i T (bx R (cN ch i) 0) (bx R (cN ch i) 1) (bx R (cN ch i) 2-bx R (cN ch i) 0) (bx R (cN ch i) 3-bx R (cN ch i) 1) gap (by omega)
    rw [ae (by rfl),ae hb,ae hb,ae hb,ae hb,ae hb,aC (n:=bx R (cN ch i) 2-bx R (cN ch i) 0) (by omega) (by omega),aC (n:=bx R (cN ch i) 3-bx R (cN ch i) 1) (by omega) (by omega),e2,aa]
    have hTT:∀ j c,j<i->c<4->bx T j c=bx (K8 ch R) j c:=fun j c q1 q2=>by
     unfold bx
     rw [hT j c q1 q2];rfl
    cases y with
    | false =>
     rw [ae (by rfl)]
     refine .inr ⟨rfl,i,h,fun q=>?_⟩
     have:=hy.2 (q.2.congr hTT)
     cases this
    | true =>
     have hOk:OkI f tl ch R gap L W i:=⟨hz.1 rfl,(hy.1 rfl).congr fun j c q1 q2=>(hTT j c q1 q2).symm⟩
     rw [ai (by rfl),ae (lR (by omega)),ae (lR (by omega)),ae hb,ay (by omega)]
     have:=ih (i+1) (aB i S (aG 5 [(.s ((f (cN ch i) 0).str)),(.i .i64 (bx R (cN ch i) 0-(aW (f (cN ch i)) (tl.getD (cN ch i) 0)).1)),(.i .i64 (bx R (cN ch i) 1-(aW (f (cN ch i)) (tl.getD (cN ch i) 0)).2)),(.i .i64 (tl.getD (cN ch i) 0)),(.b false)]))
      (aB i T (aG 4 [(.i .i64 (bx R (cN ch i) 0)),(.i .i64 (bx R (cN ch i) 1)),(.i .i64 (bx R (cN ch i) 2)),(.i .i64 (bx R (cN ch i) 3))])) (by omega) (by omega) (fun j hj=>?_) (fun j c hj hc=>?_)
     ·rw [H.tlen] at this
      rcases this with ⟨S',e3,hS',hO⟩ | hno
      ·refine .inl ⟨S',e3,hS',fun j h5 h6=>?_⟩
       by_cases hji:j=i
       ·rw [hji];exact hOk
       ·exact hO j (by omega) h6
      ·exact .inr hno
     ·by_cases hji:j<i
      ·have q:=hS j hji
       exact ⟨by rw [dw _ _ _ _ _ hji];exact q.id,by rw [dw _ _ _ _ _ hji];exact q.x,by rw [dw _ _ _ _ _ hji];exact q.y,by rw [dw _ _ _ _ _ hji];exact q.turn,by rw [dw _ _ _ _ _ hji];exact q.flip⟩
      ·have hje:j=i:=by omega
       subst hje
       refine ⟨?_,?_,?_,?_,?_⟩<;>(rw [dk _ _ _ _ _ (rkZ _),Nat.sub_self];rfl)
     ·by_cases hji:j<i
      ·rw [dw _ _ _ _ _ hji];exact hT j c hji hc
      ·have hje:j=i:=by omega
       subst hje
       rw [dk _ _ _ _ _ (rkZ _),Nat.sub_self]
       match c,hc with
       | 0,_=>rfl
       | 1,_=>rfl
       | 2,_=>rfl
       | 3,_=>rfl
  ·rw [ai (qeZ h)]
   have:i=k:=by omega
   subst this
   exact .inl ⟨S,rfl,hS,fun j h5 h6=>by omega⟩
theorem MW {n:Nat} {f:FF} {tl:List Int} {k:Nat} {ch R:FF} (H:BX n f tl k ch R) (a b e:ByteArray) (c L W gap:Int) :
  (∃ S,Hd 100 a b c L W e n f tl.length (fL tl) k ch n R gap=some (a,gap,k,S,true)/\(∀ j,j<k->FO f tl ch R S j)/\∀ j,j<k->OkI f tl ch R gap L W j) \/
  (Hd 100 a b c L W e n f tl.length (fL tl) k ch n R gap=some (ByteArray.empty,0,0,(fun _ _=>.any),false)/\∃ j,j<k/\¬ OkI f tl ch R gap L W j):=by
 unfold Hd Jt
 rcases JY H a b e c L W gap (some (true,ByteArray.empty,0,0,(fun _ _=>CV.any),false)) (fun x58 x59=>(some (false,a,gap,x58,x59,true))) 100 0 (fun _ _=>.any) (fun _ _=>.any) (by have:=H.k4;omega) (by omega) (fun j hj=>by omega) (fun j c hj=>by omega) with ⟨S,h1,h2,h3⟩ | ⟨h1,h2⟩
 ·refine .inl ⟨S,?_,h2,fun j hj=>h3 j (by omega) hj⟩
  refine (congrArg (fun z=>ob z _) h1).trans ?_
  rfl
 ·refine .inr ⟨?_,h2⟩
  refine (congrArg (fun z=>ob z _) h1).trans ?_
  rfl
abbrev FF':=Nat->Nat->CV
abbrev Sp:=ByteArray × Int × Int × Int × Bool
abbrev Sh:=Nat × (Nat->Nat->CV) × Nat × (Nat->Nat->CV)
def sp (S:FF') (j:Nat):Sp:=((S j 0).str,(S j 1).int,(S j 2).int,(S j 3).int,(S j 4).bool)
def eqS (a b:ByteArray):Bool:=ByteArray.toList a==ByteArray.toList b
def vG (PF:FF') (s:ByteArray):Nat->Nat->Int
 | 0,_=>-1
 | m+1,i=>bif eqS ((PF i 0).str) s then Int.ofNat i else vG PF s m (i+1)
def fd (P:Nat) (PF:FF') (s:ByteArray):Int:=vG PF s P 0
theorem BJ (PF:FF') (s:ByteArray):∀ m i,vG PF s m i = -1\/∃ k:Nat,i<=k/\k<i+m/\vG PF s m i=Int.ofNat k/\eqS ((PF k 0).str) s=true
 | 0,i=>.inl rfl
 | m+1,i=>by
  unfold vG
  cases h:eqS ((PF i 0).str) s with
  | true=>exact .inr ⟨i,rkZ i,by omega,rfl,h⟩
  | false =>
   rcases BJ PF s m (i+1) with h1 | ⟨k,k1,k2,k3,k4⟩
   ·exact .inl h1
   ·exact .inr ⟨k,by omega,by omega,k3,k4⟩
theorem tP (P:Nat) (PF:FF') (s:ByteArray):fd P PF s = -1\/∃ k:Nat,k<P/\fd P PF s=Int.ofNat k/\eqS ((PF k 0).str) s=true:=by
 rcases BJ PF s P 0 with h | ⟨k,k1,k2,k3,k4⟩
 ·exact .inl h
 ·exact .inr ⟨k,by omega,k3,k4⟩
theorem DZ (P:Nat) (PF:FF') (s:ByteArray) (hP:P<=90):∀ (m i:Nat),P<m+i->i<=P->m9 100 P PF (au [.s s]) (Int.ofNat P) m (Int.ofNat i) (fun x=>some x) (some (-1))=some (vG PF s (P-i) i):=by
 intro m
 induction m with
 | zero=>intro i h1 h2;omega
 | succ m ih =>
  intro i h1 h2
  unfold m9
  rw [aE,ax,aq]
  by_cases h:i<P
  ·have e:PD 100 (au (pj kR0 (PF i))) (au [.s s])=some (eqS ((PF i 0).str) s):=rfl
   rw [ae (qcZ h),ae (qcZ h),e,aa,show P-i=(P-(i+1))+1 from by omega,vG]
   cases hq:eqS ((PF i 0).str) s with
   | true=>rfl
   | false=>rw [ai rfl,ai rfl,ay (by omega)];exact ih (i+1) (by omega) (by omega)
  ·rw [ai (qeZ h),show P-i=0 from by omega];rfl
theorem Ja (P:Nat) (PF:FF') (s:ByteArray) (hP:P<=90):PA 100 P PF (au [.s s])=some (fd P PF s):=DZ P PF s hP 100 0 (by omega) (by omega)
theorem GU {P:Nat} {PF:FF'} {s:ByteArray} (hP:P<=90) (h:fd P PF s = -1):KP 100 P PF s=some (ByteArray.empty,0,0,ByteArray.empty,ByteArray.empty,0,0,(fun _ _=>.any),0,(fun _ _=>.any),ByteArray.empty,0,0,0,0,0,0,0,0,0,false):=by
 unfold KP FR
 rw [Ja P PF s hP,aa,h,ae (by rfl)]
 rfl
theorem Fw {P:Nat} {PF:FF'} {s:ByteArray} {k:Nat} (hP:P<=90) (hk:k<P) (h:fd P PF s=Int.ofNat k):KP 100 P PF s=some ((PF k 0).str,(PF k 1).int,(PF k 2).int,(PF k 3).str,(PF k 4).str,(PF k 5).int,(PF k 6).len,(PF k 6).el,(PF k 7).len,(PF k 7).el,(PF k 8).str,(PF k 9).int,(PF k 10).int,(PF k 11).int,(PF k 12).int,(PF k 13).int,(PF k 14).int,(PF k 15).int,(PF k 16).int,(PF k 17).int,true):=by
 unfold KP FR
 rw [Ja P PF s hP,aa,h,ai (qeZ (by simp)),ax,ae (qcZ hk),aq]
 rfl
structure AE (P:Nat) (PF:FF'):Prop where
 parts:P<=20
 outer:∀ j,j<P->(PF j 6).len<=12
 holes:∀ j,j<P->(PF j 7).len<=4
 hole:∀ j,j<P->∀ i,i<(PF j 7).len->((PF j 7).el i 0).len<=12
theorem AE.small {P:Nat} {PF:FF'} (h:AE P PF) {j:Nat} (hj:j<P):Jl ((PF j 6).len) ((PF j 7).len) ((PF j 7).el) :=
 ⟨by have:=h.outer j hj;omega,by have:=h.holes j hj;omega,fun i hi=>by have:=h.hole j hj i hi;omega⟩
theorem Va {ρ:Type} (N a b:Nat) (F c d:Nat->Nat->CV) (hN:N<=13) (k:Int->Option ρ):∀ (m i:Nat) (s:Int),N<m+i->i<=N->∃ x,oW 100 N F (Int.ofNat N) a c b d m s (Int.ofNat i) k=k x:=by
 intro m
 induction m with
 | zero=>intro i s h1 h2;omega
 | succ m ih =>
  intro i s h1 h2
  unfold oW
  rw [aE,ax,aq]
  by_cases h:i<N
  ·obtain ⟨x,hx,_⟩:=tX ((F i 0).len) ((F i 0).el)
   rw [ae (qcZ h),ae (qcZ h),hx,aa,ay (by omega)]
   exact ih (i+1) _ (by omega) (by omega)
  ·rw [ai (qeZ h)]
   exact ⟨s,rfl⟩
theorem OD (n1:Nat) (f1:Nat->Nat->CV) (n2:Nat) (f2:Nat->Nat->CV) (hn:n2<=12):∃ x,F18 100 n1 f1 n2 f2=some x:=by
 unfold F18
 obtain ⟨c,h1,_,_⟩:=mi n1 n2 f1 f2
 rw [h1,aa]
 have c42:F42 100 n1 f1 n2 f2=some (1+n2,aB 1 (aG 1 [(.ro false (.pr (.int .i64) (.pr (.int .i64) .nil)) n1 f1)]) f2):=by
  unfold F42
  rw [ae (by rw [Nat.ble_eq];omega)]
 by_cases hc:c=0
 ·rw [ai (by simpa using hc),c42,aa,show (0:Int)=Int.ofNat 0 from rfl]
  obtain ⟨x,hx⟩:=Va (1+n2) n1 n2 (aB 1 (aG 1 [(.ro false (.pr (.int .i64) (.pr (.int .i64) .nil)) n1 f1)]) f2) f1 f2 (by omega) (fun x26=>some x26) 100 0 (Int.ofNat 0) (by omega) (by omega)
  exact ⟨x,hx⟩
 ·rw [ae (by simpa using hc)]
  exact ⟨_,rfl⟩
def vN (PF:FF') (k:Nat):Int:=(F18 100 ((PF k 6).len) ((PF k 6).el) ((PF k 7).len) ((PF k 7).el)).getD 0
theorem BP {P:Nat} {PF:FF'} (hP:AE P PF) {k:Nat} (hk:k<P):F18 100 ((PF k 6).len) ((PF k 6).el) ((PF k 7).len) ((PF k 7).el)=some (vN PF k):=by
 obtain ⟨x,hx⟩:=OD ((PF k 6).len) ((PF k 6).el) ((PF k 7).len) ((PF k 7).el) (by have:=hP.holes k hk;omega)
 have:vN PF k=x:=by unfold vN;rw [hx];rfl
 rw [this]
 exact hx
def pkN (P:Nat) (PF:FF') (s:ByteArray):Nat:=(fd P PF s).toNat
def ua (P:Nat) (PF S:FF'):Int->Nat->Nat->Int
 | acc,0,_=>acc
 | acc,m+1,j=>ua P PF S (bif decide (fd P PF ((S j 0).str)<0) then acc else w64 (acc+vN PF (pkN P PF ((S j 0).str)))) m (j+1)
theorem Ej {P:Nat} {PF S S' : FF'}:∀ {m j:Nat} {acc:Int},(∀ t,j<=t->t<j+m->(S' t 0).str=(S t 0).str)->ua P PF S' acc m j=ua P PF S acc m j
 | 0,_,_,_=>rfl
 | m+1,j,acc,h=>by
  unfold ua
  have e:=h j (rkZ j) (by omega)
  rw [e]
  exact Ej fun t a b=>h t (by omega) (by omega)
theorem Dm {ρ:Type} (P n:Nat) (PF S:FF') (hP:AE P PF) (hn:n<=90) (a:ByteArray) (b:Int) (k0:Int->Option ρ):∀ (m j:Nat) (acc:Int),n<m+j->j<=n->mh 100 P PF n S (Int.ofNat n) a b m acc (Int.ofNat j) k0=k0 (ua P PF S acc (n-j) j):=by
 have hP':=hP.parts
 intro m
 induction m with
 | zero=>intro j acc h1 h2;omega
 | succ m ih =>
  intro j acc h1 h2
  unfold mh
  rw [aE,ax,aq]
  by_cases h:j<n
  ·rw [ae (qcZ h),ae (qcZ h),ay (by omega),show n-j=(n-(j+1))+1 from by omega,ua]
   rcases tP P PF ((S j 0).str) with hf | ⟨k,hk,hf,_⟩
   ·rw [GU (by omega) hf,aa,ai (by rfl),hf,ih (j+1) acc (by omega) (by omega)];rfl
   ·have hpk:pkN P PF ((S j 0).str)=k:=by unfold pkN;rw [hf];rfl
    rw [Fw (by omega) hk hf,aa]
    dsimp only
    rw [ae rfl,BP hP hk,aa,hf,hpk,ih (j+1) _ (by omega) (by omega),ai (qeZ (by simp))]
  ·rw [ai (qeZ h),show n-j=0 from by omega];rfl
def dC (P:Nat) (PF S:FF') (n:Nat):Int:=ua P PF S 0 n 0
theorem Dn {P n:Nat} {PF S:FF'} (hP:AE P PF) (hn:n<=32) (a:ByteArray) (b:Int):Ed 100 a b n S P PF=some (dC P PF S n):=by
 unfold Ed
 have hn' : ¬ (Int.ofNat n)>32:=by show ¬ (n:Int)>32;omega
 rw [ai (qeZ hn')]
 exact Dm P n PF S hP (by omega) a b (fun x28=>some x28) 100 0 0 (by omega) (by omega)
theorem vV {P n:Nat} {PF S S' : FF'} (h:∀ t,t<n->(S' t 0).str=(S t 0).str):dC P PF S' n=dC P PF S n:=Ej fun t _ q=>h t (by omega)
structure Chs (tl:List Int) (i k:Nat) (c:FF):Prop where
 le:k<=i
 mem:∀ t,t<k->(0<=(c t 0).int/\(c t 0).int<i)/\0<=tl.getD (cN c t) 0
 asc:∀ s t,s<t->t<k->(c s 0).int<(c t 0).int
 all:∀ j:Nat,j<i->0<=tl.getD j 0->∃ t,t<k/\(c t 0).int=j
def chN (tl:List Int):Nat->Nat->Nat->FF->Nat × FF
 | 0,_,k,c=>(k,c)
 | m+1,i,k,c=>if 0<=tl.getD i 0 then chN tl m (i+1) (k+1) (aB k c (aG 1 [(.i .i64 (Int.ofNat i))])) else chN tl m (i+1) k c
theorem oM {ρ:Type} (tl:List Int) (ht:tl.length<=4) (a1 a2:ByteArray) (a3 a4 a5:Int) (a6:ByteArray) (a7:Nat) (a8:FF) (a9:Int) (a10:Nat) (a11:FF) (a12:ByteArray) (a13:Int) (a14:Nat) (a15:FF) (a16:Int):∀ (m i k:Nat) (c:FF),tl.length<m+i->i<=tl.length->Chs tl i k c ->
  ∃ k' c',(k',c')=chN tl (tl.length-i) i k c/\(∀ k0:Nat->FF->Option ρ,jR 100 tl.length (fL tl) (Int.ofNat tl.length) a1 a2 a3 a4 a5 a6 a7 a8 a9 a10 a11 a12 a13 a14 a15 a16 m (Int.ofNat i) k c k0=k0 k' c')/\Chs tl tl.length k' c':=by
 intro m
 induction m with
 | zero=>intro i k c h1 h2;omega
 | succ m ih =>
  intro i k c h1 h2 hC
  by_cases h:i<tl.length
  ·have e:(fL tl i 0).int=tl.getD i 0:=rfl
   by_cases q:tl.getD i 0>=0
   ·have hle:=hC.le
    have hN:Chs tl (i+1) (k+1) (aB k c (aG 1 [(.i .i64 (Int.ofNat i))])):=by
     have new:(aB k c (aG 1 [(.i .i64 (Int.ofNat i))]) k 0).int=(i:Int):=by rw [dk _ _ _ _ _ (rkZ _),Nat.sub_self];rfl
     have old:∀ t,t<k->(aB k c (aG 1 [(.i .i64 (Int.ofNat i))]) t 0).int=(c t 0).int:=fun t w=>by rw [dw _ _ _ _ _ w]
     refine ⟨by omega,fun t w=>?_,fun s t w1 w2=>?_,fun j w1 w2=>?_⟩
     ·by_cases hk:t<k
      ·unfold cN
       rw [old t hk]
       have:=hC.mem t hk
       exact ⟨⟨this.1.1,by omega⟩,this.2⟩
      ·have:t=k:=by omega
       subst this
       unfold cN
       rw [new]
       exact ⟨by omega,by simpa using q⟩
     ·by_cases hk:t<k
      ·rw [old t hk,old s (by omega)];exact hC.asc s t w1 hk
      ·have:t=k:=by omega
       subst this
       rw [new,old s w1]
       exact (hC.mem s w1).1.2
     ·by_cases hj:j=i
      ·subst hj;exact ⟨k,by omega,new⟩
      ·obtain ⟨t,u1,u2⟩:=hC.all j (by omega) w2
       exact ⟨t,by omega,by rw [old t u1];exact u2⟩
    obtain ⟨k',c',e0,e1,hC'⟩:=ih (i+1) (k+1) _ (by omega) (by omega) hN
    refine ⟨k',c',by rw [show tl.length-i=(tl.length-(i+1))+1 from by omega,chN,if_pos q];exact e0,fun k0=>?_,hC'⟩
    unfold jR
    rw [aE,ax,aq,ae (qcZ h),ae (qcZ h),e,ae (qcZ q),ae (lR (by omega)),ay (by omega)]
    exact e1 k0
   ·have hN:Chs tl (i+1) k c:=⟨by have:=hC.le;omega,fun t w=>⟨⟨(hC.mem t w).1.1,by have:=(hC.mem t w).1.2;omega⟩,(hC.mem t w).2⟩,hC.asc,fun j w1 w2=>by
     by_cases hj:j=i
     ·subst hj;exact absurd w2 q
     ·exact hC.all j (by omega) w2⟩
    obtain ⟨k',c',e0,e1,hC'⟩:=ih (i+1) k c (by omega) (by omega) hN
    refine ⟨k',c',by rw [show tl.length-i=(tl.length-(i+1))+1 from by omega,chN,if_neg q];exact e0,fun k0=>?_,hC'⟩
    unfold jR
    rw [aE,ax,aq,ae (qcZ h),ae (qcZ h),e,ai (qeZ q),ay (by omega)]
    exact e1 k0
  ·have:i=tl.length:=by omega
   subst this
   refine ⟨k,c,by rw [Nat.sub_self];rfl,fun k0=>?_,hC⟩
   unfold jR
   rw [aE,ai (qeZ h)]
structure jq (n:Nat) (f:FF) (tl:List Int) (k:Nat) (c:FF) (first second:List Int):Prop where
 n4:n<=4
 part:∀ i,i<n->ck (f i)
 vec:okV n tl=true
 chs:Chs tl n k c
 p1:first.Perm (liL k c)
 p2:second.Perm (liL k c)
theorem dE (k:Nat) (c:FF):(liL k c).length=k:=by simp [liL]
theorem j6 {k:Nat} {c:FF} {t:Nat} (h:t<k):(liL k c)[t]?=some ((c t 0).int):=by
 unfold liL
 rw [qhZ,raZ h];rfl
theorem jq.tlen {n k:Nat} {f c:FF} {tl first second:List Int} (H:jq n f tl k c first second):tl.length=n:=by
 have:=H.vec
 unfold okV at this
 rw [qaZ] at this
 exact qbZ this.1
theorem tJ {n:Nat} {tl:List Int} (h:okV n tl=true) {i:Nat} (hi:i<n) (h0:0<=tl.getD i 0):tl.getD i 0=0\/tl.getD i 0=1:=by
 unfold okV at h
 rw [qaZ] at h
 have hl:=qbZ h.1
 have h2:=qiZ.1 h.2 (tl.getD i 0) (by rw [qdZ,qgZ (by omega)];exact List.getElem_mem _)
 simp only [Bool.or_eq_true,beq_iff_eq] at h2
 omega
theorem jq.place {n k:Nat} {f c:FF} {tl first second:List Int} (H:jq n f tl k c first second):second.length=k/\first.length=k /\
  (∀ t,t<k->∃ i,i<k/\second.getD t 0=(c i 0).int)/\(∀ i,i<k->∃ t,t<k/\second.getD t 0=(c i 0).int)/\(∀ s t,s<t->t<k->second.getD s 0≠second.getD t 0):=by
 have l2:=H.p2.length_eq
 have l1:=H.p1.length_eq
 rw [dE] at l1 l2
 have nd:(liL k c).Nodup:=by
  rw [rdZ,reZ]
  intro i j hi hj hij
  rw [dE] at hi hj
  have e1:=j6 (c:=c) hi
  have e2:=j6 (c:=c) hj
  rw [qgZ (by rw [dE];exact hi)] at e1
  rw [qgZ (by rw [dE];exact hj)] at e2
  rw [rhZ e1,rhZ e2]
  have:=H.chs.asc i j hij hj
  omega
 have nd2:second.Nodup:=H.p2.nodup_iff.2 nd
 refine ⟨l2,l1,fun t ht=>?_,fun i hi=>?_,fun s t hst ht=>?_⟩
 ·have hm:second.getD t 0∈liL k c:=H.p2.subset (by rw [qdZ,qgZ (by omega)];exact List.getElem_mem _)
  obtain ⟨i,hi,e⟩:=List.getElem_of_mem hm
  rw [dE] at hi
  have e1:=j6 (c:=c) hi
  rw [qgZ (by rw [dE];exact hi)] at e1
  exact ⟨i,hi,e.symm.trans (rhZ e1)⟩
 ·have hm:(c i 0).int∈second:=H.p2.symm.subset (by
   have e1:=j6 (c:=c) hi
   rw [qgZ (by rw [dE];exact hi)] at e1
   rw [<- rhZ e1];exact List.getElem_mem _)
  obtain ⟨t,ht,e⟩:=List.getElem_of_mem hm
  exact ⟨t,by omega,by rw [qdZ,qgZ ht];exact e⟩
 ·rw [rdZ,reZ] at nd2
  have:=nd2 s t (by omega) (by omega) hst
  rw [qdZ,qgZ (by omega),qdZ,qgZ (by omega)]
  exact this
theorem Gq {n k:Nat} {f c:FF} {tl first second:List Int} (H:jq n f tl k c first second) (gap:Int) (hgap:0<=gap/\gap<=500) :
  ∃ R,FW 100 n f tl.length (fL tl) first.length (fL first) second.length (fL second) gap=some (n,R)/\Pk f tl first second gap second.length R:=by
 obtain ⟨l2,l1,p1,p2,p3⟩:=H.place
 have hk:=H.chs.le
 have hn:=H.n4
 obtain ⟨R,e,hP⟩:=M0 n f tl first second gap H.n4 H.tlen (by omega) (by omega) (fun t ht=>by
  obtain ⟨i,hi,e⟩:=p1 t (by omega)
  rw [e];exact (H.chs.mem i hi).1) (fun s t h1 h2=>p3 s t h1 (by omega)) hgap (fun i hi=>(H.part i hi).good) (fun x100=>(some ((Int.toNat (Int.ofNat n)),x100))) 100 0 (fun _ j=>au [(.i .i64 0),(.i .i64 0),(.i .i64 0),(.i .i64 0)] j) (by omega) (by omega)
  ⟨fun t q=>by omega,fun t q=>by omega,fun s t q1 q2=>by omega,fun X Y q1 q2 t q=>by omega⟩
 refine ⟨R,?_,hP⟩
 unfold FW
 have hc:(decide (0<=(Int.ofNat n))&&decide ((Int.ofNat n)<=(Int.ofNat n))&&decide ((Int.ofNat n)<=1073741824)&&true)=true:=by
  have h1:(0:Int)<=Int.ofNat n:=by show (0:Int)<=(n:Int);omega
  have h2:(Int.ofNat n)<=1073741824:=by show (n:Int)<=1073741824;omega
  rw [qcZ h1,qcZ h2,qcZ (Int.le_refl _)];rfl
 rw [ae hc]
 exact e
structure PkC (f:FF) (tl:List Int) (gap:Int) (k:Nat) (c R:FF):Prop where
 lo:∀ i,i<k->(gap<=bx R (cN c i) 0/\bx R (cN c i) 0<=1000000)/\(gap<=bx R (cN c i) 1/\bx R (cN c i) 1<=1000000)
 hi:∀ i,i<k->bx R (cN c i) 2=bx R (cN c i) 0+(aL (f (cN c i)) (tl.getD (cN c i) 0)).1/\bx R (cN c i) 3=bx R (cN c i) 1+(aL (f (cN c i)) (tl.getD (cN c i) 0)).2
 sep:∀ i j,i<k->j<k->i≠j->(bx R (cN c i) 2+gG gap<=bx R (cN c j) 0\/bx R (cN c i) 3+gG gap<=bx R (cN c j) 1)\/(bx R (cN c j) 2+gG gap<=bx R (cN c i) 0\/bx R (cN c j) 3+gG gap<=bx R (cN c i) 1)
theorem Pk.chosen {n k:Nat} {f c:FF} {tl first second:List Int} (H:jq n f tl k c first second) {gap:Int} {R:FF} (h:Pk f tl first second gap second.length R):PkC f tl gap k c R:=by
 obtain ⟨l2,l1,p1,p2,p3⟩:=H.place
 have hk:=H.chs.le
 have hn:=H.n4
 refine ⟨fun i hi=>?_,fun i hi=>?_,fun i j hi hj hij=>?_⟩
 ·obtain ⟨t,ht,e⟩:=p2 i hi
  have:=h.lo t (by omega)
  rw [e] at this
  unfold cN
  omega
 ·obtain ⟨t,ht,e⟩:=p2 i hi
  have:=h.hi t (by omega)
  rw [e] at this
  exact this
 ·obtain ⟨s,hs,e1⟩:=p2 i hi
  obtain ⟨t,ht,e2⟩:=p2 j hj
  have hne:s≠t:=by
   intro hst
   subst hst
   rw [e1] at e2
   by_cases q:i<j
   ·have:=H.chs.asc i j q hj;omega
   ·have:=H.chs.asc j i (by omega) hi;omega
  by_cases q:s<t
  ·have:=h.sep s t q (by omega)
   rw [e1,e2] at this
   by_cases b:Bef first ((c i 0).int) ((c j 0).int)
   ·exact .inl (.inl (this.1 b))
   ·exact .inl (.inr (this.2 b))
  ·have:=h.sep t s (by omega) (by omega)
   rw [e1,e2] at this
   by_cases b:Bef first ((c j 0).int) ((c i 0).int)
   ·exact .inr (.inl (this.1 b))
   ·exact .inr (.inr (this.2 b))
theorem PkC.ok {n k:Nat} {f c:FF} {tl first second:List Int} (H:jq n f tl k c first second) {gap:Int} {R:FF} (hgap:0<=gap) (h:PkC f tl gap k c R):BX n f tl k c R:=by
 have hk:=H.chs.le
 have hn:=H.n4
 refine ⟨hn,H.tlen,by omega,H.part,fun i hi=>(H.chs.mem i hi).1,fun i hi=>tJ H.vec (by have:=(H.chs.mem i hi).1;unfold cN;omega) (H.chs.mem i hi).2,fun i hi d hd=>?_⟩
 have m:=(H.chs.mem i hi).1
 have s:=(H.part (cN c i) (by unfold cN;omega)).good.sz (tl.getD (cN c i) 0)
 have l:=h.lo i hi
 have u:=h.hi i hi
 have:d=0\/d=1\/d=2\/d=3:=by omega
 rcases this with rfl | rfl | rfl | rfl<;>omega
theorem Ob {n k:Nat} {f c:FF} {tl first second:List Int} (H:jq n f tl k c first second) {gap L W:Int} {R:FF} (hgap:0<=gap/\gap<=500) (hP:PkC f tl gap k c R) (hL:0<=L/\L<=32768) (hW:0<=W/\W<=32768) {i:Nat} (hi:i<k)
  (hat:mz (f (cN c i)) (tl.getD (cN c i) 0) (bx R (cN c i) 0) (bx R (cN c i) 1))
  (hsz:(1<=(aL (f (cN c i)) (tl.getD (cN c i) 0)).1/\(aL (f (cN c i)) (tl.getD (cN c i) 0)).1<=32768)/\(1<=(aL (f (cN c i)) (tl.getD (cN c i) 0)).2/\(aL (f (cN c i)) (tl.getD (cN c i) 0)).2<=32768))
  (hin:bx R (cN c i) 0+(aL (f (cN c i)) (tl.getD (cN c i) 0)).1<=L-gap/\bx R (cN c i) 1+(aL (f (cN c i)) (tl.getD (cN c i) 0)).2<=W-gap):OkI f tl c R gap L W i:=by
 have l:=hP.lo i hi
 have u:=hP.hi i hi
 have C:=hP.ok H hgap.1
 refine ⟨hat,?_,fun j hj=>?_,?_,fun j hj=>?_⟩
 ·unfold rH;omega
 ·have g:=C.rng j (by omega)
  have g0:=g 0 (by omega)
  have g1:=g 1 (by omega)
  have g2:=g 2 (by omega)
  have g3:=g 3 (by omega)
  show Nr4 (bx R (cN c j) 0) (bx R (cN c j) 1) (bx R (cN c j) 2) (bx R (cN c j) 3)
  unfold Nr4
  omega
 ·unfold FIn;omega
 ·have s:=hP.sep i j hi (by omega) (by omega)
  show Apt (bx R (cN c j) 0) (bx R (cN c j) 1) (bx R (cN c j) 2) (bx R (cN c j) 3) _ _ _ _ _
  unfold Apt
  omega
abbrev NSt:=ByteArray × Int × Nat × FF × Int
structure cn where
 a:ByteArray
 gr:ByteArray
 th:Int
 L:Int
 W:Int
 e:ByteArray
 P:Nat
 PF:FF
 gap:Int
 n:Nat
 f:FF
def pkR (z:cn) (tl first second:List Int):FF:=((FW 100 z.n z.f tl.length (fL tl) first.length (fL first) second.length (fL second) z.gap).getD (0,fun _ _=>.any)).2
def plR (z:cn) (tl:List Int) (k:Nat) (c:FF) (first second:List Int):ByteArray × Int × Nat × FF × Bool:=(Hd 100 z.a z.gr z.th z.L z.W z.e z.n z.f tl.length (fL tl) k c z.n (pkR z tl first second) z.gap).getD (ByteArray.empty,0,0,(fun _ _=>.any),false)
def eH (z:cn) (tl:List Int) (k:Nat) (c:FF) (first second:List Int) (s:NSt):NSt :=
 if (plR z tl k c first second).2.2.2.2=true/\dC z.P z.PF (plR z tl k c first second).2.2.2.1 (plR z tl k c first second).2.2.1>s.2.2.2.2 then
  ((plR z tl k c first second).1,(plR z tl k c first second).2.1,(plR z tl k c first second).2.2.1,(plR z tl k c first second).2.2.2.1,dC z.P z.PF (plR z tl k c first second).2.2.2.1 (plR z tl k c first second).2.2.1)
 else s
structure Fix (z:cn):Prop where
 gap:0<=z.gap/\z.gap<=500
 few:AE z.P z.PF
 n4:z.n<=4
 part:∀ i,i<z.n->ck (z.f i)
theorem oY {z:cn} (Z:Fix z) {tl:List Int} {k:Nat} {c:FF} {first second:List Int} (H:jq z.n z.f tl k c first second) :
  FW 100 z.n z.f tl.length (fL tl) first.length (fL first) second.length (fL second) z.gap=some (z.n,pkR z tl first second)/\Pk z.f tl first second z.gap second.length (pkR z tl first second) /\
  Hd 100 z.a z.gr z.th z.L z.W z.e z.n z.f tl.length (fL tl) k c z.n (pkR z tl first second) z.gap=some (plR z tl k c first second) /\
  ((plR z tl k c first second).2.2.2.2=true↔∀ i,i<k->OkI z.f tl c (pkR z tl first second) z.gap z.L z.W i) /\
  ((plR z tl k c first second).2.2.2.2=true->(plR z tl k c first second).1=z.a/\(plR z tl k c first second).2.1=z.gap/\(plR z tl k c first second).2.2.1=k/\∀ j,j<k->FO z.f tl c (pkR z tl first second) (plR z tl k c first second).2.2.2.1 j) /\
  (plR z tl k c first second).2.2.1<=4:=by
 obtain ⟨R,e1,hP⟩:=Gq H z.gap Z.gap
 have eR:pkR z tl first second=R:=by unfold pkR;rw [e1];rfl
 have hk:=H.chs.le
 have hn:=H.n4
 have C:=(hP.chosen H).ok H Z.gap.1
 rw [eR]
 rcases MW C z.a z.gr z.e z.th z.L z.W z.gap with ⟨S,e2,h2,h3⟩ | ⟨e2,i,hi,h2⟩
 ·have eP:plR z tl k c first second=(z.a,z.gap,k,S,true):=by unfold plR;rw [eR,e2];rfl
  rw [eP]
  exact ⟨e1,hP,e2,⟨fun _=>h3,fun _=>rfl⟩,fun _=>⟨rfl,rfl,rfl,h2⟩,by show k<=4;omega⟩
 ·have eP:plR z tl k c first second=(ByteArray.empty,0,0,(fun _ _=>.any),false):=by unfold plR;rw [eR,e2];rfl
  rw [eP]
  exact ⟨e1,hP,e2,⟨fun h=>(by cases h),fun h=>absurd (h i hi) h2⟩,fun h=>(by cases h),by show 0<=4;omega⟩
theorem CU {β:Type} (l:List (List Int)) (i:Nat) (h:i<l.length) (g:β->List Int->β) (s:β):(l.drop i).foldl g s=(l.drop (i+1)).foldl g (g s (l.getD i [])):=by
 rw [List.drop_eq_getElem_cons h,List.foldl_cons,qdZ,qgZ h];rfl
theorem X7 {ρ:Type} {z:cn} (Z:Fix z) {tl:List Int} {k:Nat} {c:FF} {first:List Int} (H:∀ second∈aK (liL k c),jq z.n z.f tl k c first second) (hk:k<=4) (k0:ByteArray->Int->Nat->FF->Int->Option ρ):∀ (m i:Nat) (s:NSt),(aK (liL k c)).length<m+i->i<=(aK (liL k c)).length ->
  jS 100 k c z.a z.gr z.th z.L z.W z.e z.P z.PF z.gap z.n z.f tl.length (fL tl) first.length (fL first) m (i:Int) s.1 s.2.1 s.2.2.1 s.2.2.2.1 s.2.2.2.2 k0 =
   k0 (((aK (liL k c)).drop i).foldl (fun s q=>eH z tl k c first q s) s).1 (((aK (liL k c)).drop i).foldl (fun s q=>eH z tl k c first q s) s).2.1 (((aK (liL k c)).drop i).foldl (fun s q=>eH z tl k c first q s) s).2.2.1 (((aK (liL k c)).drop i).foldl (fun s q=>eH z tl k c first q s) s).2.2.2.1 (((aK (liL k c)).drop i).foldl (fun s q=>eH z tl k c first q s) s).2.2.2.2:=by
 have hb:(Nat.ble k 4&&true)=true:=by rw [Bool.and_true,Nat.ble_eq];exact hk
 intro m
 induction m with
 | zero=>intro i s h1 h2;omega
 | succ m ih =>
  intro i s h1 h2
  unfold jS
  rw [ae hb]
  by_cases h:i<(aK (liL k c)).length
  ·have hlt:(i:Int)<Int.ofNat (aK (liL k c)).length:=by show (i:Int)<((aK (liL k c)).length:Int);omega
   rw [ae (qcZ hlt),CU _ i h,show Int.toNat (i:Int)=i from rfl]
   generalize hq:(aK (liL k c)).getD i []=q
   have hm:q∈aK (liL k c):=by rw [<- hq,qdZ,qgZ h];exact List.getElem_mem _
   obtain ⟨e1,_,e2,_,_,hle⟩:=oY Z (H q hm)
   rw [e1,aa,e2,aa,Dn Z.few (by omega),aa]
   have hi:(i:Int)+1=((i+1:Nat):Int):=by omega
   rw [hi]
   by_cases c1:(plR z tl k c first q).2.2.2.2=true
   ·rw [ae (by simpa using c1)]
    by_cases c2:dC z.P z.PF (plR z tl k c first q).2.2.2.1 (plR z tl k c first q).2.2.1>s.2.2.2.2
    ·rw [ae (qcZ c2)]
     have e3:eH z tl k c first q s=((plR z tl k c first q).1,(plR z tl k c first q).2.1,(plR z tl k c first q).2.2.1,(plR z tl k c first q).2.2.2.1,dC z.P z.PF (plR z tl k c first q).2.2.2.1 (plR z tl k c first q).2.2.1):=by
      unfold eH;rw [if_pos ⟨c1,c2⟩]
     rw [e3]
     exact ih (i+1) (_,_,_,_,_) (by omega) (by omega)
    ·rw [ai (qeZ c2)]
     have e3:eH z tl k c first q s=s:=by unfold eH;rw [if_neg (fun q=>c2 q.2)]
     rw [e3]
     exact ih (i+1) s (by omega) (by omega)
   ·rw [ai (by simpa using c1)]
    have e3:eH z tl k c first q s=s:=by unfold eH;rw [if_neg (fun q=>c1 q.1)]
    rw [e3]
    exact ih (i+1) s (by omega) (by omega)
  ·have hlt:¬ (i:Int)<Int.ofNat (aK (liL k c)).length:=by show ¬ (i:Int)<((aK (liL k c)).length:Int);omega
   rw [ai (qeZ hlt),List.drop_eq_nil_of_le (by omega)]
   rfl
def oh (z:cn) (tl:List Int) (k:Nat) (c:FF) (first:List Int) (s:NSt):NSt:=(aK (liL k c)).foldl (fun s q=>eH z tl k c first q s) s
theorem X6 {ρ:Type} {z:cn} (Z:Fix z) {tl:List Int} {k:Nat} {c:FF} (H:∀ first∈aK (liL k c),∀ second∈aK (liL k c),jq z.n z.f tl k c first second) (hk:k<=4) (k0:ByteArray->Int->Nat->FF->Int->Option ρ):∀ (m i:Nat) (s:NSt),(aK (liL k c)).length<m+i->i<=(aK (liL k c)).length ->
  l9 100 k c z.a z.gr z.th z.L z.W z.e z.P z.PF z.gap z.n z.f tl.length (fL tl) m (i:Int) s.1 s.2.1 s.2.2.1 s.2.2.2.1 s.2.2.2.2 k0 =
   k0 (((aK (liL k c)).drop i).foldl (fun s q=>oh z tl k c q s) s).1 (((aK (liL k c)).drop i).foldl (fun s q=>oh z tl k c q s) s).2.1 (((aK (liL k c)).drop i).foldl (fun s q=>oh z tl k c q s) s).2.2.1 (((aK (liL k c)).drop i).foldl (fun s q=>oh z tl k c q s) s).2.2.2.1 (((aK (liL k c)).drop i).foldl (fun s q=>oh z tl k c q s) s).2.2.2.2:=by
 have hb:(Nat.ble k 4&&true)=true:=by rw [Bool.and_true,Nat.ble_eq];exact hk
 have hl:=Bl (l:=liL k c) (by rw [dE];exact hk)
 intro m
 induction m with
 | zero=>intro i s h1 h2;omega
 | succ m ih =>
  intro i s h1 h2
  unfold l9
  rw [ae hb]
  by_cases h:i<(aK (liL k c)).length
  ·have hlt:(i:Int)<Int.ofNat (aK (liL k c)).length:=by show (i:Int)<((aK (liL k c)).length:Int);omega
   rw [ae (qcZ hlt),CU _ i h,show Int.toNat (i:Int)=i from rfl]
   generalize hq:(aK (liL k c)).getD i []=q
   have hm:q∈aK (liL k c):=by rw [<- hq,qdZ,qgZ h];exact List.getElem_mem _
   refine (X7 Z (H q hm) hk _ 100 0 s (by omega) (by omega)).trans ?_
   rw [List.drop_zero,show (i:Int)+1=((i+1:Nat):Int) from by omega]
   exact ih (i+1) (oh z tl k c q s) (by omega) (by omega)
  ·have hlt:¬ (i:Int)<Int.ofNat (aK (liL k c)).length:=by show ¬ (i:Int)<((aK (liL k c)).length:Int);omega
   rw [ai (qeZ hlt),List.drop_eq_nil_of_le (by omega)]
   rfl
def tN (z:cn) (tl:List Int) (s:NSt):NSt:=(aK (liL (chN tl tl.length 0 0 (fun _ _=>.any)).1 (chN tl tl.length 0 0 (fun _ _=>.any)).2)).foldl (fun s q=>oh z tl (chN tl tl.length 0 0 (fun _ _=>.any)).1 (chN tl tl.length 0 0 (fun _ _=>.any)).2 q s) s
def eC (z:cn) (i:Nat) (s:NSt):NSt:=((List.range (db z.n)).drop i).foldl (fun s t=>tN z (aV z.n t) s) s
theorem Er {z:cn} (Z:Fix z) {tl:List Int} (hv:okV z.n tl=true) {k:Nat} {c:FF} (hC:Chs tl z.n k c):∀ first∈aK (liL k c),∀ second∈aK (liL k c),jq z.n z.f tl k c first second :=
 fun first h1 second h2=>⟨Z.n4,Z.part,hv,hC,Aa h1,Aa h2⟩
theorem rm {n:Nat} {tl:List Int} (h:okV n tl=true):tl.length=n:=by
 unfold okV at h
 rw [qaZ] at h
 exact qbZ h.1
theorem BM (tl:List Int) (c:FF):Chs tl 0 0 c:=⟨rkZ _,fun t h=>by omega,fun s t h1 h2=>by omega,fun j h=>by omega⟩
theorem X5 {ρ:Type} {z:cn} (Z:Fix z) (k0:ByteArray->Int->Nat->FF->Int->Option ρ):∀ (m i:Nat) (s:NSt),db z.n<m+i->i<=db z.n ->
  dX 100 (Int.ofNat z.n) z.a z.gr z.th z.L z.W z.e z.P z.PF z.gap z.n z.f m (i:Int) s.1 s.2.1 s.2.2.1 s.2.2.2.1 s.2.2.2.2 k0 =
   k0 (eC z i s).1 (eC z i s).2.1 (eC z i s).2.2.1 (eC z i s).2.2.2.1 (eC z i s).2.2.2.2:=by
 have hn:=Z.n4
 have hb:((decide (0<=Int.ofNat z.n)&&decide (Int.ofNat z.n<=4))&&true)=true:=by
  have h1:(0:Int)<=Int.ofNat z.n:=by show (0:Int)<=(z.n:Int);omega
  have h2:(Int.ofNat z.n)<=4:=by show (z.n:Int)<=4;omega
  rw [qcZ h1,qcZ h2];rfl
 intro m
 induction m with
 | zero=>intro i s h1 h2;omega
 | succ m ih =>
  intro i s h1 h2
  unfold dX
  rw [ae hb,aq]
  by_cases h:i<db z.n
  ·have hlt:(i:Int)<Int.ofNat (db z.n):=by show (i:Int)<(db z.n:Int);omega
   rw [ae (qcZ hlt),show Int.toNat (i:Int)=i from rfl]
   have hv:=El z.n hn i h
   have hl:=rm hv
   have hf:eC z i s=eC z (i+1) (tN z (aV z.n i) s):=by
    unfold eC
    rw [List.drop_eq_getElem_cons (by simpa using h),List.foldl_cons,List.getElem_range]
   rw [hf]
   generalize aV z.n i=tl at hv hl ⊢
   obtain ⟨k,c,e0,e1,hC⟩:=oM (ρ:=ρ) tl (by omega) z.a z.gr z.th z.L z.W z.e z.P z.PF z.gap z.n z.f s.1 s.2.1 s.2.2.1 s.2.2.2.1 s.2.2.2.2 100 0 0 (fun _ _=>.any) (by omega) (by omega) (BM _ _)
   rw [Nat.sub_zero] at e0
   rw [hl] at hC
   have hle:=hC.le
   have hp:=Bl (l:=liL k c) (by rw [dE];omega)
   refine (e1 _).trans ?_
   refine (X6 Z (Er Z hv hC) (by omega) _ 100 0 s (by omega) (by omega)).trans ?_
   have e6:tN z tl s=(aK (liL k c)).foldl (fun s q=>oh z tl k c q s) s:=by unfold tN;rw [<- e0]
   rw [List.drop_zero,<- e6,show (i:Int)+1=((i+1:Nat):Int) from by omega]
   exact ih (i+1) (tN z tl s) (by omega) (by omega)
  ·have hlt:¬ (i:Int)<Int.ofNat (db z.n):=by show ¬ (i:Int)<(db z.n:Int);omega
   have hf:eC z i s=s:=by unfold eC;rw [List.drop_eq_nil_of_le (by simp;omega)];rfl
   rw [ai (qeZ hlt),hf]
theorem mI {α β:Type} {Q:β->Prop} {g:β->α->β}:∀ (l:List α),(∀ x∈l,∀ s,Q s->Q (g s x))->∀ s,Q s->Q (l.foldl g s)
 | [],_,s,h=>h
 | x::l,hs,s,h=>mI l (fun y hy=>hs y (qjZ _ hy)) _ (hs x qmZ s h)
theorem sL {z:cn} (Z:Fix z) {Q:NSt->Prop} (h:∀ tl k c first second,jq z.n z.f tl k c first second->∀ s,Q s->Q (eH z tl k c first second s)) {s:NSt} (h0:Q s):Q (eC z 0 s):=by
 unfold eC
 rw [List.drop_zero]
 refine mI _ (fun t ht s hs=>?_) s h0
 rw [riZ] at ht
 have hv:=El z.n Z.n4 t ht
 generalize aV z.n t=tl at hv
 have hl:=rm hv
 obtain ⟨k,c,e0,_,hC⟩:=oM (ρ:=Nat) tl (by have:=Z.n4;omega) z.a z.gr z.th z.L z.W z.e z.P z.PF z.gap z.n z.f s.1 s.2.1 s.2.2.1 s.2.2.2.1 s.2.2.2.2 100 0 0 (fun _ _=>.any) (by have:=Z.n4;omega) (by omega) (BM _ _)
 rw [Nat.sub_zero] at e0
 rw [hl] at hC
 unfold tN
 rw [<- e0]
 refine mI _ (fun first h1 s hs=>?_) s hs
 unfold oh
 exact mI _ (fun second h2 s hs=>h tl k c first second (Er Z hv hC first h1 second h2) s hs) s hs
def OT (z:cn) (s:NSt):Prop:=s.2.2.2.2=dC z.P z.PF s.2.2.2.1 s.2.2.1/\s.2.2.1<=4
theorem KY {z:cn} (Z:Fix z) {tl:List Int} {k:Nat} {c:FF} {first second:List Int} (H:jq z.n z.f tl k c first second) {s:NSt} (h:OT z s):OT z (eH z tl k c first second s):=by
 obtain ⟨_,_,_,_,_,hle⟩:=oY Z H
 unfold eH
 split
 ·exact ⟨rfl,hle⟩
 ·exact h
theorem Oy {ρ:Type} (P:Nat) (PF:FF) (i:Nat) (hi:i<P) (hh:(PF i 7).len<=4) (k0 k1:Option ρ):∀ (m j:Nat),(PF i 7).len<m+j->j<=(PF i 7).len ->
  me 100 P PF (Int.ofNat i) m (Int.ofNat j) k0 k1=k0\/(me 100 P PF (Int.ofNat i) m (Int.ofNat j) k0 k1=k1/\∀ t,j<=t->t<(PF i 7).len->((PF i 7).el t 0).len<=12):=by
 intro m
 induction m with
 | zero=>intro j h1 h2;omega
 | succ m ih =>
  intro j h1 h2
  unfold me
  rw [ax,aq,aq,aE,ax,ae (qcZ hi)]
  by_cases h:j<(PF i 7).len
  ·rw [ae (qcZ h),ae (qcZ hi),ae (qcZ h),ay (by omega)]
   by_cases c:(Int.ofNat ((((PF i 7).el) j 0).len))>12
   ·rw [ae (qcZ c)];exact .inl rfl
   ·rw [ai (qeZ c)]
    have c:¬ ((((PF i 7).el) j 0).len:Int)>12:=c
    rcases ih (j+1) (by omega) (by omega) with e | ⟨e,hq⟩
    ·exact .inl e
    ·refine .inr ⟨e,fun t h3 h4=>?_⟩
     by_cases ht:t=j
     ·subst ht;omega
     ·exact hq t (by omega) h4
  ·rw [ai (qeZ h)];exact .inr ⟨rfl,fun t h3 h4=>by omega⟩
theorem Ox {ρ:Type} (P:Nat) (PF:FF) (hP:P<=20) (k0 k1:Option ρ):∀ (m i:Nat),P<m+i->i<=P ->
  lF 100 P PF m (Int.ofNat i) k0 k1=k0\/(lF 100 P PF m (Int.ofNat i) k0 k1=k1/\∀ j,i<=j->j<P->(PF j 6).len<=12/\(PF j 7).len<=4/\∀ t,t<(PF j 7).len->((PF j 7).el t 0).len<=12):=by
 intro m
 induction m with
 | zero=>intro i h1 h2;omega
 | succ m ih =>
  intro i h1 h2
  unfold lF
  rw [aE,ax,aq]
  by_cases h:i<P
  ·obtain ⟨b,e1,_⟩:=WL (au (pj kR0 (PF i)))
   rw [ae (qcZ h),ae (qcZ h),e1,aa]
   cases b with
   | false=>exact .inl rfl
   | true =>
    rw [ae (by rfl),ae (qcZ h),bd]
    by_cases c1:(Int.ofNat ((PF i 6).len))>12
    ·rw [if_pos c1];exact .inl rfl
    rw [if_neg c1,ae (qcZ h)]
    by_cases c2:(Int.ofNat ((PF i 7).len))>4
    ·rw [ae (qcZ c2)];exact .inl rfl
    rw [ai (qeZ c2),ay (by omega)]
    have c1:¬ ((PF i 6).len:Int)>12:=c1
    have c2:¬ ((PF i 7).len:Int)>4:=c2
    rcases Oy P PF i h (by omega) k0 (lF 100 P PF m (Int.ofNat (i+1)) k0 k1) 100 0 (by omega) (by omega) with e | ⟨e,hq⟩
    ·exact .inl e
    ·rcases ih (i+1) (by omega) (by omega) with e2 | ⟨e2,hr⟩
     ·exact .inl (e.trans e2)
     ·refine .inr ⟨e.trans e2,fun j h3 h4=>?_⟩
      by_cases hj:j=i
      ·subst hj;exact ⟨by omega,by omega,fun t ht=>hq t (by omega) ht⟩
      ·exact hr j (by omega) h4
  ·rw [ai (qeZ h)];exact .inr ⟨rfl,fun j h3 h4=>by omega⟩
theorem WK (P:Nat) (PF:FF) (n:Nat) (hn:n<=20):∃ b,He 100 P PF (n:Int)=some b/\(b=true->AE P PF/\P<=n):=by
 unfold He
 by_cases c:(Int.ofNat P)>(n:Int)
 ·rw [ae (qcZ c)];exact ⟨false,rfl,fun h=>by cases h⟩
 rw [ai (qeZ c)]
 have c:¬ (P:Int)>(n:Int):=c
 rcases Ox P PF (by omega) (some false) (some true) 100 0 (by omega) (by omega) with e | ⟨e,h⟩
 ·exact ⟨false,e,fun h=>by cases h⟩
 ·exact ⟨true,e,fun _=>⟨⟨by omega,fun j hj=>(h j (by omega) hj).1,fun j hj=>(h j (by omega) hj).2.1,fun j hj=>(h j (by omega) hj).2.2⟩,by omega⟩⟩
theorem ck.of_row {x y:Nat->CV} (E:oQ x y) (V:ck y):ck x:=⟨by rw [E.ol,E.hl,E.he];exact V.small,by rw [E.ol,E.oe,E.hl,E.he];exact V.shape⟩
theorem QB {P:Nat} {PF:FF} (hP:AE P PF) {gr:ByteArray} {th:Int} {j:Nat} (hj:j<P) (h:Ap gr th PF j):ck (PF j):=by
 refine ⟨hP.small hj,?_⟩
 obtain ⟨z,z1,_,z3⟩:=mi ((PF j 6).len) ((PF j 7).len) ((PF j 6).el) ((PF j 7).el)
 exact z3.1 (rhZ (z1.symm.trans h.2.2.2.2))
abbrev Co (n:Nat):Int:=(aG 1 [(.i .i64 1),(.i .i64 3),(.i .i64 21),(.i .i64 343),(.i .i64 10473)] (0+n) 0).int
theorem ON {P:Nat} {PF f:FF} {n:Nat} {a gr e:ByteArray} {th L W gap:Int} (Z:Fix ⟨a,gr,th,L,W,e,P,PF,gap,n,f⟩) (hs:te 100 a gr th L W e P PF=some (n,f)) (steps:Int) :
  vU 100 a gr th L W e P PF gap steps=bif decide (steps<Co n) then some (ByteArray.empty,0,0,(fun _ _=>.any),29) else some ((eC ⟨a,gr,th,L,W,e,P,PF,gap,n,f⟩ 0 (a,gap,0,(fun _ _=>.any),0)).1,(eC ⟨a,gr,th,L,W,e,P,PF,gap,n,f⟩ 0 (a,gap,0,(fun _ _=>.any),0)).2.1,
   (eC ⟨a,gr,th,L,W,e,P,PF,gap,n,f⟩ 0 (a,gap,0,(fun _ _=>.any),0)).2.2.1,(eC ⟨a,gr,th,L,W,e,P,PF,gap,n,f⟩ 0 (a,gap,0,(fun _ _=>.any),0)).2.2.2.1,0):=by
 have hgap:0<=gap/\gap<=500:=Z.gap
 have hn:n<=4:=Z.n4
 have T:db n<=81:=by
  have:∀ n<5,db n<=81:=by decide +kernel
  exact this _ (by omega)
 have e7:=X5 Z (fun x352 x353 x354 x355 (x356:Int)=>(some (x352,x353,x354,x355,(0:Int)))) 100 0 (a,gap,0,(fun _ _=>.any),0) (by show db n<100+0;omega) (Nat.zero_le _)
 unfold vU
 rw [eo,aa,ai (by simp [hgap.1,hgap.2]),hs,aa]
 have c4:¬ (Int.ofNat n)>4:=by show ¬ (n:Int)>4;omega
 dsimp only
 rw [ai (qeZ c4)]
 have beq:∀ m:Nat,(Int.ofNat n==(m:Int))=decide (n=m):=fun m=>by
  rw [Bool.eq_iff_iff,beq_iff_eq,decide_eq_true_eq]
  show (n:Int)=(m:Int)↔_
  omega
 have b0:=beq 0
 have b1:=beq 1
 have b2:=beq 2
 have b3:=beq 3
 have b4:=beq 4
 by_cases h0:n=0
 ·rw [show (Int.ofNat n==0)=true from b0.trans (qcZ h0),cond_true,show Co n=1 by rw [h0];rfl]
  exact congrArg (fun x=>bif decide (steps<1) then _ else x) e7
 rw [show (Int.ofNat n==0)=false from b0.trans (qeZ h0),cond_false]
 by_cases h1:n=1
 ·rw [show (Int.ofNat n==1)=true from b1.trans (qcZ h1),cond_true,show Co n=3 by rw [h1];rfl]
  exact congrArg (fun x=>bif decide (steps<3) then _ else x) e7
 rw [show (Int.ofNat n==1)=false from b1.trans (qeZ h1),cond_false]
 by_cases h2:n=2
 ·rw [show (Int.ofNat n==2)=true from b2.trans (qcZ h2),cond_true,show Co n=21 by rw [h2];rfl]
  exact congrArg (fun x=>bif decide (steps<21) then _ else x) e7
 rw [show (Int.ofNat n==2)=false from b2.trans (qeZ h2),cond_false]
 by_cases h3:n=3
 ·rw [show (Int.ofNat n==3)=true from b3.trans (qcZ h3),cond_true,show Co n=343 by rw [h3];rfl]
  exact congrArg (fun x=>bif decide (steps<343) then _ else x) e7
 rw [show (Int.ofNat n==3)=false from b3.trans (qeZ h3),cond_false]
 rw [show (Int.ofNat n==4)=true from b4.trans (qcZ (by omega)),cond_true,show Co n=10473 by rw [show n=4 by omega];rfl]
 exact congrArg (fun x=>bif decide (steps<10473) then _ else x) e7
theorem DX (P:Nat) (PF:FF') (s:ByteArray) (hP:P<=90):∀ (m i:Nat),P<m+i->i<=P->m8 100 P PF s m (Int.ofNat i) (fun x=>some x) (some (-1))=some (vG PF s (P-i) i):=by
 intro m
 induction m with
 | zero=>intro i h1 h2;omega
 | succ m ih =>
  intro i h1 h2
  unfold m8
  rw [aE,ax,aq]
  by_cases h:i<P
  ·rw [ae (qcZ h),ae (qcZ h),show P-i=(P-(i+1))+1 from by omega,vG]
   unfold eqS
   cases hq:(ByteArray.toList ((PF i 0).str)==ByteArray.toList s) with
   | true=>rfl
   | false=>rw [ai rfl,ai rfl,ay (by omega)];exact ih (i+1) (by omega) (by omega)
  ·rw [ai (qeZ h),show P-i=0 from by omega];rfl
theorem DY (P:Nat) (PF:FF') (s:ByteArray) (hP:P<=90):FX 100 P PF s=some (fd P PF s):=DX P PF s hP 100 0 (by omega) (by omega)
theorem GW (PF:FF') (s:ByteArray):∀ (m i k:Nat),vG PF s m i=Int.ofNat k->∀ j,i<=j->j<k->eqS ((PF j 0).str) s=false:=by
 intro m
 induction m with
 | zero=>intro i k h;exact absurd h (by intro h;have h:(-1:Int)=(k:Int):=h;omega)
 | succ m ih =>
  intro i k h j h1 h2
  unfold vG at h
  cases hq:eqS ((PF i 0).str) s with
  | true =>
   rw [hq] at h
   have h:(i:Int)=(k:Int):=h
   omega
  | false =>
   rw [hq] at h
   by_cases e:j=i
   ·subst e;exact hq
   ·exact ih (i+1) k h j (by omega) h2
theorem Oz (PF:FF') (s:ByteArray):∀ (m i k:Nat),i<=k->k<i+m->eqS ((PF k 0).str) s=true->(∀ j,i<=j->j<k->eqS ((PF j 0).str) s=false)->vG PF s m i=Int.ofNat k:=by
 intro m
 induction m with
 | zero=>intro i k h1 h2;omega
 | succ m ih =>
  intro i k h1 h2 h3 h4
  unfold vG
  by_cases e:i=k
  ·subst e;rw [h3];rfl
  ·rw [h4 i (rkZ _) (by omega)]
   exact ih (i+1) k (by omega) (by omega) h3 fun j a b=>h4 j (by omega) b
theorem AU (a b:ByteArray):eqS a b=true↔a=b:=by unfold eqS;rw [Hv,decide_eq_true_eq]
theorem BI {P:Nat} {PF:FF'} {i:Nat} (hi:i<P):fd P PF ((PF i 0).str)=Int.ofNat i↔∀ j,j<i->(PF j 0).str≠(PF i 0).str:=by
 constructor
 ·intro h j hj e
  have:=GW PF _ P 0 i h j (by omega) hj
  rw [(AU _ _).2 e] at this;cases this
 ·intro h
  refine Oz PF _ P 0 i (by omega) (by omega) ((AU _ _).2 rfl) fun j _ hj=>?_
  cases hq:eqS ((PF j 0).str) ((PF i 0).str) with
  | false=>rfl
  | true=>exact absurd ((AU _ _).1 hq) (h j hj)
theorem Ci {ρ:Type} (P:Nat) (PF:FF) (a gr e:ByteArray) (th L W:Int) (hP:P<=20) (k0:Nat->FF->Option ρ):∀ (m i n:Nat) (c:Nat) (M f:FF),P<m+i->i<=P->n<=i ->
  (∀ s,lX c M s=1↔∃ j,j<i/\(PF j 0).str=s) ->
  jo 100 P PF a gr th L W e m n (Int.ofNat i) f k0=em 100 P PF (Int.ofNat P) a gr th L W e m n (Int.ofNat i) c M f (fun x _ _ y=>k0 x y):=by
 intro m
 induction m with
 | zero=>intro i n c M f h1 h2;omega
 | succ m ih =>
  intro i n c M f h1 h2 hl hM
  unfold jo em
  rw [aE,ax,aq]
  by_cases h:i<P
  ·have hM' : ∀ s,lX (oG c M ((PF i 0).str)) (oF c M ((PF i 0).str) 1) s=1↔∃ j,j<i+1/\(PF j 0).str=s:=by
    intro s
    rw [Fa]
    by_cases hs:s=(PF i 0).str
    ·rw [if_pos hs];exact ⟨fun _=>⟨i,by omega,hs.symm⟩,fun _=>rfl⟩
    ·rw [if_neg hs,hM]
     exact ⟨fun ⟨j,h3,h4⟩=>⟨j,by omega,h4⟩,fun ⟨j,h3,h4⟩=>by
      by_cases hj:j=i
      ·subst hj;exact absurd h4.symm hs
      ·exact ⟨j,by omega,h4⟩⟩
   rw [ae (qcZ h),ae (qcZ h),ae (qcZ h),ae (qcZ h),ay (by omega),DY P PF _ (by omega),aa]
   have go:=fun (n:Nat) (f:FF) (hn:n<=i+1)=>ih (i+1) n _ _ f (by omega) (by omega) hn hM'
   obtain ⟨z,z1,z2,_⟩:=mi ((PF i 6).len) ((PF i 7).len) ((PF i 6).el) ((PF i 7).el)
   rw [z1,z2,aa,aa]
   have hf:=BI (PF:=PF) h
   by_cases c1:lX c M ((PF i 0).str)=1
   ·have hnf:¬ fd P PF ((PF i 0).str)=Int.ofNat i:=fun q=>by
     obtain ⟨j,h3,h4⟩:=(hM _).1 c1
     exact hf.1 q j h3 h4
    rw [ai (c:=((!(lX c M ((PF i 0).str)==1))==true)) (by simp [c1]),ai (c:=((fd P PF ((PF i 0).str)==Int.ofNat i)==true)) (by simpa using hnf),<- go n f (by omega)]
    cases ((PF i 2).int==1)<;>cases (ByteArray.toList ((PF i 4).str)==ByteArray.toList gr)<;>cases ((PF i 5).int==th)<;>rfl
   ·have hyf:fd P PF ((PF i 0).str)=Int.ofNat i:=hf.2 fun j hj e=>c1 ((hM _).2 ⟨j,hj,e⟩)
    rw [ae (c:=((!(lX c M ((PF i 0).str)==1))==true)) (by simp [c1]),ae (c:=((fd P PF ((PF i 0).str)==Int.ofNat i)==true)) (by simp [hyf]),<- go n f (by omega),<- go (n+1) _ (by omega)]
  ·rw [ai (qeZ h),ai (qeZ h)]
theorem Em (P:Nat) (PF:FF) (a gr e:ByteArray) (th L W:Int) (hP:P<=20):Cr 100 a gr th L W e P PF=te 100 a gr th L W e P PF:=by
 unfold Cr te
 have hM:∀ s,lX 0 (fun _ _=>CV.any) s=1↔∃ j,j<0/\(PF j 0).str=s:=fun s=>by
  have e:lX 0 (fun _ _=>CV.any) s=0:=rfl
  rw [e]
  refine ⟨fun h=>?_,fun h=>?_⟩
  ·cases h
  ·obtain ⟨j,h,_⟩:=h
   omega
 exact Ci P PF a gr e th L W hP (fun x34 x35=>(some (x34,x35))) 100 0 0 0 (fun _ _=>.any) (fun _ _=>.any) (by omega) (by omega) (rkZ _) hM
theorem Bds.congr {f f' : FF} {n:Nat} {a b c d:Int} (e:∀ j,j<n->pt f' j=pt f j) (h:Bds f n a b c d):Bds f' n a b c d:=by
 have e0:∀ j,j<n->(f' j 0).int=(f j 0).int:=fun j hj=>congrArg Prod.fst (e j hj)
 have e1:∀ j,j<n->(f' j 1).int=(f j 1).int:=fun j hj=>congrArg Prod.snd (e j hj)
 obtain ⟨h1,h2⟩:=h
 refine ⟨fun j hj=>?_,fun hn=>?_⟩
 ·rw [e0 j hj,e1 j hj];exact h1 j hj
 ·obtain ⟨⟨j1,k1,w1⟩,⟨j2,k2,w2⟩,⟨j3,k3,w3⟩,⟨j4,k4,w4⟩⟩:=h2 hn
  exact ⟨⟨j1,k1,by rw [e0 j1 k1];exact w1⟩,⟨j2,k2,by rw [e1 j2 k2];exact w2⟩,⟨j3,k3,by rw [e0 j3 k3];exact w3⟩,⟨j4,k4,by rw [e1 j4 k4];exact w4⟩⟩
theorem ck.turned_ref {p:Nat->CV} (V:ck p) (t:Int) (ht:t=0\/t=1):∃ n f n2 f2 hx hy,F26 100 ((p 6).len) ((p 6).el) ((p 7).len) ((p 7).el) ByteArray.empty 0 0 t false=some (n,f,n2,f2) /\
  F21 100 n f n2 f2=some ((aW p t).1,(aW p t).2,hx,hy):=by
 obtain ⟨tn,rfl,htn⟩:∃ tn:Nat,t=Int.ofNat tn/\tn<=1:=by
  rcases ht with rfl | rfl
  ·exact ⟨0,rfl,by omega⟩
  ·exact ⟨1,rfl,by omega⟩
 have h3:=V.shape.outer.big
 have h4:=V.shape.outer.small
 obtain ⟨a,c,b,d,c',d',e1,e2,M1,M⟩:=DQ ((p 6).len) ((p 7).len) ((p 6).el) ((p 7).el) ByteArray.empty 0 0 (Int.ofNat tn) false V.small
 have nf:¬ (lY 0 0=true\/s8 (1+(p 7).len) (cfh ((p 6).len) ((p 6).el) ((p 7).el)) 0):=by
  rintro (h | h)
  ·exact absurd h (by decide)
  ·exact Bp V.shape.outer.near (fun j hj=>(V.shape.hole j hj).valid.near) h
 obtain ⟨rfl,rfl,hA,_⟩:=M.all tn rfl (by omega) nf
 obtain ⟨lx,ly,hx,hy,b1,b2⟩:=tU ((p 6).len) c ((p 7).len) d (by omega)
 obtain ⟨lx',ly',hx',hy',b3,b4⟩:=sQ ((p 6).len) ((p 7).len) c' d' (by omega)
 obtain ⟨rfl,rfl,rfl,rfl⟩:=Bds.unique (by omega) ((b2 (by omega)).congr M1.outer) (b4 (by omega))
 have el:aW p (Int.ofNat tn)=(lx,ly):=by
  unfold aW
  rw [e1]
  dsimp only
  rw [b1]
 exact ⟨_,c',_,d',hx,hy,e2,by rw [el];exact b3⟩
theorem La {p q:Nat->CV} (V:ck p) (E:oQ q p) (t x y:Int) (ht:t=0\/t=1) (hx : -1099511627776<=x/\x<=1099511627776) (hy : -1099511627776<=y/\y<=1099511627776) :
  ∃ b,G9 100 q x y t=some ((p 0).str,x-(aW p t).1,y-(aW p t).2,t,false,b)/\(b=true↔mz p t x y):=by
 have L:=V.lo t ht
 obtain ⟨n,f,n2,f2,hx',hy',e1,e2⟩:=V.turned_ref t ht
 unfold G9 mz
 rw [E.ol,E.oe,E.hl,E.he,e1,aa]
 dsimp only
 rw [e2,aa,E.id]
 dsimp only
 rw [aC (n:=x-(aW p t).1) (by omega) (by omega),aC (n:=y-(aW p t).2) (by omega) (by omega),rn _ _ _ _ (by omega),aa]
 refine ⟨_,rfl,?_⟩
 rw [decide_eq_true_eq]
 exact ⟨fun h=>⟨⟨h.1,h.2.1⟩,h.2.2.1,h.2.2.2⟩,fun h=>⟨h.1.1,h.1.2,h.2.1,h.2.2⟩⟩
def lI (t:Int) (a b c d:Int):Int × Int × Int × Int:=if t=0 then (a,b,c,d) else (-d,a,-b,c)
theorem J7 {f g:FF} {n:Nat} {a b c d:Int} (tn:Nat) (htn:tn<=1) (x y:Int) (hx : -32768<=x/\x<=32768) (hy : -32768<=y/\y<=32768) (hnr:dm n f) (hA:Are (cq false tn x y n f) g n) (hn:0<n) (h:Bds f n a b c d) :
  Bds g n ((lI tn a b c d).1+x) ((lI tn a b c d).2.1+y) ((lI tn a b c d).2.2.1+x) ((lI tn a b c d).2.2.2+y):=by
 have key:∀ j,j<n->(tn=0->(g j 0).int=(f j 0).int+x/\(g j 1).int=(f j 1).int+y)/\(tn=1->(g j 0).int = -(f j 1).int+x/\(g j 1).int=(f j 0).int+y):=by
  intro j hj
  obtain ⟨z1,z2⟩:=hA j hj
  obtain ⟨n1,n2,n3,n4⟩:=hnr j hj
  rw [z1,z2]
  refine ⟨fun e=>?_,fun e=>?_⟩
  ·subst e
   show w64 ((f j 0).int+x)=_/\w64 ((f j 1).int+y)=_
   rw [aC (by omega) (by omega),aC (by omega) (by omega)];exact ⟨rfl,rfl⟩
  ·subst e
   show w64 (w64 (0-(f j 1).int)+x)=_/\w64 ((f j 0).int+y)=_
   rw [aC (n:=0-(f j 1).int) (by omega) (by omega),aC (by omega) (by omega),aC (by omega) (by omega)]
   exact ⟨by omega,rfl⟩
 obtain ⟨h1,h2⟩:=h
 obtain ⟨⟨j1,k1,w1⟩,⟨j2,k2,w2⟩,⟨j3,k3,w3⟩,⟨j4,k4,w4⟩⟩:=h2 hn
 have:tn=0\/tn=1:=by omega
 rcases this with e | e
 ·have eT:lI (tn:Int) a b c d=(a,b,c,d):=by unfold lI;rw [if_pos (by omega)]
  rw [eT]
  dsimp only
  refine ⟨fun j hj=>?_,fun _=>⟨⟨j1,k1,?_⟩,⟨j2,k2,?_⟩,⟨j3,k3,?_⟩,⟨j4,k4,?_⟩⟩⟩
  ·obtain ⟨q1,q2⟩:=(key j hj).1 e
   have:=h1 j hj
   omega
  ·rw [((key j1 k1).1 e).1,w1]
  ·rw [((key j2 k2).1 e).2,w2]
  ·rw [((key j3 k3).1 e).1,w3]
  ·rw [((key j4 k4).1 e).2,w4]
 ·have eT:lI (tn:Int) a b c d=(-d,a,-b,c):=by unfold lI;rw [if_neg (by omega)]
  rw [eT]
  dsimp only
  refine ⟨fun j hj=>?_,fun _=>⟨⟨j4,k4,?_⟩,⟨j1,k1,?_⟩,⟨j2,k2,?_⟩,⟨j3,k3,?_⟩⟩⟩
  ·obtain ⟨q1,q2⟩:=(key j hj).2 e
   have:=h1 j hj
   omega
  ·rw [((key j4 k4).2 e).1,w4]
  ·rw [((key j1 k1).2 e).2,w1]
  ·rw [((key j2 k2).2 e).1,w2]
  ·rw [((key j3 k3).2 e).2,w3]
theorem ck.at_ {p:Nat->CV} (V:ck p) (s:ByteArray) (x y t:Int) (ht:t=0\/t=1) (hx : -32768<=x/\x<=32768) (hy : -32768<=y/\y<=32768):∃ n f n2 f2 f' f2',
  F25 100 ((p 6).len) ((p 6).el) ((p 7).len) ((p 7).el) s x y t false=some (n,f,n2,f2)/\F26 100 ((p 6).len) ((p 6).el) ((p 7).len) ((p 7).el) s x y t false=some (n,f',n2,f2') /\
  F20 100 n f n2 f2=some ((aW p t).1+x,(aW p t).2+y,(aW p t).1+x+(aL p t).1,(aW p t).2+y+(aL p t).2) /\
  F21 100 n f' n2 f2' = some ((aW p t).1+x,(aW p t).2+y,(aW p t).1+x+(aL p t).1,(aW p t).2+y+(aL p t).2):=by
 have h3:=V.shape.outer.big
 have h4:=V.shape.outer.small
 obtain ⟨A,B,C,D,hb,hB,hr1,hr2⟩:=V.box
 obtain ⟨tn,rfl,htn⟩:∃ tn:Nat,t=Int.ofNat tn/\tn<=1:=by
  rcases ht with rfl | rfl
  ·exact ⟨0,rfl,by omega⟩
  ·exact ⟨1,rfl,by omega⟩
 have main:∀ (s:ByteArray) (x y:Int),(-32768<=x/\x<=32768)->(-32768<=y/\y<=32768)->∃ n f n2 f2 f' f2',
   F25 100 ((p 6).len) ((p 6).el) ((p 7).len) ((p 7).el) s x y (Int.ofNat tn) false=some (n,f,n2,f2)/\F26 100 ((p 6).len) ((p 6).el) ((p 7).len) ((p 7).el) s x y (Int.ofNat tn) false=some (n,f',n2,f2') /\
   F20 100 n f n2 f2=some ((lI tn A B C D).1+x,(lI tn A B C D).2.1+y,(lI tn A B C D).2.2.1+x,(lI tn A B C D).2.2.2+y) /\
   F21 100 n f' n2 f2' = some ((lI tn A B C D).1+x,(lI tn A B C D).2.1+y,(lI tn A B C D).2.2.1+x,(lI tn A B C D).2.2.2+y):=by
  intro s x y hx hy
  obtain ⟨a,c,b,d,c',d',e1,e2,M1,M⟩:=DQ ((p 6).len) ((p 7).len) ((p 6).el) ((p 7).el) s x y (Int.ofNat tn) false V.small
  have nf:¬ (lY x y=true\/s8 (1+(p 7).len) (cfh ((p 6).len) ((p 6).el) ((p 7).el)) 0):=by
   rintro (h | h)
   ·unfold lY at h
    rw [decide_eq_true_eq] at h
    omega
   ·exact Bp V.shape.outer.near (fun j hj=>(V.shape.hole j hj).valid.near) h
  obtain ⟨rfl,rfl,hA,_⟩:=M.all tn rfl (by omega) nf
  have hM:=J7 tn htn x y hx hy V.shape.outer.near hA (by omega) hB
  obtain ⟨l1,l2,l3,l4,b1,b2⟩:=tU ((p 6).len) c ((p 7).len) d (by omega)
  obtain ⟨rfl,rfl,rfl,rfl⟩:=Bds.unique (by omega) hM (b2 (by omega))
  obtain ⟨l1',l2',l3',l4',b3,b4⟩:=sQ ((p 6).len) ((p 7).len) c' d' (by omega)
  obtain ⟨rfl,rfl,rfl,rfl⟩:=Bds.unique (by omega) (hM.congr M1.outer) (b4 (by omega))
  exact ⟨_,c,_,d,c',d',e1,e2,b1,b3⟩
 have el:aW p (Int.ofNat tn)=((lI tn A B C D).1,(lI tn A B C D).2.1):=by
  obtain ⟨n,f,n2,f2,f',f2',e1,_,e3,_⟩:=main ByteArray.empty 0 0 (by omega) (by omega)
  unfold aW
  rw [e1]
  dsimp only
  rw [e3]
  dsimp only
  rw [Int.add_zero,Int.add_zero]
 have es:aL p (Int.ofNat tn)=((lI tn A B C D).2.2.1-(lI tn A B C D).1,(lI tn A B C D).2.2.2-(lI tn A B C D).2.1):=by
  obtain ⟨q,g1,g2⟩:=AQ p (Int.ofNat tn) (by omega)
  have e:q=(A,B,C,D):=rhZ (g1.symm.trans hb)
  subst e
  have e:aL p (Int.ofNat tn)=szB (Int.ofNat tn) A B C D:=by unfold aL;rw [g2];rfl
  rw [e]
  unfold szB
  rw [if_pos (by unfold Nr4;omega)]
  have:tn=0\/tn=1:=by omega
  rcases this with rfl | rfl
  ·rfl
  ·show (D-B,C-A)=(-B - -D,C-A)
   rw [show -B - -D=D-B from by omega]
 obtain ⟨n,f,n2,f2,f',f2',e1,e2,e3,e4⟩:=main s x y hx hy
 refine ⟨n,f,n2,f2,f',f2',e1,e2,?_,?_⟩
 ·rw [e3,el,es]
  dsimp only
  refine congrArg some ?_
  rw [Prod.mk.injEq,Prod.mk.injEq,Prod.mk.injEq]
  exact ⟨rfl,rfl,by omega,by omega⟩
 ·rw [e4,el,es]
  dsimp only
  refine congrArg some ?_
  rw [Prod.mk.injEq,Prod.mk.injEq,Prod.mk.injEq]
  exact ⟨rfl,rfl,by omega,by omega⟩
abbrev pS (n:Nat) (f S:FF) (j:Nat):Nat->CV:=f (fd n f ((S j 0).str)).toNat
def bxS (n:Nat) (f S:FF):FF:=fun j c=>match c with
 | 0=>.i .i64 ((aW (pS n f S j) ((S j 3).int)).1+(S j 1).int)
 | 1=>.i .i64 ((aW (pS n f S j) ((S j 3).int)).2+(S j 2).int)
 | 2=>.i .i64 ((aW (pS n f S j) ((S j 3).int)).1+(S j 1).int+(aL (pS n f S j) ((S j 3).int)).1)
 | _=>.i .i64 ((aW (pS n f S j) ((S j 3).int)).2+(S j 2).int+(aL (pS n f S j) ((S j 3).int)).2)
def eh (n:Nat) (f S:FF) (L W gap:Int) (i:Nat):Prop :=
 0<=fd n f ((S i 0).str)/\(S i 4).bool=false/\((S i 3).int=0\/(S i 3).int=1)/\((-32768<=(S i 1).int/\(S i 1).int<=32768)/\(-32768<=(S i 2).int/\(S i 2).int<=32768)) /\
 (∀ j,j<i->(S j 0).str≠(S i 0).str) /\
 en L W i (bxS n f S) (bx (bxS n f S) i 0) (bx (bxS n f S) i 1) (aL (pS n f S i) ((S i 3).int)).1 (aL (pS n f S i) ((S i 3).int)).2 gap
theorem WO {ρ:Type} (k:Nat) (S:FF) (i:Nat) (hi:i<=k) (hk:k<=60) (s:ByteArray) (n:Nat) (f:FF) (a1:Nat) (a2:Int) (a3:ByteArray) (a4:Int) (a5 a6:ByteArray) (a7 a8 a9:Int) (a10:ByteArray) (T:FF) (b1 b2 b3:Int) (b4:Bool) (k0 k1:Option ρ):∀ (m j:Nat),i<m+j->j<=i ->
  (l8 100 n f a1 (Int.ofNat i) a2 a3 a4 k S a5 a6 a7 a8 a9 a10 T s b1 b2 b3 b4 m (Int.ofNat j) k0 k1=k1/\∀ t,j<=t->t<i->(S t 0).str≠s) \/
  (l8 100 n f a1 (Int.ofNat i) a2 a3 a4 k S a5 a6 a7 a8 a9 a10 T s b1 b2 b3 b4 m (Int.ofNat j) k0 k1=k0/\∃ t,t<i/\(S t 0).str=s):=by
 intro m
 induction m with
 | zero=>intro j h1 h2;omega
 | succ m ih =>
  intro j h1 h2
  unfold l8
  rw [aE,ax,aq]
  by_cases h:j<i
  ·rw [ae (qcZ h),ae (qcZ (show j<k by omega)),Hv,ay (by omega)]
   by_cases c:(S j 0).str=s
   ·rw [ae (qcZ c)];exact .inr ⟨rfl,j,h,c⟩
   ·rw [ai (qeZ c)]
    rcases ih (j+1) (by omega) (by omega) with ⟨e,hh⟩ | e
    ·refine .inl ⟨e,fun t h5 h6=>?_⟩
     by_cases ht:t=j
     ·subst ht;exact c
     ·exact hh t (by omega) h6
    ·exact .inr e
  ·rw [ai (qeZ h)];exact .inl ⟨rfl,fun t h5 h6=>by omega⟩
theorem DI {p:Nat->CV} (V:ck p) (q:Nat->CV) (E:oQ q p) (t:Int):s9 100 q t=some (aL p t):=by
 have h4:=V.shape.outer.small
 obtain ⟨z,e1,e2⟩:=JU q t (by rw [E.ol];omega)
 rw [e2]
 have:lG 100 q t=lG 100 p t:=sO 100 q p t E.ol E.oe E.hl E.he
 rw [<- e1,this,V.good.rect]
theorem JV {ρ:Type} (n:Nat) (f:FF) (hn:n<=20) (hV:∀ m,m<n->ck (f m)) (k:Nat) (S:FF) (hk:k<=60) (a:ByteArray) (gap:Int) (b gr:ByteArray) (th L W:Int) (e:ByteArray) (k0 k2:Option ρ):∀ (m i:Nat) (T:FF),k<m+i->i<=k ->
  (∀ j c,j<i->c<4->bx T j c=bx (bxS n f S) j c) ->
  (jB 100 n f a gap k S b gr th L W e m i (Int.ofNat i) T k0 k0 k2=k2/\∀ j,i<=j->j<k->eh n f S L W gap j) \/
  (jB 100 n f a gap k S b gr th L W e m i (Int.ofNat i) T k0 k0 k2=k0/\∃ j,j<k/\¬ eh n f S L W gap j):=by
 intro m
 induction m with
 | zero=>intro i T h1 h2;omega
 | succ m ih =>
  intro i T h1 h2 hT
  unfold jB
  rw [aE,ax,aq]
  by_cases h:i<k
  case neg=>rw [ai (qeZ h)];exact .inl ⟨rfl,fun j h5 h6=>by omega⟩
  have no:∀ (z:Option ρ),z=k0->¬ eh n f S L W gap i->(z=k2/\∀ j,i<=j->j<k->eh n f S L W gap j)\/(z=k0/\∃ j,j<k/\¬ eh n f S L W gap j):=fun z h1 h2=>.inr ⟨h1,i,h,h2⟩
  rw [ae (qcZ h),ae (qcZ h),DY n f _ (by omega),aa,bd]
  by_cases c1:fd n f ((S i 0).str)<0
  ·rw [if_pos c1];exact no _ rfl fun q=>by have:=q.1;omega
  rw [if_neg c1]
  by_cases c2:(S i 4).bool=true
  ·rw [c2];exact no _ rfl fun q=>by rw [q.2.1] at c2;cases c2
  have c2:(S i 4).bool=false:=by simpa using c2
  rw [c2,ae (by rfl),bd]
  by_cases c3:(S i 3).int<0
  ·rw [if_pos c3];exact no _ rfl fun q=>by have:=q.2.2.1;omega
  rw [if_neg c3,bd]
  by_cases c4:(S i 3).int>1
  ·rw [if_pos c4];exact no _ rfl fun q=>by have:=q.2.2.1;omega
  rw [if_neg c4,DP _ _ _ _ (by omega)]
  have ht:(S i 3).int=0\/(S i 3).int=1:=by omega
  by_cases c5:(-32768<=(S i 1).int/\(S i 1).int<=32768/\-32768<=(S i 2).int/\(S i 2).int<=32768)
  case neg=>rw [if_neg c5];exact no _ rfl fun q=>by have:=q.2.2.2.1;omega
  rw [if_pos c5]
  rcases tP n f ((S i 0).str) with hf | ⟨pm,hpm,hf,_⟩
  ·omega
  have hfn:(fd n f ((S i 0).str)).toNat=pm:=by rw [hf];rfl
  have V:=hV pm hpm
  have V' : ck (pS n f S i):=by unfold pS;rw [hfn];exact V
  obtain ⟨n1,g1,n2,g2,g1',g2',_,e2,_,e4⟩:=V.at_ ((S i 0).str) ((S i 1).int) ((S i 2).int) ((S i 3).int) ht ⟨c5.1,c5.2.1⟩ c5.2.2
  rcases WO k S i (by omega) hk ((S i 0).str) n f i (fd n f ((S i 0).str)) a gap b gr th L W e T ((S i 1).int) ((S i 2).int) ((S i 3).int) false k0 (bif (inb (fd n f ((S i 0).str)) n) then (ob (F26 100 ((f (Int.toNat (fd n f ((S i 0).str))) 6).len) ((f (Int.toNat (fd n f ((S i 0).str))) 6).el) ((f (Int.toNat (fd n f ((S i 0).str))) 7).len) ((f (Int.toNat (fd n f ((S i 0).str))) 7).el) ((S i 0).str) ((S i 1).int) ((S i 2).int) ((S i 3).int) false) fun x110=>(ob (F21 100 x110.1 x110.2.1 x110.2.2.1 x110.2.2.2) fun x111=>(bif (inb (fd n f ((S i 0).str)) n) then (ob (s9 100 (au (pj kR0 (f (Int.toNat (fd n f ((S i 0).str)))))) ((S i 3).int)) fun x112=>(ob (BW 100 L W i T x111.1 x111.2.1 x112.1 x112.2 gap) fun x113=>(bif (!x113) then k0 else (bif (Nat.ble (i+1) 1073741824) then (jB 100 n f a gap k S b gr th L W e m (i+1) (w64 (Int.ofNat i+1)) (aB i T (aG 4 [(.i .i64 x111.1),(.i .i64 x111.2.1),(.i .i64 x111.2.2.1),(.i .i64 x111.2.2.2)])) k0 k0 k2) else none)))) else none))) else none) 100 0 (by omega) (by omega) with ⟨e5,hd⟩ | ⟨e5,t,h5,h6⟩
  case inr=>exact no _ e5 fun q=>q.2.2.2.2.1 t h5 h6
  have hb:inb (fd n f ((S i 0).str)) n=true:=by rw [hf];exact dx (by show (0:Int)<=(pm:Int);omega) (by show (pm:Int)<(n:Int);omega)
  have hp:pS n f S i=f pm:=by unfold pS;rw [hfn]
  have lb:=V.lo ((S i 3).int) ht
  have sb:=V.good.sz ((S i 3).int)
  obtain ⟨y,f1,f2⟩:=Fr L W i T ((aW (f pm) ((S i 3).int)).1+(S i 1).int) ((aW (f pm) ((S i 3).int)).2+(S i 2).int) (aL (f pm) ((S i 3).int)).1 (aL (f pm) ((S i 3).int)).2 gap (by omega)
  have hF:y=true↔en L W i (bxS n f S) (bx (bxS n f S) i 0) (bx (bxS n f S) i 1) (aL (pS n f S i) ((S i 3).int)).1 (aL (pS n f S i) ((S i 3).int)).2 gap:=by
   rw [f2]
   have b0:bx (bxS n f S) i 0=(aW (f pm) ((S i 3).int)).1+(S i 1).int:=by rw [<- hp];rfl
   have b1:bx (bxS n f S) i 1=(aW (f pm) ((S i 3).int)).2+(S i 2).int:=by rw [<- hp];rfl
   rw [b0,b1,hp]
   exact ⟨fun q=>q.congr fun j c q1 q2=>(hT j c q1 q2).symm,fun q=>q.congr hT⟩
  obtain ⟨Z,hZ⟩:∃ Z:Option ρ,Z=(bif (!y) then k0 else (bif (Nat.ble (i+1) 1073741824) then (jB 100 n f a gap k S b gr th L W e m (i+1) (w64 (Int.ofNat i+1)) (aB i T (aG 4 [(.i .i64 ((aW (f pm) ((S i 3).int)).1+(S i 1).int)),(.i .i64 ((aW (f pm) ((S i 3).int)).2+(S i 2).int)),(.i .i64 ((aW (f pm) ((S i 3).int)).1+(S i 1).int+(aL (f pm) ((S i 3).int)).1)),(.i .i64 ((aW (f pm) ((S i 3).int)).2+(S i 2).int+(aL (f pm) ((S i 3).int)).2))])) k0 k0 k2) else none)):=⟨_,rfl⟩
  refine (fun (hh:(Z=k2/\∀ j,i<=j->j<k->eh n f S L W gap j) \/
   (Z=k0/\∃ j,j<k/\¬ eh n f S L W gap j))=>?_) ?_
  ·have eq:(bif (inb (fd n f ((S i 0).str)) n) then (ob (F26 100 ((f (Int.toNat (fd n f ((S i 0).str))) 6).len) ((f (Int.toNat (fd n f ((S i 0).str))) 6).el) ((f (Int.toNat (fd n f ((S i 0).str))) 7).len) ((f (Int.toNat (fd n f ((S i 0).str))) 7).el) ((S i 0).str) ((S i 1).int) ((S i 2).int) ((S i 3).int) false) fun x110=>(ob (F21 100 x110.1 x110.2.1 x110.2.2.1 x110.2.2.2) fun x111=>(bif (inb (fd n f ((S i 0).str)) n) then (ob (s9 100 (au (pj kR0 (f (Int.toNat (fd n f ((S i 0).str)))))) ((S i 3).int)) fun x112=>(ob (BW 100 L W i T x111.1 x111.2.1 x112.1 x112.2 gap) fun x113=>(bif (!x113) then k0 else (bif (Nat.ble (i+1) 1073741824) then (jB 100 n f a gap k S b gr th L W e m (i+1) (w64 (Int.ofNat i+1)) (aB i T (aG 4 [(.i .i64 x111.1),(.i .i64 x111.2.1),(.i .i64 x111.2.2.1),(.i .i64 x111.2.2.2)])) k0 k0 k2) else none)))) else none))) else none)=Z:=by
    rw [ae hb,hfn,e2,aa]
    dsimp only
    rw [e4,aa,ae hb,DI V (au (pj kR0 (f pm))) ⟨rfl,rfl,rfl,rfl,rfl⟩,aa]
    dsimp only
    rw [f1,aa,hZ]
   rcases hh with ⟨w1,w2⟩ | ⟨w1,w2⟩
   ·exact .inl ⟨(e5.trans eq).trans w1,w2⟩
   ·exact .inr ⟨(e5.trans eq).trans w1,w2⟩
  ·rw [hZ]
   cases y with
   | false =>
    rw [ae (by rfl)]
    exact .inr ⟨rfl,i,h,fun q=>by have:=hF.2 q.2.2.2.2.2;cases this⟩
   | true =>
    have hq:eh n f S L W gap i:=⟨by omega,c2,ht,⟨⟨c5.1,c5.2.1⟩,c5.2.2⟩,fun j hj=>hd j (by omega) hj,hF.1 rfl⟩
    rw [ai (by rfl),ae (lR (by omega)),ay (by omega)]
    have hT' : ∀ j c,j<i+1->c<4->bx (aB i T (aG 4 [(.i .i64 ((aW (f pm) ((S i 3).int)).1+(S i 1).int)),(.i .i64 ((aW (f pm) ((S i 3).int)).2+(S i 2).int)),(.i .i64 ((aW (f pm) ((S i 3).int)).1+(S i 1).int+(aL (f pm) ((S i 3).int)).1)),(.i .i64 ((aW (f pm) ((S i 3).int)).2+(S i 2).int+(aL (f pm) ((S i 3).int)).2))])) j c=bx (bxS n f S) j c:=by
     intro j c hj hc
     by_cases hji:j<i
     ·show CV.int _=_
      rw [dw _ _ _ _ _ hji];exact hT j c hji hc
     ·have hje:j=i:=by omega
      subst hje
      show CV.int _=_
      rw [dk _ _ _ _ _ (rkZ _),Nat.sub_self]
      match c,hc with
      | 0,_=>rw [<- hp];rfl
      | 1,_=>rw [<- hp];rfl
      | 2,_=>rw [<- hp];rfl
      | 3,_=>rw [<- hp];rfl
    rcases ih (i+1) _ (by omega) (by omega) hT' with ⟨w1,w2⟩ | w
    ·refine .inl ⟨w1,fun j q1 q2=>?_⟩
     by_cases hji:j=i
     ·rw [hji];exact hq
     ·exact w2 j (by omega) q2
    ·exact .inr w
theorem MV {n:Nat} {f:FF} (hn:n<=20) (hV:∀ m,m<n->ck (f m)) {P:Nat} {PF:FF} (hP:P<=20) {gr b e:ByteArray} {th L W:Int} (hs:te 100 b gr th L W e P PF=some (n,f)) (k:Nat) (S:FF) (hk:k<=60) (a:ByteArray) (gap:Int) :
  ∃ z,KN 100 a gap k S b gr th L W e P PF=some z/\(z=true↔∀ j,j<k->eh n f S L W gap j):=by
 unfold KN
 rw [Em P PF b gr e th L W hP,hs,aa]
 rcases JV n f hn hV k S hk a gap b gr th L W e (some false) (some true) 100 0 (fun _ _=>.any) (by omega) (by omega) (fun j c hj=>by omega) with ⟨h1,h2⟩ | ⟨h1,j,h2,h3⟩
 ·exact ⟨true,h1,⟨fun _ j hj=>h2 j (by omega) hj,fun _=>rfl⟩⟩
 ·exact ⟨false,h1,⟨fun h=>(by cases h),fun h=>absurd (h j h2) h3⟩⟩
def aY (r:FF) (n c:Nat) (gap:Int):List Int:=gap::(List.range n).map fun j=>bx r j c+gG gap
theorem BN (r:FF) (n c:Nat) (gap:Int):aY r (n+1) c gap=aY r n c gap ++ [bx r n c+gG gap]:=by
 unfold aY
 rw [List.range_succ,List.map_append,List.cons_append];rfl
theorem CX (r:FF) (n c:Nat) (gap:Int):(aY r n c gap).length=n+1:=by simp [aY]
theorem Rg {ρ:Type} (n:Nat) (r:FF) (hn:n<=60) (hr:∀ j,j<n->NrJ r j) (t gap:Int) (hg:0<=gap/\gap<=500) (a b e:ByteArray) (th L W:Int) (p:Nat->CV):∀ (m i:Nat) (xs ys:FF),n<m+i->i<=n ->
  jh (i+1) xs=aY r i 2 gap->jh (i+1) ys=aY r i 3 gap ->
  ∃ xs' ys',(∀ k0:Nat->FF->FF->Option ρ,mb 100 n r t gap (Int.ofNat n) a b th L W e p m (i+1) (Int.ofNat i) xs ys k0=k0 (n+1) xs' ys')/\jh (n+1) xs' = aY r n 2 gap/\jh (n+1) ys' = aY r n 3 gap:=by
 have snoc:∀ (k:Nat) (f:FF) (z:Int),jh (k+1) (aB k f (aG 1 [(.i .i64 z)]))=jh k f ++ [z]:=by
  intro k f z
  unfold jh
  rw [List.range_succ,List.map_append]
  congr 1
  ·refine List.map_congr_left fun j hj=>?_
   rw [riZ] at hj
   rw [dw _ _ _ _ _ hj]
  ·show [CV.int _] = [z]
   rw [dk _ _ _ _ _ (rkZ _),Nat.sub_self];rfl
 intro m
 induction m with
 | zero=>intro i xs ys h1 h2;omega
 | succ m ih =>
  intro i xs ys h1 h2 hx hy
  by_cases h:i<n
  ·obtain ⟨q1,q2,q3,q4⟩:=hr i h
   have hG:1<=gG gap/\gG gap<=500:=by unfold gG;split<;>omega
   obtain ⟨xs',ys',e1,e2,e3⟩:=ih (i+1) (aB (i+1) xs (aG 1 [(.i .i64 (bx r i 2+gG gap))])) (aB (i+1) ys (aG 1 [(.i .i64 (bx r i 3+gG gap))])) (by omega) (by omega) (by rw [snoc,hx,BN]) (by rw [snoc,hy,BN])
   refine ⟨xs',ys',fun k0=>?_,e2,e3⟩
   unfold mb
   rw [aE,ax,aq,ae (qcZ h),ae (qcZ h),ae (lR (by omega)),ae (lR (by omega)),ay (by omega)]
   have w1:w64 ((r i 2).int+(if 1>gap then 1 else gap))=bx r i 2+gG gap:=aC (by show -9223372036854775808<=bx r i 2+gG gap;omega) (by show bx r i 2+gG gap<=9223372036854775807;omega)
   have w2:w64 ((r i 3).int+(if 1>gap then 1 else gap))=bx r i 3+gG gap:=aC (by show -9223372036854775808<=bx r i 3+gG gap;omega) (by show bx r i 3+gG gap<=9223372036854775807;omega)
   rw [w1,w2]
   exact e1 k0
  ·have:i=n:=by omega
   subst this
   refine ⟨xs,ys,fun k0=>?_,hx,hy⟩
   unfold mb
   rw [aE,ai (qeZ h)]
theorem Hy (u k:Nat) (g:FF) (h0:0<k) (hk:k<=1000):Ct u k g=some (dF k g)/\∀ i,i<k->(dF k g i 0).int=(jI (jh k g)).getD i 0:=by
 refine ⟨?_,fun i hi=>rfl⟩
 unfold Ct Dp
 rw [ae]
 rw [qaZ,Nat.blt_eq,Nat.ble_eq]
 exact ⟨h0,by omega⟩
def lD (p:Nat->CV) (t:Int) (n:Nat) (r:FF) (L W gap x y:Int):Prop:=mz p t x y/\en L W n r x y (aL p t).1 (aL p t).2 gap
theorem aaT {ρ:Type} {p q:Nat->CV} (V:ck p) (E:oQ q p) (t:Int) (ht:t=0\/t=1) (n:Nat) (hn:n<=60) (r:FF) (gap y:Int) (N:Nat) (hN:N<=61) (X Y:FF) (a1:Int) (a b e:ByteArray) (th L W:Int) (hX:∀ i,i<N->-1099511627776<=(X i 0).int/\(X i 0).int<=1099511627776) (hy : -1099511627776<=y/\y<=1099511627776) (c1 c2:Int) (k0:Int->Option ρ) (k1:Option ρ)
  (E' : oQ (au (pj kR0 q)) p):∀ (m i:Nat),N<m+i->i<=N ->
  (∃ j,i<=j/\j<N/\lD p t n r L W gap ((X j 0).int) y/\(∀ j',i<=j'->j' < j->¬ lD p t n r L W gap ((X j' 0).int) y) /\
   jC 100 n r t gap N (aL p t).1 (aL p t).2 y c1 c2 (Int.ofNat N) a b th L W e q X Y m (Int.ofNat i) k0 k1=k0 ((X j 0).int)) \/
  (jC 100 n r t gap N (aL p t).1 (aL p t).2 y c1 c2 (Int.ofNat N) a b th L W e q X Y m (Int.ofNat i) k0 k1=k1/\∀ j,i<=j->j<N->¬ lD p t n r L W gap ((X j 0).int) y):=by
 intro m
 induction m with
 | zero=>intro i h1 h2;omega
 | succ m ih =>
  intro i h1 h2
  unfold jC
  rw [aE,ax,aq,rlZ]
  by_cases h:i<N
  case neg=>rw [ai (qeZ h)];exact .inr ⟨rfl,fun j h5 h6=>by omega⟩
  obtain ⟨z,e1,hz⟩:=Es V E' t ((X i 0).int) y ht (hX i h) hy
  rw [ae (qcZ h),ae (qcZ h),e1,aa,ay (by omega)]
  dsimp only
  have skip:¬ lD p t n r L W gap ((X i 0).int) y->(∃ j,i<=j/\j<N/\lD p t n r L W gap ((X j 0).int) y/\(∀ j',i<=j'->j' < j->¬ lD p t n r L W gap ((X j' 0).int) y) /\
   jC 100 n r t gap N (aL p t).1 (aL p t).2 y c1 c2 (Int.ofNat N) a b th L W e q X Y m (Int.ofNat (i+1)) k0 k1=k0 ((X j 0).int)) \/
   (jC 100 n r t gap N (aL p t).1 (aL p t).2 y c1 c2 (Int.ofNat N) a b th L W e q X Y m (Int.ofNat (i+1)) k0 k1=k1/\∀ j,i<=j->j<N->¬ lD p t n r L W gap ((X j 0).int) y):=by
   intro no
   rcases ih (i+1) (by omega) (by omega) with ⟨j,q1,q2,q3,q4,q5⟩ | ⟨q1,q2⟩
   ·refine .inl ⟨j,by omega,q2,q3,fun j' w1 w2=>?_,q5⟩
    by_cases hj:j' = i
    ·subst hj;exact no
    ·exact q4 j' (by omega) w2
   ·refine .inr ⟨q1,fun j w1 w2=>?_⟩
    by_cases hj:j=i
    ·subst hj;exact no
    ·exact q2 j (by omega) w2
  cases z with
  | false =>
   rw [ai (by rfl)]
   exact skip fun o=>by have:=hz.2 o.1;cases this
  | true =>
   obtain ⟨u,e2,hu⟩:=Fs L W n r ((X i 0).int) y (aL p t).1 (aL p t).2 gap hn
   rw [ae (by rfl),e2,aa]
   cases u with
   | false =>
    rw [ai (by rfl)]
    exact skip fun o=>by have:=hu.2 o.2;cases this
   | true =>
    rw [ae (by rfl)]
    exact .inl ⟨i,rkZ _,h,⟨hz.1 rfl,hu.1 rfl⟩,fun j' w1 w2=>by omega,rfl⟩
theorem aaS {ρ:Type} {p q:Nat->CV} (V:ck p) (E:oQ q p) (t:Int) (ht:t=0\/t=1) (n:Nat) (hn:n<=60) (r:FF) (gap:Int) (N:Nat) (hN:N<=61) (X Y:FF) (a b e:ByteArray) (th L W:Int) (hX:∀ i,i<N->-1099511627776<=(X i 0).int/\(X i 0).int<=1099511627776) (hY:∀ i,i<N->-1099511627776<=(Y i 0).int/\(Y i 0).int<=1099511627776) (k0:Int->Int->Option ρ) (k1:Option ρ)
  (E' : oQ (au (pj kR0 q)) p):∀ (m i:Nat),N<m+i->i<=N ->
  (∃ j jy,jy<N/\j<N/\i<=jy/\lD p t n r L W gap ((X j 0).int) ((Y jy 0).int)/\(∀ j',j' < j->¬ lD p t n r L W gap ((X j' 0).int) ((Y jy 0).int))/\(∀ jy' j',i<=jy'->jy' < jy->j' < N->¬ lD p t n r L W gap ((X j' 0).int) ((Y jy' 0).int)) /\
   eW 100 n r t gap N (aL p t).1 (aL p t).2 (Int.ofNat N) a b th L W e q X Y m (Int.ofNat i) k0 k1=k0 ((X j 0).int) ((Y jy 0).int)) \/
  (eW 100 n r t gap N (aL p t).1 (aL p t).2 (Int.ofNat N) a b th L W e q X Y m (Int.ofNat i) k0 k1=k1/\∀ jy j,i<=jy->jy<N->j<N->¬ lD p t n r L W gap ((X j 0).int) ((Y jy 0).int)):=by
 intro m
 induction m with
 | zero=>intro i h1 h2;omega
 | succ m ih =>
  intro i h1 h2
  unfold eW
  rw [aE,ax,aq,rlZ]
  by_cases h:i<N
  case neg=>rw [ai (qeZ h)];exact .inr ⟨rfl,fun jy j h5 h6=>by omega⟩
  rw [ae (qcZ h),ae (qcZ h),ay (by omega)]
  rcases aaT V E t ht n hn r gap ((Y i 0).int) N hN X Y (Int.ofNat N) a b e th L W hX (hY i h) (Int.ofNat N) (Int.ofNat i) (fun x176=>(k0 x176 ((Y i 0).int))) (eW 100 n r t gap N (aL p t).1 (aL p t).2 (Int.ofNat N) a b th L W e q X Y m (Int.ofNat (i+1)) k0 k1) E' 100 0 (by omega) (by omega) with ⟨j,q1,q2,q3,q4,q5⟩ | ⟨q1,q2⟩
  ·exact .inl ⟨j,i,h,q2,rkZ _,q3,fun j' w=>q4 j' (by omega) w,fun jy' j' w1 w2=>by omega,q5⟩
  ·rcases ih (i+1) (by omega) (by omega) with ⟨j,jy,w1,w2,w3,w4,w5,w6,w7⟩ | ⟨w1,w2⟩
   ·refine .inl ⟨j,jy,w1,w2,by omega,w4,w5,fun jy' j' u1 u2 u3=>?_,q1.trans w7⟩
    by_cases hj:jy' = i
    ·subst hj;exact q2 j' (by omega) u3
    ·exact w6 jy' j' (by omega) u2 u3
   ·refine .inr ⟨q1.trans w1,fun jy j u1 u2 u3=>?_⟩
    by_cases hj:jy=i
    ·subst hj;exact q2 j (by omega) u3
    ·exact w2 jy j (by omega) u2 u3
theorem QT {p q:Nat->CV} (V:ck p) (E:oQ q p) (E' : oQ (au (pj kR0 q)) p) (t:Int) (ht:t=0\/t=1) (n:Nat) (hn:n<=60) (r:FF) (gap:Int) (hg:0<=gap/\gap<=500) (hr:∀ j,j<n->∀ c,c<4->0<=bx r j c/\bx r j c<=1073741824) (a b e:ByteArray) (th L W:Int) :
  (∃ x y,Cs 100 a b th L W e n r q t gap=some (x,y,true)/\x∈aY r n 2 gap/\y∈aY r n 3 gap/\lD p t n r L W gap x y/\∀ x' ∈ aY r n 2 gap,∀ y' ∈ aY r n 3 gap,lD p t n r L W gap x' y'->y<y'\/(y=y'/\x<=x')) \/
  (Cs 100 a b th L W e n r q t gap=some (0,0,false)/\∀ x' ∈ aY r n 2 gap,∀ y' ∈ aY r n 3 gap,¬ lD p t n r L W gap x' y'):=by
 have hG:1<=gG gap/\gG gap<=500:=by unfold gG;split<;>omega
 obtain ⟨xs,ys,e1,e2,e3⟩:=Rg (ρ:=Int × Int × Bool) n r hn (fun j hj=>by
  have:=hr j hj
  have h0:=this 0 (by omega)
  have h1:=this 1 (by omega)
  have h2:=this 2 (by omega)
  have h3:=this 3 (by omega)
  unfold NrJ Nr4
  omega) t gap hg a b e th L W q 100 0 (aG 1 [(.i .i64 gap)]) (aG 1 [(.i .i64 gap)]) (by omega) (by omega) rfl rfl
 obtain ⟨s1,s2⟩:=Hy 100 (n+1) xs (by omega) (by omega)
 obtain ⟨s3,s4⟩:=Hy 100 (n+1) ys (by omega) (by omega)
 have hbd:∀ c,(c=2\/c=3)->∀ x∈aY r n c gap,-1099511627776<=x/\x<=1099511627776:=by
  intro c hc x hx
  unfold aY at hx
  rcases List.mem_cons.1 hx with rfl | hx
  ·omega
  ·obtain ⟨j,hj,rfl⟩:=rjZ.1 hx
   rw [riZ] at hj
   have:=hr j hj c (by omega)
   omega
 have at_:∀ (l:List Int) (i:Nat),i<l.length->l.getD i 0∈l:=fun l i hi=>by rw [qdZ,qgZ hi];exact List.getElem_mem _
 have of_:∀ (l:List Int) (x:Int),x∈l->∃ i,i<l.length/\l.getD i 0=x:=fun l x hx=>by
  obtain ⟨i,hi,e⟩:=List.getElem_of_mem hx
  exact ⟨i,hi,by rw [qdZ,qgZ hi];exact e⟩
 have le_:∀ (l:List Int) (i j:Nat),i<=j->j<(jI l).length->(jI l).getD i 0<=(jI l).getD j 0:=fun l i j hij hj=>by
  have:=mB l
  rw [reZ] at this
  rw [qdZ,qgZ (by omega),qdZ,qgZ hj]
  by_cases q:i=j
  ·subst q;exact Int.le_refl _
  ·exact this i j (by omega) hj (by omega)
 have lx:(jI (aY r n 2 gap)).length=n+1:=by rw [(dI _).length_eq,CX]
 have ly:(jI (aY r n 3 gap)).length=n+1:=by rw [(dI _).length_eq,CX]
 have X:∀ i,i<n+1->(dF (n+1) xs i 0).int=(jI (aY r n 2 gap)).getD i 0:=fun i hi=>by rw [s2 i hi,e2]
 have Y:∀ i,i<n+1->(dF (n+1) ys i 0).int=(jI (aY r n 3 gap)).getD i 0:=fun i hi=>by rw [s4 i hi,e3]
 have mX:∀ i,i<n+1->(dF (n+1) xs i 0).int∈aY r n 2 gap:=fun i hi=>by rw [X i hi];exact (dI _).subset (at_ _ _ (by omega))
 have mY:∀ i,i<n+1->(dF (n+1) ys i 0).int∈aY r n 3 gap:=fun i hi=>by rw [Y i hi];exact (dI _).subset (at_ _ _ (by omega))
 have key:=aaS V E t ht n hn r gap (n+1) (by omega) (dF (n+1) xs) (dF (n+1) ys) a b e th L W (fun i hi=>hbd 2 (.inl rfl) _ (mX i hi)) (fun i hi=>hbd 3 (.inr rfl) _ (mY i hi)) (fun x188 x189=>(some (x188,x189,true))) (some (0,0,false)) E' 100 0 (by omega) (by omega)
 have run:Cs 100 a b th L W e n r q t gap=eW 100 n r t gap (n+1) (aL p t).1 (aL p t).2 (Int.ofNat (n+1)) a b th L W e q (dF (n+1) xs) (dF (n+1) ys) 100 (Int.ofNat 0) (fun x188 x189=>(some (x188,x189,true))) (some (0,0,false)):=by
  unfold Cs
  refine (e1 _).trans ?_
  have hb:Nat.beq (n+1) (n+1)=true:=Nat.beq_refl _
  have h0:Nat.beq (n+1) 0=false:=rfl
  rw [s1,aa,ae hb,ai h0,s3,aa,ae hb,ai h0,sO 100 (au (pj kR0 q)) p t E'.ol E'.oe E'.hl E'.he,V.good.rect,aa]
  rfl
 rw [run]
 have fX:∀ x' ∈ aY r n 2 gap,∃ i,i<n+1/\(jI (aY r n 2 gap)).getD i 0=x':=fun x' hx'=>by
  obtain ⟨i,hi,e⟩:=of_ (jI (aY r n 2 gap)) x' ((dI _).symm.subset hx')
  exact ⟨i,by omega,e⟩
 have fY:∀ x' ∈ aY r n 3 gap,∃ i,i<n+1/\(jI (aY r n 3 gap)).getD i 0=x':=fun x' hx'=>by
  obtain ⟨i,hi,e⟩:=of_ (jI (aY r n 3 gap)) x' ((dI _).symm.subset hx')
  exact ⟨i,by omega,e⟩
 rcases key with ⟨j,jy,k1,k2,_,k4,k5,k6,k7⟩ | ⟨k1,k2⟩
 ·refine .inl ⟨_,_,k7,mX j k2,mY jy k1,k4,fun x' hx' y' hy' ok=>?_⟩
  obtain ⟨i,hi,ei⟩:=fX x' hx'
  obtain ⟨iy,hiy,eiy⟩:=fY y' hy'
  rw [<- ei,<- eiy,<- X i hi,<- Y iy hiy] at ok ⊢
  by_cases c:iy<jy
  ·exact absurd ok (k6 iy i (by omega) c hi)
  ·have hyy:(dF (n+1) ys jy 0).int<=(dF (n+1) ys iy 0).int:=by rw [Y jy k1,Y iy hiy];exact le_ _ jy iy (by omega) (by omega)
   by_cases d:(dF (n+1) ys jy 0).int<(dF (n+1) ys iy 0).int
   ·exact .inl d
   ·have ey:(dF (n+1) ys jy 0).int=(dF (n+1) ys iy 0).int:=by omega
    refine .inr ⟨ey,?_⟩
    by_cases f:i<j
    ·rw [<- ey] at ok;exact absurd ok (k5 i f)
    ·rw [X j k2,X i hi];exact le_ _ j i (by omega) (by omega)
 ·refine .inr ⟨k1,fun x' hx' y' hy' ok=>?_⟩
  obtain ⟨i,hi,ei⟩:=fX x' hx'
  obtain ⟨iy,hiy,eiy⟩:=fY y' hy'
  rw [<- ei,<- eiy,<- X i hi,<- Y iy hiy] at ok
  exact k2 iy i (by omega) hiy hi ok
def pick (r0 r1:Int × Int × Bool):Int × Bool × Int × Int :=
 if r0.2.2=true then (if r1.2.2=true/\(r1.2.1<r0.2.1\/r1.2.1=r0.2.1/\r1.1<r0.1) then (1,true,r1.1,r1.2.1) else (0,true,r0.1,r0.2.1))
 else if r1.2.2=true then (1,true,r1.1,r1.2.1) else (0,false,0,0)
section
variable (a b e : ByteArray) (th L W gap : Int) (f : FF)
def mH (k:Nat) (T:FF) (i:Nat) (t:Int):Int × Int × Bool:=(Cs 100 a b th L W e k T (au (pj kR0 (f i))) t gap).getD (0,0,false)
def ct (k:Nat) (T:FF) (i:Nat):Int × Bool × Int × Int:=pick (mH a b e th L W gap f k T i 0) (mH a b e th L W gap f k T i 1)
def A5 (i k:Nat) (S T:FF):Nat × FF × FF :=
 if (ct a b e th L W gap f k T i).2.1=true then
  (k+1,aB k S (aG 5 [(.s ((f i 0).str)),(.i .i64 ((ct a b e th L W gap f k T i).2.2.1-(aW (f i) (ct a b e th L W gap f k T i).1).1)),(.i .i64 ((ct a b e th L W gap f k T i).2.2.2-(aW (f i) (ct a b e th L W gap f k T i).1).2)),(.i .i64 (ct a b e th L W gap f k T i).1),(.b false)]),
   aB k T (aG 4 [(.i .i64 (ct a b e th L W gap f k T i).2.2.1),(.i .i64 (ct a b e th L W gap f k T i).2.2.2),(.i .i64 ((ct a b e th L W gap f k T i).2.2.1+(aL (f i) (ct a b e th L W gap f k T i).1).1)),(.i .i64 ((ct a b e th L W gap f k T i).2.2.2+(aL (f i) (ct a b e th L W gap f k T i).1).2))]))
 else (k,S,T)
end
def FY (k:Nat) (T:FF):Prop:=∀ j,j<k->∀ c,c<4->0<=bx T j c/\bx T j c<=32768
section
variable {a b e : ByteArray} {th L W gap : Int} {f : FF}
theorem Fb {i:Nat} (V:ck (f i)) (t:Int) (ht:t=0\/t=1) {k:Nat} (hk:k<=60) {T:FF} (hg:0<=gap/\gap<=500) (hT:FY k T) :
  Cs 100 a b th L W e k T (au (pj kR0 (f i))) t gap=some (mH a b e th L W gap f k T i t) /\
  ((mH a b e th L W gap f k T i t).2.2=true->lD (f i) t k T L W gap (mH a b e th L W gap f k T i t).1 (mH a b e th L W gap f k T i t).2.1 /\
   (mH a b e th L W gap f k T i t).1∈aY T k 2 gap/\(mH a b e th L W gap f k T i t).2.1∈aY T k 3 gap /\
   ∀ x' ∈ aY T k 2 gap,∀ y' ∈ aY T k 3 gap,lD (f i) t k T L W gap x' y'->(mH a b e th L W gap f k T i t).2.1<y'\/((mH a b e th L W gap f k T i t).2.1=y'/\(mH a b e th L W gap f k T i t).1<=x')) /\
  ((mH a b e th L W gap f k T i t).2.2=false->mH a b e th L W gap f k T i t=(0,0,false)/\∀ x' ∈ aY T k 2 gap,∀ y' ∈ aY T k 3 gap,¬ lD (f i) t k T L W gap x' y'):=by
 rcases QT V (q:=au (pj kR0 (f i))) ⟨rfl,rfl,rfl,rfl,rfl⟩ ⟨rfl,rfl,rfl,rfl,rfl⟩ t ht k hk T gap hg (fun j hj c hc=>by have:=hT j hj c hc;omega) a b e th L W with ⟨x,y,h1,h2,h3,h4,h5⟩ | ⟨h1,h2⟩
 ·have e:mH a b e th L W gap f k T i t=(x,y,true):=by unfold mH;rw [h1];rfl
  rw [e]
  exact ⟨h1,fun _=>⟨h4,h2,h3,h5⟩,fun h=>by cases h⟩
 ·have e:mH a b e th L W gap f k T i t=(0,0,false):=by unfold mH;rw [h1];rfl
  rw [e]
  exact ⟨h1,fun h=>(by cases h),fun _=>⟨rfl,h2⟩⟩
theorem CF {i:Nat} (V:ck (f i)) {k:Nat} (hk:k<=60) {T:FF} (hg:0<=gap/\gap<=500) (hT:FY k T) :
  ((ct a b e th L W gap f k T i).1=0\/(ct a b e th L W gap f k T i).1=1) /\
  ((ct a b e th L W gap f k T i).2.1=true->lD (f i) (ct a b e th L W gap f k T i).1 k T L W gap (ct a b e th L W gap f k T i).2.2.1 (ct a b e th L W gap f k T i).2.2.2) /\
  ((ct a b e th L W gap f k T i).2.1=false->∀ t,(t=0\/t=1)->∀ x' ∈ aY T k 2 gap,∀ y' ∈ aY T k 3 gap,¬ lD (f i) t k T L W gap x' y'):=by
 obtain ⟨_,a1,a2⟩:=Fb (a:=a) (b:=b) (e:=e) (th:=th) (L:=L) (W:=W) V 0 (.inl rfl) hk hg hT
 obtain ⟨_,b1,b2⟩:=Fb (a:=a) (b:=b) (e:=e) (th:=th) (L:=L) (W:=W) V 1 (.inr rfl) hk hg hT
 unfold ct pick
 generalize mH a b e th L W gap f k T i 0=r0 at *
 generalize mH a b e th L W gap f k T i 1=r1 at *
 by_cases c0:r0.2.2=true
 ·rw [if_pos c0]
  by_cases c1:r1.2.2=true/\(r1.2.1<r0.2.1\/r1.2.1=r0.2.1/\r1.1<r0.1)
  ·rw [if_pos c1]
   exact ⟨.inr rfl,fun _=>(b1 c1.1).1,fun h=>by cases h⟩
  ·rw [if_neg c1]
   exact ⟨.inl rfl,fun _=>(a1 c0).1,fun h=>by cases h⟩
 ·rw [if_neg c0]
  by_cases c1:r1.2.2=true
  ·rw [if_pos c1]
   exact ⟨.inr rfl,fun _=>(b1 c1).1,fun h=>by cases h⟩
  ·rw [if_neg c1]
   refine ⟨.inl rfl,fun h=>(by cases h),fun _ t ht=>?_⟩
   rcases ht with rfl | rfl
   ·exact (a2 (by simpa using c0)).2
   ·exact (b2 (by simpa using c1)).2
theorem JP {i:Nat} (V:ck (f i)) {k:Nat} (hk:k<=60) {S T:FF} (hg:0<=gap/\gap<=500) (hT:FY k T) :
  FY (A5 a b e th L W gap f i k S T).1 (A5 a b e th L W gap f i k S T).2.2:=by
 obtain ⟨_,h1,_⟩:=CF (a:=a) (b:=b) (e:=e) (th:=th) (L:=L) (W:=W) V hk hg hT
 unfold A5
 by_cases c:(ct a b e th L W gap f k T i).2.1=true
 ·rw [if_pos c]
  obtain ⟨_,q1,_,q3,_⟩:=h1 c
  unfold rH at q1
  unfold FIn at q3
  intro j hj d hd
  have hj:j<k+1:=hj
  dsimp only
  by_cases hjk:j<k
  ·show 0<=CV.int _/\CV.int _<=32768
   rw [dw _ _ _ _ _ hjk];exact hT j hjk d hd
  ·have:j=k:=by omega
   subst this
   show 0<=CV.int _/\CV.int _<=32768
   rw [dk _ _ _ _ _ (rkZ _),Nat.sub_self]
   match d,hd with
   | 0,_=>show 0<=(ct a b e th L W gap f j T i).2.2.1/\(ct a b e th L W gap f j T i).2.2.1<=32768;omega
   | 1,_=>show 0<=(ct a b e th L W gap f j T i).2.2.2/\(ct a b e th L W gap f j T i).2.2.2<=32768;omega
   | 2,_=>show 0<=(ct a b e th L W gap f j T i).2.2.1+(aL (f i) (ct a b e th L W gap f j T i).1).1/\(ct a b e th L W gap f j T i).2.2.1+(aL (f i) (ct a b e th L W gap f j T i).1).1<=32768;omega
   | 3,_=>show 0<=(ct a b e th L W gap f j T i).2.2.2+(aL (f i) (ct a b e th L W gap f j T i).1).2/\(ct a b e th L W gap f j T i).2.2.2+(aL (f i) (ct a b e th L W gap f j T i).1).2<=32768;omega
 ·rw [if_neg c];exact hT
end
theorem CW {r:FF} {n c:Nat} {gap x:Int} (h:x∉aY r n c gap):x≠gap/\∀ j,j<n->x≠bx r j c+gG gap:=by
 unfold aY at h
 rw [List.mem_cons,not_or] at h
 refine ⟨h.1,fun j hj e=>h.2 (rjZ.2 ⟨j,riZ.2 hj,e.symm⟩)⟩
theorem Xj {p:Nat->CV} (V:ck p) {t:Int} (ht:t=0\/t=1) {n:Nat} {r:FF} {L W gap:Int} (hno:∀ x' ∈ aY r n 2 gap,∀ y' ∈ aY r n 3 gap,¬ lD p t n r L W gap x' y') (x y:Int):¬ lD p t n r L W gap x y:=by
 have lo:=V.lo t ht
 have key:∀ (N:Nat) (x y:Int),x.toNat+y.toNat<N->¬ lD p t n r L W gap x y:=by
  intro N
  induction N with
  | zero=>intro x y h;omega
  | succ N ih =>
   intro x y h ok
   obtain ⟨h1,h2,h3,h4,h5⟩:=id ok
   unfold mz at h1
   unfold rH at h2
   unfold FIn at h4
   by_cases cx:x∈aY r n 2 gap
   ·by_cases cy:y∈aY r n 3 gap
    ·exact hno x cx y cy ok
    ·obtain ⟨q1,q2⟩:=CW cy
     refine ih x (y-1) (by omega) ⟨by unfold mz;omega,by unfold rH;omega,h3,by unfold FIn;omega,fun j hj=>?_⟩
     have a:=h5 j hj
     have b:=q2 j hj
     unfold oq Apt at a ⊢
     omega
   ·obtain ⟨q1,q2⟩:=CW cx
    refine ih (x-1) y (by omega) ⟨by unfold mz;omega,by unfold rH;omega,h3,by unfold FIn;omega,fun j hj=>?_⟩
    have a:=h5 j hj
    have b:=q2 j hj
    unfold oq Apt at a ⊢
    omega
 exact key _ x y (Nat.lt_succ_self _)
theorem en.mono {len wid:Int} {n n' : Nat} {r:FF} {x y l w gap:Int} (h:en len wid n' r x y l w gap) (hn:n<=n'):en len wid n r x y l w gap :=
 ⟨h.1,fun j hj=>h.2.1 j (by omega),h.2.2.1,fun j hj=>h.2.2.2 j (by omega)⟩
theorem vL {n:Nat} {f S S' : FF} {j:Nat} (e:S' j=S j):bxS n f S' j=bxS n f S j:=by
 funext c
 unfold bxS pS
 rw [e]
theorem eh.congr {n:Nat} {f S S' : FF} {L W gap:Int} {i:Nat} (e:∀ j,j<=i->S' j=S j) (h:eh n f S L W gap i):eh n f S' L W gap i:=by
 obtain ⟨h1,h2,h3,h4,h5,h6⟩:=h
 have ei:=e i (rkZ _)
 refine ⟨by rw [ei];exact h1,by rw [ei];exact h2,by rw [ei];exact h3,by rw [ei];exact h4,fun j hj=>by rw [ei,e j (by omega)];exact h5 j hj,?_⟩
 have eb:=vL (n:=n) (f:=f) ei
 have ep:pS n f S' i=pS n f S i:=by unfold pS;rw [ei]
 rw [ep,ei,show bx (bxS n f S') i 0=bx (bxS n f S) i 0 from by unfold bx;rw [eb],show bx (bxS n f S') i 1=bx (bxS n f S) i 1 from by unfold bx;rw [eb]]
 exact h6.congr fun j c hj _=>by unfold bx;rw [vL (e j (by omega))]
structure Pu (n:Nat) (f:FF) (L W gap:Int) (i k:Nat) (S T:FF):Prop where
 le:k<=i
 box:FY k T
 same:∀ j c,j<k->c<4->bx T j c=bx (bxS n f S) j c
 idx:∀ j,j<k->∃ m,m<i/\(S j 0).str=(f m 0).str
 poss:∀ j,j<k->eh n f S L W gap j
 no:∀ m,m<i->(∀ j,j<k->(S j 0).str≠(f m 0).str)->∀ t x y,(t=0\/t=1)->¬ lD (f m) t k T L W gap x y
theorem vE {n:Nat} {f g:FF} {j:Nat} (h:j<n):aB n f g j=f j:=by funext c;exact dw _ _ _ _ _ h
section
variable {a b e : ByteArray} {th L W gap : Int} {f : FF} {n : Nat} (hn : n <= 20) (hV : ∀ i, i < n -> ck (f i)) (hD : ∀ i j, i < j -> j < n -> (f i 0).str ≠ (f j 0).str) (hg : 0 <= gap /\ gap <= 500)
include hn hV hD hg
theorem Pu.step {i k:Nat} {S T:FF} (h:Pu n f L W gap i k S T) (hi:i<n):Pu n f L W gap (i+1) (A5 a b e th L W gap f i k S T).1 (A5 a b e th L W gap f i k S T).2.1 (A5 a b e th L W gap f i k S T).2.2:=by
 have hk:=h.le
 have V:=hV i hi
 have hbx:=JP (a:=a) (b:=b) (e:=e) (th:=th) (L:=L) (W:=W) (S:=S) V (by omega:k<=60) hg h.box
 obtain ⟨p1,p2,p3⟩:=CF (a:=a) (b:=b) (e:=e) (th:=th) (L:=L) (W:=W) V (by omega:k<=60) hg h.box
 unfold A5 at hbx ⊢
 generalize ct a b e th L W gap f k T i=r at *
 obtain ⟨t,s,x,y⟩:=r
 dsimp only at p1 p2 p3 hbx ⊢
 cases s with
 | false =>
  rw [if_neg (by decide)] at hbx ⊢
  refine ⟨Nat.le_succ_of_le hk,hbx,h.same,fun j hj=>?_,h.poss,fun m hm hno t x y ht=>?_⟩
  ·obtain ⟨m,q1,q2⟩:=h.idx j hj
   exact ⟨m,by omega,q2⟩
  ·by_cases c:m<i
   ·exact h.no m c hno t x y ht
   ·have:m=i:=by omega
    subst this
    exact Xj V ht (p3 rfl t ht) x y
 | true =>
  obtain ⟨q0,q1,q2,q3,q4⟩:=p2 rfl
  rw [if_pos rfl] at hbx ⊢
  dsimp only at hbx ⊢
  generalize hS:aB k S (aG 5 [(.s ((f i 0).str)),(.i .i64 (x-(aW (f i) t).1)),(.i .i64 (y-(aW (f i) t).2)),(.i .i64 t),(.b false)])=S' at *
  generalize hT:aB k T (aG 4 [(.i .i64 x),(.i .i64 y),(.i .i64 (x+(aL (f i) t).1)),(.i .i64 (y+(aL (f i) t).2))])=T' at *
  have old:∀ j,j<k->S' j=S j:=fun j hj=>by rw [<- hS];exact vE hj
  have oldT:∀ j,j<k->T' j=T j:=fun j hj=>by rw [<- hT];exact vE hj
  have s0:(S' k 0).str=(f i 0).str:=by rw [<- hS,dk _ _ _ _ _ (rkZ _),Nat.sub_self];rfl
  have s1:(S' k 1).int=x-(aW (f i) t).1:=by rw [<- hS,dk _ _ _ _ _ (rkZ _),Nat.sub_self];rfl
  have s2:(S' k 2).int=y-(aW (f i) t).2:=by rw [<- hS,dk _ _ _ _ _ (rkZ _),Nat.sub_self];rfl
  have s3:(S' k 3).int=t:=by rw [<- hS,dk _ _ _ _ _ (rkZ _),Nat.sub_self];rfl
  have s4:(S' k 4).bool=false:=by rw [<- hS,dk _ _ _ _ _ (rkZ _),Nat.sub_self];rfl
  have t0:bx T' k 0=x:=by unfold bx;rw [<- hT,dk _ _ _ _ _ (rkZ _),Nat.sub_self];rfl
  have t1:bx T' k 1=y:=by unfold bx;rw [<- hT,dk _ _ _ _ _ (rkZ _),Nat.sub_self];rfl
  have t2:bx T' k 2=x+(aL (f i) t).1:=by unfold bx;rw [<- hT,dk _ _ _ _ _ (rkZ _),Nat.sub_self];rfl
  have t3:bx T' k 3=y+(aL (f i) t).2:=by unfold bx;rw [<- hT,dk _ _ _ _ _ (rkZ _),Nat.sub_self];rfl
  have hfd:fd n f ((f i 0).str)=Int.ofNat i:=(BI hi).2 fun j hj=>hD j i hj hi
  have hp:pS n f S' k=f i:=by unfold pS;rw [s0,hfd];rfl
  have same:∀ j c,j<k+1->c<4->bx T' j c=bx (bxS n f S') j c:=by
   intro j c hj hc
   by_cases hjk:j<k
   ·unfold bx
    rw [oldT j hjk,vL (old j hjk)]
    exact h.same j c hjk hc
   ·have:j=k:=by omega
    subst this
    match c,hc with
    | 0,_ =>
     show _=(aW (pS n f S' j) ((S' j 3).int)).1+(S' j 1).int
     rw [t0,hp,s1,s3];omega
    | 1,_ =>
     show _=(aW (pS n f S' j) ((S' j 3).int)).2+(S' j 2).int
     rw [t1,hp,s2,s3];omega
    | 2,_ =>
     show _=(aW (pS n f S' j) ((S' j 3).int)).1+(S' j 1).int+(aL (pS n f S' j) ((S' j 3).int)).1
     rw [t2,hp,s1,s3];omega
    | 3,_ =>
     show _=(aW (pS n f S' j) ((S' j 3).int)).2+(S' j 2).int+(aL (pS n f S' j) ((S' j 3).int)).2
     rw [t3,hp,s2,s3];omega
  refine ⟨Nat.succ_le_succ hk,hbx,same,fun j hj=>?_,fun j hj=>?_,fun m hm hno t x y ht ok=>?_⟩
  ·by_cases hjk:j<k
   ·obtain ⟨m,w1,w2⟩:=h.idx j hjk
    exact ⟨m,by omega,by rw [old j hjk];exact w2⟩
   ·have:j=k:=by omega
    subst this
    exact ⟨i,by omega,s0⟩
  ·by_cases hjk:j<k
   ·exact (h.poss j hjk).congr fun j' hj'=>old j' (by omega)
   ·have:j=k:=by omega
    subst this
    unfold mz at q0
    refine ⟨by rw [s0,hfd];exact rgZ _,s4,by rw [s3];exact p1,by rw [s1,s2];exact q0,fun j' hj'=>?_,?_⟩
    ·obtain ⟨m,w1,w2⟩:=h.idx j' hj'
     rw [s0,old j' hj',w2]
     exact hD m i w1 hi
    ·rw [hp,s3,<- same j 0 (by omega) (by omega),<- same j 1 (by omega) (by omega),t0,t1]
     refine en.congr (r:=T) (fun j' c hj' hc=>?_) ⟨q1,q2,q3,q4⟩
     rw [<- same j' c (by omega) hc]
     unfold bx
     rw [oldT j' hj']
  ·by_cases c:m<i
   ·refine h.no m c (fun j hj=>?_) t x y ht ⟨ok.1,(ok.2.mono (Nat.le_succ _)).congr fun j c hj _=>by unfold bx;rw [oldT j hj]⟩
    have:=hno j (by omega)
    rw [old j hj] at this;exact this
   ·have:m=i:=by omega
    subst this
    exact hno k (by omega) s0
end
theorem F6 {P:Nat} {PF:FF} (hP:AE P PF) (h20:P<=20) (a gr e:ByteArray) (th L W:Int):∃ n f,te 100 a gr th L W e P PF=some (n,f)/\n<=P/\(∀ i,i<n->ck (f i))/\(∀ i j,i<j->j<n->(f i 0).str≠(f j 0).str):=by
 obtain ⟨js,f,e1,hl,hS⟩:=Eo P PF a gr e th L W h20
 have hm:∀ i,i<js.length->js.getD i 0∈js:=fun i hi=>by rw [qdZ,qgZ hi];exact List.getElem_mem _
 refine ⟨_,f,e1,hl,fun i hi=>?_,fun i j hij hj=>?_⟩
 ·obtain ⟨q1,q2⟩:=hS.ok _ (hm i hi)
  exact (QB hP q1 q2).of_row (hS.row i hi)
 ·rw [(hS.row i (by omega)).id,(hS.row j hj).id]
  have hlt:js.getD i 0<js.getD j 0:=by
   have:=hS.asc
   rw [reZ] at this
   have:=this i j (by omega) hj hij
   rw [qdZ,qgZ (by omega),qdZ,qgZ hj]
   exact this
  exact (hS.ok _ (hm j hj)).2.1 _ hlt
def Ahd (x l:Int->Int) (g:Int) (i j:Int):Prop:=x i+l i+g<=x j
theorem NY (y:Int->Int):∀ S:List Int,S≠[]->∃ z∈S,∀ j∈S,y j<=y z
 | [],h=>absurd rfl h
 | [a],_=>⟨a,qmZ,fun j hj=>by rw [qzZ] at hj;rw [hj];exact Int.le_refl _⟩
 | a::b::S,_=>by
  obtain ⟨z,hz,h⟩:=NY y (b::S) (by simp)
  by_cases c:y a<=y z
  ·refine ⟨z,qjZ _ hz,fun j hj=>?_⟩
   rcases List.mem_cons.1 hj with rfl | hj
   ·exact c
   ·exact h j hj
  ·refine ⟨a,qmZ,fun j hj=>?_⟩
   rcases List.mem_cons.1 hj with rfl | hj
   ·exact Int.le_refl _
   ·have:=h j hj;omega
theorem Oa {x y l w:Int->Int} {g:Int} (hg:0<=g):∀ (n:Nat) (S:List Int),S.length<=n->S≠[]->(∀ i∈S,1<=l i/\1<=w i) ->
  (∀ i∈S,∀ j∈S,i≠j->(Ahd x l g i j\/Ahd y w g i j)\/(Ahd x l g j i\/Ahd y w g j i))->∃ m∈S,∀ j∈S,j≠m->Ahd x l g m j\/Ahd y w g m j:=by
 intro n
 induction n with
 | zero=>intro S h hne;exact absurd (List.length_eq_zero_iff.1 (by omega)) hne
 | succ n ih =>
  intro S hn hne hp hs
  obtain ⟨z,hz,hmax⟩:=NY y S hne
  by_cases hS:S.erase z = []
  ·refine ⟨z,hz,fun j hj hjz=>?_⟩
   have:j∈S.erase z:=(List.mem_erase_of_ne hjz).2 hj
   rw [hS] at this;cases this
  ·have hsub:∀ j∈S.erase z,j∈S:=fun j hj=>List.mem_of_mem_erase hj
   obtain ⟨m,hm,hmin⟩:=ih (S.erase z) (by rw [List.length_erase_of_mem hz];omega) hS (fun i hi=>hp i (hsub i hi)) (fun i hi j hj=>hs i (hsub i hi) j (hsub j hj))
   have hmS:=hsub m hm
   by_cases c:z=m\/(Ahd x l g m z\/Ahd y w g m z)
   ·refine ⟨m,hmS,fun j hj hjm=>?_⟩
    by_cases hjz:j=z
    ·rcases c with c | c
     ·exact absurd (hjz.trans c) hjm
     ·rw [hjz];exact c
    ·exact hmin j ((List.mem_erase_of_ne hjz).2 hj) hjm
   ·have hzm:z≠m:=fun h=>c (.inl h)
    have c:¬ (Ahd x l g m z\/Ahd y w g m z):=fun h=>c (.inr h)
    have pz:=hp z hz
    have pm:=hp m hmS
    have mx:=hmax m hmS
    have a1:Ahd x l g z m:=by
     rcases hs m hmS z hz (fun h=>hzm h.symm) with h | h | h
     ·exact absurd h c
     ·exact h
     ·unfold Ahd at h;omega
    refine ⟨z,hz,fun j hj hjz=>?_⟩
    by_cases hjm:j=m
    ·rw [hjm];exact .inl a1
    ·have mj:=hmax j hj
     rcases hmin j ((List.mem_erase_of_ne hjz).2 hj) hjm with h | h
     ·left;unfold Ahd at *;omega
     ·exfalso
      apply c
      right
      unfold Ahd at *;omega
theorem EL {x y l w:Int->Int} {g:Int} (hg:0<=g):∀ (n:Nat) (S:List Int),S.length=n->S.Nodup->(∀ i∈S,1<=l i/\1<=w i) ->
  (∀ i∈S,∀ j∈S,i≠j->(Ahd x l g i j\/Ahd y w g i j)\/(Ahd x l g j i\/Ahd y w g j i))->∃ q:List Int,q.Perm S/\q.Pairwise fun i j=>Ahd x l g i j\/Ahd y w g i j:=by
 intro n
 induction n with
 | zero=>intro S h _ _ _;exact ⟨[],by rw [List.length_eq_zero_iff.1 h],List.Pairwise.nil⟩
 | succ n ih =>
  intro S hn hd hp hs
  have hne:S≠[]:=by intro h;rw [h] at hn;simp at hn
  obtain ⟨m,hm,hmin⟩:=Oa hg S.length S (rkZ _) hne hp hs
  have hsub:∀ j∈S.erase m,j∈S:=fun j hj=>List.mem_of_mem_erase hj
  obtain ⟨q,hq,hP⟩:=ih (S.erase m) (by rw [List.length_erase_of_mem hm];omega) (hd.erase m) (fun i hi=>hp i (hsub i hi)) (fun i hi j hj=>hs i (hsub i hi) j (hsub j hj))
  refine ⟨m::q,(hq.cons m).trans (List.perm_cons_erase hm).symm,List.pairwise_cons.2 ⟨fun j hj=>?_,hP⟩⟩
  have hj':=hq.subset hj
  refine hmin j (hsub j hj') fun h=>?_
  subst h
  exact (List.Nodup.not_mem_erase hd) hj'
theorem Od (l:List Int) (a:Int):∀ (m i:Nat),i+m=l.length->(∃ t,i<=t/\t<l.length/\l.getD t 0=a)->∃ t:Nat,Km l a m i=(t:Int)/\i<=t/\t<l.length/\l.getD t 0=a:=by
 intro m
 induction m with
 | zero=>intro i h ⟨t,h1,h2,_⟩;omega
 | succ m ih =>
  intro i h hex
  unfold Km
  by_cases c:a=l.getD i 0
  ·rw [if_pos c];exact ⟨i,rfl,rkZ _,by omega,c.symm⟩
  ·rw [if_neg c]
   obtain ⟨t,h1,h2,h3⟩:=hex
   have:t≠i:=fun e=>c (by rw [<- e,h3])
   obtain ⟨t',q1,q2,q3,q4⟩:=ih (i+1) (by omega) ⟨t,by omega,h2,h3⟩
   exact ⟨t',q1,by omega,q3,q4⟩
theorem DT {l:List Int} {a:Int} (h:a∈l):∃ t:Nat,ixI l a=(t:Int)/\t<l.length/\l.getD t 0=a:=by
 obtain ⟨t,ht,e⟩:=List.getElem_of_mem h
 obtain ⟨t',q1,_,q3,q4⟩:=Od l a l.length 0 (by omega) ⟨t,by omega,ht,by rw [qdZ,qgZ ht];exact e⟩
 exact ⟨t',q1,q3,q4⟩
theorem Rl {R:Int->Int->Prop} {p:List Int} (hp:p.Pairwise R) {a b:Int} (ha:a∈p) (hb:b∈p) (hne:a≠b):(Bef p a b->R a b)/\(¬ Bef p a b->R b a):=by
 obtain ⟨s,s1,s2,s3⟩:=DT ha
 obtain ⟨t,t1,t2,t3⟩:=DT hb
 unfold Bef
 rw [s1,t1]
 rw [reZ] at hp
 have gs:p[s]=a:=by rw [<- s3,qdZ,qgZ s2];rfl
 have gt:p[t]=b:=by rw [<- t3,qdZ,qgZ t2];rfl
 refine ⟨fun h=>?_,fun h=>?_⟩
 ·have:=hp s t s2 t2 (by omega)
  rw [gs,gt] at this;exact this
 ·have hst:s≠t:=by intro e;subst e;exact hne (gs.symm.trans gt)
  have:=hp t s t2 s2 (by omega)
  rw [gs,gt] at this;exact this
theorem Ig {x y l w:Int->Int} {g:Int} (hg:0<=g) {S:List Int} (hd:S.Nodup) (hp:∀ i∈S,1<=l i/\1<=w i)
  (hs:∀ i∈S,∀ j∈S,i≠j->(Ahd x l g i j\/Ahd y w g i j)\/(Ahd x l g j i\/Ahd y w g j i)) :
  ∃ p q:List Int,p.Perm S/\q.Perm S/\∀ s t,s<t->t<q.length->(Bef p (q.getD s 0) (q.getD t 0)->Ahd x l g (q.getD s 0) (q.getD t 0))/\(¬ Bef p (q.getD s 0) (q.getD t 0)->Ahd y w g (q.getD s 0) (q.getD t 0)):=by
 obtain ⟨q,hq,hQ⟩:=EL (x:=x) (y:=y) (l:=l) (w:=w) hg S.length S rfl hd hp hs
 have mir:∀ i j,Ahd (fun i=>-(y i+w i)) w g i j↔Ahd y w g j i:=fun i j=>by
  show -(y i+w i)+w i+g<=-(y j+w j)↔y j+w j+g<=y i
  omega
 obtain ⟨p,hpp,hP⟩:=EL (x:=x) (y:=fun i=>-(y i+w i)) (l:=l) (w:=w) hg S.length S rfl hd hp (fun i hi j hj hij=>by
  rw [mir,mir]
  rcases hs i hi j hj hij with (h | h) | (h | h)
  ·exact .inl (.inl h)
  ·exact .inr (.inr h)
  ·exact .inr (.inl h)
  ·exact .inl (.inr h))
 refine ⟨p,q,hpp,hq,fun s t hst ht=>?_⟩
 have gs:q.getD s 0=q[s]:=by rw [qdZ,qgZ (by omega)];rfl
 have gt:q.getD t 0=q[t]:=by rw [qdZ,qgZ ht];rfl
 have nd:=hq.nodup_iff.2 hd
 have hne:q.getD s 0≠q.getD t 0:=by
  rw [gs,gt]
  rw [rdZ,reZ] at nd
  exact nd s t (by omega) ht hst
 have ms:q.getD s 0∈q:=by rw [gs];exact List.getElem_mem _
 have mt:q.getD t 0∈q:=by rw [gt];exact List.getElem_mem _
 have hQ' : Ahd x l g (q.getD s 0) (q.getD t 0)\/Ahd y w g (q.getD s 0) (q.getD t 0):=by
  rw [reZ] at hQ
  rw [gs,gt];exact hQ s t (by omega) ht hst
 have B:=Rl hP (hpp.symm.subset (hq.subset ms)) (hpp.symm.subset (hq.subset mt)) hne
 have p1:=hp _ (hq.subset ms)
 have p2:=hp _ (hq.subset mt)
 refine ⟨fun h=>?_,fun h=>?_⟩
 ·rcases B.1 h with k | k
  ·exact k
  ·rw [mir] at k
   rcases hQ' with m | m
   ·exact m
   ·unfold Ahd at k m;omega
 ·rcases B.2 h with k | k
  ·rcases hQ' with m | m
   ·unfold Ahd at k m;omega
   ·exact m
  ·rw [mir] at k;exact k
def Rq:Nat->List (List Int)
 | 0=>[[]]
 | n+1=>(Rq n).flatMap fun l=>[-1::l,0::l,1::l]
theorem BR:∀ (n:Nat) (tl:List Int),okV n tl=true->tl∈Rq n
 | 0,tl,h=>by
  have:=rm h
  rw [List.length_eq_zero_iff.1 this]
  exact qzZ.2 rfl
 | n+1,[],h=>by have:=rm h;simp at this
 | n+1,x::l,h=>by
  have hl:=rm h
  unfold okV at h
  rw [qaZ] at h
  have h2:=h.2
  rw [List.all_cons,qaZ] at h2
  have hl' : okV n l=true:=by
   unfold okV
   rw [qaZ]
   refine ⟨?_,h2.2⟩
   have:l.length=n:=by simpa using hl
   rw [this];exact Nat.beq_refl _
  have ih:=BR n l hl'
  have h3:=h2.1
  simp only [Bool.or_eq_true,beq_iff_eq] at h3
  refine List.mem_flatMap.2 ⟨l,ih,?_⟩
  rcases h3 with rfl | rfl | rfl
  ·exact qmZ
  ·exact qjZ _ qmZ
  ·exact qjZ _ (qjZ _ qmZ)
theorem JH {n:Nat} (hn:n<=4) {tl:List Int} (h:okV n tl=true):∃ t,t<db n/\aV n t=tl:=by
 have key:∀ n<5,((Rq n).all fun tl=>(List.range (db n)).any fun t=>aV n t==tl)=true:=by decide +kernel
 have h1:=qiZ.1 (key n (by omega)) tl (BR n tl h)
 obtain ⟨t,ht,e⟩:=List.any_eq_true.1 h1
 exact ⟨t,riZ.1 ht,by simpa using e⟩
theorem tM {α β:Type} {v:β->Int} {g:β->α->β} {u:Int} {x0:α}:∀ (l:List α),(∀ x∈l,∀ s,v s<=v (g s x))->x0∈l->(∀ s,u<=v (g s x0))->∀ s,u<=v (l.foldl g s)
 | [],_,h,_,s=>by cases h
 | x::l,mono,h,hit,s=>by
  have up:∀ (l:List α),(∀ x∈l,∀ s,v s<=v (g s x))->∀ s,v s<=v (l.foldl g s):=by
   intro l
   induction l with
   | nil=>intro _ s;exact Int.le_refl _
   | cons y l ih=>intro m s;exact Int.le_trans (m y qmZ s) (ih (fun z hz=>m z (qjZ _ hz)) _)
  rcases List.mem_cons.1 h with rfl | h
  ·exact Int.le_trans (hit s) (up l (fun z hz=>mono z (qjZ _ hz)) _)
  ·exact tM l (fun z hz=>mono z (qjZ _ hz)) h hit _
theorem BF {α β:Type} {v:β->Int} {g:β->α->β}:∀ (l:List α),(∀ x∈l,∀ s,v s<=v (g s x))->∀ s,v s<=v (l.foldl g s)
 | [],_,s=>Int.le_refl _
 | y::l,m,s=>Int.le_trans (m y qmZ s) (BF l (fun z hz=>m z (qjZ _ hz)) _)
abbrev vOf (s:NSt):Int:=s.2.2.2.2
theorem A6 (z:cn) (tl:List Int) (k:Nat) (c:FF) (first second:List Int) (s:NSt):vOf s<=vOf (eH z tl k c first second s):=by
 unfold eH vOf
 split
 ·rename_i h;have:=h.2;show s.2.2.2.2<=dC z.P z.PF (plR z tl k c first second).2.2.2.1 (plR z tl k c first second).2.2.1;omega
 ·exact Int.le_refl _
theorem JQ (z:cn) (tl:List Int) (k:Nat) (c:FF) (first second:List Int) (s:NSt) (h:(plR z tl k c first second).2.2.2.2=true):dC z.P z.PF (plR z tl k c first second).2.2.2.1 (plR z tl k c first second).2.2.1<=vOf (eH z tl k c first second s):=by
 unfold eH vOf
 split
 ·exact Int.le_refl _
 ·rename_i q
  have:¬ dC z.P z.PF (plR z tl k c first second).2.2.2.1 (plR z tl k c first second).2.2.1>s.2.2.2.2:=fun h'=>q ⟨h,h'⟩
  omega
abbrev chK (tl:List Int):Nat:=(chN tl tl.length 0 0 (fun _ _=>.any)).1
abbrev chC (tl:List Int):FF:=(chN tl tl.length 0 0 (fun _ _=>.any)).2
theorem vJ {n:Nat} {tl:List Int} (hn:n<=4) (hv:okV n tl=true):Chs tl n (chK tl) (chC tl):=by
 have hl:=rm hv
 obtain ⟨k,c,e0,_,hC⟩:=oM (ρ:=Nat) tl (by omega) ByteArray.empty ByteArray.empty 0 0 0 ByteArray.empty 0 (fun _ _=>.any) 0 0 (fun _ _=>.any) ByteArray.empty 0 0 (fun _ _=>.any) 0 100 0 0 (fun _ _=>.any) (by omega) (by omega) (BM _ _)
 rw [Nat.sub_zero] at e0
 rw [hl] at hC
 unfold chK chC
 rw [<- e0];exact hC
theorem Oq {z:cn} (Z:Fix z) {tl first second:List Int} (hv:okV z.n tl=true) (h1:first∈aK (liL (chK tl) (chC tl))) (h2:second∈aK (liL (chK tl) (chC tl))) (hp:(plR z tl (chK tl) (chC tl) first second).2.2.2.2=true) (s:NSt) :
  dC z.P z.PF (plR z tl (chK tl) (chC tl) first second).2.2.2.1 (plR z tl (chK tl) (chC tl) first second).2.2.1<=vOf (eC z 0 s):=by
 have u3:∀ tl k c first s,vOf s<=vOf (oh z tl k c first s):=fun tl k c first s=>by
  unfold oh;exact BF _ (fun q _ s=>A6 z tl k c first q s) s
 have u6:∀ tl s,vOf s<=vOf (tN z tl s):=fun tl s=>by
  unfold tN;exact BF _ (fun q _ s=>u3 tl _ _ q s) s
 obtain ⟨t,ht,e⟩:=JH Z.n4 hv
 unfold eC
 rw [List.drop_zero]
 refine tM (x0:=t) _ (fun t _ s=>u6 _ s) (riZ.2 ht) (fun s=>?_) s
 rw [e]
 unfold tN
 refine tM (x0:=first) _ (fun q _ s=>u3 tl _ _ q s) h1 (fun s=>?_) s
 unfold oh
 exact tM (x0:=second) _ (fun q _ s=>A6 z tl _ _ first q s) h2 (fun s=>JQ z tl _ _ first second s hp) s
structure Lay (z:cn) (tl:List Int) (X Y:Int->Int):Prop where
 lo:∀ i,i<chK tl->z.gap<=X ((chC tl i 0).int)/\z.gap<=Y ((chC tl i 0).int)
 sz:∀ i,i<chK tl->(1<=(aL (z.f (cN (chC tl) i)) (tl.getD (cN (chC tl) i) 0)).1/\(aL (z.f (cN (chC tl) i)) (tl.getD (cN (chC tl) i) 0)).1<=32768)/\(1<=(aL (z.f (cN (chC tl) i)) (tl.getD (cN (chC tl) i) 0)).2/\(aL (z.f (cN (chC tl) i)) (tl.getD (cN (chC tl) i) 0)).2<=32768)
 at_:∀ i,i<chK tl->X ((chC tl i 0).int)-(aW (z.f (cN (chC tl) i)) (tl.getD (cN (chC tl) i) 0)).1<=32768/\Y ((chC tl i 0).int)-(aW (z.f (cN (chC tl) i)) (tl.getD (cN (chC tl) i) 0)).2<=32768
 in_:∀ i,i<chK tl->X ((chC tl i 0).int)+(aL (z.f (cN (chC tl) i)) (tl.getD (cN (chC tl) i) 0)).1<=z.L-z.gap/\Y ((chC tl i 0).int)+(aL (z.f (cN (chC tl) i)) (tl.getD (cN (chC tl) i) 0)).2<=z.W-z.gap
 ap:∀ i j,i<chK tl->j<chK tl->i≠j ->
   (X ((chC tl i 0).int)+(aL (z.f (cN (chC tl) i)) (tl.getD (cN (chC tl) i) 0)).1+gG z.gap<=X ((chC tl j 0).int)\/Y ((chC tl i 0).int)+(aL (z.f (cN (chC tl) i)) (tl.getD (cN (chC tl) i) 0)).2+gG z.gap<=Y ((chC tl j 0).int)) \/
   (X ((chC tl j 0).int)+(aL (z.f (cN (chC tl) j)) (tl.getD (cN (chC tl) j) 0)).1+gG z.gap<=X ((chC tl i 0).int)\/Y ((chC tl j 0).int)+(aL (z.f (cN (chC tl) j)) (tl.getD (cN (chC tl) j) 0)).2+gG z.gap<=Y ((chC tl i 0).int))
theorem QD {z:cn} (Z:Fix z) (hL:0<=z.L/\z.L<=32768) (hW:0<=z.W/\z.W<=32768) {tl:List Int} (hv:okV z.n tl=true) {X Y:Int->Int} (hl:Lay z tl X Y)
  (S:FF) (hS:∀ i,i<chK tl->(S i 0).str=(z.f (cN (chC tl) i) 0).str) (s:NSt):dC z.P z.PF S (chK tl)<=vOf (eC z 0 s):=by
 obtain ⟨hlo,hsz,hat,hin,hap⟩:=hl
 have C:=vJ Z.n4 hv
 have hg0:0<=gG z.gap:=by have:=Z.gap;unfold gG;split<;>omega
 have mem:∀ a∈liL (chK tl) (chC tl),∃ i,i<chK tl/\a=(chC tl i 0).int:=fun a ha=>by
  obtain ⟨i,hi,e⟩:=List.getElem_of_mem ha
  rw [dE] at hi
  have e1:=j6 (c:=chC tl) hi
  rw [qgZ (by rw [dE];exact hi)] at e1
  exact ⟨i,hi,e.symm.trans (rhZ e1)⟩
 have nd:(liL (chK tl) (chC tl)).Nodup:=by
  rw [rdZ,reZ]
  intro i j hi hj hij
  rw [dE] at hi hj
  have e1:=j6 (c:=chC tl) hi
  have e2:=j6 (c:=chC tl) hj
  rw [qgZ (by rw [dE];exact hi)] at e1
  rw [qgZ (by rw [dE];exact hj)] at e2
  rw [rhZ e1,rhZ e2]
  have:=C.asc i j hij hj
  omega
 obtain ⟨p,q,hp,hq,hpq⟩:=Ig (x:=X) (y:=Y) (l:=fun a=>(aL (z.f a.toNat) (tl.getD a.toNat 0)).1) (w:=fun a=>(aL (z.f a.toNat) (tl.getD a.toNat 0)).2) hg0 nd (fun a ha=>by
  obtain ⟨i,hi,rfl⟩:=mem a ha
  exact ⟨(hsz i hi).1.1,(hsz i hi).2.1⟩) (fun a ha b hb hab=>by
  obtain ⟨i,hi,rfl⟩:=mem a ha
  obtain ⟨j,hj,rfl⟩:=mem b hb
  exact hap i j hi hj (fun e=>hab (by rw [e])))
 have h1:=sH hp
 have h2:=sH hq
 have H:jq z.n z.f tl (chK tl) (chC tl) p q:=⟨Z.n4,Z.part,hv,C,hp,hq⟩
 obtain ⟨l2,l1,p1,p2,p3⟩:=H.place
 obtain ⟨_,hP,_,o1,o2,_⟩:=oY Z H
 have hle:∀ t,t<q.length->bx (pkR z tl p q) (q.getD t 0).toNat 0<=X (q.getD t 0)/\bx (pkR z tl p q) (q.getD t 0).toNat 1<=Y (q.getD t 0):=by
  have nn:∀ t,t<q.length->((q.getD t 0).toNat:Int)=q.getD t 0:=fun t ht=>by
   obtain ⟨i,hi,e⟩:=p1 t (by omega)
   have:=(C.mem i hi).1
   rw [e];omega
  have L:=hP.least (fun b=>X b) (fun b=>Y b) (fun t ht=>by
   obtain ⟨i,hi,e⟩:=p1 t (by omega)
   rw [nn t ht,e];exact hlo i hi) (fun s t hst ht=>by
   rw [nn t ht,nn s (by omega)]
   exact hpq s t hst ht)
  intro t ht
  have:=L t ht
  rw [nn t ht] at this
  exact this
 have ok:(plR z tl (chK tl) (chC tl) p q).2.2.2.2=true:=by
  refine o1.2 fun i hi=>?_
  obtain ⟨t,ht,e⟩:=p2 i hi
  have q1:=hle t (by omega)
  rw [e] at q1
  have q1:bx (pkR z tl p q) (cN (chC tl) i) 0<=X ((chC tl i 0).int)/\bx (pkR z tl p q) (cN (chC tl) i) 1<=Y ((chC tl i 0).int):=q1
  have PC:=hP.chosen H
  have l:=PC.lo i hi
  have mm:=(C.mem i hi).1
  have cQ:=tJ hv (i:=cN (chC tl) i) (by unfold cN;omega) (C.mem i hi).2
  have lob:=(Z.part (cN (chC tl) i) (by unfold cN;omega)).lo (tl.getD (cN (chC tl) i) 0) cQ
  have a1:=hat i hi
  have a2:=hin i hi
  have zg:=Z.gap
  refine Ob H Z.gap PC hL hW hi ?_ (hsz i hi) (by omega)
  unfold mz
  omega
 have G:=Oq Z hv h1 h2 ok s
 obtain ⟨_,_,e3,e4⟩:=o2 ok
 rw [e3] at G
 refine Int.le_trans (Int.le_of_eq ?_) G
 exact vV fun t ht=>(hS t ht).trans (e4 t ht).id.symm
theorem Qm (a b:Int):w64 (w64 a+b)=w64 (a+b):=by
 unfold w64
 simp [IntKind.wrap,IntKind.bits,IntKind.signed]
 omega
def KZ (P:Nat) (PF:FF') (s:ByteArray):Int:=if fd P PF s<0 then 0 else vN PF (pkN P PF s)
theorem K0 (P:Nat) (PF S:FF'):∀ (m j:Nat) (acc:Int),w64 acc=acc->ua P PF S acc m j=w64 (acc+((List.range' j m).map fun t=>KZ P PF ((S t 0).str)).sum)
 | 0,j,acc,h=>by simp [ua,h]
 | m+1,j,acc,h=>by
  unfold ua
  rw [List.range'_succ,List.map_cons,List.sum_cons]
  have e:(bif decide (fd P PF ((S j 0).str)<0) then acc else w64 (acc+vN PF (pkN P PF ((S j 0).str))))=w64 (acc+KZ P PF ((S j 0).str)):=by
   unfold KZ
   by_cases c:fd P PF ((S j 0).str)<0
   ·rw [ae (qcZ c),if_pos c,Int.add_zero,h]
   ·rw [ai (qeZ c),if_neg c]
  rw [e,K0 P PF S m (j+1) _ (KW _),Qm,Int.add_assoc]
theorem Cx (P:Nat) (PF S:FF') (n:Nat):dC P PF S n=w64 (((List.range n).map fun t=>KZ P PF ((S t 0).str)).sum):=by
 unfold dC
 rw [K0 P PF S n 0 0 (by decide),Int.zero_add,List.range_eq_range']
theorem K9:∀ {l l' : List Int},l.Perm l'->l.sum=l'.sum:=by
 intro l l' h
 induction h with
 | nil=>rfl
 | cons x _ ih=>rw [List.sum_cons,List.sum_cons,ih]
 | swap x y l=>rw [List.sum_cons,List.sum_cons,List.sum_cons,List.sum_cons];omega
 | trans _ _ h1 h2=>exact h1.trans h2
abbrev pj (n:Nat) (f S:FF) (j:Nat):Nat:=(fd n f ((S j 0).str)).toNat
def jOf (n:Nat) (f S:FF) (k m:Nat):Option Nat:=(List.range k).find? fun j=>Nat.beq (pj n f S j) m
def jt (n:Nat) (f S:FF) (k:Nat):List Int:=(List.range n).map fun m=>match jOf n f S k m with
 | some j=>(S j 3).int
 | none=>-1
theorem Bz {n:Nat} {f S:FF} {k m j:Nat} (h:jOf n f S k m=some j):j<k/\pj n f S j=m:=by
 unfold jOf at h
 have h1:=List.mem_of_find?_eq_some h
 have h2:=List.find?_some h
 exact ⟨riZ.1 h1,qbZ h2⟩
theorem Hw {n:Nat} {f S:FF} {k m:Nat} (h:m<n):(jt n f S k).getD m 0=match jOf n f S k m with
  | some j=>(S j 3).int
  | none=>-1:=by
 unfold jt
 rw [qdZ,qhZ,raZ h];rfl
section
variable {n k : Nat} {f S : FF} {L W gap : Int} (hp : ∀ j, j < k -> eh n f S L W gap j)
include hp
theorem vx {j:Nat} (hj:j<k):pj n f S j<n/\(f (pj n f S j) 0).str=(S j 0).str:=by
 have h0:=(hp j hj).1
 rcases tP n f ((S j 0).str) with hf | ⟨m,hm,hf,he⟩
 ·omega
 ·have e:pj n f S j=m:=by unfold pj;rw [hf];rfl
  rw [e]
  exact ⟨hm,(AU _ _).1 he⟩
theorem VV {i j:Nat} (hi:i<k) (hj:j<k) (h:pj n f S i=pj n f S j):i=j:=by
 have a:=(vx hp hi).2
 have b:=(vx hp hj).2
 rw [h] at a
 have e:(S i 0).str=(S j 0).str:=a.symm.trans b
 by_cases c:i<j
 ·exact absurd e ((hp j hj).2.2.2.2.1 i c)
 ·by_cases d:j<i
  ·exact absurd e.symm ((hp i hi).2.2.2.2.1 j d)
  ·omega
theorem Wl {j:Nat} (hj:j<k):jOf n f S k (pj n f S j)=some j:=by
 cases h:jOf n f S k (pj n f S j) with
 | none =>
  unfold jOf at h
  have:=List.find?_eq_none.1 h j (riZ.2 hj)
  exact absurd (Nat.beq_refl _) this
 | some i =>
  obtain ⟨h1,h2⟩:=Bz h
  rw [VV hp h1 hj h2]
theorem AJ:okV n (jt n f S k)=true:=by
 unfold okV
 rw [qaZ]
 refine ⟨?_,qiZ.2 fun x hx=>?_⟩
 ·have:(jt n f S k).length=n:=by unfold jt;simp
  rw [this];exact Nat.beq_refl _
 ·unfold jt at hx
  obtain ⟨m,hm,e⟩:=rjZ.1 hx
  cases h:jOf n f S k m with
  | none=>rw [h] at e;subst e;rfl
  | some j =>
   rw [h] at e
   obtain ⟨h1,_⟩:=Bz h
   have:=(hp j h1).2.2.1
   have e:(S j 3).int=x:=e
   rw [e] at this
   rcases this with rfl | rfl<;>rfl
theorem FE (hn:n<=4) {i:Nat} (hi:i<chK (jt n f S k)):∃ j,j<k/\pj n f S j=cN (chC (jt n f S k)) i/\(jt n f S k).getD (cN (chC (jt n f S k)) i) 0=(S j 3).int/\jOf n f S k (cN (chC (jt n f S k)) i)=some j:=by
 have C:=vJ hn (AJ hp)
 obtain ⟨m1,m2⟩:=C.mem i hi
 have hlt:cN (chC (jt n f S k)) i<n:=by unfold cN;omega
 rw [Hw hlt] at m2 ⊢
 cases h:jOf n f S k (cN (chC (jt n f S k)) i) with
 | none=>rw [h] at m2;exact absurd m2 (show ¬ (0:Int)<=-1 from by decide)
 | some j =>
  obtain ⟨h1,h2⟩:=Bz h
  exact ⟨j,h1,h2,rfl,rfl⟩
end
theorem EI {z:cn} (Z:Fix z) (S:FF) (k:Nat) (hp:∀ j,j<k->eh z.n z.f S z.L z.W z.gap j):∃ X Y,Lay z (jt z.n z.f S k) X Y /\
  dC z.P z.PF S k=dC z.P z.PF (fun i c=>z.f (cN (chC (jt z.n z.f S k)) i) c) (chK (jt z.n z.f S k)):=by
 have hv:=AJ hp
 have C:=vJ Z.n4 hv
 have spot:=fun i hi=>FE hp Z.n4 (i:=i) hi
 obtain ⟨X,hX⟩:∃ X:Int->Int,∀ a,X a=match jOf z.n z.f S k a.toNat with | some j=>bx (bxS z.n z.f S) j 0 | none=>0:=⟨fun a=>match jOf z.n z.f S k a.toNat with | some j=>bx (bxS z.n z.f S) j 0 | none=>0,fun a=>rfl⟩
 obtain ⟨Y,hY⟩:∃ Y:Int->Int,∀ a,Y a=match jOf z.n z.f S k a.toNat with | some j=>bx (bxS z.n z.f S) j 1 | none=>0:=⟨fun a=>match jOf z.n z.f S k a.toNat with | some j=>bx (bxS z.n z.f S) j 1 | none=>0,fun a=>rfl⟩
 have hx:∀ i j,jOf z.n z.f S k (cN (chC (jt z.n z.f S k)) i)=some j->X ((chC (jt z.n z.f S k) i 0).int)=bx (bxS z.n z.f S) j 0/\Y ((chC (jt z.n z.f S k) i 0).int)=bx (bxS z.n z.f S) j 1:=by
  intro i j h
  rw [hX,hY,h];exact ⟨rfl,rfl⟩
 refine ⟨X,Y,⟨?_,?_,?_,?_,?_⟩,?_⟩
 ·intro i hi
  obtain ⟨j,h1,h2,h3,h4⟩:=spot i hi
  obtain ⟨e1,e2⟩:=hx i j h4
  rw [e1,e2]
  have:=(hp j h1).2.2.2.2.2.2.2.1
  unfold FIn at this
  exact ⟨this.1,this.2.1⟩
 ·intro i hi
  obtain ⟨j,h1,h2,h3,h4⟩:=spot i hi
  rw [h3,<- h2]
  have:=(hp j h1).2.2.2.2.2.1
  unfold rH at this
  exact ⟨this.2.2.2.1,this.2.2.2.2.1⟩
 ·intro i hi
  obtain ⟨j,h1,h2,h3,h4⟩:=spot i hi
  obtain ⟨e1,e2⟩:=hx i j h4
  rw [e1,e2,h3,<- h2]
  have at_:=(hp j h1).2.2.2.1
  have b0:bx (bxS z.n z.f S) j 0=(aW (z.f (pj z.n z.f S j)) ((S j 3).int)).1+(S j 1).int:=rfl
  have b1:bx (bxS z.n z.f S) j 1=(aW (z.f (pj z.n z.f S j)) ((S j 3).int)).2+(S j 2).int:=rfl
  rw [b0,b1]
  omega
 ·intro i hi
  obtain ⟨j,h1,h2,h3,h4⟩:=spot i hi
  obtain ⟨e1,e2⟩:=hx i j h4
  rw [e1,e2,h3,<- h2]
  have:=(hp j h1).2.2.2.2.2.2.2.1
  unfold FIn at this
  exact ⟨this.2.2.1,this.2.2.2⟩
 ·intro i i' hi hi' hne
  obtain ⟨j,h1,h2,h3,h4⟩:=spot i hi
  obtain ⟨j',h1',h2',h3',h4'⟩:=spot i' hi'
  obtain ⟨e1,e2⟩:=hx i j h4
  obtain ⟨e1',e2'⟩:=hx i' j' h4'
  rw [e1,e2,e1',e2',h3,h3',<- h2,<- h2']
  have hjj:j≠j':=by
   intro e
   rw [e,h2'] at h2
   have a1:=(C.mem i hi).1
   have a2:=(C.mem i' hi').1
   by_cases q:i<i'
   ·have:=C.asc i i' q hi';unfold cN at h2;omega
   ·have:=C.asc i' i (by omega) hi;unfold cN at h2;omega
  have c2:∀ j,bx (bxS z.n z.f S) j 2=bx (bxS z.n z.f S) j 0+(aL (z.f (pj z.n z.f S j)) ((S j 3).int)).1:=fun j=>rfl
  have c3:∀ j,bx (bxS z.n z.f S) j 3=bx (bxS z.n z.f S) j 1+(aL (z.f (pj z.n z.f S j)) ((S j 3).int)).2:=fun j=>rfl
  by_cases q:j<j'
  ·have:=(hp j' h1').2.2.2.2.2.2.2.2 j q
   unfold oq Apt at this
   rw [c2,c3] at this
   have:¬ (bx (bxS z.n z.f S) j' 0<bx (bxS z.n z.f S) j 0+(aL (z.f (pj z.n z.f S j)) ((S j 3).int)).1+gG z.gap/\bx (bxS z.n z.f S) j 0<bx (bxS z.n z.f S) j' 0+(aL (z.f (pj z.n z.f S j')) ((S j' 3).int)).1+gG z.gap/\bx (bxS z.n z.f S) j' 1<bx (bxS z.n z.f S) j 1+(aL (z.f (pj z.n z.f S j)) ((S j 3).int)).2+gG z.gap/\bx (bxS z.n z.f S) j 1<bx (bxS z.n z.f S) j' 1+(aL (z.f (pj z.n z.f S j')) ((S j' 3).int)).2+gG z.gap):=this
   omega
  ·have:=(hp j h1).2.2.2.2.2.2.2.2 j' (by omega)
   unfold oq Apt at this
   rw [c2,c3] at this
   have:¬ (bx (bxS z.n z.f S) j 0<bx (bxS z.n z.f S) j' 0+(aL (z.f (pj z.n z.f S j')) ((S j' 3).int)).1+gG z.gap/\bx (bxS z.n z.f S) j' 0<bx (bxS z.n z.f S) j 0+(aL (z.f (pj z.n z.f S j)) ((S j 3).int)).1+gG z.gap/\bx (bxS z.n z.f S) j 1<bx (bxS z.n z.f S) j' 1+(aL (z.f (pj z.n z.f S j')) ((S j' 3).int)).2+gG z.gap/\bx (bxS z.n z.f S) j' 1<bx (bxS z.n z.f S) j 1+(aL (z.f (pj z.n z.f S j)) ((S j 3).int)).2+gG z.gap):=this
   omega
 ·have n1:((List.range k).map fun t=>(S t 0).str).Nodup:=by
   rw [rdZ,reZ]
   intro i j hi hj hij
   simp only [rcZ,List.length_range] at hi hj
   simp only [List.getElem_map,List.getElem_range]
   exact (hp j hj).2.2.2.2.1 i hij
  have n2:((List.range (chK (jt z.n z.f S k))).map fun i=>(z.f (cN (chC (jt z.n z.f S k)) i) 0).str).Nodup:=by
   rw [rdZ,reZ]
   intro i j hi hj hij
   simp only [rcZ,List.length_range] at hi hj
   simp only [List.getElem_map,List.getElem_range]
   obtain ⟨a,a1,a2,_⟩:=spot i hi
   obtain ⟨b,b1,b2,_⟩:=spot j hj
   rw [<- a2,<- b2,(vx hp a1).2,(vx hp b1).2]
   intro e
   have hab:a≠b:=by
    intro q
    rw [q,b2] at a2
    have:=C.asc i j hij hj
    have m1:=(C.mem i hi).1
    have m2:=(C.mem j hj).1
    unfold cN at a2;omega
   by_cases q:a<b
   ·exact (hp b b1).2.2.2.2.1 a q e
   ·exact (hp a a1).2.2.2.2.1 b (by omega) e.symm
  have P1:((List.range k).map fun t=>(S t 0).str).Perm ((List.range (chK (jt z.n z.f S k))).map fun i=>(z.f (cN (chC (jt z.n z.f S k)) i) 0).str):=by
   rw [List.perm_ext_iff_of_nodup n1 n2]
   intro x
   rw [rjZ,rjZ]
   constructor
   ·rintro ⟨j,hj,rfl⟩
    rw [riZ] at hj
    obtain ⟨q1,q2⟩:=vx hp hj
    obtain ⟨i,hi,e⟩:=C.all (pj z.n z.f S j) q1 (by
     rw [Hw q1,Wl hp hj]
     have:=(hp j hj).2.2.1
     show 0<=(S j 3).int
     omega)
    refine ⟨i,riZ.2 hi,?_⟩
    have:cN (chC (jt z.n z.f S k)) i=pj z.n z.f S j:=by unfold cN;rw [e];rfl
    rw [this,q2]
   ·rintro ⟨i,hi,rfl⟩
    rw [riZ] at hi
    obtain ⟨j,h1,h2,_⟩:=spot i hi
    exact ⟨j,riZ.2 h1,by rw [<- h2,(vx hp h1).2]⟩
  have hk:k=chK (jt z.n z.f S k):=by have:=P1.length_eq;simpa using this
  rw [Cx,Cx]
  have:=P1.map (KZ z.P z.PF)
  rw [List.map_map,List.map_map] at this
  exact congrArg w64 (K9 this)
theorem JW {z:cn} (Z:Fix z) (S:FF) (k:Nat) (hp:∀ j,j<k->eh z.n z.f S z.L z.W z.gap j) (hL:0<=z.L/\z.L<=32768) (hW:0<=z.W/\z.W<=32768) (s:NSt):dC z.P z.PF S k<=vOf (eC z 0 s):=by
 obtain ⟨_,_,h,e⟩:=EI Z S k hp
 rw [e];exact QD Z hL hW (AJ hp) h _ (fun _ _=>rfl) s
def Dir (k:Nat) (g:Int) (p q:Pt):Prop:=match k with
 | 0=>p.1+g<=q.1
 | 1=>q.1+g<=p.1
 | 2=>p.2+g<=q.2
 | _=>q.2+g<=p.2
theorem Gz {q a b:Pt} {k:Nat} (h1:Dir k 1 a q) (h2:Dir k 1 b q):¬ On q a b:=by
 rintro ⟨_,c,d⟩
 unfold btw at c d
 match k,h1,h2 with
 | 0,h1,h2=>have h1:a.1+1<=q.1:=h1;have h2:b.1+1<=q.1:=h2;omega
 | 1,h1,h2=>have h1:q.1+1<=a.1:=h1;have h2:q.1+1<=b.1:=h2;omega
 | 2,h1,h2=>have h1:a.2+1<=q.2:=h1;have h2:b.2+1<=q.2:=h2;omega
 | k+3,h1,h2=>have h1:q.2+1<=a.2:=h1;have h2:q.2+1<=b.2:=h2;omega
theorem Dir.symm {k:Nat} {g:Int} {p q:Pt} (h:Dir k g p q):∃ k',∀ p q:Pt,Dir k' g q p↔Dir k g p q:=by
 match k with
 | 0=>exact ⟨1,fun _ _=>Iff.rfl⟩
 | 1=>exact ⟨0,fun _ _=>Iff.rfl⟩
 | 2=>exact ⟨3,fun _ _=>Iff.rfl⟩
 | k+3=>exact ⟨2,fun _ _=>Iff.rfl⟩
theorem Dir.less {k:Nat} {g h:Int} {p q:Pt} (hd:Dir k g p q) (hh:h<=g):Dir k h p q:=by
 match k,hd with
 | 0,hd=>have:p.1+g<=q.1:=hd;show p.1+h<=q.1;omega
 | 1,hd=>have:q.1+g<=p.1:=hd;show q.1+h<=p.1;omega
 | 2,hd=>have:p.2+g<=q.2:=hd;show p.2+h<=q.2;omega
 | k+3,hd=>have:q.2+g<=p.2:=hd;show q.2+h<=p.2;omega
theorem CC {n k:Nat} {f c S R:FF} {tl first second:List Int} {L W gap:Int} (H:jq n f tl k c first second) (hD:∀ i j,i<j->j<n->(f i 0).str≠(f j 0).str) (hP:PkC f tl gap k c R)
  (ok:∀ i,i<k->OkI f tl c R gap L W i) (sp:∀ i,i<k->FO f tl c R S i):∀ j,j<k->eh n f S L W gap j:=by
 have mem:∀ i,i<k->cN c i<n/\(tl.getD (cN c i) 0=0\/tl.getD (cN c i) 0=1):=fun i hi=>by
  obtain ⟨m1,m2⟩:=H.chs.mem i hi
  have hlt:cN c i<n:=by unfold cN;omega
  exact ⟨hlt,tJ H.vec hlt m2⟩
 have asc:∀ i j,i<j->j<k->cN c i<cN c j:=fun i j hij hj=>by
  have:=H.chs.asc i j hij hj
  have a:=(H.chs.mem i (by omega)).1
  have b:=(H.chs.mem j hj).1
  unfold cN;omega
 have fdj:∀ j,j<k->fd n f ((S j 0).str)=Int.ofNat (cN c j):=fun j hj=>by
  rw [(sp j hj).id]
  exact (BI (mem j hj).1).2 fun i hi=>hD i _ hi (mem j hj).1
 have pj_:∀ j,j<k->pS n f S j=f (cN c j):=fun j hj=>by unfold pS;rw [fdj j hj];rfl
 have box:∀ j,j<k->∀ d,d<4->bx (bxS n f S) j d=bx R (cN c j) d:=by
  intro j hj d hd
  have u:=hP.hi j hj
  have s:=sp j hj
  match d,hd with
  | 0,_=>show (aW (pS n f S j) ((S j 3).int)).1+(S j 1).int=_;rw [pj_ j hj,s.turn,s.x];omega
  | 1,_=>show (aW (pS n f S j) ((S j 3).int)).2+(S j 2).int=_;rw [pj_ j hj,s.turn,s.y];omega
  | 2,_=>show (aW (pS n f S j) ((S j 3).int)).1+(S j 1).int+(aL (pS n f S j) ((S j 3).int)).1=_;rw [pj_ j hj,s.turn,s.x];omega
  | 3,_=>show (aW (pS n f S j) ((S j 3).int)).2+(S j 2).int+(aL (pS n f S j) ((S j 3).int)).2=_;rw [pj_ j hj,s.turn,s.y];omega
 intro j hj
 obtain ⟨q1,q2⟩:=ok j hj
 have s:=sp j hj
 have u:=hP.hi j hj
 unfold mz at q1
 refine ⟨by rw [fdj j hj];exact rgZ _,s.flip,by rw [s.turn];exact (mem j hj).2,by rw [s.x,s.y];exact q1,fun i hi=>?_,?_⟩
 ·rw [(sp i (by omega)).id,s.id]
  exact hD _ _ (asc i j hi hj) (mem j hj).1
 ·rw [box j hj 0 (by omega),box j hj 1 (by omega),pj_ j hj,s.turn]
  have e1:bx R (cN c j) 2-bx R (cN c j) 0=(aL (f (cN c j)) (tl.getD (cN c j) 0)).1:=by omega
  have e2:bx R (cN c j) 3-bx R (cN c j) 1=(aL (f (cN c j)) (tl.getD (cN c j) 0)).2:=by omega
  rw [e1,e2] at q2
  exact q2.congr fun i d hi hd=>by rw [box i (by omega) d hd];rfl
def G5 (z:cn) (s:NSt):Prop:=(s.1=z.a/\s.2.1=z.gap)/\∀ j,j<s.2.2.1->eh z.n z.f s.2.2.2.1 z.L z.W z.gap j
theorem JX {z:cn} (Z:Fix z) (hD:∀ i j,i<j->j<z.n->(z.f i 0).str≠(z.f j 0).str) {tl:List Int} {k:Nat} {c:FF} {first second:List Int} (H:jq z.n z.f tl k c first second) {s:NSt} (h:G5 z s):G5 z (eH z tl k c first second s):=by
 obtain ⟨_,hP,_,h1,h2,_⟩:=oY Z H
 unfold eH
 by_cases q:(plR z tl k c first second).2.2.2.2=true/\dC z.P z.PF (plR z tl k c first second).2.2.2.1 (plR z tl k c first second).2.2.1>s.2.2.2.2
 ·rw [if_pos q]
  obtain ⟨a1,a2,a3,a4⟩:=h2 q.1
  refine ⟨⟨a1,a2⟩,fun j hj=>?_⟩
  have hj:j<k:=by rw [<- a3];exact hj
  exact CC H hD (hP.chosen H) (h1.1 q.1) a4 j hj
 ·rw [if_neg q];exact h
theorem En {P:Nat} {PF:FF} (hP:AE P PF) (h20:P<=20) (a gr e:ByteArray) (th L W:Int):∃ n f,te 100 a gr th L W e P PF=some (n,f)/\n<=P/\(∀ i,i<n->ck (f i))/\(∀ i j,i<j->j<n->(f i 0).str≠(f j 0).str)/\∀ i,i<n->∃ J,J<P/\oQ (f i) (PF J)/\Ap gr th PF J:=by
 obtain ⟨n,f,e0,h1,h2,h3⟩:=F6 hP h20 a gr e th L W
 refine ⟨n,f,e0,h1,h2,h3,fun i hi=>?_⟩
 obtain ⟨js,f',e1,hl,hS⟩:=Eo P PF a gr e th L W h20
 have ee:=rhZ (e0.symm.trans e1)
 obtain ⟨rfl,rfl⟩:n=js.length/\f=f':=by
  injection ee with u1 u2
  exact ⟨u1,u2⟩
 have hm:js.getD i 0∈js:=by rw [qdZ,qgZ hi];exact List.getElem_mem _
 obtain ⟨q1,q2⟩:=hS.ok _ hm
 exact ⟨_,q1,hS.row i hi,q2⟩
section
variable {P n : Nat} {PF f S : FF} {gr : ByteArray} {th L W gap : Int} (hP : AE P PF) (hV : ∀ i, i < n -> ck (f i)) (hJ : ∀ i, i < n -> ∃ J, J < P /\ oQ (f i) (PF J) /\ Ap gr th PF J) {k : Nat} (hp : ∀ j, j < k -> eh n f S L W gap j)
include hV hJ hp
include hP in
end
end Go.Eng.R13
/-
 Nester: the reference's orders,places,sets and turns.
-/
set_option linter.all false
set_option maxRecDepth 1000000
namespace Go.Eng.R13
open Go Go.RowKit Go.Eng Geo
def oN (n:Nat):Nat × FF:=(At 100 (Int.ofNat n)).getD (0,fun _ _=>.any)
def oR (n i:Nat):FF:=((oN n).2 i 0).el
def oP (n i:Nat):Nat × FF:=(AG 100 n (oR n i)).getD (0,fun _ _=>.any)
structure D6 (n:Nat) (r p:FF):Prop where
 rin:∀ t,t<n->0<=(r t 0).int/\(r t 0).int<n
 pr:∀ t,t<n->(p ((r t 0).int).toNat 0).int=Int.ofNat t
 pin:∀ x,x<n->0<=(p x 0).int/\(p x 0).int<n
 rp:∀ x,x<n->(r ((p x 0).int).toNat 0).int=Int.ofNat x
theorem QC:∀ n,n<5->(At 100 (Int.ofNat n)).isSome=true/\(oN n).1<=24/\∀ i,i<(oN n).1->((oN n).2 i 0).len=n/\(AG 100 n (oR n i)).isSome=true/\(oP n i).1=n /\
  (∀ t,t<n->(0<=(oR n i t 0).int/\(oR n i t 0).int<n)/\((oP n i).2 ((oR n i t 0).int).toNat 0).int=Int.ofNat t) /\
  (∀ x,x<n->(0<=((oP n i).2 x 0).int/\((oP n i).2 x 0).int<n)/\(oR n i (((oP n i).2 x 0).int).toNat 0).int=Int.ofNat x):=by decide +kernel
theorem tH {n:Nat} (hn:n<=4):At 100 (Int.ofNat n)=some (oN n)/\(oN n).1<=24/\∀ i,i<(oN n).1->((oN n).2 i 0).len=n/\AG 100 n (oR n i)=some (n,(oP n i).2)/\D6 n (oR n i) (oP n i).2:=by
 obtain ⟨h1,h2,h3⟩:=QC n (by omega)
 refine ⟨?_,h2,fun i hi=>?_⟩
 ·obtain ⟨x,hx⟩:=Option.isSome_iff_exists.1 h1
  unfold oN;rw [hx];rfl
 ·obtain ⟨a1,a2,a3,a4,a5⟩:=h3 i hi
  refine ⟨a1,?_,⟨fun t h=>(a4 t h).1,fun t h=>(a4 t h).2,fun x h=>(a5 x h).1,fun x h=>(a5 x h).2⟩⟩
  obtain ⟨x,hx⟩:=Option.isSome_iff_exists.1 a2
  have:oP n i=x:=by unfold oP;rw [hx];rfl
  rw [hx,<- this]
  exact congrArg some (Prod.ext a3 rfl)
theorem M2:∀ n,n<5->((aK ((List.range n).map Int.ofNat)).all fun p=>(List.range (oN n).1).any fun i=>liL n (oR n i)==p)=true:=by decide +kernel
theorem Ih {n:Nat} (hn:n<=4) {p:List Int} (hp:p.Perm ((List.range n).map Int.ofNat)):∃ i,i<(oN n).1/\liL n (oR n i)=p:=by
 have:=qiZ.1 (M2 n (by omega)) p (sH hp)
 obtain ⟨i,h1,h2⟩:=List.any_eq_true.1 this
 exact ⟨i,riZ.1 h1,eq_of_beq h2⟩
def ixs (n s:Nat):List Nat:=(List.range n).filter fun i=>Nat.beq (s / 2 ^ i % 2) 1
def eQ (n s t:Nat):List Int:=(List.range n).map fun i=>bif Nat.beq (s / 2 ^ i % 2) 1 then Int.ofNat (t / 2 ^ (ixs i s).length % 2) else -1
theorem Hp:∀ n,n<5->∀ s,s<2 ^ n->(ixs n s).length<=n/\∀ t,t<2 ^ (ixs n s).length->okV n (eQ n s t)=true/\chK (eQ n s t)=(ixs n s).length /\
  ∀ u,u<(ixs n s).length->(chC (eQ n s t) u 0).int=Int.ofNat ((ixs n s).getD u 0)/\(eQ n s t).getD ((ixs n s).getD u 0) 0=Int.ofNat (t / 2 ^ u % 2):=by decide +kernel
def Lh:List Int->Nat
 | []=>0
 | x::l=>(if x = -1 then 0 else 1)+2*Lh l
def Ek:List Int->Nat
 | []=>0
 | x::l=>if x = -1 then Ek l else x.toNat+2*Ek l
theorem KX:∀ n,n<5->∀ tl∈Rq n,Lh tl<2 ^ n/\Ek tl<2 ^ (ixs n (Lh tl)).length/\eQ n (Lh tl) (Ek tl)=tl:=by decide +kernel
theorem D3:∀ s,s<16->∀ i,i<5->bits .and .i64 (Int.ofNat s / 2 ^ i) 1=Int.ofNat (s / 2 ^ i % 2):=by decide +kernel
structure KH (n:Nat) (f' : FF) (p:Nat->Nat->CV) (tv:Nat->Int) (turns:Int):Prop where
 n4:n<=4
 part:∀ t,t<n->ck (p t)
 row:∀ t,t<n->oQ (f' t) (p t)
 bit:∀ t,t<n->bits .and .i64 (turns / 2 ^ t) 1=tv t
 turn:∀ t,t<n->tv t=0\/tv t=1
abbrev oI (q:FF) (j:Nat):Int:=(q j 0).int
abbrev sX (p:Nat->Nat->CV) (tv:Nat->Int) (t:Nat):Int:=(aL (p t) (tv t)).1
abbrev sY (p:Nat->Nat->CV) (tv:Nat->Int) (t:Nat):Int:=(aL (p t) (tv t)).2
structure InS (A B sx sy:Nat->Int) (R0:FF) (gap g:Int) (i j:Nat) (R:FF):Prop where
 off:∀ a c,a≠i->R a c=R0 a c
 x0:gap<=bx R i 0
 y0:gap<=bx R i 1
 left:∀ t,t<j->B t<B i->A t<A i->bx R0 t 0+sx t+g<=bx R i 0
 below:∀ t,t<j->B t<B i->A i<A t->bx R0 t 1+sy t+g<=bx R i 1
 leastx:∀ X,gap<=X->(∀ t,t<j->B t<B i->A t<A i->bx R0 t 0+sx t+g<=X)->bx R i 0<=X
 leasty:∀ Y,gap<=Y->(∀ t,t<j->B t<B i->A i<A t->bx R0 t 1+sy t+g<=Y)->bx R i 1<=Y
theorem InS.step {A B sx sy:Nat->Int} {R0 R R' : FF} {gap g:Int} {i j:Nat} (h:InS A B sx sy R0 gap g i j R) (off:∀ a c,a≠i->R' a c=R a c)
  (hx:(B j<B i/\A j<A i)/\bx R' i 0=(if bx R0 j 0+sx j+g>bx R i 0 then bx R0 j 0+sx j+g else bx R i 0)\/¬ (B j<B i/\A j<A i)/\bx R' i 0=bx R i 0)
  (hy:(B j<B i/\A i<A j)/\bx R' i 1=(if bx R0 j 1+sy j+g>bx R i 1 then bx R0 j 1+sy j+g else bx R i 1)\/¬ (B j<B i/\A i<A j)/\bx R' i 1=bx R i 1):InS A B sx sy R0 gap g i (j+1) R':=by
 have gx:bx R i 0<=bx R' i 0:=by rcases hx with ⟨_,h⟩ | ⟨_,h⟩<;>rw [h]<;>(try split)<;>omega
 have gy:bx R i 1<=bx R' i 1:=by rcases hy with ⟨_,h⟩ | ⟨_,h⟩<;>rw [h]<;>(try split)<;>omega
 refine ⟨fun a c q=>(off a c q).trans (h.off a c q),Int.le_trans h.x0 gx,Int.le_trans h.y0 gy,fun t h1 h2 h3=>?_,fun t h1 h2 h3=>?_,fun X h1 h2=>?_,fun Y h1 h2=>?_⟩
 ·by_cases e:t=j
  ·subst e
   rcases hx with ⟨_,q⟩ | ⟨q,_⟩
   ·rw [q];split<;>omega
   ·exact absurd ⟨h2,h3⟩ q
  ·exact Int.le_trans (h.left t (by omega) h2 h3) gx
 ·by_cases e:t=j
  ·subst e
   rcases hy with ⟨_,q⟩ | ⟨q,_⟩
   ·rw [q];split<;>omega
   ·exact absurd ⟨h2,h3⟩ q
  ·exact Int.le_trans (h.below t (by omega) h2 h3) gy
 ·have k:=h.leastx X h1 fun t a b c=>h2 t (by omega) b c
  rcases hx with ⟨q,e⟩ | ⟨_,e⟩<;>rw [e]
  ·have:=h2 j (by omega) q.1 q.2
   split<;>omega
  ·exact k
 ·have k:=h.leasty Y h1 fun t a b c=>h2 t (by omega) b c
  rcases hy with ⟨q,e⟩ | ⟨_,e⟩<;>rw [e]
  ·have:=h2 j (by omega) q.1 q.2
   split<;>omega
  ·exact k
theorem Cy (f:FF) (i c:Nat) (L:Nat->CV) (a b:Nat):cm f i c 1 L a b=if a=i/\b=c then L 0 else f a b:=by
 unfold cm
 by_cases h:a=i/\b=c
 ·obtain ⟨rfl,rfl⟩:=h
  have e:(Nat.beq a a&&Nat.ble b b&&Nat.blt b (b+1))=true:=by simp [Nat.blt_eq]
  rw [e,if_pos ⟨rfl,rfl⟩,cond_true,Nat.sub_self]
 ·rw [if_neg h]
  have e:(Nat.beq a i&&Nat.ble c b&&Nat.blt b (c+1))=false:=by
   rw [<- Bool.not_eq_true,qaZ,qaZ,Nat.beq_eq,Nat.ble_eq,Nat.blt_eq];omega
  rw [e];rfl
theorem KH.sz {n:Nat} {f' : FF} {p:Nat->Nat->CV} {tv:Nat->Int} {turns:Int} (O:KH n f' p tv turns) {t:Nat} (ht:t<n):(0<=sX p tv t/\sX p tv t<=131072)/\(0<=sY p tv t/\sY p tv t<=131072):=(O.part t ht).good.sz (tv t)
theorem X9 {ρ:Type} {n:Nat} {f' : FF} {p:Nat->Nat->CV} {tv:Nat->Int} {turns:Int} (O:KH n f' p tv turns) (r2 pA pB R0:FF) (gap g kI tI:Int) (N2:Nat) (i:Nat) (hi:i<n) (hg:0<=g/\g<=500)
  (hR:∀ t,t<n->oI pB t<oI pB i->(0<=bx R0 t 0/\bx R0 t 0<=1000000)/\(0<=bx R0 t 1/\bx R0 t 1<=1000000)) (a b e:ByteArray) (c d h:Int) (S:FF) (k0:FF->Option ρ) :
  ∀ (m j:Nat) (R:FF),n<m+j->j<=n->InS (oI pA) (oI pB) (sX p tv) (sY p tv) R0 gap g i j R ->
  ∃ R',dV 100 n f' turns N2 r2 gap (Int.ofNat n) g n pA n pB n kI (Int.ofNat i) tI a b c d h e S m (Int.ofNat j) R k0=k0 R'/\InS (oI pA) (oI pB) (sX p tv) (sY p tv) R0 gap g i n R':=by
 have n4:=O.n4
 intro m
 induction m with
 | zero=>intro j R h1 h2;omega
 | succ m ih =>
  intro j R h1 h2 H
  by_cases hj:j<n
  ·have c1:decide (Int.ofNat j<Int.ofNat n)=true:=by rw [aE];exact qcZ hj
   have c2:inb (Int.ofNat j) n=true:=by rw [ax];exact qcZ hj
   have c3:(decide (0<=Int.ofNat j)&&decide (Int.ofNat j<=64))=true:=by
    rw [qaZ];exact ⟨qcZ (rgZ j),qcZ (by show (j:Int)<=64;omega)⟩
   have E:=O.row j hj
   have c4:s9 100 (au (Go.Eng.pj kR0 (f' j))) (bits .and .i64 (turns / 2 ^ j) 1)=some (aL (p j) (tv j)):=by
    rw [O.bit j hj];exact DI (O.part j hj) _ ⟨E.id,E.ol,E.oe,E.hl,E.he⟩ _
   have c5:inb (Int.ofNat i) n=true:=by rw [ax];exact qcZ hi
   obtain ⟨s1,s2⟩:=O.sz hj
   unfold dV
   simp only [aq,rlZ,c1,c2,c3,c4,c5,cond_true,aa,ay (show j<9223372036854775807 by omega)]
   by_cases q1:oI pB j<oI pB i
   ·have hne:j≠i:=fun e=>by subst e;omega
    obtain ⟨b1,b2⟩:=hR j hj q1
    have e0:∀ c,R j c=R0 j c:=fun c=>H.off j c hne
    simp only [qcZ q1,cond_true,beq_self_eq_true]
    by_cases q2:oI pA j<oI pA i
    ·simp only [qcZ q2,qeZ (show ¬ oI pA j>oI pA i by omega),cond_true,cond_false]
     refine ih (j+1) _ (by omega) (by omega) (H.step (fun a c q=>by rw [Cy,if_neg (fun z=>q z.1)]) (.inl ⟨⟨q1,q2⟩,?_⟩) (.inr ⟨by omega,?_⟩))
     ·show (cm R i 0 1 _ i 0).int=_
      rw [Cy,if_pos ⟨rfl,rfl⟩]
      show (if w64 (w64 (bx R j 0+sX p tv j)+g)>bx R i 0 then w64 (w64 (bx R j 0+sX p tv j)+g) else bx R i 0)=_
      have:bx R j 0=bx R0 j 0:=congrArg CV.int (e0 0)
      rw [this,aC (n:=bx R0 j 0+sX p tv j) (by omega) (by omega),aC (by omega) (by omega)]
     ·show (cm R i 0 1 _ i 1).int=_
      rw [Cy,if_neg (by omega)]
    ·by_cases q3:oI pA i<oI pA j
     ·simp only [qeZ q2,qcZ (show oI pA j>oI pA i from q3),cond_true,cond_false]
      refine ih (j+1) _ (by omega) (by omega) (H.step (fun a c q=>by rw [Cy,if_neg (fun z=>q z.1)]) (.inr ⟨by omega,?_⟩) (.inl ⟨⟨q1,q3⟩,?_⟩))
      ·show (cm R i 1 1 _ i 0).int=_
       rw [Cy,if_neg (by omega)]
      ·show (cm R i 1 1 _ i 1).int=_
       rw [Cy,if_pos ⟨rfl,rfl⟩]
       show (if w64 (w64 (bx R j 1+sY p tv j)+g)>bx R i 1 then w64 (w64 (bx R j 1+sY p tv j)+g) else bx R i 1)=_
       have:bx R j 1=bx R0 j 1:=congrArg CV.int (e0 1)
       rw [this,aC (n:=bx R0 j 1+sY p tv j) (by omega) (by omega),aC (by omega) (by omega)]
     ·simp only [qeZ q2,qeZ (show ¬ oI pA j>oI pA i from q3),cond_false]
      exact ih (j+1) _ (by omega) (by omega) (H.step (fun _ _ _=>rfl) (.inr ⟨by omega,rfl⟩) (.inr ⟨by omega,rfl⟩))
   ·simp only [qeZ q1,cond_false,show (false==true)=false from rfl]
    exact ih (j+1) _ (by omega) (by omega) (H.step (fun _ _ _=>rfl) (.inr ⟨by omega,rfl⟩) (.inr ⟨by omega,rfl⟩))
  ·refine ⟨R,?_,by rw [show n=j from by omega];exact H⟩
   unfold dV
   rw [aE,ai (qeZ hj)]
structure PkR (n:Nat) (A B sx sy:Nat->Int) (gap g:Int) (k:Nat) (R:FF):Prop where
 lo:∀ i,i<n->B i<k->(gap<=bx R i 0/\bx R i 0<=500+B i*140000)/\(gap<=bx R i 1/\bx R i 1<=500+B i*140000)
 left:∀ j i,j<n->i<n->B i<k->B j<B i->A j<A i->bx R j 0+sx j+g<=bx R i 0
 below:∀ j i,j<n->i<n->B i<k->B j<B i->A i<A j->bx R j 1+sy j+g<=bx R i 1
 least:∀ X Y:Nat->Int,(∀ i,i<n->gap<=X i/\gap<=Y i)->(∀ j i,j<n->i<n->B j<B i->(A j<A i->X j+sx j+g<=X i)/\(A i<A j->Y j+sy j+g<=Y i))->∀ i,i<n->B i<k->bx R i 0<=X i/\bx R i 1<=Y i
theorem PkR.step {n:Nat} {A B sx sy:Nat->Int} {gap g:Int} {k i:Nat} {R R0 R' : FF} (H:PkR n A B sx sy gap g k R) (hi:i<n) (hB:B i=k) (hu:∀ j,j<n->B j=k->j=i) (h0:∀ a c,a≠i->R0 a c=R a c)
  (S:InS A B sx sy R0 gap g i n R') (hg:gap<=500/\g<=500) (hs:∀ t,t<n->sx t<=131072/\sy t<=131072) (hp:∀ t,t<n->0<=B t):PkR n A B sx sy gap g (k+1) R':=by
 have e:∀ j c,j≠i->bx R' j c=bx R j c:=fun j c q=>congrArg CV.int ((S.off j c q).trans (h0 j c q))
 have e0:∀ j c,j≠i->bx R0 j c=bx R j c:=fun j c q=>congrArg CV.int (h0 j c q)
 have ne:∀ j,B j<k->j≠i:=fun j q z=>by subst z;omega
 have old:∀ j,j<n->B j<((k+1:Nat):Int)->j≠i->B j<k:=fun j h1 h2 h3=>by
  rcases Int.lt_or_le (B j) k with q | q
  ·exact q
  ·exact absurd (hu j h1 (by omega)) h3
 refine ⟨fun j h1 h2=>?_,fun j l h1 h2 h3 h4 h5=>?_,fun j l h1 h2 h3 h4 h5=>?_,fun X Y h1 h2 j h3 h4=>?_⟩
 ·by_cases q:j=i
  ·subst q
   have b0:=hp j h1
   refine ⟨⟨S.x0,S.leastx _ (by omega) fun t t1 t2 _=>?_⟩,⟨S.y0,S.leasty _ (by omega) fun t t1 t2 _=>?_⟩⟩
   ·have:=(H.lo t t1 (by omega)).1.2
    rw [e0 t 0 (ne t (by omega))];have:=hs t t1;omega
   ·have:=(H.lo t t1 (by omega)).2.2
    rw [e0 t 1 (ne t (by omega))];have:=hs t t1;omega
  ·rw [e j 0 q,e j 1 q];exact H.lo j h1 (old j h1 h2 q)
 ·by_cases q:l=i
  ·subst q
   have:=S.left j h1 h4 h5
   rw [e0 j 0 (ne j (by omega))] at this
   rw [e j 0 (ne j (by omega))];exact this
  ·have ol:=old l h2 h3 q
   rw [e l 0 q,e j 0 (ne j (by omega))];exact H.left j l h1 h2 ol h4 h5
 ·by_cases q:l=i
  ·subst q
   have:=S.below j h1 h4 h5
   rw [e0 j 1 (ne j (by omega))] at this
   rw [e j 1 (ne j (by omega))];exact this
  ·have ol:=old l h2 h3 q
   rw [e l 1 q,e j 1 (ne j (by omega))];exact H.below j l h1 h2 ol h4 h5
 ·by_cases q:j=i
  ·subst q
   refine ⟨S.leastx _ (h1 j h3).1 fun t t1 t2 t3=>?_,S.leasty _ (h1 j h3).2 fun t t1 t2 t3=>?_⟩
   ·have:=(H.least X Y h1 h2 t t1 (by omega)).1
    rw [e0 t 0 (ne t (by omega))];have:=(h2 t j t1 h3 t2).1 t3;omega
   ·have:=(H.least X Y h1 h2 t t1 (by omega)).2
    rw [e0 t 1 (ne t (by omega))];have:=(h2 t j t1 h3 t2).2 t3;omega
  ·rw [e j 0 q,e j 1 q];exact H.least X Y h1 h2 j h3 (old j h3 h4 q)
theorem jV (f:FF) (i c k:Nat) (L:Nat->CV) (a b:Nat):cm f i c k L a b=if a=i/\c<=b/\b<c+k then L (b-c) else f a b:=by
 unfold cm
 by_cases h:a=i/\c<=b/\b<c+k
 ·rw [if_pos h]
  have e:(Nat.beq a i&&Nat.ble c b&&Nat.blt b (c+k))=true:=by rw [qaZ,qaZ,Nat.beq_eq,Nat.ble_eq,Nat.blt_eq];omega
  rw [e];rfl
 ·rw [if_neg h]
  have e:(Nat.beq a i&&Nat.ble c b&&Nat.blt b (c+k))=false:=by
   rw [<- Bool.not_eq_true,qaZ,qaZ,Nat.beq_eq,Nat.ble_eq,Nat.blt_eq];omega
  rw [e];rfl
abbrev rwL (x:Nat->CV):Nat->CV:=au [(.s ((x 0).str)),(.i .i64 ((x 1).int)),(.i .i64 ((x 2).int)),(.s ((x 3).str)),(.s ((x 4).str)),(.i .i64 ((x 5).int)),(.ro false (.pr (.int .i64) (.pr (.int .i64) .nil)) ((x 6).len) ((x 6).el)),(.ro false (.pr (.sl (.pr (.int .i64) (.pr (.int .i64) .nil))) .nil) ((x 7).len) ((x 7).el)),(.s ((x 8).str)),(.i .i64 ((x 9).int)),(.i .i64 ((x 10).int)),(.i .i64 ((x 11).int)),(.i .i64 ((x 12).int)),(.i .i64 ((x 13).int)),(.i .i64 ((x 14).int)),(.i .i64 ((x 15).int)),(.i .i64 ((x 16).int)),(.i .i64 ((x 17).int))]
def OkL (p:Nat->Nat->CV) (tv:Nat->Int) (L W gap:Int) (R:FF) (i:Nat):Prop :=
 mz (p i) (tv i) (bx R i 0) (bx R i 1)/\en L W 0 (fun _ _=>.any) (bx R i 0) (bx R i 1) (sX p tv i) (sY p tv i) gap
structure SpL (p:Nat->Nat->CV) (tv:Nat->Int) (R T:FF) (i:Nat):Prop where
 id:(T i 0).str=(p i 0).str
 x:(T i 1).int=bx R i 0-(aW (p i) (tv i)).1
 y:(T i 2).int=bx R i 1-(aW (p i) (tv i)).2
 turn:(T i 3).int=tv i
 flip:(T i 4).bool=false
theorem VY {ρ:Type} {n:Nat} {f' : FF} {p:Nat->Nat->CV} {tv:Nat->Int} {turns:Int} (O:KH n f' p tv turns) {r2 pA pB:FF} (Q:D6 n r2 pB) (gap:Int) (hg:0<=gap/\gap<=500) (a b e:ByteArray) (c L W:Int) (k0:Option ρ) (k1:FF->Option ρ) :
  ∀ (m k:Nat) (R T:FF),n<m+k->k<=n->PkR n (oI pA) (oI pB) (sX p tv) (sY p tv) gap (gG gap) k R->(∀ i,i<n->oI pB i<k->OkL p tv L W gap R i/\SpL p tv R T i) ->
  (∃ R' T',lE 100 n f' turns n r2 gap (Int.ofNat n) (gG gap) n pA n pB n a b c L W e m (Int.ofNat k) R T k0 k1=k1 T'/\PkR n (oI pA) (oI pB) (sX p tv) (sY p tv) gap (gG gap) n R'/\∀ i,i<n->OkL p tv L W gap R' i/\SpL p tv R' T' i) \/
  (lE 100 n f' turns n r2 gap (Int.ofNat n) (gG gap) n pA n pB n a b c L W e m (Int.ofNat k) R T k0 k1=k0/\∃ R' k' i,PkR n (oI pA) (oI pB) (sX p tv) (sY p tv) gap (gG gap) k' R'/\i<n/\oI pB i<(k' : Nat)/\¬ OkL p tv L W gap R' i):=by
 have n4:=O.n4
 have gg:0<=gG gap/\gG gap<=500:=by unfold gG;split<;>omega
 intro m
 induction m with
 | zero=>intro k R T h1 h2;omega
 | succ m ih =>
  intro k R T h1 h2 H hT
  by_cases hk:k<n
  ·obtain ⟨i,hi,ei⟩:∃ i:Nat,i<n/\(r2 k 0).int=Int.ofNat i:=by
    obtain ⟨q1,q2⟩:=Q.rin k hk
    exact ⟨((r2 k 0).int).toNat,by omega,(Int.toNat_of_nonneg q1).symm⟩
   have hB:oI pB i=k:=by have:=Q.pr k hk;rw [ei] at this;exact this
   have hu:∀ j,j<n->oI pB j=k->j=i:=fun j q1 q2=>by
    have:=Q.rp j q1
    rw [show (pB j 0).int=Int.ofNat k from q2,aq,ei] at this
    exact (Int.ofNat.inj this).symm
   have c1:decide (Int.ofNat k<Int.ofNat n)=true:=by rw [aE];exact qcZ hk
   have c2:inb (Int.ofNat k) n=true:=by rw [ax];exact qcZ hk
   have c3:(decide (0<=Int.ofNat i)&&decide (Int.ofNat i<=64))=true:=by
    rw [qaZ];exact ⟨qcZ (rgZ i),qcZ (by show (i:Int)<=64;omega)⟩
   have c5:inb (Int.ofNat i) n=true:=by rw [ax];exact qcZ hi
   have hR:∀ t,t<n->oI pB t<oI pB i->(0<=bx (cm R i 0 2 (au [(.i .i64 gap),(.i .i64 gap)])) t 0/\bx (cm R i 0 2 (au [(.i .i64 gap),(.i .i64 gap)])) t 0<=1000000)/\(0<=bx (cm R i 0 2 (au [(.i .i64 gap),(.i .i64 gap)])) t 1/\bx (cm R i 0 2 (au [(.i .i64 gap),(.i .i64 gap)])) t 1<=1000000):=fun t t1 t2=>by
    have ne:¬ t=i:=fun z=>by subst z;omega
    have:=H.lo t t1 (by omega)
    have b4:=(Q.pin t t1).2
    unfold bx
    rw [jV,jV,if_neg (fun z=>ne z.1),if_neg (fun z=>ne z.1)]
    simp only [bx,oI] at *
    omega
   have S0:InS (oI pA) (oI pB) (sX p tv) (sY p tv) (cm R i 0 2 (au [(.i .i64 gap),(.i .i64 gap)])) gap (gG gap) i 0 (cm R i 0 2 (au [(.i .i64 gap),(.i .i64 gap)])):=by
    have v0:bx (cm R i 0 2 (au [(.i .i64 gap),(.i .i64 gap)])) i 0=gap:=by unfold bx;rw [jV,if_pos (by omega)];rfl
    have v1:bx (cm R i 0 2 (au [(.i .i64 gap),(.i .i64 gap)])) i 1=gap:=by unfold bx;rw [jV,if_pos (by omega)];rfl
    exact ⟨fun _ _ _=>rfl,by rw [v0];exact Int.le_refl _,by rw [v1];exact Int.le_refl _,fun t h=>by omega,fun t h=>by omega,fun X h _=>by rw [v0];exact h,fun X h _=>by rw [v1];exact h⟩
   have E:=O.row i hi
   have b4:=O.turn i hi
   obtain ⟨s1,s2⟩:=O.sz hi
   unfold lE
   simp only [ei,aq,rlZ,c1,c2,c3,c5,cond_true,ay (show k<9223372036854775807 by omega),O.bit i hi]
   obtain ⟨R',run,S⟩:=X9 O r2 pA pB _ gap (gG gap) (Int.ofNat k) (tv i) n i hi gg hR a b e c L W T _ 100 0 _ (by omega) (by omega) S0
   rw [show (0:Int)=Int.ofNat 0 from rfl,run]
   have P':=H.step hi hB hu (fun a c q=>by rw [jV,if_neg (fun z=>q z.1)]) S ⟨hg.2,gg.2⟩ (fun t ht=>⟨(O.sz ht).1.2,(O.sz ht).2.2⟩) (fun t ht=>(Q.pin t ht).1)
   have lo:=P'.lo i hi (by omega)
   have bk:=(Q.pin i hi).2
   obtain ⟨z,e1,ez⟩:=La (O.part i hi) (q:=rwL (f' i)) ⟨E.id,E.ol,E.oe,E.hl,E.he⟩ (tv i) (bx R' i 0) (bx R' i 1) b4 (by simp only [oI] at *;omega) (by simp only [oI] at *;omega)
   rw [DI (O.part i hi) (rwL (f' i)) ⟨E.id,E.ol,E.oe,E.hl,E.he⟩,aa,e1,aa]
   obtain ⟨w,e2,ew⟩:=Fr L W 0 (fun _ _=>.any) (bx R' i 0) (bx R' i 1) (sX p tv i) (sY p tv i) gap (by omega)
   have bad:¬ OkL p tv L W gap R' i->∃ R' k' i,PkR n (oI pA) (oI pB) (sX p tv) (sY p tv) gap (gG gap) k' R'/\i<n/\oI pB i<(k' : Nat)/\¬ OkL p tv L W gap R' i:=fun h=>⟨R',k+1,i,P',hi,by omega,h⟩
   cases z with
   | false=>exact .inr ⟨rfl,bad fun h=>Bool.noConfusion (ez.2 h.1)⟩
   | true =>
    dsimp only
    rw [e2,aa]
    cases w with
    | false=>exact .inr ⟨rfl,bad fun h=>Bool.noConfusion (ew.2 h.2)⟩
    | true =>
     refine ih (k+1) R' _ (by omega) (by omega) P' fun j j1 j2=>?_
     by_cases q:j=i
     ·subst q
      refine ⟨⟨ez.1 rfl,ew.1 rfl⟩,?_,?_,?_,?_,?_⟩
      ·rw [jV,if_pos (by omega)];rfl
      ·rw [jV,if_pos (by omega)];rfl
      ·rw [jV,if_pos (by omega)];rfl
      ·rw [jV,if_pos (by omega)];rfl
      ·rw [jV,if_pos (by omega)];rfl
     ·have jk:oI pB j<k:=by
       rcases Int.lt_or_le (oI pB j) k with h | h
       ·exact h
       ·exact absurd (hu j j1 (by omega)) q
      obtain ⟨o1,o2⟩:=hT j j1 jk
      have er:∀ c,R' j c=R j c:=fun c=>(S.off j c q).trans (by rw [jV,if_neg (fun z=>q z.1)])
      have er0:bx R' j 0=bx R j 0:=congrArg CV.int (er 0)
      have er1:bx R' j 1=bx R j 1:=congrArg CV.int (er 1)
      refine ⟨by unfold OkL;rw [er0,er1];exact o1,?_,?_,?_,?_,?_⟩
      ·rw [jV,if_neg (fun z=>q z.1)];exact o2.id
      ·rw [jV,if_neg (fun z=>q z.1),er0];exact o2.x
      ·rw [jV,if_neg (fun z=>q z.1),er1];exact o2.y
      ·rw [jV,if_neg (fun z=>q z.1)];exact o2.turn
      ·rw [jV,if_neg (fun z=>q z.1)];exact o2.flip
  ·left
   have:k=n:=by omega
   subst this
   refine ⟨R,T,?_,H,fun i hi=>hT i hi (Q.pin i hi).2⟩
   unfold lE
   rw [aE,ai (qeZ hk)]
theorem OkL.le {p:Nat->Nat->CV} {tv:Nat->Int} {L W gap:Int} {R:FF} {i:Nat} (V:ck (p i)) (ht:tv i=0\/tv i=1) (hg:0<=gap) {X Y:Int} (hA:mz (p i) (tv i) X Y) (hF:en L W 0 (fun _ _=>.any) X Y (sX p tv i) (sY p tv i) gap)
  (l0:gap<=bx R i 0/\gap<=bx R i 1) (h:bx R i 0<=X/\bx R i 1<=Y):OkL p tv L W gap R i:=by
 obtain ⟨b1,b2⟩:=V.lo (tv i) ht
 unfold OkL mz en rH FIn at *
 refine ⟨by omega,?_,fun j hj=>by omega,?_,fun j hj=>by omega⟩
 ·omega
 ·omega
theorem MZ {n:Nat} {f' : FF} {p:Nat->Nat->CV} {tv:Nat->Int} {turns:Int} (O:KH n f' p tv turns) {r1 r2 pA pB:FF} (P:D6 n r1 pA) (Q:D6 n r2 pB) (e1:AG 100 n r1=some (n,pA)) (e2:AG 100 n r2=some (n,pB)) (gap:Int) (hg:0<=gap/\gap<=500) (a b e:ByteArray) (c L W:Int) :
  (∃ R T,Cq 100 a b c L W e n f' turns n r1 n r2 gap=some (n,T,true)/\PkR n (oI pA) (oI pB) (sX p tv) (sY p tv) gap (gG gap) n R/\∀ i,i<n->OkL p tv L W gap R i/\SpL p tv R T i) \/
  (Cq 100 a b c L W e n f' turns n r1 n r2 gap=some (0,(fun _ _=>.any),false)/\∀ X Y:Nat->Int,(∀ i,i<n->(gap<=X i/\gap<=Y i)/\mz (p i) (tv i) (X i) (Y i)/\en L W 0 (fun _ _=>.any) (X i) (Y i) (sX p tv i) (sY p tv i) gap) ->
   (∀ j i,j<n->i<n->oI pB j<oI pB i->(oI pA j<oI pA i->X j+sX p tv j+gG gap<=X i)/\(oI pA i<oI pA j->Y j+sY p tv j+gG gap<=Y i))->False):=by
 have n4:=O.n4
 have hc:(decide (0<=(Int.ofNat n))&&decide ((Int.ofNat n)<=(Int.ofNat n))&&decide ((Int.ofNat n)<=1073741824)&&true)=true:=by
  rw [qcZ (show (0:Int)<=Int.ofNat n from rgZ n),qcZ (Int.le_refl _),qcZ (show Int.ofNat n<=1073741824 by show (n:Int)<=_;omega)];rfl
 have g1:(if 1>gap then 1 else gap)=gG gap:=rfl
 rcases VY (ρ:=Bool × Nat × FF × Bool) O (pA:=pA) Q gap hg a b e c L W (some (true,0,(fun _ _=>.any),false)) (fun x=>some (false,n,x,true)) 100 0 (fun _ j=>au [(.i .i64 0),(.i .i64 0)] j) (fun _ j=>au [(.s ByteArray.empty),(.i .i64 0),(.i .i64 0),(.i .i64 0),(.b false)] j) (by omega) (by omega)
   ⟨fun i _ h=>by have:=(Q.pin i ‹_›).1;simp only [oI] at h;omega,fun j i _ h1 h=>by have:=(Q.pin i h1).1;simp only [oI] at h;omega,fun j i _ h1 h=>by have:=(Q.pin i h1).1;simp only [oI] at h;omega,fun X Y _ _ i h1 h=>by have:=(Q.pin i h1).1;simp only [oI] at h;omega⟩ (fun i h1 h=>by have:=(Q.pin i h1).1;simp only [oI] at h;omega) with ⟨R,T,h1,h2,h3⟩ | ⟨h1,R,k,i,h2,h3,h4,h5⟩
 ·left
  refine ⟨R,T,?_,h2,h3⟩
  unfold Cq FQ
  rw [e1,aa,e2,aa,hc,cond_true,cond_true,g1,aq]
  exact (congrArg (fun x=>ob x _) h1).trans rfl
 ·right
  refine ⟨?_,fun X Y x1 x2=>h5 ?_⟩
  ·unfold Cq FQ
   rw [e1,aa,e2,aa,hc,cond_true,cond_true,g1,aq]
   exact (congrArg (fun x=>ob x _) h1).trans rfl
  ·have lo:=h2.lo i h3 h4
   exact OkL.le (O.part i h3) (O.turn i h3) hg.1 (x1 i h3).2.1 (x1 i h3).2.2 ⟨lo.1.1,lo.2.1⟩ (h2.least X Y (fun j hj=>(x1 j hj).1) x2 i h3 h4)
abbrev gP (z:cn) (tl:List Int) (t:Nat):Nat->CV:=z.f (cN (chC tl) t)
abbrev gT (tl:List Int) (t:Nat):Int:=tl.getD (cN (chC tl) t) 0
theorem D6.inj {n:Nat} {r p:FF} (P:D6 n r p) {i j:Nat} (hi:i<n) (hj:j<n) (h:oI p i=oI p j):i=j:=by
 have a:=P.rp i hi
 rw [show (p i 0).int=(p j 0).int from h,P.rp j hj] at a
 exact (Int.ofNat.inj a).symm
theorem Re {z:cn} (Z:Fix z) (hD:∀ i j,i<j->j<z.n->(z.f i 0).str≠(z.f j 0).str) {tl:List Int} (hv:okV z.n tl=true) {r1 r2 pA pB R T:FF} (P:D6 (chK tl) r1 pA) (Q:D6 (chK tl) r2 pB)
  (H:PkR (chK tl) (oI pA) (oI pB) (sX (gP z tl) (gT tl)) (sY (gP z tl) (gT tl)) z.gap (gG z.gap) (chK tl) R) (ok:∀ i,i<chK tl->OkL (gP z tl) (gT tl) z.L z.W z.gap R i/\SpL (gP z tl) (gT tl) R T i):∀ j,j<chK tl->eh z.n z.f T z.L z.W z.gap j:=by
 have C:=vJ Z.n4 hv
 have k4:chK tl<=4:=by have:=C.le;have:=Z.n4;omega
 have S:jq z.n z.f tl (chK tl) (chC tl) (liL (chK tl) (chC tl)) (liL (chK tl) (chC tl)):=⟨Z.n4,Z.part,hv,C,List.Perm.refl _,List.Perm.refl _⟩
 have inj:∀ a b,a<chK tl->b<chK tl->cN (chC tl) a=cN (chC tl) b->a=b:=fun a b ha hb h=>by
  have m1:=(C.mem a ha).1
  have m2:=(C.mem b hb).1
  unfold cN at h
  rcases Nat.lt_trichotomy a b with q | q | q
  ·have:=C.asc a b q hb;omega
  ·exact q
  ·have:=C.asc b a q ha;omega
 obtain ⟨G,hG⟩:∃ G:FF,∀ i,i<chK tl->bx G (cN (chC tl) i) 0=bx R i 0/\bx G (cN (chC tl) i) 1=bx R i 1/\bx G (cN (chC tl) i) 2=bx R i 0+sX (gP z tl) (gT tl) i/\bx G (cN (chC tl) i) 3=bx R i 1+sY (gP z tl) (gT tl) i:=by
  refine ⟨fun j c=>match (List.range (chK tl)).find? fun t=>Nat.beq (cN (chC tl) t) j with
   | some t=>.i .i64 (match c with | 0=>bx R t 0 | 1=>bx R t 1 | 2=>bx R t 0+sX (gP z tl) (gT tl) t | _=>bx R t 1+sY (gP z tl) (gT tl) t)
   | none=>.any,fun i hi=>?_⟩
  have:(List.range (chK tl)).find? (fun t=>Nat.beq (cN (chC tl) t) (cN (chC tl) i))=some i:=by
   cases h:(List.range (chK tl)).find? (fun t=>Nat.beq (cN (chC tl) t) (cN (chC tl) i)) with
   | none=>exact absurd (Nat.beq_refl _) (List.find?_eq_none.1 h i (riZ.2 hi))
   | some t=>rw [inj t i (riZ.1 (List.mem_of_find?_eq_some h)) hi (qbZ (List.find?_some (p:=fun t=>Nat.beq (cN (chC tl) t) (cN (chC tl) i)) h))]
  simp only [bx,this]
  exact ⟨rfl,rfl,rfl,rfl⟩
 have zg:=Z.gap
 have PC:PkC z.f tl z.gap (chK tl) (chC tl) G:=by
  refine ⟨fun i hi=>?_,fun i hi=>?_,fun i j hi hj hij=>?_⟩
  ·obtain ⟨g0,g1,_,_⟩:=hG i hi
   have b:=(Q.pin i hi).2
   have:=H.lo i hi b
   rw [g0,g1];simp only [oI] at *;omega
  ·obtain ⟨g0,g1,g2,g3⟩:=hG i hi
   rw [g0,g1,g2,g3];exact ⟨rfl,rfl⟩
  ·obtain ⟨g0,g1,g2,g3⟩:=hG i hi
   obtain ⟨h0,h1,h2,h3⟩:=hG j hj
   rw [g0,g1,g2,g3,h0,h1,h2,h3]
   have bi:=(Q.pin i hi).2
   have bj:=(Q.pin j hj).2
   have nb:oI pB i≠oI pB j:=fun e=>hij (Q.inj hi hj e)
   have na:oI pA i≠oI pA j:=fun e=>hij (P.inj hi hj e)
   rcases Int.lt_or_gt_of_ne nb with q | q<;>rcases Int.lt_or_gt_of_ne na with w | w
   ·exact .inl (.inl (H.left i j hi hj bj q w))
   ·exact .inl (.inr (H.below i j hi hj bj q w))
   ·exact .inr (.inr (H.below j i hj hi bi q w))
   ·exact .inr (.inl (H.left j i hj hi bi q w))
 refine CC S hD PC (fun i hi=>?_) fun i hi=>?_
 ·obtain ⟨g0,g1,_,_⟩:=hG i hi
  obtain ⟨o1,o2⟩:=(ok i hi).1
  unfold en rH FIn at o2
  exact Ob S zg PC o2.1.1 o2.1.2.1 hi (by rw [g0,g1];exact o1) ⟨o2.1.2.2.2.1,o2.1.2.2.2.2.1⟩ (by rw [g0,g1];exact ⟨o2.2.2.1.2.2.1,o2.2.2.1.2.2.2⟩)
 ·obtain ⟨g0,g1,_,_⟩:=hG i hi
  have s:=(ok i hi).2
  exact ⟨s.id,by rw [g0];exact s.x,by rw [g1];exact s.y,s.turn,s.flip⟩
theorem GF {k t:Nat} (c:FF) (h:t<k):(liL k c).getD t 0=(c t 0).int:=by
 rw [qdZ,j6 h];rfl
theorem I6 {n:Nat} {r p:FF} (P:D6 n r p) {j:Nat} (hj:j<n):ixI (liL n r) (Int.ofNat j)=oI p j:=by
 have q:=P.pin j hj
 have m:Int.ofNat j∈liL n r:=by
  have e:=j6 (c:=r) (k:=n) (t:=((p j 0).int).toNat) (by omega)
  rw [P.rp j hj] at e
  exact qrZ e
 obtain ⟨t,e,ht,g⟩:=DT m
 rw [dE] at ht
 rw [GF r ht] at g
 have:=P.pr t ht
 rw [g,aq] at this
 rw [e];exact this.symm
theorem OL {z:cn} (Z:Fix z) (hL:0<=z.L/\z.L<=32768) (hW:0<=z.W/\z.W<=32768) {tl:List Int} (hv:okV z.n tl=true) {X Y:Int->Int} (l:Lay z tl X Y):∃ i1 i2,i1<(oN (chK tl)).1/\i2<(oN (chK tl)).1/\∃ X' Y' : Nat->Int,
  (∀ i,i<chK tl->(z.gap<=X' i/\z.gap<=Y' i)/\mz (gP z tl i) (gT tl i) (X' i) (Y' i)/\en z.L z.W 0 (fun _ _=>.any) (X' i) (Y' i) (sX (gP z tl) (gT tl) i) (sY (gP z tl) (gT tl) i) z.gap) /\
  ∀ j i,j<chK tl->i<chK tl->oI (oP (chK tl) i2).2 j<oI (oP (chK tl) i2).2 i->(oI (oP (chK tl) i1).2 j<oI (oP (chK tl) i1).2 i->X' j+sX (gP z tl) (gT tl) j+gG z.gap<=X' i)/\(oI (oP (chK tl) i1).2 i<oI (oP (chK tl) i1).2 j->Y' j+sY (gP z tl) (gT tl) j+gG z.gap<=Y' i):=by
 have C:=vJ Z.n4 hv
 have k4:chK tl<=4:=by have:=C.le;have:=Z.n4;omega
 have zg:=Z.gap
 have gg:0<=gG z.gap:=by unfold gG;split<;>omega
 have mem:∀ a∈(List.range (chK tl)).map Int.ofNat,∃ i,i<chK tl/\a=Int.ofNat i:=fun a ha=>by
  obtain ⟨i,h1,h2⟩:=rjZ.1 ha
  exact ⟨i,riZ.1 h1,h2.symm⟩
 have nd:((List.range (chK tl)).map Int.ofNat).Nodup:=by
  rw [rdZ,reZ]
  intro i j hi hj hij
  simp only [List.getElem_map,List.getElem_range]
  exact fun e=>by have:=Int.ofNat.inj e;omega
 obtain ⟨p,q,hp,hq,hpq⟩:=Ig (x:=fun a=>X ((chC tl a.toNat 0).int)) (y:=fun a=>Y ((chC tl a.toNat 0).int)) (l:=fun a=>sX (gP z tl) (gT tl) a.toNat) (w:=fun a=>sY (gP z tl) (gT tl) a.toNat) gg nd (fun a ha=>by
  obtain ⟨i,hi,rfl⟩:=mem a ha
  exact ⟨(l.sz i hi).1.1,(l.sz i hi).2.1⟩) (fun a ha b hb hab=>by
  obtain ⟨i,hi,rfl⟩:=mem a ha
  obtain ⟨j,hj,rfl⟩:=mem b hb
  exact l.ap i j hi hj fun e=>hab (by rw [e]))
 obtain ⟨i1,h1,rfl⟩:=Ih k4 hp
 obtain ⟨i2,h2,rfl⟩:=Ih k4 hq
 have P:=((tH k4).2.2 i1 h1).2.2
 have Q:=((tH k4).2.2 i2 h2).2.2
 refine ⟨i1,i2,h1,h2,fun t=>X ((chC tl t 0).int),fun t=>Y ((chC tl t 0).int),fun i hi=>?_,fun j i hj hi hB=>?_⟩
 ·have a:=l.lo i hi
  have b:=l.sz i hi
  have c:=l.at_ i hi
  have d:=l.in_ i hi
  have m:=C.mem i hi
  have t:=tJ hv (i:=cN (chC tl) i) (by unfold cN;omega) m.2
  obtain ⟨lo1,lo2⟩:=(Z.part (cN (chC tl) i) (by unfold cN;omega)).lo _ t
  refine ⟨a,?_,?_⟩
  ·unfold mz;dsimp only [gP,gT];omega
  ·unfold en rH FIn;dsimp only
   exact ⟨⟨hL,hW,zg,b.1,b.2,by omega,by omega⟩,fun j hj=>by omega,⟨a.1,a.2,d.1,d.2⟩,fun j hj=>by omega⟩
 ·have u1:=Q.pin j hj
  have u2:=Q.pin i hi
  have e:=hpq (((oP (chK tl) i2).2 j 0).int).toNat (((oP (chK tl) i2).2 i 0).int).toNat (by simp only [oI] at hB;omega) (by rw [dE];omega)
  rw [GF _ (by omega),GF _ (by omega),Q.rp j hj,Q.rp i hi] at e
  unfold Bef at e
  rw [I6 P hj,I6 P hi] at e
  exact ⟨fun h=>e.1 h,fun h=>e.2 (by omega)⟩
theorem Wj {ρ:Type} (N a b:Nat) (F c d:FF) (k:Int->Option ρ):∀ (m:Nat) (s i:Int),oW 100 N F (Int.ofNat N) a c b d m s i k=vm 100 N F a c b d m s i k:=by
 intro m
 induction m with
 | zero=>intro s i;rfl
 | succ m ih =>
  intro s i
  unfold oW vm
  have e:∀ n f,F34 100 n f=F38 100 n f:=fun n f=>by
   obtain ⟨x,h1,h2,_⟩:=tX n f
   rw [h1,h2]
  simp only [ih,e]
theorem WM (n1:Nat) (f1:FF) (n2:Nat) (f2:FF):F18 100 n1 f1 n2 f2=F19 100 n1 f1 n2 f2:=by
 obtain ⟨c,h1,h2,_⟩:=mi n1 n2 f1 f2
 unfold F18 F19
 rw [h1,h2]
 simp only [Wj]
 rfl
theorem Hq {P n:Nat} {PF S:FF} (hP:AE P PF) (hn:n<=32) (a:ByteArray) (b:Int):Hh 100 a b n S P PF=some (dC P PF S n):=by
 have hP':=hP.parts
 have lp:∀ (m j:Nat) (acc:Int),n<m+j->j<=n->mg 100 P PF a b n S m acc (Int.ofNat j) (fun x=>some x)=some (ua P PF S acc (n-j) j):=by
  intro m
  induction m with
  | zero=>intro j acc h1 h2;omega
  | succ m ih =>
   intro j acc h1 h2
   unfold mg
   rw [aE,ax,aq]
   by_cases h:j<n
   ·rw [ae (qcZ h),ae (qcZ h),ay (by omega),show n-j=(n-(j+1))+1 from by omega,ua,DY _ _ _ (by omega),aa]
    rcases tP P PF ((S j 0).str) with hf | ⟨k,hk,hf,_⟩
    ·rw [hf,ai (by rfl),ih (j+1) acc (by omega) (by omega)];rfl
    ·have hpk:pkN P PF ((S j 0).str)=k:=by unfold pkN;rw [hf];rfl
     have h0:(0:Int)<=Int.ofNat k:=rgZ k
     rw [hf,ae (qcZ h0),ax,aq,ae (qcZ hk),<- WM,BP hP hk,aa,hpk,ih (j+1) _ (by omega) (by omega),ai (qeZ (by simp))]
   ·rw [ai (qeZ h),show n-j=0 from by omega];rfl
 unfold Hh
 rw [ai (qeZ (show ¬ (Int.ofNat n)>32 by show ¬ (n:Int)>32;omega))]
 exact lp 100 0 0 (by omega) (by omega)
def vT (z:cn) (k:Nat) (S:FF):Prop:=k<=4/\∀ j,j<k->eh z.n z.f S z.L z.W z.gap j
abbrev vB (z:cn) (k:Nat) (S:FF):Int:=dC z.P z.PF S k
def Res {ρ:Type} (z:cn) (v:Int) (g:Prop) (L:(Bool->Nat->FF->Option ρ)->Option ρ) (k:Nat) (S:FF):Prop :=
 ∃ b' k' S',(∀ k0,L k0=k0 b' k' S')/\vT z k' S'/\vB z k S<=vB z k' S'/\(g->v<=vB z k' S')
theorem Res.stop {ρ:Type} {z:cn} {v:Int} {g:Prop} {L:(Bool->Nat->FF->Option ρ)->Option ρ} {b:Bool} {k:Nat} {S:FF} (h:vT z k S) (hg:¬ g) (e:∀ k0,L k0=k0 b k S):Res z v g L k S :=
 ⟨b,k,S,e,h,Int.le_refl _,fun q=>absurd q hg⟩
theorem Res.both {ρ:Type} {z:cn} {v:Int} {g g1 g2:Prop} {L1:(Bool->Nat->FF->Option ρ)->Option ρ} {L2:Bool->Nat->FF->(Bool->Nat->FF->Option ρ)->Option ρ} {k:Nat} {S:FF}
  (h1:Res z v g1 L1 k S) (h2:∀ b' k' S',vT z k' S'->Res z v g2 (L2 b' k' S') k' S') (hg:g->g1\/g2):Res z v g (fun k0=>L1 fun b' k' S'=>L2 b' k' S' k0) k S:=by
 obtain ⟨b1,k1,S1,e1,i1,v1,w1⟩:=h1
 obtain ⟨b2,k2,S2,e2,i2,v2,w2⟩:=h2 b1 k1 S1 i1
 refine ⟨b2,k2,S2,fun k0=>(e1 _).trans (e2 k0),i2,Int.le_trans v1 v2,fun q=>?_⟩
 rcases hg q with q | q
 ·exact Int.le_trans (w1 q) v2
 ·exact w2 q
theorem Tc (n:Nat) (h:n<=4):w64 (1*2 ^ (Int.ofNat n).toNat)=Int.ofNat (2 ^ n)/\(decide (0<=Int.ofNat n)&&decide (Int.ofNat n<=64))=true:=by
 have:∀ n,n<5->w64 (1*2 ^ (Int.ofNat n).toNat)=Int.ofNat (2 ^ n)/\(decide (0<=Int.ofNat n)&&decide (Int.ofNat n<=64))=true:=by decide +kernel
 exact this n (by omega)
theorem Bk {n:Nat} (h:n<=4):2 ^ n<=16:=by
 have:∀ n,n<5->2 ^ n<=16:=by decide
 exact this n (by omega)
variable {ρ : Type} {z : cn} (Z : Fix z) (v : Int)
include Z
theorem l14 (n' : Nat) (f' : FF) (set turns:Int) (N:Nat) (O:FF) (i:Nat) (hN:N<=24) (hi:i<N) (G:Nat->Prop) (n:Nat) (f:FF)
  (hc:∀ j,j<N->∃ k T ok,Cq 100 z.a z.gr z.th z.L z.W z.e n' f' turns ((O i 0).len) ((O i 0).el) ((O j 0).len) ((O j 0).el) z.gap=some (k,T,ok)/\(ok=true->vT z k T)/\(G j->ok=true/\v<=vB z k T)) :
  ∀ (m j:Nat) (b:Bool) (k:Nat) (S:FF),N<m+j->j<=N->vT z k S->Res (ρ:=ρ) z v (∃ t,j<=t/\t<N/\G t) (dA 100 z.P z.PF z.gap n f set n' f' N O turns (Int.ofNat i) z.a z.gr z.th z.L z.W z.e m (Int.ofNat j) b k S) k S:=by
 intro m
 induction m with
 | zero=>intro j b k S h1 h2;omega
 | succ m ih =>
  intro j b k S h1 h2 h3
  by_cases h:j<N
  ·obtain ⟨k',T,ok,e1,c1,c2⟩:=hc j h
   have nx:∀ (b:Bool) (k:Nat) (S:FF),vT z k S->Res (ρ:=ρ) z v (∃ t,j+1<=t/\t<N/\G t) (dA 100 z.P z.PF z.gap n f set n' f' N O turns (Int.ofNat i) z.a z.gr z.th z.L z.W z.e m (Int.ofNat (j+1)) b k S) k S:=fun b k S q=>ih (j+1) b k S (by omega) (by omega) q
   have un:∀ k0:Bool->Nat->FF->Option ρ,dA 100 z.P z.PF z.gap n f set n' f' N O turns (Int.ofNat i) z.a z.gr z.th z.L z.W z.e (m+1) (Int.ofNat j) b k S k0 =
     bif ok==true then (bif (decide (vB z k' T>vB z k S)) then dA 100 z.P z.PF z.gap n f set n' f' N O turns (Int.ofNat i) z.a z.gr z.th z.L z.W z.e m (Int.ofNat (j+1)) false k' T k0 else dA 100 z.P z.PF z.gap n f set n' f' N O turns (Int.ofNat i) z.a z.gr z.th z.L z.W z.e m (Int.ofNat (j+1)) b k S k0)
     else dA 100 z.P z.PF z.gap n f set n' f' N O turns (Int.ofNat i) z.a z.gr z.th z.L z.W z.e m (Int.ofNat (j+1)) b k S k0:=fun k0=>by
    conv=>lhs;unfold dA
    rw [aE,ax,ax,aq,aq,ae (qcZ h),ae (qcZ hi),ae (qcZ h),e1,aa,ay (by omega)]
    cases ok with
    | false=>rfl
    | true =>
     have k4:=(c1 rfl).1
     simp only [beq_self_eq_true,cond_true]
     rw [Hq Z.few (by omega),aa,Hq Z.few (by have:=h3.1;omega),aa]
   by_cases ho:ok=true
   ·subst ho
    have q:=c1 rfl
    by_cases hv:vB z k' T>vB z k S
    ·obtain ⟨b2,k2,S2,e2,i2,v2,w2⟩:=nx false k' T q
     refine ⟨b2,k2,S2,fun k0=>?_,i2,Int.le_trans (Int.le_of_lt hv) v2,fun ⟨t,t1,t2,t3⟩=>?_⟩
     ·rw [un,qcZ hv];exact e2 k0
     ·by_cases w:t=j
      ·subst w;exact Int.le_trans (c2 t3).2 v2
      ·exact w2 ⟨t,by omega,t2,t3⟩
    ·obtain ⟨b2,k2,S2,e2,i2,v2,w2⟩:=nx b k S h3
     refine ⟨b2,k2,S2,fun k0=>?_,i2,v2,fun ⟨t,t1,t2,t3⟩=>?_⟩
     ·rw [un,qeZ hv];exact e2 k0
     ·by_cases w:t=j
      ·subst w;have:=(c2 t3).2;omega
      ·exact w2 ⟨t,by omega,t2,t3⟩
   ·obtain ⟨b2,k2,S2,e2,i2,v2,w2⟩:=nx b k S h3
    refine ⟨b2,k2,S2,fun k0=>?_,i2,v2,fun ⟨t,t1,t2,t3⟩=>?_⟩
    ·rw [un,ai (by simpa using ho)];exact e2 k0
    ·by_cases w:t=j
     ·subst w;exact absurd (c2 t3).1 ho
     ·exact w2 ⟨t,by omega,t2,t3⟩
  ·refine Res.stop (b:=b) h3 (fun ⟨t,t1,t2,_⟩=>by omega) fun k0=>?_
   unfold dA
   rw [aE,ai (qeZ h)]
theorem l15 (n' : Nat) (f' : FF) (set turns:Int) (N:Nat) (O:FF) (hN:N<=24) (G:Nat->Nat->Prop) (n:Nat) (f:FF)
  (hc:∀ i,i<N->∀ j,j<N->∃ k T ok,Cq 100 z.a z.gr z.th z.L z.W z.e n' f' turns ((O i 0).len) ((O i 0).el) ((O j 0).len) ((O j 0).el) z.gap=some (k,T,ok)/\(ok=true->vT z k T)/\(G i j->ok=true/\v<=vB z k T)) :
  ∀ (m i:Nat) (b:Bool) (k:Nat) (S:FF),N<m+i->i<=N->vT z k S->Res (ρ:=ρ) z v (∃ s t,i<=s/\s<N/\t<N/\G s t) (jG 100 z.P z.PF z.gap n f set n' f' N O turns z.a z.gr z.th z.L z.W z.e m (Int.ofNat i) b k S) k S:=by
 intro m
 induction m with
 | zero=>intro i b k S h1 h2;omega
 | succ m ih =>
  intro i b k S h1 h2 h3
  by_cases h:i<N
  ·have:=Res.both (l14 (ρ:=ρ) Z v n' f' set turns N O i hN h (G i) n f (hc i h) 100 0 b k S (by omega) (by omega) h3) (fun b k S q=>ih (i+1) b k S (by omega) (by omega) q) (g:=∃ s t,i<=s/\s<N/\t<N/\G s t) fun ⟨s,t,s1,s2,t1,t2⟩=>by
    by_cases e:s=i
    ·subst e;exact .inl ⟨t,by omega,t1,t2⟩
    ·exact .inr ⟨s,t,by omega,s2,t1,t2⟩
   refine Eq.mp (congrArg (fun L=>Res z v _ L k S) (funext fun k0=>?_)) this
   conv=>rhs;unfold jG
   rw [aE,ae (qcZ h),ay (by omega)];rfl
  ·refine Res.stop (b:=b) h3 (fun ⟨s,t,s1,s2,_⟩=>by omega) fun k0=>?_
   unfold jG
   rw [aE,ai (qeZ h)]
theorem l16 (n' : Nat) (f' : FF) (set:Int) (N:Nat) (O:FF) (hN:N<=24) (h4:n'<=4) (G:Nat->Nat->Nat->Prop) (n:Nat) (f:FF)
  (hc:∀ t,t<2 ^ n'->∀ i,i<N->∀ j,j<N->∃ k T ok,Cq 100 z.a z.gr z.th z.L z.W z.e n' f' (Int.ofNat t) ((O i 0).len) ((O i 0).el) ((O j 0).len) ((O j 0).el) z.gap=some (k,T,ok)/\(ok=true->vT z k T)/\(G t i j->ok=true/\v<=vB z k T)) :
  ∀ (m t:Nat) (b:Bool) (k:Nat) (S:FF),2 ^ n' < m+t->t<=2 ^ n'->vT z k S->Res (ρ:=ρ) z v (∃ r i j,t<=r/\r<2 ^ n'/\i<N/\j<N/\G r i j) (jF 100 z.P z.PF z.gap n f set n' f' N O z.a z.gr z.th z.L z.W z.e m (Int.ofNat t) b k S) k S:=by
 obtain ⟨p1,p2⟩:=Tc n' h4
 have p3:=Bk h4
 intro m
 induction m with
 | zero=>intro t b k S h1 h2;omega
 | succ m ih =>
  intro t b k S h1 h2 h3
  by_cases h:t<2 ^ n'
  ·have:=Res.both (l15 (ρ:=ρ) Z v n' f' set (Int.ofNat t) N O hN (G t) n f (hc t h) 100 0 b k S (by omega) (by omega) h3) (fun b k S q=>ih (t+1) b k S (by omega) (by omega) q) (g:=∃ r i j,t<=r/\r<2 ^ n'/\i<N/\j<N/\G r i j) fun ⟨r,i,j,r1,r2,i1,j1,g⟩=>by
    by_cases e:r=t
    ·subst e;exact .inl ⟨i,j,by omega,i1,j1,g⟩
    ·exact .inr ⟨r,i,j,by omega,r2,i1,j1,g⟩
   refine Eq.mp (congrArg (fun L=>Res z v _ L k S) (funext fun k0=>?_)) this
   conv=>rhs;unfold jF
   rw [p2,ae rfl,p1,aE,ae (qcZ h),ay (by omega)];rfl
  ·refine Res.stop (b:=b) h3 (fun ⟨r,i,j,r1,r2,_⟩=>by omega) fun k0=>?_
   unfold jF
   rw [p2,ae rfl,p1,aE,ai (qeZ h)]
end Go.Eng.R13
/-
 Nester: the reference's Best: all sets,turns and orders.
-/
set_option linter.all false
namespace Go.Eng.R13
open Go Go.RowKit Go.Eng Geo
theorem Oc (i s:Nat):ixs (i+1) s=bif Nat.beq (s / 2 ^ i % 2) 1 then ixs i s ++ [i] else ixs i s:=by
 unfold ixs
 rw [List.range_succ,List.filter_append]
 cases h:Nat.beq (s / 2 ^ i % 2) 1 with
 | true=>simp [h]
 | false=>simp [h]
theorem I5 (n s:Nat):(ixs n s).length<=n:=by
 unfold ixs
 exact Nat.le_trans (List.length_filter_le _ _) (by simp)
theorem VX {ρ:Type} (n s:Nat) (hn:n<=4) (hs:s<16) (f:FF) (P:Nat) (PF:FF) (gap th L W:Int) (a gr e:ByteArray) (b:Bool) (k:Nat) (S:FF):∀ (m i:Nat) (f' : FF),n<m+i->i<=n->(∀ u,u<(ixs i s).length->oQ (f' u) (f ((ixs i s).getD u 0))) ->
  ∃ f'',(∀ k0:Nat->FF->Option ρ,jQ 100 P PF gap n f (Int.ofNat s) a gr th L W e b k S m (ixs i s).length (Int.ofNat i) f' k0=k0 (ixs n s).length f'')/\∀ u,u<(ixs n s).length->oQ (f'' u) (f ((ixs n s).getD u 0)):=by
 intro m
 induction m with
 | zero=>intro i f' h1 h2;omega
 | succ m ih =>
  intro i f' h1 h2 H
  by_cases hi:i<n
  ·have c3:(decide (0<=Int.ofNat i)&&decide (Int.ofNat i<=64))=true:=by
    rw [qaZ];exact ⟨qcZ (rgZ i),qcZ (by show (i:Int)<=64;omega)⟩
   have hl:=I5 i s
   have eq:(Int.ofNat (s / 2 ^ i % 2)==1)=Nat.beq (s / 2 ^ i % 2) 1:=by
    rcases Nat.mod_two_eq_zero_or_one (s / 2 ^ i) with h | h<;>rw [h]<;>rfl
   have hx:=Oc i s
   cases hb:Nat.beq (s / 2 ^ i % 2) 1 with
   | false =>
    rw [hb,cond_false] at hx
    obtain ⟨f'',e1,e2⟩:=ih (i+1) f' (by omega) (by omega) (by rw [hx];exact H)
    refine ⟨f'',fun k0=>?_,e2⟩
    rw [hx] at e1
    unfold jQ
    rw [aE,ax,aq,ae (qcZ hi),ae c3,D3 s hs i (by omega),eq,hb,cond_false,ay (by omega)]
    exact e1 k0
   | true =>
    rw [hb,cond_true] at hx
    have len:(ixs (i+1) s).length=(ixs i s).length+1:=by rw [hx,List.length_append];rfl
    obtain ⟨f'',e1,e2⟩:=ih (i+1) (aB (ixs i s).length f' (aG 18 [(.s ((f i 0).str)),(.i .i64 ((f i 1).int)),(.i .i64 ((f i 2).int)),(.s ((f i 3).str)),(.s ((f i 4).str)),(.i .i64 ((f i 5).int)),(.ro false (.pr (.int .i64) (.pr (.int .i64) .nil)) ((f i 6).len) ((f i 6).el)),(.ro false (.pr (.sl (.pr (.int .i64) (.pr (.int .i64) .nil))) .nil) ((f i 7).len) ((f i 7).el)),(.s ((f i 8).str)),(.i .i64 ((f i 9).int)),(.i .i64 ((f i 10).int)),(.i .i64 ((f i 11).int)),(.i .i64 ((f i 12).int)),(.i .i64 ((f i 13).int)),(.i .i64 ((f i 14).int)),(.i .i64 ((f i 15).int)),(.i .i64 ((f i 16).int)),(.i .i64 ((f i 17).int))])) (by omega) (by omega) (fun u hu=>by
     rw [hx,qdZ]
     by_cases q:u<(ixs i s).length
     ·rw [qnZ q,vE q,<- qdZ];exact H u q
     ·have:u=(ixs i s).length:=by omega
      subst this
      rw [qsZ (rkZ _),Nat.sub_self]
      refine ⟨?_,?_,?_,?_,?_⟩<;>(rw [dk _ _ _ _ _ (rkZ _),Nat.sub_self];rfl))
    refine ⟨f'',fun k0=>?_,e2⟩
    rw [len] at e1
    unfold jQ
    rw [aE,ax,aq,ae (qcZ hi),ae c3,D3 s hs i (by omega),eq,hb,cond_true,ae (qcZ hi),ae (lR (by omega)),ay (by omega)]
    exact e1 k0
  ·have:i=n:=by omega
   subst this
   refine ⟨f',fun k0=>?_,H⟩
   unfold jQ
   rw [aE,ai (qeZ hi)]
def Tg (z:cn) (v:Int) (s t i1 i2:Nat):Prop:=∃ X' Y' : Nat->Int,
  (∀ i,i<chK (eQ z.n s t)->(z.gap<=X' i/\z.gap<=Y' i)/\mz (gP z (eQ z.n s t) i) (gT (eQ z.n s t) i) (X' i) (Y' i)/\en z.L z.W 0 (fun _ _=>.any) (X' i) (Y' i) (sX (gP z (eQ z.n s t)) (gT (eQ z.n s t)) i) (sY (gP z (eQ z.n s t)) (gT (eQ z.n s t)) i) z.gap) /\
  (∀ j i,j<chK (eQ z.n s t)->i<chK (eQ z.n s t)->oI (oP (chK (eQ z.n s t)) i2).2 j<oI (oP (chK (eQ z.n s t)) i2).2 i->(oI (oP (chK (eQ z.n s t)) i1).2 j<oI (oP (chK (eQ z.n s t)) i1).2 i->X' j+sX (gP z (eQ z.n s t)) (gT (eQ z.n s t)) j+gG z.gap<=X' i) /\
   (oI (oP (chK (eQ z.n s t)) i1).2 i<oI (oP (chK (eQ z.n s t)) i1).2 j->Y' j+sY (gP z (eQ z.n s t)) (gT (eQ z.n s t)) j+gG z.gap<=Y' i)) /\
  v<=dC z.P z.PF (fun i c=>z.f (cN (chC (eQ z.n s t)) i) c) (chK (eQ z.n s t))
theorem Rf {z:cn} (Z:Fix z) (hD:∀ i j,i<j->j<z.n->(z.f i 0).str≠(z.f j 0).str) (v:Int) {s:Nat} (hs:s<2 ^ z.n) {f' : FF} (hf:∀ u,u<(ixs z.n s).length->oQ (f' u) (z.f ((ixs z.n s).getD u 0))) {t:Nat} (ht:t<2 ^ (ixs z.n s).length)
  {i1 i2:Nat} (h1:i1<(oN (ixs z.n s).length).1) (h2:i2<(oN (ixs z.n s).length).1):∃ k T ok,Cq 100 z.a z.gr z.th z.L z.W z.e (ixs z.n s).length f' (Int.ofNat t) (((oN (ixs z.n s).length).2 i1 0).len) (((oN (ixs z.n s).length).2 i1 0).el) (((oN (ixs z.n s).length).2 i2 0).len) (((oN (ixs z.n s).length).2 i2 0).el) z.gap=some (k,T,ok)/\(ok=true->vT z k T)/\(Tg z v s t i1 i2->ok=true/\v<=vB z k T):=by
 have n4:=Z.n4
 obtain ⟨l4,vd⟩:=Hp z.n (by omega) s hs
 obtain ⟨hv,hk,vd⟩:=vd t ht
 have k4:(ixs z.n s).length<=4:=by omega
 have t16:=Bk k4
 obtain ⟨a1,a2,P⟩:=(tH k4).2.2 i1 h1
 obtain ⟨b1,b2,Q⟩:=(tH k4).2.2 i2 h2
 rw [a1,b1]
 have C:=vJ n4 hv
 have ec:∀ u,u<(ixs z.n s).length->cN (chC (eQ z.n s t)) u=(ixs z.n s).getD u 0:=fun u hu=>by unfold cN;rw [(vd u hu).1];rfl
 have et:∀ u,u<(ixs z.n s).length->gT (eQ z.n s t) u=Int.ofNat (t / 2 ^ u % 2):=fun u hu=>by unfold gT;rw [ec u hu];exact (vd u hu).2
 rw [<- hk] at hf ec et a2 b2 P Q k4 ⊢
 have O:KH (chK (eQ z.n s t)) f' (gP z (eQ z.n s t)) (gT (eQ z.n s t)) (Int.ofNat t):=by
  refine ⟨k4,fun u hu=>Z.part _ ?_,fun u hu=>?_,fun u hu=>?_,fun u hu=>?_⟩
  ·have:=(C.mem u hu).1;unfold cN;omega
  ·have:=hf u hu
   rw [<- ec u hu] at this;exact this
  ·rw [et u hu];exact D3 t (by omega) u (by omega)
  ·rw [et u hu]
   rcases Nat.mod_two_eq_zero_or_one (t / 2 ^ u) with h | h<;>rw [h]
   ·exact .inl rfl
   ·exact .inr rfl
 rcases MZ O P Q a2 b2 z.gap Z.gap z.a z.gr z.e z.th z.L z.W with ⟨R,T,e1,e2,e3⟩ | ⟨e1,e2⟩
 ·refine ⟨_,T,true,e1,fun _=>⟨k4,Re Z hD hv P Q e2 e3⟩,fun ⟨_,_,_,_,q⟩=>⟨rfl,Int.le_trans q (Int.le_of_eq (vV fun u hu=>(e3 u hu).2.id.symm))⟩⟩
 ·exact ⟨_,_,false,e1,fun h=>Bool.noConfusion h,fun ⟨X,Y,x1,x2,_⟩=>(e2 X Y x1 x2).elim⟩
theorem l17 {ρ:Type} {z:cn} (Z:Fix z) (hD:∀ i j,i<j->j<z.n->(z.f i 0).str≠(z.f j 0).str) (v:Int):∀ (m s:Nat) (b:Bool) (k:Nat) (S:FF),2 ^ z.n<m+s->s<=2 ^ z.n->vT z k S ->
  Res (ρ:=ρ) z v (∃ r t i j,s<=r/\r<2 ^ z.n/\t<2 ^ (ixs z.n r).length/\i<(oN (ixs z.n r).length).1/\j<(oN (ixs z.n r).length).1/\Tg z v r t i j) (jm 100 z.P z.PF z.gap z.n z.f z.a z.gr z.th z.L z.W z.e m (Int.ofNat s) b k S) k S:=by
 have n4:=Z.n4
 obtain ⟨p1,p2⟩:=Tc z.n n4
 have p3:=Bk n4
 intro m
 induction m with
 | zero=>intro s b k S h1 h2;omega
 | succ m ih =>
  intro s b k S h1 h2 h3
  by_cases h:s<2 ^ z.n
  ·have l4:(ixs z.n s).length<=4:=Nat.le_trans (I5 z.n s) n4
   have q3:=Bk l4
   obtain ⟨f',e1,hf⟩:=VX (ρ:=ρ) z.n s n4 (by omega) z.f z.P z.PF z.gap z.th z.L z.W z.a z.gr z.e b k S 100 0 (fun _ _=>.any) (by omega) (by omega) (fun u hu=>absurd hu (Nat.not_lt_zero u))
   obtain ⟨o1,o2,_⟩:=tH l4
   have:=Res.both (l16 (ρ:=ρ) Z v (ixs z.n s).length f' (Int.ofNat s) (oN (ixs z.n s).length).1 (oN (ixs z.n s).length).2 o2 l4 (fun t i j=>Tg z v s t i j) z.n z.f (fun t ht i hi j hj=>Rf Z hD v h hf ht hi hj) 100 0 b k S (by omega) (Nat.zero_le _) h3) (fun b k S q=>ih (s+1) b k S (by omega) (by omega) q)
    (g:=∃ r t i j,s<=r/\r<2 ^ z.n/\t<2 ^ (ixs z.n r).length/\i<(oN (ixs z.n r).length).1/\j<(oN (ixs z.n r).length).1/\Tg z v r t i j) fun ⟨r,t,i,j,r1,r2,t1,i1,j1,g⟩=>by
    by_cases e:r=s
    ·subst e;exact .inl ⟨t,i,j,by omega,t1,i1,j1,g⟩
    ·exact .inr ⟨r,t,i,j,by omega,r2,t1,i1,j1,g⟩
   refine Eq.mp (congrArg (fun L=>Res z v _ L k S) (funext fun k0=>?_)) this
   conv=>rhs;unfold jm
   rw [p2,ae rfl,p1,aE,ae (qcZ h),ay (by omega)]
   refine Eq.trans ?_ (e1 _).symm
   rw [o1,aa];rfl
  ·refine Res.stop (b:=b) h3 (fun ⟨r,t,i,j,r1,r2,_⟩=>by omega) fun k0=>?_
   unfold jm
   rw [p2,ae rfl,p1,aE,ai (qeZ h)]
theorem Rk {z:cn} (Z:Fix z) (hD:∀ i j,i<j->j<z.n->(z.f i 0).str≠(z.f j 0).str) (hF:Cr 100 z.a z.gr z.th z.L z.W z.e z.P z.PF=some (z.n,z.f)) {steps:Int} (hst:Co z.n<=steps) (k0:Nat) (S0:FF) (hp:∀ j,j<k0->eh z.n z.f S0 z.L z.W z.gap j) :
  ∃ k S,BV 100 z.a z.gr z.th z.L z.W z.e z.P z.PF z.gap steps=some (z.a,z.gap,k,S,0)/\vT z k S/\dC z.P z.PF S0 k0<=dC z.P z.PF S k:=by
 have n4:=Z.n4
 have zg:=Z.gap
 obtain ⟨b',k',S',run,inv,v0,hit⟩:=l17 (ρ:=Bool × ByteArray × Int × Nat × FF × Int × Bool) Z hD (dC z.P z.PF S0 k0) 100 0 true 0 (fun _ _=>.any) (by have:=Bk n4;omega) (Nat.zero_le _) ⟨by omega,fun j hj=>by omega⟩
 refine ⟨k',S',?_,inv,?_⟩
 ·unfold BV BU
  rw [qeZ (show ¬ z.gap<0 by omega),qeZ (show ¬ z.gap>500 by omega),hF]
  simp only [aa,cond_false,beq_self_eq_true,cond_true]
  rw [ai (qeZ (show ¬ Int.ofNat z.n>4 by show ¬ (z.n:Int)>4;omega)),ax,ae (qcZ (show z.n<5 by omega)),aq,ai (qeZ (show ¬ steps<Co z.n by omega))]
  exact (congrArg (fun x=>ob x _) (run _)).trans rfl
 ·by_cases h:k0=0
  ·subst h;exact v0
  ·refine hit ?_
   have o:=(hp 0 (by omega)).2.2.2.2.2.1
   unfold rH at o
   have hv:=AJ hp
   obtain ⟨X,Y,l,e⟩:=EI Z S0 k0 hp
   obtain ⟨i1,i2,h1,h2,X',Y',x1,x2⟩:=OL Z o.1 o.2.1 hv l
   obtain ⟨d1,d2,d3⟩:=KX z.n (by omega) _ (BR _ _ hv)
   obtain ⟨_,vd⟩:=Hp z.n (by omega) _ d1
   have hk:=(vd _ d2).2.1
   rw [d3] at hk
   refine ⟨Lh (jt z.n z.f S0 k0),Ek (jt z.n z.f S0 k0),i1,i2,Nat.zero_le _,d1,d2,by rw [<- hk];exact h1,by rw [<- hk];exact h2,?_⟩
   unfold Tg
   rw [d3]
   exact ⟨X',Y',x1,x2,Int.le_of_eq e⟩
theorem bests24 (g0:Nat->CV) (hg0:Tk kR1 g0) (a1c0:Int) (h1c0:I64 a1c0):F421 100 g0 a1c0=some true:=by
 unfold F421
 obtain ⟨c,e1,hc⟩:=WK ((g0 6).len) ((g0 6).el) 7 (by omega)
 have e1:He 100 ((g0 6).len) ((g0 6).el) 7=some c:=e1
 rw [e1,aa,OR]
 cases c with
 | false=>rfl
 | true =>
  obtain ⟨hP,h7⟩:=hc rfl
  rw [ai (by rfl)]
  generalize (g0 0).str=a at *
  generalize (g0 1).str=gr at *
  generalize (g0 2).int=th at *
  generalize (g0 3).int=L at *
  generalize (g0 4).int=W at *
  generalize (g0 5).str=e at *
  generalize (g0 6).len=P at *
  generalize (g0 6).el=PF at *
  generalize (g0 7).int=gap at *
  obtain ⟨n,f,hs,hn,hV,hD,_⟩:=En hP (by omega) a gr e th L W
  have hF:=(Em P PF a gr e th L W (by omega)).trans hs
  have f402:∀ f f' : FF,Hc 100 ByteArray.empty 0 0 f ByteArray.empty 0 0 f' = some true:=fun f f'=>by
   unfold Hc
   rw [Hv,qcZ rfl];rfl
  by_cases hg:0<=gap/\gap<=500
  case neg =>
   rw [show vU 100 a gr th L W e P PF gap a1c0=some (ByteArray.empty,0,0,(fun _ _=>.any),9) from ?_,show BV 100 a gr th L W e P PF gap a1c0=some (ByteArray.empty,0,0,(fun _ _=>.any),9) from ?_]
   ·rw [aa,aa,ai (by rfl),ae (by rfl),f402,aa];rfl
   ·unfold BV BU
    by_cases h:gap<0
    ·rw [qcZ h];rfl
    ·rw [qeZ h,qcZ (show gap>500 by omega)];rfl
   ·unfold vU
    rw [eo,aa,ae (by simp only [Bool.not_eq_true',Bool.and_eq_false_iff,decide_eq_false_iff_not];omega)]
  have g420:∀ z,BU 100 a gr th L W e P PF gap a1c0=z->(bif decide (Int.ofNat n>4) then some (true,ByteArray.empty,0,0,(fun _ _=>.any),4,false) else bif inb (Int.ofNat n) 5 then bif decide (a1c0<Co n) then some (true,ByteArray.empty,0,0,(fun _ _=>.any),29,false) else jm 100 P PF gap n f a gr th L W e 100 0 true 0 (fun _ _=>.any) (fun b x y=>some (false,a,gap,x,y,0,b)) else none)=z:=fun z h=>by
   rw [<- h]
   unfold BU
   rw [qeZ (show ¬ gap<0 by omega),qeZ (show ¬ gap>500 by omega),hF]
   rfl
  by_cases h4:n<=4
  case neg =>
   have c4:decide (Int.ofNat n>4)=true:=qcZ (by show (n:Int)>4;omega)
   rw [show vU 100 a gr th L W e P PF gap a1c0=some (ByteArray.empty,0,0,(fun _ _=>.any),4) from ?_,show BV 100 a gr th L W e P PF gap a1c0=some (ByteArray.empty,0,0,(fun _ _=>.any),4) from ?_]
   ·rw [aa,aa,ai (by rfl),ae (by rfl),f402,aa];rfl
   ·unfold BV
    rw [<- g420 _ rfl,c4];rfl
   ·unfold vU
    rw [eo,aa,ai (by simp [hg.1,hg.2]),hs,aa]
    dsimp only
    rw [c4];rfl
  have Z:Fix ⟨a,gr,th,L,W,e,P,PF,gap,n,f⟩:=⟨hg,hP,h4,hV⟩
  have e2:=ON Z hs a1c0
  by_cases hb:a1c0<Co n
  ·rw [show vU 100 a gr th L W e P PF gap a1c0=some (ByteArray.empty,0,0,(fun _ _=>.any),29) from ?_,show BV 100 a gr th L W e P PF gap a1c0=some (ByteArray.empty,0,0,(fun _ _=>.any),29) from ?_]
   ·rw [aa,aa,ai (by rfl),ae (by rfl),f402,aa];rfl
   ·unfold BV
    rw [<- g420 _ rfl,qeZ (show ¬ Int.ofNat n>4 by show ¬ (n:Int)>4;omega),ax,qcZ (show n<5 by omega),qcZ hb];rfl
   ·rw [e2,qcZ hb];rfl
  rw [qeZ hb,cond_false] at e2
  have B:=sL Z (Q:=G5 _) (fun tl k c first second h s hs=>JX Z hD h hs) (s:=(a,gap,0,(fun _ _=>.any),0)) ⟨⟨rfl,rfl⟩,fun j hj=>absurd hj (Nat.not_lt_zero j)⟩
  have U:=sL Z (Q:=OT _) (fun tl k c first second h s hs=>KY Z h hs) (s:=(a,gap,0,(fun _ _=>.any),0)) ⟨rfl,by show 0<=4;omega⟩
  have best:∀ (S:FF) (k:Nat),(∀ j,j<k->eh n f S L W gap j)->dC P PF S k<=(eC ⟨a,gr,th,L,W,e,P,PF,gap,n,f⟩ 0 (a,gap,0,(fun _ _=>.any),0)).2.2.2.2:=by
   intro S k hp
   by_cases hk:k=0
   ·subst hk
    exact sL Z (Q:=fun s=>0<=s.2.2.2.2) (fun tl k c first second h s hs=>Int.le_trans hs (A6 _ tl k c first second s)) (s:=(a,gap,0,(fun _ _=>.any),0)) (Int.le_refl _)
   ·have h0:=(hp 0 (by omega)).2.2.2.2.2.1
    unfold rH at h0
    exact JW Z S k hp h0.1 h0.2.1 _
  obtain ⟨k,S,e3,inv,ge⟩:=Rk Z hD hF (Int.not_lt.1 hb) _ _ B.2
  have e3:BV 100 a gr th L W e P PF gap a1c0=some (a,gap,k,S,0):=e3
  have le:=best S k inv.2
  rw [e2,aa,e3,aa]
  generalize eC ⟨a,gr,th,L,W,e,P,PF,gap,n,f⟩ 0 (a,gap,0,(fun _ _=>.any),0)=b at *
  obtain ⟨b1,b2,b3,b4,b5⟩:=b
  obtain ⟨⟨B1,B2⟩,B3⟩:=B
  obtain ⟨U1,U2⟩:=U
  dsimp only at B1 B2 B3 U1 U2 le ge ⊢
  subst B1 B2
  obtain ⟨w,e4,hw⟩:=MV (n:=n) (f:=f) (by omega) hV (by omega) hs b3 b4 (by omega) b1 b2
  have hw:=hw.2 B3
  subst hw
  have:=inv.1
  rw [ai (by rfl),ai (by rfl),ae (by rw [beq_self_eq_true];rfl),ae (by simp),ae (by rw [qcZ (show Int.ofNat b3<=4 by show (b3:Int)<=4;omega)];rfl),e4,aa,ae (by rfl),Dn hP (by omega),aa,Dn hP (by omega),aa,
   ae (by rw [show dC P PF b4 b3=dC P PF S k by omega];simp),aa]
end Go.Eng.R13
