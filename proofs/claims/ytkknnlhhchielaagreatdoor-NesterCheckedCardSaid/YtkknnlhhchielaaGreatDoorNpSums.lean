/-
 Several texts in one.
-/
import Derived.KernelRfl
import Derived.Test.YtkknnlhhchielaaGreatDoorEngU
import Derived.Test.YtkknnlhhchielaaGreatDoorEngV
import Derived.Test.YtkknnlhhchielaaGreatDoorEngX0
import Derived.Test.YtkknnlhhchielaaGreatDoorNsTurns
import Derived.Test.YtkknnlhhchielaaGreatDoorPlRev
import Derived.Test.YtkknnlhhchielaaGreatDoorPlRev
import Derived.Test.YtkknnlhhchielaaGreatDoorPlRev
import Derived.Test.YtkknnlhhchielaaGreatDoorPlRev
import Derived.Test.YtkknnlhhchielaaGreatDoorPlRev
import Derived.Test.YtkknnlhhchielaaGreatDoorPlRev
import Derived.Test.YtkknnlhhchielaaGreatDoorPlRev
/-
 Bounds of a list of points (out of PlSums).
-/
set_option linter.all false
namespace Go.Eng.R13
open Go Go.RowKit Go.Eng
theorem dm (n:Nat) (f g:Nat->Nat->CV) (j c:Nat) (h:j<n):aC n f g j c=f j c:=by
 unfold aC
 rw [ae (by simpa [Nat.blt_eq] using h)]
theorem cQ (n:Nat) (f g:Nat->Nat->CV) (j c:Nat) (h:n<=j):aC n f g j c=g (j-n) c:=by
 unfold aC
 rw [af]
 cases hq:Nat.blt j n with
 | false=>rfl
 | true=>simp [Nat.blt_eq] at hq;omega
def Col (f:Nat->Nat->CV) (c:Nat) (g:Nat->Nat->CV) (i:Nat):Prop:=∀ j,j<i->(g j 0).int=(f j c).int
theorem Col.snoc {f g:Nat->Nat->CV} {c i:Nat} (h:Col f c g i):Col f c (aC i g (aL 1 [.i .i64 ((f i c).int)])) (i+1):=by
 intro j hj
 by_cases e:j=i
 ·subst e
  rw [cQ _ _ _ _ _ (rmZ j),Nat.sub_self];rfl
 ·rw [dm _ _ _ _ _ (by omega)]
  exact h j (by omega)
theorem WU {ρ:Type} (n:Nat) (f:Nat->Nat->CV) (hn:n<=60) (k:Nat->(Nat->Nat->CV)->(Nat->Nat->CV)->Option ρ):∀ (m i:Nat) (g h:Nat->Nat->CV),n<m+i->i<=n->Col f 0 g i->Col f 1 h i ->
  ∃ g' h',vv 100 n f (Int.ofNat n) m i (Int.ofNat i) g h k=k n g' h'/\Col f 0 g' n/\Col f 1 h' n:=by
 intro m
 induction m with
 | zero=>intro i g h h1 h2;omega
 | succ m ih =>
  intro i g h h1 h2 hg hh
  unfold vv
  rw [aF,ay,ao]
  by_cases hlt:i<n
  ·rw [ae (qcZ hlt),ae (qcZ hlt),ax (by omega),ae (by rw [Nat.ble_eq];omega),ae (by rw [Nat.ble_eq];omega)]
   exact ih (i+1) _ _ (by omega) (by omega) hg.snoc hh.snoc
  ·rw [af (qeZ hlt)]
   have:i=n:=by omega
   subst this
   exact ⟨g,h,rfl,hg,hh⟩
def Ext (z:Int) (g:Nat->Nat->CV) (i:Nat) (a b:Int):Prop :=
 (a<=z/\z<=b/\∀ j,j<i->a<=(g j 0).int/\(g j 0).int<=b)/\(a=z\/∃ j,j<i/\(g j 0).int=a)/\(b=z\/∃ j,j<i/\(g j 0).int=b)
theorem YV {ρ:Type} (n:Nat) (z:Int) (g:Nat->Nat->CV) (hn:n<=60) (k:Int->Int->Option ρ):∀ (m i:Nat) (a b:Int),n<m+i->i<=n->Ext z g i a b->∃ a' b',vp 100 n g (Int.ofNat n) m a b (Int.ofNat i) k=k a' b'/\Ext z g n a' b':=by
 intro m
 induction m with
 | zero=>intro i a b h1 h2;omega
 | succ m ih =>
  intro i a b h1 h2 hE
  unfold vp
  rw [aF,ay,ao]
  by_cases hlt:i<n
  ·rw [ae (qcZ hlt),ae (qcZ hlt),ax (by omega)]
   refine ih (i+1) _ _ (by omega) (by omega) ?_
   obtain ⟨⟨e1,e2,e3⟩,e4,e5⟩:=hE
   refine ⟨⟨by split<;>omega,by split<;>omega,fun j hj=>?_⟩,?_,?_⟩
   ·by_cases e:j=i
    ·rw [e];constructor<;>split<;>omega
    ·have:=e3 j (by omega)
     constructor<;>split<;>omega
   ·by_cases e:(g i 0).int<a
    ·rw [if_pos e];exact .inr ⟨i,by omega,rfl⟩
    ·rw [if_neg e]
     rcases e4 with h | ⟨j,h,h'⟩
     ·exact .inl h
     ·exact .inr ⟨j,by omega,h'⟩
   ·by_cases e:(g i 0).int>b
    ·rw [if_pos e];exact .inr ⟨i,by omega,rfl⟩
    ·rw [if_neg e]
     rcases e5 with h | ⟨j,h,h'⟩
     ·exact .inl h
     ·exact .inr ⟨j,by omega,h'⟩
  ·rw [af (qeZ hlt)]
   have:i=n:=by omega
   subst this
   exact ⟨a,b,rfl,hE⟩
theorem IM (n:Nat) (z:Int) (g:Nat->Nat->CV) (hn:n<=60):∃ a b,F72 100 z n g=some (a,b)/\Ext z g n a b:=by
 unfold F72
 exact YV n z g hn _ 100 0 z z (by omega) (by omega) ⟨⟨Int.le_refl _,Int.le_refl _,fun j hj=>by omega⟩,.inl rfl,.inl rfl⟩
theorem Bds.unique {f:Nat->Nat->CV} {n:Nat} {a b c d a' b' c' d' : Int} (hn:0<n) (h:Bds f n a b c d) (h' : Bds f n a' b' c' d'):a=a'/\b=b'/\c=c'/\d=d':=by
 obtain ⟨h1,h2⟩:=h
 obtain ⟨⟨j1,k1,e1⟩,⟨j2,k2,e2⟩,⟨j3,k3,e3⟩,⟨j4,k4,e4⟩⟩:=h2 hn
 obtain ⟨g1,g2⟩:=h'
 obtain ⟨⟨i1,l1,m1⟩,⟨i2,l2,m2⟩,⟨i3,l3,m3⟩,⟨i4,l4,m4⟩⟩:=g2 hn
 have p1:=h1 i1 l1
 have p2:=h1 i2 l2
 have p3:=h1 i3 l3
 have p4:=h1 i4 l4
 have q1:=g1 j1 k1
 have q2:=g1 j2 k2
 have q3:=g1 j3 k3
 have q4:=g1 j4 k4
 exact ⟨by omega,by omega,by omega,by omega⟩
theorem FG (n:Nat) (f:Nat->Nat->CV) (hn:n<=60):∃ p q r s,F46 100 n f=some (p,q,r,s)/\(0<n->Bds f n p q r s)/\(n=0->p=0/\q=0/\r=0/\s=0):=by
 unfold F46
 by_cases h0:n=0
 ·subst h0
  exact ⟨0,0,0,0,rfl,fun h=>by omega,fun _=>⟨rfl,rfl,rfl,rfl⟩⟩
 ·rw [af (by simp;omega)]
  obtain ⟨g,h,e1,hg,hh⟩:=WU n f hn (fun x16 x17 x18=>(bif (inb 0 x16) then (ob (F72 100 ((x17 0 0).int) x16 x17) fun x19=>(bif (inb 0 x16) then (ob (F72 100 ((x18 0 0).int) x16 x18) fun x20=>(some (x19.1,x20.1,x19.2,x20.2))) else none)) else none)) 100 0 (fun _ _=>.any) (fun _ _=>.any) (by omega) (by omega) (fun j hj=>by omega) (fun j hj=>by omega)
  obtain ⟨a,b,e2,E2⟩:=IM n ((g 0 0).int) g hn
  obtain ⟨c,d,e3,E3⟩:=IM n ((h 0 0).int) h hn
  refine ⟨a,c,b,d,e1.trans ?_,fun _=>?_,fun h=>absurd h h0⟩
  ·rw [ae (dk (by omega) (by omega)),e2,aa,ae (dk (by omega) (by omega)),e3,aa]
  ·obtain ⟨⟨_,_,x1⟩,x2,x3⟩:=E2
   obtain ⟨⟨_,_,y1⟩,y2,y3⟩:=E3
   have hn0:0<n:=by omega
   refine ⟨fun j hj=>?_,fun _=>⟨?_,?_,?_,?_⟩⟩
   ·have p:=x1 j hj
    have q:=y1 j hj
    rw [hg j hj] at p
    rw [hh j hj] at q
    exact ⟨p.1,q.1,p.2,q.2⟩
   ·rcases x2 with h | ⟨j,hj,h⟩
    ·exact ⟨0,hn0,by rw [h,hg 0 hn0]⟩
    ·exact ⟨j,hj,by rw [<- hg j hj,h]⟩
   ·rcases y2 with h | ⟨j,hj,h⟩
    ·exact ⟨0,hn0,by rw [h,hh 0 hn0]⟩
    ·exact ⟨j,hj,by rw [<- hh j hj,h]⟩
   ·rcases x3 with h | ⟨j,hj,h⟩
    ·exact ⟨0,hn0,by rw [h,hg 0 hn0]⟩
    ·exact ⟨j,hj,by rw [<- hg j hj,h]⟩
   ·rcases y3 with h | ⟨j,hj,h⟩
    ·exact ⟨0,hn0,by rw [h,hh 0 hn0]⟩
    ·exact ⟨j,hj,by rw [<- hh j hj,h]⟩
theorem Dd (n1:Nat) (f1:Nat->Nat->CV) (n2:Nat) (f2:Nat->Nat->CV) (hn:n1<=40):∃ p,F20 100 n1 f1 n2 f2=some p/\F21 100 n1 f1 n2 f2=some p:=by
 obtain ⟨p,q,r,s,h1,h2,h3⟩:=FG n1 f1 (by omega)
 have e20:F20 100 n1 f1 n2 f2=some (p,q,r,s):=by
  unfold F20
  rw [h1,aa]
 by_cases h0:n1=0
 ·obtain ⟨rfl,rfl,rfl,rfl⟩:=h3 h0
  subst h0
  exact ⟨_,e20,rfl⟩
 ·obtain ⟨p',q',r',s',h4,h5⟩:=BT n1 n2 f1 f2 hn
  obtain ⟨rfl,rfl,rfl,rfl⟩:=Bds.unique (by omega) (h2 (by omega)) (h5 (by omega))
  exact ⟨_,e20,h4⟩
theorem dQ (u:Nat) (n a b:Int):eh u n a b=some (decide (a<=n)&&decide (n<=b)):=by
 unfold eh
 by_cases h:a<=n
 ·rw [ae (by simpa using h),qcZ h,Bool.true_and]
 ·rw [af (by simpa using h),qeZ h,Bool.false_and]
theorem tO (u:Nat) (x y:Int) (c:Int) (hc:0<=c/\c<=9223372036854775807):tv u x y c=some (decide (-c<=x/\x<=c/\-c<=y/\y<=c)):=by
 unfold tv
 rw [show w64 (0-c) = -c from by rw [Int.zero_sub];exact aA (by omega) (by omega)]
 by_cases h1:x>=-c
 ·rw [ae (by simpa using h1)]
  by_cases h2:x<=c
  ·rw [ae (by simpa using h2)]
   by_cases h3:y>=-c
   ·rw [ae (by simpa using h3)]
    refine congrArg some ?_
    by_cases h4:y<=c
    ·rw [qcZ h4,qcZ ⟨h1,h2,h3,h4⟩]
    ·rw [qeZ h4,qeZ (by omega)]
   ·rw [af (by simpa using h3),qeZ (by omega)]
  ·rw [af (by simpa using h2),qeZ (by omega)]
 ·rw [af (by simpa using h1),qeZ (by omega)]
def Nr4 (a b c d:Int):Prop:=(-1099511627776<=a/\a<=1099511627776)/\(-1099511627776<=b/\b<=1099511627776)/\(-1099511627776<=c/\c<=1099511627776)/\(-1099511627776<=d/\d<=1099511627776)
instance (a b c d:Int):Decidable (Nr4 a b c d):=by unfold Nr4;infer_instance
theorem Yl {ρ:Type} (t a b c d:Int) (k0 k1:Option ρ) (u m:Nat):eL u t a b c d (m+5) 0 k0 k1=if Nr4 a b c d then k1 else k0:=by
 have e:∀ (z:Int) (x y:Option ρ),(ob (eh u z (-1099511627776) 1099511627776) fun q=>bif !q then x else y)=if (-1099511627776<=z/\z<=1099511627776) then y else x:=by
  intro z x y
  rw [dQ,aa]
  by_cases h:(-1099511627776<=z/\z<=1099511627776)
  ·rw [if_pos h,af (by simp [h.1,h.2])]
  ·rw [if_neg h,ae (by simp only [Bool.not_eq_true',Bool.and_eq_false_iff,decide_eq_false_iff_not];omega)]
 have w1:w64 (0+1)=1:=by decide
 have w2:w64 (1+1)=2:=by decide
 have w3:w64 (2+1)=3:=by decide
 have w4:w64 (3+1)=4:=by decide
 unfold eL
 rw [ae (by decide),ae (by decide),w1,e]
 unfold eL
 rw [ae (by decide),af (by decide),ae (by decide),w2,e]
 unfold eL
 rw [ae (by decide),af (by decide),af (by decide),ae (by decide),w3,e]
 unfold eL
 rw [ae (by decide),af (by decide),af (by decide),af (by decide),ae (by decide),w4,e]
 unfold eL
 rw [af (by decide)]
 split
 ·split
  ·split
   ·split
    ·rename_i h1 h2 h3 h4;rw [if_pos (show Nr4 a b c d from ⟨h1,h2,h3,h4⟩)]
    ·rename_i h1;rw [if_neg (fun h:Nr4 a b c d=>h1 h.2.2.2)]
   ·rename_i h1;rw [if_neg (fun h:Nr4 a b c d=>h1 h.2.2.1)]
  ·rename_i h1;rw [if_neg (fun h:Nr4 a b c d=>h1 h.2.1)]
 ·rename_i h1;rw [if_neg (fun h:Nr4 a b c d=>h1 h.1)]
def szB (t a b c d:Int):Int × Int :=
 if Nr4 a b c d then (if Int.tmod t 2=0 then (c-a,d-b) else (d-b,c-a)) else (0,0)
theorem AQ (x:Nat->CV) (t:Int) (hn:(x 6).len<=40):∃ p:Int × Int × Int × Int,F20 100 ((x 6).len) ((x 6).el) ((x 7).len) ((x 7).el)=some p /\
  lO 100 x t=some (szB t p.1 p.2.1 p.2.2.1 p.2.2.2):=by
 obtain ⟨p,h1,h2⟩:=Dd ((x 6).len) ((x 6).el) ((x 7).len) ((x 7).el) hn
 refine ⟨p,h1,?_⟩
 unfold lO szB
 rw [h1,aa,Yl _ _ _ _ _ _ _ 100 95]
 by_cases h:Nr4 p.1 p.2.1 p.2.2.1 p.2.2.2
 ·obtain ⟨q1,q2,q3,q4⟩:=id h
  rw [if_pos h,if_pos h,aA (by omega) (by omega),aA (by omega) (by omega)]
  by_cases ht:Int.tmod t 2=0
  ·rw [if_pos ht,af (by simp [ht])]
  ·rw [if_neg ht,ae (by simp [ht])]
 ·rw [if_neg h,if_neg h]
theorem Jr (x:Nat->CV) (t:Int) (hn:(x 6).len<=40):∃ p,lO 100 x t=some p/\Cq 100 x t=some p:=by
 obtain ⟨p,h1,h2⟩:=Dd ((x 6).len) ((x 6).el) ((x 7).len) ((x 7).el) hn
 obtain ⟨p',h1',h3⟩:=AQ x t hn
 cases h1.symm.trans h1'
 refine ⟨_,h3,?_⟩
 unfold Cq szB
 rw [h2,aa,tO _ _ _ _ (by omega),aa]
 by_cases h:Nr4 p.1 p.2.1 p.2.2.1 p.2.2.2
 ·obtain ⟨q1,q2,q3,q4⟩:=id h
  rw [ae (by simp;omega),tO _ _ _ _ (by omega),aa,af (by simp;omega),if_pos h,aA (by omega) (by omega),aA (by omega) (by omega)]
  by_cases ht:Int.tmod t 2=0
  ·rw [if_pos ht,af (by simp [ht])]
  ·rw [if_neg ht,ae (by simp [ht])]
 ·rw [if_neg h]
  by_cases h5:(-1099511627776<=p.1/\p.1<=1099511627776/\-1099511627776<=p.2.1/\p.2.1<=1099511627776)
  ·rw [ae (by simp;omega),tO _ _ _ _ (by omega),aa,ae (by unfold Nr4 at h;simp;omega)]
  ·rw [af (by simp;omega)]
abbrev bx (r:FF) (j c:Nat):Int:=(r j c).int
def Apt (lx ly hx hy x y l w g:Int):Prop:=¬ (x<hx+g/\lx<x+l+g/\y<hy+g/\ly<y+w+g)
def rR (len wid x y l w gap:Int):Prop:=(0<=len/\len<=32768)/\(0<=wid/\wid<=32768)/\(0<=gap/\gap<=500)/\(1<=l/\l<=32768)/\(1<=w/\w<=32768)/\(-32768<=x/\x<=32768)/\(-32768<=y/\y<=32768)
def FIn (len wid x y l w gap:Int):Prop:=gap<=x/\gap<=y/\x+l<=len-gap/\y+w<=wid-gap
abbrev gG (gap:Int):Int:=if 1>gap then 1 else gap
def NrJ (r:FF) (j:Nat):Prop:=Nr4 (bx r j 0) (bx r j 1) (bx r j 2) (bx r j 3)
def ot (r:FF) (x y l w g:Int) (j:Nat):Prop:=Apt (bx r j 0) (bx r j 1) (bx r j 2) (bx r j 3) x y l w g
def lN (len wid:Int) (n:Nat) (r:FF) (x y l w gap:Int):Prop :=
 rR len wid x y l w gap/\(∀ j,j<n->NrJ r j)/\FIn len wid x y l w gap/\∀ j,j<n->ot r x y l w (gG gap) j
theorem Yk {ρ:Type} (len wid:Int) (n:Nat) (r:FF) (l w gap N i x y a b c d:Int) (k0 k1:Option ρ) (u m:Nat):eK u len wid n r l w gap N i a b c d x y (m+5) 0 k0 k1=if Nr4 a b c d then k1 else k0:=by
 have e:∀ (z:Int) (x y:Option ρ),(ob (eh u z (-1099511627776) 1099511627776) fun q=>bif !q then x else y)=if (-1099511627776<=z/\z<=1099511627776) then y else x:=by
  intro z x y
  rw [dQ,aa]
  by_cases h:(-1099511627776<=z/\z<=1099511627776)
  ·rw [if_pos h,af (by simp [h.1,h.2])]
  ·rw [if_neg h,ae (by simp only [Bool.not_eq_true',Bool.and_eq_false_iff,decide_eq_false_iff_not];omega)]
 have w1:w64 (0+1)=1:=by decide
 have w2:w64 (1+1)=2:=by decide
 have w3:w64 (2+1)=3:=by decide
 have w4:w64 (3+1)=4:=by decide
 unfold eK
 rw [ae (by decide),ae (by decide),w1,e]
 unfold eK
 rw [ae (by decide),af (by decide),ae (by decide),w2,e]
 unfold eK
 rw [ae (by decide),af (by decide),af (by decide),ae (by decide),w3,e]
 unfold eK
 rw [ae (by decide),af (by decide),af (by decide),af (by decide),ae (by decide),w4,e]
 unfold eK
 rw [af (by decide)]
 split
 ·split
  ·split
   ·split
    ·rename_i h1 h2 h3 h4;rw [if_pos (show Nr4 a b c d from ⟨h1,h2,h3,h4⟩)]
    ·rename_i h1;rw [if_neg (fun h:Nr4 a b c d=>h1 h.2.2.2)]
   ·rename_i h1;rw [if_neg (fun h:Nr4 a b c d=>h1 h.2.2.1)]
  ·rename_i h1;rw [if_neg (fun h:Nr4 a b c d=>h1 h.2.1)]
 ·rename_i h1;rw [if_neg (fun h:Nr4 a b c d=>h1 h.1)]
theorem Wf {ρ:Type} (len wid:Int) (n:Nat) (r:FF) (l w gap x y:Int) (k0 k1:Option ρ) (hn:n<=60):∀ (m i:Nat),n<m+i->i<=n ->
  (mz 100 len wid n r l w gap (Int.ofNat n) x y m (Int.ofNat i) k0 k1=k1/\∀ j,i<=j->j<n->NrJ r j)\/(mz 100 len wid n r l w gap (Int.ofNat n) x y m (Int.ofNat i) k0 k1=k0/\∃ j,j<n/\¬ NrJ r j):=by
 intro m
 induction m with
 | zero=>intro i h1 h2;omega
 | succ m ih =>
  intro i h1 h2
  unfold mz
  rw [aF,ay,ao]
  by_cases h:i<n
  ·rw [ae (qcZ h),ae (qcZ h),Yk _ _ _ _ _ _ _ _ _ _ _ _ _ _ _ _ _ 100 95,ax (by omega)]
   by_cases hq:Nr4 ((r i 0).int) ((r i 1).int) ((r i 2).int) ((r i 3).int)
   ·rw [if_pos hq]
    rcases ih (i+1) (by omega) (by omega) with ⟨e,hh⟩ | h3
    ·refine .inl ⟨e,fun j h5 h6=>?_⟩
     by_cases hj:j=i
     ·subst hj;exact hq
     ·exact hh j (by omega) h6
    ·exact .inr h3
   ·rw [if_neg hq];exact .inr ⟨rfl,i,h,hq⟩
  ·rw [af (qeZ h)];exact .inl ⟨rfl,fun j h5 h6=>by omega⟩
theorem W0 {ρ:Type} (n:Nat) (r:FF) (l w g x y:Int) (k0 k1:Option ρ) (hn:n<=60) (hN:∀ j,j<n->NrJ r j) (hg:1<=g/\g<=500) (hl:1<=l/\l<=32768) (hw:1<=w/\w<=32768) (hx : -32768<=x/\x<=32768) (hy : -32768<=y/\y<=32768):∀ (m i:Nat),n<m+i->i<=n ->
  (eC 100 l w g n r (Int.ofNat n) x y m (Int.ofNat i) k0 k1=k1/\∀ j,i<=j->j<n->ot r x y l w g j)\/(eC 100 l w g n r (Int.ofNat n) x y m (Int.ofNat i) k0 k1=k0/\∃ j,j<n/\¬ ot r x y l w g j):=by
 intro m
 induction m with
 | zero=>intro i h1 h2;omega
 | succ m ih =>
  intro i h1 h2
  unfold eC
  rw [aF,ay,ao]
  by_cases h:i<n
  ·obtain ⟨q1,q2,q3,q4⟩:=hN i h
   simp only [bx] at q1 q2 q3 q4
   rw [ae (qcZ h),ae (qcZ h),ax (by omega),aA (n:=(r i 2).int+g) (by omega) (by omega),aA (n:=(r i 3).int+g) (by omega) (by omega),aA (n:=x+l) (by omega) (by omega),aA (n:=y+w) (by omega) (by omega),aA (n:=x+l+g) (by omega) (by omega),aA (n:=y+w+g) (by omega) (by omega)]
   have go:ot r x y l w g i->(eC 100 l w g n r (Int.ofNat n) x y m (Int.ofNat (i+1)) k0 k1=k1/\∀ j,i<=j->j<n->ot r x y l w g j)\/(eC 100 l w g n r (Int.ofNat n) x y m (Int.ofNat (i+1)) k0 k1=k0/\∃ j,j<n/\¬ ot r x y l w g j):=by
    intro hq
    rcases ih (i+1) (by omega) (by omega) with ⟨e,hh⟩ | h3
    ·refine .inl ⟨e,fun j h5 h6=>?_⟩
     by_cases hj:j=i
     ·subst hj;exact hq
     ·exact hh j (by omega) h6
    ·exact .inr h3
   by_cases c1:x<(r i 2).int+g
   ·rw [ae (by simpa using c1)]
    by_cases c2:x+l+g>(r i 0).int
    ·rw [ae (by simpa using c2)]
     by_cases c3:y<(r i 3).int+g
     ·rw [ae (by simpa using c3)]
      by_cases c4:y+w+g>(r i 1).int
      ·rw [ae (by simpa using c4)];exact .inr ⟨rfl,i,h,fun hq=>hq ⟨c1,c2,c3,c4⟩⟩
      ·rw [af (by simpa using c4)];exact go fun hq=>c4 hq.2.2.2
     ·rw [af (by simpa using c3)];exact go fun hq=>c3 hq.2.2.1
    ·rw [af (by simpa using c2)];exact go fun hq=>c2 hq.2.1
   ·rw [af (by simpa using c1)];exact go fun hq=>c1 hq.1
  ·rw [af (qeZ h)];exact .inl ⟨rfl,fun j h5 h6=>by omega⟩
theorem bi {ρ:Type} (u:Nat) (z a b:Int) (x y:Option ρ):(ob (eh u z a b) fun q=>bif (!q)==false then x else y)=if (a<=z/\z<=b) then x else y:=by
 have e:(decide (a<=z)&&decide (z<=b))=decide (a<=z/\z<=b):=by simp
 rw [dQ,aa,e]
 by_cases h:(a<=z/\z<=b)
 ·rw [if_pos h,qcZ h];rfl
 ·rw [if_neg h,qeZ h];rfl
theorem J3 (len wid:Int) (n:Nat) (r:FF) (x y l w gap:Int) (hn:n<=60) (hL:rR len wid x y l w gap) (hN:∀ j,j<n->NrJ r j):∃ b,(bif ((decide (x<gap))==false) then (bif ((decide (y<gap))==false) then (bif ((decide ((w64 (x+l))>(w64 (len-gap))))==false) then (bif (decide ((w64 (y+w))>(w64 (wid-gap)))) then (some false) else (eC 100 l w (if 1>gap then 1 else gap) n r (Int.ofNat n) x y 100 0 (some false) (some true))) else (some false)) else (some false)) else (some false))=some b/\(b=true↔FIn len wid x y l w gap/\∀ j,j<n->ot r x y l w (gG gap) j):=by
 obtain ⟨c1,c2,c3,c4,c5,c6,c7⟩:=hL
 have hg:1<=gG gap/\gG gap<=500:=by unfold gG;split<;>omega
 rw [aA (n:=x+l) (by omega) (by omega),aA (n:=y+w) (by omega) (by omega),aA (n:=len-gap) (by omega) (by omega),aA (n:=wid-gap) (by omega) (by omega)]
 have no:∀ (P Q:Prop),¬ P->∃ b,some false=some b/\(b=true↔P/\Q):=fun P Q h=>⟨false,rfl,by simp only [Bool.false_eq_true,false_iff];exact fun q=>h q.1⟩
 by_cases d1:x<gap
 ·rw [qcZ d1];exact no _ _ fun h=>by have:=h.1;omega
 rw [qeZ d1,ae (by rfl)]
 by_cases d2:y<gap
 ·rw [qcZ d2];exact no _ _ fun h=>by have:=h.2.1;omega
 rw [qeZ d2,ae (by rfl)]
 by_cases d3:x+l>len-gap
 ·rw [qcZ d3];exact no _ _ fun h=>by have:=h.2.2.1;omega
 rw [qeZ d3,ae (by rfl)]
 by_cases d4:y+w>wid-gap
 ·rw [ae (qcZ d4)];exact no _ _ fun h=>by have:=h.2.2.2;omega
 rw [af (qeZ d4)]
 rcases W0 n r l w (gG gap) x y (some false) (some true) hn hN hg c4 c5 c6 c7 100 0 (by omega) (by omega) with ⟨e,hA⟩ | ⟨e,j,hj,hq⟩
 ·exact ⟨true,e,by simp only [true_iff];exact ⟨⟨by omega,by omega,by omega,by omega⟩,fun j hj=>hA j (by omega) hj⟩⟩
 ·exact ⟨false,e,by simp only [Bool.false_eq_true,false_iff];exact fun q=>hq (q.2 j hj)⟩
theorem Fo (len wid:Int) (n:Nat) (r:FF) (x y l w gap:Int) (hn:n<=60):∃ b,Ej 100 len wid n r x y l w gap=some b/\(b=true↔lN len wid n r x y l w gap):=by
 have no:∀ (P Q:Prop),¬ P->∃ b,some false=some b/\(b=true↔P/\Q):=fun P Q h=>⟨false,rfl,by simp only [Bool.false_eq_true,false_iff];exact fun q=>h q.1⟩
 unfold Ej lN
 rw [bi]
 by_cases c1:0<=len/\len<=32768
 case neg=>rw [if_neg c1];exact no _ _ fun h=>c1 h.1
 rw [if_pos c1,bi]
 by_cases c2:0<=wid/\wid<=32768
 case neg=>rw [if_neg c2];exact no _ _ fun h=>c2 h.2.1
 rw [if_pos c2,bi]
 by_cases c3:0<=gap/\gap<=500
 case neg=>rw [if_neg c3];exact no _ _ fun h=>c3 h.2.2.1
 rw [if_pos c3,bi]
 by_cases c4:1<=l/\l<=32768
 case neg=>rw [if_neg c4];exact no _ _ fun h=>c4 h.2.2.2.1
 rw [if_pos c4,bi]
 by_cases c5:1<=w/\w<=32768
 case neg=>rw [if_neg c5];exact no _ _ fun h=>c5 h.2.2.2.2.1
 rw [if_pos c5,bi]
 by_cases c6 : -32768<=x/\x<=32768
 case neg=>rw [if_neg c6];exact no _ _ fun h=>c6 h.2.2.2.2.2.1
 rw [if_pos c6,dQ,aa]
 by_cases c7 : -32768<=y/\y<=32768
 case neg=>rw [ae (by simp only [Bool.not_eq_true',Bool.and_eq_false_iff,decide_eq_false_iff_not];omega)];exact no _ _ fun h=>c7 h.2.2.2.2.2.2
 rw [af (by simp [c7.1,c7.2])]
 have hL:rR len wid x y l w gap:=⟨c1,c2,c3,c4,c5,c6,c7⟩
 rcases Wf len wid n r l w gap x y (some false) (bif ((decide (x<gap))==false) then (bif ((decide (y<gap))==false) then (bif ((decide ((w64 (x+l))>(w64 (len-gap))))==false) then (bif (decide ((w64 (y+w))>(w64 (wid-gap)))) then (some false) else (eC 100 l w (if 1>gap then 1 else gap) n r (Int.ofNat n) x y 100 0 (some false) (some true))) else (some false)) else (some false)) else (some false)) hn 100 0 (by omega) (by omega) with ⟨e,hN⟩ | ⟨e,j,hj,hq⟩
 ·obtain ⟨b,e2,hb⟩:=J3 len wid n r x y l w gap hn hL fun j hj=>hN j (by omega) hj
  exact ⟨b,e.trans e2,hb.trans ⟨fun h=>⟨hL,fun j hj=>hN j (by omega) hj,h.1,h.2⟩,fun h=>⟨h.2.2.1,h.2.2.2⟩⟩⟩
 ·exact ⟨_,e,by simp only [Bool.false_eq_true,false_iff];exact fun h=>hq (h.2.1 j hj)⟩
theorem Ym {ρ:Type} (u:Nat) (a b c:Int) (hc:0<=c/\c<=9223372036854775807) (x y:Option ρ):(ob (tv u a b c) fun q=>bif (!q)==false then x else y)=if (-c<=a/\a<=c/\-c<=b/\b<=c) then x else y:=by
 rw [tO u a b c hc,aa]
 by_cases h:(-c<=a/\a<=c/\-c<=b/\b<=c)
 ·rw [if_pos h,qcZ h];rfl
 ·rw [if_neg h,qeZ h];rfl
theorem DX {ρ:Type} (u:Nat) (a b c:Int) (hc:0<=c/\c<=9223372036854775807) (x y:Option ρ):(ob (tv u a b c) fun q=>bif !q then x else y)=if (-c<=a/\a<=c/\-c<=b/\b<=c) then y else x:=by
 rw [tO u a b c hc,aa]
 by_cases h:(-c<=a/\a<=c/\-c<=b/\b<=c)
 ·rw [if_pos h,qcZ h];rfl
 ·rw [if_neg h,qeZ h];rfl
theorem WZ {ρ:Type} (n:Nat) (r:FF) (l w g x y:Int) (k0 k1:Option ρ) (hn:n<=60) (hg:1<=g/\g<=500) (hl:1<=l/\l<=32768) (hw:1<=w/\w<=32768) (hx : -32768<=x/\x<=32768) (hy : -32768<=y/\y<=32768):∀ (m i:Nat),n<m+i->i<=n ->
  (jb 100 n r l w g x y m (Int.ofNat i) k0 k1=k1/\∀ j,i<=j->j<n->NrJ r j/\ot r x y l w g j)\/(jb 100 n r l w g x y m (Int.ofNat i) k0 k1=k0/\∃ j,j<n/\¬ (NrJ r j/\ot r x y l w g j)):=by
 intro m
 induction m with
 | zero=>intro i h1 h2;omega
 | succ m ih =>
  intro i h1 h2
  unfold jb
  rw [aF,ay,ao]
  by_cases h:i<n
  ·rw [ae (qcZ h),ae (qcZ h),Ym _ _ _ _ (by omega),DX _ _ _ _ (by omega)]
   by_cases a1:(-1099511627776<=(r i 0).int/\(r i 0).int<=1099511627776/\-1099511627776<=(r i 1).int/\(r i 1).int<=1099511627776)
   case neg=>rw [if_neg a1];exact .inr ⟨rfl,i,h,fun q=>a1 ⟨q.1.1.1,q.1.1.2,q.1.2.1.1,q.1.2.1.2⟩⟩
   by_cases a2:(-1099511627776<=(r i 2).int/\(r i 2).int<=1099511627776/\-1099511627776<=(r i 3).int/\(r i 3).int<=1099511627776)
   case neg=>rw [if_pos a1,if_neg a2];exact .inr ⟨rfl,i,h,fun q=>a2 ⟨q.1.2.2.1.1,q.1.2.2.1.2,q.1.2.2.2.1,q.1.2.2.2.2⟩⟩
   have hq:NrJ r i:=⟨⟨a1.1,a1.2.1⟩,⟨a1.2.2.1,a1.2.2.2⟩,⟨a2.1,a2.2.1⟩,⟨a2.2.2.1,a2.2.2.2⟩⟩
   rw [if_pos a1,if_pos a2,ax (by omega),aA (n:=(r i 2).int+g) (by omega) (by omega),aA (n:=(r i 3).int+g) (by omega) (by omega),aA (n:=x+l) (by omega) (by omega),aA (n:=y+w) (by omega) (by omega),aA (n:=x+l+g) (by omega) (by omega),aA (n:=y+w+g) (by omega) (by omega)]
   have go:ot r x y l w g i->(jb 100 n r l w g x y m (Int.ofNat (i+1)) k0 k1=k1/\∀ j,i<=j->j<n->NrJ r j/\ot r x y l w g j)\/(jb 100 n r l w g x y m (Int.ofNat (i+1)) k0 k1=k0/\∃ j,j<n/\¬ (NrJ r j/\ot r x y l w g j)):=by
    intro hq2
    rcases ih (i+1) (by omega) (by omega) with ⟨e,hh⟩ | h3
    ·refine .inl ⟨e,fun j h5 h6=>?_⟩
     by_cases hj:j=i
     ·subst hj;exact ⟨hq,hq2⟩
     ·exact hh j (by omega) h6
    ·exact .inr h3
   by_cases c1:x<(r i 2).int+g
   ·rw [ae (by simpa using c1)]
    by_cases c2:x+l+g>(r i 0).int
    ·rw [ae (by simpa using c2)]
     by_cases c3:y<(r i 3).int+g
     ·rw [ae (by simpa using c3)]
      by_cases c4:y+w+g>(r i 1).int
      ·rw [ae (by simpa using c4)];exact .inr ⟨rfl,i,h,fun hq=>hq.2 ⟨c1,c2,c3,c4⟩⟩
      ·rw [af (by simpa using c4)];exact go fun hq=>c4 hq.2.2.2
     ·rw [af (by simpa using c3)];exact go fun hq=>c3 hq.2.2.1
    ·rw [af (by simpa using c2)];exact go fun hq=>c2 hq.2.1
   ·rw [af (by simpa using c1)];exact go fun hq=>c1 hq.1
  ·rw [af (qeZ h)];exact .inl ⟨rfl,fun j h5 h6=>by omega⟩
theorem bd {ρ:Type} (P:Prop) [Decidable P] (x y:ρ):(bif decide P==false then x else y)=if P then y else x:=by
 by_cases h:P
 ·rw [qcZ h,if_pos h];rfl
 ·rw [qeZ h,if_neg h];rfl
theorem Od (len wid:Int) (n:Nat) (r:FF) (x y l w gap:Int) (hn:n<=60):∃ b,Eh 100 len wid n r x y l w gap=some b/\(b=true↔lN len wid n r x y l w gap):=by
 have no:∀ (P Q:Prop),¬ P->∃ b,some false=some b/\(b=true↔P/\Q):=fun P Q h=>⟨false,rfl,by simp only [Bool.false_eq_true,false_iff];exact fun q=>h q.1⟩
 unfold Eh lN
 rw [bd,bd,bd,bd,bd]
 by_cases hL:rR len wid x y l w gap
 case neg =>
  by_cases d1:(if gap<(if wid<len then wid else len) then gap else (if wid<len then wid else len))<0
  ·rw [if_pos d1];exact no _ _ hL
  rw [if_neg d1]
  by_cases d2:(if wid>len then wid else len)>32768
  ·rw [if_pos d2];exact no _ _ hL
  rw [if_neg d2]
  by_cases d3:gap>500
  ·rw [if_pos d3];exact no _ _ hL
  rw [if_neg d3]
  by_cases d4:(if w<l then w else l)<1
  ·rw [if_pos d4];exact no _ _ hL
  rw [if_neg d4]
  by_cases d5:(if w>l then w else l)>32768
  ·rw [if_pos d5];exact no _ _ hL
  rw [if_neg d5,DX _ _ _ _ (by omega)]
  by_cases d6:(-32768<=x/\x<=32768/\-32768<=y/\y<=32768)
  ·exfalso
   refine hL ⟨?_,?_,?_,?_,?_,⟨d6.1,d6.2.1⟩,d6.2.2⟩<;>(repeat' split at d1)<;>(repeat' split at d2)<;>(repeat' split at d4)<;>(repeat' split at d5)<;>omega
  ·rw [if_neg d6];exact no _ _ hL
 obtain ⟨c1,c2,c3,c4,c5,c6,c7⟩:=id hL
 have hg:1<=gG gap/\gG gap<=500:=by unfold gG;split<;>omega
 have hm:¬ (if gap<(if wid<len then wid else len) then gap else (if wid<len then wid else len))<0:=by
  repeat' split
  all_goals omega
 rw [if_neg hm,if_neg (by split<;>omega),if_neg (by omega),if_neg (by split<;>omega),if_neg (by split<;>omega),DX _ _ _ _ (by omega),if_pos ⟨c6.1,c6.2,c7.1,c7.2⟩,
  aA (n:=x+l) (by omega) (by omega),aA (n:=y+w) (by omega) (by omega),aA (n:=len-gap) (by omega) (by omega),aA (n:=wid-gap) (by omega) (by omega),bd,bd,bd]
 have no2:¬ FIn len wid x y l w gap->∃ b,some false=some b/\(b=true↔rR len wid x y l w gap/\(∀ j,j<n->NrJ r j)/\FIn len wid x y l w gap/\∀ j,j<n->ot r x y l w (gG gap) j):=fun h=>⟨false,rfl,by simp only [Bool.false_eq_true,false_iff];exact fun q=>h q.2.2.1⟩
 by_cases d1:x<gap
 ·rw [if_pos d1];exact no2 fun h=>by have:=h.1;omega
 rw [if_neg d1]
 by_cases d2:y<gap
 ·rw [if_pos d2];exact no2 fun h=>by have:=h.2.1;omega
 rw [if_neg d2]
 by_cases d3:x+l>len-gap
 ·rw [if_pos d3];exact no2 fun h=>by have:=h.2.2.1;omega
 rw [if_neg d3]
 by_cases d4:y+w>wid-gap
 ·rw [ae (qcZ d4)];exact no2 fun h=>by have:=h.2.2.2;omega
 rw [af (qeZ d4)]
 rcases WZ n r l w (gG gap) x y (some false) (some true) hn hg c4 c5 c6 c7 100 0 (by omega) (by omega) with ⟨e,hA⟩ | ⟨e,j,hj,hq⟩
 ·exact ⟨true,e,by simp only [true_iff];exact ⟨hL,fun j hj=>(hA j (by omega) hj).1,⟨by omega,by omega,by omega,by omega⟩,fun j hj=>(hA j (by omega) hj).2⟩⟩
 ·exact ⟨false,e,by simp only [Bool.false_eq_true,false_iff];exact fun q=>hq ⟨q.2.1 j hj,q.2.2.2 j hj⟩⟩
theorem OL:tw 100=some true:=by kernel_rfl
theorem Oi {ρ:Type} (x:Nat->CV) (hn:(x 7).len<=12) (k0 k1:Option ρ):∀ (m i:Nat),(x 7).len<m+i->i<=(x 7).len->mB 100 x m (Int.ofNat i) k0 k1=k0\/mB 100 x m (Int.ofNat i) k0 k1=k1:=by
 intro m
 induction m with
 | zero=>intro i h1 h2;omega
 | succ m ih =>
  intro i h1 h2
  unfold mB
  rw [aF,ay,ao]
  by_cases h:i<(x 7).len
  ·rw [ae (qcZ h),ae (qcZ h),ax (by omega)]
   by_cases c:(Int.ofNat ((((x 7).el) i 0).len))>40
   ·rw [ae (qcZ c)];exact .inl rfl
   ·rw [af (qeZ c)];exact ih (i+1) (by omega) (by omega)
  ·rw [af (qeZ h)];exact .inr rfl
theorem WP (x:Nat->CV):∃ b,G8 100 x=some b/\(b=true->(x 6).len<=40):=by
 have no:∃ b,some false=some b/\(b=true->(x 6).len<=40):=⟨false,rfl,fun h=>by cases h⟩
 unfold G8
 rw [bd,bd,bd,bd,bd]
 split;exact no
 split;exact no
 split;exact no
 split;exact no
 split;exact no
 rename_i _ _ _ _ c
 by_cases c2:(Int.ofNat ((x 7).len))>12
 ·rw [ae (qcZ c2)];exact no
 rw [af (qeZ c2)]
 have c:¬ ((x 6).len:Int)>40:=c
 have c2:¬ ((x 7).len:Int)>12:=c2
 rcases Oi x (by omega) (some false) (some true) 100 0 (by omega) (by omega) with e | e
 ·exact ⟨_,e,fun _=>by omega⟩
 ·exact ⟨_,e,fun _=>by omega⟩
def JV (l:List Int) (a:Int):Nat->Nat->Int
 | 0,_=>-1
 | m+1,i=>if a=l.getD i 0 then (i:Int) else JV l a m (i+1)
def ixI (l:List Int) (a:Int):Int:=JV l a l.length 0
theorem Gx (l:List Int) (a:Int) (hl:l.length<=60):∀ (m i:Nat),l.length<m+i->i<=l.length->oh 100 l.length (fL l) a (Int.ofNat l.length) m (Int.ofNat i) (fun x=>some x) (some (-1))=some (JV l a (l.length-i) i):=by
 intro m
 induction m with
 | zero=>intro i h1 h2;omega
 | succ m ih =>
  intro i h1 h2
  unfold oh
  rw [aF,ay,ao]
  by_cases h:i<l.length
  ·rw [ae (qcZ h),ae (qcZ h),show l.length-i=(l.length-(i+1))+1 from by omega,JV,ax (by omega)]
   have e:(fL l i 0).int=l.getD i 0:=rfl
   rw [e]
   by_cases c:a=l.getD i 0
   ·rw [if_pos c,ae (by simpa using c)];rfl
   ·rw [if_neg c,af (by simpa using c)];exact ih (i+1) (by omega) (by omega)
  ·rw [af (qeZ h),show l.length-i=0 from by omega];rfl
theorem ID (l:List Int) (a:Int) (hl:l.length<=60):Kq 100 l.length (fL l) a=some (ixI l a):=Gx l a hl 100 0 (by omega) (by omega)
def Bef (first:List Int) (a b:Int):Prop:=ixI first a<ixI first b
instance (first:List Int) (a b:Int):Decidable (Bef first a b):=by unfold Bef;infer_instance
structure Fnd (first second:List Int) (R:FF) (g b:Int) (k i:Nat) (x y x' y' : Int):Prop where
 gex:x<=x'
 gey:y<=y'
 left:∀ t,i<=t->t<k->Bef first (second.getD t 0) b->bx R (second.getD t 0).toNat 2+g<=x'
 below:∀ t,i<=t->t<k->¬ Bef first (second.getD t 0) b->bx R (second.getD t 0).toNat 3+g<=y'
 leastx:∀ X,x<=X->(∀ t,i<=t->t<k->Bef first (second.getD t 0) b->bx R (second.getD t 0).toNat 2+g<=X)->x'<=X
 leasty:∀ Y,y<=Y->(∀ t,i<=t->t<k->¬ Bef first (second.getD t 0) b->bx R (second.getD t 0).toNat 3+g<=Y)->y'<=Y
theorem N1 {ρ:Type} (n N2 N3 N5:Nat) (f F3:FF) (first second:List Int) (R:FF) (g b gap a1 a2:Int) (k:Nat) (hf:first.length<=60) (hk:k<=60)
  (hin:∀ t,t<k->0<=second.getD t 0/\second.getD t 0<n) (hg:1<=g/\g<=500)
  (hR:∀ t,t<k->(0<=bx R (second.getD t 0).toNat 2/\bx R (second.getD t 0).toNat 2<=1099511627776)/\(0<=bx R (second.getD t 0).toNat 3/\bx R (second.getD t 0).toNat 3<=1099511627776)):∀ (m i:Nat) (x y:Int),k<m+i->i<=k ->
  ∃ x' y',(∀ k0:Int->Int->Option ρ,j7 100 N2 f N3 F3 first.length (fL first) N5 (fL second) gap n g b a1 a2 k (Int.ofNat k) R m (Int.ofNat i) x y k0=k0 x' y')/\Fnd first second R g b k i x y x' y':=by
 intro m
 induction m with
 | zero=>intro i x y h1 h2;omega
 | succ m ih =>
  intro i x y h1 h2
  by_cases h:i<k
  ·have e:(fL second i 0).int=second.getD i 0:=rfl
   obtain ⟨z0,z1⟩:=hin i h
   obtain ⟨r2,r3⟩:=hR i h
   have hb:inb (second.getD i 0) n=true:=dk z0 z1
   by_cases c:Bef first (second.getD i 0) b
   ·obtain ⟨x',y',e1,F⟩:=ih (i+1) (if (R (second.getD i 0).toNat 2).int+g>x then (R (second.getD i 0).toNat 2).int+g else x) y (by omega) (by omega)
    have hx:x<=x'/\bx R (second.getD i 0).toNat 2+g<=x':=by
     have:=F.gex
     simp only [bx]
     split at this<;>omega
    refine ⟨x',y',fun k0=>?_,hx.1,F.gey,fun t q1 q2 q3=>?_,fun t q1 q2 q3=>?_,fun X q1 q2=>?_,fun Y q1 q2=>?_⟩
    ·unfold j7
     rw [aF,ay,ao,ae (qcZ h),ae (qcZ h),e,ID _ _ hf,aa,ID _ _ hf,aa,ax (by omega),Nat.zero_add,ae (qcZ (show ixI first (second.getD i 0)<ixI first b from c)),ae hb,aA (n:=(R (second.getD i 0).toNat 2).int+g) (by simp only [bx] at r2;omega) (by simp only [bx] at r2;omega)]
     exact e1 k0
    ·by_cases ht:t=i
     ·rw [ht];exact hx.2
     ·exact F.left t (by omega) q2 q3
    ·by_cases ht:t=i
     ·rw [ht] at q3;exact absurd c q3
     ·exact F.below t (by omega) q2 q3
    ·refine F.leastx X ?_ fun t w1 w2 w3=>q2 t (by omega) w2 w3
     have:=q2 i (by omega) h c
     simp only [bx] at this
     split<;>omega
    ·exact F.leasty Y q1 fun t w1 w2 w3=>q2 t (by omega) w2 w3
   ·obtain ⟨x',y',e1,F⟩:=ih (i+1) x (if (R (second.getD i 0).toNat 3).int+g>y then (R (second.getD i 0).toNat 3).int+g else y) (by omega) (by omega)
    have hy:y<=y'/\bx R (second.getD i 0).toNat 3+g<=y':=by
     have:=F.gey
     simp only [bx]
     split at this<;>omega
    refine ⟨x',y',fun k0=>?_,F.gex,hy.1,fun t q1 q2 q3=>?_,fun t q1 q2 q3=>?_,fun X q1 q2=>?_,fun Y q1 q2=>?_⟩
    ·unfold j7
     rw [aF,ay,ao,ae (qcZ h),ae (qcZ h),e,ID _ _ hf,aa,ID _ _ hf,aa,ax (by omega),Nat.zero_add,af (qeZ (show ¬ ixI first (second.getD i 0)<ixI first b from c)),ae hb,aA (n:=(R (second.getD i 0).toNat 3).int+g) (by simp only [bx] at r3;omega) (by simp only [bx] at r3;omega)]
     exact e1 k0
    ·by_cases ht:t=i
     ·rw [ht] at q3;exact absurd q3 c
     ·exact F.left t (by omega) q2 q3
    ·by_cases ht:t=i
     ·rw [ht];exact hy.2
     ·exact F.below t (by omega) q2 q3
    ·exact F.leastx X q1 fun t w1 w2 w3=>q2 t (by omega) w2 w3
    ·refine F.leasty Y ?_ fun t w1 w2 w3=>q2 t (by omega) w2 w3
     have:=q2 i (by omega) h c
     simp only [bx] at this
     split<;>omega
  ·refine ⟨x,y,fun k0=>?_,Int.le_refl _,Int.le_refl _,fun t q1 q2=>by omega,fun t q1 q2=>by omega,fun X q1 _=>q1,fun Y q1 _=>q1⟩
   unfold j7
   rw [aF,af (qeZ h)]
theorem Rg (f:FF) (i:Nat) (L:Nat->CV) (a c:Nat):rO f i 0 4 L a c=if a=i/\c<4 then L c else f a c:=by
 unfold rO
 by_cases h1:a=i
 ·subst h1
  by_cases h2:c<4
  ·have:(Nat.beq a a&&Nat.ble 0 c&&Nat.blt c (0+4))=true:=by
    simp [Nat.blt_eq,h2]
   rw [this,if_pos ⟨rfl,h2⟩];rfl
  ·have:(Nat.beq a a&&Nat.ble 0 c&&Nat.blt c (0+4))=false:=by
    have:Nat.blt c (0+4)=false:=by
     cases hq:Nat.blt c (0+4) with
     | false=>rfl
     | true=>exact (h2 (by simpa [Nat.blt_eq] using hq)).elim
    rw [this];simp
   rw [this,if_neg (fun h=>h2 h.2)];rfl
 ·have:(Nat.beq a i&&Nat.ble 0 c&&Nat.blt c (0+4))=false:=by
   have:Nat.beq a i=false:=by
    cases hq:Nat.beq a i with
    | false=>rfl
    | true=>exact (h1 (qbZ hq)).elim
   rw [this];simp
  rw [this,if_neg (fun h=>h1 h.1)];rfl
def aK (p:Nat->CV) (t:Int):Int × Int:=(lO 100 p t).getD (0,0)
structure Pi (p:Nat->CV):Prop where
 len:(p 6).len<=40
 sz:∀ t,(0<=(aK p t).1/\(aK p t).1<=131072)/\(0<=(aK p t).2/\(aK p t).2<=131072)
theorem sX (u:Nat) (x y:Nat->CV) (t:Int) (h1:(x 6).len=(y 6).len) (h2:(x 6).el=(y 6).el) (h3:(x 7).len=(y 7).len) (h4:(x 7).el=(y 7).el):lO u x t=lO u y t:=by
 unfold lO
 rw [h1,h2,h3,h4]
theorem Pi.rect {p:Nat->CV} (h:Pi p) (t:Int):lO 100 p t=some (aK p t):=by
 obtain ⟨q,_,h2⟩:=AQ p t h.len
 unfold aK
 rw [h2];rfl
theorem HM {p:Nat->CV} (G:Pi p) (q:Nat->CV) (t x y:Int) (h1:(q 6).len=(p 6).len) (h2:(q 6).el=(p 6).el) (h3:(q 7).len=(p 7).len) (h4:(q 7).el=(p 7).el) (hx:0<=x/\x<=1099511627776) (hy:0<=y/\y<=1099511627776) :
  Ei 100 q t x y=some (x,y,x+(aK p t).1,y+(aK p t).2):=by
 unfold Ei
 have s:=G.sz t
 rw [sX 100 (aw (pj kR0 q)) p t h1 h2 h3 h4,G.rect t,aa,aA (by omega) (by omega),aA (by omega) (by omega)]
structure Pk (f:FF) (tl first second:List Int) (gap:Int) (k:Nat) (R:FF):Prop where
 lo:∀ t,t<k->(gap<=bx R (second.getD t 0).toNat 0/\bx R (second.getD t 0).toNat 0<=500+t*140000)/\(gap<=bx R (second.getD t 0).toNat 1/\bx R (second.getD t 0).toNat 1<=500+t*140000)
 hi:∀ t,t<k->bx R (second.getD t 0).toNat 2=bx R (second.getD t 0).toNat 0+(aK (f (second.getD t 0).toNat) (tl.getD (second.getD t 0).toNat 0)).1/\bx R (second.getD t 0).toNat 3=bx R (second.getD t 0).toNat 1+(aK (f (second.getD t 0).toNat) (tl.getD (second.getD t 0).toNat 0)).2
 sep:∀ s t,s<t->t<k->(Bef first (second.getD s 0) (second.getD t 0)->bx R (second.getD s 0).toNat 2+gG gap<=bx R (second.getD t 0).toNat 0)/\(¬ Bef first (second.getD s 0) (second.getD t 0)->bx R (second.getD s 0).toNat 3+gG gap<=bx R (second.getD t 0).toNat 1)
 least:∀ X Y:Nat->Int,(∀ t,t<k->gap<=X (second.getD t 0).toNat/\gap<=Y (second.getD t 0).toNat) ->
  (∀ s t,s<t->t<k->(Bef first (second.getD s 0) (second.getD t 0)->X (second.getD s 0).toNat+(aK (f (second.getD s 0).toNat) (tl.getD (second.getD s 0).toNat 0)).1+gG gap<=X (second.getD t 0).toNat) /\
   (¬ Bef first (second.getD s 0) (second.getD t 0)->Y (second.getD s 0).toNat+(aK (f (second.getD s 0).toNat) (tl.getD (second.getD s 0).toNat 0)).2+gG gap<=Y (second.getD t 0).toNat)) ->
  ∀ t,t<k->bx R (second.getD t 0).toNat 0<=X (second.getD t 0).toNat/\bx R (second.getD t 0).toNat 1<=Y (second.getD t 0).toNat
theorem MC {ρ:Type} (n:Nat) (f:FF) (tl first second:List Int) (gap:Int) (hn:n<=4) (ht:tl.length=n) (hf:first.length<=60) (hs:second.length<=4) (hin:∀ t,t<second.length->0<=second.getD t 0/\second.getD t 0<n)
  (hd:∀ s t,s<t->t<second.length->second.getD s 0≠second.getD t 0) (hgap:0<=gap/\gap<=500) (hG:∀ i,i<n->Pi (f i)) (k0:FF->Option ρ):∀ (m i:Nat) (R:FF),second.length<m+i->i<=second.length->Pk f tl first second gap i R ->
  ∃ R',od 100 n f tl.length (fL tl) first.length (fL first) second.length (fL second) gap n (gG gap) (Int.ofNat second.length) m (Int.ofNat i) R k0=k0 R'/\Pk f tl first second gap second.length R':=by
 intro m
 induction m with
 | zero=>intro i R h1 h2;omega
 | succ m ih =>
  intro i R h1 h2 hP
  unfold od
  rw [aF,ay,ao]
  by_cases h:i<second.length
  ·have e:(fL second i 0).int=second.getD i 0:=rfl
   obtain ⟨z0,z1⟩:=hin i h
   obtain ⟨j,hj⟩:∃ j:Nat,second.getD i 0=(j:Int):=⟨(second.getD i 0).toNat,by omega⟩
   have hjn:j<n:=by omega
   have hg:1<=gG gap/\gG gap<=500:=by unfold gG;split<;>omega
   have hz:∀ t,t<i->(0<=bx R (second.getD t 0).toNat 2/\bx R (second.getD t 0).toNat 2<=500+(t+1:Nat)*140000-1000)/\(0<=bx R (second.getD t 0).toNat 3/\bx R (second.getD t 0).toNat 3<=500+(t+1:Nat)*140000-1000):=by
    intro t hti
    have q1:=hP.lo t hti
    have q2:=hP.hi t hti
    obtain ⟨y0,y1⟩:=hin t (by omega)
    have q3:=(hG (second.getD t 0).toNat (by omega)).sz (tl.getD (second.getD t 0).toNat 0)
    omega
   obtain ⟨x',y',e1,F⟩:=N1 (ρ:=ρ) n n tl.length second.length f (fL tl) first second R (gG gap) (second.getD i 0) gap (Int.ofNat second.length) (Int.ofNat i) i hf (by omega) (fun t q=>hin t (by omega)) hg (fun t q=>by have:=hz t q;omega) 100 0 gap gap (by omega) (by omega)
   have hb:inb (second.getD i 0) n=true:=dk z0 z1
   have GP:=hG (second.getD i 0).toNat (by omega)
   have hsz:=GP.sz (tl.getD (second.getD i 0).toNat 0)
   have hx' : x'<=500+i*140000:=F.leastx _ (by omega) fun t _ q _=>by
    have:=(hz t q).1.2
    have:((t+1:Nat):Int)<=(i:Int):=by omega
    omega
   have hy' : y'<=500+i*140000:=F.leasty _ (by omega) fun t _ q _=>by
    have:=(hz t q).2.2
    have:((t+1:Nat):Int)<=(i:Int):=by omega
    omega
   have hxy:=And.intro F.gex F.gey
   obtain ⟨R1,hR1⟩:∃ R1,R1=rO R (second.getD i 0).toNat 0 4 (aw [(.i .i64 x'),(.i .i64 y'),(.i .i64 (x'+(aK (f (second.getD i 0).toNat) (tl.getD (second.getD i 0).toNat 0)).1)),(.i .i64 (y'+(aK (f (second.getD i 0).toNat) (tl.getD (second.getD i 0).toNat 0)).2))]):=⟨_,rfl⟩
   have old:∀ t c,t<i->bx R1 (second.getD t 0).toNat c=bx R (second.getD t 0).toNat c:=by
    intro t c q
    have q1:=hd t i q h
    obtain ⟨y0,y1⟩:=hin t (by omega)
    simp only [bx]
    rw [hR1,Rg,if_neg (fun hh=>q1 (by omega))]
   have new:∀ c,c<4->bx R1 (second.getD i 0).toNat c=(aw [(.i .i64 x'),(.i .i64 y'),(.i .i64 (x'+(aK (f (second.getD i 0).toNat) (tl.getD (second.getD i 0).toNat 0)).1)),(.i .i64 (y'+(aK (f (second.getD i 0).toNat) (tl.getD (second.getD i 0).toNat 0)).2))] c).int:=by
    intro c q
    simp only [bx]
    rw [hR1,Rg,if_pos ⟨rfl,q⟩]
   have n0:bx R1 (second.getD i 0).toNat 0=x':=new 0 (by omega)
   have n1:bx R1 (second.getD i 0).toNat 1=y':=new 1 (by omega)
   have n2:bx R1 (second.getD i 0).toNat 2=x'+(aK (f (second.getD i 0).toNat) (tl.getD (second.getD i 0).toNat 0)).1:=new 2 (by omega)
   have n3:bx R1 (second.getD i 0).toNat 3=y'+(aK (f (second.getD i 0).toNat) (tl.getD (second.getD i 0).toNat 0)).2:=new 3 (by omega)
   have hP1:Pk f tl first second gap (i+1) R1:=by
    refine ⟨fun t q=>?_,fun t q=>?_,fun s t q1 q2=>?_,fun X Y g1 g2 t q=>?_⟩
    ·by_cases c:t=i
     ·rw [c,n0,n1];omega
     ·rw [old t _ (by omega),old t _ (by omega)];exact hP.lo t (by omega)
    ·by_cases c:t=i
     ·rw [c,n0,n1,n2,n3];exact ⟨rfl,rfl⟩
     ·rw [old t _ (by omega),old t _ (by omega),old t _ (by omega),old t _ (by omega)];exact hP.hi t (by omega)
    ·by_cases c:t=i
     ·rw [c] at q1 ⊢
      rw [n0,n1,old s _ q1,old s _ q1]
      exact ⟨F.left s (by omega) q1,F.below s (by omega) q1⟩
     ·rw [old t _ (by omega),old t _ (by omega),old s _ (by omega),old s _ (by omega)];exact hP.sep s t q1 (by omega)
    ·have L:=hP.least X Y (fun t q=>g1 t (by omega)) (fun s t q1 q2=>g2 s t q1 (by omega))
     by_cases c:t=i
     ·rw [c,n0,n1]
      refine ⟨F.leastx _ (g1 i (by omega)).1 fun s _ q1 q2=>?_,F.leasty _ (g1 i (by omega)).2 fun s _ q1 q2=>?_⟩
      ·have w1:=(g2 s i q1 (by omega)).1 q2
       have w2:=(L s q1).1
       have w3:=(hP.hi s q1).1
       omega
      ·have w1:=(g2 s i q1 (by omega)).2 q2
       have w2:=(L s q1).2
       have w3:=(hP.hi s q1).2
       omega
     ·rw [old t _ (by omega),old t _ (by omega)];exact L t (by omega)
   obtain ⟨R',e2,hP'⟩:=ih (i+1) R1 (by omega) (by omega) hP1
   refine ⟨R',?_,hP'⟩
   rw [ae (qcZ h),ae (qcZ h),ae (CQ (by show (0:Int)<=(i:Int);omega) (by show (i:Int)<=(second.length:Int);omega)),e]
   refine (e1 _).trans ?_
   rw [ae hb,ht,ae hb]
   refine (congrArg (fun z=>ob z _) (HM GP _ _ x' y' rfl rfl rfl rfl (by omega) (by omega))).trans ?_
   rw [aa,ae hb,ax (by omega),Nat.zero_add,<- e2,hR1,ht]
   rfl
  ·rw [af (qeZ h)]
   exact ⟨R,rfl,by rwa [show i=second.length from by omega] at hP⟩
theorem me:∀ (l:List Int) (i:Nat),i<l.length->(l.getD i 0::l.eraseIdx i).Perm l
 | [],i,h=>by simp at h
 | a::l,0,_=>.refl _
 | a::l,i+1,h=>by
  have:=me l i (by simpa using h)
  rw [List.eraseIdx_cons_succ,List.getD_cons_succ]
  exact (List.Perm.swap a (l.getD i 0) _).trans (this.cons a)
theorem Bq:∀ (k:Nat) (l:List Int),l.length=k->∀ q∈di k l,q.Perm l
 | 0,l,h,q,hq=>by
  have hq:q∈[[]]:=hq
  rw [qzZ] at hq
  rw [hq,List.length_eq_zero_iff.1 h]
 | k+1,l,h,q,hq=>by
  have hq:q∈(List.range l.length).flatMap fun i=>(di k (l.eraseIdx i)).map (l.getD i 0::·):=hq
  obtain ⟨i,hi,hq⟩:=List.mem_flatMap.1 hq
  obtain ⟨q',hq',rfl⟩:=rlZ.1 hq
  rw [rkZ] at hi
  exact ((Bq k _ (by rw [List.length_eraseIdx_of_lt hi];omega) q' hq').cons _).trans (me l i hi)
theorem Ai {l q:List Int} (h:q∈aI l):q.Perm l:=Bq _ l rfl q h
theorem CF:∀ (k:Nat) (l:List Int),l.length=k->∀ q:List Int,q.Perm l->q∈di k l
 | 0,l,h,q,hq=>by
  rw [List.length_eq_zero_iff.1 h] at hq
  show q∈[[]]
  rw [qzZ];exact List.perm_nil.1 hq
 | k+1,l,h,q,hq=>by
  cases q with
  | nil=>have:=hq.length_eq;simp at this;omega
  | cons a q =>
   obtain ⟨i,hi,ha⟩:=List.getElem_of_mem (hq.subset qmZ)
   have e:l.getD i 0=a:=by rw [qdZ,qgZ hi];exact ha
   have hp:q.Perm (l.eraseIdx i):=by
    have:=hq.trans (me l i hi).symm
    rw [e] at this
    exact this.cons_inv
   show a::q∈(List.range l.length).flatMap fun i=>(di k (l.eraseIdx i)).map (l.getD i 0::·)
   refine List.mem_flatMap.2 ⟨i,rkZ.2 hi,rlZ.2 ⟨q,CF k _ (by rw [List.length_eraseIdx_of_lt hi];omega) q hp,by rw [e]⟩⟩
theorem Bo {l q:List Int} (h:q.Perm l):q∈aI l:=CF _ l rfl q h
theorem Jx:∀ (k:Nat) (l:List Int),l.length=k->k<=4->(di k l).length<=24:=by
 have h1:∀ (k N:Nat),(∀ l:List Int,l.length=k->(di k l).length<=N)->∀ l:List Int,l.length=k+1->(di (k+1) l).length<=(k+1)*N:=by
  intro k N h l hl
  have:∀ m,m<=l.length->(rP k l m).length<=m*N:=by
   intro m
   induction m with
   | zero=>intro _;simp [rP]
   | succ m ih =>
    intro hm
    rw [rH,List.length_append,rdZ]
    have:=h (l.eraseIdx m) (by rw [List.length_eraseIdx_of_lt (by omega)];omega)
    have:=ih (by omega)
    rw [Nat.succ_mul]
    omega
  have:=this l.length (rmZ _)
  rw [hl] at this
  have e:di (k+1) l=rP k l l.length:=rfl
  rw [e,hl];exact this
 have e0:∀ l:List Int,l.length=0->(di 0 l).length<=1:=fun l _=>by simp [di]
 have e1:∀ l:List Int,l.length=1->(di 1 l).length<=1:=h1 0 1 e0
 have e2:∀ l:List Int,l.length=2->(di 2 l).length<=2:=h1 1 1 e1
 have e3:∀ l:List Int,l.length=3->(di 3 l).length<=6:=h1 2 2 e2
 have e4:∀ l:List Int,l.length=4->(di 4 l).length<=24:=h1 3 6 e3
 intro k l hl hk
 have:k=0\/k=1\/k=2\/k=3\/k=4:=by omega
 rcases this with rfl | rfl | rfl | rfl | rfl
 ·have:=e0 l hl;omega
 ·have:=e1 l hl;omega
 ·have:=e2 l hl;omega
 ·have:=e3 l hl;omega
 ·have:=e4 l hl;omega
theorem Bp {l:List Int} (h:l.length<=4):(aI l).length<=24:=Jx _ l rfl h
def okV (n:Nat) (l:List Int):Bool:=Nat.beq l.length n&&l.all fun x=>x == -1||(x==0||x==1)
theorem Ew:∀ n,n<=4->∀ c,c<dp n->okV n (aW n c)=true:=by
 have h0:∀ n<5,∀ c<82,c<dp n->okV n (aW n c)=true:=by decide +kernel
 intro n hn c hc
 have:dp n<=81:=by
  have:∀ n<5,dp n<=81:=by decide +kernel
  exact this n (by omega)
 exact h0 n (by omega) c (by omega) hc
theorem Cy (a b:ByteArray):(ByteArray.toList a==ByteArray.toList b)=decide (a=b):=by
 by_cases h:a=b
 ·subst h;simp
 ·rw [qeZ h]
  have:¬ ByteArray.toList a=ByteArray.toList b:=fun hh=>h (by
   rw [ByteArray.toList_eq,ByteArray.toList_eq] at hh
   exact ByteArray.ext (Array.ext' hh))
  simpa using this
theorem Tg {a b:Nat} (h:a<b):Nat.blt a b=true:=by rw [Nat.blt_eq];exact h
theorem jN {n:Nat} (h:n<=1073741824):Nat.ble n 1073741824=true:=by rw [Nat.ble_eq];exact h
theorem Bx {n:Nat} {f f' : FF} (h:∀ i,i<n->(f' i 0).str=(f i 0).str) (s:ByteArray):lR n f' s=lR n f s:=by
 unfold lR
 have:∀ l:List Nat,(∀ i,i∈l->i<n)->l.find? (fun i=>ByteArray.toList ((f' i 0).str)==ByteArray.toList s)=l.find? (fun i=>ByteArray.toList ((f i 0).str)==ByteArray.toList s):=fun l=>by
  induction l with
  | nil=>intro _;rfl
  | cons a l ih =>
   intro hl
   rw [List.find?_cons,List.find?_cons,h a (hl a (qmZ ..)),ih fun i hi=>hl i (qjZ _ hi)]
 exact this _ fun i hi=>rkZ.1 hi
theorem E9 (n:Nat) (f:FF) (s:ByteArray) (v:Int) (s' : ByteArray):mb (oS n f s) (oR n f s v) s' = if s' = s then v else mb n f s':=by
 unfold mb oS oR
 cases h:lR n f s with
 | some i0 =>
  dsimp only
  obtain ⟨h1,h2⟩:=mH h
  have hk:lR n (fun i j=>bif Nat.beq i i0&&Nat.beq j 1 then .i .i64 v else f i j) s' = lR n f s':=Bx (fun i _=>by
   show (bif Nat.beq i i0&&Nat.beq 0 1 then _ else f i 0).str=_
   rw [show Nat.beq 0 1=false from rfl,Bool.and_false,cond_false]) s'
  rw [hk]
  by_cases hs:s' = s
  ·subst hs
   rw [if_pos rfl,h]
   show (bif Nat.beq i0 i0&&Nat.beq 1 1 then CV.i .i64 v else f i0 1).int=v
   rw [Nat.beq_refl];rfl
  ·rw [if_neg hs]
   cases h3:lR n f s' with
   | none=>rfl
   | some j =>
    obtain ⟨h4,h5⟩:=mH h3
    have hne:Nat.beq j i0=false:=by
     cases e:Nat.beq j i0 with
     | false=>rfl
     | true=>have:=qbZ e;subst this;exact absurd (h5.symm.trans h2) hs
    show (bif Nat.beq j i0&&Nat.beq 1 1 then CV.i .i64 v else f j 1).int=(f j 1).int
    rw [hne];rfl
 | none =>
  dsimp only
  have hlt:∀ i,i<n->(bif Nat.blt i n then f i 0 else (bif Nat.beq 0 0 then CV.s s else .i .i64 v)).str=(f i 0).str:=fun i hi=>by rw [Tg hi,cond_true]
  have hb:Nat.blt n n=false:=by
   cases e:Nat.blt n n with
   | false=>rfl
   | true=>rw [Nat.blt_eq] at e;omega
  have hnew:lR (n+1) (fun i j=>bif Nat.blt i n then f i j else (bif Nat.beq j 0 then CV.s s else .i .i64 v)) s' = match lR n f s' with | some i=>some i | none=>if s' = s then some n else none:=by
   have e1:=Bx (f:=f) (f':=fun i j=>bif Nat.blt i n then f i j else (bif Nat.beq j 0 then CV.s s else .i .i64 v)) hlt s'
   rw [<- e1]
   unfold lR
   rw [List.range_succ,List.find?_append]
   cases List.find? (fun i=>ByteArray.toList ((bif Nat.blt i n then f i 0 else (bif Nat.beq 0 0 then CV.s s else .i .i64 v)).str)==ByteArray.toList s') (List.range n) with
   | some i=>rfl
   | none =>
    rw [Option.none_or,List.find?_cons]
    dsimp only
    rw [hb]
    show (match (ByteArray.toList s==ByteArray.toList s') with | true=>some n | false=>List.find? _ [])=_
    rw [Cy]
    by_cases hs:s' = s
    ·subst hs;rw [qcZ rfl,if_pos rfl]
    ·rw [qeZ (fun e=>hs e.symm),if_neg hs];rfl
  rw [hnew]
  by_cases hs:s' = s
  ·subst hs
   rw [h,if_pos rfl,if_pos rfl]
   show (bif Nat.blt n n then f n 1 else (bif Nat.beq 1 0 then CV.s s' else .i .i64 v)).int=v
   rw [hb];rfl
  ·rw [if_neg hs,if_neg hs]
   cases h3:lR n f s' with
   | none=>rfl
   | some j =>
    have:=(mH h3).1
    show (bif Nat.blt j n then f j 1 else _).int=(f j 1).int
    rw [Tg this];rfl
def vh (gr:ByteArray) (th:Int) (PF:FF) (j:Nat):Prop :=
 (∀ i,i<j->(PF i 0).str≠(PF j 0).str)/\(PF j 2).int=1/\ByteArray.toList ((PF j 4).str)=ByteArray.toList gr/\(PF j 5).int=th/\F13 100 ((PF j 6).len) ((PF j 6).el) ((PF j 7).len) ((PF j 7).el)=some 0
structure AK (x y:Nat->CV):Prop where
 id:(x 0).str=(y 0).str
 ol:(x 6).len=(y 6).len
 oe:(x 6).el=(y 6).el
 hl:(x 7).len=(y 7).len
 he:(x 7).el=(y 7).el
structure Ay (gr:ByteArray) (th:Int) (PF:FF) (i:Nat) (js:List Nat) (f:FF):Prop where
 asc:js.Pairwise (· < ·)
 ok:∀ j∈js,j<i/\vh gr th PF j
 all:∀ j,j<i->vh gr th PF j->j∈js
 row:∀ k,k<js.length->AK (f k) (PF (js.getD k 0))
theorem Ay.skip {gr:ByteArray} {th:Int} {PF:FF} {i:Nat} {js:List Nat} {f:FF} (h:Ay gr th PF i js f) (hn:¬ vh gr th PF i):Ay gr th PF (i+1) js f :=
 ⟨h.asc,fun j hj=>⟨by have:=(h.ok j hj).1;omega,(h.ok j hj).2⟩,fun j hj hs=>by
  by_cases e:j=i
  ·subst e;exact absurd hs hn
  ·exact h.all j (by omega) hs,h.row⟩
theorem Jj {ρ:Type} (P:Nat) (PF:FF) (a gr e:ByteArray) (th L W:Int) (hP:P<=20) (k0:Nat->Nat->FF->FF->Option ρ):∀ (m i:Nat) (c:Nat) (M:FF) (js:List Nat) (f:FF),P<m+i->i<=P->js.length<=i ->
  (∀ s,mb c M s=1↔∃ j,j<i/\(PF j 0).str=s)->Ay gr th PF i js f ->
  ∃ c' M' js' f',eD 100 P PF (Int.ofNat P) a gr th L W e m js.length (Int.ofNat i) c M f k0=k0 js'.length c' M' f'/\js'.length<=P/\Ay gr th PF P js' f':=by
 intro m
 induction m with
 | zero=>intro i c M js f h1 h2;omega
 | succ m ih =>
  intro i c M js f h1 h2 hl hM hS
  unfold eD
  rw [aF,ay,ao]
  by_cases h:i<P
  ·have hM' : ∀ s,mb (oS c M ((PF i 0).str)) (oR c M ((PF i 0).str) 1) s=1↔∃ j,j<i+1/\(PF j 0).str=s:=by
    intro s
    rw [E9]
    by_cases hs:s=(PF i 0).str
    ·rw [if_pos hs];exact ⟨fun _=>⟨i,by omega,hs.symm⟩,fun _=>rfl⟩
    ·rw [if_neg hs,hM]
     exact ⟨fun ⟨j,h3,h4⟩=>⟨j,by omega,h4⟩,fun ⟨j,h3,h4⟩=>by
      by_cases hj:j=i
      ·subst hj;exact absurd h4.symm hs
      ·exact ⟨j,by omega,h4⟩⟩
   rw [ae (qcZ h),ae (qcZ h),ax (by omega)]
   have skip:¬ vh gr th PF i->∃ c' M' js' f',eD 100 P PF (Int.ofNat P) a gr th L W e m js.length (Int.ofNat (i+1)) (oS c M ((PF i 0).str)) (oR c M ((PF i 0).str) 1) f k0=k0 js'.length c' M' f'/\js'.length<=P/\Ay gr th PF P js' f' :=
    fun hn=>ih (i+1) _ _ js f (by omega) (by omega) (by omega) hM' (hS.skip hn)
   by_cases c1:mb c M ((PF i 0).str)=1
   ·rw [af (by simp [c1])]
    obtain ⟨j,h3,h4⟩:=(hM _).1 c1
    exact skip fun hs=>hs.1 j h3 h4
   rw [ae (by simp [c1])]
   by_cases c2:(PF i 2).int=1
   case neg=>rw [af (by simp [c2])];exact skip fun hs=>c2 hs.2.1
   rw [ae (by simp [c2])]
   by_cases c3:ByteArray.toList ((PF i 4).str)=ByteArray.toList gr
   case neg=>rw [af (by simp [c3])];exact skip fun hs=>c3 hs.2.2.1
   rw [ae (by simp [c3])]
   by_cases c4:(PF i 5).int=th
   case neg=>rw [af (by simp [c4])];exact skip fun hs=>c4 hs.2.2.2.1
   rw [ae (by simp [c4])]
   obtain ⟨z,z1,_⟩:=li ((PF i 6).len) ((PF i 7).len) ((PF i 6).el) ((PF i 7).el)
   rw [z1,aa]
   by_cases c5:z=0
   case neg=>rw [af (by simp [c5])];exact skip fun hs=>c5 (rjZ (z1.symm.trans hs.2.2.2.2))
   rw [ae (by simp [c5]),ae (jN (by omega))]
   have hs:vh gr th PF i:=⟨fun j hj he=>c1 ((hM _).2 ⟨j,hj,he⟩),c2,c3,c4,by rw [z1,c5]⟩
   have hlen:(js ++ [i]).length=js.length+1:=by simp
   have:=ih (i+1) (oS c M ((PF i 0).str)) (oR c M ((PF i 0).str) 1) (js ++ [i]) (aC js.length f (aL 18 [(.s ((PF i 0).str)),(.i .i64 ((PF i 1).int)),(.i .i64 ((PF i 2).int)),(.s ((PF i 3).str)),(.s ((PF i 4).str)),(.i .i64 ((PF i 5).int)),(.ro false (.pr (.int .i64) (.pr (.int .i64) .nil)) ((PF i 6).len) ((PF i 6).el)),(.ro false (.pr (.sl (.pr (.int .i64) (.pr (.int .i64) .nil))) .nil) ((PF i 7).len) ((PF i 7).el)),(.s ((PF i 8).str)),(.i .i64 ((PF i 9).int)),(.i .i64 ((PF i 10).int)),(.i .i64 ((PF i 11).int)),(.i .i64 ((PF i 12).int)),(.i .i64 ((PF i 13).int)),(.i .i64 ((PF i 14).int)),(.i .i64 ((PF i 15).int)),(.i .i64 ((PF i 16).int)),(.i .i64 ((PF i 17).int))]))
    (by omega) (by omega) (by omega) hM' ?_
   ·rw [hlen] at this;exact this
   refine ⟨?_,fun j hj=>?_,fun j hj hjs=>?_,fun k hk=>?_⟩
   ·rw [List.pairwise_append]
    exact ⟨hS.asc,List.pairwise_singleton _ _,fun x hx y hy=>by rw [qzZ] at hy;rw [hy];exact (hS.ok x hx).1⟩
   ·rcases List.mem_append.1 hj with hj | hj
    ·exact ⟨by have:=(hS.ok j hj).1;omega,(hS.ok j hj).2⟩
    ·rw [qzZ] at hj;subst hj;exact ⟨by omega,hs⟩
   ·by_cases hji:j=i
    ·subst hji;simp
    ·exact qvZ _ (hS.all j (by omega) hjs)
   ·by_cases hki:k<js.length
    ·have h1:=hS.row k hki
     rw [show (js ++ [i]).getD k 0=js.getD k 0 from by rw [qdZ,qdZ,qnZ hki]]
     exact ⟨by rw [dm _ _ _ _ _ hki];exact h1.id,by rw [dm _ _ _ _ _ hki];exact h1.ol,by rw [dm _ _ _ _ _ hki];exact h1.oe,by rw [dm _ _ _ _ _ hki];exact h1.hl,by rw [dm _ _ _ _ _ hki];exact h1.he⟩
    ·have hke:k=js.length:=by omega
     subst hke
     have hg:(js ++ [i]).getD js.length 0=i:=by simp
     rw [hg]
     refine ⟨?_,?_,?_,?_,?_⟩<;>(rw [cQ _ _ _ _ _ (rmZ _),Nat.sub_self];rfl)
  ·rw [af (qeZ h)]
   have:i=P:=by omega
   subst this
   exact ⟨c,M,js,f,rfl,hl,hS⟩
theorem EB (P:Nat) (PF:FF) (a gr e:ByteArray) (th L W:Int) (hP:P<=20):∃ js f,ru 100 a gr th L W e P PF=some (js.length,f)/\js.length<=P/\Ay gr th PF P js f:=by
 unfold ru
 have hM:∀ s,mb 0 (fun _ _=>CV.any) s=1↔∃ j,j<0/\(PF j 0).str=s:=fun s=>by
  have e:mb 0 (fun _ _=>CV.any) s=0:=rfl
  rw [e]
  refine ⟨fun h=>?_,fun h=>?_⟩
  ·cases h
  ·obtain ⟨j,h,_⟩:=h
   omega
 have hS:Ay gr th PF 0 [] (fun _ _=>.any):=by
  refine ⟨List.Pairwise.nil,fun j hj=>?_,fun j hj=>?_,fun k hk=>?_⟩
  ·cases hj
  ·omega
  ·cases hk
 obtain ⟨c,M,js,f,h1,h2,h3⟩:=Jj P PF a gr e th L W hP (fun x38 x39 x40 x41=>(some (x38,x41))) 100 0 0 (fun _ _=>.any) [] (fun _ _=>.any) (by omega) (by omega) (rmZ _) hM hS
 exact ⟨js,f,h1,h2,h3⟩
open Geo
structure Mv (T:Pt->Pt) (n1:Nat) (f1:Nat->Nat->CV) (n2:Nat) (f2 g1 g2:Nat->Nat->CV):Prop where
 fit:eH 1 T
 outer:∀ j,j<n1->pt g1 j=T (pt f1 j)
 len:∀ j,j<n2->(g2 j 0).len=(f2 j 0).len
 hole:∀ j,j<n2->∀ i,i<(f2 j 0).len->pt ((g2 j 0).el) i=T (pt ((f2 j 0).el) i)
def IY (n1:Nat) (n2:Nat) (f2:Nat->Nat->CV):Prop:=n1<=40/\n2<=12/\∀ j,j<n2->(f2 j 0).len<=40
structure I0 (s:ByteArray) (tx ty:Int) (turn:Int) (fl:Bool) (n1:Nat) (f1:Nat->Nat->CV) (n2:Nat) (f2:Nat->Nat->CV) (a:Nat) (c:Nat->Nat->CV) (b:Nat) (d:Nat->Nat->CV):Prop where
 small:IY a b d
 size:a<=n1/\b<=n2
 all:∀ t:Nat,turn=Int.ofNat t->t<=3->¬ (jR tx ty=true\/tu (1+n2) (cfh n1 f1 f2) 0)->a=n1/\b=n2/\Are (cq fl t tx ty n1 f1) c n1/\AA fl t tx ty f2 d n2
 none:(turn<0\/3<turn\/jR tx ty=true\/tu (1+n2) (cfh n1 f1 f2) 0)->a=0/\b=0
theorem IX {P:Nat->Int × Int} {f g:Nat->Nat->CV} {n:Nat} (h:Are P f n) (h' : Are P g n):∀ j,j<n->pt g j=pt f j:=fun j hj=>(GX h' j hj).trans (GX h j hj).symm
theorem DY (n1 n2:Nat) (f1 f2:Nat->Nat->CV) (s:ByteArray) (tx ty turn:Int) (fl:Bool) (S:IY n1 n2 f2):∃ a c b d c' d',
  F25 100 n1 f1 n2 f2 s tx ty turn fl=some (a,c,b,d)/\F26 100 n1 f1 n2 f2 s tx ty turn fl=some (a,c',b,d')/\Mv (fun p=>p) a c b d c' d'/\I0 s tx ty turn fl n1 f1 n2 f2 a c b d:=by
 obtain ⟨hn1,hn2,hh⟩:=S
 have nothing:∀ c d:Nat->Nat->CV,Mv (fun p=>p) 0 c 0 d (fun _ _=>.any) (fun _ _=>.any):=fun c d=>⟨Bi,fun j hj=>by omega,fun j hj=>by omega,fun j hj=>by omega⟩
 have hN:1+n2<=13:=by omega
 have hl:∀ j,j<1+n2->(aC 1 (aL 1 [(.ro false (.pr (.int .i64) (.pr (.int .i64) .nil)) n1 f1)]) f2 j 0).len<=40:=by
  intro j hj
  by_cases e:j<1
  ·have:j=0:=by omega
   subst this
   rw [rJ _ _ _ _ _ (by omega)]
   exact hn1
  ·rw [rL _ _ _ _ _ (by omega)]
   exact hh _ (by omega)
 have c42:F42 100 n1 f1 n2 f2=some (1+n2,aC 1 (aL 1 [(.ro false (.pr (.int .i64) (.pr (.int .i64) .nil)) n1 f1)]) f2):=by
  unfold F42
  rw [ae (sZ (by omega))]
 have c44:F44 100 n1 f1 n2 f2=some (1+n2,aC 1 (aL 1 [(.ro false (.pr (.int .i64) (.pr (.int .i64) .nil)) n1 f1)]) f2):=c42
 have hcf:cfh n1 f1 f2=aC 1 (aL 1 [(.ro false (.pr (.int .i64) (.pr (.int .i64) .nil)) n1 f1)]) f2:=rfl
 have nomove:(turn<0\/3<turn\/jR tx ty=true\/tu (1+n2) (cfh n1 f1 f2) 0)->∀ c d,I0 s tx ty turn fl n1 f1 n2 f2 0 c 0 d:=fun h c d =>
  ⟨⟨by omega,by omega,fun j hj=>by omega⟩,⟨by omega,by omega⟩,fun t e1 e2 e3=>by
   rcases h with k | k | k
   ·rw [e1] at k;simp at k;omega
   ·rw [e1] at k;simp at k;omega
   ·exact absurd k e3,fun _=>⟨rfl,rfl⟩⟩
 rw [hcf] at nomove
 generalize hF:aC 1 (aL 1 [(.ro false (.pr (.int .i64) (.pr (.int .i64) .nil)) n1 f1)]) f2=F at hl c42 c44 nomove hcf
 generalize hNN:1+n2=N at hN hl c42 c44 nomove
 by_cases ht1:turn<0
 ·refine ⟨0,(fun _ _=>.any),0,(fun _ _=>.any),_,_,?_,?_,nothing _ _,nomove (.inl ht1) _ _⟩
  ·unfold F25 G3
   rw [af (by simpa using ht1)];rfl
  ·unfold F26 G2
   rw [c44,aa,af (by simpa using ht1),show (0:Int)=Int.ofNat 0 from rfl,BI N n1 n2 F f1 f2 s tx ty turn fl hN hl _ 100 0 (by omega) (by omega)];rfl
 ·by_cases ht2:turn>3
  ·refine ⟨0,(fun _ _=>.any),0,(fun _ _=>.any),_,_,?_,?_,nothing _ _,nomove (.inr (.inl ht2)) _ _⟩
   ·unfold F25 G3
    rw [ae (by simpa using ht1),af (by simpa using ht2)];rfl
   ·unfold F26 G2
    rw [c44,aa,ae (by simpa using ht1),af (by simpa using ht2),show (0:Int)=Int.ofNat 0 from rfl,BI N n1 n2 F f1 f2 s tx ty turn fl hN hl _ 100 0 (by omega) (by omega)];rfl
  ·obtain ⟨t,rfl⟩:∃ t:Nat,turn=Int.ofNat t:=⟨turn.toNat,(Int.toNat_of_nonneg (by omega)).symm⟩
   have ht:t<=3:=by simp at ht2;omega
   have e25:(jR tx ty=true\/tu N F 0)->F25 100 n1 f1 n2 f2 s tx ty (Int.ofNat t) fl=some (0,(fun _ _=>.any),0,(fun _ _=>.any)):=by
    intro hb
    unfold F25 G3
    rw [ae (by simpa using ht1),ae (by simpa using ht2),IL,aa]
    cases hq:jR tx ty with
    | true=>rw [ae rfl];rfl
    | false =>
     rw [af rfl,c42,aa,show (0:Int)=Int.ofNat 0 from rfl]
     have hc:tu N F 0:=hb.resolve_left (by rw [hq];simp)
     rw [(CT N n1 n2 F f1 f2 s tx ty (Int.ofNat t) fl hN hl _ _ 100 0 (by omega) (by omega)).1 hc];rfl
   obtain ⟨r,h3,h4⟩:=Kh N n1 n2 F f1 f2 s tx ty (Int.ofNat t) fl hN hl (fun x98=>(bif x98 then (some (true,0,(fun _ _=>CV.any),0,(fun _ _=>CV.any))) else (ob (F54 100 n1 f1 s tx ty (Int.ofNat t) fl) fun x99=>(sq 100 n1 f1 n2 f2 s tx ty (Int.ofNat t) fl x99.1 x99.2 100 0 0 (fun _ _=>.any)
 (fun x129 x130=>(some (false,x99.1,x99.2,x129,x130))))))) 100 0 (jR tx ty) (by omega) (by omega)
   by_cases hb:jR tx ty=true\/tu N F 0
   ·refine ⟨0,_,0,_,_,_,e25 hb,?_,nothing _ _,nomove (.inr (.inr hb)) _ _⟩
    unfold F26 G2
    rw [c44,aa,ae (by simpa using ht1),ae (by simpa using ht2),Oo,aa]
    refine (congrArg (fun z=>ob z _) h3).trans ?_
    rw [h4.2 hb,ae rfl];rfl
   ·obtain ⟨g,hg1,hg2⟩:=CL s n1 t fl tx ty f1 hn1 ht
    obtain ⟨g',hg3,hg4⟩:=At s n1 t fl tx ty f1 hn1 ht
    have hr:r=false:=by
     cases r with
     | false=>rfl
     | true=>exact absurd (h4.1 rfl) hb
    have hq:jR tx ty=false:=by
     cases hq:jR tx ty with
     | false=>rfl
     | true=>exact absurd (.inl hq) hb
    obtain ⟨x,hx1,hx2⟩:=QM s n2 t fl tx ty f2 n1 n1 f1 g hn2 hh ht (fun x71 x72=>(some (false,n1,g,x71,x72))) 100 0 (fun _ _=>.any) (by omega) (by omega) (fun j hj=>by omega)
    obtain ⟨x',hx3,hx4⟩:=QL s n2 t fl tx ty f2 n1 n1 f1 g' hn2 hh ht (fun x129 x130=>(some (false,n1,g',x129,x130))) 100 0 (fun _ _=>.any) (by omega) (by omega) (fun j hj=>by omega)
    refine ⟨n1,g,n2,x,g',x',?_,?_,⟨Bi,IX hg2 hg4,fun j hj=>?_,fun j hj=>?_⟩,⟨⟨hn1,hn2,fun j hj=>?_⟩,⟨by omega,by omega⟩,fun t' e1 e2 e3=>?_,fun h=>?_⟩⟩
    ·unfold F25 G3
     rw [ae (by simpa using ht1),ae (by simpa using ht2),IL,aa,hq,af rfl,c42,aa]
     rw [show (0:Int)=Int.ofNat 0 from rfl]
     rw [(CT N n1 n2 F f1 f2 s tx ty (Int.ofNat t) fl hN hl _ _ 100 0 (by omega) (by omega)).2 (fun hc=>hb (.inr hc)),hg1,aa]
     rw [hx1];rfl
    ·unfold F26 G2
     rw [c44,aa,ae (by simpa using ht1),ae (by simpa using ht2),Oo,aa]
     refine (congrArg (fun z=>ob z _) h3).trans ?_
     rw [hr,af rfl,hg3,aa]
     refine (congrArg (fun z=>ob z _) hx3).trans ?_
     rfl
    ·exact (hx4 j hj).1.trans (hx2 j hj).1.symm
    ·obtain ⟨a1,a2⟩:=hx2 j hj
     obtain ⟨b1,b2⟩:=hx4 j hj
     rw [a1]
     exact IX a2 b2
    ·rw [(hx2 j hj).1];exact hh j hj
    ·have:t' = t:=by have:=e1;simp at this;omega
     subst this
     exact ⟨rfl,rfl,hg2,hx2⟩
    ·rw [hcf,hNN] at h
     rcases h with k | k | k
     ·exact absurd k (by simp)
     ·exact absurd k ht2
     ·exact absurd k hb
theorem vc (n:Nat) (f:FF) (n2:Nat) (f2:FF) (hn:n<=60):∃ p q r s,F20 100 n f n2 f2=some (p,q,r,s)/\(0<n->Bds f n p q r s):=by
 obtain ⟨p,q,r,s,h1,h2,_⟩:=FG n f hn
 refine ⟨p,q,r,s,?_,h2⟩
 unfold F20
 rw [h1,aa]
structure cD (p:Nat->CV):Prop where
 small:IY ((p 6).len) ((p 7).len) ((p 7).el)
 shape:ml ((p 6).len) ((p 6).el) ((p 7).len) ((p 7).el)
theorem cD.box {p:Nat->CV} (V:cD p):∃ a b c d,F20 100 ((p 6).len) ((p 6).el) ((p 7).len) ((p 7).el)=some (a,b,c,d)/\Bds ((p 6).el) ((p 6).len) a b c d /\
  (-32768<=a/\a<=c/\c<=32768)/\(-32768<=b/\b<=d/\d<=32768):=by
 have h3:=V.shape.outer.big
 have h4:=V.shape.outer.small
 obtain ⟨a,b,c,d,h1,h2⟩:=vc ((p 6).len) ((p 6).el) ((p 7).len) ((p 7).el) (by omega)
 have hB:=h2 (by omega)
 refine ⟨a,b,c,d,h1,hB,?_⟩
 obtain ⟨q1,q2⟩:=hB
 obtain ⟨⟨j1,k1,e1⟩,⟨j2,k2,e2⟩,⟨j3,k3,e3⟩,⟨j4,k4,e4⟩⟩:=q2 (by omega)
 obtain ⟨n1,n2,n3,n4⟩:=V.shape.outer.near j1 k1
 obtain ⟨m1,m2,m3,m4⟩:=V.shape.outer.near j2 k2
 obtain ⟨r1,r2,r3,r4⟩:=V.shape.outer.near j3 k3
 obtain ⟨s1,s2,s3,s4⟩:=V.shape.outer.near j4 k4
 obtain ⟨w1,w2,w3,w4⟩:=q1 j1 k1
 omega
theorem cD.good {p:Nat->CV} (V:cD p):Pi p:=by
 have h4:=V.shape.outer.small
 refine ⟨by omega,fun t=>?_⟩
 obtain ⟨a,b,c,d,h1,_,h2,h3⟩:=V.box
 obtain ⟨q,g1,g2⟩:=AQ p t (by omega)
 have e:q=(a,b,c,d):=rjZ (g1.symm.trans h1)
 subst e
 have e:aK p t=szB t a b c d:=by unfold aK;rw [g2];rfl
 rw [e]
 unfold szB
 split
 ·split<;>(dsimp only;omega)
 ·dsimp only;omega
theorem cD.turned {p:Nat->CV} (V:cD p) (t:Int) (ht:t=0\/t=1):∃ n f n2 f2 lx ly hx hy,F25 100 ((p 6).len) ((p 6).el) ((p 7).len) ((p 7).el) ByteArray.empty 0 0 t false=some (n,f,n2,f2) /\
  F20 100 n f n2 f2=some (lx,ly,hx,hy)/\(-32768<=lx/\lx<=32768)/\(-32768<=ly/\ly<=32768):=by
 obtain ⟨tn,rfl,htn⟩:∃ tn:Nat,t=Int.ofNat tn/\tn<=1:=by
  rcases ht with rfl | rfl
  ·exact ⟨0,rfl,by omega⟩
  ·exact ⟨1,rfl,by omega⟩
 have h3:=V.shape.outer.big
 have h4:=V.shape.outer.small
 obtain ⟨a,c,b,d,c',d',e1,_,_,M⟩:=DY ((p 6).len) ((p 7).len) ((p 6).el) ((p 7).el) ByteArray.empty 0 0 (Int.ofNat tn) false V.small
 have nf:¬ (jR 0 0=true\/tu (1+(p 7).len) (cfh ((p 6).len) ((p 6).el) ((p 7).el)) 0):=by
  rintro (h | h)
  ·exact absurd h (by decide)
  ·exact Bu V.shape.outer.near (fun j hj=>(V.shape.hole j hj).valid.near) h
 obtain ⟨rfl,rfl,hA,_⟩:=M.all tn rfl (by omega) nf
 obtain ⟨lx,ly,hx,hy,e2,e3⟩:=vc ((p 6).len) c ((p 7).len) d (by omega)
 refine ⟨_,c,_,d,lx,ly,hx,hy,e1,e2,?_⟩
 obtain ⟨_,q2⟩:=e3 (by omega)
 obtain ⟨⟨j1,k1,w1⟩,⟨j2,k2,w2⟩,_⟩:=q2 (by omega)
 have key:∀ j,j<(p 6).len->(-32768<=(c j 0).int/\(c j 0).int<=32768)/\(-32768<=(c j 1).int/\(c j 1).int<=32768):=by
  intro j hj
  obtain ⟨z1,z2⟩:=hA j hj
  obtain ⟨n1,n2,n3,n4⟩:=V.shape.outer.near j hj
  rw [z1,z2]
  have:tn=0\/tn=1:=by omega
  rcases this with rfl | rfl
  ·show (-32768<=w64 (((p 6).el j 0).int+0)/\w64 (((p 6).el j 0).int+0)<=32768)/\(-32768<=w64 (((p 6).el j 1).int+0)/\w64 (((p 6).el j 1).int+0)<=32768)
   rw [aA (by omega) (by omega),aA (by omega) (by omega)]
   omega
  ·show (-32768<=w64 (w64 (0-((p 6).el j 1).int)+0)/\w64 (w64 (0-((p 6).el j 1).int)+0)<=32768)/\(-32768<=w64 (((p 6).el j 0).int+0)/\w64 (((p 6).el j 0).int+0)<=32768)
   rw [aA (n:=0-((p 6).el j 1).int) (by omega) (by omega),aA (by omega) (by omega),aA (by omega) (by omega)]
   omega
 rw [<- w1,<- w2]
 exact ⟨(key j1 k1).1,(key j2 k2).2⟩
def aQ (p:Nat->CV) (t:Int):Int × Int:=match F25 100 ((p 6).len) ((p 6).el) ((p 7).len) ((p 7).el) ByteArray.empty 0 0 t false with
 | some z=>match F20 100 z.1 z.2.1 z.2.2.1 z.2.2.2 with
  | some y=>(y.1,y.2.1)
  | none=>(0,0)
 | none=>(0,0)
def B3 (p:Nat->CV) (t x y:Int):Prop:=(-32768<=x-(aQ p t).1/\x-(aQ p t).1<=32768)/\(-32768<=y-(aQ p t).2/\y-(aQ p t).2<=32768)
theorem cD.lo {p:Nat->CV} (V:cD p) (t:Int) (ht:t=0\/t=1):(-32768<=(aQ p t).1/\(aQ p t).1<=32768)/\(-32768<=(aQ p t).2/\(aQ p t).2<=32768):=by
 obtain ⟨n,f,n2,f2,lx,ly,hx,hy,e1,e2,e3⟩:=V.turned t ht
 unfold aQ
 rw [e1]
 dsimp only
 rw [e2]
 exact e3
theorem Bb {p q:Nat->CV} (V:cD p) (E:AK q p) (t x y:Int) (ht:t=0\/t=1) (hx : -1099511627776<=x/\x<=1099511627776) (hy : -1099511627776<=y/\y<=1099511627776) :
  ∃ b,Ek 100 q t x y=some ((p 0).str,x-(aQ p t).1,y-(aQ p t).2,t,false,b)/\(b=true↔B3 p t x y):=by
 have L:=V.lo t ht
 obtain ⟨n,f,n2,f2,lx,ly,hx',hy',e1,e2,_⟩:=V.turned t ht
 have el:aQ p t=(lx,ly):=by
  unfold aQ
  rw [e1]
  dsimp only
  rw [e2]
 unfold Ek B3
 rw [E.ol,E.oe,E.hl,E.he,e1,aa]
 dsimp only
 rw [e2,aa,E.id,el]
 rw [el] at L
 dsimp only at L ⊢
 rw [aA (n:=x-lx) (by omega) (by omega),aA (n:=y-ly) (by omega) (by omega),dQ,aa]
 by_cases c1 : -32768<=x-lx/\x-lx<=32768
 ·rw [ae (by simp [c1.1,c1.2]),dQ,aa]
  refine ⟨_,rfl,?_⟩
  simp only [qaZ,decide_eq_true_eq]
  exact ⟨fun h=>⟨c1,h⟩,fun h=>h.2⟩
 ·rw [af (by simp only [rhZ,ne_eq,Bool.not_eq_true,Bool.and_eq_false_iff,decide_eq_false_iff_not];omega)]
  exact ⟨false,rfl,by simp only [Bool.false_eq_true,false_iff];exact fun h=>c1 h.1⟩
theorem lN.congr {len wid:Int} {n:Nat} {r r' : FF} {x y l w gap:Int} (e:∀ j c,j<n->c<4->bx r' j c=bx r j c) (h:lN len wid n r x y l w gap):lN len wid n r' x y l w gap:=by
 obtain ⟨h1,h2,h3,h4⟩:=h
 refine ⟨h1,fun j hj=>?_,h3,fun j hj=>?_⟩
 ·have:=h2 j hj
  unfold NrJ at this ⊢
  rw [e j 0 hj (by omega),e j 1 hj (by omega),e j 2 hj (by omega),e j 3 hj (by omega)];exact this
 ·have:=h4 j hj
  unfold ot at this ⊢
  rw [e j 0 hj (by omega),e j 1 hj (by omega),e j 2 hj (by omega),e j 3 hj (by omega)];exact this
abbrev cN (ch:FF) (i:Nat):Nat:=((ch i 0).int).toNat
def KF (ch R:FF):FF:=fun j c=>R (cN ch j) c
def OkI (f:FF) (tl:List Int) (ch R:FF) (gap L W:Int) (i:Nat):Prop :=
 B3 (f (cN ch i)) (tl.getD (cN ch i) 0) (bx R (cN ch i) 0) (bx R (cN ch i) 1) /\
 lN L W i (KF ch R) (bx R (cN ch i) 0) (bx R (cN ch i) 1) (bx R (cN ch i) 2-bx R (cN ch i) 0) (bx R (cN ch i) 3-bx R (cN ch i) 1) gap
structure FL (f:FF) (tl:List Int) (ch R S:FF) (i:Nat):Prop where
 id:(S i 0).str=(f (cN ch i) 0).str
 x:(S i 1).int=bx R (cN ch i) 0-(aQ (f (cN ch i)) (tl.getD (cN ch i) 0)).1
 y:(S i 2).int=bx R (cN ch i) 1-(aQ (f (cN ch i)) (tl.getD (cN ch i) 0)).2
 turn:(S i 3).int=tl.getD (cN ch i) 0
 flip:(S i 4).bool=false
structure B2 (n:Nat) (f:FF) (tl:List Int) (k:Nat) (ch R:FF):Prop where
 n4:n<=4
 tlen:tl.length=n
 k4:k<=4
 part:∀ i,i<n->cD (f i)
 mem:∀ i,i<k->0<=(ch i 0).int/\(ch i 0).int<n
 turn:∀ i,i<k->tl.getD (cN ch i) 0=0\/tl.getD (cN ch i) 0=1
 rng:∀ i,i<k->∀ c,c<4->0<=bx R (cN ch i) c/\bx R (cN ch i) c<=1099511627776
theorem Jw {ρ:Type} {n:Nat} {f:FF} {tl:List Int} {k:Nat} {ch R:FF} (H:B2 n f tl k ch R) (a b e:ByteArray) (c L W gap:Int) (k0:Option ρ) (k1:Nat->FF->Option ρ):∀ (m i:Nat) (S T:FF),k<m+i->i<=k ->
  (∀ j,j<i->FL f tl ch R S j)->(∀ j c,j<i->c<4->T j c=CV.i .i64 (bx R (cN ch j) c)) ->
  (∃ S',mu 100 n f tl.length (fL tl) n R gap k ch (Int.ofNat k) a b c L W e m i (Int.ofNat i) S T k0 k1=k1 k S'/\(∀ j,j<k->FL f tl ch R S' j)/\∀ j,i<=j->j<k->OkI f tl ch R gap L W j) \/
  (mu 100 n f tl.length (fL tl) n R gap k ch (Int.ofNat k) a b c L W e m i (Int.ofNat i) S T k0 k1=k0/\∃ j,j<k/\¬ OkI f tl ch R gap L W j):=by
 intro m
 induction m with
 | zero=>intro i S T h1 h2;omega
 | succ m ih =>
  intro i S T h1 h2 hS hT
  unfold mu
  rw [aF,ay,ao]
  by_cases h:i<k
  ·obtain ⟨m0,m1⟩:=H.mem i h
   have hb:inb ((ch i 0).int) n=true:=dk m0 m1
   have hj:cN ch i<n:=by unfold cN;omega
   have g:=H.rng i h
   have g0:=g 0 (by omega)
   have g1:=g 1 (by omega)
   have g2:=g 2 (by omega)
   have g3:=g 3 (by omega)
   have hk4:=H.k4
   obtain ⟨z,e1,hz⟩:=Bb (q:=aw [(.s ((f (cN ch i) 0).str)),(.i .i64 ((f (cN ch i) 1).int)),(.i .i64 ((f (cN ch i) 2).int)),(.s ((f (cN ch i) 3).str)),(.s ((f (cN ch i) 4).str)),(.i .i64 ((f (cN ch i) 5).int)),(.ro false (.pr (.int .i64) (.pr (.int .i64) .nil)) ((f (cN ch i) 6).len) ((f (cN ch i) 6).el)),(.ro false (.pr (.sl (.pr (.int .i64) (.pr (.int .i64) .nil))) .nil) ((f (cN ch i) 7).len) ((f (cN ch i) 7).el)),(.s ((f (cN ch i) 8).str)),(.i .i64 ((f (cN ch i) 9).int)),(.i .i64 ((f (cN ch i) 10).int)),(.i .i64 ((f (cN ch i) 11).int)),(.i .i64 ((f (cN ch i) 12).int)),(.i .i64 ((f (cN ch i) 13).int)),(.i .i64 ((f (cN ch i) 14).int)),(.i .i64 ((f (cN ch i) 15).int)),(.i .i64 ((f (cN ch i) 16).int)),(.i .i64 ((f (cN ch i) 17).int))])
    (H.part _ hj) ⟨rfl,rfl,rfl,rfl,rfl⟩ (tl.getD (cN ch i) 0) (bx R (cN ch i) 0) (bx R (cN ch i) 1) (H.turn i h) (by omega) (by omega)
   rw [ae (qcZ h),ae (qcZ h),ae hb,H.tlen,ae hb,ae hb]
   have e1':=e1
   rw [show (fL tl (Int.toNat ((ch i 0).int)) 0).int=tl.getD (cN ch i) 0 from rfl]
   rw [e1,aa]
   cases z with
   | false =>
    rw [af (by rfl)]
    exact .inr ⟨rfl,i,h,fun q=>by have:=hz.2 q.1;cases this⟩
   | true =>
    obtain ⟨y,e2,hy⟩:=Fo L W i T (bx R (cN ch i) 0) (bx R (cN ch i) 1) (bx R (cN ch i) 2-bx R (cN ch i) 0) (bx R (cN ch i) 3-bx R (cN ch i) 1) gap (by omega)
    rw [ae (by rfl),ae hb,ae hb,ae hb,ae hb,ae hb,aA (n:=bx R (cN ch i) 2-bx R (cN ch i) 0) (by omega) (by omega),aA (n:=bx R (cN ch i) 3-bx R (cN ch i) 1) (by omega) (by omega),e2,aa]
    have hTT:∀ j c,j<i->c<4->bx T j c=bx (KF ch R) j c:=fun j c q1 q2=>by
     unfold bx
     rw [hT j c q1 q2];rfl
    cases y with
    | false =>
     rw [ae (by rfl)]
     refine .inr ⟨rfl,i,h,fun q=>?_⟩
     have:=hy.2 (q.2.congr hTT)
     cases this
    | true =>
     have hOk:OkI f tl ch R gap L W i:=⟨hz.1 rfl,(hy.1 rfl).congr fun j c q1 q2=>(hTT j c q1 q2).symm⟩
     rw [af (by rfl),ae (jN (by omega)),ae (jN (by omega)),ae hb,ax (by omega)]
     have:=ih (i+1) (aC i S (aL 5 [(.s ((f (cN ch i) 0).str)),(.i .i64 (bx R (cN ch i) 0-(aQ (f (cN ch i)) (tl.getD (cN ch i) 0)).1)),(.i .i64 (bx R (cN ch i) 1-(aQ (f (cN ch i)) (tl.getD (cN ch i) 0)).2)),(.i .i64 (tl.getD (cN ch i) 0)),(.b false)]))
      (aC i T (aL 4 [(.i .i64 (bx R (cN ch i) 0)),(.i .i64 (bx R (cN ch i) 1)),(.i .i64 (bx R (cN ch i) 2)),(.i .i64 (bx R (cN ch i) 3))])) (by omega) (by omega) (fun j hj=>?_) (fun j c hj hc=>?_)
     ·rw [H.tlen] at this
      rcases this with ⟨S',e3,hS',hO⟩ | hno
      ·refine .inl ⟨S',e3,hS',fun j h5 h6=>?_⟩
       by_cases hji:j=i
       ·rw [hji];exact hOk
       ·exact hO j (by omega) h6
      ·exact .inr hno
     ·by_cases hji:j<i
      ·have q:=hS j hji
       exact ⟨by rw [dm _ _ _ _ _ hji];exact q.id,by rw [dm _ _ _ _ _ hji];exact q.x,by rw [dm _ _ _ _ _ hji];exact q.y,by rw [dm _ _ _ _ _ hji];exact q.turn,by rw [dm _ _ _ _ _ hji];exact q.flip⟩
      ·have hje:j=i:=by omega
       subst hje
       refine ⟨?_,?_,?_,?_,?_⟩<;>(rw [cQ _ _ _ _ _ (rmZ _),Nat.sub_self];rfl)
     ·by_cases hji:j<i
      ·rw [dm _ _ _ _ _ hji];exact hT j c hji hc
      ·have hje:j=i:=by omega
       subst hje
       rw [cQ _ _ _ _ _ (rmZ _),Nat.sub_self]
       match c,hc with
       | 0,_=>rfl
       | 1,_=>rfl
       | 2,_=>rfl
       | 3,_=>rfl
  ·rw [af (qeZ h)]
   have:i=k:=by omega
   subst this
   exact .inl ⟨S,rfl,hS,fun j h5 h6=>by omega⟩
theorem Mz {n:Nat} {f:FF} {tl:List Int} {k:Nat} {ch R:FF} (H:B2 n f tl k ch R) (a b e:ByteArray) (c L W gap:Int) :
  (∃ S,G5 100 a b c L W e n f tl.length (fL tl) k ch n R gap=some (a,gap,k,S,true)/\(∀ j,j<k->FL f tl ch R S j)/\∀ j,j<k->OkI f tl ch R gap L W j) \/
  (G5 100 a b c L W e n f tl.length (fL tl) k ch n R gap=some (ByteArray.empty,0,0,(fun _ _=>.any),false)/\∃ j,j<k/\¬ OkI f tl ch R gap L W j):=by
 unfold G5 I1
 rcases Jw H a b e c L W gap (some (true,ByteArray.empty,0,0,(fun _ _=>CV.any),false)) (fun x58 x59=>(some (false,a,gap,x58,x59,true))) 100 0 (fun _ _=>.any) (fun _ _=>.any) (by have:=H.k4;omega) (by omega) (fun j hj=>by omega) (fun j c hj=>by omega) with ⟨S,h1,h2,h3⟩ | ⟨h1,h2⟩
 ·refine .inl ⟨S,?_,h2,fun j hj=>h3 j (by omega) hj⟩
  refine (congrArg (fun z=>ob z _) h1).trans ?_
  rfl
 ·refine .inr ⟨?_,h2⟩
  refine (congrArg (fun z=>ob z _) h1).trans ?_
  rfl
abbrev FF':=Nat->Nat->CV
abbrev Sp:=ByteArray × Int × Int × Int × Bool
abbrev Sh:=Nat × (Nat->Nat->CV) × Nat × (Nat->Nat->CV)
def sp (S:FF') (j:Nat):Sp:=((S j 0).str,(S j 1).int,(S j 2).int,(S j 3).int,(S j 4).bool)
def eqS (a b:ByteArray):Bool:=ByteArray.toList a==ByteArray.toList b
def vS (PF:FF') (s:ByteArray):Nat->Nat->Int
 | 0,_=>-1
 | m+1,i=>bif eqS ((PF i 0).str) s then Int.ofNat i else vS PF s m (i+1)
def fd (P:Nat) (PF:FF') (s:ByteArray):Int:=vS PF s P 0
theorem BM (PF:FF') (s:ByteArray):∀ m i,vS PF s m i = -1\/∃ k:Nat,i<=k/\k<i+m/\vS PF s m i=Int.ofNat k/\eqS ((PF k 0).str) s=true
 | 0,i=>.inl rfl
 | m+1,i=>by
  unfold vS
  cases h:eqS ((PF i 0).str) s with
  | true=>exact .inr ⟨i,rmZ i,by omega,rfl,h⟩
  | false =>
   rcases BM PF s m (i+1) with h1 | ⟨k,k1,k2,k3,k4⟩
   ·exact .inl h1
   ·exact .inr ⟨k,by omega,by omega,k3,k4⟩
theorem tX (P:Nat) (PF:FF') (s:ByteArray):fd P PF s = -1\/∃ k:Nat,k<P/\fd P PF s=Int.ofNat k/\eqS ((PF k 0).str) s=true:=by
 rcases BM PF s P 0 with h | ⟨k,k1,k2,k3,k4⟩
 ·exact .inl h
 ·exact .inr ⟨k,by omega,k3,k4⟩
theorem D6 (P:Nat) (PF:FF') (s:ByteArray) (hP:P<=90):∀ (m i:Nat),P<m+i->i<=P->oq 100 P PF (aw [.s s]) (Int.ofNat P) m (Int.ofNat i) (fun x=>some x) (some (-1))=some (vS PF s (P-i) i):=by
 intro m
 induction m with
 | zero=>intro i h1 h2;omega
 | succ m ih =>
  intro i h1 h2
  unfold oq
  rw [aF,ay,ao]
  by_cases h:i<P
  ·have e:Pp 100 (aw (pj kR0 (PF i))) (aw [.s s])=some (eqS ((PF i 0).str) s):=rfl
   rw [ae (qcZ h),ae (qcZ h),e,aa,show P-i=(P-(i+1))+1 from by omega,vS]
   cases hq:eqS ((PF i 0).str) s with
   | true=>rfl
   | false=>rw [af rfl,af rfl,ax (by omega)];exact ih (i+1) (by omega) (by omega)
  ·rw [af (qeZ h),show P-i=0 from by omega];rfl
theorem IH (P:Nat) (PF:FF') (s:ByteArray) (hP:P<=90):Po 100 P PF (aw [.s s])=some (fd P PF s):=D6 P PF s hP 100 0 (by omega) (by omega)
theorem GJ {P:Nat} {PF:FF'} {s:ByteArray} (hP:P<=90) (h:fd P PF s = -1):Za0 100 P PF s=some (ByteArray.empty,0,0,ByteArray.empty,ByteArray.empty,0,0,(fun _ _=>.any),0,(fun _ _=>.any),ByteArray.empty,0,0,0,0,0,0,0,0,0,false):=by
 unfold Za0 FP
 rw [IH P PF s hP,aa,h,ae (by rfl)]
 rfl
theorem Ao {P:Nat} {PF:FF'} {s:ByteArray} {k:Nat} (hP:P<=90) (hk:k<P) (h:fd P PF s=Int.ofNat k):Za0 100 P PF s=some ((PF k 0).str,(PF k 1).int,(PF k 2).int,(PF k 3).str,(PF k 4).str,(PF k 5).int,(PF k 6).len,(PF k 6).el,(PF k 7).len,(PF k 7).el,(PF k 8).str,(PF k 9).int,(PF k 10).int,(PF k 11).int,(PF k 12).int,(PF k 13).int,(PF k 14).int,(PF k 15).int,(PF k 16).int,(PF k 17).int,true):=by
 unfold Za0 FP
 rw [IH P PF s hP,aa,h,af (qeZ (by simp)),ay,ae (qcZ hk),ao]
 rfl
structure B0 (P:Nat) (PF:FF'):Prop where
 parts:P<=20
 outer:∀ j,j<P->(PF j 6).len<=12
 holes:∀ j,j<P->(PF j 7).len<=4
 hole:∀ j,j<P->∀ i,i<(PF j 7).len->((PF j 7).el i 0).len<=12
theorem B0.small {P:Nat} {PF:FF'} (h:B0 P PF) {j:Nat} (hj:j<P):IY ((PF j 6).len) ((PF j 7).len) ((PF j 7).el) :=
 ⟨by have:=h.outer j hj;omega,by have:=h.holes j hj;omega,fun i hi=>by have:=h.hole j hj i hi;omega⟩
theorem Va {ρ:Type} (N a b:Nat) (F c d:Nat->Nat->CV) (hN:N<=13) (k:Int->Option ρ):∀ (m i:Nat) (s:Int),N<m+i->i<=N->∃ x,vA 100 N F (Int.ofNat N) a c b d m s (Int.ofNat i) k=k x:=by
 intro m
 induction m with
 | zero=>intro i s h1 h2;omega
 | succ m ih =>
  intro i s h1 h2
  unfold vA
  rw [aF,ay,ao]
  by_cases h:i<N
  ·obtain ⟨x,hx,_⟩:=oZ ((F i 0).len) ((F i 0).el)
   rw [ae (qcZ h),ae (qcZ h),hx,aa,ax (by omega)]
   exact ih (i+1) _ (by omega) (by omega)
  ·rw [af (qeZ h)]
   exact ⟨s,rfl⟩
theorem Ot (n1:Nat) (f1:Nat->Nat->CV) (n2:Nat) (f2:Nat->Nat->CV) (hn:n2<=12):∃ x,F18 100 n1 f1 n2 f2=some x:=by
 unfold F18
 obtain ⟨c,h1,_,_⟩:=li n1 n2 f1 f2
 rw [h1,aa]
 have c42:F42 100 n1 f1 n2 f2=some (1+n2,aC 1 (aL 1 [(.ro false (.pr (.int .i64) (.pr (.int .i64) .nil)) n1 f1)]) f2):=by
  unfold F42
  rw [ae (by rw [Nat.ble_eq];omega)]
 by_cases hc:c=0
 ·rw [af (by simpa using hc),c42,aa,show (0:Int)=Int.ofNat 0 from rfl]
  obtain ⟨x,hx⟩:=Va (1+n2) n1 n2 (aC 1 (aL 1 [(.ro false (.pr (.int .i64) (.pr (.int .i64) .nil)) n1 f1)]) f2) f1 f2 (by omega) (fun x26=>some x26) 100 0 (Int.ofNat 0) (by omega) (by omega)
  exact ⟨x,hx⟩
 ·rw [ae (by simpa using hc)]
  exact ⟨_,rfl⟩
def vY (PF:FF') (k:Nat):Int:=(F18 100 ((PF k 6).len) ((PF k 6).el) ((PF k 7).len) ((PF k 7).el)).getD 0
theorem GW {P:Nat} {PF:FF'} (hP:B0 P PF) {k:Nat} (hk:k<P):F18 100 ((PF k 6).len) ((PF k 6).el) ((PF k 7).len) ((PF k 7).el)=some (vY PF k):=by
 obtain ⟨x,hx⟩:=Ot ((PF k 6).len) ((PF k 6).el) ((PF k 7).len) ((PF k 7).el) (by have:=hP.holes k hk;omega)
 have:vY PF k=x:=by unfold vY;rw [hx];rfl
 rw [this]
 exact hx
def pkN (P:Nat) (PF:FF') (s:ByteArray):Nat:=(fd P PF s).toNat
def ua (P:Nat) (PF S:FF'):Int->Nat->Nat->Int
 | acc,0,_=>acc
 | acc,m+1,j=>ua P PF S (bif decide (fd P PF ((S j 0).str)<0) then acc else w64 (acc+vY PF (pkN P PF ((S j 0).str)))) m (j+1)
theorem Ev {P:Nat} {PF S S' : FF'}:∀ {m j:Nat} {acc:Int},(∀ t,j<=t->t<j+m->(S' t 0).str=(S t 0).str)->ua P PF S' acc m j=ua P PF S acc m j
 | 0,_,_,_=>rfl
 | m+1,j,acc,h=>by
  unfold ua
  have e:=h j (rmZ j) (by omega)
  rw [e]
  exact Ev fun t a b=>h t (by omega) (by omega)
theorem Dt {ρ:Type} (P n:Nat) (PF S:FF') (hP:B0 P PF) (hn:n<=90) (a:ByteArray) (b:Int) (k0:Int->Option ρ):∀ (m j:Nat) (acc:Int),n<m+j->j<=n->mC 100 P PF n S (Int.ofNat n) a b m acc (Int.ofNat j) k0=k0 (ua P PF S acc (n-j) j):=by
 have hP':=hP.parts
 intro m
 induction m with
 | zero=>intro j acc h1 h2;omega
 | succ m ih =>
  intro j acc h1 h2
  unfold mC
  rw [aF,ay,ao]
  by_cases h:j<n
  ·rw [ae (qcZ h),ae (qcZ h),ax (by omega),show n-j=(n-(j+1))+1 from by omega,ua]
   rcases tX P PF ((S j 0).str) with hf | ⟨k,hk,hf,_⟩
   ·rw [GJ (by omega) hf,aa,af (by rfl),hf,ih (j+1) acc (by omega) (by omega)];rfl
   ·have hpk:pkN P PF ((S j 0).str)=k:=by unfold pkN;rw [hf];rfl
    rw [Ao (by omega) hk hf,aa]
    dsimp only
    rw [ae rfl,GW hP hk,aa,hf,hpk,ih (j+1) _ (by omega) (by omega),af (qeZ (by simp))]
  ·rw [af (qeZ h),show n-j=0 from by omega];rfl
def ek (P:Nat) (PF S:FF') (n:Nat):Int:=ua P PF S 0 n 0
theorem AN {P n:Nat} {PF S:FF'} (hP:B0 P PF) (hn:n<=32) (a:ByteArray) (b:Int):lU 100 a b n S P PF=some (ek P PF S n):=by
 unfold lU
 have hn' : ¬ (Int.ofNat n)>32:=by show ¬ (n:Int)>32;omega
 rw [af (qeZ hn')]
 exact Dt P n PF S hP (by omega) a b (fun x28=>some x28) 100 0 0 (by omega) (by omega)
theorem Eu {P n:Nat} {PF S S' : FF'} (h:∀ t,t<n->(S' t 0).str=(S t 0).str):ek P PF S' n=ek P PF S n:=Ev fun t _ q=>h t (by omega)
theorem FY (P:Nat) (PF S:FF'):ek P PF S 0=0:=rfl
structure Chs (tl:List Int) (i k:Nat) (c:FF):Prop where
 le:k<=i
 mem:∀ t,t<k->(0<=(c t 0).int/\(c t 0).int<i)/\0<=tl.getD (cN c t) 0
 asc:∀ s t,s<t->t<k->(c s 0).int<(c t 0).int
 all:∀ j:Nat,j<i->0<=tl.getD j 0->∃ t,t<k/\(c t 0).int=j
def chN (tl:List Int):Nat->Nat->Nat->FF->Nat × FF
 | 0,_,k,c=>(k,c)
 | m+1,i,k,c=>if 0<=tl.getD i 0 then chN tl m (i+1) (k+1) (aC k c (aL 1 [(.i .i64 (Int.ofNat i))])) else chN tl m (i+1) k c
theorem oX {ρ:Type} (tl:List Int) (ht:tl.length<=4) (a1 a2:ByteArray) (a3 a4 a5:Int) (a6:ByteArray) (a7:Nat) (a8:FF) (a9:Int) (a10:Nat) (a11:FF) (a12:ByteArray) (a13:Int) (a14:Nat) (a15:FF) (a16:Int):∀ (m i k:Nat) (c:FF),tl.length<m+i->i<=tl.length->Chs tl i k c ->
  ∃ k' c',(k',c')=chN tl (tl.length-i) i k c/\(∀ k0:Nat->FF->Option ρ,j5 100 tl.length (fL tl) (Int.ofNat tl.length) a1 a2 a3 a4 a5 a6 a7 a8 a9 a10 a11 a12 a13 a14 a15 a16 m (Int.ofNat i) k c k0=k0 k' c')/\Chs tl tl.length k' c':=by
 intro m
 induction m with
 | zero=>intro i k c h1 h2;omega
 | succ m ih =>
  intro i k c h1 h2 hC
  by_cases h:i<tl.length
  ·have e:(fL tl i 0).int=tl.getD i 0:=rfl
   by_cases q:tl.getD i 0>=0
   ·have hle:=hC.le
    have hN:Chs tl (i+1) (k+1) (aC k c (aL 1 [(.i .i64 (Int.ofNat i))])):=by
     have new:(aC k c (aL 1 [(.i .i64 (Int.ofNat i))]) k 0).int=(i:Int):=by rw [cQ _ _ _ _ _ (rmZ _),Nat.sub_self];rfl
     have old:∀ t,t<k->(aC k c (aL 1 [(.i .i64 (Int.ofNat i))]) t 0).int=(c t 0).int:=fun t w=>by rw [dm _ _ _ _ _ w]
     refine ⟨by omega,fun t w=>?_,fun s t w1 w2=>?_,fun j w1 w2=>?_⟩
     ·by_cases hk:t<k
      ·unfold cN
       rw [old t hk]
       have:=hC.mem t hk
       exact ⟨⟨this.1.1,by omega⟩,this.2⟩
      ·have:t=k:=by omega
       subst this
       unfold cN
       rw [new]
       exact ⟨by omega,by simpa using q⟩
     ·by_cases hk:t<k
      ·rw [old t hk,old s (by omega)];exact hC.asc s t w1 hk
      ·have:t=k:=by omega
       subst this
       rw [new,old s w1]
       exact (hC.mem s w1).1.2
     ·by_cases hj:j=i
      ·subst hj;exact ⟨k,by omega,new⟩
      ·obtain ⟨t,u1,u2⟩:=hC.all j (by omega) w2
       exact ⟨t,by omega,by rw [old t u1];exact u2⟩
    obtain ⟨k',c',e0,e1,hC'⟩:=ih (i+1) (k+1) _ (by omega) (by omega) hN
    refine ⟨k',c',by rw [show tl.length-i=(tl.length-(i+1))+1 from by omega,chN,if_pos q];exact e0,fun k0=>?_,hC'⟩
    unfold j5
    rw [aF,ay,ao,ae (qcZ h),ae (qcZ h),e,ae (qcZ q),ae (jN (by omega)),ax (by omega)]
    exact e1 k0
   ·have hN:Chs tl (i+1) k c:=⟨by have:=hC.le;omega,fun t w=>⟨⟨(hC.mem t w).1.1,by have:=(hC.mem t w).1.2;omega⟩,(hC.mem t w).2⟩,hC.asc,fun j w1 w2=>by
     by_cases hj:j=i
     ·subst hj;exact absurd w2 q
     ·exact hC.all j (by omega) w2⟩
    obtain ⟨k',c',e0,e1,hC'⟩:=ih (i+1) k c (by omega) (by omega) hN
    refine ⟨k',c',by rw [show tl.length-i=(tl.length-(i+1))+1 from by omega,chN,if_neg q];exact e0,fun k0=>?_,hC'⟩
    unfold j5
    rw [aF,ay,ao,ae (qcZ h),ae (qcZ h),e,af (qeZ q),ax (by omega)]
    exact e1 k0
  ·have:i=tl.length:=by omega
   subst this
   refine ⟨k,c,by rw [Nat.sub_self];rfl,fun k0=>?_,hC⟩
   unfold j5
   rw [aF,af (qeZ h)]
structure jV (n:Nat) (f:FF) (tl:List Int) (k:Nat) (c:FF) (first second:List Int):Prop where
 n4:n<=4
 part:∀ i,i<n->cD (f i)
 vec:okV n tl=true
 chs:Chs tl n k c
 p1:first.Perm (liL k c)
 p2:second.Perm (liL k c)
theorem dZ (k:Nat) (c:FF):(liL k c).length=k:=by simp [liL]
theorem mV {k:Nat} {c:FF} {t:Nat} (h:t<k):(liL k c)[t]?=some ((c t 0).int):=by
 unfold liL
 rw [qhZ,rbZ h];rfl
theorem jV.tlen {n k:Nat} {f c:FF} {tl first second:List Int} (H:jV n f tl k c first second):tl.length=n:=by
 have:=H.vec
 unfold okV at this
 rw [qaZ] at this
 exact qbZ this.1
theorem Bs {n:Nat} {tl:List Int} (h:okV n tl=true) {i:Nat} (hi:i<n) (h0:0<=tl.getD i 0):tl.getD i 0=0\/tl.getD i 0=1:=by
 unfold okV at h
 rw [qaZ] at h
 have hl:=qbZ h.1
 have h2:=qiZ.1 h.2 (tl.getD i 0) (by rw [qdZ,qgZ (by omega)];exact List.getElem_mem _)
 simp only [Bool.or_eq_true,beq_iff_eq] at h2
 omega
theorem jV.place {n k:Nat} {f c:FF} {tl first second:List Int} (H:jV n f tl k c first second):second.length=k/\first.length=k /\
  (∀ t,t<k->∃ i,i<k/\second.getD t 0=(c i 0).int)/\(∀ i,i<k->∃ t,t<k/\second.getD t 0=(c i 0).int)/\(∀ s t,s<t->t<k->second.getD s 0≠second.getD t 0):=by
 have l2:=H.p2.length_eq
 have l1:=H.p1.length_eq
 rw [dZ] at l1 l2
 have nd:(liL k c).Nodup:=by
  rw [reZ,rfZ]
  intro i j hi hj hij
  rw [dZ] at hi hj
  have e1:=mV (c:=c) hi
  have e2:=mV (c:=c) hj
  rw [qgZ (by rw [dZ];exact hi)] at e1
  rw [qgZ (by rw [dZ];exact hj)] at e2
  rw [rjZ e1,rjZ e2]
  have:=H.chs.asc i j hij hj
  omega
 have nd2:second.Nodup:=H.p2.nodup_iff.2 nd
 refine ⟨l2,l1,fun t ht=>?_,fun i hi=>?_,fun s t hst ht=>?_⟩
 ·have hm:second.getD t 0∈liL k c:=H.p2.subset (by rw [qdZ,qgZ (by omega)];exact List.getElem_mem _)
  obtain ⟨i,hi,e⟩:=List.getElem_of_mem hm
  rw [dZ] at hi
  have e1:=mV (c:=c) hi
  rw [qgZ (by rw [dZ];exact hi)] at e1
  exact ⟨i,hi,e.symm.trans (rjZ e1)⟩
 ·have hm:(c i 0).int∈second:=H.p2.symm.subset (by
   have e1:=mV (c:=c) hi
   rw [qgZ (by rw [dZ];exact hi)] at e1
   rw [<- rjZ e1];exact List.getElem_mem _)
  obtain ⟨t,ht,e⟩:=List.getElem_of_mem hm
  exact ⟨t,by omega,by rw [qdZ,qgZ ht];exact e⟩
 ·rw [reZ,rfZ] at nd2
  have:=nd2 s t (by omega) (by omega) hst
  rw [qdZ,qgZ (by omega),qdZ,qgZ (by omega)]
  exact this
theorem Gi {n k:Nat} {f c:FF} {tl first second:List Int} (H:jV n f tl k c first second) (gap:Int) (hgap:0<=gap/\gap<=500) :
  ∃ R,FQ 100 n f tl.length (fL tl) first.length (fL first) second.length (fL second) gap=some (n,R)/\Pk f tl first second gap second.length R:=by
 obtain ⟨l2,l1,p1,p2,p3⟩:=H.place
 have hk:=H.chs.le
 have hn:=H.n4
 obtain ⟨R,e,hP⟩:=MC n f tl first second gap H.n4 H.tlen (by omega) (by omega) (fun t ht=>by
  obtain ⟨i,hi,e⟩:=p1 t (by omega)
  rw [e];exact (H.chs.mem i hi).1) (fun s t h1 h2=>p3 s t h1 (by omega)) hgap (fun i hi=>(H.part i hi).good) (fun x100=>(some ((Int.toNat (Int.ofNat n)),x100))) 100 0 (fun _ j=>aw [(.i .i64 0),(.i .i64 0),(.i .i64 0),(.i .i64 0)] j) (by omega) (by omega)
  ⟨fun t q=>by omega,fun t q=>by omega,fun s t q1 q2=>by omega,fun X Y q1 q2 t q=>by omega⟩
 refine ⟨R,?_,hP⟩
 unfold FQ
 have hc:(decide (0<=(Int.ofNat n))&&decide ((Int.ofNat n)<=(Int.ofNat n))&&decide ((Int.ofNat n)<=1073741824)&&true)=true:=by
  have h1:(0:Int)<=Int.ofNat n:=by show (0:Int)<=(n:Int);omega
  have h2:(Int.ofNat n)<=1073741824:=by show (n:Int)<=1073741824;omega
  rw [qcZ h1,qcZ h2,qcZ (Int.le_refl _)];rfl
 rw [ae hc]
 exact e
structure PkC (f:FF) (tl:List Int) (gap:Int) (k:Nat) (c R:FF):Prop where
 lo:∀ i,i<k->(gap<=bx R (cN c i) 0/\bx R (cN c i) 0<=1000000)/\(gap<=bx R (cN c i) 1/\bx R (cN c i) 1<=1000000)
 hi:∀ i,i<k->bx R (cN c i) 2=bx R (cN c i) 0+(aK (f (cN c i)) (tl.getD (cN c i) 0)).1/\bx R (cN c i) 3=bx R (cN c i) 1+(aK (f (cN c i)) (tl.getD (cN c i) 0)).2
 sep:∀ i j,i<k->j<k->i≠j->(bx R (cN c i) 2+gG gap<=bx R (cN c j) 0\/bx R (cN c i) 3+gG gap<=bx R (cN c j) 1)\/(bx R (cN c j) 2+gG gap<=bx R (cN c i) 0\/bx R (cN c j) 3+gG gap<=bx R (cN c i) 1)
theorem Pk.chosen {n k:Nat} {f c:FF} {tl first second:List Int} (H:jV n f tl k c first second) {gap:Int} {R:FF} (h:Pk f tl first second gap second.length R):PkC f tl gap k c R:=by
 obtain ⟨l2,l1,p1,p2,p3⟩:=H.place
 have hk:=H.chs.le
 have hn:=H.n4
 refine ⟨fun i hi=>?_,fun i hi=>?_,fun i j hi hj hij=>?_⟩
 ·obtain ⟨t,ht,e⟩:=p2 i hi
  have:=h.lo t (by omega)
  rw [e] at this
  unfold cN
  omega
 ·obtain ⟨t,ht,e⟩:=p2 i hi
  have:=h.hi t (by omega)
  rw [e] at this
  exact this
 ·obtain ⟨s,hs,e1⟩:=p2 i hi
  obtain ⟨t,ht,e2⟩:=p2 j hj
  have hne:s≠t:=by
   intro hst
   subst hst
   rw [e1] at e2
   by_cases q:i<j
   ·have:=H.chs.asc i j q hj;omega
   ·have:=H.chs.asc j i (by omega) hi;omega
  by_cases q:s<t
  ·have:=h.sep s t q (by omega)
   rw [e1,e2] at this
   by_cases b:Bef first ((c i 0).int) ((c j 0).int)
   ·exact .inl (.inl (this.1 b))
   ·exact .inl (.inr (this.2 b))
  ·have:=h.sep t s (by omega) (by omega)
   rw [e1,e2] at this
   by_cases b:Bef first ((c j 0).int) ((c i 0).int)
   ·exact .inr (.inl (this.1 b))
   ·exact .inr (.inr (this.2 b))
theorem PkC.ok {n k:Nat} {f c:FF} {tl first second:List Int} (H:jV n f tl k c first second) {gap:Int} {R:FF} (hgap:0<=gap) (h:PkC f tl gap k c R):B2 n f tl k c R:=by
 have hk:=H.chs.le
 have hn:=H.n4
 refine ⟨hn,H.tlen,by omega,H.part,fun i hi=>(H.chs.mem i hi).1,fun i hi=>Bs H.vec (by have:=(H.chs.mem i hi).1;unfold cN;omega) (H.chs.mem i hi).2,fun i hi d hd=>?_⟩
 have m:=(H.chs.mem i hi).1
 have s:=(H.part (cN c i) (by unfold cN;omega)).good.sz (tl.getD (cN c i) 0)
 have l:=h.lo i hi
 have u:=h.hi i hi
 have:d=0\/d=1\/d=2\/d=3:=by omega
 rcases this with rfl | rfl | rfl | rfl<;>omega
theorem Wr {n k:Nat} {f c:FF} {tl first second:List Int} (H:jV n f tl k c first second) {gap L W:Int} {R:FF} (hgap:0<=gap/\gap<=500) (hP:PkC f tl gap k c R) (hL:0<=L/\L<=32768) (hW:0<=W/\W<=32768) {i:Nat} (hi:i<k)
  (hat:B3 (f (cN c i)) (tl.getD (cN c i) 0) (bx R (cN c i) 0) (bx R (cN c i) 1))
  (hsz:(1<=(aK (f (cN c i)) (tl.getD (cN c i) 0)).1/\(aK (f (cN c i)) (tl.getD (cN c i) 0)).1<=32768)/\(1<=(aK (f (cN c i)) (tl.getD (cN c i) 0)).2/\(aK (f (cN c i)) (tl.getD (cN c i) 0)).2<=32768))
  (hin:bx R (cN c i) 0+(aK (f (cN c i)) (tl.getD (cN c i) 0)).1<=L-gap/\bx R (cN c i) 1+(aK (f (cN c i)) (tl.getD (cN c i) 0)).2<=W-gap):OkI f tl c R gap L W i:=by
 have l:=hP.lo i hi
 have u:=hP.hi i hi
 have C:=hP.ok H hgap.1
 refine ⟨hat,?_,fun j hj=>?_,?_,fun j hj=>?_⟩
 ·unfold rR;omega
 ·have g:=C.rng j (by omega)
  have g0:=g 0 (by omega)
  have g1:=g 1 (by omega)
  have g2:=g 2 (by omega)
  have g3:=g 3 (by omega)
  show Nr4 (bx R (cN c j) 0) (bx R (cN c j) 1) (bx R (cN c j) 2) (bx R (cN c j) 3)
  unfold Nr4
  omega
 ·unfold FIn;omega
 ·have s:=hP.sep i j hi (by omega) (by omega)
  show Apt (bx R (cN c j) 0) (bx R (cN c j) 1) (bx R (cN c j) 2) (bx R (cN c j) 3) _ _ _ _ _
  unfold Apt
  omega
abbrev NSt:=ByteArray × Int × Nat × FF × Int
structure d8 where
 a:ByteArray
 gr:ByteArray
 th:Int
 L:Int
 W:Int
 e:ByteArray
 P:Nat
 PF:FF
 gap:Int
 n:Nat
 f:FF
def pkR (z:d8) (tl first second:List Int):FF:=((FQ 100 z.n z.f tl.length (fL tl) first.length (fL first) second.length (fL second) z.gap).getD (0,fun _ _=>.any)).2
def plR (z:d8) (tl:List Int) (k:Nat) (c:FF) (first second:List Int):ByteArray × Int × Nat × FF × Bool:=(G5 100 z.a z.gr z.th z.L z.W z.e z.n z.f tl.length (fL tl) k c z.n (pkR z tl first second) z.gap).getD (ByteArray.empty,0,0,(fun _ _=>.any),false)
def eN (z:d8) (tl:List Int) (k:Nat) (c:FF) (first second:List Int) (s:NSt):NSt :=
 if (plR z tl k c first second).2.2.2.2=true/\ek z.P z.PF (plR z tl k c first second).2.2.2.1 (plR z tl k c first second).2.2.1>s.2.2.2.2 then
  ((plR z tl k c first second).1,(plR z tl k c first second).2.1,(plR z tl k c first second).2.2.1,(plR z tl k c first second).2.2.2.1,ek z.P z.PF (plR z tl k c first second).2.2.2.1 (plR z tl k c first second).2.2.1)
 else s
structure Fix (z:d8):Prop where
 gap:0<=z.gap/\z.gap<=500
 few:B0 z.P z.PF
 n4:z.n<=4
 part:∀ i,i<z.n->cD (z.f i)
theorem ry {z:d8} (Z:Fix z) {tl:List Int} {k:Nat} {c:FF} {first second:List Int} (H:jV z.n z.f tl k c first second) :
  FQ 100 z.n z.f tl.length (fL tl) first.length (fL first) second.length (fL second) z.gap=some (z.n,pkR z tl first second)/\Pk z.f tl first second z.gap second.length (pkR z tl first second) /\
  G5 100 z.a z.gr z.th z.L z.W z.e z.n z.f tl.length (fL tl) k c z.n (pkR z tl first second) z.gap=some (plR z tl k c first second) /\
  ((plR z tl k c first second).2.2.2.2=true↔∀ i,i<k->OkI z.f tl c (pkR z tl first second) z.gap z.L z.W i) /\
  ((plR z tl k c first second).2.2.2.2=true->(plR z tl k c first second).1=z.a/\(plR z tl k c first second).2.1=z.gap/\(plR z tl k c first second).2.2.1=k/\∀ j,j<k->FL z.f tl c (pkR z tl first second) (plR z tl k c first second).2.2.2.1 j) /\
  (plR z tl k c first second).2.2.1<=4:=by
 obtain ⟨R,e1,hP⟩:=Gi H z.gap Z.gap
 have eR:pkR z tl first second=R:=by unfold pkR;rw [e1];rfl
 have hk:=H.chs.le
 have hn:=H.n4
 have C:=(hP.chosen H).ok H Z.gap.1
 rw [eR]
 rcases Mz C z.a z.gr z.e z.th z.L z.W z.gap with ⟨S,e2,h2,h3⟩ | ⟨e2,i,hi,h2⟩
 ·have eP:plR z tl k c first second=(z.a,z.gap,k,S,true):=by unfold plR;rw [eR,e2];rfl
  rw [eP]
  exact ⟨e1,hP,e2,⟨fun _=>h3,fun _=>rfl⟩,fun _=>⟨rfl,rfl,rfl,h2⟩,by show k<=4;omega⟩
 ·have eP:plR z tl k c first second=(ByteArray.empty,0,0,(fun _ _=>.any),false):=by unfold plR;rw [eR,e2];rfl
  rw [eP]
  exact ⟨e1,hP,e2,⟨fun h=>(by cases h),fun h=>absurd (h i hi) h2⟩,fun h=>(by cases h),by show 0<=4;omega⟩
theorem CY {β:Type} (l:List (List Int)) (i:Nat) (h:i<l.length) (g:β->List Int->β) (s:β):(l.drop i).foldl g s=(l.drop (i+1)).foldl g (g s (l.getD i [])):=by
 rw [List.drop_eq_getElem_cons h,List.foldl_cons,qdZ,qgZ h];rfl
theorem Yq {ρ:Type} {z:d8} (Z:Fix z) {tl:List Int} {k:Nat} {c:FF} {first:List Int} (H:∀ second∈aI (liL k c),jV z.n z.f tl k c first second) (hk:k<=4) (k0:ByteArray->Int->Nat->FF->Int->Option ρ):∀ (m i:Nat) (s:NSt),(aI (liL k c)).length<m+i->i<=(aI (liL k c)).length ->
  j6 100 k c z.a z.gr z.th z.L z.W z.e z.P z.PF z.gap z.n z.f tl.length (fL tl) first.length (fL first) m (i:Int) s.1 s.2.1 s.2.2.1 s.2.2.2.1 s.2.2.2.2 k0 =
   k0 (((aI (liL k c)).drop i).foldl (fun s q=>eN z tl k c first q s) s).1 (((aI (liL k c)).drop i).foldl (fun s q=>eN z tl k c first q s) s).2.1 (((aI (liL k c)).drop i).foldl (fun s q=>eN z tl k c first q s) s).2.2.1 (((aI (liL k c)).drop i).foldl (fun s q=>eN z tl k c first q s) s).2.2.2.1 (((aI (liL k c)).drop i).foldl (fun s q=>eN z tl k c first q s) s).2.2.2.2:=by
 have hb:(Nat.ble k 4&&true)=true:=by rw [Bool.and_true,Nat.ble_eq];exact hk
 intro m
 induction m with
 | zero=>intro i s h1 h2;omega
 | succ m ih =>
  intro i s h1 h2
  unfold j6
  rw [ae hb]
  by_cases h:i<(aI (liL k c)).length
  ·have hlt:(i:Int)<Int.ofNat (aI (liL k c)).length:=by show (i:Int)<((aI (liL k c)).length:Int);omega
   rw [ae (qcZ hlt),CY _ i h,show Int.toNat (i:Int)=i from rfl]
   generalize hq:(aI (liL k c)).getD i []=q
   have hm:q∈aI (liL k c):=by rw [<- hq,qdZ,qgZ h];exact List.getElem_mem _
   obtain ⟨e1,_,e2,_,_,hle⟩:=ry Z (H q hm)
   rw [e1,aa,e2,aa,AN Z.few (by omega),aa]
   have hi:(i:Int)+1=((i+1:Nat):Int):=by omega
   rw [hi]
   by_cases c1:(plR z tl k c first q).2.2.2.2=true
   ·rw [ae (by simpa using c1)]
    by_cases c2:ek z.P z.PF (plR z tl k c first q).2.2.2.1 (plR z tl k c first q).2.2.1>s.2.2.2.2
    ·rw [ae (qcZ c2)]
     have e3:eN z tl k c first q s=((plR z tl k c first q).1,(plR z tl k c first q).2.1,(plR z tl k c first q).2.2.1,(plR z tl k c first q).2.2.2.1,ek z.P z.PF (plR z tl k c first q).2.2.2.1 (plR z tl k c first q).2.2.1):=by
      unfold eN;rw [if_pos ⟨c1,c2⟩]
     rw [e3]
     exact ih (i+1) (_,_,_,_,_) (by omega) (by omega)
    ·rw [af (qeZ c2)]
     have e3:eN z tl k c first q s=s:=by unfold eN;rw [if_neg (fun q=>c2 q.2)]
     rw [e3]
     exact ih (i+1) s (by omega) (by omega)
   ·rw [af (by simpa using c1)]
    have e3:eN z tl k c first q s=s:=by unfold eN;rw [if_neg (fun q=>c1 q.1)]
    rw [e3]
    exact ih (i+1) s (by omega) (by omega)
  ·have hlt:¬ (i:Int)<Int.ofNat (aI (liL k c)).length:=by show ¬ (i:Int)<((aI (liL k c)).length:Int);omega
   rw [af (qeZ hlt),List.drop_eq_nil_of_le (by omega)]
   rfl
def ox (z:d8) (tl:List Int) (k:Nat) (c:FF) (first:List Int) (s:NSt):NSt:=(aI (liL k c)).foldl (fun s q=>eN z tl k c first q s) s
theorem Yp {ρ:Type} {z:d8} (Z:Fix z) {tl:List Int} {k:Nat} {c:FF} (H:∀ first∈aI (liL k c),∀ second∈aI (liL k c),jV z.n z.f tl k c first second) (hk:k<=4) (k0:ByteArray->Int->Nat->FF->Int->Option ρ):∀ (m i:Nat) (s:NSt),(aI (liL k c)).length<m+i->i<=(aI (liL k c)).length ->
  mr 100 k c z.a z.gr z.th z.L z.W z.e z.P z.PF z.gap z.n z.f tl.length (fL tl) m (i:Int) s.1 s.2.1 s.2.2.1 s.2.2.2.1 s.2.2.2.2 k0 =
   k0 (((aI (liL k c)).drop i).foldl (fun s q=>ox z tl k c q s) s).1 (((aI (liL k c)).drop i).foldl (fun s q=>ox z tl k c q s) s).2.1 (((aI (liL k c)).drop i).foldl (fun s q=>ox z tl k c q s) s).2.2.1 (((aI (liL k c)).drop i).foldl (fun s q=>ox z tl k c q s) s).2.2.2.1 (((aI (liL k c)).drop i).foldl (fun s q=>ox z tl k c q s) s).2.2.2.2:=by
 have hb:(Nat.ble k 4&&true)=true:=by rw [Bool.and_true,Nat.ble_eq];exact hk
 have hl:=Bp (l:=liL k c) (by rw [dZ];exact hk)
 intro m
 induction m with
 | zero=>intro i s h1 h2;omega
 | succ m ih =>
  intro i s h1 h2
  unfold mr
  rw [ae hb]
  by_cases h:i<(aI (liL k c)).length
  ·have hlt:(i:Int)<Int.ofNat (aI (liL k c)).length:=by show (i:Int)<((aI (liL k c)).length:Int);omega
   rw [ae (qcZ hlt),CY _ i h,show Int.toNat (i:Int)=i from rfl]
   generalize hq:(aI (liL k c)).getD i []=q
   have hm:q∈aI (liL k c):=by rw [<- hq,qdZ,qgZ h];exact List.getElem_mem _
   refine (Yq Z (H q hm) hk _ 100 0 s (by omega) (by omega)).trans ?_
   rw [List.drop_zero,show (i:Int)+1=((i+1:Nat):Int) from by omega]
   exact ih (i+1) (ox z tl k c q s) (by omega) (by omega)
  ·have hlt:¬ (i:Int)<Int.ofNat (aI (liL k c)).length:=by show ¬ (i:Int)<((aI (liL k c)).length:Int);omega
   rw [af (qeZ hlt),List.drop_eq_nil_of_le (by omega)]
   rfl
def tU (z:d8) (tl:List Int) (s:NSt):NSt:=(aI (liL (chN tl tl.length 0 0 (fun _ _=>.any)).1 (chN tl tl.length 0 0 (fun _ _=>.any)).2)).foldl (fun s q=>ox z tl (chN tl tl.length 0 0 (fun _ _=>.any)).1 (chN tl tl.length 0 0 (fun _ _=>.any)).2 q s) s
def dF (z:d8) (i:Nat) (s:NSt):NSt:=((List.range (dp z.n)).drop i).foldl (fun s t=>tU z (aW z.n t) s) s
theorem EE {z:d8} (Z:Fix z) {tl:List Int} (hv:okV z.n tl=true) {k:Nat} {c:FF} (hC:Chs tl z.n k c):∀ first∈aI (liL k c),∀ second∈aI (liL k c),jV z.n z.f tl k c first second :=
 fun first h1 second h2=>⟨Z.n4,Z.part,hv,hC,Ai h1,Ai h2⟩
theorem rI {n:Nat} {tl:List Int} (h:okV n tl=true):tl.length=n:=by
 unfold okV at h
 rw [qaZ] at h
 exact qbZ h.1
theorem BR (tl:List Int) (c:FF):Chs tl 0 0 c:=⟨rmZ _,fun t h=>by omega,fun s t h1 h2=>by omega,fun j h=>by omega⟩
theorem Yo {ρ:Type} {z:d8} (Z:Fix z) (k0:ByteArray->Int->Nat->FF->Int->Option ρ):∀ (m i:Nat) (s:NSt),dp z.n<m+i->i<=dp z.n ->
  dV 100 (Int.ofNat z.n) z.a z.gr z.th z.L z.W z.e z.P z.PF z.gap z.n z.f m (i:Int) s.1 s.2.1 s.2.2.1 s.2.2.2.1 s.2.2.2.2 k0 =
   k0 (dF z i s).1 (dF z i s).2.1 (dF z i s).2.2.1 (dF z i s).2.2.2.1 (dF z i s).2.2.2.2:=by
 have hn:=Z.n4
 have hb:((decide (0<=Int.ofNat z.n)&&decide (Int.ofNat z.n<=4))&&true)=true:=by
  have h1:(0:Int)<=Int.ofNat z.n:=by show (0:Int)<=(z.n:Int);omega
  have h2:(Int.ofNat z.n)<=4:=by show (z.n:Int)<=4;omega
  rw [qcZ h1,qcZ h2];rfl
 intro m
 induction m with
 | zero=>intro i s h1 h2;omega
 | succ m ih =>
  intro i s h1 h2
  unfold dV
  rw [ae hb,ao]
  by_cases h:i<dp z.n
  ·have hlt:(i:Int)<Int.ofNat (dp z.n):=by show (i:Int)<(dp z.n:Int);omega
   rw [ae (qcZ hlt),show Int.toNat (i:Int)=i from rfl]
   have hv:=Ew z.n hn i h
   have hl:=rI hv
   have hf:dF z i s=dF z (i+1) (tU z (aW z.n i) s):=by
    unfold dF
    rw [List.drop_eq_getElem_cons (by simpa using h),List.foldl_cons,List.getElem_range]
   rw [hf]
   generalize aW z.n i=tl at hv hl ⊢
   obtain ⟨k,c,e0,e1,hC⟩:=oX (ρ:=ρ) tl (by omega) z.a z.gr z.th z.L z.W z.e z.P z.PF z.gap z.n z.f s.1 s.2.1 s.2.2.1 s.2.2.2.1 s.2.2.2.2 100 0 0 (fun _ _=>.any) (by omega) (by omega) (BR _ _)
   rw [Nat.sub_zero] at e0
   rw [hl] at hC
   have hle:=hC.le
   have hp:=Bp (l:=liL k c) (by rw [dZ];omega)
   refine (e1 _).trans ?_
   refine (Yp Z (EE Z hv hC) (by omega) _ 100 0 s (by omega) (by omega)).trans ?_
   have e6:tU z tl s=(aI (liL k c)).foldl (fun s q=>ox z tl k c q s) s:=by unfold tU;rw [<- e0]
   rw [List.drop_zero,<- e6,show (i:Int)+1=((i+1:Nat):Int) from by omega]
   exact ih (i+1) (tU z tl s) (by omega) (by omega)
  ·have hlt:¬ (i:Int)<Int.ofNat (dp z.n):=by show ¬ (i:Int)<(dp z.n:Int);omega
   have hf:dF z i s=s:=by unfold dF;rw [List.drop_eq_nil_of_le (by simp;omega)];rfl
   rw [af (qeZ hlt),hf]
theorem mW {α β:Type} {Q:β->Prop} {g:β->α->β}:∀ (l:List α),(∀ x∈l,∀ s,Q s->Q (g s x))->∀ s,Q s->Q (l.foldl g s)
 | [],_,s,h=>h
 | x::l,hs,s,h=>mW l (fun y hy=>hs y (qjZ _ hy)) _ (hs x qmZ s h)
theorem sV {z:d8} (Z:Fix z) {Q:NSt->Prop} (h:∀ tl k c first second,jV z.n z.f tl k c first second->∀ s,Q s->Q (eN z tl k c first second s)) {s:NSt} (h0:Q s):Q (dF z 0 s):=by
 unfold dF
 rw [List.drop_zero]
 refine mW _ (fun t ht s hs=>?_) s h0
 rw [rkZ] at ht
 have hv:=Ew z.n Z.n4 t ht
 generalize aW z.n t=tl at hv
 have hl:=rI hv
 obtain ⟨k,c,e0,_,hC⟩:=oX (ρ:=Nat) tl (by have:=Z.n4;omega) z.a z.gr z.th z.L z.W z.e z.P z.PF z.gap z.n z.f s.1 s.2.1 s.2.2.1 s.2.2.2.1 s.2.2.2.2 100 0 0 (fun _ _=>.any) (by have:=Z.n4;omega) (by omega) (BR _ _)
 rw [Nat.sub_zero] at e0
 rw [hl] at hC
 unfold tU
 rw [<- e0]
 refine mW _ (fun first h1 s hs=>?_) s hs
 unfold ox
 exact mW _ (fun second h2 s hs=>h tl k c first second (EE Z hv hC first h1 second h2) s hs) s hs
def OM (z:d8) (s:NSt):Prop:=s.2.2.2.2=ek z.P z.PF s.2.2.2.1 s.2.2.1/\s.2.2.1<=4
theorem Kv {z:d8} (Z:Fix z) {tl:List Int} {k:Nat} {c:FF} {first second:List Int} (H:jV z.n z.f tl k c first second) {s:NSt} (h:OM z s):OM z (eN z tl k c first second s):=by
 obtain ⟨_,_,_,_,_,hle⟩:=ry Z H
 unfold eN
 split
 ·exact ⟨rfl,hle⟩
 ·exact h
theorem Ok {ρ:Type} (P:Nat) (PF:FF) (i:Nat) (hi:i<P) (hh:(PF i 7).len<=4) (k0 k1:Option ρ):∀ (m j:Nat),(PF i 7).len<m+j->j<=(PF i 7).len ->
  mA 100 P PF (Int.ofNat i) m (Int.ofNat j) k0 k1=k0\/(mA 100 P PF (Int.ofNat i) m (Int.ofNat j) k0 k1=k1/\∀ t,j<=t->t<(PF i 7).len->((PF i 7).el t 0).len<=12):=by
 intro m
 induction m with
 | zero=>intro j h1 h2;omega
 | succ m ih =>
  intro j h1 h2
  unfold mA
  rw [ay,ao,ao,aF,ay,ae (qcZ hi)]
  by_cases h:j<(PF i 7).len
  ·rw [ae (qcZ h),ae (qcZ hi),ae (qcZ h),ax (by omega)]
   by_cases c:(Int.ofNat ((((PF i 7).el) j 0).len))>12
   ·rw [ae (qcZ c)];exact .inl rfl
   ·rw [af (qeZ c)]
    have c:¬ ((((PF i 7).el) j 0).len:Int)>12:=c
    rcases ih (j+1) (by omega) (by omega) with e | ⟨e,hq⟩
    ·exact .inl e
    ·refine .inr ⟨e,fun t h3 h4=>?_⟩
     by_cases ht:t=j
     ·subst ht;omega
     ·exact hq t (by omega) h4
  ·rw [af (qeZ h)];exact .inr ⟨rfl,fun t h3 h4=>by omega⟩
theorem Oj {ρ:Type} (P:Nat) (PF:FF) (hP:P<=20) (k0 k1:Option ρ):∀ (m i:Nat),P<m+i->i<=P ->
  lM 100 P PF m (Int.ofNat i) k0 k1=k0\/(lM 100 P PF m (Int.ofNat i) k0 k1=k1/\∀ j,i<=j->j<P->(PF j 6).len<=12/\(PF j 7).len<=4/\∀ t,t<(PF j 7).len->((PF j 7).el t 0).len<=12):=by
 intro m
 induction m with
 | zero=>intro i h1 h2;omega
 | succ m ih =>
  intro i h1 h2
  unfold lM
  rw [aF,ay,ao]
  by_cases h:i<P
  ·obtain ⟨b,e1,_⟩:=WP (aw (pj kR0 (PF i)))
   rw [ae (qcZ h),ae (qcZ h),e1,aa]
   cases b with
   | false=>exact .inl rfl
   | true =>
    rw [ae (by rfl),ae (qcZ h),bd]
    by_cases c1:(Int.ofNat ((PF i 6).len))>12
    ·rw [if_pos c1];exact .inl rfl
    rw [if_neg c1,ae (qcZ h)]
    by_cases c2:(Int.ofNat ((PF i 7).len))>4
    ·rw [ae (qcZ c2)];exact .inl rfl
    rw [af (qeZ c2),ax (by omega)]
    have c1:¬ ((PF i 6).len:Int)>12:=c1
    have c2:¬ ((PF i 7).len:Int)>4:=c2
    rcases Ok P PF i h (by omega) k0 (lM 100 P PF m (Int.ofNat (i+1)) k0 k1) 100 0 (by omega) (by omega) with e | ⟨e,hq⟩
    ·exact .inl e
    ·rcases ih (i+1) (by omega) (by omega) with e2 | ⟨e2,hr⟩
     ·exact .inl (e.trans e2)
     ·refine .inr ⟨e.trans e2,fun j h3 h4=>?_⟩
      by_cases hj:j=i
      ·subst hj;exact ⟨by omega,by omega,fun t ht=>hq t (by omega) ht⟩
      ·exact hr j (by omega) h4
  ·rw [af (qeZ h)];exact .inr ⟨rfl,fun j h3 h4=>by omega⟩
theorem WO (P:Nat) (PF:FF) (n:Nat) (hn:n<=20):∃ b,G6 100 P PF (n:Int)=some b/\(b=true->B0 P PF/\P<=n):=by
 unfold G6
 by_cases c:(Int.ofNat P)>(n:Int)
 ·rw [ae (qcZ c)];exact ⟨false,rfl,fun h=>by cases h⟩
 rw [af (qeZ c)]
 have c:¬ (P:Int)>(n:Int):=c
 rcases Oj P PF (by omega) (some false) (some true) 100 0 (by omega) (by omega) with e | ⟨e,h⟩
 ·exact ⟨false,e,fun h=>by cases h⟩
 ·exact ⟨true,e,fun _=>⟨⟨by omega,fun j hj=>(h j (by omega) hj).1,fun j hj=>(h j (by omega) hj).2.1,fun j hj=>(h j (by omega) hj).2.2⟩,by omega⟩⟩
theorem cD.of_row {x y:Nat->CV} (E:AK x y) (V:cD y):cD x:=⟨by rw [E.ol,E.hl,E.he];exact V.small,by rw [E.ol,E.oe,E.hl,E.he];exact V.shape⟩
theorem Ql {P:Nat} {PF:FF} (hP:B0 P PF) {gr:ByteArray} {th:Int} {j:Nat} (hj:j<P) (h:vh gr th PF j):cD (PF j):=by
 refine ⟨hP.small hj,?_⟩
 obtain ⟨z,z1,_,z3⟩:=li ((PF j 6).len) ((PF j 7).len) ((PF j 6).el) ((PF j 7).el)
 exact z3.1 (rjZ (z1.symm.trans h.2.2.2.2))
abbrev GU (n:Nat):Int:=(aL 1 [(.i .i64 1),(.i .i64 3),(.i .i64 21),(.i .i64 343),(.i .i64 10473)] (0+n) 0).int
theorem OI {P:Nat} {PF f:FF} {n:Nat} {a gr e:ByteArray} {th L W gap:Int} (Z:Fix ⟨a,gr,th,L,W,e,P,PF,gap,n,f⟩) (hs:ru 100 a gr th L W e P PF=some (n,f)) (steps:Int) :
  B1 100 a gr th L W e P PF gap steps=bif decide (steps<GU n) then some (ByteArray.empty,0,0,(fun _ _=>.any),29) else some ((dF ⟨a,gr,th,L,W,e,P,PF,gap,n,f⟩ 0 (a,gap,0,(fun _ _=>.any),0)).1,(dF ⟨a,gr,th,L,W,e,P,PF,gap,n,f⟩ 0 (a,gap,0,(fun _ _=>.any),0)).2.1,
   (dF ⟨a,gr,th,L,W,e,P,PF,gap,n,f⟩ 0 (a,gap,0,(fun _ _=>.any),0)).2.2.1,(dF ⟨a,gr,th,L,W,e,P,PF,gap,n,f⟩ 0 (a,gap,0,(fun _ _=>.any),0)).2.2.2.1,0):=by
 have hgap:0<=gap/\gap<=500:=Z.gap
 have hn:n<=4:=Z.n4
 have T:dp n<=81:=by
  have:∀ n<5,dp n<=81:=by decide +kernel
  exact this _ (by omega)
 have e7:=Yo Z (fun x352 x353 x354 x355 (x356:Int)=>(some (x352,x353,x354,x355,(0:Int)))) 100 0 (a,gap,0,(fun _ _=>.any),0) (by show dp n<100+0;omega) (Nat.zero_le _)
 unfold B1
 rw [dQ,aa,af (by simp [hgap.1,hgap.2]),hs,aa]
 have c4:¬ (Int.ofNat n)>4:=by show ¬ (n:Int)>4;omega
 dsimp only
 rw [af (qeZ c4)]
 have beq:∀ m:Nat,(Int.ofNat n==(m:Int))=decide (n=m):=fun m=>by
  rw [Bool.eq_iff_iff,beq_iff_eq,decide_eq_true_eq]
  show (n:Int)=(m:Int)↔_
  omega
 have b0:=beq 0
 have b1:=beq 1
 have b2:=beq 2
 have b3:=beq 3
 have b4:=beq 4
 by_cases h0:n=0
 ·rw [show (Int.ofNat n==0)=true from b0.trans (qcZ h0),cond_true,show GU n=1 by rw [h0];rfl]
  exact congrArg (fun x=>bif decide (steps<1) then _ else x) e7
 rw [show (Int.ofNat n==0)=false from b0.trans (qeZ h0),cond_false]
 by_cases h1:n=1
 ·rw [show (Int.ofNat n==1)=true from b1.trans (qcZ h1),cond_true,show GU n=3 by rw [h1];rfl]
  exact congrArg (fun x=>bif decide (steps<3) then _ else x) e7
 rw [show (Int.ofNat n==1)=false from b1.trans (qeZ h1),cond_false]
 by_cases h2:n=2
 ·rw [show (Int.ofNat n==2)=true from b2.trans (qcZ h2),cond_true,show GU n=21 by rw [h2];rfl]
  exact congrArg (fun x=>bif decide (steps<21) then _ else x) e7
 rw [show (Int.ofNat n==2)=false from b2.trans (qeZ h2),cond_false]
 by_cases h3:n=3
 ·rw [show (Int.ofNat n==3)=true from b3.trans (qcZ h3),cond_true,show GU n=343 by rw [h3];rfl]
  exact congrArg (fun x=>bif decide (steps<343) then _ else x) e7
 rw [show (Int.ofNat n==3)=false from b3.trans (qeZ h3),cond_false]
 rw [show (Int.ofNat n==4)=true from b4.trans (qcZ (by omega)),cond_true,show GU n=10473 by rw [show n=4 by omega];rfl]
 exact congrArg (fun x=>bif decide (steps<10473) then _ else x) e7
theorem Q3 {P:Nat} {PF f:FF} {n:Nat} {a gr e:ByteArray} {th L W gap:Int} (Z:Fix ⟨a,gr,th,L,W,e,P,PF,gap,n,f⟩) (hs:ru 100 a gr th L W e P PF=some (n,f)) :
  B1 100 a gr th L W e P PF gap 10473=some ((dF ⟨a,gr,th,L,W,e,P,PF,gap,n,f⟩ 0 (a,gap,0,(fun _ _=>.any),0)).1,(dF ⟨a,gr,th,L,W,e,P,PF,gap,n,f⟩ 0 (a,gap,0,(fun _ _=>.any),0)).2.1,
   (dF ⟨a,gr,th,L,W,e,P,PF,gap,n,f⟩ 0 (a,gap,0,(fun _ _=>.any),0)).2.2.1,(dF ⟨a,gr,th,L,W,e,P,PF,gap,n,f⟩ 0 (a,gap,0,(fun _ _=>.any),0)).2.2.2.1,0):=by
 have:∀ n,n<5->¬ (10473:Int)<GU n:=by decide
 rw [OI Z hs,qeZ (this n (by have:n<=4:=Z.n4;omega)),cond_false]
theorem D5 (P:Nat) (PF:FF') (s:ByteArray) (hP:P<=90):∀ (m i:Nat),P<m+i->i<=P->oo 100 P PF s m (Int.ofNat i) (fun x=>some x) (some (-1))=some (vS PF s (P-i) i):=by
 intro m
 induction m with
 | zero=>intro i h1 h2;omega
 | succ m ih =>
  intro i h1 h2
  unfold oo
  rw [aF,ay,ao]
  by_cases h:i<P
  ·rw [ae (qcZ h),ae (qcZ h),show P-i=(P-(i+1))+1 from by omega,vS]
   unfold eqS
   cases hq:(ByteArray.toList ((PF i 0).str)==ByteArray.toList s) with
   | true=>rfl
   | false=>rw [af rfl,af rfl,ax (by omega)];exact ih (i+1) (by omega) (by omega)
  ·rw [af (qeZ h),show P-i=0 from by omega];rfl
theorem IG (P:Nat) (PF:FF') (s:ByteArray) (hP:P<=90):G9 100 P PF s=some (fd P PF s):=D5 P PF s hP 100 0 (by omega) (by omega)
theorem GL (PF:FF') (s:ByteArray):∀ (m i k:Nat),vS PF s m i=Int.ofNat k->∀ j,i<=j->j<k->eqS ((PF j 0).str) s=false:=by
 intro m
 induction m with
 | zero=>intro i k h;exact absurd h (by intro h;have h:(-1:Int)=(k:Int):=h;omega)
 | succ m ih =>
  intro i k h j h1 h2
  unfold vS at h
  cases hq:eqS ((PF i 0).str) s with
  | true =>
   rw [hq] at h
   have h:(i:Int)=(k:Int):=h
   omega
  | false =>
   rw [hq] at h
   by_cases e:j=i
   ·subst e;exact hq
   ·exact ih (i+1) k h j (by omega) h2
theorem Ol (PF:FF') (s:ByteArray):∀ (m i k:Nat),i<=k->k<i+m->eqS ((PF k 0).str) s=true->(∀ j,i<=j->j<k->eqS ((PF j 0).str) s=false)->vS PF s m i=Int.ofNat k:=by
 intro m
 induction m with
 | zero=>intro i k h1 h2;omega
 | succ m ih =>
  intro i k h1 h2 h3 h4
  unfold vS
  by_cases e:i=k
  ·subst e;rw [h3];rfl
  ·rw [h4 i (rmZ _) (by omega)]
   exact ih (i+1) k (by omega) (by omega) h3 fun j a b=>h4 j (by omega) b
theorem AX (a b:ByteArray):eqS a b=true↔a=b:=by unfold eqS;rw [Cy,decide_eq_true_eq]
theorem tW {P:Nat} {PF:FF'} {i:Nat} (hi:i<P):fd P PF ((PF i 0).str)=Int.ofNat i↔∀ j,j<i->(PF j 0).str≠(PF i 0).str:=by
 constructor
 ·intro h j hj e
  have:=GL PF _ P 0 i h j (by omega) hj
  rw [(AX _ _).2 e] at this;cases this
 ·intro h
  refine Ol PF _ P 0 i (by omega) (by omega) ((AX _ _).2 rfl) fun j _ hj=>?_
  cases hq:eqS ((PF j 0).str) ((PF i 0).str) with
  | false=>rfl
  | true=>exact absurd ((AX _ _).1 hq) (h j hj)
theorem Ch {ρ:Type} (P:Nat) (PF:FF) (a gr e:ByteArray) (th L W:Int) (hP:P<=20) (k0:Nat->FF->Option ρ):∀ (m i n:Nat) (c:Nat) (M f:FF),P<m+i->i<=P->n<=i ->
  (∀ s,mb c M s=1↔∃ j,j<i/\(PF j 0).str=s) ->
  jw 100 P PF a gr th L W e m n (Int.ofNat i) f k0=eD 100 P PF (Int.ofNat P) a gr th L W e m n (Int.ofNat i) c M f (fun x _ _ y=>k0 x y):=by
 intro m
 induction m with
 | zero=>intro i n c M f h1 h2;omega
 | succ m ih =>
  intro i n c M f h1 h2 hl hM
  unfold jw eD
  rw [aF,ay,ao]
  by_cases h:i<P
  ·have hM' : ∀ s,mb (oS c M ((PF i 0).str)) (oR c M ((PF i 0).str) 1) s=1↔∃ j,j<i+1/\(PF j 0).str=s:=by
    intro s
    rw [E9]
    by_cases hs:s=(PF i 0).str
    ·rw [if_pos hs];exact ⟨fun _=>⟨i,by omega,hs.symm⟩,fun _=>rfl⟩
    ·rw [if_neg hs,hM]
     exact ⟨fun ⟨j,h3,h4⟩=>⟨j,by omega,h4⟩,fun ⟨j,h3,h4⟩=>by
      by_cases hj:j=i
      ·subst hj;exact absurd h4.symm hs
      ·exact ⟨j,by omega,h4⟩⟩
   rw [ae (qcZ h),ae (qcZ h),ae (qcZ h),ae (qcZ h),ax (by omega),IG P PF _ (by omega),aa]
   have go:=fun (n:Nat) (f:FF) (hn:n<=i+1)=>ih (i+1) n _ _ f (by omega) (by omega) hn hM'
   obtain ⟨z,z1,z2,_⟩:=li ((PF i 6).len) ((PF i 7).len) ((PF i 6).el) ((PF i 7).el)
   rw [z1,z2,aa,aa]
   have hf:=tW (PF:=PF) h
   by_cases c1:mb c M ((PF i 0).str)=1
   ·have hnf:¬ fd P PF ((PF i 0).str)=Int.ofNat i:=fun q=>by
     obtain ⟨j,h3,h4⟩:=(hM _).1 c1
     exact hf.1 q j h3 h4
    rw [af (c:=((!(mb c M ((PF i 0).str)==1))==true)) (by simp [c1]),af (c:=((fd P PF ((PF i 0).str)==Int.ofNat i)==true)) (by simpa using hnf),<- go n f (by omega)]
    cases ((PF i 2).int==1)<;>cases (ByteArray.toList ((PF i 4).str)==ByteArray.toList gr)<;>cases ((PF i 5).int==th)<;>rfl
   ·have hyf:fd P PF ((PF i 0).str)=Int.ofNat i:=hf.2 fun j hj e=>c1 ((hM _).2 ⟨j,hj,e⟩)
    rw [ae (c:=((!(mb c M ((PF i 0).str)==1))==true)) (by simp [c1]),ae (c:=((fd P PF ((PF i 0).str)==Int.ofNat i)==true)) (by simp [hyf]),<- go n f (by omega),<- go (n+1) _ (by omega)]
  ·rw [af (qeZ h),af (qeZ h)]
theorem KJ (P:Nat) (PF:FF) (a gr e:ByteArray) (th L W:Int) (hP:P<=20):G4 100 a gr th L W e P PF=ru 100 a gr th L W e P PF:=by
 unfold G4 ru
 have hM:∀ s,mb 0 (fun _ _=>CV.any) s=1↔∃ j,j<0/\(PF j 0).str=s:=fun s=>by
  have e:mb 0 (fun _ _=>CV.any) s=0:=rfl
  rw [e]
  refine ⟨fun h=>?_,fun h=>?_⟩
  ·cases h
  ·obtain ⟨j,h,_⟩:=h
   omega
 exact Ch P PF a gr e th L W hP (fun x34 x35=>(some (x34,x35))) 100 0 0 0 (fun _ _=>.any) (fun _ _=>.any) (by omega) (by omega) (rmZ _) hM
theorem Bds.congr {f f' : FF} {n:Nat} {a b c d:Int} (e:∀ j,j<n->pt f' j=pt f j) (h:Bds f n a b c d):Bds f' n a b c d:=by
 have e0:∀ j,j<n->(f' j 0).int=(f j 0).int:=fun j hj=>congrArg Prod.fst (e j hj)
 have e1:∀ j,j<n->(f' j 1).int=(f j 1).int:=fun j hj=>congrArg Prod.snd (e j hj)
 obtain ⟨h1,h2⟩:=h
 refine ⟨fun j hj=>?_,fun hn=>?_⟩
 ·rw [e0 j hj,e1 j hj];exact h1 j hj
 ·obtain ⟨⟨j1,k1,w1⟩,⟨j2,k2,w2⟩,⟨j3,k3,w3⟩,⟨j4,k4,w4⟩⟩:=h2 hn
  exact ⟨⟨j1,k1,by rw [e0 j1 k1];exact w1⟩,⟨j2,k2,by rw [e1 j2 k2];exact w2⟩,⟨j3,k3,by rw [e0 j3 k3];exact w3⟩,⟨j4,k4,by rw [e1 j4 k4];exact w4⟩⟩
def lQ (t:Int) (a b c d:Int):Int × Int × Int × Int:=if t=0 then (a,b,c,d) else (-d,a,-b,c)
theorem JH {f g:FF} {n:Nat} {a b c d:Int} (tn:Nat) (htn:tn<=1) (x y:Int) (hx : -32768<=x/\x<=32768) (hy : -32768<=y/\y<=32768) (hnr:aZ n f) (hA:Are (cq false tn x y n f) g n) (hn:0<n) (h:Bds f n a b c d) :
  Bds g n ((lQ tn a b c d).1+x) ((lQ tn a b c d).2.1+y) ((lQ tn a b c d).2.2.1+x) ((lQ tn a b c d).2.2.2+y):=by
 have key:∀ j,j<n->(tn=0->(g j 0).int=(f j 0).int+x/\(g j 1).int=(f j 1).int+y)/\(tn=1->(g j 0).int = -(f j 1).int+x/\(g j 1).int=(f j 0).int+y):=by
  intro j hj
  obtain ⟨z1,z2⟩:=hA j hj
  obtain ⟨n1,n2,n3,n4⟩:=hnr j hj
  rw [z1,z2]
  refine ⟨fun e=>?_,fun e=>?_⟩
  ·subst e
   show w64 ((f j 0).int+x)=_/\w64 ((f j 1).int+y)=_
   rw [aA (by omega) (by omega),aA (by omega) (by omega)];exact ⟨rfl,rfl⟩
  ·subst e
   show w64 (w64 (0-(f j 1).int)+x)=_/\w64 ((f j 0).int+y)=_
   rw [aA (n:=0-(f j 1).int) (by omega) (by omega),aA (by omega) (by omega),aA (by omega) (by omega)]
   exact ⟨by omega,rfl⟩
 obtain ⟨h1,h2⟩:=h
 obtain ⟨⟨j1,k1,w1⟩,⟨j2,k2,w2⟩,⟨j3,k3,w3⟩,⟨j4,k4,w4⟩⟩:=h2 hn
 have:tn=0\/tn=1:=by omega
 rcases this with e | e
 ·have eT:lQ (tn:Int) a b c d=(a,b,c,d):=by unfold lQ;rw [if_pos (by omega)]
  rw [eT]
  dsimp only
  refine ⟨fun j hj=>?_,fun _=>⟨⟨j1,k1,?_⟩,⟨j2,k2,?_⟩,⟨j3,k3,?_⟩,⟨j4,k4,?_⟩⟩⟩
  ·obtain ⟨q1,q2⟩:=(key j hj).1 e
   have:=h1 j hj
   omega
  ·rw [((key j1 k1).1 e).1,w1]
  ·rw [((key j2 k2).1 e).2,w2]
  ·rw [((key j3 k3).1 e).1,w3]
  ·rw [((key j4 k4).1 e).2,w4]
 ·have eT:lQ (tn:Int) a b c d=(-d,a,-b,c):=by unfold lQ;rw [if_neg (by omega)]
  rw [eT]
  dsimp only
  refine ⟨fun j hj=>?_,fun _=>⟨⟨j4,k4,?_⟩,⟨j1,k1,?_⟩,⟨j2,k2,?_⟩,⟨j3,k3,?_⟩⟩⟩
  ·obtain ⟨q1,q2⟩:=(key j hj).2 e
   have:=h1 j hj
   omega
  ·rw [((key j4 k4).2 e).1,w4]
  ·rw [((key j1 k1).2 e).2,w1]
  ·rw [((key j2 k2).2 e).1,w2]
  ·rw [((key j3 k3).2 e).2,w3]
theorem cD.at_ {p:Nat->CV} (V:cD p) (s:ByteArray) (x y t:Int) (ht:t=0\/t=1) (hx : -32768<=x/\x<=32768) (hy : -32768<=y/\y<=32768):∃ n f n2 f2 f' f2',
  F25 100 ((p 6).len) ((p 6).el) ((p 7).len) ((p 7).el) s x y t false=some (n,f,n2,f2)/\F26 100 ((p 6).len) ((p 6).el) ((p 7).len) ((p 7).el) s x y t false=some (n,f',n2,f2') /\
  F20 100 n f n2 f2=some ((aQ p t).1+x,(aQ p t).2+y,(aQ p t).1+x+(aK p t).1,(aQ p t).2+y+(aK p t).2) /\
  F21 100 n f' n2 f2' = some ((aQ p t).1+x,(aQ p t).2+y,(aQ p t).1+x+(aK p t).1,(aQ p t).2+y+(aK p t).2):=by
 have h3:=V.shape.outer.big
 have h4:=V.shape.outer.small
 obtain ⟨A,B,C,D,hb,hB,hr1,hr2⟩:=V.box
 obtain ⟨tn,rfl,htn⟩:∃ tn:Nat,t=Int.ofNat tn/\tn<=1:=by
  rcases ht with rfl | rfl
  ·exact ⟨0,rfl,by omega⟩
  ·exact ⟨1,rfl,by omega⟩
 have main:∀ (s:ByteArray) (x y:Int),(-32768<=x/\x<=32768)->(-32768<=y/\y<=32768)->∃ n f n2 f2 f' f2',
   F25 100 ((p 6).len) ((p 6).el) ((p 7).len) ((p 7).el) s x y (Int.ofNat tn) false=some (n,f,n2,f2)/\F26 100 ((p 6).len) ((p 6).el) ((p 7).len) ((p 7).el) s x y (Int.ofNat tn) false=some (n,f',n2,f2') /\
   F20 100 n f n2 f2=some ((lQ tn A B C D).1+x,(lQ tn A B C D).2.1+y,(lQ tn A B C D).2.2.1+x,(lQ tn A B C D).2.2.2+y) /\
   F21 100 n f' n2 f2' = some ((lQ tn A B C D).1+x,(lQ tn A B C D).2.1+y,(lQ tn A B C D).2.2.1+x,(lQ tn A B C D).2.2.2+y):=by
  intro s x y hx hy
  obtain ⟨a,c,b,d,c',d',e1,e2,M1,M⟩:=DY ((p 6).len) ((p 7).len) ((p 6).el) ((p 7).el) s x y (Int.ofNat tn) false V.small
  have nf:¬ (jR x y=true\/tu (1+(p 7).len) (cfh ((p 6).len) ((p 6).el) ((p 7).el)) 0):=by
   rintro (h | h)
   ·unfold jR at h
    rw [decide_eq_true_eq] at h
    omega
   ·exact Bu V.shape.outer.near (fun j hj=>(V.shape.hole j hj).valid.near) h
  obtain ⟨rfl,rfl,hA,_⟩:=M.all tn rfl (by omega) nf
  have hM:=JH tn htn x y hx hy V.shape.outer.near hA (by omega) hB
  obtain ⟨l1,l2,l3,l4,b1,b2⟩:=vc ((p 6).len) c ((p 7).len) d (by omega)
  obtain ⟨rfl,rfl,rfl,rfl⟩:=Bds.unique (by omega) hM (b2 (by omega))
  obtain ⟨l1',l2',l3',l4',b3,b4⟩:=BT ((p 6).len) ((p 7).len) c' d' (by omega)
  obtain ⟨rfl,rfl,rfl,rfl⟩:=Bds.unique (by omega) (hM.congr M1.outer) (b4 (by omega))
  exact ⟨_,c,_,d,c',d',e1,e2,b1,b3⟩
 have el:aQ p (Int.ofNat tn)=((lQ tn A B C D).1,(lQ tn A B C D).2.1):=by
  obtain ⟨n,f,n2,f2,f',f2',e1,_,e3,_⟩:=main ByteArray.empty 0 0 (by omega) (by omega)
  unfold aQ
  rw [e1]
  dsimp only
  rw [e3]
  dsimp only
  rw [Int.add_zero,Int.add_zero]
 have es:aK p (Int.ofNat tn)=((lQ tn A B C D).2.2.1-(lQ tn A B C D).1,(lQ tn A B C D).2.2.2-(lQ tn A B C D).2.1):=by
  obtain ⟨q,g1,g2⟩:=AQ p (Int.ofNat tn) (by omega)
  have e:q=(A,B,C,D):=rjZ (g1.symm.trans hb)
  subst e
  have e:aK p (Int.ofNat tn)=szB (Int.ofNat tn) A B C D:=by unfold aK;rw [g2];rfl
  rw [e]
  unfold szB
  rw [if_pos (by unfold Nr4;omega)]
  have:tn=0\/tn=1:=by omega
  rcases this with rfl | rfl
  ·rfl
  ·show (D-B,C-A)=(-B - -D,C-A)
   rw [show -B - -D=D-B from by omega]
 obtain ⟨n,f,n2,f2,f',f2',e1,e2,e3,e4⟩:=main s x y hx hy
 refine ⟨n,f,n2,f2,f',f2',e1,e2,?_,?_⟩
 ·rw [e3,el,es]
  dsimp only
  refine congrArg some ?_
  rw [Prod.mk.injEq,Prod.mk.injEq,Prod.mk.injEq]
  exact ⟨rfl,rfl,by omega,by omega⟩
 ·rw [e4,el,es]
  dsimp only
  refine congrArg some ?_
  rw [Prod.mk.injEq,Prod.mk.injEq,Prod.mk.injEq]
  exact ⟨rfl,rfl,by omega,by omega⟩
abbrev pS (n:Nat) (f S:FF) (j:Nat):Nat->CV:=f (fd n f ((S j 0).str)).toNat
def bxS (n:Nat) (f S:FF):FF:=fun j c=>match c with
 | 0=>.i .i64 ((aQ (pS n f S j) ((S j 3).int)).1+(S j 1).int)
 | 1=>.i .i64 ((aQ (pS n f S j) ((S j 3).int)).2+(S j 2).int)
 | 2=>.i .i64 ((aQ (pS n f S j) ((S j 3).int)).1+(S j 1).int+(aK (pS n f S j) ((S j 3).int)).1)
 | _=>.i .i64 ((aQ (pS n f S j) ((S j 3).int)).2+(S j 2).int+(aK (pS n f S j) ((S j 3).int)).2)
def eV (n:Nat) (f S:FF) (L W gap:Int) (i:Nat):Prop :=
 0<=fd n f ((S i 0).str)/\(S i 4).bool=false/\((S i 3).int=0\/(S i 3).int=1)/\((-32768<=(S i 1).int/\(S i 1).int<=32768)/\(-32768<=(S i 2).int/\(S i 2).int<=32768)) /\
 (∀ j,j<i->(S j 0).str≠(S i 0).str) /\
 lN L W i (bxS n f S) (bx (bxS n f S) i 0) (bx (bxS n f S) i 1) (aK (pS n f S i) ((S i 3).int)).1 (aK (pS n f S i) ((S i 3).int)).2 gap
theorem WR {ρ:Type} (k:Nat) (S:FF) (i:Nat) (hi:i<=k) (hk:k<=60) (s:ByteArray) (n:Nat) (f:FF) (a1:Nat) (a2:Int) (a3:ByteArray) (a4:Int) (a5 a6:ByteArray) (a7 a8 a9:Int) (a10:ByteArray) (T:FF) (b1 b2 b3:Int) (b4:Bool) (k0 k1:Option ρ):∀ (m j:Nat),i<m+j->j<=i ->
  (mq 100 n f a1 (Int.ofNat i) a2 a3 a4 k S a5 a6 a7 a8 a9 a10 T s b1 b2 b3 b4 m (Int.ofNat j) k0 k1=k1/\∀ t,j<=t->t<i->(S t 0).str≠s) \/
  (mq 100 n f a1 (Int.ofNat i) a2 a3 a4 k S a5 a6 a7 a8 a9 a10 T s b1 b2 b3 b4 m (Int.ofNat j) k0 k1=k0/\∃ t,t<i/\(S t 0).str=s):=by
 intro m
 induction m with
 | zero=>intro j h1 h2;omega
 | succ m ih =>
  intro j h1 h2
  unfold mq
  rw [aF,ay,ao]
  by_cases h:j<i
  ·rw [ae (qcZ h),ae (qcZ (show j<k by omega)),Cy,ax (by omega)]
   by_cases c:(S j 0).str=s
   ·rw [ae (qcZ c)];exact .inr ⟨rfl,j,h,c⟩
   ·rw [af (qeZ c)]
    rcases ih (j+1) (by omega) (by omega) with ⟨e,hh⟩ | e
    ·refine .inl ⟨e,fun t h5 h6=>?_⟩
     by_cases ht:t=j
     ·subst ht;exact c
     ·exact hh t (by omega) h6
    ·exact .inr e
  ·rw [af (qeZ h)];exact .inl ⟨rfl,fun t h5 h6=>by omega⟩
theorem Qh {p:Nat->CV} (V:cD p) (q:Nat->CV) (E:AK q p) (t:Int):Cq 100 q t=some (aK p t):=by
 have h4:=V.shape.outer.small
 obtain ⟨z,e1,e2⟩:=Jr q t (by rw [E.ol];omega)
 rw [e2]
 have:lO 100 q t=lO 100 p t:=sX 100 q p t E.ol E.oe E.hl E.he
 rw [<- e1,this,V.good.rect]
theorem Jt {ρ:Type} (n:Nat) (f:FF) (hn:n<=20) (hV:∀ m,m<n->cD (f m)) (k:Nat) (S:FF) (hk:k<=60) (a:ByteArray) (gap:Int) (b gr:ByteArray) (th L W:Int) (e:ByteArray) (k0 k2:Option ρ):∀ (m i:Nat) (T:FF),k<m+i->i<=k ->
  (∀ j c,j<i->c<4->bx T j c=bx (bxS n f S) j c) ->
  (jI 100 n f a gap k S b gr th L W e m i (Int.ofNat i) T k0 k0 k2=k2/\∀ j,i<=j->j<k->eV n f S L W gap j) \/
  (jI 100 n f a gap k S b gr th L W e m i (Int.ofNat i) T k0 k0 k2=k0/\∃ j,j<k/\¬ eV n f S L W gap j):=by
 intro m
 induction m with
 | zero=>intro i T h1 h2;omega
 | succ m ih =>
  intro i T h1 h2 hT
  unfold jI
  rw [aF,ay,ao]
  by_cases h:i<k
  case neg=>rw [af (qeZ h)];exact .inl ⟨rfl,fun j h5 h6=>by omega⟩
  have no:∀ (z:Option ρ),z=k0->¬ eV n f S L W gap i->(z=k2/\∀ j,i<=j->j<k->eV n f S L W gap j)\/(z=k0/\∃ j,j<k/\¬ eV n f S L W gap j):=fun z h1 h2=>.inr ⟨h1,i,h,h2⟩
  rw [ae (qcZ h),ae (qcZ h),IG n f _ (by omega),aa,bd]
  by_cases c1:fd n f ((S i 0).str)<0
  ·rw [if_pos c1];exact no _ rfl fun q=>by have:=q.1;omega
  rw [if_neg c1]
  by_cases c2:(S i 4).bool=true
  ·rw [c2];exact no _ rfl fun q=>by rw [q.2.1] at c2;cases c2
  have c2:(S i 4).bool=false:=by simpa using c2
  rw [c2,ae (by rfl),bd]
  by_cases c3:(S i 3).int<0
  ·rw [if_pos c3];exact no _ rfl fun q=>by have:=q.2.2.1;omega
  rw [if_neg c3,bd]
  by_cases c4:(S i 3).int>1
  ·rw [if_pos c4];exact no _ rfl fun q=>by have:=q.2.2.1;omega
  rw [if_neg c4,DX _ _ _ _ (by omega)]
  have ht:(S i 3).int=0\/(S i 3).int=1:=by omega
  by_cases c5:(-32768<=(S i 1).int/\(S i 1).int<=32768/\-32768<=(S i 2).int/\(S i 2).int<=32768)
  case neg=>rw [if_neg c5];exact no _ rfl fun q=>by have:=q.2.2.2.1;omega
  rw [if_pos c5]
  rcases tX n f ((S i 0).str) with hf | ⟨pm,hpm,hf,_⟩
  ·omega
  have hfn:(fd n f ((S i 0).str)).toNat=pm:=by rw [hf];rfl
  have V:=hV pm hpm
  have V' : cD (pS n f S i):=by unfold pS;rw [hfn];exact V
  obtain ⟨n1,g1,n2,g2,g1',g2',_,e2,_,e4⟩:=V.at_ ((S i 0).str) ((S i 1).int) ((S i 2).int) ((S i 3).int) ht ⟨c5.1,c5.2.1⟩ c5.2.2
  rcases WR k S i (by omega) hk ((S i 0).str) n f i (fd n f ((S i 0).str)) a gap b gr th L W e T ((S i 1).int) ((S i 2).int) ((S i 3).int) false k0 (bif (inb (fd n f ((S i 0).str)) n) then (ob (F26 100 ((f (Int.toNat (fd n f ((S i 0).str))) 6).len) ((f (Int.toNat (fd n f ((S i 0).str))) 6).el) ((f (Int.toNat (fd n f ((S i 0).str))) 7).len) ((f (Int.toNat (fd n f ((S i 0).str))) 7).el) ((S i 0).str) ((S i 1).int) ((S i 2).int) ((S i 3).int) false) fun x110=>(ob (F21 100 x110.1 x110.2.1 x110.2.2.1 x110.2.2.2) fun x111=>(bif (inb (fd n f ((S i 0).str)) n) then (ob (Cq 100 (aw (pj kR0 (f (Int.toNat (fd n f ((S i 0).str)))))) ((S i 3).int)) fun x112=>(ob (Eh 100 L W i T x111.1 x111.2.1 x112.1 x112.2 gap) fun x113=>(bif (!x113) then k0 else (bif (Nat.ble (i+1) 1073741824) then (jI 100 n f a gap k S b gr th L W e m (i+1) (w64 (Int.ofNat i+1)) (aC i T (aL 4 [(.i .i64 x111.1),(.i .i64 x111.2.1),(.i .i64 x111.2.2.1),(.i .i64 x111.2.2.2)])) k0 k0 k2) else none)))) else none))) else none) 100 0 (by omega) (by omega) with ⟨e5,hd⟩ | ⟨e5,t,h5,h6⟩
  case inr=>exact no _ e5 fun q=>q.2.2.2.2.1 t h5 h6
  have hb:inb (fd n f ((S i 0).str)) n=true:=by rw [hf];exact dk (by show (0:Int)<=(pm:Int);omega) (by show (pm:Int)<(n:Int);omega)
  have hp:pS n f S i=f pm:=by unfold pS;rw [hfn]
  have lb:=V.lo ((S i 3).int) ht
  have sb:=V.good.sz ((S i 3).int)
  obtain ⟨y,f1,f2⟩:=Od L W i T ((aQ (f pm) ((S i 3).int)).1+(S i 1).int) ((aQ (f pm) ((S i 3).int)).2+(S i 2).int) (aK (f pm) ((S i 3).int)).1 (aK (f pm) ((S i 3).int)).2 gap (by omega)
  have hF:y=true↔lN L W i (bxS n f S) (bx (bxS n f S) i 0) (bx (bxS n f S) i 1) (aK (pS n f S i) ((S i 3).int)).1 (aK (pS n f S i) ((S i 3).int)).2 gap:=by
   rw [f2]
   have b0:bx (bxS n f S) i 0=(aQ (f pm) ((S i 3).int)).1+(S i 1).int:=by rw [<- hp];rfl
   have b1:bx (bxS n f S) i 1=(aQ (f pm) ((S i 3).int)).2+(S i 2).int:=by rw [<- hp];rfl
   rw [b0,b1,hp]
   exact ⟨fun q=>q.congr fun j c q1 q2=>(hT j c q1 q2).symm,fun q=>q.congr hT⟩
  obtain ⟨Z,hZ⟩:∃ Z:Option ρ,Z=(bif (!y) then k0 else (bif (Nat.ble (i+1) 1073741824) then (jI 100 n f a gap k S b gr th L W e m (i+1) (w64 (Int.ofNat i+1)) (aC i T (aL 4 [(.i .i64 ((aQ (f pm) ((S i 3).int)).1+(S i 1).int)),(.i .i64 ((aQ (f pm) ((S i 3).int)).2+(S i 2).int)),(.i .i64 ((aQ (f pm) ((S i 3).int)).1+(S i 1).int+(aK (f pm) ((S i 3).int)).1)),(.i .i64 ((aQ (f pm) ((S i 3).int)).2+(S i 2).int+(aK (f pm) ((S i 3).int)).2))])) k0 k0 k2) else none)):=⟨_,rfl⟩
  refine (fun (hh:(Z=k2/\∀ j,i<=j->j<k->eV n f S L W gap j) \/
   (Z=k0/\∃ j,j<k/\¬ eV n f S L W gap j))=>?_) ?_
  ·have eq:(bif (inb (fd n f ((S i 0).str)) n) then (ob (F26 100 ((f (Int.toNat (fd n f ((S i 0).str))) 6).len) ((f (Int.toNat (fd n f ((S i 0).str))) 6).el) ((f (Int.toNat (fd n f ((S i 0).str))) 7).len) ((f (Int.toNat (fd n f ((S i 0).str))) 7).el) ((S i 0).str) ((S i 1).int) ((S i 2).int) ((S i 3).int) false) fun x110=>(ob (F21 100 x110.1 x110.2.1 x110.2.2.1 x110.2.2.2) fun x111=>(bif (inb (fd n f ((S i 0).str)) n) then (ob (Cq 100 (aw (pj kR0 (f (Int.toNat (fd n f ((S i 0).str)))))) ((S i 3).int)) fun x112=>(ob (Eh 100 L W i T x111.1 x111.2.1 x112.1 x112.2 gap) fun x113=>(bif (!x113) then k0 else (bif (Nat.ble (i+1) 1073741824) then (jI 100 n f a gap k S b gr th L W e m (i+1) (w64 (Int.ofNat i+1)) (aC i T (aL 4 [(.i .i64 x111.1),(.i .i64 x111.2.1),(.i .i64 x111.2.2.1),(.i .i64 x111.2.2.2)])) k0 k0 k2) else none)))) else none))) else none)=Z:=by
    rw [ae hb,hfn,e2,aa]
    dsimp only
    rw [e4,aa,ae hb,Qh V (aw (pj kR0 (f pm))) ⟨rfl,rfl,rfl,rfl,rfl⟩,aa]
    dsimp only
    rw [f1,aa,hZ]
   rcases hh with ⟨w1,w2⟩ | ⟨w1,w2⟩
   ·exact .inl ⟨(e5.trans eq).trans w1,w2⟩
   ·exact .inr ⟨(e5.trans eq).trans w1,w2⟩
  ·rw [hZ]
   cases y with
   | false =>
    rw [ae (by rfl)]
    exact .inr ⟨rfl,i,h,fun q=>by have:=hF.2 q.2.2.2.2.2;cases this⟩
   | true =>
    have hq:eV n f S L W gap i:=⟨by omega,c2,ht,⟨⟨c5.1,c5.2.1⟩,c5.2.2⟩,fun j hj=>hd j (by omega) hj,hF.1 rfl⟩
    rw [af (by rfl),ae (jN (by omega)),ax (by omega)]
    have hT' : ∀ j c,j<i+1->c<4->bx (aC i T (aL 4 [(.i .i64 ((aQ (f pm) ((S i 3).int)).1+(S i 1).int)),(.i .i64 ((aQ (f pm) ((S i 3).int)).2+(S i 2).int)),(.i .i64 ((aQ (f pm) ((S i 3).int)).1+(S i 1).int+(aK (f pm) ((S i 3).int)).1)),(.i .i64 ((aQ (f pm) ((S i 3).int)).2+(S i 2).int+(aK (f pm) ((S i 3).int)).2))])) j c=bx (bxS n f S) j c:=by
     intro j c hj hc
     by_cases hji:j<i
     ·show CV.int _=_
      rw [dm _ _ _ _ _ hji];exact hT j c hji hc
     ·have hje:j=i:=by omega
      subst hje
      show CV.int _=_
      rw [cQ _ _ _ _ _ (rmZ _),Nat.sub_self]
      match c,hc with
      | 0,_=>rw [<- hp];rfl
      | 1,_=>rw [<- hp];rfl
      | 2,_=>rw [<- hp];rfl
      | 3,_=>rw [<- hp];rfl
    rcases ih (i+1) _ (by omega) (by omega) hT' with ⟨w1,w2⟩ | w
    ·refine .inl ⟨w1,fun j q1 q2=>?_⟩
     by_cases hji:j=i
     ·rw [hji];exact hq
     ·exact w2 j (by omega) q2
    ·exact .inr w
theorem My {n:Nat} {f:FF} (hn:n<=20) (hV:∀ m,m<n->cD (f m)) {P:Nat} {PF:FF} (hP:P<=20) {gr b e:ByteArray} {th L W:Int} (hs:ru 100 b gr th L W e P PF=some (n,f)) (k:Nat) (S:FF) (hk:k<=60) (a:ByteArray) (gap:Int) :
  ∃ z,Cp 100 a gap k S b gr th L W e P PF=some z/\(z=true↔∀ j,j<k->eV n f S L W gap j):=by
 unfold Cp
 rw [KJ P PF b gr e th L W hP,hs,aa]
 rcases Jt n f hn hV k S hk a gap b gr th L W e (some false) (some true) 100 0 (fun _ _=>.any) (by omega) (by omega) (fun j c hj=>by omega) with ⟨h1,h2⟩ | ⟨h1,j,h2,h3⟩
 ·exact ⟨true,h1,⟨fun _ j hj=>h2 j (by omega) hj,fun _=>rfl⟩⟩
 ·exact ⟨false,h1,⟨fun h=>(by cases h),fun h=>absurd (h j h2) h3⟩⟩
def cd (r:FF) (n c:Nat) (gap:Int):List Int:=gap::(List.range n).map fun j=>bx r j c+gG gap
theorem BS (r:FF) (n c:Nat) (gap:Int):cd r (n+1) c gap=cd r n c gap ++ [bx r n c+gG gap]:=by
 unfold cd
 rw [List.range_succ,List.map_append,List.cons_append];rfl
theorem Da (r:FF) (n c:Nat) (gap:Int):(cd r n c gap).length=n+1:=by simp [cd]
theorem QZ {ρ:Type} (n:Nat) (r:FF) (hn:n<=60) (hr:∀ j,j<n->NrJ r j) (t gap:Int) (hg:0<=gap/\gap<=500) (a b e:ByteArray) (th L W:Int) (p:Nat->CV):∀ (m i:Nat) (xs ys:FF),n<m+i->i<=n ->
  jr (i+1) xs=cd r i 2 gap->jr (i+1) ys=cd r i 3 gap ->
  ∃ xs' ys',(∀ k0:Nat->FF->FF->Option ρ,my 100 n r t gap (Int.ofNat n) a b th L W e p m (i+1) (Int.ofNat i) xs ys k0=k0 (n+1) xs' ys')/\jr (n+1) xs' = cd r n 2 gap/\jr (n+1) ys' = cd r n 3 gap:=by
 have snoc:∀ (k:Nat) (f:FF) (z:Int),jr (k+1) (aC k f (aL 1 [(.i .i64 z)]))=jr k f ++ [z]:=by
  intro k f z
  unfold jr
  rw [List.range_succ,List.map_append]
  congr 1
  ·refine List.map_congr_left fun j hj=>?_
   rw [rkZ] at hj
   rw [dm _ _ _ _ _ hj]
  ·show [CV.int _] = [z]
   rw [cQ _ _ _ _ _ (rmZ _),Nat.sub_self];rfl
 intro m
 induction m with
 | zero=>intro i xs ys h1 h2;omega
 | succ m ih =>
  intro i xs ys h1 h2 hx hy
  by_cases h:i<n
  ·obtain ⟨q1,q2,q3,q4⟩:=hr i h
   have hG:1<=gG gap/\gG gap<=500:=by unfold gG;split<;>omega
   obtain ⟨xs',ys',e1,e2,e3⟩:=ih (i+1) (aC (i+1) xs (aL 1 [(.i .i64 (bx r i 2+gG gap))])) (aC (i+1) ys (aL 1 [(.i .i64 (bx r i 3+gG gap))])) (by omega) (by omega) (by rw [snoc,hx,BS]) (by rw [snoc,hy,BS])
   refine ⟨xs',ys',fun k0=>?_,e2,e3⟩
   unfold my
   rw [aF,ay,ao,ae (qcZ h),ae (qcZ h),ae (jN (by omega)),ae (jN (by omega)),ax (by omega)]
   have w1:w64 ((r i 2).int+(if 1>gap then 1 else gap))=bx r i 2+gG gap:=aA (by show -9223372036854775808<=bx r i 2+gG gap;omega) (by show bx r i 2+gG gap<=9223372036854775807;omega)
   have w2:w64 ((r i 3).int+(if 1>gap then 1 else gap))=bx r i 3+gG gap:=aA (by show -9223372036854775808<=bx r i 3+gG gap;omega) (by show bx r i 3+gG gap<=9223372036854775807;omega)
   rw [w1,w2]
   exact e1 k0
  ·have:i=n:=by omega
   subst this
   refine ⟨xs,ys,fun k0=>?_,hx,hy⟩
   unfold my
   rw [aF,af (qeZ h)]
theorem Ht (u k:Nat) (g:FF) (h0:0<k) (hk:k<=1000):Cr u k g=some (dE k g)/\∀ i,i<k->(dE k g i 0).int=(jP (jr k g)).getD i 0:=by
 refine ⟨?_,fun i hi=>rfl⟩
 unfold Cr Dy
 rw [ae]
 rw [qaZ,Nat.blt_eq,Nat.ble_eq]
 exact ⟨h0,by omega⟩
def lL (p:Nat->CV) (t:Int) (n:Nat) (r:FF) (L W gap x y:Int):Prop:=B3 p t x y/\lN L W n r x y (aK p t).1 (aK p t).2 gap
theorem aaX {ρ:Type} {p q:Nat->CV} (V:cD p) (E:AK q p) (t:Int) (ht:t=0\/t=1) (n:Nat) (hn:n<=60) (r:FF) (gap y:Int) (N:Nat) (hN:N<=61) (X Y:FF) (a1:Int) (a b e:ByteArray) (th L W:Int) (hX:∀ i,i<N->-1099511627776<=(X i 0).int/\(X i 0).int<=1099511627776) (hy : -1099511627776<=y/\y<=1099511627776) (c1 c2:Int) (k0:Int->Option ρ) (k1:Option ρ)
  (E' : AK (aw (pj kR0 q)) p):∀ (m i:Nat),N<m+i->i<=N ->
  (∃ j,i<=j/\j<N/\lL p t n r L W gap ((X j 0).int) y/\(∀ j',i<=j'->j' < j->¬ lL p t n r L W gap ((X j' 0).int) y) /\
   jJ 100 n r t gap N (aK p t).1 (aK p t).2 y c1 c2 (Int.ofNat N) a b th L W e q X Y m (Int.ofNat i) k0 k1=k0 ((X j 0).int)) \/
  (jJ 100 n r t gap N (aK p t).1 (aK p t).2 y c1 c2 (Int.ofNat N) a b th L W e q X Y m (Int.ofNat i) k0 k1=k1/\∀ j,i<=j->j<N->¬ lL p t n r L W gap ((X j 0).int) y):=by
 intro m
 induction m with
 | zero=>intro i h1 h2;omega
 | succ m ih =>
  intro i h1 h2
  unfold jJ
  rw [aF,ay,ao,Nat.zero_add]
  by_cases h:i<N
  case neg=>rw [af (qeZ h)];exact .inr ⟨rfl,fun j h5 h6=>by omega⟩
  obtain ⟨z,e1,hz⟩:=Bb V E' t ((X i 0).int) y ht (hX i h) hy
  rw [ae (qcZ h),ae (qcZ h),e1,aa,ax (by omega)]
  dsimp only
  have skip:¬ lL p t n r L W gap ((X i 0).int) y->(∃ j,i<=j/\j<N/\lL p t n r L W gap ((X j 0).int) y/\(∀ j',i<=j'->j' < j->¬ lL p t n r L W gap ((X j' 0).int) y) /\
   jJ 100 n r t gap N (aK p t).1 (aK p t).2 y c1 c2 (Int.ofNat N) a b th L W e q X Y m (Int.ofNat (i+1)) k0 k1=k0 ((X j 0).int)) \/
   (jJ 100 n r t gap N (aK p t).1 (aK p t).2 y c1 c2 (Int.ofNat N) a b th L W e q X Y m (Int.ofNat (i+1)) k0 k1=k1/\∀ j,i<=j->j<N->¬ lL p t n r L W gap ((X j 0).int) y):=by
   intro no
   rcases ih (i+1) (by omega) (by omega) with ⟨j,q1,q2,q3,q4,q5⟩ | ⟨q1,q2⟩
   ·refine .inl ⟨j,by omega,q2,q3,fun j' w1 w2=>?_,q5⟩
    by_cases hj:j' = i
    ·subst hj;exact no
    ·exact q4 j' (by omega) w2
   ·refine .inr ⟨q1,fun j w1 w2=>?_⟩
    by_cases hj:j=i
    ·subst hj;exact no
    ·exact q2 j (by omega) w2
  cases z with
  | false =>
   rw [af (by rfl)]
   exact skip fun o=>by have:=hz.2 o.1;cases this
  | true =>
   obtain ⟨u,e2,hu⟩:=Fo L W n r ((X i 0).int) y (aK p t).1 (aK p t).2 gap hn
   rw [ae (by rfl),e2,aa]
   cases u with
   | false =>
    rw [af (by rfl)]
    exact skip fun o=>by have:=hu.2 o.2;cases this
   | true =>
    rw [ae (by rfl)]
    exact .inl ⟨i,rmZ _,h,⟨hz.1 rfl,hu.1 rfl⟩,fun j' w1 w2=>by omega,rfl⟩
theorem aaW {ρ:Type} {p q:Nat->CV} (V:cD p) (E:AK q p) (t:Int) (ht:t=0\/t=1) (n:Nat) (hn:n<=60) (r:FF) (gap:Int) (N:Nat) (hN:N<=61) (X Y:FF) (a b e:ByteArray) (th L W:Int) (hX:∀ i,i<N->-1099511627776<=(X i 0).int/\(X i 0).int<=1099511627776) (hY:∀ i,i<N->-1099511627776<=(Y i 0).int/\(Y i 0).int<=1099511627776) (k0:Int->Int->Option ρ) (k1:Option ρ)
  (E' : AK (aw (pj kR0 q)) p):∀ (m i:Nat),N<m+i->i<=N ->
  (∃ j jy,jy<N/\j<N/\i<=jy/\lL p t n r L W gap ((X j 0).int) ((Y jy 0).int)/\(∀ j',j' < j->¬ lL p t n r L W gap ((X j' 0).int) ((Y jy 0).int))/\(∀ jy' j',i<=jy'->jy' < jy->j' < N->¬ lL p t n r L W gap ((X j' 0).int) ((Y jy' 0).int)) /\
   jc 100 n r t gap N (aK p t).1 (aK p t).2 (Int.ofNat N) a b th L W e q X Y m (Int.ofNat i) k0 k1=k0 ((X j 0).int) ((Y jy 0).int)) \/
  (jc 100 n r t gap N (aK p t).1 (aK p t).2 (Int.ofNat N) a b th L W e q X Y m (Int.ofNat i) k0 k1=k1/\∀ jy j,i<=jy->jy<N->j<N->¬ lL p t n r L W gap ((X j 0).int) ((Y jy 0).int)):=by
 intro m
 induction m with
 | zero=>intro i h1 h2;omega
 | succ m ih =>
  intro i h1 h2
  unfold jc
  rw [aF,ay,ao,Nat.zero_add]
  by_cases h:i<N
  case neg=>rw [af (qeZ h)];exact .inr ⟨rfl,fun jy j h5 h6=>by omega⟩
  rw [ae (qcZ h),ae (qcZ h),ax (by omega)]
  rcases aaX V E t ht n hn r gap ((Y i 0).int) N hN X Y (Int.ofNat N) a b e th L W hX (hY i h) (Int.ofNat N) (Int.ofNat i) (fun x176=>(k0 x176 ((Y i 0).int))) (jc 100 n r t gap N (aK p t).1 (aK p t).2 (Int.ofNat N) a b th L W e q X Y m (Int.ofNat (i+1)) k0 k1) E' 100 0 (by omega) (by omega) with ⟨j,q1,q2,q3,q4,q5⟩ | ⟨q1,q2⟩
  ·exact .inl ⟨j,i,h,q2,rmZ _,q3,fun j' w=>q4 j' (by omega) w,fun jy' j' w1 w2=>by omega,q5⟩
  ·rcases ih (i+1) (by omega) (by omega) with ⟨j,jy,w1,w2,w3,w4,w5,w6,w7⟩ | ⟨w1,w2⟩
   ·refine .inl ⟨j,jy,w1,w2,by omega,w4,w5,fun jy' j' u1 u2 u3=>?_,q1.trans w7⟩
    by_cases hj:jy' = i
    ·subst hj;exact q2 j' (by omega) u3
    ·exact w6 jy' j' (by omega) u2 u3
   ·refine .inr ⟨q1.trans w1,fun jy j u1 u2 u3=>?_⟩
    by_cases hj:jy=i
    ·subst hj;exact q2 j (by omega) u3
    ·exact w2 jy j (by omega) u2 u3
theorem QD {p q:Nat->CV} (V:cD p) (E:AK q p) (E' : AK (aw (pj kR0 q)) p) (t:Int) (ht:t=0\/t=1) (n:Nat) (hn:n<=60) (r:FF) (gap:Int) (hg:0<=gap/\gap<=500) (hr:∀ j,j<n->∀ c,c<4->0<=bx r j c/\bx r j c<=1073741824) (a b e:ByteArray) (th L W:Int) :
  (∃ x y,AL 100 a b th L W e n r q t gap=some (x,y,true)/\x∈cd r n 2 gap/\y∈cd r n 3 gap/\lL p t n r L W gap x y/\∀ x' ∈ cd r n 2 gap,∀ y' ∈ cd r n 3 gap,lL p t n r L W gap x' y'->y<y'\/(y=y'/\x<=x')) \/
  (AL 100 a b th L W e n r q t gap=some (0,0,false)/\∀ x' ∈ cd r n 2 gap,∀ y' ∈ cd r n 3 gap,¬ lL p t n r L W gap x' y'):=by
 have hG:1<=gG gap/\gG gap<=500:=by unfold gG;split<;>omega
 obtain ⟨xs,ys,e1,e2,e3⟩:=QZ (ρ:=Int × Int × Bool) n r hn (fun j hj=>by
  have:=hr j hj
  have h0:=this 0 (by omega)
  have h1:=this 1 (by omega)
  have h2:=this 2 (by omega)
  have h3:=this 3 (by omega)
  unfold NrJ Nr4
  omega) t gap hg a b e th L W q 100 0 (aL 1 [(.i .i64 gap)]) (aL 1 [(.i .i64 gap)]) (by omega) (by omega) rfl rfl
 obtain ⟨s1,s2⟩:=Ht 100 (n+1) xs (by omega) (by omega)
 obtain ⟨s3,s4⟩:=Ht 100 (n+1) ys (by omega) (by omega)
 have hbd:∀ c,(c=2\/c=3)->∀ x∈cd r n c gap,-1099511627776<=x/\x<=1099511627776:=by
  intro c hc x hx
  unfold cd at hx
  rcases List.mem_cons.1 hx with rfl | hx
  ·omega
  ·obtain ⟨j,hj,rfl⟩:=rlZ.1 hx
   rw [rkZ] at hj
   have:=hr j hj c (by omega)
   omega
 have at_:∀ (l:List Int) (i:Nat),i<l.length->l.getD i 0∈l:=fun l i hi=>by rw [qdZ,qgZ hi];exact List.getElem_mem _
 have of_:∀ (l:List Int) (x:Int),x∈l->∃ i,i<l.length/\l.getD i 0=x:=fun l x hx=>by
  obtain ⟨i,hi,e⟩:=List.getElem_of_mem hx
  exact ⟨i,hi,by rw [qdZ,qgZ hi];exact e⟩
 have le_:∀ (l:List Int) (i j:Nat),i<=j->j<(jP l).length->(jP l).getD i 0<=(jP l).getD j 0:=fun l i j hij hj=>by
  have:=mQ l
  rw [rfZ] at this
  rw [qdZ,qgZ (by omega),qdZ,qgZ hj]
  by_cases q:i=j
  ·subst q;exact Int.le_refl _
  ·exact this i j (by omega) hj (by omega)
 have lx:(jP (cd r n 2 gap)).length=n+1:=by rw [(dH _).length_eq,Da]
 have ly:(jP (cd r n 3 gap)).length=n+1:=by rw [(dH _).length_eq,Da]
 have X:∀ i,i<n+1->(dE (n+1) xs i 0).int=(jP (cd r n 2 gap)).getD i 0:=fun i hi=>by rw [s2 i hi,e2]
 have Y:∀ i,i<n+1->(dE (n+1) ys i 0).int=(jP (cd r n 3 gap)).getD i 0:=fun i hi=>by rw [s4 i hi,e3]
 have mX:∀ i,i<n+1->(dE (n+1) xs i 0).int∈cd r n 2 gap:=fun i hi=>by rw [X i hi];exact (dH _).subset (at_ _ _ (by omega))
 have mY:∀ i,i<n+1->(dE (n+1) ys i 0).int∈cd r n 3 gap:=fun i hi=>by rw [Y i hi];exact (dH _).subset (at_ _ _ (by omega))
 have key:=aaW V E t ht n hn r gap (n+1) (by omega) (dE (n+1) xs) (dE (n+1) ys) a b e th L W (fun i hi=>hbd 2 (.inl rfl) _ (mX i hi)) (fun i hi=>hbd 3 (.inr rfl) _ (mY i hi)) (fun x188 x189=>(some (x188,x189,true))) (some (0,0,false)) E' 100 0 (by omega) (by omega)
 have run:AL 100 a b th L W e n r q t gap=jc 100 n r t gap (n+1) (aK p t).1 (aK p t).2 (Int.ofNat (n+1)) a b th L W e q (dE (n+1) xs) (dE (n+1) ys) 100 (Int.ofNat 0) (fun x188 x189=>(some (x188,x189,true))) (some (0,0,false)):=by
  unfold AL
  refine (e1 _).trans ?_
  have hb:Nat.beq (n+1) (n+1)=true:=Nat.beq_refl _
  have h0:Nat.beq (n+1) 0=false:=rfl
  rw [s1,aa,ae hb,af h0,s3,aa,ae hb,af h0,sX 100 (aw (pj kR0 q)) p t E'.ol E'.oe E'.hl E'.he,V.good.rect,aa]
  rfl
 rw [run]
 have fX:∀ x' ∈ cd r n 2 gap,∃ i,i<n+1/\(jP (cd r n 2 gap)).getD i 0=x':=fun x' hx'=>by
  obtain ⟨i,hi,e⟩:=of_ (jP (cd r n 2 gap)) x' ((dH _).symm.subset hx')
  exact ⟨i,by omega,e⟩
 have fY:∀ x' ∈ cd r n 3 gap,∃ i,i<n+1/\(jP (cd r n 3 gap)).getD i 0=x':=fun x' hx'=>by
  obtain ⟨i,hi,e⟩:=of_ (jP (cd r n 3 gap)) x' ((dH _).symm.subset hx')
  exact ⟨i,by omega,e⟩
 rcases key with ⟨j,jy,k1,k2,_,k4,k5,k6,k7⟩ | ⟨k1,k2⟩
 ·refine .inl ⟨_,_,k7,mX j k2,mY jy k1,k4,fun x' hx' y' hy' ok=>?_⟩
  obtain ⟨i,hi,ei⟩:=fX x' hx'
  obtain ⟨iy,hiy,eiy⟩:=fY y' hy'
  rw [<- ei,<- eiy,<- X i hi,<- Y iy hiy] at ok ⊢
  by_cases c:iy<jy
  ·exact absurd ok (k6 iy i (by omega) c hi)
  ·have hyy:(dE (n+1) ys jy 0).int<=(dE (n+1) ys iy 0).int:=by rw [Y jy k1,Y iy hiy];exact le_ _ jy iy (by omega) (by omega)
   by_cases d:(dE (n+1) ys jy 0).int<(dE (n+1) ys iy 0).int
   ·exact .inl d
   ·have ey:(dE (n+1) ys jy 0).int=(dE (n+1) ys iy 0).int:=by omega
    refine .inr ⟨ey,?_⟩
    by_cases f:i<j
    ·rw [<- ey] at ok;exact absurd ok (k5 i f)
    ·rw [X j k2,X i hi];exact le_ _ j i (by omega) (by omega)
 ·refine .inr ⟨k1,fun x' hx' y' hy' ok=>?_⟩
  obtain ⟨i,hi,ei⟩:=fX x' hx'
  obtain ⟨iy,hiy,eiy⟩:=fY y' hy'
  rw [<- ei,<- eiy,<- X i hi,<- Y iy hiy] at ok
  exact k2 iy i (by omega) hiy hi ok
def pick (r0 r1:Int × Int × Bool):Int × Bool × Int × Int :=
 if r0.2.2=true then (if r1.2.2=true/\(r1.2.1<r0.2.1\/r1.2.1=r0.2.1/\r1.1<r0.1) then (1,true,r1.1,r1.2.1) else (0,true,r0.1,r0.2.1))
 else if r1.2.2=true then (1,true,r1.1,r1.2.1) else (0,false,0,0)
theorem Qk {ρ:Type} (p:Nat->CV) (gap:Int) (k:Nat) (a b e:ByteArray) (th L W:Int) (T:FF) {r0 r1:Int × Int × Bool}
  (h0:AL 100 a b th L W e k T (aw (pj kR0 p)) 0 gap=some r0) (h1:AL 100 a b th L W e k T (aw (pj kR0 p)) 1 gap=some r1)
  (n:Nat) (f:FF) (N i:Int) (S:FF) (k0:Int->Bool->Int->Int->Option ρ) (m:Nat) :
  dX 100 gap k n f N i a b th L W e S T ((p 0).str) ((p 1).int) ((p 2).int) ((p 3).str) ((p 4).str) ((p 5).int) ((p 6).len) ((p 6).el) ((p 7).len) ((p 7).el) ((p 8).str) ((p 9).int) ((p 10).int) ((p 11).int) ((p 12).int) ((p 13).int) ((p 14).int) ((p 15).int) ((p 16).int) ((p 17).int) (m+3) 0 false 0 0 0 k0 =
   k0 (pick r0 r1).1 (pick r0 r1).2.1 (pick r0 r1).2.2.1 (pick r0 r1).2.2.2:=by
 have w1:w64 (0+1)=1:=by decide
 have w2:w64 (1+1)=2:=by decide
 obtain ⟨x0,y0,b0⟩:=r0
 obtain ⟨x1,y1,b1⟩:=r1
 have last:∀ (t:Int) (s:Bool) (x y:Int),dX 100 gap k n f N i a b th L W e S T ((p 0).str) ((p 1).int) ((p 2).int) ((p 3).str) ((p 4).str) ((p 5).int) ((p 6).len) ((p 6).el) ((p 7).len) ((p 7).el) ((p 8).str) ((p 9).int) ((p 10).int) ((p 11).int) ((p 12).int) ((p 13).int) ((p 14).int) ((p 15).int) ((p 16).int) ((p 17).int) (m+1) t s 2 x y k0=k0 t s x y:=by
  intro t s x y
  unfold dX
  rw [af (by decide)]
 have second:∀ (s:Bool) (x y:Int),dX 100 gap k n f N i a b th L W e S T ((p 0).str) ((p 1).int) ((p 2).int) ((p 3).str) ((p 4).str) ((p 5).int) ((p 6).len) ((p 6).el) ((p 7).len) ((p 7).el) ((p 8).str) ((p 9).int) ((p 10).int) ((p 11).int) ((p 12).int) ((p 13).int) ((p 14).int) ((p 15).int) ((p 16).int) ((p 17).int) (m+2) 0 s 1 x y k0 =
   if b1=true/\(s=false\/(y1<y\/y1=y/\x1<x)) then k0 1 true x1 y1 else k0 0 s x y:=by
  intro s x y
  unfold dX
  rw [ae (by decide)]
  refine (congrArg (fun z=>ob z _) h1).trans ?_
  rw [aa]
  dsimp only
  rw [w2,last,last]
  cases b1 with
  | false=>rw [af (by rfl),if_neg (fun h=>by cases h.1)]
  | true =>
   rw [ae (by rfl)]
   cases s with
   | false=>rw [af (by rfl),if_pos ⟨rfl,.inl rfl⟩]
   | true =>
    rw [ae (by rfl)]
    by_cases c1:y1<y
    ·rw [qcZ c1,af (by rfl),if_pos ⟨rfl,.inr (.inl c1)⟩]
    rw [qeZ c1,ae (by rfl)]
    by_cases c2:y1=y
    ·rw [ae (by simp [c2])]
     by_cases c3:x1<x
     ·rw [ae (qcZ c3),if_pos ⟨rfl,.inr (.inr ⟨c2,c3⟩)⟩]
     ·rw [af (qeZ c3),if_neg (fun h=>by
       rcases h.2 with h | h | h
       ·cases h
       ·exact c1 h
       ·exact c3 h.2)]
    ·rw [af (by simp [c2]),if_neg (fun h=>by
      rcases h.2 with h | h | h
      ·cases h
      ·exact c1 h
      ·exact c2 h.1)]
 unfold dX
 rw [ae (by decide)]
 refine (congrArg (fun z=>ob z _) h0).trans ?_
 rw [aa]
 dsimp only
 rw [w1,second,second]
 unfold pick
 dsimp only
 cases b0 with
 | false =>
  rw [af (by rfl),if_neg (show ¬ ((false:Bool)=true) from by decide)]
  by_cases h:b1=true
  ·rw [if_pos (show b1=true/\_ from ⟨h,.inl rfl⟩),if_pos h]
  ·rw [if_neg (fun q=>h q.1),if_neg h]
 | true =>
  rw [ae (by rfl),af (by rfl),if_pos (show (true:Bool)=true from rfl)]
  by_cases h:b1=true/\(y1<y0\/y1=y0/\x1<x0)
  ·rw [if_pos (show b1=true/\(true=false\/_) from ⟨h.1,.inr h.2⟩),if_pos h]
  ·rw [if_neg (fun q=>h ⟨q.1,q.2.resolve_left (by decide)⟩),if_neg h]
section
variable (a b e : ByteArray) (th L W gap : Int) (f : FF)
def mc (k:Nat) (T:FF) (i:Nat) (t:Int):Int × Int × Bool:=(AL 100 a b th L W e k T (aw (pj kR0 (f i))) t gap).getD (0,0,false)
def cz (k:Nat) (T:FF) (i:Nat):Int × Bool × Int × Int:=pick (mc a b e th L W gap f k T i 0) (mc a b e th L W gap f k T i 1)
def mD (i k:Nat) (S T:FF):Nat × FF × FF :=
 if (cz a b e th L W gap f k T i).2.1=true then
  (k+1,aC k S (aL 5 [(.s ((f i 0).str)),(.i .i64 ((cz a b e th L W gap f k T i).2.2.1-(aQ (f i) (cz a b e th L W gap f k T i).1).1)),(.i .i64 ((cz a b e th L W gap f k T i).2.2.2-(aQ (f i) (cz a b e th L W gap f k T i).1).2)),(.i .i64 (cz a b e th L W gap f k T i).1),(.b false)]),
   aC k T (aL 4 [(.i .i64 (cz a b e th L W gap f k T i).2.2.1),(.i .i64 (cz a b e th L W gap f k T i).2.2.2),(.i .i64 ((cz a b e th L W gap f k T i).2.2.1+(aK (f i) (cz a b e th L W gap f k T i).1).1)),(.i .i64 ((cz a b e th L W gap f k T i).2.2.2+(aK (f i) (cz a b e th L W gap f k T i).1).2))]))
 else (k,S,T)
def lY:Nat->Nat->Nat->FF->FF->Nat × FF × FF
 | 0,_,k,S,T=>(k,S,T)
 | m+1,i,k,S,T=>lY m (i+1) (mD a b e th L W gap f i k S T).1 (mD a b e th L W gap f i k S T).2.1 (mD a b e th L W gap f i k S T).2.2
end
def Do (k:Nat) (T:FF):Prop:=∀ j,j<k->∀ c,c<4->0<=bx T j c/\bx T j c<=32768
section
variable {a b e : ByteArray} {th L W gap : Int} {f : FF}
theorem tQ {i:Nat} (V:cD (f i)) (t:Int) (ht:t=0\/t=1) {k:Nat} (hk:k<=60) {T:FF} (hg:0<=gap/\gap<=500) (hT:Do k T) :
  AL 100 a b th L W e k T (aw (pj kR0 (f i))) t gap=some (mc a b e th L W gap f k T i t) /\
  ((mc a b e th L W gap f k T i t).2.2=true->lL (f i) t k T L W gap (mc a b e th L W gap f k T i t).1 (mc a b e th L W gap f k T i t).2.1 /\
   (mc a b e th L W gap f k T i t).1∈cd T k 2 gap/\(mc a b e th L W gap f k T i t).2.1∈cd T k 3 gap /\
   ∀ x' ∈ cd T k 2 gap,∀ y' ∈ cd T k 3 gap,lL (f i) t k T L W gap x' y'->(mc a b e th L W gap f k T i t).2.1<y'\/((mc a b e th L W gap f k T i t).2.1=y'/\(mc a b e th L W gap f k T i t).1<=x')) /\
  ((mc a b e th L W gap f k T i t).2.2=false->mc a b e th L W gap f k T i t=(0,0,false)/\∀ x' ∈ cd T k 2 gap,∀ y' ∈ cd T k 3 gap,¬ lL (f i) t k T L W gap x' y'):=by
 rcases QD V (q:=aw (pj kR0 (f i))) ⟨rfl,rfl,rfl,rfl,rfl⟩ ⟨rfl,rfl,rfl,rfl,rfl⟩ t ht k hk T gap hg (fun j hj c hc=>by have:=hT j hj c hc;omega) a b e th L W with ⟨x,y,h1,h2,h3,h4,h5⟩ | ⟨h1,h2⟩
 ·have e:mc a b e th L W gap f k T i t=(x,y,true):=by unfold mc;rw [h1];rfl
  rw [e]
  exact ⟨h1,fun _=>⟨h4,h2,h3,h5⟩,fun h=>by cases h⟩
 ·have e:mc a b e th L W gap f k T i t=(0,0,false):=by unfold mc;rw [h1];rfl
  rw [e]
  exact ⟨h1,fun h=>(by cases h),fun _=>⟨rfl,h2⟩⟩
theorem vL {i:Nat} (V:cD (f i)) {k:Nat} (hk:k<=60) {T:FF} (hg:0<=gap/\gap<=500) (hT:Do k T) :
  ((cz a b e th L W gap f k T i).1=0\/(cz a b e th L W gap f k T i).1=1) /\
  ((cz a b e th L W gap f k T i).2.1=true->lL (f i) (cz a b e th L W gap f k T i).1 k T L W gap (cz a b e th L W gap f k T i).2.2.1 (cz a b e th L W gap f k T i).2.2.2) /\
  ((cz a b e th L W gap f k T i).2.1=false->∀ t,(t=0\/t=1)->∀ x' ∈ cd T k 2 gap,∀ y' ∈ cd T k 3 gap,¬ lL (f i) t k T L W gap x' y'):=by
 obtain ⟨_,a1,a2⟩:=tQ (a:=a) (b:=b) (e:=e) (th:=th) (L:=L) (W:=W) V 0 (.inl rfl) hk hg hT
 obtain ⟨_,b1,b2⟩:=tQ (a:=a) (b:=b) (e:=e) (th:=th) (L:=L) (W:=W) V 1 (.inr rfl) hk hg hT
 unfold cz pick
 generalize mc a b e th L W gap f k T i 0=r0 at *
 generalize mc a b e th L W gap f k T i 1=r1 at *
 by_cases c0:r0.2.2=true
 ·rw [if_pos c0]
  by_cases c1:r1.2.2=true/\(r1.2.1<r0.2.1\/r1.2.1=r0.2.1/\r1.1<r0.1)
  ·rw [if_pos c1]
   exact ⟨.inr rfl,fun _=>(b1 c1.1).1,fun h=>by cases h⟩
  ·rw [if_neg c1]
   exact ⟨.inl rfl,fun _=>(a1 c0).1,fun h=>by cases h⟩
 ·rw [if_neg c0]
  by_cases c1:r1.2.2=true
  ·rw [if_pos c1]
   exact ⟨.inr rfl,fun _=>(b1 c1).1,fun h=>by cases h⟩
  ·rw [if_neg c1]
   refine ⟨.inl rfl,fun h=>(by cases h),fun _ t ht=>?_⟩
   rcases ht with rfl | rfl
   ·exact (a2 (by simpa using c0)).2
   ·exact (b2 (by simpa using c1)).2
theorem Cz {i:Nat} (V:cD (f i)) {k:Nat} (hk:k<=60) {S T:FF} (hg:0<=gap/\gap<=500) (hT:Do k T) :
  Do (mD a b e th L W gap f i k S T).1 (mD a b e th L W gap f i k S T).2.2:=by
 obtain ⟨_,h1,_⟩:=vL (a:=a) (b:=b) (e:=e) (th:=th) (L:=L) (W:=W) V hk hg hT
 unfold mD
 by_cases c:(cz a b e th L W gap f k T i).2.1=true
 ·rw [if_pos c]
  obtain ⟨_,q1,_,q3,_⟩:=h1 c
  unfold rR at q1
  unfold FIn at q3
  intro j hj d hd
  have hj:j<k+1:=hj
  dsimp only
  by_cases hjk:j<k
  ·show 0<=CV.int _/\CV.int _<=32768
   rw [dm _ _ _ _ _ hjk];exact hT j hjk d hd
  ·have:j=k:=by omega
   subst this
   show 0<=CV.int _/\CV.int _<=32768
   rw [cQ _ _ _ _ _ (rmZ _),Nat.sub_self]
   match d,hd with
   | 0,_=>show 0<=(cz a b e th L W gap f j T i).2.2.1/\(cz a b e th L W gap f j T i).2.2.1<=32768;omega
   | 1,_=>show 0<=(cz a b e th L W gap f j T i).2.2.2/\(cz a b e th L W gap f j T i).2.2.2<=32768;omega
   | 2,_=>show 0<=(cz a b e th L W gap f j T i).2.2.1+(aK (f i) (cz a b e th L W gap f j T i).1).1/\(cz a b e th L W gap f j T i).2.2.1+(aK (f i) (cz a b e th L W gap f j T i).1).1<=32768;omega
   | 3,_=>show 0<=(cz a b e th L W gap f j T i).2.2.2+(aK (f i) (cz a b e th L W gap f j T i).1).2/\(cz a b e th L W gap f j T i).2.2.2+(aK (f i) (cz a b e th L W gap f j T i).1).2<=32768;omega
 ·rw [if_neg c];exact hT
theorem KK {i k:Nat} {S T:FF} (h:k<=i):(mD a b e th L W gap f i k S T).1<=i+1:=by
 unfold mD
 split
 ·show k+1<=i+1;omega
 ·show k<=i+1;omega
theorem D7 {ρ:Type} {n:Nat} (hn:n<=20) (hV:∀ i,i<n->cD (f i)) (hg:0<=gap/\gap<=500) (k0 k1:Nat->FF->Option ρ):∀ (m i k:Nat) (S T:FF),n<m+i->i<=n->k<=i->Do k T ->
  mw 100 gap n f (Int.ofNat n) a b th L W e m k (Int.ofNat i) S T k0 k1=k1 (lY a b e th L W gap f (n-i) i k S T).1 (lY a b e th L W gap f (n-i) i k S T).2.1:=by
 intro m
 induction m with
 | zero=>intro i k S T h1 h2;omega
 | succ m ih =>
  intro i k S T h1 h2 hk hT
  unfold mw
  rw [aF,ay,ao]
  by_cases h:i<n
  case neg =>
   have:n-i=0:=by omega
   rw [af (qeZ h),this];rfl
  have V:=hV i h
  have c32:(Int.ofNat k==32)=false:=by
   rw [rhZ]
   show (k:Int)≠32
   omega
  rw [ae (qcZ h),ae (qcZ h),c32,cond_false]
  rw [show n-i=(n-(i+1))+1 from by omega,lY]
  have hb:=Cz (a:=a) (b:=b) (e:=e) (th:=th) (L:=L) (W:=W) (S:=S) V (by omega:k<=60) hg hT
  have hl:=KK (a:=a) (b:=b) (e:=e) (th:=th) (L:=L) (W:=W) (gap:=gap) (f:=f) (S:=S) (T:=T) hk
  rw [<- ih (i+1) _ _ _ (by omega) (by omega) hl hb]
  obtain ⟨e0,_⟩:=tQ (a:=a) (b:=b) (e:=e) (th:=th) (L:=L) (W:=W) V 0 (.inl rfl) (by omega:k<=60) hg hT
  obtain ⟨e1,_⟩:=tQ (a:=a) (b:=b) (e:=e) (th:=th) (L:=L) (W:=W) V 1 (.inr rfl) (by omega:k<=60) hg hT
  refine (Qk (f i) gap k a b e th L W T e0 e1 n f (Int.ofNat n) (Int.ofNat i) S _ 97).trans ?_
  rw [show pick (mc a b e th L W gap f k T i 0) (mc a b e th L W gap f k T i 1)=cz a b e th L W gap f k T i from rfl]
  obtain ⟨p1,p2,_⟩:=vL (a:=a) (b:=b) (e:=e) (th:=th) (L:=L) (W:=W) V (by omega:k<=60) hg hT
  unfold mD
  rw [ax (by omega)]
  generalize cz a b e th L W gap f k T i=r at *
  obtain ⟨t,s,x,y⟩:=r
  dsimp only at p1 p2 ⊢
  cases s with
  | false=>rw [cond_false,if_neg (by decide)]
  | true =>
   obtain ⟨q0,q1,_,q3,_⟩:=p2 rfl
   unfold rR at q1
   unfold FIn at q3
   obtain ⟨z,e2,_⟩:=Bb V (q:=aw (pj kR0 (f i))) ⟨rfl,rfl,rfl,rfl,rfl⟩ t x y p1 (by omega) (by omega)
   have e3:=HM V.good (aw (pj kR0 (f i))) t x y rfl rfl rfl rfl (by omega) (by omega)
   rw [cond_true,if_pos rfl,e2,aa,ae (jN (by omega)),e3,aa,ae (jN (by omega))]
theorem QP {P:Nat} {PF:FF} {n:Nat} (hs:ru 100 a b th L W e P PF=some (n,f)) (hn:n<=20) (hV:∀ i,i<n->cD (f i)) :
  ((0<=gap/\gap<=500)->FR 100 a b th L W e P PF gap=some (a,gap,(lY a b e th L W gap f n 0 0 (fun _ _=>.any) (fun _ _=>.any)).1,(lY a b e th L W gap f n 0 0 (fun _ _=>.any) (fun _ _=>.any)).2.1)) /\
  (¬ (0<=gap/\gap<=500)->FR 100 a b th L W e P PF gap=some (a,gap,0,(fun _ _=>.any))):=by
 refine ⟨fun hg=>?_,fun hg=>?_⟩
 ·have h1:=D7 (a:=a) (b:=b) (e:=e) (th:=th) (L:=L) (W:=W) hn hV hg (fun x276 x277=>(some (false,a,gap,x276,x277))) (fun x276 x277=>(some (false,a,gap,x276,x277))) 100 0 0 (fun _ _=>.any) (fun _ _=>.any) (by omega) (by omega) (by omega) (fun j hj=>by omega)
  unfold FR FO
  rw [dQ,aa,af (by simp [hg.1,hg.2]),hs,aa]
  refine (congrArg (fun z=>ob z _) h1).trans ?_
  rw [aa];rfl
 ·unfold FR FO
  rw [dQ,aa,ae (by simp only [Bool.not_eq_true',Bool.and_eq_false_iff,decide_eq_false_iff_not];omega)]
  rfl
end
theorem CZ {r:FF} {n c:Nat} {gap x:Int} (h:x∉cd r n c gap):x≠gap/\∀ j,j<n->x≠bx r j c+gG gap:=by
 unfold cd at h
 rw [List.mem_cons,not_or] at h
 refine ⟨h.1,fun j hj e=>h.2 (rlZ.2 ⟨j,rkZ.2 hj,e.symm⟩)⟩
theorem Xo {p:Nat->CV} (V:cD p) {t:Int} (ht:t=0\/t=1) {n:Nat} {r:FF} {L W gap:Int} (hno:∀ x' ∈ cd r n 2 gap,∀ y' ∈ cd r n 3 gap,¬ lL p t n r L W gap x' y') (x y:Int):¬ lL p t n r L W gap x y:=by
 have lo:=V.lo t ht
 have key:∀ (N:Nat) (x y:Int),x.toNat+y.toNat<N->¬ lL p t n r L W gap x y:=by
  intro N
  induction N with
  | zero=>intro x y h;omega
  | succ N ih =>
   intro x y h ok
   obtain ⟨h1,h2,h3,h4,h5⟩:=id ok
   unfold B3 at h1
   unfold rR at h2
   unfold FIn at h4
   by_cases cx:x∈cd r n 2 gap
   ·by_cases cy:y∈cd r n 3 gap
    ·exact hno x cx y cy ok
    ·obtain ⟨q1,q2⟩:=CZ cy
     refine ih x (y-1) (by omega) ⟨by unfold B3;omega,by unfold rR;omega,h3,by unfold FIn;omega,fun j hj=>?_⟩
     have a:=h5 j hj
     have b:=q2 j hj
     unfold ot Apt at a ⊢
     omega
   ·obtain ⟨q1,q2⟩:=CZ cx
    refine ih (x-1) y (by omega) ⟨by unfold B3;omega,by unfold rR;omega,h3,by unfold FIn;omega,fun j hj=>?_⟩
    have a:=h5 j hj
    have b:=q2 j hj
    unfold ot Apt at a ⊢
    omega
 exact key _ x y (Nat.lt_succ_self _)
theorem lN.mono {len wid:Int} {n n' : Nat} {r:FF} {x y l w gap:Int} (h:lN len wid n' r x y l w gap) (hn:n<=n'):lN len wid n r x y l w gap :=
 ⟨h.1,fun j hj=>h.2.1 j (by omega),h.2.2.1,fun j hj=>h.2.2.2 j (by omega)⟩
theorem vW {n:Nat} {f S S' : FF} {j:Nat} (e:S' j=S j):bxS n f S' j=bxS n f S j:=by
 funext c
 unfold bxS pS
 rw [e]
theorem eV.congr {n:Nat} {f S S' : FF} {L W gap:Int} {i:Nat} (e:∀ j,j<=i->S' j=S j) (h:eV n f S L W gap i):eV n f S' L W gap i:=by
 obtain ⟨h1,h2,h3,h4,h5,h6⟩:=h
 have ei:=e i (rmZ _)
 refine ⟨by rw [ei];exact h1,by rw [ei];exact h2,by rw [ei];exact h3,by rw [ei];exact h4,fun j hj=>by rw [ei,e j (by omega)];exact h5 j hj,?_⟩
 have eb:=vW (n:=n) (f:=f) ei
 have ep:pS n f S' i=pS n f S i:=by unfold pS;rw [ei]
 rw [ep,ei,show bx (bxS n f S') i 0=bx (bxS n f S) i 0 from by unfold bx;rw [eb],show bx (bxS n f S') i 1=bx (bxS n f S) i 1 from by unfold bx;rw [eb]]
 exact h6.congr fun j c hj _=>by unfold bx;rw [vW (e j (by omega))]
structure Dn (n:Nat) (f:FF) (L W gap:Int) (i k:Nat) (S T:FF):Prop where
 le:k<=i
 box:Do k T
 same:∀ j c,j<k->c<4->bx T j c=bx (bxS n f S) j c
 idx:∀ j,j<k->∃ m,m<i/\(S j 0).str=(f m 0).str
 poss:∀ j,j<k->eV n f S L W gap j
 no:∀ m,m<i->(∀ j,j<k->(S j 0).str≠(f m 0).str)->∀ t x y,(t=0\/t=1)->¬ lL (f m) t k T L W gap x y
theorem CO {n:Nat} {f g:FF} {j:Nat} (h:j<n):aC n f g j=f j:=by funext c;exact dm _ _ _ _ _ h
section
variable {a b e : ByteArray} {th L W gap : Int} {f : FF} {n : Nat} (hn : n <= 20) (hV : ∀ i, i < n -> cD (f i)) (hD : ∀ i j, i < j -> j < n -> (f i 0).str ≠ (f j 0).str) (hg : 0 <= gap /\ gap <= 500)
include hn hV hD hg
theorem Dn.step {i k:Nat} {S T:FF} (h:Dn n f L W gap i k S T) (hi:i<n):Dn n f L W gap (i+1) (mD a b e th L W gap f i k S T).1 (mD a b e th L W gap f i k S T).2.1 (mD a b e th L W gap f i k S T).2.2:=by
 have hk:=h.le
 have V:=hV i hi
 have hbx:=Cz (a:=a) (b:=b) (e:=e) (th:=th) (L:=L) (W:=W) (S:=S) V (by omega:k<=60) hg h.box
 obtain ⟨p1,p2,p3⟩:=vL (a:=a) (b:=b) (e:=e) (th:=th) (L:=L) (W:=W) V (by omega:k<=60) hg h.box
 unfold mD at hbx ⊢
 generalize cz a b e th L W gap f k T i=r at *
 obtain ⟨t,s,x,y⟩:=r
 dsimp only at p1 p2 p3 hbx ⊢
 cases s with
 | false =>
  rw [if_neg (by decide)] at hbx ⊢
  refine ⟨Nat.le_succ_of_le hk,hbx,h.same,fun j hj=>?_,h.poss,fun m hm hno t x y ht=>?_⟩
  ·obtain ⟨m,q1,q2⟩:=h.idx j hj
   exact ⟨m,by omega,q2⟩
  ·by_cases c:m<i
   ·exact h.no m c hno t x y ht
   ·have:m=i:=by omega
    subst this
    exact Xo V ht (p3 rfl t ht) x y
 | true =>
  obtain ⟨q0,q1,q2,q3,q4⟩:=p2 rfl
  rw [if_pos rfl] at hbx ⊢
  dsimp only at hbx ⊢
  generalize hS:aC k S (aL 5 [(.s ((f i 0).str)),(.i .i64 (x-(aQ (f i) t).1)),(.i .i64 (y-(aQ (f i) t).2)),(.i .i64 t),(.b false)])=S' at *
  generalize hT:aC k T (aL 4 [(.i .i64 x),(.i .i64 y),(.i .i64 (x+(aK (f i) t).1)),(.i .i64 (y+(aK (f i) t).2))])=T' at *
  have old:∀ j,j<k->S' j=S j:=fun j hj=>by rw [<- hS];exact CO hj
  have oldT:∀ j,j<k->T' j=T j:=fun j hj=>by rw [<- hT];exact CO hj
  have s0:(S' k 0).str=(f i 0).str:=by rw [<- hS,cQ _ _ _ _ _ (rmZ _),Nat.sub_self];rfl
  have s1:(S' k 1).int=x-(aQ (f i) t).1:=by rw [<- hS,cQ _ _ _ _ _ (rmZ _),Nat.sub_self];rfl
  have s2:(S' k 2).int=y-(aQ (f i) t).2:=by rw [<- hS,cQ _ _ _ _ _ (rmZ _),Nat.sub_self];rfl
  have s3:(S' k 3).int=t:=by rw [<- hS,cQ _ _ _ _ _ (rmZ _),Nat.sub_self];rfl
  have s4:(S' k 4).bool=false:=by rw [<- hS,cQ _ _ _ _ _ (rmZ _),Nat.sub_self];rfl
  have t0:bx T' k 0=x:=by unfold bx;rw [<- hT,cQ _ _ _ _ _ (rmZ _),Nat.sub_self];rfl
  have t1:bx T' k 1=y:=by unfold bx;rw [<- hT,cQ _ _ _ _ _ (rmZ _),Nat.sub_self];rfl
  have t2:bx T' k 2=x+(aK (f i) t).1:=by unfold bx;rw [<- hT,cQ _ _ _ _ _ (rmZ _),Nat.sub_self];rfl
  have t3:bx T' k 3=y+(aK (f i) t).2:=by unfold bx;rw [<- hT,cQ _ _ _ _ _ (rmZ _),Nat.sub_self];rfl
  have hfd:fd n f ((f i 0).str)=Int.ofNat i:=(tW hi).2 fun j hj=>hD j i hj hi
  have hp:pS n f S' k=f i:=by unfold pS;rw [s0,hfd];rfl
  have same:∀ j c,j<k+1->c<4->bx T' j c=bx (bxS n f S') j c:=by
   intro j c hj hc
   by_cases hjk:j<k
   ·unfold bx
    rw [oldT j hjk,vW (old j hjk)]
    exact h.same j c hjk hc
   ·have:j=k:=by omega
    subst this
    match c,hc with
    | 0,_ =>
     show _=(aQ (pS n f S' j) ((S' j 3).int)).1+(S' j 1).int
     rw [t0,hp,s1,s3];omega
    | 1,_ =>
     show _=(aQ (pS n f S' j) ((S' j 3).int)).2+(S' j 2).int
     rw [t1,hp,s2,s3];omega
    | 2,_ =>
     show _=(aQ (pS n f S' j) ((S' j 3).int)).1+(S' j 1).int+(aK (pS n f S' j) ((S' j 3).int)).1
     rw [t2,hp,s1,s3];omega
    | 3,_ =>
     show _=(aQ (pS n f S' j) ((S' j 3).int)).2+(S' j 2).int+(aK (pS n f S' j) ((S' j 3).int)).2
     rw [t3,hp,s2,s3];omega
  refine ⟨Nat.succ_le_succ hk,hbx,same,fun j hj=>?_,fun j hj=>?_,fun m hm hno t x y ht ok=>?_⟩
  ·by_cases hjk:j<k
   ·obtain ⟨m,w1,w2⟩:=h.idx j hjk
    exact ⟨m,by omega,by rw [old j hjk];exact w2⟩
   ·have:j=k:=by omega
    subst this
    exact ⟨i,by omega,s0⟩
  ·by_cases hjk:j<k
   ·exact (h.poss j hjk).congr fun j' hj'=>old j' (by omega)
   ·have:j=k:=by omega
    subst this
    unfold B3 at q0
    refine ⟨by rw [s0,hfd];exact riZ _,s4,by rw [s3];exact p1,by rw [s1,s2];exact q0,fun j' hj'=>?_,?_⟩
    ·obtain ⟨m,w1,w2⟩:=h.idx j' hj'
     rw [s0,old j' hj',w2]
     exact hD m i w1 hi
    ·rw [hp,s3,<- same j 0 (by omega) (by omega),<- same j 1 (by omega) (by omega),t0,t1]
     refine lN.congr (r:=T) (fun j' c hj' hc=>?_) ⟨q1,q2,q3,q4⟩
     rw [<- same j' c (by omega) hc]
     unfold bx
     rw [oldT j' hj']
  ·by_cases c:m<i
   ·refine h.no m c (fun j hj=>?_) t x y ht ⟨ok.1,(ok.2.mono (Nat.le_succ _)).congr fun j c hj _=>by unfold bx;rw [oldT j hj]⟩
    have:=hno j (by omega)
    rw [old j hj] at this;exact this
   ·have:m=i:=by omega
    subst this
    exact hno k (by omega) s0
theorem CS:∀ (m i k:Nat) (S T:FF),i+m=n->Dn n f L W gap i k S T->Dn n f L W gap n (lY a b e th L W gap f m i k S T).1 (lY a b e th L W gap f m i k S T).2.1 (lY a b e th L W gap f m i k S T).2.2
 | 0,i,k,S,T,h1,h2=>by
  have:i=n:=by omega
  rw [<- this];rw [<- this] at h2;exact h2
 | m+1,i,k,S,T,h1,h2=>by
  unfold lY
  exact CS m (i+1) _ _ _ (by omega) (h2.step hn hV hD hg (by omega))
theorem Oh (S T:FF):Dn n f L W gap n (lY a b e th L W gap f n 0 0 S T).1 (lY a b e th L W gap f n 0 0 S T).2.1 (lY a b e th L W gap f n 0 0 S T).2.2 :=
 CS hn hV hD hg n 0 0 S T (by omega) ⟨rmZ _,fun j hj=>by omega,fun j c hj=>by omega,fun j hj=>by omega,fun j hj=>by omega,fun m hm=>by omega⟩
end
theorem F2 {P:Nat} {PF:FF} (hP:B0 P PF) (h20:P<=20) (a gr e:ByteArray) (th L W:Int):∃ n f,ru 100 a gr th L W e P PF=some (n,f)/\n<=P/\(∀ i,i<n->cD (f i))/\(∀ i j,i<j->j<n->(f i 0).str≠(f j 0).str):=by
 obtain ⟨js,f,e1,hl,hS⟩:=EB P PF a gr e th L W h20
 have hm:∀ i,i<js.length->js.getD i 0∈js:=fun i hi=>by rw [qdZ,qgZ hi];exact List.getElem_mem _
 refine ⟨_,f,e1,hl,fun i hi=>?_,fun i j hij hj=>?_⟩
 ·obtain ⟨q1,q2⟩:=hS.ok _ (hm i hi)
  exact (Ql hP q1 q2).of_row (hS.row i hi)
 ·rw [(hS.row i (by omega)).id,(hS.row j hj).id]
  have hlt:js.getD i 0<js.getD j 0:=by
   have:=hS.asc
   rw [rfZ] at this
   have:=this i j (by omega) hj hij
   rw [qdZ,qgZ (by omega),qdZ,qgZ hj]
   exact this
  exact (hS.ok _ (hm j hj)).2.1 _ hlt
def Ahd (x l:Int->Int) (g:Int) (i j:Int):Prop:=x i+l i+g<=x j
theorem NO (y:Int->Int):∀ S:List Int,S≠[]->∃ z∈S,∀ j∈S,y j<=y z
 | [],h=>absurd rfl h
 | [a],_=>⟨a,qmZ,fun j hj=>by rw [qzZ] at hj;rw [hj];exact Int.le_refl _⟩
 | a::b::S,_=>by
  obtain ⟨z,hz,h⟩:=NO y (b::S) (by simp)
  by_cases c:y a<=y z
  ·refine ⟨z,qjZ _ hz,fun j hj=>?_⟩
   rcases List.mem_cons.1 hj with rfl | hj
   ·exact c
   ·exact h j hj
  ·refine ⟨a,qmZ,fun j hj=>?_⟩
   rcases List.mem_cons.1 hj with rfl | hj
   ·exact Int.le_refl _
   ·have:=h j hj;omega
theorem NX {x y l w:Int->Int} {g:Int} (hg:0<=g):∀ (n:Nat) (S:List Int),S.length<=n->S≠[]->(∀ i∈S,1<=l i/\1<=w i) ->
  (∀ i∈S,∀ j∈S,i≠j->(Ahd x l g i j\/Ahd y w g i j)\/(Ahd x l g j i\/Ahd y w g j i))->∃ m∈S,∀ j∈S,j≠m->Ahd x l g m j\/Ahd y w g m j:=by
 intro n
 induction n with
 | zero=>intro S h hne;exact absurd (List.length_eq_zero_iff.1 (by omega)) hne
 | succ n ih =>
  intro S hn hne hp hs
  obtain ⟨z,hz,hmax⟩:=NO y S hne
  by_cases hS:S.erase z = []
  ·refine ⟨z,hz,fun j hj hjz=>?_⟩
   have:j∈S.erase z:=(List.mem_erase_of_ne hjz).2 hj
   rw [hS] at this;cases this
  ·have hsub:∀ j∈S.erase z,j∈S:=fun j hj=>List.mem_of_mem_erase hj
   obtain ⟨m,hm,hmin⟩:=ih (S.erase z) (by rw [List.length_erase_of_mem hz];omega) hS (fun i hi=>hp i (hsub i hi)) (fun i hi j hj=>hs i (hsub i hi) j (hsub j hj))
   have hmS:=hsub m hm
   by_cases c:z=m\/(Ahd x l g m z\/Ahd y w g m z)
   ·refine ⟨m,hmS,fun j hj hjm=>?_⟩
    by_cases hjz:j=z
    ·rcases c with c | c
     ·exact absurd (hjz.trans c) hjm
     ·rw [hjz];exact c
    ·exact hmin j ((List.mem_erase_of_ne hjz).2 hj) hjm
   ·have hzm:z≠m:=fun h=>c (.inl h)
    have c:¬ (Ahd x l g m z\/Ahd y w g m z):=fun h=>c (.inr h)
    have pz:=hp z hz
    have pm:=hp m hmS
    have mx:=hmax m hmS
    have a1:Ahd x l g z m:=by
     rcases hs m hmS z hz (fun h=>hzm h.symm) with h | h | h
     ·exact absurd h c
     ·exact h
     ·unfold Ahd at h;omega
    refine ⟨z,hz,fun j hj hjz=>?_⟩
    by_cases hjm:j=m
    ·rw [hjm];exact .inl a1
    ·have mj:=hmax j hj
     rcases hmin j ((List.mem_erase_of_ne hjz).2 hj) hjm with h | h
     ·left;unfold Ahd at *;omega
     ·exfalso
      apply c
      right
      unfold Ahd at *;omega
theorem EX {x y l w:Int->Int} {g:Int} (hg:0<=g):∀ (n:Nat) (S:List Int),S.length=n->S.Nodup->(∀ i∈S,1<=l i/\1<=w i) ->
  (∀ i∈S,∀ j∈S,i≠j->(Ahd x l g i j\/Ahd y w g i j)\/(Ahd x l g j i\/Ahd y w g j i))->∃ q:List Int,q.Perm S/\q.Pairwise fun i j=>Ahd x l g i j\/Ahd y w g i j:=by
 intro n
 induction n with
 | zero=>intro S h _ _ _;exact ⟨[],by rw [List.length_eq_zero_iff.1 h],List.Pairwise.nil⟩
 | succ n ih =>
  intro S hn hd hp hs
  have hne:S≠[]:=by intro h;rw [h] at hn;simp at hn
  obtain ⟨m,hm,hmin⟩:=NX hg S.length S (rmZ _) hne hp hs
  have hsub:∀ j∈S.erase m,j∈S:=fun j hj=>List.mem_of_mem_erase hj
  obtain ⟨q,hq,hP⟩:=ih (S.erase m) (by rw [List.length_erase_of_mem hm];omega) (hd.erase m) (fun i hi=>hp i (hsub i hi)) (fun i hi j hj=>hs i (hsub i hi) j (hsub j hj))
  refine ⟨m::q,(hq.cons m).trans (List.perm_cons_erase hm).symm,List.pairwise_cons.2 ⟨fun j hj=>?_,hP⟩⟩
  have hj':=hq.subset hj
  refine hmin j (hsub j hj') fun h=>?_
  subst h
  exact (List.Nodup.not_mem_erase hd) hj'
theorem NZ (l:List Int) (a:Int):∀ (m i:Nat),i+m=l.length->(∃ t,i<=t/\t<l.length/\l.getD t 0=a)->∃ t:Nat,JV l a m i=(t:Int)/\i<=t/\t<l.length/\l.getD t 0=a:=by
 intro m
 induction m with
 | zero=>intro i h ⟨t,h1,h2,_⟩;omega
 | succ m ih =>
  intro i h hex
  unfold JV
  by_cases c:a=l.getD i 0
  ·rw [if_pos c];exact ⟨i,rfl,rmZ _,by omega,c.symm⟩
  ·rw [if_neg c]
   obtain ⟨t,h1,h2,h3⟩:=hex
   have:t≠i:=fun e=>c (by rw [<- e,h3])
   obtain ⟨t',q1,q2,q3,q4⟩:=ih (i+1) (by omega) ⟨t,by omega,h2,h3⟩
   exact ⟨t',q1,by omega,q3,q4⟩
theorem IC {l:List Int} {a:Int} (h:a∈l):∃ t:Nat,ixI l a=(t:Int)/\t<l.length/\l.getD t 0=a:=by
 obtain ⟨t,ht,e⟩:=List.getElem_of_mem h
 obtain ⟨t',q1,_,q3,q4⟩:=NZ l a l.length 0 (by omega) ⟨t,by omega,ht,by rw [qdZ,qgZ ht];exact e⟩
 exact ⟨t',q1,q3,q4⟩
theorem Q4 {R:Int->Int->Prop} {p:List Int} (hp:p.Pairwise R) {a b:Int} (ha:a∈p) (hb:b∈p) (hne:a≠b):(Bef p a b->R a b)/\(¬ Bef p a b->R b a):=by
 obtain ⟨s,s1,s2,s3⟩:=IC ha
 obtain ⟨t,t1,t2,t3⟩:=IC hb
 unfold Bef
 rw [s1,t1]
 rw [rfZ] at hp
 have gs:p[s]=a:=by rw [<- s3,qdZ,qgZ s2];rfl
 have gt:p[t]=b:=by rw [<- t3,qdZ,qgZ t2];rfl
 refine ⟨fun h=>?_,fun h=>?_⟩
 ·have:=hp s t s2 t2 (by omega)
  rw [gs,gt] at this;exact this
 ·have hst:s≠t:=by intro e;subst e;exact hne (gs.symm.trans gt)
  have:=hp t s t2 s2 (by omega)
  rw [gs,gt] at this;exact this
theorem Qm {x y l w:Int->Int} {g:Int} (hg:0<=g) {S:List Int} (hd:S.Nodup) (hp:∀ i∈S,1<=l i/\1<=w i)
  (hs:∀ i∈S,∀ j∈S,i≠j->(Ahd x l g i j\/Ahd y w g i j)\/(Ahd x l g j i\/Ahd y w g j i)) :
  ∃ p q:List Int,p.Perm S/\q.Perm S/\∀ s t,s<t->t<q.length->(Bef p (q.getD s 0) (q.getD t 0)->Ahd x l g (q.getD s 0) (q.getD t 0))/\(¬ Bef p (q.getD s 0) (q.getD t 0)->Ahd y w g (q.getD s 0) (q.getD t 0)):=by
 obtain ⟨q,hq,hQ⟩:=EX (x:=x) (y:=y) (l:=l) (w:=w) hg S.length S rfl hd hp hs
 have mir:∀ i j,Ahd (fun i=>-(y i+w i)) w g i j↔Ahd y w g j i:=fun i j=>by
  show -(y i+w i)+w i+g<=-(y j+w j)↔y j+w j+g<=y i
  omega
 obtain ⟨p,hpp,hP⟩:=EX (x:=x) (y:=fun i=>-(y i+w i)) (l:=l) (w:=w) hg S.length S rfl hd hp (fun i hi j hj hij=>by
  rw [mir,mir]
  rcases hs i hi j hj hij with (h | h) | (h | h)
  ·exact .inl (.inl h)
  ·exact .inr (.inr h)
  ·exact .inr (.inl h)
  ·exact .inl (.inr h))
 refine ⟨p,q,hpp,hq,fun s t hst ht=>?_⟩
 have gs:q.getD s 0=q[s]:=by rw [qdZ,qgZ (by omega)];rfl
 have gt:q.getD t 0=q[t]:=by rw [qdZ,qgZ ht];rfl
 have nd:=hq.nodup_iff.2 hd
 have hne:q.getD s 0≠q.getD t 0:=by
  rw [gs,gt]
  rw [reZ,rfZ] at nd
  exact nd s t (by omega) ht hst
 have ms:q.getD s 0∈q:=by rw [gs];exact List.getElem_mem _
 have mt:q.getD t 0∈q:=by rw [gt];exact List.getElem_mem _
 have hQ' : Ahd x l g (q.getD s 0) (q.getD t 0)\/Ahd y w g (q.getD s 0) (q.getD t 0):=by
  rw [rfZ] at hQ
  rw [gs,gt];exact hQ s t (by omega) ht hst
 have B:=Q4 hP (hpp.symm.subset (hq.subset ms)) (hpp.symm.subset (hq.subset mt)) hne
 have p1:=hp _ (hq.subset ms)
 have p2:=hp _ (hq.subset mt)
 refine ⟨fun h=>?_,fun h=>?_⟩
 ·rcases B.1 h with k | k
  ·exact k
  ·rw [mir] at k
   rcases hQ' with m | m
   ·exact m
   ·unfold Ahd at k m;omega
 ·rcases B.2 h with k | k
  ·rcases hQ' with m | m
   ·unfold Ahd at k m;omega
   ·exact m
  ·rw [mir] at k;exact k
def W2:Nat->List (List Int)
 | 0=>[[]]
 | n+1=>(W2 n).flatMap fun l=>[-1::l,0::l,1::l]
theorem FK:∀ (n:Nat) (tl:List Int),okV n tl=true->tl∈W2 n
 | 0,tl,h=>by
  have:=rI h
  rw [List.length_eq_zero_iff.1 this]
  exact qzZ.2 rfl
 | n+1,[],h=>by have:=rI h;simp at this
 | n+1,x::l,h=>by
  have hl:=rI h
  unfold okV at h
  rw [qaZ] at h
  have h2:=h.2
  rw [List.all_cons,qaZ] at h2
  have hl' : okV n l=true:=by
   unfold okV
   rw [qaZ]
   refine ⟨?_,h2.2⟩
   have:l.length=n:=by simpa using hl
   rw [this];exact Nat.beq_refl _
  have ih:=FK n l hl'
  have h3:=h2.1
  simp only [Bool.or_eq_true,beq_iff_eq] at h3
  refine List.mem_flatMap.2 ⟨l,ih,?_⟩
  rcases h3 with rfl | rfl | rfl
  ·exact qmZ
  ·exact qjZ _ qmZ
  ·exact qjZ _ (qjZ _ qmZ)
theorem Je {n:Nat} (hn:n<=4) {tl:List Int} (h:okV n tl=true):∃ t,t<dp n/\aW n t=tl:=by
 have key:∀ n<5,((W2 n).all fun tl=>(List.range (dp n)).any fun t=>aW n t==tl)=true:=by decide +kernel
 have h1:=qiZ.1 (key n (by omega)) tl (FK n tl h)
 obtain ⟨t,ht,e⟩:=List.any_eq_true.1 h1
 exact ⟨t,rkZ.1 ht,by simpa using e⟩
theorem tR {α β:Type} {v:β->Int} {g:β->α->β} {u:Int} {x0:α}:∀ (l:List α),(∀ x∈l,∀ s,v s<=v (g s x))->x0∈l->(∀ s,u<=v (g s x0))->∀ s,u<=v (l.foldl g s)
 | [],_,h,_,s=>by cases h
 | x::l,mono,h,hit,s=>by
  have up:∀ (l:List α),(∀ x∈l,∀ s,v s<=v (g s x))->∀ s,v s<=v (l.foldl g s):=by
   intro l
   induction l with
   | nil=>intro _ s;exact Int.le_refl _
   | cons y l ih=>intro m s;exact Int.le_trans (m y qmZ s) (ih (fun z hz=>m z (qjZ _ hz)) _)
  rcases List.mem_cons.1 h with rfl | h
  ·exact Int.le_trans (hit s) (up l (fun z hz=>mono z (qjZ _ hz)) _)
  ·exact tR l (fun z hz=>mono z (qjZ _ hz)) h hit _
theorem BK {α β:Type} {v:β->Int} {g:β->α->β}:∀ (l:List α),(∀ x∈l,∀ s,v s<=v (g s x))->∀ s,v s<=v (l.foldl g s)
 | [],_,s=>Int.le_refl _
 | y::l,m,s=>Int.le_trans (m y qmZ s) (BK l (fun z hz=>m z (qjZ _ hz)) _)
abbrev vOf (s:NSt):Int:=s.2.2.2.2
theorem Ba (z:d8) (tl:List Int) (k:Nat) (c:FF) (first second:List Int) (s:NSt):vOf s<=vOf (eN z tl k c first second s):=by
 unfold eN vOf
 split
 ·rename_i h;have:=h.2;show s.2.2.2.2<=ek z.P z.PF (plR z tl k c first second).2.2.2.1 (plR z tl k c first second).2.2.1;omega
 ·exact Int.le_refl _
theorem Jm (z:d8) (tl:List Int) (k:Nat) (c:FF) (first second:List Int) (s:NSt) (h:(plR z tl k c first second).2.2.2.2=true):ek z.P z.PF (plR z tl k c first second).2.2.2.1 (plR z tl k c first second).2.2.1<=vOf (eN z tl k c first second s):=by
 unfold eN vOf
 split
 ·exact Int.le_refl _
 ·rename_i q
  have:¬ ek z.P z.PF (plR z tl k c first second).2.2.2.1 (plR z tl k c first second).2.2.1>s.2.2.2.2:=fun h'=>q ⟨h,h'⟩
  omega
abbrev chK (tl:List Int):Nat:=(chN tl tl.length 0 0 (fun _ _=>.any)).1
abbrev chC (tl:List Int):FF:=(chN tl tl.length 0 0 (fun _ _=>.any)).2
theorem GR {n:Nat} {tl:List Int} (hn:n<=4) (hv:okV n tl=true):Chs tl n (chK tl) (chC tl):=by
 have hl:=rI hv
 obtain ⟨k,c,e0,_,hC⟩:=oX (ρ:=Nat) tl (by omega) ByteArray.empty ByteArray.empty 0 0 0 ByteArray.empty 0 (fun _ _=>.any) 0 0 (fun _ _=>.any) ByteArray.empty 0 0 (fun _ _=>.any) 0 100 0 0 (fun _ _=>.any) (by omega) (by omega) (BR _ _)
 rw [Nat.sub_zero] at e0
 rw [hl] at hC
 unfold chK chC
 rw [<- e0];exact hC
theorem Ob {z:d8} (Z:Fix z) {tl first second:List Int} (hv:okV z.n tl=true) (h1:first∈aI (liL (chK tl) (chC tl))) (h2:second∈aI (liL (chK tl) (chC tl))) (hp:(plR z tl (chK tl) (chC tl) first second).2.2.2.2=true) (s:NSt) :
  ek z.P z.PF (plR z tl (chK tl) (chC tl) first second).2.2.2.1 (plR z tl (chK tl) (chC tl) first second).2.2.1<=vOf (dF z 0 s):=by
 have u3:∀ tl k c first s,vOf s<=vOf (ox z tl k c first s):=fun tl k c first s=>by
  unfold ox;exact BK _ (fun q _ s=>Ba z tl k c first q s) s
 have u6:∀ tl s,vOf s<=vOf (tU z tl s):=fun tl s=>by
  unfold tU;exact BK _ (fun q _ s=>u3 tl _ _ q s) s
 obtain ⟨t,ht,e⟩:=Je Z.n4 hv
 unfold dF
 rw [List.drop_zero]
 refine tR (x0:=t) _ (fun t _ s=>u6 _ s) (rkZ.2 ht) (fun s=>?_) s
 rw [e]
 unfold tU
 refine tR (x0:=first) _ (fun q _ s=>u3 tl _ _ q s) h1 (fun s=>?_) s
 unfold ox
 exact tR (x0:=second) _ (fun q _ s=>Ba z tl _ _ first q s) h2 (fun s=>Jm z tl _ _ first second s hp) s
structure Lay (z:d8) (tl:List Int) (X Y:Int->Int):Prop where
 lo:∀ i,i<chK tl->z.gap<=X ((chC tl i 0).int)/\z.gap<=Y ((chC tl i 0).int)
 sz:∀ i,i<chK tl->(1<=(aK (z.f (cN (chC tl) i)) (tl.getD (cN (chC tl) i) 0)).1/\(aK (z.f (cN (chC tl) i)) (tl.getD (cN (chC tl) i) 0)).1<=32768)/\(1<=(aK (z.f (cN (chC tl) i)) (tl.getD (cN (chC tl) i) 0)).2/\(aK (z.f (cN (chC tl) i)) (tl.getD (cN (chC tl) i) 0)).2<=32768)
 at_:∀ i,i<chK tl->X ((chC tl i 0).int)-(aQ (z.f (cN (chC tl) i)) (tl.getD (cN (chC tl) i) 0)).1<=32768/\Y ((chC tl i 0).int)-(aQ (z.f (cN (chC tl) i)) (tl.getD (cN (chC tl) i) 0)).2<=32768
 in_:∀ i,i<chK tl->X ((chC tl i 0).int)+(aK (z.f (cN (chC tl) i)) (tl.getD (cN (chC tl) i) 0)).1<=z.L-z.gap/\Y ((chC tl i 0).int)+(aK (z.f (cN (chC tl) i)) (tl.getD (cN (chC tl) i) 0)).2<=z.W-z.gap
 ap:∀ i j,i<chK tl->j<chK tl->i≠j ->
   (X ((chC tl i 0).int)+(aK (z.f (cN (chC tl) i)) (tl.getD (cN (chC tl) i) 0)).1+gG z.gap<=X ((chC tl j 0).int)\/Y ((chC tl i 0).int)+(aK (z.f (cN (chC tl) i)) (tl.getD (cN (chC tl) i) 0)).2+gG z.gap<=Y ((chC tl j 0).int)) \/
   (X ((chC tl j 0).int)+(aK (z.f (cN (chC tl) j)) (tl.getD (cN (chC tl) j) 0)).1+gG z.gap<=X ((chC tl i 0).int)\/Y ((chC tl j 0).int)+(aK (z.f (cN (chC tl) j)) (tl.getD (cN (chC tl) j) 0)).2+gG z.gap<=Y ((chC tl i 0).int))
theorem Qn {z:d8} (Z:Fix z) (hL:0<=z.L/\z.L<=32768) (hW:0<=z.W/\z.W<=32768) {tl:List Int} (hv:okV z.n tl=true) {X Y:Int->Int} (hl:Lay z tl X Y)
  (S:FF) (hS:∀ i,i<chK tl->(S i 0).str=(z.f (cN (chC tl) i) 0).str) (s:NSt):ek z.P z.PF S (chK tl)<=vOf (dF z 0 s):=by
 obtain ⟨hlo,hsz,hat,hin,hap⟩:=hl
 have C:=GR Z.n4 hv
 have hg0:0<=gG z.gap:=by have:=Z.gap;unfold gG;split<;>omega
 have mem:∀ a∈liL (chK tl) (chC tl),∃ i,i<chK tl/\a=(chC tl i 0).int:=fun a ha=>by
  obtain ⟨i,hi,e⟩:=List.getElem_of_mem ha
  rw [dZ] at hi
  have e1:=mV (c:=chC tl) hi
  rw [qgZ (by rw [dZ];exact hi)] at e1
  exact ⟨i,hi,e.symm.trans (rjZ e1)⟩
 have nd:(liL (chK tl) (chC tl)).Nodup:=by
  rw [reZ,rfZ]
  intro i j hi hj hij
  rw [dZ] at hi hj
  have e1:=mV (c:=chC tl) hi
  have e2:=mV (c:=chC tl) hj
  rw [qgZ (by rw [dZ];exact hi)] at e1
  rw [qgZ (by rw [dZ];exact hj)] at e2
  rw [rjZ e1,rjZ e2]
  have:=C.asc i j hij hj
  omega
 obtain ⟨p,q,hp,hq,hpq⟩:=Qm (x:=X) (y:=Y) (l:=fun a=>(aK (z.f a.toNat) (tl.getD a.toNat 0)).1) (w:=fun a=>(aK (z.f a.toNat) (tl.getD a.toNat 0)).2) hg0 nd (fun a ha=>by
  obtain ⟨i,hi,rfl⟩:=mem a ha
  exact ⟨(hsz i hi).1.1,(hsz i hi).2.1⟩) (fun a ha b hb hab=>by
  obtain ⟨i,hi,rfl⟩:=mem a ha
  obtain ⟨j,hj,rfl⟩:=mem b hb
  exact hap i j hi hj (fun e=>hab (by rw [e])))
 have h1:=Bo hp
 have h2:=Bo hq
 have H:jV z.n z.f tl (chK tl) (chC tl) p q:=⟨Z.n4,Z.part,hv,C,hp,hq⟩
 obtain ⟨l2,l1,p1,p2,p3⟩:=H.place
 obtain ⟨_,hP,_,o1,o2,_⟩:=ry Z H
 have hle:∀ t,t<q.length->bx (pkR z tl p q) (q.getD t 0).toNat 0<=X (q.getD t 0)/\bx (pkR z tl p q) (q.getD t 0).toNat 1<=Y (q.getD t 0):=by
  have nn:∀ t,t<q.length->((q.getD t 0).toNat:Int)=q.getD t 0:=fun t ht=>by
   obtain ⟨i,hi,e⟩:=p1 t (by omega)
   have:=(C.mem i hi).1
   rw [e];omega
  have L:=hP.least (fun b=>X b) (fun b=>Y b) (fun t ht=>by
   obtain ⟨i,hi,e⟩:=p1 t (by omega)
   rw [nn t ht,e];exact hlo i hi) (fun s t hst ht=>by
   rw [nn t ht,nn s (by omega)]
   exact hpq s t hst ht)
  intro t ht
  have:=L t ht
  rw [nn t ht] at this
  exact this
 have ok:(plR z tl (chK tl) (chC tl) p q).2.2.2.2=true:=by
  refine o1.2 fun i hi=>?_
  obtain ⟨t,ht,e⟩:=p2 i hi
  have q1:=hle t (by omega)
  rw [e] at q1
  have q1:bx (pkR z tl p q) (cN (chC tl) i) 0<=X ((chC tl i 0).int)/\bx (pkR z tl p q) (cN (chC tl) i) 1<=Y ((chC tl i 0).int):=q1
  have PC:=hP.chosen H
  have l:=PC.lo i hi
  have mm:=(C.mem i hi).1
  have dl:=Bs hv (i:=cN (chC tl) i) (by unfold cN;omega) (C.mem i hi).2
  have lob:=(Z.part (cN (chC tl) i) (by unfold cN;omega)).lo (tl.getD (cN (chC tl) i) 0) dl
  have a1:=hat i hi
  have a2:=hin i hi
  have zg:=Z.gap
  refine Wr H Z.gap PC hL hW hi ?_ (hsz i hi) (by omega)
  unfold B3
  omega
 have G:=Ob Z hv h1 h2 ok s
 obtain ⟨_,_,e3,e4⟩:=o2 ok
 rw [e3] at G
 refine Int.le_trans (Int.le_of_eq ?_) G
 exact Eu fun t ht=>(hS t ht).trans (e4 t ht).id.symm
theorem Qa (a b:Int):w64 (w64 a+b)=w64 (a+b):=by
 unfold w64
 simp [IntKind.wrap,IntKind.bits,IntKind.signed]
 omega
def Kw (P:Nat) (PF:FF') (s:ByteArray):Int:=if fd P PF s<0 then 0 else vY PF (pkN P PF s)
theorem Kx (P:Nat) (PF S:FF'):∀ (m j:Nat) (acc:Int),w64 acc=acc->ua P PF S acc m j=w64 (acc+((List.range' j m).map fun t=>Kw P PF ((S t 0).str)).sum)
 | 0,j,acc,h=>by simp [ua,h]
 | m+1,j,acc,h=>by
  unfold ua
  rw [List.range'_succ,List.map_cons,List.sum_cons]
  have e:(bif decide (fd P PF ((S j 0).str)<0) then acc else w64 (acc+vY PF (pkN P PF ((S j 0).str))))=w64 (acc+Kw P PF ((S j 0).str)):=by
   unfold Kw
   by_cases c:fd P PF ((S j 0).str)<0
   ·rw [ae (qcZ c),if_pos c,Int.add_zero,h]
   ·rw [af (qeZ c),if_neg c]
  rw [e,Kx P PF S m (j+1) _ (Ku _),Qa,Int.add_assoc]
theorem Cw (P:Nat) (PF S:FF') (n:Nat):ek P PF S n=w64 (((List.range n).map fun t=>Kw P PF ((S t 0).str)).sum):=by
 unfold ek
 rw [Kx P PF S n 0 0 (by decide),Int.zero_add,List.range_eq_range']
theorem KI:∀ {l l' : List Int},l.Perm l'->l.sum=l'.sum:=by
 intro l l' h
 induction h with
 | nil=>rfl
 | cons x _ ih=>rw [List.sum_cons,List.sum_cons,ih]
 | swap x y l=>rw [List.sum_cons,List.sum_cons,List.sum_cons,List.sum_cons];omega
 | trans _ _ h1 h2=>exact h1.trans h2
abbrev pj (n:Nat) (f S:FF) (j:Nat):Nat:=(fd n f ((S j 0).str)).toNat
def jOf (n:Nat) (f S:FF) (k m:Nat):Option Nat:=(List.range k).find? fun j=>Nat.beq (pj n f S j) m
def jW (n:Nat) (f S:FF) (k:Nat):List Int:=(List.range n).map fun m=>match jOf n f S k m with
 | some j=>(S j 3).int
 | none=>-1
theorem BE {n:Nat} {f S:FF} {k m j:Nat} (h:jOf n f S k m=some j):j<k/\pj n f S j=m:=by
 unfold jOf at h
 have h1:=List.mem_of_find?_eq_some h
 have h2:=List.find?_some h
 exact ⟨rkZ.1 h1,qbZ h2⟩
theorem Ho {n:Nat} {f S:FF} {k m:Nat} (h:m<n):(jW n f S k).getD m 0=match jOf n f S k m with
  | some j=>(S j 3).int
  | none=>-1:=by
 unfold jW
 rw [qdZ,qhZ,rbZ h];rfl
section
variable {n k : Nat} {f S : FF} {L W gap : Int} (hp : ∀ j, j < k -> eV n f S L W gap j)
include hp
theorem sQ {j:Nat} (hj:j<k):pj n f S j<n/\(f (pj n f S j) 0).str=(S j 0).str:=by
 have h0:=(hp j hj).1
 rcases tX n f ((S j 0).str) with hf | ⟨m,hm,hf,he⟩
 ·omega
 ·have e:pj n f S j=m:=by unfold pj;rw [hf];rfl
  rw [e]
  exact ⟨hm,(AX _ _).1 he⟩
theorem V3 {i j:Nat} (hi:i<k) (hj:j<k) (h:pj n f S i=pj n f S j):i=j:=by
 have a:=(sQ hp hi).2
 have b:=(sQ hp hj).2
 rw [h] at a
 have e:(S i 0).str=(S j 0).str:=a.symm.trans b
 by_cases c:i<j
 ·exact absurd e ((hp j hj).2.2.2.2.1 i c)
 ·by_cases d:j<i
  ·exact absurd e.symm ((hp i hi).2.2.2.2.1 j d)
  ·omega
theorem Ws {j:Nat} (hj:j<k):jOf n f S k (pj n f S j)=some j:=by
 cases h:jOf n f S k (pj n f S j) with
 | none =>
  unfold jOf at h
  have:=List.find?_eq_none.1 h j (rkZ.2 hj)
  exact absurd (Nat.beq_refl _) this
 | some i =>
  obtain ⟨h1,h2⟩:=BE h
  rw [V3 hp h1 hj h2]
theorem Du:okV n (jW n f S k)=true:=by
 unfold okV
 rw [qaZ]
 refine ⟨?_,qiZ.2 fun x hx=>?_⟩
 ·have:(jW n f S k).length=n:=by unfold jW;simp
  rw [this];exact Nat.beq_refl _
 ·unfold jW at hx
  obtain ⟨m,hm,e⟩:=rlZ.1 hx
  cases h:jOf n f S k m with
  | none=>rw [h] at e;subst e;rfl
  | some j =>
   rw [h] at e
   obtain ⟨h1,_⟩:=BE h
   have:=(hp j h1).2.2.1
   have e:(S j 3).int=x:=e
   rw [e] at this
   rcases this with rfl | rfl<;>rfl
theorem FB (hn:n<=4) {i:Nat} (hi:i<chK (jW n f S k)):∃ j,j<k/\pj n f S j=cN (chC (jW n f S k)) i/\(jW n f S k).getD (cN (chC (jW n f S k)) i) 0=(S j 3).int/\jOf n f S k (cN (chC (jW n f S k)) i)=some j:=by
 have C:=GR hn (Du hp)
 obtain ⟨m1,m2⟩:=C.mem i hi
 have hlt:cN (chC (jW n f S k)) i<n:=by unfold cN;omega
 rw [Ho hlt] at m2 ⊢
 cases h:jOf n f S k (cN (chC (jW n f S k)) i) with
 | none=>rw [h] at m2;exact absurd m2 (show ¬ (0:Int)<=-1 from by decide)
 | some j =>
  obtain ⟨h1,h2⟩:=BE h
  exact ⟨j,h1,h2,rfl,rfl⟩
end
theorem Mx {z:d8} (Z:Fix z) (S:FF) (k:Nat) (hp:∀ j,j<k->eV z.n z.f S z.L z.W z.gap j):∃ X Y,Lay z (jW z.n z.f S k) X Y /\
  ek z.P z.PF S k=ek z.P z.PF (fun i c=>z.f (cN (chC (jW z.n z.f S k)) i) c) (chK (jW z.n z.f S k)):=by
 have hv:=Du hp
 have C:=GR Z.n4 hv
 have spot:=fun i hi=>FB hp Z.n4 (i:=i) hi
 obtain ⟨X,hX⟩:∃ X:Int->Int,∀ a,X a=match jOf z.n z.f S k a.toNat with | some j=>bx (bxS z.n z.f S) j 0 | none=>0:=⟨fun a=>match jOf z.n z.f S k a.toNat with | some j=>bx (bxS z.n z.f S) j 0 | none=>0,fun a=>rfl⟩
 obtain ⟨Y,hY⟩:∃ Y:Int->Int,∀ a,Y a=match jOf z.n z.f S k a.toNat with | some j=>bx (bxS z.n z.f S) j 1 | none=>0:=⟨fun a=>match jOf z.n z.f S k a.toNat with | some j=>bx (bxS z.n z.f S) j 1 | none=>0,fun a=>rfl⟩
 have hx:∀ i j,jOf z.n z.f S k (cN (chC (jW z.n z.f S k)) i)=some j->X ((chC (jW z.n z.f S k) i 0).int)=bx (bxS z.n z.f S) j 0/\Y ((chC (jW z.n z.f S k) i 0).int)=bx (bxS z.n z.f S) j 1:=by
  intro i j h
  rw [hX,hY,h];exact ⟨rfl,rfl⟩
 refine ⟨X,Y,⟨?_,?_,?_,?_,?_⟩,?_⟩
 ·intro i hi
  obtain ⟨j,h1,h2,h3,h4⟩:=spot i hi
  obtain ⟨e1,e2⟩:=hx i j h4
  rw [e1,e2]
  have:=(hp j h1).2.2.2.2.2.2.2.1
  unfold FIn at this
  exact ⟨this.1,this.2.1⟩
 ·intro i hi
  obtain ⟨j,h1,h2,h3,h4⟩:=spot i hi
  rw [h3,<- h2]
  have:=(hp j h1).2.2.2.2.2.1
  unfold rR at this
  exact ⟨this.2.2.2.1,this.2.2.2.2.1⟩
 ·intro i hi
  obtain ⟨j,h1,h2,h3,h4⟩:=spot i hi
  obtain ⟨e1,e2⟩:=hx i j h4
  rw [e1,e2,h3,<- h2]
  have at_:=(hp j h1).2.2.2.1
  have b0:bx (bxS z.n z.f S) j 0=(aQ (z.f (pj z.n z.f S j)) ((S j 3).int)).1+(S j 1).int:=rfl
  have b1:bx (bxS z.n z.f S) j 1=(aQ (z.f (pj z.n z.f S j)) ((S j 3).int)).2+(S j 2).int:=rfl
  rw [b0,b1]
  omega
 ·intro i hi
  obtain ⟨j,h1,h2,h3,h4⟩:=spot i hi
  obtain ⟨e1,e2⟩:=hx i j h4
  rw [e1,e2,h3,<- h2]
  have:=(hp j h1).2.2.2.2.2.2.2.1
  unfold FIn at this
  exact ⟨this.2.2.1,this.2.2.2⟩
 ·intro i i' hi hi' hne
  obtain ⟨j,h1,h2,h3,h4⟩:=spot i hi
  obtain ⟨j',h1',h2',h3',h4'⟩:=spot i' hi'
  obtain ⟨e1,e2⟩:=hx i j h4
  obtain ⟨e1',e2'⟩:=hx i' j' h4'
  rw [e1,e2,e1',e2',h3,h3',<- h2,<- h2']
  have hjj:j≠j':=by
   intro e
   rw [e,h2'] at h2
   have a1:=(C.mem i hi).1
   have a2:=(C.mem i' hi').1
   by_cases q:i<i'
   ·have:=C.asc i i' q hi';unfold cN at h2;omega
   ·have:=C.asc i' i (by omega) hi;unfold cN at h2;omega
  have c2:∀ j,bx (bxS z.n z.f S) j 2=bx (bxS z.n z.f S) j 0+(aK (z.f (pj z.n z.f S j)) ((S j 3).int)).1:=fun j=>rfl
  have c3:∀ j,bx (bxS z.n z.f S) j 3=bx (bxS z.n z.f S) j 1+(aK (z.f (pj z.n z.f S j)) ((S j 3).int)).2:=fun j=>rfl
  by_cases q:j<j'
  ·have:=(hp j' h1').2.2.2.2.2.2.2.2 j q
   unfold ot Apt at this
   rw [c2,c3] at this
   have:¬ (bx (bxS z.n z.f S) j' 0<bx (bxS z.n z.f S) j 0+(aK (z.f (pj z.n z.f S j)) ((S j 3).int)).1+gG z.gap/\bx (bxS z.n z.f S) j 0<bx (bxS z.n z.f S) j' 0+(aK (z.f (pj z.n z.f S j')) ((S j' 3).int)).1+gG z.gap/\bx (bxS z.n z.f S) j' 1<bx (bxS z.n z.f S) j 1+(aK (z.f (pj z.n z.f S j)) ((S j 3).int)).2+gG z.gap/\bx (bxS z.n z.f S) j 1<bx (bxS z.n z.f S) j' 1+(aK (z.f (pj z.n z.f S j')) ((S j' 3).int)).2+gG z.gap):=this
   omega
  ·have:=(hp j h1).2.2.2.2.2.2.2.2 j' (by omega)
   unfold ot Apt at this
   rw [c2,c3] at this
   have:¬ (bx (bxS z.n z.f S) j 0<bx (bxS z.n z.f S) j' 0+(aK (z.f (pj z.n z.f S j')) ((S j' 3).int)).1+gG z.gap/\bx (bxS z.n z.f S) j' 0<bx (bxS z.n z.f S) j 0+(aK (z.f (pj z.n z.f S j)) ((S j 3).int)).1+gG z.gap/\bx (bxS z.n z.f S) j 1<bx (bxS z.n z.f S) j' 1+(aK (z.f (pj z.n z.f S j')) ((S j' 3).int)).2+gG z.gap/\bx (bxS z.n z.f S) j' 1<bx (bxS z.n z.f S) j 1+(aK (z.f (pj z.n z.f S j)) ((S j 3).int)).2+gG z.gap):=this
   omega
 ·have n1:((List.range k).map fun t=>(S t 0).str).Nodup:=by
   rw [reZ,rfZ]
   intro i j hi hj hij
   simp only [rdZ,List.length_range] at hi hj
   simp only [List.getElem_map,List.getElem_range]
   exact (hp j hj).2.2.2.2.1 i hij
  have n2:((List.range (chK (jW z.n z.f S k))).map fun i=>(z.f (cN (chC (jW z.n z.f S k)) i) 0).str).Nodup:=by
   rw [reZ,rfZ]
   intro i j hi hj hij
   simp only [rdZ,List.length_range] at hi hj
   simp only [List.getElem_map,List.getElem_range]
   obtain ⟨a,a1,a2,_⟩:=spot i hi
   obtain ⟨b,b1,b2,_⟩:=spot j hj
   rw [<- a2,<- b2,(sQ hp a1).2,(sQ hp b1).2]
   intro e
   have hab:a≠b:=by
    intro q
    rw [q,b2] at a2
    have:=C.asc i j hij hj
    have m1:=(C.mem i hi).1
    have m2:=(C.mem j hj).1
    unfold cN at a2;omega
   by_cases q:a<b
   ·exact (hp b b1).2.2.2.2.1 a q e
   ·exact (hp a a1).2.2.2.2.1 b (by omega) e.symm
  have P1:((List.range k).map fun t=>(S t 0).str).Perm ((List.range (chK (jW z.n z.f S k))).map fun i=>(z.f (cN (chC (jW z.n z.f S k)) i) 0).str):=by
   rw [List.perm_ext_iff_of_nodup n1 n2]
   intro x
   rw [rlZ,rlZ]
   constructor
   ·rintro ⟨j,hj,rfl⟩
    rw [rkZ] at hj
    obtain ⟨q1,q2⟩:=sQ hp hj
    obtain ⟨i,hi,e⟩:=C.all (pj z.n z.f S j) q1 (by
     rw [Ho q1,Ws hp hj]
     have:=(hp j hj).2.2.1
     show 0<=(S j 3).int
     omega)
    refine ⟨i,rkZ.2 hi,?_⟩
    have:cN (chC (jW z.n z.f S k)) i=pj z.n z.f S j:=by unfold cN;rw [e];rfl
    rw [this,q2]
   ·rintro ⟨i,hi,rfl⟩
    rw [rkZ] at hi
    obtain ⟨j,h1,h2,_⟩:=spot i hi
    exact ⟨j,rkZ.2 h1,by rw [<- h2,(sQ hp h1).2]⟩
  have hk:k=chK (jW z.n z.f S k):=by have:=P1.length_eq;simpa using this
  rw [Cw,Cw]
  have:=P1.map (Kw z.P z.PF)
  rw [List.map_map,List.map_map] at this
  exact congrArg w64 (KI this)
theorem Ju {z:d8} (Z:Fix z) (S:FF) (k:Nat) (hp:∀ j,j<k->eV z.n z.f S z.L z.W z.gap j) (hL:0<=z.L/\z.L<=32768) (hW:0<=z.W/\z.W<=32768) (s:NSt):ek z.P z.PF S k<=vOf (dF z 0 s):=by
 obtain ⟨_,_,h,e⟩:=Mx Z S k hp
 rw [e];exact Qn Z hL hW (Du hp) h _ (fun _ _=>rfl) s
def InX (A B C D:Int) (p:Pt):Prop:=(A<=p.1/\p.1<=C)/\(B<=p.2/\p.2<=D)
theorem Qi {q a b:Pt} (ha:q.1<a.1) (hb:q.1<b.1):rc q a b=(decide (a.2>q.2) ^^ decide (b.2>q.2)):=by
 unfold rc
 by_cases h1:a.2>q.2
 ·by_cases h2:b.2>q.2
  ·simp [h1,h2]
  ·have h3:¬ b.2>a.2:=by omega
   have hc:¬ 0<cross a b q:=by
    have e:cross a b q = -((q.2-b.2)*(a.1-q.1)+(a.2-q.2)*(b.1-q.1)):=by unfold cross;grind
    have w1:=raZ (show 0<=q.2-b.2 by omega) (show 0<=a.1-q.1 by omega)
    have w2:=raZ (show 0<=a.2-q.2 by omega) (show 0<=b.1-q.1 by omega)
    omega
   simp [h1,h2,h3,hc]
 ·by_cases h2:b.2>q.2
  ·have h3:b.2>a.2:=by omega
   have hc:0<cross a b q:=by
    have e:cross a b q=(q.2-a.2)*(b.1-q.1)+(b.2-q.2)*(a.1-q.1):=by unfold cross;grind
    have w1:=raZ (show 0<=q.2-a.2 by omega) (show 0<=b.1-q.1 by omega)
    have w2:=Int.mul_pos (show 0<b.2-q.2 by omega) (show 0<a.1-q.1 by omega)
    omega
   simp [h1,h2,h3,hc]
  ·simp [h1,h2]
theorem LU {q a b:Pt} (ha:a.1<q.1) (hb:b.1<q.1):rc q a b=false:=by
 unfold rc
 by_cases h1:a.2>q.2
 ·by_cases h2:b.2>q.2
  ·simp [h1,h2]
  ·have h3:¬ b.2>a.2:=by omega
   have hc:0<cross a b q:=by
    have e:cross a b q=(q.2-b.2)*(q.1-a.1)+(a.2-q.2)*(q.1-b.1):=by unfold cross;grind
    have w1:=raZ (show 0<=q.2-b.2 by omega) (show 0<=q.1-a.1 by omega)
    have w2:=Int.mul_pos (show 0<a.2-q.2 by omega) (show 0<q.1-b.1 by omega)
    omega
   simp [h1,h2,h3,hc]
 ·by_cases h2:b.2>q.2
  ·have h3:b.2>a.2:=by omega
   have hc:¬ 0<cross a b q:=by
    have e:cross a b q = -((q.2-a.2)*(q.1-b.1)+(b.2-q.2)*(q.1-a.1)):=by unfold cross;grind
    have w1:=raZ (show 0<=q.2-a.2 by omega) (show 0<=q.1-b.1 by omega)
    have w2:=raZ (show 0<=b.2-q.2 by omega) (show 0<=q.1-a.1 by omega)
    omega
   simp [h1,h2,h3,hc]
  ·simp [h1,h2]
theorem HP {n:Nat} {p:Nat->Pt} (hn:0<n) {A B C D:Int} (h:∀ i,i<n->InX A B C D (p i)) {q:Pt} (hq:¬ InX A B C D q):par n p q=false:=by
 unfold InX at h hq
 by_cases c1:q.2<B
 ·exact HO (.inr fun i hi=>by have:=h i hi;omega)
 by_cases c2:D<q.2
 ·exact HO (.inl fun i hi=>by have:=h i hi;omega)
 have lt:∀ i,i<n->(i+1) % n<n:=fun i _=>Nat.mod_lt _ hn
 by_cases c3:q.1<A
 ·unfold par
  rw [dJ (g:=fun i=>decide ((p i).2>q.2) ^^ decide ((p ((i+1) % n)).2>q.2)) fun i hi=>Qi (by have:=h i hi;omega) (by have:=h _ (lt i hi);omega)]
  exact oE n fun i=>decide ((p i).2>q.2)
 ·unfold par
  rw [dJ (g:=fun i=>false ^^ false) fun i hi=>LU (by have:=h i hi;omega) (by have:=h _ (lt i hi);omega)]
  exact oE n fun _=>false
theorem Qu {n:Nat} {p:Nat->Pt} (hn:0<n) {A B C D:Int} (h:∀ i,i<n->InX A B C D (p i)) {q:Pt} (hq:¬ InX A B C D q):¬ OnC n p q 0:=by
 rintro ⟨j,_,hj,ho⟩
 have a:=h j hj
 have b:=h (nx n j) (Nat.mod_lt _ hn)
 have c:=ho.2.1
 have d:=ho.2.2
 unfold InX at a b hq
 unfold btw at c d
 omega
def Dir (k:Nat) (g:Int) (p q:Pt):Prop:=match k with
 | 0=>p.1+g<=q.1
 | 1=>q.1+g<=p.1
 | 2=>p.2+g<=q.2
 | _=>q.2+g<=p.2
theorem AW {d e u v g:Int} (hg:0<=g) (h1:g<=u) (h2:g<=u-d) (h3:0<=u*d+v*e) (h4:u*d+v*e<=d*d+e*e):g*g*(d*d+e*e)<=(d*v-e*u)*(d*v-e*u):=by
 -- S g <= S u-t d = -(e n)
 have e1:(d*d+e*e-(u*d+v*e))*u+(u*d+v*e)*(u-d) = -(e*(d*v-e*u)):=by grind
 have w1:=raZ (show 0<=d*d+e*e-(u*d+v*e) by omega) (show 0<=u-g by omega)
 have w2:=raZ h3 (show 0<=u-d-g by omega)
 have w3:(d*d+e*e)*g<=-(e*(d*v-e*u)):=by grind
 have w4:0<=(d*d+e*e)*g:=raZ (by have:=oG d;have:=oG e;omega) hg
 generalize hN:d*v-e*u=n at *
 by_cases hS:d*d+e*e=0
 ·rw [hS,Int.mul_zero];exact oG n
 ·have hS:0<d*d+e*e:=by have:=oG d;have:=oG e;omega
  have w5:((d*d+e*e)*g)*((d*d+e*e)*g)<=(-(e*n))*(-(e*n)):=Int.mul_le_mul w3 w3 w4 (by omega)
  have w6:0<=(d*d)*(n*n):=raZ (oG d) (oG n)
  have w7:(d*d+e*e)*(g*g*(d*d+e*e))<=(d*d+e*e)*(n*n):=by grind
  exact Int.le_of_mul_le_mul_left w7 hS
theorem Hs {g x:Int} (hg:0<=g) (h:g<=x):g*g<=x*x:=Int.mul_le_mul h h hg (by omega)
theorem tM {x p q:Pt} {g:Int} (hg:0<=g) {k:Nat} (h1:Dir k g p x) (h2:Dir k g q x):¬ lT x p q g:=by
 have far:∀ r:Pt,Dir k g r x->g*g<=dot x r x:=by
  intro r hr
  unfold dot
  have a:=oG (x.1-r.1)
  have b:=oG (x.2-r.2)
  match k,hr with
  | 0,hr=>have:=Hs hg (show g<=x.1-r.1 by have:r.1+g<=x.1:=hr;omega);omega
  | 1,hr =>
   have h:=Hs hg (show g<=r.1-x.1 by have:x.1+g<=r.1:=hr;omega)
   have e:(r.1-x.1)*(r.1-x.1)=(x.1-r.1)*(x.1-r.1):=by grind
   omega
  | 2,hr=>have:=Hs hg (show g<=x.2-r.2 by have:r.2+g<=x.2:=hr;omega);omega
  | k+3,hr =>
   have h:=Hs hg (show g<=r.2-x.2 by have:x.2+g<=r.2:=hr;omega)
   have e:(r.2-x.2)*(r.2-x.2)=(x.2-r.2)*(x.2-r.2):=by grind
   omega
 by_cases c1:dot x p q<=0
 ·rw [ND c1];have:=far p h1;omega
 ·by_cases c2:dot q p q<=dot x p q
  ·rw [NC c1 c2];have:=far q h2;omega
  ·rw [NE c1 c2]
   unfold dot at c1 c2 ⊢
   have key:g*g*((q.1-p.1)*(q.1-p.1)+(q.2-p.2)*(q.2-p.2))<=cross p q x*cross p q x:=by
    unfold cross
    match k,h1,h2 with
    | 0,h1,h2 =>
     have h1:p.1+g<=x.1:=h1
     have h2:q.1+g<=x.1:=h2
     exact AW (d:=q.1-p.1) (e:=q.2-p.2) (u:=x.1-p.1) (v:=x.2-p.2) hg (by omega) (by omega) (by omega) (by omega)
    | 1,h1,h2 =>
     have h1:x.1+g<=p.1:=h1
     have h2:x.1+g<=q.1:=h2
     have:=AW (d:=p.1-q.1) (e:=q.2-p.2) (u:=p.1-x.1) (v:=x.2-p.2) hg (by omega) (by omega) (by grind) (by grind)
     grind
    | 2,h1,h2 =>
     have h1:p.2+g<=x.2:=h1
     have h2:q.2+g<=x.2:=h2
     have:=AW (d:=q.2-p.2) (e:=q.1-p.1) (u:=x.2-p.2) (v:=x.1-p.1) hg (by omega) (by omega) (by grind) (by grind)
     grind
    | k+3,h1,h2 =>
     have h1:x.2+g<=p.2:=h1
     have h2:x.2+g<=q.2:=h2
     have:=AW (d:=p.2-q.2) (e:=q.1-p.1) (u:=p.2-x.2) (v:=x.1-p.1) hg (by omega) (by omega) (by grind) (by grind)
     grind
   omega
theorem sS {q a b:Pt} {k:Nat} (h1:Dir k 1 a q) (h2:Dir k 1 b q):¬ On q a b:=by
 rintro ⟨_,c,d⟩
 unfold btw at c d
 match k,h1,h2 with
 | 0,h1,h2=>have h1:a.1+1<=q.1:=h1;have h2:b.1+1<=q.1:=h2;omega
 | 1,h1,h2=>have h1:q.1+1<=a.1:=h1;have h2:q.1+1<=b.1:=h2;omega
 | 2,h1,h2=>have h1:a.2+1<=q.2:=h1;have h2:b.2+1<=q.2:=h2;omega
 | k+3,h1,h2=>have h1:q.2+1<=a.2:=h1;have h2:q.2+1<=b.2:=h2;omega
theorem AV {α β γ δ a b c d:Int} (h1:opp γ δ) (h2:opp α β) (e1:α-β=δ-γ) (e2:α*b-β*a=δ*c-γ*d) (hac:a+1<=c) (had:a+1<=d) (hbc:b+1<=c) (hbd:b+1<=d):False:=by
 have pos:∀ {α β γ δ:Int},0<α->β<0->0<δ->γ<0->α-β=δ-γ->α*b-β*a=δ*c-γ*d->False:=by
  intro α β γ δ h1 h2 h3 h4 e1 e2
  obtain ⟨M,hM1,hM2,hM3,hM4⟩:∃ M,a<=M/\b<=M/\M+1<=c/\M+1<=d:=by
   by_cases hab:a<=b
   ·exact ⟨b,hab,Int.le_refl _,hbc,hbd⟩
   ·exact ⟨a,Int.le_refl _,by omega,hac,had⟩
  have w1:=raZ (show 0<=α by omega) (show 0<=M-b by omega)
  have w2:=raZ (show 0<=-β by omega) (show 0<=M-a by omega)
  have w3:=raZ (show 0<=δ by omega) (show 0<=c-M-1 by omega)
  have w4:=raZ (show 0<=-γ by omega) (show 0<=d-M-1 by omega)
  have e3:α*(M-b)+-β*(M-a)+δ*(c-M-1)+-γ*(d-M-1) = -(δ-γ):=by grind
  omega
 rcases h1 with ⟨h1,h1'⟩ | ⟨h1,h1'⟩
 ·rcases h2 with ⟨h2,h2'⟩ | ⟨h2,h2'⟩
  ·omega
  ·exact pos h2 h2' h1' h1 e1 e2
 ·rcases h2 with ⟨h2,h2'⟩ | ⟨h2,h2'⟩
  ·exact pos (α:=-α) (β:=-β) (γ:=-γ) (δ:=-δ) (by omega) (by omega) (by omega) (by omega) (by omega) (by grind)
  ·omega
theorem Dir.symm {k:Nat} {g:Int} {p q:Pt} (h:Dir k g p q):∃ k',∀ p q:Pt,Dir k' g q p↔Dir k g p q:=by
 match k with
 | 0=>exact ⟨1,fun _ _=>Iff.rfl⟩
 | 1=>exact ⟨0,fun _ _=>Iff.rfl⟩
 | 2=>exact ⟨3,fun _ _=>Iff.rfl⟩
 | k+3=>exact ⟨2,fun _ _=>Iff.rfl⟩
theorem MT {a b c d:Pt} {k:Nat} (hac:Dir k 1 a c) (had:Dir k 1 a d) (hbc:Dir k 1 b c) (hbd:Dir k 1 b d):¬ cO a b c d:=by
 obtain ⟨k',hk⟩:=hac.symm
 rintro (h | h | h | h | ⟨h1,h2⟩)
 ·exact sS hac hbc h
 ·exact sS had hbd h
 ·exact sS ((hk _ _).2 hac) ((hk _ _).2 had) h
 ·exact sS ((hk _ _).2 hbc) ((hk _ _).2 hbd) h
 ·have e1:cross c d a-cross c d b=cross a b d-cross a b c:=by unfold cross;grind
  have ex:cross c d a*b.1-cross c d b*a.1=cross a b d*c.1-cross a b c*d.1:=by unfold cross;grind
  have ey:cross c d a*b.2-cross c d b*a.2=cross a b d*c.2-cross a b c*d.2:=by unfold cross;grind
  match k,hac,had,hbc,hbd with
  | 0,hac,had,hbc,hbd=>exact AV h1 h2 e1 ex hac had hbc hbd
  | 1,hac,had,hbc,hbd =>
   have q1:c.1+1<=a.1:=hac
   have q2:d.1+1<=a.1:=had
   have q3:c.1+1<=b.1:=hbc
   have q4:d.1+1<=b.1:=hbd
   exact AV (a:=-a.1) (b:=-b.1) (c:=-c.1) (d:=-d.1) h1 h2 e1 (by grind) (by omega) (by omega) (by omega) (by omega)
  | 2,hac,had,hbc,hbd=>exact AV h1 h2 e1 ey hac had hbc hbd
  | k+3,hac,had,hbc,hbd =>
   have q1:c.2+1<=a.2:=hac
   have q2:d.2+1<=a.2:=had
   have q3:c.2+1<=b.2:=hbc
   have q4:d.2+1<=b.2:=hbd
   exact AV (a:=-a.2) (b:=-b.2) (c:=-c.2) (d:=-d.2) h1 h2 e1 (by grind) (by omega) (by omega) (by omega) (by omega)
theorem Dir.less {k:Nat} {g h:Int} {p q:Pt} (hd:Dir k g p q) (hh:h<=g):Dir k h p q:=by
 match k,hd with
 | 0,hd=>have:p.1+g<=q.1:=hd;show p.1+h<=q.1;omega
 | 1,hd=>have:q.1+g<=p.1:=hd;show q.1+h<=p.1;omega
 | 2,hd=>have:p.2+g<=q.2:=hd;show p.2+h<=q.2;omega
 | k+3,hd=>have:q.2+g<=p.2:=hd;show q.2+h<=p.2;omega
theorem JC {a b c d:Pt} {gap:Int} (hg:0<=gap) {k:Nat} (hac:Dir k (gG gap) a c) (had:Dir k (gG gap) a d) (hbc:Dir k (gG gap) b c) (hbd:Dir k (gG gap) b d):¬ sB gap a b c d:=by
 have g1:1<=gG gap/\gap<=gG gap:=by unfold gG;split<;>omega
 obtain ⟨k',hk⟩:=(hac.less g1.2).symm
 rintro (h | h | h | h | h)
 ·exact MT (hac.less g1.1) (had.less g1.1) (hbc.less g1.1) (hbd.less g1.1) h
 ·exact tM hg ((hk _ _).2 (hac.less g1.2)) ((hk _ _).2 (had.less g1.2)) h
 ·exact tM hg ((hk _ _).2 (hbc.less g1.2)) ((hk _ _).2 (hbd.less g1.2)) h
 ·exact tM hg (hac.less g1.2) (hbc.less g1.2) h
 ·exact tM hg (had.less g1.2) (hbd.less g1.2) h
def s6 (A B C D:Int) (n:Nat) (f:FF) (n2:Nat) (f2:FF):Prop :=
 (∀ i,i<n->InX A B C D (pt f i))/\∀ j,j<n2->∀ i,i<(f2 j 0).len->InX A B C D (pt ((f2 j 0).el) i)
theorem NK {p:Nat->CV} (V:cD p) (s:ByteArray) (x y t:Int) (ht:t=0\/t=1) (hx : -32768<=x/\x<=32768) (hy : -32768<=y/\y<=32768)
  (h0:0<=(aQ p t).1+x/\0<=(aQ p t).2+y) (h1:(aQ p t).1+x+(aK p t).1<=32768/\(aQ p t).2+y+(aK p t).2<=32768):∃ n f n2 f2,
  F25 100 ((p 6).len) ((p 6).el) ((p 7).len) ((p 7).el) s x y t false=some (n,f,n2,f2)/\ml n f n2 f2/\F13 100 n f n2 f2=some 0 /\
  s6 ((aQ p t).1+x) ((aQ p t).2+y) ((aQ p t).1+x+(aK p t).1) ((aQ p t).2+y+(aK p t).2) n f n2 f2:=by
 obtain ⟨n,f,n2,f2,f',f2',e1,_,e3,_⟩:=V.at_ s x y t ht hx hy
 obtain ⟨tn,rfl,htn⟩:∃ tn:Nat,t=Int.ofNat tn/\tn<=1:=by
  rcases ht with rfl | rfl
  ·exact ⟨0,rfl,by omega⟩
  ·exact ⟨1,rfl,by omega⟩
 obtain ⟨a,c,b,d,c',d',g1,_,_,M⟩:=DY ((p 6).len) ((p 7).len) ((p 6).el) ((p 7).el) s x y (Int.ofNat tn) false V.small
 have hf:jR x y=false:=by
  unfold jR
  rw [decide_eq_false_iff_not];omega
 have hS:=V.shape
 have nf:¬ (jR x y=true\/tu (1+(p 7).len) (cfh ((p 6).len) ((p 6).el) ((p 7).el)) 0):=by
  rintro (h | h)
  ·rw [hf] at h;cases h
  ·exact Bu hS.outer.near (fun j hj=>(hS.hole j hj).valid.near) h
 obtain ⟨rfl,rfl,hA,hH⟩:=M.all tn rfl (by omega) nf
 have e:=rjZ (e1.symm.trans g1)
 obtain ⟨rfl,rfl,rfl,rfl⟩:n=(p 6).len/\f=c/\n2=(p 7).len/\f2=d:=by
  injection e with u1 u2
  injection u2 with u2 u3
  injection u3 with u3 u4
  exact ⟨u1,u2,u3,u4⟩
 have hn:=hS.outer.big
 have h4:=hS.outer.small
 obtain ⟨l1,l2,l3,l4,b1,b2⟩:=vc ((p 6).len) f ((p 7).len) f2 (by omega)
 have e:=rjZ (e3.symm.trans b1)
 have B:=(b2 (by omega)).1
 have hX:∀ i,i<(p 6).len->InX ((aQ p (Int.ofNat tn)).1+x) ((aQ p (Int.ofNat tn)).2+y) ((aQ p (Int.ofNat tn)).1+x+(aK p (Int.ofNat tn)).1) ((aQ p (Int.ofNat tn)).2+y+(aK p (Int.ofNat tn)).2) (pt f i):=by
  injection e with u1 u2
  injection u2 with u2 u3
  injection u3 with u3 u4
  intro i hi
  have:=B i hi
  show (_<=(f i 0).int/\(f i 0).int<=_)/\(_<=(f i 1).int/\(f i 1).int<=_)
  omega
 have R:=KD false tn x y
 have ho:ct (Ez false tn x y) false ((p 6).len) ((p 6).el) f:=Cx hS.outer.near hf hA
 have hh:∀ j,j<(p 7).len->ct (Ez false tn x y) false (((p 7).el j 0).len) (((p 7).el j 0).el) ((f2 j 0).el):=fun j hj=>Cx (hS.hole j hj).valid.near hf (hH j hj).2
 have key:∀ q:Pt,InX ((aQ p (Int.ofNat tn)).1+x) ((aQ p (Int.ofNat tn)).2+y) ((aQ p (Int.ofNat tn)).1+x+(aK p (Int.ofNat tn)).1) ((aQ p (Int.ofNat tn)).2+y+(aK p (Int.ofNat tn)).2) q->nr q.1 q.2:=fun q h=>by
  unfold InX at h
  unfold nr;omega
 have hin:∀ j,j<(p 7).len->∀ i,i<((p 7).el j 0).len->InX ((aQ p (Int.ofNat tn)).1+x) ((aQ p (Int.ofNat tn)).2+y) ((aQ p (Int.ofNat tn)).1+x+(aK p (Int.ofNat tn)).1) ((aQ p (Int.ofNat tn)).2+y+(aK p (Int.ofNat tn)).2) (pt ((f2 j 0).el) i):=by
  intro j hj i hi
  have h:=(U2 (by omega) R ho _).2 ((hS.hole j hj).inside i hi)
  have e:pt ((f2 j 0).el) i=Ez false tn x y (pt (((p 7).el j 0).el) i):=hh j hj i hi
  rw [<- e] at h
  apply Classical.byContradiction
  intro hc
  have:=HP (by omega) hX hc
  rw [h.2] at this;cases this
 have ts:Ec (Ez false tn x y) false ((p 6).len) ((p 6).el) ((p 7).len) ((p 7).el) f f2 :=
  ⟨R,ho,fun j hj=>(hH j hj).1,hh,hS.outer.near,fun i hi=>key (pt f i) (hX i hi),fun j hj=>(hS.hole j hj).valid.near,fun j hj i hi=>key (pt ((f2 j 0).el) i) (hin j hj i hi)⟩
 obtain ⟨z,z1,_,z3⟩:=li ((p 6).len) ((p 7).len) ((p 6).el) ((p 7).el)
 have hz:z=0:=z3.2 hS
 subst hz
 have t0:F13 100 ((p 6).len) f ((p 7).len) f2=some 0:=(t13 ts).trans z1
 obtain ⟨w,w1,_,w3⟩:=li ((p 6).len) ((p 7).len) f f2
 refine ⟨_,f,_,f2,e1,w3.1 (rjZ (w1.symm.trans t0)),t0,hX,fun j hj i hi=>hin j hj i ?_⟩
 rw [<- (hH j hj).1];exact hi
theorem Jd {A B C D L W gap:Int} {n n2:Nat} {f f2:FF} (V:ml n f n2 f2) (h:s6 A B C D n f n2 f2) (hL:0<=L/\L<=32768) (hW:0<=W/\W<=32768) (hg:0<=gap/\gap<=500) (hA:gap<=A) (hB:gap<=B) (hC:C<=L-gap) (hD:D<=W-gap):F29 100 n f n2 f2 L W gap=some true:=by
 have hn:=V.outer.big
 have h4:=V.outer.small
 have loop:∀ (m i:Nat) (k0:Int->Int->Option Bool),n<m+i->i<=n->vx 100 L W gap n f (Int.ofNat n) n2 f2 m (Int.ofNat i) k0 (some true)=some true:=by
  intro m
  induction m with
  | zero=>intro i k0 h1 h2;omega
  | succ m ih =>
   intro i k0 h1 h2
   unfold vx
   rw [aF,ay,ao]
   by_cases hi:i<n
   ·have q:=h.1 i hi
    unfold InX at q
    have q1:A<=(f i 0).int/\(f i 0).int<=C:=q.1
    have q2:B<=(f i 1).int/\(f i 1).int<=D:=q.2
    rw [ae (qcZ hi),ae (qcZ hi),aA (n:=L-gap) (by omega) (by omega),aA (n:=W-gap) (by omega) (by omega),oU,aa,qcZ (by omega),ae (by rfl),oU,aa,qcZ (by omega),af (by rfl),ax (by omega)]
    exact ih (i+1) k0 (by omega) (by omega)
   ·rw [af (qeZ hi)]
 unfold F29
 have z:(Int.ofNat n==0)=false:=by rw [rhZ];show (n:Int)≠0;omega
 rw [z,ae (by rfl),oU,aa,qcZ (by omega),ae (by rfl),oU,aa,qcZ (by omega),ae (by rfl),oU,aa,qcZ (by omega),af (by rfl)]
 exact loop 100 0 _ (by omega) (by omega)
theorem SX {A B C D:Int} {n n2:Nat} {f f2:FF} (V:ml n f n2 f2) (h:s6 A B C D n f n2 f2) {q:Pt} (hq:nr q.1 q.2) (ho:¬ InX A B C D q):F47 100 n f n2 f2 q.1 q.2=some (-1):=by
 have hn:=V.outer.big
 obtain ⟨w,e1,_,e3⟩:=jA n f q.1 q.2
 have hw:w = -1:=by
  have:=(e3.1 ⟨V.outer,hq⟩).2 (Qu (by omega) h.1 ho)
  rw [HP (by omega) h.1 ho] at this
  exact this
 subst hw
 unfold F47
 rw [e1,aa,ae (by decide)]
theorem OD {A B C D A' B' C' D' gap:Int} {n n2 m m2:Nat} {f f2 g g2:FF} (V:ml n f n2 f2) (W:ml m g m2 g2) (z1:F13 100 n f n2 f2=some 0) (z2:F13 100 m g m2 g2=some 0)
  (h:s6 A B C D n f n2 f2) (h' : s6 A' B' C' D' m g m2 g2) (hg:0<=gap/\gap<=500) (hap:C+gG gap<=A'\/C'+gG gap<=A\/D+gG gap<=B'\/D'+gG gap<=B):F27 100 n f n2 f2 m g m2 g2 gap=some true:=by
 have hG:1<=gG gap:=by unfold gG;split<;>omega
 obtain ⟨k,hk⟩:∃ k,∀ p q:Pt,InX A B C D p->InX A' B' C' D' q->Dir k (gG gap) p q:=by
  unfold InX
  rcases hap with c | c | c | c
  ·exact ⟨0,fun p q hp hq=>by show p.1+gG gap<=q.1;omega⟩
  ·exact ⟨1,fun p q hp hq=>by show q.1+gG gap<=p.1;omega⟩
  ·exact ⟨2,fun p q hp hq=>by show p.2+gG gap<=q.2;omega⟩
  ·exact ⟨3,fun p q hp hq=>by show q.2+gG gap<=p.2;omega⟩
 have out:∀ q,InX A' B' C' D' q->¬ InX A B C D q:=by
  intro q h1 h2
  unfold InX at h1 h2
  omega
 have hn:=V.outer.big
 have hm:=W.outer.big
 have o1:=SX V h (W.outer.near 0 (by omega)) (out _ (h'.1 0 (by omega)))
 have o2:=SX W h' (V.outer.near 0 (by omega)) (fun q=>out _ q (h.1 0 (by omega)))
 have cfx:∀ {A B C D:Int} {n n2:Nat} {f f2:FF},s6 A B C D n f n2 f2->∀ i,i<1+n2->∀ j,j<cl (cf n f f2) i->InX A B C D (pt (ce (cf n f f2) i) j):=by
  intro A B C D n n2 f f2 h i hi j hj
  cases i with
  | zero=>exact h.1 j hj
  | succ i =>
   have e:cf n f f2 (i+1) 0=f2 i 0:=by
    unfold cf
    rw [cQ _ _ _ _ _ (by omega)];rfl
   unfold cl ce at *
   rw [e] at hj ⊢
   exact h.2 i (by omega) j hj
 obtain ⟨r,r1,r2⟩:=Kb (1+n2) (cf n f f2) n n2 m m2 f f2 g g2 gap hg.1 (by omega) (by have:=V.few;omega) (fun j hj=>va V hj) W 100 0 (by have:=V.few;omega) (by omega)
 have hr:r=true:=by
  cases r with
  | true=>rfl
  | false =>
   exfalso
   have:=r2.1 rfl
   obtain ⟨i,hi,hE⟩:=Ex.zero.1 this
   obtain ⟨k',hk',a,ha,b,hb,hc⟩:=Ex.zero.1 hE
   have na:=(va V hi).big
   have nb:=(va W hk').big
   refine JC hg.1 (hk _ _ (cfx h i hi a ha) (cfx h' k' hk' b hb)) (hk _ _ (cfx h i hi a ha) (cfx h' k' hk' _ (Nat.mod_lt _ (by omega)))) (hk _ _ (cfx h i hi _ (Nat.mod_lt _ (by omega))) (cfx h' k' hk' b hb)) (hk _ _ (cfx h i hi _ (Nat.mod_lt _ (by omega))) (cfx h' k' hk' _ (Nat.mod_lt _ (by omega)))) hc
 subst hr
 unfold F27
 have i1:inb 0 n=true:=dk (by omega) (by omega)
 have i2:inb 0 m=true:=dk (by omega) (by omega)
 rw [qeZ (by omega),ae (by rfl),qeZ (by omega),ae (by rfl),z1,aa,ae (by rfl),z2,aa,af (by rfl),ae i2]
 refine (congrArg (fun z=>ob z _) o1).trans ?_
 rw [aa,ae (by rfl),ae i1]
 refine (congrArg (fun z=>ob z _) o2).trans ?_
 rw [aa,af (by rfl),OA V.few,aa]
 exact r1
theorem WS {ρ:Type} (a1:Nat) (a2:FF) (a3 a4:Nat) (S:FF) (a6 a7:Int) (N:Nat) (b1:ByteArray) (b2:Int) (b3 b4:ByteArray) (b5 b6 b7:Int) (b8:ByteArray) (b9:FF) (s:ByteArray) (c1 c2 c3:Int) (c4:Bool) (c5:ByteArray) (c6 c7:Int) (c8 c9:ByteArray) (d1:Int) (d2:Nat) (d3:FF) (d4:Nat) (d5:FF) (d6:ByteArray) (e1 e2 e3 e4 e5 e6 e7 e8 e9:Int) (k0 k1:Option ρ) (hN:N<=90) (h:∀ t,t<N->(S t 0).str≠s):∀ (m i:Nat),N<m+i->i<=N ->
  om 100 a1 a2 a3 a4 S a6 a7 N (Int.ofNat N) b1 b2 b3 b4 b5 b6 b7 b8 b9 s c1 c2 c3 c4 c5 c6 c7 c8 c9 d1 d2 d3 d4 d5 d6 e1 e2 e3 e4 e5 e6 e7 e8 e9 m (Int.ofNat i) k0 k1=k1:=by
 intro m
 induction m with
 | zero=>intro i h1 h2;omega
 | succ m ih =>
  intro i h1 h2
  unfold om
  rw [aF,ay,ao]
  by_cases hi:i<N
  ·rw [ae (qcZ hi),ae (qcZ hi),Cy,af (qeZ (h i hi)),ax (by omega)]
   exact ih (i+1) (by omega) (by omega)
  ·rw [af (qeZ hi)]
theorem WW {ρ:Type} (a1:Nat) (a2:FF) (N a4:Nat) (a5:FF) (a6 a7:Int) (b1:ByteArray) (gap:Int) (b3 b4:ByteArray) (b5 b6 b7:Int) (b8:ByteArray) (G:FF) (n:Nat) (f:FF) (n2:Nat) (f2:FF) (k0 k1:Option ρ) (hN:N<=90) (h:∀ t,t<N->F27 100 n f n2 f2 ((G t 0).len) ((G t 0).el) ((G t 1).len) ((G t 1).el) gap=some true):∀ (m i:Nat),N<m+i->i<=N ->
  oj 100 a1 a2 N a4 a5 a6 a7 (Int.ofNat N) b1 gap b3 b4 b5 b6 b7 b8 G n f n2 f2 m (Int.ofNat i) k0 k1=k1:=by
 intro m
 induction m with
 | zero=>intro i h1 h2;omega
 | succ m ih =>
  intro i h1 h2
  unfold oj
  rw [aF,ay,ao,Nat.zero_add]
  by_cases hi:i<N
  ·rw [ae (qcZ hi),ae (qcZ hi),h i hi,aa,af (by rfl),ax (by omega)]
   exact ih (i+1) (by omega) (by omega)
  ·rw [af (qeZ hi)]
def shp (P:Nat) (PF S:FF) (j:Nat):Nat × FF × Nat × FF:=(F25 100 ((PF (fd P PF ((S j 0).str)).toNat 6).len) ((PF (fd P PF ((S j 0).str)).toNat 6).el) ((PF (fd P PF ((S j 0).str)).toNat 7).len) ((PF (fd P PF ((S j 0).str)).toNat 7).el) ((S j 0).str) ((S j 1).int) ((S j 2).int) ((S j 3).int) ((S j 4).bool)).getD (0,(fun _ _=>.any),0,(fun _ _=>.any))
structure ON (P:Nat) (PF S:FF) (gr:ByteArray) (th L W gap:Int) (j:Nat):Prop where
 found:0<=fd P PF ((S j 0).str)
 kind:(PF (fd P PF ((S j 0).str)).toNat 2).int=1
 grade:(PF (fd P PF ((S j 0).str)).toNat 4).str=gr
 thick:(PF (fd P PF ((S j 0).str)).toNat 5).int=th
 shape:F13 100 ((PF (fd P PF ((S j 0).str)).toNat 6).len) ((PF (fd P PF ((S j 0).str)).toNat 6).el) ((PF (fd P PF ((S j 0).str)).toNat 7).len) ((PF (fd P PF ((S j 0).str)).toNat 7).el)=some 0
 moved:F25 100 ((PF (fd P PF ((S j 0).str)).toNat 6).len) ((PF (fd P PF ((S j 0).str)).toNat 6).el) ((PF (fd P PF ((S j 0).str)).toNat 7).len) ((PF (fd P PF ((S j 0).str)).toNat 7).el) ((S j 0).str) ((S j 1).int) ((S j 2).int) ((S j 3).int) ((S j 4).bool)=some (shp P PF S j)
 at_:Ha 100 ((S j 0).str) ((S j 1).int) ((S j 2).int) ((S j 3).int) ((S j 4).bool)=some true
 fits:F29 100 (shp P PF S j).1 (shp P PF S j).2.1 (shp P PF S j).2.2.1 (shp P PF S j).2.2.2 L W gap=some true
 new:∀ t,t<j->(S t 0).str≠(S j 0).str
 clear:∀ t,t<j->F27 100 (shp P PF S j).1 (shp P PF S j).2.1 (shp P PF S j).2.2.1 (shp P PF S j).2.2.2 (shp P PF S t).1 (shp P PF S t).2.1 (shp P PF S t).2.2.1 (shp P PF S t).2.2.2 gap=some true
theorem OE (P k:Nat) (PF S:FF) (gr:ByteArray) (th L W gap:Int) (a1 a2 a3:ByteArray) (hP:P<=90) (hk:k<=32) (H:∀ j,j<k->ON P PF S gr th L W gap j):∀ (m j:Nat) (G:FF),k<m+j->j<=k ->
  (∀ t,t<j->((G t 0).len,(G t 0).el,(G t 1).len,(G t 1).el)=shp P PF S t) ->
  oi 100 P PF k S (Int.ofNat k) a1 gap a2 gr th L W a3 m j (Int.ofNat j) G (some 8) (some 7) (fun x=>some x) (some 19) (some 0)=some 0:=by
 intro m
 induction m with
 | zero=>intro j G h1 h2;omega
 | succ m ih =>
  intro j G h1 h2 hG
  unfold oi
  rw [aF,ay,ao]
  by_cases hj:j<k
  case neg=>rw [af (qeZ hj)]
  have O:=H j hj
  have hf:=O.found
  rcases tX P PF ((S j 0).str) with hx | ⟨J,hJ,hx,_⟩
  ·omega
  have eJ:(fd P PF ((S j 0).str)).toNat=J:=by rw [hx];rfl
  obtain ⟨_,o1,o2,o3,o4,o5,o6,o7,o8,o9⟩:=O
  rw [eJ] at o1 o2 o3 o4 o5
  have ib:vR (Int.ofNat j) k=true:=by
   unfold vR
   rw [qaZ,decide_eq_true_eq,decide_eq_true_eq]
   exact ⟨riZ _,by show (j:Int)<=(k:Int);omega⟩
  rw [ae (qcZ hj),ae (qcZ hj),Ao hP hJ hx,aa]
  dsimp only
  rw [af (by rfl),ae ib,Nat.sub_zero]
  refine (WS P PF j k S (Int.ofNat k) (Int.ofNat j) j a1 gap a2 gr th L W a3 G ((S j 0).str) _ _ _ _ _ _ _ _ _ _ _ _ _ _ _ _ _ _ _ _ _ _ _ _ _ _ (by omega) o8 100 0 (by omega) (by omega)).trans ?_
  rw [o5,aa,af (by simp [o1]),Cy,qcZ o2,ae (by rfl),af (by simp [o3]),o4,aa,af (by rfl),o6,aa,af (by rfl),o7,aa,af (by rfl)]
  refine (WW P PF j k S (Int.ofNat k) (Int.ofNat j) a1 gap a2 gr th L W a3 G (shp P PF S j).1 (shp P PF S j).2.1 (shp P PF S j).2.2.1 (shp P PF S j).2.2.2 _ _ (by omega) (fun t ht=>?_) 100 0 (by omega) (by omega)).trans ?_
  ·have e:=hG t ht
   have h9:=o9 t ht
   rw [<- e] at h9
   exact h9
  ·rw [ae (jN (by omega)),ax (by omega)]
   refine ih (j+1) _ (by omega) (by omega) fun t ht=>?_
   by_cases e:t<j
   ·rw [dm _ _ _ _ _ e,dm _ _ _ _ _ e];exact hG t e
   ·have:t=j:=by omega
    subst this
    rw [cQ _ _ _ _ _ (rmZ _),cQ _ _ _ _ _ (rmZ _),Nat.sub_self];rfl
theorem QW (P k:Nat) (PF S:FF) (gr:ByteArray) (th L W gap:Int) (a1 a2 a3:ByteArray) (hP:P<=90) (hk:k<=32) (h0:0<k) (hg:0<=gap/\gap<=500) (H:∀ j,j<k->ON P PF S gr th L W gap j):Ct 100 a1 gap k S a2 gr th L W a3 P PF=some 0:=by
 unfold Ct
 have z:(Int.ofNat k==0)=false:=by rw [rhZ];show (k:Int)≠0;omega
 rw [qeZ (by omega),ae (by rfl),af (qeZ (by omega)),z,cond_false,af (qeZ (by show ¬ (k:Int)>32;omega))]
 exact OE P k PF S gr th L W gap a1 a2 a3 hP hk H 100 0 _ (by omega) (by omega) (fun t ht=>by omega)
theorem Js {n k:Nat} {f c S R:FF} {tl first second:List Int} {L W gap:Int} (H:jV n f tl k c first second) (hD:∀ i j,i<j->j<n->(f i 0).str≠(f j 0).str) (hP:PkC f tl gap k c R)
  (ok:∀ i,i<k->OkI f tl c R gap L W i) (sp:∀ i,i<k->FL f tl c R S i):∀ j,j<k->eV n f S L W gap j:=by
 have mem:∀ i,i<k->cN c i<n/\(tl.getD (cN c i) 0=0\/tl.getD (cN c i) 0=1):=fun i hi=>by
  obtain ⟨m1,m2⟩:=H.chs.mem i hi
  have hlt:cN c i<n:=by unfold cN;omega
  exact ⟨hlt,Bs H.vec hlt m2⟩
 have asc:∀ i j,i<j->j<k->cN c i<cN c j:=fun i j hij hj=>by
  have:=H.chs.asc i j hij hj
  have a:=(H.chs.mem i (by omega)).1
  have b:=(H.chs.mem j hj).1
  unfold cN;omega
 have fdj:∀ j,j<k->fd n f ((S j 0).str)=Int.ofNat (cN c j):=fun j hj=>by
  rw [(sp j hj).id]
  exact (tW (mem j hj).1).2 fun i hi=>hD i _ hi (mem j hj).1
 have pj_:∀ j,j<k->pS n f S j=f (cN c j):=fun j hj=>by unfold pS;rw [fdj j hj];rfl
 have box:∀ j,j<k->∀ d,d<4->bx (bxS n f S) j d=bx R (cN c j) d:=by
  intro j hj d hd
  have u:=hP.hi j hj
  have s:=sp j hj
  match d,hd with
  | 0,_=>show (aQ (pS n f S j) ((S j 3).int)).1+(S j 1).int=_;rw [pj_ j hj,s.turn,s.x];omega
  | 1,_=>show (aQ (pS n f S j) ((S j 3).int)).2+(S j 2).int=_;rw [pj_ j hj,s.turn,s.y];omega
  | 2,_=>show (aQ (pS n f S j) ((S j 3).int)).1+(S j 1).int+(aK (pS n f S j) ((S j 3).int)).1=_;rw [pj_ j hj,s.turn,s.x];omega
  | 3,_=>show (aQ (pS n f S j) ((S j 3).int)).2+(S j 2).int+(aK (pS n f S j) ((S j 3).int)).2=_;rw [pj_ j hj,s.turn,s.y];omega
 intro j hj
 obtain ⟨q1,q2⟩:=ok j hj
 have s:=sp j hj
 have u:=hP.hi j hj
 unfold B3 at q1
 refine ⟨by rw [fdj j hj];exact riZ _,s.flip,by rw [s.turn];exact (mem j hj).2,by rw [s.x,s.y];exact q1,fun i hi=>?_,?_⟩
 ·rw [(sp i (by omega)).id,s.id]
  exact hD _ _ (asc i j hi hj) (mem j hj).1
 ·rw [box j hj 0 (by omega),box j hj 1 (by omega),pj_ j hj,s.turn]
  have e1:bx R (cN c j) 2-bx R (cN c j) 0=(aK (f (cN c j)) (tl.getD (cN c j) 0)).1:=by omega
  have e2:bx R (cN c j) 3-bx R (cN c j) 1=(aK (f (cN c j)) (tl.getD (cN c j) 0)).2:=by omega
  rw [e1,e2] at q2
  exact q2.congr fun i d hi hd=>by rw [box i (by omega) d hd];rfl
def G0 (z:d8) (s:NSt):Prop:=(s.1=z.a/\s.2.1=z.gap)/\∀ j,j<s.2.2.1->eV z.n z.f s.2.2.2.1 z.L z.W z.gap j
theorem Jv {z:d8} (Z:Fix z) (hD:∀ i j,i<j->j<z.n->(z.f i 0).str≠(z.f j 0).str) {tl:List Int} {k:Nat} {c:FF} {first second:List Int} (H:jV z.n z.f tl k c first second) {s:NSt} (h:G0 z s):G0 z (eN z tl k c first second s):=by
 obtain ⟨_,hP,_,h1,h2,_⟩:=ry Z H
 unfold eN
 by_cases q:(plR z tl k c first second).2.2.2.2=true/\ek z.P z.PF (plR z tl k c first second).2.2.2.1 (plR z tl k c first second).2.2.1>s.2.2.2.2
 ·rw [if_pos q]
  obtain ⟨a1,a2,a3,a4⟩:=h2 q.1
  refine ⟨⟨a1,a2⟩,fun j hj=>?_⟩
  have hj:j<k:=by rw [<- a3];exact hj
  exact Js H hD (hP.chosen H) (h1.1 q.1) a4 j hj
 ·rw [if_neg q];exact h
theorem EA {P:Nat} {PF:FF} (hP:B0 P PF) (h20:P<=20) (a gr e:ByteArray) (th L W:Int):∃ n f,ru 100 a gr th L W e P PF=some (n,f)/\n<=P/\(∀ i,i<n->cD (f i))/\(∀ i j,i<j->j<n->(f i 0).str≠(f j 0).str)/\∀ i,i<n->∃ J,J<P/\AK (f i) (PF J)/\vh gr th PF J:=by
 obtain ⟨n,f,e0,h1,h2,h3⟩:=F2 hP h20 a gr e th L W
 refine ⟨n,f,e0,h1,h2,h3,fun i hi=>?_⟩
 obtain ⟨js,f',e1,hl,hS⟩:=EB P PF a gr e th L W h20
 have ee:=rjZ (e0.symm.trans e1)
 obtain ⟨rfl,rfl⟩:n=js.length/\f=f':=by
  injection ee with u1 u2
  exact ⟨u1,u2⟩
 have hm:js.getD i 0∈js:=by rw [qdZ,qgZ hi];exact List.getElem_mem _
 obtain ⟨q1,q2⟩:=hS.ok _ hm
 exact ⟨_,q1,hS.row i hi,q2⟩
section
variable {P n : Nat} {PF f S : FF} {gr : ByteArray} {th L W gap : Int} (hP : B0 P PF) (hV : ∀ i, i < n -> cD (f i)) (hJ : ∀ i, i < n -> ∃ J, J < P /\ AK (f i) (PF J) /\ vh gr th PF J) {k : Nat} (hp : ∀ j, j < k -> eV n f S L W gap j)
include hV hJ hp
theorem Bn {j:Nat} (hj:j<k):∃ J,J<P/\fd P PF ((S j 0).str)=Int.ofNat J/\vh gr th PF J /\
  F25 100 ((PF J 6).len) ((PF J 6).el) ((PF J 7).len) ((PF J 7).el) ((S j 0).str) ((S j 1).int) ((S j 2).int) ((S j 3).int) ((S j 4).bool)=some (shp P PF S j) /\
  ml (shp P PF S j).1 (shp P PF S j).2.1 (shp P PF S j).2.2.1 (shp P PF S j).2.2.2/\F13 100 (shp P PF S j).1 (shp P PF S j).2.1 (shp P PF S j).2.2.1 (shp P PF S j).2.2.2=some 0 /\
  s6 (bx (bxS n f S) j 0) (bx (bxS n f S) j 1) (bx (bxS n f S) j 2) (bx (bxS n f S) j 3) (shp P PF S j).1 (shp P PF S j).2.1 (shp P PF S j).2.2.1 (shp P PF S j).2.2.2:=by
 obtain ⟨h1,h2,h3,h4,h5,h6,_,h8,_⟩:=hp j hj
 obtain ⟨m1,m2⟩:=sQ hp hj
 obtain ⟨J,j1,E,j3⟩:=hJ _ m1
 have nm:(PF J 0).str=(S j 0).str:=E.id.symm.trans m2
 have hf:fd P PF ((S j 0).str)=Int.ofNat J:=by
  rw [<- nm]
  exact (tW j1).2 j3.1
 unfold rR at h6
 unfold FIn at h8
 have b0:bx (bxS n f S) j 0=(aQ (f (pj n f S j)) ((S j 3).int)).1+(S j 1).int:=rfl
 have b1:bx (bxS n f S) j 1=(aQ (f (pj n f S j)) ((S j 3).int)).2+(S j 2).int:=rfl
 have b2:bx (bxS n f S) j 2=(aQ (f (pj n f S j)) ((S j 3).int)).1+(S j 1).int+(aK (f (pj n f S j)) ((S j 3).int)).1:=rfl
 have b3:bx (bxS n f S) j 3=(aQ (f (pj n f S j)) ((S j 3).int)).2+(S j 2).int+(aK (f (pj n f S j)) ((S j 3).int)).2:=rfl
 have ep:pS n f S j=f (pj n f S j):=rfl
 rw [ep] at h6 h8
 obtain ⟨a,c,b,d,e1,V,z,X⟩:=NK (hV _ m1) ((S j 0).str) ((S j 1).int) ((S j 2).int) ((S j 3).int) h3 h4.1 h4.2 (by omega) (by omega)
 rw [E.ol,E.oe,E.hl,E.he] at e1
 have es:shp P PF S j=(a,c,b,d):=by unfold shp;rw [hf,h2];exact congrArg (fun q=>Option.getD q _) e1
 rw [es]
 exact ⟨J,j1,hf,j3,by rw [h2];exact e1,V,z,by rw [b0,b1,b2,b3];exact X⟩
include hP in
theorem Gf (h90:P<=90) (hk:k<=32) (h0:0<k) (a1 a2 a3:ByteArray):Ct 100 a1 gap k S a2 gr th L W a3 P PF=some 0:=by
 have hg:0<=gap/\gap<=500:=by
  have:=(hp 0 h0).2.2.2.2.2.1
  unfold rR at this
  exact this.2.2.1
 refine QW P k PF S gr th L W gap a1 a2 a3 h90 hk h0 hg fun j hj=>?_
 obtain ⟨J,j1,hf,j3,e1,V,z,X⟩:=Bn hV hJ hp hj
 obtain ⟨h1,h2,h3,h4,h5,h6,_,h8,h9⟩:=hp j hj
 have eJ:(fd P PF ((S j 0).str)).toNat=J:=by rw [hf];rfl
 have ep:pS n f S j=f (pj n f S j):=rfl
 have b2:bx (bxS n f S) j 2=bx (bxS n f S) j 0+(aK (pS n f S j) ((S j 3).int)).1:=rfl
 have b3:bx (bxS n f S) j 3=bx (bxS n f S) j 1+(aK (pS n f S j) ((S j 3).int)).2:=rfl
 unfold rR at h6
 unfold FIn at h8
 constructor
 ·rw [hf];exact riZ _
 ·rw [eJ];exact j3.2.1
 ·rw [eJ]
  have:=j3.2.2.1
  have:(ByteArray.toList ((PF J 4).str)==ByteArray.toList gr)=true:=by rw [this];simp
  rw [Cy,decide_eq_true_eq] at this;exact this
 ·rw [eJ];exact j3.2.2.2.1
 ·rw [eJ];exact j3.2.2.2.2
 ·rw [eJ];exact e1
 ·unfold Ha
  have s:∀ x:Int,(-32768<=x/\x<=32768)->Hc 100 x=some true:=fun x hx=>by
   unfold Hc
   rw [qcZ (by omega),ae (by rfl),qcZ (by omega)]
  rw [s _ h4.1,s _ h4.2,qcZ (by omega),ae (by rfl),qcZ (by omega),ae (by rfl)];rfl
 ·exact Jd V X (by omega) (by omega) hg (by omega) (by omega) (by omega) (by omega)
 ·exact h5
 ·intro t ht
  obtain ⟨_,_,_,_,_,V',z',X'⟩:=Bn hV hJ hp (j:=t) (by omega)
  have:=h9 t ht
  unfold ot Apt at this
  refine OD V V' z z' X X' hg ?_
  have c2:bx (bxS n f S) t 2=bx (bxS n f S) t 2:=rfl
  omega
end
theorem checked24 (g0:Nat->CV) (hg0:Ti kR1 g0) (n1c0:Nat) (f1c0:Nat->Nat->CV) (h1c0:FM (.pr .str (.pr (.int .i64) (.pr (.int .i64) (.pr (.int .i64) (.pr .bool .nil))))) n1c0 f1c0):F416 100 g0 n1c0 f1c0=some true:=by
 unfold F416
 obtain ⟨c,e1,hc⟩:=WO ((g0 6).len) ((g0 6).el) 4 (by omega)
 have e1:G6 100 ((g0 6).len) ((g0 6).el) 4=some c:=e1
 rw [e1,aa,OL]
 cases c with
 | false=>rfl
 | true =>
  obtain ⟨hP,h4⟩:=hc rfl
  rw [ae (by rfl)]
  by_cases c6:Int.ofNat n1c0>6
  ·rw [ae (qcZ c6)];rfl
  rw [af (qeZ c6)]
  have c6:¬ (n1c0:Int)>6:=c6
  generalize ha:(g0 0).str=a at *
  generalize hgr:(g0 1).str=gr at *
  generalize hth:(g0 2).int=th at *
  generalize hL:(g0 3).int=L at *
  generalize hW:(g0 4).int=W at *
  generalize he:(g0 5).str=e at *
  generalize hPn:(g0 6).len=P at *
  generalize hPF:(g0 6).el=PF at *
  generalize hgap:(g0 7).int=gap at *
  obtain ⟨n,f,hs,hn,hV,hD,hJ⟩:=EA hP (by omega) a gr e th L W
  obtain ⟨r1,r2⟩:=QP (gap:=gap) hs (by omega) hV
  by_cases hg:0<=gap/\gap<=500
  case neg =>
   have e2:B1 100 a gr th L W e P PF gap 10473=some (ByteArray.empty,0,0,(fun _ _=>.any),9):=by
    unfold B1
    rw [dQ,aa,ae (by simp only [Bool.not_eq_true',Bool.and_eq_false_iff,decide_eq_false_iff_not];omega)]
   rw [r2 hg,aa,e2,aa]
   rfl
  have Z:Fix ⟨a,gr,th,L,W,e,P,PF,gap,n,f⟩:=⟨hg,hP,by show n<=4;omega,hV⟩
  have e2:=Q3 Z hs
  have I:=Oh (a:=a) (b:=gr) (e:=e) (th:=th) (L:=L) (W:=W) (by omega) hV hD hg (fun _ _=>.any) (fun _ _=>.any)
  have B:=sV Z (Q:=G0 _) (fun tl k c first second h s hs=>Jv Z hD h hs) (s:=(a,gap,0,(fun _ _=>.any),0)) ⟨⟨rfl,rfl⟩,fun j hj=>absurd hj (Nat.not_lt_zero j)⟩
  have U:=sV Z (Q:=OM _) (fun tl k c first second h s hs=>Kv Z h hs) (s:=(a,gap,0,(fun _ _=>.any),0)) ⟨rfl,by show 0<=4;omega⟩
  have best:∀ (S:FF) (k:Nat),(∀ j,j<k->eV n f S L W gap j)->ek P PF S k<=(dF ⟨a,gr,th,L,W,e,P,PF,gap,n,f⟩ 0 (a,gap,0,(fun _ _=>.any),0)).2.2.2.2:=by
   intro S k hp
   by_cases hk:k=0
   ·subst hk
    rw [FY]
    have up:(0:Int)<=(dF ⟨a,gr,th,L,W,e,P,PF,gap,n,f⟩ 0 (a,gap,0,(fun _ _=>.any),0)).2.2.2.2 :=
     sV Z (Q:=fun s=>0<=s.2.2.2.2) (fun tl k c first second h s hs=>Int.le_trans hs (Ba _ tl k c first second s)) (s:=(a,gap,0,(fun _ _=>.any),0)) (Int.le_refl _)
    exact up
   ·have h0:=(hp 0 (by omega)).2.2.2.2.2.1
    unfold rR at h0
    exact Ju Z S k hp h0.1 h0.2.1 _
  rw [r1 hg,aa,e2,aa]
  generalize lY a gr e th L W gap f n 0 0 (fun _ _=>.any) (fun _ _=>.any)=A at *
  generalize dF ⟨a,gr,th,L,W,e,P,PF,gap,n,f⟩ 0 (a,gap,0,(fun _ _=>.any),0)=b at *
  obtain ⟨ka,Sa,Ta⟩:=A
  obtain ⟨b1,b2,kb,Sb,v⟩:=b
  obtain ⟨⟨ea,eg⟩,hb⟩:=B
  obtain ⟨hv,hkb⟩:=U
  have hka:=I.le
  have ha':=I.poss
  dsimp only at ea eg hb hv hkb hka ha' best ⊢
  rw [ea,eg]
  have chk:∀ (k:Nat) (S:FF),k<=4->0<k->(∀ j,j<k->eV n f S L W gap j)->Ct 100 a gap k S a gr th L W e P PF=some 0:=fun k S h1 h2 hp=>Gf hP hV hJ hp (by omega) (by omega) h2 a a e
  have uA:=AN (n:=ka) (S:=Sa) hP (by omega)
  have uB:=AN (n:=kb) (S:=Sb) hP (by omega)
  have uN:=AN (n:=n1c0) (S:=f1c0) hP (by omega)
  obtain ⟨z,ez,hz⟩:=My (by omega) hV (by omega) hs n1c0 f1c0 (by omega) a gap
  -- the last part,the same on all ways
  have fin:(ob (lU 100 a gap kb Sb P PF) fun x17=>(ob (lU 100 a gap ka Sa P PF) fun x18=>(bif ((decide (x17>=x18))==true) then (ob (Cp 100 a gap n1c0 f1c0 a gr th L W e P PF) fun x19=>(bif ((!x19)==false) then (ob (lU 100 a gap n1c0 f1c0 P PF) fun x20=>(bif ((decide (x17>=x20))==true) then (ob (some true) fun x21=>(some x21)) else (some false))) else (ob (some true) fun x22=>(some x22)))) else (some false))))=some true:=by
   rw [uB,aa,uA,aa,<- hv,qcZ (show v>=ek P PF Sa ka from best Sa ka ha'),ae (by rfl),ez,aa]
   cases z with
   | false=>rfl
   | true =>
    rw [ae (by rfl),uN,aa,qcZ (show v>=ek P PF f1c0 n1c0 from best f1c0 n1c0 (hz.1 rfl))]
    rfl
  have d1:decide (Int.ofNat ka>4)=false:=qeZ (by show ¬ (ka:Int)>4;omega)
  have d2:decide (Int.ofNat kb>4)=false:=qeZ (by show ¬ (kb:Int)>4;omega)
  rw [show ((0:Int) != 0)=false from rfl,cond_false,d1,ae (by rfl),d2,ae (by rfl)]
  by_cases k1:0<ka
  ·rw [qcZ (show Int.ofNat ka>0 by show (ka:Int)>0;omega),ae (by rfl),chk ka Sa (by omega) k1 ha',aa,show ((0:Int) != 0)=false from rfl,ae (by rfl)]
   by_cases k2:0<kb
   ·rw [qcZ (show Int.ofNat kb>0 by show (kb:Int)>0;omega),ae (by rfl),chk kb Sb (by omega) k2 hb,aa,show ((0:Int) != 0)=false from rfl,cond_false]
    exact fin
   ·rw [qeZ (show ¬ Int.ofNat kb>0 by show ¬ (kb:Int)>0;omega),af (by rfl)]
    exact fin
  ·rw [qeZ (show ¬ Int.ofNat ka>0 by show ¬ (ka:Int)>0;omega),af (by rfl)]
   by_cases k2:0<kb
   ·rw [qcZ (show Int.ofNat kb>0 by show (kb:Int)>0;omega),ae (by rfl),chk kb Sb (by omega) k2 hb,aa,show ((0:Int) != 0)=false from rfl,cond_false]
    exact fin
   ·rw [qeZ (show ¬ Int.ofNat kb>0 by show ¬ (kb:Int)>0;omega),af (by rfl)]
    exact fin
end Go.Eng.R13
