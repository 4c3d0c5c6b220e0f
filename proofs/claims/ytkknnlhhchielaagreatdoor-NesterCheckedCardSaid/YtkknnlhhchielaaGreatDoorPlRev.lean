/-
 Several texts in one.
-/
import Derived.Test.YtkknnlhhchielaaGreatDoorDecT2
import Derived.Test.YtkknnlhhchielaaGreatDoorEngU
import Derived.Test.YtkknnlhhchielaaGreatDoorGeo6
import Derived.Test.YtkknnlhhchielaaGreatDoorGeo6
import Derived.Test.YtkknnlhhchielaaGreatDoorGeo6
import Derived.Test.YtkknnlhhchielaaGreatDoorGeo6
import Derived.Test.YtkknnlhhchielaaGreatDoorGeo6
/-
 slices.Reverse over points: the plain law,and the oracle's first row.
-/
set_option linter.all false
namespace Go.Eng.R13
open Go Go.RowKit Go.Eng
theorem Hy (f:Nat->Nat->CV) (i:Nat) (L:Nat->CV) (a c:Nat):rO f i 0 2 L a c=if a=i/\c<2 then L c else f a c:=by
 unfold rO
 by_cases h1:a=i
 ·subst h1
  by_cases h2:c<2
  ·have:(Nat.beq a a&&Nat.ble 0 c&&Nat.blt c (0+2))=true:=by
    simp [Nat.blt_eq,h2]
   rw [this,if_pos ⟨rfl,h2⟩];rfl
  ·have:(Nat.beq a a&&Nat.ble 0 c&&Nat.blt c (0+2))=false:=by
    have:Nat.blt c (0+2)=false:=by
     cases hq:Nat.blt c (0+2) with
     | false=>rfl
     | true=>exact (h2 (by simpa [Nat.blt_eq] using hq)).elim
    rw [this];simp
   rw [this,if_neg (fun h=>h2 h.2)];rfl
 ·have:(Nat.beq a i&&Nat.ble 0 c&&Nat.blt c (0+2))=false:=by
   have:Nat.beq a i=false:=by
    cases hq:Nat.beq a i with
    | false=>rfl
    | true=>exact (h1 (qbZ hq)).elim
   simp [this]
  rw [this,if_neg (fun h=>h1 h.1)];rfl
theorem Iy (a b:CV) (c:Nat) (h:c<2):aw [a,b] c=if c=0 then a else b:=by
 match c,h with
 | 0,_=>rfl
 | 1,_=>rfl
theorem LS {ρ:Type} (fuel n:Nat) (g:Nat->Nat->CV) (hn:n<9223372036854775808) (hg:∀ i j,i<n->j<2->∃ z,g i j=.i .i64 z) (k0:(Nat->Nat->CV)->Option ρ) :
  ∀ (m i:Nat) (f:Nat->Nat->CV),n<m+i->2*i<=n+1->(∀ j c,j<n->c<2->f j c=if j<i\/n<=j+i then g (n-1-j) c else g j c) ->
   ∃ f',vu fuel n m (Int.ofNat i) (Int.ofNat n-1-Int.ofNat i) f k0=k0 f'/\∀ j c,j<n->c<2->f' j c=g (n-1-j) c:=by
 intro m
 induction m with
 | zero=>intro i f h1 h2 hf;omega
 | succ m ih =>
  intro i f h1 h2 hf
  unfold vu
  by_cases hlt:(Int.ofNat i)<Int.ofNat n-1-Int.ofNat i
  ·have hlt' : i+i+1<n:=by simp at hlt;omega
   have hx:Int.ofNat n-1-Int.ofNat i=Int.ofNat (n-1-i):=by simp;omega
   rw [ae (by simpa using hlt),hx,ay,ay]
   rw [ae (by simp;omega),ae (by simp;omega),ae (by simp;omega),ae (by simp;omega)]
   rw [ax (by omega),ao,ao,Nat.zero_add,Nat.zero_add]
   have hw:w64 (Int.ofNat (n-1-i)-1)=Int.ofNat n-1-Int.ofNat (i+1):=by
    rw [aA]<;>simp<;>omega
   rw [hw]
   refine ih (i+1) _ (by omega) (by omega) fun j c hj hc=>?_
   have val:∀ a d,a<n->d<2->CV.i .i64 ((f a d).int)=f a d:=by
    intro a d ha hd
    rw [hf a d ha hd]
    split
    ·obtain ⟨z,hz⟩:=hg (n-1-a) d (by omega) hd
     rw [hz];rfl
    ·obtain ⟨z,hz⟩:=hg a d ha hd
     rw [hz];rfl
   rw [Hy,Hy,Iy _ _ c hc,Iy _ _ c hc]
   rw [val _ _ (by omega) (by omega),val _ _ (by omega) (by omega),val _ _ (by omega) (by omega),val _ _ (by omega) (by omega)]
   have two:∀ a,(if c=0 then f a 0 else f a 1)=f a c:=by
    intro a
    match c,hc with
    | 0,_=>rfl
    | 1,_=>rfl
   rw [two,two]
   by_cases e1:j=n-1-i
   ·rw [if_pos ⟨e1,hc⟩,if_pos (by omega),hf i c (by omega) hc,if_neg (by omega),e1]
    congr 1;omega
   ·rw [if_neg (fun h=>e1 h.1)]
    by_cases e2:j=i
    ·rw [if_pos ⟨e2,hc⟩,if_pos (by omega),hf _ c (by omega) hc,if_neg (by omega),e2]
    ·rw [if_neg (fun h=>e2 h.1),hf j c hj hc]
     by_cases e3:j<i\/n<=j+i
     ·rw [if_pos e3,if_pos (by omega)]
     ·rw [if_neg e3,if_neg (by omega)]
  ·have hlt' : n<=i+i+1:=by simp at hlt;omega
   rw [af (by simpa using hlt)]
   refine ⟨f,rfl,fun j c hj hc=>?_⟩
   rw [hf j c hj hc]
   split
   ·rfl
   ·have:j=n-1-j:=by omega
    rw [<- this]
theorem Qg (fuel n:Nat) (g:Nat->Nat->CV) (hn:n<fuel) (hn2:n<9223372036854775808) (hg:∀ i j,i<n->j<2->∃ z,g i j=.i .i64 z) :
  ∃ f',F52 fuel n g=some (n,f')/\∀ i j,i<n->j<2->f' i j=Gc n g i j:=by
 unfold F52 D52
 have h0:w64 (Int.ofNat n-1)=Int.ofNat n-1-Int.ofNat 0:=by
  rw [aA]<;>simp<;>omega
 rw [h0]
 obtain ⟨f',h1,h2⟩:=LS (ρ:=Nat × (Nat->Nat->CV)) fuel n g hn2 hg (fun x=>some (n,x)) fuel 0 g (by omega) (by omega) (fun j c hj hc=>by rw [if_neg (by omega)])
 exact ⟨f',h1,h2⟩
open Geo
abbrev pt (f:Nat->Nat->CV) (i:Nat):Pt:=((f i 0).int,(f i 1).int)
theorem AM {x1 x2 x3 x4 x5 x6:Int} (ha:nr x1 x2) (hb:nr x3 x4) (hc:nr x5 x6) :
  w64 (w64 (w64 (x3-x1)*w64 (x6-x2))-w64 (w64 (x4-x2)*w64 (x5-x1)))=cross (x1,x2) (x3,x4) (x5,x6):=by
 unfold nr at *
 have h1:=jt (x:=x3-x1) (y:=x6-x2) (A:=65536) (B:=65536) (by omega) (by omega) (by omega) (by omega)
 have h2:=jt (x:=x4-x2) (y:=x5-x1) (A:=65536) (B:=65536) (by omega) (by omega) (by omega) (by omega)
 rw [aA (n:=x3-x1) (by omega) (by omega),aA (n:=x6-x2) (by omega) (by omega),aA (n:=x4-x2) (by omega) (by omega),aA (n:=x5-x1) (by omega) (by omega)]
 rw [aA (n:=(x3-x1)*(x6-x2)) (by omega) (by omega),aA (n:=(x4-x2)*(x5-x1)) (by omega) (by omega),aA (by omega) (by omega)]
 rfl
def sgn (x:Int):Int:=if x<0 then -1 else if 0<x then 1 else 0
theorem rB {x:Int} (h:x<0):sgn x = -1:=by unfold sgn;rw [if_pos h]
theorem rA {x:Int} (h:0<x):sgn x=1:=by unfold sgn;rw [if_neg (by omega),if_pos h]
theorem Bd:sgn 0=0:=rfl
theorem AP (s t:Int):decide (w64 (sgn s*sgn t)<0)=decide (opp s t):=by
 have e:∀ x,sgn x = -1/\x<0\/sgn x=0/\x=0\/sgn x=1/\0<x:=by
  intro x
  rcases Int.lt_trichotomy x 0 with h | h | h
  ·exact .inl ⟨rB h,h⟩
  ·exact .inr (.inl ⟨by rw [h];rfl,h⟩)
  ·exact .inr (.inr ⟨rA h,h⟩)
 have key:(w64 (sgn s*sgn t)<0)↔opp s t:=by
  unfold opp
  rcases e s with ⟨h1,h2⟩ | ⟨h1,h2⟩ | ⟨h1,h2⟩<;>rcases e t with ⟨h3,h4⟩ | ⟨h3,h4⟩ | ⟨h3,h4⟩<;>rw [h1,h3,aA (by decide) (by decide)]<;>simp<;>omega
 exact decide_eq_decide.2 key
theorem m6 {x1 x2 x3 x4 x5 x6:Int} (ha:nr x1 x2) (hb:nr x3 x4) (hc:nr x5 x6):F79 100 x1 x2 x3 x4 x5 x6=some (cross (x1,x2) (x3,x4) (x5,x6)):=by
 unfold F79;rw [AM ha hb hc]
theorem t8 {x1 x2 x3 x4 x5 x6:Int} (ha:nr x1 x2) (hb:nr x3 x4) (hc:nr x5 x6):F75 100 x1 x2 x3 x4 x5 x6=some (cross (x1,x2) (x3,x4) (x5,x6)):=by
 unfold F75;rw [AM ha hb hc]
theorem rN {x1 x2 x3 x4 x5 x6:Int} (ha:nr x1 x2) (hb:nr x3 x4) (hc:nr x5 x6):F71 100 x1 x2 x3 x4 x5 x6=some (cross (x1,x2) (x3,x4) (x5,x6)):=by
 unfold F71;rw [AM ha hb hc]
theorem A4 {x1 x2 x3 x4 x5 x6:Int} (ha:nr x1 x2) (hb:nr x3 x4) (hc:nr x5 x6):F84 100 x1 x2 x3 x4 x5 x6=some (sgn (cross (x1,x2) (x3,x4) (x5,x6))):=by
 unfold F84;rw [AM ha hb hc]
 rcases Int.lt_trichotomy (cross (x1,x2) (x3,x4) (x5,x6)) 0 with h | h | h
 ·rw [rB h,af (by simp;omega),ae (by simpa using h)]
 ·rw [h,Bd];rfl
 ·rw [rA h,ae (by simpa using h)]
theorem Vf (x:Int):F86 100 x=some (sgn x):=by
 unfold F86 F89 F90
 rw [aa,aa]
 have e1:(x != x)=false:=by simp
 have e2:((0:Int) != 0)=false:=rfl
 rw [e1,e2,af rfl,af rfl]
 rcases Int.lt_trichotomy x 0 with h | h | h
 ·rw [rB h,ae (by simpa using h)];rfl
 ·rw [h];rfl
 ·rw [rA h,af (by simp;omega),ae (by simpa using h)];rfl
theorem Ve (x:Int):F88 100 x=some (sgn x):=by
 unfold F88
 rcases Int.lt_trichotomy x 0 with h | h | h
 ·rw [rB h,ae (by simpa using h)]
 ·rw [h];rfl
 ·rw [rA h,af (by simp;omega),ae (by simpa using h)]
theorem Vg (x:Int):F74 100 x=some (sgn x):=by
 unfold F74 sgn
 congr 1
 split<;>split<;>split<;>(try split)<;>omega
theorem Kf (a b q:Int):(decide ((if b<a then b else a)<=q)&&decide (q<=(if b>a then b else a)))=decide (btw a b q):=by
 rw [Bool.eq_iff_iff,qaZ,decide_eq_true_iff,decide_eq_true_iff,decide_eq_true_iff]
 unfold btw
 split<;>split<;>omega
theorem Es (x1 x2 x3 x4 x5 x6:Int):F87 100 x1 x2 x3 x4 x5 x6=some (decide (btw x1 x3 x5)&&decide (btw x2 x4 x6)):=by
 unfold F87
 rw [<- Kf x1 x3 x5,<- Kf x2 x4 x6]
 cases decide ((if x3<x1 then x3 else x1)<=x5)<;>cases decide (x5<=(if x3>x1 then x3 else x1))<;>cases decide ((if x4<x2 then x4 else x2)<=x6)<;>cases decide (x6<=(if x4>x2 then x4 else x2))<;>rfl
theorem Kt (x1 x2 x3 x4 x5 x6:Int):F76 100 x1 x2 x3 x4 x5 x6=some (decide (btw x1 x3 x5)&&decide (btw x2 x4 x6)):=Es x1 x2 x3 x4 x5 x6
theorem onB (x1 x2 x3 x4 x5 x6:Int):decide (On (x5,x6) (x1,x2) (x3,x4))=((cross (x1,x2) (x3,x4) (x5,x6)==0)&&(decide (btw x1 x3 x5)&&decide (btw x2 x4 x6))):=by
 rw [Bool.eq_iff_iff,qaZ,qaZ,decide_eq_true_iff,decide_eq_true_iff,decide_eq_true_iff,beq_iff_eq]
 rfl
theorem MP {x1 x2 x3 x4 x5 x6:Int} (ha:nr x1 x2) (hb:nr x3 x4) (hc:nr x5 x6):F81 100 x1 x2 x3 x4 x5 x6=some (decide (On (x5,x6) (x1,x2) (x3,x4))):=by
 unfold F81
 rw [m6 ha hb hc,aa,Es,aa,onB]
 cases (cross (x1,x2) (x3,x4) (x5,x6)==0)<;>rfl
theorem Gr {x1 x2 x3 x4 x5 x6:Int} (ha:nr x1 x2) (hb:nr x3 x4) (hc:nr x5 x6):F70 100 x1 x2 x3 x4 x5 x6=some (decide (On (x1,x2) (x3,x4) (x5,x6))):=by
 unfold F70
 rw [rN hb hc ha,aa,onB,<- Kf x3 x5 x1,<- Kf x4 x6 x2]
 cases (cross (x3,x4) (x5,x6) (x1,x2)==0)<;>cases decide ((if x5<x3 then x5 else x3)<=x1)<;>cases decide (x1<=(if x5>x3 then x5 else x3))<;>cases decide ((if x6<x4 then x6 else x4)<=x2)<;>cases decide (x2<=(if x6>x4 then x6 else x4))<;>rfl
theorem Qv {x1 x2 x3 x4 x5 x6:Int} (ha:nr x1 x2) (hb:nr x3 x4) (hc:nr x5 x6):F83 100 x1 x2 x3 x4 x5 x6=some (decide (On (x5,x6) (x1,x2) (x3,x4))):=by
 unfold F83
 rw [A4 ha hb hc,aa,onB,<- Kf x1 x3 x5,<- Kf x2 x4 x6]
 have e:(sgn (cross (x1,x2) (x3,x4) (x5,x6))==0)=(cross (x1,x2) (x3,x4) (x5,x6)==0):=by
  rcases Int.lt_trichotomy (cross (x1,x2) (x3,x4) (x5,x6)) 0 with h | h | h
  ·rw [rB h,Bool.eq_iff_iff,beq_iff_eq,beq_iff_eq];omega
  ·rw [h,Bd]
  ·rw [rA h,Bool.eq_iff_iff,beq_iff_eq,beq_iff_eq];omega
 rw [e]
 cases (cross (x1,x2) (x3,x4) (x5,x6)==0)<;>cases decide ((if x3<x1 then x3 else x1)<=x5)<;>cases decide (x5<=(if x3>x1 then x3 else x1))<;>cases decide ((if x4<x2 then x4 else x2)<=x6)<;>cases decide (x6<=(if x4>x2 then x4 else x2))<;>rfl
theorem Iw (x1 x2 x3 x4 x5 x6 x7 x8:Int):decide (cO (x1,x2) (x3,x4) (x5,x6) (x7,x8)) =
  (decide (On (x5,x6) (x1,x2) (x3,x4))||(decide (On (x7,x8) (x1,x2) (x3,x4))||(decide (On (x1,x2) (x5,x6) (x7,x8))||(decide (On (x3,x4) (x5,x6) (x7,x8)) ||
   (decide (opp (cross (x1,x2) (x3,x4) (x5,x6)) (cross (x1,x2) (x3,x4) (x7,x8)))&&decide (opp (cross (x5,x6) (x7,x8) (x1,x2)) (cross (x5,x6) (x7,x8) (x3,x4)))))))):=by
 rw [Bool.eq_iff_iff]
 simp only [Bool.or_eq_true,qaZ,decide_eq_true_iff]
 rfl
theorem Wl {x1 x2 x3 x4 x5 x6 x7 x8:Int} (ha:nr x1 x2) (hb:nr x3 x4) (hc:nr x5 x6) (hd:nr x7 x8):F80 100 x1 x2 x3 x4 x5 x6 x7 x8=some (decide (cO (x1,x2) (x3,x4) (x5,x6) (x7,x8))):=by
 unfold F80
 rw [MP ha hb hc,MP ha hb hd,MP hc hd ha,MP hc hd hb,m6 ha hb hc,m6 ha hb hd,m6 hc hd ha,m6 hc hd hb]
 simp only [aa,Vf,AP]
 rw [Iw]
 cases decide (On (x5,x6) (x1,x2) (x3,x4))<;>cases decide (On (x7,x8) (x1,x2) (x3,x4))<;>cases decide (On (x1,x2) (x5,x6) (x7,x8))<;>cases decide (On (x3,x4) (x5,x6) (x7,x8)) <;>
  cases decide (opp (cross (x1,x2) (x3,x4) (x5,x6)) (cross (x1,x2) (x3,x4) (x7,x8)))<;>rfl
theorem Wh {x1 x2 x3 x4 x5 x6 x7 x8:Int} (ha:nr x1 x2) (hb:nr x3 x4) (hc:nr x5 x6) (hd:nr x7 x8):F82 100 x1 x2 x3 x4 x5 x6 x7 x8=some (decide (cO (x1,x2) (x3,x4) (x5,x6) (x7,x8))):=by
 unfold F82
 rw [Gr ha hc hd,Gr hb hc hd,Gr hc ha hb,Gr hd ha hb,rN ha hb hc,rN ha hb hd,rN hc hd ha,rN hc hd hb]
 simp only [aa,Ve,AP]
 rw [Iw]
 cases decide (On (x5,x6) (x1,x2) (x3,x4))<;>cases decide (On (x7,x8) (x1,x2) (x3,x4))<;>cases decide (On (x1,x2) (x5,x6) (x7,x8))<;>cases decide (On (x3,x4) (x5,x6) (x7,x8)) <;>
  cases decide (opp (cross (x1,x2) (x3,x4) (x5,x6)) (cross (x1,x2) (x3,x4) (x7,x8)))<;>rfl
theorem Wm {x1 x2 x3 x4 x5 x6 x7 x8:Int} (ha:nr x1 x2) (hb:nr x3 x4) (hc:nr x5 x6) (hd:nr x7 x8):F68 100 x1 x2 x3 x4 x5 x6 x7 x8=some (decide (cO (x1,x2) (x3,x4) (x5,x6) (x7,x8))):=by
 unfold F68
 rw [Qv ha hb hc,Qv ha hb hd,Qv hc hd ha,Qv hc hd hb,A4 ha hb hc,A4 ha hb hd,A4 hc hd ha,A4 hc hd hb]
 simp only [aa,AP]
 rw [Iw]
 cases decide (On (x5,x6) (x1,x2) (x3,x4))<;>cases decide (On (x7,x8) (x1,x2) (x3,x4))<;>cases decide (On (x1,x2) (x5,x6) (x7,x8))<;>cases decide (On (x3,x4) (x5,x6) (x7,x8)) <;>
  cases decide (opp (cross (x1,x2) (x3,x4) (x5,x6)) (cross (x1,x2) (x3,x4) (x7,x8)))<;>rfl
theorem Xp (x:Int):(sgn x==0)=(x==0):=by
 rcases Int.lt_trichotomy x 0 with h | h | h
 ·rw [rB h,Bool.eq_iff_iff,beq_iff_eq,beq_iff_eq];omega
 ·rw [h,Bd]
 ·rw [rA h,Bool.eq_iff_iff,beq_iff_eq,beq_iff_eq];omega
theorem NN {x1 x2 x3 x4 x5 x6 x7 x8:Int} (ha:nr x1 x2) (hb:nr x3 x4) (hc:nr x5 x6) (hd:nr x7 x8):F56 100 x1 x2 x3 x4 x5 x6 x7 x8=some (decide (cO (x1,x2) (x3,x4) (x5,x6) (x7,x8))):=by
 unfold F56
 rw [t8 ha hb hc,t8 ha hb hd,t8 hc hd ha,t8 hc hd hb]
 simp only [aa,Vg,AP,Xp,Kt]
 rw [Iw,onB,onB,onB,onB]
 generalize (cross (x1,x2) (x3,x4) (x5,x6)==0)=z1
 generalize (cross (x1,x2) (x3,x4) (x7,x8)==0)=z2
 generalize (cross (x5,x6) (x7,x8) (x1,x2)==0)=z3
 generalize (cross (x5,x6) (x7,x8) (x3,x4)==0)=z4
 generalize (decide (btw x1 x3 x5)&&decide (btw x2 x4 x6))=o1
 generalize (decide (btw x1 x3 x7)&&decide (btw x2 x4 x8))=o2
 generalize (decide (btw x5 x7 x1)&&decide (btw x6 x8 x2))=o3
 generalize (decide (btw x5 x7 x3)&&decide (btw x6 x8 x4))=o4
 generalize decide (opp (cross (x1,x2) (x3,x4) (x5,x6)) (cross (x1,x2) (x3,x4) (x7,x8)))=p1
 generalize decide (opp (cross (x5,x6) (x7,x8) (x1,x2)) (cross (x5,x6) (x7,x8) (x3,x4)))=p2
 cases p1<;>cases p2<;>cases z1<;>cases o1<;>cases z2<;>cases o2<;>cases z3<;>cases o3<;>cases z4<;>cases o4<;>rfl
theorem Tc (x y:Int):∃ b,F61 100 x y=some b/\(b=false↔nr x y):=by
 unfold F61 nr
 by_cases h1:x < -32768
 ·rw [af (by simpa using h1)]
  exact ⟨true,rfl,by simp;omega⟩
 ·rw [ae (by simpa using h1)]
  by_cases h2:x>32768
  ·rw [af (by simpa using h2)]
   exact ⟨true,rfl,by simp;omega⟩
  ·rw [ae (by simpa using h2)]
   by_cases h3:y < -32768
   ·rw [af (by simpa using h3)]
    exact ⟨true,rfl,by simp;omega⟩
   ·rw [ae (by simpa using h3)]
    exact ⟨_,rfl,by rw [decide_eq_false_iff_not];omega⟩
theorem NF (x y:Int):∃ b,F69 100 x y=some b/\(b=true↔nr x y):=by
 unfold F69 nr
 by_cases h1:x>=-32768
 ·rw [ae (by simpa using h1)]
  by_cases h2:x<=32768
  ·rw [ae (by simpa using h2)]
   by_cases h3:y>=-32768
   ·rw [ae (by simpa using h3)]
    exact ⟨_,rfl,by rw [decide_eq_true_iff];omega⟩
   ·rw [af (by simpa using h3)]
    exact ⟨false,rfl,by simp;omega⟩
  ·rw [af (by simpa using h2)]
   exact ⟨false,rfl,by simp;omega⟩
 ·rw [af (by simpa using h1)]
  exact ⟨false,rfl,by simp;omega⟩
def aZ (n:Nat) (f:Nat->Nat->CV):Prop:=∀ i,i<n->nr ((f i 0).int) ((f i 1).int)
theorem dh (a n:Nat):Int.tmod (Int.ofNat a) (Int.ofNat n)=Int.ofNat (a % n):=rfl
theorem aY {n:Nat} (h:0<n):(Int.ofNat n==0)=false:=by simp;omega
theorem Cv {i:Nat} (h:i<9223372036854775800):w64 (Int.ofNat i+2)=Int.ofNat (i+2):=by
 rw [aA]<;>simp<;>omega
theorem YU (n:Nat) (f:Nat->Nat->CV) (hn:n<=60):∀ (m i:Nat),n<m+i->i<=n ->
  ∃ z,vo 100 n f (Int.ofNat n) m (Int.ofNat i) (fun x=>some x) (some (-1))=some z/\(z<0↔∀ j,i<=j->j<n->nr ((f j 0).int) ((f j 1).int)):=by
 intro m
 induction m with
 | zero=>intro i h1 h2;omega
 | succ m ih =>
  intro i h1 h2
  unfold vo
  rw [aF,ay,ao]
  by_cases h:i<n
  ·obtain ⟨b,hb1,hb2⟩:=Tc ((f i 0).int) ((f i 1).int)
   rw [ae (by simpa using h),ae (by simpa using h),ax (by omega),hb1,aa]
   cases b with
   | true =>
    rw [ae rfl]
    refine ⟨_,rfl,fun hh=>?_,fun hh=>?_⟩
    ·have:=riZ i
     simp at hh;omega
    ·have:=hb2.2 (hh i (rmZ i) h);cases this
   | false =>
    rw [af rfl]
    obtain ⟨z,h3,h4⟩:=ih (i+1) (by omega) (by omega)
    refine ⟨z,h3,h4.trans ⟨fun hh j a b=>?_,fun hh j a b=>hh j (by omega) b⟩⟩
    by_cases e:j=i
    ·rw [e];exact hb2.1 rfl
    ·exact hh j (by omega) b
  ·rw [af (by simpa using h)]
   exact ⟨-1,rfl,fun _ j a b=>by omega,fun _=>by decide⟩
theorem Td (n:Nat) (f:Nat->Nat->CV) (hn:n<=60):∃ b,F50 100 n f=some b/\(b=false↔aZ n f):=by
 unfold F50 F73
 obtain ⟨z,h1,h2⟩:=YU n f hn 100 0 (by omega) (by omega)
 rw [show (0:Int)=Int.ofNat 0 from rfl,h1,aa]
 refine ⟨_,rfl,?_⟩
 rw [decide_eq_false_iff_not]
 have e:(¬ z>=Int.ofNat 0)↔z<0:=by simp
 rw [e,h2]
 exact ⟨fun h i hi=>h i (by omega) hi,fun h i _ hi=>h i hi⟩
theorem JF (n:Nat) (f:Nat->Nat->CV) (hn:n<=60):∀ (m i:Nat),n<m+i->i<=n ->
  ∃ b,vq 100 n f m (Int.ofNat i) (some false) (some true)=some b/\(b=true↔∀ j,i<=j->j<n->nr ((f j 0).int) ((f j 1).int)):=by
 intro m
 induction m with
 | zero=>intro i h1 h2;omega
 | succ m ih =>
  intro i h1 h2
  unfold vq
  rw [aF,ay,ao]
  by_cases h:i<n
  ·obtain ⟨b,hb1,hb2⟩:=NF ((f i 0).int) ((f i 1).int)
   rw [ae (by simpa using h),ae (by simpa using h),ax (by omega),hb1,aa]
   cases b with
   | true =>
    rw [af (show (!true)=false from rfl)]
    obtain ⟨z,h3,h4⟩:=ih (i+1) (by omega) (by omega)
    refine ⟨z,h3,h4.trans ⟨fun hh j a b=>?_,fun hh j a b=>hh j (by omega) b⟩⟩
    by_cases e:j=i
    ·rw [e];exact hb2.1 rfl
    ·exact hh j (by omega) b
   | false =>
    rw [ae (show (!false)=true from rfl)]
    refine ⟨false,rfl,fun hh=>(by cases hh),fun hh=>?_⟩
    have:=hb2.2 (hh i (rmZ i) h);cases this
  ·rw [af (by simpa using h)]
   exact ⟨true,rfl,fun _ j a b=>by omega,fun _=>rfl⟩
theorem Wg (n:Nat) (f:Nat->Nat->CV) (hn:n<=60):∃ b,F66 100 n f=some b/\(b=true↔aZ n f):=by
 unfold F66
 obtain ⟨z,h1,h2⟩:=JF n f hn 100 0 (by omega) (by omega)
 rw [show (0:Int)=Int.ofNat 0 from rfl,h1]
 exact ⟨_,rfl,h2.trans ⟨fun h i hi=>h i (by omega) hi,fun h i _ hi=>h i hi⟩⟩
def tz (n:Nat) (p:Nat->Pt) (i k:Nat):Prop:=∃ k',k<=k'/\k' < n/\nx n k'≠i/\cO (p i) (p (nx n i)) (p k') (p (nx n k'))
theorem tz.step {n:Nat} {p:Nat->Pt} {i k:Nat} (h:¬ (nx n k≠i/\cO (p i) (p (nx n i)) (p k) (p (nx n k)))):tz n p i k↔tz n p i (k+1):=by
 constructor
 ·rintro ⟨k',a,b,c,d⟩
  refine ⟨k',?_,b,c,d⟩
  by_cases e:k' = k
  ·subst e;exact absurd ⟨c,d⟩ h
  ·omega
 ·rintro ⟨k',a,b,c,d⟩
  exact ⟨k',by omega,b,c,d⟩
theorem QB {ρ:Type} (n i:Nat) (f:Nat->Nat->CV) (hn:n<=32) (h0:3<=n) (hi:i<n) (hA:aZ n f) (c1 c2:Int) (k0 k1:Option ρ):∀ (m k:Nat),n+2<m+k->k<=n+1 ->
  (tz n (pt f) i k->mM 100 n f (Int.ofNat n) (Int.ofNat i) ((f i 0).int) ((f i 1).int) ((f (nx n i) 0).int) ((f (nx n i) 1).int) c1 c2 m (Int.ofNat k) k0 k1=k0) /\
  (¬ tz n (pt f) i k->mM 100 n f (Int.ofNat n) (Int.ofNat i) ((f i 0).int) ((f i 1).int) ((f (nx n i) 0).int) ((f (nx n i) 1).int) c1 c2 m (Int.ofNat k) k0 k1=k1):=by
 intro m
 induction m with
 | zero =>
  intro k h1 h2;omega
 | succ m ih =>
  intro k h1 h2
  unfold mM
  rw [aF]
  by_cases h:k<n
  ·have hx:nx n k<n:=cJ h0
   have hm:nr ((f i 0).int) ((f i 1).int):=hA i hi
   rw [ae (by simpa using h),af (aY (by omega)),ax (by omega),dh,ay,ay,ao,ao,af (aY (by omega))]
   have e:(k+1) % n=nx n k:=rfl
   rw [e]
   by_cases hne:nx n k≠i
   ·rw [ae (by simp;omega),ae (by simpa using h),ae (by simpa using hx),Wl hm (hA _ (cJ h0)) (hA k h) (hA _ hx),aa]
    by_cases hM:cO (pt f i) (pt f (nx n i)) (pt f k) (pt f (nx n k))
    ·rw [ae (qcZ hM)]
     exact ⟨fun _=>rfl,fun hh=>absurd ⟨k,rmZ k,h,hne,hM⟩ hh⟩
    ·rw [af (qeZ hM),tz.step (fun hh=>hM hh.2)]
     exact ih (k+1) (by omega) (by omega)
   ·rw [af (by simp;omega),tz.step (fun hh=>hne hh.1)]
    exact ih (k+1) (by omega) (by omega)
  ·rw [af (by simpa using h)]
   exact ⟨fun ⟨k',a,b,_⟩=>by omega,fun _=>rfl⟩
theorem QA {ρ:Type} (n i:Nat) (f:Nat->Nat->CV) (hn:n<=32) (h0:3<=n) (hi:i<n) (hA:aZ n f) (c1 c2:Int) (k0 k1:Option ρ):∀ (m k:Nat),n+2<m+k->k<=n+1 ->
  (tz n (pt f) i k->rm 100 n f (Int.ofNat n) (Int.ofNat i) ((f i 0).int) ((f i 1).int) ((f (nx n i) 0).int) ((f (nx n i) 1).int) c1 c2 m (Int.ofNat k) k0 k1=k0) /\
  (¬ tz n (pt f) i k->rm 100 n f (Int.ofNat n) (Int.ofNat i) ((f i 0).int) ((f i 1).int) ((f (nx n i) 0).int) ((f (nx n i) 1).int) c1 c2 m (Int.ofNat k) k0 k1=k1):=by
 intro m
 induction m with
 | zero =>
  intro k h1 h2;omega
 | succ m ih =>
  intro k h1 h2
  unfold rm
  rw [aF]
  by_cases h:k<n
  ·have hx:nx n k<n:=cJ h0
   have hm:nr ((f i 0).int) ((f i 1).int):=hA i hi
   rw [ae (by simpa using h),af (aY (by omega)),ax (by omega),dh,ay,ay,ao,ao,af (aY (by omega))]
   have e:(k+1) % n=nx n k:=rfl
   rw [e]
   by_cases hne:nx n k≠i
   ·rw [ae (by simp;omega),ae (by simpa using h),ae (by simpa using hx),Wh hm (hA _ (cJ h0)) (hA k h) (hA _ hx),aa]
    by_cases hM:cO (pt f i) (pt f (nx n i)) (pt f k) (pt f (nx n k))
    ·rw [ae (qcZ hM)]
     exact ⟨fun _=>rfl,fun hh=>absurd ⟨k,rmZ k,h,hne,hM⟩ hh⟩
    ·rw [af (qeZ hM),tz.step (fun hh=>hM hh.2)]
     exact ih (k+1) (by omega) (by omega)
   ·rw [af (by simp;omega),tz.step (fun hh=>hne hh.1)]
    exact ih (k+1) (by omega) (by omega)
  ·rw [af (by simpa using h)]
   exact ⟨fun ⟨k',a,b,_⟩=>by omega,fun _=>rfl⟩
theorem nx2 {n i:Nat} (h0:3<=n) (hi:i<n):(i+2) % n=nx n (nx n i):=by
 rcases dt hi with ⟨h1,h2⟩ | ⟨h1,h2⟩
 ·rw [h2];rfl
 ·rw [h2]
  show (i+2) % n=(0+1) % n
  rw [show i+2=1+n from by omega,Nat.add_mod_right]
theorem Et {x1 x2 x3 x4 x5 x6:Int} (ha:nr x1 x2) (hb:nr x3 x4) (hc:nr x5 x6) :
  w64 (w64 (w64 (x1-x3)*w64 (x5-x3))+w64 (w64 (x2-x4)*w64 (x6-x4)))=dot (x1,x2) (x3,x4) (x5,x6):=by
 unfold nr at *
 have h1:=jt (x:=x1-x3) (y:=x5-x3) (A:=65536) (B:=65536) (by omega) (by omega) (by omega) (by omega)
 have h2:=jt (x:=x2-x4) (y:=x6-x4) (A:=65536) (B:=65536) (by omega) (by omega) (by omega) (by omega)
 rw [aA (n:=x1-x3) (by omega) (by omega),aA (n:=x5-x3) (by omega) (by omega),aA (n:=x2-x4) (by omega) (by omega),aA (n:=x6-x4) (by omega) (by omega)]
 rw [aA (n:=(x1-x3)*(x5-x3)) (by omega) (by omega),aA (n:=(x2-x4)*(x6-x4)) (by omega) (by omega),aA (by omega) (by omega)]
 rfl
theorem eqB (a b c d:Int):((a==c)&&((b==d)&&true))=decide (((a,b):Pt)=(c,d)):=by
 rw [Bool.eq_iff_iff,qaZ,Bool.and_true,beq_iff_eq,beq_iff_eq,decide_eq_true_iff,Prod.mk.injEq]
def OkP (n:Nat) (p:Nat->Pt) (i:Nat):Prop:=p i≠p (nx n i)/\¬ (cross (p i) (p (nx n i)) (p (nx n (nx n i)))=0/\0<dot (p i) (p (nx n i)) (p (nx n (nx n i))))/\¬ tz n p i (i+2)
theorem Qw {n:Nat} {p:Nat->Pt}:vj n p↔∀ i,0<=i->i<n->OkP n p i:=by
 constructor
 ·intro h i _ hi
  obtain ⟨h1,h2,h3⟩:=h i hi
  exact ⟨h1,h2,fun ⟨k,a,b,c,d⟩=>h3 k a b c d⟩
 ·intro h i hi
  obtain ⟨h1,h2,h3⟩:=h i (by omega) hi
  exact ⟨h1,h2,fun k a b c d=>h3 ⟨k,a,b,c,d⟩⟩
theorem mL {n i:Nat} {Q:Nat->Prop} (h:Q i):(∀ j,i<=j->j<n->Q j)↔∀ j,i+1<=j->j<n->Q j:=by
 refine ⟨fun hh j a b=>hh j (by omega) b,fun hh j a b=>?_⟩
 by_cases e:j=i
 ·rw [e];exact h
 ·exact hh j (by omega) b
theorem KR (n:Nat) (f:Nat->Nat->CV) (hn:n<=32) (h0:3<=n) (hA:aZ n f):∀ (m i:Nat),n<m+i->i<=n ->
  ∃ r,oz 100 n f (Int.ofNat n) m (Int.ofNat i) (fun _ _ _ _=>some false) (fun _ _ _ _ _ _=>some false) (some true)=some r/\(r=true↔∀ j,i<=j->j<n->OkP n (pt f) j):=by
 intro m
 induction m with
 | zero=>intro i h1 h2;omega
 | succ m ih =>
  intro i h1 h2
  unfold oz
  rw [aF,ay,ao]
  by_cases h:i<n
  ·have hx:nx n i<n:=cJ h0
   have hxx:nx n (nx n i)<n:=cJ h0
   have e1:(i+1) % n=nx n i:=rfl
   have no:¬ OkP n (pt f) i->∃ r:Bool,(some false:Option Bool)=some r/\(r=true↔∀ j,i<=j->j<n->OkP n (pt f) j):=fun hh=>⟨false,rfl,fun h'=>(by cases h'),fun h'=>absurd (h' i (rmZ i) h) hh⟩
   rw [ae (by simpa using h),ae (by simpa using h),af (aY (by omega)),ax (by omega),Cv (by omega),dh,dh,ay,ay,ao,ao,e1,nx2 h0 h,
    ae (by simpa using hx),eqB]
   by_cases heq:pt f i=pt f (nx n i)
   ·rw [ae (qcZ heq)]
    exact no fun hh=>hh.1 heq
   ·rw [af (qeZ heq),af (aY (by omega)),ae (by simpa using hxx),m6 (hA i h) (hA _ hx) (hA _ hxx),aa,Et (hA i h) (hA _ hx) (hA _ hxx)]
    have tail:¬ (cross (pt f i) (pt f (nx n i)) (pt f (nx n (nx n i)))=0/\0<dot (pt f i) (pt f (nx n i)) (pt f (nx n (nx n i)))) ->
      ∃ r,mM 100 n f (Int.ofNat n) (Int.ofNat i) ((f i 0).int) ((f i 1).int) ((f (nx n i) 0).int) ((f (nx n i) 1).int) ((f (nx n (nx n i)) 0).int) ((f (nx n (nx n i)) 1).int) 100 (Int.ofNat (i+2)) (some false)
       (oz 100 n f (Int.ofNat n) m (Int.ofNat (i+1)) (fun _ _ _ _=>some false) (fun _ _ _ _ _ _=>some false) (some true))=some r/\(r=true↔∀ j,i<=j->j<n->OkP n (pt f) j):=by
     intro hc
     obtain ⟨m1,m2⟩:=QB n i f hn h0 h hA ((f (nx n (nx n i)) 0).int) ((f (nx n (nx n i)) 1).int) (some false) (oz 100 n f (Int.ofNat n) m (Int.ofNat (i+1)) (fun _ _ _ _=>some false) (fun _ _ _ _ _ _=>some false) (some true)) 100 (i+2) (by omega) (by omega)
     by_cases hb:tz n (pt f) i (i+2)
     ·rw [m1 hb]
      exact no fun hh=>hh.2.2 hb
     ·rw [m2 hb,mL (Q:=OkP n (pt f)) ⟨heq,hc,hb⟩]
      exact ih (i+1) (by omega) (by omega)
    by_cases hz:cross (pt f i) (pt f (nx n i)) (pt f (nx n (nx n i)))=0
    ·rw [ae (by rw [show cross ((f i 0).int,(f i 1).int) ((f (nx n i) 0).int,(f (nx n i) 1).int) ((f (nx n (nx n i)) 0).int,(f (nx n (nx n i)) 1).int)=0 from hz];rfl)]
     by_cases hd:0<dot (pt f i) (pt f (nx n i)) (pt f (nx n (nx n i)))
     ·rw [ae (qcZ hd)]
      exact no fun hh=>hh.2.1 ⟨hz,hd⟩
     ·rw [af (qeZ hd)]
      exact tail fun hh=>hd hh.2
    ·rw [af (by rw [show (cross ((f i 0).int,(f i 1).int) ((f (nx n i) 0).int,(f (nx n i) 1).int) ((f (nx n (nx n i)) 0).int,(f (nx n (nx n i)) 1).int)==0)=false from by rw [rhZ];exact hz];rfl)]
     exact tail fun hh=>hz hh.1
  ·rw [af (by simpa using h)]
   exact ⟨true,rfl,fun _ j a b=>by omega,fun _=>rfl⟩
theorem tG (n:Nat) (f:Nat->Nat->CV) (hn:n<=32) (h0:3<=n) (hA:aZ n f):∃ r,F62 100 n f=some r/\(r=true↔vj n (pt f)):=by
 unfold F62
 obtain ⟨r,h1,h2⟩:=KR n f hn h0 hA 100 0 (by omega) (by omega)
 exact ⟨r,h1,h2.trans Qw.symm⟩
theorem GN {ρ:Type} (n i:Nat) (f:Nat->Nat->CV) (hn:n<=32) (hi:i<n) (c:Int) (k0 k1:Option ρ):∀ (m k:Nat),i<m+k->k<=i ->
  ((∃ j,k<=j/\j<i/\pt f i=pt f j)->rZ 100 n f c (Int.ofNat i) m (Int.ofNat k) k0 k1=k0)/\(¬ (∃ j,k<=j/\j<i/\pt f i=pt f j)->rZ 100 n f c (Int.ofNat i) m (Int.ofNat k) k0 k1=k1):=by
 intro m
 induction m with
 | zero=>intro k h1 h2;omega
 | succ m ih =>
  intro k h1 h2
  unfold rZ
  rw [aF,ay,ay,ao,ao]
  by_cases h:k<i
  ·have hkn:k<n:=by omega
   rw [ae (by simpa using h),ae (by simpa using hi),ae (by simpa using hkn),ax (by omega),eqB]
   by_cases heq:pt f i=pt f k
   ·rw [ae (qcZ heq)]
    exact ⟨fun _=>rfl,fun hh=>absurd ⟨k,rmZ k,h,heq⟩ hh⟩
   ·rw [af (qeZ heq)]
    have e:(∃ j,k<=j/\j<i/\pt f i=pt f j)↔∃ j,k+1<=j/\j<i/\pt f i=pt f j:=by
     refine ⟨fun ⟨j,a,b,c⟩=>⟨j,?_,b,c⟩,fun ⟨j,a,b,c⟩=>⟨j,by omega,b,c⟩⟩
     by_cases e:j=k
     ·subst e;exact absurd c heq
     ·omega
    rw [e]
    exact ih (k+1) (by omega) (by omega)
  ·rw [af (by simpa using h)]
   exact ⟨fun ⟨j,a,b,_⟩=>by omega,fun _=>rfl⟩
theorem GM {ρ:Type} (n:Nat) (f:Nat->Nat->CV) (hn:n<=32) (k0 k1:Option ρ):∀ (m i:Nat),n<m+i->i<=n ->
  ((∀ j,i<=j->j<n->∀ k,k<j->pt f j≠pt f k)->rn 100 n f (Int.ofNat n) m (Int.ofNat i) k0 k1=k1)/\(¬ (∀ j,i<=j->j<n->∀ k,k<j->pt f j≠pt f k)->rn 100 n f (Int.ofNat n) m (Int.ofNat i) k0 k1=k0):=by
 intro m
 induction m with
 | zero=>intro i h1 h2;omega
 | succ m ih =>
  intro i h1 h2
  unfold rn
  rw [aF]
  by_cases h:i<n
  ·rw [ae (by simpa using h),ax (by omega),show (0:Int)=Int.ofNat 0 from rfl]
   obtain ⟨m1,m2⟩:=GN n i f hn h (Int.ofNat n) k0 (rn 100 n f (Int.ofNat n) m (Int.ofNat (i+1)) k0 k1) 100 0 (by omega) (by omega)
   by_cases hb:∃ j,0<=j/\j<i/\pt f i=pt f j
   ·rw [m1 hb]
    refine ⟨fun hh=>?_,fun _=>rfl⟩
    obtain ⟨j,_,b,c⟩:=hb
    exact absurd c (hh i (rmZ i) h j b)
   ·rw [m2 hb]
    rw [mL (Q:=fun j=>∀ k,k<j->pt f j≠pt f k) (fun k hk hh=>hb ⟨k,by omega,hk,hh⟩)]
    exact ih (i+1) (by omega) (by omega)
  ·rw [af (by simpa using h)]
   exact ⟨fun _=>rfl,fun hh=>absurd (fun j a b=>by omega) hh⟩
def OkR (n:Nat) (p:Nat->Pt) (i:Nat):Prop:=¬ On (p i) (p (nx n i)) (p (nx n (nx n i)))/\¬ On (p (nx n (nx n i))) (p i) (p (nx n i))/\¬ tz n p i (i+2)
theorem KQ (n:Nat) (f:Nat->Nat->CV) (hn:n<=32) (h0:3<=n) (hA:aZ n f):∀ (m i:Nat),n<m+i->i<=n ->
  ∃ r,rj 100 n f (Int.ofNat n) m (Int.ofNat i) (fun _ _ _ _ _ _=>some false) (some true)=some r/\(r=true↔∀ j,i<=j->j<n->OkR n (pt f) j):=by
 intro m
 induction m with
 | zero=>intro i h1 h2;omega
 | succ m ih =>
  intro i h1 h2
  unfold rj
  rw [aF,ay,ao]
  by_cases h:i<n
  ·have hx:nx n i<n:=cJ h0
   have hxx:nx n (nx n i)<n:=cJ h0
   have e1:(i+1) % n=nx n i:=rfl
   have no:¬ OkR n (pt f) i->∃ r:Bool,(some false:Option Bool)=some r/\(r=true↔∀ j,i<=j->j<n->OkR n (pt f) j):=fun hh=>⟨false,rfl,fun h'=>(by cases h'),fun h'=>absurd (h' i (rmZ i) h) hh⟩
   rw [ae (by simpa using h),ae (by simpa using h),af (aY (by omega)),ax (by omega),Cv (by omega),dh,dh,ay,ay,ao,ao,e1,nx2 h0 h,
    ae (by simpa using hx),af (aY (by omega)),ae (by simpa using hxx),Gr (hA i h) (hA _ hx) (hA _ hxx),aa,Gr (hA _ hxx) (hA i h) (hA _ hx),aa]
   by_cases ho1:On (pt f i) (pt f (nx n i)) (pt f (nx n (nx n i)))
   ·rw [af (by rw [qcZ ho1];rfl)]
    exact no fun hh=>hh.1 ho1
   ·rw [ae (by rw [qeZ ho1];rfl)]
    by_cases ho2:On (pt f (nx n (nx n i))) (pt f i) (pt f (nx n i))
    ·rw [ae (qcZ ho2)]
     exact no fun hh=>hh.2.1 ho2
    ·rw [af (qeZ ho2)]
     obtain ⟨m1,m2⟩:=QA n i f hn h0 h hA ((f (nx n (nx n i)) 0).int) ((f (nx n (nx n i)) 1).int) (some false) (rj 100 n f (Int.ofNat n) m (Int.ofNat (i+1)) (fun _ _ _ _ _ _=>some false) (some true)) 100 (i+2) (by omega) (by omega)
     by_cases hb:tz n (pt f) i (i+2)
     ·rw [m1 hb]
      exact no fun hh=>hh.2.2 hb
     ·rw [m2 hb,mL (Q:=OkR n (pt f)) ⟨ho1,ho2,hb⟩]
      exact ih (i+1) (by omega) (by omega)
  ·rw [af (by simpa using h)]
   exact ⟨true,rfl,fun _ j a b=>by omega,fun _=>rfl⟩
theorem DA (n:Nat) (f:Nat->Nat->CV) (hn:n<=32) (h0:3<=n) (hA:aZ n f):∃ r,F67 100 n f=some r/\(r=true↔Ed n (pt f)):=by
 unfold F67
 obtain ⟨m1,m2⟩:=GM n f hn (some false) (rj 100 n f (Int.ofNat n) 100 (Int.ofNat 0) (fun _ _ _ _ _ _=>some false) (some true)) 100 0 (by omega) (by omega)
 obtain ⟨r,h1,h2⟩:=KQ n f hn h0 hA 100 0 (by omega) (by omega)
 rw [show (0:Int)=Int.ofNat 0 from rfl]
 by_cases hd:∀ j,0<=j->j<n->∀ k,k<j->pt f j≠pt f k
 ·rw [m1 hd,h1]
  refine ⟨r,rfl,h2.trans ⟨fun hh=>⟨fun i hi k hk=>hd i (by omega) hi k hk,fun i hi=>?_⟩,fun hh j _ hj=>?_⟩⟩
  ·obtain ⟨a,b,c⟩:=hh i (by omega) hi
   exact ⟨a,b,fun k h1 h2 h3 h4=>c ⟨k,h1,h2,h3,h4⟩⟩
  ·obtain ⟨a,b,c⟩:=hh.2 j hj
   exact ⟨a,b,fun ⟨k,h1,h2,h3,h4⟩=>c k h1 h2 h3 h4⟩
 ·rw [m2 hd]
  exact ⟨false,rfl,fun hh=>(by cases hh),fun hh=>absurd (fun j _ hj k hk=>hh.1 j hj k hk) hd⟩
theorem Dv {a b c d:Int} (h1:nr a b) (h2:nr c d):(-1073741824<=a*d/\a*d<=1073741824)/\(-1073741824<=c*b/\c*b<=1073741824):=by
 unfold nr at *
 have k1:=jt (x:=a) (y:=d) (A:=32768) (B:=32768) (by omega) (by omega) (by omega) (by omega)
 have k2:=jt (x:=c) (y:=b) (A:=32768) (B:=32768) (by omega) (by omega) (by omega) (by omega)
 omega
def j8 (n:Nat) (f:Nat->Nat->CV) (i:Nat):Int:=(pt f i).1*(pt f (nx n i)).2-(pt f (nx n i)).1*(pt f i).2
theorem OJ {n:Nat} {f:Nat->Nat->CV} (h0:3<=n) (hA:aZ n f) {i:Nat} (hi:i<n) : -2147483648<=j8 n f i/\j8 n f i<=2147483648:=by
 have:=Dv (hA i hi) (hA _ (cJ (i:=i) h0))
 unfold j8
 dsimp only
 omega
theorem vf {n:Nat} {f:Nat->Nat->CV} (h0:3<=n) (hA:aZ n f):∀ i,i<=n->-2147483648*(i:Int)<=sm i (j8 n f)/\sm i (j8 n f)<=2147483648*(i:Int)
 | 0,_=>by simp [sm]
 | i+1,h=>by
  have h1:=vf h0 hA i (by omega)
  have h2:=OJ h0 hA (i:=i) (by omega)
  rw [sm]
  omega
theorem WY {ρ:Type} (n:Nat) (f:Nat->Nat->CV) (hn:n<=32) (h0:3<=n) (hA:aZ n f) (k0:Int->Option ρ):∀ (m i:Nat),n<m+i->i<=n ->
  vt 100 n f (Int.ofNat n) m (sm i (j8 n f)) (Int.ofNat i) k0=k0 (sm n (j8 n f)):=by
 intro m
 induction m with
 | zero=>intro i h1 h2;omega
 | succ m ih =>
  intro i h1 h2
  unfold vt
  rw [aF,ay,ao]
  by_cases h:i<n
  ·have hx:nx n i<n:=cJ h0
   have e1:(i+1) % n=nx n i:=rfl
   have b1:=Dv (hA i h) (hA _ hx)
   have b2:=vf h0 hA i h2
   have b3:=vf h0 hA (i+1) (by omega)
   have e2:sm (i+1) (j8 n f)=sm i (j8 n f)+(((f i 0).int)*((f (nx n i) 1).int)-((f (nx n i) 0).int)*((f i 1).int)):=rfl
   rw [ae (by simpa using h),ae (by simpa using h),af (aY (by omega)),ax (by omega),dh,ay,ao,e1,ae (by simpa using hx)]
   rw [aA (n:=(f i 0).int*(f (nx n i) 1).int) (by omega) (by omega),aA (n:=(f (nx n i) 0).int*(f i 1).int) (by omega) (by omega),aA (n:=(f i 0).int*(f (nx n i) 1).int-(f (nx n i) 0).int*(f i 1).int) (by omega) (by omega)]
   rw [aA (by omega) (by omega),<- e2]
   exact ih (i+1) (by omega) (by omega)
  ·rw [af (by simpa using h)]
   have:i=n:=by omega
   rw [this]
theorem lI (n:Nat) (f:Nat->Nat->CV) (hn:n<=32) (h0:3<=n) (hA:aZ n f):F63 100 n f=some (area n (pt f)):=by
 unfold F63
 exact WY n f hn h0 hA some 100 0 (by omega) (by omega)
theorem GV {ρ:Type} (n:Nat) (f:Nat->Nat->CV) (hn:n<=32) (h0:3<=n) (hA:aZ n f) (k0:Int->Option ρ):∀ (m i:Nat),n<m+i->i<=n ->
  vw 100 n f m (sm i (j8 n f)) (Int.ofNat i) k0=k0 (sm n (j8 n f)):=by
 intro m
 induction m with
 | zero=>intro i h1 h2;omega
 | succ m ih =>
  intro i h1 h2
  unfold vw
  rw [aF,ay,ao]
  by_cases h:i<n
  ·have hx:nx n i<n:=cJ h0
   have e1:(i+1) % n=nx n i:=rfl
   have b1:=Dv (hA i h) (hA _ hx)
   have b2:=vf h0 hA i h2
   have b3:=vf h0 hA (i+1) (by omega)
   have e2:sm (i+1) (j8 n f)=sm i (j8 n f)+(((f i 0).int)*((f (nx n i) 1).int)-((f (nx n i) 0).int)*((f i 1).int)):=rfl
   have e3:(f i 1).int*(f (nx n i) 0).int=(f (nx n i) 0).int*(f i 1).int:=Int.mul_comm _ _
   rw [ae (by simpa using h),ae (by simpa using h),af (aY (by omega)),ax (by omega),dh,ay,ao,e1,ae (by simpa using hx),e3]
   rw [aA (n:=(f i 0).int*(f (nx n i) 1).int) (by omega) (by omega),aA (n:=(f (nx n i) 0).int*(f i 1).int) (by omega) (by omega),aA (n:=sm i (j8 n f)+(f i 0).int*(f (nx n i) 1).int) (by omega) (by omega)]
   rw [aA (by omega) (by omega),show sm i (j8 n f)+(f i 0).int*(f (nx n i) 1).int-(f (nx n i) 0).int*(f i 1).int=sm (i+1) (j8 n f) from by rw [e2];omega]
   exact ih (i+1) (by omega) (by omega)
  ·rw [af (by simpa using h)]
   have:i=n:=by omega
   rw [this]
structure aU (n:Nat) (f:Nat->Nat->CV):Prop where
 big:3<=n
 small:n<=32
 near:aZ n f
 simple:ja n (pt f)
 ar:area n (pt f)≠0
theorem lm (n:Nat) (f:Nat->Nat->CV):∃ c d,F33 100 n f=some c/\F37 100 n f=some d/\(c=0↔aU n f)/\(d=c\/(d=0/\c=17/\3<=n/\n<=32/\aZ n f/\area n (pt f)=0)):=by
 unfold F33 F37
 by_cases h1:n<3
 ·have d1:decide (Int.ofNat n<3)=true:=by simp;omega
  rw [ae d1,ae d1]
  exact ⟨3,3,rfl,rfl,⟨fun h=>(by cases h),fun h=>by have:=h.big;omega⟩,.inl rfl⟩
 ·have d1:decide (Int.ofNat n<3)=false:=by simp;omega
  rw [af d1,af d1]
  by_cases h2:n<=32
  ·have d2:decide (Int.ofNat n>32)=false:=by simp;omega
   rw [af d2,af d2]
   obtain ⟨b,hb1,hb2⟩:=Td n f (by omega)
   obtain ⟨d,hd1,hd2⟩:=Wg n f (by omega)
   rw [hb1,hd1,aa,aa]
   by_cases hA:aZ n f
   ·have eb:=hb2.2 hA
    have ed:=hd2.2 hA
    subst eb;subst ed
    obtain ⟨r,hr1,hr2⟩:=tG n f h2 (by omega) hA
    obtain ⟨s,hs1,hs2⟩:=DA n f h2 (by omega) hA
    rw [af rfl,af (show (!true)=false from rfl),hr1,hs1,aa,aa]
    by_cases hS:vj n (pt f)
    ·have er:=hr2.2 hS
     have es:=hs2.2 ((mE (by omega)).1 hS)
     subst er;subst es
     by_cases ha:area n (pt f)=0
     ·rw [ae (by rfl),af (show (!true)=false from rfl),lI n f h2 (by omega) hA,aa,ae (by simpa using ha)]
      exact ⟨17,0,rfl,rfl,⟨fun h=>(by cases h),fun h=>absurd ha h.ar⟩,.inr ⟨rfl,rfl,by omega,h2,hA,ha⟩⟩
     ·rw [ae (by rfl),af (show (!true)=false from rfl),lI n f h2 (by omega) hA,aa,af (by simpa using ha)]
      exact ⟨0,0,rfl,rfl,⟨fun _=>⟨by omega,h2,hA,(oJ (by omega)).1 ((mE (by omega)).1 hS),ha⟩,fun _=>rfl⟩,.inl rfl⟩
    ·have er:r=false:=by
      cases r with
      | false=>rfl
      | true=>exact absurd (hr2.1 rfl) hS
     have es:s=false:=by
      cases s with
      | false=>rfl
      | true=>exact absurd ((mE (by omega)).2 (hs2.1 rfl)) hS
     subst er;subst es
     rw [af (by rfl),ae (show (!false)=true from rfl)]
     exact ⟨17,17,rfl,rfl,⟨fun h=>(by cases h),fun h=>absurd ((mE (by omega)).2 ((oJ (by omega)).2 h.simple)) hS⟩,.inl rfl⟩
   ·have eb:b=true:=by
     cases b with
     | false=>exact absurd (hb2.1 rfl) hA
     | true=>rfl
    have ed:d=false:=by
     cases d with
     | false=>rfl
     | true=>exact absurd (hd2.1 rfl) hA
    subst eb;subst ed
    rw [ae rfl,ae (show (!false)=true from rfl)]
    exact ⟨9,9,rfl,rfl,⟨fun h=>(by cases h),fun h=>absurd h.near hA⟩,.inl rfl⟩
  ·have d2:decide (Int.ofNat n>32)=true:=by simp;omega
   rw [ae d2,ae d2]
   exact ⟨4,4,rfl,rfl,⟨fun h=>(by cases h),fun h=>by have:=h.small;omega⟩,.inl rfl⟩
theorem oZ (n:Nat) (f:Nat->Nat->CV):∃ a,F34 100 n f=some a/\F38 100 n f=some a/\(aU n f->a=area n (pt f)):=by
 obtain ⟨c,d,h1,h2,h3,h4⟩:=lm n f
 unfold F34 F38
 rw [h1,h2,aa,aa]
 by_cases hc:c=0
 ·have hd:d=0:=by omega
  subst hc;subst hd
  have V:=h3.1 rfl
  have hs:=V.small
  rw [af (by rfl),af (by rfl),lI n f V.small V.big V.near,aa]
  exact ⟨_,rfl,GV n f V.small V.big V.near some 100 0 (by omega) (by omega),fun _=>rfl⟩
 ·rw [ae (by simpa using hc)]
  rcases h4 with rfl | ⟨rfl,_,b1,b2,b3,b4⟩
  ·rw [ae (by simpa using hc)]
   exact ⟨0,rfl,rfl,fun V=>absurd (h3.2 V) hc⟩
  ·rw [af (by rfl)]
   exact ⟨0,rfl,(GV n f b2 b1 b3 some 100 0 (by omega) (by omega)).trans (congrArg some b4),fun V=>absurd (h3.2 V) hc⟩
def OnC (n:Nat) (p:Nat->Pt) (q:Pt) (i:Nat):Prop:=∃ j,i<=j/\j<n/\On q (p j) (p (nx n j))
theorem OnC.step {n:Nat} {p:Nat->Pt} {q:Pt} {i:Nat} (h:¬ On q (p i) (p (nx n i))):OnC n p q i↔OnC n p q (i+1):=by
 refine ⟨fun ⟨j,a,b,c⟩=>⟨j,?_,b,c⟩,fun ⟨j,a,b,c⟩=>⟨j,by omega,b,c⟩⟩
 by_cases e:j=i
 ·subst e;exact absurd c h
 ·omega
theorem rcB (q a b:Pt):rc q a b=((decide (a.2>q.2) != decide (b.2>q.2))&&(decide (0<cross a b q)==decide (b.2>a.2))):=rfl
theorem P8 (n:Nat) (f:Nat->Nat->CV) (qx qy:Int) (hn:n<=32) (h0:3<=n) (hA:aZ n f) (hq:nr qx qy):∀ (m i:Nat) (s:Bool),n<m+i->i<=n->s=xs i (fun j=>rc (qx,qy) (pt f j) (pt f (nx n j))) ->
  (OnC n (pt f) (qx,qy) i->oy 100 n f (Int.ofNat n) qx qy m s (Int.ofNat i) (fun _ _ _ _=>some (0:Int)) (fun b=>(bif b then some 1 else some (-1)))=some 0) /\
  (¬ OnC n (pt f) (qx,qy) i->oy 100 n f (Int.ofNat n) qx qy m s (Int.ofNat i) (fun _ _ _ _=>some (0:Int)) (fun b=>(bif b then some 1 else some (-1)))=(bif par n (pt f) (qx,qy) then some 1 else some (-1))):=by
 intro m
 induction m with
 | zero=>intro i s h1 h2;omega
 | succ m ih =>
  intro i s h1 h2 hs
  unfold oy
  rw [aF,ay,ao]
  by_cases h:i<n
  ·have hx:nx n i<n:=cJ h0
   have e1:(i+1) % n=nx n i:=rfl
   rw [ae (by simpa using h),ae (by simpa using h),af (aY (by omega)),ax (by omega),dh,ay,ao,e1,ae (by simpa using hx),MP (hA i h) (hA _ hx) hq,aa]
   by_cases ho:On (qx,qy) (pt f i) (pt f (nx n i))
   ·rw [ae (qcZ ho)]
    exact ⟨fun _=>rfl,fun hh=>absurd ⟨i,rmZ i,h,ho⟩ hh⟩
   ·rw [af (qeZ ho),OnC.step ho,m6 (hA i h) (hA _ hx) hq,aa]
    have hr:=rcB (qx,qy) (pt f i) (pt f (nx n i))
    have hxs:xs (i+1) (fun j=>rc (qx,qy) (pt f j) (pt f (nx n j)))=(s ^^ rc (qx,qy) (pt f i) (pt f (nx n i))):=by rw [xs,hs]
    have hg:∀ x:Int,decide (x>0)=decide (0<x):=fun _=>rfl
    rw [hg]
    cases h3:(decide ((f i 1).int>qy)==decide ((f (nx n i) 1).int>qy)) with
    | true =>
     rw [ae rfl]
     have:rc (qx,qy) (pt f i) (pt f (nx n i))=false:=by
      rw [hr,bne]
      have h3:(decide ((pt f i).2>((qx,qy):Pt).2)==decide ((pt f (nx n i)).2>((qx,qy):Pt).2))=true:=h3
      rw [h3];rfl
     refine ih (i+1) s (by omega) (by omega) ?_
     rw [hxs,this,Bool.xor_false]
    | false =>
     rw [af rfl]
     have h5:rc (qx,qy) (pt f i) (pt f (nx n i))=(decide (0<cross ((f i 0).int,(f i 1).int) ((f (nx n i) 0).int,(f (nx n i) 1).int) (qx,qy))==decide ((f (nx n i) 1).int>(f i 1).int)):=by
      rw [hr,bne]
      have h3:(decide ((pt f i).2>((qx,qy):Pt).2)==decide ((pt f (nx n i)).2>((qx,qy):Pt).2))=false:=h3
      rw [h3];rfl
     rw [<- h5]
     cases h6:rc (qx,qy) (pt f i) (pt f (nx n i)) with
     | true =>
      rw [ae rfl]
      refine ih (i+1) (!s) (by omega) (by omega) ?_
      rw [hxs,h6,Bool.xor_true]
     | false =>
      rw [af rfl]
      refine ih (i+1) s (by omega) (by omega) ?_
      rw [hxs,h6,Bool.xor_false]
  ·rw [af (by simpa using h)]
   have e:i=n:=by omega
   subst e
   refine ⟨fun ⟨j,a,b,_⟩=>by omega,fun _=>?_⟩
   rw [hs];rfl
theorem Qj {q a b:Pt} (h:¬ On q a b) (h1:b.2<=q.2) (h2:q.2<a.2):rc q a b=decide (cross a b q<0):=by
 rw [rF h,rU h1 h2,eo a b q]
 exact decide_eq_decide.2 (by omega)
theorem P9 (n:Nat) (f:Nat->Nat->CV) (qx qy:Int) (hn:n<=32) (h0:3<=n) (hA:aZ n f) (hq:nr qx qy):∀ (m i:Nat) (s:Bool),n<m+i->i<=n->s=xs i (fun j=>rc (qx,qy) (pt f j) (pt f (nx n j))) ->
  (OnC n (pt f) (qx,qy) i->ef 100 n f qx qy m s (Int.ofNat i) (fun _ _ _ _=>some (0:Int)) (fun b=>(bif b then some 1 else some (-1)))=some 0) /\
  (¬ OnC n (pt f) (qx,qy) i->ef 100 n f qx qy m s (Int.ofNat i) (fun _ _ _ _=>some (0:Int)) (fun b=>(bif b then some 1 else some (-1)))=(bif par n (pt f) (qx,qy) then some 1 else some (-1))):=by
 intro m
 induction m with
 | zero=>intro i s h1 h2;omega
 | succ m ih =>
  intro i s h1 h2 hs
  unfold ef
  rw [aF,ay,ao]
  by_cases h:i<n
  ·have hx:nx n i<n:=cJ h0
   have e1:(i+1) % n=nx n i:=rfl
   rw [ae (by simpa using h),ae (by simpa using h),af (aY (by omega)),ax (by omega),dh,ay,ao,e1,ae (by simpa using hx),Gr hq (hA i h) (hA _ hx),aa]
   by_cases ho:On (qx,qy) (pt f i) (pt f (nx n i))
   ·rw [ae (qcZ ho)]
    exact ⟨fun _=>rfl,fun hh=>absurd ⟨i,rmZ i,h,ho⟩ hh⟩
   ·rw [af (qeZ ho),OnC.step ho,rN (hA i h) (hA _ hx) hq]
    simp only [aa]
    have hxs:xs (i+1) (fun j=>rc (qx,qy) (pt f j) (pt f (nx n j)))=(s ^^ rc (qx,qy) (pt f i) (pt f (nx n i))):=by rw [xs,hs]
    have tog:rc (qx,qy) (pt f i) (pt f (nx n i))=true->_:=fun hr=>ih (i+1) (!s) (by omega) (by omega) (by rw [hxs,hr,Bool.xor_true])
    have sam:rc (qx,qy) (pt f i) (pt f (nx n i))=false->_:=fun hr=>ih (i+1) s (by omega) (by omega) (by rw [hxs,hr,Bool.xor_false])
    by_cases a:(f i 1).int<=qy
    ·rw [ae (by simpa using a)]
     by_cases b:qy<(f (nx n i) 1).int
     ·rw [ae (by simpa using b),af (by simp;omega)]
      have hr:=rU (q:=(qx,qy)) (a:=pt f i) (b:=pt f (nx n i)) a b
      by_cases hc:0<cross (pt f i) (pt f (nx n i)) (qx,qy)
      ·rw [af (by rw [show decide (cross ((f i 0).int,(f i 1).int) ((f (nx n i) 0).int,(f (nx n i) 1).int) (qx,qy)>0)=true from qcZ hc];rfl)]
       exact tog (by rw [hr];exact qcZ hc)
      ·rw [ae (by rw [show decide (cross ((f i 0).int,(f i 1).int) ((f (nx n i) 0).int,(f (nx n i) 1).int) (qx,qy)>0)=false from qeZ hc];rfl)]
       exact sam (by rw [hr];exact qeZ hc)
     ·rw [af (by simpa using b),ae (by simp;omega),af (by simpa using a)]
      exact sam (co (.inr ⟨a,by dsimp only;omega⟩))
    ·rw [af (by simpa using a)]
     by_cases b:(f (nx n i) 1).int<=qy
     ·rw [ae (by simpa using b),ae (by simp;omega)]
      have hr:=Qj (q:=(qx,qy)) (a:=pt f i) (b:=pt f (nx n i)) ho b (by dsimp only;omega)
      by_cases hc:cross (pt f i) (pt f (nx n i)) (qx,qy)<0
      ·rw [ae (qcZ hc)]
       exact tog (by rw [hr];exact qcZ hc)
      ·rw [af (qeZ hc)]
       exact sam (by rw [hr];exact qeZ hc)
     ·rw [af (by simpa using b)]
      exact sam (co (.inl ⟨by dsimp only;omega,by dsimp only;omega⟩))
  ·rw [af (by simpa using h)]
   have e:i=n:=by omega
   subst e
   refine ⟨fun ⟨j,a,b,_⟩=>by omega,fun _=>?_⟩
   rw [hs];rfl
def lh (n:Nat) (f:Nat->Nat->CV) (q:Pt) (w:Int):Prop :=
 (aU n f/\nr q.1 q.2->(OnC n (pt f) q 0->w=0)/\(¬ OnC n (pt f) q 0->w=if par n (pt f) q=true then 1 else -1))/\(¬ (aU n f/\nr q.1 q.2)->w = -1)
theorem jA (n:Nat) (f:Nat->Nat->CV) (qx qy:Int):∃ w,F65 100 n f qx qy=some w/\(aU n f->F40 100 n f qx qy=some w)/\lh n f (qx,qy) w:=by
 obtain ⟨c,c',h1,h2,h3,h4⟩:=lm n f
 obtain ⟨b,hb1,hb2⟩:=Tc qx qy
 obtain ⟨d,hd1,hd2⟩:=NF qx qy
 unfold F65 F40
 rw [h1,h2,hb1,hd1,aa,aa,aa,aa]
 have hcc:aU n f->c' = 0:=fun V=>by have:=h3.2 V;omega
 by_cases hq:nr qx qy
 ·have eb:=hb2.2 hq
  have ed:=hd2.2 hq
  subst eb;subst ed
  rw [ae (by rfl)]
  by_cases hc:c=0
  ·have V:=h3.1 hc
   have hc':=hcc V
   subst hc;subst hc'
   have vs:=V.small
   rw [af (by rfl),ae (by rfl),af (show (!true)=false from rfl),show (0:Int)=Int.ofNat 0 from rfl]
   obtain ⟨a1,a2⟩:=P8 n f qx qy V.small V.big V.near hq 100 0 false (by omega) (by omega) rfl
   obtain ⟨b1,b2⟩:=P9 n f qx qy V.small V.big V.near hq 100 0 false (by omega) (by omega) rfl
   by_cases ho:OnC n (pt f) (qx,qy) 0
   ·exact ⟨0,a1 ho,fun _=>b1 ho,fun _=>⟨fun _=>rfl,fun hh=>absurd ho hh⟩,fun hh=>absurd ⟨V,hq⟩ hh⟩
   ·refine ⟨if par n (pt f) (qx,qy)=true then 1 else -1,(a2 ho).trans ?_,fun _=>(b2 ho).trans ?_,fun _=>⟨fun hh=>absurd hh ho,fun _=>rfl⟩,fun hh=>absurd ⟨V,hq⟩ hh⟩
    ·cases par n (pt f) (qx,qy)<;>rfl
    ·cases par n (pt f) (qx,qy)<;>rfl
  ·rw [ae (by simpa using hc)]
   exact ⟨-1,rfl,fun V=>absurd (h3.2 V) hc,fun hh=>absurd (h3.2 hh.1) hc,fun _=>rfl⟩
 ·have eb:b=true:=by
   cases b with
   | false=>exact absurd (hb2.1 rfl) hq
   | true=>rfl
  have ed:d=false:=by
   cases d with
   | false=>rfl
   | true=>exact absurd (hd2.1 rfl) hq
  subst eb;subst ed
  rw [af (by rfl)]
  refine ⟨-1,rfl,fun V=>?_,fun hh=>absurd hh.2 hq,fun _=>rfl⟩
  rw [ae (by simpa using hcc V),ae (show (!false)=true from rfl)]
def InC (n:Nat) (f:Nat->Nat->CV) (q:Pt):Prop:=¬ OnC n (pt f) q 0/\par n (pt f) q=true
def vZ (n:Nat) (f:Nat->Nat->CV) (q:Pt):Prop:=¬ OnC n (pt f) q 0/\par n (pt f) q=false
theorem lh.val {n:Nat} {f:Nat->Nat->CV} {q:Pt} {w:Int} (h:lh n f q w) (V:aU n f) (hq:nr q.1 q.2):(w=1/\InC n f q)\/(w=0/\OnC n (pt f) q 0)\/(w = -1/\vZ n f q):=by
 obtain ⟨h1,h2⟩:=h.1 ⟨V,hq⟩
 by_cases ho:OnC n (pt f) q 0
 ·exact .inr (.inl ⟨h1 ho,ho⟩)
 ·have:=h2 ho
  cases hp:par n (pt f) q with
  | true=>rw [hp,if_pos rfl] at this;exact .inl ⟨this,ho,hp⟩
  | false=>rw [hp,if_neg (by simp)] at this;exact .inr (.inr ⟨this,ho,hp⟩)
theorem lh.one {n:Nat} {f:Nat->Nat->CV} {q:Pt} {w:Int} (h:lh n f q w) (V:aU n f) (hq:nr q.1 q.2):w=1↔InC n f q:=by
 rcases h.val V hq with ⟨a,b⟩ | ⟨a,b⟩ | ⟨a,b⟩
 ·exact ⟨fun _=>b,fun _=>a⟩
 ·exact ⟨fun hh=>by omega,fun hh=>absurd b hh.1⟩
 ·exact ⟨fun hh=>by omega,fun hh=>by have:=hh.2;rw [b.2] at this;cases this⟩
theorem lh.out {n:Nat} {f:Nat->Nat->CV} {q:Pt} {w:Int} (h:lh n f q w) (V:aU n f) (hq:nr q.1 q.2):w<0↔vZ n f q:=by
 rcases h.val V hq with ⟨a,b⟩ | ⟨a,b⟩ | ⟨a,b⟩
 ·exact ⟨fun hh=>by omega,fun hh=>by have:=hh.2;rw [b.2] at this;cases this⟩
 ·exact ⟨fun hh=>by omega,fun hh=>absurd b hh.1⟩
 ·exact ⟨fun _=>b,fun _=>by omega⟩
theorem lh.range {n:Nat} {f:Nat->Nat->CV} {q:Pt} {w:Int} (h:lh n f q w):w=1\/w=0\/w = -1:=by
 by_cases hv:aU n f/\nr q.1 q.2
 ·rcases h.val hv.1 hv.2 with ⟨a,_⟩ | ⟨a,_⟩ | ⟨a,_⟩<;>omega
 ·exact .inr (.inr (h.2 hv))
def lK (n:Nat) (p:Nat->Pt) (n' : Nat) (p' : Nat->Pt) (i k:Nat):Prop:=∃ k',k<=k'/\k' < n'/\cO (p i) (p (nx n i)) (p' k') (p' (nx n' k'))
def s5 (n:Nat) (p:Nat->Pt) (n' : Nat) (p' : Nat->Pt) (i:Nat):Prop:=∃ i',i<=i'/\i' < n/\lK n p n' p' i' 0
def d7 (n:Nat) (p:Nat->Pt) (n' : Nat) (p' : Nat->Pt):Prop:=∃ i k,i<n/\k<n'/\cO (p i) (p (nx n i)) (p' k) (p' (nx n' k))
theorem Hk {n:Nat} {p:Nat->Pt} {n' : Nat} {p' : Nat->Pt}:s5 n p n' p' 0↔d7 n p n' p' :=
 ⟨fun ⟨i,_,hi,k,_,hk,hm⟩=>⟨i,k,hi,hk,hm⟩,fun ⟨i,k,hi,hk,hm⟩=>⟨i,by omega,hi,k,by omega,hk,hm⟩⟩
theorem d7.symm {n:Nat} {p:Nat->Pt} {n' : Nat} {p' : Nat->Pt} (h:d7 n p n' p'):d7 n' p' n p:=by
 obtain ⟨i,k,hi,hk,hm⟩:=h
 exact ⟨k,i,hk,hi,hm.symm⟩
theorem Jg {ρ:Type} (n n' i:Nat) (f g:Nat->Nat->CV) (hn:n<=32) (hn' : n'<=32) (h0:3<=n) (h0' : 3<=n') (hi:i<n) (hA:aZ n f) (hB:aZ n' g) (c:Int) (a:Int->Int->Option ρ) (k0 k1:Option ρ) (ha:∀ x y,a x y=k0):∀ (m k:Nat),n' < m+k->k<=n' ->
  (lK n (pt f) n' (pt g) i k->r8 100 n f n' g (Int.ofNat i) c (Int.ofNat n') ((f i 0).int) ((f i 1).int) m (Int.ofNat k) a k1=k0) /\
  (¬ lK n (pt f) n' (pt g) i k->r8 100 n f n' g (Int.ofNat i) c (Int.ofNat n') ((f i 0).int) ((f i 1).int) m (Int.ofNat k) a k1=k1):=by
 intro m
 induction m with
 | zero=>intro k h1 h2;omega
 | succ m ih =>
  intro k h1 h2
  unfold r8
  rw [aF,ay,ao]
  by_cases h:k<n'
  ·have hx:nx n i<n:=cJ h0
   have hy:nx n' k<n':=cJ h0'
   have e1:(i+1) % n=nx n i:=rfl
   have e2:(k+1) % n' = nx n' k:=rfl
   rw [ae (by simpa using h),ae (by simpa using h),af (aY (by omega)),ax (i:=i) (by omega),ax (i:=k) (by omega),dh,dh,ay,ay,ao,ao,e1,e2,
    ae (by simpa using hx),af (aY (by omega)),ae (by simpa using hy),NN (hA i hi) (hA _ hx) (hB k h) (hB _ hy),aa]
   by_cases hM:cO (pt f i) (pt f (nx n i)) (pt g k) (pt g (nx n' k))
   ·rw [ae (qcZ hM),ha]
    exact ⟨fun _=>rfl,fun hh=>absurd ⟨k,rmZ k,h,hM⟩ hh⟩
   ·rw [af (qeZ hM)]
    have e:lK n (pt f) n' (pt g) i k↔lK n (pt f) n' (pt g) i (k+1):=by
     refine ⟨fun ⟨j,a,b,c⟩=>⟨j,?_,b,c⟩,fun ⟨j,a,b,c⟩=>⟨j,by omega,b,c⟩⟩
     by_cases e:j=k
     ·subst e;exact absurd c hM
     ·omega
    rw [e]
    exact ih (k+1) (by omega) (by omega)
  ·rw [af (by simpa using h)]
   exact ⟨fun ⟨j,a,b,_⟩=>by omega,fun _=>rfl⟩
theorem Jf (n n' : Nat) (f g:Nat->Nat->CV) (hn:n<=32) (hn' : n'<=32) (h0:3<=n) (h0' : 3<=n') (hA:aZ n f) (hB:aZ n' g):∀ (m i:Nat),n<m+i->i<=n ->
  ∃ r,r7 100 n f n' g (Int.ofNat n) m (Int.ofNat i) (fun _ _ _ _=>some true) (some false)=some r/\(r=true↔s5 n (pt f) n' (pt g) i):=by
 intro m
 induction m with
 | zero=>intro i h1 h2;omega
 | succ m ih =>
  intro i h1 h2
  unfold r7
  rw [aF,ay,ao]
  by_cases h:i<n
  ·obtain ⟨m1,m2⟩:=Jg n n' i f g hn hn' h0 h0' h hA hB (Int.ofNat n) (fun _ _=>some true) (some true) (r7 100 n f n' g (Int.ofNat n) m (Int.ofNat (i+1)) (fun _ _ _ _=>some true) (some false)) (fun _ _=>rfl) 100 0 (by omega) (by omega)
   rw [ae (by simpa using h),ae (by simpa using h),ax (by omega),show (0:Int)=Int.ofNat 0 from rfl]
   by_cases hT:lK n (pt f) n' (pt g) i 0
   ·rw [m1 hT]
    exact ⟨true,rfl,fun _=>⟨i,rmZ i,h,hT⟩,fun _=>rfl⟩
   ·rw [m2 hT]
    have e:s5 n (pt f) n' (pt g) i↔s5 n (pt f) n' (pt g) (i+1):=by
     refine ⟨fun ⟨j,a,b,c⟩=>⟨j,?_,b,c⟩,fun ⟨j,a,b,c⟩=>⟨j,by omega,b,c⟩⟩
     by_cases e:j=i
     ·subst e;exact absurd c hT
     ·omega
    rw [e]
    exact ih (i+1) (by omega) (by omega)
  ·rw [af (by simpa using h)]
   exact ⟨false,rfl,fun hh=>(by cases hh),fun ⟨j,a,b,_⟩=>by omega⟩
theorem Hl (n n' : Nat) (f g:Nat->Nat->CV) (V:aU n f) (W:aU n' g):∃ r,F58 100 n f n' g=some r/\(r=true↔d7 n (pt f) n' (pt g)):=by
 have:=V.small
 unfold F58
 obtain ⟨r,h1,h2⟩:=Jf n n' f g V.small W.small V.big W.big V.near W.near 100 0 (by omega) (by omega)
 exact ⟨r,h1,h2.trans Hk⟩
theorem Ji {ρ:Type} (n n' i:Nat) (f g:Nat->Nat->CV) (hn:n<=32) (hn' : n'<=32) (h0:3<=n) (h0' : 3<=n') (hi:i<n) (hA:aZ n f) (hB:aZ n' g) (k0 k1:Option ρ):∀ (m k:Nat),n' < m+k->k<=n' ->
  (lK n (pt f) n' (pt g) i k->sf 100 n f n' g (Int.ofNat i) m (Int.ofNat k) k0 k1=k0) /\
  (¬ lK n (pt f) n' (pt g) i k->sf 100 n f n' g (Int.ofNat i) m (Int.ofNat k) k0 k1=k1):=by
 intro m
 induction m with
 | zero=>intro k h1 h2;omega
 | succ m ih =>
  intro k h1 h2
  unfold sf
  rw [aF,ay,ao,ay,ao]
  by_cases h:k<n'
  ·have hx:nx n i<n:=cJ h0
   have hy:nx n' k<n':=cJ h0'
   have e1:(i+1) % n=nx n i:=rfl
   have e2:(k+1) % n' = nx n' k:=rfl
   rw [ae (by simpa using h),ae (by simpa using hi),af (aY (by omega)),ax (i:=i) (by omega),ax (i:=k) (by omega),dh,dh,ay,ay,ao,ao,e1,e2,
    ae (by simpa using hx),ae (by simpa using h),af (aY (by omega)),ae (by simpa using hy),Wm (hA i hi) (hA _ hx) (hB k h) (hB _ hy),aa]
   by_cases hM:cO (pt f i) (pt f (nx n i)) (pt g k) (pt g (nx n' k))
   ·rw [ae (qcZ hM)]
    exact ⟨fun _=>rfl,fun hh=>absurd ⟨k,rmZ k,h,hM⟩ hh⟩
   ·rw [af (qeZ hM)]
    have e:lK n (pt f) n' (pt g) i k↔lK n (pt f) n' (pt g) i (k+1):=by
     refine ⟨fun ⟨j,a,b,c⟩=>⟨j,?_,b,c⟩,fun ⟨j,a,b,c⟩=>⟨j,by omega,b,c⟩⟩
     by_cases e:j=k
     ·subst e;exact absurd c hM
     ·omega
    rw [e]
    exact ih (k+1) (by omega) (by omega)
  ·rw [af (by simpa using h)]
   exact ⟨fun ⟨j,a,b,_⟩=>by omega,fun _=>rfl⟩
theorem Jh (n n' : Nat) (f g:Nat->Nat->CV) (hn:n<=32) (hn' : n'<=32) (h0:3<=n) (h0' : 3<=n') (hA:aZ n f) (hB:aZ n' g):∀ (m i:Nat),n<m+i->i<=n ->
  ∃ r,se 100 n f n' g m (Int.ofNat i) (some true) (some false)=some r/\(r=true↔s5 n (pt f) n' (pt g) i):=by
 intro m
 induction m with
 | zero=>intro i h1 h2;omega
 | succ m ih =>
  intro i h1 h2
  unfold se
  rw [aF]
  by_cases h:i<n
  ·obtain ⟨m1,m2⟩:=Ji n n' i f g hn hn' h0 h0' h hA hB (some true) (se 100 n f n' g m (Int.ofNat (i+1)) (some true) (some false)) 100 0 (by omega) (by omega)
   rw [ae (by simpa using h),ax (by omega),show (0:Int)=Int.ofNat 0 from rfl]
   by_cases hT:lK n (pt f) n' (pt g) i 0
   ·rw [m1 hT]
    exact ⟨true,rfl,fun _=>⟨i,rmZ i,h,hT⟩,fun _=>rfl⟩
   ·rw [m2 hT]
    have e:s5 n (pt f) n' (pt g) i↔s5 n (pt f) n' (pt g) (i+1):=by
     refine ⟨fun ⟨j,a,b,c⟩=>⟨j,?_,b,c⟩,fun ⟨j,a,b,c⟩=>⟨j,by omega,b,c⟩⟩
     by_cases e:j=i
     ·subst e;exact absurd c hT
     ·omega
    rw [e]
    exact ih (i+1) (by omega) (by omega)
  ·rw [af (by simpa using h)]
   exact ⟨false,rfl,fun hh=>(by cases hh),fun ⟨j,a,b,_⟩=>by omega⟩
theorem Hm (n n' : Nat) (f g:Nat->Nat->CV) (V:aU n f) (W:aU n' g):∃ r,F39 100 n f n' g=some r/\(r=true↔d7 n (pt f) n' (pt g)):=by
 have:=V.small
 unfold F39
 obtain ⟨r,h1,h2⟩:=Jh n n' f g V.small W.small V.big W.big V.near W.near 100 0 (by omega) (by omega)
 exact ⟨r,h1,h2.trans Hk⟩
theorem J1 {n n' : Nat} {p p' : Nat->Pt} (h:¬ d7 n p n' p') {i:Nat} (hi:i<n):Km n' p' (p i) (p (nx n i)):=fun k hk hm=>h ⟨i,k,hi,hk,hm⟩
theorem Ax {n n' : Nat} {f g:Nat->Nat->CV} (h0:3<=n) (h:¬ d7 n (pt f) n' (pt g)):∀ i,i<n->(¬ OnC n' (pt g) (pt f i) 0)/\par n' (pt g) (pt f i)=par n' (pt g) (pt f 0):=by
 intro i
 induction i with
 | zero =>
  intro hi
  refine ⟨?_,rfl⟩
  rintro ⟨k,_,hk,ho⟩
  exact h ⟨0,k,hi,hk,.inr (.inr (.inl ho))⟩
 | succ i ih =>
  intro hi
  refine ⟨?_,?_⟩
  ·rintro ⟨k,_,hk,ho⟩
   exact h ⟨i+1,k,hi,hk,.inr (.inr (.inl ho))⟩
  ·rw [<- (ih (by omega)).2]
   have hf:=J1 h (i:=i) (by omega)
   rw [jq hi] at hf
   exact (EW hf).symm
theorem aaZ (n n' : Nat) (f g:Nat->Nat->CV) (hn:n<=32) (V:aU n f) (W:aU n' g):∀ (m i:Nat),n<m+i->i<=n ->
  ∃ z,oc 100 n f (aw [(.ro false (.pr (.int .i64) (.pr (.int .i64) .nil)) n' g)]) (Int.ofNat n) m (Int.ofNat i) (fun x=>some x) (some (-1))=some z/\(z<0↔∀ j,i<=j->j<n->InC n' g (pt f j)):=by
 intro m
 induction m with
 | zero=>intro i h1 h2;omega
 | succ m ih =>
  intro i h1 h2
  unfold oc
  rw [aF,ay,ao]
  by_cases h:i<n
  ·obtain ⟨w,hw1,_,hw3⟩:=jA n' g ((f i 0).int) ((f i 1).int)
   have e64:F64 100 ((f i 0).int) ((f i 1).int) (aw [(.ro false (.pr (.int .i64) (.pr (.int .i64) .nil)) n' g)])=some (w != 1):=by
    unfold F64
    show ob (F65 100 n' g ((f i 0).int) ((f i 1).int)) _=_
    rw [hw1,aa]
   rw [ae (by simpa using h),ae (by simpa using h),ax (by omega),e64,aa]
   have hin:=hw3.one W (V.near i h)
   by_cases hw:w=1
   ·rw [af (by simpa using hw),mL (Q:=fun j=>InC n' g (pt f j)) (hin.1 hw)]
    exact ih (i+1) (by omega) (by omega)
   ·rw [ae (by simpa using hw)]
    refine ⟨_,rfl,fun hh=>?_,fun hh=>absurd (hin.2 (hh i (rmZ i) h)) hw⟩
    have:=riZ i
    simp at hh;omega
  ·rw [af (by simpa using h)]
   exact ⟨-1,rfl,fun _ j a b=>by omega,fun _=>by decide⟩
theorem A3 (n n' : Nat) (f g:Nat->Nat->CV) (V:aU n f) (W:aU n' g):∃ r,F35 100 n f n' g=some r/\(r=true↔¬ d7 n (pt f) n' (pt g)/\∀ i,i<n->InC n' g (pt f i)):=by
 have vs:=V.small
 unfold F35
 obtain ⟨t,h1,h2⟩:=Hl n n' f g V W
 rw [h1,aa]
 cases t with
 | true =>
  rw [af (by rfl)]
  exact ⟨false,rfl,fun hh=>(by cases hh),fun hh=>absurd (h2.1 rfl) hh.1⟩
 | false =>
  rw [ae (by rfl)]
  obtain ⟨z,h3,h4⟩:=aaZ n n' f g V.small V W 100 0 (by omega) (by omega)
  unfold Pn Pm
  rw [show (0:Int)=Int.ofNat 0 from rfl,h3,aa,aa]
  refine ⟨_,rfl,?_⟩
  have hT:¬ d7 n (pt f) n' (pt g):=fun hh=>by have:=h2.2 hh;cases this
  have e:((!decide (z>=Int.ofNat 0))=true)↔z<0:=by simp
  rw [e,h4]
  exact ⟨fun hh=>⟨hT,fun i hi=>hh i (by omega) hi⟩,fun hh j _ hj=>hh.2 j hj⟩
theorem Eb (n n' : Nat) (f g:Nat->Nat->CV) (V:aU n f) (W:aU n' g):∃ r,F36 100 n f n' g=some r/\(r=true↔¬ d7 n (pt f) n' (pt g)/\vZ n f (pt g 0)/\vZ n' g (pt f 0)):=by
 have vs:=V.big
 have ws:=W.big
 unfold F36
 obtain ⟨t,h1,h2⟩:=Hl n n' f g V W
 rw [h1,aa]
 cases t with
 | true =>
  rw [af (by rfl)]
  exact ⟨false,rfl,fun hh=>(by cases hh),fun hh=>absurd (h2.1 rfl) hh.1⟩
 | false =>
  have hT:¬ d7 n (pt f) n' (pt g):=fun hh=>by have:=h2.2 hh;cases this
  obtain ⟨w,hw1,_,hw3⟩:=jA n f ((g 0 0).int) ((g 0 1).int)
  obtain ⟨u,hu1,_,hu3⟩:=jA n' g ((f 0 0).int) ((f 0 1).int)
  have hw:=hw3.out V (W.near 0 (by omega))
  have hu:=hu3.out W (V.near 0 (by omega))
  rw [ae (by rfl),ae (dk (by omega) (by omega)),hw1,aa]
  by_cases c1:w<0
  ·rw [ae (by simpa using c1),ae (dk (by omega) (by omega)),hu1,aa]
   refine ⟨_,rfl,?_⟩
   rw [decide_eq_true_iff,hu]
   exact ⟨fun hh=>⟨hT,hw.1 c1,hh⟩,fun hh=>hh.2.2⟩
  ·rw [af (by simpa using c1)]
   exact ⟨false,rfl,fun hh=>(by cases hh),fun hh=>absurd (hw.2 hh.2.1) c1⟩
def jO (f2:Nat->Nat->CV) (i j:Nat):Prop :=
 ¬ d7 ((f2 i 0).len) (pt ((f2 i 0).el)) ((f2 j 0).len) (pt ((f2 j 0).el))/\vZ ((f2 i 0).len) ((f2 i 0).el) (pt ((f2 j 0).el) 0)/\vZ ((f2 j 0).len) ((f2 j 0).el) (pt ((f2 i 0).el) 0)
structure tk (n1:Nat) (f1:Nat->Nat->CV) (f2:Nat->Nat->CV) (i:Nat):Prop where
 valid:aU ((f2 i 0).len) ((f2 i 0).el)
 neg:area ((f2 i 0).len) (pt ((f2 i 0).el))<0
 free:¬ d7 ((f2 i 0).len) (pt ((f2 i 0).el)) n1 (pt f1)
 inside:∀ c,c<(f2 i 0).len->InC n1 f1 (pt ((f2 i 0).el) c)
structure ml (n1:Nat) (f1:Nat->Nat->CV) (n2:Nat) (f2:Nat->Nat->CV):Prop where
 few:n2<=8
 outer:aU n1 f1
 pos:0<area n1 (pt f1)
 hole:∀ i,i<n2->tk n1 f1 f2 i
 apart:∀ i,i<n2->∀ j,j<i->jO f2 i j
theorem GZ {ρ:Type} (n1 n2 i:Nat) (f1 f2:Nat->Nat->CV) (hn:n2<=8) (hi:i<n2) (V:aU ((f2 i 0).len) ((f2 i 0).el)) (hV:∀ j,j<i->aU ((f2 j 0).len) ((f2 j 0).el)) (k0 k1:Option ρ):∀ (m j:Nat),i<m+j->j<=i ->
  ((∀ j',j<=j'->j' < i->jO f2 i j')->mN 100 ((f2 i 0).len) ((f2 i 0).el) n2 f2 (Int.ofNat n2) (Int.ofNat i) i (Int.ofNat i) n1 f1 m (Int.ofNat j) k0 k1=k1/\sx 100 (Int.ofNat i) ((f2 i 0).len) ((f2 i 0).el) n1 f1 n2 f2 m (Int.ofNat j) k0 k1=k1) /\
  (¬ (∀ j',j<=j'->j' < i->jO f2 i j')->mN 100 ((f2 i 0).len) ((f2 i 0).el) n2 f2 (Int.ofNat n2) (Int.ofNat i) i (Int.ofNat i) n1 f1 m (Int.ofNat j) k0 k1=k0/\sx 100 (Int.ofNat i) ((f2 i 0).len) ((f2 i 0).el) n1 f1 n2 f2 m (Int.ofNat j) k0 k1=k0):=by
 intro m
 induction m with
 | zero=>intro j h1 h2;omega
 | succ m ih =>
  intro j h1 h2
  unfold mN sx
  rw [aF,ay,ay,ao]
  by_cases h:j<i
  ·have hj:j<n2:=by omega
   have Vj:=hV j h
   have vb:=V.big
   have vjb:=Vj.big
   rw [ae (qcZ h),ae (qcZ h),ae (qcZ h),ae (qcZ hj),ax (by omega)]
   obtain ⟨r,hr1,hr2⟩:=Eb ((f2 i 0).len) ((f2 j 0).len) ((f2 i 0).el) ((f2 j 0).el) V Vj
   obtain ⟨t,ht1,ht2⟩:=Hm ((f2 i 0).len) ((f2 j 0).len) ((f2 i 0).el) ((f2 j 0).el) V Vj
   obtain ⟨w,_,hw2,hw3⟩:=jA ((f2 i 0).len) ((f2 i 0).el) ((((f2 j 0).el) 0 0).int) ((((f2 j 0).el) 0 1).int)
   replace hw2:=hw2 V
   obtain ⟨u,_,hu2,hu3⟩:=jA ((f2 j 0).len) ((f2 j 0).el) ((((f2 i 0).el) 0 0).int) ((((f2 i 0).el) 0 1).int)
   replace hu2:=hu2 Vj
   have hw:=hw3.out V (Vj.near 0 (by omega))
   have hu:=hu3.out Vj (V.near 0 (by omega))
   have rw1:=hw3.range
   have ru1:=hu3.range
   rw [hr1,ht1,aa,aa]
   by_cases hA:jO f2 i j
   ·have er:r=true:=hr2.2 hA
    have et:t=false:=by
     cases t with
     | false=>rfl
     | true=>exact absurd (ht2.1 rfl) hA.1
    have ew:w = -1:=by have:=hw.2 hA.2.1;omega
    have eu:u = -1:=by have:=hu.2 hA.2.2;omega
    subst er;subst et;subst ew;subst eu
    rw [af (show (!true)=false from rfl),ae (show (false==false)=true from rfl),ae (qcZ hj),ae (dk (by omega) (by omega)),hw2,aa,ae (by rfl),ae (qcZ hj),ae (dk (by omega) (by omega)),hu2,aa,af (by rfl)]
    rw [mL (Q:=fun j'=>jO f2 i j') hA]
    exact ih (j+1) (by omega) (by omega)
   ·have er:r=false:=by
     cases r with
     | false=>rfl
     | true=>exact absurd (hr2.1 rfl) hA
    subst er
    rw [ae (show (!false)=true from rfl)]
    refine ⟨fun hh=>absurd (hh j (rmZ j) h) hA,fun _=>⟨rfl,?_⟩⟩
    cases t with
    | true=>rw [af (by rfl)]
    | false =>
     have hT:¬ d7 ((f2 i 0).len) (pt ((f2 i 0).el)) ((f2 j 0).len) (pt ((f2 j 0).el)):=fun hh=>by have:=ht2.2 hh;cases this
     rw [ae (show (false==false)=true from rfl),ae (qcZ hj),ae (dk (by omega) (by omega)),hw2,aa]
     by_cases cw:w = -1
     ·rw [ae (by simpa using cw),ae (qcZ hj),ae (dk (by omega) (by omega)),hu2,aa]
      by_cases cu:u = -1
      ·exact absurd ⟨hT,hw.1 (by omega),hu.1 (by omega)⟩ hA
      ·rw [ae (by simpa using cu)]
     ·rw [af (by simpa using cw)]
  ·rw [af (by simpa using h),af (by simpa using h)]
   exact ⟨fun _=>⟨rfl,rfl⟩,fun hh=>absurd (fun j' a b=>by omega) hh⟩
theorem IW {n:Nat} {f:Nat->Nat->CV} (h2:n<=32) (h1:3<=n) (h3:aZ n f) (h:F37 100 n f=some 0):F38 100 n f=some (area n (pt f)):=by
 unfold F38
 rw [h,aa,af (by rfl)]
 exact GV n f h2 h1 h3 some 100 0 (by omega) (by omega)
theorem GA (n1 n2:Nat) (f1 f2:Nat->Nat->CV) (hn:n2<=8) (V:aU n1 f1):∀ (m i:Nat),n2<m+i->i<=n2->(∀ j,j<i->tk n1 f1 f2 j) ->
  ∃ c,l8 100 n2 f2 (Int.ofNat n2) n1 f1 m (Int.ofNat i) (fun x=>some x) (some 0)=some c/\vB 100 n1 f1 n2 f2 m (Int.ofNat i) (fun x=>some x) (some 0)=some c /\
   (c=0↔∀ j,i<=j->j<n2->tk n1 f1 f2 j/\∀ j',j' < j->jO f2 j j'):=by
 intro m
 induction m with
 | zero=>intro i h1 h2;omega
 | succ m ih =>
  intro i h1 h2 hp
  unfold l8 vB
  rw [aF,ay,ao]
  by_cases h:i<n2
  ·rw [ae (qcZ h),ae (qcZ h),ae (qcZ h),ae (qcZ h),ax (by omega)]
   have no:∀ c:Int,c≠0->¬ (tk n1 f1 f2 i/\∀ j',j' < i->jO f2 i j')->(c=0↔∀ j,i<=j->j<n2->tk n1 f1 f2 j/\∀ j',j' < j->jO f2 j j') :=
    fun c hc hh=>⟨fun h'=>absurd h' hc,fun h'=>absurd (h' i (rmZ i) h) hh⟩
   obtain ⟨c,d,hc1,hc2,hc3,hc4⟩:=lm ((f2 i 0).len) ((f2 i 0).el)
   rw [hc1,hc2,aa,aa]
   by_cases c0:c=0
   ·have d0:d=0:=by omega
    subst c0;subst d0
    have W:=hc3.1 rfl
    obtain ⟨a,ha1,ha2,ha3⟩:=oZ ((f2 i 0).len) ((f2 i 0).el)
    have ea:=ha3 W
    have wb:=W.big
    rw [af (show ((0:Int) != 0)=false from rfl),af (show ((0:Int) != 0)=false from rfl),ha1,ha2,aa,aa]
    by_cases an:a<0
    ·have da:(decide (a>=0)==false)=true:=by simp;omega
     rw [ae da,ae da]
     obtain ⟨r,hr1,hr2⟩:=A3 ((f2 i 0).len) n1 ((f2 i 0).el) f1 W V
     obtain ⟨t,ht1,ht2⟩:=Hm n1 ((f2 i 0).len) f1 ((f2 i 0).el) V W
     obtain ⟨w,_,hw2,hw3⟩:=jA n1 f1 ((((f2 i 0).el) 0 0).int) ((((f2 i 0).el) 0 1).int)
     replace hw2:=hw2 V
     have hw:=hw3.one V (W.near 0 (by omega))
     rw [hr1,ht1,aa,aa]
     have tt:d7 n1 (pt f1) ((f2 i 0).len) (pt ((f2 i 0).el))↔d7 ((f2 i 0).len) (pt ((f2 i 0).el)) n1 (pt f1):=⟨d7.symm,d7.symm⟩
     by_cases hT:d7 ((f2 i 0).len) (pt ((f2 i 0).el)) n1 (pt f1)
     ·have er:r=false:=by
       cases r with
       | false=>rfl
       | true=>exact absurd hT (hr2.1 rfl).1
      have et:t=true:=ht2.2 (tt.2 hT)
      subst er;subst et
      rw [ae (show (!false)=true from rfl),af (show (true==false)=false from rfl)]
      exact ⟨17,rfl,rfl,no 17 (by decide) fun hh=>hh.1.free hT⟩
     ·have et:t=false:=by
       cases t with
       | false=>rfl
       | true=>exact absurd (tt.1 (ht2.1 rfl)) hT
      subst et
      have hall:=Ax W.big hT
      rw [ae (show (false==false)=true from rfl),ae (dk (by omega) (by omega)),hw2,aa]
      by_cases hin:InC n1 f1 (pt ((f2 i 0).el) 0)
      ·have er:r=true:=hr2.2 ⟨hT,fun j hj=>⟨(hall j hj).1,(hall j hj).2.trans hin.2⟩⟩
       have ew:w=1:=hw.2 hin
       subst er;subst ew
       rw [af (show (!true)=false from rfl),af (show ((1:Int) != 1)=false from rfl),ae (CQ (i:=Int.ofNat i) (n:=n2) (by simp) (by simp;omega))]
       have Hi:tk n1 f1 f2 i:=⟨W,by rw [<- ea];exact an,hT,(hr2.1 rfl).2⟩
       obtain ⟨cc,e1,e2,e3⟩:=ih (i+1) (by omega) (by omega) (fun j hj=>by
        by_cases e:j=i
        ·rw [e];exact Hi
        ·exact hp j (by omega))
       have ap:=fun (k0 k1:Option Int)=>GZ n1 n2 i f1 f2 hn h W (fun j hj=>(hp j hj).valid) k0 k1 100 0 (by omega) (by omega)
       have es:i-0=i:=rfl
       rw [es,show (0:Int)=Int.ofNat 0 from rfl]
       by_cases hap:∀ j',0<=j'->j' < i->jO f2 i j'
       ·rw [((ap _ _).1 hap).1,((ap _ _).1 hap).2]
        refine ⟨cc,e1,e2,e3.trans ?_⟩
        rw [mL (Q:=fun j=>tk n1 f1 f2 j/\∀ j',j' < j->jO f2 j j') ⟨Hi,fun j' hj'=>hap j' (by omega) hj'⟩]
       ·rw [((ap _ _).2 hap).1,((ap _ _).2 hap).2]
        exact ⟨17,rfl,rfl,no 17 (by decide) fun hh=>hap fun j' _ hj'=>hh.2 j' hj'⟩
      ·have er:r=false:=by
        cases r with
        | false=>rfl
        | true=>exact absurd ((hr2.1 rfl).2 0 (by omega)) hin
       have ew:w≠1:=fun hh=>hin (hw.1 hh)
       subst er
       rw [ae (show (!false)=true from rfl),ae (by simpa using ew)]
       exact ⟨17,rfl,rfl,no 17 (by decide) fun hh=>hin (hh.1.inside 0 (by omega))⟩
    ·have da:(decide (a>=0)==false)=false:=by simp;omega
     rw [af da,af da]
     exact ⟨17,rfl,rfl,no 17 (by decide) fun hh=>by have:=hh.1.neg;omega⟩
   ·have dc:(c != 0)=true:=by simpa using c0
    rw [ae dc]
    rcases hc4 with rfl | ⟨rfl,rfl,b1,b2,b3,b4⟩
    ·rw [ae dc]
     exact ⟨d,rfl,rfl,no d c0 fun hh=>c0 (hc3.2 hh.1.valid)⟩
    ·rw [af (show ((0:Int) != 0)=false from rfl),IW b2 b1 b3 hc2,b4,aa,af (by decide)]
     exact ⟨17,rfl,rfl,no 17 (by decide) fun hh=>c0 (hc3.2 hh.1.valid)⟩
  ·rw [af (by simpa using h),af (by simpa using h)]
   exact ⟨0,rfl,rfl,fun _ j a b=>by omega,fun _=>rfl⟩
theorem li (n1 n2:Nat) (f1 f2:Nat->Nat->CV):∃ c,F13 100 n1 f1 n2 f2=some c/\F14 100 n1 f1 n2 f2=some c/\(c=0↔ml n1 f1 n2 f2):=by
 unfold F13 F14
 by_cases h1:n2<=8
 ·have d1:decide (Int.ofNat n2>8)=false:=by simp;omega
  rw [af d1,af d1]
  obtain ⟨c,d,hc1,hc2,hc3,hc4⟩:=lm n1 f1
  rw [hc1,hc2,aa,aa]
  by_cases c0:c=0
  ·have d0:d=0:=by omega
   subst c0;subst d0
   have V:=hc3.1 rfl
   obtain ⟨a,ha1,ha2,ha3⟩:=oZ n1 f1
   have ea:=ha3 V
   rw [af (by rfl),af (by rfl),ha1,ha2,aa,aa]
   by_cases ap:a<=0
   ·rw [ae (by simpa using ap),ae (by simpa using ap)]
    exact ⟨17,rfl,rfl,fun hh=>(by cases hh),fun hh=>by have:=hh.pos;omega⟩
   ·rw [af (by simpa using ap),af (by simpa using ap)]
    obtain ⟨cc,e1,e2,e3⟩:=GA n1 n2 f1 f2 h1 V 100 0 (by omega) (by omega) (fun j hj=>by omega)
    refine ⟨cc,e1,e2,e3.trans ⟨fun hh=>⟨h1,V,by omega,fun i hi=>(hh i (by omega) hi).1,fun i hi=>(hh i (by omega) hi).2⟩,fun hh j _ hj=>⟨hh.hole j hj,hh.apart j hj⟩⟩⟩
  ·rw [ae (by simpa using c0)]
   rcases hc4 with rfl | ⟨rfl,rfl,b1,b2,b3,b4⟩
   ·rw [ae (by simpa using c0)]
    exact ⟨d,rfl,rfl,fun hh=>absurd hh c0,fun hh=>absurd (hc3.2 hh.outer) c0⟩
   ·rw [af (by rfl),IW b2 b1 b3 hc2,b4,aa,ae (by decide)]
    exact ⟨17,rfl,rfl,fun hh=>absurd hh c0,fun hh=>absurd (hc3.2 hh.outer) c0⟩
 ·have d1:decide (Int.ofNat n2>8)=true:=by simp;omega
  rw [ae d1,ae d1]
  exact ⟨12,rfl,rfl,fun hh=>(by cases hh),fun hh=>absurd hh.few h1⟩
theorem aU.ne {n:Nat} {f:Nat->Nat->CV} (V:aU n f):∀ i,i<n->pt f i≠pt f (nx n i) :=
 fun i hi=>V.simple.dist i (nx n i) hi (cJ V.big) (fun h=>Aj V.big hi h.symm)
theorem jn (n:Nat) (f g:Nat->Nat->CV) (j c:Nat) (h:n<=j):aC n f g j c=g (j-n) c:=by
 unfold aC
 rw [af]
 cases hq:Nat.blt j n with
 | false=>rfl
 | true=>simp [Nat.blt_eq] at hq;omega
theorem HR {n:Nat} {p:Nat->Pt} {q:Pt}:OnC n p q 0↔OnK n p q:=⟨fun ⟨j,_,a,b⟩=>⟨j,a,b⟩,fun ⟨j,a,b⟩=>⟨j,Nat.zero_le j,a,b⟩⟩
def cfh (n1:Nat) (f1 f2:Nat->Nat->CV):Nat->Nat->CV:=aC 1 (aL 1 [(.ro false (.pr (.int .i64) (.pr (.int .i64) .nil)) n1 f1)]) f2
theorem OG (n1:Nat) (f1 f2:Nat->Nat->CV) (j:Nat):cfh n1 f1 f2 (j+1) 0=f2 j 0:=by
 unfold cfh
 rw [jn _ _ _ _ _ (by omega)]
 rfl
theorem Ds {n:Nat} (h:n<9223372036854775807):w64 (Int.ofNat n)=Int.ofNat n:=aA (by simp<;>omega) (by simp<;>omega)
theorem QI (a b:Nat):decide (Int.ofNat a<=Int.ofNat b)=decide (a<=b):=decide_eq_decide.2 Int.ofNat_le
theorem V5 (q k:Nat) (hk:k<32) (h:2 ^ (k+1)*q<4294967296):bits .or .i64 (Int.ofNat (2 ^ (k+1)*q)) (Int.ofNat (2 ^ k))=Int.ofNat (2 ^ (k+1)*q+2 ^ k):=by
 have hp:2 ^ k<4294967296:=Nat.pow_lt_pow_right (by omega) hk
 have ho:=Nat.two_pow_add_eq_or_of_lt (i:=k+1) (b:=2 ^ k) (Nat.pow_lt_pow_right (by omega) (by omega)) q
 have hb:2 ^ (k+1)*q+2 ^ k<9223372036854775807:=by omega
 show w64 (Int.ofNat ((BitVec.ofInt 64 (Int.ofNat (2 ^ (k+1)*q)) ||| BitVec.ofInt 64 (Int.ofNat (2 ^ k))).toNat))=_
 rw [BitVec.toNat_or,show ∀ n:Nat,BitVec.ofInt 64 (Int.ofNat n)=BitVec.ofNat 64 n from fun n=>BitVec.ofInt_natCast 64 n,show ∀ n:Nat,BitVec.ofInt 64 (Int.ofNat n)=BitVec.ofNat 64 n from fun n=>BitVec.ofInt_natCast 64 n,BitVec.toNat_ofNat,BitVec.toNat_ofNat,
  Nat.mod_eq_of_lt (by omega),Nat.mod_eq_of_lt (by omega),<- ho]
 generalize 2 ^ (k+1)*q+2 ^ k=N at *
 exact Ds hb
theorem NY {t X:Nat} (ht:0<t):t<=X / t↔t*t<=X:=Nat.le_div_iff_mul_le ht
theorem Jp {ρ:Type} (X:Nat) (hX:X<4611686018427387904) (k0:Int->Option ρ):∀ (m i q:Nat),32<m+i->i<=32->2 ^ (32-i)*q+2 ^ (32-i)<=4294967296->(2 ^ (32-i)*q)*(2 ^ (32-i)*q)<=X->X<(2 ^ (32-i)*q+2 ^ (32-i))*(2 ^ (32-i)*q+2 ^ (32-i)) ->
  ∃ r:Nat,ri 100 (Int.ofNat X) m (Int.ofNat (2 ^ (32-i)*q)) (Int.ofNat i) k0=k0 (Int.ofNat r)/\r*r<=X/\X<(r+1)*(r+1)/\r<4294967296:=by
 intro m
 induction m with
 | zero=>intro i q h1 h2;omega
 | succ m ih =>
  intro i q h1 h2 hq hl hu
  unfold ri
  rw [show (32:Int)=Int.ofNat 32 from rfl,aF]
  by_cases h:i<32
  ·have hs:w64 (31-Int.ofNat i)=Int.ofNat (31-i):=by
    rw [aA]<;>simp<;>omega
   obtain ⟨e,he⟩:∃ e,e=31-i:=⟨_,rfl⟩
   have e1:32-i=e+1:=by omega
   have e2:32-(i+1)=e:=by omega
   have hp:0<2 ^ e:=Nat.pow_pos (by omega)
   have hp1:2 ^ (e+1)=2*2 ^ e:=by rw [Nat.pow_succ];omega
   have hlt:2 ^ e<4294967296:=Nat.pow_lt_pow_right (by omega) (show e<32 by omega)
   have hsh:w64 (1*2 ^ (Int.toNat (Int.ofNat e)))=Int.ofNat (2 ^ e):=by
    rw [ao,Int.one_mul,show (2:Int) ^ e=Int.ofNat (2 ^ e) from (Int.natCast_pow 2 e).symm]
    exact Ds (by omega)
   rw [e1] at hq hl hu ⊢
   rw [ae (qcZ h),hs,<- he,hsh,V5 q e (by omega) (by omega),ax (by omega)]
   rw [ae (by simp;omega),af (aY (by omega)),show ∀ a b:Nat,Int.tdiv (Int.ofNat a) (Int.ofNat b)=Int.ofNat (a / b) from fun _ _=>rfl,
    Ds (n:=X / _) (by have:=Nat.div_le_self X (2 ^ (e+1)*q+2 ^ e);omega),QI]
   by_cases hT:(2 ^ (e+1)*q+2 ^ e)*(2 ^ (e+1)*q+2 ^ e)<=X
   ·rw [ae (qcZ ((NY (by omega)).2 hT))]
    have ea:2 ^ (e+1)*q+2 ^ e=2 ^ e*(2*q+1):=by rw [hp1];grind
    have eb:2 ^ e*(2*q+1)+2 ^ e=2 ^ (e+1)*q+2 ^ (e+1):=by rw [hp1];grind
    have:=ih (i+1) (2*q+1) (by omega) (by omega)
    rw [e2] at this
    rw [ea] at hT ⊢
    exact this (by omega) hT (by rw [eb];exact hu)
   ·rw [af (qeZ (fun hh=>hT ((NY (by omega)).1 hh)))]
    have ea:2 ^ (e+1)*q=2 ^ e*(2*q):=by rw [hp1];grind
    have:=ih (i+1) (2*q) (by omega) (by omega)
    rw [e2] at this
    rw [ea] at hT hl hq ⊢
    exact this (by omega) hl (by omega)
  ·rw [af (qeZ h)]
   have:i=32:=by omega
   subst this
   simp only [Nat.sub_self,Nat.pow_zero,Nat.one_mul] at *
   exact ⟨q,rfl,hl,hu,by omega⟩
theorem VO (X:Nat) (hX:X<4611686018427387904):∃ s:Int,F77 100 (Int.ofNat X)=some s/\∀ c:Int,0<=c->(c<s↔c*c<Int.ofNat X):=by
 unfold F77 F85
 obtain ⟨r,h1,h2,h3,h4⟩:=Jp X hX (fun x7=>some x7) 100 0 0 (by omega) (by omega) (by decide) (by simp) (by simp;omega)
 rw [af (by simp),show (0:Int)=Int.ofNat (2 ^ (32-0)*0) from rfl]
 rw [show ri 100 (Int.ofNat X) 100 (Int.ofNat (2 ^ (32-0)*0)) (Int.ofNat (2 ^ (32-0)*0)) (fun x7=>some x7)=some (Int.ofNat r) from h1,aa]
 have hb:r*r<4611686018427387904:=by omega
 have ec:Int.ofNat r*Int.ofNat r=Int.ofNat (r*r):=rfl
 rw [ec,aA (n:=Int.ofNat (r*r)) (by simp;omega) (by simp;omega),aF,ax (by omega)]
 by_cases hlt:r*r<X
 ·rw [ae (qcZ hlt)]
  refine ⟨_,rfl,fun c hc=>?_⟩
  obtain ⟨d,rfl⟩:=Int.eq_ofNat_of_zero_le hc
  have key:d<r+1↔d*d<X:=by
   constructor
   ·intro h
    have:d*d<=r*r:=Nat.mul_le_mul (by omega) (by omega)
    omega
   ·intro h
    by_cases hh:d<r+1
    ·exact hh
    ·have:(r+1)*(r+1)<=d*d:=Nat.mul_le_mul (by omega) (by omega)
     omega
  have e2:(d:Int)*(d:Int)=((d*d:Nat):Int):=rfl
  rw [e2]
  show ((d:Int)<((r+1:Nat):Int))↔((d*d:Nat):Int)<((X:Nat):Int)
  rw [Int.ofNat_lt,Int.ofNat_lt];exact key
 ·rw [af (qeZ hlt)]
  refine ⟨_,rfl,fun c hc=>?_⟩
  obtain ⟨d,rfl⟩:=Int.eq_ofNat_of_zero_le hc
  have key:d<r↔d*d<X:=by
   constructor
   ·intro h
    have:d*d<r*r:=Nat.mul_self_lt_mul_self h
    omega
   ·intro h
    by_cases hh:d<r
    ·exact hh
    ·have:r*r<=d*d:=Nat.mul_le_mul (by omega) (by omega)
     omega
  have e2:(d:Int)*(d:Int)=((d*d:Nat):Int):=rfl
  rw [e2]
  show ((d:Int)<(r:Int))↔((d*d:Nat):Int)<((X:Nat):Int)
  rw [Int.ofNat_lt,Int.ofNat_lt];exact key
theorem Ox {a b c:Pt} (ha:nr a.1 a.2) (hb:nr b.1 b.2) (hc:nr c.1 c.2) : -8589934592<=dot a b c/\dot a b c<=8589934592:=by
 unfold nr at *
 have h1:=jt (x:=a.1-b.1) (y:=c.1-b.1) (A:=65536) (B:=65536) (by omega) (by omega) (by omega) (by omega)
 have h2:=jt (x:=a.2-b.2) (y:=c.2-b.2) (A:=65536) (B:=65536) (by omega) (by omega) (by omega) (by omega)
 unfold dot
 omega
theorem oG (x:Int):0<=x*x:=by
 by_cases h:0<=x
 ·exact raZ h h
 ·have:=raZ (a:=-x) (b:=-x) (by omega) (by omega)
  grind
theorem Ow {a b:Pt}:0<=dot a b a:=by
 unfold dot
 have h1:=oG (a.1-b.1)
 have h2:=oG (a.2-b.2)
 omega
def lT (x p q:Pt) (g:Int):Prop:=if dot x p q<=0 then dot x p x<g*g else if dot q p q<=dot x p q then dot x q x<g*g else cross p q x*cross p q x<g*g*dot q p q
theorem ND {x p q:Pt} {g:Int} (h:dot x p q<=0):lT x p q g↔dot x p x<g*g:=by unfold lT;rw [if_pos h]
theorem NC {x p q:Pt} {g:Int} (h:¬ dot x p q<=0) (h2:dot q p q<=dot x p q):lT x p q g↔dot x q x<g*g:=by unfold lT;rw [if_neg h,if_pos h2]
theorem NE {x p q:Pt} {g:Int} (h:¬ dot x p q<=0) (h2:¬ dot q p q<=dot x p q):lT x p q g↔cross p q x*cross p q x<g*g*dot q p q:=by unfold lT;rw [if_neg h,if_neg h2]
instance (x p q:Pt) (g:Int):Decidable (lT x p q g):=by unfold lT;infer_instance
theorem FA {a b c:Pt} (ha:nr a.1 a.2) (hb:nr b.1 b.2) (hc:nr c.1 c.2) : -8589934592<=cross a b c/\cross a b c<=8589934592:=by
 unfold nr at *
 have h1:=jt (x:=b.1-a.1) (y:=c.2-a.2) (A:=65536) (B:=65536) (by omega) (by omega) (by omega) (by omega)
 have h2:=jt (x:=b.2-a.2) (y:=c.1-a.1) (A:=65536) (B:=65536) (by omega) (by omega) (by omega) (by omega)
 unfold cross
 omega
theorem DW {x1 x2 x3 x4 x5 x6 g:Int} (ha:nr x1 x2) (hb:nr x3 x4) (hc:nr x5 x6) (hg:0<=g) (hg' : g<=1000):F57 100 x1 x2 x3 x4 x5 x6 g=some (decide (lT (x1,x2) (x3,x4) (x5,x6) g)):=by
 have b1:=Ox (a:=(x1,x2)) (b:=(x3,x4)) (c:=(x5,x6)) ha hb hc
 have b2:=Ox (a:=(x5,x6)) (b:=(x3,x4)) (c:=(x5,x6)) hc hb hc
 have b3:=FA (a:=(x3,x4)) (b:=(x5,x6)) (c:=(x1,x2)) hb hc ha
 have p2:=Ow (a:=(x5,x6)) (b:=(x3,x4))
 have g1:=jt (x:=g) (y:=g) (A:=1000) (B:=1000) (by omega) (by omega) (by omega) (by omega)
 have g0:0<=g*g:=raZ hg hg
 have g2:=jt (x:=g*g) (y:=dot (x5,x6) (x3,x4) (x5,x6)) (A:=1000000) (B:=8589934592) (by omega) (by omega) (by omega) (by omega)
 have g3:0<=g*g*dot (x5,x6) (x3,x4) (x5,x6):=raZ g0 p2
 unfold F57
 rw [Et ha hb hc,Et hc hb hc,Et ha hb ha,Et ha hc ha,aA (n:=g*g) (by omega) (by omega),aA (n:=g*g*_) (by omega) (by omega),t8 hb hc ha,aa]
 obtain ⟨X,hX⟩:=Int.eq_ofNat_of_zero_le g3
 obtain ⟨s,hs,hc⟩:=VO X (by omega)
 rw [hX,show ((X:Nat):Int)=Int.ofNat X from rfl,hs,aa]
 by_cases h1:dot (x1,x2) (x3,x4) (x5,x6)<=0
 ·rw [af (by rw [qeZ (by omega)];rfl),af (qeZ (by omega))]
  congr 1
  exact decide_eq_decide.2 (ND h1).symm
 ·rw [ae (by rw [qcZ (by omega)];rfl)]
  by_cases h2:dot (x5,x6) (x3,x4) (x5,x6)<=dot (x1,x2) (x3,x4) (x5,x6)
  ·rw [af (qeZ (by omega)),ae (qcZ (by omega))]
   congr 1
   exact decide_eq_decide.2 (NC h1 h2).symm
  ·rw [ae (qcZ (by omega))]
   congr 1
   refine decide_eq_decide.2 (Iff.trans ?_ (NE h1 h2).symm)
   rw [hX,aA (n:=0-cross (x3,x4) (x5,x6) (x1,x2)) (by omega) (by omega)]
   split
   ·rw [hc _ (by omega)]
    rw [show (0-cross (x3,x4) (x5,x6) (x1,x2))*(0-cross (x3,x4) (x5,x6) (x1,x2))=cross (x3,x4) (x5,x6) (x1,x2)*cross (x3,x4) (x5,x6) (x1,x2) from by grind]
    exact Iff.rfl
   ·rw [hc _ (by omega)]
    exact Iff.rfl
def sB (g:Int) (a b c d:Pt):Prop:=cO a b c d\/lT a c d g\/lT b c d g\/lT c a b g\/lT d a b g
instance (g:Int) (a b c d:Pt):Decidable (sB g a b c d):=by unfold sB;infer_instance
theorem QV {x1 x2 x3 x4 x5 x6 x7 x8 g:Int} (ha:nr x1 x2) (hb:nr x3 x4) (hc:nr x5 x6) (hd:nr x7 x8) (hg:0<=g) (hg' : g<=1000):F55 100 x1 x2 x3 x4 x5 x6 x7 x8 (aw [(.i .i64 g)])=some (decide (sB g (x1,x2) (x3,x4) (x5,x6) (x7,x8))):=by
 unfold F55
 rw [show (aw [(.i .i64 g)] 0).int=g from rfl,NN ha hb hc hd,DW ha hc hd hg hg',DW hb hc hd hg hg',DW hc ha hb hg hg',DW hd ha hb hg hg']
 simp only [aa]
 have e:decide (sB g (x1,x2) (x3,x4) (x5,x6) (x7,x8))=(decide (cO (x1,x2) (x3,x4) (x5,x6) (x7,x8))||(decide (lT (x1,x2) (x5,x6) (x7,x8) g)||(decide (lT (x3,x4) (x5,x6) (x7,x8) g)||(decide (lT (x5,x6) (x1,x2) (x3,x4) g)||decide (lT (x7,x8) (x1,x2) (x3,x4) g))))):=by
  rw [Bool.eq_iff_iff]
  simp only [Bool.or_eq_true,decide_eq_true_iff]
  exact Iff.rfl
 rw [e]
 generalize decide (cO (x1,x2) (x3,x4) (x5,x6) (x7,x8))=b1
 generalize decide (lT (x1,x2) (x5,x6) (x7,x8) g)=b2
 generalize decide (lT (x3,x4) (x5,x6) (x7,x8) g)=b3
 generalize decide (lT (x5,x6) (x1,x2) (x3,x4) g)=b4
 generalize decide (lT (x7,x8) (x1,x2) (x3,x4) g)=b5
 cases b1<;>cases b2<;>cases b3<;>cases b4<;>cases b5<;>rfl
def Ex (n:Nat) (P:Nat->Prop) (i:Nat):Prop:=∃ k,i<=k/\k<n/\P k
theorem Ex.here {n:Nat} {P:Nat->Prop} {i:Nat} (h:i<n) (hp:P i):Ex n P i:=⟨i,rmZ i,h,hp⟩
theorem Ex.step {n:Nat} {P:Nat->Prop} {i:Nat} (h:¬ P i):Ex n P i↔Ex n P (i+1):=by
 refine ⟨fun ⟨j,a,b,c⟩=>⟨j,?_,b,c⟩,fun ⟨j,a,b,c⟩=>⟨j,by omega,b,c⟩⟩
 by_cases e:j=i
 ·subst e;exact absurd c h
 ·omega
theorem Ex.none {n:Nat} {P:Nat->Prop} {i:Nat} (h:¬ i<n):¬ Ex n P i:=fun ⟨j,a,b,_⟩=>by omega
theorem Ex.zero {n:Nat} {P:Nat->Prop}:Ex n P 0↔∃ k,k<n/\P k:=⟨fun ⟨k,_,a,b⟩=>⟨k,a,b⟩,fun ⟨k,a,b⟩=>⟨k,Nat.zero_le k,a,b⟩⟩
theorem Ka {ρ:Type} (n n' i:Nat) (f g:Nat->Nat->CV) (gap:Int) (hg:0<=gap) (hg' : gap<=1000) (hn:n<=32) (hn' : n'<=32) (h0:3<=n) (h0' : 3<=n') (hi:i<n) (hA:aZ n f) (hB:aZ n' g) (c:Int) (a:Int->Int->Option ρ) (k0 k1:Option ρ) (ha:∀ x y,a x y=k0):∀ (m k:Nat),n' < m+k->k<=n' ->
  (Ex n' (fun k=>sB gap (pt f i) (pt f (nx n i)) (pt g k) (pt g (nx n' k))) k->mo 100 n f n' g (aw [(.i .i64 gap)]) (Int.ofNat i) c (Int.ofNat n') ((f i 0).int) ((f i 1).int) m (Int.ofNat k) a k1=k0) /\
  (¬ Ex n' (fun k=>sB gap (pt f i) (pt f (nx n i)) (pt g k) (pt g (nx n' k))) k->mo 100 n f n' g (aw [(.i .i64 gap)]) (Int.ofNat i) c (Int.ofNat n') ((f i 0).int) ((f i 1).int) m (Int.ofNat k) a k1=k1):=by
 intro m
 induction m with
 | zero=>intro k h1 h2;omega
 | succ m ih =>
  intro k h1 h2
  unfold mo
  rw [aF,ay,ao]
  by_cases h:k<n'
  ·have hx:nx n i<n:=cJ h0
   have hy:nx n' k<n':=cJ h0'
   have e1:(i+1) % n=nx n i:=rfl
   have e2:(k+1) % n' = nx n' k:=rfl
   rw [ae (by simpa using h),ae (by simpa using h),af (aY (by omega)),ax (i:=i) (by omega),ax (i:=k) (by omega),dh,dh,ay,ay,ao,ao,e1,e2,
    ae (by simpa using hx),af (aY (by omega)),ae (by simpa using hy),QV (hA i hi) (hA _ hx) (hB k h) (hB _ hy) hg hg',aa]
   by_cases hM:sB gap (pt f i) (pt f (nx n i)) (pt g k) (pt g (nx n' k))
   ·rw [ae (qcZ hM),ha]
    exact ⟨fun _=>rfl,fun hh=>absurd (Ex.here h hM) hh⟩
   ·rw [af (qeZ hM),Ex.step hM]
    exact ih (k+1) (by omega) (by omega)
  ·rw [af (by simpa using h)]
   exact ⟨fun hh=>absurd hh (Ex.none h),fun _=>rfl⟩
def Hd (gap:Int) (n n' : Nat) (f g:Nat->Nat->CV) (i:Nat):Prop:=Ex n' (fun k=>sB gap (pt f i) (pt f (nx n i)) (pt g k) (pt g (nx n' k))) 0
theorem J9 (n n' : Nat) (f g:Nat->Nat->CV) (gap:Int) (hg:0<=gap) (hg' : gap<=1000) (hn:n<=32) (hn' : n'<=32) (h0:3<=n) (h0' : 3<=n') (hA:aZ n f) (hB:aZ n' g):∀ (m i:Nat),n<m+i->i<=n ->
  ∃ r,mn 100 n f n' g (aw [(.i .i64 gap)]) (Int.ofNat n) m (Int.ofNat i) (fun _ _ _ _=>some true) (some false)=some r/\(r=true↔Ex n (Hd gap n n' f g) i):=by
 intro m
 induction m with
 | zero=>intro i h1 h2;omega
 | succ m ih =>
  intro i h1 h2
  unfold mn
  rw [aF,ay,ao]
  by_cases h:i<n
  ·obtain ⟨m1,m2⟩:=Ka n n' i f g gap hg hg' hn hn' h0 h0' h hA hB (Int.ofNat n) (fun _ _=>some true) (some true) (mn 100 n f n' g (aw [(.i .i64 gap)]) (Int.ofNat n) m (Int.ofNat (i+1)) (fun _ _ _ _=>some true) (some false)) (fun _ _=>rfl) 100 0 (by omega) (by omega)
   rw [ae (by simpa using h),ae (by simpa using h),ax (by omega),show (0:Int)=Int.ofNat 0 from rfl]
   by_cases hT:Hd gap n n' f g i
   ·rw [m1 hT]
    exact ⟨true,rfl,fun _=>Ex.here h hT,fun _=>rfl⟩
   ·rw [m2 hT,Ex.step hT]
    exact ih (i+1) (by omega) (by omega)
  ·rw [af (by simpa using h)]
   exact ⟨false,rfl,fun hh=>(by cases hh),fun hh=>absurd hh (Ex.none h)⟩
def rx (gap:Int) (n n' : Nat) (f g:Nat->Nat->CV):Prop:=∃ i,i<n/\∃ k,k<n'/\sB gap (pt f i) (pt f (nx n i)) (pt g k) (pt g (nx n' k))
theorem QU (n n' : Nat) (f g:Nat->Nat->CV) (gap:Int) (hg:0<=gap) (hg' : gap<=1000) (V:aU n f) (W:aU n' g):∃ r,Kn 100 n f n' g (aw [(.i .i64 gap)])=some r/\(r=true↔rx gap n n' f g):=by
 have:=V.small
 unfold Kn
 obtain ⟨r,h1,h2⟩:=J9 n n' f g gap hg hg' V.small W.small V.big W.big V.near W.near 100 0 (by omega) (by omega)
 refine ⟨r,h1,h2.trans (Ex.zero.trans ?_)⟩
 simp only [Hd,Ex.zero,rx]
def cf (n1:Nat) (f1 f2:Nat->Nat->CV):Nat->Nat->CV:=aC 1 (aL 1 [(.ro false (.pr (.int .i64) (.pr (.int .i64) .nil)) n1 f1)]) f2
theorem va {n1:Nat} {f1:Nat->Nat->CV} {n2:Nat} {f2:Nat->Nat->CV} (S:ml n1 f1 n2 f2) {j:Nat} (h:j<1+n2):aU ((cf n1 f1 f2 j 0).len) ((cf n1 f1 f2 j 0).el):=by
 cases j with
 | zero=>exact S.outer
 | succ j =>
  have e:cf n1 f1 f2 (j+1) 0=f2 j 0:=by
   unfold cf aC
   rw [af (by cases hq:Nat.blt (j+1) 1 with | false=>rfl | true=>simp [Nat.blt_eq] at hq)]
   rfl
  rw [e]
  exact (S.hole j (by omega)).valid
theorem OA {n1:Nat} {f1:Nat->Nat->CV} {n2:Nat} {f2:Nat->Nat->CV} (h:n2<=8):F42 100 n1 f1 n2 f2=some (1+n2,cf n1 f1 f2):=by
 unfold F42
 rw [ae (by rw [Nat.ble_eq];omega)]
 rfl
abbrev cl (F:Nat->Nat->CV) (i:Nat):Nat:=(F i 0).len
abbrev ce (F:Nat->Nat->CV) (i:Nat):Nat->Nat->CV:=(F i 0).el
theorem Kc {ρ:Type} (N i:Nat) (F G:Nat->Nat->CV) (gap:Int) (hg:0<=gap) (hg' : gap<=1000) (hN:N<=9) (hV:aU (cl F i) (ce F i)) (hW:∀ j,j<N->aU (cl G j) (ce G j)) (c0:Nat) (c1:Nat->Nat->CV) (c2 c3:Int) (a1 a3 b1 b3:Nat) (a2 a4 b2 b4:Nat->Nat->CV) (k0 k1:Option ρ):∀ (m k:Nat),N<m+k->k<=N ->
  (Ex N (fun k=>rx gap (cl F i) (cl G k) (ce F i) (ce G k)) k->sn 100 (cl F i) (ce F i) c0 c1 c2 c3 N G (Int.ofNat N) a1 a2 a3 a4 b1 b2 b3 b4 gap m (Int.ofNat k) k0 k1=k0) /\
  (¬ Ex N (fun k=>rx gap (cl F i) (cl G k) (ce F i) (ce G k)) k->sn 100 (cl F i) (ce F i) c0 c1 c2 c3 N G (Int.ofNat N) a1 a2 a3 a4 b1 b2 b3 b4 gap m (Int.ofNat k) k0 k1=k1):=by
 intro m
 induction m with
 | zero=>intro k h1 h2;omega
 | succ m ih =>
  intro k h1 h2
  unfold sn
  rw [aF,ay,ao]
  by_cases h:k<N
  ·obtain ⟨r,hr,hr'⟩:=QU (cl F i) (cl G k) (ce F i) (ce G k) gap hg hg' hV (hW k h)
   rw [ae (qcZ h),ae (qcZ h),hr,aa,ax (by omega)]
   by_cases hM:rx gap (cl F i) (cl G k) (ce F i) (ce G k)
   ·rw [ae (hr'.2 hM)]
    exact ⟨fun _=>rfl,fun hh=>absurd (Ex.here (P:=fun k=>rx gap (cl F i) (cl G k) (ce F i) (ce G k)) h hM) hh⟩
   ·rw [af (Bool.eq_false_iff.2 fun hh=>hM (hr'.1 hh)),Ex.step (P:=fun k=>rx gap (cl F i) (cl G k) (ce F i) (ce G k)) hM]
    exact ih (k+1) (by omega) (by omega)
  ·rw [af (qeZ h)]
   exact ⟨fun hh=>absurd hh (Ex.none h),fun _=>rfl⟩
def Pq (gap:Int) (N:Nat) (F G:Nat->Nat->CV) (i:Nat):Prop:=Ex N (fun k=>rx gap (cl F i) (cl G k) (ce F i) (ce G k)) 0
theorem Kb (M:Nat) (F:Nat->Nat->CV) (n1 n2 m1 m2:Nat) (f1 f2 g1 g2:Nat->Nat->CV) (gap:Int) (hg:0<=gap) (hg' : gap<=1000) (hM:M<=9) (hV:∀ j,j<M->aU (cl F j) (ce F j)) (S:ml m1 g1 m2 g2):∀ (m i:Nat),M<m+i->i<=M ->
  ∃ r,sj 100 M F (Int.ofNat M) n1 f1 n2 f2 m1 g1 m2 g2 gap m (Int.ofNat i) (some false) (some true)=some r/\(r=false↔Ex M (Pq gap (1+m2) F (cf m1 g1 g2)) i):=by
 intro m
 have few:=S.few
 induction m with
 | zero=>intro i h1 h2;omega
 | succ m ih =>
  intro i h1 h2
  unfold sj
  rw [aF,ay,ao]
  by_cases h:i<M
  ·obtain ⟨p1,p2⟩:=Kc (1+m2) i F (cf m1 g1 g2) gap hg hg' (by omega) (hV i h) (fun j hj=>va S hj) M F (Int.ofNat M) (Int.ofNat i) n1 n2 m1 m2 f1 f2 g1 g2 (some false) (sj 100 M F (Int.ofNat M) n1 f1 n2 f2 m1 g1 m2 g2 gap m (Int.ofNat (i+1)) (some false) (some true)) 100 0 (by omega) (by omega)
   rw [ae (qcZ h),ae (qcZ h),OA few,aa,ax (by omega),show (0:Int)=Int.ofNat 0 from rfl]
   by_cases hT:Pq gap (1+m2) F (cf m1 g1 g2) i
   ·exact ⟨false,p1 hT,fun _=>Ex.here h hT,fun _=>rfl⟩
   ·obtain ⟨r,hr,hr'⟩:=ih (i+1) (by omega) (by omega)
    refine ⟨r,(p2 hT).trans hr,?_⟩
    rw [Ex.step hT];exact hr'
  ·rw [af (qeZ h)]
   exact ⟨true,rfl,fun hh=>(by cases hh),fun hh=>absurd hh (Ex.none h)⟩
theorem rJ (n:Nat) (f g:Nat->Nat->CV) (j c:Nat) (h:j<n):aC n f g j c=f j c:=by
 unfold aC
 rw [ae (by simpa [Nat.blt_eq] using h)]
theorem rL (n:Nat) (f g:Nat->Nat->CV) (j c:Nat) (h:n<=j):aC n f g j c=g (j-n) c:=by
 unfold aC
 rw [af]
 cases hq:Nat.blt j n with
 | false=>rfl
 | true=>simp [Nat.blt_eq] at hq;omega
theorem sZ {n:Nat} (h:n<=1073741824):Nat.ble n 1073741824=true:=by rw [Nat.ble_eq];exact h
def rot:Nat->Int->Int->Int × Int
 | 0,x,y=>(x,y)
 | n+1,x,y=>rot n (w64 (0-y)) x
def tp (fl:Bool) (t:Nat) (tx ty x y:Int):Int × Int :=
 (w64 ((rot t (bif fl then w64 (0-x) else x) y).1+tx),w64 ((rot t (bif fl then w64 (0-x) else x) y).2+ty))
theorem Se {ρ:Type} (a:ByteArray) (b c:Int) (t:Nat) (fl:Bool) (ht:t<=3) (k0:Int->Int->Option ρ):∀ (m i:Nat) (x y:Int),t<m+i->i<=t ->
  si 100 a b c (Int.ofNat t) fl m (Int.ofNat i) x y k0=k0 (rot (t-i) x y).1 (rot (t-i) x y).2:=by
 intro m
 induction m with
 | zero=>intro i x y h1 h2;omega
 | succ m ih =>
  intro i x y h1 h2
  unfold si
  rw [aF]
  by_cases h:i<t
  ·rw [ae (by simpa using h),ax (by omega),ih (i+1) _ _ (by omega) (by omega)]
   rw [show t-i=(t-(i+1))+1 from by omega]
   rfl
  ·rw [af (by simpa using h),show t-i=0 from by omega]
   rfl
theorem Sd {ρ:Type} (a:Nat->CV) (b c:Nat) (d:Nat->Nat->CV) (e g:Int) (t:Nat) (z:Nat->CV) (hz:(z 3).int=Int.ofNat t) (q:Nat->Nat->CV) (ht:t<=3) (k0:Int->Int->Option ρ):∀ (m i:Nat) (x y:Int),t<m+i->i<=t ->
  sd 100 a b c d e g z q m (Int.ofNat i) x y k0=k0 (rot (t-i) x y).1 (rot (t-i) x y).2:=by
 intro m
 induction m with
 | zero=>intro i x y h1 h2;omega
 | succ m ih =>
  intro i x y h1 h2
  unfold sd
  rw [hz,aF]
  by_cases h:i<t
  ·rw [ae (by simpa using h),ax (by omega),ih (i+1) _ _ (by omega) (by omega)]
   rw [show t-i=(t-(i+1))+1 from by omega]
   rfl
  ·rw [af (by simpa using h),show t-i=0 from by omega]
   rfl
theorem CD (x y:Int) (s:ByteArray) (tx ty:Int) (t:Nat) (fl:Bool) (ht:t<=3):F32 100 x y s tx ty (Int.ofNat t) fl=some (tp fl t tx ty x y):=by
 unfold F32
 cases fl with
 | true =>
  rw [ae rfl]
  exact Se s tx ty t true ht _ 100 0 _ _ (by omega) (by omega)
 | false =>
  rw [af rfl]
  exact Se s tx ty t false ht _ 100 0 _ _ (by omega) (by omega)
def Are (P:Nat->Int × Int) (g:Nat->Nat->CV) (i:Nat):Prop:=∀ j,j<i->g j 0=.i .i64 (P j).1/\g j 1=.i .i64 (P j).2
theorem Are.snoc {P:Nat->Int × Int} {g:Nat->Nat->CV} {i:Nat} (h:Are P g i) {a b:Int} (hp:P i=(a,b)):Are P (aC i g (aL 2 [.i .i64 a,.i .i64 b])) (i+1):=by
 intro j hj
 by_cases e:j=i
 ·subst e
  rw [rL _ _ _ _ _ (rmZ j),rL _ _ _ _ _ (rmZ j),Nat.sub_self,hp]
  exact ⟨rfl,rfl⟩
 ·rw [rJ _ _ _ _ _ (by omega),rJ _ _ _ _ _ (by omega)]
  exact h j (by omega)
def cp (fl:Bool) (t:Nat) (tx ty:Int) (f:Nat->Nat->CV) (j:Nat):Int × Int:=tp fl t tx ty ((f j 0).int) ((f j 1).int)
def cq (fl:Bool) (t:Nat) (tx ty:Int) (n:Nat) (f:Nat->Nat->CV) (j:Nat):Int × Int:=cp fl t tx ty f (bif fl then n-1-j else j)
theorem Wo {ρ:Type} (s:ByteArray) (n t:Nat) (fl:Bool) (tx ty:Int) (f:Nat->Nat->CV) (hn:n<=40) (ht:t<=3) (k0:Nat->(Nat->Nat->CV)->Option ρ):∀ (m i:Nat) (g:Nat->Nat->CV),n<m+i->i<=n->Are (cp fl t tx ty f) g i ->
  ∃ g',sc 100 (aw [.s s,.i .i64 tx,.i .i64 ty,.i .i64 (Int.ofNat t),.b fl]) n f (Int.ofNat n) m i (Int.ofNat i) g k0=k0 n g'/\Are (cp fl t tx ty f) g' n:=by
 intro m
 induction m with
 | zero=>intro i g h1 h2;omega
 | succ m ih =>
  intro i g h1 h2 hg
  unfold sc
  rw [aF,ay,ao]
  by_cases h:i<n
  ·rw [ae (by simpa using h),ae (by simpa using h),ax (by omega)]
   have e4:(aw [.s s,.i .i64 tx,.i .i64 ty,.i .i64 (Int.ofNat t),.b fl] 4).bool=fl:=rfl
   have e3:(aw [.s s,.i .i64 tx,.i .i64 ty,.i .i64 (Int.ofNat t),.b fl] 3).int=Int.ofNat t:=rfl
   have e1:(aw [.s s,.i .i64 tx,.i .i64 ty,.i .i64 (Int.ofNat t),.b fl] 1).int=tx:=rfl
   have e2:(aw [.s s,.i .i64 tx,.i .i64 ty,.i .i64 (Int.ofNat t),.b fl] 2).int=ty:=rfl
   rw [e4,e1,e2]
   cases fl with
   | true =>
    rw [ae rfl]
    rw [show (0:Int)=Int.ofNat 0 from rfl,Sd _ _ _ _ _ _ t _ e3 _ ht _ 100 0 _ _ (by omega) (by omega),ae (sZ (by omega))]
    exact ih (i+1) _ (by omega) (by omega) (hg.snoc rfl)
   | false =>
    rw [af rfl]
    rw [show (0:Int)=Int.ofNat 0 from rfl,Sd _ _ _ _ _ _ t _ e3 _ ht _ 100 0 _ _ (by omega) (by omega),ae (sZ (by omega))]
    exact ih (i+1) _ (by omega) (by omega) (hg.snoc rfl)
  ·rw [af (by simpa using h)]
   have:i=n:=by omega
   subst this
   exact ⟨g,rfl,hg⟩
theorem CL (s:ByteArray) (n t:Nat) (fl:Bool) (tx ty:Int) (f:Nat->Nat->CV) (hn:n<=40) (ht:t<=3) :
  ∃ g,F51 100 n f (aw [.s s,.i .i64 tx,.i .i64 ty,.i .i64 (Int.ofNat t),.b fl])=some (n,g)/\Are (cq fl t tx ty n f) g n:=by
 unfold F51
 obtain ⟨g,h1,h2⟩:=Wo s n t fl tx ty f hn ht (fun x65 x66=>(bif ((aw [.s s,.i .i64 tx,.i .i64 ty,.i .i64 (Int.ofNat t),.b fl] 4).bool) then (bif (Nat.beq x65 x65) then (bif (Nat.beq x65 0) then (some (x65,x66)) else (some (x65,(Gc x65 x66)))) else none) else (some (x65,x66)))) 100 0 (fun _ _=>.any) (by omega) (by omega) (fun j hj=>by omega)
 rw [show (0:Int)=Int.ofNat 0 from rfl,h1]
 have e4:(aw [.s s,.i .i64 tx,.i .i64 ty,.i .i64 (Int.ofNat t),.b fl] 4).bool=fl:=rfl
 rw [e4]
 cases fl with
 | true =>
  rw [ae rfl,ae (Nat.beq_refl n)]
  by_cases h0:n=0
  ·subst h0
   exact ⟨g,rfl,fun j hj=>by omega⟩
  ·rw [af (by cases hq:Nat.beq n 0 with | false=>rfl | true=>exact (h0 (qbZ hq)).elim)]
   refine ⟨_,rfl,fun j hj=>?_⟩
   unfold Gc cq
   exact h2 (n-1-j) (by omega)
 | false =>
  rw [af rfl]
  exact ⟨g,rfl,h2⟩
def jR (x y:Int):Bool:=decide (x < -1099511627776\/x>1099511627776\/y < -1099511627776\/y>1099511627776)
theorem IL (x y:Int):F49 100 x y=some (jR x y):=by
 unfold F49 jR
 by_cases h1:x < -1099511627776
 ·rw [af (by simpa using h1)];simp [h1]
 ·rw [ae (by simpa using h1)]
  by_cases h2:x>1099511627776
  ·rw [af (by simpa using h2)];simp [h2]
  ·rw [ae (by simpa using h2)]
   by_cases h3:y < -1099511627776
   ·rw [af (by simpa using h3)];simp [h3]
   ·rw [ae (by simpa using h3)]
    congr 1
    rw [Bool.eq_iff_iff]
    simp only [decide_eq_true_eq]
    omega
def A0 (n:Nat) (f:Nat->Nat->CV) (i:Nat):Prop:=∃ j,i<=j/\j<n/\jR ((f j 0).int) ((f j 1).int)=true
theorem Om (n:Nat) (f:Nat->Nat->CV) (hn:n<=40):∀ (m i:Nat),n<m+i->i<=n ->
  ∃ z,oa 100 n f (Int.ofNat n) m (Int.ofNat i) (fun x=>some x) (some (-1))=some z/\(z>=0↔A0 n f i):=by
 intro m
 induction m with
 | zero=>intro i h1 h2;omega
 | succ m ih =>
  intro i h1 h2
  unfold oa
  rw [aF,ay,ao]
  by_cases h:i<n
  ·rw [ae (by simpa using h),ae (by simpa using h),ax (by omega),IL,aa]
   cases hq:jR ((f i 0).int) ((f i 1).int) with
   | true =>
    rw [ae rfl]
    exact ⟨_,rfl,fun _=>⟨i,rmZ i,h,hq⟩,fun _=>riZ i⟩
   | false =>
    rw [af rfl]
    obtain ⟨z,h3,h4⟩:=ih (i+1) (by omega) (by omega)
    refine ⟨z,h3,h4.trans ⟨fun ⟨j,a,b,c⟩=>⟨j,by omega,b,c⟩,fun ⟨j,a,b,c⟩=>⟨j,?_,b,c⟩⟩⟩
    by_cases e:j=i
    ·subst e;rw [hq] at c;cases c
    ·omega
  ·rw [af (by simpa using h)]
   exact ⟨-1,rfl,fun hh=>by omega,fun ⟨j,a,b,c⟩=>by omega⟩
theorem QQ (n:Nat) (f:Nat->Nat->CV) (hn:n<=40):∃ b,Ko 100 n f=some b/\(b=true↔A0 n f 0):=by
 unfold Ko Pj
 obtain ⟨z,h1,h2⟩:=Om n f hn 100 0 (by omega) (by omega)
 rw [show (0:Int)=Int.ofNat 0 from rfl,h1,aa]
 exact ⟨_,rfl,by rw [decide_eq_true_iff];exact h2⟩
def tu (n:Nat) (f:Nat->Nat->CV) (i:Nat):Prop:=∃ j,i<=j/\j<n/\A0 ((f j 0).len) ((f j 0).el) 0
theorem CT {ρ:Type} (n a b:Nat) (f c d:Nat->Nat->CV) (s:ByteArray) (x y z:Int) (e:Bool) (hn:n<=13) (hl:∀ j,j<n->(f j 0).len<=40) (k0 k1:Option ρ):∀ (m i:Nat),n<m+i->i<=n ->
  (tu n f i->su 100 n f (Int.ofNat n) a c b d s x y z e m (Int.ofNat i) k0 k1=k0)/\(¬ tu n f i->su 100 n f (Int.ofNat n) a c b d s x y z e m (Int.ofNat i) k0 k1=k1):=by
 intro m
 induction m with
 | zero=>intro i h1 h2;omega
 | succ m ih =>
  intro i h1 h2
  unfold su
  rw [aF,ay,ao]
  by_cases h:i<n
  ·obtain ⟨q,hq1,hq2⟩:=QQ ((f i 0).len) ((f i 0).el) (hl i h)
   rw [ae (by simpa using h),ae (by simpa using h),ax (by omega),hq1,aa]
   cases q with
   | true =>
    rw [ae rfl]
    exact ⟨fun _=>rfl,fun hh=>absurd ⟨i,rmZ i,h,hq2.1 rfl⟩ hh⟩
   | false =>
    rw [af rfl]
    have e1:tu n f i↔tu n f (i+1):=by
     refine ⟨fun ⟨j,a,b,c⟩=>⟨j,?_,b,c⟩,fun ⟨j,a,b,c⟩=>⟨j,by omega,b,c⟩⟩
     by_cases e:j=i
     ·subst e
      have:=hq2.2 c
      cases this
     ·omega
    rw [e1]
    exact ih (i+1) (by omega) (by omega)
  ·rw [af (by simpa using h)]
   exact ⟨fun ⟨j,a,b,c⟩=>by omega,fun _=>rfl⟩
def AA (fl:Bool) (t:Nat) (tx ty:Int) (f g:Nat->Nat->CV) (i:Nat):Prop :=
 ∀ j,j<i->(g j 0).len=(f j 0).len/\Are (cq fl t tx ty ((f j 0).len) ((f j 0).el)) ((g j 0).el) ((f j 0).len)
theorem AA.snoc {fl:Bool} {t:Nat} {tx ty:Int} {f g:Nat->Nat->CV} {i n:Nat} (h:AA fl t tx ty f g i) {x:Nat->Nat->CV} {r:Kd} {b:Bool} (hn:n=(f i 0).len) (hx:Are (cq fl t tx ty n ((f i 0).el)) x n) :
  AA fl t tx ty f (aC i g (aL 1 [.ro b r n x])) (i+1):=by
 intro j hj
 by_cases e:j=i
 ·subst e
  rw [rL _ _ _ _ _ (rmZ j),Nat.sub_self]
  subst hn
  exact ⟨rfl,hx⟩
 ·rw [rJ _ _ _ _ _ (by omega)]
  exact h j (by omega)
theorem QM {ρ:Type} (s:ByteArray) (n t:Nat) (fl:Bool) (tx ty:Int) (f:Nat->Nat->CV) (a b:Nat) (c d:Nat->Nat->CV) (hn:n<=12) (hl:∀ j,j<n->(f j 0).len<=40) (ht:t<=3) (k0:Nat->(Nat->Nat->CV)->Option ρ):∀ (m i:Nat) (g:Nat->Nat->CV),n<m+i->i<=n->AA fl t tx ty f g i ->
  ∃ g',vz 100 s tx ty (Int.ofNat t) fl n f (Int.ofNat n) a c b d m (Int.ofNat i) i g k0=k0 n g'/\AA fl t tx ty f g' n:=by
 intro m
 induction m with
 | zero=>intro i g h1 h2;omega
 | succ m ih =>
  intro i g h1 h2 hg
  unfold vz
  rw [aF,ay,ao]
  by_cases h:i<n
  ·obtain ⟨x,hx1,hx2⟩:=CL s ((f i 0).len) t fl tx ty ((f i 0).el) (hl i h) ht
   rw [ae (by simpa using h),ae (by simpa using h),ax (by omega),hx1,aa,ae (sZ (by omega))]
   exact ih (i+1) _ (by omega) (by omega) (hg.snoc rfl hx2)
  ·rw [af (by simpa using h)]
   have:i=n:=by omega
   subst this
   exact ⟨g,rfl,hg⟩
theorem Wn {ρ:Type} (s:ByteArray) (n t:Nat) (fl:Bool) (tx ty:Int) (f:Nat->Nat->CV) (hn:n<=40) (ht:t<=3) (k0:Nat->(Nat->Nat->CV)->Option ρ):∀ (m i:Nat) (g:Nat->Nat->CV),n<m+i->i<=n->Are (cq fl t tx ty n f) g i ->
  ∃ g',r9 100 n f s tx ty (Int.ofNat t) fl m i (Int.ofNat i) g k0=k0 n g'/\Are (cq fl t tx ty n f) g' n:=by
 intro m
 induction m with
 | zero=>intro i g h1 h2;omega
 | succ m ih =>
  intro i g h1 h2 hg
  unfold r9
  rw [aF,ay,ao]
  by_cases h:i<n
  ·rw [ae (by simpa using h),ax (by omega)]
   cases fl with
   | true =>
    have e:w64 (w64 (Int.ofNat n-1)-Int.ofNat i)=Int.ofNat (n-1-i):=by
     rw [aA (n:=Int.ofNat n-1) (by simp;omega) (by simp;omega),aA (by simp;omega) (by simp;omega)]
     simp;omega
    rw [ae rfl,e,ay,ao,ae (by simp;omega),CD _ _ _ _ _ _ _ ht,aa,ae (sZ (by omega))]
    exact ih (i+1) _ (by omega) (by omega) (hg.snoc rfl)
   | false =>
    rw [af rfl,ae (by simpa using h),CD _ _ _ _ _ _ _ ht,aa,ae (sZ (by omega))]
    exact ih (i+1) _ (by omega) (by omega) (hg.snoc rfl)
  ·rw [af (by simpa using h)]
   have:i=n:=by omega
   subst this
   exact ⟨g,rfl,hg⟩
theorem At (s:ByteArray) (n t:Nat) (fl:Bool) (tx ty:Int) (f:Nat->Nat->CV) (hn:n<=40) (ht:t<=3) :
  ∃ g,F54 100 n f s tx ty (Int.ofNat t) fl=some (n,g)/\Are (cq fl t tx ty n f) g n:=by
 unfold F54
 exact Wn s n t fl tx ty f hn ht _ 100 0 (fun _ _=>.any) (by omega) (by omega) (fun j hj=>by omega)
theorem Oo (x y:Int):F53 100 x y=some (jR x y):=IL x y
theorem Ki {ρ:Type} (N a b i:Nat) (F c d:Nat->Nat->CV) (s:ByteArray) (x y z:Int) (e:Bool) (hi:i<N) (hl:(F i 0).len<=40) (k0:Bool->Option ρ):∀ (m j:Nat) (bad:Bool),(F i 0).len<m+j->j<=(F i 0).len ->
  ∃ r,ss 100 N F (Int.ofNat i) a c b d s x y z e m bad (Int.ofNat j) k0=k0 r/\(r=true↔bad=true\/A0 ((F i 0).len) ((F i 0).el) j):=by
 intro m
 induction m with
 | zero=>intro j bad h1 h2;omega
 | succ m ih =>
  intro j bad h1 h2
  unfold ss
  rw [ay,ao,aF,ay,ao]
  rw [ae (by simpa using hi)]
  by_cases h:j<(F i 0).len
  ·rw [ae (by simpa using h),ax (by omega)]
   cases bad with
   | true =>
    rw [af (by simp)]
    obtain ⟨r,h3,h4⟩:=ih (j+1) true (by omega) (by omega)
    exact ⟨r,h3,h4.trans ⟨fun _=>.inl rfl,fun _=>.inl rfl⟩⟩
   | false =>
    rw [ae (by simp),ae (by simpa using hi),ae (by simpa using h),Oo,aa]
    obtain ⟨r,h3,h4⟩:=ih (j+1) (jR (((F i 0).el j 0).int) (((F i 0).el j 1).int)) (by omega) (by omega)
    refine ⟨r,h3,h4.trans ⟨fun hh=>?_,fun hh=>?_⟩⟩
    ·rcases hh with hh | ⟨j',a,b,c⟩
     ·exact .inr ⟨j,rmZ j,h,hh⟩
     ·exact .inr ⟨j',by omega,b,c⟩
    ·rcases hh with hh | ⟨j',a,b,c⟩
     ·cases hh
     ·by_cases e:j' = j
      ·subst e;exact .inl c
      ·exact .inr ⟨j',by omega,b,c⟩
  ·rw [af (by simpa using h)]
   exact ⟨bad,rfl,fun h=>.inl h,fun hh=>hh.elim id fun ⟨j',a,b,c⟩=>by omega⟩
theorem Kh {ρ:Type} (N a b:Nat) (F c d:Nat->Nat->CV) (s:ByteArray) (x y z:Int) (e:Bool) (hN:N<=13) (hl:∀ j,j<N->(F j 0).len<=40) (k0:Bool->Option ρ):∀ (m i:Nat) (bad:Bool),N<m+i->i<=N ->
  ∃ r,sr 100 N F a c b d s x y z e m bad (Int.ofNat i) k0=k0 r/\(r=true↔bad=true\/tu N F i):=by
 intro m
 induction m with
 | zero=>intro i bad h1 h2;omega
 | succ m ih =>
  intro i bad h1 h2
  unfold sr
  rw [aF]
  by_cases h:i<N
  ·rw [ae (by simpa using h),ax (by omega)]
   obtain ⟨r1,h3,h4⟩:=Ki N a b i F c d s x y z e h (hl i h) (fun x96=>(sr 100 N F a c b d s x y z e m x96 (Int.ofNat (i+1)) k0)) 100 0 bad (by have:=hl i h;omega) (by omega)
   rw [show (0:Int)=Int.ofNat 0 from rfl,h3]
   obtain ⟨r,h5,h6⟩:=ih (i+1) r1 (by omega) (by omega)
   refine ⟨r,h5,h6.trans ⟨fun hh=>?_,fun hh=>?_⟩⟩
   ·rcases hh with hh | ⟨j',a,b,c⟩
    ·rcases h4.1 hh with hh | hh
     ·exact .inl hh
     ·exact .inr ⟨i,rmZ i,h,hh⟩
    ·exact .inr ⟨j',by omega,b,c⟩
   ·rcases hh with hh | ⟨j',a,b,c⟩
    ·exact .inl (h4.2 (.inl hh))
    ·by_cases e:j' = i
     ·subst e;exact .inl (h4.2 (.inr c))
     ·exact .inr ⟨j',by omega,b,c⟩
  ·rw [af (by simpa using h)]
   exact ⟨bad,rfl,fun h=>.inl h,fun hh=>hh.elim id fun ⟨j',a,b,c⟩=>by omega⟩
theorem Gz {ρ:Type} (N a b i:Nat) (F c d:Nat->Nat->CV) (s:ByteArray) (x y z:Int) (e:Bool) (hi:i<N) (hl:(F i 0).len<=40) (k0:Option ρ):∀ (m j:Nat),(F i 0).len<m+j->j<=(F i 0).len ->
  vy 100 N F (Int.ofNat i) a c b d s x y z e m (Int.ofNat j) k0=k0:=by
 intro m
 induction m with
 | zero=>intro j h1 h2;omega
 | succ m ih =>
  intro j h1 h2
  unfold vy
  rw [ay,ao,aF,ae (by simpa using hi)]
  by_cases h:j<(F i 0).len
  ·rw [ae (by simpa using h),ax (by omega)]
   exact ih (j+1) (by omega) (by omega)
  ·rw [af (by simpa using h)]
theorem BI {ρ:Type} (N a b:Nat) (F c d:Nat->Nat->CV) (s:ByteArray) (x y z:Int) (e:Bool) (hN:N<=13) (hl:∀ j,j<N->(F j 0).len<=40) (k0:Option ρ):∀ (m i:Nat),N<m+i->i<=N ->
  so 100 N F a c b d s x y z e m (Int.ofNat i) k0=k0:=by
 intro m
 induction m with
 | zero=>intro i h1 h2;omega
 | succ m ih =>
  intro i h1 h2
  unfold so
  rw [aF]
  by_cases h:i<N
  ·rw [ae (by simpa using h),ax (by omega),show (0:Int)=Int.ofNat 0 from rfl,Gz N a b i F c d s x y z e h (hl i h) _ 100 0 (by have:=hl i h;omega) (by omega)]
   exact ih (i+1) (by omega) (by omega)
  ·rw [af (by simpa using h)]
theorem QL {ρ:Type} (s:ByteArray) (n t:Nat) (fl:Bool) (tx ty:Int) (f:Nat->Nat->CV) (a b:Nat) (c d:Nat->Nat->CV) (hn:n<=12) (hl:∀ j,j<n->(f j 0).len<=40) (ht:t<=3) (k0:Nat->(Nat->Nat->CV)->Option ρ):∀ (m i:Nat) (g:Nat->Nat->CV),n<m+i->i<=n->AA fl t tx ty f g i ->
  ∃ g',sq 100 a c n f s tx ty (Int.ofNat t) fl b d m (Int.ofNat i) i g k0=k0 n g'/\AA fl t tx ty f g' n:=by
 intro m
 induction m with
 | zero=>intro i g h1 h2;omega
 | succ m ih =>
  intro i g h1 h2 hg
  unfold sq
  rw [aF,ay,ao]
  by_cases h:i<n
  ·obtain ⟨x,hx1,hx2⟩:=At s ((f i 0).len) t fl tx ty ((f i 0).el) (hl i h) ht
   rw [ae (by simpa using h),ae (by simpa using h),ax (by omega),hx1,aa,ae (sZ (by omega))]
   exact ih (i+1) _ (by omega) (by omega) (hg.snoc rfl hx2)
  ·rw [af (by simpa using h)]
   have:i=n:=by omega
   subst this
   exact ⟨g,rfl,hg⟩
def ct (T:Pt->Pt) (b:Bool) (n:Nat) (f g:Nat->Nat->CV):Prop:=∀ j,j<n->pt g j=T (pt f (bif b then n-1-j else j))
def Fit (T:Pt->Pt) (b:Bool):Prop:=eH (bif b then -1 else 1) T
theorem ct.rvd {T:Pt->Pt} {n:Nat} {f g:Nat->Nat->CV} (h:ct T true n f g):∀ j,j<n->pt g j=rv n (fun i=>T (pt f i)) j:=fun j hj=>h j hj
theorem ct.fwd {T:Pt->Pt} {n:Nat} {f g:Nat->Nat->CV} (h:ct T false n f g):∀ j,j<n->pt g j=(fun i=>T (pt f i)) j:=fun j hj=>h j hj
theorem A5 {T:Pt->Pt} {b:Bool} {n:Nat} {f g:Nat->Nat->CV} (R:Fit T b) (h:ct T b n f g):ja n (pt g)↔ja n (pt f):=by
 cases b with
 | true=>exact ⟨fun S=>R.simple.1 (Ci.1 (jo h.rvd S)),fun S=>jo (fun j hj=>(h.rvd j hj).symm) (vF (R.simple.2 S))⟩
 | false=>exact ⟨fun S=>R.simple.1 (jo h.fwd S),fun S=>jo (fun j hj=>(h.fwd j hj).symm) (R.simple.2 S)⟩
theorem Dx {T:Pt->Pt} {b:Bool} {n:Nat} {f g:Nat->Nat->CV} (h0:0<n) (R:Fit T b) (h:ct T b n f g):area n (pt g)=area n (pt f):=by
 cases b with
 | true =>
  have e:area n (fun i=>T (pt f i))=(-1)*area n (pt f):=R.area n (pt f)
  rw [BV h0 h.rvd,Qf,e];omega
 | false =>
  have e:area n (fun i=>T (pt f i))=1*area n (pt f):=R.area n (pt f)
  rw [BV h0 h.fwd,e];omega
theorem Rf {T:Pt->Pt} {b:Bool} {n:Nat} {f g:Nat->Nat->CV} (h0:0<n) (R:Fit T b) (h:ct T b n f g) (q:Pt):OnK n (pt g) (T q)↔OnK n (pt f) q:=by
 cases b with
 | true=>rw [CJ h0 h.rvd,VM];exact R.onK n (pt f) q
 | false=>rw [CJ h0 h.fwd];exact R.onK n (pt f) q
theorem Hq {T:Pt->Pt} {b:Bool} {n:Nat} {f g:Nat->Nat->CV} (h0:0<n) (R:Fit T b) (h:ct T b n f g) {q:Pt} (hq:¬ OnK n (pt f) q):par n (pt g) (T q)=par n (pt f) q:=by
 have h1:¬ OnK n (fun i=>T (pt f i)) (T q):=fun hh=>hq ((R.onK n (pt f) q).1 hh)
 cases b with
 | true=>rw [CH h0 h.rvd,VL h1];exact R.par n (pt f) q hq
 | false=>rw [CH h0 h.fwd];exact R.par n (pt f) q hq
theorem U2 {T:Pt->Pt} {b:Bool} {n:Nat} {f g:Nat->Nat->CV} (h0:0<n) (R:Fit T b) (h:ct T b n f g) (q:Pt):InC n g (T q)↔InC n f q:=by
 unfold InC
 rw [HR,HR,Rf h0 R h]
 exact ⟨fun ⟨a,c⟩=>⟨a,by rw [<- Hq h0 R h a];exact c⟩,fun ⟨a,c⟩=>⟨a,by rw [Hq h0 R h a];exact c⟩⟩
theorem Re {T:Pt->Pt} {b:Bool} {n:Nat} {f g:Nat->Nat->CV} (h0:0<n) (R:Fit T b) (h:ct T b n f g) (q:Pt):vZ n g (T q)↔vZ n f q:=by
 unfold vZ
 rw [HR,HR,Rf h0 R h]
 exact ⟨fun ⟨a,c⟩=>⟨a,by rw [<- Hq h0 R h a];exact c⟩,fun ⟨a,c⟩=>⟨a,by rw [Hq h0 R h a];exact c⟩⟩
theorem tD {T:Pt->Pt} {b:Bool} {n:Nat} {f g:Nat->Nat->CV} (R:Fit T b) (h:ct T b n f g) (hf:aZ n f) (hg:aZ n g):aU n g↔aU n f :=
 ⟨fun V=>⟨V.big,V.small,hf,(A5 R h).1 V.simple,by rw [<- Dx (by have:=V.big;omega) R h];exact V.ar⟩,fun V=>⟨V.big,V.small,hg,(A5 R h).2 V.simple,by rw [Dx (by have:=V.big;omega) R h];exact V.ar⟩⟩
theorem tF {T:Pt->Pt} {b:Bool} {n:Nat} {f g:Nat->Nat->CV} (h:ct T b n f g):(∀ j,j<n->∃ i,i<n/\pt g j=T (pt f i))/\(∀ i,i<n->∃ j,j<n/\pt g j=T (pt f i)):=by
 constructor
 ·intro j hj
  refine ⟨bif b then n-1-j else j,?_,h j hj⟩
  cases b<;>simp<;>omega
 ·intro i hi
  refine ⟨bif b then n-1-i else i,?_,?_⟩
  ·cases b<;>simp<;>omega
  ·rw [h _ (by cases b<;>simp<;>omega)]
   congr 2
   cases b
   ·rfl
   ·simp;omega
theorem KH {T:Pt->Pt} {b:Bool} {n:Nat} {f g:Nat->Nat->CV} (h:ct T b n f g):∀ j,j<n->∃ i,i<n/\((pt g j=T (pt f i)/\pt g (nx n j)=T (pt f (nx n i)))\/(pt g j=T (pt f (nx n i))/\pt g (nx n j)=T (pt f i))):=by
 intro j hj
 have hx:nx n j<n:=oN (by omega)
 cases b with
 | false=>exact ⟨j,hj,.inl ⟨h j hj,h _ hx⟩⟩
 | true =>
  obtain ⟨e1,e2⟩:=jL (p:=fun i=>T (pt f i)) hj
  exact ⟨ej n j,t6 (by omega),.inr ⟨(h.rvd j hj).trans e1,(h.rvd _ hx).trans e2⟩⟩
theorem Hr {T:Pt->Pt} {b:Bool} {n:Nat} {f g:Nat->Nat->CV} (h:ct T b n f g):∀ i,i<n->∃ j,j<n/\((pt g j=T (pt f i)/\pt g (nx n j)=T (pt f (nx n i)))\/(pt g j=T (pt f (nx n i))/\pt g (nx n j)=T (pt f i))):=by
 intro i hi
 cases b with
 | false=>exact ⟨i,hi,.inl ⟨h i hi,h _ (oN (by omega))⟩⟩
 | true =>
  have hl:ej n i<n:=t6 (by omega)
  obtain ⟨e1,e2⟩:=jL (p:=fun i=>T (pt f i)) hl
  rw [Te hi] at e1 e2
  exact ⟨ej n i,hl,.inr ⟨(h.rvd _ hl).trans e1,(h.rvd _ (oN (by omega))).trans e2⟩⟩
theorem E8 {T:Pt->Pt} {e:Int} (R:eH e T) {a b c d x y z w:Pt} (h1:(x=T a/\y=T b)\/(x=T b/\y=T a)) (h2:(z=T c/\w=T d)\/(z=T d/\w=T c)):cO x y z w↔cO a b c d:=by
 rw [<- R.meet a b c d]
 rcases h1 with ⟨rfl,rfl⟩ | ⟨rfl,rfl⟩<;>rcases h2 with ⟨rfl,rfl⟩ | ⟨rfl,rfl⟩
 ·exact Iff.rfl
 ·exact ⟨fun h=>h.swap2,fun h=>h.swap2⟩
 ·exact ⟨fun h=>h.swap,fun h=>h.swap⟩
 ·exact ⟨fun h=>h.swap.swap2,fun h=>h.swap.swap2⟩
theorem Dw {T:Pt->Pt} {b:Bool} {n n' : Nat} {f g f' g' : Nat->Nat->CV} (R:Fit T b) (h:ct T b n f g) (h' : ct T b n' f' g'):d7 n (pt g) n' (pt g')↔d7 n (pt f) n' (pt f'):=by
 constructor
 ·rintro ⟨i,k,hi,hk,hm⟩
  obtain ⟨i',hi',e1⟩:=KH h i hi
  obtain ⟨k',hk',e2⟩:=KH h' k hk
  exact ⟨i',k',hi',hk',(E8 R e1 e2).1 hm⟩
 ·rintro ⟨i,k,hi,hk,hm⟩
  obtain ⟨i',hi',e1⟩:=Hr h i hi
  obtain ⟨k',hk',e2⟩:=Hr h' k hk
  exact ⟨i',k',hi',hk',(E8 R e1 e2).2 hm⟩
theorem OC (n:Nat) (f:Nat->Nat->CV) (hA:aZ n f):∃ c,F33 100 n f=some c/\((n<3/\c=3)\/(32<n/\c=4)\/(3<=n/\n<=32/\(ja n (pt f)/\area n (pt f)≠0)/\c=0)\/(3<=n/\n<=32/\¬ (ja n (pt f)/\area n (pt f)≠0)/\c=17)):=by
 unfold F33
 by_cases h1:n<3
 ·rw [ae (by simp;omega)]
  exact ⟨3,rfl,.inl ⟨h1,rfl⟩⟩
 ·rw [af (by simp;omega)]
  by_cases h2:n<=32
  ·rw [af (by simp;omega)]
   obtain ⟨b,hb,hb'⟩:=Td n f (by omega)
   have b0:=hb'.2 hA
   subst b0
   obtain ⟨r,hr,hr'⟩:=tG n f h2 (by omega) hA
   have e:vj n (pt f)↔ja n (pt f):=(mE (by omega)).trans (oJ (by omega))
   rw [hb,aa,af rfl,hr,aa]
   cases r with
   | true =>
    have S:=e.1 (hr'.1 rfl)
    by_cases ha:area n (pt f)=0
    ·rw [ae (show ((!true)==false)=true from rfl),lI n f h2 (by omega) hA,aa,ae (by simpa using ha)]
     exact ⟨17,rfl,.inr (.inr (.inr ⟨by omega,h2,fun S=>S.2 ha,rfl⟩))⟩
    ·rw [ae (show ((!true)==false)=true from rfl),lI n f h2 (by omega) hA,aa,af (by simpa using ha)]
     exact ⟨0,rfl,.inr (.inr (.inl ⟨by omega,h2,⟨S,ha⟩,rfl⟩))⟩
   | false =>
    rw [af (show ((!false)==false)=false from rfl)]
    exact ⟨17,rfl,.inr (.inr (.inr ⟨by omega,h2,fun S=>(by have h9:=hr'.2 (e.2 S.1);cases h9),rfl⟩))⟩
  ·rw [ae (by simp;omega)]
   exact ⟨4,rfl,.inr (.inl ⟨by omega,rfl⟩)⟩
theorem t33 {T:Pt->Pt} {b:Bool} {n:Nat} {f g:Nat->Nat->CV} (R:Fit T b) (h:ct T b n f g) (hf:aZ n f) (hg:aZ n g):F33 100 n g=F33 100 n f:=by
 obtain ⟨c,h1,h2⟩:=OC n f hf
 obtain ⟨d,h3,h4⟩:=OC n g hg
 rw [h1,h3]
 congr 1
 by_cases n3:n<3
 ·omega
 rw [A5 R h,Dx (by omega) R h] at h4
 rcases h2 with h2 | h2 | ⟨_,_,h2,_⟩ | ⟨_,_,h2,_⟩<;>rcases h4 with h4 | h4 | ⟨_,_,h4,_⟩ | ⟨_,_,h4,_⟩<;>first | omega | exact absurd h2 h4 | exact absurd h4 h2
theorem t34 {T:Pt->Pt} {b:Bool} {n:Nat} {f g:Nat->Nat->CV} (R:Fit T b) (h:ct T b n f g) (V:aU n f) (W:aU n g):F34 100 n g=F34 100 n f:=by
 obtain ⟨c,h1,_,h2⟩:=oZ n f
 obtain ⟨d,h3,_,h4⟩:=oZ n g
 have hb:=V.big
 rw [h1,h3,h2 V,h4 W,Dx (by omega) R h]
theorem IV {r s:Bool} {P Q:Prop} (h1:r=true↔P) (h2:s=true↔Q) (h:P↔Q):r=s:=by
 have:=h1.trans (h.trans h2.symm)
 cases r<;>cases s<;>simp at this<;>rfl
theorem t35 {T:Pt->Pt} {b:Bool} {n n' : Nat} {f g f' g' : Nat->Nat->CV} (R:Fit T b) (h:ct T b n f g) (h' : ct T b n' f' g') (V:aU n f) (W:aU n g) (V' : aU n' f') (W' : aU n' g'):F35 100 n g n' g' = F35 100 n f n' f':=by
 obtain ⟨r,h1,h2⟩:=A3 n n' g g' W W'
 obtain ⟨s,h3,h4⟩:=A3 n n' f f' V V'
 rw [h1,h3]
 congr 1
 refine IV h2 h4 ?_
 rw [Dw R h h']
 have hb:=V'.big
 refine and_congr_right fun _=>⟨fun k i hi=>?_,fun k i hi=>?_⟩
 ·obtain ⟨j,hj,e⟩:=(tF h).2 i hi
  have:=k j hj
  rw [e,U2 (by omega) R h'] at this
  exact this
 ·obtain ⟨j,hj,e⟩:=(tF h).1 i hi
  rw [e,U2 (by omega) R h']
  exact k j hj
theorem AU {n n' : Nat} {f g:Nat->Nat->CV} (h0:3<=n) (h:¬ d7 n (pt f) n' (pt g)):vZ n' g (pt f 0)↔∀ i,i<n->vZ n' g (pt f i):=by
 constructor
 ·intro k i hi
  obtain ⟨a,b⟩:=Ax h0 h i hi
  exact ⟨a,by rw [b];exact k.2⟩
 ·intro k
  exact k 0 (by omega)
theorem KG {T:Pt->Pt} {b:Bool} {n n' : Nat} {f g f' g' : Nat->Nat->CV} (h0:0<n') (R:Fit T b) (h:ct T b n f g) (h' : ct T b n' f' g'):(∀ i,i<n->vZ n' g' (pt g i))↔∀ i,i<n->vZ n' f' (pt f i):=by
 refine ⟨fun k i hi=>?_,fun k i hi=>?_⟩
 ·obtain ⟨j,hj,e⟩:=(tF h).2 i hi
  have:=k j hj
  rw [e,Re h0 R h'] at this
  exact this
 ·obtain ⟨j,hj,e⟩:=(tF h).1 i hi
  rw [e,Re h0 R h']
  exact k j hj
theorem t36 {T:Pt->Pt} {b:Bool} {n n' : Nat} {f g f' g' : Nat->Nat->CV} (R:Fit T b) (h:ct T b n f g) (h' : ct T b n' f' g') (V:aU n f) (W:aU n g) (V' : aU n' f') (W' : aU n' g'):F36 100 n g n' g' = F36 100 n f n' f':=by
 obtain ⟨r,h1,h2⟩:=Eb n n' g g' W W'
 obtain ⟨s,h3,h4⟩:=Eb n n' f f' V V'
 have hb:=V.big
 have hb':=V'.big
 rw [h1,h3]
 congr 1
 refine IV h2 h4 ?_
 rw [Dw R h h']
 refine and_congr_right fun k=>?_
 have k' : ¬ d7 n (pt g) n' (pt g'):=by rw [Dw R h h'];exact k
 rw [AU hb k,AU hb k',AU hb' (fun hh=>k hh.symm),AU hb' (fun hh=>k' hh.symm),KG (by omega) R h h',KG (by omega) R h' h]
structure Ec (T:Pt->Pt) (b:Bool) (n1:Nat) (f1:Nat->Nat->CV) (n2:Nat) (f2 g1 g2:Nat->Nat->CV):Prop where
 fit:Fit T b
 outer:ct T b n1 f1 g1
 len:∀ j,j<n2->(g2 j 0).len=(f2 j 0).len
 hole:∀ j,j<n2->ct T b ((f2 j 0).len) ((f2 j 0).el) ((g2 j 0).el)
 near:aZ n1 f1
 near' : aZ n1 g1
 hnear:∀ j,j<n2->aZ ((f2 j 0).len) ((f2 j 0).el)
 hnear' : ∀ j,j<n2->aZ ((f2 j 0).len) ((g2 j 0).el)
theorem Xm {ρ:Type} {T:Pt->Pt} {b:Bool} {n1 n2:Nat} {f1 f2 g1 g2:Nat->Nat->CV} (h:Ec T b n1 f1 n2 f2 g1 g2) {i:Nat} (hi:i<n2) (hn:n2<=8) (V:∀ j,j<=i->aU ((f2 j 0).len) ((f2 j 0).el)) (c1 c2:Int) (k0 k1:Option ρ):∀ (m j:Nat),i<m+j->j<=i ->
  mN 100 ((f2 i 0).len) ((g2 i 0).el) n2 g2 c1 c2 i (Int.ofNat i) n1 g1 m (Int.ofNat j) k0 k1=mN 100 ((f2 i 0).len) ((f2 i 0).el) n2 f2 c1 c2 i (Int.ofNat i) n1 f1 m (Int.ofNat j) k0 k1:=by
 intro m
 induction m with
 | zero=>intro j h1 h2;omega
 | succ m ih =>
  intro j h1 h2
  unfold mN
  rw [aF,ay,ao]
  by_cases hj:j<i
  ·have Wi:=(tD h.fit (h.hole i hi) (h.hnear i hi) (h.hnear' i hi)).2 (V i (rmZ i))
   have Wj:=(tD h.fit (h.hole j (by omega)) (h.hnear j (by omega)) (h.hnear' j (by omega))).2 (V j h2)
   rw [ae (qcZ hj),ae (qcZ hj),ae (qcZ hj),ae (qcZ hj),ax (by omega),ih (j+1) (by omega) (by omega),h.len j (by omega),t36 h.fit (h.hole i hi) (h.hole j (by omega)) (V i (rmZ i)) Wi (V j h2) Wj]
  ·rw [af (qeZ hj),af (qeZ hj)]
theorem Xl {T:Pt->Pt} {b:Bool} {n1 n2:Nat} {f1 f2 g1 g2:Nat->Nat->CV} (h:Ec T b n1 f1 n2 f2 g1 g2) (hn:n2<=8) (V1:aU n1 f1):∀ (m i:Nat),n2<m+i->i<=n2->(∀ j,j<i->aU ((f2 j 0).len) ((f2 j 0).el)) ->
  l8 100 n2 g2 (Int.ofNat n2) n1 g1 m (Int.ofNat i) (fun x=>some x) (some 0)=l8 100 n2 f2 (Int.ofNat n2) n1 f1 m (Int.ofNat i) (fun x=>some x) (some 0):=by
 intro m
 have W1:=(tD h.fit h.outer h.near h.near').2 V1
 induction m with
 | zero=>intro i h1 h2;omega
 | succ m ih =>
  intro i h1 h2 hv
  unfold l8
  rw [aF,ay,ao]
  by_cases hi:i<n2
  ·rw [h.len i hi,t33 h.fit (h.hole i hi) (h.hnear i hi) (h.hnear' i hi)]
   obtain ⟨c,_,e1,_,e3,_⟩:=lm ((f2 i 0).len) ((f2 i 0).el)
   rw [ae (qcZ hi),ae (qcZ hi),ae (qcZ hi),ae (qcZ hi),e1,aa,aa]
   by_cases hc:c=0
   ·have V:=e3.1 hc
    have W:=(tD h.fit (h.hole i hi) (h.hnear i hi) (h.hnear' i hi)).2 V
    subst hc
    have hv' : ∀ j,j<=i->aU ((f2 j 0).len) ((f2 j 0).el):=fun j hj=>by
     by_cases e:j=i
     ·rw [e];exact V
     ·exact hv j (by omega)
    rw [t34 h.fit (h.hole i hi) V W,t35 h.fit (h.hole i hi) h.outer V W V1 W1,ax (by omega),show (0:Int)=Int.ofNat 0 from rfl]
    rw [Nat.sub_zero,Xm h hi hn hv' _ _ _ _ 100 0 (by omega) (by omega)]
    have e:=ih (i+1) (by omega) (by omega) (fun j hj=>hv' j (by omega))
    rw [show (Int.ofNat 0:Int)=0 from rfl] at *
    rw [e]
   ·have hc' : (c != 0)=true:=by simpa using hc
    rw [ae hc',ae hc']
  ·rw [af (qeZ hi),af (qeZ hi)]
theorem t13 {T:Pt->Pt} {b:Bool} {n1 n2:Nat} {f1 f2 g1 g2:Nat->Nat->CV} (h:Ec T b n1 f1 n2 f2 g1 g2):F13 100 n1 g1 n2 g2=F13 100 n1 f1 n2 f2:=by
 unfold F13
 by_cases hn:n2<=8
 ·have d1:decide (Int.ofNat n2>8)=false:=by simp;omega
  rw [af d1,af d1,t33 h.fit h.outer h.near h.near']
  obtain ⟨c,_,e1,_,e3,_⟩:=lm n1 f1
  rw [e1,aa,aa]
  by_cases hc:c=0
  ·have V:=e3.1 hc
   have W:=(tD h.fit h.outer h.near h.near').2 V
   subst hc
   rw [t34 h.fit h.outer V W,show l8 100 n2 g2 (Int.ofNat n2) n1 g1 100 0 (fun x55=>some x55) (some 0)=l8 100 n2 f2 (Int.ofNat n2) n1 f1 100 0 (fun x55=>some x55) (some 0) from Xl h hn V 100 0 (by omega) (by omega) (fun j hj=>by omega)]
  ·have hc' : (c != 0)=true:=by simpa using hc
   rw [ae hc',ae hc']
 ·have d1:decide (Int.ofNat n2>8)=true:=by simp;omega
  rw [ae d1,ae d1]
def Ez (fl:Bool) (t:Nat) (tx ty:Int) (p:Pt):Pt:=tr (tx,ty) (qts t (bif fl then mi p else p))
theorem KD (fl:Bool) (t:Nat) (tx ty:Int):Fit (Ez fl t tx ty) fl:=by
 cases fl with
 | true=>exact ((EO (tx,ty)).comp ((vG t).comp LR):eH (1*(1*-1)) _)
 | false=>exact ((EO (tx,ty)).comp (vG t):eH (1*1) _)
theorem HJ:∀ (t:Nat) (x y:Int),nr x y->rot t x y=qts t (x,y)/\nr (qts t (x,y)).1 (qts t (x,y)).2
 | 0,x,y,h=>⟨rfl,h⟩
 | t+1,x,y,h=>by
  have h' : nr (-y) x:=by unfold nr at *;omega
  have e:w64 (0-y) = -y:=by rw [aA]<;>(unfold nr at h;omega)
  have:=HJ t (-y) x h'
  show rot t (w64 (0-y)) x=qts t (qt (x,y))/\_
  rw [e]
  exact this
theorem U1 {fl:Bool} {t:Nat} {tx ty x y:Int} (h:nr x y) (hf:jR tx ty=false):tp fl t tx ty x y=Ez fl t tx ty (x,y):=by
 have hb:¬ (tx < -1099511627776\/tx>1099511627776\/ty < -1099511627776\/ty>1099511627776):=by
  unfold jR at hf;exact of_decide_eq_false hf
 have e:∀ X Y,nr X Y->(w64 ((rot t X Y).1+tx),w64 ((rot t X Y).2+ty))=tr (tx,ty) (qts t (X,Y)):=by
  intro X Y hX
  obtain ⟨h1,h2⟩:=HJ t X Y hX
  rw [h1]
  unfold nr at h2
  rw [aA (by omega) (by omega),aA (by omega) (by omega)]
  rfl
 unfold tp Ez
 cases fl with
 | true =>
  have e1:w64 (0-x) = -x:=by rw [aA]<;>(unfold nr at h;omega)
  simp only [cond_true,e1]
  exact e (-x) y (by unfold nr at *;omega)
 | false=>exact e x y h
theorem GX {P:Nat->Int × Int} {g:Nat->Nat->CV} {n:Nat} (h:Are P g n):∀ j,j<n->pt g j=P j:=by
 intro j hj
 obtain ⟨h1,h2⟩:=h j hj
 unfold pt
 rw [h1,h2]
 rfl
theorem Cx {fl:Bool} {t:Nat} {tx ty:Int} {n:Nat} {f g:Nat->Nat->CV} (hA:aZ n f) (hf:jR tx ty=false) (h:Are (cq fl t tx ty n f) g n):ct (Ez fl t tx ty) fl n f g:=by
 intro j hj
 rw [GX h j hj]
 unfold cq cp
 have hi:(bif fl then n-1-j else j)<n:=by cases fl<;>simp<;>omega
 exact U1 (hA _ hi) hf
theorem E4 {x y:Int} (h:nr x y):jR x y=false:=by
 unfold jR nr at *
 exact qeZ (by omega)
theorem Bu {n1 n2:Nat} {f1 f2:Nat->Nat->CV} (h1:aZ n1 f1) (h2:∀ j,j<n2->aZ ((f2 j 0).len) ((f2 j 0).el)):¬ tu (1+n2) (cfh n1 f1 f2) 0:=by
 rintro ⟨j,_,hj,i,_,hi,hb⟩
 cases j with
 | zero =>
  have:=E4 (h1 i hi)
  rw [show (cfh n1 f1 f2 0 0).el=f1 from rfl,this] at hb
  cases hb
 | succ j =>
  rw [OG] at hi hb
  rw [E4 (h2 j (by omega) i hi)] at hb
  cases hb
def Bds (f:Nat->Nat->CV) (i:Nat) (a b c d:Int):Prop :=
 (∀ j,j<i->a<=(f j 0).int/\b<=(f j 1).int/\(f j 0).int<=c/\(f j 1).int<=d) /\
 (0<i->(∃ j,j<i/\(f j 0).int=a)/\(∃ j,j<i/\(f j 1).int=b)/\(∃ j,j<i/\(f j 0).int=c)/\(∃ j,j<i/\(f j 1).int=d))
theorem Bds.step {f:Nat->Nat->CV} {i:Nat} {a b c d a' b' c' d' : Int} (hi:0<i) (h:Bds f i a b c d)
  (ha:a' = if (f i 0).int<a then (f i 0).int else a) (hb:b' = if (f i 1).int<b then (f i 1).int else b)
  (hc:c' = if (f i 0).int>c then (f i 0).int else c) (hd:d' = if (f i 1).int>d then (f i 1).int else d):Bds f (i+1) a' b' c' d':=by
 obtain ⟨h1,h2⟩:=h
 obtain ⟨⟨j1,k1,e1⟩,⟨j2,k2,e2⟩,⟨j3,k3,e3⟩,⟨j4,k4,e4⟩⟩:=h2 hi
 have q1:a'<=a/\a'<=(f i 0).int:=by rw [ha];split<;>omega
 have q2:b'<=b/\b'<=(f i 1).int:=by rw [hb];split<;>omega
 have q3:c<=c'/\(f i 0).int<=c':=by rw [hc];split<;>omega
 have q4:d<=d'/\(f i 1).int<=d':=by rw [hd];split<;>omega
 refine ⟨fun j hj=>?_,fun _=>⟨?_,?_,?_,?_⟩⟩
 ·by_cases e:j=i
  ·rw [e];exact ⟨q1.2,q2.2,q3.2,q4.2⟩
  ·obtain ⟨p1,p2,p3,p4⟩:=h1 j (by omega)
   exact ⟨by omega,by omega,by omega,by omega⟩
 ·by_cases e:(f i 0).int<a
  ·exact ⟨i,by omega,by rw [ha,if_pos e]⟩
  ·exact ⟨j1,by omega,by rw [ha,if_neg e];exact e1⟩
 ·by_cases e:(f i 1).int<b
  ·exact ⟨i,by omega,by rw [hb,if_pos e]⟩
  ·exact ⟨j2,by omega,by rw [hb,if_neg e];exact e2⟩
 ·by_cases e:(f i 0).int>c
  ·exact ⟨i,by omega,by rw [hc,if_pos e]⟩
  ·exact ⟨j3,by omega,by rw [hc,if_neg e];exact e3⟩
 ·by_cases e:(f i 1).int>d
  ·exact ⟨i,by omega,by rw [hd,if_pos e]⟩
  ·exact ⟨j4,by omega,by rw [hd,if_neg e];exact e4⟩
theorem FE {ρ:Type} (n a:Nat) (f b:Nat->Nat->CV) (k0:Int->Int->Int->Int->Option ρ) (hn:n<=40):∀ (m i:Nat) (p q r s:Int),n<m+i->i<=n->(0<i->Bds f i p q r s) ->
  ∃ p' q' r' s',sw 100 n f a b m (Int.ofNat i) p q r s k0=k0 p' q' r' s'/\(0<n->Bds f n p' q' r' s'):=by
 intro m
 induction m with
 | zero=>intro i p q r s h1 h2;omega
 | succ m ih =>
  intro i p q r s h1 h2 hB
  unfold sw
  rw [aF,ay,ao]
  by_cases h:i<n
  ·rw [ae (by simpa using h),ae (by simpa using h),ax (by omega)]
   by_cases h0:i=0
   ·subst h0
    rw [ae (by simp)]
    refine ih 1 _ _ _ _ (by omega) (by omega) fun _=>?_
    simp only [gt_iff_lt,ite_self]
    refine ⟨fun j hj=>?_,fun _=>⟨⟨0,by omega,rfl⟩,⟨0,by omega,rfl⟩,⟨0,by omega,rfl⟩,⟨0,by omega,rfl⟩⟩⟩
    have:j=0:=by omega
    subst this
    exact ⟨Int.le_refl _,Int.le_refl _,Int.le_refl _,Int.le_refl _⟩
   ·rw [af (by simp [h0])]
    exact ih (i+1) _ _ _ _ (by omega) (by omega) fun _=>(hB (by omega)).step (by omega) rfl rfl rfl rfl
  ·rw [af (by simpa using h)]
   have:i=n:=by omega
   subst this
   exact ⟨p,q,r,s,rfl,hB⟩
theorem BT (n a:Nat) (f b:Nat->Nat->CV) (hn:n<=40):∃ p q r s,F21 100 n f a b=some (p,q,r,s)/\(0<n->Bds f n p q r s):=by
 unfold F21
 exact FE n a f b _ hn 100 0 0 0 0 0 (by omega) (by omega) (fun h=>absurd h (by omega))
theorem oU (a b c:Int):F60 100 a b c=some (decide (b<=a/\a<=c)):=by
 unfold F60
 by_cases h:b<=a
 ·rw [ae (by simpa using h)]
  simp [h]
 ·rw [af (by simpa using h)]
  simp [h]
def Fine (n:Nat) (l w lo:Int):Prop:=n≠0/\(0<=l/\l<=32768)/\(0<=w/\w<=32768)/\(0<=lo/\lo<=1000)
end Go.Eng.R13
