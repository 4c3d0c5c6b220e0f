/-
 Several texts in one.
-/
import Derived.Test.YtkknnlhhchielaaGreatDoorDecT2
import Derived.Test.YtkknnlhhchielaaGreatDoorEngU
import Derived.Test.YtkknnlhhchielaaGreatDoorGeo6
import Derived.Test.YtkknnlhhchielaaGreatDoorGeo6
import Derived.Test.YtkknnlhhchielaaGreatDoorGeo6
import Derived.Test.YtkknnlhhchielaaGreatDoorGeo6
import Derived.Test.YtkknnlhhchielaaGreatDoorGeo6
/-
 slices.Reverse over points: the plain law,and the oracle's first row.
-/
set_option linter.all false
namespace Go.Eng.R13
open Go Go.RowKit Go.Eng
theorem HC (f:Nat->Nat->CV) (i:Nat) (L:Nat->CV) (a c:Nat):cm f i 0 2 L a c=if a=i/\c<2 then L c else f a c:=by
 unfold cm
 by_cases h1:a=i
 ·subst h1
  by_cases h2:c<2
  ·have:(Nat.beq a a&&Nat.ble 0 c&&Nat.blt c (0+2))=true:=by
    simp [Nat.blt_eq,h2]
   rw [this,if_pos ⟨rfl,h2⟩];rfl
  ·have:(Nat.beq a a&&Nat.ble 0 c&&Nat.blt c (0+2))=false:=by
    have:Nat.blt c (0+2)=false:=by
     cases hq:Nat.blt c (0+2) with
     | false=>rfl
     | true=>exact (h2 (by simpa [Nat.blt_eq] using hq)).elim
    rw [this];simp
   rw [this,if_neg (fun h=>h2 h.2)];rfl
 ·have:(Nat.beq a i&&Nat.ble 0 c&&Nat.blt c (0+2))=false:=by
   have:Nat.beq a i=false:=by
    cases hq:Nat.beq a i with
    | false=>rfl
    | true=>exact (h1 (qbZ hq)).elim
   simp [this]
  rw [this,if_neg (fun h=>h1 h.1)];rfl
theorem I1 (a b:CV) (c:Nat) (h:c<2):au [a,b] c=if c=0 then a else b:=by
 match c,h with
 | 0,_=>rfl
 | 1,_=>rfl
theorem Mh {ρ:Type} (fuel n:Nat) (g:Nat->Nat->CV) (hn:n<9223372036854775808) (hg:∀ i j,i<n->j<2->∃ z,g i j=.i .i64 z) (k0:(Nat->Nat->CV)->Option ρ) :
  ∀ (m i:Nat) (f:Nat->Nat->CV),n<m+i->2*i<=n+1->(∀ j c,j<n->c<2->f j c=if j<i\/n<=j+i then g (n-1-j) c else g j c) ->
   ∃ f',vg fuel n m (Int.ofNat i) (Int.ofNat n-1-Int.ofNat i) f k0=k0 f'/\∀ j c,j<n->c<2->f' j c=g (n-1-j) c:=by
 intro m
 induction m with
 | zero=>intro i f h1 h2 hf;omega
 | succ m ih =>
  intro i f h1 h2 hf
  unfold vg
  by_cases hlt:(Int.ofNat i)<Int.ofNat n-1-Int.ofNat i
  ·have hlt' : i+i+1<n:=by simp at hlt;omega
   have hx:Int.ofNat n-1-Int.ofNat i=Int.ofNat (n-1-i):=by simp;omega
   rw [ae (by simpa using hlt),hx,ax,ax]
   rw [ae (by simp;omega),ae (by simp;omega),ae (by simp;omega),ae (by simp;omega)]
   rw [ay (by omega),aq,aq,rlZ,rlZ]
   have hw:w64 (Int.ofNat (n-1-i)-1)=Int.ofNat n-1-Int.ofNat (i+1):=by
    rw [aC]<;>simp<;>omega
   rw [hw]
   refine ih (i+1) _ (by omega) (by omega) fun j c hj hc=>?_
   have val:∀ a d,a<n->d<2->CV.i .i64 ((f a d).int)=f a d:=by
    intro a d ha hd
    rw [hf a d ha hd]
    split
    ·obtain ⟨z,hz⟩:=hg (n-1-a) d (by omega) hd
     rw [hz];rfl
    ·obtain ⟨z,hz⟩:=hg a d ha hd
     rw [hz];rfl
   rw [HC,HC,I1 _ _ c hc,I1 _ _ c hc]
   rw [val _ _ (by omega) (by omega),val _ _ (by omega) (by omega),val _ _ (by omega) (by omega),val _ _ (by omega) (by omega)]
   have two:∀ a,(if c=0 then f a 0 else f a 1)=f a c:=by
    intro a
    match c,hc with
    | 0,_=>rfl
    | 1,_=>rfl
   rw [two,two]
   by_cases e1:j=n-1-i
   ·rw [if_pos ⟨e1,hc⟩,if_pos (by omega),hf i c (by omega) hc,if_neg (by omega),e1]
    congr 1;omega
   ·rw [if_neg (fun h=>e1 h.1)]
    by_cases e2:j=i
    ·rw [if_pos ⟨e2,hc⟩,if_pos (by omega),hf _ c (by omega) hc,if_neg (by omega),e2]
    ·rw [if_neg (fun h=>e2 h.1),hf j c hj hc]
     by_cases e3:j<i\/n<=j+i
     ·rw [if_pos e3,if_pos (by omega)]
     ·rw [if_neg e3,if_neg (by omega)]
  ·have hlt' : n<=i+i+1:=by simp at hlt;omega
   rw [ai (by simpa using hlt)]
   refine ⟨f,rfl,fun j c hj hc=>?_⟩
   rw [hf j c hj hc]
   split
   ·rfl
   ·have:j=n-1-j:=by omega
    rw [<- this]
theorem Qr (fuel n:Nat) (g:Nat->Nat->CV) (hn:n<fuel) (hn2:n<9223372036854775808) (hg:∀ i j,i<n->j<2->∃ z,g i j=.i .i64 z) :
  ∃ f',F52 fuel n g=some (n,f')/\∀ i j,i<n->j<2->f' i j=Gk n g i j:=by
 unfold F52 D52
 have h0:w64 (Int.ofNat n-1)=Int.ofNat n-1-Int.ofNat 0:=by
  rw [aC]<;>simp<;>omega
 rw [h0]
 obtain ⟨f',h1,h2⟩:=Mh (ρ:=Nat × (Nat->Nat->CV)) fuel n g hn2 hg (fun x=>some (n,x)) fuel 0 g (by omega) (by omega) (fun j c hj hc=>by rw [if_neg (by omega)])
 exact ⟨f',h1,h2⟩
open Geo
abbrev pt (f:Nat->Nat->CV) (i:Nat):Pt:=((f i 0).int,(f i 1).int)
theorem AH {x1 x2 x3 x4 x5 x6:Int} (ha:nr x1 x2) (hb:nr x3 x4) (hc:nr x5 x6) :
  w64 (w64 (w64 (x3-x1)*w64 (x6-x2))-w64 (w64 (x4-x2)*w64 (x5-x1)))=cross (x1,x2) (x3,x4) (x5,x6):=by
 unfold nr at *
 have h1:=vz (x:=x3-x1) (y:=x6-x2) (A:=65536) (B:=65536) (by omega) (by omega) (by omega) (by omega)
 have h2:=vz (x:=x4-x2) (y:=x5-x1) (A:=65536) (B:=65536) (by omega) (by omega) (by omega) (by omega)
 rw [aC (n:=x3-x1) (by omega) (by omega),aC (n:=x6-x2) (by omega) (by omega),aC (n:=x4-x2) (by omega) (by omega),aC (n:=x5-x1) (by omega) (by omega)]
 rw [aC (n:=(x3-x1)*(x6-x2)) (by omega) (by omega),aC (n:=(x4-x2)*(x5-x1)) (by omega) (by omega),aC (by omega) (by omega)]
 rfl
def sgn (x:Int):Int:=if x<0 then -1 else if 0<x then 1 else 0
theorem o7 {x:Int} (h:x<0):sgn x = -1:=by unfold sgn;rw [if_pos h]
theorem o6 {x:Int} (h:0<x):sgn x=1:=by unfold sgn;rw [if_neg (by omega),if_pos h]
theorem Bb:sgn 0=0:=rfl
theorem AL (s t:Int):decide (w64 (sgn s*sgn t)<0)=decide (opp s t):=by
 have e:∀ x,sgn x = -1/\x<0\/sgn x=0/\x=0\/sgn x=1/\0<x:=by
  intro x
  rcases Int.lt_trichotomy x 0 with h | h | h
  ·exact .inl ⟨o7 h,h⟩
  ·exact .inr (.inl ⟨by rw [h];rfl,h⟩)
  ·exact .inr (.inr ⟨o6 h,h⟩)
 have key:(w64 (sgn s*sgn t)<0)↔opp s t:=by
  unfold opp
  rcases e s with ⟨h1,h2⟩ | ⟨h1,h2⟩ | ⟨h1,h2⟩<;>rcases e t with ⟨h3,h4⟩ | ⟨h3,h4⟩ | ⟨h3,h4⟩<;>rw [h1,h3,aC (by decide) (by decide)]<;>simp<;>omega
 exact decide_eq_decide.2 key
theorem mL {x1 x2 x3 x4 x5 x6:Int} (ha:nr x1 x2) (hb:nr x3 x4) (hc:nr x5 x6):F79 100 x1 x2 x3 x4 x5 x6=some (cross (x1,x2) (x3,x4) (x5,x6)):=by
 unfold F79;rw [AH ha hb hc]
theorem AV {x1 x2 x3 x4 x5 x6:Int} (ha:nr x1 x2) (hb:nr x3 x4) (hc:nr x5 x6):F75 100 x1 x2 x3 x4 x5 x6=some (cross (x1,x2) (x3,x4) (x5,x6)):=by
 unfold F75;rw [AH ha hb hc]
theorem rx {x1 x2 x3 x4 x5 x6:Int} (ha:nr x1 x2) (hb:nr x3 x4) (hc:nr x5 x6):F71 100 x1 x2 x3 x4 x5 x6=some (cross (x1,x2) (x3,x4) (x5,x6)):=by
 unfold F71;rw [AH ha hb hc]
theorem A3 {x1 x2 x3 x4 x5 x6:Int} (ha:nr x1 x2) (hb:nr x3 x4) (hc:nr x5 x6):F84 100 x1 x2 x3 x4 x5 x6=some (sgn (cross (x1,x2) (x3,x4) (x5,x6))):=by
 unfold F84;rw [AH ha hb hc]
 rcases Int.lt_trichotomy (cross (x1,x2) (x3,x4) (x5,x6)) 0 with h | h | h
 ·rw [o7 h,ai (by simp;omega),ae (by simpa using h)]
 ·rw [h,Bb];rfl
 ·rw [o6 h,ae (by simpa using h)]
theorem Vd (x:Int):F86 100 x=some (sgn x):=by
 unfold F86 F89 F90
 rw [aa,aa]
 have e1:(x != x)=false:=by simp
 have e2:((0:Int) != 0)=false:=rfl
 rw [e1,e2,ai rfl,ai rfl]
 rcases Int.lt_trichotomy x 0 with h | h | h
 ·rw [o7 h,ae (by simpa using h)];rfl
 ·rw [h];rfl
 ·rw [o6 h,ai (by simp;omega),ae (by simpa using h)];rfl
theorem Vc (x:Int):F88 100 x=some (sgn x):=by
 unfold F88
 rcases Int.lt_trichotomy x 0 with h | h | h
 ·rw [o7 h,ae (by simpa using h)]
 ·rw [h];rfl
 ·rw [o6 h,ai (by simp;omega),ae (by simpa using h)]
theorem Ve (x:Int):F74 100 x=some (sgn x):=by
 unfold F74 sgn
 congr 1
 split<;>split<;>split<;>(try split)<;>omega
theorem KB (a b q:Int):(decide ((if b<a then b else a)<=q)&&decide (q<=(if b>a then b else a)))=decide (btw a b q):=by
 rw [Bool.eq_iff_iff,qaZ,decide_eq_true_iff,decide_eq_true_iff,decide_eq_true_iff]
 unfold btw
 split<;>split<;>omega
theorem Ei (x1 x2 x3 x4 x5 x6:Int):F87 100 x1 x2 x3 x4 x5 x6=some (decide (btw x1 x3 x5)&&decide (btw x2 x4 x6)):=by
 unfold F87
 rw [<- KB x1 x3 x5,<- KB x2 x4 x6]
 cases decide ((if x3<x1 then x3 else x1)<=x5)<;>cases decide (x5<=(if x3>x1 then x3 else x1))<;>cases decide ((if x4<x2 then x4 else x2)<=x6)<;>cases decide (x6<=(if x4>x2 then x4 else x2))<;>rfl
theorem KU (x1 x2 x3 x4 x5 x6:Int):F76 100 x1 x2 x3 x4 x5 x6=some (decide (btw x1 x3 x5)&&decide (btw x2 x4 x6)):=Ei x1 x2 x3 x4 x5 x6
theorem onB (x1 x2 x3 x4 x5 x6:Int):decide (On (x5,x6) (x1,x2) (x3,x4))=((cross (x1,x2) (x3,x4) (x5,x6)==0)&&(decide (btw x1 x3 x5)&&decide (btw x2 x4 x6))):=by
 rw [Bool.eq_iff_iff,qaZ,qaZ,decide_eq_true_iff,decide_eq_true_iff,decide_eq_true_iff,beq_iff_eq]
 rfl
theorem Ng {x1 x2 x3 x4 x5 x6:Int} (ha:nr x1 x2) (hb:nr x3 x4) (hc:nr x5 x6):F81 100 x1 x2 x3 x4 x5 x6=some (decide (On (x5,x6) (x1,x2) (x3,x4))):=by
 unfold F81
 rw [mL ha hb hc,aa,Ei,aa,onB]
 cases (cross (x1,x2) (x3,x4) (x5,x6)==0)<;>rfl
theorem Gy {x1 x2 x3 x4 x5 x6:Int} (ha:nr x1 x2) (hb:nr x3 x4) (hc:nr x5 x6):F70 100 x1 x2 x3 x4 x5 x6=some (decide (On (x1,x2) (x3,x4) (x5,x6))):=by
 unfold F70
 rw [rx hb hc ha,aa,onB,<- KB x3 x5 x1,<- KB x4 x6 x2]
 cases (cross (x3,x4) (x5,x6) (x1,x2)==0)<;>cases decide ((if x5<x3 then x5 else x3)<=x1)<;>cases decide (x1<=(if x5>x3 then x5 else x3))<;>cases decide ((if x6<x4 then x6 else x4)<=x2)<;>cases decide (x2<=(if x6>x4 then x6 else x4))<;>rfl
theorem QK {x1 x2 x3 x4 x5 x6:Int} (ha:nr x1 x2) (hb:nr x3 x4) (hc:nr x5 x6):F83 100 x1 x2 x3 x4 x5 x6=some (decide (On (x5,x6) (x1,x2) (x3,x4))):=by
 unfold F83
 rw [A3 ha hb hc,aa,onB,<- KB x1 x3 x5,<- KB x2 x4 x6]
 have e:(sgn (cross (x1,x2) (x3,x4) (x5,x6))==0)=(cross (x1,x2) (x3,x4) (x5,x6)==0):=by
  rcases Int.lt_trichotomy (cross (x1,x2) (x3,x4) (x5,x6)) 0 with h | h | h
  ·rw [o7 h,Bool.eq_iff_iff,beq_iff_eq,beq_iff_eq];omega
  ·rw [h,Bb]
  ·rw [o6 h,Bool.eq_iff_iff,beq_iff_eq,beq_iff_eq];omega
 rw [e]
 cases (cross (x1,x2) (x3,x4) (x5,x6)==0)<;>cases decide ((if x3<x1 then x3 else x1)<=x5)<;>cases decide (x5<=(if x3>x1 then x3 else x1))<;>cases decide ((if x4<x2 then x4 else x2)<=x6)<;>cases decide (x6<=(if x4>x2 then x4 else x2))<;>rfl
theorem IZ (x1 x2 x3 x4 x5 x6 x7 x8:Int):decide (dl (x1,x2) (x3,x4) (x5,x6) (x7,x8)) =
  (decide (On (x5,x6) (x1,x2) (x3,x4))||(decide (On (x7,x8) (x1,x2) (x3,x4))||(decide (On (x1,x2) (x5,x6) (x7,x8))||(decide (On (x3,x4) (x5,x6) (x7,x8)) ||
   (decide (opp (cross (x1,x2) (x3,x4) (x5,x6)) (cross (x1,x2) (x3,x4) (x7,x8)))&&decide (opp (cross (x5,x6) (x7,x8) (x1,x2)) (cross (x5,x6) (x7,x8) (x3,x4)))))))):=by
 rw [Bool.eq_iff_iff]
 simp only [Bool.or_eq_true,qaZ,decide_eq_true_iff]
 rfl
theorem Wc {x1 x2 x3 x4 x5 x6 x7 x8:Int} (ha:nr x1 x2) (hb:nr x3 x4) (hc:nr x5 x6) (hd:nr x7 x8):F80 100 x1 x2 x3 x4 x5 x6 x7 x8=some (decide (dl (x1,x2) (x3,x4) (x5,x6) (x7,x8))):=by
 unfold F80
 rw [Ng ha hb hc,Ng ha hb hd,Ng hc hd ha,Ng hc hd hb,mL ha hb hc,mL ha hb hd,mL hc hd ha,mL hc hd hb]
 simp only [aa,Vd,AL]
 rw [IZ]
 cases decide (On (x5,x6) (x1,x2) (x3,x4))<;>cases decide (On (x7,x8) (x1,x2) (x3,x4))<;>cases decide (On (x1,x2) (x5,x6) (x7,x8))<;>cases decide (On (x3,x4) (x5,x6) (x7,x8)) <;>
  cases decide (opp (cross (x1,x2) (x3,x4) (x5,x6)) (cross (x1,x2) (x3,x4) (x7,x8)))<;>rfl
theorem Wa {x1 x2 x3 x4 x5 x6 x7 x8:Int} (ha:nr x1 x2) (hb:nr x3 x4) (hc:nr x5 x6) (hd:nr x7 x8):F82 100 x1 x2 x3 x4 x5 x6 x7 x8=some (decide (dl (x1,x2) (x3,x4) (x5,x6) (x7,x8))):=by
 unfold F82
 rw [Gy ha hc hd,Gy hb hc hd,Gy hc ha hb,Gy hd ha hb,rx ha hb hc,rx ha hb hd,rx hc hd ha,rx hc hd hb]
 simp only [aa,Vc,AL]
 rw [IZ]
 cases decide (On (x5,x6) (x1,x2) (x3,x4))<;>cases decide (On (x7,x8) (x1,x2) (x3,x4))<;>cases decide (On (x1,x2) (x5,x6) (x7,x8))<;>cases decide (On (x3,x4) (x5,x6) (x7,x8)) <;>
  cases decide (opp (cross (x1,x2) (x3,x4) (x5,x6)) (cross (x1,x2) (x3,x4) (x7,x8)))<;>rfl
theorem Wd {x1 x2 x3 x4 x5 x6 x7 x8:Int} (ha:nr x1 x2) (hb:nr x3 x4) (hc:nr x5 x6) (hd:nr x7 x8):F68 100 x1 x2 x3 x4 x5 x6 x7 x8=some (decide (dl (x1,x2) (x3,x4) (x5,x6) (x7,x8))):=by
 unfold F68
 rw [QK ha hb hc,QK ha hb hd,QK hc hd ha,QK hc hd hb,A3 ha hb hc,A3 ha hb hd,A3 hc hd ha,A3 hc hd hb]
 simp only [aa,AL]
 rw [IZ]
 cases decide (On (x5,x6) (x1,x2) (x3,x4))<;>cases decide (On (x7,x8) (x1,x2) (x3,x4))<;>cases decide (On (x1,x2) (x5,x6) (x7,x8))<;>cases decide (On (x3,x4) (x5,x6) (x7,x8)) <;>
  cases decide (opp (cross (x1,x2) (x3,x4) (x5,x6)) (cross (x1,x2) (x3,x4) (x7,x8)))<;>rfl
theorem Xk (x:Int):(sgn x==0)=(x==0):=by
 rcases Int.lt_trichotomy x 0 with h | h | h
 ·rw [o7 h,Bool.eq_iff_iff,beq_iff_eq,beq_iff_eq];omega
 ·rw [h,Bb]
 ·rw [o6 h,Bool.eq_iff_iff,beq_iff_eq,beq_iff_eq];omega
theorem We {x1 x2 x3 x4 x5 x6 x7 x8:Int} (ha:nr x1 x2) (hb:nr x3 x4) (hc:nr x5 x6) (hd:nr x7 x8):F56 100 x1 x2 x3 x4 x5 x6 x7 x8=some (decide (dl (x1,x2) (x3,x4) (x5,x6) (x7,x8))):=by
 unfold F56
 rw [AV ha hb hc,AV ha hb hd,AV hc hd ha,AV hc hd hb]
 simp only [aa,Ve,AL,Xk,KU]
 rw [IZ,onB,onB,onB,onB]
 generalize (cross (x1,x2) (x3,x4) (x5,x6)==0)=z1
 generalize (cross (x1,x2) (x3,x4) (x7,x8)==0)=z2
 generalize (cross (x5,x6) (x7,x8) (x1,x2)==0)=z3
 generalize (cross (x5,x6) (x7,x8) (x3,x4)==0)=z4
 generalize (decide (btw x1 x3 x5)&&decide (btw x2 x4 x6))=o1
 generalize (decide (btw x1 x3 x7)&&decide (btw x2 x4 x8))=o2
 generalize (decide (btw x5 x7 x1)&&decide (btw x6 x8 x2))=o3
 generalize (decide (btw x5 x7 x3)&&decide (btw x6 x8 x4))=o4
 generalize decide (opp (cross (x1,x2) (x3,x4) (x5,x6)) (cross (x1,x2) (x3,x4) (x7,x8)))=p1
 generalize decide (opp (cross (x5,x6) (x7,x8) (x1,x2)) (cross (x5,x6) (x7,x8) (x3,x4)))=p2
 cases p1<;>cases p2<;>cases z1<;>cases o1<;>cases z2<;>cases o2<;>cases z3<;>cases o3<;>cases z4<;>cases o4<;>rfl
theorem Tf (x y:Int):∃ b,F61 100 x y=some b/\(b=false↔nr x y):=by
 unfold F61 nr
 by_cases h1:x < -32768
 ·rw [ai (by simpa using h1)]
  exact ⟨true,rfl,by simp;omega⟩
 ·rw [ae (by simpa using h1)]
  by_cases h2:x>32768
  ·rw [ai (by simpa using h2)]
   exact ⟨true,rfl,by simp;omega⟩
  ·rw [ae (by simpa using h2)]
   by_cases h3:y < -32768
   ·rw [ai (by simpa using h3)]
    exact ⟨true,rfl,by simp;omega⟩
   ·rw [ae (by simpa using h3)]
    exact ⟨_,rfl,by rw [decide_eq_false_iff_not];omega⟩
theorem NV (x y:Int):∃ b,F69 100 x y=some b/\(b=true↔nr x y):=by
 unfold F69 nr
 by_cases h1:x>=-32768
 ·rw [ae (by simpa using h1)]
  by_cases h2:x<=32768
  ·rw [ae (by simpa using h2)]
   by_cases h3:y>=-32768
   ·rw [ae (by simpa using h3)]
    exact ⟨_,rfl,by rw [decide_eq_true_iff];omega⟩
   ·rw [ai (by simpa using h3)]
    exact ⟨false,rfl,by simp;omega⟩
  ·rw [ai (by simpa using h2)]
   exact ⟨false,rfl,by simp;omega⟩
 ·rw [ai (by simpa using h1)]
  exact ⟨false,rfl,by simp;omega⟩
def dm (n:Nat) (f:Nat->Nat->CV):Prop:=∀ i,i<n->nr ((f i 0).int) ((f i 1).int)
theorem du (a n:Nat):Int.tmod (Int.ofNat a) (Int.ofNat n)=Int.ofNat (a % n):=rfl
theorem cj {n:Nat} (h:0<n):(Int.ofNat n==0)=false:=by simp;omega
theorem Cw {i:Nat} (h:i<9223372036854775800):w64 (Int.ofNat i+2)=Int.ofNat (i+2):=by
 rw [aC]<;>simp<;>omega
theorem YA (n:Nat) (f:Nat->Nat->CV) (hn:n<=60):∀ (m i:Nat),n<m+i->i<=n ->
  ∃ z,va 100 n f (Int.ofNat n) m (Int.ofNat i) (fun x=>some x) (some (-1))=some z/\(z<0↔∀ j,i<=j->j<n->nr ((f j 0).int) ((f j 1).int)):=by
 intro m
 induction m with
 | zero=>intro i h1 h2;omega
 | succ m ih =>
  intro i h1 h2
  unfold va
  rw [aE,ax,aq]
  by_cases h:i<n
  ·obtain ⟨b,hb1,hb2⟩:=Tf ((f i 0).int) ((f i 1).int)
   rw [ae (by simpa using h),ae (by simpa using h),ay (by omega),hb1,aa]
   cases b with
   | true =>
    rw [ae rfl]
    refine ⟨_,rfl,fun hh=>?_,fun hh=>?_⟩
    ·have:=rgZ i
     simp at hh;omega
    ·have:=hb2.2 (hh i (rkZ i) h);cases this
   | false =>
    rw [ai rfl]
    obtain ⟨z,h3,h4⟩:=ih (i+1) (by omega) (by omega)
    refine ⟨z,h3,h4.trans ⟨fun hh j a b=>?_,fun hh j a b=>hh j (by omega) b⟩⟩
    by_cases e:j=i
    ·rw [e];exact hb2.1 rfl
    ·exact hh j (by omega) b
  ·rw [ai (by simpa using h)]
   exact ⟨-1,rfl,fun _ j a b=>by omega,fun _=>by decide⟩
theorem YB (n:Nat) (f:Nat->Nat->CV) (hn:n<=60):∃ b,F50 100 n f=some b/\(b=false↔dm n f):=by
 unfold F50 F73
 obtain ⟨z,h1,h2⟩:=YA n f hn 100 0 (by omega) (by omega)
 rw [show (0:Int)=Int.ofNat 0 from rfl,h1,aa]
 refine ⟨_,rfl,?_⟩
 rw [decide_eq_false_iff_not]
 have e:(¬ z>=Int.ofNat 0)↔z<0:=by simp
 rw [e,h2]
 exact ⟨fun h i hi=>h i (by omega) hi,fun h i _ hi=>h i hi⟩
theorem J5 (n:Nat) (f:Nat->Nat->CV) (hn:n<=60):∀ (m i:Nat),n<m+i->i<=n ->
  ∃ b,ve 100 n f m (Int.ofNat i) (some false) (some true)=some b/\(b=true↔∀ j,i<=j->j<n->nr ((f j 0).int) ((f j 1).int)):=by
 intro m
 induction m with
 | zero=>intro i h1 h2;omega
 | succ m ih =>
  intro i h1 h2
  unfold ve
  rw [aE,ax,aq]
  by_cases h:i<n
  ·obtain ⟨b,hb1,hb2⟩:=NV ((f i 0).int) ((f i 1).int)
   rw [ae (by simpa using h),ae (by simpa using h),ay (by omega),hb1,aa]
   cases b with
   | true =>
    rw [ai (show (!true)=false from rfl)]
    obtain ⟨z,h3,h4⟩:=ih (i+1) (by omega) (by omega)
    refine ⟨z,h3,h4.trans ⟨fun hh j a b=>?_,fun hh j a b=>hh j (by omega) b⟩⟩
    by_cases e:j=i
    ·rw [e];exact hb2.1 rfl
    ·exact hh j (by omega) b
   | false =>
    rw [ae (show (!false)=true from rfl)]
    refine ⟨false,rfl,fun hh=>(by cases hh),fun hh=>?_⟩
    have:=hb2.2 (hh i (rkZ i) h);cases this
  ·rw [ai (by simpa using h)]
   exact ⟨true,rfl,fun _ j a b=>by omega,fun _=>rfl⟩
theorem V9 (n:Nat) (f:Nat->Nat->CV) (hn:n<=60):∃ b,F66 100 n f=some b/\(b=true↔dm n f):=by
 unfold F66
 obtain ⟨z,h1,h2⟩:=J5 n f hn 100 0 (by omega) (by omega)
 rw [show (0:Int)=Int.ofNat 0 from rfl,h1]
 exact ⟨_,rfl,h2.trans ⟨fun h i hi=>h i (by omega) hi,fun h i _ hi=>h i hi⟩⟩
def tj (n:Nat) (p:Nat->Pt) (i k:Nat):Prop:=∃ k',k<=k'/\k' < n/\nx n k'≠i/\dl (p i) (p (nx n i)) (p k') (p (nx n k'))
theorem tj.step {n:Nat} {p:Nat->Pt} {i k:Nat} (h:¬ (nx n k≠i/\dl (p i) (p (nx n i)) (p k) (p (nx n k)))):tj n p i k↔tj n p i (k+1):=by
 constructor
 ·rintro ⟨k',a,b,c,d⟩
  refine ⟨k',?_,b,c,d⟩
  by_cases e:k' = k
  ·subst e;exact absurd ⟨c,d⟩ h
  ·omega
 ·rintro ⟨k',a,b,c,d⟩
  exact ⟨k',by omega,b,c,d⟩
theorem QR {ρ:Type} (n i:Nat) (f:Nat->Nat->CV) (hn:n<=32) (h0:3<=n) (hi:i<n) (hA:dm n f) (c1 c2:Int) (k0 k1:Option ρ):∀ (m k:Nat),n+2<m+k->k<=n+1 ->
  (tj n (pt f) i k->my 100 n f (Int.ofNat n) (Int.ofNat i) ((f i 0).int) ((f i 1).int) ((f (nx n i) 0).int) ((f (nx n i) 1).int) c1 c2 m (Int.ofNat k) k0 k1=k0) /\
  (¬ tj n (pt f) i k->my 100 n f (Int.ofNat n) (Int.ofNat i) ((f i 0).int) ((f i 1).int) ((f (nx n i) 0).int) ((f (nx n i) 1).int) c1 c2 m (Int.ofNat k) k0 k1=k1):=by
 intro m
 induction m with
 | zero =>
  intro k h1 h2;omega
 | succ m ih =>
  intro k h1 h2
  unfold my
  rw [aE]
  by_cases h:k<n
  ·have hx:nx n k<n:=cO h0
   have hm:nr ((f i 0).int) ((f i 1).int):=hA i hi
   rw [ae (by simpa using h),ai (cj (by omega)),ay (by omega),du,ax,ax,aq,aq,ai (cj (by omega))]
   have e:(k+1) % n=nx n k:=rfl
   rw [e]
   by_cases hne:nx n k≠i
   ·rw [ae (by simp;omega),ae (by simpa using h),ae (by simpa using hx),Wc hm (hA _ (cO h0)) (hA k h) (hA _ hx),aa]
    by_cases hM:dl (pt f i) (pt f (nx n i)) (pt f k) (pt f (nx n k))
    ·rw [ae (qcZ hM)]
     exact ⟨fun _=>rfl,fun hh=>absurd ⟨k,rkZ k,h,hne,hM⟩ hh⟩
    ·rw [ai (qeZ hM),tj.step (fun hh=>hM hh.2)]
     exact ih (k+1) (by omega) (by omega)
   ·rw [ai (by simp;omega),tj.step (fun hh=>hne hh.1)]
    exact ih (k+1) (by omega) (by omega)
  ·rw [ai (by simpa using h)]
   exact ⟨fun ⟨k',a,b,_⟩=>by omega,fun _=>rfl⟩
theorem QQ {ρ:Type} (n i:Nat) (f:Nat->Nat->CV) (hn:n<=32) (h0:3<=n) (hi:i<n) (hA:dm n f) (c1 c2:Int) (k0 k1:Option ρ):∀ (m k:Nat),n+2<m+k->k<=n+1 ->
  (tj n (pt f) i k->oT 100 n f (Int.ofNat n) (Int.ofNat i) ((f i 0).int) ((f i 1).int) ((f (nx n i) 0).int) ((f (nx n i) 1).int) c1 c2 m (Int.ofNat k) k0 k1=k0) /\
  (¬ tj n (pt f) i k->oT 100 n f (Int.ofNat n) (Int.ofNat i) ((f i 0).int) ((f i 1).int) ((f (nx n i) 0).int) ((f (nx n i) 1).int) c1 c2 m (Int.ofNat k) k0 k1=k1):=by
 intro m
 induction m with
 | zero =>
  intro k h1 h2;omega
 | succ m ih =>
  intro k h1 h2
  unfold oT
  rw [aE]
  by_cases h:k<n
  ·have hx:nx n k<n:=cO h0
   have hm:nr ((f i 0).int) ((f i 1).int):=hA i hi
   rw [ae (by simpa using h),ai (cj (by omega)),ay (by omega),du,ax,ax,aq,aq,ai (cj (by omega))]
   have e:(k+1) % n=nx n k:=rfl
   rw [e]
   by_cases hne:nx n k≠i
   ·rw [ae (by simp;omega),ae (by simpa using h),ae (by simpa using hx),Wa hm (hA _ (cO h0)) (hA k h) (hA _ hx),aa]
    by_cases hM:dl (pt f i) (pt f (nx n i)) (pt f k) (pt f (nx n k))
    ·rw [ae (qcZ hM)]
     exact ⟨fun _=>rfl,fun hh=>absurd ⟨k,rkZ k,h,hne,hM⟩ hh⟩
    ·rw [ai (qeZ hM),tj.step (fun hh=>hM hh.2)]
     exact ih (k+1) (by omega) (by omega)
   ·rw [ai (by simp;omega),tj.step (fun hh=>hne hh.1)]
    exact ih (k+1) (by omega) (by omega)
  ·rw [ai (by simpa using h)]
   exact ⟨fun ⟨k',a,b,_⟩=>by omega,fun _=>rfl⟩
theorem nx2 {n i:Nat} (h0:3<=n) (hi:i<n):(i+2) % n=nx n (nx n i):=by
 rcases oB hi with ⟨h1,h2⟩ | ⟨h1,h2⟩
 ·rw [h2];rfl
 ·rw [h2]
  show (i+2) % n=(0+1) % n
  rw [show i+2=1+n from by omega,Nat.add_mod_right]
theorem Xg {x1 x2 x3 x4 x5 x6:Int} (ha:nr x1 x2) (hb:nr x3 x4) (hc:nr x5 x6) :
  w64 (w64 (w64 (x1-x3)*w64 (x5-x3))+w64 (w64 (x2-x4)*w64 (x6-x4)))=dot (x1,x2) (x3,x4) (x5,x6):=by
 unfold nr at *
 have h1:=vz (x:=x1-x3) (y:=x5-x3) (A:=65536) (B:=65536) (by omega) (by omega) (by omega) (by omega)
 have h2:=vz (x:=x2-x4) (y:=x6-x4) (A:=65536) (B:=65536) (by omega) (by omega) (by omega) (by omega)
 rw [aC (n:=x1-x3) (by omega) (by omega),aC (n:=x5-x3) (by omega) (by omega),aC (n:=x2-x4) (by omega) (by omega),aC (n:=x6-x4) (by omega) (by omega)]
 rw [aC (n:=(x1-x3)*(x5-x3)) (by omega) (by omega),aC (n:=(x2-x4)*(x6-x4)) (by omega) (by omega),aC (by omega) (by omega)]
 rfl
theorem eqB (a b c d:Int):((a==c)&&((b==d)&&true))=decide (((a,b):Pt)=(c,d)):=by
 rw [Bool.eq_iff_iff,qaZ,Bool.and_true,beq_iff_eq,beq_iff_eq,decide_eq_true_iff,Prod.mk.injEq]
def OkP (n:Nat) (p:Nat->Pt) (i:Nat):Prop:=p i≠p (nx n i)/\¬ (cross (p i) (p (nx n i)) (p (nx n (nx n i)))=0/\0<dot (p i) (p (nx n i)) (p (nx n (nx n i))))/\¬ tj n p i (i+2)
theorem QL {n:Nat} {p:Nat->Pt}:AY n p↔∀ i,0<=i->i<n->OkP n p i:=by
 constructor
 ·intro h i _ hi
  obtain ⟨h1,h2,h3⟩:=h i hi
  exact ⟨h1,h2,fun ⟨k,a,b,c,d⟩=>h3 k a b c d⟩
 ·intro h i hi
  obtain ⟨h1,h2,h3⟩:=h i (by omega) hi
  exact ⟨h1,h2,fun k a b c d=>h3 ⟨k,a,b,c,d⟩⟩
theorem mw {n i:Nat} {Q:Nat->Prop} (h:Q i):(∀ j,i<=j->j<n->Q j)↔∀ j,i+1<=j->j<n->Q j:=by
 refine ⟨fun hh j a b=>hh j (by omega) b,fun hh j a b=>?_⟩
 by_cases e:j=i
 ·rw [e];exact h
 ·exact hh j (by omega) b
theorem Lg (n:Nat) (f:Nat->Nat->CV) (hn:n<=32) (h0:3<=n) (hA:dm n f):∀ (m i:Nat),n<m+i->i<=n ->
  ∃ r,oj 100 n f (Int.ofNat n) m (Int.ofNat i) (fun _ _ _ _=>some false) (fun _ _ _ _ _ _=>some false) (some true)=some r/\(r=true↔∀ j,i<=j->j<n->OkP n (pt f) j):=by
 intro m
 induction m with
 | zero=>intro i h1 h2;omega
 | succ m ih =>
  intro i h1 h2
  unfold oj
  rw [aE,ax,aq]
  by_cases h:i<n
  ·have hx:nx n i<n:=cO h0
   have hxx:nx n (nx n i)<n:=cO h0
   have e1:(i+1) % n=nx n i:=rfl
   have no:¬ OkP n (pt f) i->∃ r:Bool,(some false:Option Bool)=some r/\(r=true↔∀ j,i<=j->j<n->OkP n (pt f) j):=fun hh=>⟨false,rfl,fun h'=>(by cases h'),fun h'=>absurd (h' i (rkZ i) h) hh⟩
   rw [ae (by simpa using h),ae (by simpa using h),ai (cj (by omega)),ay (by omega),Cw (by omega),du,du,ax,ax,aq,aq,e1,nx2 h0 h,
    ae (by simpa using hx),eqB]
   by_cases heq:pt f i=pt f (nx n i)
   ·rw [ae (qcZ heq)]
    exact no fun hh=>hh.1 heq
   ·rw [ai (qeZ heq),ai (cj (by omega)),ae (by simpa using hxx),mL (hA i h) (hA _ hx) (hA _ hxx),aa,Xg (hA i h) (hA _ hx) (hA _ hxx)]
    have tail:¬ (cross (pt f i) (pt f (nx n i)) (pt f (nx n (nx n i)))=0/\0<dot (pt f i) (pt f (nx n i)) (pt f (nx n (nx n i)))) ->
      ∃ r,my 100 n f (Int.ofNat n) (Int.ofNat i) ((f i 0).int) ((f i 1).int) ((f (nx n i) 0).int) ((f (nx n i) 1).int) ((f (nx n (nx n i)) 0).int) ((f (nx n (nx n i)) 1).int) 100 (Int.ofNat (i+2)) (some false)
       (oj 100 n f (Int.ofNat n) m (Int.ofNat (i+1)) (fun _ _ _ _=>some false) (fun _ _ _ _ _ _=>some false) (some true))=some r/\(r=true↔∀ j,i<=j->j<n->OkP n (pt f) j):=by
     intro hc
     obtain ⟨m1,m2⟩:=QR n i f hn h0 h hA ((f (nx n (nx n i)) 0).int) ((f (nx n (nx n i)) 1).int) (some false) (oj 100 n f (Int.ofNat n) m (Int.ofNat (i+1)) (fun _ _ _ _=>some false) (fun _ _ _ _ _ _=>some false) (some true)) 100 (i+2) (by omega) (by omega)
     by_cases hb:tj n (pt f) i (i+2)
     ·rw [m1 hb]
      exact no fun hh=>hh.2.2 hb
     ·rw [m2 hb,mw (Q:=OkP n (pt f)) ⟨heq,hc,hb⟩]
      exact ih (i+1) (by omega) (by omega)
    by_cases hz:cross (pt f i) (pt f (nx n i)) (pt f (nx n (nx n i)))=0
    ·rw [ae (by rw [show cross ((f i 0).int,(f i 1).int) ((f (nx n i) 0).int,(f (nx n i) 1).int) ((f (nx n (nx n i)) 0).int,(f (nx n (nx n i)) 1).int)=0 from hz];rfl)]
     by_cases hd:0<dot (pt f i) (pt f (nx n i)) (pt f (nx n (nx n i)))
     ·rw [ae (qcZ hd)]
      exact no fun hh=>hh.2.1 ⟨hz,hd⟩
     ·rw [ai (qeZ hd)]
      exact tail fun hh=>hd hh.2
    ·rw [ai (by rw [show (cross ((f i 0).int,(f i 1).int) ((f (nx n i) 0).int,(f (nx n i) 1).int) ((f (nx n (nx n i)) 0).int,(f (nx n (nx n i)) 1).int)==0)=false from by rw [beq_eq_false_iff_ne];exact hz];rfl)]
     exact tail fun hh=>hz hh.1
  ·rw [ai (by simpa using h)]
   exact ⟨true,rfl,fun _ j a b=>by omega,fun _=>rfl⟩
theorem Ds (n:Nat) (f:Nat->Nat->CV) (hn:n<=32) (h0:3<=n) (hA:dm n f):∃ r,F62 100 n f=some r/\(r=true↔AY n (pt f)):=by
 unfold F62
 obtain ⟨r,h1,h2⟩:=Lg n f hn h0 hA 100 0 (by omega) (by omega)
 exact ⟨r,h1,h2.trans QL.symm⟩
theorem GY {ρ:Type} (n i:Nat) (f:Nat->Nat->CV) (hn:n<=32) (hi:i<n) (c:Int) (k0 k1:Option ρ):∀ (m k:Nat),i<m+k->k<=i ->
  ((∃ j,k<=j/\j<i/\pt f i=pt f j)->rR 100 n f c (Int.ofNat i) m (Int.ofNat k) k0 k1=k0)/\(¬ (∃ j,k<=j/\j<i/\pt f i=pt f j)->rR 100 n f c (Int.ofNat i) m (Int.ofNat k) k0 k1=k1):=by
 intro m
 induction m with
 | zero=>intro k h1 h2;omega
 | succ m ih =>
  intro k h1 h2
  unfold rR
  rw [aE,ax,ax,aq,aq]
  by_cases h:k<i
  ·have hkn:k<n:=by omega
   rw [ae (by simpa using h),ae (by simpa using hi),ae (by simpa using hkn),ay (by omega),eqB]
   by_cases heq:pt f i=pt f k
   ·rw [ae (qcZ heq)]
    exact ⟨fun _=>rfl,fun hh=>absurd ⟨k,rkZ k,h,heq⟩ hh⟩
   ·rw [ai (qeZ heq)]
    have e:(∃ j,k<=j/\j<i/\pt f i=pt f j)↔∃ j,k+1<=j/\j<i/\pt f i=pt f j:=by
     refine ⟨fun ⟨j,a,b,c⟩=>⟨j,?_,b,c⟩,fun ⟨j,a,b,c⟩=>⟨j,by omega,b,c⟩⟩
     by_cases e:j=k
     ·subst e;exact absurd c heq
     ·omega
    rw [e]
    exact ih (k+1) (by omega) (by omega)
  ·rw [ai (by simpa using h)]
   exact ⟨fun ⟨j,a,b,_⟩=>by omega,fun _=>rfl⟩
theorem GX {ρ:Type} (n:Nat) (f:Nat->Nat->CV) (hn:n<=32) (k0 k1:Option ρ):∀ (m i:Nat),n<m+i->i<=n ->
  ((∀ j,i<=j->j<n->∀ k,k<j->pt f j≠pt f k)->oU 100 n f (Int.ofNat n) m (Int.ofNat i) k0 k1=k1)/\(¬ (∀ j,i<=j->j<n->∀ k,k<j->pt f j≠pt f k)->oU 100 n f (Int.ofNat n) m (Int.ofNat i) k0 k1=k0):=by
 intro m
 induction m with
 | zero=>intro i h1 h2;omega
 | succ m ih =>
  intro i h1 h2
  unfold oU
  rw [aE]
  by_cases h:i<n
  ·rw [ae (by simpa using h),ay (by omega),show (0:Int)=Int.ofNat 0 from rfl]
   obtain ⟨m1,m2⟩:=GY n i f hn h (Int.ofNat n) k0 (oU 100 n f (Int.ofNat n) m (Int.ofNat (i+1)) k0 k1) 100 0 (by omega) (by omega)
   by_cases hb:∃ j,0<=j/\j<i/\pt f i=pt f j
   ·rw [m1 hb]
    refine ⟨fun hh=>?_,fun _=>rfl⟩
    obtain ⟨j,_,b,c⟩:=hb
    exact absurd c (hh i (rkZ i) h j b)
   ·rw [m2 hb]
    rw [mw (Q:=fun j=>∀ k,k<j->pt f j≠pt f k) (fun k hk hh=>hb ⟨k,by omega,hk,hh⟩)]
    exact ih (i+1) (by omega) (by omega)
  ·rw [ai (by simpa using h)]
   exact ⟨fun _=>rfl,fun hh=>absurd (fun j a b=>by omega) hh⟩
def OkR (n:Nat) (p:Nat->Pt) (i:Nat):Prop:=¬ On (p i) (p (nx n i)) (p (nx n (nx n i)))/\¬ On (p (nx n (nx n i))) (p i) (p (nx n i))/\¬ tj n p i (i+2)
theorem Lf (n:Nat) (f:Nat->Nat->CV) (hn:n<=32) (h0:3<=n) (hA:dm n f):∀ (m i:Nat),n<m+i->i<=n ->
  ∃ r,oS 100 n f (Int.ofNat n) m (Int.ofNat i) (fun _ _ _ _ _ _=>some false) (some true)=some r/\(r=true↔∀ j,i<=j->j<n->OkR n (pt f) j):=by
 intro m
 induction m with
 | zero=>intro i h1 h2;omega
 | succ m ih =>
  intro i h1 h2
  unfold oS
  rw [aE,ax,aq]
  by_cases h:i<n
  ·have hx:nx n i<n:=cO h0
   have hxx:nx n (nx n i)<n:=cO h0
   have e1:(i+1) % n=nx n i:=rfl
   have no:¬ OkR n (pt f) i->∃ r:Bool,(some false:Option Bool)=some r/\(r=true↔∀ j,i<=j->j<n->OkR n (pt f) j):=fun hh=>⟨false,rfl,fun h'=>(by cases h'),fun h'=>absurd (h' i (rkZ i) h) hh⟩
   rw [ae (by simpa using h),ae (by simpa using h),ai (cj (by omega)),ay (by omega),Cw (by omega),du,du,ax,ax,aq,aq,e1,nx2 h0 h,
    ae (by simpa using hx),ai (cj (by omega)),ae (by simpa using hxx),Gy (hA i h) (hA _ hx) (hA _ hxx),aa,Gy (hA _ hxx) (hA i h) (hA _ hx),aa]
   by_cases ho1:On (pt f i) (pt f (nx n i)) (pt f (nx n (nx n i)))
   ·rw [ai (by rw [qcZ ho1];rfl)]
    exact no fun hh=>hh.1 ho1
   ·rw [ae (by rw [qeZ ho1];rfl)]
    by_cases ho2:On (pt f (nx n (nx n i))) (pt f i) (pt f (nx n i))
    ·rw [ae (qcZ ho2)]
     exact no fun hh=>hh.2.1 ho2
    ·rw [ai (qeZ ho2)]
     obtain ⟨m1,m2⟩:=QQ n i f hn h0 h hA ((f (nx n (nx n i)) 0).int) ((f (nx n (nx n i)) 1).int) (some false) (oS 100 n f (Int.ofNat n) m (Int.ofNat (i+1)) (fun _ _ _ _ _ _=>some false) (some true)) 100 (i+2) (by omega) (by omega)
     by_cases hb:tj n (pt f) i (i+2)
     ·rw [m1 hb]
      exact no fun hh=>hh.2.2 hb
     ·rw [m2 hb,mw (Q:=OkR n (pt f)) ⟨ho1,ho2,hb⟩]
      exact ih (i+1) (by omega) (by omega)
  ·rw [ai (by simpa using h)]
   exact ⟨true,rfl,fun _ j a b=>by omega,fun _=>rfl⟩
theorem Dr (n:Nat) (f:Nat->Nat->CV) (hn:n<=32) (h0:3<=n) (hA:dm n f):∃ r,F67 100 n f=some r/\(r=true↔D4 n (pt f)):=by
 unfold F67
 obtain ⟨m1,m2⟩:=GX n f hn (some false) (oS 100 n f (Int.ofNat n) 100 (Int.ofNat 0) (fun _ _ _ _ _ _=>some false) (some true)) 100 0 (by omega) (by omega)
 obtain ⟨r,h1,h2⟩:=Lf n f hn h0 hA 100 0 (by omega) (by omega)
 rw [show (0:Int)=Int.ofNat 0 from rfl]
 by_cases hd:∀ j,0<=j->j<n->∀ k,k<j->pt f j≠pt f k
 ·rw [m1 hd,h1]
  refine ⟨r,rfl,h2.trans ⟨fun hh=>⟨fun i hi k hk=>hd i (by omega) hi k hk,fun i hi=>?_⟩,fun hh j _ hj=>?_⟩⟩
  ·obtain ⟨a,b,c⟩:=hh i (by omega) hi
   exact ⟨a,b,fun k h1 h2 h3 h4=>c ⟨k,h1,h2,h3,h4⟩⟩
  ·obtain ⟨a,b,c⟩:=hh.2 j hj
   exact ⟨a,b,fun ⟨k,h1,h2,h3,h4⟩=>c k h1 h2 h3 h4⟩
 ·rw [m2 hd]
  exact ⟨false,rfl,fun hh=>(by cases hh),fun hh=>absurd (fun j _ hj k hk=>hh.1 j hj k hk) hd⟩
theorem Do {a b c d:Int} (h1:nr a b) (h2:nr c d):(-1073741824<=a*d/\a*d<=1073741824)/\(-1073741824<=c*b/\c*b<=1073741824):=by
 unfold nr at *
 have k1:=vz (x:=a) (y:=d) (A:=32768) (B:=32768) (by omega) (by omega) (by omega) (by omega)
 have k2:=vz (x:=c) (y:=b) (A:=32768) (B:=32768) (by omega) (by omega) (by omega) (by omega)
 omega
def jW (n:Nat) (f:Nat->Nat->CV) (i:Nat):Int:=(pt f i).1*(pt f (nx n i)).2-(pt f (nx n i)).1*(pt f i).2
theorem OO {n:Nat} {f:Nat->Nat->CV} (h0:3<=n) (hA:dm n f) {i:Nat} (hi:i<n) : -2147483648<=jW n f i/\jW n f i<=2147483648:=by
 have:=Do (hA i hi) (hA _ (cO (i:=i) h0))
 unfold jW
 dsimp only
 omega
theorem tW {n:Nat} {f:Nat->Nat->CV} (h0:3<=n) (hA:dm n f):∀ i,i<=n->-2147483648*(i:Int)<=sm i (jW n f)/\sm i (jW n f)<=2147483648*(i:Int)
 | 0,_=>by simp [sm]
 | i+1,h=>by
  have h1:=tW h0 hA i (by omega)
  have h2:=OO h0 hA (i:=i) (by omega)
  rw [sm]
  omega
theorem WT {ρ:Type} (n:Nat) (f:Nat->Nat->CV) (hn:n<=32) (h0:3<=n) (hA:dm n f) (k0:Int->Option ρ):∀ (m i:Nat),n<m+i->i<=n ->
  vf 100 n f (Int.ofNat n) m (sm i (jW n f)) (Int.ofNat i) k0=k0 (sm n (jW n f)):=by
 intro m
 induction m with
 | zero=>intro i h1 h2;omega
 | succ m ih =>
  intro i h1 h2
  unfold vf
  rw [aE,ax,aq]
  by_cases h:i<n
  ·have hx:nx n i<n:=cO h0
   have e1:(i+1) % n=nx n i:=rfl
   have b1:=Do (hA i h) (hA _ hx)
   have b2:=tW h0 hA i h2
   have b3:=tW h0 hA (i+1) (by omega)
   have e2:sm (i+1) (jW n f)=sm i (jW n f)+(((f i 0).int)*((f (nx n i) 1).int)-((f (nx n i) 0).int)*((f i 1).int)):=rfl
   rw [ae (by simpa using h),ae (by simpa using h),ai (cj (by omega)),ay (by omega),du,ax,aq,e1,ae (by simpa using hx)]
   rw [aC (n:=(f i 0).int*(f (nx n i) 1).int) (by omega) (by omega),aC (n:=(f (nx n i) 0).int*(f i 1).int) (by omega) (by omega),aC (n:=(f i 0).int*(f (nx n i) 1).int-(f (nx n i) 0).int*(f i 1).int) (by omega) (by omega)]
   rw [aC (by omega) (by omega),<- e2]
   exact ih (i+1) (by omega) (by omega)
  ·rw [ai (by simpa using h)]
   have:i=n:=by omega
   rw [this]
theorem sS (n:Nat) (f:Nat->Nat->CV) (hn:n<=32) (h0:3<=n) (hA:dm n f):F63 100 n f=some (BQ n (pt f)):=by
 unfold F63
 exact WT n f hn h0 hA some 100 0 (by omega) (by omega)
theorem G2 {ρ:Type} (n:Nat) (f:Nat->Nat->CV) (hn:n<=32) (h0:3<=n) (hA:dm n f) (k0:Int->Option ρ):∀ (m i:Nat),n<m+i->i<=n ->
  vj 100 n f m (sm i (jW n f)) (Int.ofNat i) k0=k0 (sm n (jW n f)):=by
 intro m
 induction m with
 | zero=>intro i h1 h2;omega
 | succ m ih =>
  intro i h1 h2
  unfold vj
  rw [aE,ax,aq]
  by_cases h:i<n
  ·have hx:nx n i<n:=cO h0
   have e1:(i+1) % n=nx n i:=rfl
   have b1:=Do (hA i h) (hA _ hx)
   have b2:=tW h0 hA i h2
   have b3:=tW h0 hA (i+1) (by omega)
   have e2:sm (i+1) (jW n f)=sm i (jW n f)+(((f i 0).int)*((f (nx n i) 1).int)-((f (nx n i) 0).int)*((f i 1).int)):=rfl
   have e3:(f i 1).int*(f (nx n i) 0).int=(f (nx n i) 0).int*(f i 1).int:=Int.mul_comm _ _
   rw [ae (by simpa using h),ae (by simpa using h),ai (cj (by omega)),ay (by omega),du,ax,aq,e1,ae (by simpa using hx),e3]
   rw [aC (n:=(f i 0).int*(f (nx n i) 1).int) (by omega) (by omega),aC (n:=(f (nx n i) 0).int*(f i 1).int) (by omega) (by omega),aC (n:=sm i (jW n f)+(f i 0).int*(f (nx n i) 1).int) (by omega) (by omega)]
   rw [aC (by omega) (by omega),show sm i (jW n f)+(f i 0).int*(f (nx n i) 1).int-(f (nx n i) 0).int*(f i 1).int=sm (i+1) (jW n f) from by rw [e2];omega]
   exact ih (i+1) (by omega) (by omega)
  ·rw [ai (by simpa using h)]
   have:i=n:=by omega
   rw [this]
structure dG (n:Nat) (f:Nat->Nat->CV):Prop where
 big:3<=n
 small:n<=32
 near:dm n f
 simple:D5 n (pt f)
 ar:BQ n (pt f)≠0
theorem ry (n:Nat) (f:Nat->Nat->CV):∃ c d,F33 100 n f=some c/\F37 100 n f=some d/\(c=0↔dG n f)/\(d=c\/(d=0/\c=17/\3<=n/\n<=32/\dm n f/\BQ n (pt f)=0)):=by
 unfold F33 F37
 by_cases h1:n<3
 ·have d1:decide (Int.ofNat n<3)=true:=by simp;omega
  rw [ae d1,ae d1]
  exact ⟨3,3,rfl,rfl,⟨fun h=>(by cases h),fun h=>by have:=h.big;omega⟩,.inl rfl⟩
 ·have d1:decide (Int.ofNat n<3)=false:=by simp;omega
  rw [ai d1,ai d1]
  by_cases h2:n<=32
  ·have d2:decide (Int.ofNat n>32)=false:=by simp;omega
   rw [ai d2,ai d2]
   obtain ⟨b,hb1,hb2⟩:=YB n f (by omega)
   obtain ⟨d,hd1,hd2⟩:=V9 n f (by omega)
   rw [hb1,hd1,aa,aa]
   by_cases hA:dm n f
   ·have eb:=hb2.2 hA
    have ed:=hd2.2 hA
    subst eb;subst ed
    obtain ⟨r,hr1,hr2⟩:=Ds n f h2 (by omega) hA
    obtain ⟨s,hs1,hs2⟩:=Dr n f h2 (by omega) hA
    rw [ai rfl,ai (show (!true)=false from rfl),hr1,hs1,aa,aa]
    by_cases hS:AY n (pt f)
    ·have er:=hr2.2 hS
     have es:=hs2.2 ((o5 (by omega)).1 hS)
     subst er;subst es
     by_cases ha:BQ n (pt f)=0
     ·rw [ae (by rfl),ai (show (!true)=false from rfl),sS n f h2 (by omega) hA,aa,ae (by simpa using ha)]
      exact ⟨17,0,rfl,rfl,⟨fun h=>(by cases h),fun h=>absurd ha h.ar⟩,.inr ⟨rfl,rfl,by omega,h2,hA,ha⟩⟩
     ·rw [ae (by rfl),ai (show (!true)=false from rfl),sS n f h2 (by omega) hA,aa,ai (by simpa using ha)]
      exact ⟨0,0,rfl,rfl,⟨fun _=>⟨by omega,h2,hA,(vX (by omega)).1 ((o5 (by omega)).1 hS),ha⟩,fun _=>rfl⟩,.inl rfl⟩
    ·have er:r=false:=by
      cases r with
      | false=>rfl
      | true=>exact absurd (hr2.1 rfl) hS
     have es:s=false:=by
      cases s with
      | false=>rfl
      | true=>exact absurd ((o5 (by omega)).2 (hs2.1 rfl)) hS
     subst er;subst es
     rw [ai (by rfl),ae (show (!false)=true from rfl)]
     exact ⟨17,17,rfl,rfl,⟨fun h=>(by cases h),fun h=>absurd ((o5 (by omega)).2 ((vX (by omega)).2 h.simple)) hS⟩,.inl rfl⟩
   ·have eb:b=true:=by
     cases b with
     | false=>exact absurd (hb2.1 rfl) hA
     | true=>rfl
    have ed:d=false:=by
     cases d with
     | false=>rfl
     | true=>exact absurd (hd2.1 rfl) hA
    subst eb;subst ed
    rw [ae rfl,ae (show (!false)=true from rfl)]
    exact ⟨9,9,rfl,rfl,⟨fun h=>(by cases h),fun h=>absurd h.near hA⟩,.inl rfl⟩
  ·have d2:decide (Int.ofNat n>32)=true:=by simp;omega
   rw [ae d2,ae d2]
   exact ⟨4,4,rfl,rfl,⟨fun h=>(by cases h),fun h=>by have:=h.small;omega⟩,.inl rfl⟩
theorem tX (n:Nat) (f:Nat->Nat->CV):∃ a,F34 100 n f=some a/\F38 100 n f=some a/\(dG n f->a=BQ n (pt f)):=by
 obtain ⟨c,d,h1,h2,h3,h4⟩:=ry n f
 unfold F34 F38
 rw [h1,h2,aa,aa]
 by_cases hc:c=0
 ·have hd:d=0:=by omega
  subst hc;subst hd
  have V:=h3.1 rfl
  have hs:=V.small
  rw [ai (by rfl),ai (by rfl),sS n f V.small V.big V.near,aa]
  exact ⟨_,rfl,G2 n f V.small V.big V.near some 100 0 (by omega) (by omega),fun _=>rfl⟩
 ·rw [ae (by simpa using hc)]
  rcases h4 with rfl | ⟨rfl,_,b1,b2,b3,b4⟩
  ·rw [ae (by simpa using hc)]
   exact ⟨0,rfl,rfl,fun V=>absurd (h3.2 V) hc⟩
  ·rw [ai (by rfl)]
   exact ⟨0,rfl,(G2 n f b2 b1 b3 some 100 0 (by omega) (by omega)).trans (congrArg some b4),fun V=>absurd (h3.2 V) hc⟩
def OnC (n:Nat) (p:Nat->Pt) (q:Pt) (i:Nat):Prop:=∃ j,i<=j/\j<n/\On q (p j) (p (nx n j))
theorem OnC.step {n:Nat} {p:Nat->Pt} {q:Pt} {i:Nat} (h:¬ On q (p i) (p (nx n i))):OnC n p q i↔OnC n p q (i+1):=by
 refine ⟨fun ⟨j,a,b,c⟩=>⟨j,?_,b,c⟩,fun ⟨j,a,b,c⟩=>⟨j,by omega,b,c⟩⟩
 by_cases e:j=i
 ·subst e;exact absurd c h
 ·omega
theorem rcB (q a b:Pt):rc q a b=((decide (a.2>q.2) != decide (b.2>q.2))&&(decide (0<cross a b q)==decide (b.2>a.2))):=rfl
theorem Qk (n:Nat) (f:Nat->Nat->CV) (qx qy:Int) (hn:n<=32) (h0:3<=n) (hA:dm n f) (hq:nr qx qy):∀ (m i:Nat) (s:Bool),n<m+i->i<=n->s=xs i (fun j=>rc (qx,qy) (pt f j) (pt f (nx n j))) ->
  (OnC n (pt f) (qx,qy) i->oi 100 n f (Int.ofNat n) qx qy m s (Int.ofNat i) (fun _ _ _ _=>some (0:Int)) (fun b=>(bif b then some 1 else some (-1)))=some 0) /\
  (¬ OnC n (pt f) (qx,qy) i->oi 100 n f (Int.ofNat n) qx qy m s (Int.ofNat i) (fun _ _ _ _=>some (0:Int)) (fun b=>(bif b then some 1 else some (-1)))=(bif par n (pt f) (qx,qy) then some 1 else some (-1))):=by
 intro m
 induction m with
 | zero=>intro i s h1 h2;omega
 | succ m ih =>
  intro i s h1 h2 hs
  unfold oi
  rw [aE,ax,aq]
  by_cases h:i<n
  ·have hx:nx n i<n:=cO h0
   have e1:(i+1) % n=nx n i:=rfl
   rw [ae (by simpa using h),ae (by simpa using h),ai (cj (by omega)),ay (by omega),du,ax,aq,e1,ae (by simpa using hx),Ng (hA i h) (hA _ hx) hq,aa]
   by_cases ho:On (qx,qy) (pt f i) (pt f (nx n i))
   ·rw [ae (qcZ ho)]
    exact ⟨fun _=>rfl,fun hh=>absurd ⟨i,rkZ i,h,ho⟩ hh⟩
   ·rw [ai (qeZ ho),OnC.step ho,mL (hA i h) (hA _ hx) hq,aa]
    have hr:=rcB (qx,qy) (pt f i) (pt f (nx n i))
    have hxs:xs (i+1) (fun j=>rc (qx,qy) (pt f j) (pt f (nx n j)))=(s ^^ rc (qx,qy) (pt f i) (pt f (nx n i))):=by rw [xs,hs]
    have hg:∀ x:Int,decide (x>0)=decide (0<x):=fun _=>rfl
    rw [hg]
    cases h3:(decide ((f i 1).int>qy)==decide ((f (nx n i) 1).int>qy)) with
    | true =>
     rw [ae rfl]
     have:rc (qx,qy) (pt f i) (pt f (nx n i))=false:=by
      rw [hr,bne]
      have h3:(decide ((pt f i).2>((qx,qy):Pt).2)==decide ((pt f (nx n i)).2>((qx,qy):Pt).2))=true:=h3
      rw [h3];rfl
     refine ih (i+1) s (by omega) (by omega) ?_
     rw [hxs,this,Bool.xor_false]
    | false =>
     rw [ai rfl]
     have h5:rc (qx,qy) (pt f i) (pt f (nx n i))=(decide (0<cross ((f i 0).int,(f i 1).int) ((f (nx n i) 0).int,(f (nx n i) 1).int) (qx,qy))==decide ((f (nx n i) 1).int>(f i 1).int)):=by
      rw [hr,bne]
      have h3:(decide ((pt f i).2>((qx,qy):Pt).2)==decide ((pt f (nx n i)).2>((qx,qy):Pt).2))=false:=h3
      rw [h3];rfl
     rw [<- h5]
     cases h6:rc (qx,qy) (pt f i) (pt f (nx n i)) with
     | true =>
      rw [ae rfl]
      refine ih (i+1) (!s) (by omega) (by omega) ?_
      rw [hxs,h6,Bool.xor_true]
     | false =>
      rw [ai rfl]
      refine ih (i+1) s (by omega) (by omega) ?_
      rw [hxs,h6,Bool.xor_false]
  ·rw [ai (by simpa using h)]
   have e:i=n:=by omega
   subst e
   refine ⟨fun ⟨j,a,b,_⟩=>by omega,fun _=>?_⟩
   rw [hs];rfl
theorem Qt {q a b:Pt} (h:¬ On q a b) (h1:b.2<=q.2) (h2:q.2<a.2):rc q a b=decide (cross a b q<0):=by
 rw [tF h,rM h1 h2,eg a b q]
 exact decide_eq_decide.2 (by omega)
theorem Ql (n:Nat) (f:Nat->Nat->CV) (qx qy:Int) (hn:n<=32) (h0:3<=n) (hA:dm n f) (hq:nr qx qy):∀ (m i:Nat) (s:Bool),n<m+i->i<=n->s=xs i (fun j=>rc (qx,qy) (pt f j) (pt f (nx n j))) ->
  (OnC n (pt f) (qx,qy) i->d7 100 n f qx qy m s (Int.ofNat i) (fun _ _ _ _=>some (0:Int)) (fun b=>(bif b then some 1 else some (-1)))=some 0) /\
  (¬ OnC n (pt f) (qx,qy) i->d7 100 n f qx qy m s (Int.ofNat i) (fun _ _ _ _=>some (0:Int)) (fun b=>(bif b then some 1 else some (-1)))=(bif par n (pt f) (qx,qy) then some 1 else some (-1))):=by
 intro m
 induction m with
 | zero=>intro i s h1 h2;omega
 | succ m ih =>
  intro i s h1 h2 hs
  unfold d7
  rw [aE,ax,aq]
  by_cases h:i<n
  ·have hx:nx n i<n:=cO h0
   have e1:(i+1) % n=nx n i:=rfl
   rw [ae (by simpa using h),ae (by simpa using h),ai (cj (by omega)),ay (by omega),du,ax,aq,e1,ae (by simpa using hx),Gy hq (hA i h) (hA _ hx),aa]
   by_cases ho:On (qx,qy) (pt f i) (pt f (nx n i))
   ·rw [ae (qcZ ho)]
    exact ⟨fun _=>rfl,fun hh=>absurd ⟨i,rkZ i,h,ho⟩ hh⟩
   ·rw [ai (qeZ ho),OnC.step ho,rx (hA i h) (hA _ hx) hq]
    simp only [aa]
    have hxs:xs (i+1) (fun j=>rc (qx,qy) (pt f j) (pt f (nx n j)))=(s ^^ rc (qx,qy) (pt f i) (pt f (nx n i))):=by rw [xs,hs]
    have tog:rc (qx,qy) (pt f i) (pt f (nx n i))=true->_:=fun hr=>ih (i+1) (!s) (by omega) (by omega) (by rw [hxs,hr,Bool.xor_true])
    have sam:rc (qx,qy) (pt f i) (pt f (nx n i))=false->_:=fun hr=>ih (i+1) s (by omega) (by omega) (by rw [hxs,hr,Bool.xor_false])
    by_cases a:(f i 1).int<=qy
    ·rw [ae (by simpa using a)]
     by_cases b:qy<(f (nx n i) 1).int
     ·rw [ae (by simpa using b),ai (by simp;omega)]
      have hr:=rM (q:=(qx,qy)) (a:=pt f i) (b:=pt f (nx n i)) a b
      by_cases hc:0<cross (pt f i) (pt f (nx n i)) (qx,qy)
      ·rw [ai (by rw [show decide (cross ((f i 0).int,(f i 1).int) ((f (nx n i) 0).int,(f (nx n i) 1).int) (qx,qy)>0)=true from qcZ hc];rfl)]
       exact tog (by rw [hr];exact qcZ hc)
      ·rw [ae (by rw [show decide (cross ((f i 0).int,(f i 1).int) ((f (nx n i) 0).int,(f (nx n i) 1).int) (qx,qy)>0)=false from qeZ hc];rfl)]
       exact sam (by rw [hr];exact qeZ hc)
     ·rw [ai (by simpa using b),ae (by simp;omega),ai (by simpa using a)]
      exact sam (co (.inr ⟨a,by dsimp only;omega⟩))
    ·rw [ai (by simpa using a)]
     by_cases b:(f (nx n i) 1).int<=qy
     ·rw [ae (by simpa using b),ae (by simp;omega)]
      have hr:=Qt (q:=(qx,qy)) (a:=pt f i) (b:=pt f (nx n i)) ho b (by dsimp only;omega)
      by_cases hc:cross (pt f i) (pt f (nx n i)) (qx,qy)<0
      ·rw [ae (qcZ hc)]
       exact tog (by rw [hr];exact qcZ hc)
      ·rw [ai (qeZ hc)]
       exact sam (by rw [hr];exact qeZ hc)
     ·rw [ai (by simpa using b)]
      exact sam (co (.inl ⟨by dsimp only;omega,by dsimp only;omega⟩))
  ·rw [ai (by simpa using h)]
   have e:i=n:=by omega
   subst e
   refine ⟨fun ⟨j,a,b,_⟩=>by omega,fun _=>?_⟩
   rw [hs];rfl
def j9 (n:Nat) (f:Nat->Nat->CV) (q:Pt) (w:Int):Prop :=
 (dG n f/\nr q.1 q.2->(OnC n (pt f) q 0->w=0)/\(¬ OnC n (pt f) q 0->w=if par n (pt f) q=true then 1 else -1))/\(¬ (dG n f/\nr q.1 q.2)->w = -1)
theorem la (n:Nat) (f:Nat->Nat->CV) (qx qy:Int):∃ w,F65 100 n f qx qy=some w/\(dG n f->F40 100 n f qx qy=some w)/\j9 n f (qx,qy) w:=by
 obtain ⟨c,c',h1,h2,h3,h4⟩:=ry n f
 obtain ⟨b,hb1,hb2⟩:=Tf qx qy
 obtain ⟨d,hd1,hd2⟩:=NV qx qy
 unfold F65 F40
 rw [h1,h2,hb1,hd1,aa,aa,aa,aa]
 have hcc:dG n f->c' = 0:=fun V=>by have:=h3.2 V;omega
 by_cases hq:nr qx qy
 ·have eb:=hb2.2 hq
  have ed:=hd2.2 hq
  subst eb;subst ed
  rw [ae (by rfl)]
  by_cases hc:c=0
  ·have V:=h3.1 hc
   have hc':=hcc V
   subst hc;subst hc'
   have vs:=V.small
   rw [ai (by rfl),ae (by rfl),ai (show (!true)=false from rfl),show (0:Int)=Int.ofNat 0 from rfl]
   obtain ⟨a1,a2⟩:=Qk n f qx qy V.small V.big V.near hq 100 0 false (by omega) (by omega) rfl
   obtain ⟨b1,b2⟩:=Ql n f qx qy V.small V.big V.near hq 100 0 false (by omega) (by omega) rfl
   by_cases ho:OnC n (pt f) (qx,qy) 0
   ·exact ⟨0,a1 ho,fun _=>b1 ho,fun _=>⟨fun _=>rfl,fun hh=>absurd ho hh⟩,fun hh=>absurd ⟨V,hq⟩ hh⟩
   ·refine ⟨if par n (pt f) (qx,qy)=true then 1 else -1,(a2 ho).trans ?_,fun _=>(b2 ho).trans ?_,fun _=>⟨fun hh=>absurd hh ho,fun _=>rfl⟩,fun hh=>absurd ⟨V,hq⟩ hh⟩
    ·cases par n (pt f) (qx,qy)<;>rfl
    ·cases par n (pt f) (qx,qy)<;>rfl
  ·rw [ae (by simpa using hc)]
   exact ⟨-1,rfl,fun V=>absurd (h3.2 V) hc,fun hh=>absurd (h3.2 hh.1) hc,fun _=>rfl⟩
 ·have eb:b=true:=by
   cases b with
   | false=>exact absurd (hb2.1 rfl) hq
   | true=>rfl
  have ed:d=false:=by
   cases d with
   | false=>rfl
   | true=>exact absurd (hd2.1 rfl) hq
  subst eb;subst ed
  rw [ai (by rfl)]
  refine ⟨-1,rfl,fun V=>?_,fun hh=>absurd hh.2 hq,fun _=>rfl⟩
  rw [ae (by simpa using hcc V),ae (show (!false)=true from rfl)]
def InC (n:Nat) (f:Nat->Nat->CV) (q:Pt):Prop:=¬ OnC n (pt f) q 0/\par n (pt f) q=true
def KI (n:Nat) (f:Nat->Nat->CV) (q:Pt):Prop:=¬ OnC n (pt f) q 0/\par n (pt f) q=false
theorem j9.val {n:Nat} {f:Nat->Nat->CV} {q:Pt} {w:Int} (h:j9 n f q w) (V:dG n f) (hq:nr q.1 q.2):(w=1/\InC n f q)\/(w=0/\OnC n (pt f) q 0)\/(w = -1/\KI n f q):=by
 obtain ⟨h1,h2⟩:=h.1 ⟨V,hq⟩
 by_cases ho:OnC n (pt f) q 0
 ·exact .inr (.inl ⟨h1 ho,ho⟩)
 ·have:=h2 ho
  cases hp:par n (pt f) q with
  | true=>rw [hp,if_pos rfl] at this;exact .inl ⟨this,ho,hp⟩
  | false=>rw [hp,if_neg (by simp)] at this;exact .inr (.inr ⟨this,ho,hp⟩)
theorem j9.one {n:Nat} {f:Nat->Nat->CV} {q:Pt} {w:Int} (h:j9 n f q w) (V:dG n f) (hq:nr q.1 q.2):w=1↔InC n f q:=by
 rcases h.val V hq with ⟨a,b⟩ | ⟨a,b⟩ | ⟨a,b⟩
 ·exact ⟨fun _=>b,fun _=>a⟩
 ·exact ⟨fun hh=>by omega,fun hh=>absurd b hh.1⟩
 ·exact ⟨fun hh=>by omega,fun hh=>by have:=hh.2;rw [b.2] at this;cases this⟩
theorem j9.out {n:Nat} {f:Nat->Nat->CV} {q:Pt} {w:Int} (h:j9 n f q w) (V:dG n f) (hq:nr q.1 q.2):w<0↔KI n f q:=by
 rcases h.val V hq with ⟨a,b⟩ | ⟨a,b⟩ | ⟨a,b⟩
 ·exact ⟨fun hh=>by omega,fun hh=>by have:=hh.2;rw [b.2] at this;cases this⟩
 ·exact ⟨fun hh=>by omega,fun hh=>absurd b hh.1⟩
 ·exact ⟨fun _=>b,fun _=>by omega⟩
theorem j9.range {n:Nat} {f:Nat->Nat->CV} {q:Pt} {w:Int} (h:j9 n f q w):w=1\/w=0\/w = -1:=by
 by_cases hv:dG n f/\nr q.1 q.2
 ·rcases h.val hv.1 hv.2 with ⟨a,_⟩ | ⟨a,_⟩ | ⟨a,_⟩<;>omega
 ·exact .inr (.inr (h.2 hv))
def lC (n:Nat) (p:Nat->Pt) (n' : Nat) (p' : Nat->Pt) (i k:Nat):Prop:=∃ k',k<=k'/\k' < n'/\dl (p i) (p (nx n i)) (p' k') (p' (nx n' k'))
def sT (n:Nat) (p:Nat->Pt) (n' : Nat) (p' : Nat->Pt) (i:Nat):Prop:=∃ i',i<=i'/\i' < n/\lC n p n' p' i' 0
def jb (n:Nat) (p:Nat->Pt) (n' : Nat) (p' : Nat->Pt):Prop:=∃ i k,i<n/\k<n'/\dl (p i) (p (nx n i)) (p' k) (p' (nx n' k))
theorem Hs {n:Nat} {p:Nat->Pt} {n' : Nat} {p' : Nat->Pt}:sT n p n' p' 0↔jb n p n' p' :=
 ⟨fun ⟨i,_,hi,k,_,hk,hm⟩=>⟨i,k,hi,hk,hm⟩,fun ⟨i,k,hi,hk,hm⟩=>⟨i,by omega,hi,k,by omega,hk,hm⟩⟩
theorem jb.symm {n:Nat} {p:Nat->Pt} {n' : Nat} {p' : Nat->Pt} (h:jb n p n' p'):jb n' p' n p:=by
 obtain ⟨i,k,hi,hk,hm⟩:=h
 exact ⟨k,i,hk,hi,hm.symm⟩
theorem JJ {ρ:Type} (n n' i:Nat) (f g:Nat->Nat->CV) (hn:n<=32) (hn' : n'<=32) (h0:3<=n) (h0' : 3<=n') (hi:i<n) (hA:dm n f) (hB:dm n' g) (c:Int) (a:Int->Int->Option ρ) (k0 k1:Option ρ) (ha:∀ x y,a x y=k0):∀ (m k:Nat),n' < m+k->k<=n' ->
  (lC n (pt f) n' (pt g) i k->rT 100 n f n' g (Int.ofNat i) c (Int.ofNat n') ((f i 0).int) ((f i 1).int) m (Int.ofNat k) a k1=k0) /\
  (¬ lC n (pt f) n' (pt g) i k->rT 100 n f n' g (Int.ofNat i) c (Int.ofNat n') ((f i 0).int) ((f i 1).int) m (Int.ofNat k) a k1=k1):=by
 intro m
 induction m with
 | zero=>intro k h1 h2;omega
 | succ m ih =>
  intro k h1 h2
  unfold rT
  rw [aE,ax,aq]
  by_cases h:k<n'
  ·have hx:nx n i<n:=cO h0
   have hy:nx n' k<n':=cO h0'
   have e1:(i+1) % n=nx n i:=rfl
   have e2:(k+1) % n' = nx n' k:=rfl
   rw [ae (by simpa using h),ae (by simpa using h),ai (cj (by omega)),ay (i:=i) (by omega),ay (i:=k) (by omega),du,du,ax,ax,aq,aq,e1,e2,
    ae (by simpa using hx),ai (cj (by omega)),ae (by simpa using hy),We (hA i hi) (hA _ hx) (hB k h) (hB _ hy),aa]
   by_cases hM:dl (pt f i) (pt f (nx n i)) (pt g k) (pt g (nx n' k))
   ·rw [ae (qcZ hM),ha]
    exact ⟨fun _=>rfl,fun hh=>absurd ⟨k,rkZ k,h,hM⟩ hh⟩
   ·rw [ai (qeZ hM)]
    have e:lC n (pt f) n' (pt g) i k↔lC n (pt f) n' (pt g) i (k+1):=by
     refine ⟨fun ⟨j,a,b,c⟩=>⟨j,?_,b,c⟩,fun ⟨j,a,b,c⟩=>⟨j,by omega,b,c⟩⟩
     by_cases e:j=k
     ·subst e;exact absurd c hM
     ·omega
    rw [e]
    exact ih (k+1) (by omega) (by omega)
  ·rw [ai (by simpa using h)]
   exact ⟨fun ⟨j,a,b,_⟩=>by omega,fun _=>rfl⟩
theorem JI (n n' : Nat) (f g:Nat->Nat->CV) (hn:n<=32) (hn' : n'<=32) (h0:3<=n) (h0' : 3<=n') (hA:dm n f) (hB:dm n' g):∀ (m i:Nat),n<m+i->i<=n ->
  ∃ r,rS 100 n f n' g (Int.ofNat n) m (Int.ofNat i) (fun _ _ _ _=>some true) (some false)=some r/\(r=true↔sT n (pt f) n' (pt g) i):=by
 intro m
 induction m with
 | zero=>intro i h1 h2;omega
 | succ m ih =>
  intro i h1 h2
  unfold rS
  rw [aE,ax,aq]
  by_cases h:i<n
  ·obtain ⟨m1,m2⟩:=JJ n n' i f g hn hn' h0 h0' h hA hB (Int.ofNat n) (fun _ _=>some true) (some true) (rS 100 n f n' g (Int.ofNat n) m (Int.ofNat (i+1)) (fun _ _ _ _=>some true) (some false)) (fun _ _=>rfl) 100 0 (by omega) (by omega)
   rw [ae (by simpa using h),ae (by simpa using h),ay (by omega),show (0:Int)=Int.ofNat 0 from rfl]
   by_cases hT:lC n (pt f) n' (pt g) i 0
   ·rw [m1 hT]
    exact ⟨true,rfl,fun _=>⟨i,rkZ i,h,hT⟩,fun _=>rfl⟩
   ·rw [m2 hT]
    have e:sT n (pt f) n' (pt g) i↔sT n (pt f) n' (pt g) (i+1):=by
     refine ⟨fun ⟨j,a,b,c⟩=>⟨j,?_,b,c⟩,fun ⟨j,a,b,c⟩=>⟨j,by omega,b,c⟩⟩
     by_cases e:j=i
     ·subst e;exact absurd c hT
     ·omega
    rw [e]
    exact ih (i+1) (by omega) (by omega)
  ·rw [ai (by simpa using h)]
   exact ⟨false,rfl,fun hh=>(by cases hh),fun ⟨j,a,b,_⟩=>by omega⟩
theorem Ht (n n' : Nat) (f g:Nat->Nat->CV) (V:dG n f) (W:dG n' g):∃ r,F58 100 n f n' g=some r/\(r=true↔jb n (pt f) n' (pt g)):=by
 have:=V.small
 unfold F58
 obtain ⟨r,h1,h2⟩:=JI n n' f g V.small W.small V.big W.big V.near W.near 100 0 (by omega) (by omega)
 exact ⟨r,h1,h2.trans Hs⟩
theorem JL {ρ:Type} (n n' i:Nat) (f g:Nat->Nat->CV) (hn:n<=32) (hn' : n'<=32) (h0:3<=n) (h0' : 3<=n') (hi:i<n) (hA:dm n f) (hB:dm n' g) (k0 k1:Option ρ):∀ (m k:Nat),n' < m+k->k<=n' ->
  (lC n (pt f) n' (pt g) i k->rY 100 n f n' g (Int.ofNat i) m (Int.ofNat k) k0 k1=k0) /\
  (¬ lC n (pt f) n' (pt g) i k->rY 100 n f n' g (Int.ofNat i) m (Int.ofNat k) k0 k1=k1):=by
 intro m
 induction m with
 | zero=>intro k h1 h2;omega
 | succ m ih =>
  intro k h1 h2
  unfold rY
  rw [aE,ax,aq,ax,aq]
  by_cases h:k<n'
  ·have hx:nx n i<n:=cO h0
   have hy:nx n' k<n':=cO h0'
   have e1:(i+1) % n=nx n i:=rfl
   have e2:(k+1) % n' = nx n' k:=rfl
   rw [ae (by simpa using h),ae (by simpa using hi),ai (cj (by omega)),ay (i:=i) (by omega),ay (i:=k) (by omega),du,du,ax,ax,aq,aq,e1,e2,
    ae (by simpa using hx),ae (by simpa using h),ai (cj (by omega)),ae (by simpa using hy),Wd (hA i hi) (hA _ hx) (hB k h) (hB _ hy),aa]
   by_cases hM:dl (pt f i) (pt f (nx n i)) (pt g k) (pt g (nx n' k))
   ·rw [ae (qcZ hM)]
    exact ⟨fun _=>rfl,fun hh=>absurd ⟨k,rkZ k,h,hM⟩ hh⟩
   ·rw [ai (qeZ hM)]
    have e:lC n (pt f) n' (pt g) i k↔lC n (pt f) n' (pt g) i (k+1):=by
     refine ⟨fun ⟨j,a,b,c⟩=>⟨j,?_,b,c⟩,fun ⟨j,a,b,c⟩=>⟨j,by omega,b,c⟩⟩
     by_cases e:j=k
     ·subst e;exact absurd c hM
     ·omega
    rw [e]
    exact ih (k+1) (by omega) (by omega)
  ·rw [ai (by simpa using h)]
   exact ⟨fun ⟨j,a,b,_⟩=>by omega,fun _=>rfl⟩
theorem JK (n n' : Nat) (f g:Nat->Nat->CV) (hn:n<=32) (hn' : n'<=32) (h0:3<=n) (h0' : 3<=n') (hA:dm n f) (hB:dm n' g):∀ (m i:Nat),n<m+i->i<=n ->
  ∃ r,rX 100 n f n' g m (Int.ofNat i) (some true) (some false)=some r/\(r=true↔sT n (pt f) n' (pt g) i):=by
 intro m
 induction m with
 | zero=>intro i h1 h2;omega
 | succ m ih =>
  intro i h1 h2
  unfold rX
  rw [aE]
  by_cases h:i<n
  ·obtain ⟨m1,m2⟩:=JL n n' i f g hn hn' h0 h0' h hA hB (some true) (rX 100 n f n' g m (Int.ofNat (i+1)) (some true) (some false)) 100 0 (by omega) (by omega)
   rw [ae (by simpa using h),ay (by omega),show (0:Int)=Int.ofNat 0 from rfl]
   by_cases hT:lC n (pt f) n' (pt g) i 0
   ·rw [m1 hT]
    exact ⟨true,rfl,fun _=>⟨i,rkZ i,h,hT⟩,fun _=>rfl⟩
   ·rw [m2 hT]
    have e:sT n (pt f) n' (pt g) i↔sT n (pt f) n' (pt g) (i+1):=by
     refine ⟨fun ⟨j,a,b,c⟩=>⟨j,?_,b,c⟩,fun ⟨j,a,b,c⟩=>⟨j,by omega,b,c⟩⟩
     by_cases e:j=i
     ·subst e;exact absurd c hT
     ·omega
    rw [e]
    exact ih (i+1) (by omega) (by omega)
  ·rw [ai (by simpa using h)]
   exact ⟨false,rfl,fun hh=>(by cases hh),fun ⟨j,a,b,_⟩=>by omega⟩
theorem Hu (n n' : Nat) (f g:Nat->Nat->CV) (V:dG n f) (W:dG n' g):∃ r,F39 100 n f n' g=some r/\(r=true↔jb n (pt f) n' (pt g)):=by
 have:=V.small
 unfold F39
 obtain ⟨r,h1,h2⟩:=JK n n' f g V.small W.small V.big W.big V.near W.near 100 0 (by omega) (by omega)
 exact ⟨r,h1,h2.trans Hs⟩
theorem Kt {n n' : Nat} {p p' : Nat->Pt} (h:¬ jb n p n' p') {i:Nat} (hi:i<n):KL n' p' (p i) (p (nx n i)):=fun k hk hm=>h ⟨i,k,hi,hk,hm⟩
theorem FN {n n' : Nat} {f g:Nat->Nat->CV} (h0:3<=n) (h:¬ jb n (pt f) n' (pt g)):∀ i,i<n->(¬ OnC n' (pt g) (pt f i) 0)/\par n' (pt g) (pt f i)=par n' (pt g) (pt f 0):=by
 intro i
 induction i with
 | zero =>
  intro hi
  refine ⟨?_,rfl⟩
  rintro ⟨k,_,hk,ho⟩
  exact h ⟨0,k,hi,hk,.inr (.inr (.inl ho))⟩
 | succ i ih =>
  intro hi
  refine ⟨?_,?_⟩
  ·rintro ⟨k,_,hk,ho⟩
   exact h ⟨i+1,k,hi,hk,.inr (.inr (.inl ho))⟩
  ·rw [<- (ih (by omega)).2]
   have hf:=Kt h (i:=i) (by omega)
   rw [oz hi] at hf
   exact (EK hf).symm
theorem aaV (n n' : Nat) (f g:Nat->Nat->CV) (hn:n<=32) (V:dG n f) (W:dG n' g):∀ (m i:Nat),n<m+i->i<=n ->
  ∃ z,mQ 100 n f (au [(.ro false (.pr (.int .i64) (.pr (.int .i64) .nil)) n' g)]) (Int.ofNat n) m (Int.ofNat i) (fun x=>some x) (some (-1))=some z/\(z<0↔∀ j,i<=j->j<n->InC n' g (pt f j)):=by
 intro m
 induction m with
 | zero=>intro i h1 h2;omega
 | succ m ih =>
  intro i h1 h2
  unfold mQ
  rw [aE,ax,aq]
  by_cases h:i<n
  ·obtain ⟨w,hw1,_,hw3⟩:=la n' g ((f i 0).int) ((f i 1).int)
   have e64:F64 100 ((f i 0).int) ((f i 1).int) (au [(.ro false (.pr (.int .i64) (.pr (.int .i64) .nil)) n' g)])=some (w != 1):=by
    unfold F64
    show ob (F65 100 n' g ((f i 0).int) ((f i 1).int)) _=_
    rw [hw1,aa]
   rw [ae (by simpa using h),ae (by simpa using h),ay (by omega),e64,aa]
   have hin:=hw3.one W (V.near i h)
   by_cases hw:w=1
   ·rw [ai (by simpa using hw),mw (Q:=fun j=>InC n' g (pt f j)) (hin.1 hw)]
    exact ih (i+1) (by omega) (by omega)
   ·rw [ae (by simpa using hw)]
    refine ⟨_,rfl,fun hh=>?_,fun hh=>absurd (hin.2 (hh i (rkZ i) h)) hw⟩
    have:=rgZ i
    simp at hh;omega
  ·rw [ai (by simpa using h)]
   exact ⟨-1,rfl,fun _ j a b=>by omega,fun _=>by decide⟩
theorem KV (n n' : Nat) (f g:Nat->Nat->CV) (V:dG n f) (W:dG n' g):∃ r,F35 100 n f n' g=some r/\(r=true↔¬ jb n (pt f) n' (pt g)/\∀ i,i<n->InC n' g (pt f i)):=by
 have vs:=V.small
 unfold F35
 obtain ⟨t,h1,h2⟩:=Ht n n' f g V W
 rw [h1,aa]
 cases t with
 | true =>
  rw [ai (by rfl)]
  exact ⟨false,rfl,fun hh=>(by cases hh),fun hh=>absurd (h2.1 rfl) hh.1⟩
 | false =>
  rw [ae (by rfl)]
  obtain ⟨z,h3,h4⟩:=aaV n n' f g V.small V W 100 0 (by omega) (by omega)
  unfold Py Px
  rw [show (0:Int)=Int.ofNat 0 from rfl,h3,aa,aa]
  refine ⟨_,rfl,?_⟩
  have hT:¬ jb n (pt f) n' (pt g):=fun hh=>by have:=h2.2 hh;cases this
  have e:((!decide (z>=Int.ofNat 0))=true)↔z<0:=by simp
  rw [e,h4]
  exact ⟨fun hh=>⟨hT,fun i hi=>hh i (by omega) hi⟩,fun hh j _ hj=>hh.2 j hj⟩
theorem Rn (n n' : Nat) (f g:Nat->Nat->CV) (V:dG n f) (W:dG n' g):∃ r,F36 100 n f n' g=some r/\(r=true↔¬ jb n (pt f) n' (pt g)/\KI n f (pt g 0)/\KI n' g (pt f 0)):=by
 have vs:=V.big
 have ws:=W.big
 unfold F36
 obtain ⟨t,h1,h2⟩:=Ht n n' f g V W
 rw [h1,aa]
 cases t with
 | true =>
  rw [ai (by rfl)]
  exact ⟨false,rfl,fun hh=>(by cases hh),fun hh=>absurd (h2.1 rfl) hh.1⟩
 | false =>
  have hT:¬ jb n (pt f) n' (pt g):=fun hh=>by have:=h2.2 hh;cases this
  obtain ⟨w,hw1,_,hw3⟩:=la n f ((g 0 0).int) ((g 0 1).int)
  obtain ⟨u,hu1,_,hu3⟩:=la n' g ((f 0 0).int) ((f 0 1).int)
  have hw:=hw3.out V (W.near 0 (by omega))
  have hu:=hu3.out W (V.near 0 (by omega))
  rw [ae (by rfl),ae (dx (by omega) (by omega)),hw1,aa]
  by_cases c1:w<0
  ·rw [ae (by simpa using c1),ae (dx (by omega) (by omega)),hu1,aa]
   refine ⟨_,rfl,?_⟩
   rw [decide_eq_true_iff,hu]
   exact ⟨fun hh=>⟨hT,hw.1 c1,hh⟩,fun hh=>hh.2.2⟩
  ·rw [ai (by simpa using c1)]
   exact ⟨false,rfl,fun hh=>(by cases hh),fun hh=>absurd (hw.2 hh.2.1) c1⟩
def jH (f2:Nat->Nat->CV) (i j:Nat):Prop :=
 ¬ jb ((f2 i 0).len) (pt ((f2 i 0).el)) ((f2 j 0).len) (pt ((f2 j 0).el))/\KI ((f2 i 0).len) ((f2 i 0).el) (pt ((f2 j 0).el) 0)/\KI ((f2 j 0).len) ((f2 j 0).el) (pt ((f2 i 0).el) 0)
structure s7 (n1:Nat) (f1:Nat->Nat->CV) (f2:Nat->Nat->CV) (i:Nat):Prop where
 valid:dG ((f2 i 0).len) ((f2 i 0).el)
 neg:BQ ((f2 i 0).len) (pt ((f2 i 0).el))<0
 free:¬ jb ((f2 i 0).len) (pt ((f2 i 0).el)) n1 (pt f1)
 inside:∀ c,c<(f2 i 0).len->InC n1 f1 (pt ((f2 i 0).el) c)
structure OU (n1:Nat) (f1:Nat->Nat->CV) (n2:Nat) (f2:Nat->Nat->CV):Prop where
 few:n2<=8
 outer:dG n1 f1
 pos:0<BQ n1 (pt f1)
 hole:∀ i,i<n2->s7 n1 f1 f2 i
 apart:∀ i,i<n2->∀ j,j<i->jH f2 i j
theorem G4 {ρ:Type} (n1 n2 i:Nat) (f1 f2:Nat->Nat->CV) (hn:n2<=8) (hi:i<n2) (V:dG ((f2 i 0).len) ((f2 i 0).el)) (hV:∀ j,j<i->dG ((f2 j 0).len) ((f2 j 0).el)) (k0 k1:Option ρ):∀ (m j:Nat),i<m+j->j<=i ->
  ((∀ j',j<=j'->j' < i->jH f2 i j')->si 100 ((f2 i 0).len) ((f2 i 0).el) n2 f2 (Int.ofNat n2) (Int.ofNat i) i (Int.ofNat i) n1 f1 m (Int.ofNat j) k0 k1=k1/\sf 100 (Int.ofNat i) ((f2 i 0).len) ((f2 i 0).el) n1 f1 n2 f2 m (Int.ofNat j) k0 k1=k1) /\
  (¬ (∀ j',j<=j'->j' < i->jH f2 i j')->si 100 ((f2 i 0).len) ((f2 i 0).el) n2 f2 (Int.ofNat n2) (Int.ofNat i) i (Int.ofNat i) n1 f1 m (Int.ofNat j) k0 k1=k0/\sf 100 (Int.ofNat i) ((f2 i 0).len) ((f2 i 0).el) n1 f1 n2 f2 m (Int.ofNat j) k0 k1=k0):=by
 intro m
 induction m with
 | zero=>intro j h1 h2;omega
 | succ m ih =>
  intro j h1 h2
  unfold si sf
  rw [aE,ax,ax,aq]
  by_cases h:j<i
  ·have hj:j<n2:=by omega
   have Vj:=hV j h
   have vb:=V.big
   have vjb:=Vj.big
   rw [ae (qcZ h),ae (qcZ h),ae (qcZ h),ae (qcZ hj),ay (by omega)]
   obtain ⟨r,hr1,hr2⟩:=Rn ((f2 i 0).len) ((f2 j 0).len) ((f2 i 0).el) ((f2 j 0).el) V Vj
   obtain ⟨t,ht1,ht2⟩:=Hu ((f2 i 0).len) ((f2 j 0).len) ((f2 i 0).el) ((f2 j 0).el) V Vj
   obtain ⟨w,_,hw2,hw3⟩:=la ((f2 i 0).len) ((f2 i 0).el) ((((f2 j 0).el) 0 0).int) ((((f2 j 0).el) 0 1).int)
   replace hw2:=hw2 V
   obtain ⟨u,_,hu2,hu3⟩:=la ((f2 j 0).len) ((f2 j 0).el) ((((f2 i 0).el) 0 0).int) ((((f2 i 0).el) 0 1).int)
   replace hu2:=hu2 Vj
   have hw:=hw3.out V (Vj.near 0 (by omega))
   have hu:=hu3.out Vj (V.near 0 (by omega))
   have rw1:=hw3.range
   have ru1:=hu3.range
   rw [hr1,ht1,aa,aa]
   by_cases hA:jH f2 i j
   ·have er:r=true:=hr2.2 hA
    have et:t=false:=by
     cases t with
     | false=>rfl
     | true=>exact absurd (ht2.1 rfl) hA.1
    have ew:w = -1:=by have:=hw.2 hA.2.1;omega
    have eu:u = -1:=by have:=hu.2 hA.2.2;omega
    subst er;subst et;subst ew;subst eu
    rw [ai (show (!true)=false from rfl),ae (show (false==false)=true from rfl),ae (qcZ hj),ae (dx (by omega) (by omega)),hw2,aa,ae (by rfl),ae (qcZ hj),ae (dx (by omega) (by omega)),hu2,aa,ai (by rfl)]
    rw [mw (Q:=fun j'=>jH f2 i j') hA]
    exact ih (j+1) (by omega) (by omega)
   ·have er:r=false:=by
     cases r with
     | false=>rfl
     | true=>exact absurd (hr2.1 rfl) hA
    subst er
    rw [ae (show (!false)=true from rfl)]
    refine ⟨fun hh=>absurd (hh j (rkZ j) h) hA,fun _=>⟨rfl,?_⟩⟩
    cases t with
    | true=>rw [ai (by rfl)]
    | false =>
     have hT:¬ jb ((f2 i 0).len) (pt ((f2 i 0).el)) ((f2 j 0).len) (pt ((f2 j 0).el)):=fun hh=>by have:=ht2.2 hh;cases this
     rw [ae (show (false==false)=true from rfl),ae (qcZ hj),ae (dx (by omega) (by omega)),hw2,aa]
     by_cases cw:w = -1
     ·rw [ae (by simpa using cw),ae (qcZ hj),ae (dx (by omega) (by omega)),hu2,aa]
      by_cases cu:u = -1
      ·exact absurd ⟨hT,hw.1 (by omega),hu.1 (by omega)⟩ hA
      ·rw [ae (by simpa using cu)]
     ·rw [ai (by simpa using cw)]
  ·rw [ai (by simpa using h),ai (by simpa using h)]
   exact ⟨fun _=>⟨rfl,rfl⟩,fun hh=>absurd (fun j' a b=>by omega) hh⟩
theorem Jj {n:Nat} {f:Nat->Nat->CV} (h2:n<=32) (h1:3<=n) (h3:dm n f) (h:F37 100 n f=some 0):F38 100 n f=some (BQ n (pt f)):=by
 unfold F38
 rw [h,aa,ai (by rfl)]
 exact G2 n f h2 h1 h3 some 100 0 (by omega) (by omega)
theorem GJ (n1 n2:Nat) (f1 f2:Nat->Nat->CV) (hn:n2<=8) (V:dG n1 f1):∀ (m i:Nat),n2<m+i->i<=n2->(∀ j,j<i->s7 n1 f1 f2 j) ->
  ∃ c,vo 100 n2 f2 (Int.ofNat n2) n1 f1 m (Int.ofNat i) (fun x=>some x) (some 0)=some c/\vn 100 n1 f1 n2 f2 m (Int.ofNat i) (fun x=>some x) (some 0)=some c /\
   (c=0↔∀ j,i<=j->j<n2->s7 n1 f1 f2 j/\∀ j',j' < j->jH f2 j j'):=by
 intro m
 induction m with
 | zero=>intro i h1 h2;omega
 | succ m ih =>
  intro i h1 h2 hp
  unfold vo vn
  rw [aE,ax,aq]
  by_cases h:i<n2
  ·rw [ae (qcZ h),ae (qcZ h),ae (qcZ h),ae (qcZ h),ay (by omega)]
   have no:∀ c:Int,c≠0->¬ (s7 n1 f1 f2 i/\∀ j',j' < i->jH f2 i j')->(c=0↔∀ j,i<=j->j<n2->s7 n1 f1 f2 j/\∀ j',j' < j->jH f2 j j') :=
    fun c hc hh=>⟨fun h'=>absurd h' hc,fun h'=>absurd (h' i (rkZ i) h) hh⟩
   obtain ⟨c,d,hc1,hc2,hc3,hc4⟩:=ry ((f2 i 0).len) ((f2 i 0).el)
   rw [hc1,hc2,aa,aa]
   by_cases c0:c=0
   ·have d0:d=0:=by omega
    subst c0;subst d0
    have W:=hc3.1 rfl
    obtain ⟨a,ha1,ha2,ha3⟩:=tX ((f2 i 0).len) ((f2 i 0).el)
    have ea:=ha3 W
    have wb:=W.big
    rw [ai (show ((0:Int) != 0)=false from rfl),ai (show ((0:Int) != 0)=false from rfl),ha1,ha2,aa,aa]
    by_cases an:a<0
    ·have da:(decide (a>=0)==false)=true:=by simp;omega
     rw [ae da,ae da]
     obtain ⟨r,hr1,hr2⟩:=KV ((f2 i 0).len) n1 ((f2 i 0).el) f1 W V
     obtain ⟨t,ht1,ht2⟩:=Hu n1 ((f2 i 0).len) f1 ((f2 i 0).el) V W
     obtain ⟨w,_,hw2,hw3⟩:=la n1 f1 ((((f2 i 0).el) 0 0).int) ((((f2 i 0).el) 0 1).int)
     replace hw2:=hw2 V
     have hw:=hw3.one V (W.near 0 (by omega))
     rw [hr1,ht1,aa,aa]
     have tt:jb n1 (pt f1) ((f2 i 0).len) (pt ((f2 i 0).el))↔jb ((f2 i 0).len) (pt ((f2 i 0).el)) n1 (pt f1):=⟨jb.symm,jb.symm⟩
     by_cases hT:jb ((f2 i 0).len) (pt ((f2 i 0).el)) n1 (pt f1)
     ·have er:r=false:=by
       cases r with
       | false=>rfl
       | true=>exact absurd hT (hr2.1 rfl).1
      have et:t=true:=ht2.2 (tt.2 hT)
      subst er;subst et
      rw [ae (show (!false)=true from rfl),ai (show (true==false)=false from rfl)]
      exact ⟨17,rfl,rfl,no 17 (by decide) fun hh=>hh.1.free hT⟩
     ·have et:t=false:=by
       cases t with
       | false=>rfl
       | true=>exact absurd (tt.1 (ht2.1 rfl)) hT
      subst et
      have hall:=FN W.big hT
      rw [ae (show (false==false)=true from rfl),ae (dx (by omega) (by omega)),hw2,aa]
      by_cases hin:InC n1 f1 (pt ((f2 i 0).el) 0)
      ·have er:r=true:=hr2.2 ⟨hT,fun j hj=>⟨(hall j hj).1,(hall j hj).2.trans hin.2⟩⟩
       have ew:w=1:=hw.2 hin
       subst er;subst ew
       rw [ai (show (!true)=false from rfl),ai (show ((1:Int) != 1)=false from rfl),ae (CO (i:=Int.ofNat i) (n:=n2) (by simp) (by simp;omega))]
       have Hi:s7 n1 f1 f2 i:=⟨W,by rw [<- ea];exact an,hT,(hr2.1 rfl).2⟩
       obtain ⟨cc,e1,e2,e3⟩:=ih (i+1) (by omega) (by omega) (fun j hj=>by
        by_cases e:j=i
        ·rw [e];exact Hi
        ·exact hp j (by omega))
       have ap:=fun (k0 k1:Option Int)=>G4 n1 n2 i f1 f2 hn h W (fun j hj=>(hp j hj).valid) k0 k1 100 0 (by omega) (by omega)
       have es:i-0=i:=rfl
       rw [es,show (0:Int)=Int.ofNat 0 from rfl]
       by_cases hap:∀ j',0<=j'->j' < i->jH f2 i j'
       ·rw [((ap _ _).1 hap).1,((ap _ _).1 hap).2]
        refine ⟨cc,e1,e2,e3.trans ?_⟩
        rw [mw (Q:=fun j=>s7 n1 f1 f2 j/\∀ j',j' < j->jH f2 j j') ⟨Hi,fun j' hj'=>hap j' (by omega) hj'⟩]
       ·rw [((ap _ _).2 hap).1,((ap _ _).2 hap).2]
        exact ⟨17,rfl,rfl,no 17 (by decide) fun hh=>hap fun j' _ hj'=>hh.2 j' hj'⟩
      ·have er:r=false:=by
        cases r with
        | false=>rfl
        | true=>exact absurd ((hr2.1 rfl).2 0 (by omega)) hin
       have ew:w≠1:=fun hh=>hin (hw.1 hh)
       subst er
       rw [ae (show (!false)=true from rfl),ae (by simpa using ew)]
       exact ⟨17,rfl,rfl,no 17 (by decide) fun hh=>hin (hh.1.inside 0 (by omega))⟩
    ·have da:(decide (a>=0)==false)=false:=by simp;omega
     rw [ai da,ai da]
     exact ⟨17,rfl,rfl,no 17 (by decide) fun hh=>by have:=hh.1.neg;omega⟩
   ·have dc:(c != 0)=true:=by simpa using c0
    rw [ae dc]
    rcases hc4 with rfl | ⟨rfl,rfl,b1,b2,b3,b4⟩
    ·rw [ae dc]
     exact ⟨d,rfl,rfl,no d c0 fun hh=>c0 (hc3.2 hh.1.valid)⟩
    ·rw [ai (show ((0:Int) != 0)=false from rfl),Jj b2 b1 b3 hc2,b4,aa,ai (by decide)]
     exact ⟨17,rfl,rfl,no 17 (by decide) fun hh=>c0 (hc3.2 hh.1.valid)⟩
  ·rw [ai (by simpa using h),ai (by simpa using h)]
   exact ⟨0,rfl,rfl,fun _ j a b=>by omega,fun _=>rfl⟩
theorem mi (n1 n2:Nat) (f1 f2:Nat->Nat->CV):∃ c,F13 100 n1 f1 n2 f2=some c/\F14 100 n1 f1 n2 f2=some c/\(c=0↔OU n1 f1 n2 f2):=by
 unfold F13 F14
 by_cases h1:n2<=8
 ·have d1:decide (Int.ofNat n2>8)=false:=by simp;omega
  rw [ai d1,ai d1]
  obtain ⟨c,d,hc1,hc2,hc3,hc4⟩:=ry n1 f1
  rw [hc1,hc2,aa,aa]
  by_cases c0:c=0
  ·have d0:d=0:=by omega
   subst c0;subst d0
   have V:=hc3.1 rfl
   obtain ⟨a,ha1,ha2,ha3⟩:=tX n1 f1
   have ea:=ha3 V
   rw [ai (by rfl),ai (by rfl),ha1,ha2,aa,aa]
   by_cases ap:a<=0
   ·rw [ae (by simpa using ap),ae (by simpa using ap)]
    exact ⟨17,rfl,rfl,fun hh=>(by cases hh),fun hh=>by have:=hh.pos;omega⟩
   ·rw [ai (by simpa using ap),ai (by simpa using ap)]
    obtain ⟨cc,e1,e2,e3⟩:=GJ n1 n2 f1 f2 h1 V 100 0 (by omega) (by omega) (fun j hj=>by omega)
    refine ⟨cc,e1,e2,e3.trans ⟨fun hh=>⟨h1,V,by omega,fun i hi=>(hh i (by omega) hi).1,fun i hi=>(hh i (by omega) hi).2⟩,fun hh j _ hj=>⟨hh.hole j hj,hh.apart j hj⟩⟩⟩
  ·rw [ae (by simpa using c0)]
   rcases hc4 with rfl | ⟨rfl,rfl,b1,b2,b3,b4⟩
   ·rw [ae (by simpa using c0)]
    exact ⟨d,rfl,rfl,fun hh=>absurd hh c0,fun hh=>absurd (hc3.2 hh.outer) c0⟩
   ·rw [ai (by rfl),Jj b2 b1 b3 hc2,b4,aa,ae (by decide)]
    exact ⟨17,rfl,rfl,fun hh=>absurd hh c0,fun hh=>absurd (hc3.2 hh.outer) c0⟩
 ·have d1:decide (Int.ofNat n2>8)=true:=by simp;omega
  rw [ae d1,ae d1]
  exact ⟨12,rfl,rfl,fun hh=>(by cases hh),fun hh=>absurd hh.few h1⟩
theorem dG.ne {n:Nat} {f:Nat->Nat->CV} (V:dG n f):∀ i,i<n->pt f i≠pt f (nx n i) :=
 fun i hi=>V.simple.dist i (nx n i) hi (cO V.big) (fun h=>Ab V.big hi h.symm)
theorem jn (n:Nat) (f g:Nat->Nat->CV) (j c:Nat) (h:n<=j):aB n f g j c=g (j-n) c:=by
 unfold aB
 rw [ai]
 cases hq:Nat.blt j n with
 | false=>rfl
 | true=>simp [Nat.blt_eq] at hq;omega
def cfh (n1:Nat) (f1 f2:Nat->Nat->CV):Nat->Nat->CV:=aB 1 (aG 1 [(.ro false (.pr (.int .i64) (.pr (.int .i64) .nil)) n1 f1)]) f2
theorem OK (n1:Nat) (f1 f2:Nat->Nat->CV) (j:Nat):cfh n1 f1 f2 (j+1) 0=f2 j 0:=by
 unfold cfh
 rw [jn _ _ _ _ _ (by omega)]
 rfl
def KJ (x p q:Pt) (g:Int):Prop:=if dot x p q<=0 then dot x p x<g*g else if dot q p q<=dot x p q then dot x q x<g*g else cross p q x*cross p q x<g*g*dot q p q
instance (x p q:Pt) (g:Int):Decidable (KJ x p q g):=by unfold KJ;infer_instance
def TP (g:Int) (a b c d:Pt):Prop:=dl a b c d\/KJ a c d g\/KJ b c d g\/KJ c a b g\/KJ d a b g
instance (g:Int) (a b c d:Pt):Decidable (TP g a b c d):=by unfold TP;infer_instance
def Ex (n:Nat) (P:Nat->Prop) (i:Nat):Prop:=∃ k,i<=k/\k<n/\P k
theorem Ex.step {n:Nat} {P:Nat->Prop} {i:Nat} (h:¬ P i):Ex n P i↔Ex n P (i+1):=by
 refine ⟨fun ⟨j,a,b,c⟩=>⟨j,?_,b,c⟩,fun ⟨j,a,b,c⟩=>⟨j,by omega,b,c⟩⟩
 by_cases e:j=i
 ·subst e;exact absurd c h
 ·omega
theorem Ex.none {n:Nat} {P:Nat->Prop} {i:Nat} (h:¬ i<n):¬ Ex n P i:=fun ⟨j,a,b,_⟩=>by omega
theorem Ex.zero {n:Nat} {P:Nat->Prop}:Ex n P 0↔∃ k,k<n/\P k:=⟨fun ⟨k,_,a,b⟩=>⟨k,a,b⟩,fun ⟨k,a,b⟩=>⟨k,Nat.zero_le k,a,b⟩⟩
def cf (n1:Nat) (f1 f2:Nat->Nat->CV):Nat->Nat->CV:=aB 1 (aG 1 [(.ro false (.pr (.int .i64) (.pr (.int .i64) .nil)) n1 f1)]) f2
abbrev cl (F:Nat->Nat->CV) (i:Nat):Nat:=(F i 0).len
theorem rq (n:Nat) (f g:Nat->Nat->CV) (j c:Nat) (h:j<n):aB n f g j c=f j c:=by
 unfold aB
 rw [ae (by simpa [Nat.blt_eq] using h)]
theorem ru (n:Nat) (f g:Nat->Nat->CV) (j c:Nat) (h:n<=j):aB n f g j c=g (j-n) c:=by
 unfold aB
 rw [ai]
 cases hq:Nat.blt j n with
 | false=>rfl
 | true=>simp [Nat.blt_eq] at hq;omega
theorem sR {n:Nat} (h:n<=1073741824):Nat.ble n 1073741824=true:=by rw [Nat.ble_eq];exact h
def rot:Nat->Int->Int->Int × Int
 | 0,x,y=>(x,y)
 | n+1,x,y=>rot n (w64 (0-y)) x
def tp (fl:Bool) (t:Nat) (tx ty x y:Int):Int × Int :=
 (w64 ((rot t (bif fl then w64 (0-x) else x) y).1+tx),w64 ((rot t (bif fl then w64 (0-x) else x) y).2+ty))
theorem So {ρ:Type} (a:ByteArray) (b c:Int) (t:Nat) (fl:Bool) (ht:t<=3) (k0:Int->Int->Option ρ):∀ (m i:Nat) (x y:Int),t<m+i->i<=t ->
  rZ 100 a b c (Int.ofNat t) fl m (Int.ofNat i) x y k0=k0 (rot (t-i) x y).1 (rot (t-i) x y).2:=by
 intro m
 induction m with
 | zero=>intro i x y h1 h2;omega
 | succ m ih =>
  intro i x y h1 h2
  unfold rZ
  rw [aE]
  by_cases h:i<t
  ·rw [ae (by simpa using h),ay (by omega),ih (i+1) _ _ (by omega) (by omega)]
   rw [show t-i=(t-(i+1))+1 from by omega]
   rfl
  ·rw [ai (by simpa using h),show t-i=0 from by omega]
   rfl
theorem Sn {ρ:Type} (a:Nat->CV) (b c:Nat) (d:Nat->Nat->CV) (e g:Int) (t:Nat) (z:Nat->CV) (hz:(z 3).int=Int.ofNat t) (q:Nat->Nat->CV) (ht:t<=3) (k0:Int->Int->Option ρ):∀ (m i:Nat) (x y:Int),t<m+i->i<=t ->
  rW 100 a b c d e g z q m (Int.ofNat i) x y k0=k0 (rot (t-i) x y).1 (rot (t-i) x y).2:=by
 intro m
 induction m with
 | zero=>intro i x y h1 h2;omega
 | succ m ih =>
  intro i x y h1 h2
  unfold rW
  rw [hz,aE]
  by_cases h:i<t
  ·rw [ae (by simpa using h),ay (by omega),ih (i+1) _ _ (by omega) (by omega)]
   rw [show t-i=(t-(i+1))+1 from by omega]
   rfl
  ·rw [ai (by simpa using h),show t-i=0 from by omega]
   rfl
theorem CD (x y:Int) (s:ByteArray) (tx ty:Int) (t:Nat) (fl:Bool) (ht:t<=3):F32 100 x y s tx ty (Int.ofNat t) fl=some (tp fl t tx ty x y):=by
 unfold F32
 cases fl with
 | true =>
  rw [ae rfl]
  exact So s tx ty t true ht _ 100 0 _ _ (by omega) (by omega)
 | false =>
  rw [ai rfl]
  exact So s tx ty t false ht _ 100 0 _ _ (by omega) (by omega)
def Are (P:Nat->Int × Int) (g:Nat->Nat->CV) (i:Nat):Prop:=∀ j,j<i->g j 0=.i .i64 (P j).1/\g j 1=.i .i64 (P j).2
theorem Are.snoc {P:Nat->Int × Int} {g:Nat->Nat->CV} {i:Nat} (h:Are P g i) {a b:Int} (hp:P i=(a,b)):Are P (aB i g (aG 2 [.i .i64 a,.i .i64 b])) (i+1):=by
 intro j hj
 by_cases e:j=i
 ·subst e
  rw [ru _ _ _ _ _ (rkZ j),ru _ _ _ _ _ (rkZ j),Nat.sub_self,hp]
  exact ⟨rfl,rfl⟩
 ·rw [rq _ _ _ _ _ (by omega),rq _ _ _ _ _ (by omega)]
  exact h j (by omega)
def cp (fl:Bool) (t:Nat) (tx ty:Int) (f:Nat->Nat->CV) (j:Nat):Int × Int:=tp fl t tx ty ((f j 0).int) ((f j 1).int)
def cq (fl:Bool) (t:Nat) (tx ty:Int) (n:Nat) (f:Nat->Nat->CV) (j:Nat):Int × Int:=cp fl t tx ty f (bif fl then n-1-j else j)
theorem Wg {ρ:Type} (s:ByteArray) (n t:Nat) (fl:Bool) (tx ty:Int) (f:Nat->Nat->CV) (hn:n<=40) (ht:t<=3) (k0:Nat->(Nat->Nat->CV)->Option ρ):∀ (m i:Nat) (g:Nat->Nat->CV),n<m+i->i<=n->Are (cp fl t tx ty f) g i ->
  ∃ g',rV 100 (au [.s s,.i .i64 tx,.i .i64 ty,.i .i64 (Int.ofNat t),.b fl]) n f (Int.ofNat n) m i (Int.ofNat i) g k0=k0 n g'/\Are (cp fl t tx ty f) g' n:=by
 intro m
 induction m with
 | zero=>intro i g h1 h2;omega
 | succ m ih =>
  intro i g h1 h2 hg
  unfold rV
  rw [aE,ax,aq]
  by_cases h:i<n
  ·rw [ae (by simpa using h),ae (by simpa using h),ay (by omega)]
   have e4:(au [.s s,.i .i64 tx,.i .i64 ty,.i .i64 (Int.ofNat t),.b fl] 4).bool=fl:=rfl
   have e3:(au [.s s,.i .i64 tx,.i .i64 ty,.i .i64 (Int.ofNat t),.b fl] 3).int=Int.ofNat t:=rfl
   have e1:(au [.s s,.i .i64 tx,.i .i64 ty,.i .i64 (Int.ofNat t),.b fl] 1).int=tx:=rfl
   have e2:(au [.s s,.i .i64 tx,.i .i64 ty,.i .i64 (Int.ofNat t),.b fl] 2).int=ty:=rfl
   rw [e4,e1,e2]
   cases fl with
   | true =>
    rw [ae rfl]
    rw [show (0:Int)=Int.ofNat 0 from rfl,Sn _ _ _ _ _ _ t _ e3 _ ht _ 100 0 _ _ (by omega) (by omega),ae (sR (by omega))]
    exact ih (i+1) _ (by omega) (by omega) (hg.snoc rfl)
   | false =>
    rw [ai rfl]
    rw [show (0:Int)=Int.ofNat 0 from rfl,Sn _ _ _ _ _ _ t _ e3 _ ht _ 100 0 _ _ (by omega) (by omega),ae (sR (by omega))]
    exact ih (i+1) _ (by omega) (by omega) (hg.snoc rfl)
  ·rw [ai (by simpa using h)]
   have:i=n:=by omega
   subst this
   exact ⟨g,rfl,hg⟩
theorem CK (s:ByteArray) (n t:Nat) (fl:Bool) (tx ty:Int) (f:Nat->Nat->CV) (hn:n<=40) (ht:t<=3) :
  ∃ g,F51 100 n f (au [.s s,.i .i64 tx,.i .i64 ty,.i .i64 (Int.ofNat t),.b fl])=some (n,g)/\Are (cq fl t tx ty n f) g n:=by
 unfold F51
 obtain ⟨g,h1,h2⟩:=Wg s n t fl tx ty f hn ht (fun x65 x66=>(bif ((au [.s s,.i .i64 tx,.i .i64 ty,.i .i64 (Int.ofNat t),.b fl] 4).bool) then (bif (Nat.beq x65 x65) then (bif (Nat.beq x65 0) then (some (x65,x66)) else (some (x65,(Gk x65 x66)))) else none) else (some (x65,x66)))) 100 0 (fun _ _=>.any) (by omega) (by omega) (fun j hj=>by omega)
 rw [show (0:Int)=Int.ofNat 0 from rfl,h1]
 have e4:(au [.s s,.i .i64 tx,.i .i64 ty,.i .i64 (Int.ofNat t),.b fl] 4).bool=fl:=rfl
 rw [e4]
 cases fl with
 | true =>
  rw [ae rfl,ae (Nat.beq_refl n)]
  by_cases h0:n=0
  ·subst h0
   exact ⟨g,rfl,fun j hj=>by omega⟩
  ·rw [ai (by cases hq:Nat.beq n 0 with | false=>rfl | true=>exact (h0 (qbZ hq)).elim)]
   refine ⟨_,rfl,fun j hj=>?_⟩
   unfold Gk cq
   exact h2 (n-1-j) (by omega)
 | false =>
  rw [ai rfl]
  exact ⟨g,rfl,h2⟩
def lY (x y:Int):Bool:=decide (x < -1099511627776\/x>1099511627776\/y < -1099511627776\/y>1099511627776)
theorem Jd (x y:Int):F49 100 x y=some (lY x y):=by
 unfold F49 lY
 by_cases h1:x < -1099511627776
 ·rw [ai (by simpa using h1)];simp [h1]
 ·rw [ae (by simpa using h1)]
  by_cases h2:x>1099511627776
  ·rw [ai (by simpa using h2)];simp [h2]
  ·rw [ae (by simpa using h2)]
   by_cases h3:y < -1099511627776
   ·rw [ai (by simpa using h3)];simp [h3]
   ·rw [ae (by simpa using h3)]
    congr 1
    rw [Bool.eq_iff_iff]
    simp only [decide_eq_true_eq]
    omega
def AZ (n:Nat) (f:Nat->Nat->CV) (i:Nat):Prop:=∃ j,i<=j/\j<n/\lY ((f j 0).int) ((f j 1).int)=true
theorem OA (n:Nat) (f:Nat->Nat->CV) (hn:n<=40):∀ (m i:Nat),n<m+i->i<=n ->
  ∃ z,mP 100 n f (Int.ofNat n) m (Int.ofNat i) (fun x=>some x) (some (-1))=some z/\(z>=0↔AZ n f i):=by
 intro m
 induction m with
 | zero=>intro i h1 h2;omega
 | succ m ih =>
  intro i h1 h2
  unfold mP
  rw [aE,ax,aq]
  by_cases h:i<n
  ·rw [ae (by simpa using h),ae (by simpa using h),ay (by omega),Jd,aa]
   cases hq:lY ((f i 0).int) ((f i 1).int) with
   | true =>
    rw [ae rfl]
    exact ⟨_,rfl,fun _=>⟨i,rkZ i,h,hq⟩,fun _=>rgZ i⟩
   | false =>
    rw [ai rfl]
    obtain ⟨z,h3,h4⟩:=ih (i+1) (by omega) (by omega)
    refine ⟨z,h3,h4.trans ⟨fun ⟨j,a,b,c⟩=>⟨j,by omega,b,c⟩,fun ⟨j,a,b,c⟩=>⟨j,?_,b,c⟩⟩⟩
    by_cases e:j=i
    ·subst e;rw [hq] at c;cases c
    ·omega
  ·rw [ai (by simpa using h)]
   exact ⟨-1,rfl,fun hh=>by omega,fun ⟨j,a,b,c⟩=>by omega⟩
theorem Q8 (n:Nat) (f:Nat->Nat->CV) (hn:n<=40):∃ b,KM 100 n f=some b/\(b=true↔AZ n f 0):=by
 unfold KM Pw
 obtain ⟨z,h1,h2⟩:=OA n f hn 100 0 (by omega) (by omega)
 rw [show (0:Int)=Int.ofNat 0 from rfl,h1,aa]
 exact ⟨_,rfl,by rw [decide_eq_true_iff];exact h2⟩
def s8 (n:Nat) (f:Nat->Nat->CV) (i:Nat):Prop:=∃ j,i<=j/\j<n/\AZ ((f j 0).len) ((f j 0).el) 0
theorem CP {ρ:Type} (n a b:Nat) (f c d:Nat->Nat->CV) (s:ByteArray) (x y z:Int) (e:Bool) (hn:n<=13) (hl:∀ j,j<n->(f j 0).len<=40) (k0 k1:Option ρ):∀ (m i:Nat),n<m+i->i<=n ->
  (s8 n f i->sd 100 n f (Int.ofNat n) a c b d s x y z e m (Int.ofNat i) k0 k1=k0)/\(¬ s8 n f i->sd 100 n f (Int.ofNat n) a c b d s x y z e m (Int.ofNat i) k0 k1=k1):=by
 intro m
 induction m with
 | zero=>intro i h1 h2;omega
 | succ m ih =>
  intro i h1 h2
  unfold sd
  rw [aE,ax,aq]
  by_cases h:i<n
  ·obtain ⟨q,hq1,hq2⟩:=Q8 ((f i 0).len) ((f i 0).el) (hl i h)
   rw [ae (by simpa using h),ae (by simpa using h),ay (by omega),hq1,aa]
   cases q with
   | true =>
    rw [ae rfl]
    exact ⟨fun _=>rfl,fun hh=>absurd ⟨i,rkZ i,h,hq2.1 rfl⟩ hh⟩
   | false =>
    rw [ai rfl]
    have e1:s8 n f i↔s8 n f (i+1):=by
     refine ⟨fun ⟨j,a,b,c⟩=>⟨j,?_,b,c⟩,fun ⟨j,a,b,c⟩=>⟨j,by omega,b,c⟩⟩
     by_cases e:j=i
     ·subst e
      have:=hq2.2 c
      cases this
     ·omega
    rw [e1]
    exact ih (i+1) (by omega) (by omega)
  ·rw [ai (by simpa using h)]
   exact ⟨fun ⟨j,a,b,c⟩=>by omega,fun _=>rfl⟩
def As (fl:Bool) (t:Nat) (tx ty:Int) (f g:Nat->Nat->CV) (i:Nat):Prop :=
 ∀ j,j<i->(g j 0).len=(f j 0).len/\Are (cq fl t tx ty ((f j 0).len) ((f j 0).el)) ((g j 0).el) ((f j 0).len)
theorem As.snoc {fl:Bool} {t:Nat} {tx ty:Int} {f g:Nat->Nat->CV} {i n:Nat} (h:As fl t tx ty f g i) {x:Nat->Nat->CV} {r:Kd} {b:Bool} (hn:n=(f i 0).len) (hx:Are (cq fl t tx ty n ((f i 0).el)) x n) :
  As fl t tx ty f (aB i g (aG 1 [.ro b r n x])) (i+1):=by
 intro j hj
 by_cases e:j=i
 ·subst e
  rw [ru _ _ _ _ _ (rkZ j),Nat.sub_self]
  subst hn
  exact ⟨rfl,hx⟩
 ·rw [rq _ _ _ _ _ (by omega)]
  exact h j (by omega)
theorem Q1 {ρ:Type} (s:ByteArray) (n t:Nat) (fl:Bool) (tx ty:Int) (f:Nat->Nat->CV) (a b:Nat) (c d:Nat->Nat->CV) (hn:n<=12) (hl:∀ j,j<n->(f j 0).len<=40) (ht:t<=3) (k0:Nat->(Nat->Nat->CV)->Option ρ):∀ (m i:Nat) (g:Nat->Nat->CV),n<m+i->i<=n->As fl t tx ty f g i ->
  ∃ g',vl 100 s tx ty (Int.ofNat t) fl n f (Int.ofNat n) a c b d m (Int.ofNat i) i g k0=k0 n g'/\As fl t tx ty f g' n:=by
 intro m
 induction m with
 | zero=>intro i g h1 h2;omega
 | succ m ih =>
  intro i g h1 h2 hg
  unfold vl
  rw [aE,ax,aq]
  by_cases h:i<n
  ·obtain ⟨x,hx1,hx2⟩:=CK s ((f i 0).len) t fl tx ty ((f i 0).el) (hl i h) ht
   rw [ae (by simpa using h),ae (by simpa using h),ay (by omega),hx1,aa,ae (sR (by omega))]
   exact ih (i+1) _ (by omega) (by omega) (hg.snoc rfl hx2)
  ·rw [ai (by simpa using h)]
   have:i=n:=by omega
   subst this
   exact ⟨g,rfl,hg⟩
theorem Wf {ρ:Type} (s:ByteArray) (n t:Nat) (fl:Bool) (tx ty:Int) (f:Nat->Nat->CV) (hn:n<=40) (ht:t<=3) (k0:Nat->(Nat->Nat->CV)->Option ρ):∀ (m i:Nat) (g:Nat->Nat->CV),n<m+i->i<=n->Are (cq fl t tx ty n f) g i ->
  ∃ g',rU 100 n f s tx ty (Int.ofNat t) fl m i (Int.ofNat i) g k0=k0 n g'/\Are (cq fl t tx ty n f) g' n:=by
 intro m
 induction m with
 | zero=>intro i g h1 h2;omega
 | succ m ih =>
  intro i g h1 h2 hg
  unfold rU
  rw [aE,ax,aq]
  by_cases h:i<n
  ·rw [ae (by simpa using h),ay (by omega)]
   cases fl with
   | true =>
    have e:w64 (w64 (Int.ofNat n-1)-Int.ofNat i)=Int.ofNat (n-1-i):=by
     rw [aC (n:=Int.ofNat n-1) (by simp;omega) (by simp;omega),aC (by simp;omega) (by simp;omega)]
     simp;omega
    rw [ae rfl,e,ax,aq,ae (by simp;omega),CD _ _ _ _ _ _ _ ht,aa,ae (sR (by omega))]
    exact ih (i+1) _ (by omega) (by omega) (hg.snoc rfl)
   | false =>
    rw [ai rfl,ae (by simpa using h),CD _ _ _ _ _ _ _ ht,aa,ae (sR (by omega))]
    exact ih (i+1) _ (by omega) (by omega) (hg.snoc rfl)
  ·rw [ai (by simpa using h)]
   have:i=n:=by omega
   subst this
   exact ⟨g,rfl,hg⟩
theorem Aj (s:ByteArray) (n t:Nat) (fl:Bool) (tx ty:Int) (f:Nat->Nat->CV) (hn:n<=40) (ht:t<=3) :
  ∃ g,F54 100 n f s tx ty (Int.ofNat t) fl=some (n,g)/\Are (cq fl t tx ty n f) g n:=by
 unfold F54
 exact Wf s n t fl tx ty f hn ht _ 100 0 (fun _ _=>.any) (by omega) (by omega) (fun j hj=>by omega)
theorem OB (x y:Int):F53 100 x y=some (lY x y):=Jd x y
theorem KE {ρ:Type} (N a b i:Nat) (F c d:Nat->Nat->CV) (s:ByteArray) (x y z:Int) (e:Bool) (hi:i<N) (hl:(F i 0).len<=40) (k0:Bool->Option ρ):∀ (m j:Nat) (bad:Bool),(F i 0).len<m+j->j<=(F i 0).len ->
  ∃ r,sc 100 N F (Int.ofNat i) a c b d s x y z e m bad (Int.ofNat j) k0=k0 r/\(r=true↔bad=true\/AZ ((F i 0).len) ((F i 0).el) j):=by
 intro m
 induction m with
 | zero=>intro j bad h1 h2;omega
 | succ m ih =>
  intro j bad h1 h2
  unfold sc
  rw [ax,aq,aE,ax,aq]
  rw [ae (by simpa using hi)]
  by_cases h:j<(F i 0).len
  ·rw [ae (by simpa using h),ay (by omega)]
   cases bad with
   | true =>
    rw [ai (by simp)]
    obtain ⟨r,h3,h4⟩:=ih (j+1) true (by omega) (by omega)
    exact ⟨r,h3,h4.trans ⟨fun _=>.inl rfl,fun _=>.inl rfl⟩⟩
   | false =>
    rw [ae (by simp),ae (by simpa using hi),ae (by simpa using h),OB,aa]
    obtain ⟨r,h3,h4⟩:=ih (j+1) (lY (((F i 0).el j 0).int) (((F i 0).el j 1).int)) (by omega) (by omega)
    refine ⟨r,h3,h4.trans ⟨fun hh=>?_,fun hh=>?_⟩⟩
    ·rcases hh with hh | ⟨j',a,b,c⟩
     ·exact .inr ⟨j,rkZ j,h,hh⟩
     ·exact .inr ⟨j',by omega,b,c⟩
    ·rcases hh with hh | ⟨j',a,b,c⟩
     ·cases hh
     ·by_cases e:j' = j
      ·subst e;exact .inl c
      ·exact .inr ⟨j',by omega,b,c⟩
  ·rw [ai (by simpa using h)]
   exact ⟨bad,rfl,fun h=>.inl h,fun hh=>hh.elim id fun ⟨j',a,b,c⟩=>by omega⟩
theorem KD {ρ:Type} (N a b:Nat) (F c d:Nat->Nat->CV) (s:ByteArray) (x y z:Int) (e:Bool) (hN:N<=13) (hl:∀ j,j<N->(F j 0).len<=40) (k0:Bool->Option ρ):∀ (m i:Nat) (bad:Bool),N<m+i->i<=N ->
  ∃ r,r9 100 N F a c b d s x y z e m bad (Int.ofNat i) k0=k0 r/\(r=true↔bad=true\/s8 N F i):=by
 intro m
 induction m with
 | zero=>intro i bad h1 h2;omega
 | succ m ih =>
  intro i bad h1 h2
  unfold r9
  rw [aE]
  by_cases h:i<N
  ·rw [ae (by simpa using h),ay (by omega)]
   obtain ⟨r1,h3,h4⟩:=KE N a b i F c d s x y z e h (hl i h) (fun x96=>(r9 100 N F a c b d s x y z e m x96 (Int.ofNat (i+1)) k0)) 100 0 bad (by have:=hl i h;omega) (by omega)
   rw [show (0:Int)=Int.ofNat 0 from rfl,h3]
   obtain ⟨r,h5,h6⟩:=ih (i+1) r1 (by omega) (by omega)
   refine ⟨r,h5,h6.trans ⟨fun hh=>?_,fun hh=>?_⟩⟩
   ·rcases hh with hh | ⟨j',a,b,c⟩
    ·rcases h4.1 hh with hh | hh
     ·exact .inl hh
     ·exact .inr ⟨i,rkZ i,h,hh⟩
    ·exact .inr ⟨j',by omega,b,c⟩
   ·rcases hh with hh | ⟨j',a,b,c⟩
    ·exact .inl (h4.2 (.inl hh))
    ·by_cases e:j' = i
     ·subst e;exact .inl (h4.2 (.inr c))
     ·exact .inr ⟨j',by omega,b,c⟩
  ·rw [ai (by simpa using h)]
   exact ⟨bad,rfl,fun h=>.inl h,fun hh=>hh.elim id fun ⟨j',a,b,c⟩=>by omega⟩
theorem GI {ρ:Type} (N a b i:Nat) (F c d:Nat->Nat->CV) (s:ByteArray) (x y z:Int) (e:Bool) (hi:i<N) (hl:(F i 0).len<=40) (k0:Option ρ):∀ (m j:Nat),(F i 0).len<m+j->j<=(F i 0).len ->
  vk 100 N F (Int.ofNat i) a c b d s x y z e m (Int.ofNat j) k0=k0:=by
 intro m
 induction m with
 | zero=>intro j h1 h2;omega
 | succ m ih =>
  intro j h1 h2
  unfold vk
  rw [ax,aq,aE,ae (by simpa using hi)]
  by_cases h:j<(F i 0).len
  ·rw [ae (by simpa using h),ay (by omega)]
   exact ih (j+1) (by omega) (by omega)
  ·rw [ai (by simpa using h)]
theorem BD {ρ:Type} (N a b:Nat) (F c d:Nat->Nat->CV) (s:ByteArray) (x y z:Int) (e:Bool) (hN:N<=13) (hl:∀ j,j<N->(F j 0).len<=40) (k0:Option ρ):∀ (m i:Nat),N<m+i->i<=N ->
  r7 100 N F a c b d s x y z e m (Int.ofNat i) k0=k0:=by
 intro m
 induction m with
 | zero=>intro i h1 h2;omega
 | succ m ih =>
  intro i h1 h2
  unfold r7
  rw [aE]
  by_cases h:i<N
  ·rw [ae (by simpa using h),ay (by omega),show (0:Int)=Int.ofNat 0 from rfl,GI N a b i F c d s x y z e h (hl i h) _ 100 0 (by have:=hl i h;omega) (by omega)]
   exact ih (i+1) (by omega) (by omega)
  ·rw [ai (by simpa using h)]
theorem Q0 {ρ:Type} (s:ByteArray) (n t:Nat) (fl:Bool) (tx ty:Int) (f:Nat->Nat->CV) (a b:Nat) (c d:Nat->Nat->CV) (hn:n<=12) (hl:∀ j,j<n->(f j 0).len<=40) (ht:t<=3) (k0:Nat->(Nat->Nat->CV)->Option ρ):∀ (m i:Nat) (g:Nat->Nat->CV),n<m+i->i<=n->As fl t tx ty f g i ->
  ∃ g',r8 100 a c n f s tx ty (Int.ofNat t) fl b d m (Int.ofNat i) i g k0=k0 n g'/\As fl t tx ty f g' n:=by
 intro m
 induction m with
 | zero=>intro i g h1 h2;omega
 | succ m ih =>
  intro i g h1 h2 hg
  unfold r8
  rw [aE,ax,aq]
  by_cases h:i<n
  ·obtain ⟨x,hx1,hx2⟩:=Aj s ((f i 0).len) t fl tx ty ((f i 0).el) (hl i h) ht
   rw [ae (by simpa using h),ae (by simpa using h),ay (by omega),hx1,aa,ae (sR (by omega))]
   exact ih (i+1) _ (by omega) (by omega) (hg.snoc rfl hx2)
  ·rw [ai (by simpa using h)]
   have:i=n:=by omega
   subst this
   exact ⟨g,rfl,hg⟩
theorem OP {P:Nat->Int × Int} {g:Nat->Nat->CV} {n:Nat} (h:Are P g n):∀ j,j<n->pt g j=P j:=by
 intro j hj
 obtain ⟨h1,h2⟩:=h j hj
 unfold pt
 rw [h1,h2]
 rfl
theorem E8 {x y:Int} (h:nr x y):lY x y=false:=by
 unfold lY nr at *
 exact qeZ (by omega)
theorem Bp {n1 n2:Nat} {f1 f2:Nat->Nat->CV} (h1:dm n1 f1) (h2:∀ j,j<n2->dm ((f2 j 0).len) ((f2 j 0).el)):¬ s8 (1+n2) (cfh n1 f1 f2) 0:=by
 rintro ⟨j,_,hj,i,_,hi,hb⟩
 cases j with
 | zero =>
  have:=E8 (h1 i hi)
  rw [show (cfh n1 f1 f2 0 0).el=f1 from rfl,this] at hb
  cases hb
 | succ j =>
  rw [OK] at hi hb
  rw [E8 (h2 j (by omega) i hi)] at hb
  cases hb
def Bds (f:Nat->Nat->CV) (i:Nat) (a b c d:Int):Prop :=
 (∀ j,j<i->a<=(f j 0).int/\b<=(f j 1).int/\(f j 0).int<=c/\(f j 1).int<=d) /\
 (0<i->(∃ j,j<i/\(f j 0).int=a)/\(∃ j,j<i/\(f j 1).int=b)/\(∃ j,j<i/\(f j 0).int=c)/\(∃ j,j<i/\(f j 1).int=d))
theorem Bds.step {f:Nat->Nat->CV} {i:Nat} {a b c d a' b' c' d' : Int} (hi:0<i) (h:Bds f i a b c d)
  (ha:a' = if (f i 0).int<a then (f i 0).int else a) (hb:b' = if (f i 1).int<b then (f i 1).int else b)
  (hc:c' = if (f i 0).int>c then (f i 0).int else c) (hd:d' = if (f i 1).int>d then (f i 1).int else d):Bds f (i+1) a' b' c' d':=by
 obtain ⟨h1,h2⟩:=h
 obtain ⟨⟨j1,k1,e1⟩,⟨j2,k2,e2⟩,⟨j3,k3,e3⟩,⟨j4,k4,e4⟩⟩:=h2 hi
 have q1:a'<=a/\a'<=(f i 0).int:=by rw [ha];split<;>omega
 have q2:b'<=b/\b'<=(f i 1).int:=by rw [hb];split<;>omega
 have q3:c<=c'/\(f i 0).int<=c':=by rw [hc];split<;>omega
 have q4:d<=d'/\(f i 1).int<=d':=by rw [hd];split<;>omega
 refine ⟨fun j hj=>?_,fun _=>⟨?_,?_,?_,?_⟩⟩
 ·by_cases e:j=i
  ·rw [e];exact ⟨q1.2,q2.2,q3.2,q4.2⟩
  ·obtain ⟨p1,p2,p3,p4⟩:=h1 j (by omega)
   exact ⟨by omega,by omega,by omega,by omega⟩
 ·by_cases e:(f i 0).int<a
  ·exact ⟨i,by omega,by rw [ha,if_pos e]⟩
  ·exact ⟨j1,by omega,by rw [ha,if_neg e];exact e1⟩
 ·by_cases e:(f i 1).int<b
  ·exact ⟨i,by omega,by rw [hb,if_pos e]⟩
  ·exact ⟨j2,by omega,by rw [hb,if_neg e];exact e2⟩
 ·by_cases e:(f i 0).int>c
  ·exact ⟨i,by omega,by rw [hc,if_pos e]⟩
  ·exact ⟨j3,by omega,by rw [hc,if_neg e];exact e3⟩
 ·by_cases e:(f i 1).int>d
  ·exact ⟨i,by omega,by rw [hd,if_pos e]⟩
  ·exact ⟨j4,by omega,by rw [hd,if_neg e];exact e4⟩
theorem FI {ρ:Type} (n a:Nat) (f b:Nat->Nat->CV) (k0:Int->Int->Int->Int->Option ρ) (hn:n<=40):∀ (m i:Nat) (p q r s:Int),n<m+i->i<=n->(0<i->Bds f i p q r s) ->
  ∃ p' q' r' s',se 100 n f a b m (Int.ofNat i) p q r s k0=k0 p' q' r' s'/\(0<n->Bds f n p' q' r' s'):=by
 intro m
 induction m with
 | zero=>intro i p q r s h1 h2;omega
 | succ m ih =>
  intro i p q r s h1 h2 hB
  unfold se
  rw [aE,ax,aq]
  by_cases h:i<n
  ·rw [ae (by simpa using h),ae (by simpa using h),ay (by omega)]
   by_cases h0:i=0
   ·subst h0
    rw [ae (by simp)]
    refine ih 1 _ _ _ _ (by omega) (by omega) fun _=>?_
    simp only [gt_iff_lt,ite_self]
    refine ⟨fun j hj=>?_,fun _=>⟨⟨0,by omega,rfl⟩,⟨0,by omega,rfl⟩,⟨0,by omega,rfl⟩,⟨0,by omega,rfl⟩⟩⟩
    have:j=0:=by omega
    subst this
    exact ⟨Int.le_refl _,Int.le_refl _,Int.le_refl _,Int.le_refl _⟩
   ·rw [ai (by simp [h0])]
    exact ih (i+1) _ _ _ _ (by omega) (by omega) fun _=>(hB (by omega)).step (by omega) rfl rfl rfl rfl
  ·rw [ai (by simpa using h)]
   have:i=n:=by omega
   subst this
   exact ⟨p,q,r,s,rfl,hB⟩
theorem sQ (n a:Nat) (f b:Nat->Nat->CV) (hn:n<=40):∃ p q r s,F21 100 n f a b=some (p,q,r,s)/\(0<n->Bds f n p q r s):=by
 unfold F21
 exact FI n a f b _ hn 100 0 0 0 0 0 (by omega) (by omega) (fun h=>absurd h (by omega))
def Fine (n:Nat) (l w lo:Int):Prop:=n≠0/\(0<=l/\l<=32768)/\(0<=w/\w<=32768)/\(0<=lo/\lo<=1000)
end Go.Eng.R13
