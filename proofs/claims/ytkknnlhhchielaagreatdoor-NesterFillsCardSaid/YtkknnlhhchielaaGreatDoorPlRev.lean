/-
 Several texts in one.
-/
import Derived.Test.YtkknnlhhchielaaGreatDoorDecT2
import Derived.Test.YtkknnlhhchielaaGreatDoorEngU
import Derived.Test.YtkknnlhhchielaaGreatDoorGeo6
import Derived.Test.YtkknnlhhchielaaGreatDoorGeo6
import Derived.Test.YtkknnlhhchielaaGreatDoorGeo6
import Derived.Test.YtkknnlhhchielaaGreatDoorGeo6
import Derived.Test.YtkknnlhhchielaaGreatDoorGeo6
/-
 slices.Reverse over points: the plain law,and the oracle's first row.
-/
set_option linter.all false
namespace Go.Eng.R13
open Go Go.RowKit Go.Eng
theorem setF_at (f:Nat→Nat→CV) (i:Nat) (L:Nat→CV) (a c:Nat):setF f i 0 2 L a c=if a=i∧c<2 then L c else f a c:=by
 unfold setF
 by_cases h1:a=i
 ·subst h1
  by_cases h2:c<2
  ·have:(Nat.beq a a&&Nat.ble 0 c&&Nat.blt c (0+2))=true:=by
    simp [Nat.blt_eq,h2]
   rw [this,if_pos ⟨rfl,h2⟩];rfl
  ·have:(Nat.beq a a&&Nat.ble 0 c&&Nat.blt c (0+2))=false:=by
    have:Nat.blt c (0+2)=false:=by
     cases hq:Nat.blt c (0+2) with
     | false=>rfl
     | true=>exact (h2 (by simpa [Nat.blt_eq] using hq)).elim
    rw [this];simp
   rw [this,if_neg (fun h=>h2 h.2)];rfl
 ·have:(Nat.beq a i&&Nat.ble 0 c&&Nat.blt c (0+2))=false:=by
   have:Nat.beq a i=false:=by
    cases hq:Nat.beq a i with
    | false=>rfl
    | true=>exact (h1 (Nat.eq_of_beq_eq_true hq)).elim
   simp [this]
  rw [this,if_neg (fun h=>h1 h.1)];rfl
theorem listF_2 (a b:CV) (c:Nat) (h:c<2):listF [a,b] c=if c=0 then a else b:=by
 match c,h with
 | 0,_=>rfl
 | 1,_=>rfl
theorem rev_loop {ρ:Type} (fuel n:Nat) (g:Nat→Nat→CV) (hn:n<9223372036854775808) (hg:∀ i j,i<n→j<2→∃ z,g i j=.i .i64 z) (k0:(Nat→Nat→CV)→Option ρ) :
  ∀ (m i:Nat) (f:Nat→Nat→CV),n<m+i→2*i≤n+1→(∀ j c,j<n→c<2→f j c=if j<i∨n≤j+i then g (n-1-j) c else g j c) →
   ∃ f',L52v1 fuel n m (Int.ofNat i) (Int.ofNat n-1-Int.ofNat i) f k0=k0 f'∧∀ j c,j<n→c<2→f' j c=g (n-1-j) c:=by
 intro m
 induction m with
 | zero=>intro i f h1 h2 hf;omega
 | succ m ih =>
  intro i f h1 h2 hf
  unfold L52v1
  by_cases hlt:(Int.ofNat i)<Int.ofNat n-1-Int.ofNat i
  ·have hlt' : i+i+1<n:=by simp at hlt;omega
   have hx:Int.ofNat n-1-Int.ofNat i=Int.ofNat (n-1-i):=by simp;omega
   rw [bif_t (by simpa using hlt),hx,inb_nat,inb_nat]
   rw [bif_t (by simp;omega),bif_t (by simp;omega),bif_t (by simp;omega),bif_t (by simp;omega)]
   rw [w64_succ (by omega),toNat_nat,toNat_nat,Nat.zero_add,Nat.zero_add]
   have hw:w64 (Int.ofNat (n-1-i)-1)=Int.ofNat n-1-Int.ofNat (i+1):=by
    rw [w64_of]<;>simp<;>omega
   rw [hw]
   refine ih (i+1) _ (by omega) (by omega) fun j c hj hc=>?_
   have val:∀ a d,a<n→d<2→CV.i .i64 (CV.int (f a d))=f a d:=by
    intro a d ha hd
    rw [hf a d ha hd]
    split
    ·obtain ⟨z,hz⟩:=hg (n-1-a) d (by omega) hd
     rw [hz];rfl
    ·obtain ⟨z,hz⟩:=hg a d ha hd
     rw [hz];rfl
   rw [setF_at,setF_at,listF_2 _ _ c hc,listF_2 _ _ c hc]
   rw [val _ _ (by omega) (by omega),val _ _ (by omega) (by omega),val _ _ (by omega) (by omega),val _ _ (by omega) (by omega)]
   have two:∀ a,(if c=0 then f a 0 else f a 1)=f a c:=by
    intro a
    match c,hc with
    | 0,_=>rfl
    | 1,_=>rfl
   rw [two,two]
   by_cases e1:j=n-1-i
   ·rw [if_pos ⟨e1,hc⟩,if_pos (by omega),hf i c (by omega) hc,if_neg (by omega),e1]
    congr 1;omega
   ·rw [if_neg (fun h=>e1 h.1)]
    by_cases e2:j=i
    ·rw [if_pos ⟨e2,hc⟩,if_pos (by omega),hf _ c (by omega) hc,if_neg (by omega),e2]
    ·rw [if_neg (fun h=>e2 h.1),hf j c hj hc]
     by_cases e3:j<i∨n≤j+i
     ·rw [if_pos e3,if_pos (by omega)]
     ·rw [if_neg e3,if_neg (by omega)]
  ·have hlt' : n≤i+i+1:=by simp at hlt;omega
   rw [bif_f (by simpa using hlt)]
   refine ⟨f,rfl,fun j c hj hc=>?_⟩
   rw [hf j c hj hc]
   split
   ·rfl
   ·have:j=n-1-j:=by omega
    rw [← this]
theorem rev_law (fuel n:Nat) (g:Nat→Nat→CV) (hn:n<fuel) (hn2:n<9223372036854775808) (hg:∀ i j,i<n→j<2→∃ z,g i j=.i .i64 z) :
  ∃ f',F52 fuel n g=some (n,f')∧∀ i j,i<n→j<2→f' i j=revF n g i j:=by
 unfold F52 D52
 have h0:w64 (Int.ofNat n-1)=Int.ofNat n-1-Int.ofNat 0:=by
  rw [w64_of]<;>simp<;>omega
 rw [h0]
 obtain ⟨f',h1,h2⟩:=rev_loop (ρ:=Nat × (Nat→Nat→CV)) fuel n g hn2 hg (fun x=>some (n,x)) fuel 0 g (by omega) (by omega) (fun j c hj hc=>by rw [if_neg (by omega)])
 exact ⟨f',h1,h2⟩
end Go.Eng.R13
/-
 What 'great' leaves;the examples of the chapter.
-/
set_option linter.all false
namespace Go.Eng.R13
open Go Go.RowKit Go.Eng
end Go.Eng.R13
/-
 The small functions on points: crosses,signs,edges that meet.
-/
set_option linter.all false
namespace Go.Eng.R13
open Go Go.RowKit Go.Eng Geo
abbrev pt (f:Nat→Nat→CV) (i:Nat):Pt:=(CV.int (f i 0),CV.int (f i 1))
theorem w_cross {x1 x2 x3 x4 x5 x6:Int} (ha:nr x1 x2) (hb:nr x3 x4) (hc:nr x5 x6) :
  w64 (w64 (w64 (x3-x1)*w64 (x6-x2))-w64 (w64 (x4-x2)*w64 (x5-x1)))=cross (x1,x2) (x3,x4) (x5,x6):=by
 unfold nr at *
 have h1:=mul_bd (x:=x3-x1) (y:=x6-x2) (A:=65536) (B:=65536) (by omega) (by omega) (by omega) (by omega)
 have h2:=mul_bd (x:=x4-x2) (y:=x5-x1) (A:=65536) (B:=65536) (by omega) (by omega) (by omega) (by omega)
 rw [w64_of (n:=x3-x1) (by omega) (by omega),w64_of (n:=x6-x2) (by omega) (by omega),w64_of (n:=x4-x2) (by omega) (by omega),w64_of (n:=x5-x1) (by omega) (by omega)]
 rw [w64_of (n:=(x3-x1)*(x6-x2)) (by omega) (by omega),w64_of (n:=(x4-x2)*(x5-x1)) (by omega) (by omega),w64_of (by omega) (by omega)]
 rfl
def sgn (x:Int):Int:=if x<0 then -1 else if 0<x then 1 else 0
theorem sgn_neg {x:Int} (h:x<0):sgn x = -1:=by unfold sgn;rw [if_pos h]
theorem sgn_pos {x:Int} (h:0<x):sgn x=1:=by unfold sgn;rw [if_neg (by omega),if_pos h]
theorem sgn_zero:sgn 0=0:=rfl
theorem sgn_opp (s t:Int):decide (w64 (sgn s*sgn t)<0)=decide (opp s t):=by
 have e:∀ x,sgn x = -1∧x<0∨sgn x=0∧x=0∨sgn x=1∧0<x:=by
  intro x
  rcases Int.lt_trichotomy x 0 with h | h | h
  ·exact .inl ⟨sgn_neg h,h⟩
  ·exact .inr (.inl ⟨by rw [h];rfl,h⟩)
  ·exact .inr (.inr ⟨sgn_pos h,h⟩)
 have key:(w64 (sgn s*sgn t)<0)↔opp s t:=by
  unfold opp
  rcases e s with ⟨h1,h2⟩ | ⟨h1,h2⟩ | ⟨h1,h2⟩<;>rcases e t with ⟨h3,h4⟩ | ⟨h3,h4⟩ | ⟨h3,h4⟩<;>rw [h1,h3,w64_of (by decide) (by decide)]<;>simp<;>omega
 exact decide_eq_decide.2 key
theorem cross79 {x1 x2 x3 x4 x5 x6:Int} (ha:nr x1 x2) (hb:nr x3 x4) (hc:nr x5 x6):F79 100 x1 x2 x3 x4 x5 x6=some (cross (x1,x2) (x3,x4) (x5,x6)):=by
 unfold F79;rw [w_cross ha hb hc]
theorem cross75 {x1 x2 x3 x4 x5 x6:Int} (ha:nr x1 x2) (hb:nr x3 x4) (hc:nr x5 x6):F75 100 x1 x2 x3 x4 x5 x6=some (cross (x1,x2) (x3,x4) (x5,x6)):=by
 unfold F75;rw [w_cross ha hb hc]
theorem cross71 {x1 x2 x3 x4 x5 x6:Int} (ha:nr x1 x2) (hb:nr x3 x4) (hc:nr x5 x6):F71 100 x1 x2 x3 x4 x5 x6=some (cross (x1,x2) (x3,x4) (x5,x6)):=by
 unfold F71;rw [w_cross ha hb hc]
theorem turn84 {x1 x2 x3 x4 x5 x6:Int} (ha:nr x1 x2) (hb:nr x3 x4) (hc:nr x5 x6):F84 100 x1 x2 x3 x4 x5 x6=some (sgn (cross (x1,x2) (x3,x4) (x5,x6))):=by
 unfold F84;rw [w_cross ha hb hc]
 rcases Int.lt_trichotomy (cross (x1,x2) (x3,x4) (x5,x6)) 0 with h | h | h
 ·rw [sgn_neg h,bif_f (by simp;omega),bif_t (by simpa using h)]
 ·rw [h,sgn_zero];rfl
 ·rw [sgn_pos h,bif_t (by simpa using h)]
theorem sign86 (x:Int):F86 100 x=some (sgn x):=by
 unfold F86 F89 F90
 rw [ob_some,ob_some]
 have e1:(x != x)=false:=by simp
 have e2:((0:Int) != 0)=false:=rfl
 rw [e1,e2,bif_f rfl,bif_f rfl]
 rcases Int.lt_trichotomy x 0 with h | h | h
 ·rw [sgn_neg h,bif_t (by simpa using h)];rfl
 ·rw [h];rfl
 ·rw [sgn_pos h,bif_f (by simp;omega),bif_t (by simpa using h)];rfl
theorem sign88 (x:Int):F88 100 x=some (sgn x):=by
 unfold F88
 rcases Int.lt_trichotomy x 0 with h | h | h
 ·rw [sgn_neg h,bif_t (by simpa using h)]
 ·rw [h];rfl
 ·rw [sgn_pos h,bif_f (by simp;omega),bif_t (by simpa using h)]
theorem sign74 (x:Int):F74 100 x=some (sgn x):=by
 unfold F74 sgn
 congr 1
 split<;>split<;>split<;>(try split)<;>omega
theorem btwB (a b q:Int):(decide ((if b<a then b else a)≤q)&&decide (q≤(if b>a then b else a)))=decide (btw a b q):=by
 rw [Bool.eq_iff_iff,Bool.and_eq_true,decide_eq_true_iff,decide_eq_true_iff,decide_eq_true_iff]
 unfold btw
 split<;>split<;>omega
theorem within87 (x1 x2 x3 x4 x5 x6:Int):F87 100 x1 x2 x3 x4 x5 x6=some (decide (btw x1 x3 x5)&&decide (btw x2 x4 x6)):=by
 unfold F87
 rw [← btwB x1 x3 x5,← btwB x2 x4 x6]
 cases decide ((if x3<x1 then x3 else x1)≤x5)<;>cases decide (x5≤(if x3>x1 then x3 else x1))<;>cases decide ((if x4<x2 then x4 else x2)≤x6)<;>cases decide (x6≤(if x4>x2 then x4 else x2))<;>rfl
theorem within76 (x1 x2 x3 x4 x5 x6:Int):F76 100 x1 x2 x3 x4 x5 x6=some (decide (btw x1 x3 x5)&&decide (btw x2 x4 x6)):=within87 x1 x2 x3 x4 x5 x6
theorem onB (x1 x2 x3 x4 x5 x6:Int):decide (On (x5,x6) (x1,x2) (x3,x4))=((cross (x1,x2) (x3,x4) (x5,x6)==0)&&(decide (btw x1 x3 x5)&&decide (btw x2 x4 x6))):=by
 rw [Bool.eq_iff_iff,Bool.and_eq_true,Bool.and_eq_true,decide_eq_true_iff,decide_eq_true_iff,decide_eq_true_iff,beq_iff_eq]
 rfl
theorem on81 {x1 x2 x3 x4 x5 x6:Int} (ha:nr x1 x2) (hb:nr x3 x4) (hc:nr x5 x6):F81 100 x1 x2 x3 x4 x5 x6=some (decide (On (x5,x6) (x1,x2) (x3,x4))):=by
 unfold F81
 rw [cross79 ha hb hc,ob_some,within87,ob_some,onB]
 cases (cross (x1,x2) (x3,x4) (x5,x6)==0)<;>rfl
theorem on70 {x1 x2 x3 x4 x5 x6:Int} (ha:nr x1 x2) (hb:nr x3 x4) (hc:nr x5 x6):F70 100 x1 x2 x3 x4 x5 x6=some (decide (On (x1,x2) (x3,x4) (x5,x6))):=by
 unfold F70
 rw [cross71 hb hc ha,ob_some,onB,← btwB x3 x5 x1,← btwB x4 x6 x2]
 cases (cross (x3,x4) (x5,x6) (x1,x2)==0)<;>cases decide ((if x5<x3 then x5 else x3)≤x1)<;>cases decide (x1≤(if x5>x3 then x5 else x3))<;>cases decide ((if x6<x4 then x6 else x4)≤x2)<;>cases decide (x2≤(if x6>x4 then x6 else x4))<;>rfl
theorem on83 {x1 x2 x3 x4 x5 x6:Int} (ha:nr x1 x2) (hb:nr x3 x4) (hc:nr x5 x6):F83 100 x1 x2 x3 x4 x5 x6=some (decide (On (x5,x6) (x1,x2) (x3,x4))):=by
 unfold F83
 rw [turn84 ha hb hc,ob_some,onB,← btwB x1 x3 x5,← btwB x2 x4 x6]
 have e:(sgn (cross (x1,x2) (x3,x4) (x5,x6))==0)=(cross (x1,x2) (x3,x4) (x5,x6)==0):=by
  rcases Int.lt_trichotomy (cross (x1,x2) (x3,x4) (x5,x6)) 0 with h | h | h
  ·rw [sgn_neg h,Bool.eq_iff_iff,beq_iff_eq,beq_iff_eq];omega
  ·rw [h,sgn_zero]
  ·rw [sgn_pos h,Bool.eq_iff_iff,beq_iff_eq,beq_iff_eq];omega
 rw [e]
 cases (cross (x1,x2) (x3,x4) (x5,x6)==0)<;>cases decide ((if x3<x1 then x3 else x1)≤x5)<;>cases decide (x5≤(if x3>x1 then x3 else x1))<;>cases decide ((if x4<x2 then x4 else x2)≤x6)<;>cases decide (x6≤(if x4>x2 then x4 else x2))<;>rfl
theorem meetB (x1 x2 x3 x4 x5 x6 x7 x8:Int):decide (Meet (x1,x2) (x3,x4) (x5,x6) (x7,x8)) =
  (decide (On (x5,x6) (x1,x2) (x3,x4))||(decide (On (x7,x8) (x1,x2) (x3,x4))||(decide (On (x1,x2) (x5,x6) (x7,x8))||(decide (On (x3,x4) (x5,x6) (x7,x8)) ||
   (decide (opp (cross (x1,x2) (x3,x4) (x5,x6)) (cross (x1,x2) (x3,x4) (x7,x8)))&&decide (opp (cross (x5,x6) (x7,x8) (x1,x2)) (cross (x5,x6) (x7,x8) (x3,x4)))))))):=by
 rw [Bool.eq_iff_iff]
 simp only [Bool.or_eq_true,Bool.and_eq_true,decide_eq_true_iff]
 rfl
theorem meet80 {x1 x2 x3 x4 x5 x6 x7 x8:Int} (ha:nr x1 x2) (hb:nr x3 x4) (hc:nr x5 x6) (hd:nr x7 x8):F80 100 x1 x2 x3 x4 x5 x6 x7 x8=some (decide (Meet (x1,x2) (x3,x4) (x5,x6) (x7,x8))):=by
 unfold F80
 rw [on81 ha hb hc,on81 ha hb hd,on81 hc hd ha,on81 hc hd hb,cross79 ha hb hc,cross79 ha hb hd,cross79 hc hd ha,cross79 hc hd hb]
 simp only [ob_some,sign86,sgn_opp]
 rw [meetB]
 cases decide (On (x5,x6) (x1,x2) (x3,x4))<;>cases decide (On (x7,x8) (x1,x2) (x3,x4))<;>cases decide (On (x1,x2) (x5,x6) (x7,x8))<;>cases decide (On (x3,x4) (x5,x6) (x7,x8)) <;>
  cases decide (opp (cross (x1,x2) (x3,x4) (x5,x6)) (cross (x1,x2) (x3,x4) (x7,x8)))<;>rfl
theorem meet82 {x1 x2 x3 x4 x5 x6 x7 x8:Int} (ha:nr x1 x2) (hb:nr x3 x4) (hc:nr x5 x6) (hd:nr x7 x8):F82 100 x1 x2 x3 x4 x5 x6 x7 x8=some (decide (Meet (x1,x2) (x3,x4) (x5,x6) (x7,x8))):=by
 unfold F82
 rw [on70 ha hc hd,on70 hb hc hd,on70 hc ha hb,on70 hd ha hb,cross71 ha hb hc,cross71 ha hb hd,cross71 hc hd ha,cross71 hc hd hb]
 simp only [ob_some,sign88,sgn_opp]
 rw [meetB]
 cases decide (On (x5,x6) (x1,x2) (x3,x4))<;>cases decide (On (x7,x8) (x1,x2) (x3,x4))<;>cases decide (On (x1,x2) (x5,x6) (x7,x8))<;>cases decide (On (x3,x4) (x5,x6) (x7,x8)) <;>
  cases decide (opp (cross (x1,x2) (x3,x4) (x5,x6)) (cross (x1,x2) (x3,x4) (x7,x8)))<;>rfl
theorem meet68 {x1 x2 x3 x4 x5 x6 x7 x8:Int} (ha:nr x1 x2) (hb:nr x3 x4) (hc:nr x5 x6) (hd:nr x7 x8):F68 100 x1 x2 x3 x4 x5 x6 x7 x8=some (decide (Meet (x1,x2) (x3,x4) (x5,x6) (x7,x8))):=by
 unfold F68
 rw [on83 ha hb hc,on83 ha hb hd,on83 hc hd ha,on83 hc hd hb,turn84 ha hb hc,turn84 ha hb hd,turn84 hc hd ha,turn84 hc hd hb]
 simp only [ob_some,sgn_opp]
 rw [meetB]
 cases decide (On (x5,x6) (x1,x2) (x3,x4))<;>cases decide (On (x7,x8) (x1,x2) (x3,x4))<;>cases decide (On (x1,x2) (x5,x6) (x7,x8))<;>cases decide (On (x3,x4) (x5,x6) (x7,x8)) <;>
  cases decide (opp (cross (x1,x2) (x3,x4) (x5,x6)) (cross (x1,x2) (x3,x4) (x7,x8)))<;>rfl
theorem sgn_z (x:Int):(sgn x==0)=(x==0):=by
 rcases Int.lt_trichotomy x 0 with h | h | h
 ·rw [sgn_neg h,Bool.eq_iff_iff,beq_iff_eq,beq_iff_eq];omega
 ·rw [h,sgn_zero]
 ·rw [sgn_pos h,Bool.eq_iff_iff,beq_iff_eq,beq_iff_eq];omega
theorem meet56 {x1 x2 x3 x4 x5 x6 x7 x8:Int} (ha:nr x1 x2) (hb:nr x3 x4) (hc:nr x5 x6) (hd:nr x7 x8):F56 100 x1 x2 x3 x4 x5 x6 x7 x8=some (decide (Meet (x1,x2) (x3,x4) (x5,x6) (x7,x8))):=by
 unfold F56
 rw [cross75 ha hb hc,cross75 ha hb hd,cross75 hc hd ha,cross75 hc hd hb]
 simp only [ob_some,sign74,sgn_opp,sgn_z,within76]
 rw [meetB,onB,onB,onB,onB]
 generalize (cross (x1,x2) (x3,x4) (x5,x6)==0)=z1
 generalize (cross (x1,x2) (x3,x4) (x7,x8)==0)=z2
 generalize (cross (x5,x6) (x7,x8) (x1,x2)==0)=z3
 generalize (cross (x5,x6) (x7,x8) (x3,x4)==0)=z4
 generalize (decide (btw x1 x3 x5)&&decide (btw x2 x4 x6))=o1
 generalize (decide (btw x1 x3 x7)&&decide (btw x2 x4 x8))=o2
 generalize (decide (btw x5 x7 x1)&&decide (btw x6 x8 x2))=o3
 generalize (decide (btw x5 x7 x3)&&decide (btw x6 x8 x4))=o4
 generalize decide (opp (cross (x1,x2) (x3,x4) (x5,x6)) (cross (x1,x2) (x3,x4) (x7,x8)))=p1
 generalize decide (opp (cross (x5,x6) (x7,x8) (x1,x2)) (cross (x5,x6) (x7,x8) (x3,x4)))=p2
 cases p1<;>cases p2<;>cases z1<;>cases o1<;>cases z2<;>cases o2<;>cases z3<;>cases o3<;>cases z4<;>cases o4<;>rfl
theorem far61 (x y:Int):∃ b,F61 100 x y=some b∧(b=false↔nr x y):=by
 unfold F61 nr
 by_cases h1:x < -32768
 ·rw [bif_f (by simpa using h1)]
  exact ⟨true,rfl,by simp;omega⟩
 ·rw [bif_t (by simpa using h1)]
  by_cases h2:x>32768
  ·rw [bif_f (by simpa using h2)]
   exact ⟨true,rfl,by simp;omega⟩
  ·rw [bif_t (by simpa using h2)]
   by_cases h3:y < -32768
   ·rw [bif_f (by simpa using h3)]
    exact ⟨true,rfl,by simp;omega⟩
   ·rw [bif_t (by simpa using h3)]
    exact ⟨_,rfl,by rw [decide_eq_false_iff_not];omega⟩
theorem near69 (x y:Int):∃ b,F69 100 x y=some b∧(b=true↔nr x y):=by
 unfold F69 nr
 by_cases h1:x≥-32768
 ·rw [bif_t (by simpa using h1)]
  by_cases h2:x≤32768
  ·rw [bif_t (by simpa using h2)]
   by_cases h3:y≥-32768
   ·rw [bif_t (by simpa using h3)]
    exact ⟨_,rfl,by rw [decide_eq_true_iff];omega⟩
   ·rw [bif_f (by simpa using h3)]
    exact ⟨false,rfl,by simp;omega⟩
  ·rw [bif_f (by simpa using h2)]
   exact ⟨false,rfl,by simp;omega⟩
 ·rw [bif_f (by simpa using h1)]
  exact ⟨false,rfl,by simp;omega⟩
end Go.Eng.R13
/-
 Checking,areas and places of polygons: the program's and the reference's.
-/
set_option linter.all false
namespace Go.Eng.R13
open Go Go.RowKit Go.Eng Geo
def AllNr (n:Nat) (f:Nat→Nat→CV):Prop:=∀ i,i<n→nr (CV.int (f i 0)) (CV.int (f i 1))
theorem tmod_nat (a n:Nat):Int.tmod (Int.ofNat a) (Int.ofNat n)=Int.ofNat (a % n):=rfl
theorem ofNat_ne0 {n:Nat} (h:0<n):(Int.ofNat n==0)=false:=by simp;omega
theorem w64_succ2 {i:Nat} (h:i<9223372036854775800):w64 (Int.ofNat i+2)=Int.ofNat (i+2):=by
 rw [w64_of]<;>simp<;>omega
theorem far73 (n:Nat) (f:Nat→Nat→CV) (hn:n≤60):∀ (m i:Nat),n<m+i→i≤n →
  ∃ z,L73v1 100 n f (Int.ofNat n) m (Int.ofNat i) (fun x=>some x) (some (-1))=some z∧(z<0↔∀ j,i≤j→j<n→nr (CV.int (f j 0)) (CV.int (f j 1))):=by
 intro m
 induction m with
 | zero=>intro i h1 h2;omega
 | succ m ih =>
  intro i h1 h2
  unfold L73v1
  rw [lt_nat,inb_nat,toNat_nat]
  by_cases h:i<n
  ·obtain ⟨b,hb1,hb2⟩:=far61 (CV.int (f i 0)) (CV.int (f i 1))
   rw [bif_t (by simpa using h),bif_t (by simpa using h),w64_succ (by omega),hb1,ob_some]
   cases b with
   | true =>
    rw [bif_t rfl]
    refine ⟨_,rfl,fun hh=>?_,fun hh=>?_⟩
    ·have:=Int.natCast_nonneg i
     simp at hh;omega
    ·have:=hb2.2 (hh i (Nat.le_refl i) h);cases this
   | false =>
    rw [bif_f rfl]
    obtain ⟨z,h3,h4⟩:=ih (i+1) (by omega) (by omega)
    refine ⟨z,h3,h4.trans ⟨fun hh j a b=>?_,fun hh j a b=>hh j (by omega) b⟩⟩
    by_cases e:j=i
    ·rw [e];exact hb2.1 rfl
    ·exact hh j (by omega) b
  ·rw [bif_f (by simpa using h)]
   exact ⟨-1,rfl,fun _ j a b=>by omega,fun _=>by decide⟩
theorem far50 (n:Nat) (f:Nat→Nat→CV) (hn:n≤60):∃ b,F50 100 n f=some b∧(b=false↔AllNr n f):=by
 unfold F50 F73
 obtain ⟨z,h1,h2⟩:=far73 n f hn 100 0 (by omega) (by omega)
 rw [show (0:Int)=Int.ofNat 0 from rfl,h1,ob_some]
 refine ⟨_,rfl,?_⟩
 rw [decide_eq_false_iff_not]
 have e:(¬ z≥Int.ofNat 0)↔z<0:=by simp
 rw [e,h2]
 exact ⟨fun h i hi=>h i (by omega) hi,fun h i _ hi=>h i hi⟩
theorem near_loop (n:Nat) (f:Nat→Nat→CV) (hn:n≤60):∀ (m i:Nat),n<m+i→i≤n →
  ∃ b,L66v1 100 n f m (Int.ofNat i) (some false) (some true)=some b∧(b=true↔∀ j,i≤j→j<n→nr (CV.int (f j 0)) (CV.int (f j 1))):=by
 intro m
 induction m with
 | zero=>intro i h1 h2;omega
 | succ m ih =>
  intro i h1 h2
  unfold L66v1
  rw [lt_nat,inb_nat,toNat_nat]
  by_cases h:i<n
  ·obtain ⟨b,hb1,hb2⟩:=near69 (CV.int (f i 0)) (CV.int (f i 1))
   rw [bif_t (by simpa using h),bif_t (by simpa using h),w64_succ (by omega),hb1,ob_some]
   cases b with
   | true =>
    rw [bif_f (show (!true)=false from rfl)]
    obtain ⟨z,h3,h4⟩:=ih (i+1) (by omega) (by omega)
    refine ⟨z,h3,h4.trans ⟨fun hh j a b=>?_,fun hh j a b=>hh j (by omega) b⟩⟩
    by_cases e:j=i
    ·rw [e];exact hb2.1 rfl
    ·exact hh j (by omega) b
   | false =>
    rw [bif_t (show (!false)=true from rfl)]
    refine ⟨false,rfl,fun hh=>(by cases hh),fun hh=>?_⟩
    have:=hb2.2 (hh i (Nat.le_refl i) h);cases this
  ·rw [bif_f (by simpa using h)]
   exact ⟨true,rfl,fun _ j a b=>by omega,fun _=>rfl⟩
theorem near66 (n:Nat) (f:Nat→Nat→CV) (hn:n≤60):∃ b,F66 100 n f=some b∧(b=true↔AllNr n f):=by
 unfold F66
 obtain ⟨z,h1,h2⟩:=near_loop n f hn 100 0 (by omega) (by omega)
 rw [show (0:Int)=Int.ofNat 0 from rfl,h1]
 exact ⟨_,rfl,h2.trans ⟨fun h i hi=>h i (by omega) hi,fun h i _ hi=>h i hi⟩⟩
def BadK (n:Nat) (p:Nat→Pt) (i k:Nat):Prop:=∃ k',k≤k'∧k' < n∧nx n k'≠i∧Meet (p i) (p (nx n i)) (p k') (p (nx n k'))
theorem BadK.step {n:Nat} {p:Nat→Pt} {i k:Nat} (h:¬ (nx n k≠i∧Meet (p i) (p (nx n i)) (p k) (p (nx n k)))):BadK n p i k↔BadK n p i (k+1):=by
 constructor
 ·rintro ⟨k',a,b,c,d⟩
  refine ⟨k',?_,b,c,d⟩
  by_cases e:k' = k
  ·subst e;exact absurd ⟨c,d⟩ h
  ·omega
 ·rintro ⟨k',a,b,c,d⟩
  exact ⟨k',by omega,b,c,d⟩
theorem meets62 {ρ:Type} (n i:Nat) (f:Nat→Nat→CV) (hn:n≤32) (h0:3≤n) (hi:i<n) (hA:AllNr n f) (c1 c2:Int) (k0 k1:Option ρ):∀ (m k:Nat),n+2<m+k→k≤n+1 →
  (BadK n (pt f) i k→L62v2 100 n f (Int.ofNat n) (Int.ofNat i) (CV.int (f i 0)) (CV.int (f i 1)) (CV.int (f (nx n i) 0)) (CV.int (f (nx n i) 1)) c1 c2 m (Int.ofNat k) k0 k1=k0) ∧
  (¬ BadK n (pt f) i k→L62v2 100 n f (Int.ofNat n) (Int.ofNat i) (CV.int (f i 0)) (CV.int (f i 1)) (CV.int (f (nx n i) 0)) (CV.int (f (nx n i) 1)) c1 c2 m (Int.ofNat k) k0 k1=k1):=by
 intro m
 induction m with
 | zero =>
  intro k h1 h2;omega
 | succ m ih =>
  intro k h1 h2
  unfold L62v2
  rw [lt_nat]
  by_cases h:k<n
  ·have hx:nx n k<n:=nx_lt h0
   have hm:nr (CV.int (f i 0)) (CV.int (f i 1)):=hA i hi
   rw [bif_t (by simpa using h),bif_f (ofNat_ne0 (by omega)),w64_succ (by omega),tmod_nat,inb_nat,inb_nat,toNat_nat,toNat_nat,bif_f (ofNat_ne0 (by omega))]
   have e:(k+1) % n=nx n k:=rfl
   rw [e]
   by_cases hne:nx n k≠i
   ·rw [bif_t (by simp;omega),bif_t (by simpa using h),bif_t (by simpa using hx),meet80 hm (hA _ (nx_lt h0)) (hA k h) (hA _ hx),ob_some]
    by_cases hM:Meet (pt f i) (pt f (nx n i)) (pt f k) (pt f (nx n k))
    ·rw [bif_t (decide_eq_true hM)]
     exact ⟨fun _=>rfl,fun hh=>absurd ⟨k,Nat.le_refl k,h,hne,hM⟩ hh⟩
    ·rw [bif_f (decide_eq_false hM),BadK.step (fun hh=>hM hh.2)]
     exact ih (k+1) (by omega) (by omega)
   ·rw [bif_f (by simp;omega),BadK.step (fun hh=>hne hh.1)]
    exact ih (k+1) (by omega) (by omega)
  ·rw [bif_f (by simpa using h)]
   exact ⟨fun ⟨k',a,b,_⟩=>by omega,fun _=>rfl⟩
theorem meets67 {ρ:Type} (n i:Nat) (f:Nat→Nat→CV) (hn:n≤32) (h0:3≤n) (hi:i<n) (hA:AllNr n f) (c1 c2:Int) (k0 k1:Option ρ):∀ (m k:Nat),n+2<m+k→k≤n+1 →
  (BadK n (pt f) i k→L67v5 100 n f (Int.ofNat n) (Int.ofNat i) (CV.int (f i 0)) (CV.int (f i 1)) (CV.int (f (nx n i) 0)) (CV.int (f (nx n i) 1)) c1 c2 m (Int.ofNat k) k0 k1=k0) ∧
  (¬ BadK n (pt f) i k→L67v5 100 n f (Int.ofNat n) (Int.ofNat i) (CV.int (f i 0)) (CV.int (f i 1)) (CV.int (f (nx n i) 0)) (CV.int (f (nx n i) 1)) c1 c2 m (Int.ofNat k) k0 k1=k1):=by
 intro m
 induction m with
 | zero =>
  intro k h1 h2;omega
 | succ m ih =>
  intro k h1 h2
  unfold L67v5
  rw [lt_nat]
  by_cases h:k<n
  ·have hx:nx n k<n:=nx_lt h0
   have hm:nr (CV.int (f i 0)) (CV.int (f i 1)):=hA i hi
   rw [bif_t (by simpa using h),bif_f (ofNat_ne0 (by omega)),w64_succ (by omega),tmod_nat,inb_nat,inb_nat,toNat_nat,toNat_nat,bif_f (ofNat_ne0 (by omega))]
   have e:(k+1) % n=nx n k:=rfl
   rw [e]
   by_cases hne:nx n k≠i
   ·rw [bif_t (by simp;omega),bif_t (by simpa using h),bif_t (by simpa using hx),meet82 hm (hA _ (nx_lt h0)) (hA k h) (hA _ hx),ob_some]
    by_cases hM:Meet (pt f i) (pt f (nx n i)) (pt f k) (pt f (nx n k))
    ·rw [bif_t (decide_eq_true hM)]
     exact ⟨fun _=>rfl,fun hh=>absurd ⟨k,Nat.le_refl k,h,hne,hM⟩ hh⟩
    ·rw [bif_f (decide_eq_false hM),BadK.step (fun hh=>hM hh.2)]
     exact ih (k+1) (by omega) (by omega)
   ·rw [bif_f (by simp;omega),BadK.step (fun hh=>hne hh.1)]
    exact ih (k+1) (by omega) (by omega)
  ·rw [bif_f (by simpa using h)]
   exact ⟨fun ⟨k',a,b,_⟩=>by omega,fun _=>rfl⟩
theorem nx2 {n i:Nat} (h0:3≤n) (hi:i<n):(i+2) % n=nx n (nx n i):=by
 rcases nx_cases hi with ⟨h1,h2⟩ | ⟨h1,h2⟩
 ·rw [h2];rfl
 ·rw [h2]
  show (i+2) % n=(0+1) % n
  rw [show i+2=1+n from by omega,Nat.add_mod_right]
theorem w_dot {x1 x2 x3 x4 x5 x6:Int} (ha:nr x1 x2) (hb:nr x3 x4) (hc:nr x5 x6) :
  w64 (w64 (w64 (x1-x3)*w64 (x5-x3))+w64 (w64 (x2-x4)*w64 (x6-x4)))=dot (x1,x2) (x3,x4) (x5,x6):=by
 unfold nr at *
 have h1:=mul_bd (x:=x1-x3) (y:=x5-x3) (A:=65536) (B:=65536) (by omega) (by omega) (by omega) (by omega)
 have h2:=mul_bd (x:=x2-x4) (y:=x6-x4) (A:=65536) (B:=65536) (by omega) (by omega) (by omega) (by omega)
 rw [w64_of (n:=x1-x3) (by omega) (by omega),w64_of (n:=x5-x3) (by omega) (by omega),w64_of (n:=x2-x4) (by omega) (by omega),w64_of (n:=x6-x4) (by omega) (by omega)]
 rw [w64_of (n:=(x1-x3)*(x5-x3)) (by omega) (by omega),w64_of (n:=(x2-x4)*(x6-x4)) (by omega) (by omega),w64_of (by omega) (by omega)]
 rfl
theorem eqB (a b c d:Int):((a==c)&&((b==d)&&true))=decide (((a,b):Pt)=(c,d)):=by
 rw [Bool.eq_iff_iff,Bool.and_eq_true,Bool.and_true,beq_iff_eq,beq_iff_eq,decide_eq_true_iff,Prod.mk.injEq]
def OkP (n:Nat) (p:Nat→Pt) (i:Nat):Prop:=p i≠p (nx n i)∧¬ (cross (p i) (p (nx n i)) (p (nx n (nx n i)))=0∧0<dot (p i) (p (nx n i)) (p (nx n (nx n i))))∧¬ BadK n p i (i+2)
theorem okP_iff {n:Nat} {p:Nat→Pt}:SimpleP n p↔∀ i,0≤i→i<n→OkP n p i:=by
 constructor
 ·intro h i _ hi
  obtain ⟨h1,h2,h3⟩:=h i hi
  exact ⟨h1,h2,fun ⟨k,a,b,c,d⟩=>h3 k a b c d⟩
 ·intro h i hi
  obtain ⟨h1,h2,h3⟩:=h i (by omega) hi
  exact ⟨h1,h2,fun k a b c d=>h3 ⟨k,a,b,c,d⟩⟩
theorem all_step {n i:Nat} {Q:Nat→Prop} (h:Q i):(∀ j,i≤j→j<n→Q j)↔∀ j,i+1≤j→j<n→Q j:=by
 refine ⟨fun hh j a b=>hh j (by omega) b,fun hh j a b=>?_⟩
 by_cases e:j=i
 ·rw [e];exact h
 ·exact hh j (by omega) b
theorem simple62 (n:Nat) (f:Nat→Nat→CV) (hn:n≤32) (h0:3≤n) (hA:AllNr n f):∀ (m i:Nat),n<m+i→i≤n →
  ∃ r,L62v3 100 n f (Int.ofNat n) m (Int.ofNat i) (fun _ _ _ _=>some false) (fun _ _ _ _ _ _=>some false) (some true)=some r∧(r=true↔∀ j,i≤j→j<n→OkP n (pt f) j):=by
 intro m
 induction m with
 | zero=>intro i h1 h2;omega
 | succ m ih =>
  intro i h1 h2
  unfold L62v3
  rw [lt_nat,inb_nat,toNat_nat]
  by_cases h:i<n
  ·have hx:nx n i<n:=nx_lt h0
   have hxx:nx n (nx n i)<n:=nx_lt h0
   have e1:(i+1) % n=nx n i:=rfl
   have no:¬ OkP n (pt f) i→∃ r:Bool,(some false:Option Bool)=some r∧(r=true↔∀ j,i≤j→j<n→OkP n (pt f) j):=fun hh=>⟨false,rfl,fun h'=>(by cases h'),fun h'=>absurd (h' i (Nat.le_refl i) h) hh⟩
   rw [bif_t (by simpa using h),bif_t (by simpa using h),bif_f (ofNat_ne0 (by omega)),w64_succ (by omega),w64_succ2 (by omega),tmod_nat,tmod_nat,inb_nat,inb_nat,toNat_nat,toNat_nat,e1,nx2 h0 h,
    bif_t (by simpa using hx),eqB]
   by_cases heq:pt f i=pt f (nx n i)
   ·rw [bif_t (decide_eq_true heq)]
    exact no fun hh=>hh.1 heq
   ·rw [bif_f (decide_eq_false heq),bif_f (ofNat_ne0 (by omega)),bif_t (by simpa using hxx),cross79 (hA i h) (hA _ hx) (hA _ hxx),ob_some,w_dot (hA i h) (hA _ hx) (hA _ hxx)]
    have tail:¬ (cross (pt f i) (pt f (nx n i)) (pt f (nx n (nx n i)))=0∧0<dot (pt f i) (pt f (nx n i)) (pt f (nx n (nx n i)))) →
      ∃ r,L62v2 100 n f (Int.ofNat n) (Int.ofNat i) (CV.int (f i 0)) (CV.int (f i 1)) (CV.int (f (nx n i) 0)) (CV.int (f (nx n i) 1)) (CV.int (f (nx n (nx n i)) 0)) (CV.int (f (nx n (nx n i)) 1)) 100 (Int.ofNat (i+2)) (some false)
       (L62v3 100 n f (Int.ofNat n) m (Int.ofNat (i+1)) (fun _ _ _ _=>some false) (fun _ _ _ _ _ _=>some false) (some true))=some r∧(r=true↔∀ j,i≤j→j<n→OkP n (pt f) j):=by
     intro hc
     obtain ⟨m1,m2⟩:=meets62 n i f hn h0 h hA (CV.int (f (nx n (nx n i)) 0)) (CV.int (f (nx n (nx n i)) 1)) (some false) (L62v3 100 n f (Int.ofNat n) m (Int.ofNat (i+1)) (fun _ _ _ _=>some false) (fun _ _ _ _ _ _=>some false) (some true)) 100 (i+2) (by omega) (by omega)
     by_cases hb:BadK n (pt f) i (i+2)
     ·rw [m1 hb]
      exact no fun hh=>hh.2.2 hb
     ·rw [m2 hb,all_step (Q:=OkP n (pt f)) ⟨heq,hc,hb⟩]
      exact ih (i+1) (by omega) (by omega)
    by_cases hz:cross (pt f i) (pt f (nx n i)) (pt f (nx n (nx n i)))=0
    ·rw [bif_t (by rw [show cross (CV.int (f i 0),CV.int (f i 1)) (CV.int (f (nx n i) 0),CV.int (f (nx n i) 1)) (CV.int (f (nx n (nx n i)) 0),CV.int (f (nx n (nx n i)) 1))=0 from hz];rfl)]
     by_cases hd:0<dot (pt f i) (pt f (nx n i)) (pt f (nx n (nx n i)))
     ·rw [bif_t (decide_eq_true hd)]
      exact no fun hh=>hh.2.1 ⟨hz,hd⟩
     ·rw [bif_f (decide_eq_false hd)]
      exact tail fun hh=>hd hh.2
    ·rw [bif_f (by rw [show (cross (CV.int (f i 0),CV.int (f i 1)) (CV.int (f (nx n i) 0),CV.int (f (nx n i) 1)) (CV.int (f (nx n (nx n i)) 0),CV.int (f (nx n (nx n i)) 1))==0)=false from by rw [beq_eq_false_iff_ne];exact hz];rfl)]
     exact tail fun hh=>hz hh.1
  ·rw [bif_f (by simpa using h)]
   exact ⟨true,rfl,fun _ j a b=>by omega,fun _=>rfl⟩
theorem simple_law62 (n:Nat) (f:Nat→Nat→CV) (hn:n≤32) (h0:3≤n) (hA:AllNr n f):∃ r,F62 100 n f=some r∧(r=true↔SimpleP n (pt f)):=by
 unfold F62
 obtain ⟨r,h1,h2⟩:=simple62 n f hn h0 hA 100 0 (by omega) (by omega)
 exact ⟨r,h1,h2.trans okP_iff.symm⟩
theorem dist_inner {ρ:Type} (n i:Nat) (f:Nat→Nat→CV) (hn:n≤32) (hi:i<n) (c:Int) (k0 k1:Option ρ):∀ (m k:Nat),i<m+k→k≤i →
  ((∃ j,k≤j∧j<i∧pt f i=pt f j)→L67v2 100 n f c (Int.ofNat i) m (Int.ofNat k) k0 k1=k0)∧(¬ (∃ j,k≤j∧j<i∧pt f i=pt f j)→L67v2 100 n f c (Int.ofNat i) m (Int.ofNat k) k0 k1=k1):=by
 intro m
 induction m with
 | zero=>intro k h1 h2;omega
 | succ m ih =>
  intro k h1 h2
  unfold L67v2
  rw [lt_nat,inb_nat,inb_nat,toNat_nat,toNat_nat]
  by_cases h:k<i
  ·have hkn:k<n:=by omega
   rw [bif_t (by simpa using h),bif_t (by simpa using hi),bif_t (by simpa using hkn),w64_succ (by omega),eqB]
   by_cases heq:pt f i=pt f k
   ·rw [bif_t (decide_eq_true heq)]
    exact ⟨fun _=>rfl,fun hh=>absurd ⟨k,Nat.le_refl k,h,heq⟩ hh⟩
   ·rw [bif_f (decide_eq_false heq)]
    have e:(∃ j,k≤j∧j<i∧pt f i=pt f j)↔∃ j,k+1≤j∧j<i∧pt f i=pt f j:=by
     refine ⟨fun ⟨j,a,b,c⟩=>⟨j,?_,b,c⟩,fun ⟨j,a,b,c⟩=>⟨j,by omega,b,c⟩⟩
     by_cases e:j=k
     ·subst e;exact absurd c heq
     ·omega
    rw [e]
    exact ih (k+1) (by omega) (by omega)
  ·rw [bif_f (by simpa using h)]
   exact ⟨fun ⟨j,a,b,_⟩=>by omega,fun _=>rfl⟩
theorem dist_outer {ρ:Type} (n:Nat) (f:Nat→Nat→CV) (hn:n≤32) (k0 k1:Option ρ):∀ (m i:Nat),n<m+i→i≤n →
  ((∀ j,i≤j→j<n→∀ k,k<j→pt f j≠pt f k)→L67v3 100 n f (Int.ofNat n) m (Int.ofNat i) k0 k1=k1)∧(¬ (∀ j,i≤j→j<n→∀ k,k<j→pt f j≠pt f k)→L67v3 100 n f (Int.ofNat n) m (Int.ofNat i) k0 k1=k0):=by
 intro m
 induction m with
 | zero=>intro i h1 h2;omega
 | succ m ih =>
  intro i h1 h2
  unfold L67v3
  rw [lt_nat]
  by_cases h:i<n
  ·rw [bif_t (by simpa using h),w64_succ (by omega),show (0:Int)=Int.ofNat 0 from rfl]
   obtain ⟨m1,m2⟩:=dist_inner n i f hn h (Int.ofNat n) k0 (L67v3 100 n f (Int.ofNat n) m (Int.ofNat (i+1)) k0 k1) 100 0 (by omega) (by omega)
   by_cases hb:∃ j,0≤j∧j<i∧pt f i=pt f j
   ·rw [m1 hb]
    refine ⟨fun hh=>?_,fun _=>rfl⟩
    obtain ⟨j,_,b,c⟩:=hb
    exact absurd c (hh i (Nat.le_refl i) h j b)
   ·rw [m2 hb]
    rw [all_step (Q:=fun j=>∀ k,k<j→pt f j≠pt f k) (fun k hk hh=>hb ⟨k,by omega,hk,hh⟩)]
    exact ih (i+1) (by omega) (by omega)
  ·rw [bif_f (by simpa using h)]
   exact ⟨fun _=>rfl,fun hh=>absurd (fun j a b=>by omega) hh⟩
def OkR (n:Nat) (p:Nat→Pt) (i:Nat):Prop:=¬ On (p i) (p (nx n i)) (p (nx n (nx n i)))∧¬ On (p (nx n (nx n i))) (p i) (p (nx n i))∧¬ BadK n p i (i+2)
theorem simple67 (n:Nat) (f:Nat→Nat→CV) (hn:n≤32) (h0:3≤n) (hA:AllNr n f):∀ (m i:Nat),n<m+i→i≤n →
  ∃ r,L67v6 100 n f (Int.ofNat n) m (Int.ofNat i) (fun _ _ _ _ _ _=>some false) (some true)=some r∧(r=true↔∀ j,i≤j→j<n→OkR n (pt f) j):=by
 intro m
 induction m with
 | zero=>intro i h1 h2;omega
 | succ m ih =>
  intro i h1 h2
  unfold L67v6
  rw [lt_nat,inb_nat,toNat_nat]
  by_cases h:i<n
  ·have hx:nx n i<n:=nx_lt h0
   have hxx:nx n (nx n i)<n:=nx_lt h0
   have e1:(i+1) % n=nx n i:=rfl
   have no:¬ OkR n (pt f) i→∃ r:Bool,(some false:Option Bool)=some r∧(r=true↔∀ j,i≤j→j<n→OkR n (pt f) j):=fun hh=>⟨false,rfl,fun h'=>(by cases h'),fun h'=>absurd (h' i (Nat.le_refl i) h) hh⟩
   rw [bif_t (by simpa using h),bif_t (by simpa using h),bif_f (ofNat_ne0 (by omega)),w64_succ (by omega),w64_succ2 (by omega),tmod_nat,tmod_nat,inb_nat,inb_nat,toNat_nat,toNat_nat,e1,nx2 h0 h,
    bif_t (by simpa using hx),bif_f (ofNat_ne0 (by omega)),bif_t (by simpa using hxx),on70 (hA i h) (hA _ hx) (hA _ hxx),ob_some,on70 (hA _ hxx) (hA i h) (hA _ hx),ob_some]
   by_cases ho1:On (pt f i) (pt f (nx n i)) (pt f (nx n (nx n i)))
   ·rw [bif_f (by rw [decide_eq_true ho1];rfl)]
    exact no fun hh=>hh.1 ho1
   ·rw [bif_t (by rw [decide_eq_false ho1];rfl)]
    by_cases ho2:On (pt f (nx n (nx n i))) (pt f i) (pt f (nx n i))
    ·rw [bif_t (decide_eq_true ho2)]
     exact no fun hh=>hh.2.1 ho2
    ·rw [bif_f (decide_eq_false ho2)]
     obtain ⟨m1,m2⟩:=meets67 n i f hn h0 h hA (CV.int (f (nx n (nx n i)) 0)) (CV.int (f (nx n (nx n i)) 1)) (some false) (L67v6 100 n f (Int.ofNat n) m (Int.ofNat (i+1)) (fun _ _ _ _ _ _=>some false) (some true)) 100 (i+2) (by omega) (by omega)
     by_cases hb:BadK n (pt f) i (i+2)
     ·rw [m1 hb]
      exact no fun hh=>hh.2.2 hb
     ·rw [m2 hb,all_step (Q:=OkR n (pt f)) ⟨ho1,ho2,hb⟩]
      exact ih (i+1) (by omega) (by omega)
  ·rw [bif_f (by simpa using h)]
   exact ⟨true,rfl,fun _ j a b=>by omega,fun _=>rfl⟩
theorem simple_law67 (n:Nat) (f:Nat→Nat→CV) (hn:n≤32) (h0:3≤n) (hA:AllNr n f):∃ r,F67 100 n f=some r∧(r=true↔SimpleR n (pt f)):=by
 unfold F67
 obtain ⟨m1,m2⟩:=dist_outer n f hn (some false) (L67v6 100 n f (Int.ofNat n) 100 (Int.ofNat 0) (fun _ _ _ _ _ _=>some false) (some true)) 100 0 (by omega) (by omega)
 obtain ⟨r,h1,h2⟩:=simple67 n f hn h0 hA 100 0 (by omega) (by omega)
 rw [show (0:Int)=Int.ofNat 0 from rfl]
 by_cases hd:∀ j,0≤j→j<n→∀ k,k<j→pt f j≠pt f k
 ·rw [m1 hd,h1]
  refine ⟨r,rfl,h2.trans ⟨fun hh=>⟨fun i hi k hk=>hd i (by omega) hi k hk,fun i hi=>?_⟩,fun hh j _ hj=>?_⟩⟩
  ·obtain ⟨a,b,c⟩:=hh i (by omega) hi
   exact ⟨a,b,fun k h1 h2 h3 h4=>c ⟨k,h1,h2,h3,h4⟩⟩
  ·obtain ⟨a,b,c⟩:=hh.2 j hj
   exact ⟨a,b,fun ⟨k,h1,h2,h3,h4⟩=>c k h1 h2 h3 h4⟩
 ·rw [m2 hd]
  exact ⟨false,rfl,fun hh=>(by cases hh),fun hh=>absurd (fun j _ hj k hk=>hh.1 j hj k hk) hd⟩
theorem term_bd {a b c d:Int} (h1:nr a b) (h2:nr c d):(-1073741824≤a*d∧a*d≤1073741824)∧(-1073741824≤c*b∧c*b≤1073741824):=by
 unfold nr at *
 have k1:=mul_bd (x:=a) (y:=d) (A:=32768) (B:=32768) (by omega) (by omega) (by omega) (by omega)
 have k2:=mul_bd (x:=c) (y:=b) (A:=32768) (B:=32768) (by omega) (by omega) (by omega) (by omega)
 omega
def aterm (n:Nat) (f:Nat→Nat→CV) (i:Nat):Int:=(pt f i).1*(pt f (nx n i)).2-(pt f (nx n i)).1*(pt f i).2
theorem aterm_bd {n:Nat} {f:Nat→Nat→CV} (h0:3≤n) (hA:AllNr n f) {i:Nat} (hi:i<n) : -2147483648≤aterm n f i∧aterm n f i≤2147483648:=by
 have:=term_bd (hA i hi) (hA _ (nx_lt (i:=i) h0))
 unfold aterm
 dsimp only
 omega
theorem asum_bd {n:Nat} {f:Nat→Nat→CV} (h0:3≤n) (hA:AllNr n f):∀ i,i≤n→-2147483648*(i:Int)≤sm i (aterm n f)∧sm i (aterm n f)≤2147483648*(i:Int)
 | 0,_=>by simp [sm]
 | i+1,h=>by
  have h1:=asum_bd h0 hA i (by omega)
  have h2:=aterm_bd h0 hA (i:=i) (by omega)
  rw [sm]
  omega
theorem area63 {ρ:Type} (n:Nat) (f:Nat→Nat→CV) (hn:n≤32) (h0:3≤n) (hA:AllNr n f) (k0:Int→Option ρ):∀ (m i:Nat),n<m+i→i≤n →
  L63v1 100 n f (Int.ofNat n) m (sm i (aterm n f)) (Int.ofNat i) k0=k0 (sm n (aterm n f)):=by
 intro m
 induction m with
 | zero=>intro i h1 h2;omega
 | succ m ih =>
  intro i h1 h2
  unfold L63v1
  rw [lt_nat,inb_nat,toNat_nat]
  by_cases h:i<n
  ·have hx:nx n i<n:=nx_lt h0
   have e1:(i+1) % n=nx n i:=rfl
   have b1:=term_bd (hA i h) (hA _ hx)
   have b2:=asum_bd h0 hA i h2
   have b3:=asum_bd h0 hA (i+1) (by omega)
   have e2:sm (i+1) (aterm n f)=sm i (aterm n f)+((CV.int (f i 0))*(CV.int (f (nx n i) 1))-(CV.int (f (nx n i) 0))*(CV.int (f i 1))):=rfl
   rw [bif_t (by simpa using h),bif_t (by simpa using h),bif_f (ofNat_ne0 (by omega)),w64_succ (by omega),tmod_nat,inb_nat,toNat_nat,e1,bif_t (by simpa using hx)]
   rw [w64_of (n:=CV.int (f i 0)*CV.int (f (nx n i) 1)) (by omega) (by omega),w64_of (n:=CV.int (f (nx n i) 0)*CV.int (f i 1)) (by omega) (by omega),w64_of (n:=CV.int (f i 0)*CV.int (f (nx n i) 1)-CV.int (f (nx n i) 0)*CV.int (f i 1)) (by omega) (by omega)]
   rw [w64_of (by omega) (by omega),← e2]
   exact ih (i+1) (by omega) (by omega)
  ·rw [bif_f (by simpa using h)]
   have:i=n:=by omega
   rw [this]
theorem area_law63 (n:Nat) (f:Nat→Nat→CV) (hn:n≤32) (h0:3≤n) (hA:AllNr n f):F63 100 n f=some (area n (pt f)):=by
 unfold F63
 exact area63 n f hn h0 hA some 100 0 (by omega) (by omega)
theorem area38 {ρ:Type} (n:Nat) (f:Nat→Nat→CV) (hn:n≤32) (h0:3≤n) (hA:AllNr n f) (k0:Int→Option ρ):∀ (m i:Nat),n<m+i→i≤n →
  L38v1 100 n f m (sm i (aterm n f)) (Int.ofNat i) k0=k0 (sm n (aterm n f)):=by
 intro m
 induction m with
 | zero=>intro i h1 h2;omega
 | succ m ih =>
  intro i h1 h2
  unfold L38v1
  rw [lt_nat,inb_nat,toNat_nat]
  by_cases h:i<n
  ·have hx:nx n i<n:=nx_lt h0
   have e1:(i+1) % n=nx n i:=rfl
   have b1:=term_bd (hA i h) (hA _ hx)
   have b2:=asum_bd h0 hA i h2
   have b3:=asum_bd h0 hA (i+1) (by omega)
   have e2:sm (i+1) (aterm n f)=sm i (aterm n f)+((CV.int (f i 0))*(CV.int (f (nx n i) 1))-(CV.int (f (nx n i) 0))*(CV.int (f i 1))):=rfl
   have e3:CV.int (f i 1)*CV.int (f (nx n i) 0)=CV.int (f (nx n i) 0)*CV.int (f i 1):=Int.mul_comm _ _
   rw [bif_t (by simpa using h),bif_t (by simpa using h),bif_f (ofNat_ne0 (by omega)),w64_succ (by omega),tmod_nat,inb_nat,toNat_nat,e1,bif_t (by simpa using hx),e3]
   rw [w64_of (n:=CV.int (f i 0)*CV.int (f (nx n i) 1)) (by omega) (by omega),w64_of (n:=CV.int (f (nx n i) 0)*CV.int (f i 1)) (by omega) (by omega),w64_of (n:=sm i (aterm n f)+CV.int (f i 0)*CV.int (f (nx n i) 1)) (by omega) (by omega)]
   rw [w64_of (by omega) (by omega),show sm i (aterm n f)+CV.int (f i 0)*CV.int (f (nx n i) 1)-CV.int (f (nx n i) 0)*CV.int (f i 1)=sm (i+1) (aterm n f) from by rw [e2];omega]
   exact ih (i+1) (by omega) (by omega)
  ·rw [bif_f (by simpa using h)]
   have:i=n:=by omega
   rw [this]
structure Valid (n:Nat) (f:Nat→Nat→CV):Prop where
 big:3≤n
 small:n≤32
 near:AllNr n f
 simple:Simple n (pt f)
 ar:area n (pt f)≠0
theorem check_law (n:Nat) (f:Nat→Nat→CV):∃ c d,F33 100 n f=some c∧F37 100 n f=some d∧(c=0↔Valid n f)∧(d=c∨(d=0∧c=17∧3≤n∧n≤32∧AllNr n f∧area n (pt f)=0)):=by
 unfold F33 F37
 by_cases h1:n<3
 ·have d1:decide (Int.ofNat n<3)=true:=by simp;omega
  rw [bif_t d1,bif_t d1]
  exact ⟨3,3,rfl,rfl,⟨fun h=>(by cases h),fun h=>by have:=h.big;omega⟩,.inl rfl⟩
 ·have d1:decide (Int.ofNat n<3)=false:=by simp;omega
  rw [bif_f d1,bif_f d1]
  by_cases h2:n≤32
  ·have d2:decide (Int.ofNat n>32)=false:=by simp;omega
   rw [bif_f d2,bif_f d2]
   obtain ⟨b,hb1,hb2⟩:=far50 n f (by omega)
   obtain ⟨d,hd1,hd2⟩:=near66 n f (by omega)
   rw [hb1,hd1,ob_some,ob_some]
   by_cases hA:AllNr n f
   ·have eb:=hb2.2 hA
    have ed:=hd2.2 hA
    subst eb;subst ed
    obtain ⟨r,hr1,hr2⟩:=simple_law62 n f h2 (by omega) hA
    obtain ⟨s,hs1,hs2⟩:=simple_law67 n f h2 (by omega) hA
    rw [bif_f rfl,bif_f (show (!true)=false from rfl),hr1,hs1,ob_some,ob_some]
    by_cases hS:SimpleP n (pt f)
    ·have er:=hr2.2 hS
     have es:=hs2.2 ((simpleP_R (by omega)).1 hS)
     subst er;subst es
     by_cases ha:area n (pt f)=0
     ·rw [bif_t (by rfl),bif_f (show (!true)=false from rfl),area_law63 n f h2 (by omega) hA,ob_some,bif_t (by simpa using ha)]
      exact ⟨17,0,rfl,rfl,⟨fun h=>(by cases h),fun h=>absurd ha h.ar⟩,.inr ⟨rfl,rfl,by omega,h2,hA,ha⟩⟩
     ·rw [bif_t (by rfl),bif_f (show (!true)=false from rfl),area_law63 n f h2 (by omega) hA,ob_some,bif_f (by simpa using ha)]
      exact ⟨0,0,rfl,rfl,⟨fun _=>⟨by omega,h2,hA,(simpleR_iff (by omega)).1 ((simpleP_R (by omega)).1 hS),ha⟩,fun _=>rfl⟩,.inl rfl⟩
    ·have er:r=false:=by
      cases r with
      | false=>rfl
      | true=>exact absurd (hr2.1 rfl) hS
     have es:s=false:=by
      cases s with
      | false=>rfl
      | true=>exact absurd ((simpleP_R (by omega)).2 (hs2.1 rfl)) hS
     subst er;subst es
     rw [bif_f (by rfl),bif_t (show (!false)=true from rfl)]
     exact ⟨17,17,rfl,rfl,⟨fun h=>(by cases h),fun h=>absurd ((simpleP_R (by omega)).2 ((simpleR_iff (by omega)).2 h.simple)) hS⟩,.inl rfl⟩
   ·have eb:b=true:=by
     cases b with
     | false=>exact absurd (hb2.1 rfl) hA
     | true=>rfl
    have ed:d=false:=by
     cases d with
     | false=>rfl
     | true=>exact absurd (hd2.1 rfl) hA
    subst eb;subst ed
    rw [bif_t rfl,bif_t (show (!false)=true from rfl)]
    exact ⟨9,9,rfl,rfl,⟨fun h=>(by cases h),fun h=>absurd h.near hA⟩,.inl rfl⟩
  ·have d2:decide (Int.ofNat n>32)=true:=by simp;omega
   rw [bif_t d2,bif_t d2]
   exact ⟨4,4,rfl,rfl,⟨fun h=>(by cases h),fun h=>by have:=h.small;omega⟩,.inl rfl⟩
theorem area_law (n:Nat) (f:Nat→Nat→CV):∃ a,F34 100 n f=some a∧F38 100 n f=some a∧(Valid n f→a=area n (pt f)):=by
 obtain ⟨c,d,h1,h2,h3,h4⟩:=check_law n f
 unfold F34 F38
 rw [h1,h2,ob_some,ob_some]
 by_cases hc:c=0
 ·have hd:d=0:=by omega
  subst hc;subst hd
  have V:=h3.1 rfl
  have hs:=V.small
  rw [bif_f (by rfl),bif_f (by rfl),area_law63 n f V.small V.big V.near,ob_some]
  exact ⟨_,rfl,area38 n f V.small V.big V.near some 100 0 (by omega) (by omega),fun _=>rfl⟩
 ·rw [bif_t (by simpa using hc)]
  rcases h4 with rfl | ⟨rfl,_,b1,b2,b3,b4⟩
  ·rw [bif_t (by simpa using hc)]
   exact ⟨0,rfl,rfl,fun V=>absurd (h3.2 V) hc⟩
  ·rw [bif_f (by rfl)]
   exact ⟨0,rfl,(area38 n f b2 b1 b3 some 100 0 (by omega) (by omega)).trans (congrArg some b4),fun V=>absurd (h3.2 V) hc⟩
def OnC (n:Nat) (p:Nat→Pt) (q:Pt) (i:Nat):Prop:=∃ j,i≤j∧j<n∧On q (p j) (p (nx n j))
theorem OnC.step {n:Nat} {p:Nat→Pt} {q:Pt} {i:Nat} (h:¬ On q (p i) (p (nx n i))):OnC n p q i↔OnC n p q (i+1):=by
 refine ⟨fun ⟨j,a,b,c⟩=>⟨j,?_,b,c⟩,fun ⟨j,a,b,c⟩=>⟨j,by omega,b,c⟩⟩
 by_cases e:j=i
 ·subst e;exact absurd c h
 ·omega
theorem rcB (q a b:Pt):rc q a b=((decide (a.2>q.2) != decide (b.2>q.2))&&(decide (0<cross a b q)==decide (b.2>a.2))):=rfl
theorem where65 (n:Nat) (f:Nat→Nat→CV) (qx qy:Int) (hn:n≤32) (h0:3≤n) (hA:AllNr n f) (hq:nr qx qy):∀ (m i:Nat) (s:Bool),n<m+i→i≤n→s=xs i (fun j=>rc (qx,qy) (pt f j) (pt f (nx n j))) →
  (OnC n (pt f) (qx,qy) i→L65v1 100 n f (Int.ofNat n) qx qy m s (Int.ofNat i) (fun _ _ _ _=>some (0:Int)) (fun b=>(bif b then some 1 else some (-1)))=some 0) ∧
  (¬ OnC n (pt f) (qx,qy) i→L65v1 100 n f (Int.ofNat n) qx qy m s (Int.ofNat i) (fun _ _ _ _=>some (0:Int)) (fun b=>(bif b then some 1 else some (-1)))=(bif par n (pt f) (qx,qy) then some 1 else some (-1))):=by
 intro m
 induction m with
 | zero=>intro i s h1 h2;omega
 | succ m ih =>
  intro i s h1 h2 hs
  unfold L65v1
  rw [lt_nat,inb_nat,toNat_nat]
  by_cases h:i<n
  ·have hx:nx n i<n:=nx_lt h0
   have e1:(i+1) % n=nx n i:=rfl
   rw [bif_t (by simpa using h),bif_t (by simpa using h),bif_f (ofNat_ne0 (by omega)),w64_succ (by omega),tmod_nat,inb_nat,toNat_nat,e1,bif_t (by simpa using hx),on81 (hA i h) (hA _ hx) hq,ob_some]
   by_cases ho:On (qx,qy) (pt f i) (pt f (nx n i))
   ·rw [bif_t (decide_eq_true ho)]
    exact ⟨fun _=>rfl,fun hh=>absurd ⟨i,Nat.le_refl i,h,ho⟩ hh⟩
   ·rw [bif_f (decide_eq_false ho),OnC.step ho,cross79 (hA i h) (hA _ hx) hq,ob_some]
    have hr:=rcB (qx,qy) (pt f i) (pt f (nx n i))
    have hxs:xs (i+1) (fun j=>rc (qx,qy) (pt f j) (pt f (nx n j)))=(s ^^ rc (qx,qy) (pt f i) (pt f (nx n i))):=by rw [xs,hs]
    have hg:∀ x:Int,decide (x>0)=decide (0<x):=fun _=>rfl
    rw [hg]
    cases h3:(decide (CV.int (f i 1)>qy)==decide (CV.int (f (nx n i) 1)>qy)) with
    | true =>
     rw [bif_t rfl]
     have:rc (qx,qy) (pt f i) (pt f (nx n i))=false:=by
      rw [hr,bne]
      have h3:(decide ((pt f i).2>((qx,qy):Pt).2)==decide ((pt f (nx n i)).2>((qx,qy):Pt).2))=true:=h3
      rw [h3];rfl
     refine ih (i+1) s (by omega) (by omega) ?_
     rw [hxs,this,Bool.xor_false]
    | false =>
     rw [bif_f rfl]
     have h5:rc (qx,qy) (pt f i) (pt f (nx n i))=(decide (0<cross (CV.int (f i 0),CV.int (f i 1)) (CV.int (f (nx n i) 0),CV.int (f (nx n i) 1)) (qx,qy))==decide (CV.int (f (nx n i) 1)>CV.int (f i 1))):=by
      rw [hr,bne]
      have h3:(decide ((pt f i).2>((qx,qy):Pt).2)==decide ((pt f (nx n i)).2>((qx,qy):Pt).2))=false:=h3
      rw [h3];rfl
     rw [← h5]
     cases h6:rc (qx,qy) (pt f i) (pt f (nx n i)) with
     | true =>
      rw [bif_t rfl]
      refine ih (i+1) (!s) (by omega) (by omega) ?_
      rw [hxs,h6,Bool.xor_true]
     | false =>
      rw [bif_f rfl]
      refine ih (i+1) s (by omega) (by omega) ?_
      rw [hxs,h6,Bool.xor_false]
  ·rw [bif_f (by simpa using h)]
   have e:i=n:=by omega
   subst e
   refine ⟨fun ⟨j,a,b,_⟩=>by omega,fun _=>?_⟩
   rw [hs];rfl
end Go.Eng.R13
/-
 Places of points,contours that touch,and the check of shapes: the program's and the reference's.
-/
set_option linter.all false
namespace Go.Eng.R13
open Go Go.RowKit Go.Eng Geo
theorem rc_down {q a b:Pt} (h:¬ On q a b) (h1:b.2≤q.2) (h2:q.2<a.2):rc q a b=decide (cross a b q<0):=by
 rw [rc_swap h,rc_up h1 h2,cross_swap a b q]
 exact decide_eq_decide.2 (by omega)
theorem where40 (n:Nat) (f:Nat→Nat→CV) (qx qy:Int) (hn:n≤32) (h0:3≤n) (hA:AllNr n f) (hq:nr qx qy):∀ (m i:Nat) (s:Bool),n<m+i→i≤n→s=xs i (fun j=>rc (qx,qy) (pt f j) (pt f (nx n j))) →
  (OnC n (pt f) (qx,qy) i→L40v1 100 n f qx qy m s (Int.ofNat i) (fun _ _ _ _=>some (0:Int)) (fun b=>(bif b then some 1 else some (-1)))=some 0) ∧
  (¬ OnC n (pt f) (qx,qy) i→L40v1 100 n f qx qy m s (Int.ofNat i) (fun _ _ _ _=>some (0:Int)) (fun b=>(bif b then some 1 else some (-1)))=(bif par n (pt f) (qx,qy) then some 1 else some (-1))):=by
 intro m
 induction m with
 | zero=>intro i s h1 h2;omega
 | succ m ih =>
  intro i s h1 h2 hs
  unfold L40v1
  rw [lt_nat,inb_nat,toNat_nat]
  by_cases h:i<n
  ·have hx:nx n i<n:=nx_lt h0
   have e1:(i+1) % n=nx n i:=rfl
   rw [bif_t (by simpa using h),bif_t (by simpa using h),bif_f (ofNat_ne0 (by omega)),w64_succ (by omega),tmod_nat,inb_nat,toNat_nat,e1,bif_t (by simpa using hx),on70 hq (hA i h) (hA _ hx),ob_some]
   by_cases ho:On (qx,qy) (pt f i) (pt f (nx n i))
   ·rw [bif_t (decide_eq_true ho)]
    exact ⟨fun _=>rfl,fun hh=>absurd ⟨i,Nat.le_refl i,h,ho⟩ hh⟩
   ·rw [bif_f (decide_eq_false ho),OnC.step ho,cross71 (hA i h) (hA _ hx) hq]
    simp only [ob_some]
    have hxs:xs (i+1) (fun j=>rc (qx,qy) (pt f j) (pt f (nx n j)))=(s ^^ rc (qx,qy) (pt f i) (pt f (nx n i))):=by rw [xs,hs]
    have tog:rc (qx,qy) (pt f i) (pt f (nx n i))=true→_:=fun hr=>ih (i+1) (!s) (by omega) (by omega) (by rw [hxs,hr,Bool.xor_true])
    have sam:rc (qx,qy) (pt f i) (pt f (nx n i))=false→_:=fun hr=>ih (i+1) s (by omega) (by omega) (by rw [hxs,hr,Bool.xor_false])
    by_cases a:CV.int (f i 1)≤qy
    ·rw [bif_t (by simpa using a)]
     by_cases b:qy<CV.int (f (nx n i) 1)
     ·rw [bif_t (by simpa using b),bif_f (by simp;omega)]
      have hr:=rc_up (q:=(qx,qy)) (a:=pt f i) (b:=pt f (nx n i)) a b
      by_cases hc:0<cross (pt f i) (pt f (nx n i)) (qx,qy)
      ·rw [bif_f (by rw [show decide (cross (CV.int (f i 0),CV.int (f i 1)) (CV.int (f (nx n i) 0),CV.int (f (nx n i) 1)) (qx,qy)>0)=true from decide_eq_true hc];rfl)]
       exact tog (by rw [hr];exact decide_eq_true hc)
      ·rw [bif_t (by rw [show decide (cross (CV.int (f i 0),CV.int (f i 1)) (CV.int (f (nx n i) 0),CV.int (f (nx n i) 1)) (qx,qy)>0)=false from decide_eq_false hc];rfl)]
       exact sam (by rw [hr];exact decide_eq_false hc)
     ·rw [bif_f (by simpa using b),bif_t (by simp;omega),bif_f (by simpa using a)]
      exact sam (rc_flat (.inr ⟨a,by dsimp only;omega⟩))
    ·rw [bif_f (by simpa using a)]
     by_cases b:CV.int (f (nx n i) 1)≤qy
     ·rw [bif_t (by simpa using b),bif_t (by simp;omega)]
      have hr:=rc_down (q:=(qx,qy)) (a:=pt f i) (b:=pt f (nx n i)) ho b (by dsimp only;omega)
      by_cases hc:cross (pt f i) (pt f (nx n i)) (qx,qy)<0
      ·rw [bif_t (decide_eq_true hc)]
       exact tog (by rw [hr];exact decide_eq_true hc)
      ·rw [bif_f (decide_eq_false hc)]
       exact sam (by rw [hr];exact decide_eq_false hc)
     ·rw [bif_f (by simpa using b)]
      exact sam (rc_flat (.inl ⟨by dsimp only;omega,by dsimp only;omega⟩))
  ·rw [bif_f (by simpa using h)]
   have e:i=n:=by omega
   subst e
   refine ⟨fun ⟨j,a,b,_⟩=>by omega,fun _=>?_⟩
   rw [hs];rfl
def IsWhere (n:Nat) (f:Nat→Nat→CV) (q:Pt) (w:Int):Prop :=
 (Valid n f∧nr q.1 q.2→(OnC n (pt f) q 0→w=0)∧(¬ OnC n (pt f) q 0→w=if par n (pt f) q=true then 1 else -1))∧(¬ (Valid n f∧nr q.1 q.2)→w = -1)
theorem where_law (n:Nat) (f:Nat→Nat→CV) (qx qy:Int):∃ w,F65 100 n f qx qy=some w∧(Valid n f→F40 100 n f qx qy=some w)∧IsWhere n f (qx,qy) w:=by
 obtain ⟨c,c',h1,h2,h3,h4⟩:=check_law n f
 obtain ⟨b,hb1,hb2⟩:=far61 qx qy
 obtain ⟨d,hd1,hd2⟩:=near69 qx qy
 unfold F65 F40
 rw [h1,h2,hb1,hd1,ob_some,ob_some,ob_some,ob_some]
 have hcc:Valid n f→c' = 0:=fun V=>by have:=h3.2 V;omega
 by_cases hq:nr qx qy
 ·have eb:=hb2.2 hq
  have ed:=hd2.2 hq
  subst eb;subst ed
  rw [bif_t (by rfl)]
  by_cases hc:c=0
  ·have V:=h3.1 hc
   have hc':=hcc V
   subst hc;subst hc'
   have vs:=V.small
   rw [bif_f (by rfl),bif_t (by rfl),bif_f (show (!true)=false from rfl),show (0:Int)=Int.ofNat 0 from rfl]
   obtain ⟨a1,a2⟩:=where65 n f qx qy V.small V.big V.near hq 100 0 false (by omega) (by omega) rfl
   obtain ⟨b1,b2⟩:=where40 n f qx qy V.small V.big V.near hq 100 0 false (by omega) (by omega) rfl
   by_cases ho:OnC n (pt f) (qx,qy) 0
   ·exact ⟨0,a1 ho,fun _=>b1 ho,fun _=>⟨fun _=>rfl,fun hh=>absurd ho hh⟩,fun hh=>absurd ⟨V,hq⟩ hh⟩
   ·refine ⟨if par n (pt f) (qx,qy)=true then 1 else -1,(a2 ho).trans ?_,fun _=>(b2 ho).trans ?_,fun _=>⟨fun hh=>absurd hh ho,fun _=>rfl⟩,fun hh=>absurd ⟨V,hq⟩ hh⟩
    ·cases par n (pt f) (qx,qy)<;>rfl
    ·cases par n (pt f) (qx,qy)<;>rfl
  ·rw [bif_t (by simpa using hc)]
   exact ⟨-1,rfl,fun V=>absurd (h3.2 V) hc,fun hh=>absurd (h3.2 hh.1) hc,fun _=>rfl⟩
 ·have eb:b=true:=by
   cases b with
   | false=>exact absurd (hb2.1 rfl) hq
   | true=>rfl
  have ed:d=false:=by
   cases d with
   | false=>rfl
   | true=>exact absurd (hd2.1 rfl) hq
  subst eb;subst ed
  rw [bif_f (by rfl)]
  refine ⟨-1,rfl,fun V=>?_,fun hh=>absurd hh.2 hq,fun _=>rfl⟩
  rw [bif_t (by simpa using hcc V),bif_t (show (!false)=true from rfl)]
def InC (n:Nat) (f:Nat→Nat→CV) (q:Pt):Prop:=¬ OnC n (pt f) q 0∧par n (pt f) q=true
def OutC (n:Nat) (f:Nat→Nat→CV) (q:Pt):Prop:=¬ OnC n (pt f) q 0∧par n (pt f) q=false
theorem IsWhere.val {n:Nat} {f:Nat→Nat→CV} {q:Pt} {w:Int} (h:IsWhere n f q w) (V:Valid n f) (hq:nr q.1 q.2):(w=1∧InC n f q)∨(w=0∧OnC n (pt f) q 0)∨(w = -1∧OutC n f q):=by
 obtain ⟨h1,h2⟩:=h.1 ⟨V,hq⟩
 by_cases ho:OnC n (pt f) q 0
 ·exact .inr (.inl ⟨h1 ho,ho⟩)
 ·have:=h2 ho
  cases hp:par n (pt f) q with
  | true=>rw [hp,if_pos rfl] at this;exact .inl ⟨this,ho,hp⟩
  | false=>rw [hp,if_neg (by simp)] at this;exact .inr (.inr ⟨this,ho,hp⟩)
theorem IsWhere.one {n:Nat} {f:Nat→Nat→CV} {q:Pt} {w:Int} (h:IsWhere n f q w) (V:Valid n f) (hq:nr q.1 q.2):w=1↔InC n f q:=by
 rcases h.val V hq with ⟨a,b⟩ | ⟨a,b⟩ | ⟨a,b⟩
 ·exact ⟨fun _=>b,fun _=>a⟩
 ·exact ⟨fun hh=>by omega,fun hh=>absurd b hh.1⟩
 ·exact ⟨fun hh=>by omega,fun hh=>by have:=hh.2;rw [b.2] at this;cases this⟩
theorem IsWhere.out {n:Nat} {f:Nat→Nat→CV} {q:Pt} {w:Int} (h:IsWhere n f q w) (V:Valid n f) (hq:nr q.1 q.2):w<0↔OutC n f q:=by
 rcases h.val V hq with ⟨a,b⟩ | ⟨a,b⟩ | ⟨a,b⟩
 ·exact ⟨fun hh=>by omega,fun hh=>by have:=hh.2;rw [b.2] at this;cases this⟩
 ·exact ⟨fun hh=>by omega,fun hh=>absurd b hh.1⟩
 ·exact ⟨fun _=>b,fun _=>by omega⟩
theorem IsWhere.range {n:Nat} {f:Nat→Nat→CV} {q:Pt} {w:Int} (h:IsWhere n f q w):w=1∨w=0∨w = -1:=by
 by_cases hv:Valid n f∧nr q.1 q.2
 ·rcases h.val hv.1 hv.2 with ⟨a,_⟩ | ⟨a,_⟩ | ⟨a,_⟩<;>omega
 ·exact .inr (.inr (h.2 hv))
def TouchK (n:Nat) (p:Nat→Pt) (n' : Nat) (p' : Nat→Pt) (i k:Nat):Prop:=∃ k',k≤k'∧k' < n'∧Meet (p i) (p (nx n i)) (p' k') (p' (nx n' k'))
def TouchI (n:Nat) (p:Nat→Pt) (n' : Nat) (p' : Nat→Pt) (i:Nat):Prop:=∃ i',i≤i'∧i' < n∧TouchK n p n' p' i' 0
def Touch (n:Nat) (p:Nat→Pt) (n' : Nat) (p' : Nat→Pt):Prop:=∃ i k,i<n∧k<n'∧Meet (p i) (p (nx n i)) (p' k) (p' (nx n' k))
theorem touchI0 {n:Nat} {p:Nat→Pt} {n' : Nat} {p' : Nat→Pt}:TouchI n p n' p' 0↔Touch n p n' p' :=
 ⟨fun ⟨i,_,hi,k,_,hk,hm⟩=>⟨i,k,hi,hk,hm⟩,fun ⟨i,k,hi,hk,hm⟩=>⟨i,by omega,hi,k,by omega,hk,hm⟩⟩
theorem Touch.symm {n:Nat} {p:Nat→Pt} {n' : Nat} {p' : Nat→Pt} (h:Touch n p n' p'):Touch n' p' n p:=by
 obtain ⟨i,k,hi,hk,hm⟩:=h
 exact ⟨k,i,hk,hi,hm.symm⟩
theorem touch58_2 {ρ:Type} (n n' i:Nat) (f g:Nat→Nat→CV) (hn:n≤32) (hn' : n'≤32) (h0:3≤n) (h0' : 3≤n') (hi:i<n) (hA:AllNr n f) (hB:AllNr n' g) (c:Int) (a:Int→Int→Option ρ) (k0 k1:Option ρ) (ha:∀ x y,a x y=k0):∀ (m k:Nat),n' < m+k→k≤n' →
  (TouchK n (pt f) n' (pt g) i k→L58v2 100 n f n' g (Int.ofNat i) c (Int.ofNat n') (CV.int (f i 0)) (CV.int (f i 1)) m (Int.ofNat k) a k1=k0) ∧
  (¬ TouchK n (pt f) n' (pt g) i k→L58v2 100 n f n' g (Int.ofNat i) c (Int.ofNat n') (CV.int (f i 0)) (CV.int (f i 1)) m (Int.ofNat k) a k1=k1):=by
 intro m
 induction m with
 | zero=>intro k h1 h2;omega
 | succ m ih =>
  intro k h1 h2
  unfold L58v2
  rw [lt_nat,inb_nat,toNat_nat]
  by_cases h:k<n'
  ·have hx:nx n i<n:=nx_lt h0
   have hy:nx n' k<n':=nx_lt h0'
   have e1:(i+1) % n=nx n i:=rfl
   have e2:(k+1) % n' = nx n' k:=rfl
   rw [bif_t (by simpa using h),bif_t (by simpa using h),bif_f (ofNat_ne0 (by omega)),w64_succ (i:=i) (by omega),w64_succ (i:=k) (by omega),tmod_nat,tmod_nat,inb_nat,inb_nat,toNat_nat,toNat_nat,e1,e2,
    bif_t (by simpa using hx),bif_f (ofNat_ne0 (by omega)),bif_t (by simpa using hy),meet56 (hA i hi) (hA _ hx) (hB k h) (hB _ hy),ob_some]
   by_cases hM:Meet (pt f i) (pt f (nx n i)) (pt g k) (pt g (nx n' k))
   ·rw [bif_t (decide_eq_true hM),ha]
    exact ⟨fun _=>rfl,fun hh=>absurd ⟨k,Nat.le_refl k,h,hM⟩ hh⟩
   ·rw [bif_f (decide_eq_false hM)]
    have e:TouchK n (pt f) n' (pt g) i k↔TouchK n (pt f) n' (pt g) i (k+1):=by
     refine ⟨fun ⟨j,a,b,c⟩=>⟨j,?_,b,c⟩,fun ⟨j,a,b,c⟩=>⟨j,by omega,b,c⟩⟩
     by_cases e:j=k
     ·subst e;exact absurd c hM
     ·omega
    rw [e]
    exact ih (k+1) (by omega) (by omega)
  ·rw [bif_f (by simpa using h)]
   exact ⟨fun ⟨j,a,b,_⟩=>by omega,fun _=>rfl⟩
theorem touch58_3 (n n' : Nat) (f g:Nat→Nat→CV) (hn:n≤32) (hn' : n'≤32) (h0:3≤n) (h0' : 3≤n') (hA:AllNr n f) (hB:AllNr n' g):∀ (m i:Nat),n<m+i→i≤n →
  ∃ r,L58v3 100 n f n' g (Int.ofNat n) m (Int.ofNat i) (fun _ _ _ _=>some true) (some false)=some r∧(r=true↔TouchI n (pt f) n' (pt g) i):=by
 intro m
 induction m with
 | zero=>intro i h1 h2;omega
 | succ m ih =>
  intro i h1 h2
  unfold L58v3
  rw [lt_nat,inb_nat,toNat_nat]
  by_cases h:i<n
  ·obtain ⟨m1,m2⟩:=touch58_2 n n' i f g hn hn' h0 h0' h hA hB (Int.ofNat n) (fun _ _=>some true) (some true) (L58v3 100 n f n' g (Int.ofNat n) m (Int.ofNat (i+1)) (fun _ _ _ _=>some true) (some false)) (fun _ _=>rfl) 100 0 (by omega) (by omega)
   rw [bif_t (by simpa using h),bif_t (by simpa using h),w64_succ (by omega),show (0:Int)=Int.ofNat 0 from rfl]
   by_cases hT:TouchK n (pt f) n' (pt g) i 0
   ·rw [m1 hT]
    exact ⟨true,rfl,fun _=>⟨i,Nat.le_refl i,h,hT⟩,fun _=>rfl⟩
   ·rw [m2 hT]
    have e:TouchI n (pt f) n' (pt g) i↔TouchI n (pt f) n' (pt g) (i+1):=by
     refine ⟨fun ⟨j,a,b,c⟩=>⟨j,?_,b,c⟩,fun ⟨j,a,b,c⟩=>⟨j,by omega,b,c⟩⟩
     by_cases e:j=i
     ·subst e;exact absurd c hT
     ·omega
    rw [e]
    exact ih (i+1) (by omega) (by omega)
  ·rw [bif_f (by simpa using h)]
   exact ⟨false,rfl,fun hh=>(by cases hh),fun ⟨j,a,b,_⟩=>by omega⟩
theorem touch58 (n n' : Nat) (f g:Nat→Nat→CV) (V:Valid n f) (W:Valid n' g):∃ r,F58 100 n f n' g=some r∧(r=true↔Touch n (pt f) n' (pt g)):=by
 have:=V.small
 unfold F58
 obtain ⟨r,h1,h2⟩:=touch58_3 n n' f g V.small W.small V.big W.big V.near W.near 100 0 (by omega) (by omega)
 exact ⟨r,h1,h2.trans touchI0⟩
theorem touch39_2 {ρ:Type} (n n' i:Nat) (f g:Nat→Nat→CV) (hn:n≤32) (hn' : n'≤32) (h0:3≤n) (h0' : 3≤n') (hi:i<n) (hA:AllNr n f) (hB:AllNr n' g) (k0 k1:Option ρ):∀ (m k:Nat),n' < m+k→k≤n' →
  (TouchK n (pt f) n' (pt g) i k→L39v2 100 n f n' g (Int.ofNat i) m (Int.ofNat k) k0 k1=k0) ∧
  (¬ TouchK n (pt f) n' (pt g) i k→L39v2 100 n f n' g (Int.ofNat i) m (Int.ofNat k) k0 k1=k1):=by
 intro m
 induction m with
 | zero=>intro k h1 h2;omega
 | succ m ih =>
  intro k h1 h2
  unfold L39v2
  rw [lt_nat,inb_nat,toNat_nat,inb_nat,toNat_nat]
  by_cases h:k<n'
  ·have hx:nx n i<n:=nx_lt h0
   have hy:nx n' k<n':=nx_lt h0'
   have e1:(i+1) % n=nx n i:=rfl
   have e2:(k+1) % n' = nx n' k:=rfl
   rw [bif_t (by simpa using h),bif_t (by simpa using hi),bif_f (ofNat_ne0 (by omega)),w64_succ (i:=i) (by omega),w64_succ (i:=k) (by omega),tmod_nat,tmod_nat,inb_nat,inb_nat,toNat_nat,toNat_nat,e1,e2,
    bif_t (by simpa using hx),bif_t (by simpa using h),bif_f (ofNat_ne0 (by omega)),bif_t (by simpa using hy),meet68 (hA i hi) (hA _ hx) (hB k h) (hB _ hy),ob_some]
   by_cases hM:Meet (pt f i) (pt f (nx n i)) (pt g k) (pt g (nx n' k))
   ·rw [bif_t (decide_eq_true hM)]
    exact ⟨fun _=>rfl,fun hh=>absurd ⟨k,Nat.le_refl k,h,hM⟩ hh⟩
   ·rw [bif_f (decide_eq_false hM)]
    have e:TouchK n (pt f) n' (pt g) i k↔TouchK n (pt f) n' (pt g) i (k+1):=by
     refine ⟨fun ⟨j,a,b,c⟩=>⟨j,?_,b,c⟩,fun ⟨j,a,b,c⟩=>⟨j,by omega,b,c⟩⟩
     by_cases e:j=k
     ·subst e;exact absurd c hM
     ·omega
    rw [e]
    exact ih (k+1) (by omega) (by omega)
  ·rw [bif_f (by simpa using h)]
   exact ⟨fun ⟨j,a,b,_⟩=>by omega,fun _=>rfl⟩
theorem touch39_3 (n n' : Nat) (f g:Nat→Nat→CV) (hn:n≤32) (hn' : n'≤32) (h0:3≤n) (h0' : 3≤n') (hA:AllNr n f) (hB:AllNr n' g):∀ (m i:Nat),n<m+i→i≤n →
  ∃ r,L39v3 100 n f n' g m (Int.ofNat i) (some true) (some false)=some r∧(r=true↔TouchI n (pt f) n' (pt g) i):=by
 intro m
 induction m with
 | zero=>intro i h1 h2;omega
 | succ m ih =>
  intro i h1 h2
  unfold L39v3
  rw [lt_nat]
  by_cases h:i<n
  ·obtain ⟨m1,m2⟩:=touch39_2 n n' i f g hn hn' h0 h0' h hA hB (some true) (L39v3 100 n f n' g m (Int.ofNat (i+1)) (some true) (some false)) 100 0 (by omega) (by omega)
   rw [bif_t (by simpa using h),w64_succ (by omega),show (0:Int)=Int.ofNat 0 from rfl]
   by_cases hT:TouchK n (pt f) n' (pt g) i 0
   ·rw [m1 hT]
    exact ⟨true,rfl,fun _=>⟨i,Nat.le_refl i,h,hT⟩,fun _=>rfl⟩
   ·rw [m2 hT]
    have e:TouchI n (pt f) n' (pt g) i↔TouchI n (pt f) n' (pt g) (i+1):=by
     refine ⟨fun ⟨j,a,b,c⟩=>⟨j,?_,b,c⟩,fun ⟨j,a,b,c⟩=>⟨j,by omega,b,c⟩⟩
     by_cases e:j=i
     ·subst e;exact absurd c hT
     ·omega
    rw [e]
    exact ih (i+1) (by omega) (by omega)
  ·rw [bif_f (by simpa using h)]
   exact ⟨false,rfl,fun hh=>(by cases hh),fun ⟨j,a,b,_⟩=>by omega⟩
theorem touch39 (n n' : Nat) (f g:Nat→Nat→CV) (V:Valid n f) (W:Valid n' g):∃ r,F39 100 n f n' g=some r∧(r=true↔Touch n (pt f) n' (pt g)):=by
 have:=V.small
 unfold F39
 obtain ⟨r,h1,h2⟩:=touch39_3 n n' f g V.small W.small V.big W.big V.near W.near 100 0 (by omega) (by omega)
 exact ⟨r,h1,h2.trans touchI0⟩
theorem free_edge {n n' : Nat} {p p' : Nat→Pt} (h:¬ Touch n p n' p') {i:Nat} (hi:i<n):Free n' p' (p i) (p (nx n i)):=fun k hk hm=>h ⟨i,k,hi,hk,hm⟩
theorem all_corners {n n' : Nat} {f g:Nat→Nat→CV} (h0:3≤n) (h:¬ Touch n (pt f) n' (pt g)):∀ i,i<n→(¬ OnC n' (pt g) (pt f i) 0)∧par n' (pt g) (pt f i)=par n' (pt g) (pt f 0):=by
 intro i
 induction i with
 | zero =>
  intro hi
  refine ⟨?_,rfl⟩
  rintro ⟨k,_,hk,ho⟩
  exact h ⟨0,k,hi,hk,.inr (.inr (.inl ho))⟩
 | succ i ih =>
  intro hi
  refine ⟨?_,?_⟩
  ·rintro ⟨k,_,hk,ho⟩
   exact h ⟨i+1,k,hi,hk,.inr (.inr (.inl ho))⟩
  ·rw [← (ih (by omega)).2]
   have hf:=free_edge h (i:=i) (by omega)
   rw [nx_small hi] at hf
   exact (par_free hf).symm
end Go.Eng.R13
/-
 RegionChecks: the plain law;what a shape that is accepted looks like.
-/
set_option linter.all false
namespace Go.Eng.R13
open Go Go.RowKit Go.Eng Geo
theorem in73 (n n' : Nat) (f g:Nat→Nat→CV) (hn:n≤32) (V:Valid n f) (W:Valid n' g):∀ (m i:Nat),n<m+i→i≤n →
  ∃ z,L73bv1 100 n f (listF [(.ro false (.pr (.int .i64) (.pr (.int .i64) .nil)) n' g)]) (Int.ofNat n) m (Int.ofNat i) (fun x=>some x) (some (-1))=some z∧(z<0↔∀ j,i≤j→j<n→InC n' g (pt f j)):=by
 intro m
 induction m with
 | zero=>intro i h1 h2;omega
 | succ m ih =>
  intro i h1 h2
  unfold L73bv1
  rw [lt_nat,inb_nat,toNat_nat]
  by_cases h:i<n
  ·obtain ⟨w,hw1,_,hw3⟩:=where_law n' g (CV.int (f i 0)) (CV.int (f i 1))
   have e64:F64 100 (CV.int (f i 0)) (CV.int (f i 1)) (listF [(.ro false (.pr (.int .i64) (.pr (.int .i64) .nil)) n' g)])=some (w != 1):=by
    unfold F64
    show ob (F65 100 n' g (CV.int (f i 0)) (CV.int (f i 1))) _=_
    rw [hw1,ob_some]
   rw [bif_t (by simpa using h),bif_t (by simpa using h),w64_succ (by omega),e64,ob_some]
   have hin:=hw3.one W (V.near i h)
   by_cases hw:w=1
   ·rw [bif_f (by simpa using hw),all_step (Q:=fun j=>InC n' g (pt f j)) (hin.1 hw)]
    exact ih (i+1) (by omega) (by omega)
   ·rw [bif_t (by simpa using hw)]
    refine ⟨_,rfl,fun hh=>?_,fun hh=>absurd (hin.2 (hh i (Nat.le_refl i) h)) hw⟩
    have:=Int.natCast_nonneg i
    simp at hh;omega
  ·rw [bif_f (by simpa using h)]
   exact ⟨-1,rfl,fun _ j a b=>by omega,fun _=>by decide⟩
theorem within35 (n n' : Nat) (f g:Nat→Nat→CV) (V:Valid n f) (W:Valid n' g):∃ r,F35 100 n f n' g=some r∧(r=true↔¬ Touch n (pt f) n' (pt g)∧∀ i,i<n→InC n' g (pt f i)):=by
 have vs:=V.small
 unfold F35
 obtain ⟨t,h1,h2⟩:=touch58 n n' f g V W
 rw [h1,ob_some]
 cases t with
 | true =>
  rw [bif_f (by rfl)]
  exact ⟨false,rfl,fun hh=>(by cases hh),fun hh=>absurd (h2.1 rfl) hh.1⟩
 | false =>
  rw [bif_t (by rfl)]
  obtain ⟨z,h3,h4⟩:=in73 n n' f g V.small V W 100 0 (by omega) (by omega)
  unfold F50b F73b
  rw [show (0:Int)=Int.ofNat 0 from rfl,h3,ob_some,ob_some]
  refine ⟨_,rfl,?_⟩
  have hT:¬ Touch n (pt f) n' (pt g):=fun hh=>by have:=h2.2 hh;cases this
  have e:((!decide (z≥Int.ofNat 0))=true)↔z<0:=by simp
  rw [e,h4]
  exact ⟨fun hh=>⟨hT,fun i hi=>hh i (by omega) hi⟩,fun hh j _ hj=>hh.2 j hj⟩
theorem apart36 (n n' : Nat) (f g:Nat→Nat→CV) (V:Valid n f) (W:Valid n' g):∃ r,F36 100 n f n' g=some r∧(r=true↔¬ Touch n (pt f) n' (pt g)∧OutC n f (pt g 0)∧OutC n' g (pt f 0)):=by
 have vs:=V.big
 have ws:=W.big
 unfold F36
 obtain ⟨t,h1,h2⟩:=touch58 n n' f g V W
 rw [h1,ob_some]
 cases t with
 | true =>
  rw [bif_f (by rfl)]
  exact ⟨false,rfl,fun hh=>(by cases hh),fun hh=>absurd (h2.1 rfl) hh.1⟩
 | false =>
  have hT:¬ Touch n (pt f) n' (pt g):=fun hh=>by have:=h2.2 hh;cases this
  obtain ⟨w,hw1,_,hw3⟩:=where_law n f (CV.int (g 0 0)) (CV.int (g 0 1))
  obtain ⟨u,hu1,_,hu3⟩:=where_law n' g (CV.int (f 0 0)) (CV.int (f 0 1))
  have hw:=hw3.out V (W.near 0 (by omega))
  have hu:=hu3.out W (V.near 0 (by omega))
  rw [bif_t (by rfl),bif_t (inb_true (by omega) (by omega)),hw1,ob_some]
  by_cases c1:w<0
  ·rw [bif_t (by simpa using c1),bif_t (inb_true (by omega) (by omega)),hu1,ob_some]
   refine ⟨_,rfl,?_⟩
   rw [decide_eq_true_iff,hu]
   exact ⟨fun hh=>⟨hT,hw.1 c1,hh⟩,fun hh=>hh.2.2⟩
  ·rw [bif_f (by simpa using c1)]
   exact ⟨false,rfl,fun hh=>(by cases hh),fun hh=>absurd (hw.2 hh.2.1) c1⟩
def ApartAt (f2:Nat→Nat→CV) (i j:Nat):Prop :=
 ¬ Touch (CV.len (f2 i 0)) (pt (CV.el (f2 i 0))) (CV.len (f2 j 0)) (pt (CV.el (f2 j 0)))∧OutC (CV.len (f2 i 0)) (CV.el (f2 i 0)) (pt (CV.el (f2 j 0)) 0)∧OutC (CV.len (f2 j 0)) (CV.el (f2 j 0)) (pt (CV.el (f2 i 0)) 0)
structure HoleAt (n1:Nat) (f1:Nat→Nat→CV) (f2:Nat→Nat→CV) (i:Nat):Prop where
 valid:Valid (CV.len (f2 i 0)) (CV.el (f2 i 0))
 neg:area (CV.len (f2 i 0)) (pt (CV.el (f2 i 0)))<0
 free:¬ Touch (CV.len (f2 i 0)) (pt (CV.el (f2 i 0))) n1 (pt f1)
 inside:∀ c,c<CV.len (f2 i 0)→InC n1 f1 (pt (CV.el (f2 i 0)) c)
structure VShape (n1:Nat) (f1:Nat→Nat→CV) (n2:Nat) (f2:Nat→Nat→CV):Prop where
 few:n2≤8
 outer:Valid n1 f1
 pos:0<area n1 (pt f1)
 hole:∀ i,i<n2→HoleAt n1 f1 f2 i
 apart:∀ i,i<n2→∀ j,j<i→ApartAt f2 i j
theorem apart_loop {ρ:Type} (n1 n2 i:Nat) (f1 f2:Nat→Nat→CV) (hn:n2≤8) (hi:i<n2) (V:Valid (CV.len (f2 i 0)) (CV.el (f2 i 0))) (hV:∀ j,j<i→Valid (CV.len (f2 j 0)) (CV.el (f2 j 0))) (k0 k1:Option ρ):∀ (m j:Nat),i<m+j→j≤i →
  ((∀ j',j≤j'→j' < i→ApartAt f2 i j')→L13v2 100 (CV.len (f2 i 0)) (CV.el (f2 i 0)) n2 f2 (Int.ofNat n2) (Int.ofNat i) i (Int.ofNat i) n1 f1 m (Int.ofNat j) k0 k1=k1∧L14v2 100 (Int.ofNat i) (CV.len (f2 i 0)) (CV.el (f2 i 0)) n1 f1 n2 f2 m (Int.ofNat j) k0 k1=k1) ∧
  (¬ (∀ j',j≤j'→j' < i→ApartAt f2 i j')→L13v2 100 (CV.len (f2 i 0)) (CV.el (f2 i 0)) n2 f2 (Int.ofNat n2) (Int.ofNat i) i (Int.ofNat i) n1 f1 m (Int.ofNat j) k0 k1=k0∧L14v2 100 (Int.ofNat i) (CV.len (f2 i 0)) (CV.el (f2 i 0)) n1 f1 n2 f2 m (Int.ofNat j) k0 k1=k0):=by
 intro m
 induction m with
 | zero=>intro j h1 h2;omega
 | succ m ih =>
  intro j h1 h2
  unfold L13v2 L14v2
  rw [lt_nat,inb_nat,inb_nat,toNat_nat]
  by_cases h:j<i
  ·have hj:j<n2:=by omega
   have Vj:=hV j h
   have vb:=V.big
   have vjb:=Vj.big
   rw [bif_t (decide_eq_true h),bif_t (decide_eq_true h),bif_t (decide_eq_true h),bif_t (decide_eq_true hj),w64_succ (by omega)]
   obtain ⟨r,hr1,hr2⟩:=apart36 (CV.len (f2 i 0)) (CV.len (f2 j 0)) (CV.el (f2 i 0)) (CV.el (f2 j 0)) V Vj
   obtain ⟨t,ht1,ht2⟩:=touch39 (CV.len (f2 i 0)) (CV.len (f2 j 0)) (CV.el (f2 i 0)) (CV.el (f2 j 0)) V Vj
   obtain ⟨w,_,hw2,hw3⟩:=where_law (CV.len (f2 i 0)) (CV.el (f2 i 0)) (CV.int ((CV.el (f2 j 0)) 0 0)) (CV.int ((CV.el (f2 j 0)) 0 1))
   replace hw2:=hw2 V
   obtain ⟨u,_,hu2,hu3⟩:=where_law (CV.len (f2 j 0)) (CV.el (f2 j 0)) (CV.int ((CV.el (f2 i 0)) 0 0)) (CV.int ((CV.el (f2 i 0)) 0 1))
   replace hu2:=hu2 Vj
   have hw:=hw3.out V (Vj.near 0 (by omega))
   have hu:=hu3.out Vj (V.near 0 (by omega))
   have rw1:=hw3.range
   have ru1:=hu3.range
   rw [hr1,ht1,ob_some,ob_some]
   by_cases hA:ApartAt f2 i j
   ·have er:r=true:=hr2.2 hA
    have et:t=false:=by
     cases t with
     | false=>rfl
     | true=>exact absurd (ht2.1 rfl) hA.1
    have ew:w = -1:=by have:=hw.2 hA.2.1;omega
    have eu:u = -1:=by have:=hu.2 hA.2.2;omega
    subst er;subst et;subst ew;subst eu
    rw [bif_f (show (!true)=false from rfl),bif_t (show (false==false)=true from rfl),bif_t (decide_eq_true hj),bif_t (inb_true (by omega) (by omega)),hw2,ob_some,bif_t (by rfl),bif_t (decide_eq_true hj),bif_t (inb_true (by omega) (by omega)),hu2,ob_some,bif_f (by rfl)]
    rw [all_step (Q:=fun j'=>ApartAt f2 i j') hA]
    exact ih (j+1) (by omega) (by omega)
   ·have er:r=false:=by
     cases r with
     | false=>rfl
     | true=>exact absurd (hr2.1 rfl) hA
    subst er
    rw [bif_t (show (!false)=true from rfl)]
    refine ⟨fun hh=>absurd (hh j (Nat.le_refl j) h) hA,fun _=>⟨rfl,?_⟩⟩
    cases t with
    | true=>rw [bif_f (by rfl)]
    | false =>
     have hT:¬ Touch (CV.len (f2 i 0)) (pt (CV.el (f2 i 0))) (CV.len (f2 j 0)) (pt (CV.el (f2 j 0))):=fun hh=>by have:=ht2.2 hh;cases this
     rw [bif_t (show (false==false)=true from rfl),bif_t (decide_eq_true hj),bif_t (inb_true (by omega) (by omega)),hw2,ob_some]
     by_cases cw:w = -1
     ·rw [bif_t (by simpa using cw),bif_t (decide_eq_true hj),bif_t (inb_true (by omega) (by omega)),hu2,ob_some]
      by_cases cu:u = -1
      ·exact absurd ⟨hT,hw.1 (by omega),hu.1 (by omega)⟩ hA
      ·rw [bif_t (by simpa using cu)]
     ·rw [bif_f (by simpa using cw)]
  ·rw [bif_f (by simpa using h),bif_f (by simpa using h)]
   exact ⟨fun _=>⟨rfl,rfl⟩,fun hh=>absurd (fun j' a b=>by omega) hh⟩
theorem area38' {n:Nat} {f:Nat→Nat→CV} (h2:n≤32) (h1:3≤n) (h3:AllNr n f) (h:F37 100 n f=some 0):F38 100 n f=some (area n (pt f)):=by
 unfold F38
 rw [h,ob_some,bif_f (by rfl)]
 exact area38 n f h2 h1 h3 some 100 0 (by omega) (by omega)
theorem holes_loop (n1 n2:Nat) (f1 f2:Nat→Nat→CV) (hn:n2≤8) (V:Valid n1 f1):∀ (m i:Nat),n2<m+i→i≤n2→(∀ j,j<i→HoleAt n1 f1 f2 j) →
  ∃ c,L13v3 100 n2 f2 (Int.ofNat n2) n1 f1 m (Int.ofNat i) (fun x=>some x) (some 0)=some c∧L14v3 100 n1 f1 n2 f2 m (Int.ofNat i) (fun x=>some x) (some 0)=some c ∧
   (c=0↔∀ j,i≤j→j<n2→HoleAt n1 f1 f2 j∧∀ j',j' < j→ApartAt f2 j j'):=by
 intro m
 induction m with
 | zero=>intro i h1 h2;omega
 | succ m ih =>
  intro i h1 h2 hp
  unfold L13v3 L14v3
  rw [lt_nat,inb_nat,toNat_nat]
  by_cases h:i<n2
  ·rw [bif_t (decide_eq_true h),bif_t (decide_eq_true h),bif_t (decide_eq_true h),bif_t (decide_eq_true h),w64_succ (by omega)]
   have no:∀ c:Int,c≠0→¬ (HoleAt n1 f1 f2 i∧∀ j',j' < i→ApartAt f2 i j')→(c=0↔∀ j,i≤j→j<n2→HoleAt n1 f1 f2 j∧∀ j',j' < j→ApartAt f2 j j') :=
    fun c hc hh=>⟨fun h'=>absurd h' hc,fun h'=>absurd (h' i (Nat.le_refl i) h) hh⟩
   obtain ⟨c,d,hc1,hc2,hc3,hc4⟩:=check_law (CV.len (f2 i 0)) (CV.el (f2 i 0))
   rw [hc1,hc2,ob_some,ob_some]
   by_cases c0:c=0
   ·have d0:d=0:=by omega
    subst c0;subst d0
    have W:=hc3.1 rfl
    obtain ⟨a,ha1,ha2,ha3⟩:=area_law (CV.len (f2 i 0)) (CV.el (f2 i 0))
    have ea:=ha3 W
    have wb:=W.big
    rw [bif_f (show ((0:Int) != 0)=false from rfl),bif_f (show ((0:Int) != 0)=false from rfl),ha1,ha2,ob_some,ob_some]
    by_cases an:a<0
    ·have da:(decide (a≥0)==false)=true:=by simp;omega
     rw [bif_t da,bif_t da]
     obtain ⟨r,hr1,hr2⟩:=within35 (CV.len (f2 i 0)) n1 (CV.el (f2 i 0)) f1 W V
     obtain ⟨t,ht1,ht2⟩:=touch39 n1 (CV.len (f2 i 0)) f1 (CV.el (f2 i 0)) V W
     obtain ⟨w,_,hw2,hw3⟩:=where_law n1 f1 (CV.int ((CV.el (f2 i 0)) 0 0)) (CV.int ((CV.el (f2 i 0)) 0 1))
     replace hw2:=hw2 V
     have hw:=hw3.one V (W.near 0 (by omega))
     rw [hr1,ht1,ob_some,ob_some]
     have tt:Touch n1 (pt f1) (CV.len (f2 i 0)) (pt (CV.el (f2 i 0)))↔Touch (CV.len (f2 i 0)) (pt (CV.el (f2 i 0))) n1 (pt f1):=⟨Touch.symm,Touch.symm⟩
     by_cases hT:Touch (CV.len (f2 i 0)) (pt (CV.el (f2 i 0))) n1 (pt f1)
     ·have er:r=false:=by
       cases r with
       | false=>rfl
       | true=>exact absurd hT (hr2.1 rfl).1
      have et:t=true:=ht2.2 (tt.2 hT)
      subst er;subst et
      rw [bif_t (show (!false)=true from rfl),bif_f (show (true==false)=false from rfl)]
      exact ⟨17,rfl,rfl,no 17 (by decide) fun hh=>hh.1.free hT⟩
     ·have et:t=false:=by
       cases t with
       | false=>rfl
       | true=>exact absurd (tt.1 (ht2.1 rfl)) hT
      subst et
      have hall:=all_corners W.big hT
      rw [bif_t (show (false==false)=true from rfl),bif_t (inb_true (by omega) (by omega)),hw2,ob_some]
      by_cases hin:InC n1 f1 (pt (CV.el (f2 i 0)) 0)
      ·have er:r=true:=hr2.2 ⟨hT,fun j hj=>⟨(hall j hj).1,(hall j hj).2.trans hin.2⟩⟩
       have ew:w=1:=hw.2 hin
       subst er;subst ew
       rw [bif_f (show (!true)=false from rfl),bif_f (show ((1:Int) != 1)=false from rfl),bif_t (inbe_true (i:=Int.ofNat i) (n:=n2) (by simp) (by simp;omega))]
       have Hi:HoleAt n1 f1 f2 i:=⟨W,by rw [← ea];exact an,hT,(hr2.1 rfl).2⟩
       obtain ⟨cc,e1,e2,e3⟩:=ih (i+1) (by omega) (by omega) (fun j hj=>by
        by_cases e:j=i
        ·rw [e];exact Hi
        ·exact hp j (by omega))
       have ap:=fun (k0 k1:Option Int)=>apart_loop n1 n2 i f1 f2 hn h W (fun j hj=>(hp j hj).valid) k0 k1 100 0 (by omega) (by omega)
       have es:i-0=i:=rfl
       rw [es,show (0:Int)=Int.ofNat 0 from rfl]
       by_cases hap:∀ j',0≤j'→j' < i→ApartAt f2 i j'
       ·rw [((ap _ _).1 hap).1,((ap _ _).1 hap).2]
        refine ⟨cc,e1,e2,e3.trans ?_⟩
        rw [all_step (Q:=fun j=>HoleAt n1 f1 f2 j∧∀ j',j' < j→ApartAt f2 j j') ⟨Hi,fun j' hj'=>hap j' (by omega) hj'⟩]
       ·rw [((ap _ _).2 hap).1,((ap _ _).2 hap).2]
        exact ⟨17,rfl,rfl,no 17 (by decide) fun hh=>hap fun j' _ hj'=>hh.2 j' hj'⟩
      ·have er:r=false:=by
        cases r with
        | false=>rfl
        | true=>exact absurd ((hr2.1 rfl).2 0 (by omega)) hin
       have ew:w≠1:=fun hh=>hin (hw.1 hh)
       subst er
       rw [bif_t (show (!false)=true from rfl),bif_t (by simpa using ew)]
       exact ⟨17,rfl,rfl,no 17 (by decide) fun hh=>hin (hh.1.inside 0 (by omega))⟩
    ·have da:(decide (a≥0)==false)=false:=by simp;omega
     rw [bif_f da,bif_f da]
     exact ⟨17,rfl,rfl,no 17 (by decide) fun hh=>by have:=hh.1.neg;omega⟩
   ·have dc:(c != 0)=true:=by simpa using c0
    rw [bif_t dc]
    rcases hc4 with rfl | ⟨rfl,rfl,b1,b2,b3,b4⟩
    ·rw [bif_t dc]
     exact ⟨d,rfl,rfl,no d c0 fun hh=>c0 (hc3.2 hh.1.valid)⟩
    ·rw [bif_f (show ((0:Int) != 0)=false from rfl),area38' b2 b1 b3 hc2,b4,ob_some,bif_f (by decide)]
     exact ⟨17,rfl,rfl,no 17 (by decide) fun hh=>c0 (hc3.2 hh.1.valid)⟩
  ·rw [bif_f (by simpa using h),bif_f (by simpa using h)]
   exact ⟨0,rfl,rfl,fun _ j a b=>by omega,fun _=>rfl⟩
theorem shape_law (n1 n2:Nat) (f1 f2:Nat→Nat→CV):∃ c,F13 100 n1 f1 n2 f2=some c∧F14 100 n1 f1 n2 f2=some c∧(c=0↔VShape n1 f1 n2 f2):=by
 unfold F13 F14
 by_cases h1:n2≤8
 ·have d1:decide (Int.ofNat n2>8)=false:=by simp;omega
  rw [bif_f d1,bif_f d1]
  obtain ⟨c,d,hc1,hc2,hc3,hc4⟩:=check_law n1 f1
  rw [hc1,hc2,ob_some,ob_some]
  by_cases c0:c=0
  ·have d0:d=0:=by omega
   subst c0;subst d0
   have V:=hc3.1 rfl
   obtain ⟨a,ha1,ha2,ha3⟩:=area_law n1 f1
   have ea:=ha3 V
   rw [bif_f (by rfl),bif_f (by rfl),ha1,ha2,ob_some,ob_some]
   by_cases ap:a≤0
   ·rw [bif_t (by simpa using ap),bif_t (by simpa using ap)]
    exact ⟨17,rfl,rfl,fun hh=>(by cases hh),fun hh=>by have:=hh.pos;omega⟩
   ·rw [bif_f (by simpa using ap),bif_f (by simpa using ap)]
    obtain ⟨cc,e1,e2,e3⟩:=holes_loop n1 n2 f1 f2 h1 V 100 0 (by omega) (by omega) (fun j hj=>by omega)
    refine ⟨cc,e1,e2,e3.trans ⟨fun hh=>⟨h1,V,by omega,fun i hi=>(hh i (by omega) hi).1,fun i hi=>(hh i (by omega) hi).2⟩,fun hh j _ hj=>⟨hh.hole j hj,hh.apart j hj⟩⟩⟩
  ·rw [bif_t (by simpa using c0)]
   rcases hc4 with rfl | ⟨rfl,rfl,b1,b2,b3,b4⟩
   ·rw [bif_t (by simpa using c0)]
    exact ⟨d,rfl,rfl,fun hh=>absurd hh c0,fun hh=>absurd (hc3.2 hh.outer) c0⟩
   ·rw [bif_f (by rfl),area38' b2 b1 b3 hc2,b4,ob_some,bif_t (by decide)]
    exact ⟨17,rfl,rfl,fun hh=>absurd hh c0,fun hh=>absurd (hc3.2 hh.outer) c0⟩
 ·have d1:decide (Int.ofNat n2>8)=true:=by simp;omega
  rw [bif_t d1,bif_t d1]
  exact ⟨12,rfl,rfl,fun hh=>(by cases hh),fun hh=>absurd hh.few h1⟩
end Go.Eng.R13
/-
 RegionWheres: the plain law.
-/
set_option linter.all false
namespace Go.Eng.R13
open Go Go.RowKit Go.Eng Geo
theorem Valid.ne {n:Nat} {f:Nat→Nat→CV} (V:Valid n f):∀ i,i<n→pt f i≠pt f (nx n i) :=
 fun i hi=>V.simple.dist i (nx n i) hi (nx_lt V.big) (fun h=>nx_ne V.big hi h.symm)
end Go.Eng.R13
/-
 A contour in the opposite order.
-/
set_option linter.all false
namespace Go.Eng.R13
open Go Go.RowKit Go.Eng Geo
theorem jn (n:Nat) (f g:Nat→Nat→CV) (j c:Nat) (h:n≤j):joinF n f g j c=g (j-n) c:=by
 unfold joinF
 rw [bif_f]
 cases hq:Nat.blt j n with
 | false=>rfl
 | true=>simp [Nat.blt_eq] at hq;omega
end Go.Eng.R13
/-
 Valid contours that do not touch.
-/
set_option linter.all false
namespace Go.Eng.R13
open Go Go.RowKit Go.Eng Geo
end Go.Eng.R13
/-
 The area of a valid shape.
-/
set_option linter.all false
namespace Go.Eng.R13
open Go Go.RowKit Go.Eng Geo
def cfh (n1:Nat) (f1 f2:Nat→Nat→CV):Nat→Nat→CV:=joinF 1 (rowsF 1 [(.ro false (.pr (.int .i64) (.pr (.int .i64) .nil)) n1 f1)]) f2
theorem cfh_succ (n1:Nat) (f1 f2:Nat→Nat→CV) (j:Nat):cfh n1 f1 f2 (j+1) 0=f2 j 0:=by
 unfold cfh
 rw [jn _ _ _ _ _ (by omega)]
 rfl
end Go.Eng.R13
/-
 A shape at a spot.
-/
set_option linter.all false
namespace Go.Eng.R13
open Go Go.RowKit Go.Eng
theorem joinF_old (n:Nat) (f g:Nat→Nat→CV) (j c:Nat) (h:j<n):joinF n f g j c=f j c:=by
 unfold joinF
 rw [bif_t (by simpa [Nat.blt_eq] using h)]
theorem joinF_new (n:Nat) (f g:Nat→Nat→CV) (j c:Nat) (h:n≤j):joinF n f g j c=g (j-n) c:=by
 unfold joinF
 rw [bif_f]
 cases hq:Nat.blt j n with
 | false=>rfl
 | true=>simp [Nat.blt_eq] at hq;omega
theorem ble_ok {n:Nat} (h:n≤1073741824):Nat.ble n 1073741824=true:=by rw [Nat.ble_eq];exact h
def rot:Nat→Int→Int→Int × Int
 | 0,x,y=>(x,y)
 | n+1,x,y=>rot n (w64 (0-y)) x
def tp (fl:Bool) (t:Nat) (tx ty x y:Int):Int × Int :=
 (w64 ((rot t (bif fl then w64 (0-x) else x) y).1+tx),w64 ((rot t (bif fl then w64 (0-x) else x) y).2+ty))
theorem rot32 {ρ:Type} (a:ByteArray) (b c:Int) (t:Nat) (fl:Bool) (ht:t≤3) (k0:Int→Int→Option ρ):∀ (m i:Nat) (x y:Int),t<m+i→i≤t →
  L32v1 100 a b c (Int.ofNat t) fl m (Int.ofNat i) x y k0=k0 (rot (t-i) x y).1 (rot (t-i) x y).2:=by
 intro m
 induction m with
 | zero=>intro i x y h1 h2;omega
 | succ m ih =>
  intro i x y h1 h2
  unfold L32v1
  rw [lt_nat]
  by_cases h:i<t
  ·rw [bif_t (by simpa using h),w64_succ (by omega),ih (i+1) _ _ (by omega) (by omega)]
   rw [show t-i=(t-(i+1))+1 from by omega]
   rfl
  ·rw [bif_f (by simpa using h),show t-i=0 from by omega]
   rfl
theorem rot51 {ρ:Type} (a:Nat→CV) (b c:Nat) (d:Nat→Nat→CV) (e g:Int) (t:Nat) (z:Nat→CV) (hz:CV.int (z 3)=Int.ofNat t) (q:Nat→Nat→CV) (ht:t≤3) (k0:Int→Int→Option ρ):∀ (m i:Nat) (x y:Int),t<m+i→i≤t →
  L51v2 100 a b c d e g z q m (Int.ofNat i) x y k0=k0 (rot (t-i) x y).1 (rot (t-i) x y).2:=by
 intro m
 induction m with
 | zero=>intro i x y h1 h2;omega
 | succ m ih =>
  intro i x y h1 h2
  unfold L51v2
  rw [hz,lt_nat]
  by_cases h:i<t
  ·rw [bif_t (by simpa using h),w64_succ (by omega),ih (i+1) _ _ (by omega) (by omega)]
   rw [show t-i=(t-(i+1))+1 from by omega]
   rfl
  ·rw [bif_f (by simpa using h),show t-i=0 from by omega]
   rfl
theorem point_law (x y:Int) (s:ByteArray) (tx ty:Int) (t:Nat) (fl:Bool) (ht:t≤3):F32 100 x y s tx ty (Int.ofNat t) fl=some (tp fl t tx ty x y):=by
 unfold F32
 cases fl with
 | true =>
  rw [bif_t rfl]
  exact rot32 s tx ty t true ht _ 100 0 _ _ (by omega) (by omega)
 | false =>
  rw [bif_f rfl]
  exact rot32 s tx ty t false ht _ 100 0 _ _ (by omega) (by omega)
def Are (P:Nat→Int × Int) (g:Nat→Nat→CV) (i:Nat):Prop:=∀ j,j<i→g j 0=.i .i64 (P j).1∧g j 1=.i .i64 (P j).2
theorem Are.snoc {P:Nat→Int × Int} {g:Nat→Nat→CV} {i:Nat} (h:Are P g i) {a b:Int} (hp:P i=(a,b)):Are P (joinF i g (rowsF 2 [.i .i64 a,.i .i64 b])) (i+1):=by
 intro j hj
 by_cases e:j=i
 ·subst e
  rw [joinF_new _ _ _ _ _ (Nat.le_refl j),joinF_new _ _ _ _ _ (Nat.le_refl j),Nat.sub_self,hp]
  exact ⟨rfl,rfl⟩
 ·rw [joinF_old _ _ _ _ _ (by omega),joinF_old _ _ _ _ _ (by omega)]
  exact h j (by omega)
def cp (fl:Bool) (t:Nat) (tx ty:Int) (f:Nat→Nat→CV) (j:Nat):Int × Int:=tp fl t tx ty (CV.int (f j 0)) (CV.int (f j 1))
def cq (fl:Bool) (t:Nat) (tx ty:Int) (n:Nat) (f:Nat→Nat→CV) (j:Nat):Int × Int:=cp fl t tx ty f (bif fl then n-1-j else j)
theorem loop51 {ρ:Type} (s:ByteArray) (n t:Nat) (fl:Bool) (tx ty:Int) (f:Nat→Nat→CV) (hn:n≤40) (ht:t≤3) (k0:Nat→(Nat→Nat→CV)→Option ρ):∀ (m i:Nat) (g:Nat→Nat→CV),n<m+i→i≤n→Are (cp fl t tx ty f) g i →
  ∃ g',L51v3 100 (listF [.s s,.i .i64 tx,.i .i64 ty,.i .i64 (Int.ofNat t),.b fl]) n f (Int.ofNat n) m i (Int.ofNat i) g k0=k0 n g'∧Are (cp fl t tx ty f) g' n:=by
 intro m
 induction m with
 | zero=>intro i g h1 h2;omega
 | succ m ih =>
  intro i g h1 h2 hg
  unfold L51v3
  rw [lt_nat,inb_nat,toNat_nat]
  by_cases h:i<n
  ·rw [bif_t (by simpa using h),bif_t (by simpa using h),w64_succ (by omega)]
   have e4:CV.bool (listF [.s s,.i .i64 tx,.i .i64 ty,.i .i64 (Int.ofNat t),.b fl] 4)=fl:=rfl
   have e3:CV.int (listF [.s s,.i .i64 tx,.i .i64 ty,.i .i64 (Int.ofNat t),.b fl] 3)=Int.ofNat t:=rfl
   have e1:CV.int (listF [.s s,.i .i64 tx,.i .i64 ty,.i .i64 (Int.ofNat t),.b fl] 1)=tx:=rfl
   have e2:CV.int (listF [.s s,.i .i64 tx,.i .i64 ty,.i .i64 (Int.ofNat t),.b fl] 2)=ty:=rfl
   rw [e4,e1,e2]
   cases fl with
   | true =>
    rw [bif_t rfl]
    rw [show (0:Int)=Int.ofNat 0 from rfl,rot51 _ _ _ _ _ _ t _ e3 _ ht _ 100 0 _ _ (by omega) (by omega),bif_t (ble_ok (by omega))]
    exact ih (i+1) _ (by omega) (by omega) (hg.snoc rfl)
   | false =>
    rw [bif_f rfl]
    rw [show (0:Int)=Int.ofNat 0 from rfl,rot51 _ _ _ _ _ _ t _ e3 _ ht _ 100 0 _ _ (by omega) (by omega),bif_t (ble_ok (by omega))]
    exact ih (i+1) _ (by omega) (by omega) (hg.snoc rfl)
  ·rw [bif_f (by simpa using h)]
   have:i=n:=by omega
   subst this
   exact ⟨g,rfl,hg⟩
theorem moved_law (s:ByteArray) (n t:Nat) (fl:Bool) (tx ty:Int) (f:Nat→Nat→CV) (hn:n≤40) (ht:t≤3) :
  ∃ g,F51 100 n f (listF [.s s,.i .i64 tx,.i .i64 ty,.i .i64 (Int.ofNat t),.b fl])=some (n,g)∧Are (cq fl t tx ty n f) g n:=by
 unfold F51
 obtain ⟨g,h1,h2⟩:=loop51 s n t fl tx ty f hn ht (fun x65 x66=>(bif (CV.bool (listF [.s s,.i .i64 tx,.i .i64 ty,.i .i64 (Int.ofNat t),.b fl] 4)) then (bif (Nat.beq x65 x65) then (bif (Nat.beq x65 0) then (some (x65,x66)) else (some (x65,(revF x65 x66)))) else none) else (some (x65,x66)))) 100 0 (fun _ _=>.any) (by omega) (by omega) (fun j hj=>by omega)
 rw [show (0:Int)=Int.ofNat 0 from rfl,h1]
 have e4:CV.bool (listF [.s s,.i .i64 tx,.i .i64 ty,.i .i64 (Int.ofNat t),.b fl] 4)=fl:=rfl
 rw [e4]
 cases fl with
 | true =>
  rw [bif_t rfl,bif_t (Nat.beq_refl n)]
  by_cases h0:n=0
  ·subst h0
   exact ⟨g,rfl,fun j hj=>by omega⟩
  ·rw [bif_f (by cases hq:Nat.beq n 0 with | false=>rfl | true=>exact (h0 (Nat.eq_of_beq_eq_true hq)).elim)]
   refine ⟨_,rfl,fun j hj=>?_⟩
   unfold revF cq
   exact h2 (n-1-j) (by omega)
 | false =>
  rw [bif_f rfl]
  exact ⟨g,rfl,h2⟩
def farB (x y:Int):Bool:=decide (x < -1099511627776∨x>1099511627776∨y < -1099511627776∨y>1099511627776)
theorem far49 (x y:Int):F49 100 x y=some (farB x y):=by
 unfold F49 farB
 by_cases h1:x < -1099511627776
 ·rw [bif_f (by simpa using h1)];simp [h1]
 ·rw [bif_t (by simpa using h1)]
  by_cases h2:x>1099511627776
  ·rw [bif_f (by simpa using h2)];simp [h2]
  ·rw [bif_t (by simpa using h2)]
   by_cases h3:y < -1099511627776
   ·rw [bif_f (by simpa using h3)];simp [h3]
   ·rw [bif_t (by simpa using h3)]
    congr 1
    rw [Bool.eq_iff_iff]
    simp only [decide_eq_true_eq]
    omega
def FarFrom (n:Nat) (f:Nat→Nat→CV) (i:Nat):Prop:=∃ j,i≤j∧j<n∧farB (CV.int (f j 0)) (CV.int (f j 1))=true
theorem far_loop (n:Nat) (f:Nat→Nat→CV) (hn:n≤40):∀ (m i:Nat),n<m+i→i≤n →
  ∃ z,L73cv1 100 n f (Int.ofNat n) m (Int.ofNat i) (fun x=>some x) (some (-1))=some z∧(z≥0↔FarFrom n f i):=by
 intro m
 induction m with
 | zero=>intro i h1 h2;omega
 | succ m ih =>
  intro i h1 h2
  unfold L73cv1
  rw [lt_nat,inb_nat,toNat_nat]
  by_cases h:i<n
  ·rw [bif_t (by simpa using h),bif_t (by simpa using h),w64_succ (by omega),far49,ob_some]
   cases hq:farB (CV.int (f i 0)) (CV.int (f i 1)) with
   | true =>
    rw [bif_t rfl]
    exact ⟨_,rfl,fun _=>⟨i,Nat.le_refl i,h,hq⟩,fun _=>Int.natCast_nonneg i⟩
   | false =>
    rw [bif_f rfl]
    obtain ⟨z,h3,h4⟩:=ih (i+1) (by omega) (by omega)
    refine ⟨z,h3,h4.trans ⟨fun ⟨j,a,b,c⟩=>⟨j,by omega,b,c⟩,fun ⟨j,a,b,c⟩=>⟨j,?_,b,c⟩⟩⟩
    by_cases e:j=i
    ·subst e;rw [hq] at c;cases c
    ·omega
  ·rw [bif_f (by simpa using h)]
   exact ⟨-1,rfl,fun hh=>by omega,fun ⟨j,a,b,c⟩=>by omega⟩
theorem far_law (n:Nat) (f:Nat→Nat→CV) (hn:n≤40):∃ b,F50c 100 n f=some b∧(b=true↔FarFrom n f 0):=by
 unfold F50c F73c
 obtain ⟨z,h1,h2⟩:=far_loop n f hn 100 0 (by omega) (by omega)
 rw [show (0:Int)=Int.ofNat 0 from rfl,h1,ob_some]
 exact ⟨_,rfl,by rw [decide_eq_true_iff];exact h2⟩
def FarC (n:Nat) (f:Nat→Nat→CV) (i:Nat):Prop:=∃ j,i≤j∧j<n∧FarFrom (CV.len (f j 0)) (CV.el (f j 0)) 0
theorem farC_loop {ρ:Type} (n a b:Nat) (f c d:Nat→Nat→CV) (s:ByteArray) (x y z:Int) (e:Bool) (hn:n≤13) (hl:∀ j,j<n→CV.len (f j 0)≤40) (k0 k1:Option ρ):∀ (m i:Nat),n<m+i→i≤n →
  (FarC n f i→L25v1 100 n f (Int.ofNat n) a c b d s x y z e m (Int.ofNat i) k0 k1=k0)∧(¬ FarC n f i→L25v1 100 n f (Int.ofNat n) a c b d s x y z e m (Int.ofNat i) k0 k1=k1):=by
 intro m
 induction m with
 | zero=>intro i h1 h2;omega
 | succ m ih =>
  intro i h1 h2
  unfold L25v1
  rw [lt_nat,inb_nat,toNat_nat]
  by_cases h:i<n
  ·obtain ⟨q,hq1,hq2⟩:=far_law (CV.len (f i 0)) (CV.el (f i 0)) (hl i h)
   rw [bif_t (by simpa using h),bif_t (by simpa using h),w64_succ (by omega),hq1,ob_some]
   cases q with
   | true =>
    rw [bif_t rfl]
    exact ⟨fun _=>rfl,fun hh=>absurd ⟨i,Nat.le_refl i,h,hq2.1 rfl⟩ hh⟩
   | false =>
    rw [bif_f rfl]
    have e1:FarC n f i↔FarC n f (i+1):=by
     refine ⟨fun ⟨j,a,b,c⟩=>⟨j,?_,b,c⟩,fun ⟨j,a,b,c⟩=>⟨j,by omega,b,c⟩⟩
     by_cases e:j=i
     ·subst e
      have:=hq2.2 c
      cases this
     ·omega
    rw [e1]
    exact ih (i+1) (by omega) (by omega)
  ·rw [bif_f (by simpa using h)]
   exact ⟨fun ⟨j,a,b,c⟩=>by omega,fun _=>rfl⟩
def Holes (fl:Bool) (t:Nat) (tx ty:Int) (f g:Nat→Nat→CV) (i:Nat):Prop :=
 ∀ j,j<i→CV.len (g j 0)=CV.len (f j 0)∧Are (cq fl t tx ty (CV.len (f j 0)) (CV.el (f j 0))) (CV.el (g j 0)) (CV.len (f j 0))
theorem Holes.snoc {fl:Bool} {t:Nat} {tx ty:Int} {f g:Nat→Nat→CV} {i n:Nat} (h:Holes fl t tx ty f g i) {x:Nat→Nat→CV} {r:Kd} {b:Bool} (hn:n=CV.len (f i 0)) (hx:Are (cq fl t tx ty n (CV.el (f i 0))) x n) :
  Holes fl t tx ty f (joinF i g (rowsF 1 [.ro b r n x])) (i+1):=by
 intro j hj
 by_cases e:j=i
 ·subst e
  rw [joinF_new _ _ _ _ _ (Nat.le_refl j),Nat.sub_self]
  subst hn
  exact ⟨rfl,hx⟩
 ·rw [joinF_old _ _ _ _ _ (by omega)]
  exact h j (by omega)
theorem holes25 {ρ:Type} (s:ByteArray) (n t:Nat) (fl:Bool) (tx ty:Int) (f:Nat→Nat→CV) (a b:Nat) (c d:Nat→Nat→CV) (hn:n≤12) (hl:∀ j,j<n→CV.len (f j 0)≤40) (ht:t≤3) (k0:Nat→(Nat→Nat→CV)→Option ρ):∀ (m i:Nat) (g:Nat→Nat→CV),n<m+i→i≤n→Holes fl t tx ty f g i →
  ∃ g',L25v2 100 s tx ty (Int.ofNat t) fl n f (Int.ofNat n) a c b d m (Int.ofNat i) i g k0=k0 n g'∧Holes fl t tx ty f g' n:=by
 intro m
 induction m with
 | zero=>intro i g h1 h2;omega
 | succ m ih =>
  intro i g h1 h2 hg
  unfold L25v2
  rw [lt_nat,inb_nat,toNat_nat]
  by_cases h:i<n
  ·obtain ⟨x,hx1,hx2⟩:=moved_law s (CV.len (f i 0)) t fl tx ty (CV.el (f i 0)) (hl i h) ht
   rw [bif_t (by simpa using h),bif_t (by simpa using h),w64_succ (by omega),hx1,ob_some,bif_t (ble_ok (by omega))]
   exact ih (i+1) _ (by omega) (by omega) (hg.snoc rfl hx2)
  ·rw [bif_f (by simpa using h)]
   have:i=n:=by omega
   subst this
   exact ⟨g,rfl,hg⟩
end Go.Eng.R13
/-
 RegionMoves: the plain law.
-/
set_option linter.all false
namespace Go.Eng.R13
open Go Go.RowKit Go.Eng
theorem loop54 {ρ:Type} (s:ByteArray) (n t:Nat) (fl:Bool) (tx ty:Int) (f:Nat→Nat→CV) (hn:n≤40) (ht:t≤3) (k0:Nat→(Nat→Nat→CV)→Option ρ):∀ (m i:Nat) (g:Nat→Nat→CV),n<m+i→i≤n→Are (cq fl t tx ty n f) g i →
  ∃ g',L54v1 100 n f s tx ty (Int.ofNat t) fl m i (Int.ofNat i) g k0=k0 n g'∧Are (cq fl t tx ty n f) g' n:=by
 intro m
 induction m with
 | zero=>intro i g h1 h2;omega
 | succ m ih =>
  intro i g h1 h2 hg
  unfold L54v1
  rw [lt_nat,inb_nat,toNat_nat]
  by_cases h:i<n
  ·rw [bif_t (by simpa using h),w64_succ (by omega)]
   cases fl with
   | true =>
    have e:w64 (w64 (Int.ofNat n-1)-Int.ofNat i)=Int.ofNat (n-1-i):=by
     rw [w64_of (n:=Int.ofNat n-1) (by simp;omega) (by simp;omega),w64_of (by simp;omega) (by simp;omega)]
     simp;omega
    rw [bif_t rfl,e,inb_nat,toNat_nat,bif_t (by simp;omega),point_law _ _ _ _ _ _ _ ht,ob_some,bif_t (ble_ok (by omega))]
    exact ih (i+1) _ (by omega) (by omega) (hg.snoc rfl)
   | false =>
    rw [bif_f rfl,bif_t (by simpa using h),point_law _ _ _ _ _ _ _ ht,ob_some,bif_t (ble_ok (by omega))]
    exact ih (i+1) _ (by omega) (by omega) (hg.snoc rfl)
  ·rw [bif_f (by simpa using h)]
   have:i=n:=by omega
   subst this
   exact ⟨g,rfl,hg⟩
theorem contour_law (s:ByteArray) (n t:Nat) (fl:Bool) (tx ty:Int) (f:Nat→Nat→CV) (hn:n≤40) (ht:t≤3) :
  ∃ g,F54 100 n f s tx ty (Int.ofNat t) fl=some (n,g)∧Are (cq fl t tx ty n f) g n:=by
 unfold F54
 exact loop54 s n t fl tx ty f hn ht _ 100 0 (fun _ _=>.any) (by omega) (by omega) (fun j hj=>by omega)
theorem far53 (x y:Int):F53 100 x y=some (farB x y):=far49 x y
theorem bad_inner {ρ:Type} (N a b i:Nat) (F c d:Nat→Nat→CV) (s:ByteArray) (x y z:Int) (e:Bool) (hi:i<N) (hl:CV.len (F i 0)≤40) (k0:Bool→Option ρ):∀ (m j:Nat) (bad:Bool),CV.len (F i 0)<m+j→j≤CV.len (F i 0) →
  ∃ r,L26v2 100 N F (Int.ofNat i) a c b d s x y z e m bad (Int.ofNat j) k0=k0 r∧(r=true↔bad=true∨FarFrom (CV.len (F i 0)) (CV.el (F i 0)) j):=by
 intro m
 induction m with
 | zero=>intro j bad h1 h2;omega
 | succ m ih =>
  intro j bad h1 h2
  unfold L26v2
  rw [inb_nat,toNat_nat,lt_nat,inb_nat,toNat_nat]
  rw [bif_t (by simpa using hi)]
  by_cases h:j<CV.len (F i 0)
  ·rw [bif_t (by simpa using h),w64_succ (by omega)]
   cases bad with
   | true =>
    rw [bif_f (by simp)]
    obtain ⟨r,h3,h4⟩:=ih (j+1) true (by omega) (by omega)
    exact ⟨r,h3,h4.trans ⟨fun _=>.inl rfl,fun _=>.inl rfl⟩⟩
   | false =>
    rw [bif_t (by simp),bif_t (by simpa using hi),bif_t (by simpa using h),far53,ob_some]
    obtain ⟨r,h3,h4⟩:=ih (j+1) (farB (CV.int (CV.el (F i 0) j 0)) (CV.int (CV.el (F i 0) j 1))) (by omega) (by omega)
    refine ⟨r,h3,h4.trans ⟨fun hh=>?_,fun hh=>?_⟩⟩
    ·rcases hh with hh | ⟨j',a,b,c⟩
     ·exact .inr ⟨j,Nat.le_refl j,h,hh⟩
     ·exact .inr ⟨j',by omega,b,c⟩
    ·rcases hh with hh | ⟨j',a,b,c⟩
     ·cases hh
     ·by_cases e:j' = j
      ·subst e;exact .inl c
      ·exact .inr ⟨j',by omega,b,c⟩
  ·rw [bif_f (by simpa using h)]
   exact ⟨bad,rfl,fun h=>.inl h,fun hh=>hh.elim id fun ⟨j',a,b,c⟩=>by omega⟩
theorem bad_outer {ρ:Type} (N a b:Nat) (F c d:Nat→Nat→CV) (s:ByteArray) (x y z:Int) (e:Bool) (hN:N≤13) (hl:∀ j,j<N→CV.len (F j 0)≤40) (k0:Bool→Option ρ):∀ (m i:Nat) (bad:Bool),N<m+i→i≤N →
  ∃ r,L26v3 100 N F a c b d s x y z e m bad (Int.ofNat i) k0=k0 r∧(r=true↔bad=true∨FarC N F i):=by
 intro m
 induction m with
 | zero=>intro i bad h1 h2;omega
 | succ m ih =>
  intro i bad h1 h2
  unfold L26v3
  rw [lt_nat]
  by_cases h:i<N
  ·rw [bif_t (by simpa using h),w64_succ (by omega)]
   obtain ⟨r1,h3,h4⟩:=bad_inner N a b i F c d s x y z e h (hl i h) (fun x96=>(L26v3 100 N F a c b d s x y z e m x96 (Int.ofNat (i+1)) k0)) 100 0 bad (by have:=hl i h;omega) (by omega)
   rw [show (0:Int)=Int.ofNat 0 from rfl,h3]
   obtain ⟨r,h5,h6⟩:=ih (i+1) r1 (by omega) (by omega)
   refine ⟨r,h5,h6.trans ⟨fun hh=>?_,fun hh=>?_⟩⟩
   ·rcases hh with hh | ⟨j',a,b,c⟩
    ·rcases h4.1 hh with hh | hh
     ·exact .inl hh
     ·exact .inr ⟨i,Nat.le_refl i,h,hh⟩
    ·exact .inr ⟨j',by omega,b,c⟩
   ·rcases hh with hh | ⟨j',a,b,c⟩
    ·exact .inl (h4.2 (.inl hh))
    ·by_cases e:j' = i
     ·subst e;exact .inl (h4.2 (.inr c))
     ·exact .inr ⟨j',by omega,b,c⟩
  ·rw [bif_f (by simpa using h)]
   exact ⟨bad,rfl,fun h=>.inl h,fun hh=>hh.elim id fun ⟨j',a,b,c⟩=>by omega⟩
theorem idle_inner {ρ:Type} (N a b i:Nat) (F c d:Nat→Nat→CV) (s:ByteArray) (x y z:Int) (e:Bool) (hi:i<N) (hl:CV.len (F i 0)≤40) (k0:Option ρ):∀ (m j:Nat),CV.len (F i 0)<m+j→j≤CV.len (F i 0) →
  L26v6 100 N F (Int.ofNat i) a c b d s x y z e m (Int.ofNat j) k0=k0:=by
 intro m
 induction m with
 | zero=>intro j h1 h2;omega
 | succ m ih =>
  intro j h1 h2
  unfold L26v6
  rw [inb_nat,toNat_nat,lt_nat,bif_t (by simpa using hi)]
  by_cases h:j<CV.len (F i 0)
  ·rw [bif_t (by simpa using h),w64_succ (by omega)]
   exact ih (j+1) (by omega) (by omega)
  ·rw [bif_f (by simpa using h)]
theorem idle_outer {ρ:Type} (N a b:Nat) (F c d:Nat→Nat→CV) (s:ByteArray) (x y z:Int) (e:Bool) (hN:N≤13) (hl:∀ j,j<N→CV.len (F j 0)≤40) (k0:Option ρ):∀ (m i:Nat),N<m+i→i≤N →
  L26v7 100 N F a c b d s x y z e m (Int.ofNat i) k0=k0:=by
 intro m
 induction m with
 | zero=>intro i h1 h2;omega
 | succ m ih =>
  intro i h1 h2
  unfold L26v7
  rw [lt_nat]
  by_cases h:i<N
  ·rw [bif_t (by simpa using h),w64_succ (by omega),show (0:Int)=Int.ofNat 0 from rfl,idle_inner N a b i F c d s x y z e h (hl i h) _ 100 0 (by have:=hl i h;omega) (by omega)]
   exact ih (i+1) (by omega) (by omega)
  ·rw [bif_f (by simpa using h)]
theorem holes26 {ρ:Type} (s:ByteArray) (n t:Nat) (fl:Bool) (tx ty:Int) (f:Nat→Nat→CV) (a b:Nat) (c d:Nat→Nat→CV) (hn:n≤12) (hl:∀ j,j<n→CV.len (f j 0)≤40) (ht:t≤3) (k0:Nat→(Nat→Nat→CV)→Option ρ):∀ (m i:Nat) (g:Nat→Nat→CV),n<m+i→i≤n→Holes fl t tx ty f g i →
  ∃ g',L26v4 100 a c n f s tx ty (Int.ofNat t) fl b d m (Int.ofNat i) i g k0=k0 n g'∧Holes fl t tx ty f g' n:=by
 intro m
 induction m with
 | zero=>intro i g h1 h2;omega
 | succ m ih =>
  intro i g h1 h2 hg
  unfold L26v4
  rw [lt_nat,inb_nat,toNat_nat]
  by_cases h:i<n
  ·obtain ⟨x,hx1,hx2⟩:=contour_law s (CV.len (f i 0)) t fl tx ty (CV.el (f i 0)) (hl i h) ht
   rw [bif_t (by simpa using h),bif_t (by simpa using h),w64_succ (by omega),hx1,ob_some,bif_t (ble_ok (by omega))]
   exact ih (i+1) _ (by omega) (by omega) (hg.snoc rfl hx2)
  ·rw [bif_f (by simpa using h)]
   have:i=n:=by omega
   subst this
   exact ⟨g,rfl,hg⟩
end Go.Eng.R13
/-
 Contours and shapes that are turned,mirrored and shifted: the same answers.
-/
set_option linter.all false
namespace Go.Eng.R13
open Go Go.RowKit Go.Eng Geo
end Go.Eng.R13
/-
 RegionTurns: the plain law.
-/
set_option linter.all false
namespace Go.Eng.R13
open Go Go.RowKit Go.Eng Geo
end Go.Eng.R13
/-
 RegionTurns: the plain law.
-/
set_option linter.all false
namespace Go.Eng.R13
open Go Go.RowKit Go.Eng Geo
theorem are_pt {P:Nat→Int × Int} {g:Nat→Nat→CV} {n:Nat} (h:Are P g n):∀ j,j<n→pt g j=P j:=by
 intro j hj
 obtain ⟨h1,h2⟩:=h j hj
 unfold pt
 rw [h1,h2]
 rfl
theorem near_far {x y:Int} (h:nr x y):farB x y=false:=by
 unfold farB nr at *
 exact decide_eq_false (by omega)
theorem not_farC {n1 n2:Nat} {f1 f2:Nat→Nat→CV} (h1:AllNr n1 f1) (h2:∀ j,j<n2→AllNr (CV.len (f2 j 0)) (CV.el (f2 j 0))):¬ FarC (1+n2) (cfh n1 f1 f2) 0:=by
 rintro ⟨j,_,hj,i,_,hi,hb⟩
 cases j with
 | zero =>
  have:=near_far (h1 i hi)
  rw [show CV.el (cfh n1 f1 f2 0 0)=f1 from rfl,this] at hb
  cases hb
 | succ j =>
  rw [cfh_succ] at hi hb
  rw [near_far (h2 j (by omega) i hi)] at hb
  cases hb
end Go.Eng.R13
/-
 Bounds: the reference's loop.
-/
set_option linter.all false
namespace Go.Eng.R13
open Go Go.RowKit Go.Eng
def Bds (f:Nat→Nat→CV) (i:Nat) (a b c d:Int):Prop :=
 (∀ j,j<i→a≤CV.int (f j 0)∧b≤CV.int (f j 1)∧CV.int (f j 0)≤c∧CV.int (f j 1)≤d) ∧
 (0<i→(∃ j,j<i∧CV.int (f j 0)=a)∧(∃ j,j<i∧CV.int (f j 1)=b)∧(∃ j,j<i∧CV.int (f j 0)=c)∧(∃ j,j<i∧CV.int (f j 1)=d))
theorem Bds.step {f:Nat→Nat→CV} {i:Nat} {a b c d a' b' c' d' : Int} (hi:0<i) (h:Bds f i a b c d)
  (ha:a' = if CV.int (f i 0)<a then CV.int (f i 0) else a) (hb:b' = if CV.int (f i 1)<b then CV.int (f i 1) else b)
  (hc:c' = if CV.int (f i 0)>c then CV.int (f i 0) else c) (hd:d' = if CV.int (f i 1)>d then CV.int (f i 1) else d):Bds f (i+1) a' b' c' d':=by
 obtain ⟨h1,h2⟩:=h
 obtain ⟨⟨j1,k1,e1⟩,⟨j2,k2,e2⟩,⟨j3,k3,e3⟩,⟨j4,k4,e4⟩⟩:=h2 hi
 have q1:a'≤a∧a'≤CV.int (f i 0):=by rw [ha];split<;>omega
 have q2:b'≤b∧b'≤CV.int (f i 1):=by rw [hb];split<;>omega
 have q3:c≤c'∧CV.int (f i 0)≤c':=by rw [hc];split<;>omega
 have q4:d≤d'∧CV.int (f i 1)≤d':=by rw [hd];split<;>omega
 refine ⟨fun j hj=>?_,fun _=>⟨?_,?_,?_,?_⟩⟩
 ·by_cases e:j=i
  ·rw [e];exact ⟨q1.2,q2.2,q3.2,q4.2⟩
  ·obtain ⟨p1,p2,p3,p4⟩:=h1 j (by omega)
   exact ⟨by omega,by omega,by omega,by omega⟩
 ·by_cases e:CV.int (f i 0)<a
  ·exact ⟨i,by omega,by rw [ha,if_pos e]⟩
  ·exact ⟨j1,by omega,by rw [ha,if_neg e];exact e1⟩
 ·by_cases e:CV.int (f i 1)<b
  ·exact ⟨i,by omega,by rw [hb,if_pos e]⟩
  ·exact ⟨j2,by omega,by rw [hb,if_neg e];exact e2⟩
 ·by_cases e:CV.int (f i 0)>c
  ·exact ⟨i,by omega,by rw [hc,if_pos e]⟩
  ·exact ⟨j3,by omega,by rw [hc,if_neg e];exact e3⟩
 ·by_cases e:CV.int (f i 1)>d
  ·exact ⟨i,by omega,by rw [hd,if_pos e]⟩
  ·exact ⟨j4,by omega,by rw [hd,if_neg e];exact e4⟩
theorem bounds_loop {ρ:Type} (n a:Nat) (f b:Nat→Nat→CV) (k0:Int→Int→Int→Int→Option ρ) (hn:n≤40):∀ (m i:Nat) (p q r s:Int),n<m+i→i≤n→(0<i→Bds f i p q r s) →
  ∃ p' q' r' s',L21v1 100 n f a b m (Int.ofNat i) p q r s k0=k0 p' q' r' s'∧(0<n→Bds f n p' q' r' s'):=by
 intro m
 induction m with
 | zero=>intro i p q r s h1 h2;omega
 | succ m ih =>
  intro i p q r s h1 h2 hB
  unfold L21v1
  rw [lt_nat,inb_nat,toNat_nat]
  by_cases h:i<n
  ·rw [bif_t (by simpa using h),bif_t (by simpa using h),w64_succ (by omega)]
   by_cases h0:i=0
   ·subst h0
    rw [bif_t (by simp)]
    refine ih 1 _ _ _ _ (by omega) (by omega) fun _=>?_
    simp only [gt_iff_lt,ite_self]
    refine ⟨fun j hj=>?_,fun _=>⟨⟨0,by omega,rfl⟩,⟨0,by omega,rfl⟩,⟨0,by omega,rfl⟩,⟨0,by omega,rfl⟩⟩⟩
    have:j=0:=by omega
    subst this
    exact ⟨Int.le_refl _,Int.le_refl _,Int.le_refl _,Int.le_refl _⟩
   ·rw [bif_f (by simp [h0])]
    exact ih (i+1) _ _ _ _ (by omega) (by omega) fun _=>(hB (by omega)).step (by omega) rfl rfl rfl rfl
  ·rw [bif_f (by simpa using h)]
   have:i=n:=by omega
   subst this
   exact ⟨p,q,r,s,rfl,hB⟩
theorem bounds_law (n a:Nat) (f b:Nat→Nat→CV) (hn:n≤40):∃ p q r s,F21 100 n f a b=some (p,q,r,s)∧(0<n→Bds f n p q r s):=by
 unfold F21
 exact bounds_loop n a f b _ hn 100 0 0 0 0 0 (by omega) (by omega) (fun h=>absurd h (by omega))
end Go.Eng.R13
