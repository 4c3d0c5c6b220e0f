/-
 Several texts in one.
-/
import Derived.Test.YtnfphfkgbhpikaaDyBase
/-
 need: lists of strings,blocks,what comes before what,the precedence of the reference.
-/
set_option linter.all false
namespace Go.Eng.R13
open Go Go.RowKit Go.Eng
theorem tl_eq (a b:ByteArray):(ByteArray.toList a==ByteArray.toList b)=decide (a=b):=by
 by_cases h:a=b
 ·subst h;simp
 ·rw [decide_eq_false h]
  have:¬ ByteArray.toList a=ByteArray.toList b:=fun hh=>h (by
   rw [ByteArray.toList_eq,ByteArray.toList_eq] at hh
   exact ByteArray.ext (Array.ext' hh))
  simpa using this
abbrev sv (g:FF) (i:Nat):ByteArray:=CV.str (g i 0)
def strs (k:Nat) (g:FF):List ByteArray:=(List.range k).map (sv g)
def prs (k:Nat) (g:FF):List (Int × Int):=(List.range k).map fun i=>(ea g i,eb g i)
theorem strs_len (k:Nat) (g:FF):(strs k g).length=k:=by simp [strs]
theorem prs_len (k:Nat) (g:FF):(prs k g).length=k:=by simp [prs]
theorem prs_at {k i:Nat} {g:FF} (h:i<k):(prs k g)[i]?=some (ea g i,eb g i):=by
 unfold prs;rw [List.getElem?_map,List.getElem?_range h];rfl
theorem mem_strs {k:Nat} {g:FF} {s:ByteArray}:s∈strs k g↔∃ i,i<k∧sv g i=s:=by
 unfold strs;rw [List.mem_map]
 exact ⟨fun ⟨i,h1,h2⟩=>⟨i,List.mem_range.1 h1,h2⟩,fun ⟨i,h1,h2⟩=>⟨i,List.mem_range.2 h1,h2⟩⟩
theorem joinF_lt {k:Nat} {f g:FF} {i:Nat} (h:i<k):joinF k f g i=f i:=by
 funext j;unfold joinF;rw [show Nat.blt i k=true by rw [Nat.blt_eq];exact h];rfl
theorem joinF_at (k:Nat) (f g:FF):joinF k f g k=g 0:=by
 funext j;unfold joinF
 have:Nat.blt k k=false:=by
  cases h:Nat.blt k k with
  | false=>rfl
  | true=>rw [Nat.blt_eq] at h;omega
 rw [this,Nat.sub_self];rfl
theorem strs_join (k:Nat) (g:FF) (s:ByteArray):strs (k+1) (joinF k g (rowsF 1 [.s s]))=strs k g ++ [s]:=by
 unfold strs sv
 rw [List.range_succ,List.map_append]
 congr 1
 ·exact List.map_congr_left fun i hi=>by rw [joinF_lt (List.mem_range.1 hi)]
 ·simp [joinF_at,rowsF,listF,CV.str]
theorem prs_join (k:Nat) (g:FF) (a b:Int):prs (k+1) (joinF k g (rowsF 2 [.i .i64 a,.i .i64 b]))=prs k g ++ [(a,b)]:=by
 unfold prs
 rw [List.range_succ,List.map_append]
 congr 1
 ·exact List.map_congr_left fun i hi=>by simp only [ea,eb,joinF_lt (List.mem_range.1 hi)]
 ·simp [ea,eb,joinF_at,rowsF,listF,CV.int]
section
variable {ρ : Type}
def isBl (f:FF) (i:Nat):Bool:=decide (CV.int (f i 1)=1)
def bls (n:Nat) (f:FF):List ByteArray:=((List.range n).filter (isBl f)).map (sv f)
theorem int_beq (a b:Int):(a==b)=decide (a=b):=by
 by_cases h:a=b<;>simp [h]
theorem l252 (u:Nat) (s:ByteArray) (n:Nat) (f:FF) (a1:Nat) (f1:FF) (a2:Nat) (f2:FF) (a3:Nat) (f3:FF) (a4:Nat) (f4:FF) (hn:n≤1000000) (k0:Nat→FF→Option ρ):∀ (d i t:Nat) (x:Int) (k:Nat) (g:FF),x=(i:Int)→i+d=n→d<t→k≤i →
  ∃ k' g',k'≤n∧strs k' g' = strs k g ++ ((List.range' i d).filter (isBl f)).map (sv f)∧L252v1 u s n f a1 f1 a2 f2 a3 f3 a4 f4 t k x g k0=k0 k' g'
 | 0,i,t+1,x,k,g,hx,hi,ht,hk=>by
  refine ⟨k,g,by omega,by simp,?_⟩
  unfold L252v1
  rw [show decide (x<Int.ofNat n)=false from decide_eq_false (by simp only [Int.ofNat_eq_natCast];omega),cond_false]
 | d+1,i,t+1,x,k,g,hx,hi,ht,hk=>by
  have h1:decide (x<Int.ofNat n)=true:=decide_eq_true (by simp only [Int.ofNat_eq_natCast];omega)
  have h2:inb x n=true:=inb_true (by omega) (by omega)
  have h3:Int.toNat x=i:=by omega
  have hx1:w64 (x+1)=((i+1:Nat):Int):=by rw [w64_of (by omega) (by omega)];omega
  cases q:isBl f i with
  | true =>
   obtain ⟨k',g',b1,b2,b3⟩:=l252 u s n f a1 f1 a2 f2 a3 f3 a4 f4 hn k0 d (i+1) t (w64 (x+1)) (k+1) (joinF k g (rowsF 1 [.s (CV.str (f i 0))])) hx1 (by omega) (by omega) (by omega)
   refine ⟨k',g',b1,?_,?_⟩
   ·rw [b2,strs_join,List.range'_succ,List.filter_cons_of_pos q];simp
   ·unfold L252v1
    have h4:Nat.ble (k+1) 1073741824=true:=by simp;omega
    have h5:(CV.int (f i 1)==1)=true:=by rw [int_beq];exact q
    rw [h1,cond_true,h2,cond_true,cond_true,h3,h5,cond_true,h4,cond_true]
    exact b3
  | false =>
   obtain ⟨k',g',b1,b2,b3⟩:=l252 u s n f a1 f1 a2 f2 a3 f3 a4 f4 hn k0 d (i+1) t (w64 (x+1)) k g hx1 (by omega) (by omega) (by omega)
   refine ⟨k',g',b1,?_,?_⟩
   ·rw [b2,List.range'_succ,List.filter_cons_of_neg (by rw [q];exact Bool.false_ne_true)]
   ·unfold L252v1
    have h5:(CV.int (f i 1)==1)=false:=by rw [int_beq];exact q
    rw [h1,cond_true,h2,cond_true,cond_true,h3,h5,cond_false]
    exact b3
theorem l251 (u:Nat) (s:ByteArray) (n:Nat) (f:FF) (a1:Nat) (f1:FF) (a2:Nat) (f2:FF) (a3:Nat) (f3:FF) (a4:Nat) (f4:FF) (k0:Nat→FF→Option ρ):∀ (t:Nat) (x:Int) (k:Nat) (g:FF),
  L251v1 u n f (Int.ofNat n) s a1 f1 a2 f2 a3 f3 a4 f4 t k x g k0=L252v1 u s n f a1 f1 a2 f2 a3 f3 a4 f4 t k x g k0
 | 0,x,k,g=>rfl
 | t+1,x,k,g=>by
  unfold L251v1 L252v1
  cases decide (x<Int.ofNat n) with
  | false=>rfl
  | true =>
   cases inb x n with
   | false=>rfl
   | true =>
    simp only [cond_true,l251 u s n f a1 f1 a2 f2 a3 f3 a4 f4 k0 t]
theorem blocks251 (u:Nat) (s:ByteArray) (n:Nat) (f:FF) (a1:Nat) (f1:FF) (a2:Nat) (f2:FF) (a3:Nat) (f3:FF) (a4:Nat) (f4:FF):F251 u s n f a1 f1 a2 f2 a3 f3 a4 f4=F252 u s n f a1 f1 a2 f2 a3 f3 a4 f4:=by
 unfold F251 F252
 exact l251 ..
theorem blocks252 (u:Nat) (s:ByteArray) (n:Nat) (f:FF) (a1:Nat) (f1:FF) (a2:Nat) (f2:FF) (a3:Nat) (f3:FF) (a4:Nat) (f4:FF) (hn:n≤1000000) (hu:n<u) :
  ∃ k g,F252 u s n f a1 f1 a2 f2 a3 f3 a4 f4=some (k,g)∧k≤n∧strs k g=bls n f:=by
 obtain ⟨k,g,b1,b2,b3⟩:=l252 u s n f a1 f1 a2 f2 a3 f3 a4 f4 hn (fun x39 x40=>(some (x39,x40))) n 0 u 0 0 (fun _ _=>.any) rfl (by omega) hu (Nat.le_refl _)
 refine ⟨k,g,by unfold F252;exact b3,b1,?_⟩
 rw [b2];simp [strs,bls,List.range_eq_range']
theorem l256 (u:Nat) (k:Nat) (g:FF) (s:ByteArray) (hk:k≤1000000):∀ (d i t:Nat) (x:Int),x=(i:Int)→i+d=k→d<t →
  ∃ z,L256v1 u k g s (Int.ofNat k) t x (fun x=>some x) (some (-1))=some z∧(decide (z≥0)=(List.range' i d).any fun j=>decide (sv g j=s))
 | 0,i,t+1,x,hx,hi,ht=>by
  refine ⟨-1,?_,rfl⟩
  unfold L256v1
  rw [show decide (x<Int.ofNat k)=false from decide_eq_false (by simp only [Int.ofNat_eq_natCast];omega),cond_false]
 | d+1,i,t+1,x,hx,hi,ht=>by
  have h1:decide (x<Int.ofNat k)=true:=decide_eq_true (by simp only [Int.ofNat_eq_natCast];omega)
  have h2:inb x k=true:=inb_true (by omega) (by omega)
  have h3:Int.toNat x=i:=by omega
  have hx1:w64 (x+1)=((i+1:Nat):Int):=by rw [w64_of (by omega) (by omega)];omega
  have h4:(ByteArray.toList s==ByteArray.toList (CV.str (g i 0)))=decide (sv g i=s):=by rw [tl_eq];exact decide_eq_decide.2 eq_comm
  unfold L256v1
  rw [h1,cond_true,h2,cond_true,h3,h4,List.range'_succ,List.any_cons]
  cases q:decide (sv g i=s) with
  | true=>exact ⟨x,rfl,by rw [decide_eq_true (show x≥0 by omega)];rfl⟩
  | false =>
   obtain ⟨z,e1,e2⟩:=l256 u k g s hk d (i+1) t (w64 (x+1)) hx1 (by omega) (by omega)
   exact ⟨z,e1,by rw [e2];rfl⟩
def hasB (s:ByteArray) (l:List ByteArray):Bool:=l.any fun x=>decide (x=s)
theorem hasB_iff {s:ByteArray} {l:List ByteArray}:hasB s l=true↔s∈l:=by
 unfold hasB
 rw [List.any_eq_true]
 exact ⟨fun ⟨x,h1,h2⟩=>of_decide_eq_true h2 ▸ h1,fun h=>⟨s,h,decide_eq_true rfl⟩⟩
theorem any_mem (k:Nat) (g:FF) (s:ByteArray):((List.range' 0 k).any fun j=>decide (sv g j=s))=hasB s (strs k g):=by
 unfold hasB strs
 rw [List.any_map,List.range_eq_range'];rfl
theorem has257 (u:Nat) (k:Nat) (g:FF) (s:ByteArray) (hk:k≤1000000) (hu:k<u):F257 u k g s=some (hasB s (strs k g)):=by
 obtain ⟨z,e1,e2⟩:=l256 u k g s hk k 0 u 0 rfl (by omega) hu
 unfold F257 F256
 rw [e1,ob_some,e2,any_mem]
def cmR (f:FF) (a b:ByteArray) (r:Nat):Bool:=(decide (CV.int (f r 0)=1)&&(decide (CV.str (f r 1)=b)&&decide (CV.str (f r 2)=a)))||(decide (CV.int (f r 0)=2)&&(decide (CV.str (f r 1)=a)&&decide (CV.str (f r 2)=b)))
theorem l253 (u:Nat) (a b s:ByteArray) (a1:Nat) (f1:FF) (a2:Nat) (f2:FF) (a3:Nat) (f3:FF) (a4:Nat) (f4:FF) (m:Nat) (f:FF) (hm:m≤1000000) (k0:Int→ByteArray→ByteArray→Option ρ) (r0 k1:Option ρ) (hk0:∀ x y z,k0 x y z=r0) :
  ∀ (d i t:Nat) (x:Int),x=(i:Int)→i+d=m→d<t→L253v1 u a b s a1 f1 a2 f2 a3 f3 a4 f4 m f t x k0 k1=bif (List.range' i d).any (cmR f a b) then r0 else k1
 | 0,i,t+1,x,hx,hi,ht=>by
  unfold L253v1
  rw [show decide (x<Int.ofNat m)=false from decide_eq_false (by simp only [Int.ofNat_eq_natCast];omega),cond_false];rfl
 | d+1,i,t+1,x,hx,hi,ht=>by
  have h1:decide (x<Int.ofNat m)=true:=decide_eq_true (by simp only [Int.ofNat_eq_natCast];omega)
  have h2:inb x m=true:=inb_true (by omega) (by omega)
  have h3:Int.toNat x=i:=by omega
  have hx1:w64 (x+1)=((i+1:Nat):Int):=by rw [w64_of (by omega) (by omega)];omega
  have ih:=l253 u a b s a1 f1 a2 f2 a3 f3 a4 f4 m f hm k0 r0 k1 hk0 d (i+1) t (w64 (x+1)) hx1 (by omega) (by omega)
  unfold L253v1
  rw [h1,cond_true,h2,cond_true,h3,ih,List.range'_succ,List.any_cons]
  simp only [hk0,tl_eq,int_beq]
  have e:cmR f a b i=((decide (CV.int (f i 0)=1)&&(decide (CV.str (f i 1)=b)&&decide (CV.str (f i 2)=a)))||(decide (CV.int (f i 0)=2)&&(decide (CV.str (f i 1)=a)&&decide (CV.str (f i 2)=b)))):=rfl
  rw [e]
  cases decide (CV.int (f i 0)=1)<;>cases decide (CV.str (f i 1)=b)<;>cases decide (CV.str (f i 2)=a)<;>cases decide (CV.int (f i 0)=2)<;>cases decide (CV.str (f i 1)=a)<;>cases decide (CV.str (f i 2)=b)<;>rfl
def comes (m:Nat) (f:FF) (a b:ByteArray):Bool:=(List.range m).any (cmR f a b)
theorem comes253 (u:Nat) (s:ByteArray) (a1:Nat) (f1:FF) (a2:Nat) (f2:FF) (a3:Nat) (f3:FF) (a4:Nat) (f4:FF) (m:Nat) (f:FF) (a b:ByteArray) (hm:m≤1000000) (hu:m<u):F253 u s a1 f1 a2 f2 a3 f3 a4 f4 m f a b=some (comes m f a b):=by
 unfold F253
 rw [l253 u a b s a1 f1 a2 f2 a3 f3 a4 f4 m f hm _ (some true) _ (fun _ _ _=>rfl) m 0 u 0 rfl (by omega) hu,← List.range_eq_range']
 unfold comes
 cases (List.range m).any (cmR f a b)<;>rfl
def prec (m:Nat) (f:FF) (B:Nat→ByteArray) (i k:Nat):Bool:=decide (i≠k)&&comes m f (B i) (B k)
def edgesRow (m:Nat) (f:FF) (B:Nat→ByteArray) (i:Nat) (l:List Nat):List (Int × Int):=(l.filter (prec m f B i)).map fun (k:Nat)=>((i:Int),(k:Int))
def edgesL (m:Nat) (f:FF) (B:Nat→ByteArray) (nb:Nat) (l:List Nat):List (Int × Int):=(l.map fun i=>edgesRow m f B i (List.range nb)).flatten
theorem l254v2 (u:Nat) (nb:Nat) (bg:FF) (s:ByteArray) (a1:Nat) (f1:FF) (a2:Nat) (f2:FF) (a3:Nat) (f3:FF) (a4:Nat) (f4:FF) (m:Nat) (f:FF) (hm:m≤1000000) (hu:m<u) (hnb:nb≤1000) (i:Nat) (hi:i<nb) (k0:Nat→FF→Option ρ) :
  ∀ (d j t:Nat) (x:Int) (k:Nat) (g:FF),x=(j:Int)→j+d=nb→d<t→k≤i*nb+j →
  ∃ k' g',k'≤i*nb+nb∧prs k' g' = prs k g ++ edgesRow m f (sv bg) i (List.range' j d)∧L254v2 u nb bg (i:Int) s a1 f1 a2 f2 a3 f3 a4 f4 m f t k x g k0=k0 k' g'
 | 0,j,t+1,x,k,g,hx,hj,ht,hk=>by
  refine ⟨k,g,by omega,by simp [edgesRow],?_⟩
  unfold L254v2
  rw [show decide (x<Int.ofNat nb)=false from decide_eq_false (by simp only [Int.ofNat_eq_natCast];omega),cond_false]
 | d+1,j,t+1,x,k,g,hx,hj,ht,hk=>by
  have h1:decide (x<Int.ofNat nb)=true:=decide_eq_true (by simp only [Int.ofNat_eq_natCast];omega)
  have h2:inb x nb=true:=inb_true (by omega) (by omega)
  have h2' : inb (i:Int) nb=true:=inb_true (by omega) (by omega)
  have h3:Int.toNat x=j:=by omega
  have h3' : Int.toNat (i:Int)=i:=by omega
  have hx1:w64 (x+1)=((j+1:Nat):Int):=by rw [w64_of (by omega) (by omega)];omega
  have hmul:i*nb+nb≤1000000:=by
   have:(i+1)*nb≤1000*1000:=Nat.mul_le_mul (by omega) hnb
   rw [Nat.add_mul,Nat.one_mul] at this;omega
  have h4:Nat.ble (k+1) 1073741824=true:=by simp;omega
  have hne:(((i:Int) != x)==true)=decide (i≠j):=by
   by_cases h:i=j
   ·have:(i:Int)=x:=by omega
    simp [h,this];omega
   ·have:¬ (i:Int)=x:=by omega
    simp [h,this]
  cases q:prec m f (sv bg) i j with
  | true =>
   obtain ⟨k',g',b1,b2,b3⟩:=l254v2 u nb bg s a1 f1 a2 f2 a3 f3 a4 f4 m f hm hu hnb i hi k0 d (j+1) t (w64 (x+1)) (k+1) (joinF k g (rowsF 2 [.i .i64 (i:Int),.i .i64 x])) hx1 (by omega) (by omega) (by omega)
   refine ⟨k',g',b1,?_,?_⟩
   ·rw [b2,prs_join,List.range'_succ]
    unfold edgesRow
    rw [List.filter_cons_of_pos q,hx];simp
   ·unfold prec at q
    rw [Bool.and_eq_true] at q
    unfold L254v2
    rw [h1,cond_true,hne,q.1,cond_true,h2',cond_true,h2,cond_true,h3,h3',comes253 u s a1 f1 a2 f2 a3 f3 a4 f4 m f _ _ hm hu,ob_some,q.2,cond_true,h4,cond_true]
    exact b3
  | false =>
   obtain ⟨k',g',b1,b2,b3⟩:=l254v2 u nb bg s a1 f1 a2 f2 a3 f3 a4 f4 m f hm hu hnb i hi k0 d (j+1) t (w64 (x+1)) k g hx1 (by omega) (by omega) (by omega)
   refine ⟨k',g',b1,?_,?_⟩
   ·rw [b2,List.range'_succ]
    unfold edgesRow
    rw [List.filter_cons_of_neg (by rw [q];exact Bool.false_ne_true)]
   ·unfold prec at q
    unfold L254v2
    rw [h1,cond_true,hne]
    cases q1:decide (i≠j) with
    | false=>rw [cond_false];exact b3
    | true =>
     rw [q1,Bool.true_and] at q
     rw [cond_true,h2',cond_true,h2,cond_true,h3,h3',comes253 u s a1 f1 a2 f2 a3 f3 a4 f4 m f _ _ hm hu,ob_some,q,cond_false]
     exact b3
theorem l254v3 (u:Nat) (nb:Nat) (bg:FF) (s:ByteArray) (a1:Nat) (f1:FF) (a2:Nat) (f2:FF) (a3:Nat) (f3:FF) (a4:Nat) (f4:FF) (m:Nat) (f:FF) (hm:m≤1000000) (hu:m<u) (hnb:nb≤1000) (hub:nb<u) (k0:Nat→FF→Option ρ) :
  ∀ (d i t:Nat) (x:Int) (k:Nat) (g:FF),x=(i:Int)→i+d=nb→d<t→k≤i*nb →
  ∃ k' g',k'≤nb*nb∧prs k' g' = prs k g ++ edgesL m f (sv bg) nb (List.range' i d)∧L254v3 u nb bg s a1 f1 a2 f2 a3 f3 a4 f4 m f t k x g k0=k0 k' g'
 | 0,i,t+1,x,k,g,hx,hi,ht,hk=>by
  have:i=nb:=by omega
  subst this
  refine ⟨k,g,hk,by simp [edgesL],?_⟩
  unfold L254v3
  rw [show decide (x<Int.ofNat i)=false from decide_eq_false (by simp only [Int.ofNat_eq_natCast];omega),cond_false]
 | d+1,i,t+1,x,k,g,hx,hi,ht,hk=>by
  have h1:decide (x<Int.ofNat nb)=true:=decide_eq_true (by simp only [Int.ofNat_eq_natCast];omega)
  have hx1:w64 (x+1)=((i+1:Nat):Int):=by rw [w64_of (by omega) (by omega)];omega
  obtain ⟨k1,g1,c1,c2,c3⟩:=l254v2 u nb bg s a1 f1 a2 f2 a3 f3 a4 f4 m f hm hu hnb i (by omega) (fun x128 x129=>(L254v3 u nb bg s a1 f1 a2 f2 a3 f3 a4 f4 m f t x128 (w64 (x+1)) x129 k0)) nb 0 u 0 k g rfl (by omega) hub (by omega)
  have hk1:k1≤(i+1)*nb:=by rw [Nat.add_mul,Nat.one_mul];exact c1
  obtain ⟨k',g',b1,b2,b3⟩:=l254v3 u nb bg s a1 f1 a2 f2 a3 f3 a4 f4 m f hm hu hnb hub k0 d (i+1) t (w64 (x+1)) k1 g1 hx1 (by omega) (by omega) hk1
  refine ⟨k',g',b1,?_,?_⟩
  ·rw [b2,c2,List.range'_succ]
   unfold edgesL
   rw [List.map_cons,List.flatten_cons,List.append_assoc,List.range_eq_range']
  ·unfold L254v3
   rw [h1,cond_true,hx]
   rw [hx] at c3
   exact c3.trans (by rw [← hx];exact b3)
theorem edges254 (u:Nat) (s:ByteArray) (a1:Nat) (f1:FF) (a2:Nat) (f2:FF) (a3:Nat) (f3:FF) (a4:Nat) (f4:FF) (m:Nat) (f:FF) (hm:m≤1000000) (hu:m<u) (ha:a1≤1000) (hua:a1<u) :
  ∃ nb bg k g,F252 u s a1 f1 a2 f2 a3 f3 a4 f4 m f=some (nb,bg)∧strs nb bg=bls a1 f1∧nb≤a1∧F254 u s a1 f1 a2 f2 a3 f3 a4 f4 m f=some (k,g)∧k≤nb*nb∧prs k g=edgesL m f (sv bg) nb (List.range nb):=by
 obtain ⟨nb,bg,e1,e2,e3⟩:=blocks252 u s a1 f1 a2 f2 a3 f3 a4 f4 m f (by omega) hua
 obtain ⟨k,g,b1,b2,b3⟩:=l254v3 u nb bg s a1 f1 a2 f2 a3 f3 a4 f4 m f hm hu (by omega) (by omega) (fun x132 x133=>(some (x132,x133))) nb 0 u 0 0 (fun _ _=>.any) rfl (by omega) (by omega) (by omega)
 refine ⟨nb,bg,k,g,e1,e3,e2,?_,b1,?_⟩
 ·unfold F254
  rw [e1,ob_some]
  exact b3
 ·rw [b2,List.range_eq_range'];simp [prs]
end
end Go.Eng.R13
/-
 need.Edges: what the program computes is the precedence of the reference.
-/
set_option linter.all false
namespace Go.Eng.R13
open Go Go.RowKit Go.Eng
theorem toI_int (c:CV):toI c=CV.int c:=by cases c<;>rfl
theorem prsP_prs (k:Nat) (g:FF):prsP k g=prs k g:=by
 unfold prsP prs prP
 exact List.map_congr_left fun i _=>by rw [toI_int,toI_int]
theorem hasP_iff {k:Nat} {g:FF} {p q:Int}:hasP k g p q=true↔(p,q)∈prs k g:=by
 unfold hasP prs
 rw [List.any_eq_true,List.mem_map]
 constructor
 ·rintro ⟨i,h1,h2⟩
  rw [Bool.and_eq_true,beq_iff_eq,beq_iff_eq] at h2
  exact ⟨i,h1,by rw [← h2.1,← h2.2]⟩
 ·rintro ⟨i,h1,h2⟩
  refine ⟨i,h1,?_⟩
  rw [Prod.mk.injEq] at h2
  rw [Bool.and_eq_true,beq_iff_eq,beq_iff_eq]
  exact h2
theorem put_law (k:Nat) (g:FF) (p q:Int) (hn:(prs k g).Nodup):(prs (putN k g p q) (putR k g p q)).Nodup∧∀ x,x∈prs (putN k g p q) (putR k g p q)↔x∈prs k g∨x=(p,q):=by
 unfold putN putR
 cases h:hasP k g p q with
 | true =>
  rw [cond_true,cond_true]
  refine ⟨hn,fun x=>⟨.inl,fun hx=>hx.elim id fun e=>?_⟩⟩
  rw [e];exact hasP_iff.1 h
 | false =>
  rw [cond_false,cond_false]
  have hnot:(p,q)∉prs k g:=fun hh=>by rw [hasP_iff.2 hh] at h;cases h
  have e:prs (k+1) (fun i j=>bif Nat.blt i k then g i j else (bif Nat.beq j 0 then .i .i64 p else .i .i64 q))=prs k g ++ [(p,q)]:=by
   unfold prs
   rw [List.range_succ,List.map_append]
   congr 1
   ·exact List.map_congr_left fun i hi=>by
     have:Nat.blt i k=true:=by rw [Nat.blt_eq];exact List.mem_range.1 hi
     simp [ea,eb,this]
   ·have:Nat.blt k k=false:=by
     cases h:Nat.blt k k with
     | false=>rfl
     | true=>rw [Nat.blt_eq] at h;omega
    simp [ea,eb,this,CV.int]
    rfl
  rw [e]
  refine ⟨List.nodup_append.2 ⟨hn,by simp,fun a ha b hb=>?_⟩,fun x=>by simp⟩
  simp only [List.mem_singleton] at hb
  subst hb
  intro h2;subst h2;exact hnot ha
section
variable {ρ : Type}
theorem l12:@L276v12 = @L276v9:=by kernel_rfl
abbrev wv (F:FF) (j:Nat):Int:=CV.int (F j 0)
theorem l276v8 (u nb:Nat) (bg:FF) (s2:ByteArray) (i:Int) (m:Nat) (f:FF) (y1 y2:Int) (N1:Nat) (F1:FF) (y3 y4:Int) (N2:Nat) (F2:FF) (s:ByteArray) (a1:Nat) (f1:FF) (a2:Nat) (f2:FF) (a3:Nat) (f3:FF) (a4:Nat) (f4:FF) (y5:Int) (s3:ByteArray) (hN:N2≤1000000) (k0:Nat→FF→Option ρ) :
  ∀ (d j t:Nat) (x:Int) (k:Nat) (g:FF),x=(j:Int)→j+d=N2→d<t→(prs k g).Nodup →
  ∃ k' g',(prs k' g').Nodup∧(∀ p,p∈prs k' g'↔p∈prs k g∨∃ w,j≤w∧w<N2∧i≠wv F2 w∧p=(i,wv F2 w))∧L276v8 u nb bg s2 i m f y1 y2 N1 F1 y3 y4 N2 F2 (Int.ofNat N2) s a1 f1 a2 f2 a3 f3 a4 f4 y5 s3 t x k g k0=k0 k' g'
 | 0,j,t+1,x,k,g,hx,hj,ht,hn=>by
  refine ⟨k,g,hn,fun p=>⟨.inl,fun h=>h.elim id fun ⟨w,h1,h2,_⟩=>by omega⟩,?_⟩
  unfold L276v8
  rw [show decide (x<Int.ofNat N2)=false from decide_eq_false (by simp only [Int.ofNat_eq_natCast];omega),cond_false]
 | d+1,j,t+1,x,k,g,hx,hj,ht,hn=>by
  have h1:decide (x<Int.ofNat N2)=true:=decide_eq_true (by simp only [Int.ofNat_eq_natCast];omega)
  have h2:inb x N2=true:=inb_true (by omega) (by omega)
  have h3:Int.toNat x=j:=by omega
  have hx1:w64 (x+1)=((j+1:Nat):Int):=by rw [w64_of (by omega) (by omega)];omega
  by_cases q:i=wv F2 j
  ·obtain ⟨k',g',b1,b2,b3⟩:=l276v8 u nb bg s2 i m f y1 y2 N1 F1 y3 y4 N2 F2 s a1 f1 a2 f2 a3 f3 a4 f4 y5 s3 hN k0 d (j+1) t (w64 (x+1)) k g hx1 (by omega) (by omega) hn
   refine ⟨k',g',b1,fun p=>?_,?_⟩
   ·rw [b2]
    constructor
    ·rintro (h | ⟨w,c1,c2,c3,c4⟩)
     ·exact .inl h
     ·exact .inr ⟨w,by omega,c2,c3,c4⟩
    ·rintro (h | ⟨w,c1,c2,c3,c4⟩)
     ·exact .inl h
     ·by_cases hw:w=j
      ·subst hw;exact absurd q c3
      ·exact .inr ⟨w,by omega,c2,c3,c4⟩
   ·unfold L276v8
    have h4:(i != CV.int (F2 j 0))=false:=by
     have:i=CV.int (F2 j 0):=q
     rw [← this];simp
    rw [h1,cond_true,h2,cond_true,h3,h4,cond_false]
    exact b3
  ·obtain ⟨p1,p2⟩:=put_law k g i (wv F2 j) hn
   obtain ⟨k',g',b1,b2,b3⟩:=l276v8 u nb bg s2 i m f y1 y2 N1 F1 y3 y4 N2 F2 s a1 f1 a2 f2 a3 f3 a4 f4 y5 s3 hN k0 d (j+1) t (w64 (x+1)) (putN k g i (wv F2 j)) (putR k g i (wv F2 j)) hx1 (by omega) (by omega) p1
   refine ⟨k',g',b1,fun p=>?_,?_⟩
   ·rw [b2,p2]
    constructor
    ·rintro ((h | h) | ⟨w,c1,c2,c3,c4⟩)
     ·exact .inl h
     ·exact .inr ⟨j,by omega,by omega,q,h⟩
     ·exact .inr ⟨w,by omega,c2,c3,c4⟩
    ·rintro (h | ⟨w,c1,c2,c3,c4⟩)
     ·exact .inl (.inl h)
     ·by_cases hw:w=j
      ·subst hw;exact .inl (.inr c4)
      ·exact .inr ⟨w,by omega,c2,c3,c4⟩
   ·unfold L276v8
    have h4:(i != CV.int (F2 j 0))=true:=by
     have:i≠CV.int (F2 j 0):=q
     simpa using this
    rw [h1,cond_true,h2,cond_true,h3,h4,cond_true]
    exact b3
theorem idxN_le' (n:Nat) (g:FF) (s:ByteArray):idxN n g s≤n:=by
 unfold idxN idxL
 exact Nat.le_trans (List.length_filter_le _ _) (by simp)
theorem place_iff {n:Nat} {g:FF} {s:ByteArray} {a:Int}:(∃ w,w<idxN n g s∧a=wv (idxF n g s) w)↔∃ i:Nat,i<n∧sv g i=s∧a=(i:Int):=by
 have hm:∀ i,i∈idxL n g s↔i<n∧sv g i=s:=fun i=>by
  unfold idxL
  rw [List.mem_filter,List.mem_range,tl_eq,decide_eq_true_iff]
 constructor
 ·rintro ⟨w,h1,h2⟩
  have hw:w<(idxL n g s).length:=h1
  have e:wv (idxF n g s) w=(((idxL n g s)[w]:Nat):Int):=by
   show CV.int (.i .i64 (Int.ofNat ((idxL n g s).getD w 0)))=_
   rw [List.getD_eq_getElem?_getD,List.getElem?_eq_getElem hw];rfl
  have:=(hm _).1 (List.getElem_mem hw)
  exact ⟨_,this.1,this.2,h2.trans e⟩
 ·rintro ⟨i,h1,h2,h3⟩
  obtain ⟨w,hw,e⟩:=List.getElem_of_mem ((hm i).2 ⟨h1,h2⟩)
  refine ⟨w,hw,?_⟩
  show a=CV.int (.i .i64 (Int.ofNat ((idxL n g s).getD w 0)))
  rw [List.getD_eq_getElem?_getD,List.getElem?_eq_getElem hw,e,h3];rfl
theorem l276v9 (u nb:Nat) (bg:FF) (s2:ByteArray) (m:Nat) (f:FF) (y1 y2:Int) (N1:Nat) (F1:FF) (s:ByteArray) (a1:Nat) (f1:FF) (a2:Nat) (f2:FF) (a3:Nat) (f3:FF) (a4:Nat) (f4:FF) (y5:Int) (s3:ByteArray) (hN:N1≤1000000) (hnb:nb≤1000000) (hu:nb<u) (k0:Nat→FF→Option ρ) :
  ∀ (d j t:Nat) (x:Int) (k:Nat) (g:FF),x=(j:Int)→j+d=N1→d<t→(prs k g).Nodup →
  ∃ k' g',(prs k' g').Nodup∧(∀ p,p∈prs k' g'↔p∈prs k g∨∃ v,j≤v∧v<N1∧∃ w,w<idxN nb bg s2∧wv F1 v≠wv (idxF nb bg s2) w∧p=(wv F1 v,wv (idxF nb bg s2) w))∧L276v9 u nb bg s2 m f y1 y2 N1 F1 (Int.ofNat N1) s a1 f1 a2 f2 a3 f3 a4 f4 y5 s3 t x k g k0=k0 k' g'
 | 0,j,t+1,x,k,g,hx,hj,ht,hn=>by
  refine ⟨k,g,hn,fun p=>⟨.inl,fun h=>h.elim id fun ⟨w,h1,h2,_⟩=>by omega⟩,?_⟩
  unfold L276v9
  rw [show decide (x<Int.ofNat N1)=false from decide_eq_false (by simp only [Int.ofNat_eq_natCast];omega),cond_false]
 | d+1,j,t+1,x,k,g,hx,hj,ht,hn=>by
  have h1:decide (x<Int.ofNat N1)=true:=decide_eq_true (by simp only [Int.ofNat_eq_natCast];omega)
  have h2:inb x N1=true:=inb_true (by omega) (by omega)
  have h3:Int.toNat x=j:=by omega
  have hx1:w64 (x+1)=((j+1:Nat):Int):=by rw [w64_of (by omega) (by omega)];omega
  have hle:=idxN_le' nb bg s2
  obtain ⟨k1,g1,c1,c2,c3⟩:=l276v8 u nb bg s2 (wv F1 j) m f y1 y2 N1 F1 (Int.ofNat N1) x (idxN nb bg s2) (idxF nb bg s2) s a1 f1 a2 f2 a3 f3 a4 f4 y5 s3 (by omega) (fun x532 x533=>(L276v9 u nb bg s2 m f y1 y2 N1 F1 (Int.ofNat N1) s a1 f1 a2 f2 a3 f3 a4 f4 y5 s3 t (w64 (x+1)) x532 x533 k0)) (idxN nb bg s2) 0 u 0 k g rfl (by omega) (by omega) hn
  obtain ⟨k',g',b1,b2,b3⟩:=l276v9 u nb bg s2 m f y1 y2 N1 F1 s a1 f1 a2 f2 a3 f3 a4 f4 y5 s3 hN hnb hu k0 d (j+1) t (w64 (x+1)) k1 g1 hx1 (by omega) (by omega) c1
  refine ⟨k',g',b1,fun p=>?_,?_⟩
  ·rw [b2,c2]
   constructor
   ·rintro ((h | ⟨w,w1,w2,w3,w4⟩) | ⟨v,v1,v2,w,hw⟩)
    ·exact .inl h
    ·exact .inr ⟨j,by omega,by omega,w,w2,w3,w4⟩
    ·exact .inr ⟨v,by omega,v2,w,hw⟩
   ·rintro (h | ⟨v,v1,v2,w,w2,w3,w4⟩)
    ·exact .inl (.inl h)
    ·by_cases hv:v=j
     ·subst hv;exact .inl (.inr ⟨w,by omega,w2,w3,w4⟩)
     ·exact .inr ⟨v,by omega,v2,w,w2,w3,w4⟩
  ·unfold L276v9
   rw [h1,cond_true,h2,cond_true,h3]
   exact c3.trans b3
def demand (f:FF) (nb:Nat) (bg:FF) (r:Nat) (p:Int × Int):Prop:=∃ a b:Nat,a<nb∧b<nb∧a≠b∧p=((a:Int),(b:Int))∧cmR f (sv bg a) (sv bg b) r=true
theorem l276v13 (u nb:Nat) (bg:FF) (m:Nat) (f:FF) (s:ByteArray) (a1:Nat) (f1:FF) (a2:Nat) (f2:FF) (a3:Nat) (f3:FF) (a4:Nat) (f4:FF) (hm:m≤1000000) (hnb:nb≤1000000) (hu:nb<u) (k0:Nat→FF→Option ρ) :
  ∀ (d j t:Nat) (x:Int) (k:Nat) (g:FF),x=(j:Int)→j+d=m→d<t→(prs k g).Nodup →
  ∃ k' g',(prs k' g').Nodup∧(∀ p,p∈prs k' g'↔p∈prs k g∨∃ r,j≤r∧r<m∧demand f nb bg r p)∧L276v13 u nb bg m f (Int.ofNat m) s a1 f1 a2 f2 a3 f3 a4 f4 t x k g k0=k0 k' g'
 | 0,j,t+1,x,k,g,hx,hj,ht,hn=>by
  refine ⟨k,g,hn,fun p=>⟨.inl,fun h=>h.elim id fun ⟨w,h1,h2,_⟩=>by omega⟩,?_⟩
  unfold L276v13
  rw [show decide (x<Int.ofNat m)=false from decide_eq_false (by simp only [Int.ofNat_eq_natCast];omega),cond_false]
 | d+1,j,t+1,x,k,g,hx,hj,ht,hn=>by
  have h1:decide (x<Int.ofNat m)=true:=decide_eq_true (by simp only [Int.ofNat_eq_natCast];omega)
  have h2:inb x m=true:=inb_true (by omega) (by omega)
  have h3:Int.toNat x=j:=by omega
  have hx1:w64 (x+1)=((j+1:Nat):Int):=by rw [w64_of (by omega) (by omega)];omega
  have fin:∀ (k1:Nat) (g1:FF),(prs k1 g1).Nodup→(∀ p,p∈prs k1 g1↔p∈prs k g∨demand f nb bg j p)→∃ k' g',(prs k' g').Nodup∧(∀ p,p∈prs k' g'↔p∈prs k g∨∃ r,j≤r∧r<m∧demand f nb bg r p) ∧
    L276v13 u nb bg m f (Int.ofNat m) s a1 f1 a2 f2 a3 f3 a4 f4 t (w64 (x+1)) k1 g1 k0=k0 k' g':=fun k1 g1 c1 c2=>by
   obtain ⟨k',g',b1,b2,b3⟩:=l276v13 u nb bg m f s a1 f1 a2 f2 a3 f3 a4 f4 hm hnb hu k0 d (j+1) t (w64 (x+1)) k1 g1 hx1 (by omega) (by omega) c1
   refine ⟨k',g',b1,fun p=>?_,b3⟩
   rw [b2,c2]
   constructor
   ·rintro ((h | h) | ⟨r,r1,r2,r3⟩)
    ·exact .inl h
    ·exact .inr ⟨j,by omega,by omega,h⟩
    ·exact .inr ⟨r,by omega,r2,r3⟩
   ·rintro (h | ⟨r,r1,r2,r3⟩)
    ·exact .inl (.inl h)
    ·by_cases hr:r=j
     ·subst hr;exact .inl (.inr r3)
     ·exact .inr ⟨r,by omega,r2,r3⟩
  have all:∀ (s1 s2:ByteArray) (p:Int × Int),(∃ v,0≤v∧v<idxN nb bg s1∧∃ w,w<idxN nb bg s2∧wv (idxF nb bg s1) v≠wv (idxF nb bg s2) w∧p=(wv (idxF nb bg s1) v,wv (idxF nb bg s2) w)) ↔
    ∃ a b:Nat,a<nb∧b<nb∧a≠b∧p=((a:Int),(b:Int))∧sv bg a=s1∧sv bg b=s2:=fun s1 s2 p=>by
   constructor
   ·rintro ⟨v,_,hv,w,hw,hne,hp⟩
    obtain ⟨a,a1,a2,a3⟩:=place_iff.1 ⟨v,hv,rfl⟩
    obtain ⟨b,b1,b2,b3⟩:=place_iff.1 ⟨w,hw,rfl⟩
    exact ⟨a,b,a1,b1,fun h=>hne (by rw [a3,b3,h]),by rw [hp,a3,b3],a2,b2⟩
   ·rintro ⟨a,b,ha,hb,hne,hp,h1,h2⟩
    obtain ⟨v,hv,ev⟩:=place_iff.2 ⟨a,ha,h1,rfl⟩
    obtain ⟨w,hw,ew⟩:=place_iff.2 ⟨b,hb,h2,rfl⟩
    exact ⟨v,Nat.zero_le _,hv,w,hw,by rw [← ev,← ew];omega,by rw [← ev,← ew];exact hp⟩
  unfold L276v13
  rw [h1,cond_true,h2,cond_true,h3,int_beq,int_beq]
  by_cases q1:CV.int (f j 0)=1
  ·have hle:=idxN_le' nb bg (CV.str (f j 2))
   obtain ⟨k1,g1,c1,c2,c3⟩:=l276v9 u nb bg (CV.str (f j 1)) m f (Int.ofNat m) x (idxN nb bg (CV.str (f j 2))) (idxF nb bg (CV.str (f j 2))) s a1 f1 a2 f2 a3 f3 a4 f4 (CV.int (f j 0)) (CV.str (f j 2)) (by omega) hnb hu (fun x536 x537=>(L276v13 u nb bg m f (Int.ofNat m) s a1 f1 a2 f2 a3 f3 a4 f4 t (w64 (x+1)) x536 x537 k0)) (idxN nb bg (CV.str (f j 2))) 0 u 0 k g rfl (by omega) (by omega) hn
   rw [decide_eq_true q1,cond_true]
   obtain ⟨k',g',b1,b2,b3⟩:=fin k1 g1 c1 fun p=>by
    rw [c2,all]
    refine or_congr Iff.rfl ⟨fun ⟨a,b,h1,h2,h3,h4,h5,h6⟩=>⟨a,b,h1,h2,h3,h4,?_⟩,fun ⟨a,b,h1,h2,h3,h4,h5⟩=>⟨a,b,h1,h2,h3,h4,?_⟩⟩
    ·unfold cmR;simp [q1,h5,h6]
    ·unfold cmR at h5;simp [q1] at h5;exact ⟨h5.2.symm,h5.1.symm⟩
   exact ⟨k',g',b1,b2,c3.trans b3⟩
  ·rw [decide_eq_false q1,cond_false]
   by_cases q2:CV.int (f j 0)=2
   ·have hle:=idxN_le' nb bg (CV.str (f j 1))
    obtain ⟨k1,g1,c1,c2,c3⟩:=l276v9 u nb bg (CV.str (f j 2)) m f (Int.ofNat m) x (idxN nb bg (CV.str (f j 1))) (idxF nb bg (CV.str (f j 1))) s a1 f1 a2 f2 a3 f3 a4 f4 (CV.int (f j 0)) (CV.str (f j 1)) (by omega) hnb hu (fun x707 x708=>(L276v13 u nb bg m f (Int.ofNat m) s a1 f1 a2 f2 a3 f3 a4 f4 t (w64 (x+1)) x707 x708 k0)) (idxN nb bg (CV.str (f j 1))) 0 u 0 k g rfl (by omega) (by omega) hn
    rw [decide_eq_true q2,cond_true,l12]
    obtain ⟨k',g',b1,b2,b3⟩:=fin k1 g1 c1 fun p=>by
     rw [c2,all]
     refine or_congr Iff.rfl ⟨fun ⟨a,b,h1,h2,h3,h4,h5,h6⟩=>⟨a,b,h1,h2,h3,h4,?_⟩,fun ⟨a,b,h1,h2,h3,h4,h5⟩=>⟨a,b,h1,h2,h3,h4,?_⟩⟩
     ·unfold cmR;simp [q2,h5,h6]
     ·unfold cmR at h5;simp [q2] at h5;exact ⟨h5.1.symm,h5.2.symm⟩
    exact ⟨k',g',b1,b2,c3.trans b3⟩
   ·rw [decide_eq_false q2,cond_false]
    refine fin k g hn fun p=>⟨.inl,fun h=>h.elim id fun ⟨a,b,_,_,_,_,h5⟩=>?_⟩
    unfold cmR at h5;simp [q1,q2] at h5
theorem edges_sorted (m:Nat) (f:FF) (B:Nat→ByteArray) (nb:Nat):(edgesL m f B nb (List.range nb)).Pairwise fun x y=>ltP x y=true:=by
 unfold edgesL
 rw [List.pairwise_flatten]
 refine ⟨fun l hl=>?_,?_⟩
 ·obtain ⟨i,_,rfl⟩:=List.mem_map.1 hl
  unfold edgesRow
  rw [List.pairwise_map]
  refine List.Pairwise.imp ?_ (List.Pairwise.filter _ (List.pairwise_lt_range (n:=nb)))
  intro a b h
  rw [ltP_iff]
  right
  exact ⟨rfl,by show (a:Int)<b;omega⟩
 ·rw [List.pairwise_map]
  refine List.Pairwise.imp ?_ (List.pairwise_lt_range (n:=nb))
  intro a b h x hx y hy
  unfold edgesRow at hx hy
  obtain ⟨c,_,rfl⟩:=List.mem_map.1 hx
  obtain ⟨d,_,rfl⟩:=List.mem_map.1 hy
  rw [ltP_iff]
  left
  show (a:Int)<b
  omega
theorem mem_edges {m:Nat} {f:FF} {B:Nat→ByteArray} {nb:Nat} {p:Int × Int}:p∈edgesL m f B nb (List.range nb)↔∃ a b:Nat,a<nb∧b<nb∧a≠b∧p=((a:Int),(b:Int))∧comes m f (B a) (B b)=true:=by
 unfold edgesL
 rw [List.mem_flatten]
 constructor
 ·rintro ⟨l,hl,hp⟩
  obtain ⟨a,ha,rfl⟩:=List.mem_map.1 hl
  unfold edgesRow at hp
  obtain ⟨b,hb,rfl⟩:=List.mem_map.1 hp
  rw [List.mem_filter] at hb
  unfold prec at hb
  rw [Bool.and_eq_true,decide_eq_true_iff] at hb
  exact ⟨a,b,List.mem_range.1 ha,List.mem_range.1 hb.1,hb.2.1,rfl,hb.2.2⟩
 ·rintro ⟨a,b,ha,hb,hne,rfl,hc⟩
  refine ⟨_,List.mem_map.2 ⟨a,List.mem_range.2 ha,rfl⟩,?_⟩
  unfold edgesRow
  refine List.mem_map.2 ⟨b,List.mem_filter.2 ⟨List.mem_range.2 hb,?_⟩,rfl⟩
  unfold prec
  rw [Bool.and_eq_true,decide_eq_true_iff]
  exact ⟨hne,hc⟩
theorem edges_nodup (m:Nat) (f:FF) (B:Nat→ByteArray) (nb:Nat):(edgesL m f B nb (List.range nb)).Nodup :=
 (edges_sorted m f B nb).imp fun h e=>by subst e;rw [ltP_iff] at h;omega
theorem edges_le (m:Nat) (f:FF) (B:Nat→ByteArray) (nb:Nat):(edgesL m f B nb (List.range nb)).Pairwise fun x y=>leP x y=true :=
 (edges_sorted m f B nb).imp fun h=>by rw [leP_iff];rw [ltP_iff] at h;omega
theorem prs_pairsF (l:List (Int × Int)):prs l.length (pairsF l)=l:=by
 apply List.ext_getElem?
 intro i
 by_cases hi:i<l.length
 ·rw [prs_at hi,List.getElem?_eq_getElem hi]
  unfold ea eb pairsF
  rw [List.getElem?_eq_getElem hi]
  rfl
 ·rw [List.getElem?_eq_none (by rw [prs_len];omega),List.getElem?_eq_none (by omega)]
theorem edges276 (u:Nat) (s:ByteArray) (a1:Nat) (f1:FF) (a2:Nat) (f2:FF) (a3:Nat) (f3:FF) (a4:Nat) (f4:FF) (m:Nat) (f:FF) (hm:m≤1000) (hu:m<u) (ha:a1≤1000) (hua:a1<u) {nb:Nat} {bg:FF} (hb:F252 u s a1 f1 a2 f2 a3 f3 a4 f4 m f=some (nb,bg)) (hnb:nb≤a1) :
  ∃ k g,F276 u s a1 f1 a2 f2 a3 f3 a4 f4 m f=some (k,g)∧k≤nb*nb∧prs k g=edgesL m f (sv bg) nb (List.range nb):=by
 obtain ⟨k,g,b1,b2,b3⟩:=l276v13 u nb bg m f s a1 f1 a2 f2 a3 f3 a4 f4 (by omega) (by omega) (by omega) (fun x711 x712=>(some (x711,x712))) m 0 u 0 0 (fun _ _=>.any) rfl (by omega) hu (by simp [prs])
 have hmem:∀ p,p∈prs k g↔p∈edgesL m f (sv bg) nb (List.range nb):=fun p=>by
  rw [b2,mem_edges]
  constructor
  ·rintro (h | ⟨r,_,hr,a,b,h1,h2,h3,h4,h5⟩)
   ·simp [prs] at h
   ·refine ⟨a,b,h1,h2,h3,h4,?_⟩
    unfold comes
    rw [List.any_eq_true]
    exact ⟨r,List.mem_range.2 hr,h5⟩
  ·rintro ⟨a,b,h1,h2,h3,h4,h5⟩
   unfold comes at h5
   rw [List.any_eq_true] at h5
   obtain ⟨r,hr,h6⟩:=h5
   exact .inr ⟨r,Nat.zero_le _,List.mem_range.1 hr,a,b,h1,h2,h3,h4,h6⟩
 have hperm:(prs k g).Perm (edgesL m f (sv bg) nb (List.range nb)):=(List.perm_ext_iff_of_nodup b1 (edges_nodup m f (sv bg) nb)).2 hmem
 have hsort:sortP (prsP k g)=edgesL m f (sv bg) nb (List.range nb) :=
  List.Perm.eq_of_pairwise (le:=fun x y=>leP x y=true) (fun a b _ _=>leP_antisymm) (sortP_sorted _) (edges_le m f (sv bg) nb) ((sortP_perm _).trans (by rw [prsP_prs];exact hperm))
 have hk:k≤nb*nb:=by
  have h1:k=(edgesL m f (sv bg) nb (List.range nb)).length:=by rw [← hperm.length_eq,prs_len]
  rw [h1]
  unfold edgesL
  rw [List.length_flatten,List.map_map]
  have:∀ l:List Nat,(l.map (List.length ∘ fun i=>edgesRow m f (sv bg) i (List.range nb))).sum≤l.length*nb:=fun l=>by
   induction l with
   | nil=>simp
   | cons a l ih =>
    rw [List.map_cons,List.sum_cons,List.length_cons,Nat.add_mul,Nat.one_mul]
    have:(edgesRow m f (sv bg) a (List.range nb)).length≤nb:=by
     unfold edgesRow
     rw [List.length_map]
     exact Nat.le_trans (List.length_filter_le _ _) (by simp)
    show (edgesRow m f (sv bg) a (List.range nb)).length+_≤_
    omega
  have h2:=this (List.range nb)
  rwa [List.length_range] at h2
 have hk2:nb*nb≤1000*1000:=Nat.mul_le_mul (by omega) (by omega)
 have hs:sortable k g=true:=by
  unfold sortable
  rw [Bool.and_eq_true]
  refine ⟨by simp;omega,?_⟩
  rw [List.all_eq_true]
  intro p hp
  rw [prsP_prs,hmem,mem_edges] at hp
  obtain ⟨a,b,h1,h2,_,rfl,_⟩:=hp
  have h4:(a:Int)<1000:=by omega
  have h5:(b:Int)<1000:=by omega
  unfold inB sortLim
  simp only [Bool.and_eq_true,decide_eq_true_iff]
  refine ⟨⟨⟨?_,?_⟩,?_⟩,?_⟩<;>omega
 have hlen:(sortP (prsP k g)).length=k:=by rw [(sortP_perm _).length_eq,prsP_prs,prs_len]
 refine ⟨k,sortF k g,?_,hk,?_⟩
 ·unfold F276 FT276 F275
  rw [blocks251,hb,ob_some]
  have h1:Nat.ble nb 1073741824=true:=by simp;omega
  dsimp only
  rw [h1,cond_true,ob_some]
  dsimp only
  rw [b3]
  unfold sortX
  rw [ob_some]
  have h2:Nat.ble k 1073741824=true:=by simp;omega
  dsimp only
  rw [h2,cond_true]
  unfold sortT
  rw [hs,cond_true,ob_some]
 ·have:=prs_pairsF (sortP (prsP k g))
  rw [hlen] at this
  unfold sortF
  rw [this,hsort]
end
end Go.Eng.R13
