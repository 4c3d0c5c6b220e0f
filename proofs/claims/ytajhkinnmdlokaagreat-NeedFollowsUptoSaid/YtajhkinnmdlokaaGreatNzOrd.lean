/-
 Several texts in one.
-/
import Derived.Test.YtajhkinnmdlokaaGreatDyBase
import Derived.Test.YtajhkinnmdlokaaGreatNdBase
import Derived.Test.YtajhkinnmdlokaaGreatTzA
/-
 What the program's Order,Open and Ready compute (for the seat without the reference's).
-/
set_option linter.all false
namespace Go.Eng.R13
open Go Go.RowKit Go.Eng
section
variable {ρ : Type}
theorem l277z (u nb:Nat) (bg:FF) (k:Nat) (g:FF) (p:Nat→Nat) (hk:k≤1000) (hg:∀ i,i<k→iv g i=(p i:Int)) (hp:∀ i,i<k→p i<nb)
  (s:ByteArray) (a1:Nat) (f1:FF) (a2:Nat) (f2:FF) (a3:Nat) (f3:FF) (a4:Nat) (f4:FF) (a5:Nat) (f5:FF) (k0:Nat→FF→Option ρ) :
  ∀ (d i t:Nat) (x:Int) (kk:Nat) (acc:FF),x=(i:Int)→i+d=k→d<t→kk≤i →
  ∃ k' g',k' = kk+d∧strs k' g' = strs kk acc ++ (List.range' i d).map (fun i=>sv bg (p i)) ∧
   L277v1 u nb bg k g (Int.ofNat k) s a1 f1 a2 f2 a3 f3 a4 f4 a5 f5 t kk x acc k0=k0 k' g'
 | 0,i,t+1,x,kk,acc,hx,hi,ht,hkk=>by
  have h1:decide (x<Int.ofNat k)=false:=decide_eq_false (by simp only [Int.ofNat_eq_natCast];omega)
  refine ⟨kk,acc,rfl,by simp,?_⟩
  unfold L277v1;rw [h1,cond_false]
 | d+1,i,t+1,x,kk,acc,hx,hi,ht,hkk=>by
  have h1:decide (x<Int.ofNat k)=true:=decide_eq_true (by simp only [Int.ofNat_eq_natCast];omega)
  have h2:inb x k=true:=inb_true (by omega) (by omega)
  have h3:Int.toNat x=i:=by omega
  have hx1:w64 (x+1)=((i+1:Nat):Int):=by rw [w64_of (by omega) (by omega)];omega
  have h4:Nat.ble (kk+1) 1073741824=true:=by simp;omega
  have e1:CV.int (g i 0)=(p i:Int):=hg i (by omega)
  have h5:inb (p i:Int) nb=true:=inb_true (by omega) (by have:=hp i (by omega);omega)
  have h6:Int.toNat (p i:Int)=p i:=by omega
  obtain ⟨k',g',b1,b2,b3⟩:=l277z u nb bg k g p hk hg hp s a1 f1 a2 f2 a3 f3 a4 f4 a5 f5 k0 d (i+1) t (w64 (x+1)) (kk+1) (joinF kk acc (rowsF 1 [.s (CV.str (bg (p i) 0))])) hx1 (by omega) (by omega) (by omega)
  refine ⟨k',g',by omega,?_,?_⟩
  ·rw [b2,strs_join,List.range'_succ,List.map_cons,List.append_assoc];rfl
  ·unfold L277v1
   rw [h1,cond_true,h2,cond_true,h3,e1,h5,cond_true,h4,cond_true,h6]
   exact b3
theorem edges_good {m:Nat} {f:FF} {B:Nat→ByteArray} {nb ke:Nat} {ge:FF} (h:prs ke ge=edgesL m f B nb (List.range nb)):Good (nb:Int) ke ge:=fun i hi=>by
 have hm:(ea ge i,eb ge i)∈prs ke ge:=List.mem_map.2 ⟨i,List.mem_range.2 hi,rfl⟩
 rw [h,mem_edges] at hm
 obtain ⟨a,b,h1,h2,h3,h4,_⟩:=hm
 have e1:=congrArg Prod.fst h4
 have e2:=congrArg Prod.snd h4
 dsimp only at e1 e2
 omega
theorem order277 (u:Nat) (s:ByteArray) (a1:Nat) (f1:FF) (a2:Nat) (f2:FF) (a3:Nat) (f3:FF) (a4:Nat) (f4:FF) (m:Nat) (f:FF) (hm:m≤60) (ha:a1≤60) (hu:4000≤u) :
  ∃ nb bg k g c,F252 u s a1 f1 a2 f2 a3 f3 a4 f4 m f=some (nb,bg)∧nb≤a1∧strs nb bg=bls a1 f1∧F277 u s a1 f1 a2 f2 a3 f3 a4 f4 m f=some (k,g,c) ∧
   ((c=20∧k=0)∨NOrd m f nb bg k g c∧c=0):=by
 obtain ⟨nb,bg,e1,e2,e3⟩:=blocks252 u s a1 f1 a2 f2 a3 f3 a4 f4 m f (by omega) (by omega)
 obtain ⟨k1,g1,d1,d2,d3⟩:=edges276 u s a1 f1 a2 f2 a3 f3 a4 f4 m f (by omega) (by omega) (by omega) (by omega) e1 e2
 have hke:k1≤3600:=by
  have:nb*nb≤60*60:=Nat.mul_le_mul (by omega) (by omega)
  omega
 have hgood:=edges_good d3
 obtain ⟨ko,go,c,o1,o2⟩:=order225 u (Int.ofNat nb) k1 g1 (by omega) (by omega) (by omega)
 cases hc:(c != 0) with
 | true =>
  have hc0:c≠0:=by simpa using hc
  refine ⟨nb,bg,0,(fun _ _=>.any),c,e1,e2,e3,?_,.inl ⟨?_,rfl⟩⟩
  ·unfold F277 FT277
   rw [blocks251,e1,ob_some]
   dsimp only
   rw [d1,ob_some]
   dsimp only
   rw [o1,ob_some]
   dsimp only
   rw [hc,cond_true,ob_some]
   rfl
  ·cases o2 with
   | range _ h=>simp only [Int.ofNat_eq_natCast] at h;omega
   | bad _ _ h=>exact (h (good_iff.2 hgood)).elim
   | cycle=>rfl
   | order=>exact (hc0 rfl).elim
 | false =>
  have hc0:c=0:=by simpa using hc
  subst hc0
  obtain ⟨l,_,r1,r2,r3,r4⟩:=OrdR.ok o2 rfl
  have r3:ko=nb:=r3
  subst r3
  have r2:run ko k1 g1 ko []=some l:=r2
  have hlen:l.length=ko:=by have:=run_len ko [] l r2;simpa using this
  have hlt:∀ i,i<ko→l.getD i 0<ko:=fun i hi=>by
   rw [List.getD_eq_getElem?_getD,List.getElem?_eq_getElem (by omega)]
   exact run_lt ko [] l r2 (by simp) _ (List.getElem_mem _)
  obtain ⟨k',g',b1,b2,b3⟩:=l277z (ρ:=Bool × Nat × FF × Int) u ko bg ko go (fun i=>l.getD i 0) (by omega) (fun i hi=>r4 i hi) hlt s a1 f1 a2 f2 a3 f3 a4 f4 m f (fun x52 x53=>(some (false,x52,x53,0))) ko 0 u 0 0 (fun _ _=>.any) rfl (by omega) (by omega) (Nat.le_refl _)
  have hk' : k' = ko:=by omega
  refine ⟨ko,bg,k',g',0,e1,e2,e3,?_,.inr ⟨.good k1 g1 go l d3 r1 r2 rfl hk' ?_,rfl⟩⟩
  ·unfold F277 FT277
   rw [blocks251,e1,ob_some]
   dsimp only
   rw [d1,ob_some]
   dsimp only
   rw [o1,ob_some]
   dsimp only
   rw [hc,cond_false]
   rw [show L277v1 (ρ:=Bool × Nat × FF × Int) u ko bg ko go (Int.ofNat ko) s a1 f1 a2 f2 a3 f3 a4 f4 m f u 0 0 (fun _ _=>.any) (fun x52 x53=>(some (false,x52,x53,0)))=_ from b3,ob_some]
   rfl
  ·rw [b2,← List.range_eq_range']
   show [] ++ _=_
   rw [List.nil_append]
   apply List.ext_getElem?
   intro i
   rw [List.getElem?_map,List.getElem?_map]
   by_cases hi:i<ko
   ·rw [List.getElem?_range hi,List.getElem?_eq_getElem (by omega)]
    simp only [Option.map_some]
    rw [List.getD_eq_getElem?_getD,List.getElem?_eq_getElem (by omega)];rfl
   ·rw [List.getElem?_eq_none (by simp;omega),List.getElem?_eq_none (by omega)];rfl
theorem l259z (u r:Nat) (rf:FF) (d0:Nat) (df:FF) (block:ByteArray) (m:Nat) (f:FF) (s:ByteArray) (a1:Nat) (f1:FF) (a2:Nat) (f2:FF) (a3:Nat) (f3:FF) (a4:Nat) (f4:FF) (hm:m≤1000000) (hr:r≤1000000) (hd:d0≤1000000) (hur:r<u) (hud:d0<u) (k0:Nat→FF→Option ρ) :
  ∀ (d i t:Nat) (x:Int) (k:Nat) (g:FF),x=(i:Int)→i+d=m→d<t→k≤i →
  ∃ k' g',k'≤m∧nds k' g' = nds k g ++ (((List.range' i d).map (nd f)).filter (opB block (strs r rf) (strs d0 df))) ∧
   L259v1 u r rf d0 df block m f (Int.ofNat m) s a1 f1 a2 f2 a3 f3 a4 f4 t k x g k0=k0 k' g'
 | 0,i,t+1,x,k,g,hx,hi,ht,hk=>by
  have h1:decide (x<Int.ofNat m)=false:=decide_eq_false (by simp only [Int.ofNat_eq_natCast];omega)
  refine ⟨k,g,by omega,by simp,?_⟩
  unfold L259v1;rw [h1,cond_false]
 | d+1,i,t+1,x,k,g,hx,hi,ht,hk=>by
  have h1:decide (x<Int.ofNat m)=true:=decide_eq_true (by simp only [Int.ofNat_eq_natCast];omega)
  have h2:inb x m=true:=inb_true (by omega) (by omega)
  have h3:Int.toNat x=i:=by omega
  have hx1:w64 (x+1)=((i+1:Nat):Int):=by rw [w64_of (by omega) (by omega)];omega
  have h4:Nat.ble (k+1) 1073741824=true:=by simp;omega
  have hq:opB block (strs r rf) (strs d0 df) (nd f i)=(decide (CV.str (f i 1)=block) && !metB (CV.int (f i 0)) (CV.str (f i 2)) (strs r rf) (strs d0 df)):=rfl
  cases q1:decide (CV.str (f i 1)=block) with
  | false =>
   rw [q1,Bool.false_and] at hq
   obtain ⟨k',g',b1,b2,b3⟩:=l259z u r rf d0 df block m f s a1 f1 a2 f2 a3 f3 a4 f4 hm hr hd hur hud k0 d (i+1) t (w64 (x+1)) k g hx1 (by omega) (by omega) (by omega)
   refine ⟨k',g',b1,?_,?_⟩
   ·rw [b2,List.range'_succ,List.map_cons,List.filter_cons_of_neg (by rw [hq];exact Bool.false_ne_true)]
   ·unfold L259v1
    rw [h1,cond_true,h2,cond_true,h3,tl_eq,q1]
    exact b3
  | true =>
   rw [q1,Bool.true_and] at hq
   cases q2:metB (CV.int (f i 0)) (CV.str (f i 2)) (strs r rf) (strs d0 df) with
   | true =>
    rw [q2] at hq
    obtain ⟨k',g',b1,b2,b3⟩:=l259z u r rf d0 df block m f s a1 f1 a2 f2 a3 f3 a4 f4 hm hr hd hur hud k0 d (i+1) t (w64 (x+1)) k g hx1 (by omega) (by omega) (by omega)
    refine ⟨k',g',b1,?_,?_⟩
    ·rw [b2,List.range'_succ,List.map_cons,List.filter_cons_of_neg (by rw [hq];exact Bool.false_ne_true)]
    ·unfold L259v1
     rw [h1,cond_true,h2,cond_true,h3,tl_eq,q1,met258 u _ _ _ r rf d0 df hr hd hur hud,q2]
     exact b3
   | false =>
    rw [q2] at hq
    obtain ⟨k',g',b1,b2,b3⟩:=l259z u r rf d0 df block m f s a1 f1 a2 f2 a3 f3 a4 f4 hm hr hd hur hud k0 d (i+1) t (w64 (x+1)) (k+1) (joinF k g (rowsF 3 [.i .i64 (CV.int (f i 0)),.s (CV.str (f i 1)),.s (CV.str (f i 2))])) hx1 (by omega) (by omega) (by omega)
    refine ⟨k',g',b1,?_,?_⟩
    ·rw [b2,nds_join,List.range'_succ,List.map_cons,List.filter_cons_of_pos hq,List.append_assoc];rfl
    ·unfold L259v1
     rw [h1,cond_true,h2,cond_true,h3,tl_eq,q1,met258 u _ _ _ r rf d0 df hr hd hur hud,q2,h4]
     exact b3
end
theorem open259z (u:Nat) (s:ByteArray) (a1:Nat) (f1:FF) (a2:Nat) (f2:FF) (a3:Nat) (f3:FF) (a4:Nat) (f4:FF) (m:Nat) (f:FF) (r:Nat) (rf:FF) (d:Nat) (df:FF) (block:ByteArray) (hm:m≤1000000) (hr:r≤1000000) (hd:d≤1000000) (hum:m<u) (hur:r<u) (hud:d<u) :
  ∃ k g,k≤m∧nds k g=opens block (strs r rf) (strs d df) m f∧F259 u s a1 f1 a2 f2 a3 f3 a4 f4 m f r rf d df block=some (k,g):=by
 obtain ⟨k,g,b1,b2,b3⟩:=l259z (ρ:=Nat × FF) u r rf d df block m f s a1 f1 a2 f2 a3 f3 a4 f4 hm hr hd hur hud (fun x58 x59=>(some (x58,x59))) m 0 u 0 0 (fun _ _=>.any) rfl (by omega) hum (Nat.le_refl _)
 refine ⟨k,g,b1,?_,by unfold F259;exact b3⟩
 rw [b2,← List.range_eq_range'];rfl
theorem ready263z (u:Nat) (s:ByteArray) (a1:Nat) (f1:FF) (a2:Nat) (f2:FF) (a3:Nat) (f3:FF) (a4:Nat) (f4:FF) (m:Nat) (f:FF) (r:Nat) (rf:FF) (d:Nat) (df:FF) (block:ByteArray) (ha:a1≤1000) (hm:m≤1000) (hr:r≤1000) (hd:d≤1000) (hu:4000≤u) :
  F263 u s a1 f1 a2 f2 a3 f3 a4 f4 m f r rf d df block=some (readyE block (bls a1 f1) (strs r rf) (strs d df) m f):=by
 obtain ⟨nb,bg,e1,e2,e3⟩:=blocks252 u s a1 f1 a2 f2 a3 f3 a4 f4 m f (by omega) (by omega)
 obtain ⟨k,g,b1,b2,b3⟩:=open259z u s a1 f1 a2 f2 a3 f3 a4 f4 m f r rf d df block (by omega) (by omega) (by omega) (by omega) (by omega) (by omega)
 obtain ⟨t,rfl⟩:∃ t,u=t+4:=⟨u-4,by omega⟩
 unfold F263 readyE
 rw [blocks251,e1,ob_some]
 dsimp only
 rw [has257 _ nb bg block (by omega) (by omega),ob_some,e3,has257 _ r rf block (by omega) (by omega),ob_some,b3,ob_some]
 dsimp only
 rw [l263 _ k g s a1 f1 a2 f2 a3 f3 a4 f4 m f (by omega) (by omega),b2]
 unfold rdE
 cases hasB block (bls a1 f1)<;>cases hasB block (strs r rf)<;>cases anyK (opens block (strs r rf) (strs d df) m f) 1<;>cases anyK (opens block (strs r rf) (strs d df) m f) 2<;>cases anyK (opens block (strs r rf) (strs d df) m f) 3<;>rfl
end Go.Eng.R13
/-
 NeedFollows: the law.
-/
set_option linter.all false
namespace Go.Eng.R13
open Go Go.RowKit Go.Eng
theorem bl_irrefl:∀ x:List UInt8,Op.bytesLess x x=false
 | []=>rfl
 | a :: x=>by
  unfold Op.bytesLess
  rw [bl_irrefl x]
  simp
theorem bl_trans:∀ {x y z:List UInt8},Op.bytesLess x y=true→Op.bytesLess y z=true→Op.bytesLess x z=true
 | _,[],_,h,_=>by
  unfold Op.bytesLess at h
  cases h
 | _,_ :: _,[],_,h=>by
  unfold Op.bytesLess at h
  cases h
 | [],_ :: _,_ :: _,_,_=>by unfold Op.bytesLess;rfl
 | a :: x,b :: y,c :: z,h1,h2=>by
  unfold Op.bytesLess at h1 h2 ⊢
  simp only [Bool.or_eq_true,Bool.and_eq_true,decide_eq_true_eq,beq_iff_eq] at h1 h2 ⊢
  rcases h1 with h1 | ⟨rfl,h1⟩
  ·rcases h2 with h2 | ⟨rfl,h2⟩
   ·exact .inl (UInt8.lt_trans h1 h2)
   ·exact .inl h1
  ·rcases h2 with h2 | ⟨rfl,h2⟩
   ·exact .inl h2
   ·exact .inr ⟨rfl,bl_trans h1 h2⟩
theorem asc_lt {n:Nat} {f:FF} (h:AscS n f) (i:Nat):∀ d,i+(d+1)<n→Op.bytesLess (ByteArray.toList (sv f i)) (ByteArray.toList (sv f (i+(d+1))))=true
 | 0,hd=>by
  have:=h (i+1) (by omega) hd
  exact this
 | d+1,hd=>bl_trans (asc_lt h i d (by omega)) (by
  have:=h (i+(d+1+1)) (by omega) hd
  exact this)
theorem asc_ne {n:Nat} {f:FF} (h:AscS n f) {i j:Nat} (hij:i<j) (hj:j<n):sv f i≠sv f j:=fun e=>by
 obtain ⟨d,rfl⟩:∃ d,j=i+(d+1):=⟨j-i-1,by omega⟩
 have:=asc_lt h i d hj
 rw [← e,bl_irrefl] at this
 cases this
theorem bls_nodup {n:Nat} {f:FF} (h:AscS n f):(bls n f).Nodup:=by
 unfold bls List.Nodup
 rw [List.pairwise_map]
 refine (List.Pairwise.sublist (List.filter_sublist ..) (List.pairwise_lt_range (n:=n))).imp_of_mem ?_
 intro a b ha hb hab
 have hb:b<n:=List.mem_range.1 (List.mem_filter.1 hb).1
 exact asc_ne h hab hb
theorem inj_nodup {n:Nat} {g:FF} (h:(strs n g).Nodup) {i j:Nat} (hi:i<n) (hj:j<n) (e:sv g i=sv g j):i=j:=by
 unfold strs List.Nodup at h
 rw [List.pairwise_map,List.pairwise_iff_getElem] at h
 rcases Nat.lt_trichotomy i j with q | q | q
 ·have:=h i j (by simpa using hi) (by simpa using hj) q
  simp at this
  exact (this e).elim
 ·exact q
 ·have:=h j i (by simpa using hj) (by simpa using hi) q
  simp at this
  exact (this e.symm).elim
theorem ready_turn {a1:Nat} {f1:FF} {a4:Nat} {f4:FF} {m:Nat} {f:FF} {nb:Nat} {bg:FF} {k:Nat} {g:FF} {pg:FF} (hA:AscS a1 f1) (hN:∀ j,j<m→NdOk a1 f1 a4 f4 f j) (hb:strs nb bg=bls a1 f1)
  {ke:Nat} {ge:FF} {l:List Nat} (hp:prs ke ge=edgesL m f (sv bg) nb (List.range nb)) (hg:Good (nb:Int) ke ge) (hr:run nb ke ge nb []=some l) (hk:k=nb) (hs:strs k g=l.map (sv bg)) (hpg:∀ j,j<a4→sv pg j=sv f4 j) {i:Nat} (hi:i<k) :
  readyE (sv g i) (bls a1 f1) (strs i g) (strs a4 pg) m f=0:=by
 subst hk
 obtain ⟨hlen,hT⟩:=topo_of (fun i hi=>(hg i hi).1) hr
 have hnd:(strs k bg).Nodup:=by rw [hb];exact bls_nodup hA
 have hgj:∀ j,j<k→sv g j=sv bg (l.getD j 0):=fun j hj=>by
  have h1:=strs_at (g:=g) hj
  rw [hs,List.getElem?_map,List.getElem?_eq_getElem (by omega)] at h1
  have h2:=Option.some.inj h1
  rw [← h2,List.getD_eq_getElem?_getD,List.getElem?_eq_getElem (by omega)];rfl
 have hv:=hT.lt i hi
 have edge:∀ a b r:Nat,a<k→b<k→a≠b→r<m→cmR f (sv bg a) (sv bg b) r=true→∃ e,e<ke∧ea ge e=(a:Int)∧eb ge e=(b:Int):=by
  intro a b r ha hb hab hrm hc
  have:((a:Int),(b:Int))∈prs ke ge:=by
   rw [hp,mem_edges]
   exact ⟨a,b,ha,hb,hab,rfl,List.any_eq_true.2 ⟨r,List.mem_range.2 hrm,hc⟩⟩
  obtain ⟨e,he,h1⟩:=List.mem_map.1 this
  exact ⟨e,List.mem_range.1 he,congrArg Prod.fst h1,congrArg Prod.snd h1⟩
 rw [ready_zero]
 refine ⟨?_,?_,?_⟩
 ·rw [hasB_iff,← hb,mem_strs]
  exact ⟨l.getD i 0,hv,(hgj i hi).symm⟩
 ·cases hq:hasB (sv g i) (strs i g) with
  | false=>rfl
  | true =>
   rw [hasB_iff,mem_strs] at hq
   obtain ⟨j,hj,e⟩:=hq
   rw [hgj j (by omega),hgj i hi] at e
   have:=inj_nodup hnd (hT.lt j (by omega)) hv e
   have:=hT.inj j i (by omega) hi this
   omega
 ·rw [opens_nil]
  intro r hrm hblk
  obtain ⟨n1,n2,n3⟩:=hN r hrm
  have hblk' : CV.str (f r 1)=sv bg (l.getD i 0):=by rw [hblk];exact hgj i hi
  unfold metB
  by_cases c1:CV.int (f r 0)=1
  ·rw [decide_eq_true c1,cond_true,Bool.or_eq_true,decide_eq_true_eq,hasB_iff,mem_strs]
   rcases n2 c1 with h | ⟨j,hj,h1,h2⟩
   ·exact .inl h
   ·right
    have hmem:CV.str (f r 2)∈strs k bg:=by
     rw [hb]
     unfold bls
     exact List.mem_map.2 ⟨j,List.mem_filter.2 ⟨List.mem_range.2 hj,decide_eq_true h2⟩,h1⟩
    rw [mem_strs] at hmem
    obtain ⟨b,hbk,hbe⟩:=hmem
    have hne:b≠l.getD i 0:=fun e=>by
     apply n1
     rw [hblk',← hbe,e]
    obtain ⟨e,he,w1,w2⟩:=edge b (l.getD i 0) r hbk hv hne hrm (by
     unfold cmR
     rw [decide_eq_true c1,decide_eq_true hblk',decide_eq_true hbe.symm];rfl)
    obtain ⟨j',hj',w3⟩:=hT.fwd e he i hi w2
    refine ⟨j',hj',?_⟩
    rw [hgj j' (by omega),← hbe]
    have:l.getD j' 0=b:=by have w3:((l.getD j' 0:Nat):Int)=ea ge e:=w3;omega
    rw [this]
  ·rw [decide_eq_false c1,cond_false]
   by_cases c2:CV.int (f r 0)=2
   ·rw [decide_eq_true c2,cond_true]
    cases hq:hasB (CV.str (f r 2)) (strs i g) with
    | false=>rfl
    | true =>
     rw [hasB_iff,mem_strs] at hq
     obtain ⟨j,hj,e⟩:=hq
     rw [hgj j (by omega)] at e
     have hne:l.getD i 0≠l.getD j 0:=fun h=>by
      have:=hT.inj i j hi (by omega) h
      omega
     obtain ⟨e',he,w1,w2⟩:=edge (l.getD i 0) (l.getD j 0) r hv (hT.lt j (by omega)) hne hrm (by
      unfold cmR
      rw [decide_eq_true c2,decide_eq_true hblk',decide_eq_true e.symm];simp)
     obtain ⟨j',hj',w3⟩:=hT.fwd e' he j (by omega) w2
     have w3:((l.getD j' 0:Nat):Int)=ea ge e':=w3
     have:=hT.inj j' i (by omega) hi (by show l.getD j' 0=l.getD i 0;omega)
     omega
   ·rw [decide_eq_false c2,cond_false]
    by_cases c3:CV.int (f r 0)=3
    ·rw [decide_eq_true c3,cond_true,hasB_iff,mem_strs]
     obtain ⟨j,hj,h1⟩:=n3 c3
     exact ⟨j,hj,(hpg j hj).trans h1⟩
    ·rw [decide_eq_false c3,cond_false]
section
variable {ρ : Type}
theorem l325 (u:Nat) (s:ByteArray) (a1:Nat) (f1:FF) (a2:Nat) (f2:FF) (a3:Nat) (f3:FF) (n:Nat) (f:FF) (a5:Nat) (f5:FF) (hn:n≤1000) (k0:Nat→FF→Option ρ):∀ (d i t:Nat) (g:FF),i+d=n→d<t→(∀ j,j<i→sv g j=sv f j) →
  ∃ g',(∀ j,j<n→sv g' j=sv f j)∧L325v1 u s a1 f1 a2 f2 a3 f3 n f a5 f5 t i (i:Int) g k0=k0 n g'
 | 0,i,t+1,g,hi,ht,hg=>by
  refine ⟨g,fun j hj=>hg j (by omega),?_⟩
  unfold L325v1
  rw [decide_eq_false (by simp only [Int.ofNat_eq_natCast];omega),cond_false,show n=i by omega]
 | d+1,i,t+1,g,hi,ht,hg=>by
  have hx1:w64 ((i:Int)+1)=((i+1:Nat):Int):=by rw [w64_of (by omega) (by omega)];omega
  obtain ⟨g',h1,h2⟩:=l325 u s a1 f1 a2 f2 a3 f3 n f a5 f5 hn k0 d (i+1) t (joinF i g (rowsF 1 [(.s (CV.str (f (Int.toNat (i:Int)) 0)))])) (by omega) (by omega) (fun j hj=>by
   show CV.str _=_
   rw [joinS _ _ _ _ (by omega)]
   split
   ·rename_i e;subst e;rfl
   ·exact hg j (by omega))
  refine ⟨g',h1,?_⟩
  rw [← h2]
  conv=>lhs;unfold L325v1
  rw [decide_eq_true (by simp only [Int.ofNat_eq_natCast];omega),cond_true,inb_true (by omega) (by omega),cond_true,show Nat.ble (i+1) 1073741824=true by rw [Nat.ble_eq];omega,cond_true,hx1]
theorem l326 (u k:Nat) (g:FF) (s:ByteArray) (a1:Nat) (f1:FF) (a2:Nat) (f2:FF) (a3:Nat) (f3:FF) (a4:Nat) (f4:FF) (m:Nat) (f:FF) (pn:Nat) (pg:FF) (hu:4000≤u) (hk:k≤60) (ha:a1≤60) (hm:m≤60) (hpn:pn≤60)
  (h:∀ i,i<k→readyE (sv g i) (bls a1 f1) (strs i g) (strs pn pg) m f=0) (k0 k1:Option ρ):∀ (d i t:Nat),i+d=k→d<t→L326v1 u k g pn pg s a1 f1 a2 f2 a3 f3 a4 f4 m f t (i:Int) k0 k1=k1
 | 0,i,t+1,hi,ht=>by
  unfold L326v1
  rw [decide_eq_false (by simp only [Int.ofNat_eq_natCast];omega),cond_false]
 | d+1,i,t+1,hi,ht=>by
  have hx1:w64 ((i:Int)+1)=((i+1:Nat):Int):=by rw [w64_of (by omega) (by omega)];omega
  unfold L326v1
  rw [decide_eq_true (by simp only [Int.ofNat_eq_natCast];omega),cond_true,show inbe (i:Int) k=true by unfold inbe;simp;omega,cond_true,inb_true (by omega) (by omega),cond_true,Int.toNat_natCast,Nat.sub_zero,
   ready263z u s a1 f1 a2 f2 a3 f3 a4 f4 m f i g pn pg _ (by omega) (by omega) (by omega) (by omega) hu,h i (by omega),ob_some,show ((0:Int) != 0)=false from rfl,cond_false,hx1]
  exact l326 u k g s a1 f1 a2 f2 a3 f3 a4 f4 m f pn pg hu hk ha hm hpn h k0 k1 d (i+1) t (by omega) (by omega)
end
theorem awake_big:F278 4000000=some true:=by kernel_rfl
theorem follows51 (x1:ByteArray) (x2:Nat) (x3:FF) (x4:Nat) (x5:FF) (x6:Nat) (x7:FF) (x8:Nat) (x9:FF) (x10:Nat) (x11:FF) (x12:Nat) (x13:FF) (x14:Nat) (x15:FF) (s1:x1.size≤1048575)
  (g0:SlU (.pr .str (.pr (.int .i64) (.pr .str .nil))) x2 x3) (g1:SlU kR0 x4 x5) (g2:SlU (.pr .str (.pr .str (.pr .str (.pr (.int .i64) (.pr (.int .i64) (.pr (.int .i64) .nil)))))) x6 x7)
  (g3:SlU (.pr .str (.pr .str (.pr (.sl (.pr .str .nil)) (.pr (.int .i64) (.pr (.sl (.pr .str .nil)) .nil))))) x8 x9) (g4:SlU (.pr (.int .i64) (.pr .str (.pr .str .nil))) x10 x11)
  (g5:SlU (.pr .str (.pr (.int .i64) (.pr (.int .i64) (.pr (.sl (.pr (.int .i64) .nil)) .nil)))) x12 x13) (g6:SlU (.pr .str (.pr (.int .i64) (.pr (.int .i64) (.pr (.int .i64) .nil)))) x14 x15) :
  F326 4000000 x1 x2 x3 x4 x5 x6 x7 x8 x9 x10 x11 x12 x13 x14 x15=some true:=by
 unfold F326
 have z0:=g0.1
 have z1:=g1.1
 have z2:=g2.1
 have z3:=g3.1
 have z4:=g4.1
 obtain ⟨b,e1,hb⟩:=TF274 4000000 (Nat.le_refl _) x1 x2 x3 x4 x5 x6 x7 x8 x9 x10 x11 0 (fun _ _=>.any) 0 (fun _ _=>.any) (by omega) (by omega) (by omega) (by omega) (by omega)
 rw [e1,ob_some]
 cases b with
 | false =>
  rw [show ((!false)==false)=false from rfl,cond_false,awake_big];rfl
 | true =>
  obtain ⟨w1,w2,w3,w4,w5,w6⟩:=hb rfl
  rw [show ((!true)==false)=true from rfl,cond_true]
  obtain ⟨r,e2,hr⟩:=TF324 4000000 (Nat.le_refl _) x1 x2 x3 x4 x5 x6 x7 x8 x9 x10 x11 x12 x13 x14 x15 g0 g1 g2 g3 g4 g5 g6 (by omega) (fun i hi=>by have:=w6 i hi;omega) s1
  rw [e2,ob_some]
  by_cases hr0:r=0
  ·obtain ⟨hA,hN⟩:=hr hr0
   rw [show (r != 0)=false by simp [hr0],cond_false]
   obtain ⟨nb,bg,k,g,c,o1,o2,o3,o4,o5⟩:=order277 4000000 x1 x2 x3 x4 x5 x6 x7 x8 x9 x10 x11 (by omega) (by omega) (by omega)
   rw [o4,ob_some]
   dsimp only
   rcases o5 with ⟨rfl,rfl⟩ | ⟨o5,rfl⟩
   ·rw [show ((20:Int) != 0)=true from rfl,cond_true,show (((20:Int)==20)==true)=true from rfl,cond_true,show ((Int.ofNat 0==0)==true)=true from rfl,cond_true,awake_big];rfl
   ·rw [show ((0:Int) != 0)=false from rfl,cond_false,o1,ob_some]
    dsimp only
    cases o5 with
    | bad _ _ _ _ _ h=>exact (h rfl).elim
    | good ke ge go l q1 q2 q3 q4 q5 q6 =>
     subst q5
     rw [show (Int.ofNat k != Int.ofNat k)=false by simp,cond_false]
     obtain ⟨pg,p1,p2⟩:=l325 4000000 x1 x2 x3 x4 x5 x6 x7 x8 x9 x10 x11 (by omega) (fun x39 x40=>(some (x39,x40))) x8 0 4000000 (fun _ _=>.any) (by omega) (by omega) (fun j hj=>absurd hj (Nat.not_lt_zero j))
     rw [show F325 4000000 x1 x2 x3 x4 x5 x6 x7 x8 x9 x10 x11=some (x8,pg) from p2,ob_some]
     dsimp only
     have:=l326 4000000 k g x1 x2 x3 x4 x5 x6 x7 x8 x9 x10 x11 x8 pg (by omega) (by omega) (by omega) (by omega) (by omega)
      (fun i hi=>ready_turn hA hN o3 q1 q2 q3 rfl q6 p1 hi) (some false) (ob (F278 4000000) fun x56=>(some x56)) k 0 4000000 (by omega) (by omega)
     refine this.trans ?_
     rw [awake_big];rfl
  ·rw [show (r != 0)=true by simp [hr0],cond_true,awake_big];rfl
end Go.Eng.R13
