/-
 Several texts in one.
-/
import Derived.Test.YtajhkinnmdlokaaGreatDyBase
import Derived.Test.YtajhkinnmdlokaaGreatDyBase
import Derived.Test.YtajhkinnmdlokaaGreatEngV
import Derived.Test.YtajhkinnmdlokaaGreatNdBase
import Derived.Test.YtajhkinnmdlokaaGreatTzA
/-
 What the program's Order,Open and Ready compute (for the seat without the reference's).
-/
set_option linter.all false
namespace Go.Eng.R13
open Go Go.RowKit Go.Eng
section
variable {ρ : Type}
theorem l277z (u nb:Nat) (bg:FF) (k:Nat) (g:FF) (p:Nat→Nat) (hk:k≤1000) (hg:∀ i,i<k→iv g i=(p i:Int)) (hp:∀ i,i<k→p i<nb)
  (s:ByteArray) (a1:Nat) (f1:FF) (a2:Nat) (f2:FF) (a3:Nat) (f3:FF) (a4:Nat) (f4:FF) (a5:Nat) (f5:FF) (k0:Nat→FF→Option ρ) :
  ∀ (d i t:Nat) (x:Int) (kk:Nat) (acc:FF),x=(i:Int)→i+d=k→d<t→kk≤i →
  ∃ k' g',k' = kk+d∧strs k' g' = strs kk acc ++ (List.range' i d).map (fun i=>sv bg (p i)) ∧
   L277v1 u nb bg k g (Int.ofNat k) s a1 f1 a2 f2 a3 f3 a4 f4 a5 f5 t kk x acc k0=k0 k' g'
 | 0,i,t+1,x,kk,acc,hx,hi,ht,hkk=>by
  have h1:decide (x<Int.ofNat k)=false:=decide_eq_false (by simp only [Int.ofNat_eq_natCast];omega)
  refine ⟨kk,acc,rfl,by simp,?_⟩
  unfold L277v1;rw [h1,cond_false]
 | d+1,i,t+1,x,kk,acc,hx,hi,ht,hkk=>by
  have h1:decide (x<Int.ofNat k)=true:=decide_eq_true (by simp only [Int.ofNat_eq_natCast];omega)
  have h2:inb x k=true:=inb_true (by omega) (by omega)
  have h3:Int.toNat x=i:=by omega
  have hx1:w64 (x+1)=((i+1:Nat):Int):=by rw [w64_of (by omega) (by omega)];omega
  have h4:Nat.ble (kk+1) 1073741824=true:=by simp;omega
  have e1:CV.int (g i 0)=(p i:Int):=hg i (by omega)
  have h5:inb (p i:Int) nb=true:=inb_true (by omega) (by have:=hp i (by omega);omega)
  have h6:Int.toNat (p i:Int)=p i:=by omega
  obtain ⟨k',g',b1,b2,b3⟩:=l277z u nb bg k g p hk hg hp s a1 f1 a2 f2 a3 f3 a4 f4 a5 f5 k0 d (i+1) t (w64 (x+1)) (kk+1) (joinF kk acc (rowsF 1 [.s (CV.str (bg (p i) 0))])) hx1 (by omega) (by omega) (by omega)
  refine ⟨k',g',by omega,?_,?_⟩
  ·rw [b2,strs_join,List.range'_succ,List.map_cons,List.append_assoc];rfl
  ·unfold L277v1
   rw [h1,cond_true,h2,cond_true,h3,e1,h5,cond_true,h4,cond_true,h6]
   exact b3
theorem edges_good {m:Nat} {f:FF} {B:Nat→ByteArray} {nb ke:Nat} {ge:FF} (h:prs ke ge=edgesL m f B nb (List.range nb)):Good (nb:Int) ke ge:=fun i hi=>by
 have hm:(ea ge i,eb ge i)∈prs ke ge:=List.mem_map.2 ⟨i,List.mem_range.2 hi,rfl⟩
 rw [h,mem_edges] at hm
 obtain ⟨a,b,h1,h2,h3,h4,_⟩:=hm
 have e1:=congrArg Prod.fst h4
 have e2:=congrArg Prod.snd h4
 dsimp only at e1 e2
 omega
theorem order277 (u:Nat) (s:ByteArray) (a1:Nat) (f1:FF) (a2:Nat) (f2:FF) (a3:Nat) (f3:FF) (a4:Nat) (f4:FF) (m:Nat) (f:FF) (hm:m≤60) (ha:a1≤60) (hu:4000≤u) :
  ∃ nb bg k g c,F252 u s a1 f1 a2 f2 a3 f3 a4 f4 m f=some (nb,bg)∧nb≤a1∧strs nb bg=bls a1 f1∧F277 u s a1 f1 a2 f2 a3 f3 a4 f4 m f=some (k,g,c) ∧
   ((c=20∧k=0∧∃ ke ge,prs ke ge=edgesL m f (sv bg) nb (List.range nb)∧Good (nb:Int) ke ge∧run nb ke ge nb []=none)∨NOrd m f nb bg k g c∧c=0):=by
 obtain ⟨nb,bg,e1,e2,e3⟩:=blocks252 u s a1 f1 a2 f2 a3 f3 a4 f4 m f (by omega) (by omega)
 obtain ⟨k1,g1,d1,d2,d3⟩:=edges276 u s a1 f1 a2 f2 a3 f3 a4 f4 m f (by omega) (by omega) (by omega) (by omega) e1 e2
 have hke:k1≤3600:=by
  have:nb*nb≤60*60:=Nat.mul_le_mul (by omega) (by omega)
  omega
 have hgood:=edges_good d3
 obtain ⟨ko,go,c,o1,o2⟩:=order225 u (Int.ofNat nb) k1 g1 (by omega) (by omega) (by omega)
 cases hc:(c != 0) with
 | true =>
  have hc0:c≠0:=by simpa using hc
  refine ⟨nb,bg,0,(fun _ _=>.any),c,e1,e2,e3,?_,.inl ?_⟩
  ·unfold F277 FT277
   rw [blocks251,e1,ob_some]
   dsimp only
   rw [d1,ob_some]
   dsimp only
   rw [o1,ob_some]
   dsimp only
   rw [hc,cond_true,ob_some]
   rfl
  ·cases o2 with
   | range _ h=>simp only [Int.ofNat_eq_natCast] at h;omega
   | bad _ _ h=>exact (h (good_iff.2 hgood)).elim
   | cycle _ _ _ hr=>exact ⟨rfl,rfl,k1,g1,d3,hgood,hr⟩
   | order=>exact (hc0 rfl).elim
 | false =>
  have hc0:c=0:=by simpa using hc
  subst hc0
  obtain ⟨l,_,r1,r2,r3,r4⟩:=OrdR.ok o2 rfl
  have r3:ko=nb:=r3
  subst r3
  have r2:run ko k1 g1 ko []=some l:=r2
  have hlen:l.length=ko:=by have:=run_len ko [] l r2;simpa using this
  have hlt:∀ i,i<ko→l.getD i 0<ko:=fun i hi=>by
   rw [List.getD_eq_getElem?_getD,List.getElem?_eq_getElem (by omega)]
   exact run_lt ko [] l r2 (by simp) _ (List.getElem_mem _)
  obtain ⟨k',g',b1,b2,b3⟩:=l277z (ρ:=Bool × Nat × FF × Int) u ko bg ko go (fun i=>l.getD i 0) (by omega) (fun i hi=>r4 i hi) hlt s a1 f1 a2 f2 a3 f3 a4 f4 m f (fun x52 x53=>(some (false,x52,x53,0))) ko 0 u 0 0 (fun _ _=>.any) rfl (by omega) (by omega) (Nat.le_refl _)
  have hk' : k' = ko:=by omega
  refine ⟨ko,bg,k',g',0,e1,e2,e3,?_,.inr ⟨.good k1 g1 go l d3 r1 r2 rfl hk' ?_,rfl⟩⟩
  ·unfold F277 FT277
   rw [blocks251,e1,ob_some]
   dsimp only
   rw [d1,ob_some]
   dsimp only
   rw [o1,ob_some]
   dsimp only
   rw [hc,cond_false]
   rw [show L277v1 (ρ:=Bool × Nat × FF × Int) u ko bg ko go (Int.ofNat ko) s a1 f1 a2 f2 a3 f3 a4 f4 m f u 0 0 (fun _ _=>.any) (fun x52 x53=>(some (false,x52,x53,0)))=_ from b3,ob_some]
   rfl
  ·rw [b2,← List.range_eq_range']
   show [] ++ _=_
   rw [List.nil_append]
   apply List.ext_getElem?
   intro i
   rw [List.getElem?_map,List.getElem?_map]
   by_cases hi:i<ko
   ·rw [List.getElem?_range hi,List.getElem?_eq_getElem (by omega)]
    simp only [Option.map_some]
    rw [List.getD_eq_getElem?_getD,List.getElem?_eq_getElem (by omega)];rfl
   ·rw [List.getElem?_eq_none (by simp;omega),List.getElem?_eq_none (by omega)];rfl
theorem l259z (u r:Nat) (rf:FF) (d0:Nat) (df:FF) (block:ByteArray) (m:Nat) (f:FF) (s:ByteArray) (a1:Nat) (f1:FF) (a2:Nat) (f2:FF) (a3:Nat) (f3:FF) (a4:Nat) (f4:FF) (hm:m≤1000000) (hr:r≤1000000) (hd:d0≤1000000) (hur:r<u) (hud:d0<u) (k0:Nat→FF→Option ρ) :
  ∀ (d i t:Nat) (x:Int) (k:Nat) (g:FF),x=(i:Int)→i+d=m→d<t→k≤i →
  ∃ k' g',k'≤m∧nds k' g' = nds k g ++ (((List.range' i d).map (nd f)).filter (opB block (strs r rf) (strs d0 df))) ∧
   L259v1 u r rf d0 df block m f (Int.ofNat m) s a1 f1 a2 f2 a3 f3 a4 f4 t k x g k0=k0 k' g'
 | 0,i,t+1,x,k,g,hx,hi,ht,hk=>by
  have h1:decide (x<Int.ofNat m)=false:=decide_eq_false (by simp only [Int.ofNat_eq_natCast];omega)
  refine ⟨k,g,by omega,by simp,?_⟩
  unfold L259v1;rw [h1,cond_false]
 | d+1,i,t+1,x,k,g,hx,hi,ht,hk=>by
  have h1:decide (x<Int.ofNat m)=true:=decide_eq_true (by simp only [Int.ofNat_eq_natCast];omega)
  have h2:inb x m=true:=inb_true (by omega) (by omega)
  have h3:Int.toNat x=i:=by omega
  have hx1:w64 (x+1)=((i+1:Nat):Int):=by rw [w64_of (by omega) (by omega)];omega
  have h4:Nat.ble (k+1) 1073741824=true:=by simp;omega
  have hq:opB block (strs r rf) (strs d0 df) (nd f i)=(decide (CV.str (f i 1)=block) && !metB (CV.int (f i 0)) (CV.str (f i 2)) (strs r rf) (strs d0 df)):=rfl
  cases q1:decide (CV.str (f i 1)=block) with
  | false =>
   rw [q1,Bool.false_and] at hq
   obtain ⟨k',g',b1,b2,b3⟩:=l259z u r rf d0 df block m f s a1 f1 a2 f2 a3 f3 a4 f4 hm hr hd hur hud k0 d (i+1) t (w64 (x+1)) k g hx1 (by omega) (by omega) (by omega)
   refine ⟨k',g',b1,?_,?_⟩
   ·rw [b2,List.range'_succ,List.map_cons,List.filter_cons_of_neg (by rw [hq];exact Bool.false_ne_true)]
   ·unfold L259v1
    rw [h1,cond_true,h2,cond_true,h3,tl_eq,q1]
    exact b3
  | true =>
   rw [q1,Bool.true_and] at hq
   cases q2:metB (CV.int (f i 0)) (CV.str (f i 2)) (strs r rf) (strs d0 df) with
   | true =>
    rw [q2] at hq
    obtain ⟨k',g',b1,b2,b3⟩:=l259z u r rf d0 df block m f s a1 f1 a2 f2 a3 f3 a4 f4 hm hr hd hur hud k0 d (i+1) t (w64 (x+1)) k g hx1 (by omega) (by omega) (by omega)
    refine ⟨k',g',b1,?_,?_⟩
    ·rw [b2,List.range'_succ,List.map_cons,List.filter_cons_of_neg (by rw [hq];exact Bool.false_ne_true)]
    ·unfold L259v1
     rw [h1,cond_true,h2,cond_true,h3,tl_eq,q1,met258 u _ _ _ r rf d0 df hr hd hur hud,q2]
     exact b3
   | false =>
    rw [q2] at hq
    obtain ⟨k',g',b1,b2,b3⟩:=l259z u r rf d0 df block m f s a1 f1 a2 f2 a3 f3 a4 f4 hm hr hd hur hud k0 d (i+1) t (w64 (x+1)) (k+1) (joinF k g (rowsF 3 [.i .i64 (CV.int (f i 0)),.s (CV.str (f i 1)),.s (CV.str (f i 2))])) hx1 (by omega) (by omega) (by omega)
    refine ⟨k',g',b1,?_,?_⟩
    ·rw [b2,nds_join,List.range'_succ,List.map_cons,List.filter_cons_of_pos hq,List.append_assoc];rfl
    ·unfold L259v1
     rw [h1,cond_true,h2,cond_true,h3,tl_eq,q1,met258 u _ _ _ r rf d0 df hr hd hur hud,q2,h4]
     exact b3
end
theorem open259z (u:Nat) (s:ByteArray) (a1:Nat) (f1:FF) (a2:Nat) (f2:FF) (a3:Nat) (f3:FF) (a4:Nat) (f4:FF) (m:Nat) (f:FF) (r:Nat) (rf:FF) (d:Nat) (df:FF) (block:ByteArray) (hm:m≤1000000) (hr:r≤1000000) (hd:d≤1000000) (hum:m<u) (hur:r<u) (hud:d<u) :
  ∃ k g,k≤m∧nds k g=opens block (strs r rf) (strs d df) m f∧F259 u s a1 f1 a2 f2 a3 f3 a4 f4 m f r rf d df block=some (k,g):=by
 obtain ⟨k,g,b1,b2,b3⟩:=l259z (ρ:=Nat × FF) u r rf d df block m f s a1 f1 a2 f2 a3 f3 a4 f4 hm hr hd hur hud (fun x58 x59=>(some (x58,x59))) m 0 u 0 0 (fun _ _=>.any) rfl (by omega) hum (Nat.le_refl _)
 refine ⟨k,g,b1,?_,by unfold F259;exact b3⟩
 rw [b2,← List.range_eq_range'];rfl
theorem ready263z (u:Nat) (s:ByteArray) (a1:Nat) (f1:FF) (a2:Nat) (f2:FF) (a3:Nat) (f3:FF) (a4:Nat) (f4:FF) (m:Nat) (f:FF) (r:Nat) (rf:FF) (d:Nat) (df:FF) (block:ByteArray) (ha:a1≤1000) (hm:m≤1000) (hr:r≤1000) (hd:d≤1000) (hu:4000≤u) :
  F263 u s a1 f1 a2 f2 a3 f3 a4 f4 m f r rf d df block=some (readyE block (bls a1 f1) (strs r rf) (strs d df) m f):=by
 obtain ⟨nb,bg,e1,e2,e3⟩:=blocks252 u s a1 f1 a2 f2 a3 f3 a4 f4 m f (by omega) (by omega)
 obtain ⟨k,g,b1,b2,b3⟩:=open259z u s a1 f1 a2 f2 a3 f3 a4 f4 m f r rf d df block (by omega) (by omega) (by omega) (by omega) (by omega) (by omega)
 obtain ⟨t,rfl⟩:∃ t,u=t+4:=⟨u-4,by omega⟩
 unfold F263 readyE
 rw [blocks251,e1,ob_some]
 dsimp only
 rw [has257 _ nb bg block (by omega) (by omega),ob_some,e3,has257 _ r rf block (by omega) (by omega),ob_some,b3,ob_some]
 dsimp only
 rw [l263 _ k g s a1 f1 a2 f2 a3 f3 a4 f4 m f (by omega) (by omega),b2]
 unfold rdE
 cases hasB block (bls a1 f1)<;>cases hasB block (strs r rf)<;>cases anyK (opens block (strs r rf) (strs d df) m f) 1<;>cases anyK (opens block (strs r rf) (strs d df) m f) 2<;>cases anyK (opens block (strs r rf) (strs d df) m f) 3<;>rfl
end Go.Eng.R13
/-
 NeedFollows,NeedExists: names,turns,packages.
-/
set_option linter.all false
namespace Go.Eng.R13
open Go Go.RowKit Go.Eng
theorem bl_irrefl:∀ x:List UInt8,Op.bytesLess x x=false
 | []=>rfl
 | a :: x=>by
  unfold Op.bytesLess
  rw [bl_irrefl x]
  simp
theorem bl_trans:∀ {x y z:List UInt8},Op.bytesLess x y=true→Op.bytesLess y z=true→Op.bytesLess x z=true
 | _,[],_,h,_=>by
  unfold Op.bytesLess at h
  cases h
 | _,_ :: _,[],_,h=>by
  unfold Op.bytesLess at h
  cases h
 | [],_ :: _,_ :: _,_,_=>by unfold Op.bytesLess;rfl
 | a :: x,b :: y,c :: z,h1,h2=>by
  unfold Op.bytesLess at h1 h2 ⊢
  simp only [Bool.or_eq_true,Bool.and_eq_true,decide_eq_true_eq,beq_iff_eq] at h1 h2 ⊢
  rcases h1 with h1 | ⟨rfl,h1⟩
  ·rcases h2 with h2 | ⟨rfl,h2⟩
   ·exact .inl (UInt8.lt_trans h1 h2)
   ·exact .inl h1
  ·rcases h2 with h2 | ⟨rfl,h2⟩
   ·exact .inl h2
   ·exact .inr ⟨rfl,bl_trans h1 h2⟩
theorem asc_lt {n:Nat} {f:FF} (h:AscS n f) (i:Nat):∀ d,i+(d+1)<n→Op.bytesLess (ByteArray.toList (sv f i)) (ByteArray.toList (sv f (i+(d+1))))=true
 | 0,hd=>by
  have:=h (i+1) (by omega) hd
  exact this
 | d+1,hd=>bl_trans (asc_lt h i d (by omega)) (by
  have:=h (i+(d+1+1)) (by omega) hd
  exact this)
theorem asc_ne {n:Nat} {f:FF} (h:AscS n f) {i j:Nat} (hij:i<j) (hj:j<n):sv f i≠sv f j:=fun e=>by
 obtain ⟨d,rfl⟩:∃ d,j=i+(d+1):=⟨j-i-1,by omega⟩
 have:=asc_lt h i d hj
 rw [← e,bl_irrefl] at this
 cases this
theorem bls_nodup {n:Nat} {f:FF} (h:AscS n f):(bls n f).Nodup:=by
 unfold bls List.Nodup
 rw [List.pairwise_map]
 refine (List.Pairwise.sublist (List.filter_sublist ..) (List.pairwise_lt_range (n:=n))).imp_of_mem ?_
 intro a b ha hb hab
 have hb:b<n:=List.mem_range.1 (List.mem_filter.1 hb).1
 exact asc_ne h hab hb
theorem inj_nodup {n:Nat} {g:FF} (h:(strs n g).Nodup) {i j:Nat} (hi:i<n) (hj:j<n) (e:sv g i=sv g j):i=j:=by
 unfold strs List.Nodup at h
 rw [List.pairwise_map,List.pairwise_iff_getElem] at h
 rcases Nat.lt_trichotomy i j with q | q | q
 ·have:=h i j (by simpa using hi) (by simpa using hj) q
  simp at this
  exact (this e).elim
 ·exact q
 ·have:=h j i (by simpa using hj) (by simpa using hi) q
  simp at this
  exact (this e.symm).elim
theorem ready_turn {a1:Nat} {f1:FF} {a4:Nat} {f4:FF} {m:Nat} {f:FF} {nb:Nat} {bg:FF} {k:Nat} {g:FF} {pg:FF} (hA:AscS a1 f1) (hN:∀ j,j<m→NdOk a1 f1 a4 f4 f j) (hb:strs nb bg=bls a1 f1)
  {ke:Nat} {ge:FF} {l:List Nat} (hp:prs ke ge=edgesL m f (sv bg) nb (List.range nb)) (hg:Good (nb:Int) ke ge) (hr:run nb ke ge nb []=some l) (hk:k=nb) (hs:strs k g=l.map (sv bg)) (hpg:∀ j,j<a4→sv pg j=sv f4 j) {i:Nat} (hi:i<k) :
  readyE (sv g i) (bls a1 f1) (strs i g) (strs a4 pg) m f=0:=by
 subst hk
 obtain ⟨hlen,hT⟩:=topo_of (fun i hi=>(hg i hi).1) hr
 have hnd:(strs k bg).Nodup:=by rw [hb];exact bls_nodup hA
 have hgj:∀ j,j<k→sv g j=sv bg (l.getD j 0):=fun j hj=>by
  have h1:=strs_at (g:=g) hj
  rw [hs,List.getElem?_map,List.getElem?_eq_getElem (by omega)] at h1
  have h2:=Option.some.inj h1
  rw [← h2,List.getD_eq_getElem?_getD,List.getElem?_eq_getElem (by omega)];rfl
 have hv:=hT.lt i hi
 have edge:∀ a b r:Nat,a<k→b<k→a≠b→r<m→cmR f (sv bg a) (sv bg b) r=true→∃ e,e<ke∧ea ge e=(a:Int)∧eb ge e=(b:Int):=by
  intro a b r ha hb hab hrm hc
  have:((a:Int),(b:Int))∈prs ke ge:=by
   rw [hp,mem_edges]
   exact ⟨a,b,ha,hb,hab,rfl,List.any_eq_true.2 ⟨r,List.mem_range.2 hrm,hc⟩⟩
  obtain ⟨e,he,h1⟩:=List.mem_map.1 this
  exact ⟨e,List.mem_range.1 he,congrArg Prod.fst h1,congrArg Prod.snd h1⟩
 rw [ready_zero]
 refine ⟨?_,?_,?_⟩
 ·rw [hasB_iff,← hb,mem_strs]
  exact ⟨l.getD i 0,hv,(hgj i hi).symm⟩
 ·cases hq:hasB (sv g i) (strs i g) with
  | false=>rfl
  | true =>
   rw [hasB_iff,mem_strs] at hq
   obtain ⟨j,hj,e⟩:=hq
   rw [hgj j (by omega),hgj i hi] at e
   have:=inj_nodup hnd (hT.lt j (by omega)) hv e
   have:=hT.inj j i (by omega) hi this
   omega
 ·rw [opens_nil]
  intro r hrm hblk
  obtain ⟨n1,n2,n3⟩:=hN r hrm
  have hblk' : CV.str (f r 1)=sv bg (l.getD i 0):=by rw [hblk];exact hgj i hi
  unfold metB
  by_cases c1:CV.int (f r 0)=1
  ·rw [decide_eq_true c1,cond_true,Bool.or_eq_true,decide_eq_true_eq,hasB_iff,mem_strs]
   rcases n2 c1 with h | ⟨j,hj,h1,h2⟩
   ·exact .inl h
   ·right
    have hmem:CV.str (f r 2)∈strs k bg:=by
     rw [hb]
     unfold bls
     exact List.mem_map.2 ⟨j,List.mem_filter.2 ⟨List.mem_range.2 hj,decide_eq_true h2⟩,h1⟩
    rw [mem_strs] at hmem
    obtain ⟨b,hbk,hbe⟩:=hmem
    have hne:b≠l.getD i 0:=fun e=>by
     apply n1
     rw [hblk',← hbe,e]
    obtain ⟨e,he,w1,w2⟩:=edge b (l.getD i 0) r hbk hv hne hrm (by
     unfold cmR
     rw [decide_eq_true c1,decide_eq_true hblk',decide_eq_true hbe.symm];rfl)
    obtain ⟨j',hj',w3⟩:=hT.fwd e he i hi w2
    refine ⟨j',hj',?_⟩
    rw [hgj j' (by omega),← hbe]
    have:l.getD j' 0=b:=by have w3:((l.getD j' 0:Nat):Int)=ea ge e:=w3;omega
    rw [this]
  ·rw [decide_eq_false c1,cond_false]
   by_cases c2:CV.int (f r 0)=2
   ·rw [decide_eq_true c2,cond_true]
    cases hq:hasB (CV.str (f r 2)) (strs i g) with
    | false=>rfl
    | true =>
     rw [hasB_iff,mem_strs] at hq
     obtain ⟨j,hj,e⟩:=hq
     rw [hgj j (by omega)] at e
     have hne:l.getD i 0≠l.getD j 0:=fun h=>by
      have:=hT.inj i j hi (by omega) h
      omega
     obtain ⟨e',he,w1,w2⟩:=edge (l.getD i 0) (l.getD j 0) r hv (hT.lt j (by omega)) hne hrm (by
      unfold cmR
      rw [decide_eq_true c2,decide_eq_true hblk',decide_eq_true e.symm];simp)
     obtain ⟨j',hj',w3⟩:=hT.fwd e' he j (by omega) w2
     have w3:((l.getD j' 0:Nat):Int)=ea ge e':=w3
     have:=hT.inj j' i (by omega) hi (by show l.getD j' 0=l.getD i 0;omega)
     omega
   ·rw [decide_eq_false c2,cond_false]
    by_cases c3:CV.int (f r 0)=3
    ·rw [decide_eq_true c3,cond_true,hasB_iff,mem_strs]
     obtain ⟨j,hj,h1⟩:=n3 c3
     exact ⟨j,hj,(hpg j hj).trans h1⟩
    ·rw [decide_eq_false c3,cond_false]
section
variable {ρ : Type}
theorem l325 (u:Nat) (s:ByteArray) (a1:Nat) (f1:FF) (a2:Nat) (f2:FF) (a3:Nat) (f3:FF) (n:Nat) (f:FF) (a5:Nat) (f5:FF) (hn:n≤1000) (k0:Nat→FF→Option ρ):∀ (d i t:Nat) (g:FF),i+d=n→d<t→(∀ j,j<i→sv g j=sv f j) →
  ∃ g',(∀ j,j<n→sv g' j=sv f j)∧L325v1 u s a1 f1 a2 f2 a3 f3 n f a5 f5 t i (i:Int) g k0=k0 n g'
 | 0,i,t+1,g,hi,ht,hg=>by
  refine ⟨g,fun j hj=>hg j (by omega),?_⟩
  unfold L325v1
  rw [decide_eq_false (by simp only [Int.ofNat_eq_natCast];omega),cond_false,show n=i by omega]
 | d+1,i,t+1,g,hi,ht,hg=>by
  have hx1:w64 ((i:Int)+1)=((i+1:Nat):Int):=by rw [w64_of (by omega) (by omega)];omega
  obtain ⟨g',h1,h2⟩:=l325 u s a1 f1 a2 f2 a3 f3 n f a5 f5 hn k0 d (i+1) t (joinF i g (rowsF 1 [(.s (CV.str (f (Int.toNat (i:Int)) 0)))])) (by omega) (by omega) (fun j hj=>by
   show CV.str _=_
   rw [joinS _ _ _ _ (by omega)]
   split
   ·rename_i e;subst e;rfl
   ·exact hg j (by omega))
  refine ⟨g',h1,?_⟩
  rw [← h2]
  conv=>lhs;unfold L325v1
  rw [decide_eq_true (by simp only [Int.ofNat_eq_natCast];omega),cond_true,inb_true (by omega) (by omega),cond_true,show Nat.ble (i+1) 1073741824=true by rw [Nat.ble_eq];omega,cond_true,hx1]
end
theorem awake_big:F278 4000000=some true:=by kernel_rfl
end Go.Eng.R13
/-
 NeedExists: where all edges go forward along some numbering,the search for an order does not stop.
-/
set_option linter.all false
namespace Go.Eng.R13
open Go Go.RowKit Go.Eng
theorem sub_len:∀ (n:Nat) (l:List Nat),(∀ v,v<n→v∈l)→n≤l.length
 | 0,_,_=>Nat.zero_le _
 | n+1,l,h=>by
  have hn:=h n (by omega)
  have:=sub_len n (l.erase n) fun v hv=>(List.mem_erase_of_ne (by omega)).2 (h v (by omega))
  rw [List.length_erase_of_mem hn] at this
  have:0<l.length:=List.length_pos_of_mem hn
  omega
theorem run_fwd {N m:Nat} {f:FF} (p:Nat→Nat) (h:∀ i,i<m→(ea f i).toNat<N∧∀ v:Nat,eb f i=(v:Int)→p (ea f i).toNat<p v):∀ (d:Nat) (out:List Nat),out.length+d≤N→run N m f d out≠none
 | 0,out,_=>by unfold run;exact fun e=>by cases e
 | d+1,out,hl=>by
  unfold run
  cases e:next N m f out with
  | some v =>
   refine run_fwd p h d (out ++ [v]) ?_
   rw [List.length_append];simp only [List.length_cons,List.length_nil];omega
  | none =>
   exfalso
   unfold next at e
   have hf:=List.find?_eq_none.1 e
   have hk:∀ k v,v<N→p v<k→v∈out:=by
    intro k
    induction k with
    | zero=>intro v _ hv;omega
    | succ k ih =>
     intro v hv hpv
     have hfv:=hf v (List.mem_range.2 hv)
     by_cases hm:v∈out
     ·exact hm
     ·exfalso
      apply hfv
      unfold free
      have hw:waits m f out v=false:=by
       cases hw:waits m f out v with
       | false=>rfl
       | true =>
        obtain ⟨i,hi,e1,e2⟩:=waits_iff.1 hw
        obtain ⟨q1,q2⟩:=h i hi
        have q2:=q2 v e1
        exact (e2 (ih _ q1 (by omega))).elim
      rw [hw]
      simp [hm]
   have:=sub_len N out fun v hv=>hk (p v+1) v hv (by omega)
   omega
end Go.Eng.R13
/-
 NeedExists: a search through all orders finds one if there is one;plain lists.
-/
set_option linter.all false
namespace Go.Eng.R13
def someS {α:Type} (ok:List α→Bool):Nat→List α→List α→Bool
 | 0,_,_=>false
 | n+1,o,l=>bif l.length==0 then ok o else (List.finRange l.length).any fun i=>someS ok n (o ++ [l[i]]) (l.eraseIdx i)
theorem erase_perm {α:Type}:∀ (l:List α) (i:Nat) (h:i<l.length),(l[i] :: l.eraseIdx i).Perm l
 | a :: l,0,_=>List.Perm.refl _
 | a :: l,i+1,h=>by
  have:=erase_perm l i (by simpa using h)
  simp only [List.getElem_cons_succ,List.eraseIdx_cons_succ]
  exact (List.Perm.swap _ _ _).trans (this.cons a)
theorem someS_iff {α:Type} (ok:List α→Bool):∀ (n:Nat) (o l:List α),l.length<n→(someS ok n o l=true↔∃ p,List.Perm p l∧ok (o ++ p)=true)
 | 0,_,_,h=>absurd h (Nat.not_lt_zero _)
 | n+1,o,[],_=>by
  simp only [someS,List.length_nil,BEq.rfl,cond_true]
  constructor
  ·exact fun h=>⟨[],List.Perm.refl _,by simpa using h⟩
  ·rintro ⟨p,hp,h⟩
   rw [List.Perm.eq_nil hp] at h
   simpa using h
 | n+1,o,a :: l,hl=>by
  have e:((a :: l).length==0)=false:=rfl
  rw [someS,e,cond_false,List.any_eq_true]
  have hlen:∀ i:Fin (a :: l).length,((a :: l).eraseIdx i).length<n:=fun i=>by
   have:=List.length_eraseIdx_of_lt i.2
   simp only [List.length_cons] at this hl ⊢
   omega
  constructor
  ·rintro ⟨i,_,h⟩
   obtain ⟨p,hp,h⟩:=(someS_iff ok n _ _ (hlen i)).1 h
   exact ⟨(a :: l)[i] :: p,(hp.cons _).trans (erase_perm (a :: l) i i.2),by simpa using h⟩
  ·rintro ⟨p,hp,h⟩
   cases p with
   | nil=>have:=hp.length_eq;simp at this
   | cons b p =>
    obtain ⟨i,hi,hb⟩:=List.getElem_of_mem (hp.mem_iff.1 (List.mem_cons_self ..):b∈a :: l)
    refine ⟨⟨i,hi⟩,List.mem_finRange _,(someS_iff ok n _ _ (hlen ⟨i,hi⟩)).2 ⟨p,?_,?_⟩⟩
    ·have q:=hp.trans (erase_perm (a :: l) i hi).symm
     rw [hb] at q
     exact List.Perm.cons_inv q
    ·show ok (o ++ [(a :: l)[i]] ++ p)=true
     rw [hb]
     simpa using h
end Go.Eng.R13
/-
 NeedExists: one level of the search;the level below is a parameter.
-/
set_option linter.all false
namespace Go.Eng.R13
open Go Go.RowKit Go.Eng
theorem strs_take {n i:Nat} (f:FF) (h:i≤n):strs i f=(strs n f).take i:=by
 apply List.ext_getElem
 ·simp [strs];omega
 ·intro j h1 h2
  simp [strs]
theorem strs_shift {n i:Nat} (f:FF) (h:i≤n):strs (n-i) (shiftF i f)=(strs n f).drop i:=by
 apply List.ext_getElem
 ·simp [strs]
 ·intro j h1 h2
  cases i with
  | zero=>simp [strs,shiftF]
  | succ i=>simp [strs,shiftF,sv]
theorem strs_out {n i:Nat} (f:FF) (h:i<n):strs ((0+(i-0))+(n-(i+1))) (joinF (0+(i-0)) (joinF 0 (rowsF 1 []) f) (shiftF (i+1) f))=(strs n f).eraseIdx i:=by
 rw [strs_joinF,Nat.sub_zero,strs_copy,strs_shift f (show i+1≤n by omega),List.eraseIdx_eq_take_drop_succ,strs_take f (show i≤n by omega)]
def LG {ρ:Type} (rec' : Nat→FF→Nat→FF→Option Bool) (x38:Nat) (x39:FF) (x40:Nat) (x41:FF):Nat→Int→(Nat→FF→FF→FF→Option ρ)→(Option ρ)→Option ρ
 | 0,_,_,_=>none
 | m+1,x44,k0,k1 =>
  (bif (decide (x44<(Int.ofNat x40))) then (bif (inbe x44 x40) then (bif (Nat.ble (0+((Int.toNat x44)-0)) 1073741824) then (bif (inbe (w64 (x44+1)) x40) then (bif (Nat.ble ((0+((Int.toNat x44)-0))+(x40-(Int.toNat (w64 (x44+1))))) 1073741824) then (bif (Nat.ble (0+x38) 1073741824) then (bif (inb x44 x40) then (bif (Nat.ble ((0+x38)+1) 1073741824) then (ob (rec' ((0+x38)+1) (joinF (0+x38) (joinF 0 (rowsF 1 []) x39) (rowsF 1 [(.s (CV.str (x41 (Int.toNat x44) 0)))])) ((0+((Int.toNat x44)-0))+(x40-(Int.toNat (w64 (x44+1))))) (joinF (0+((Int.toNat x44)-0)) (joinF 0 (rowsF 1 []) x41) (shiftF (Int.toNat (w64 (x44+1))) x41))) fun x56=>(bif x56 then (k0 ((0+((Int.toNat x44)-0))+(x40-(Int.toNat (w64 (x44+1))))) (joinF (0+((Int.toNat x44)-0)) (joinF 0 (rowsF 1 []) x41) (shiftF (Int.toNat (w64 (x44+1))) x41)) (joinF (0+x38) (joinF 0 (rowsF 1 []) x39) (rowsF 1 [(.s (CV.str (x41 (Int.toNat x44) 0)))])) (rowsF 1 [(.s (CV.str (x41 (Int.toNat x44) 0)))])) else (LG rec' x38 x39 x40 x41 m (w64 (x44+1)) k0 k1))) else none) else none) else none) else none) else none) else none) else none) else k1)
theorem lG {ρ:Type} (rec' : Nat→FF→Nat→FF→Option Bool) (ok:List ByteArray→Bool) (lv a:Nat) (f:FF) (n:Nat) (g:FF) (ha:a≤1000) (hn:n≤1000)
  (hr:∀ (b:Nat) (h:FF) (m:Nat) (q:FF),b=a+1→m+1=n→rec' b h m q=some (someS ok lv (strs b h) (strs m q))) (c0 k1:Option ρ) :
  ∀ (d i t:Nat),i+d=n→d<t→LG rec' a f n g t (i:Int) (fun _ _ _ _=>c0) k1=bif (List.range' i d).any fun j=>someS ok lv (strs a f ++ [sv g j]) ((strs n g).eraseIdx j) then c0 else k1
 | 0,i,t+1,hi,ht=>by
  unfold LG
  rw [decide_eq_false (by simp only [Int.ofNat_eq_natCast];omega),cond_false]
  rfl
 | d+1,i,t+1,hi,ht=>by
  have hx1:w64 ((i:Int)+1)=((i+1:Nat):Int):=by rw [w64_of (by omega) (by omega)];omega
  have hb:∀ x:Nat,x≤2000→Nat.ble x 1073741824=true:=fun x hx=>Nat.ble_eq_true_of_le (by omega)
  unfold LG
  rw [decide_eq_true (by simp only [Int.ofNat_eq_natCast];omega),cond_true,show inbe (i:Int) n=true by unfold inbe;simp;omega,cond_true,hx1,Int.toNat_natCast,Int.toNat_natCast,
   hb _ (by omega),cond_true,show inbe ((i+1:Nat):Int) n=true by unfold inbe;simp;omega,cond_true,hb _ (by omega),cond_true,hb _ (by omega),cond_true,inb_true (by omega) (by omega),cond_true,hb _ (by omega),cond_true,
   hr _ _ _ _ (by omega) (by omega),ob_some,strs_out g (show i<n by omega),strs_join,strs_copy,List.range'_succ,List.any_cons]
  rw [lG rec' ok lv a f n g ha hn hr c0 k1 d (i+1) t (by omega) (by omega)]
  show (bif someS ok lv (strs a f ++ [sv g i]) ((strs n g).eraseIdx i) then c0 else _)=_
  cases someS ok lv (strs a f ++ [sv g i]) ((strs n g).eraseIdx i)<;>rfl
theorem someS_strs (ok:List ByteArray→Bool) (lv:Nat) (o:List ByteArray) (n:Nat) (g:FF) :
  someS ok (lv+1) o (strs n g)=bif n==0 then ok o else (List.range' 0 n).any fun j=>someS ok lv (o ++ [sv g j]) ((strs n g).eraseIdx j):=by
 rw [someS,show ((strs n g).length==0)=(n==0) by rw [strs_len]]
 cases n with
 | zero=>rfl
 | succ n =>
  rw [show (n+1==0)=false from rfl,cond_false,cond_false,Bool.eq_iff_iff,List.any_eq_true,List.any_eq_true]
  constructor
  ·rintro ⟨i,_,h⟩
   have hi:i.1<n+1:=Nat.lt_of_lt_of_eq i.2 (strs_len ..)
   have e:(strs (n+1) g)[i]=sv g i.1:=by
    show (strs (n+1) g)[i.1]=_
    simp [strs]
   rw [e] at h
   refine ⟨i.1,List.mem_range'_1.2 ⟨Nat.zero_le _,by omega⟩,h⟩
  ·rintro ⟨j,hj,h⟩
   have hj:j<n+1:=by have:=(List.mem_range'_1.1 hj).2;omega
   have hj' : j<(strs (n+1) g).length:=by rw [strs_len];exact hj
   have e:(strs (n+1) g)[j]=sv g j:=by simp [strs]
   refine ⟨⟨j,hj'⟩,List.mem_finRange _,?_⟩
   show someS ok lv (o ++ [(strs (n+1) g)[j]]) _=true
   rw [e]
   exact h
def FG (u:Nat) (ok0:Nat→FF→Option Bool) (rec' : Nat→FF→Nat→FF→Option Bool) (a:Nat) (f:FF) (n:Nat) (g:FF):Option Bool :=
 (bif ((Int.ofNat n)==0) then (ob (ok0 a f) fun x18=>(some x18)) else (LG rec' a f n g u 0 (fun _ _ _ _=>(some true)) (some false)))
theorem fG (u:Nat) (ok0:Nat→FF→Option Bool) (rec' : Nat→FF→Nat→FF→Option Bool) (ok:List ByteArray→Bool) (lv:Nat) (a:Nat) (f:FF) (n:Nat) (g:FF) (ha:a≤1000) (hn:n≤1000) (hu:n<u)
  (h0:n=0→ok0 a f=some (ok (strs a f)))
  (hr:∀ (b:Nat) (h:FF) (m:Nat) (q:FF),b=a+1→m+1=n→rec' b h m q=some (someS ok lv (strs b h) (strs m q))) :
  FG u ok0 rec' a f n g=some (someS ok (lv+1) (strs a f) (strs n g)):=by
 unfold FG
 rw [someS_strs]
 cases n with
 | zero =>
  rw [show (Int.ofNat 0==0)=true from rfl,cond_true,h0 rfl];rfl
 | succ n =>
  rw [show (Int.ofNat (n+1)==0)=false by simp;omega,cond_false,show (n+1==0)=false from rfl,cond_false]
  have:=lG rec' ok lv a f (n+1) g ha hn hr (some true) (some false) (n+1) 0 u (by omega) hu
  refine Eq.trans this ?_
  cases (List.range' 0 (n+1)).any fun j=>someS ok lv (strs a f ++ [sv g j]) ((strs (n+1) g).eraseIdx j)<;>rfl
end Go.Eng.R13
/-
 NeedExists: what erects and some compute.
-/
set_option linter.all false
namespace Go.Eng.R13
open Go Go.RowKit Go.Eng
def erE (B D:List ByteArray) (m:Nat) (f:FF) (k:Nat) (g:FF):Bool:=(List.range' 0 k).any fun j=>readyE (sv g j) B (strs j g) D m f != 0
section
variable {ρ : Type}
theorem l327 (u k:Nat) (g:FF) (s:ByteArray) (a1:Nat) (f1:FF) (a2:Nat) (f2:FF) (a3:Nat) (f3:FF) (a4:Nat) (f4:FF) (m:Nat) (f:FF) (pn:Nat) (pg:FF) (hu:4000≤u) (hk:k≤60) (ha:a1≤60) (hm:m≤60) (hpn:pn≤60)
  (k0 k1:Option ρ):∀ (d i t:Nat),i+d=k→d<t→L327v1 u k g pn pg s a1 f1 a2 f2 a3 f3 a4 f4 m f t (i:Int) k0 k1=bif (List.range' i d).any (fun j=>readyE (sv g j) (bls a1 f1) (strs j g) (strs pn pg) m f != 0) then k0 else k1
 | 0,i,t+1,hi,ht=>by
  unfold L327v1
  rw [decide_eq_false (by simp only [Int.ofNat_eq_natCast];omega),cond_false]
  rfl
 | d+1,i,t+1,hi,ht=>by
  have hx1:w64 ((i:Int)+1)=((i+1:Nat):Int):=by rw [w64_of (by omega) (by omega)];omega
  unfold L327v1
  rw [decide_eq_true (by simp only [Int.ofNat_eq_natCast];omega),cond_true,show inbe (i:Int) k=true by unfold inbe;simp;omega,cond_true,inb_true (by omega) (by omega),cond_true,Int.toNat_natCast,Nat.sub_zero,
   ready263z u s a1 f1 a2 f2 a3 f3 a4 f4 m f i g pn pg _ (by omega) (by omega) (by omega) (by omega) hu,ob_some,hx1,
   l327 u k g s a1 f1 a2 f2 a3 f3 a4 f4 m f pn pg hu hk ha hm hpn k0 k1 d (i+1) t (by omega) (by omega),List.range'_succ,List.any_cons]
  show (bif (readyE (sv g i) (bls a1 f1) (strs i g) (strs pn pg) m f != 0) then k0 else _)=_
  cases (readyE (sv g i) (bls a1 f1) (strs i g) (strs pn pg) m f != 0)<;>rfl
end
theorem erects327 (u k:Nat) (g:FF) (s:ByteArray) (a1:Nat) (f1:FF) (a2:Nat) (f2:FF) (a3:Nat) (f3:FF) (a4:Nat) (f4:FF) (m:Nat) (f:FF) (pn:Nat) (pg:FF) (hu:4000≤u) (hk:k≤60) (ha:a1≤60) (hm:m≤60) (hpn:pn≤60) :
  F327 u s a1 f1 a2 f2 a3 f3 a4 f4 m f k g pn pg=some (!erE (bls a1 f1) (strs pn pg) m f k g):=by
 unfold F327
 refine (l327 u k g s a1 f1 a2 f2 a3 f3 a4 f4 m f pn pg hu hk ha hm hpn (some false) (some true) k 0 u (by omega) (by omega)).trans ?_
 unfold erE
 cases (List.range' 0 k).any fun j=>readyE (sv g j) (bls a1 f1) (strs j g) (strs pn pg) m f != 0<;>rfl
theorem q328b {ρ:Type} (u:Nat) (s:ByteArray) (a1:Nat) (f1:FF) (a2:Nat) (f2:FF) (a3:Nat) (f3:FF) (a4:Nat) (f4:FF) (m:Nat) (f:FF) (pn:Nat) (pg:FF) (a:Nat) (h:FF) (n:Nat) (g:FF) (k0:Nat→FF→FF→FF→Option ρ) (k1:Option ρ):∀ (t:Nat) (x:Int),L328bv1 u a h n g pn pg s a1 f1 a2 f2 a3 f3 a4 f4 m f t x k0 k1=LG (fun b h n g=>F328 u s a1 f1 a2 f2 a3 f3 a4 f4 m f b h n g pn pg) a h n g t x k0 k1
 | 0,_=>rfl
 | t+1,x=>by
  unfold L328bv1 LG
  rw [q328b u s a1 f1 a2 f2 a3 f3 a4 f4 m f pn pg a h n g k0 k1 t]
theorem z328b (u:Nat) (s:ByteArray) (a1:Nat) (f1:FF) (a2:Nat) (f2:FF) (a3:Nat) (f3:FF) (a4:Nat) (f4:FF) (m:Nat) (f:FF) (pn:Nat) (pg:FF) (a:Nat) (h:FF) (n:Nat) (g:FF):F328b u s a1 f1 a2 f2 a3 f3 a4 f4 m f a h n g pn pg=FG u (fun a h=>F327 u s a1 f1 a2 f2 a3 f3 a4 f4 m f a h pn pg) (fun b h n g=>F328 u s a1 f1 a2 f2 a3 f3 a4 f4 m f b h n g pn pg) a h n g:=by
 unfold F328b FG
 rw [q328b]
theorem q328c {ρ:Type} (u:Nat) (s:ByteArray) (a1:Nat) (f1:FF) (a2:Nat) (f2:FF) (a3:Nat) (f3:FF) (a4:Nat) (f4:FF) (m:Nat) (f:FF) (pn:Nat) (pg:FF) (a:Nat) (h:FF) (n:Nat) (g:FF) (k0:Nat→FF→FF→FF→Option ρ) (k1:Option ρ):∀ (t:Nat) (x:Int),L328cv1 u a h n g pn pg s a1 f1 a2 f2 a3 f3 a4 f4 m f t x k0 k1=LG (fun b h n g=>F328b u s a1 f1 a2 f2 a3 f3 a4 f4 m f b h n g pn pg) a h n g t x k0 k1
 | 0,_=>rfl
 | t+1,x=>by
  unfold L328cv1 LG
  rw [q328c u s a1 f1 a2 f2 a3 f3 a4 f4 m f pn pg a h n g k0 k1 t]
theorem z328c (u:Nat) (s:ByteArray) (a1:Nat) (f1:FF) (a2:Nat) (f2:FF) (a3:Nat) (f3:FF) (a4:Nat) (f4:FF) (m:Nat) (f:FF) (pn:Nat) (pg:FF) (a:Nat) (h:FF) (n:Nat) (g:FF):F328c u s a1 f1 a2 f2 a3 f3 a4 f4 m f a h n g pn pg=FG u (fun a h=>F327 u s a1 f1 a2 f2 a3 f3 a4 f4 m f a h pn pg) (fun b h n g=>F328b u s a1 f1 a2 f2 a3 f3 a4 f4 m f b h n g pn pg) a h n g:=by
 unfold F328c FG
 rw [q328c]
theorem q328d {ρ:Type} (u:Nat) (s:ByteArray) (a1:Nat) (f1:FF) (a2:Nat) (f2:FF) (a3:Nat) (f3:FF) (a4:Nat) (f4:FF) (m:Nat) (f:FF) (pn:Nat) (pg:FF) (a:Nat) (h:FF) (n:Nat) (g:FF) (k0:Nat→FF→FF→FF→Option ρ) (k1:Option ρ):∀ (t:Nat) (x:Int),L328dv1 u a h n g pn pg s a1 f1 a2 f2 a3 f3 a4 f4 m f t x k0 k1=LG (fun b h n g=>F328c u s a1 f1 a2 f2 a3 f3 a4 f4 m f b h n g pn pg) a h n g t x k0 k1
 | 0,_=>rfl
 | t+1,x=>by
  unfold L328dv1 LG
  rw [q328d u s a1 f1 a2 f2 a3 f3 a4 f4 m f pn pg a h n g k0 k1 t]
theorem z328d (u:Nat) (s:ByteArray) (a1:Nat) (f1:FF) (a2:Nat) (f2:FF) (a3:Nat) (f3:FF) (a4:Nat) (f4:FF) (m:Nat) (f:FF) (pn:Nat) (pg:FF) (a:Nat) (h:FF) (n:Nat) (g:FF):F328d u s a1 f1 a2 f2 a3 f3 a4 f4 m f a h n g pn pg=FG u (fun a h=>F327 u s a1 f1 a2 f2 a3 f3 a4 f4 m f a h pn pg) (fun b h n g=>F328c u s a1 f1 a2 f2 a3 f3 a4 f4 m f b h n g pn pg) a h n g:=by
 unfold F328d FG
 rw [q328d]
theorem q328e {ρ:Type} (u:Nat) (s:ByteArray) (a1:Nat) (f1:FF) (a2:Nat) (f2:FF) (a3:Nat) (f3:FF) (a4:Nat) (f4:FF) (m:Nat) (f:FF) (pn:Nat) (pg:FF) (a:Nat) (h:FF) (n:Nat) (g:FF) (k0:Nat→FF→FF→FF→Option ρ) (k1:Option ρ):∀ (t:Nat) (x:Int),L328ev1 u a h n g pn pg s a1 f1 a2 f2 a3 f3 a4 f4 m f t x k0 k1=LG (fun b h n g=>F328d u s a1 f1 a2 f2 a3 f3 a4 f4 m f b h n g pn pg) a h n g t x k0 k1
 | 0,_=>rfl
 | t+1,x=>by
  unfold L328ev1 LG
  rw [q328e u s a1 f1 a2 f2 a3 f3 a4 f4 m f pn pg a h n g k0 k1 t]
theorem z328e (u:Nat) (s:ByteArray) (a1:Nat) (f1:FF) (a2:Nat) (f2:FF) (a3:Nat) (f3:FF) (a4:Nat) (f4:FF) (m:Nat) (f:FF) (pn:Nat) (pg:FF) (a:Nat) (h:FF) (n:Nat) (g:FF):F328e u s a1 f1 a2 f2 a3 f3 a4 f4 m f a h n g pn pg=FG u (fun a h=>F327 u s a1 f1 a2 f2 a3 f3 a4 f4 m f a h pn pg) (fun b h n g=>F328d u s a1 f1 a2 f2 a3 f3 a4 f4 m f b h n g pn pg) a h n g:=by
 unfold F328e FG
 rw [q328e]
end Go.Eng.R13
/-
 NeedExists: some finds an order if there is one.
-/
set_option linter.all false
namespace Go.Eng.R13
open Go Go.RowKit Go.Eng
def okL (B D:List ByteArray) (m:Nat) (f:FF) (l:List ByteArray):Bool:=!((List.range' 0 l.length).any fun j=>readyE (l.getD j ByteArray.empty) B (l.take j) D m f != 0)
theorem any_range {n:Nat} {p q:Nat→Bool} (h:∀ i,i<n→p i=q i):(List.range' 0 n).any p=(List.range' 0 n).any q:=by
 rw [Bool.eq_iff_iff,List.any_eq_true,List.any_eq_true]
 constructor
 ·rintro ⟨i,hi,e⟩
  exact ⟨i,hi,by rw [← h i (by have:=(List.mem_range'_1.1 hi).2;omega)];exact e⟩
 ·rintro ⟨i,hi,e⟩
  exact ⟨i,hi,by rw [h i (by have:=(List.mem_range'_1.1 hi).2;omega)];exact e⟩
theorem okL_strs (B D:List ByteArray) (m:Nat) (f:FF) (k:Nat) (g:FF):okL B D m f (strs k g) = !erE B D m f k g:=by
 unfold okL erE
 rw [strs_len]
 congr 1
 refine any_range fun i hi=>?_
 rw [← strs_take g (show i≤k by omega),List.getD_eq_getElem?_getD,strs_at hi]
 rfl
theorem v328 (u:Nat) (s:ByteArray) (a1:Nat) (f1:FF) (a2:Nat) (f2:FF) (a3:Nat) (f3:FF) (a4:Nat) (f4:FF) (m:Nat) (f:FF) (pn:Nat) (pg:FF) (hu:4000≤u) (ha:a1≤60) (hm:m≤60) (hpn:pn≤60) (a:Nat) (h:FF) (n:Nat) (g:FF) (hn:n<1) (hk:a+n≤60):F328 u s a1 f1 a2 f2 a3 f3 a4 f4 m f a h n g pn pg=some (someS (okL (bls a1 f1) (strs pn pg) m f) 1 (strs a h) (strs n g)):=by
 obtain rfl:n=0:=by omega
 unfold F328
 rw [show (Int.ofNat 0==0)=true from rfl,cond_true,erects327 u a h s a1 f1 a2 f2 a3 f3 a4 f4 m f pn pg hu (by omega) ha hm hpn,← okL_strs]
 rfl
theorem v328b (u:Nat) (s:ByteArray) (a1:Nat) (f1:FF) (a2:Nat) (f2:FF) (a3:Nat) (f3:FF) (a4:Nat) (f4:FF) (m:Nat) (f:FF) (pn:Nat) (pg:FF) (hu:4000≤u) (ha:a1≤60) (hm:m≤60) (hpn:pn≤60) (a:Nat) (h:FF) (n:Nat) (g:FF) (hn:n<2) (hk:a+n≤60):F328b u s a1 f1 a2 f2 a3 f3 a4 f4 m f a h n g pn pg=some (someS (okL (bls a1 f1) (strs pn pg) m f) 2 (strs a h) (strs n g)):=by
 rw [z328b]
 exact fG u _ _ _ 1 a h n g (by omega) (by omega) (by omega) (fun _=>by rw [erects327 u a h s a1 f1 a2 f2 a3 f3 a4 f4 m f pn pg hu (by omega) ha hm hpn,← okL_strs])
  (fun b h' n' g' e1 e2=>v328 u s a1 f1 a2 f2 a3 f3 a4 f4 m f pn pg hu ha hm hpn b h' n' g' (by omega) (by omega))
theorem v328c (u:Nat) (s:ByteArray) (a1:Nat) (f1:FF) (a2:Nat) (f2:FF) (a3:Nat) (f3:FF) (a4:Nat) (f4:FF) (m:Nat) (f:FF) (pn:Nat) (pg:FF) (hu:4000≤u) (ha:a1≤60) (hm:m≤60) (hpn:pn≤60) (a:Nat) (h:FF) (n:Nat) (g:FF) (hn:n<3) (hk:a+n≤60):F328c u s a1 f1 a2 f2 a3 f3 a4 f4 m f a h n g pn pg=some (someS (okL (bls a1 f1) (strs pn pg) m f) 3 (strs a h) (strs n g)):=by
 rw [z328c]
 exact fG u _ _ _ 2 a h n g (by omega) (by omega) (by omega) (fun _=>by rw [erects327 u a h s a1 f1 a2 f2 a3 f3 a4 f4 m f pn pg hu (by omega) ha hm hpn,← okL_strs])
  (fun b h' n' g' e1 e2=>v328b u s a1 f1 a2 f2 a3 f3 a4 f4 m f pn pg hu ha hm hpn b h' n' g' (by omega) (by omega))
theorem v328d (u:Nat) (s:ByteArray) (a1:Nat) (f1:FF) (a2:Nat) (f2:FF) (a3:Nat) (f3:FF) (a4:Nat) (f4:FF) (m:Nat) (f:FF) (pn:Nat) (pg:FF) (hu:4000≤u) (ha:a1≤60) (hm:m≤60) (hpn:pn≤60) (a:Nat) (h:FF) (n:Nat) (g:FF) (hn:n<4) (hk:a+n≤60):F328d u s a1 f1 a2 f2 a3 f3 a4 f4 m f a h n g pn pg=some (someS (okL (bls a1 f1) (strs pn pg) m f) 4 (strs a h) (strs n g)):=by
 rw [z328d]
 exact fG u _ _ _ 3 a h n g (by omega) (by omega) (by omega) (fun _=>by rw [erects327 u a h s a1 f1 a2 f2 a3 f3 a4 f4 m f pn pg hu (by omega) ha hm hpn,← okL_strs])
  (fun b h' n' g' e1 e2=>v328c u s a1 f1 a2 f2 a3 f3 a4 f4 m f pn pg hu ha hm hpn b h' n' g' (by omega) (by omega))
theorem v328e (u:Nat) (s:ByteArray) (a1:Nat) (f1:FF) (a2:Nat) (f2:FF) (a3:Nat) (f3:FF) (a4:Nat) (f4:FF) (m:Nat) (f:FF) (pn:Nat) (pg:FF) (hu:4000≤u) (ha:a1≤60) (hm:m≤60) (hpn:pn≤60) (a:Nat) (h:FF) (n:Nat) (g:FF) (hn:n<5) (hk:a+n≤60):F328e u s a1 f1 a2 f2 a3 f3 a4 f4 m f a h n g pn pg=some (someS (okL (bls a1 f1) (strs pn pg) m f) 5 (strs a h) (strs n g)):=by
 rw [z328e]
 exact fG u _ _ _ 4 a h n g (by omega) (by omega) (by omega) (fun _=>by rw [erects327 u a h s a1 f1 a2 f2 a3 f3 a4 f4 m f pn pg hu (by omega) ha hm hpn,← okL_strs])
  (fun b h' n' g' e1 e2=>v328d u s a1 f1 a2 f2 a3 f3 a4 f4 m f pn pg hu ha hm hpn b h' n' g' (by omega) (by omega))
theorem some328 (u:Nat) (s:ByteArray) (a1:Nat) (f1:FF) (a2:Nat) (f2:FF) (a3:Nat) (f3:FF) (a4:Nat) (f4:FF) (m:Nat) (f:FF) (pn:Nat) (pg:FF) (hu:4000≤u) (ha:a1≤60) (hm:m≤60) (hpn:pn≤60) (h:FF) (n:Nat) (g:FF) (hn:n≤4):∃ b,F328e u s a1 f1 a2 f2 a3 f3 a4 f4 m f 0 h n g pn pg=some b∧(b=true↔∃ p,List.Perm p (strs n g)∧okL (bls a1 f1) (strs pn pg) m f p=true):=by
 refine ⟨_,v328e u s a1 f1 a2 f2 a3 f3 a4 f4 m f pn pg hu ha hm hpn 0 h n g (by omega) (by omega),?_⟩
 rw [someS_iff _ 5 _ _ (by rw [strs_len];omega)]
 exact Iff.rfl
end Go.Eng.R13
/-
 NeedExists: an order that can be erected,and the search for an order.
-/
set_option linter.all false
namespace Go.Eng.R13
open Go Go.RowKit Go.Eng
def posn (p:List ByteArray) (s:ByteArray):Nat:=p.findIdx fun x=>decide (x=s)
theorem posn_lt {p:List ByteArray} {s:ByteArray} (h:s∈p):posn p s<p.length:=List.findIdx_lt_length_of_exists ⟨s,h,decide_eq_true rfl⟩
theorem posn_at {p:List ByteArray} {s:ByteArray} (h:s∈p):p.getD (posn p s) ByteArray.empty=s:=by
 have hl:=posn_lt h
 have:=List.findIdx_getElem (w:=hl)
 rw [List.getD_eq_getElem?_getD,List.getElem?_eq_getElem hl]
 exact of_decide_eq_true this
theorem posn_le {p:List ByteArray} {s:ByteArray} {j:Nat} (h:s∈p.take j):posn p s<j:=by
 obtain ⟨i,hi,e⟩:=List.getElem_of_mem h
 rw [List.getElem_take] at e
 rw [List.length_take] at hi
 rcases Nat.lt_or_ge i (posn p s) with q | q
 ·have:=List.not_of_lt_findIdx q
  rw [decide_eq_true e] at this
  cases this
 ·omega
theorem mem_take_posn {p:List ByteArray} {s:ByteArray} {j:Nat} (h:s∈p) (hj:posn p s<j):s∈p.take j:=by
 have hl:=posn_lt h
 have e:=posn_at h
 rw [List.getD_eq_getElem?_getD,List.getElem?_eq_getElem hl] at e
 have e:p[posn p s]=s:=e
 rw [List.mem_iff_getElem]
 exact ⟨posn p s,by rw [List.length_take];omega,by rw [List.getElem_take];exact e⟩
theorem okL_at {B D:List ByteArray} {m:Nat} {f:FF} {p:List ByteArray} (h:okL B D m f p=true) {s:ByteArray} (hs:s∈p):readyE s B (p.take (posn p s)) D m f=0:=by
 unfold okL at h
 rw [Bool.not_eq_true',List.any_eq_false] at h
 have:=h (posn p s) (List.mem_range'_1.2 ⟨Nat.zero_le _,by have:=posn_lt hs;omega⟩)
 rw [posn_at hs] at this
 simpa using this
theorem no_order {a1:Nat} {f1:FF} {m:Nat} {f:FF} {nb:Nat} {bg:FF} {D:List ByteArray} (hA:AscS a1 f1) (h0:∀ s,s∈bls a1 f1→s≠ByteArray.empty) (hb:strs nb bg=bls a1 f1)
  {ke:Nat} {ge:FF} (hp:prs ke ge=edgesL m f (sv bg) nb (List.range nb)) (hr:run nb ke ge nb []=none) {p:List ByteArray} (hpp:List.Perm p (strs nb bg)) (hok:okL (bls a1 f1) D m f p=true):False:=by
 have hnd:(strs nb bg).Nodup:=by rw [hb];exact bls_nodup hA
 refine run_fwd (N:=nb) (m:=ke) (f:=ge) (fun v=>posn p (sv bg v)) ?_ nb [] (by simp) hr
 intro i hi
 have hm:(ea ge i,eb ge i)∈prs ke ge:=List.mem_map.2 ⟨i,List.mem_range.2 hi,rfl⟩
 rw [hp,mem_edges] at hm
 obtain ⟨a,b,ha,hbn,hab,h4,hc⟩:=hm
 have e1:ea ge i=(a:Int):=congrArg Prod.fst h4
 have e2:eb ge i=(b:Int):=congrArg Prod.snd h4
 have e3:(ea ge i).toNat=a:=by omega
 refine ⟨by omega,fun v hv=>?_⟩
 obtain rfl:v=b:=by omega
 rw [e3]
 show posn p (sv bg a)<posn p (sv bg v)
 have hma:sv bg a∈p:=hpp.mem_iff.2 (mem_strs.2 ⟨a,ha,rfl⟩)
 have hmb:sv bg v∈p:=hpp.mem_iff.2 (mem_strs.2 ⟨v,hbn,rfl⟩)
 have hne:sv bg a≠sv bg v:=fun e=>hab (inj_nodup hnd ha hbn e)
 unfold comes at hc
 obtain ⟨r,hr,hc⟩:=List.any_eq_true.1 hc
 have hr:=List.mem_range.1 hr
 unfold cmR at hc
 simp only [Bool.or_eq_true,Bool.and_eq_true,decide_eq_true_eq] at hc
 rcases hc with ⟨c1,c2,c3⟩ | ⟨c1,c2,c3⟩
 ·have:=opens_nil.1 (ready_zero.1 (okL_at hok hmb)).2.2 r hr c2
  unfold metB at this
  rw [decide_eq_true c1,cond_true,c3,Bool.or_eq_true,decide_eq_true_eq,hasB_iff] at this
  rcases this with h | h
  ·exact (h0 _ (by rw [← hb];exact mem_strs.2 ⟨a,ha,rfl⟩) h).elim
  ·exact posn_le h
 ·have:=opens_nil.1 (ready_zero.1 (okL_at hok hma)).2.2 r hr c2
  unfold metB at this
  rw [decide_eq_false (by omega),cond_false,decide_eq_true c1,cond_true,c3,Bool.not_eq_true'] at this
  rcases Nat.lt_trichotomy (posn p (sv bg a)) (posn p (sv bg v)) with q | q | q
  ·exact q
  ·have w1:=posn_at hma
   rw [q,posn_at hmb] at w1
   exact (hne w1.symm).elim
  ·have:hasB (sv bg v) (p.take (posn p (sv bg a)))=true:=hasB_iff.2 (mem_take_posn hmb q)
   simp_all
theorem order_perm {nb ke:Nat} {ge bg:FF} {k:Nat} {g:FF} {l:List Nat} (hg:Good (nb:Int) ke ge) (hr:run nb ke ge nb []=some l) (hs:strs k g=l.map (sv bg)):List.Perm (strs k g) (strs nb bg):=by
 obtain ⟨hlen,hT⟩:=topo_of (fun i hi=>(hg i hi).1) hr
 rw [hs]
 unfold strs
 refine List.Perm.map _ ?_
 have hat:∀ i (h:i<l.length),l[i]=l.getD i 0:=fun i h=>by rw [List.getD_eq_getElem?_getD,List.getElem?_eq_getElem h];rfl
 refine (List.perm_ext_iff_of_nodup ?_ List.nodup_range).2 fun v=>?_
 ·unfold List.Nodup
  rw [List.pairwise_iff_getElem]
  intro i j hi hj hij e
  rw [hat,hat] at e
  have:=hT.inj i j (by omega) (by omega) e
  omega
 ·rw [List.mem_range]
  constructor
  ·intro h
   obtain ⟨i,hi,e⟩:=List.getElem_of_mem h
   rw [← e,hat]
   exact hT.lt i (by omega)
  ·intro h
   obtain ⟨i,hi,e⟩:=hT.all v h
   have e:l.getD i 0=v:=e
   rw [← e,← hat i (by omega)]
   exact List.getElem_mem _
end Go.Eng.R13
/-
 NeedExists: the law.
-/
set_option linter.all false
namespace Go.Eng.R13
open Go Go.RowKit Go.Eng
theorem noName:F301 4000000 ByteArray.empty=some false:=by kernel_rfl
theorem exists51 (x1:ByteArray) (x2:Nat) (x3:FF) (x4:Nat) (x5:FF) (x6:Nat) (x7:FF) (x8:Nat) (x9:FF) (x10:Nat) (x11:FF) (x12:Nat) (x13:FF) (x14:Nat) (x15:FF) (s1:x1.size≤1048575)
  (g0:SlU (.pr .str (.pr (.int .i64) (.pr .str .nil))) x2 x3) (g1:SlU kR0 x4 x5) (g2:SlU (.pr .str (.pr .str (.pr .str (.pr (.int .i64) (.pr (.int .i64) (.pr (.int .i64) .nil)))))) x6 x7)
  (g3:SlU (.pr .str (.pr .str (.pr (.sl (.pr .str .nil)) (.pr (.int .i64) (.pr (.sl (.pr .str .nil)) .nil))))) x8 x9) (g4:SlU (.pr (.int .i64) (.pr .str (.pr .str .nil))) x10 x11)
  (g5:SlU (.pr .str (.pr (.int .i64) (.pr (.int .i64) (.pr (.sl (.pr (.int .i64) .nil)) .nil)))) x12 x13) (g6:SlU (.pr .str (.pr (.int .i64) (.pr (.int .i64) (.pr (.int .i64) .nil)))) x14 x15) :
  F329 4000000 x1 x2 x3 x4 x5 x6 x7 x8 x9 x10 x11 x12 x13 x14 x15=some true:=by
 unfold F329
 have z0:=g0.1
 have z1:=g1.1
 have z2:=g2.1
 have z3:=g3.1
 have z4:=g4.1
 obtain ⟨b,e1,hb⟩:=TF268 4000000 (Nat.le_refl _) x1 x2 x3 x4 x5 x6 x7 x8 x9 x10 x11 40 (by omega) (by omega) (by omega) (by omega) (by omega)
 rw [e1,ob_some]
 cases b with
 | false=>rw [show ((!false)==false)=false from rfl,cond_false,awake_big];rfl
 | true =>
  obtain ⟨w1,w2,w3,w4,w5,w6⟩:=hb rfl
  rw [show ((!true)==false)=true from rfl,cond_true]
  obtain ⟨r,e2,hr⟩:=TF324 4000000 (Nat.le_refl _) x1 x2 x3 x4 x5 x6 x7 x8 x9 x10 x11 x12 x13 x14 x15 g0 g1 g2 g3 g4 g5 g6 (by omega) (fun i hi=>by have:=w6 i hi;omega) s1
  rw [e2,ob_some]
  by_cases hr0:r=0
  ·obtain ⟨hI,hA,hN⟩:=hr hr0
   rw [show ((r != 0)==false)=true by simp [hr0],cond_true]
   obtain ⟨nb,bg,k,g,c,o1,o2,o3,o4,o5⟩:=order277 4000000 x1 x2 x3 x4 x5 x6 x7 x8 x9 x10 x11 (by omega) (by omega) (by omega)
   rw [o1,ob_some]
   dsimp only
   by_cases h4:nb≤4
   ·rw [decide_eq_false (show ¬ Int.ofNat nb>4 by simp only [Int.ofNat_eq_natCast];omega),cond_false,o4,ob_some,ob_some]
    dsimp only
    obtain ⟨pg,p1,p2⟩:=l325 4000000 x1 x2 x3 x4 x5 x6 x7 x8 x9 x10 x11 (by omega) (fun x39 x40=>(some (x39,x40))) x8 0 4000000 (fun _ _=>.any) (by omega) (by omega) (fun j hj=>absurd hj (Nat.not_lt_zero j))
    rw [show F325 4000000 x1 x2 x3 x4 x5 x6 x7 x8 x9 x10 x11=some (x8,pg) from p2,ob_some]
    dsimp only
    obtain ⟨b,q1,q2⟩:=some328 4000000 x1 x2 x3 x4 x5 x6 x7 x8 x9 x10 x11 x8 pg (by omega) (by omega) (by omega) (by omega) (fun _ _=>.any) nb bg h4
    rw [q1,ob_some]
    have hbc:b=(c==0):=by
     rcases o5 with ⟨rfl,rfl,ke,ge,u1,u2,u3⟩ | ⟨o5,rfl⟩
     ·rw [Bool.eq_iff_iff,q2]
      constructor
      ·rintro ⟨p,v1,v2⟩
       refine (no_order hA ?_ o3 u1 u3 v1 v2).elim
       intro s hs e
       unfold bls at hs
       obtain ⟨j,hj,rfl⟩:=List.mem_map.1 hs
       have hj:=List.mem_range.1 (List.mem_filter.1 hj).1
       have:=hI j hj
       rw [show CV.str (x3 j 0)=ByteArray.empty from e,noName] at this
       cases this
      ·intro h;cases h
     ·cases o5 with
      | bad _ _ _ _ _ h=>exact (h rfl).elim
      | good ke ge go l v1 v2 v3 v4 v5 v6 =>
       subst v5
       show b=true
       rw [q2]
       refine ⟨strs k g,order_perm v2 v3 v6,?_⟩
       rw [okL_strs,Bool.not_eq_true',erE,List.any_eq_false]
       intro j hj
       have hj:j<k:=by have:=(List.mem_range'_1.1 hj).2;omega
       rw [ready_turn hA hN o3 v1 v2 v3 rfl v6 p1 hj]
       exact Bool.false_ne_true
    rw [hbc,show ((c==0)==(c==0))=true by simp]
    rw [show (true==true)=true from rfl,cond_true,awake_big];rfl
   ·rw [decide_eq_true (show Int.ofNat nb>4 by simp only [Int.ofNat_eq_natCast];omega),cond_true,awake_big];rfl
  ·rw [show ((r != 0)==false)=false by simp [hr0],cond_false,awake_big];rfl
end Go.Eng.R13
