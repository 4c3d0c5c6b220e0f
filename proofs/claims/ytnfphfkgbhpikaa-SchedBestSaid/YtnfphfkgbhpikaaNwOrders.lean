/-
 Several texts in one.
-/
import Derived.Test.YtnfphfkgbhpikaaDyBase
import Derived.Test.YtnfphfkgbhpikaaNdBase
/-
 NeedOrders: Edges and Order return what is specified.
-/
set_option linter.all false
namespace Go.Eng.R13
open Go Go.RowKit Go.Eng
def Ends (m:Nat) (f f' : FF):Prop:=∀ i,i<m→ea f i=ea f' i∧eb f i=eb f' i
theorem errE_congr {n:Int} {f f' : FF}:∀ (d i:Nat),(∀ j,i≤j→j<i+d→ea f j=ea f' j∧eb f j=eb f' j)→errE n f i d=errE n f' i d
 | 0,i,h=>rfl
 | d+1,i,h=>by
  unfold errE
  obtain ⟨h1,h2⟩:=h i (Nat.le_refl _) (by omega)
  rw [h1,h2,errE_congr d (i+1) fun j hj1 hj2=>h j (by omega) (by omega)]
theorem run_congr {N m:Nat} {f f' : FF} (h:Ends m f f'):∀ (d:Nat) (out:List Nat),run N m f d out=run N m f' d out:=by
 have hw:∀ out v,waits m f out v=waits m f' out v:=fun out v=>by
  rw [Bool.eq_iff_iff,waits_iff,waits_iff]
  exact ⟨fun ⟨i,h1,h2,h3⟩=>⟨i,h1,(h i h1).2 ▸ h2,(h i h1).1 ▸ h3⟩,fun ⟨i,h1,h2,h3⟩=>⟨i,h1,(h i h1).2.symm ▸ h2,(h i h1).1.symm ▸ h3⟩⟩
 have hn:∀ out,next N m f out=next N m f' out:=fun out=>by
  unfold next
  exact find_congr fun v _=>by unfold free;rw [hw]
 intro d
 induction d with
 | zero=>intro out;rfl
 | succ d ih =>
  intro out
  unfold run
  rw [hn]
  cases next N m f' out with
  | none=>rfl
  | some v=>exact ih _
theorem OrdR.congr {n:Int} {m:Nat} {f f' : FF} (h:Ends m f f') {k:Nat} {g:FF} {c:Int} (ho:OrdR n m f k g c):OrdR n m f' k g c:=by
 have he:errE n f 0 m=errE n f' 0 m:=errE_congr m 0 fun j _ hj=>h j (by omega)
 have hG:Good n m f→Good n m f':=fun hg i hi=>by rw [← (h i hi).1,← (h i hi).2];exact hg i hi
 cases ho with
 | range _ h1=>exact .range _ h1
 | bad _ h1 h2=>rw [he] at h2 ⊢;exact .bad _ h1 h2
 | cycle _ h1 h2 h3=>exact .cycle _ h1 (hG h2) (by rw [← run_congr h];exact h3)
 | order _ l h1 h2 h3 h4=>exact .order _ l h1 (hG h2) (by rw [← run_congr h];exact h3) h4
theorem ends_of {k k' : Nat} {g g' : FF} (h:prs k g=prs k' g'):k=k'∧Ends k g g':=by
 have h1:k=k':=by rw [← prs_len k g,← prs_len k' g',h]
 subst h1
 refine ⟨rfl,fun i hi=>?_⟩
 have:=prs_at (g:=g) hi
 rw [h,prs_at hi] at this
 simp only [Option.some.injEq,Prod.mk.injEq] at this
 exact ⟨this.1.symm,this.2.symm⟩
theorem run_lt {N m:Nat} {f:FF}:∀ (d:Nat) (out l:List Nat),run N m f d out=some l→(∀ v,v∈out→v<N)→∀ v,v∈l→v<N
 | 0,out,l,h,ho=>by
  unfold run at h
  cases h
  exact ho
 | d+1,out,l,h,ho=>by
  unfold run at h
  cases hq:next N m f out with
  | none=>rw [hq] at h;cases h
  | some v =>
   rw [hq] at h
   exact run_lt d _ l h fun w hw=>by
    rcases List.mem_append.1 hw with hw | hw
    ·exact ho w hw
    ·rw [List.mem_singleton] at hw;subst hw;exact (next_some hq).1
section
variable {ρ : Type}
theorem l277 (u nb:Nat) (bg:FF) (k:Nat) (g g2:FF) (p:Nat→Nat) (hk:k≤1000) (hg:∀ i,i<k→iv g i=(p i:Int)) (hg2:∀ i,i<k→iv g2 i=(p i:Int)) (hp:∀ i,i<k→p i<nb)
  (s:ByteArray) (a1:Nat) (f1:FF) (a2:Nat) (f2:FF) (a3:Nat) (f3:FF) (a4:Nat) (f4:FF) (a5:Nat) (f5:FF) (k0 k1:Nat→FF→Option ρ) :
  ∀ (d i t:Nat) (x:Int) (kk:Nat) (acc:FF),x=(i:Int)→i+d=k→d<t→kk≤i →
  ∃ k' g',k' = kk+d∧strs k' g' = strs kk acc ++ (List.range' i d).map (fun i=>sv bg (p i)) ∧
   L277v1 u nb bg k g (Int.ofNat k) s a1 f1 a2 f2 a3 f3 a4 f4 a5 f5 t kk x acc k0=k0 k' g'∧L255v1 u nb bg k g2 s a1 f1 a2 f2 a3 f3 a4 f4 a5 f5 t kk x acc k1=k1 k' g'
 | 0,i,t+1,x,kk,acc,hx,hi,ht,hkk=>by
  have h1:decide (x<Int.ofNat k)=false:=decide_eq_false (by simp only [Int.ofNat_eq_natCast];omega)
  refine ⟨kk,acc,rfl,by simp,?_,?_⟩
  ·unfold L277v1;rw [h1,cond_false]
  ·unfold L255v1;rw [h1,cond_false]
 | d+1,i,t+1,x,kk,acc,hx,hi,ht,hkk=>by
  have h1:decide (x<Int.ofNat k)=true:=decide_eq_true (by simp only [Int.ofNat_eq_natCast];omega)
  have h2:inb x k=true:=inb_true (by omega) (by omega)
  have h3:Int.toNat x=i:=by omega
  have hx1:w64 (x+1)=((i+1:Nat):Int):=by rw [w64_of (by omega) (by omega)];omega
  have h4:Nat.ble (kk+1) 1073741824=true:=by simp;omega
  have e1:CV.int (g i 0)=(p i:Int):=hg i (by omega)
  have e2:CV.int (g2 i 0)=(p i:Int):=hg2 i (by omega)
  have h5:inb (p i:Int) nb=true:=inb_true (by omega) (by have:=hp i (by omega);omega)
  have h6:Int.toNat (p i:Int)=p i:=by omega
  obtain ⟨k',g',b1,b2,b3,b4⟩:=l277 u nb bg k g g2 p hk hg hg2 hp s a1 f1 a2 f2 a3 f3 a4 f4 a5 f5 k0 k1 d (i+1) t (w64 (x+1)) (kk+1) (joinF kk acc (rowsF 1 [.s (CV.str (bg (p i) 0))])) hx1 (by omega) (by omega) (by omega)
  refine ⟨k',g',by omega,?_,?_,?_⟩
  ·rw [b2,strs_join,List.range'_succ,List.map_cons,List.append_assoc];rfl
  ·unfold L277v1
   rw [h1,cond_true,h2,cond_true,h3,e1,h5,cond_true,h4,cond_true,h6]
   exact b3
  ·unfold L255v1
   rw [h1,cond_true,h2,cond_true,h3,e2,h5,cond_true,h4,cond_true,h6]
   exact b4
end
inductive NOrd (m:Nat) (f:FF) (nb:Nat) (bg:FF) (k:Nat) (g:FF) (c:Int):Prop
 | bad (ke:Nat) (ge go:FF) (hp:prs ke ge=edgesL m f (sv bg) nb (List.range nb)) (ho:OrdR (nb:Int) ke ge 0 go c) (hc:c≠0) (hk:k=0)
 | good (ke:Nat) (ge go:FF) (l:List Nat) (hp:prs ke ge=edgesL m f (sv bg) nb (List.range nb)) (hg:Good (nb:Int) ke ge) (hr:run nb ke ge nb []=some l) (hc:c=0) (hk:k=nb) (hs:strs k g=l.map (sv bg))
structure NOut (u:Nat) (s:ByteArray) (a1:Nat) (f1:FF) (a2:Nat) (f2:FF) (a3:Nat) (f3:FF) (a4:Nat) (f4:FF) (m:Nat) (f:FF) (nb:Nat) (bg:FF) (ke:Nat) (ge ge' : FF) (k:Nat) (g:FF) (c:Int):Prop where
 bl:F252 u s a1 f1 a2 f2 a3 f3 a4 f4 m f=some (nb,bg)
 le:nb≤a1
 bls:strs nb bg=bls a1 f1
 e1:F276 u s a1 f1 a2 f2 a3 f3 a4 f4 m f=some (ke,ge)
 e2:F254 u s a1 f1 a2 f2 a3 f3 a4 f4 m f=some (ke,ge')
 kle:ke≤nb*nb
 ends:Ends ke ge ge'
 prs:prs ke ge=edgesL m f (sv bg) nb (List.range nb)
 len:k≤60
 o1:F277 u s a1 f1 a2 f2 a3 f3 a4 f4 m f=some (k,g,c)
 o2:F255 u s a1 f1 a2 f2 a3 f3 a4 f4 m f=some (k,g,c)
 out:NOrd m f nb bg k g c
theorem OrdR.ok {n:Int} {m:Nat} {f:FF} {k:Nat} {g:FF} {c:Int} (h:OrdR n m f k g c) (hc:c=0):∃ l,0≤n∧Good n m f∧run (Int.toNat n) m f (Int.toNat n) []=some l∧k=Int.toNat n∧∀ i,i<Int.toNat n→iv g i=((l.getD i 0:Nat):Int):=by
 cases h with
 | range=>cases hc
 | bad _ _ h=>exact absurd hc h
 | cycle=>cases hc
 | order _ l h1 h2 h3 h4=>exact ⟨l,h1.1,h2,h3,rfl,h4⟩
theorem orders277 (u:Nat) (s:ByteArray) (a1:Nat) (f1:FF) (a2:Nat) (f2:FF) (a3:Nat) (f3:FF) (a4:Nat) (f4:FF) (m:Nat) (f:FF) (hm:m≤1000) (ha:a1≤60) (hu:4000≤u) :
  ∃ nb bg ke ge ge' k g c,NOut u s a1 f1 a2 f2 a3 f3 a4 f4 m f nb bg ke ge ge' k g c:=by
 obtain ⟨nb,bg,k2,g2,e1,e2,e3,e4,e5,e6⟩:=edges254 u s a1 f1 a2 f2 a3 f3 a4 f4 m f (by omega) (by omega) (by omega) (by omega)
 obtain ⟨k1,g1,d1,d2,d3⟩:=edges276 u s a1 f1 a2 f2 a3 f3 a4 f4 m f (by omega) (by omega) (by omega) (by omega) e1 e3
 obtain ⟨hk,hends⟩:=ends_of (d3.trans e6.symm)
 subst hk
 have hke:k1≤3600:=by
  have:nb*nb≤60*60:=Nat.mul_le_mul (by omega) (by omega)
  omega
 obtain ⟨ko,go,c,o1,o2⟩:=order225 u (Int.ofNat nb) k1 g1 (by omega) (by omega) (by omega)
 obtain ⟨ko',go',c',o1',o2'⟩:=order229 u (Int.ofNat nb) k1 g2 (by omega) (by omega) (by omega)
 have o2'' : OrdR (Int.ofNat nb) k1 g1 ko' go' c':=o2'.congr fun i hi=>⟨(hends i hi).1.symm,(hends i hi).2.symm⟩
 obtain ⟨q1,q2,q3⟩:=o2.same o2''
 subst q1 q2
 have big:∀ k g,F277 u s a1 f1 a2 f2 a3 f3 a4 f4 m f=some (k,g,c)→F255 u s a1 f1 a2 f2 a3 f3 a4 f4 m f=some (k,g,c)→k≤60→NOrd m f nb bg k g c→∃ nb bg ke ge ge' k g c,NOut u s a1 f1 a2 f2 a3 f3 a4 f4 m f nb bg ke ge ge' k g c :=
  fun k g h1 h2 h3 h4=>⟨nb,bg,k1,g1,g2,k,g,c,e1,e3,e2,d1,e4,d2,hends,d3,h3,h1,h2,h4⟩
 cases hc:(c != 0) with
 | true =>
  have hc0:c≠0:=by simpa using hc
  refine big 0 (fun _ _=>.any) ?_ ?_ (by omega) (.bad k1 g1 go d3 ?_ hc0 rfl)
  ·unfold F277 FT277
   rw [blocks251,e1,ob_some]
   dsimp only
   rw [d1,ob_some]
   dsimp only
   rw [o1,ob_some]
   dsimp only
   rw [hc,cond_true,ob_some]
   rfl
  ·unfold F255 FT255
   rw [e1,ob_some,e4,ob_some]
   dsimp only
   rw [o1',ob_some]
   dsimp only
   rw [hc,cond_true,ob_some]
   rfl
  ·have:ko=0:=by cases o2<;>first | rfl | exact absurd rfl hc0
   subst this
   exact o2
 | false =>
  have hc0:c=0:=by simpa using hc
  subst hc0
  have hord:∃ l,Good (nb:Int) k1 g1∧run nb k1 g1 nb []=some l∧ko=nb∧∀ i,i<nb→iv go i=((l.getD i 0:Nat):Int):=by
   obtain ⟨l,_,h2,h3,h4,h5⟩:=o2.ok rfl
   exact ⟨l,h2,h3,h4,h5⟩
  obtain ⟨l,r1,r2,r3,r4⟩:=hord
  subst r3
  have hlen:l.length=ko:=by have:=run_len ko [] l r2;simpa using this
  have hlt:∀ i,i<ko→l.getD i 0<ko:=fun i hi=>by
   rw [List.getD_eq_getElem?_getD,List.getElem?_eq_getElem (by omega)]
   exact run_lt ko [] l r2 (by simp) _ (List.getElem_mem _)
  obtain ⟨k',g',b1,b2,b3,b4⟩:=l277 (ρ:=Bool × Nat × FF × Int) u ko bg ko go go' (fun i=>l.getD i 0) (by omega) r4 (fun i hi=>by rw [← q3 i hi];exact r4 i hi) hlt s a1 f1 a2 f2 a3 f3 a4 f4 m f (fun x52 x53=>(some (false,x52,x53,0))) (fun x50 x51=>(some (false,x50,x51,0))) ko 0 u 0 0 (fun _ _=>.any) rfl (by omega) (by omega) (Nat.le_refl _)
  have hk' : k' = ko:=by omega
  refine big k' g' ?_ ?_ (by omega) (.good k1 g1 go l d3 r1 r2 rfl hk' ?_)
  ·unfold F277 FT277
   rw [blocks251,e1,ob_some]
   dsimp only
   rw [d1,ob_some]
   dsimp only
   rw [o1,ob_some]
   dsimp only
   rw [hc,cond_false]
   rw [show L277v1 (ρ:=Bool × Nat × FF × Int) u ko bg ko go (Int.ofNat ko) s a1 f1 a2 f2 a3 f3 a4 f4 m f u 0 0 (fun _ _=>.any) (fun x52 x53=>(some (false,x52,x53,0)))=_ from b3,ob_some]
   rfl
  ·unfold F255 FT255
   rw [e1,ob_some,e4,ob_some]
   dsimp only
   rw [o1',ob_some]
   dsimp only
   rw [hc,cond_false]
   rw [show L255v1 (ρ:=Bool × Nat × FF × Int) u ko bg ko go' s a1 f1 a2 f2 a3 f3 a4 f4 m f u 0 0 (fun _ _=>.any) (fun x50 x51=>(some (false,x50,x51,0)))=_ from b4,ob_some]
   rfl
  ·rw [b2,← List.range_eq_range']
   show [] ++ _=_
   rw [List.nil_append]
   apply List.ext_getElem?
   intro i
   rw [List.getElem?_map,List.getElem?_map]
   by_cases hi:i<ko
   ·rw [List.getElem?_range hi,List.getElem?_eq_getElem (by omega)]
    simp only [Option.map_some]
    rw [List.getD_eq_getElem?_getD,List.getElem?_eq_getElem (by omega)];rfl
   ·rw [List.getElem?_eq_none (by simp;omega),List.getElem?_eq_none (by omega)];rfl
end Go.Eng.R13
/-
 sched: places in lists,the check of jobs.
-/
set_option linter.all false
namespace Go.Eng.R13
open Go Go.RowKit Go.Eng
def fidx (p:Nat→Bool):Nat→Nat→Int
 | 0,_=>-1
 | d+1,i=>bif p i then (i:Int) else fidx p d (i+1)
theorem fidx_cases (p:Nat→Bool):∀ d i,(fidx p d i = -1∧∀ j,i≤j→j<i+d→p j=false)∨∃ j,i≤j∧j<i+d∧fidx p d i=(j:Int)∧p j=true∧∀ k,i≤k→k<j→p k=false
 | 0,i=>.inl ⟨rfl,fun j h1 h2=>by omega⟩
 | d+1,i=>by
  unfold fidx
  cases q:p i with
  | true=>exact .inr ⟨i,Nat.le_refl _,by omega,rfl,q,fun k h1 h2=>by omega⟩
  | false =>
   rw [cond_false]
   rcases fidx_cases p d (i+1) with ⟨h1,h2⟩ | ⟨j,h1,h2,h3,h4,h5⟩
   ·refine .inl ⟨h1,fun j hj1 hj2=>?_⟩
    by_cases hj:j=i
    ·rw [hj];exact q
    ·exact h2 j (by omega) (by omega)
   ·refine .inr ⟨j,by omega,by omega,h3,h4,fun k hk1 hk2=>?_⟩
    by_cases hk:k=i
    ·rw [hk];exact q
    ·exact h5 k (by omega) hk2
def nix (k:Nat) (g:FF) (s:ByteArray):Int:=fidx (fun i=>decide (sv g i=s)) k 0
theorem nix_cases (k:Nat) (g:FF) (s:ByteArray):(nix k g s = -1∧∀ j,j<k→sv g j≠s)∨∃ j,j<k∧nix k g s=(j:Int)∧sv g j=s∧∀ i,i<j→sv g i≠s:=by
 rcases fidx_cases (fun i=>decide (sv g i=s)) k 0 with ⟨h1,h2⟩ | ⟨j,h1,h2,h3,h4,h5⟩
 ·exact .inl ⟨h1,fun j hj=>of_decide_eq_false (h2 j (by omega) (by omega))⟩
 ·exact .inr ⟨j,by omega,h3,of_decide_eq_true h4,fun i hi=>of_decide_eq_false (h5 i (by omega) hi)⟩
theorem nix_neg {k:Nat} {g:FF} {s:ByteArray}:nix k g s<0↔∀ j,j<k→sv g j≠s:=by
 rcases nix_cases k g s with ⟨h1,h2⟩ | ⟨j,h1,h2,h3,h4⟩
 ·exact ⟨fun _=>h2,fun _=>by omega⟩
 ·exact ⟨fun h=>by omega,fun h=>absurd h3 (h j h1)⟩
theorem nix_has (k:Nat) (g:FF) (s:ByteArray):decide (nix k g s<0) = !hasB s (strs k g):=by
 have h:hasB s (strs k g)=true↔¬ nix k g s<0:=by
  rw [hasB_iff,mem_strs,nix_neg]
  constructor
  ·rintro ⟨i,h1,h2⟩ h3;exact h3 i h1 h2
  ·intro h3
   exact Classical.byContradiction fun h4=>h3 fun j hj he=>h4 ⟨j,hj,he⟩
 cases q:hasB s (strs k g) with
 | true=>exact decide_eq_false (h.1 q)
 | false=>exact decide_eq_true (Classical.byContradiction fun h2=>by rw [h.2 h2] at q;cases q)
section
variable {ρ : Type} (u : Nat) (k : Nat) (g : FF) (s : ByteArray)
theorem l361 (hk:k≤1000000) (k0:Int→Option ρ) (k1:Option ρ):∀ (d i t:Nat) (x:Int),x=(i:Int)→i+d=k→d<t →
  L361v1 u k g s t x k0 k1=bif decide (fidx (fun i=>decide (sv g i=s)) d i<0) then k1 else k0 (fidx (fun i=>decide (sv g i=s)) d i)
 | 0,i,t+1,x,hx,hi,ht=>by
  unfold L361v1
  rw [show decide (x<Int.ofNat k)=false from decide_eq_false (by simp only [Int.ofNat_eq_natCast];omega),cond_false];rfl
 | d+1,i,t+1,x,hx,hi,ht=>by
  have h1:decide (x<Int.ofNat k)=true:=decide_eq_true (by simp only [Int.ofNat_eq_natCast];omega)
  have h2:inb x k=true:=inb_true (by omega) (by omega)
  have h3:Int.toNat x=i:=by omega
  have hx1:w64 (x+1)=((i+1:Nat):Int):=by rw [w64_of (by omega) (by omega)];omega
  unfold L361v1 fidx
  rw [h1,cond_true,h2,cond_true,h3,tl_eq]
  cases q:decide (CV.str (g i 0)=s) with
  | true=>rw [cond_true,cond_true,show decide ((i:Int)<0)=false from decide_eq_false (by omega),cond_false,hx]
  | false=>rw [cond_false,cond_false];exact l361 hk k0 k1 d (i+1) t _ hx1 (by omega) (by omega)
theorem nix_end:(bif decide (nix k g s<0) then some (-1) else some (nix k g s))=some (nix k g s):=by
 rcases nix_cases k g s with ⟨h1,_⟩ | ⟨j,_,h1,_⟩
 ·rw [h1];rfl
 ·rw [show decide (nix k g s<0)=false from decide_eq_false (by omega)];rfl
theorem find361 (hk:k≤1000000) (hu:k<u):F361 u k g s=some (nix k g s):=by
 unfold F361
 rw [l361 u k g s hk (fun x=>some x) (some (-1)) k 0 u 0 rfl (by omega) hu]
 exact nix_end k g s
theorem same364:@L364v1 = @L361v1:=by kernel_rfl
theorem jobOf364 (hk:k≤1000000) (hu:k<u):F364 u k g s=some (nix k g s):=by
 unfold F364;rw [same364];exact find361 u k g s hk hu
theorem l336 (hk:k≤1000000) (k0:Int→Option ρ) (k1:Option ρ):∀ (d i t:Nat) (x:Int),x=(i:Int)→i+d=k→d<t →
  L336v1 u k g (listF [(.s s)]) (Int.ofNat k) t x k0 k1=bif decide (fidx (fun i=>decide (sv g i=s)) d i<0) then k1 else k0 (fidx (fun i=>decide (sv g i=s)) d i)
 | 0,i,t+1,x,hx,hi,ht=>by
  unfold L336v1
  rw [show decide (x<Int.ofNat k)=false from decide_eq_false (by simp only [Int.ofNat_eq_natCast];omega),cond_false];rfl
 | d+1,i,t+1,x,hx,hi,ht=>by
  have h1:decide (x<Int.ofNat k)=true:=decide_eq_true (by simp only [Int.ofNat_eq_natCast];omega)
  have h2:inb x k=true:=inb_true (by omega) (by omega)
  have h3:Int.toNat x=i:=by omega
  have hx1:w64 (x+1)=((i+1:Nat):Int):=by rw [w64_of (by omega) (by omega)];omega
  unfold L336v1 fidx F335
  rw [h1,cond_true,h2,cond_true,h3,show CV.str (listF [(.s s)] 0)=s from rfl,tl_eq,ob_some]
  cases q:decide (CV.str (g i 0)=s) with
  | true=>rw [cond_true,cond_true,show decide ((i:Int)<0)=false from decide_eq_false (by omega),cond_false,hx]
  | false=>rw [cond_false,cond_false];exact l336 hk k0 k1 d (i+1) t _ hx1 (by omega) (by omega)
theorem job337 (hk:k≤1000000) (h:Nat→CV) (hh:h 0=.ro false (.pr .str (.pr (.int .i64) (.pr (.sl (.pr .str .nil)) .nil))) k g) (hu:k<u):F337 u h s=some (nix k g s):=by
 unfold F337 F336
 rw [hh]
 rw [show CV.len (CV.ro false (.pr .str (.pr (.int .i64) (.pr (.sl (.pr .str .nil)) .nil))) k g)=k from rfl,show CV.el (CV.ro false (.pr .str (.pr (.int .i64) (.pr (.sl (.pr .str .nil)) .nil))) k g)=g from rfl]
 rw [l336 u k g s hk (fun x=>some x) (some (-1)) k 0 u 0 rfl (by omega) hu]
 show ob (bif decide (nix k g s<0) then some (-1) else some (nix k g s)) _=_
 rw [nix_end];rfl
theorem l256n (hk:k≤1000000) (k0:Int→Option ρ) (k1:Option ρ):∀ (d i t:Nat) (x:Int),x=(i:Int)→i+d=k→d<t →
  L256v1 u k g s (Int.ofNat k) t x k0 k1=bif decide (fidx (fun i=>decide (sv g i=s)) d i<0) then k1 else k0 (fidx (fun i=>decide (sv g i=s)) d i)
 | 0,i,t+1,x,hx,hi,ht=>by
  unfold L256v1
  rw [show decide (x<Int.ofNat k)=false from decide_eq_false (by simp only [Int.ofNat_eq_natCast];omega),cond_false];rfl
 | d+1,i,t+1,x,hx,hi,ht=>by
  have h1:decide (x<Int.ofNat k)=true:=decide_eq_true (by simp only [Int.ofNat_eq_natCast];omega)
  have h2:inb x k=true:=inb_true (by omega) (by omega)
  have h3:Int.toNat x=i:=by omega
  have hx1:w64 (x+1)=((i+1:Nat):Int):=by rw [w64_of (by omega) (by omega)];omega
  have h4:(ByteArray.toList s==ByteArray.toList (CV.str (g i 0)))=decide (sv g i=s):=by rw [tl_eq];exact decide_eq_decide.2 eq_comm
  unfold L256v1 fidx
  rw [h1,cond_true,h2,cond_true,h3,h4]
  cases q:decide (sv g i=s) with
  | true=>rw [cond_true,cond_true,show decide ((i:Int)<0)=false from decide_eq_false (by omega),cond_false,hx]
  | false=>rw [cond_false,cond_false];exact l256n hk k0 k1 d (i+1) t _ hx1 (by omega) (by omega)
theorem index256 (hk:k≤1000000) (hu:k<u):F256 u k g s=some (nix k g s):=by
 unfold F256
 rw [l256n u k g s hk (fun x=>some x) (some (-1)) k 0 u 0 rfl (by omega) hu]
 exact nix_end k g s
end
def ltS (a b:ByteArray):Bool:=Op.bytesLess (ByteArray.toList a) (ByteArray.toList b)
theorem bl_irr:∀ x:List UInt8,Op.bytesLess x x=false
 | []=>rfl
 | a :: x=>by
  unfold Op.bytesLess
  rw [bl_irr x]
  simp
theorem bl_tri:∀ x y:List UInt8,(!Op.bytesLess x y)=(Op.bytesLess y x||(y==x))
 | [],[]=>rfl
 | [],b :: y=>rfl
 | a :: x,[]=>rfl
 | a :: x,b :: y=>by
  unfold Op.bytesLess
  by_cases h1:a<b
  ·have h2:¬ b<a:=fun h=>absurd (UInt8.lt_trans h1 h) (UInt8.lt_irrefl a)
   have h3:¬ b=a:=fun h=>by subst h;exact absurd h1 (UInt8.lt_irrefl _)
   simp [h1,h2,h3]
  ·by_cases h2:b<a
   ·have h3:¬ a=b:=fun h=>by subst h;exact absurd h2 (UInt8.lt_irrefl _)
    simp [h1,h2,h3]
   ·have h3:b=a:=UInt8.le_antisymm (UInt8.not_lt.1 h1) (UInt8.not_lt.1 h2)
    subst h3
    have:=bl_tri x y
    simp [h1,this]
theorem ltS_tri (a b:ByteArray):(!ltS a b)=(ltS b a||(ByteArray.toList b==ByteArray.toList a)):=bl_tri _ _
theorem ltS_irr (a:ByteArray):ltS a a=false:=bl_irr _
theorem bl_tr:∀ {x y z:List UInt8},Op.bytesLess x y=true→Op.bytesLess y z=true→Op.bytesLess x z=true
 | _,[],_,h,_=>by
  unfold Op.bytesLess at h
  cases h
 | _,_ :: _,[],_,h=>by
  unfold Op.bytesLess at h
  cases h
 | [],_ :: _,_ :: _,_,_=>by unfold Op.bytesLess;rfl
 | a :: x,b :: y,c :: z,h1,h2=>by
  unfold Op.bytesLess at h1 h2 ⊢
  simp only [Bool.or_eq_true,Bool.and_eq_true,decide_eq_true_eq,beq_iff_eq] at h1 h2 ⊢
  rcases h1 with h1 | ⟨rfl,h1⟩
  ·rcases h2 with h2 | ⟨rfl,h2⟩
   ·exact .inl (UInt8.lt_trans h1 h2)
   ·exact .inl h1
  ·rcases h2 with h2 | ⟨rfl,h2⟩
   ·exact .inl h2
   ·exact .inr ⟨rfl,bl_tr h1 h2⟩
theorem ltS_tr {a b c:ByteArray} (h1:ltS a b=true) (h2:ltS b c=true):ltS a c=true:=bl_tr h1 h2
def ascB (g:FF):Nat→Nat→Bool
 | 0,_=>true
 | d+1,i=>ltS (sv g (i-1)) (sv g i)&&ascB g d (i+1)
section
variable {ρ : Type} (u : Nat) (k : Nat) (g : FF)
theorem l332 (hk:k≤1000000) (k0 k1:Option ρ):∀ (d i t:Nat) (x:Int),1≤i→x=(i:Int)→k≤i+d→(0<d→i+d=k)→d<t→L332v1 u k g t x k0 k1=bif ascB g d i then k1 else k0
 | 0,i,t+1,x,h0,hx,hi,_,ht=>by
  unfold L332v1
  rw [show decide (x<Int.ofNat k)=false from decide_eq_false (by simp only [Int.ofNat_eq_natCast];omega),cond_false];rfl
 | d+1,i,t+1,x,h0,hx,hi,he,ht=>by
  have he:=he (by omega)
  have h1:decide (x<Int.ofNat k)=true:=decide_eq_true (by simp only [Int.ofNat_eq_natCast];omega)
  have h2:inb x k=true:=inb_true (by omega) (by omega)
  have hw:w64 (x-1)=((i-1:Nat):Int):=by rw [w64_of (by omega) (by omega)];omega
  have h3:Int.toNat x=i:=by omega
  have hx1:w64 (x+1)=((i+1:Nat):Int):=by rw [w64_of (by omega) (by omega)];omega
  unfold L332v1 ascB
  rw [h1,cond_true,hw,inb_true (by omega) (by omega),cond_true,h2,cond_true,h3,Int.toNat_natCast]
  show (bif !(ltS (sv g (i-1)) (sv g i)) then k0 else _)=_
  cases ltS (sv g (i-1)) (sv g i) with
  | false=>rfl
  | true=>rw [Bool.not_true,cond_false,Bool.true_and];exact l332 hk k0 k1 d (i+1) t _ (by omega) hx1 (by omega) (fun _=>by omega) (by omega)
theorem asc332 (hk:k≤1000000) (hu:k<u):F332 u k g=some (ascB g (k-1) 1):=by
 unfold F332
 rw [l332 u k g hk _ _ (k-1) 1 u 1 (Nat.le_refl _) rfl (by omega) (by omega) (by omega)]
 cases ascB g (k-1) 1<;>rfl
end
end Go.Eng.R13
/-
 sched: CheckJobs of the program and of the reference.
-/
set_option linter.all false
namespace Go.Eng.R13
open Go Go.RowKit Go.Eng
abbrev hv (g:FF) (i:Nat):Int:=CV.int (g i 1)
abbrev cn (g:FF) (i:Nat):Nat:=CV.len (g i 2)
abbrev ce (g:FF) (i:Nat):FF:=CV.el (g i 2)
def jobE (nb:Nat) (bg:FF) (g:FF) (i:Nat):Int :=
 bif !hasB (sv g i) (strs nb bg) then 8
 else bif decide (0<i) && !ltS (sv g (i-1)) (sv g i) then 11
 else bif decide (hv g i<1) then 9
 else bif decide (hv g i>10000) then 9
 else bif (Int.ofNat (cn g i)==0) then 3
 else bif decide (Int.ofNat (cn g i)>8) then 4
 else bif !ascB (ce g i) (cn g i-1) 1 then 11 else 0
def firE (e:Nat→Int):Nat→Nat→Int
 | 0,_=>0
 | d+1,i=>bif e i==0 then firE e d (i+1) else e i
theorem firE_zero {e:Nat→Int}:∀ {d i:Nat},firE e d i=0→∀ j,i≤j→j<i+d→e j=0
 | 0,i,_,j,h1,h2=>by omega
 | d+1,i,h,j,h1,h2=>by
  unfold firE at h
  cases q:e i==0 with
  | false=>rw [q,cond_false] at h;rw [h] at q;cases q
  | true =>
   rw [q,cond_true] at h
   by_cases hj:j=i
   ·rw [hj];simpa using q
   ·exact firE_zero h j (by omega) (by omega)
structure JobOk (nb:Nat) (bg g:FF) (i:Nat):Prop where
 has:sv g i∈strs nb bg
 lt:0<i→ltS (sv g (i-1)) (sv g i)=true
 h1:1≤hv g i
 h2:hv g i≤10000
 c1:0<cn g i
 c2:cn g i≤8
 asc:ascB (ce g i) (cn g i-1) 1=true
theorem jobE_zero {nb:Nat} {bg g:FF} {i:Nat} (h:jobE nb bg g i=0):JobOk nb bg g i:=by
 unfold jobE at h
 cases q1 : !hasB (sv g i) (strs nb bg) with
 | true=>rw [q1] at h;cases h
 | false =>
 cases q2:decide (0<i) && !ltS (sv g (i-1)) (sv g i) with
 | true=>rw [q1,q2] at h;cases h
 | false =>
 cases q3:decide (hv g i<1) with
 | true=>rw [q1,q2,q3] at h;cases h
 | false =>
 cases q4:decide (hv g i>10000) with
 | true=>rw [q1,q2,q3,q4] at h;cases h
 | false =>
 cases q5:(Int.ofNat (cn g i)==0) with
 | true=>rw [q1,q2,q3,q4,q5] at h;cases h
 | false =>
 cases q6:decide (Int.ofNat (cn g i)>8) with
 | true=>rw [q1,q2,q3,q4,q5,q6] at h;cases h
 | false =>
 cases q7 : !ascB (ce g i) (cn g i-1) 1 with
 | true=>rw [q1,q2,q3,q4,q5,q6,q7] at h;cases h
 | false =>
 have p3:=of_decide_eq_false q3
 have p4:=of_decide_eq_false q4
 have p6:=of_decide_eq_false q6
 have p5:¬ Int.ofNat (cn g i)=0:=by simpa using q5
 simp only [Int.ofNat_eq_natCast] at p5 p6
 refine ⟨hasB_iff.1 (by simpa using q1),fun h0=>?_,by omega,by omega,by omega,by omega,by simpa using q7⟩
 rw [decide_eq_true h0,Bool.true_and] at q2
 simpa using q2
section
variable {ρ : Type} (u : Nat) (jn : Nat) (jg : FF) (nb : Nat) (bg : FF)
theorem tail333 (X:Option ρ) (k0:Int→Option ρ) (i:Nat) (hu:100≤u) :
  (bif ((decide ((CV.int (jg i 1))<1))==false) then (bif (decide ((CV.int (jg i 1))>10000)) then (k0 9) else (bif ((Int.ofNat (CV.len (jg i 2)))==0) then (k0 3) else (bif (decide ((Int.ofNat (CV.len (jg i 2)))>8)) then (k0 4) else (ob (F332 u (CV.len (jg i 2)) (CV.el (jg i 2))) fun x30=>(bif (!x30) then (k0 11) else X))))) else (k0 9)) =
  (bif decide (hv jg i<1) then k0 9
   else bif decide (hv jg i>10000) then k0 9
   else bif (Int.ofNat (cn jg i)==0) then k0 3
   else bif decide (Int.ofNat (cn jg i)>8) then k0 4
   else bif !ascB (ce jg i) (cn jg i-1) 1 then k0 11 else X):=by
 cases q3:decide (hv jg i<1) with
 | true=>rfl
 | false =>
  cases q4:decide (hv jg i>10000) with
  | true=>rfl
  | false =>
   cases q5:(Int.ofNat (cn jg i)==0) with
   | true=>rfl
   | false =>
    cases q6:decide (Int.ofNat (cn jg i)>8) with
    | true=>rfl
    | false =>
     have p6:=of_decide_eq_false q6
     simp only [Int.ofNat_eq_natCast] at p6
     have p7:cn jg i≤8:=by omega
     have p8:CV.len (jg i 2)≤8:=p7
     rw [show ((false==false)=true) from rfl,cond_true,cond_false,cond_false,cond_false,asc332 u _ _ (by omega) (by omega),ob_some];rfl
theorem jobE_bif (X:Option ρ) (k0:Int→Option ρ) (i:Nat):(bif jobE nb bg jg i==0 then X else k0 (jobE nb bg jg i)) =
  (bif !hasB (sv jg i) (strs nb bg) then k0 8 else bif decide (0<i) && !ltS (sv jg (i-1)) (sv jg i) then k0 11 else
  (bif decide (hv jg i<1) then k0 9
   else bif decide (hv jg i>10000) then k0 9
   else bif (Int.ofNat (cn jg i)==0) then k0 3
   else bif decide (Int.ofNat (cn jg i)>8) then k0 4
   else bif !ascB (ce jg i) (cn jg i-1) 1 then k0 11 else X)):=by
 unfold jobE
 cases !hasB (sv jg i) (strs nb bg) with
 | true=>rfl
 | false =>
 cases decide (0<i) && !ltS (sv jg (i-1)) (sv jg i) with
 | true=>rfl
 | false =>
 cases decide (hv jg i<1) with
 | true=>rfl
 | false =>
 cases decide (hv jg i>10000) with
 | true=>rfl
 | false =>
 cases (Int.ofNat (cn jg i)==0) with
 | true=>rfl
 | false =>
 cases decide (Int.ofNat (cn jg i)>8) with
 | true=>rfl
 | false=>cases !ascB (ce jg i) (cn jg i-1) 1<;>rfl
theorem l333 (hk:jn≤100) (hu:1000≤u) (hb:nb≤100) (k0:Int→Option ρ) (k1:Option ρ):∀ (d i t:Nat) (x:Int),x=(i:Int)→i+d=jn→d<t →
  L333v1 u jn jg nb bg (Int.ofNat jn) t x k0 k1=bif firE (jobE nb bg jg) d i==0 then k1 else k0 (firE (jobE nb bg jg) d i)
 | 0,i,t+1,x,hx,hi,ht=>by
  unfold L333v1
  rw [show decide (x<Int.ofNat jn)=false from decide_eq_false (by simp only [Int.ofNat_eq_natCast];omega),cond_false];rfl
 | d+1,i,t+1,x,hx,hi,ht=>by
  have h1:decide (x<Int.ofNat jn)=true:=decide_eq_true (by simp only [Int.ofNat_eq_natCast];omega)
  have h2:inb x jn=true:=inb_true (by omega) (by omega)
  have h3:Int.toNat x=i:=by omega
  have hx1:w64 (x+1)=((i+1:Nat):Int):=by rw [w64_of (by omega) (by omega)];omega
  have ih:=l333 hk hu hb k0 k1 d (i+1) t _ hx1 (by omega) (by omega)
  have e:(bif firE (jobE nb bg jg) (d+1) i==0 then k1 else k0 (firE (jobE nb bg jg) (d+1) i))=bif jobE nb bg jg i==0 then (bif firE (jobE nb bg jg) d (i+1)==0 then k1 else k0 (firE (jobE nb bg jg) d (i+1))) else k0 (jobE nb bg jg i):=by
   conv=>lhs;unfold firE
   cases q:jobE nb bg jg i==0 with
   | true=>rfl
   | false=>rw [cond_false,cond_false,q,cond_false]
  rw [e,jobE_bif]
  generalize (bif firE (jobE nb bg jg) d (i+1)==0 then k1 else k0 (firE (jobE nb bg jg) d (i+1)))=X at ih ⊢
  unfold L333v1
  rw [h1,cond_true,h2,cond_true,h3,has257 u nb bg (CV.str (jg i 0)) (by omega) (by omega),ob_some]
  show (bif !hasB (sv jg i) (strs nb bg) then _ else _)=_
  cases !hasB (sv jg i) (strs nb bg) with
  | true=>rfl
  | false =>
   rw [cond_false,cond_false]
   by_cases h0:0<i
   ·have hw:w64 (x-1)=((i-1:Nat):Int):=by rw [w64_of (by omega) (by omega)];omega
    rw [show (decide (x>0)==true)=true by rw [decide_eq_true (by omega)];rfl,cond_true,hw,inb_true (by omega) (by omega),cond_true,Int.toNat_natCast]
    rw [show (Op.bytesLess (ByteArray.toList (CV.str (jg i 0))) (ByteArray.toList (CV.str (jg (i-1) 0)))||(ByteArray.toList (CV.str (jg i 0))==ByteArray.toList (CV.str (jg (i-1) 0))))=(decide (0<i) && !ltS (sv jg (i-1)) (sv jg i)) by rw [decide_eq_true h0,Bool.true_and,ltS_tri];rfl]
    cases decide (0<i) && !ltS (sv jg (i-1)) (sv jg i) with
    | true=>rfl
    | false=>rw [cond_false,cond_false,tail333 u jg _ k0 i (by omega),ih]
   ·rw [show (decide (x>0)==true)=false by rw [decide_eq_false (by omega)];rfl,cond_false,decide_eq_false h0,Bool.false_and,cond_false,tail333 u jg _ k0 i (by omega),ih]
end
section
variable {ρ : Type} (u : Nat) (s : ByteArray) (a1 : Nat) (f1 : FF) (a2 : Nat) (f2 : FF) (a3 : Nat) (f3 : FF) (a4 : Nat) (f4 : FF) (m : Nat) (f : FF) (jn : Nat) (jg : FF) (nb : Nat) (bg : FF)
theorem l362v2 (n:Nat) (g:FF) (y:Int) (s1:ByteArray) (y2:Int) (hk:n≤100) (k0 k1:Option ρ):∀ (d i t:Nat) (x:Int),1≤i→x=(i:Int)→n≤i+d→(0<d→i+d=n)→d<t →
  L362v2 u jn jg nb bg y s a1 f1 a2 f2 a3 f3 a4 f4 m f s1 y2 n g t x k0 k1=bif !ascB g d i then k0 else k1
 | 0,i,t+1,x,h0,hx,hi,_,ht=>by
  unfold L362v2
  rw [show decide (x<Int.ofNat n)=false from decide_eq_false (by simp only [Int.ofNat_eq_natCast];omega),cond_false];rfl
 | d+1,i,t+1,x,h0,hx,hi,he,ht=>by
  have he:=he (by omega)
  have h1:decide (x<Int.ofNat n)=true:=decide_eq_true (by simp only [Int.ofNat_eq_natCast];omega)
  have h2:inb x n=true:=inb_true (by omega) (by omega)
  have hw:w64 (x-1)=((i-1:Nat):Int):=by rw [w64_of (by omega) (by omega)];omega
  have h3:Int.toNat x=i:=by omega
  have hx1:w64 (x+1)=((i+1:Nat):Int):=by rw [w64_of (by omega) (by omega)];omega
  unfold L362v2 ascB
  rw [h1,cond_true,h2,cond_true,hw,inb_true (by omega) (by omega),cond_true,h3,Int.toNat_natCast]
  rw [show (Op.bytesLess (ByteArray.toList (CV.str (g i 0))) (ByteArray.toList (CV.str (g (i-1) 0)))||(ByteArray.toList (CV.str (g i 0))==ByteArray.toList (CV.str (g (i-1) 0)))) = !ltS (sv g (i-1)) (sv g i) by rw [ltS_tri];rfl]
  cases ltS (sv g (i-1)) (sv g i) with
  | false=>rfl
  | true=>rw [Bool.not_true,cond_false,Bool.true_and];exact l362v2 n g y s1 y2 hk k0 k1 d (i+1) t _ (by omega) hx1 (by omega) (fun _=>by omega) (by omega)
theorem tail362 (y:Int) (k0:Int→Option ρ) (X:Option ρ) (i:Nat) (hu:100≤u) :
  (bif ((decide ((CV.int (jg i 1))<1))==false) then (bif (decide ((CV.int (jg i 1))>10000)) then (k0 9) else (bif ((Int.ofNat (CV.len (jg i 2)))==0) then (k0 3) else (bif (decide ((Int.ofNat (CV.len (jg i 2)))>8)) then (k0 4) else (L362v2 u jn jg nb bg y s a1 f1 a2 f2 a3 f3 a4 f4 m f (CV.str (jg i 0)) (CV.int (jg i 1)) (CV.len (jg i 2)) (CV.el (jg i 2)) u 1 (k0 11) X)))) else (k0 9)) =
  (bif decide (hv jg i<1) then k0 9
   else bif decide (hv jg i>10000) then k0 9
   else bif (Int.ofNat (cn jg i)==0) then k0 3
   else bif decide (Int.ofNat (cn jg i)>8) then k0 4
   else bif !ascB (ce jg i) (cn jg i-1) 1 then k0 11 else X):=by
 cases q3:decide (hv jg i<1) with
 | true=>rfl
 | false =>
  cases q4:decide (hv jg i>10000) with
  | true=>rfl
  | false =>
   cases q5:(Int.ofNat (cn jg i)==0) with
   | true=>rfl
   | false =>
    cases q6:decide (Int.ofNat (cn jg i)>8) with
    | true=>rfl
    | false =>
     have p6:=of_decide_eq_false q6
     simp only [Int.ofNat_eq_natCast] at p6
     have p7:CV.len (jg i 2)=cn jg i:=rfl
     rw [show ((false==false)=true) from rfl,cond_true,cond_false,cond_false,cond_false,l362v2 u s a1 f1 a2 f2 a3 f3 a4 f4 m f jn jg nb bg _ _ _ _ _ (by omega) _ _ (cn jg i-1) 1 u 1 (Nat.le_refl _) rfl (by omega) (by omega) (by omega)];rfl
theorem l362 (hk:jn≤100) (hu:1000≤u) (hb:nb≤100) (k0:Int→Option ρ) (k1:Option ρ):∀ (d i t:Nat) (x:Int),x=(i:Int)→i+d=jn→d<t →
  L362v3 u jn jg nb bg s a1 f1 a2 f2 a3 f3 a4 f4 m f t x (fun y _ _ _ _=>k0 y) k1=bif firE (jobE nb bg jg) d i==0 then k1 else k0 (firE (jobE nb bg jg) d i)
 | 0,i,t+1,x,hx,hi,ht=>by
  unfold L362v3
  rw [show decide (x<Int.ofNat jn)=false from decide_eq_false (by simp only [Int.ofNat_eq_natCast];omega),cond_false];rfl
 | d+1,i,t+1,x,hx,hi,ht=>by
  have h1:decide (x<Int.ofNat jn)=true:=decide_eq_true (by simp only [Int.ofNat_eq_natCast];omega)
  have h2:inb x jn=true:=inb_true (by omega) (by omega)
  have h3:Int.toNat x=i:=by omega
  have hx1:w64 (x+1)=((i+1:Nat):Int):=by rw [w64_of (by omega) (by omega)];omega
  have ih:=l362 hk hu hb k0 k1 d (i+1) t _ hx1 (by omega) (by omega)
  have e:(bif firE (jobE nb bg jg) (d+1) i==0 then k1 else k0 (firE (jobE nb bg jg) (d+1) i))=bif jobE nb bg jg i==0 then (bif firE (jobE nb bg jg) d (i+1)==0 then k1 else k0 (firE (jobE nb bg jg) d (i+1))) else k0 (jobE nb bg jg i):=by
   conv=>lhs;unfold firE
   cases q:jobE nb bg jg i==0 with
   | true=>rfl
   | false=>rw [cond_false,cond_false,q,cond_false]
  rw [e,jobE_bif]
  generalize (bif firE (jobE nb bg jg) d (i+1)==0 then k1 else k0 (firE (jobE nb bg jg) d (i+1)))=X at ih ⊢
  unfold L362v3
  rw [h1,cond_true,h2,cond_true,h3,find361 u nb bg (CV.str (jg i 0)) (by omega) (by omega),ob_some,nix_has]
  show (bif !hasB (sv jg i) (strs nb bg) then _ else _)=_
  cases !hasB (sv jg i) (strs nb bg) with
  | true=>rfl
  | false =>
   rw [cond_false,cond_false]
   by_cases h0:0<i
   ·have hw:w64 (x-1)=((i-1:Nat):Int):=by rw [w64_of (by omega) (by omega)];omega
    rw [show (decide (x>0)==true)=true by rw [decide_eq_true (by omega)];rfl,cond_true,hw,inb_true (by omega) (by omega),cond_true,Int.toNat_natCast]
    rw [show (Op.bytesLess (ByteArray.toList (CV.str (jg i 0))) (ByteArray.toList (CV.str (jg (i-1) 0)))||(ByteArray.toList (CV.str (jg i 0))==ByteArray.toList (CV.str (jg (i-1) 0))))=(decide (0<i) && !ltS (sv jg (i-1)) (sv jg i)) by rw [decide_eq_true h0,Bool.true_and,ltS_tri];rfl]
    cases decide (0<i) && !ltS (sv jg (i-1)) (sv jg i) with
    | true=>rfl
    | false=>rw [cond_false,cond_false,ih,tail362 u s a1 f1 a2 f2 a3 f3 a4 f4 m f jn jg nb bg x k0 _ i (by omega)]
   ·rw [show (decide (x>0)==true)=false by rw [decide_eq_false (by omega)];rfl,cond_false,decide_eq_false h0,Bool.false_and,cond_false,ih,tail362 u s a1 f1 a2 f2 a3 f3 a4 f4 m f jn jg nb bg x k0 _ i (by omega)]
end
structure JOut (u:Nat) (s:ByteArray) (a1:Nat) (f1:FF) (a2:Nat) (f2:FF) (a3:Nat) (f3:FF) (a4:Nat) (f4:FF) (m:Nat) (f:FF) (jn:Nat) (jg:FF) (nb:Nat) (bg:FF) (ke:Nat) (ge ge' : FF) (k:Nat) (g:FF) (c e:Int):Prop where
 ord:NOut u s a1 f1 a2 f2 a3 f3 a4 f4 m f nb bg ke ge ge' k g c
 j1:F333 u s a1 f1 a2 f2 a3 f3 a4 f4 m f jn jg=some e
 j2:F362 u s a1 f1 a2 f2 a3 f3 a4 f4 m f jn jg=some e
 ok:e=0→jn≤64∧c=0∧∀ i,i<jn→JobOk nb bg jg i
 err:c≠0→jn≤64→e=c
 ok' : jn≤64→c=0→e=firE (jobE nb bg jg) jn 0
theorem jobs333 (u:Nat) (s:ByteArray) (a1:Nat) (f1:FF) (a2:Nat) (f2:FF) (a3:Nat) (f3:FF) (a4:Nat) (f4:FF) (m:Nat) (f:FF) (jn:Nat) (jg:FF) (hm:m≤1000) (ha:a1≤60) (hj:jn≤100) (hu:4000≤u) :
  ∃ nb bg ke ge ge' k g c e,JOut u s a1 f1 a2 f2 a3 f3 a4 f4 m f jn jg nb bg ke ge ge' k g c e:=by
 obtain ⟨nb,bg,ke,ge,ge',k,g,c,h⟩:=orders277 u s a1 f1 a2 f2 a3 f3 a4 f4 m f hm ha hu
 have hb:=h.le
 by_cases q:jn≤64
 ·have q0:decide (Int.ofNat jn>64)=false:=decide_eq_false (by simp only [Int.ofNat_eq_natCast];omega)
  cases hc:(c != 0) with
  | true =>
   have hc0:c≠0:=by simpa using hc
   refine ⟨nb,bg,ke,ge,ge',k,g,c,c,h,?_,?_,fun he=>absurd he hc0,fun _ _=>rfl,fun _ hz=>absurd hz hc0⟩
   ·unfold F333;rw [q0,cond_false,h.o1,ob_some];dsimp only;rw [hc,cond_true]
   ·unfold F362;rw [q0,cond_false,h.o2,ob_some];dsimp only;rw [hc,cond_true]
  | false =>
   have hc0:c=0:=by simpa using hc
   have fin:(bif firE (jobE nb bg jg) jn 0==0 then some 0 else some (firE (jobE nb bg jg) jn 0))=some (firE (jobE nb bg jg) jn 0):=by
    cases z:firE (jobE nb bg jg) jn 0==0 with
    | false=>rfl
    | true=>rw [cond_true];congr 1;exact (by simpa using z:firE (jobE nb bg jg) jn 0=0).symm
   refine ⟨nb,bg,ke,ge,ge',k,g,c,firE (jobE nb bg jg) jn 0,h,?_,?_,fun he=>⟨q,hc0,fun i hi=>jobE_zero (firE_zero he i (by omega) (by omega))⟩,fun hn=>absurd hc0 hn,fun _ _=>rfl⟩
   ·unfold F333;rw [q0,cond_false,h.o1,ob_some];dsimp only;rw [hc,cond_false,blocks251,h.bl,ob_some];dsimp only
    rw [l333 u jn jg nb bg (by omega) (by omega) (by omega) (fun x=>some x) (some 0) jn 0 u 0 rfl (by omega) (by omega)]
    exact fin
   ·unfold F362;rw [q0,cond_false,h.o2,ob_some];dsimp only;rw [hc,cond_false,h.bl,ob_some];dsimp only
    rw [l362 u s a1 f1 a2 f2 a3 f3 a4 f4 m f jn jg nb bg (by omega) (by omega) (by omega) (fun x=>some x) (some 0) jn 0 u 0 rfl (by omega) (by omega)]
    exact fin
 ·have q0:decide (Int.ofNat jn>64)=true:=decide_eq_true (by simp only [Int.ofNat_eq_natCast];omega)
  refine ⟨nb,bg,ke,ge,ge',k,g,c,4,h,?_,?_,fun he=>absurd he (by decide),fun _ hq=>absurd hq q,fun hq=>absurd hq q⟩
  ·unfold F333;rw [q0,cond_true]
  ·unfold F362;rw [q0,cond_true]
end Go.Eng.R13
/-
 sched: what comes before what,by the reference (Warshall).
-/
set_option linter.all false
namespace Go.Eng.R13
open Go Go.RowKit Go.Eng
def War (m:Nat) (f:FF):Nat→Nat→Nat→Prop
 | 0,a,b=>Ed m f a b
 | v+1,a,b=>War m f v a b∨(War m f v a v∧War m f v v b)
theorem War.path {m:Nat} {f:FF}:∀ {v a b:Nat},War m f v a b→Path m f a b
 | 0,a,b,h=>.one h
 | v+1,a,b,h=>h.elim (fun h=>h.path) fun h=>h.1.path.trans h.2.path
theorem War.step {m:Nat} {f:FF} {v a b:Nat} (h:War m f v a b):War m f (v+1) a b:=.inl h
theorem War.comp {m:Nat} {f:FF}:∀ {v a c b:Nat},c<v→War m f v a c→War m f v c b→War m f v a b
 | v+1,a,c,b,hc,h1,h2=>by
  by_cases q:c=v
  ·subst q
   have e1:War m f c a c:=h1.elim id fun h=>h.1
   have e2:War m f c c b:=h2.elim id fun h=>h.2
   exact .inr ⟨e1,e2⟩
  ·have hc' : c<v:=by omega
   rcases h1 with h1 | ⟨h1,h1'⟩
   ·rcases h2 with h2 | ⟨h2,h2'⟩
    ·exact .inl (War.comp hc' h1 h2)
    ·exact .inr ⟨War.comp hc' h1 h2,h2'⟩
   ·rcases h2 with h2 | ⟨h2,h2'⟩
    ·exact .inr ⟨h1,War.comp hc' h1' h2⟩
    ·exact .inr ⟨h1,h2'⟩
theorem War.up {m:Nat} {f:FF} {a b:Nat} (h:Ed m f a b):∀ v,War m f v a b
 | 0=>h
 | v+1=>.inl (War.up h v)
theorem War.of {m:Nat} {f:FF} {n a b:Nat} (hg:Good (n:Int) m f) (h:Path m f a b):War m f n a b:=by
 induction h with
 | one h=>exact War.up h n
 | snoc _ h2 ih =>
  obtain ⟨i,hi,e1,e2⟩:=h2
  have:=(hg i hi).2.1
  exact War.comp (by omega) ih (War.up ⟨i,hi,e1,e2⟩ n)
section
variable {ρ : Type} (u : Nat) (jn : Nat) (jg : FF) (nb : Nat) (bg : FF) (s : ByteArray) (a1 : Nat) (f1 : FF) (a2 : Nat) (f2 : FF) (a3 : Nat) (f3 : FF) (a4 : Nat) (f4 : FF) (m : Nat) (f : FF)
theorem blt_t {a b:Nat} (h:a<b):Nat.blt a b=true:=by rw [Nat.blt_eq];exact h
theorem l366v7 (hn:nb≤1000) (LN:Nat→Nat) (hL:∀ a,a<nb→LN a=nb) (i v:Nat) (hi:i<nb) (hv:v<nb) (y1 y2:Int) (hy1:y1=(v:Int)) (hy2:y2=(i:Int)):∀ (d j t:Nat) (x:Int) (F:FF),x=(j:Int)→j+d=nb→d<t →
  ∃ F',(∀ k0:FF→Option ρ,L366v7 u jn jg nb bg (Int.ofNat nb) nb y1 y2 s a1 f1 a2 f2 a3 f3 a4 f4 m f LN t x F k0=k0 F')∧(∀ a q,a≠i→mb F' a q=mb F a q)∧∀ q,q<nb→mb F' i q=(mb F i q||(mb F i v&&(decide (j≤q)&&mb F v q)))
 | 0,j,t+1,x,F,hx,hj,ht=>by
  refine ⟨F,fun k0=>?_,fun _ _ _=>rfl,fun q hq=>?_⟩
  ·unfold L366v7
   rw [show (decide (x<Int.ofNat nb)==true)=false by rw [decide_eq_false (by simp only [Int.ofNat_eq_natCast];omega)];rfl,cond_false]
  ·rw [decide_eq_false (by omega),Bool.false_and,Bool.and_false,Bool.or_false]
 | d+1,j,t+1,x,F,hx,hj,ht=>by
  have h1:(decide (x<Int.ofNat nb)==true)=true:=by rw [decide_eq_true (by simp only [Int.ofNat_eq_natCast];omega)];rfl
  have h3:Int.toNat x=j:=by omega
  have hx1:w64 (x+1)=((j+1:Nat):Int):=by rw [w64_of (by omega) (by omega)];omega
  have ti:Int.toNat y2=i:=by omega
  have tv:Int.toNat y1=v:=by omega
  have ii:inb y2 nb=true:=inb_true (by omega) (by omega)
  have iv:inb y1 nb=true:=inb_true (by omega) (by omega)
  have ij:inb x nb=true:=inb_true (by omega) (by omega)
  cases q0:mb F i v with
  | false =>
   refine ⟨F,fun k0=>?_,fun _ _ _=>rfl,fun q hq=>by rw [Bool.false_and,Bool.or_false]⟩
   unfold L366v7
   rw [h1,cond_true,ii,cond_true,ti,blt_t hi,Bool.and_true,cond_true,hL i hi,iv,cond_true,tv,show CV.bool (F i v)=false from q0,cond_false]
  | true =>
   have key:∀ (b:Bool),mb F i j=b→∃ F',(∀ k0:FF→Option ρ,L366v7 u jn jg nb bg (Int.ofNat nb) nb y1 y2 s a1 f1 a2 f2 a3 f3 a4 f4 m f LN (t+1) x F k0=k0 F')∧(∀ a q,a≠i→mb F' a q=mb F a q)∧∀ q,q<nb→mb F' i q=(mb F i q||(true&&(decide (j≤q)&&mb F v q))):=fun b hb=>by
    let F1:FF:=setM F i j (.b (mb F i j||mb F v j))
    have hF1:∀ a q,mb F1 a q=if a=i∧q=j then (mb F i j||mb F v j) else mb F a q:=fun a q=>setM_mb ..
    obtain ⟨F',e1,e2,e3⟩:=l366v7 hn LN hL i v hi hv y1 y2 hy1 hy2 d (j+1) t (w64 (x+1)) F1 hx1 (by omega) (by omega)
    refine ⟨F',fun k0=>?_,fun a q ha=>by rw [e2 a q ha,hF1,if_neg (fun h=>ha h.1)],fun q hq=>?_⟩
    ·unfold L366v7
     rw [h1,cond_true,ii,cond_true,ti,blt_t hi,Bool.and_true,cond_true,hL i hi,iv,cond_true,tv,show CV.bool (F i v)=true from q0,cond_true,cond_true,cond_true,cond_true,cond_true,ij,cond_true,h3]
     show (bif (mb F i j==false) then _ else _)=_
     cases b with
     | true =>
      rw [hb,show (true==false)=false from rfl,cond_false,cond_true,← e1 k0]
      show L366v7 _ _ _ _ _ _ _ _ _ _ _ _ _ _ _ _ _ _ _ _ _ _ _ (setM F i j (.b true)) _=L366v7 _ _ _ _ _ _ _ _ _ _ _ _ _ _ _ _ _ _ _ _ _ _ _ (setM F i j (.b (mb F i j||mb F v j))) _
      rw [hb,Bool.true_or]
     | false =>
      rw [hb,show (false==false)=true from rfl,cond_true,cond_true,blt_t hv,Bool.and_true,cond_true,hL v hv,ij,cond_true,cond_true,← e1 k0]
      show L366v7 _ _ _ _ _ _ _ _ _ _ _ _ _ _ _ _ _ _ _ _ _ _ _ (setM F i j (.b (mb F v j))) _=L366v7 _ _ _ _ _ _ _ _ _ _ _ _ _ _ _ _ _ _ _ _ _ _ _ (setM F i j (.b (mb F i j||mb F v j))) _
      rw [hb,Bool.false_or]
    ·rw [e3 q hq,hF1,hF1 i v,hF1 v q]
     have t1:(if i=i∧v=j then (mb F i j||mb F v j) else mb F i v)=true:=by
      split
      ·rename_i h;rw [← h.2,q0,Bool.true_or]
      ·exact q0
     rw [t1,Bool.true_and,Bool.true_and]
     by_cases hqj:q=j
     ·subst hqj
      rw [if_pos ⟨rfl,rfl⟩,decide_eq_false (by omega),Bool.false_and,Bool.or_false,decide_eq_true (Nat.le_refl _),Bool.true_and]
     ·rw [if_neg (fun h=>hqj h.2),if_neg (fun h=>hqj h.2)]
      congr 2
      exact decide_eq_decide.2 (by omega)
   exact key _ rfl
theorem l366v8 (hn:nb≤1000) (hu:4000≤u) (LN:Nat→Nat) (hL:∀ a,a<nb→LN a=nb) (v:Nat) (hv:v<nb) (y1:Int) (hy1:y1=(v:Int)):∀ (d i t:Nat) (x:Int) (F:FF),x=(i:Int)→i+d=nb→d<t →
  ∃ F',(∀ k0:FF→Option ρ,L366v8 u jn jg nb bg (Int.ofNat nb) nb y1 s a1 f1 a2 f2 a3 f3 a4 f4 m f LN t x F k0=k0 F')∧(∀ a q,a<i→mb F' a q=mb F a q)∧(∀ q,q<nb→mb F' v q=mb F v q)∧∀ a q,i≤a→a<nb→q<nb→mb F' a q=(mb F a q||(mb F a v&&mb F v q))
 | 0,i,t+1,x,F,hx,hi,ht=>by
  refine ⟨F,fun k0=>?_,fun _ _ _=>rfl,fun _ _=>rfl,fun a q h1 h2 _=>by omega⟩
  unfold L366v8
  rw [show decide (x<Int.ofNat nb)=false from decide_eq_false (by simp only [Int.ofNat_eq_natCast];omega),cond_false]
 | d+1,i,t+1,x,F,hx,hi,ht=>by
  have h1:decide (x<Int.ofNat nb)=true:=decide_eq_true (by simp only [Int.ofNat_eq_natCast];omega)
  have hx1:w64 (x+1)=((i+1:Nat):Int):=by rw [w64_of (by omega) (by omega)];omega
  obtain ⟨F1,b1,b2,b3⟩:=l366v7 (ρ:=ρ) u jn jg nb bg s a1 f1 a2 f2 a3 f3 a4 f4 m f hn LN hL i v (by omega) hv y1 x hy1 hx nb 0 u 0 F rfl (by omega) (by omega)
  obtain ⟨F',e1,e2,e3,e4⟩:=l366v8 hn hu LN hL v hv y1 hy1 d (i+1) t (w64 (x+1)) F1 hx1 (by omega) (by omega)
  have r:∀ q,q<nb→mb F1 v q=mb F v q:=fun q hq=>by
   by_cases h:v=i
   ·subst h
    rw [b3 q hq]
    cases mb F v q<;>simp
   ·exact b2 v q h
  refine ⟨F',fun k0=>?_,fun a q ha=>?_,fun q hq=>by rw [e3 q hq,r q hq],fun a q ha1 ha2 hq=>?_⟩
  ·rw [← e1 k0]
   conv=>lhs;unfold L366v8
   rw [h1,cond_true,b1]
  ·rw [e2 a q (by omega),b2 a q (by omega)]
  ·by_cases h:a=i
   ·subst h
    rw [e2 a q (by omega),b3 q hq,decide_eq_true (Nat.zero_le _),Bool.true_and]
   ·rw [e4 a q (by omega) ha2 hq,b2 a q h,b2 a v h,r q hq]
theorem l366v9 (hn:nb≤1000) (hu:4000≤u) (LN:Nat→Nat) (hL:∀ a,a<nb→LN a=nb) (ke:Nat) (ge:FF):∀ (d v t:Nat) (x:Int) (F:FF),x=(v:Int)→v+d=nb→d<t→(∀ a q,a<nb→q<nb→(mb F a q=true↔War ke ge v a q)) →
  ∃ F',(∀ k0:FF→Option ρ,L366v9 u jn jg nb bg (Int.ofNat nb) nb s a1 f1 a2 f2 a3 f3 a4 f4 m f LN t x F k0=k0 F')∧∀ a q,a<nb→q<nb→(mb F' a q=true↔War ke ge nb a q)
 | 0,v,t+1,x,F,hx,hi,ht,hF=>by
  refine ⟨F,fun k0=>?_,fun a q h1 h2=>by rw [hF a q h1 h2,show v=nb by omega]⟩
  unfold L366v9
  rw [show decide (x<Int.ofNat nb)=false from decide_eq_false (by simp only [Int.ofNat_eq_natCast];omega),cond_false]
 | d+1,v,t+1,x,F,hx,hi,ht,hF=>by
  have h1:decide (x<Int.ofNat nb)=true:=decide_eq_true (by simp only [Int.ofNat_eq_natCast];omega)
  have hx1:w64 (x+1)=((v+1:Nat):Int):=by rw [w64_of (by omega) (by omega)];omega
  obtain ⟨F1,b1,_,_,b4⟩:=l366v8 (ρ:=ρ) u jn jg nb bg s a1 f1 a2 f2 a3 f3 a4 f4 m f hn hu LN hL v (by omega) x hx nb 0 u 0 F rfl (by omega) (by omega)
  obtain ⟨F',e1,e2⟩:=l366v9 hn hu LN hL ke ge d (v+1) t (w64 (x+1)) F1 hx1 (by omega) (by omega) fun a q ha hq=>by
   rw [b4 a q (by omega) ha hq,Bool.or_eq_true,Bool.and_eq_true,hF a q ha hq,hF a v ha (by omega),hF v q (by omega) hq];rfl
  refine ⟨F',fun k0=>?_,e2⟩
  rw [← e1 k0]
  conv=>lhs;unfold L366v9
  rw [h1,cond_true,b1]
theorem makes_t {n:Nat} (h:n≤1073741824):(decide (0≤(Int.ofNat n))&&decide ((Int.ofNat n)≤(Int.ofNat n))&&decide ((Int.ofNat n)≤1073741824)&&true)=true:=by
 simp only [Int.ofNat_eq_natCast]
 rw [decide_eq_true (by omega),decide_eq_true (by omega),decide_eq_true (show (n:Int)≤1073741824 by omega)];rfl
theorem makes_t' {n:Nat} (h:n≤1073741824):(decide (0≤(Int.ofNat n))&&decide ((Int.ofNat n)=(Int.ofNat n))&&decide ((Int.ofNat n)≤1073741824))=true:=by
 rw [decide_eq_true (show (0:Int)≤Int.ofNat n from Int.natCast_nonneg n),decide_eq_true (show Int.ofNat n=Int.ofNat n from rfl),decide_eq_true (show Int.ofNat n≤1073741824 by simp only [Int.ofNat_eq_natCast];omega)];rfl
theorem l366v1 (hn:nb≤1000) (ke:Nat) (ge:FF):∀ (d i t:Nat) (x:Int) (LN:Nat→Nat) (F:FF),x=(i:Int)→i+d=nb→d<t→(∀ a,a<i→LN a=nb∧∀ q,mb F a q=false∨nb≤q) →
  ∃ LN' F',(∀ k0:(Nat→Nat)→FF→Option ρ,L366v1 u jn jg nb bg ke ge (Int.ofNat nb) nb s a1 f1 a2 f2 a3 f3 a4 f4 m f t x LN F k0=k0 LN' F')∧∀ a,a<nb→LN' a=nb∧∀ q,mb F' a q=false∨nb≤q
 | 0,i,t+1,x,LN,F,hx,hi,ht,hF=>by
  refine ⟨LN,F,fun k0=>?_,fun a ha=>hF a (by omega)⟩
  unfold L366v1
  rw [show decide (x<Int.ofNat nb)=false from decide_eq_false (by simp only [Int.ofNat_eq_natCast];omega),cond_false]
 | d+1,i,t+1,x,LN,F,hx,hi,ht,hF=>by
  have h1:decide (x<Int.ofNat nb)=true:=decide_eq_true (by simp only [Int.ofNat_eq_natCast];omega)
  have hx1:w64 (x+1)=((i+1:Nat):Int):=by rw [w64_of (by omega) (by omega)];omega
  have h3:Int.toNat x=i:=by omega
  have h4:Int.toNat (Int.ofNat nb)=nb:=rfl
  obtain ⟨LN',F',e1,e2⟩:=l366v1 hn ke ge d (i+1) t (w64 (x+1)) (updN LN i nb) (updM F i (fun _ j=>listF [(.b false)] j)) hx1 (by omega) (by omega) fun a ha=>by
   by_cases h:a=i
   ·subst h
    refine ⟨updN_same ..,fun q=>.inl ?_⟩
    show CV.bool (updM F a (fun _ j=>listF [(.b false)] j) a q)=false
    rw [updM_same];rfl
   ·refine ⟨by rw [updN_ne h];exact (hF a (by omega)).1,fun q=>?_⟩
    show CV.bool (updM F i _ a q)=false∨_
    rw [updM_ne h];exact (hF a (by omega)).2 q
  refine ⟨LN',F',fun k0=>?_,e2⟩
  rw [← e1 k0]
  conv=>lhs;unfold L366v1
  rw [h1,cond_true,makes_t (by omega),cond_true,inb_true (by omega) (by omega),cond_true,h4,h3,blt_t (show i<nb by omega),Bool.and_true,show Nat.beq nb nb=true from Nat.beq_refl nb,cond_true]
theorem l366v2 (hn:nb≤1000) (LN:Nat→Nat) (hL:∀ a,a<nb→LN a=nb) (ke:Nat) (hke:ke≤1000000) (ge:FF) (hg:Good (nb:Int) ke ge):∀ (d i t:Nat) (x:Int) (F:FF),x=(i:Int)→i+d=ke→d<t →
  ∃ F',(∀ k0:FF→Option ρ,L366v2 u jn jg nb bg ke ge (Int.ofNat nb) nb s a1 f1 a2 f2 a3 f3 a4 f4 m f LN t x F k0=k0 F')∧∀ a q,mb F' a q=true↔mb F a q=true∨∃ j,i≤j∧j<ke∧ea ge j=(a:Int)∧eb ge j=(q:Int)
 | 0,i,t+1,x,F,hx,hi,ht=>by
  refine ⟨F,fun k0=>?_,fun a q=>⟨.inl,fun h=>h.elim id fun ⟨j,h1,h2,_⟩=>by omega⟩⟩
  unfold L366v2
  rw [show decide (x<Int.ofNat ke)=false from decide_eq_false (by simp only [Int.ofNat_eq_natCast];omega),cond_false]
 | d+1,i,t+1,x,F,hx,hi,ht=>by
  have h1:decide (x<Int.ofNat ke)=true:=decide_eq_true (by simp only [Int.ofNat_eq_natCast];omega)
  have hx1:w64 (x+1)=((i+1:Nat):Int):=by rw [w64_of (by omega) (by omega)];omega
  have h3:Int.toNat x=i:=by omega
  obtain ⟨g1,g2,g3,g4,g5⟩:=hg i (by omega)
  obtain ⟨F',e1,e2⟩:=l366v2 hn LN hL ke hke ge hg d (i+1) t (w64 (x+1)) (setM F (Int.toNat (ea ge i)) (Int.toNat (eb ge i)) (.b true)) hx1 (by omega) (by omega)
  refine ⟨F',fun k0=>?_,fun a q=>?_⟩
  ·rw [← e1 k0]
   conv=>lhs;unfold L366v2
   rw [h1,cond_true,inb_true (by omega) (by omega),cond_true,h3,inb_true (i:=CV.int (ge i 0)) g1 g2,cond_true,blt_t (show Int.toNat (CV.int (ge i 0))<nb by have:=g1;have:=g2;unfold ea at *;omega),Bool.and_true,cond_true,cond_true,
    hL _ (show Int.toNat (CV.int (ge i 0))<nb by have:=g1;have:=g2;unfold ea at *;omega),inb_true (i:=CV.int (ge i 1)) g3 g4,cond_true]
  ·rw [e2,setM_mb]
   constructor
   ·rintro (h | ⟨j,h1,h2,h3⟩)
    ·split at h
     ·rename_i h5
      exact .inr ⟨i,Nat.le_refl _,by omega,by omega,by omega⟩
     ·exact .inl h
    ·exact .inr ⟨j,by omega,h2,h3⟩
   ·rintro (h | ⟨j,h1,h2,h3,h4⟩)
    ·left;split
     ·rfl
     ·exact h
    ·by_cases hj:j=i
     ·subst hj;left;rw [if_pos ⟨by omega,by omega⟩]
     ·exact .inr ⟨j,by omega,h2,h3,h4⟩
def bix (nb:Nat) (bg:FF) (jg:FF) (j:Nat):Nat:=(nix nb bg (sv jg j)).toNat
theorem bix_lt {nb:Nat} {bg jg:FF} {j:Nat} (h:JobOk nb bg jg j):bix nb bg jg j<nb∧nix nb bg (sv jg j)=(bix nb bg jg j:Int)∧sv bg (bix nb bg jg j)=sv jg j:=by
 rcases nix_cases nb bg (sv jg j) with ⟨_,h2⟩ | ⟨q,h1,h2,h3,_⟩
 ·obtain ⟨i,hi,e⟩:=mem_strs.1 h.has
  exact absurd e (h2 i hi)
 ·have:bix nb bg jg j=q:=by unfold bix;rw [h2];rfl
  rw [this];exact ⟨h1,h2,h3⟩
theorem l366v11 (hn:nb≤1000) (hj:jn≤1000) (hu:4000≤u) (hJ:∀ i,i<jn→JobOk nb bg jg i) (LN:Nat→Nat) (hL:∀ a,a<nb→LN a=nb) (M:FF) (LO:Nat→Nat) (i:Nat) (hi:i<jn) (hLO:LO i=jn) (y:Int) (hy:y=(i:Int)):∀ (d j t:Nat) (x:Int) (F:FF),x=(j:Int)→j+d=jn→d<t →
  ∃ F',(∀ k0:FF→Option ρ,L366v11 u jn jg nb bg nb jn y s a1 f1 a2 f2 a3 f3 a4 f4 m f LN M LO t x F k0=k0 F')∧(∀ a q,a≠i→mb F' a q=mb F a q)∧(∀ q,q<j→mb F' i q=mb F i q)∧∀ q,j≤q→q<jn→mb F' i q=mb M (bix nb bg jg i) (bix nb bg jg q)
 | 0,j,t+1,x,F,hx,hj,ht=>by
  refine ⟨F,fun k0=>?_,fun _ _ _=>rfl,fun _ _=>rfl,fun q h1 h2=>by omega⟩
  unfold L366v11
  rw [show decide (x<Int.ofNat jn)=false from decide_eq_false (by simp only [Int.ofNat_eq_natCast];omega),cond_false]
 | d+1,j,t+1,x,F,hx,hjd,ht=>by
  have h1:decide (x<Int.ofNat jn)=true:=decide_eq_true (by simp only [Int.ofNat_eq_natCast];omega)
  have hx1:w64 (x+1)=((j+1:Nat):Int):=by rw [w64_of (by omega) (by omega)];omega
  have h3:Int.toNat x=j:=by omega
  have h4:Int.toNat y=i:=by omega
  obtain ⟨c1,c2,_⟩:=bix_lt (hJ i hi)
  obtain ⟨d1,d2,_⟩:=bix_lt (hJ j (by omega))
  obtain ⟨F',e1,e2,e3,e4⟩:=l366v11 hn hj hu hJ LN hL M LO i hi hLO y hy d (j+1) t (w64 (x+1)) (setM F i j (.b (mb M (bix nb bg jg i) (bix nb bg jg j)))) hx1 (by omega) (by omega)
  refine ⟨F',fun k0=>?_,fun a q ha=>?_,fun q hq=>?_,fun q hq1 hq2=>?_⟩
  ·rw [← e1 k0]
   conv=>lhs;unfold L366v11
   rw [h1,cond_true,inb_true (by omega) (by omega),cond_true,h4,blt_t hi,Bool.and_true,cond_true,inb_true (by omega) (by omega),cond_true,
    find361 u nb bg (CV.str (jg i 0)) (by omega) (by omega),ob_some,show nix nb bg (CV.str (jg i 0))=(bix nb bg jg i:Int) from c2,inb_true (by omega) (by omega),cond_true,Int.toNat_natCast,blt_t c1,Bool.and_true,cond_true,inb_true (by omega) (by omega),cond_true,h3,
    find361 u nb bg (CV.str (jg j 0)) (by omega) (by omega),ob_some,show nix nb bg (CV.str (jg j 0))=(bix nb bg jg j:Int) from d2,hL _ c1,inb_true (by omega) (by omega),cond_true,cond_true,Int.toNat_natCast]
  ·rw [e2 a q ha,setM_mb,if_neg (fun h=>ha h.1)]
  ·rw [e3 q (by omega),setM_mb,if_neg (fun h=>by omega)]
  ·by_cases h:q=j
   ·subst h;rw [e3 q (by omega),setM_mb,if_pos ⟨rfl,rfl⟩]
   ·exact e4 q (by omega) hq2
theorem l366v12 (hn:nb≤1000) (hj:jn≤1000) (hu:4000≤u) (hJ:∀ i,i<jn→JobOk nb bg jg i) (LN:Nat→Nat) (hL:∀ a,a<nb→LN a=nb) (M:FF):∀ (d i t:Nat) (x:Int) (LO:Nat→Nat) (F:FF),x=(i:Int)→i+d=jn→d<t→(∀ a,a<i→LO a=jn∧∀ q,q<jn→mb F a q=mb M (bix nb bg jg a) (bix nb bg jg q)) →
  ∃ LO' F',(∀ k0:(Nat→Nat)→FF→Option ρ,L366v12 u jn jg nb bg nb jn s a1 f1 a2 f2 a3 f3 a4 f4 m f LN M t x LO F k0=k0 LO' F')∧∀ a,a<jn→LO' a=jn∧∀ q,q<jn→mb F' a q=mb M (bix nb bg jg a) (bix nb bg jg q)
 | 0,i,t+1,x,LO,F,hx,hi,ht,hF=>by
  refine ⟨LO,F,fun k0=>?_,fun a ha=>hF a (by omega)⟩
  unfold L366v12
  rw [show decide (x<Int.ofNat jn)=false from decide_eq_false (by simp only [Int.ofNat_eq_natCast];omega),cond_false]
 | d+1,i,t+1,x,LO,F,hx,hi,ht,hF=>by
  have h1:decide (x<Int.ofNat jn)=true:=decide_eq_true (by simp only [Int.ofNat_eq_natCast];omega)
  have hx1:w64 (x+1)=((i+1:Nat):Int):=by rw [w64_of (by omega) (by omega)];omega
  have h3:Int.toNat x=i:=by omega
  have h4:Int.toNat (Int.ofNat jn)=jn:=rfl
  obtain ⟨F1,b1,b2,_,b4⟩:=l366v11 (ρ:=ρ) u jn jg nb bg s a1 f1 a2 f2 a3 f3 a4 f4 m f hn hj hu hJ LN hL M (updN LO i jn) i (by omega) (updN_same ..) x hx jn 0 u 0 (updM F i (fun _ j=>listF [(.b false)] j)) rfl (by omega) (by omega)
  obtain ⟨LO',F',e1,e2⟩:=l366v12 hn hj hu hJ LN hL M d (i+1) t (w64 (x+1)) (updN LO i jn) F1 hx1 (by omega) (by omega) fun a ha=>by
   by_cases h:a=i
   ·subst h
    exact ⟨updN_same ..,fun q hq=>b4 q (by omega) hq⟩
   ·refine ⟨by rw [updN_ne h];exact (hF a (by omega)).1,fun q hq=>?_⟩
    rw [b2 a q h]
    show CV.bool (updM F i _ a q)=_
    rw [updM_ne h];exact (hF a (by omega)).2 q hq
  refine ⟨LO',F',fun k0=>?_,e2⟩
  rw [← e1 k0]
  conv=>lhs;unfold L366v12
  rw [h1,cond_true,makes_t (by omega),cond_true,inb_true (by omega) (by omega),cond_true,h4,h3,blt_t (show i<jn by omega),Bool.and_true,show Nat.beq jn jn=true from Nat.beq_refl jn,cond_true,b1]
end
def Rows (n:Nat) (bf:FF) (P:Nat→Nat→Prop):Prop:=∀ i,i<n→CV.len (bf i 0)=n∧∀ j,j<n→(bv (CV.el (bf i 0)) j=true↔P i j)
theorem before366 (u:Nat) (s:ByteArray) (a1:Nat) (f1:FF) (a2:Nat) (f2:FF) (a3:Nat) (f3:FF) (a4:Nat) (f4:FF) (m:Nat) (f:FF) (jn:Nat) (jg:FF) (nb:Nat) (bg:FF) (ke:Nat) (ge:FF) (hn:nb≤60) (hj:jn≤100) (hu:4000≤u) (hke:ke≤3600)
  (hb:F252 u s a1 f1 a2 f2 a3 f3 a4 f4 m f=some (nb,bg)) (he:F254 u s a1 f1 a2 f2 a3 f3 a4 f4 m f=some (ke,ge)) (hg:Good (nb:Int) ke ge) (hJ:∀ i,i<jn→JobOk nb bg jg i) :
  ∃ bf,F366 u s a1 f1 a2 f2 a3 f3 a4 f4 m f jn jg=some (jn,bf)∧Rows jn bf fun i j=>Path ke ge (bix nb bg jg i) (bix nb bg jg j):=by
 unfold F366
 rw [hb,ob_some,he,ob_some]
 dsimp only
 rw [makes_t' (by omega),cond_true]
 obtain ⟨LN,F,e1,g1⟩:=l366v1 (ρ:=Nat × FF) u jn jg nb bg s a1 f1 a2 f2 a3 f3 a4 f4 m f (by omega) ke ge nb 0 u 0 (fun _=>0) (fun _ _=>.any) rfl (by omega) (by omega) (fun a h=>by omega)
 obtain ⟨F2,e2,g2⟩:=l366v2 (ρ:=Nat × FF) u jn jg nb bg s a1 f1 a2 f2 a3 f3 a4 f4 m f (by omega) LN (fun a ha=>(g1 a ha).1) ke (by omega) ge hg ke 0 u 0 F rfl (by omega) (by omega)
 obtain ⟨F3,e3,g3⟩:=l366v9 (ρ:=Nat × FF) u jn jg nb bg s a1 f1 a2 f2 a3 f3 a4 f4 m f (by omega) (by omega) LN (fun a ha=>(g1 a ha).1) ke ge nb 0 u 0 F2 rfl (by omega) (by omega) fun a q ha hq=>by
  rw [g2]
  constructor
  ·rintro (h | ⟨j,_,h1,h2,h3⟩)
   ·rcases (g1 a ha).2 q with h4 | h4
    ·rw [h4] at h;cases h
    ·omega
   ·exact ⟨j,h1,h2,h3⟩
  ·rintro ⟨j,h1,h2,h3⟩
   exact .inr ⟨j,Nat.zero_le _,h1,h2,h3⟩
 obtain ⟨LO,F4,e4,g4⟩:=l366v12 (ρ:=Nat × FF) u jn jg nb bg s a1 f1 a2 f2 a3 f3 a4 f4 m f (by omega) (by omega) hu hJ LN (fun a ha=>(g1 a ha).1) F3 jn 0 u 0 (fun _=>0) (fun _ _=>.any) rfl (by omega) (by omega) (fun a h=>by omega)
 refine ⟨matF .bool LO F4,?_,fun i hi=>⟨(g4 i hi).1,fun j hj=>?_⟩⟩
 ·show L366v1 u jn jg nb bg ke ge (Int.ofNat nb) nb s a1 f1 a2 f2 a3 f3 a4 f4 m f u 0 (fun _=>0) (fun _ _=>.any) _=_
  rw [e1]
  show L366v2 u jn jg nb bg ke ge (Int.ofNat nb) nb s a1 f1 a2 f2 a3 f3 a4 f4 m f LN u 0 F _=_
  rw [e2]
  show L366v9 u jn jg nb bg (Int.ofNat nb) nb s a1 f1 a2 f2 a3 f3 a4 f4 m f LN u 0 F2 _=_
  rw [e3,makes_t' (by omega),cond_true]
  show L366v12 u jn jg nb bg nb jn s a1 f1 a2 f2 a3 f3 a4 f4 m f LN F3 u 0 (fun _=>0) (fun _ _=>.any) _=_
  rw [e4];rfl
 ·show mb F4 i j=true↔_
  rw [(g4 i hi).2 j hj,g3 _ _ (bix_lt (hJ i hi)).1 (bix_lt (hJ j hj)).1]
  exact ⟨War.path,War.of hg⟩
end Go.Eng.R13
/-
 sched: newHall.
-/
set_option linter.all false
namespace Go.Eng.R13
open Go Go.RowKit Go.Eng
def ints (k:Nat) (g:FF):List Int:=(List.range k).map (iv g)
theorem ints_push (k:Nat) (g:FF) (z:Int):ints (k+1) (joinF k g (rowsF 1 [(.i .i64 z)]))=ints k g ++ [z]:=by
 unfold ints
 rw [List.range_succ,List.map_append]
 congr 1
 ·exact List.map_congr_left fun i hi=>by
   rw [joinI _ _ _ _ (by have:=List.mem_range.1 hi;omega),if_neg (by have:=List.mem_range.1 hi;omega)]
 ·simp only [List.map_cons,List.map_nil]
  rw [joinI _ _ _ _ (Nat.le_refl _),if_pos rfl]
theorem mem_ints {k:Nat} {g:FF} {z:Int}:z∈ints k g↔∃ i,i<k∧iv g i=z:=by
 unfold ints;rw [List.mem_map]
 exact ⟨fun ⟨i,h1,h2⟩=>⟨i,List.mem_range.1 h1,h2⟩,fun ⟨i,h1,h2⟩=>⟨i,List.mem_range.2 h1,h2⟩⟩
theorem ble_t {a b:Nat} (h:a≤b):Nat.ble a b=true:=by rw [Nat.ble_eq];exact h
def ordStep (jn:Nat) (jg:FF) (acc:List Int) (b:ByteArray):List Int:=bif decide (nix jn jg b≥0) && !decide (nix jn jg b∈acc) then acc ++ [nix jn jg b] else acc
section
variable {ρ : Type} (u : Nat)
theorem l338 (k:Nat) (g:FF) (v:Int) (hk:k≤1000000) (k0:Int→Option ρ) (k1:Option ρ):∀ (d i t:Nat) (x:Int),x=(i:Int)→i+d=k→d<t →
  L338v1 u k g v (Int.ofNat k) t x k0 k1=bif decide (fidx (fun i=>v==iv g i) d i<0) then k1 else k0 (fidx (fun i=>v==iv g i) d i)
 | 0,i,t+1,x,hx,hi,ht=>by
  unfold L338v1
  rw [show decide (x<Int.ofNat k)=false from decide_eq_false (by simp only [Int.ofNat_eq_natCast];omega),cond_false];rfl
 | d+1,i,t+1,x,hx,hi,ht=>by
  have h1:decide (x<Int.ofNat k)=true:=decide_eq_true (by simp only [Int.ofNat_eq_natCast];omega)
  have h2:inb x k=true:=inb_true (by omega) (by omega)
  have h3:Int.toNat x=i:=by omega
  have hx1:w64 (x+1)=((i+1:Nat):Int):=by rw [w64_of (by omega) (by omega)];omega
  unfold L338v1 fidx
  rw [h1,cond_true,h2,cond_true,h3]
  show (bif v==iv g i then _ else _)=_
  cases q:v==iv g i with
  | true=>rw [cond_true,cond_true,show decide ((i:Int)<0)=false from decide_eq_false (by omega),cond_false,hx]
  | false=>rw [cond_false,cond_false];exact l338 k g v hk k0 k1 d (i+1) t _ hx1 (by omega) (by omega)
theorem has339 (k:Nat) (g:FF) (v:Int) (hk:k≤1000000) (hu:k<u):F339 u k g v=some (decide (v∈ints k g)):=by
 unfold F339 F338
 rw [l338 u k g v hk (fun x=>some x) (some (-1)) k 0 u 0 rfl (by omega) hu]
 rcases fidx_cases (fun i=>v==iv g i) k 0 with ⟨h1,h2⟩ | ⟨j,h1,h2,h3,h4,_⟩
 ·rw [h1]
  show some (decide ((-1:Int)≥0))=_
  rw [decide_eq_false (by decide),decide_eq_false]
  rw [mem_ints]
  rintro ⟨i,hi,he⟩
  have:=h2 i (Nat.zero_le _) (by omega)
  rw [he] at this;simp at this
 ·rw [h3,decide_eq_false (by omega),cond_false,ob_some,decide_eq_true (by omega),decide_eq_true]
  rw [mem_ints]
  exact ⟨j,by omega,(by simpa using h4:v=iv g j).symm⟩
theorem at334 (s1:ByteArray) (y:Int) (n:Nat) (g:FF) (nb:Nat) (bg:FF) (hn:nb≤1000) (hu:4000≤u):F334 u s1 y n g (listF [(.ro false (.pr .str .nil) nb bg)])=some (nix nb bg s1):=by
 unfold F334
 show ob (F256 u nb bg s1) _=_
 rw [index256 u nb bg s1 (by omega) (by omega),ob_some]
variable (s : ByteArray) (a1 : Nat) (f1 : FF) (a2 : Nat) (f2 : FF) (a3 : Nat) (f3 : FF) (a4 : Nat) (f4 : FF) (m : Nat) (f : FF) (jn : Nat) (jg : FF) (nb : Nat) (bg : FF)
theorem l340v2 (hn:nb≤60) (hj:jn≤100) (hu:4000≤u) (hJ:∀ i,i<jn→JobOk nb bg jg i) (ke:Nat) (ge:FF) (hke:ke≤1000) (hA:Acyc (nb:Int) ke ge) (i:Nat) (hi:i<jn) (y1 y2 y3:Int) (r:Nat) (rf:FF) (n:Nat) (g:FF):∀ (d j t:Nat) (x:Int) (M:FF),x=(j:Int)→j+d=jn→d<t →
  ∃ M',(∀ k0:FF→Option ρ,L340v2 u jn jg ke ge jn y1 y2 (Int.ofNat jn) s a1 f1 a2 f2 a3 f3 a4 f4 m f y3 r nb bg rf (sv jg i) (hv jg i) n g t x M k0=k0 M')∧(∀ q,q<j→bv M' q=bv M q)∧∀ q,j≤q→q<jn→(bv M' q=true↔Path ke ge (bix nb bg jg i) (bix nb bg jg q))
 | 0,j,t+1,x,M,hx,hjd,ht=>by
  refine ⟨M,fun k0=>?_,fun _ _=>rfl,fun q h1 h2=>by omega⟩
  unfold L340v2
  rw [show decide (x<Int.ofNat jn)=false from decide_eq_false (by simp only [Int.ofNat_eq_natCast];omega),cond_false]
 | d+1,j,t+1,x,M,hx,hjd,ht=>by
  have h1:decide (x<Int.ofNat jn)=true:=decide_eq_true (by simp only [Int.ofNat_eq_natCast];omega)
  have h2:inb x jn=true:=inb_true (by omega) (by omega)
  have h3:Int.toNat x=j:=by omega
  have hx1:w64 (x+1)=((j+1:Nat):Int):=by rw [w64_of (by omega) (by omega)];omega
  obtain ⟨c1,c2,c3⟩:=bix_lt (hJ i hi)
  obtain ⟨d1,d2,d3⟩:=bix_lt (hJ j (by omega))
  have key:∀ b:Bool,(b=true↔Path ke ge (bix nb bg jg i) (bix nb bg jg j))→(∀ k0:FF→Option ρ,L340v2 u jn jg ke ge jn y1 y2 (Int.ofNat jn) s a1 f1 a2 f2 a3 f3 a4 f4 m f y3 r nb bg rf (sv jg i) (hv jg i) n g (t+1) x M k0=L340v2 u jn jg ke ge jn y1 y2 (Int.ofNat jn) s a1 f1 a2 f2 a3 f3 a4 f4 m f y3 r nb bg rf (sv jg i) (hv jg i) n g t (w64 (x+1)) (setF M (0+j) 0 1 (listF [(.b b)])) k0) →
    ∃ M',(∀ k0:FF→Option ρ,L340v2 u jn jg ke ge jn y1 y2 (Int.ofNat jn) s a1 f1 a2 f2 a3 f3 a4 f4 m f y3 r nb bg rf (sv jg i) (hv jg i) n g (t+1) x M k0=k0 M')∧(∀ q,q<j→bv M' q=bv M q)∧∀ q,j≤q→q<jn→(bv M' q=true↔Path ke ge (bix nb bg jg i) (bix nb bg jg q)):=fun b hb hL=>by
   obtain ⟨M',e1,e2,e3⟩:=l340v2 hn hj hu hJ ke ge hke hA i hi y1 y2 y3 r rf n g d (j+1) t (w64 (x+1)) (setF M (0+j) 0 1 (listF [(.b b)])) hx1 (by omega) (by omega)
   refine ⟨M',fun k0=>(hL k0).trans (e1 k0),fun q hq=>by rw [e2 q (by omega),setB,if_neg (by omega)],fun q h1 h2=>?_⟩
   by_cases hq:q=j
   ·subst hq;rw [e2 q (by omega),setB,if_pos rfl];exact hb
   ·exact e3 q (by omega) h2
  by_cases hs:sv jg i=sv jg j
  ·have hbi:bix nb bg jg i=bix nb bg jg j:=by unfold bix;rw [hs]
   obtain ⟨p,hT⟩:=hA.topo
   refine key false ⟨fun h=>(by cases h),fun h=>?_⟩ fun k0=>?_
   ·rw [hbi] at h;exact (hT.irrefl (by omega) h).elim
   ·conv=>lhs;unfold L340v2
    rw [h1,cond_true,h2,cond_true,h3,tl_eq,show decide (sv jg i=CV.str (jg j 0))=true from decide_eq_true hs,show ((!true)==true)=false from rfl,cond_false,cond_true]
  ·obtain ⟨B,b1,b2⟩:=before232 u (nb:Int) ke ge (nix nb bg (sv jg i)) (nix nb bg (sv jg j)) (by omega) (by omega) (by omega)
   refine key B ?_ fun k0=>?_
   ·rw [b2,c2,d2]
    simp only [Int.toNat_natCast]
    exact ⟨fun h=>h.2.2.2,fun h=>⟨hA,by omega,by omega,h⟩⟩
   ·conv=>lhs;unfold L340v2
    rw [h1,cond_true,h2,cond_true,h3,tl_eq,show decide (sv jg i=CV.str (jg j 0))=false from decide_eq_false hs,show ((!false)==true)=true from rfl,cond_true,at334 u _ _ _ _ nb bg (by omega) hu,ob_some,at334 u _ _ _ _ nb bg (by omega) hu,ob_some]
    show ob (F232 u (nb:Int) ke ge (nix nb bg (sv jg i)) (nix nb bg (sv jg j))) _=_
    rw [b1,ob_some,cond_true]
theorem l340v3 (hn:nb≤60) (hj:jn≤100) (hu:4000≤u) (hJ:∀ i,i<jn→JobOk nb bg jg i) (ke:Nat) (ge:FF) (hke:ke≤1000) (hA:Acyc (nb:Int) ke ge) (y3:Int):∀ (d i t:Nat) (x:Int) (bf:FF),x=(i:Int)→i+d=jn→d<t→(∀ a,a<i→CV.len (bf a 0)=jn∧∀ j,j<jn→(bv (CV.el (bf a 0)) j=true↔Path ke ge (bix nb bg jg a) (bix nb bg jg j))) →
  ∃ bf',(∀ k0:Nat→FF→Option ρ,L340v3 u jn jg ke ge (Int.ofNat jn) s a1 f1 a2 f2 a3 f3 a4 f4 m f y3 nb bg t x i bf k0=k0 jn bf')∧Rows jn bf' fun i j=>Path ke ge (bix nb bg jg i) (bix nb bg jg j)
 | 0,i,t+1,x,bf,hx,hi,ht,hF=>by
  refine ⟨bf,fun k0=>?_,fun a ha=>hF a (by omega)⟩
  unfold L340v3
  rw [show decide (x<Int.ofNat jn)=false from decide_eq_false (by simp only [Int.ofNat_eq_natCast];omega),cond_false,show i=jn by omega]
 | d+1,i,t+1,x,bf,hx,hi,ht,hF=>by
  have h1:decide (x<Int.ofNat jn)=true:=decide_eq_true (by simp only [Int.ofNat_eq_natCast];omega)
  have h2:inb x jn=true:=inb_true (by omega) (by omega)
  have h3:Int.toNat x=i:=by omega
  have h4:Int.toNat (Int.ofNat jn)=jn:=rfl
  have hx1:w64 (x+1)=((i+1:Nat):Int):=by rw [w64_of (by omega) (by omega)];omega
  obtain ⟨M,b1,_,b3⟩:=l340v2 (ρ:=ρ) u s a1 f1 a2 f2 a3 f3 a4 f4 m f jn jg nb bg hn hj hu hJ ke ge hke hA i (by omega) (Int.ofNat jn) x y3 i bf (cn jg i) (ce jg i) jn 0 u 0 (fun _ j=>listF [(.b false)] j) rfl (by omega) (by omega)
  obtain ⟨bf',e1,e2⟩:=l340v3 hn hj hu hJ ke ge hke hA y3 d (i+1) t (w64 (x+1)) (joinF i bf (rowsF 1 [(.ro false (.pr .bool .nil) jn M)])) hx1 (by omega) (by omega) fun a ha=>by
   by_cases h:a=i
   ·subst h
    rw [joinF_at]
    exact ⟨rfl,fun j hj=>b3 j (Nat.zero_le _) hj⟩
   ·rw [joinF_lt (show a<i by omega)];exact hF a (by omega)
  refine ⟨bf',fun k0=>?_,e2⟩
  rw [← e1 k0]
  conv=>lhs;unfold L340v3
  rw [h1,cond_true,h2,cond_true,makes_t (by omega),cond_true,h3,h4,b1,show Nat.ble (i+1) 1073741824=true from ble_t (by omega),cond_true]
theorem l340v4 (hj:jn≤100) (hu:4000≤u) (K:Nat) (hK:K≤60) (ng:FF) (y:Int) (r:Nat) (rf:FF):∀ (d i t:Nat) (x:Int) (n:Nat) (g:FF),x=(i:Int)→i+d=K→d<t→n≤i →
  ∃ n' g',(∀ k0:Nat→FF→Option ρ,L340v4 u K ng (Int.ofNat K) jn jg y r rf t x n g k0=k0 n' g')∧n'≤K∧ints n' g' = ((List.range' i d).map (sv ng)).foldl (ordStep jn jg) (ints n g)
 | 0,i,t+1,x,n,g,hx,hi,ht,hn=>by
  refine ⟨n,g,fun k0=>?_,by omega,rfl⟩
  unfold L340v4
  rw [show decide (x<Int.ofNat K)=false from decide_eq_false (by simp only [Int.ofNat_eq_natCast];omega),cond_false]
 | d+1,i,t+1,x,n,g,hx,hi,ht,hn=>by
  have h1:decide (x<Int.ofNat K)=true:=decide_eq_true (by simp only [Int.ofNat_eq_natCast];omega)
  have h2:inb x K=true:=inb_true (by omega) (by omega)
  have h3:Int.toNat x=i:=by omega
  have hx1:w64 (x+1)=((i+1:Nat):Int):=by rw [w64_of (by omega) (by omega)];omega
  rw [List.range'_succ,List.map_cons,List.foldl_cons]
  have hU:∀ k0:Nat→FF→Option ρ,L340v4 u K ng (Int.ofNat K) jn jg y r rf (t+1) x n g k0=bif decide (nix jn jg (sv ng i)≥0) && !decide (nix jn jg (sv ng i)∈ints n g) then L340v4 u K ng (Int.ofNat K) jn jg y r rf t (w64 (x+1)) (n+1) (joinF n g (rowsF 1 [(.i .i64 (nix jn jg (sv ng i)))])) k0 else L340v4 u K ng (Int.ofNat K) jn jg y r rf t (w64 (x+1)) n g k0:=fun k0=>by
   conv=>lhs;unfold L340v4
   rw [h1,cond_true,h2,cond_true,h3,job337 u jn jg (CV.str (ng i 0)) (by omega) _ rfl (by omega),ob_some]
   show (bif decide (nix jn jg (sv ng i)≥0)==true then _ else _)=_
   cases decide (nix jn jg (sv ng i)≥0) with
   | false=>rfl
   | true =>
    rw [show (true==true)=true from rfl,cond_true,has339 u n g _ (by omega) (by omega),ob_some,show Nat.ble (n+1) 1073741824=true from ble_t (by omega),Bool.true_and]
    cases decide (nix jn jg (sv ng i)∈ints n g)<;>rfl
  unfold ordStep
  cases q:decide (nix jn jg (sv ng i)≥0) && !decide (nix jn jg (sv ng i)∈ints n g) with
  | true =>
   obtain ⟨n',g',e1,e2,e3⟩:=l340v4 hj hu K hK ng y r rf d (i+1) t (w64 (x+1)) (n+1) (joinF n g (rowsF 1 [(.i .i64 (nix jn jg (sv ng i)))])) hx1 (by omega) (by omega) (by omega)
   refine ⟨n',g',fun k0=>by rw [hU,q,cond_true,e1],e2,?_⟩
   rw [e3,ints_push];rfl
  | false =>
   obtain ⟨n',g',e1,e2,e3⟩:=l340v4 hj hu K hK ng y r rf d (i+1) t (w64 (x+1)) n g hx1 (by omega) (by omega) (by omega)
   refine ⟨n',g',fun k0=>by rw [hU,q,cond_false,e1],e2,?_⟩
   rw [e3];rfl
end
theorem Ends.ed {m:Nat} {f f' : FF} (h:Ends m f f') (a b:Nat):Ed m f a b↔Ed m f' a b :=
 ⟨fun ⟨i,h1,h2,h3⟩=>⟨i,h1,(h i h1).1 ▸ h2,(h i h1).2 ▸ h3⟩,fun ⟨i,h1,h2,h3⟩=>⟨i,h1,(h i h1).1.symm ▸ h2,(h i h1).2.symm ▸ h3⟩⟩
theorem Ends.path {m:Nat} {f f' : FF} (h:Ends m f f') (a b:Nat):Path m f a b↔Path m f' a b :=
 ⟨fun p=>p.mono fun a b=>(h.ed a b).1,fun p=>p.mono fun a b=>(h.ed a b).2⟩
theorem Ends.good {n:Int} {m:Nat} {f f' : FF} (h:Ends m f f') (hg:Good n m f):Good n m f':=fun i hi=>by
 obtain ⟨h1,h2⟩:=h i hi
 rw [← h1,← h2];exact hg i hi
def errR (e from_:Int):Int:=bif e != 0 then e else bif decide (from_<0) then 15 else bif decide (from_>1048576) then 15 else 0
theorem errR_zero {e from_:Int}:errR e from_=0↔e=0∧0≤from_∧from_≤1048576:=by
 unfold errR
 cases q:e != 0 with
 | true =>
  have:e≠0:=by simpa using q
  exact ⟨fun h=>absurd h this,fun h=>absurd h.1 this⟩
 | false =>
  have he:e=0:=by simpa using q
  rw [cond_false]
  cases q1:decide (from_<0) with
  | true=>have:=of_decide_eq_true q1;exact ⟨fun h=>(by cases h),fun h=>by omega⟩
  | false =>
   have:=of_decide_eq_false q1
   rw [cond_false]
   cases q2:decide (from_>1048576) with
   | true=>have:=of_decide_eq_true q2;exact ⟨fun h=>(by cases h),fun h=>by omega⟩
   | false=>have:=of_decide_eq_false q2;exact ⟨fun _=>⟨he,by omega,by omega⟩,fun _=>rfl⟩
theorem eq_false_not (b:Bool):(b==false) = !b:=by cases b<;>rfl
section
variable {u : Nat} {s : ByteArray} {a1 : Nat} {f1 : FF} {a2 : Nat} {f2 : FF} {a3 : Nat} {f3 : FF} {a4 : Nat} {f4 : FF} {m : Nat} {f : FF} {jn : Nat} {jg : FF} {nb : Nat} {bg : FF} {ke : Nat} {ge ge' : FF} {k : Nat} {g : FF} {c e : Int}
theorem JOut.right363 (h:JOut u s a1 f1 a2 f2 a3 f3 a4 f4 m f jn jg nb bg ke ge ge' k g c e) (from_:Int):F363 u s a1 f1 a2 f2 a3 f3 a4 f4 m f jn jg from_=some (errR e from_):=by
 unfold F363 errR
 rw [h.j2,ob_some,eq_false_not]
 cases (e != 0) with
 | true=>rfl
 | false =>
  cases decide (from_<0) with
  | true=>rfl
  | false=>cases decide (from_>1048576)<;>rfl
theorem JOut.acyc (h:JOut u s a1 f1 a2 f2 a3 f3 a4 f4 m f jn jg nb bg ke ge ge' k g c e) (ha:a1≤60) (hc:c=0):Acyc (nb:Int) ke ge∧(∃ l,run nb ke ge nb []=some l∧k=nb∧strs k g=l.map (sv bg)):=by
 have hle:=h.ord.le
 cases h.ord.out with
 | bad _ _ _ _ _ h1=>exact absurd hc h1
 | good ke' ge2 go l hp hg hr _ hk hs =>
  obtain ⟨e1,e2⟩:=ends_of (hp.trans h.ord.prs.symm)
  subst e1
  have hr' : run nb ke' ge nb []=some l:=(run_congr e2 nb []).symm.trans hr
  exact ⟨⟨⟨by omega,by omega⟩,e2.good hg,l,hr'⟩,l,hr',hk,hs⟩
theorem JOut.kele (h:JOut u s a1 f1 a2 f2 a3 f3 a4 f4 m f jn jg nb bg ke ge ge' k g c e) (ha:a1≤30):ke≤1000:=by
 have h1:=h.ord.kle
 have h2:=h.ord.le
 have:nb*nb≤30*30:=Nat.mul_le_mul (by omega) (by omega)
 omega
structure Hall (jn:Nat) (jg:FF) (nb:Nat) (bg:FF) (ke:Nat) (ge:FF) (k:Nat) (g:FF) (bf:FF) (on:Nat) (of:FF):Prop where
 rows:Rows jn bf fun i j=>Path ke ge (bix nb bg jg i) (bix nb bg jg j)
 ole:on≤k
 ord:ints on of=(strs k g).foldl (ordStep jn jg) []
theorem JOut.hall340 (h:JOut u s a1 f1 a2 f2 a3 f3 a4 f4 m f jn jg nb bg ke ge ge' k g c e) (ha:a1≤30) (hj:jn≤100) (hu:4000≤u) (from_:Int) :
  (errR e from_≠0→F340 u s a1 f1 a2 f2 a3 f3 a4 f4 m f jn jg from_=some (true,0,(fun _ _=>.any),0,0,(fun _ _=>.any),0,(fun _ _=>.any),errR e from_)) ∧
  (errR e from_=0→∃ bf on of,F340 u s a1 f1 a2 f2 a3 f3 a4 f4 m f jn jg from_=some (false,jn,jg,from_,jn,bf,on,of,0)∧Hall jn jg nb bg ke ge k g bf on of):=by
 constructor
 ·intro hne
  unfold F340
  unfold errR at hne ⊢
  rw [h.j1,ob_some,eq_false_not]
  cases q:(e != 0) with
  | true=>rfl
  | false =>
   cases q1:decide (from_<0) with
   | true=>rfl
   | false =>
    cases q2:decide (from_>1048576) with
    | true=>rfl
    | false=>rw [q,q1,q2] at hne;exact absurd rfl hne
 ·intro he
  obtain ⟨e0,t1,t2⟩:=errR_zero.1 he
  obtain ⟨_,hc,hJ⟩:=h.ok e0
  obtain ⟨hA,l,_,hk,_⟩:=h.acyc (by omega) hc
  have hle:=h.ord.le
  have hlen:=h.ord.len
  obtain ⟨bf,b1,b2⟩:=l340v3 (ρ:=Bool × Nat × FF × Int × Nat × FF × Nat × FF × Int) u s a1 f1 a2 f2 a3 f3 a4 f4 m f jn jg nb bg (by omega) hj hu hJ ke ge (h.kele ha) hA from_ jn 0 u 0 (fun _ _=>.any) rfl (by omega) (by omega) (fun a h=>by omega)
  obtain ⟨on,of,c1,c2,c3⟩:=l340v4 (ρ:=Bool × Nat × FF × Int × Nat × FF × Nat × FF × Int) u jn jg hj hu k (by omega) g from_ jn bf k 0 u 0 0 (fun _ _=>.any) rfl (by omega) (by omega) (Nat.le_refl _)
  refine ⟨bf,on,of,?_,b2,c2,?_⟩
  ·unfold F340
   rw [h.j1,ob_some,e0,show ((0:Int) != 0)=false from rfl,cond_false,eq_false_not,show decide (from_<0)=false from decide_eq_false (by omega),Bool.not_false,cond_true,show decide (from_>1048576)=false from decide_eq_false (by omega),cond_false,blocks251,h.ord.bl,ob_some,h.ord.e1,ob_some]
   dsimp only
   rw [show L340v3 u jn jg ke ge (Int.ofNat jn) s a1 f1 a2 f2 a3 f3 a4 f4 m f from_ nb bg u 0 0 (fun _ _=>.any) _=_ from b1 _,h.ord.o1,ob_some]
   dsimp only
   exact c1 _
  ·rw [c3,strs,List.range_eq_range'];rfl
end
end Go.Eng.R13
/-
 sched: entries and Check.
-/
set_option linter.all false
namespace Go.Eng.R13
open Go Go.RowKit Go.Eng
theorem lt_t {i k:Nat} (h:i<k):decide ((i:Int)<Int.ofNat k)=true:=decide_eq_true (by simp only [Int.ofNat_eq_natCast];omega)
theorem lt_f (k:Nat):decide ((k:Int)<Int.ofNat k)=false:=decide_eq_false (by simp only [Int.ofNat_eq_natCast];omega)
theorem inb_n {i k:Nat} (h:i<k):inb (i:Int) k=true:=inb_true (by omega) (by omega)
theorem w64_s {i:Nat} (h:i≤1000000):w64 ((i:Int)+1)=((i+1:Nat):Int):=by rw [w64_of (by omega) (by omega)];omega
def fany (p:Nat→Bool):Nat→Nat→Bool
 | 0,_=>false
 | d+1,i=>p i||fany p d (i+1)
theorem fany_iff {p:Nat→Bool}:∀ {d i:Nat},fany p d i=true↔∃ j,i≤j∧j<i+d∧p j=true
 | 0,i=>⟨fun h=>(by cases h),fun ⟨j,h1,h2,_⟩=>by omega⟩
 | d+1,i=>by
  unfold fany
  rw [Bool.or_eq_true,fany_iff]
  constructor
  ·rintro (h | ⟨j,h1,h2,h3⟩)
   ·exact ⟨i,Nat.le_refl _,by omega,h⟩
   ·exact ⟨j,by omega,by omega,h3⟩
  ·rintro ⟨j,h1,h2,h3⟩
   by_cases h:j=i
   ·left;rw [← h];exact h3
   ·right;exact ⟨j,by omega,by omega,h3⟩
theorem fany0 {p:Nat→Bool} {n:Nat}:fany p n 0=true↔∃ j,j<n∧p j=true:=by
 rw [fany_iff]
 exact ⟨fun ⟨j,_,h2,h3⟩=>⟨j,by omega,h3⟩,fun ⟨j,h2,h3⟩=>⟨j,Nat.zero_le _,by omega,h3⟩⟩
theorem fany_congr {p q:Nat→Bool}:∀ {d i:Nat},(∀ j,i≤j→j<i+d→p j=q j)→fany p d i=fany q d i
 | 0,i,_=>rfl
 | d+1,i,h=>by unfold fany;rw [h i (Nat.le_refl _) (by omega),fany_congr fun j h1 h2=>h j (by omega) (by omega)]
theorem fidx_any (p:Nat→Bool):∀ (d i:Nat),decide (fidx p d i≥0)=fany p d i
 | 0,i=>rfl
 | d+1,i=>by
  unfold fidx fany
  cases p i with
  | true=>rw [cond_true,decide_eq_true (by omega),Bool.true_or]
  | false=>rw [cond_false,fidx_any p d (i+1),Bool.false_or]
section
variable {ρ : Type}
theorem scan (K1:Option ρ) (K0:Nat→Option ρ) (L:Nat→Int→Option ρ) (p:Nat→Bool) (k:Nat) (stop:∀ t,L (t+1) (k:Int)=K1) (step:∀ t (i:Nat),i<k→L (t+1) (i:Int)=bif p i then K0 i else L t ((i+1:Nat):Int)) :
  ∀ (d i t:Nat),i+d=k→d<t→L t (i:Int)=bif fany p d i then K0 (fidx p d i).toNat else K1
 | 0,i,t+1,hi,ht=>by rw [show i=k by omega];exact stop t
 | d+1,i,t+1,hi,ht=>by
  rw [step t i (by omega)]
  unfold fany fidx
  cases p i with
  | true=>rw [cond_true,Bool.true_or,cond_true,cond_true,Int.toNat_natCast]
  | false=>rw [cond_false,Bool.false_or,cond_false];exact scan K1 K0 L p k stop step d (i+1) t (by omega) (by omega)
end
abbrev s2 (l:FF) (i:Nat):ByteArray:=CV.str (l i 1)
abbrev ts (l:FF) (i:Nat):Int:=CV.int (l i 2)
abbrev te (l:FF) (i:Nat):Int:=CV.int (l i 3)
section
variable (u : Nat) (jn : Nat) (jg : FF) (fr : Int) (n : Nat) (l : FF) (sb sc : ByteArray) (a b : Int)
theorem nix_in {k:Nat} {g:FF} {s:ByteArray} (h:¬ nix k g s<0):inb (nix k g s) k=true∧(nix k g s).toNat<k∧nix k g s=((nix k g s).toNat:Int)∧sv g (nix k g s).toNat=s:=by
 rcases nix_cases k g s with ⟨h1,_⟩ | ⟨j,h1,h2,h3,_⟩
 ·omega
 ·rw [h2,Int.toNat_natCast];exact ⟨inb_n h1,h1,rfl,h3⟩
end
def jx (jn:Nat) (jg:FF) (l:FF) (i:Nat):Nat:=(nix jn jg (sv l i)).toNat
section
variable {u : Nat} {s : ByteArray} {a1 : Nat} {f1 : FF} {a2 : Nat} {f2 : FF} {a3 : Nat} {f3 : FF} {a4 : Nat} {f4 : FF} {m : Nat} {f : FF} {jn : Nat} {jg : FF} {nb : Nat} {bg : FF} {ke : Nat} {ge ge' : FF} {k : Nat} {g : FF} {c e : Int}
def bB (bf:FF) (i j:Nat):Bool:=bv (CV.el (bf i 0)) j
theorem Rows.eq {n:Nat} {b1 b2:FF} {P:Nat→Nat→Prop} (h1:Rows n b1 P) (h2:Rows n b2 P) {i j:Nat} (hi:i<n) (hj:j<n):bB b1 i j=bB b2 i j:=by
 have e1:=(h1 i hi).2 j hj
 have e2:=(h2 i hi).2 j hj
 unfold bB
 cases q1:bv (CV.el (b1 i 0)) j with
 | true=>exact (e2.2 (e1.1 q1)).symm
 | false =>
  cases q2:bv (CV.el (b2 i 0)) j with
  | false=>rfl
  | true=>rw [e1.2 (e2.1 q2)] at q1;cases q1
end
end Go.Eng.R13
/-
 sched: End,and what is few.
-/
set_option linter.all false
namespace Go.Eng.R13
open Go Go.RowKit Go.Eng
def endG (l:FF):Nat→Nat→Int→Int
 | 0,_,y=>y
 | d+1,i,y=>endG l d (i+1) (bif !decide (i=0) then (bif decide (te l i>y) then te l i else y) else te l i)
def endV (n:Nat) (l:FF):Int:=endG l n 0 0
section
variable {ρ : Type} (u n : Nat) (l : FF)
theorem zero_n (i:Nat):(((i:Int)==0)==false) = !decide (i=0):=by
 cases i with
 | zero=>rfl
 | succ i=>rw [decide_eq_false (by omega),show (((i+1:Nat):Int)==0)=false from beq_false_of_ne (by omega)];rfl
theorem l346 (hn:n≤1000) (k0:Int→Option ρ):∀ (d i t:Nat) (y:Int),i+d=n→d<t→L346v1 u n l (Int.ofNat n) t y (i:Int) k0=k0 (endG l d i y)
 | 0,i,t+1,y,hi,ht=>by
  rw [show i=n by omega]
  unfold L346v1;rw [lt_f,cond_false];rfl
 | d+1,i,t+1,y,hi,ht=>by
  have ih:=fun y=>l346 hn k0 d (i+1) t y (by omega) (by omega)
  unfold L346v1 endG
  rw [lt_t (by omega),cond_true,inb_n (by omega),cond_true,zero_n,Int.toNat_natCast,w64_s (by omega),ih,ih]
  cases !decide (i=0) with
  | false=>rfl
  | true=>rw [cond_true];cases decide (te l i>y)<;>rfl
theorem l368 (hn:n≤1000) (k0:Int→Option ρ):∀ (d i t:Nat) (y:Int),i+d=n→d<t→L368v1 u n l t y (i:Int) k0=k0 (endG l d i y)
 | 0,i,t+1,y,hi,ht=>by
  rw [show i=n by omega]
  unfold L368v1;rw [lt_f,cond_false];rfl
 | d+1,i,t+1,y,hi,ht=>by
  have ih:=fun y=>l368 hn k0 d (i+1) t y (by omega) (by omega)
  unfold L368v1 endG
  rw [lt_t (by omega),cond_true,inb_n (by omega),cond_true,zero_n,Int.toNat_natCast,w64_s (by omega),ih,ih]
  cases !decide (i=0) with
  | false=>rfl
  | true=>cases decide (te l i>y)<;>rfl
theorem end346 (hn:n≤1000) (hu:4000≤u):F346 u n l=some (endV n l):=by
 unfold F346
 exact l346 u n l hn (fun x=>some x) n 0 u 0 (by omega) (by omega)
theorem end368 (hn:n≤1000) (hu:4000≤u):F368 u n l=some (endV n l):=by
 unfold F368
 exact l368 u n l hn (fun x=>some x) n 0 u 0 (by omega) (by omega)
end
theorem l330 {ρ:Type} (u:Nat) (s:ByteArray) (a1:Nat) (f1:FF) (a2:Nat) (f2:FF) (a3:Nat) (f3:FF) (a4:Nat) (f4:FF) (m:Nat) (f:FF) (jn:Nat) (jg:FF) (k0 k1:Option ρ) :
  ∀ (d i t:Nat),i+d=71→d<t→L330v1 u jn jg s a1 f1 a2 f2 a3 f3 a4 f4 m f t (i:Int) k0 k1=k0∨L330v1 u jn jg s a1 f1 a2 f2 a3 f3 a4 f4 m f t (i:Int) k0 k1=k1
 | 0,i,t+1,hi,ht=>by
  right
  unfold L330v1
  rw [show decide ((i:Int)<71)=false from decide_eq_false (by omega),cond_false]
  cases decide ((i:Int)<Int.ofNat jn)<;>rfl
 | d+1,i,t+1,hi,ht=>by
  unfold L330v1
  by_cases h:i<jn
  ·rw [lt_t h,show (true==true)=true from rfl,cond_true,show decide ((i:Int)<71)=true from decide_eq_true (by omega),cond_true,inb_n h,cond_true,w64_s (by omega)]
   cases decide (Int.ofNat (CV.len (jg (Int.toNat (i:Int)) 2))>10) with
   | true=>exact .inl rfl
   | false=>rw [cond_false];exact l330 u s a1 f1 a2 f2 a3 f3 a4 f4 m f jn jg k0 k1 d (i+1) t (by omega) (by omega)
  ·rw [show decide ((i:Int)<Int.ofNat jn)=false from decide_eq_false (by simp only [Int.ofNat_eq_natCast];omega)]
   exact .inr rfl
theorem few330 (u:Nat) (s:ByteArray) (a1:Nat) (f1:FF) (a2:Nat) (f2:FF) (a3:Nat) (f3:FF) (a4:Nat) (f4:FF) (m:Nat) (f:FF) (jn:Nat) (jg:FF) (hu:4000≤u) :
  ∃ b,F330 u s a1 f1 a2 f2 a3 f3 a4 f4 m f jn jg=some b∧(b=true→a1≤30∧m≤60∧jn≤70):=by
 unfold F330
 rcases l330 u s a1 f1 a2 f2 a3 f3 a4 f4 m f jn jg (some false) (bif ((decide ((Int.ofNat a1)≤30))==true) then (bif ((decide ((Int.ofNat m)≤60))==true) then (some (decide ((Int.ofNat jn)≤70))) else (some false)) else (some false)) 71 0 u (by omega) (by omega) with h | h
 ·exact ⟨false,h,fun h=>by cases h⟩
 ·rw [show ((0:Nat):Int)=0 from rfl] at h
  rw [h]
  cases q1:decide ((Int.ofNat a1)≤30) with
  | false=>exact ⟨false,rfl,fun h=>by cases h⟩
  | true =>
   cases q2:decide ((Int.ofNat m)≤60) with
   | false=>exact ⟨false,rfl,fun h=>by cases h⟩
   | true =>
    refine ⟨_,rfl,fun h=>?_⟩
    have q1:=of_decide_eq_true q1
    have q2:=of_decide_eq_true q2
    have q3:=of_decide_eq_true h
    simp only [Int.ofNat_eq_natCast] at q1 q2 q3
    exact ⟨by omega,by omega,by omega⟩
end Go.Eng.R13
/-
 sched: what Check accepts,without an order of the entries.
-/
set_option linter.all false
namespace Go.Eng.R13
open Go Go.RowKit Go.Eng
def Two (l:FF) (i j:Nat):Prop:=sv l j≠sv l i∧(s2 l j=s2 l i→ts l j<te l i→te l j≤ts l i)
theorem Two.symm {l:FF} {i j:Nat} (h:Two l i j):Two l j i:=⟨fun e=>h.1 e.symm,fun e h1=>Classical.byContradiction fun h2=>by
 have:=h.2 e.symm (by omega)
 omega⟩
def PB (ke:Nat) (ge:FF) (nb:Nat) (bg jg:FF) (i j:Nat):Prop:=Path ke ge (bix nb bg jg i) (bix nb bg jg j)
theorem jx_eq {jn:Nat} {jg:FF} {l:FF} {i:Nat} (h:0≤nix jn jg (sv l i)):jx jn jg l i<jn∧sv jg (jx jn jg l i)=sv l i:=by
 obtain ⟨_,h1,_,h2⟩:=nix_in (show ¬ nix jn jg (sv l i)<0 by omega)
 exact ⟨h1,h2⟩
section
variable {u : Nat} {s : ByteArray} {a1 : Nat} {f1 : FF} {a2 : Nat} {f2 : FF} {a3 : Nat} {f3 : FF} {a4 : Nat} {f4 : FF} {m : Nat} {f : FF} {jn : Nat} {jg : FF} {nb : Nat} {bg : FF} {ke : Nat} {ge ge' : FF} {k : Nat} {g : FF} {c e : Int}
end
end Go.Eng.R13
/-
 sched: Greedy.
-/
set_option linter.all false
namespace Go.Eng.R13
open Go Go.RowKit Go.Eng
def staG (p:Nat→Bool) (l:FF):Nat→Nat→Int→Int
 | 0,_,y=>y
 | d+1,i,y=>staG p l d (i+1) (bif p i then (if te l i>y then te l i else y) else y)
def afterB (bf:FF) (jn:Nat) (jg:FF) (l:FF) (q:Nat) (cr:ByteArray) (i:Nat):Bool:=bB bf (jx jn jg l i) q||decide (s2 l i=cr)
def staV (bf:FF) (jn:Nat) (jg:FF) (fr:Int) (n:Nat) (l:FF) (q:Nat) (cr:ByteArray):Int:=staG (afterB bf jn jg l q cr) l n 0 fr
theorem staG_spec (p:Nat→Bool) (l:FF):∀ (d i:Nat) (y:Int),y≤staG p l d i y∧(∀ j,i≤j→j<i+d→p j=true→te l j≤staG p l d i y)∧(staG p l d i y=y∨∃ j,i≤j∧j<i+d∧p j=true∧staG p l d i y=te l j)
 | 0,i,y=>⟨Int.le_refl _,fun j h1 h2=>by omega,.inl rfl⟩
 | d+1,i,y=>by
  unfold staG
  obtain ⟨e1,e2,e3⟩:=staG_spec p l d (i+1) (bif p i then (if te l i>y then te l i else y) else y)
  cases q:p i with
  | false =>
   rw [q,cond_false] at e1 e2 e3
   rw [cond_false]
   refine ⟨e1,fun j h1 h2 hp=>?_,e3.imp id fun ⟨j,h1,h2,h3⟩=>⟨j,by omega,by omega,h3⟩⟩
   by_cases hj:j=i
   ·rw [hj,q] at hp;cases hp
   ·exact e2 j (by omega) (by omega) hp
  | true =>
   rw [q,cond_true] at e1 e2 e3
   rw [cond_true]
   by_cases hc:te l i>y
   ·rw [if_pos hc] at e1 e2 e3 ⊢
    refine ⟨by omega,fun j h1 h2 hp=>?_,?_⟩
    ·by_cases hj:j=i
     ·rw [hj];exact e1
     ·exact e2 j (by omega) (by omega) hp
    ·rcases e3 with e3 | ⟨j,h1,h2,h3⟩
     ·exact .inr ⟨i,Nat.le_refl _,by omega,q,e3⟩
     ·exact .inr ⟨j,by omega,by omega,h3⟩
   ·rw [if_neg hc] at e1 e2 e3 ⊢
    refine ⟨e1,fun j h1 h2 hp=>?_,e3.imp id fun ⟨j,h1,h2,h3⟩=>⟨j,by omega,by omega,h3⟩⟩
    by_cases hj:j=i
    ·rw [hj];omega
    ·exact e2 j (by omega) (by omega) hp
theorem staG_congr {p q:Nat→Bool} {l:FF}:∀ {d i:Nat} {y:Int},(∀ j,i≤j→j<i+d→p j=q j)→staG p l d i y=staG q l d i y
 | 0,i,y,_=>rfl
 | d+1,i,y,h=>by
  unfold staG
  rw [h i (Nat.le_refl _) (by omega)]
  exact staG_congr fun j h1 h2=>h j (by omega) (by omega)
def Known (jn:Nat) (jg:FF) (n:Nat) (l:FF):Prop:=∀ i,i<n→0≤nix jn jg (sv l i)
structure IsHall (h:Nat→CV) (jn:Nat) (jg:FF) (fr:Int) (bf:FF):Prop where
 h0:h 0=.ro false (.pr .str (.pr (.int .i64) (.pr (.sl (.pr .str .nil)) .nil))) jn jg
 h1:CV.int (h 1)=fr
 h2:h 2=.ro false (.pr (.sl (.pr .bool .nil)) .nil) jn bf
section
variable {ρ : Type} (u : Nat) (hu : 4000 ≤ u) (jn : Nat) (hj : jn ≤ 1000) (jg : FF) (fr : Int) (bf : FF) (hb : ∀ i, i < jn → CV.len (bf i 0) = jn) (n : Nat) (hn : n ≤ 1000) (l : FF) (hk : Known jn jg n l) (q : Nat) (hq : q < jn) (cr : ByteArray)
theorem l341 (hu:4000≤u) (hj:jn≤1000) (hb:∀ i,i<jn→CV.len (bf i 0)=jn) (hn:n≤1000) (hk:Known jn jg n l) (hq:q<jn) (h:Nat→CV) (hh:IsHall h jn jg fr bf) (k0:Int→Option ρ):∀ (d i t:Nat) (y:Int),i+d=n→d<t→L341v1 u h (q:Int) cr n l (Int.ofNat n) t y (i:Int) k0=k0 (staG (afterB bf jn jg l q cr) l d i y)
 | 0,i,t+1,y,hi,ht=>by
  rw [show i=n by omega]
  unfold L341v1;rw [lt_f,cond_false];rfl
 | d+1,i,t+1,y,hi,ht=>by
  have ih:=fun y=>l341 hu hj hb hn hk hq h hh k0 d (i+1) t y (by omega) (by omega)
  obtain ⟨a1,a2,a3,_⟩:=nix_in (show ¬ nix jn jg (sv l i)<0 by have:=hk i (by omega);omega)
  unfold L341v1 staG
  rw [lt_t (by omega),cond_true,inb_n (by omega),cond_true,Int.toNat_natCast,w64_s (by omega),ih,ih,tl_eq,job337 u jn jg (CV.str (l i 0)) (by omega) h hh.h0 (by omega),ob_some,hh.h2,
   show CV.len (CV.ro false (.pr (.sl (.pr .bool .nil)) .nil) jn bf)=jn from rfl,show CV.el (CV.ro false (.pr (.sl (.pr .bool .nil)) .nil) jn bf)=bf from rfl,a1,cond_true,hb _ a2,inb_n hq,cond_true,Int.toNat_natCast,eq_false_not]
  show (bif !decide (s2 l i=cr) then (bif bB bf (jx jn jg l i) q then _ else _) else _)=_
  unfold afterB
  cases decide (s2 l i=cr) with
  | true=>rw [Bool.or_true];rfl
  | false=>rw [Bool.or_false,Bool.not_false,cond_true];cases bB bf (jx jn jg l i) q<;>rfl
theorem start341 (hu:4000≤u) (hj:jn≤1000) (hb:∀ i,i<jn→CV.len (bf i 0)=jn) (hn:n≤1000) (hk:Known jn jg n l) (hq:q<jn) (h:Nat→CV) (hh:IsHall h jn jg fr bf):F341 u h n l (q:Int) cr=some (staV bf jn jg fr n l q cr):=by
 unfold F341
 rw [hh.h1]
 exact l341 u jn jg fr bf n l q cr hu hj hb hn hk hq h hh (fun x=>some x) n 0 u fr (by omega) (by omega)
theorem l371 (hu:4000≤u) (hj:jn≤1000) (hb:∀ i,i<jn→CV.len (bf i 0)=jn) (hn:n≤1000) (hk:Known jn jg n l) (hq:q<jn) (k0:Int→Option ρ):∀ (d i t:Nat) (y:Int),i+d=n→d<t→L371v1 u jn jg jn bf n l (q:Int) cr t y (i:Int) k0=k0 (staG (afterB bf jn jg l q cr) l d i y)
 | 0,i,t+1,y,hi,ht=>by
  rw [show i=n by omega]
  unfold L371v1;rw [lt_f,cond_false];rfl
 | d+1,i,t+1,y,hi,ht=>by
  have ih:=fun y=>l371 hu hj hb hn hk hq k0 d (i+1) t y (by omega) (by omega)
  obtain ⟨a1,a2,a3,_⟩:=nix_in (show ¬ nix jn jg (sv l i)<0 by have:=hk i (by omega);omega)
  unfold L371v1 staG
  rw [lt_t (by omega),cond_true,inb_n (by omega),cond_true,Int.toNat_natCast,w64_s (by omega),ih,ih,tl_eq,jobOf364 u jn jg (CV.str (l i 0)) (by omega) (by omega),ob_some,a1,cond_true,hb _ a2,inb_n hq,cond_true,Int.toNat_natCast,eq_false_not]
  show (bif !bB bf (jx jn jg l i) q then (bif decide (s2 l i=cr) then _ else _) else _)=_
  unfold afterB
  cases bB bf (jx jn jg l i) q with
  | true=>rfl
  | false=>rw [Bool.not_false,cond_true,Bool.false_or];cases decide (s2 l i=cr)<;>rfl
theorem start371 (hu:4000≤u) (hj:jn≤1000) (hb:∀ i,i<jn→CV.len (bf i 0)=jn) (hn:n≤1000) (hk:Known jn jg n l) (hq:q<jn):F371 u jn jg jn bf fr n l (q:Int) cr=some (staV bf jn jg fr n l q cr):=by
 unfold F371
 exact l371 u jn jg bf n l q cr hu hj hb hn hk hq (fun x=>some x) n 0 u fr (by omega) (by omega)
theorem plan344 (hu:4000≤u) (hj:jn≤1000) (hb:∀ i,i<jn→CV.len (bf i 0)=jn) (hn:n≤1000) (hk:Known jn jg n l) (hq:q<jn) (h:Nat→CV) (hh:IsHall h jn jg fr bf):F344 u h n l (q:Int) cr=some (sv jg q,cr,staV bf jn jg fr n l q cr,w64 (staV bf jn jg fr n l q cr+hv jg q)):=by
 unfold F344
 rw [start341 u jn jg fr bf n l q cr hu hj hb hn hk hq h hh,ob_some,hh.h0]
 show (bif inb (q:Int) jn then _ else _)=_
 rw [inb_n hq,cond_true]
 show (bif inb (q:Int) jn then _ else _)=_
 rw [inb_n hq,cond_true,Int.toNat_natCast];rfl
theorem plan372 (hu:4000≤u) (hj:jn≤1000) (hb:∀ i,i<jn→CV.len (bf i 0)=jn) (hn:n≤1000) (hk:Known jn jg n l) (hq:q<jn):F372 u jn jg jn bf fr n l (q:Int) cr=some (sv jg q,cr,staV bf jn jg fr n l q cr,w64 (staV bf jn jg fr n l q cr+hv jg q)):=by
 unfold F372
 rw [start371 u jn jg fr bf n l q cr hu hj hb hn hk hq,ob_some,inb_n hq,cond_true,cond_true,Int.toNat_natCast]
end
def Small (fr:Int) (n:Nat) (l:FF):Prop:=∀ i,i<n→te l i≤1099511627776
theorem staV_le {bf:FF} {jn:Nat} {jg:FF} {fr:Int} {n:Nat} {l:FF} (hs:Small fr n l) (h0:0≤fr) (h1:fr≤1048576) (q:Nat) (cr:ByteArray):0≤staV bf jn jg fr n l q cr∧staV bf jn jg fr n l q cr≤1099511627776:=by
 obtain ⟨e1,_,e3⟩:=staG_spec (afterB bf jn jg l q cr) l n 0 fr
 unfold staV
 refine ⟨by omega,?_⟩
 rcases e3 with e3 | ⟨j,_,h2,_,h3⟩
 ·omega
 ·rw [h3];exact hs j (by omega)
section
variable {ρ : Type} (u : Nat) (jn : Nat) (jg : FF) (fr : Int) (bf : FF) (n : Nat) (l : FF) (q : Nat)
end
def rowP (bf:FF) (jn:Nat) (jg:FF) (fr:Int) (n:Nat) (l:FF) (q:Nat) (cr:ByteArray):FF :=
 joinF n l (rowsF 4 [(.s (sv jg q)),(.s cr),(.i .i64 (staV bf jn jg fr n l q cr)),(.i .i64 (w64 (staV bf jn jg fr n l q cr+hv jg q)))])
section
variable {bf : FF} {jn : Nat} {jg : FF} {fr : Int} {n : Nat} {l : FF} {q : Nat} {cr : ByteArray}
theorem rowP_lt {i:Nat} (h:i<n):rowP bf jn jg fr n l q cr i=l i:=joinF_lt h
theorem rowP_sv:sv (rowP bf jn jg fr n l q cr) n=sv jg q:=by unfold sv rowP;rw [joinF_at];rfl
theorem rowP_s2:s2 (rowP bf jn jg fr n l q cr) n=cr:=by unfold s2 rowP;rw [joinF_at];rfl
theorem rowP_ts:ts (rowP bf jn jg fr n l q cr) n=staV bf jn jg fr n l q cr:=by unfold ts rowP;rw [joinF_at];rfl
theorem rowP_te:te (rowP bf jn jg fr n l q cr) n=w64 (staV bf jn jg fr n l q cr+hv jg q):=by unfold te rowP;rw [joinF_at];rfl
end
structure GInv (bf:FF) (jn:Nat) (jg:FF) (fr:Int) (L:List Int) (n:Nat) (l:FF):Prop where
 len:n=L.length
 at_:∀ j,j<n→∃ q:Nat,L[j]?=some (q:Int)∧q<jn∧sv l j=sv jg q∧s2 l j∈strs (cn jg q) (ce jg q)∧fr≤ts l j∧te l j=ts l j+hv jg q∧(∀ i,i<j→afterB bf jn jg l q (s2 l j) i=true→te l i≤ts l j)
 sm:∀ j,j<n→te l j≤fr+10000*(n:Int)
theorem jobs_inj {nb:Nat} {bg:FF} {jn:Nat} {jg:FF} (hJ:∀ i,i<jn→JobOk nb bg jg i) {i j:Nat} (hi:i<jn) (hj:j<jn) (h:sv jg i=sv jg j):i=j:=by
 have asc:∀ d i,i+(d+1)<jn→ltS (sv jg i) (sv jg (i+(d+1)))=true:=fun d=>by
  induction d with
  | zero=>intro i h;exact (hJ (i+1) h).lt (by omega)
  | succ d ih =>
   intro i h
   exact ltS_tr (ih i (by omega)) ((hJ (i+(d+1)+1) h).lt (by omega))
 rcases Nat.lt_trichotomy i j with q | q | q
 ·have:=asc (j-i-1) i (by omega)
  rw [show i+(j-i-1+1)=j by omega,h,ltS_irr] at this;cases this
 ·exact q
 ·have:=asc (i-j-1) j (by omega)
  rw [show j+(i-j-1+1)=i by omega,h,ltS_irr] at this;cases this
theorem GInv.known {bf:FF} {jn:Nat} {jg:FF} {fr:Int} {L:List Int} {n:Nat} {l:FF} (h:GInv bf jn jg fr L n l):Known jn jg n l:=fun i hi=>by
 obtain ⟨q,_,h2,h3,_⟩:=h.at_ i hi
 rcases nix_cases jn jg (sv l i) with ⟨_,h4⟩ | ⟨j,_,h5,_⟩
 ·exact absurd h3.symm (h4 q h2)
 ·omega
theorem afterB_congr {bf:FF} {jn:Nat} {jg:FF} {l l' : FF} {q:Nat} {cr:ByteArray} {i:Nat} (h:l' i=l i):afterB bf jn jg l' q cr i=afterB bf jn jg l q cr i:=by
 unfold afterB jx sv s2;rw [h]
theorem GInv.step {bf:FF} {jn:Nat} {jg:FF} {fr:Int} {L:List Int} {n:Nat} {l:FF} (h:GInv bf jn jg fr L n l) (h0:0≤fr) (h1:fr≤1048576) (hn:n≤1000) {q:Nat} (hq:q<jn) (hh1:1≤hv jg q) (hh2:hv jg q≤10000) {cr:ByteArray} (hc:cr∈strs (cn jg q) (ce jg q)) :
  GInv bf jn jg fr (L ++ [(q:Int)]) (n+1) (rowP bf jn jg fr n l q cr):=by
 have hlen:=h.len
 have hs:Small fr n l:=fun i hi=>by have:=h.sm i hi;omega
 have hv0:=staV_le (bf:=bf) (jn:=jn) (jg:=jg) hs h0 h1 q cr
 obtain ⟨e1,e2,e3⟩:=staG_spec (afterB bf jn jg l q cr) l n 0 fr
 have hte:te (rowP bf jn jg fr n l q cr) n=staV bf jn jg fr n l q cr+hv jg q:=by rw [rowP_te,w64_of (by omega) (by omega)]
 have hlow:staV bf jn jg fr n l q cr≤fr+10000*(n:Int):=by
  unfold staV
  rcases e3 with e3 | ⟨j,_,j2,_,j3⟩
  ·rw [e3];omega
  ·rw [j3];exact h.sm j (by omega)
 refine ⟨by rw [List.length_append,← h.len];rfl,fun j hj=>?_,fun j hj=>?_⟩
 ·by_cases hjn:j=n
  ·subst hjn
   refine ⟨q,by rw [hlen,List.getElem?_append_right (Nat.le_refl _)];simp,hq,rowP_sv,by rw [rowP_s2];exact hc,by rw [rowP_ts];exact e1,by rw [hte,rowP_ts],fun i hi ha=>?_⟩
   rw [rowP_s2,afterB_congr (rowP_lt hi)] at ha
   rw [rowP_ts]
   unfold te;rw [rowP_lt hi]
   exact e2 i (Nat.zero_le _) (by omega) ha
  ·obtain ⟨q',a1,a2,a3,a4,a5,a6,a7⟩:=h.at_ j (by omega)
   have e:=rowP_lt (bf:=bf) (jn:=jn) (jg:=jg) (fr:=fr) (l:=l) (q:=q) (cr:=cr) (show j<n by omega)
   refine ⟨q',by rw [List.getElem?_append_left (by omega)];exact a1,a2,by unfold sv;rw [e];exact a3,by unfold s2;rw [e];exact a4,by unfold ts;rw [e];exact a5,by unfold te ts;rw [e];exact a6,fun i hi ha=>?_⟩
   have e':=rowP_lt (bf:=bf) (jn:=jn) (jg:=jg) (fr:=fr) (l:=l) (q:=q) (cr:=cr) (show i<n by omega)
   have hse:s2 (rowP bf jn jg fr n l q cr) j=s2 l j:=by unfold s2;rw [e]
   rw [hse,afterB_congr e'] at ha
   have:=a7 i hi ha
   unfold te ts at this ⊢;rw [e,e'];exact this
 ·by_cases hjn:j=n
  ·subst hjn;rw [hte];omega
  ·have:=h.sm j (by omega)
   unfold te at this ⊢
   rw [rowP_lt (show j<n by omega)];omega
theorem GInv.nil (bf:FF) (jn:Nat) (jg:FF) (fr:Int):GInv bf jn jg fr [] 0 (fun _ _=>.any):=⟨rfl,fun j hj=>by omega,fun j hj=>by omega⟩
end Go.Eng.R13
/-
 The starts do not depend on how the rows of Before are laid.
-/
set_option linter.all false
namespace Go.Eng.R13
open Go Go.RowKit Go.Eng
theorem Known.jx {jn:Nat} {jg:FF} {n:Nat} {l:FF} (h:Known jn jg n l) {i:Nat} (hi:i<n):jx jn jg l i<jn:=(jx_eq (h i hi)).1
theorem staV_congr {P:Nat→Nat→Prop} {b1 b2:FF} {jn:Nat} {jg:FF} (h1:Rows jn b1 P) (h2:Rows jn b2 P) {fr:Int} {n:Nat} {l:FF} (hk:Known jn jg n l) {q:Nat} (hq:q<jn) (cr:ByteArray):staV b1 jn jg fr n l q cr=staV b2 jn jg fr n l q cr:=by
 unfold staV
 refine staG_congr fun j _ hj=>?_
 unfold afterB
 rw [Rows.eq h1 h2 (hk.jx (by omega)) hq]
end Go.Eng.R13
/-
 sched: the search of Best,of the program and of the reference.
-/
set_option linter.all false
namespace Go.Eng.R13
open Go Go.RowKit Go.Eng
def inP (jg:FF) (n:Nat) (l:FF) (k:Nat):Bool:=fany (fun j=>decide (sv l j=sv jg k)) n 0
def nx (bf:FF) (jn:Nat) (jg:FF) (n:Nat) (l:FF) (i:Nat):Bool:=!inP jg n l i && !fany (fun k=>bB bf k i && !inP jg n l k) jn 0
def extP (bf:FF) (jn:Nat) (jg:FF) (fr:Int) (p:Nat × FF) (i:Nat) (c:ByteArray):Nat × FF:=(p.1+1,rowP bf jn jg fr p.1 p.2 i c)
abbrev Sx:Type:=Nat × FF × Bool × Int
def goC (F:Nat × FF→Sx→Bool × Sx) (e:ByteArray→Nat × FF) (g:FF):Nat→Nat→Sx→Bool × Sx
 | 0,_,s=>(true,s)
 | d+1,c,s=>bif (F (e (sv g c)) s).1 then goC F e g d (c+1) (F (e (sv g c)) s).2 else (false,(F (e (sv g c)) s).2)
def goJ (bf:FF) (jn:Nat) (jg:FF) (fr:Int) (F:Nat × FF→Sx→Bool × Sx) (p:Nat × FF):Nat→Nat→Sx→Bool × Sx
 | 0,_,s=>(true,s)
 | d+1,i,s=>bif nx bf jn jg p.1 p.2 i then
   (bif (goC F (extP bf jn jg fr p i) (ce jg i) (cn jg i) 0 s).1 then goJ bf jn jg fr F p d (i+1) (goC F (extP bf jn jg fr p i) (ce jg i) (cn jg i) 0 s).2 else (false,(goC F (extP bf jn jg fr p i) (ce jg i) (cn jg i) 0 s).2))
  else goJ bf jn jg fr F p d (i+1) s
def sr (bf:FF) (jn:Nat) (jg:FF) (fr:Int):Nat→Nat × FF→Sx→Bool × Sx
 | 0,_,s=>(true,s)
 | N+1,p,s =>
  bif s.2.2.1&&decide (endV p.1 p.2≥endV s.1 s.2.1) then (true,s)
  else bif decide (p.1=jn) then (true,(p.1,p.2,true,s.2.2.2))
  else bif decide (s.2.2.2≤0) then (false,s)
  else goJ bf jn jg fr (sr bf jn jg fr N) p jn 0 (s.1,s.2.1,s.2.2.1,s.2.2.2-1)
structure PIn (jn:Nat) (jg:FF) (p:Nat × FF):Prop where
 le:p.1≤jn
 kn:Known jn jg p.1 p.2
def SIn (s:Sx):Prop:=s.1≤100∧0≤s.2.2.2∧s.2.2.2≤100000
theorem nix_self {jn:Nat} {jg:FF} {q:Nat} (hq:q<jn):0≤nix jn jg (sv jg q):=by
 rcases nix_cases jn jg (sv jg q) with ⟨_,h⟩ | ⟨j,_,h,_⟩
 ·exact absurd rfl (h q hq)
 ·omega
theorem PIn.ext {bf:FF} {jn:Nat} {jg:FF} {fr:Int} {p:Nat × FF} (h:PIn jn jg p) (hne:p.1≠jn) {i:Nat} (hi:i<jn) (c:ByteArray):PIn jn jg (extP bf jn jg fr p i c):=by
 refine ⟨by have:=h.le;show p.1+1≤jn;omega,fun j hj=>?_⟩
 by_cases q:j=p.1
 ·subst q
  show 0≤nix jn jg (sv (rowP bf jn jg fr p.1 p.2 i c) p.1)
  rw [rowP_sv];exact nix_self hi
 ·have hj:j<p.1+1:=hj
  show 0≤nix jn jg (sv (rowP bf jn jg fr p.1 p.2 i c) j)
  unfold sv;rw [rowP_lt (show j<p.1 by omega)];exact h.kn j (by omega)
theorem goC_inv {F:Nat × FF→Sx→Bool × Sx} {e:ByteArray→Nat × FF} {g:FF} (hF:∀ c s,SIn s→SIn (F (e c) s).2):∀ (d c:Nat) (s:Sx),SIn s→SIn (goC F e g d c s).2
 | 0,_,s,h=>h
 | d+1,c,s,h=>by
  unfold goC
  cases (F (e (sv g c)) s).1 with
  | true=>exact goC_inv hF d (c+1) _ (hF _ s h)
  | false=>exact hF _ s h
theorem goJ_inv {bf:FF} {jn:Nat} {jg:FF} {fr:Int} {F:Nat × FF→Sx→Bool × Sx} {p:Nat × FF} (hF:∀ i c s,i<jn→SIn s→SIn (F (extP bf jn jg fr p i c) s).2):∀ (d i:Nat) (s:Sx),i+d=jn→SIn s→SIn (goJ bf jn jg fr F p d i s).2
 | 0,_,s,_,h=>h
 | d+1,i,s,hi,h=>by
  unfold goJ
  cases nx bf jn jg p.1 p.2 i with
  | false=>exact goJ_inv hF d (i+1) s (by omega) h
  | true =>
   have:=goC_inv (F:=F) (e:=extP bf jn jg fr p i) (g:=ce jg i) (fun c s hs=>hF i c s (by omega) hs) (cn jg i) 0 s h
   rw [cond_true]
   cases (goC F (extP bf jn jg fr p i) (ce jg i) (cn jg i) 0 s).1 with
   | true=>exact goJ_inv hF d (i+1) _ (by omega) this
   | false=>exact this
theorem sr_inv {bf:FF} {jn:Nat} {jg:FF} {fr:Int} (hj:jn≤100):∀ (N:Nat) (p:Nat × FF) (s:Sx),PIn jn jg p→SIn s→SIn (sr bf jn jg fr N p s).2
 | 0,_,s,_,h=>h
 | N+1,p,s,hp,h=>by
  unfold sr
  cases s.2.2.1&&decide (endV p.1 p.2≥endV s.1 s.2.1) with
  | true=>exact h
  | false =>
   by_cases q:p.1=jn
   ·rw [decide_eq_true q]
    exact ⟨by show p.1≤100;omega,h.2⟩
   ·rw [decide_eq_false q]
    by_cases q2:s.2.2.2≤0
    ·rw [decide_eq_true q2];exact h
    ·rw [decide_eq_false q2]
     refine goJ_inv (fun i c s hi hs=>sr_inv hj N _ s (hp.ext q hi c) hs) jn 0 _ (by omega) ⟨h.1,?_,?_⟩
     ·show 0≤s.2.2.2-1;omega
     ·have:=h.2.2;show s.2.2.2-1≤100000;omega
section
variable {ρ : Type} (u : Nat) (jn : Nat) (jg : FF) (fr : Int) (bf : FF) (n : Nat) (l : FF)
theorem in350 (hu:4000≤u) (hn:n≤1000) (h:Nat→CV) (hh:IsHall h jn jg fr bf) (k:Nat) (hk:k<jn) (K:Kd):F350 u (k:Int) (listF [(.ro false K n l)]) h=some (inP jg n l k):=by
 unfold F350
 show ob (F349 u n l h (listF [(.i .i64 (k:Int))])) _=_
 unfold F349 F348
 rw [show L348v1 u n l h (listF [(.i .i64 (k:Int))]) (Int.ofNat n) u 0 (fun x=>some x) (some (-1))=_ from
  scan (some (-1)) (fun i=>some (i:Int)) (fun t x=>L348v1 u n l h (listF [(.i .i64 (k:Int))]) (Int.ofNat n) t x (fun x=>some x) (some (-1))) (fun j=>decide (sv l j=sv jg k)) n (fun t=>by
   show L348v1 _ _ _ _ _ _ _ _ _ _=_
   unfold L348v1;rw [lt_f,cond_false]) (fun t i hi=>by
   show L348v1 _ _ _ _ _ _ _ _ _ _=_
   conv=>lhs;unfold L348v1 F347
   rw [lt_t hi,cond_true,inb_n hi,cond_true,Int.toNat_natCast,hh.h0,show CV.int (listF [(.i .i64 (k:Int))] 0)=(k:Int) from rfl,show CV.len (CV.ro false (.pr .str (.pr (.int .i64) (.pr (.sl (.pr .str .nil)) .nil))) jn jg)=jn from rfl,show CV.el (CV.ro false (.pr .str (.pr (.int .i64) (.pr (.sl (.pr .str .nil)) .nil))) jn jg)=jg from rfl,inb_n hk,cond_true,ob_some,Int.toNat_natCast,tl_eq,w64_s (by omega)]) n 0 u (by omega) (by omega)]
 unfold inP
 rw [← fidx_any]
 rcases fidx_cases (fun j=>decide (sv l j=sv jg k)) n 0 with ⟨h1,_⟩ | ⟨j,_,_,h1,_,_⟩
 ·rw [h1];rfl
 ·rw [h1,decide_eq_true (show (j:Int)≥0 by omega),cond_true,ob_some,Int.toNat_natCast,decide_eq_true (show (j:Int)≥0 by omega)];rfl
theorem next351 (hu:4000≤u) (hj:jn≤1000) (hn:n≤1000) (hb:∀ i,i<jn→CV.len (bf i 0)=jn) (h:Nat→CV) (hh:IsHall h jn jg fr bf) (i:Nat) (hi:i<jn):F351 u h n l (i:Int)=some (nx bf jn jg n l i):=by
 unfold F351 nx
 rw [in350 u jn jg fr bf n l hu hn h hh i hi,ob_some]
 cases inP jg n l i with
 | true=>rfl
 | false =>
  rw [cond_false,Bool.not_false,Bool.true_and,hh.h0]
  show L351v1 u (i:Int) (Int.ofNat jn) h n l u 0 (some false) (some true)=_
  have:=scan (some true) (fun _=>some false) (fun t x=>L351v1 u (i:Int) (Int.ofNat jn) h n l t x (some false) (some true)) (fun k=>bB bf k i && !inP jg n l k) jn (fun t=>by
   show L351v1 _ _ _ _ _ _ _ _ _ _=_
   unfold L351v1;rw [lt_f,cond_false]) (fun t k hk=>by
   show L351v1 _ _ _ _ _ _ _ _ _ _=_
   conv=>lhs;unfold L351v1
   rw [lt_t hk,cond_true,hh.h2,show CV.len (CV.ro false (.pr (.sl (.pr .bool .nil)) .nil) jn bf)=jn from rfl,show CV.el (CV.ro false (.pr (.sl (.pr .bool .nil)) .nil) jn bf)=bf from rfl,inb_n hk,cond_true,Int.toNat_natCast,hb k hk,inb_n hi,cond_true,Int.toNat_natCast,in350 u jn jg fr bf n l hu hn h hh k hk,ob_some,w64_s (by omega)]
   show (bif bB bf k i==true then _ else _)=_
   cases bB bf k i with
   | false=>rfl
   | true=>cases inP jg n l k<;>rfl) jn 0 u (by omega) (by omega)
  refine Eq.trans this ?_
  cases fany (fun k=>bB bf k i && !inP jg n l k) jn 0<;>rfl
end
section
variable {ρ : Type} (u : Nat) (jn : Nat) (jg : FF) (fr : Int) (bf : FF)
def pArg (jn:Nat) (jg:FF) (h:Nat→CV) (p:Nat × FF) (s:Sx):T352:=(((p.1,p.2),((),((),((),((),((),())))))),((),((jn,jg),(h,((s.1,s.2.1),(s.2.2.2,(s.2.2.1,())))))))
abbrev Yx:Type:=Nat × FF × Int × Bool
def yS (s:Sx):Yx:=(s.1,s.2.1,s.2.2.2,s.2.2.1)
def Fits52 (o:Option (Bool × Yx)) (r:Bool × Sx):Prop:=∃ y,o=some (r.1,y)∧(r.1=true→y=yS r.2)
variable (h : Nat → CV)
theorem l352v2 (hu:4000≤u) (hj:jn≤100) (hb:∀ i,i<jn→CV.len (bf i 0)=jn) (hh:IsHall h jn jg fr bf) (R:T352→Option (Bool × Nat × FF × Int × Bool)) (F:Nat × FF→Sx→Bool × Sx) (p:Nat × FF) (hp:PIn jn jg p) (i:Nat) (hi:i<jn) (hc:cn jg i≤1000)
  (hR:∀ c s,SIn s→Fits52 (R (pArg jn jg h (extP bf jn jg fr p i c) s)) (F (extP bf jn jg fr p i c) s)) (hF:∀ c s,SIn s→SIn (F (extP bf jn jg fr p i c) s).2) (y1:Int):∀ (d c t:Nat) (s:Sx),c+d=cn jg i→d<t→SIn s →
  ∃ y:Yx,(∀ k0 k1:Nat→FF→Int→Bool→Option ρ,L352v2 u R p.1 p.2 (i:Int) y1 (cn jg i) (ce jg i) (Int.ofNat (cn jg i)) jn jg h t (c:Int) s.1 s.2.1 s.2.2.2 s.2.2.1 k0 k1 =
   bif (goC F (extP bf jn jg fr p i) (ce jg i) d c s).1 then k1 (goC F (extP bf jn jg fr p i) (ce jg i) d c s).2.1 (goC F (extP bf jn jg fr p i) (ce jg i) d c s).2.2.1 (goC F (extP bf jn jg fr p i) (ce jg i) d c s).2.2.2.2 (goC F (extP bf jn jg fr p i) (ce jg i) d c s).2.2.2.1 else k0 y.1 y.2.1 y.2.2.1 y.2.2.2)
 | 0,c,t+1,s,hcd,ht,hs=>by
  refine ⟨yS s,fun k0 k1=>?_⟩
  rw [show c=cn jg i by omega]
  unfold L352v2;rw [lt_f,cond_false];rfl
 | d+1,c,t+1,s,hcd,ht,hs=>by
  obtain ⟨y,r1,r2⟩:=hR (sv (ce jg i) c) s hs
  have hle:=hp.le
  have step:∀ k0 k1:Nat→FF→Int→Bool→Option ρ,L352v2 u R p.1 p.2 (i:Int) y1 (cn jg i) (ce jg i) (Int.ofNat (cn jg i)) jn jg h (t+1) (c:Int) s.1 s.2.1 s.2.2.2 s.2.2.1 k0 k1 =
    bif !(F (extP bf jn jg fr p i (sv (ce jg i) c)) s).1 then k0 y.1 y.2.1 y.2.2.1 y.2.2.2 else L352v2 u R p.1 p.2 (i:Int) y1 (cn jg i) (ce jg i) (Int.ofNat (cn jg i)) jn jg h t ((c+1:Nat):Int) y.1 y.2.1 y.2.2.1 y.2.2.2 k0 k1:=fun k0 k1=>by
   conv=>lhs;unfold L352v2
   rw [lt_t (by omega),cond_true,inb_n (by omega),cond_true,ble_t (by omega),cond_true,Int.toNat_natCast,plan344 u jn jg fr bf p.1 p.2 i _ hu (by omega) hb (by omega) hp.kn hi h hh,ob_some,ble_t (by omega),cond_true]
   rw [show R ((((p.1+1),(joinF p.1 p.2 (rowsF 4 [(.s (sv jg i)),(.s (CV.str (ce jg i c 0))),(.i .i64 (staV bf jn jg fr p.1 p.2 i (CV.str (ce jg i c 0)))),(.i .i64 (w64 (staV bf jn jg fr p.1 p.2 i (CV.str (ce jg i c 0))+hv jg i)))]))),((),((),((),((),((),())))))),((),((jn,jg),(h,((s.1,s.2.1),(s.2.2.2,(s.2.2.1,())))))))=some ((F (extP bf jn jg fr p i (sv (ce jg i) c)) s).1,y) from r1,ob_some,w64_s (by omega)]
  unfold goC
  cases q:(F (extP bf jn jg fr p i (sv (ce jg i) c)) s).1 with
  | false =>
   refine ⟨y,fun k0 k1=>?_⟩
   rw [step,q];rfl
  | true =>
   have hy:=r2 q
   obtain ⟨y',h'⟩:=l352v2 hu hj hb hh R F p hp i hi hc hR hF y1 d (c+1) t (F (extP bf jn jg fr p i (sv (ce jg i) c)) s).2 (by omega) (by omega) (hF _ s hs)
   refine ⟨y',fun k0 k1=>?_⟩
   rw [step,q,hy,Bool.not_true,cond_false,cond_true]
   exact h' k0 k1
theorem l352v3 (hu:4000≤u) (hj:jn≤100) (hb:∀ i,i<jn→CV.len (bf i 0)=jn) (hh:IsHall h jn jg fr bf) (hcn:∀ i,i<jn→cn jg i≤1000) (R:T352→Option (Bool × Nat × FF × Int × Bool)) (F:Nat × FF→Sx→Bool × Sx) (p:Nat × FF) (hp:PIn jn jg p)
  (hR:∀ i c s,i<jn→SIn s→Fits52 (R (pArg jn jg h (extP bf jn jg fr p i c) s)) (F (extP bf jn jg fr p i c) s)) (hF:∀ i c s,i<jn→SIn s→SIn (F (extP bf jn jg fr p i c) s).2):∀ (d i t:Nat) (s:Sx),i+d=jn→d<t→SIn s →
  ∃ y:Yx,(∀ k0 k1:Nat→FF→Int→Bool→Option ρ,L352v3 u R p.1 p.2 (Int.ofNat jn) jn jg h t (i:Int) s.1 s.2.1 s.2.2.2 s.2.2.1 k0 k1 =
   bif (goJ bf jn jg fr F p d i s).1 then k1 (goJ bf jn jg fr F p d i s).2.1 (goJ bf jn jg fr F p d i s).2.2.1 (goJ bf jn jg fr F p d i s).2.2.2.2 (goJ bf jn jg fr F p d i s).2.2.2.1 else k0 y.1 y.2.1 y.2.2.1 y.2.2.2)
 | 0,i,t+1,s,hid,ht,hs=>by
  refine ⟨yS s,fun k0 k1=>?_⟩
  rw [show i=jn by omega]
  unfold L352v3;rw [lt_f,cond_false];rfl
 | d+1,i,t+1,s,hid,ht,hs=>by
  have hi:i<jn:=by omega
  have hle:=hp.le
  have hc:=hcn i hi
  unfold goJ
  cases q:nx bf jn jg p.1 p.2 i with
  | false =>
   obtain ⟨y,h'⟩:=l352v3 hu hj hb hh hcn R F p hp hR hF d (i+1) t s (by omega) (by omega) hs
   refine ⟨y,fun k0 k1=>?_⟩
   rw [cond_false,← h' k0 k1]
   conv=>lhs;unfold L352v3
   rw [lt_t hi,cond_true,next351 u jn jg fr bf p.1 p.2 hu (by omega) (by omega) hb h hh i hi,ob_some,q,Bool.not_false,cond_true,w64_s (by omega)]
  | true =>
   rw [cond_true]
   obtain ⟨y,hy⟩:=l352v2 (ρ:=ρ) u jn jg fr bf h hu hj hb hh R F p hp i hi hc (fun c s hs=>hR i c s hi hs) (fun c s hs=>hF i c s hi hs) (Int.ofNat jn) (cn jg i) 0 u s (by omega) (by omega) hs
   have hs':=goC_inv (F:=F) (e:=extP bf jn jg fr p i) (g:=ce jg i) (fun c s hs=>hF i c s hi hs) (cn jg i) 0 s hs
   have step:∀ k0 k1:Nat→FF→Int→Bool→Option ρ,L352v3 u R p.1 p.2 (Int.ofNat jn) jn jg h (t+1) (i:Int) s.1 s.2.1 s.2.2.2 s.2.2.1 k0 k1 =
     bif (goC F (extP bf jn jg fr p i) (ce jg i) (cn jg i) 0 s).1 then L352v3 u R p.1 p.2 (Int.ofNat jn) jn jg h t ((i+1:Nat):Int) (goC F (extP bf jn jg fr p i) (ce jg i) (cn jg i) 0 s).2.1 (goC F (extP bf jn jg fr p i) (ce jg i) (cn jg i) 0 s).2.2.1 (goC F (extP bf jn jg fr p i) (ce jg i) (cn jg i) 0 s).2.2.2.2 (goC F (extP bf jn jg fr p i) (ce jg i) (cn jg i) 0 s).2.2.2.1 k0 k1 else k0 y.1 y.2.1 y.2.2.1 y.2.2.2:=fun k0 k1=>by
    conv=>lhs;unfold L352v3
    rw [lt_t hi,cond_true,next351 u jn jg fr bf p.1 p.2 hu (by omega) (by omega) hb h hh i hi,ob_some,q,Bool.not_true,cond_false,inb_n hi,cond_true,Int.toNat_natCast,w64_s (by omega)]
    exact hy (fun x123 x124 x125 x126=>(k0 x123 x124 x125 x126)) (fun x127 x128 x129 x130=>(L352v3 u R p.1 p.2 (Int.ofNat jn) jn jg h t ((i+1:Nat):Int) x127 x128 x129 x130 k0 k1))
   cases q2:(goC F (extP bf jn jg fr p i) (ce jg i) (cn jg i) 0 s).1 with
   | false =>
    refine ⟨y,fun k0 k1=>?_⟩
    rw [step,q2];rfl
   | true =>
    obtain ⟨y',h'⟩:=l352v3 hu hj hb hh hcn R F p hp hR hF d (i+1) t _ (by omega) (by omega) hs'
    refine ⟨y',fun k0 k1=>?_⟩
    rw [step,q2,cond_true,cond_true]
    exact h' k0 k1
theorem search352 (hu:4000≤u) (hj:jn≤100) (hb:∀ i,i<jn→CV.len (bf i 0)=jn) (hh:IsHall h jn jg fr bf) (hcn:∀ i,i<jn→cn jg i≤1000):∀ (N:Nat) (p:Nat × FF) (s:Sx),PIn jn jg p→SIn s→jn<N+p.1→Fits52 (recF (GG352 u) N (pArg jn jg h p s)) (sr bf jn jg fr N p s)
 | 0,p,s,hp,hs,hN=>by have:=hp.le;omega
 | N+1,p,s,hp,hs,hN=>by
  have hle:=hp.le
  obtain ⟨s1,s2,s3⟩:=hs
  have hcall:p.1≠jn→¬ s.2.2.2≤0→∃ y:Yx,(∀ k0 k1:Nat→FF→Int→Bool→Option (Bool × Nat × FF × Int × Bool),L352v3 u (recF (GG352 u) N) p.1 p.2 (Int.ofNat jn) jn jg h u 0 s.1 s.2.1 (w64 (s.2.2.2-1)) s.2.2.1 k0 k1 =
    bif (goJ bf jn jg fr (sr bf jn jg fr N) p jn 0 (s.1,s.2.1,s.2.2.1,s.2.2.2-1)).1 then k1 (goJ bf jn jg fr (sr bf jn jg fr N) p jn 0 (s.1,s.2.1,s.2.2.1,s.2.2.2-1)).2.1 (goJ bf jn jg fr (sr bf jn jg fr N) p jn 0 (s.1,s.2.1,s.2.2.1,s.2.2.2-1)).2.2.1 (goJ bf jn jg fr (sr bf jn jg fr N) p jn 0 (s.1,s.2.1,s.2.2.1,s.2.2.2-1)).2.2.2.2 (goJ bf jn jg fr (sr bf jn jg fr N) p jn 0 (s.1,s.2.1,s.2.2.1,s.2.2.2-1)).2.2.2.1 else k0 y.1 y.2.1 y.2.2.1 y.2.2.2):=fun hne hl=>by
   rw [w64_of (by omega) (by omega)]
   exact l352v3 u jn jg fr bf h hu hj hb hh hcn (recF (GG352 u) N) (sr bf jn jg fr N) p hp (fun i c s hi hs=>search352 hu hj hb hh hcn N _ s (hp.ext hne hi c) hs (by show jn<N+(p.1+1);omega)) (fun i c s hi hs=>sr_inv hj N _ s (hp.ext hne hi c) hs) jn 0 u (s.1,s.2.1,s.2.2.1,s.2.2.2-1) (by omega) (by omega) ⟨s1,by show 0≤s.2.2.2-1;omega,by show s.2.2.2-1≤100000;omega⟩
  -- behind the first test
  have tail:∀ X:Option (Bool × Nat × FF × Int × Bool),X=(bif ((Int.ofNat p.1)==(Int.ofNat jn)) then (bif (Nat.ble p.1 1073741824) then (some (true,p.1,p.2,s.2.2.2,true)) else none) else (bif (decide ((w64 (s.2.2.2-1))<0)) then (some (false,s.1,s.2.1,(w64 (s.2.2.2-1)),s.2.2.1)) else (L352v3 u (recF (GG352 u) N) p.1 p.2 (Int.ofNat jn) jn jg h u 0 s.1 s.2.1 (w64 (s.2.2.2-1)) s.2.2.1 (fun x y z w=>(some (false,x,y,z,w))) (fun x y z w=>(some (true,x,y,z,w)))))) →
    Fits52 X (bif decide (p.1=jn) then (true,(p.1,p.2,true,s.2.2.2)) else bif decide (s.2.2.2≤0) then (false,s) else goJ bf jn jg fr (sr bf jn jg fr N) p jn 0 (s.1,s.2.1,s.2.2.1,s.2.2.2-1)):=fun X hX=>by
   subst hX
   by_cases q:p.1=jn
   ·rw [show ((Int.ofNat p.1)==(Int.ofNat jn))=true by rw [q];exact beq_self_eq_true _,cond_true,ble_t (by omega),cond_true,decide_eq_true q]
    exact ⟨_,rfl,fun _=>rfl⟩
   ·rw [show ((Int.ofNat p.1)==(Int.ofNat jn))=false from beq_false_of_ne (fun e=>q (Int.ofNat.inj e)),cond_false,decide_eq_false q,cond_false]
    by_cases q2:s.2.2.2≤0
    ·rw [show decide (w64 (s.2.2.2-1)<0)=true from decide_eq_true (by rw [w64_of (by omega) (by omega)];omega),cond_true,decide_eq_true q2]
     exact ⟨_,rfl,fun h=>by cases h⟩
    ·rw [show decide (w64 (s.2.2.2-1)<0)=false from decide_eq_false (by rw [w64_of (by omega) (by omega)];omega),cond_false,decide_eq_false q2,cond_false]
     obtain ⟨y,hy⟩:=hcall q q2
     rw [hy]
     cases q3:(goJ bf jn jg fr (sr bf jn jg fr N) p jn 0 (s.1,s.2.1,s.2.2.1,s.2.2.2-1)).1 with
     | true=>exact ⟨_,by rw [q3];rfl,fun _=>rfl⟩
     | false=>exact ⟨_,by rw [q3];rfl,fun h=>by rw [q3] at h;cases h⟩
  show Fits52 (G352 u (recF (GG352 u) N) p.1 p.2 jn jg h s.1 s.2.1 s.2.2.2 s.2.2.1) _
  unfold G352 sr
  cases q:s.2.2.1 with
  | false =>
   rw [show (false==true)=false from rfl,cond_false,Bool.false_and,cond_false]
   rw [q] at tail
   exact tail _ rfl
  | true =>
   rw [show (true==true)=true from rfl,cond_true,end346 u p.1 p.2 (by omega) hu,ob_some,end346 u s.1 s.2.1 (by omega) hu,ob_some,Bool.true_and]
   cases decide (endV p.1 p.2≥endV s.1 s.2.1) with
   | true =>
    refine ⟨_,rfl,fun _=>?_⟩
    show _=(s.1,s.2.1,s.2.2.2,s.2.2.1)
    rw [q]
   | false =>
    rw [cond_false,cond_false]
    rw [q] at tail
    exact tail _ rfl
end
end Go.Eng.R13
/-
 sched: Best of the program,in plain words.
-/
set_option linter.all false
namespace Go.Eng.R13
open Go Go.RowKit Go.Eng
theorem goC_congr {F1 F2:Nat × FF→Sx→Bool × Sx} {e1 e2:ByteArray→Nat × FF} {g:FF} (h:∀ c s,F1 (e1 c) s=F2 (e2 c) s):∀ (d c:Nat) (s:Sx),goC F1 e1 g d c s=goC F2 e2 g d c s
 | 0,_,_=>rfl
 | d+1,c,s=>by
  unfold goC
  rw [h]
  cases (F2 (e2 (sv g c)) s).1 with
  | true=>exact goC_congr h d (c+1) _
  | false=>rfl
theorem nx_congr {P:Nat→Nat→Prop} {b1 b2:FF} {jn:Nat} {jg:FF} (h1:Rows jn b1 P) (h2:Rows jn b2 P) (n:Nat) (l:FF) {i:Nat} (hi:i<jn):nx b1 jn jg n l i=nx b2 jn jg n l i:=by
 unfold nx
 congr 2
 exact fany_congr fun k _ hk=>by rw [Rows.eq h1 h2 (show k<jn by omega) hi]
theorem extP_congr {P:Nat→Nat→Prop} {b1 b2:FF} {jn:Nat} {jg:FF} (h1:Rows jn b1 P) (h2:Rows jn b2 P) {fr:Int} {p:Nat × FF} (hp:PIn jn jg p) {i:Nat} (hi:i<jn) (c:ByteArray):extP b1 jn jg fr p i c=extP b2 jn jg fr p i c:=by
 unfold extP rowP
 rw [staV_congr h1 h2 hp.kn hi c]
theorem goJ_congr {P:Nat→Nat→Prop} {b1 b2:FF} {jn:Nat} {jg:FF} (h1:Rows jn b1 P) (h2:Rows jn b2 P) {fr:Int} {F1 F2:Nat × FF→Sx→Bool × Sx} {p:Nat × FF} (hp:PIn jn jg p) (hF:∀ i c s,i<jn→F1 (extP b2 jn jg fr p i c) s=F2 (extP b2 jn jg fr p i c) s):∀ (d i:Nat) (s:Sx),i+d=jn→goJ b1 jn jg fr F1 p d i s=goJ b2 jn jg fr F2 p d i s
 | 0,_,_,_=>rfl
 | d+1,i,s,hi=>by
  have hc:goC F1 (extP b1 jn jg fr p i) (ce jg i) (cn jg i) 0 s=goC F2 (extP b2 jn jg fr p i) (ce jg i) (cn jg i) 0 s :=
   goC_congr (fun c s=>by rw [extP_congr h1 h2 hp (by omega) c];exact hF i c s (by omega)) _ _ _
  have ih:=goJ_congr h1 h2 hp hF d (i+1) s (by omega)
  have ih2:=goJ_congr h1 h2 hp hF d (i+1) (goC F2 (extP b2 jn jg fr p i) (ce jg i) (cn jg i) 0 s).2 (by omega)
  unfold goJ
  rw [nx_congr h1 h2 _ _ (show i<jn by omega),hc,ih,ih2]
theorem sr_succ (bf:FF) (jn:Nat) (jg:FF) (fr:Int) (N:Nat) (p:Nat × FF) (s:Sx):sr bf jn jg fr (N+1) p s =
  bif s.2.2.1&&decide (endV p.1 p.2≥endV s.1 s.2.1) then (true,s)
  else bif decide (p.1=jn) then (true,(p.1,p.2,true,s.2.2.2))
  else bif decide (s.2.2.2≤0) then (false,s)
  else goJ bf jn jg fr (sr bf jn jg fr N) p jn 0 (s.1,s.2.1,s.2.2.1,s.2.2.2-1):=rfl
theorem sr_congr {P:Nat→Nat→Prop} {b1 b2:FF} {jn:Nat} {jg:FF} (h1:Rows jn b1 P) (h2:Rows jn b2 P) {fr:Int} (N:Nat):∀ (p:Nat × FF) (s:Sx),PIn jn jg p→sr b1 jn jg fr N p s=sr b2 jn jg fr N p s:=by
 induction N with
 | zero=>intro p s _;rfl
 | succ N ih =>
  intro p s hp
  rw [sr_succ,sr_succ]
  by_cases q:p.1=jn
  ·rw [decide_eq_true q,cond_true,cond_true]
  ·rw [goJ_congr h1 h2 hp (fun i c s hi=>ih _ s (hp.ext q hi c)) jn 0 _ (by omega)]
def leftV (st:Int):Int:=if 0>(if 100000<st then 100000 else st) then 0 else (if 100000<st then 100000 else st)
theorem leftV_in (st:Int):0≤leftV st∧leftV st≤100000:=by unfold leftV;split<;>split<;>omega
def p0:Nat × FF:=(0,fun _ _=>.any)
def s0 (L:Int):Sx:=(0,(fun _ _=>.any),false,L)
theorem p0_in (jn:Nat) (jg:FF):PIn jn jg p0:=⟨Nat.zero_le _,fun i hi=>absurd hi (Nat.not_lt_zero _)⟩
def bestV (r:Bool × Sx):Nat × FF × Int:=bif !r.1 then (0,(fun _ _=>.any),29) else (r.2.1,r.2.2.1,0)
section
variable {u : Nat} {s : ByteArray} {a1 : Nat} {f1 : FF} {a2 : Nat} {f2 : FF} {a3 : Nat} {f3 : FF} {a4 : Nat} {f4 : FF} {m : Nat} {f : FF} {jn : Nat} {jg : FF} {nb : Nat} {bg : FF} {ke : Nat} {ge ge' : FF} {k : Nat} {g : FF} {c e : Int}
theorem JOut.best353 (h:JOut u s a1 f1 a2 f2 a3 f3 a4 f4 m f jn jg nb bg ke ge ge' k g c e) (ha:a1≤30) (hu:4000≤u) (hj:jn≤100) (fr st:Int) :
  (errR e fr≠0→F353 u s a1 f1 a2 f2 a3 f3 a4 f4 m f jn jg fr st=some (0,(fun _ _=>.any),errR e fr)) ∧
  (errR e fr=0→6<jn→F353 u s a1 f1 a2 f2 a3 f3 a4 f4 m f jn jg fr st=some (0,(fun _ _=>.any),13)) ∧
  (errR e fr=0→jn≤6→∀ bf:FF,Rows jn bf (PB ke ge nb bg jg)→F353 u s a1 f1 a2 f2 a3 f3 a4 f4 m f jn jg fr st=some (bestV (sr bf jn jg fr u p0 (s0 (leftV st))))):=by
 refine ⟨fun hne=>?_,fun hz hj6=>?_,fun hz hj6 bf hR=>?_⟩
 ·unfold F353 FT353
  rw [(h.hall340 ha hj hu fr).1 hne,ob_some]
  dsimp only
  rw [cond_true,show (errR e fr != 0)=true by simpa using hne,cond_true,ob_some];rfl
 ·obtain ⟨bf1,on,of,e1,hH⟩:=(h.hall340 ha hj hu fr).2 hz
  unfold F353 FT353
  rw [e1,ob_some]
  dsimp only
  rw [cond_false,show decide (Int.ofNat jn>6)=true from decide_eq_true (by simp only [Int.ofNat_eq_natCast];omega),cond_true,ob_some];rfl
 ·obtain ⟨bf1,on,of,e1,hH⟩:=(h.hall340 ha hj hu fr).2 hz
  obtain ⟨e0,_,_⟩:=errR_zero.1 hz
  obtain ⟨_,_,hJ⟩:=h.ok e0
  obtain ⟨hl0,hl1⟩:=leftV_in st
  have hs:=search352 u jn jg fr bf1 (listF [(.ro false (.pr .str (.pr (.int .i64) (.pr (.sl (.pr .str .nil)) .nil))) jn jg),(.i .i64 fr),(.ro false (.pr (.sl (.pr .bool .nil)) .nil) jn bf1),(.ro false (.pr (.int .i64) .nil) on of)]) hu hj (fun i hi=>(hH.rows i hi).1) ⟨rfl,rfl,rfl⟩ (fun i hi=>by have:=(hJ i hi).c2;omega) u p0 (s0 (leftV st)) (p0_in jn jg) ⟨Nat.zero_le _,hl0,hl1⟩ (by show jn<u+0;omega)
  rw [sr_congr hH.rows hR u p0 _ (p0_in jn jg)] at hs
  obtain ⟨y,y1,y2⟩:=hs
  unfold F353 FT353
  rw [e1,ob_some]
  dsimp only
  rw [cond_false,show decide (Int.ofNat jn>6)=false from decide_eq_false (by simp only [Int.ofNat_eq_natCast];omega),cond_false]
  rw [show F352 u 0 (fun _ _=>.any) jn jg (listF [(.ro false (.pr .str (.pr (.int .i64) (.pr (.sl (.pr .str .nil)) .nil))) jn jg),(.i .i64 fr),(.ro false (.pr (.sl (.pr .bool .nil)) .nil) jn bf1),(.ro false (.pr (.int .i64) .nil) on of)]) 0 (fun _ _=>.any) (if 0>(if 100000<st then 100000 else st) then 0 else (if 100000<st then 100000 else st)) false=some ((sr bf jn jg fr u p0 (s0 (leftV st))).1,y) from y1,ob_some]
  dsimp only
  unfold bestV
  cases q:(sr bf jn jg fr u p0 (s0 (leftV st))).1 with
  | false=>rfl
  | true =>
   rw [y2 q];rfl
end
end Go.Eng.R13
/-
 sched: the search of the reference.
-/
set_option linter.all false
namespace Go.Eng.R13
open Go Go.RowKit Go.Eng
theorem joinF_zero (f g:FF):joinF 0 f g=g:=by
 funext i j
 unfold joinF
 rw [show Nat.blt i 0=false by cases e:Nat.blt i 0 with | false=>rfl | true=>rw [Nat.blt_eq] at e;omega]
 rfl
abbrev Rx:Type:=Nat × FF × Bool × Int × Bool
def SIr (s:Sx):Prop:=s.1≤100∧s.2.2.2≤100000
theorem goC_inr {F:Nat × FF→Sx→Bool × Sx} {e:ByteArray→Nat × FF} {g:FF} (hF:∀ c s,SIr s→SIr (F (e c) s).2):∀ (d c:Nat) (s:Sx),SIr s→SIr (goC F e g d c s).2
 | 0,_,s,h=>h
 | d+1,c,s,h=>by
  unfold goC
  cases (F (e (sv g c)) s).1 with
  | true=>exact goC_inr hF d (c+1) _ (hF _ s h)
  | false=>exact hF _ s h
theorem goJ_inr {bf:FF} {jn:Nat} {jg:FF} {fr:Int} {F:Nat × FF→Sx→Bool × Sx} {p:Nat × FF} (hF:∀ i c s,i<jn→SIr s→SIr (F (extP bf jn jg fr p i c) s).2):∀ (d i:Nat) (s:Sx),i+d=jn→SIr s→SIr (goJ bf jn jg fr F p d i s).2
 | 0,_,s,_,h=>h
 | d+1,i,s,hi,h=>by
  unfold goJ
  cases nx bf jn jg p.1 p.2 i with
  | false=>exact goJ_inr hF d (i+1) s (by omega) h
  | true =>
   have:=goC_inr (F:=F) (e:=extP bf jn jg fr p i) (g:=ce jg i) (fun c s hs=>hF i c s (by omega) hs) (cn jg i) 0 s h
   rw [cond_true]
   cases (goC F (extP bf jn jg fr p i) (ce jg i) (cn jg i) 0 s).1 with
   | true=>exact goJ_inr hF d (i+1) _ (by omega) this
   | false=>exact this
theorem sr_inr {bf:FF} {jn:Nat} {jg:FF} {fr:Int} (hj:jn≤100):∀ (N:Nat) (p:Nat × FF) (s:Sx),PIn jn jg p→SIr s→SIr (sr bf jn jg fr N p s).2
 | 0,_,s,_,h=>h
 | N+1,p,s,hp,h=>by
  unfold sr
  cases s.2.2.1&&decide (endV p.1 p.2≥endV s.1 s.2.1) with
  | true=>exact h
  | false =>
   by_cases q:p.1=jn
   ·rw [decide_eq_true q]
    exact ⟨by show p.1≤100;omega,h.2⟩
   ·rw [decide_eq_false q]
    by_cases q2:s.2.2.2≤0
    ·rw [decide_eq_true q2];exact h
    ·rw [decide_eq_false q2]
     refine goJ_inr (fun i c s hi hs=>sr_inr hj N _ s (hp.ext q hi c) hs) jn 0 _ (by omega) ⟨h.1,?_⟩
     have:=h.2;show s.2.2.2-1≤100000;omega
section
variable {ρ : Type} (u : Nat) (jn : Nat) (jg : FF) (fr : Int) (bf : FF) (R : T377 → Option (Nat × FF × Bool × Int × Bool))
theorem l377v1 (hj:jn≤1000) (hu:4000≤u) (n:Nat) (hn:n≤1000) (l:FF) (hk:Known jn jg n l) (bn:Nat) (bl:FF) (fo:Bool) (st:Int) (ov:Bool):∀ (d i t:Nat) (A:FF),i+d=n→d<t →
  ∃ A',(∀ k0:FF→Option ρ,L377v1 u R jn jg jn bf fr n l jn bn bl fo st ov t (i:Int) A k0=k0 A')∧∀ q,bv A' q=(bv A q||fany (fun j=>decide (jx jn jg l j=q)) d i)
 | 0,i,t+1,A,hi,ht=>by
  refine ⟨A,fun k0=>?_,fun q=>by unfold fany;rw [Bool.or_false]⟩
  rw [show i=n by omega]
  unfold L377v1;rw [lt_f,cond_false]
 | d+1,i,t+1,A,hi,ht=>by
  obtain ⟨a1,a2,a3,_⟩:=nix_in (show ¬ nix jn jg (sv l i)<0 by have:=hk i (by omega);omega)
  obtain ⟨A',h1,h2⟩:=l377v1 hj hu n hn l hk bn bl fo st ov d (i+1) t (setF A (0+jx jn jg l i) 0 1 (listF [(.b true)])) (by omega) (by omega)
  refine ⟨A',fun k0=>?_,fun q=>?_⟩
  ·rw [← h1 k0]
   conv=>lhs;unfold L377v1
   rw [lt_t (by omega),cond_true,inb_n (by omega),cond_true,Int.toNat_natCast,w64_s (by omega),jobOf364 u jn jg (CV.str (l i 0)) (by omega) (by omega),ob_some,a1,cond_true];rfl
  ·rw [h2,setB]
   conv=>rhs;unfold fany
   by_cases hq:q=jx jn jg l i
   ·rw [if_pos hq,decide_eq_true hq.symm];simp
   ·rw [if_neg hq,decide_eq_false (fun e=>hq e.symm),Bool.false_or]
theorem l377v4 (hj:jn≤1000) (hb:∀ i,i<jn→CV.len (bf i 0)=jn) (n:Nat) (l:FF) (q:Nat) (hq:q<jn) (bn:Nat) (bl:FF) (fo:Bool) (st:Int) (ov:Bool) (A:FF) (k0:Bool→Option ρ):∀ (d i t:Nat) (b:Bool),i+d=jn→d<t →
  L377v4 u R jn jg jn bf fr n l jn (q:Int) bn bl fo st ov A t b (i:Int) k0=k0 (b && !fany (fun k=>bB bf k q && !bv A k) d i)
 | 0,i,t+1,b,hi,ht=>by
  rw [show i=jn by omega]
  unfold L377v4;rw [lt_f,cond_false];unfold fany;rw [Bool.not_false,Bool.and_true]
 | d+1,i,t+1,b,hi,ht=>by
  have ih:=fun b=>l377v4 hj hb n l q hq bn bl fo st ov A k0 d (i+1) t b (by omega) (by omega)
  unfold L377v4 fany
  rw [lt_t (by omega),cond_true,inb_n (by omega),cond_true,Int.toNat_natCast,hb i (by omega),inb_n hq,cond_true,Int.toNat_natCast,w64_s (by omega),ih,ih,ih,Nat.zero_add]
  show (bif (b==true) then (bif ((!bB bf i q)==false) then (bif true then k0 (bv A i&&_) else none) else _) else _)=_
  cases b with
  | false=>rw [show (false==true)=false from rfl,cond_false,Bool.false_and,Bool.false_and]
  | true =>
   rw [show (true==true)=true from rfl,cond_true,Bool.true_and]
   cases bB bf i q with
   | false=>rw [show ((!false)==false)=false from rfl,cond_false,Bool.false_and,Bool.false_or,Bool.true_and]
   | true =>
    rw [show ((!true)==false)=true from rfl,cond_true,cond_true,Bool.true_and]
    cases bv A i with
    | true=>rfl
    | false=>rfl
def rArg (jn:Nat) (jg bf:FF) (fr:Int) (p:Nat × FF) (s:Sx) (o:Bool):T377:=((jn,jg),((jn,bf),(fr,((p.1,p.2),((s.1,s.2.1),(s.2.2.1,(s.2.2.2,o)))))))
def rRes (r:Bool × Sx):Rx:=(r.2.1,r.2.2.1,r.2.2.2.1,r.2.2.2.2,!r.1)
theorem l377_5o (hu:4000≤u) (hj:jn≤100) (hb:∀ i,i<jn→CV.len (bf i 0)=jn) (p:Nat × FF) (hp:PIn jn jg p) (i:Nat) (hi:i<jn) (hc:cn jg i≤1000) (hO:∀ c s,R (rArg jn jg bf fr (extP bf jn jg fr p i c) s true)=some (s.1,s.2.1,s.2.2.1,s.2.2.2,true)) (A:FF) (s:Sx) (fe:Bool) (k0:Nat→FF→Bool→Int→Bool→Option ρ):∀ (d c t:Nat),c+d=cn jg i→d<t →
  L377v5 u R jn jg jn bf fr p.1 p.2 jn (i:Int) fe A t (c:Int) s.1 s.2.1 s.2.2.1 s.2.2.2 true k0=k0 s.1 s.2.1 s.2.2.1 s.2.2.2 true
 | 0,c,t+1,hcd,ht=>by
  rw [show c=cn jg i by omega]
  unfold L377v5
  rw [inb_n hi,cond_true,Int.toNat_natCast,show decide (((cn jg i:Nat):Int)<Int.ofNat (CV.len (jg i 2)))=false from lt_f _];rfl
 | d+1,c,t+1,hcd,ht=>by
  have hle:=hp.le
  have hcc:c<CV.len (jg i 2):=by show c<cn jg i;omega
  unfold L377v5
  rw [inb_n hi,cond_true,Int.toNat_natCast,lt_t hcc,show (true==true)=true from rfl,cond_true]
  cases fe with
  | false=>rfl
  | true =>
   rw [cond_true,cond_true,inb_n hcc,cond_true,Int.toNat_natCast,plan372 u jn jg fr bf p.1 p.2 i _ hu (by omega) hb (by omega) hp.kn hi,ob_some,ble_t (by omega),cond_true,ble_t (by omega),cond_true,Nat.zero_add,joinF_zero]
   rw [show R ((jn,jg),((jn,bf),(fr,(((p.1+1),(joinF p.1 p.2 (rowsF 4 [(.s (sv jg i)),(.s (CV.str (CV.el (jg i 2) c 0))),(.i .i64 (staV bf jn jg fr p.1 p.2 i (CV.str (CV.el (jg i 2) c 0)))),(.i .i64 (w64 (staV bf jn jg fr p.1 p.2 i (CV.str (CV.el (jg i 2) c 0))+hv jg i)))]))),((s.1,s.2.1),(s.2.2.1,(s.2.2.2,true)))))))=some (s.1,s.2.1,s.2.2.1,s.2.2.2,true) from hO _ s,ob_some,w64_s (by omega)]
   exact l377_5o hu hj hb p hp i hi hc hO A s true k0 d (c+1) t (by omega) (by omega)
theorem l377_5n (p:Nat × FF) (i:Nat) (hi:i<jn) (A:FF) (s:Sx) (o:Bool) (k0:Nat→FF→Bool→Int→Bool→Option ρ) (t' : Nat) (ht:0<t') :
  L377v5 u R jn jg jn bf fr p.1 p.2 jn (i:Int) false A t' 0 s.1 s.2.1 s.2.2.1 s.2.2.2 o k0=k0 s.1 s.2.1 s.2.2.1 s.2.2.2 o:=by
 obtain ⟨t,rfl⟩:∃ t,t' = t+1:=⟨t' - 1,by omega⟩
 unfold L377v5
 rw [inb_n hi,cond_true,cond_false]
 cases (decide ((0:Int)<Int.ofNat (CV.len (jg (Int.toNat (i:Int)) 2)))==true)<;>rfl
theorem l377v5 (hu:4000≤u) (hj:jn≤100) (hb:∀ i,i<jn→CV.len (bf i 0)=jn) (F:Nat × FF→Sx→Bool × Sx) (p:Nat × FF) (hp:PIn jn jg p) (i:Nat) (hi:i<jn) (hc:cn jg i≤1000) (hO:∀ c s,R (rArg jn jg bf fr (extP bf jn jg fr p i c) s true)=some (s.1,s.2.1,s.2.2.1,s.2.2.2,true))
  (hR:∀ c s,SIr s→R (rArg jn jg bf fr (extP bf jn jg fr p i c) s false)=some (rRes (F (extP bf jn jg fr p i c) s))) (hF:∀ c s,SIr s→SIr (F (extP bf jn jg fr p i c) s).2) (A:FF) (k0:Nat→FF→Bool→Int→Bool→Option ρ):∀ (d c t:Nat) (s:Sx),c+d=cn jg i→d<t→SIr s →
  L377v5 u R jn jg jn bf fr p.1 p.2 jn (i:Int) true A t (c:Int) s.1 s.2.1 s.2.2.1 s.2.2.2 false k0 =
   k0 (goC F (extP bf jn jg fr p i) (ce jg i) d c s).2.1 (goC F (extP bf jn jg fr p i) (ce jg i) d c s).2.2.1 (goC F (extP bf jn jg fr p i) (ce jg i) d c s).2.2.2.1 (goC F (extP bf jn jg fr p i) (ce jg i) d c s).2.2.2.2 (!(goC F (extP bf jn jg fr p i) (ce jg i) d c s).1)
 | 0,c,t+1,s,hcd,ht,hs=>by
  rw [show c=cn jg i by omega]
  unfold L377v5
  rw [inb_n hi,cond_true,Int.toNat_natCast,show decide (((cn jg i:Nat):Int)<Int.ofNat (CV.len (jg i 2)))=false from lt_f _];rfl
 | d+1,c,t+1,s,hcd,ht,hs=>by
  have hle:=hp.le
  have hcc:c<CV.len (jg i 2):=by show c<cn jg i;omega
  unfold L377v5 goC
  rw [inb_n hi,cond_true,Int.toNat_natCast,lt_t hcc,show (true==true)=true from rfl,cond_true,cond_true,cond_true,inb_n hcc,cond_true,Int.toNat_natCast,plan372 u jn jg fr bf p.1 p.2 i _ hu (by omega) hb (by omega) hp.kn hi,ob_some,ble_t (by omega),cond_true,ble_t (by omega),cond_true,Nat.zero_add,joinF_zero]
  rw [show R ((jn,jg),((jn,bf),(fr,(((p.1+1),(joinF p.1 p.2 (rowsF 4 [(.s (sv jg i)),(.s (CV.str (CV.el (jg i 2) c 0))),(.i .i64 (staV bf jn jg fr p.1 p.2 i (CV.str (CV.el (jg i 2) c 0)))),(.i .i64 (w64 (staV bf jn jg fr p.1 p.2 i (CV.str (CV.el (jg i 2) c 0))+hv jg i)))]))),((s.1,s.2.1),(s.2.2.1,(s.2.2.2,false)))))))=some (rRes (F (extP bf jn jg fr p i (sv (ce jg i) c)) s)) from hR _ s hs,ob_some,w64_s (by omega)]
  have hs':=hF (sv (ce jg i) c) s hs
  unfold rRes
  dsimp only
  cases q:(F (extP bf jn jg fr p i (sv (ce jg i) c)) s).1 with
  | true =>
   rw [cond_true]
   exact l377v5 hu hj hb F p hp i hi hc hO hR hF A k0 d (c+1) t _ (by omega) (by omega) hs'
  | false =>
   rw [cond_false]
   exact l377_5o u jn jg fr bf R hu hj hb p hp i hi hc hO A (F (extP bf jn jg fr p i (sv (ce jg i) c)) s).2 true k0 d (c+1) t (by omega) (by omega)
def Marks (jn:Nat) (jg:FF) (n:Nat) (l A:FF):Prop:=∀ q,q<jn→bv A q=inP jg n l q
theorem free_nx {A:FF} {n:Nat} {l:FF} (hA:Marks jn jg n l A) {i:Nat} (hi:i<jn):((!bv A i) && !fany (fun k=>bB bf k i && !bv A k) jn 0)=nx bf jn jg n l i:=by
 unfold nx
 rw [hA i hi]
 congr 2
 exact fany_congr fun k _ hk=>by rw [hA k (by omega)]
theorem l377_6o (hu:4000≤u) (hj:jn≤100) (hb:∀ i,i<jn→CV.len (bf i 0)=jn) (hcn:∀ i,i<jn→cn jg i≤1000) (p:Nat × FF) (hp:PIn jn jg p) (hO:∀ i c s,i<jn→R (rArg jn jg bf fr (extP bf jn jg fr p i c) s true)=some (s.1,s.2.1,s.2.2.1,s.2.2.2,true)) (A:FF) (s:Sx) (k0:Nat→FF→Bool→Int→Bool→Option ρ):∀ (d i t:Nat),i+d=jn→d<t →
  L377v6 u R jn jg jn bf fr p.1 p.2 jn A t (i:Int) s.1 s.2.1 s.2.2.1 s.2.2.2 true k0=k0 s.1 s.2.1 s.2.2.1 s.2.2.2 true
 | 0,i,t+1,hid,ht=>by
  rw [show i=jn by omega]
  unfold L377v6;rw [lt_f,cond_false]
 | d+1,i,t+1,hid,ht=>by
  have hi:i<jn:=by omega
  have ih:=l377_6o hu hj hb hcn p hp hO A s k0 d (i+1) t (by omega) (by omega)
  unfold L377v6
  rw [lt_t hi,cond_true,inb_n hi,cond_true,w64_s (by omega)]
  have h4:=l377v4 (ρ:=ρ) u jn jg fr bf R (by omega) hb p.1 p.2 i hi s.1 s.2.1 s.2.2.1 s.2.2.2 true A (fun x192=>(L377v5 u R jn jg jn bf fr p.1 p.2 jn (i:Int) x192 A u 0 s.1 s.2.1 s.2.2.1 s.2.2.2 true (fun x235 x236 x237 x238 x239=>(L377v6 u R jn jg jn bf fr p.1 p.2 jn A t ((i+1:Nat):Int) x235 x236 x237 x238 x239 k0)))) jn 0 u (!(CV.bool (A (0+(Int.toNat (i:Int))) 0))) (by omega) (by omega)
  refine Eq.trans h4 ?_
  refine Eq.trans (l377_5o u jn jg fr bf R hu hj hb p hp i hi (hcn i hi) (fun c s=>hO i c s hi) A s _ _ (cn jg i) 0 u (by omega) (by have:=hcn i hi;omega)) ?_
  exact ih
theorem l377v6 (hu:4000≤u) (hj:jn≤100) (hb:∀ i,i<jn→CV.len (bf i 0)=jn) (hcn:∀ i,i<jn→cn jg i≤1000) (F:Nat × FF→Sx→Bool × Sx) (p:Nat × FF) (hp:PIn jn jg p) (hO:∀ i c s,i<jn→R (rArg jn jg bf fr (extP bf jn jg fr p i c) s true)=some (s.1,s.2.1,s.2.2.1,s.2.2.2,true))
  (hR:∀ i c s,i<jn→SIr s→R (rArg jn jg bf fr (extP bf jn jg fr p i c) s false)=some (rRes (F (extP bf jn jg fr p i c) s))) (hF:∀ i c s,i<jn→SIr s→SIr (F (extP bf jn jg fr p i c) s).2) (A:FF) (hA:Marks jn jg p.1 p.2 A) (k0:Nat→FF→Bool→Int→Bool→Option ρ):∀ (d i t:Nat) (s:Sx),i+d=jn→d<t→SIr s →
  L377v6 u R jn jg jn bf fr p.1 p.2 jn A t (i:Int) s.1 s.2.1 s.2.2.1 s.2.2.2 false k0 =
   k0 (goJ bf jn jg fr F p d i s).2.1 (goJ bf jn jg fr F p d i s).2.2.1 (goJ bf jn jg fr F p d i s).2.2.2.1 (goJ bf jn jg fr F p d i s).2.2.2.2 (!(goJ bf jn jg fr F p d i s).1)
 | 0,i,t+1,s,hid,ht,hs=>by
  rw [show i=jn by omega]
  unfold L377v6;rw [lt_f,cond_false];rfl
 | d+1,i,t+1,s,hid,ht,hs=>by
  have hi:i<jn:=by omega
  have hc:=hcn i hi
  unfold L377v6 goJ
  rw [lt_t hi,cond_true,inb_n hi,cond_true,w64_s (by omega)]
  have h4:=l377v4 (ρ:=ρ) u jn jg fr bf R (by omega) hb p.1 p.2 i hi s.1 s.2.1 s.2.2.1 s.2.2.2 false A (fun x192=>(L377v5 u R jn jg jn bf fr p.1 p.2 jn (i:Int) x192 A u 0 s.1 s.2.1 s.2.2.1 s.2.2.2 false (fun x235 x236 x237 x238 x239=>(L377v6 u R jn jg jn bf fr p.1 p.2 jn A t ((i+1:Nat):Int) x235 x236 x237 x238 x239 k0)))) jn 0 u (!(CV.bool (A (0+(Int.toNat (i:Int))) 0))) (by omega) (by omega)
  refine Eq.trans h4 ?_
  rw [show ((!(CV.bool (A (0+(Int.toNat (i:Int))) 0))) && !fany (fun k=>bB bf k i && !bv A k) jn 0)=nx bf jn jg p.1 p.2 i by rw [Nat.zero_add,Int.toNat_natCast];exact free_nx jn jg bf hA hi]
  cases q:nx bf jn jg p.1 p.2 i with
  | false =>
   rw [cond_false]
   refine Eq.trans (l377_5n u jn jg fr bf R p i hi A s false _ u (by omega)) ?_
   exact l377v6 hu hj hb hcn F p hp hO hR hF A hA k0 d (i+1) t s (by omega) (by omega) hs
  | true =>
   rw [cond_true]
   refine Eq.trans (l377v5 u jn jg fr bf R hu hj hb F p hp i hi hc (fun c s=>hO i c s hi) (fun c s hs=>hR i c s hi hs) (fun c s hs=>hF i c s hi hs) A _ (cn jg i) 0 u s (by omega) (by omega) hs) ?_
   have hs':=goC_inr (F:=F) (e:=extP bf jn jg fr p i) (g:=ce jg i) (fun c s hs=>hF i c s hi hs) (cn jg i) 0 s hs
   cases q2:(goC F (extP bf jn jg fr p i) (ce jg i) (cn jg i) 0 s).1 with
   | true =>
    rw [cond_true]
    exact l377v6 hu hj hb hcn F p hp hO hR hF A hA k0 d (i+1) t _ (by omega) (by omega) hs'
   | false =>
    rw [cond_false]
    exact l377_6o u jn jg fr bf R hu hj hb hcn p hp hO A (goC F (extP bf jn jg fr p i) (ce jg i) (cn jg i) 0 s).2 k0 d (i+1) t (by omega) (by omega)
end
section
variable (u : Nat) (jn : Nat) (jg : FF) (fr : Int) (bf : FF)
theorem over377 (N:Nat) (p:Nat × FF) (s:Sx):recF (GG377 u) (N+1) (rArg jn jg bf fr p s true)=some (s.1,s.2.1,s.2.2.1,s.2.2.2,true):=by
 show G377 u (recF (GG377 u) N) jn jg jn bf fr p.1 p.2 s.1 s.2.1 s.2.2.1 s.2.2.2 true=_
 unfold G377;rfl
theorem marks_of (hd:∀ i j,i<jn→j<jn→sv jg i=sv jg j→i=j) {p:Nat × FF} (hp:PIn jn jg p) {A:FF} (hA:∀ q,bv A q=(false||fany (fun j=>decide (jx jn jg p.2 j=q)) p.1 0)):Marks jn jg p.1 p.2 A:=fun q hq=>by
 rw [hA,Bool.false_or]
 unfold inP
 refine fany_congr fun j _ hj=>decide_eq_decide.2 ?_
 obtain ⟨h1,h2⟩:=jx_eq (hp.kn j (by omega))
 constructor
 ·intro e;rw [← h2,e]
 ·intro e;exact hd _ _ h1 hq (h2.trans e)
theorem search377 (hu:4000≤u) (hj:jn≤100) (hd:∀ i j,i<jn→j<jn→sv jg i=sv jg j→i=j) (hb:∀ i,i<jn→CV.len (bf i 0)=jn) (hcn:∀ i,i<jn→cn jg i≤1000):∀ (N:Nat) (p:Nat × FF) (s:Sx),PIn jn jg p→SIr s→jn<N+p.1→recF (GG377 u) N (rArg jn jg bf fr p s false)=some (rRes (sr bf jn jg fr N p s))
 | 0,p,s,hp,hs,hN=>by have:=hp.le;omega
 | N+1,p,s,hp,hs,hN=>by
  have hle:=hp.le
  obtain ⟨s1,s3⟩:=hs
  -- behind the first test
  have tail:(bif ((Int.ofNat p.1)==(Int.ofNat jn)) then (bif (Nat.ble (0+p.1) 1073741824) then (some ((0+p.1),(joinF 0 (rowsF 4 []) p.2),true,s.2.2.2,false)) else none) else (bif (decide (s.2.2.2≤0)) then (some (s.1,s.2.1,s.2.2.1,s.2.2.2,true)) else (bif (decide (0≤(Int.ofNat jn))&&decide ((Int.ofNat jn)≤(Int.ofNat jn))&&decide ((Int.ofNat jn)≤1073741824)&&true) then (L377v1 u (recF (GG377 u) N) jn jg jn bf fr p.1 p.2 (Int.toNat (Int.ofNat jn)) s.1 s.2.1 s.2.2.1 (w64 (s.2.2.2-1)) false u 0 (fun _ j=>listF [(.b false)] j)
    (fun x49=>(L377v6 u (recF (GG377 u) N) jn jg jn bf fr p.1 p.2 (Int.toNat (Int.ofNat jn)) x49 u 0 s.1 s.2.1 s.2.2.1 (w64 (s.2.2.2-1)) false (fun x245 x246 x247 x248 x249=>(some (x245,x246,x247,x248,x249)))))) else none))) =
    some (rRes (bif decide (p.1=jn) then (true,(p.1,p.2,true,s.2.2.2)) else bif decide (s.2.2.2≤0) then (false,s) else goJ bf jn jg fr (sr bf jn jg fr N) p jn 0 (s.1,s.2.1,s.2.2.1,s.2.2.2-1))):=by
   by_cases q:p.1=jn
   ·rw [show ((Int.ofNat p.1)==(Int.ofNat jn))=true by rw [q];exact beq_self_eq_true _,cond_true,ble_t (by omega),cond_true,decide_eq_true q,Nat.zero_add,joinF_zero];rfl
   ·rw [show ((Int.ofNat p.1)==(Int.ofNat jn))=false from beq_false_of_ne (fun e=>q (Int.ofNat.inj e)),cond_false,decide_eq_false q,cond_false]
    by_cases q2:s.2.2.2≤0
    ·rw [decide_eq_true q2];rfl
    ·rw [decide_eq_false q2,cond_false,cond_false,makes_t (by omega),cond_true,w64_of (by omega) (by omega)]
     obtain ⟨A,a1,a2⟩:=l377v1 (ρ:=Nat × FF × Bool × Int × Bool) u jn jg fr bf (recF (GG377 u) N) (by omega) hu p.1 (by omega) p.2 hp.kn s.1 s.2.1 s.2.2.1 (s.2.2.2-1) false p.1 0 u (fun _ j=>listF [(.b false)] j) (by omega) (by omega)
     refine Eq.trans (a1 _) ?_
     obtain ⟨N',hN'⟩:∃ N',N=N'+1:=⟨N-1,by omega⟩
     exact l377v6 u jn jg fr bf (recF (GG377 u) N) hu hj hb hcn (sr bf jn jg fr N) p hp (fun i c s hi=>by rw [hN'];exact over377 u jn jg fr bf N' _ s)
      (fun i c s hi hs=>search377 hu hj hd hb hcn N _ s (hp.ext q hi c) hs (by show jn<N+(p.1+1);omega)) (fun i c s hi hs=>sr_inr hj N _ s (hp.ext q hi c) hs) A (marks_of jn jg hd hp a2) _ jn 0 u (s.1,s.2.1,s.2.2.1,s.2.2.2-1) (by omega) (by omega) ⟨s1,by show s.2.2.2-1≤100000;omega⟩
  show G377 u (recF (GG377 u) N) jn jg jn bf fr p.1 p.2 s.1 s.2.1 s.2.2.1 s.2.2.2 false=_
  unfold G377 sr
  rw [show (false==false)=true from rfl,cond_true]
  cases q:s.2.2.1 with
  | false =>
   rw [show (false==true)=false from rfl,cond_false,Bool.false_and,cond_false]
   rw [q] at tail
   exact tail
  | true =>
   rw [show (true==true)=true from rfl,cond_true,end368 u p.1 p.2 (by omega) hu,ob_some,end368 u s.1 s.2.1 (by omega) hu,ob_some,Bool.true_and]
   cases decide (endV p.1 p.2≥endV s.1 s.2.1) with
   | true =>
    show some (s.1,s.2.1,true,s.2.2.2,false)=some (s.1,s.2.1,s.2.2.1,s.2.2.2,!true)
    rw [q];rfl
   | false =>
    rw [cond_false,cond_false]
    rw [q] at tail
    exact tail
end
end Go.Eng.R13
/-
 SchedBest.
-/
set_option linter.all false
namespace Go.Eng.R13
open Go Go.RowKit Go.Eng
theorem same355 {u:Nat} (hu:4000≤u) (n:Nat) (hn:n≤1000) (l:FF):F355 u n l n l=some true:=by
 unfold F355
 rw [show (Int.ofNat n != Int.ofNat n)=false by simp,cond_false]
 have:=scan (some true) (fun _=>some false) (fun t x=>L355v1 u n l n l t x (some false) (some true)) (fun _=>false) n (fun t=>by
  show L355v1 _ _ _ _ _ _ _ _ _=_
  unfold L355v1;rw [lt_f,cond_false]) (fun t i hi=>by
  show L355v1 _ _ _ _ _ _ _ _ _=_
  conv=>lhs;unfold L355v1
  rw [lt_t hi,cond_true,inb_n hi,cond_true,cond_true,Int.toNat_natCast,w64_s (by omega)]
  simp only [beq_self_eq_true,Bool.and_self,Bool.not_true,cond_false]) n 0 u (by omega) (by omega)
 refine Eq.trans this ?_
 rw [show fany (fun _=>false) n 0=false by
  cases q:fany (fun _=>false) n 0 with
  | false=>rfl
  | true=>obtain ⟨j,_,h⟩:=fany0.1 q;cases h]
 rfl
theorem sr_neg (bf:FF) (jn:Nat) (jg:FF) (fr:Int) (N:Nat) {x:Int} (hx:x<0):bestV (sr bf jn jg fr (N+1) p0 (s0 x))=bestV (sr bf jn jg fr (N+1) p0 (s0 0)):=by
 have e:∀ y:Int,y≤0→sr bf jn jg fr (N+1) p0 (s0 y)=bif decide (p0.1=jn) then (true,(p0.1,p0.2,true,y)) else (false,s0 y):=fun y hy=>by
  rw [sr_succ,show (s0 y).2.2.1=false from rfl,Bool.false_and,cond_false,show (s0 y).2.2.2=y from rfl,decide_eq_true hy,cond_true]
 rw [e x (by omega),e 0 (Int.le_refl _)]
 unfold bestV
 cases decide (p0.1=jn)<;>rfl
section
variable {u : Nat} {s : ByteArray} {a1 : Nat} {f1 : FF} {a2 : Nat} {f2 : FF} {a3 : Nat} {f3 : FF} {a4 : Nat} {f4 : FF} {m : Nat} {f : FF} {jn : Nat} {jg : FF} {nb : Nat} {bg : FF} {ke : Nat} {ge ge' : FF} {k : Nat} {g : FF} {c e : Int}
theorem JOut.best378 (h:JOut u s a1 f1 a2 f2 a3 f3 a4 f4 m f jn jg nb bg ke ge ge' k g c e) (ha:a1≤30) (hu:4000≤u) (hj:jn≤100) (fr st:Int) :
  (errR e fr≠0→F378 u s a1 f1 a2 f2 a3 f3 a4 f4 m f jn jg fr st=some (0,(fun _ _=>.any),errR e fr)) ∧
  (errR e fr=0→6<jn→F378 u s a1 f1 a2 f2 a3 f3 a4 f4 m f jn jg fr st=some (0,(fun _ _=>.any),13)) ∧
  (errR e fr=0→jn≤6→∀ bf:FF,Rows jn bf (PB ke ge nb bg jg)→F378 u s a1 f1 a2 f2 a3 f3 a4 f4 m f jn jg fr st=some (bestV (sr bf jn jg fr u p0 (s0 (leftV st))))):=by
 refine ⟨fun hne=>?_,fun hz hj6=>?_,fun hz hj6 bf hR=>?_⟩
 ·unfold F378 FT378
  rw [h.right363,ob_some,show (errR e fr != 0)=true by simpa using hne,cond_true,ob_some];rfl
 ·unfold F378 FT378
  rw [h.right363,ob_some,show (errR e fr != 0)=false by rw [hz];rfl,cond_false,show decide (Int.ofNat jn>6)=true from decide_eq_true (by simp only [Int.ofNat_eq_natCast];omega),cond_true,ob_some];rfl
 ·obtain ⟨e0,_,_⟩:=errR_zero.1 hz
  obtain ⟨_,hc,hJ⟩:=h.ok e0
  obtain ⟨hA,_⟩:=h.acyc (by omega) hc
  have hle:=h.ord.le
  obtain ⟨bf2,e2,hR2⟩:=before366 u s a1 f1 a2 f2 a3 f3 a4 f4 m f jn jg nb bg ke ge' (by omega) hj hu (by have:=h.kele ha;omega) h.ord.bl h.ord.e2 (h.ord.ends.good hA.2.1) hJ
  have hR2' : Rows jn bf2 (PB ke ge nb bg jg):=fun i hi=>⟨(hR2 i hi).1,fun j hj=>((hR2 i hi).2 j hj).trans (h.ord.ends.path _ _).symm⟩
  have hs:=search377 u jn jg fr bf2 hu hj (fun i j hi hj hs=>jobs_inj hJ hi hj hs) (fun i hi=>(hR2' i hi).1) (fun i hi=>by have:=(hJ i hi).c2;omega) u p0 (s0 (if 100000<st then 100000 else st)) (p0_in jn jg) ⟨Nat.zero_le _,by show (if 100000<st then 100000 else st)≤100000;split<;>omega⟩ (by show jn<u+0;omega)
  rw [sr_congr hR2' hR u p0 _ (p0_in jn jg)] at hs
  have hb:bestV (sr bf jn jg fr u p0 (s0 (leftV st)))=bestV (sr bf jn jg fr u p0 (s0 (if 100000<st then 100000 else st))):=by
   unfold leftV
   generalize (if 100000<st then 100000 else st)=x
   by_cases hneg:0>x
   ·rw [if_pos hneg]
    obtain ⟨u',rfl⟩:∃ u',u=u'+1:=⟨u-1,by omega⟩
    exact (sr_neg bf jn jg fr u' (by omega)).symm
   ·rw [if_neg hneg]
  rw [hb]
  unfold F378 FT378
  rw [h.right363,ob_some,show (errR e fr != 0)=false by rw [hz];rfl,cond_false,show decide (Int.ofNat jn>6)=false from decide_eq_false (by simp only [Int.ofNat_eq_natCast];omega),cond_false,e2,ob_some]
  dsimp only
  rw [show F377 u jn jg jn bf2 fr 0 (fun _ _=>.any) 0 (fun _ _=>.any) false (if 100000<st then 100000 else st) false=some (rRes (sr bf jn jg fr u p0 (s0 (if 100000<st then 100000 else st)))) from hs,ob_some]
  unfold rRes bestV
  dsimp only
  cases (sr bf jn jg fr u p0 (s0 (if 100000<st then 100000 else st))).1<;>rfl
end
theorem bestV_len {bf:FF} {jn:Nat} {jg:FF} {fr:Int} (hj:jn≤100) (N:Nat) (L:Int) (h0:0≤L) (h1:L≤100000):(bestV (sr bf jn jg fr N p0 (s0 L))).1≤100:=by
 have:=(sr_inv (bf:=bf) (fr:=fr) hj N p0 (s0 L) (p0_in jn jg) ⟨Nat.zero_le _,h0,h1⟩).1
 unfold bestV
 cases (sr bf jn jg fr N p0 (s0 L)).1 with
 | false=>exact Nat.zero_le _
 | true=>exact this
theorem JOut.rows {u:Nat} {s:ByteArray} {a1:Nat} {f1:FF} {a2:Nat} {f2:FF} {a3:Nat} {f3:FF} {a4:Nat} {f4:FF} {m:Nat} {f:FF} {jn:Nat} {jg:FF} {nb:Nat} {bg:FF} {ke:Nat} {ge ge' : FF} {k:Nat} {g:FF} {c e:Int} (h:JOut u s a1 f1 a2 f2 a3 f3 a4 f4 m f jn jg nb bg ke ge ge' k g c e) (ha:a1≤30) (hj:jn≤100) (hu:4000≤u) (fr:Int) (hz:errR e fr=0):∃ bf:FF,Rows jn bf (PB ke ge nb bg jg):=by
 obtain ⟨bf,_,_,_,hH⟩:=(h.hall340 ha hj hu fr).2 hz
 exact ⟨bf,hH.rows⟩
theorem best52 (s:ByteArray) (a1:Nat) (f1:Nat→Nat→CV) (a2:Nat) (f2:Nat→Nat→CV) (a3:Nat) (f3:Nat→Nat→CV) (a4:Nat) (f4:Nat→Nat→CV) (m:Nat) (f:Nat→Nat→CV) (_:SlIn (.pr .str (.pr (.int .i64) (.pr .str .nil))) a1 f1) (_:SlIn (.pr .str (.pr (.int .i64) (.pr (.int .i64) (.pr .str (.pr .str (.pr (.int .i64) (.pr (.sl (.pr (.int .i64) (.pr (.int .i64) .nil))) (.pr (.sl (.pr (.sl (.pr (.int .i64) (.pr (.int .i64) .nil))) .nil)) (.pr .str (.pr (.int .i64) (.pr (.int .i64) (.pr (.int .i64) (.pr (.int .i64) (.pr (.int .i64) (.pr (.int .i64) (.pr (.int .i64) (.pr (.int .i64) (.pr (.int .i64) .nil)))))))))))))))))) a2 f2) (_:SlIn (.pr .str (.pr .str (.pr .str (.pr (.int .i64) (.pr (.int .i64) (.pr (.int .i64) .nil)))))) a3 f3) (_:SlIn (.pr .str (.pr .str (.pr (.sl (.pr .str .nil)) (.pr (.int .i64) (.pr (.sl (.pr .str .nil)) .nil))))) a4 f4) (_:SlIn (.pr (.int .i64) (.pr .str (.pr .str .nil))) m f) (jn:Nat) (jg:Nat→Nat→CV) (_:SlIn (.pr .str (.pr (.int .i64) (.pr (.sl (.pr .str .nil)) .nil))) jn jg) (fr:Int) (st:Int) (_:I64 fr) (_:I64 st):F379 4000 s a1 f1 a2 f2 a3 f3 a4 f4 m f jn jg fr st=some true:=by
 obtain ⟨b,e,hb⟩:=few330 4000 s a1 f1 a2 f2 a3 f3 a4 f4 m f jn jg (Nat.le_refl _)
 unfold F379
 rw [e,ob_some,awake_law]
 cases b with
 | false=>rfl
 | true =>
  obtain ⟨h1,h2,h3⟩:=hb rfl
  rw [show ((!true)==false)=true from rfl,cond_true]
  cases decide (st>1000) with
  | true=>rfl
  | false =>
   obtain ⟨nb,bg,ke,ge,ge',k,g,c,er,h⟩:=jobs333 4000 s a1 f1 a2 f2 a3 f3 a4 f4 m f jn jg (by omega) (by omega) (by omega) (Nat.le_refl _)
   have p:=h.best353 h1 (Nat.le_refl _) (by omega) fr st
   have q:=h.best378 h1 (Nat.le_refl _) (by omega) fr st
   have fin:∀ r:Nat × FF × Int,r.1≤100→F353 4000 s a1 f1 a2 f2 a3 f3 a4 f4 m f jn jg fr st=some r→F378 4000 s a1 f1 a2 f2 a3 f3 a4 f4 m f jn jg fr st=some r→(ob (F353 4000 s a1 f1 a2 f2 a3 f3 a4 f4 m f jn jg fr st) fun x18=>(ob (F378 4000 s a1 f1 a2 f2 a3 f3 a4 f4 m f jn jg fr st) fun x19=>(ob (F355 4000 x18.1 x18.2.1 x19.1 x19.2.1) fun x20=>(bif (x20==true) then (bif ((x18.2.2==x19.2.2)==true) then (ob (some true) fun x21=>(some x21)) else (some false)) else (some false)))))=some true:=fun r hr e1 e2=>by
    rw [e1,ob_some,e2,ob_some,same355 (Nat.le_refl _) _ (by omega),ob_some]
    simp only [beq_self_eq_true,cond_true]
    rfl
   rw [cond_false]
   by_cases hz:errR er fr=0
   ·by_cases hj6:jn≤6
    ·obtain ⟨bf,hR⟩:=h.rows h1 (by omega) (Nat.le_refl _) fr hz
     exact fin _ (bestV_len (by omega) 4000 _ (leftV_in st).1 (leftV_in st).2) (p.2.2 hz hj6 bf hR) (q.2.2 hz hj6 bf hR)
    ·exact fin _ (Nat.zero_le _) (p.2.1 hz (by omega)) (q.2.1 hz (by omega))
   ·exact fin _ (Nat.zero_le _) (p.1 hz) (q.1 hz)
end Go.Eng.R13
