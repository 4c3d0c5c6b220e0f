/-
 Several texts in one.
-/
import Derived.Test.YtnfphfkgbhpikaaDyBase
import Derived.Test.YtnfphfkgbhpikaaNdBase
/-
 NeedOrders: Edges and Order return what is specified.
-/
set_option linter.all false
namespace Go.Eng.R13
open Go Go.RowKit Go.Eng
def Ends (m:Nat) (f f' : FF):Prop:=∀ i,i<m→ea f i=ea f' i∧eb f i=eb f' i
theorem errE_congr {n:Int} {f f' : FF}:∀ (d i:Nat),(∀ j,i≤j→j<i+d→ea f j=ea f' j∧eb f j=eb f' j)→errE n f i d=errE n f' i d
 | 0,i,h=>rfl
 | d+1,i,h=>by
  unfold errE
  obtain ⟨h1,h2⟩:=h i (Nat.le_refl _) (by omega)
  rw [h1,h2,errE_congr d (i+1) fun j hj1 hj2=>h j (by omega) (by omega)]
theorem run_congr {N m:Nat} {f f' : FF} (h:Ends m f f'):∀ (d:Nat) (out:List Nat),run N m f d out=run N m f' d out:=by
 have hw:∀ out v,waits m f out v=waits m f' out v:=fun out v=>by
  rw [Bool.eq_iff_iff,waits_iff,waits_iff]
  exact ⟨fun ⟨i,h1,h2,h3⟩=>⟨i,h1,(h i h1).2 ▸ h2,(h i h1).1 ▸ h3⟩,fun ⟨i,h1,h2,h3⟩=>⟨i,h1,(h i h1).2.symm ▸ h2,(h i h1).1.symm ▸ h3⟩⟩
 have hn:∀ out,next N m f out=next N m f' out:=fun out=>by
  unfold next
  exact find_congr fun v _=>by unfold free;rw [hw]
 intro d
 induction d with
 | zero=>intro out;rfl
 | succ d ih =>
  intro out
  unfold run
  rw [hn]
  cases next N m f' out with
  | none=>rfl
  | some v=>exact ih _
theorem OrdR.congr {n:Int} {m:Nat} {f f' : FF} (h:Ends m f f') {k:Nat} {g:FF} {c:Int} (ho:OrdR n m f k g c):OrdR n m f' k g c:=by
 have he:errE n f 0 m=errE n f' 0 m:=errE_congr m 0 fun j _ hj=>h j (by omega)
 have hG:Good n m f→Good n m f':=fun hg i hi=>by rw [← (h i hi).1,← (h i hi).2];exact hg i hi
 cases ho with
 | range _ h1=>exact .range _ h1
 | bad _ h1 h2=>rw [he] at h2 ⊢;exact .bad _ h1 h2
 | cycle _ h1 h2 h3=>exact .cycle _ h1 (hG h2) (by rw [← run_congr h];exact h3)
 | order _ l h1 h2 h3 h4=>exact .order _ l h1 (hG h2) (by rw [← run_congr h];exact h3) h4
theorem ends_of {k k' : Nat} {g g' : FF} (h:prs k g=prs k' g'):k=k'∧Ends k g g':=by
 have h1:k=k':=by rw [← prs_len k g,← prs_len k' g',h]
 subst h1
 refine ⟨rfl,fun i hi=>?_⟩
 have:=prs_at (g:=g) hi
 rw [h,prs_at hi] at this
 simp only [Option.some.injEq,Prod.mk.injEq] at this
 exact ⟨this.1.symm,this.2.symm⟩
theorem run_lt {N m:Nat} {f:FF}:∀ (d:Nat) (out l:List Nat),run N m f d out=some l→(∀ v,v∈out→v<N)→∀ v,v∈l→v<N
 | 0,out,l,h,ho=>by
  unfold run at h
  cases h
  exact ho
 | d+1,out,l,h,ho=>by
  unfold run at h
  cases hq:next N m f out with
  | none=>rw [hq] at h;cases h
  | some v =>
   rw [hq] at h
   exact run_lt d _ l h fun w hw=>by
    rcases List.mem_append.1 hw with hw | hw
    ·exact ho w hw
    ·rw [List.mem_singleton] at hw;subst hw;exact (next_some hq).1
section
variable {ρ : Type}
theorem l277 (u nb:Nat) (bg:FF) (k:Nat) (g g2:FF) (p:Nat→Nat) (hk:k≤1000) (hg:∀ i,i<k→iv g i=(p i:Int)) (hg2:∀ i,i<k→iv g2 i=(p i:Int)) (hp:∀ i,i<k→p i<nb)
  (s:ByteArray) (a1:Nat) (f1:FF) (a2:Nat) (f2:FF) (a3:Nat) (f3:FF) (a4:Nat) (f4:FF) (a5:Nat) (f5:FF) (k0 k1:Nat→FF→Option ρ) :
  ∀ (d i t:Nat) (x:Int) (kk:Nat) (acc:FF),x=(i:Int)→i+d=k→d<t→kk≤i →
  ∃ k' g',k' = kk+d∧strs k' g' = strs kk acc ++ (List.range' i d).map (fun i=>sv bg (p i)) ∧
   L277v1 u nb bg k g (Int.ofNat k) s a1 f1 a2 f2 a3 f3 a4 f4 a5 f5 t kk x acc k0=k0 k' g'∧L255v1 u nb bg k g2 s a1 f1 a2 f2 a3 f3 a4 f4 a5 f5 t kk x acc k1=k1 k' g'
 | 0,i,t+1,x,kk,acc,hx,hi,ht,hkk=>by
  have h1:decide (x<Int.ofNat k)=false:=decide_eq_false (by simp only [Int.ofNat_eq_natCast];omega)
  refine ⟨kk,acc,rfl,by simp,?_,?_⟩
  ·unfold L277v1;rw [h1,cond_false]
  ·unfold L255v1;rw [h1,cond_false]
 | d+1,i,t+1,x,kk,acc,hx,hi,ht,hkk=>by
  have h1:decide (x<Int.ofNat k)=true:=decide_eq_true (by simp only [Int.ofNat_eq_natCast];omega)
  have h2:inb x k=true:=inb_true (by omega) (by omega)
  have h3:Int.toNat x=i:=by omega
  have hx1:w64 (x+1)=((i+1:Nat):Int):=by rw [w64_of (by omega) (by omega)];omega
  have h4:Nat.ble (kk+1) 1073741824=true:=by simp;omega
  have e1:CV.int (g i 0)=(p i:Int):=hg i (by omega)
  have e2:CV.int (g2 i 0)=(p i:Int):=hg2 i (by omega)
  have h5:inb (p i:Int) nb=true:=inb_true (by omega) (by have:=hp i (by omega);omega)
  have h6:Int.toNat (p i:Int)=p i:=by omega
  obtain ⟨k',g',b1,b2,b3,b4⟩:=l277 u nb bg k g g2 p hk hg hg2 hp s a1 f1 a2 f2 a3 f3 a4 f4 a5 f5 k0 k1 d (i+1) t (w64 (x+1)) (kk+1) (joinF kk acc (rowsF 1 [.s (CV.str (bg (p i) 0))])) hx1 (by omega) (by omega) (by omega)
  refine ⟨k',g',by omega,?_,?_,?_⟩
  ·rw [b2,strs_join,List.range'_succ,List.map_cons,List.append_assoc];rfl
  ·unfold L277v1
   rw [h1,cond_true,h2,cond_true,h3,e1,h5,cond_true,h4,cond_true,h6]
   exact b3
  ·unfold L255v1
   rw [h1,cond_true,h2,cond_true,h3,e2,h5,cond_true,h4,cond_true,h6]
   exact b4
end
inductive NOrd (m:Nat) (f:FF) (nb:Nat) (bg:FF) (k:Nat) (g:FF) (c:Int):Prop
 | bad (ke:Nat) (ge go:FF) (hp:prs ke ge=edgesL m f (sv bg) nb (List.range nb)) (ho:OrdR (nb:Int) ke ge 0 go c) (hc:c≠0) (hk:k=0)
 | good (ke:Nat) (ge go:FF) (l:List Nat) (hp:prs ke ge=edgesL m f (sv bg) nb (List.range nb)) (hg:Good (nb:Int) ke ge) (hr:run nb ke ge nb []=some l) (hc:c=0) (hk:k=nb) (hs:strs k g=l.map (sv bg))
structure NOut (u:Nat) (s:ByteArray) (a1:Nat) (f1:FF) (a2:Nat) (f2:FF) (a3:Nat) (f3:FF) (a4:Nat) (f4:FF) (m:Nat) (f:FF) (nb:Nat) (bg:FF) (ke:Nat) (ge ge' : FF) (k:Nat) (g:FF) (c:Int):Prop where
 bl:F252 u s a1 f1 a2 f2 a3 f3 a4 f4 m f=some (nb,bg)
 le:nb≤a1
 bls:strs nb bg=bls a1 f1
 e1:F276 u s a1 f1 a2 f2 a3 f3 a4 f4 m f=some (ke,ge)
 e2:F254 u s a1 f1 a2 f2 a3 f3 a4 f4 m f=some (ke,ge')
 kle:ke≤nb*nb
 ends:Ends ke ge ge'
 prs:prs ke ge=edgesL m f (sv bg) nb (List.range nb)
 len:k≤60
 o1:F277 u s a1 f1 a2 f2 a3 f3 a4 f4 m f=some (k,g,c)
 o2:F255 u s a1 f1 a2 f2 a3 f3 a4 f4 m f=some (k,g,c)
 out:NOrd m f nb bg k g c
theorem OrdR.ok {n:Int} {m:Nat} {f:FF} {k:Nat} {g:FF} {c:Int} (h:OrdR n m f k g c) (hc:c=0):∃ l,0≤n∧Good n m f∧run (Int.toNat n) m f (Int.toNat n) []=some l∧k=Int.toNat n∧∀ i,i<Int.toNat n→iv g i=((l.getD i 0:Nat):Int):=by
 cases h with
 | range=>cases hc
 | bad _ _ h=>exact absurd hc h
 | cycle=>cases hc
 | order _ l h1 h2 h3 h4=>exact ⟨l,h1.1,h2,h3,rfl,h4⟩
theorem orders277 (u:Nat) (s:ByteArray) (a1:Nat) (f1:FF) (a2:Nat) (f2:FF) (a3:Nat) (f3:FF) (a4:Nat) (f4:FF) (m:Nat) (f:FF) (hm:m≤1000) (ha:a1≤60) (hu:4000≤u) :
  ∃ nb bg ke ge ge' k g c,NOut u s a1 f1 a2 f2 a3 f3 a4 f4 m f nb bg ke ge ge' k g c:=by
 obtain ⟨nb,bg,k2,g2,e1,e2,e3,e4,e5,e6⟩:=edges254 u s a1 f1 a2 f2 a3 f3 a4 f4 m f (by omega) (by omega) (by omega) (by omega)
 obtain ⟨k1,g1,d1,d2,d3⟩:=edges276 u s a1 f1 a2 f2 a3 f3 a4 f4 m f (by omega) (by omega) (by omega) (by omega) e1 e3
 obtain ⟨hk,hends⟩:=ends_of (d3.trans e6.symm)
 subst hk
 have hke:k1≤3600:=by
  have:nb*nb≤60*60:=Nat.mul_le_mul (by omega) (by omega)
  omega
 obtain ⟨ko,go,c,o1,o2⟩:=order225 u (Int.ofNat nb) k1 g1 (by omega) (by omega) (by omega)
 obtain ⟨ko',go',c',o1',o2'⟩:=order229 u (Int.ofNat nb) k1 g2 (by omega) (by omega) (by omega)
 have o2'' : OrdR (Int.ofNat nb) k1 g1 ko' go' c':=o2'.congr fun i hi=>⟨(hends i hi).1.symm,(hends i hi).2.symm⟩
 obtain ⟨q1,q2,q3⟩:=o2.same o2''
 subst q1 q2
 have big:∀ k g,F277 u s a1 f1 a2 f2 a3 f3 a4 f4 m f=some (k,g,c)→F255 u s a1 f1 a2 f2 a3 f3 a4 f4 m f=some (k,g,c)→k≤60→NOrd m f nb bg k g c→∃ nb bg ke ge ge' k g c,NOut u s a1 f1 a2 f2 a3 f3 a4 f4 m f nb bg ke ge ge' k g c :=
  fun k g h1 h2 h3 h4=>⟨nb,bg,k1,g1,g2,k,g,c,e1,e3,e2,d1,e4,d2,hends,d3,h3,h1,h2,h4⟩
 cases hc:(c != 0) with
 | true =>
  have hc0:c≠0:=by simpa using hc
  refine big 0 (fun _ _=>.any) ?_ ?_ (by omega) (.bad k1 g1 go d3 ?_ hc0 rfl)
  ·unfold F277 FT277
   rw [blocks251,e1,ob_some]
   dsimp only
   rw [d1,ob_some]
   dsimp only
   rw [o1,ob_some]
   dsimp only
   rw [hc,cond_true,ob_some]
   rfl
  ·unfold F255 FT255
   rw [e1,ob_some,e4,ob_some]
   dsimp only
   rw [o1',ob_some]
   dsimp only
   rw [hc,cond_true,ob_some]
   rfl
  ·have:ko=0:=by cases o2<;>first | rfl | exact absurd rfl hc0
   subst this
   exact o2
 | false =>
  have hc0:c=0:=by simpa using hc
  subst hc0
  have hord:∃ l,Good (nb:Int) k1 g1∧run nb k1 g1 nb []=some l∧ko=nb∧∀ i,i<nb→iv go i=((l.getD i 0:Nat):Int):=by
   obtain ⟨l,_,h2,h3,h4,h5⟩:=o2.ok rfl
   exact ⟨l,h2,h3,h4,h5⟩
  obtain ⟨l,r1,r2,r3,r4⟩:=hord
  subst r3
  have hlen:l.length=ko:=by have:=run_len ko [] l r2;simpa using this
  have hlt:∀ i,i<ko→l.getD i 0<ko:=fun i hi=>by
   rw [List.getD_eq_getElem?_getD,List.getElem?_eq_getElem (by omega)]
   exact run_lt ko [] l r2 (by simp) _ (List.getElem_mem _)
  obtain ⟨k',g',b1,b2,b3,b4⟩:=l277 (ρ:=Bool × Nat × FF × Int) u ko bg ko go go' (fun i=>l.getD i 0) (by omega) r4 (fun i hi=>by rw [← q3 i hi];exact r4 i hi) hlt s a1 f1 a2 f2 a3 f3 a4 f4 m f (fun x52 x53=>(some (false,x52,x53,0))) (fun x50 x51=>(some (false,x50,x51,0))) ko 0 u 0 0 (fun _ _=>.any) rfl (by omega) (by omega) (Nat.le_refl _)
  have hk' : k' = ko:=by omega
  refine big k' g' ?_ ?_ (by omega) (.good k1 g1 go l d3 r1 r2 rfl hk' ?_)
  ·unfold F277 FT277
   rw [blocks251,e1,ob_some]
   dsimp only
   rw [d1,ob_some]
   dsimp only
   rw [o1,ob_some]
   dsimp only
   rw [hc,cond_false]
   rw [show L277v1 (ρ:=Bool × Nat × FF × Int) u ko bg ko go (Int.ofNat ko) s a1 f1 a2 f2 a3 f3 a4 f4 m f u 0 0 (fun _ _=>.any) (fun x52 x53=>(some (false,x52,x53,0)))=_ from b3,ob_some]
   rfl
  ·unfold F255 FT255
   rw [e1,ob_some,e4,ob_some]
   dsimp only
   rw [o1',ob_some]
   dsimp only
   rw [hc,cond_false]
   rw [show L255v1 (ρ:=Bool × Nat × FF × Int) u ko bg ko go' s a1 f1 a2 f2 a3 f3 a4 f4 m f u 0 0 (fun _ _=>.any) (fun x50 x51=>(some (false,x50,x51,0)))=_ from b4,ob_some]
   rfl
  ·rw [b2,← List.range_eq_range']
   show [] ++ _=_
   rw [List.nil_append]
   apply List.ext_getElem?
   intro i
   rw [List.getElem?_map,List.getElem?_map]
   by_cases hi:i<ko
   ·rw [List.getElem?_range hi,List.getElem?_eq_getElem (by omega)]
    simp only [Option.map_some]
    rw [List.getD_eq_getElem?_getD,List.getElem?_eq_getElem (by omega)];rfl
   ·rw [List.getElem?_eq_none (by simp;omega),List.getElem?_eq_none (by omega)];rfl
end Go.Eng.R13
/-
 sched: places in lists,the check of jobs.
-/
set_option linter.all false
namespace Go.Eng.R13
open Go Go.RowKit Go.Eng
def fidx (p:Nat→Bool):Nat→Nat→Int
 | 0,_=>-1
 | d+1,i=>bif p i then (i:Int) else fidx p d (i+1)
theorem fidx_cases (p:Nat→Bool):∀ d i,(fidx p d i = -1∧∀ j,i≤j→j<i+d→p j=false)∨∃ j,i≤j∧j<i+d∧fidx p d i=(j:Int)∧p j=true∧∀ k,i≤k→k<j→p k=false
 | 0,i=>.inl ⟨rfl,fun j h1 h2=>by omega⟩
 | d+1,i=>by
  unfold fidx
  cases q:p i with
  | true=>exact .inr ⟨i,Nat.le_refl _,by omega,rfl,q,fun k h1 h2=>by omega⟩
  | false =>
   rw [cond_false]
   rcases fidx_cases p d (i+1) with ⟨h1,h2⟩ | ⟨j,h1,h2,h3,h4,h5⟩
   ·refine .inl ⟨h1,fun j hj1 hj2=>?_⟩
    by_cases hj:j=i
    ·rw [hj];exact q
    ·exact h2 j (by omega) (by omega)
   ·refine .inr ⟨j,by omega,by omega,h3,h4,fun k hk1 hk2=>?_⟩
    by_cases hk:k=i
    ·rw [hk];exact q
    ·exact h5 k (by omega) hk2
def nix (k:Nat) (g:FF) (s:ByteArray):Int:=fidx (fun i=>decide (sv g i=s)) k 0
theorem nix_cases (k:Nat) (g:FF) (s:ByteArray):(nix k g s = -1∧∀ j,j<k→sv g j≠s)∨∃ j,j<k∧nix k g s=(j:Int)∧sv g j=s∧∀ i,i<j→sv g i≠s:=by
 rcases fidx_cases (fun i=>decide (sv g i=s)) k 0 with ⟨h1,h2⟩ | ⟨j,h1,h2,h3,h4,h5⟩
 ·exact .inl ⟨h1,fun j hj=>of_decide_eq_false (h2 j (by omega) (by omega))⟩
 ·exact .inr ⟨j,by omega,h3,of_decide_eq_true h4,fun i hi=>of_decide_eq_false (h5 i (by omega) hi)⟩
theorem nix_neg {k:Nat} {g:FF} {s:ByteArray}:nix k g s<0↔∀ j,j<k→sv g j≠s:=by
 rcases nix_cases k g s with ⟨h1,h2⟩ | ⟨j,h1,h2,h3,h4⟩
 ·exact ⟨fun _=>h2,fun _=>by omega⟩
 ·exact ⟨fun h=>by omega,fun h=>absurd h3 (h j h1)⟩
theorem nix_has (k:Nat) (g:FF) (s:ByteArray):decide (nix k g s<0) = !hasB s (strs k g):=by
 have h:hasB s (strs k g)=true↔¬ nix k g s<0:=by
  rw [hasB_iff,mem_strs,nix_neg]
  constructor
  ·rintro ⟨i,h1,h2⟩ h3;exact h3 i h1 h2
  ·intro h3
   exact Classical.byContradiction fun h4=>h3 fun j hj he=>h4 ⟨j,hj,he⟩
 cases q:hasB s (strs k g) with
 | true=>exact decide_eq_false (h.1 q)
 | false=>exact decide_eq_true (Classical.byContradiction fun h2=>by rw [h.2 h2] at q;cases q)
section
variable {ρ : Type} (u : Nat) (k : Nat) (g : FF) (s : ByteArray)
theorem l361 (hk:k≤1000000) (k0:Int→Option ρ) (k1:Option ρ):∀ (d i t:Nat) (x:Int),x=(i:Int)→i+d=k→d<t →
  L361v1 u k g s t x k0 k1=bif decide (fidx (fun i=>decide (sv g i=s)) d i<0) then k1 else k0 (fidx (fun i=>decide (sv g i=s)) d i)
 | 0,i,t+1,x,hx,hi,ht=>by
  unfold L361v1
  rw [show decide (x<Int.ofNat k)=false from decide_eq_false (by simp only [Int.ofNat_eq_natCast];omega),cond_false];rfl
 | d+1,i,t+1,x,hx,hi,ht=>by
  have h1:decide (x<Int.ofNat k)=true:=decide_eq_true (by simp only [Int.ofNat_eq_natCast];omega)
  have h2:inb x k=true:=inb_true (by omega) (by omega)
  have h3:Int.toNat x=i:=by omega
  have hx1:w64 (x+1)=((i+1:Nat):Int):=by rw [w64_of (by omega) (by omega)];omega
  unfold L361v1 fidx
  rw [h1,cond_true,h2,cond_true,h3,tl_eq]
  cases q:decide (CV.str (g i 0)=s) with
  | true=>rw [cond_true,cond_true,show decide ((i:Int)<0)=false from decide_eq_false (by omega),cond_false,hx]
  | false=>rw [cond_false,cond_false];exact l361 hk k0 k1 d (i+1) t _ hx1 (by omega) (by omega)
theorem nix_end:(bif decide (nix k g s<0) then some (-1) else some (nix k g s))=some (nix k g s):=by
 rcases nix_cases k g s with ⟨h1,_⟩ | ⟨j,_,h1,_⟩
 ·rw [h1];rfl
 ·rw [show decide (nix k g s<0)=false from decide_eq_false (by omega)];rfl
theorem find361 (hk:k≤1000000) (hu:k<u):F361 u k g s=some (nix k g s):=by
 unfold F361
 rw [l361 u k g s hk (fun x=>some x) (some (-1)) k 0 u 0 rfl (by omega) hu]
 exact nix_end k g s
theorem same364:@L364v1 = @L361v1:=by kernel_rfl
theorem jobOf364 (hk:k≤1000000) (hu:k<u):F364 u k g s=some (nix k g s):=by
 unfold F364;rw [same364];exact find361 u k g s hk hu
theorem l336 (hk:k≤1000000) (k0:Int→Option ρ) (k1:Option ρ):∀ (d i t:Nat) (x:Int),x=(i:Int)→i+d=k→d<t →
  L336v1 u k g (listF [(.s s)]) (Int.ofNat k) t x k0 k1=bif decide (fidx (fun i=>decide (sv g i=s)) d i<0) then k1 else k0 (fidx (fun i=>decide (sv g i=s)) d i)
 | 0,i,t+1,x,hx,hi,ht=>by
  unfold L336v1
  rw [show decide (x<Int.ofNat k)=false from decide_eq_false (by simp only [Int.ofNat_eq_natCast];omega),cond_false];rfl
 | d+1,i,t+1,x,hx,hi,ht=>by
  have h1:decide (x<Int.ofNat k)=true:=decide_eq_true (by simp only [Int.ofNat_eq_natCast];omega)
  have h2:inb x k=true:=inb_true (by omega) (by omega)
  have h3:Int.toNat x=i:=by omega
  have hx1:w64 (x+1)=((i+1:Nat):Int):=by rw [w64_of (by omega) (by omega)];omega
  unfold L336v1 fidx F335
  rw [h1,cond_true,h2,cond_true,h3,show CV.str (listF [(.s s)] 0)=s from rfl,tl_eq,ob_some]
  cases q:decide (CV.str (g i 0)=s) with
  | true=>rw [cond_true,cond_true,show decide ((i:Int)<0)=false from decide_eq_false (by omega),cond_false,hx]
  | false=>rw [cond_false,cond_false];exact l336 hk k0 k1 d (i+1) t _ hx1 (by omega) (by omega)
theorem job337 (hk:k≤1000000) (h:Nat→CV) (hh:h 0=.ro false (.pr .str (.pr (.int .i64) (.pr (.sl (.pr .str .nil)) .nil))) k g) (hu:k<u):F337 u h s=some (nix k g s):=by
 unfold F337 F336
 rw [hh]
 rw [show CV.len (CV.ro false (.pr .str (.pr (.int .i64) (.pr (.sl (.pr .str .nil)) .nil))) k g)=k from rfl,show CV.el (CV.ro false (.pr .str (.pr (.int .i64) (.pr (.sl (.pr .str .nil)) .nil))) k g)=g from rfl]
 rw [l336 u k g s hk (fun x=>some x) (some (-1)) k 0 u 0 rfl (by omega) hu]
 show ob (bif decide (nix k g s<0) then some (-1) else some (nix k g s)) _=_
 rw [nix_end];rfl
theorem l256n (hk:k≤1000000) (k0:Int→Option ρ) (k1:Option ρ):∀ (d i t:Nat) (x:Int),x=(i:Int)→i+d=k→d<t →
  L256v1 u k g s (Int.ofNat k) t x k0 k1=bif decide (fidx (fun i=>decide (sv g i=s)) d i<0) then k1 else k0 (fidx (fun i=>decide (sv g i=s)) d i)
 | 0,i,t+1,x,hx,hi,ht=>by
  unfold L256v1
  rw [show decide (x<Int.ofNat k)=false from decide_eq_false (by simp only [Int.ofNat_eq_natCast];omega),cond_false];rfl
 | d+1,i,t+1,x,hx,hi,ht=>by
  have h1:decide (x<Int.ofNat k)=true:=decide_eq_true (by simp only [Int.ofNat_eq_natCast];omega)
  have h2:inb x k=true:=inb_true (by omega) (by omega)
  have h3:Int.toNat x=i:=by omega
  have hx1:w64 (x+1)=((i+1:Nat):Int):=by rw [w64_of (by omega) (by omega)];omega
  have h4:(ByteArray.toList s==ByteArray.toList (CV.str (g i 0)))=decide (sv g i=s):=by rw [tl_eq];exact decide_eq_decide.2 eq_comm
  unfold L256v1 fidx
  rw [h1,cond_true,h2,cond_true,h3,h4]
  cases q:decide (sv g i=s) with
  | true=>rw [cond_true,cond_true,show decide ((i:Int)<0)=false from decide_eq_false (by omega),cond_false,hx]
  | false=>rw [cond_false,cond_false];exact l256n hk k0 k1 d (i+1) t _ hx1 (by omega) (by omega)
theorem index256 (hk:k≤1000000) (hu:k<u):F256 u k g s=some (nix k g s):=by
 unfold F256
 rw [l256n u k g s hk (fun x=>some x) (some (-1)) k 0 u 0 rfl (by omega) hu]
 exact nix_end k g s
end
def ltS (a b:ByteArray):Bool:=Op.bytesLess (ByteArray.toList a) (ByteArray.toList b)
theorem bl_tri:∀ x y:List UInt8,(!Op.bytesLess x y)=(Op.bytesLess y x||(y==x))
 | [],[]=>rfl
 | [],b :: y=>rfl
 | a :: x,[]=>rfl
 | a :: x,b :: y=>by
  unfold Op.bytesLess
  by_cases h1:a<b
  ·have h2:¬ b<a:=fun h=>absurd (UInt8.lt_trans h1 h) (UInt8.lt_irrefl a)
   have h3:¬ b=a:=fun h=>by subst h;exact absurd h1 (UInt8.lt_irrefl _)
   simp [h1,h2,h3]
  ·by_cases h2:b<a
   ·have h3:¬ a=b:=fun h=>by subst h;exact absurd h2 (UInt8.lt_irrefl _)
    simp [h1,h2,h3]
   ·have h3:b=a:=UInt8.le_antisymm (UInt8.not_lt.1 h1) (UInt8.not_lt.1 h2)
    subst h3
    have:=bl_tri x y
    simp [h1,this]
theorem ltS_tri (a b:ByteArray):(!ltS a b)=(ltS b a||(ByteArray.toList b==ByteArray.toList a)):=bl_tri _ _
def ascB (g:FF):Nat→Nat→Bool
 | 0,_=>true
 | d+1,i=>ltS (sv g (i-1)) (sv g i)&&ascB g d (i+1)
section
variable {ρ : Type} (u : Nat) (k : Nat) (g : FF)
theorem l332 (hk:k≤1000000) (k0 k1:Option ρ):∀ (d i t:Nat) (x:Int),1≤i→x=(i:Int)→k≤i+d→(0<d→i+d=k)→d<t→L332v1 u k g t x k0 k1=bif ascB g d i then k1 else k0
 | 0,i,t+1,x,h0,hx,hi,_,ht=>by
  unfold L332v1
  rw [show decide (x<Int.ofNat k)=false from decide_eq_false (by simp only [Int.ofNat_eq_natCast];omega),cond_false];rfl
 | d+1,i,t+1,x,h0,hx,hi,he,ht=>by
  have he:=he (by omega)
  have h1:decide (x<Int.ofNat k)=true:=decide_eq_true (by simp only [Int.ofNat_eq_natCast];omega)
  have h2:inb x k=true:=inb_true (by omega) (by omega)
  have hw:w64 (x-1)=((i-1:Nat):Int):=by rw [w64_of (by omega) (by omega)];omega
  have h3:Int.toNat x=i:=by omega
  have hx1:w64 (x+1)=((i+1:Nat):Int):=by rw [w64_of (by omega) (by omega)];omega
  unfold L332v1 ascB
  rw [h1,cond_true,hw,inb_true (by omega) (by omega),cond_true,h2,cond_true,h3,Int.toNat_natCast]
  show (bif !(ltS (sv g (i-1)) (sv g i)) then k0 else _)=_
  cases ltS (sv g (i-1)) (sv g i) with
  | false=>rfl
  | true=>rw [Bool.not_true,cond_false,Bool.true_and];exact l332 hk k0 k1 d (i+1) t _ (by omega) hx1 (by omega) (fun _=>by omega) (by omega)
theorem asc332 (hk:k≤1000000) (hu:k<u):F332 u k g=some (ascB g (k-1) 1):=by
 unfold F332
 rw [l332 u k g hk _ _ (k-1) 1 u 1 (Nat.le_refl _) rfl (by omega) (by omega) (by omega)]
 cases ascB g (k-1) 1<;>rfl
end
end Go.Eng.R13
/-
 sched: CheckJobs of the program and of the reference.
-/
set_option linter.all false
namespace Go.Eng.R13
open Go Go.RowKit Go.Eng
abbrev hv (g:FF) (i:Nat):Int:=CV.int (g i 1)
abbrev cn (g:FF) (i:Nat):Nat:=CV.len (g i 2)
abbrev ce (g:FF) (i:Nat):FF:=CV.el (g i 2)
def jobE (nb:Nat) (bg:FF) (g:FF) (i:Nat):Int :=
 bif !hasB (sv g i) (strs nb bg) then 8
 else bif decide (0<i) && !ltS (sv g (i-1)) (sv g i) then 11
 else bif decide (hv g i<1) then 9
 else bif decide (hv g i>10000) then 9
 else bif (Int.ofNat (cn g i)==0) then 3
 else bif decide (Int.ofNat (cn g i)>8) then 4
 else bif !ascB (ce g i) (cn g i-1) 1 then 11 else 0
def firE (e:Nat→Int):Nat→Nat→Int
 | 0,_=>0
 | d+1,i=>bif e i==0 then firE e d (i+1) else e i
theorem firE_zero {e:Nat→Int}:∀ {d i:Nat},firE e d i=0→∀ j,i≤j→j<i+d→e j=0
 | 0,i,_,j,h1,h2=>by omega
 | d+1,i,h,j,h1,h2=>by
  unfold firE at h
  cases q:e i==0 with
  | false=>rw [q,cond_false] at h;rw [h] at q;cases q
  | true =>
   rw [q,cond_true] at h
   by_cases hj:j=i
   ·rw [hj];simpa using q
   ·exact firE_zero h j (by omega) (by omega)
structure JobOk (nb:Nat) (bg g:FF) (i:Nat):Prop where
 has:sv g i∈strs nb bg
 lt:0<i→ltS (sv g (i-1)) (sv g i)=true
 h1:1≤hv g i
 h2:hv g i≤10000
 c1:0<cn g i
 c2:cn g i≤8
 asc:ascB (ce g i) (cn g i-1) 1=true
theorem jobE_zero {nb:Nat} {bg g:FF} {i:Nat} (h:jobE nb bg g i=0):JobOk nb bg g i:=by
 unfold jobE at h
 cases q1 : !hasB (sv g i) (strs nb bg) with
 | true=>rw [q1] at h;cases h
 | false =>
 cases q2:decide (0<i) && !ltS (sv g (i-1)) (sv g i) with
 | true=>rw [q1,q2] at h;cases h
 | false =>
 cases q3:decide (hv g i<1) with
 | true=>rw [q1,q2,q3] at h;cases h
 | false =>
 cases q4:decide (hv g i>10000) with
 | true=>rw [q1,q2,q3,q4] at h;cases h
 | false =>
 cases q5:(Int.ofNat (cn g i)==0) with
 | true=>rw [q1,q2,q3,q4,q5] at h;cases h
 | false =>
 cases q6:decide (Int.ofNat (cn g i)>8) with
 | true=>rw [q1,q2,q3,q4,q5,q6] at h;cases h
 | false =>
 cases q7 : !ascB (ce g i) (cn g i-1) 1 with
 | true=>rw [q1,q2,q3,q4,q5,q6,q7] at h;cases h
 | false =>
 have p3:=of_decide_eq_false q3
 have p4:=of_decide_eq_false q4
 have p6:=of_decide_eq_false q6
 have p5:¬ Int.ofNat (cn g i)=0:=by simpa using q5
 simp only [Int.ofNat_eq_natCast] at p5 p6
 refine ⟨hasB_iff.1 (by simpa using q1),fun h0=>?_,by omega,by omega,by omega,by omega,by simpa using q7⟩
 rw [decide_eq_true h0,Bool.true_and] at q2
 simpa using q2
section
variable {ρ : Type} (u : Nat) (jn : Nat) (jg : FF) (nb : Nat) (bg : FF)
theorem tail333 (X:Option ρ) (k0:Int→Option ρ) (i:Nat) (hu:100≤u) :
  (bif ((decide ((CV.int (jg i 1))<1))==false) then (bif (decide ((CV.int (jg i 1))>10000)) then (k0 9) else (bif ((Int.ofNat (CV.len (jg i 2)))==0) then (k0 3) else (bif (decide ((Int.ofNat (CV.len (jg i 2)))>8)) then (k0 4) else (ob (F332 u (CV.len (jg i 2)) (CV.el (jg i 2))) fun x30=>(bif (!x30) then (k0 11) else X))))) else (k0 9)) =
  (bif decide (hv jg i<1) then k0 9
   else bif decide (hv jg i>10000) then k0 9
   else bif (Int.ofNat (cn jg i)==0) then k0 3
   else bif decide (Int.ofNat (cn jg i)>8) then k0 4
   else bif !ascB (ce jg i) (cn jg i-1) 1 then k0 11 else X):=by
 cases q3:decide (hv jg i<1) with
 | true=>rfl
 | false =>
  cases q4:decide (hv jg i>10000) with
  | true=>rfl
  | false =>
   cases q5:(Int.ofNat (cn jg i)==0) with
   | true=>rfl
   | false =>
    cases q6:decide (Int.ofNat (cn jg i)>8) with
    | true=>rfl
    | false =>
     have p6:=of_decide_eq_false q6
     simp only [Int.ofNat_eq_natCast] at p6
     have p7:cn jg i≤8:=by omega
     have p8:CV.len (jg i 2)≤8:=p7
     rw [show ((false==false)=true) from rfl,cond_true,cond_false,cond_false,cond_false,asc332 u _ _ (by omega) (by omega),ob_some];rfl
theorem jobE_bif (X:Option ρ) (k0:Int→Option ρ) (i:Nat):(bif jobE nb bg jg i==0 then X else k0 (jobE nb bg jg i)) =
  (bif !hasB (sv jg i) (strs nb bg) then k0 8 else bif decide (0<i) && !ltS (sv jg (i-1)) (sv jg i) then k0 11 else
  (bif decide (hv jg i<1) then k0 9
   else bif decide (hv jg i>10000) then k0 9
   else bif (Int.ofNat (cn jg i)==0) then k0 3
   else bif decide (Int.ofNat (cn jg i)>8) then k0 4
   else bif !ascB (ce jg i) (cn jg i-1) 1 then k0 11 else X)):=by
 unfold jobE
 cases !hasB (sv jg i) (strs nb bg) with
 | true=>rfl
 | false =>
 cases decide (0<i) && !ltS (sv jg (i-1)) (sv jg i) with
 | true=>rfl
 | false =>
 cases decide (hv jg i<1) with
 | true=>rfl
 | false =>
 cases decide (hv jg i>10000) with
 | true=>rfl
 | false =>
 cases (Int.ofNat (cn jg i)==0) with
 | true=>rfl
 | false =>
 cases decide (Int.ofNat (cn jg i)>8) with
 | true=>rfl
 | false=>cases !ascB (ce jg i) (cn jg i-1) 1<;>rfl
theorem l333 (hk:jn≤100) (hu:1000≤u) (hb:nb≤100) (k0:Int→Option ρ) (k1:Option ρ):∀ (d i t:Nat) (x:Int),x=(i:Int)→i+d=jn→d<t →
  L333v1 u jn jg nb bg (Int.ofNat jn) t x k0 k1=bif firE (jobE nb bg jg) d i==0 then k1 else k0 (firE (jobE nb bg jg) d i)
 | 0,i,t+1,x,hx,hi,ht=>by
  unfold L333v1
  rw [show decide (x<Int.ofNat jn)=false from decide_eq_false (by simp only [Int.ofNat_eq_natCast];omega),cond_false];rfl
 | d+1,i,t+1,x,hx,hi,ht=>by
  have h1:decide (x<Int.ofNat jn)=true:=decide_eq_true (by simp only [Int.ofNat_eq_natCast];omega)
  have h2:inb x jn=true:=inb_true (by omega) (by omega)
  have h3:Int.toNat x=i:=by omega
  have hx1:w64 (x+1)=((i+1:Nat):Int):=by rw [w64_of (by omega) (by omega)];omega
  have ih:=l333 hk hu hb k0 k1 d (i+1) t _ hx1 (by omega) (by omega)
  have e:(bif firE (jobE nb bg jg) (d+1) i==0 then k1 else k0 (firE (jobE nb bg jg) (d+1) i))=bif jobE nb bg jg i==0 then (bif firE (jobE nb bg jg) d (i+1)==0 then k1 else k0 (firE (jobE nb bg jg) d (i+1))) else k0 (jobE nb bg jg i):=by
   conv=>lhs;unfold firE
   cases q:jobE nb bg jg i==0 with
   | true=>rfl
   | false=>rw [cond_false,cond_false,q,cond_false]
  rw [e,jobE_bif]
  generalize (bif firE (jobE nb bg jg) d (i+1)==0 then k1 else k0 (firE (jobE nb bg jg) d (i+1)))=X at ih ⊢
  unfold L333v1
  rw [h1,cond_true,h2,cond_true,h3,has257 u nb bg (CV.str (jg i 0)) (by omega) (by omega),ob_some]
  show (bif !hasB (sv jg i) (strs nb bg) then _ else _)=_
  cases !hasB (sv jg i) (strs nb bg) with
  | true=>rfl
  | false =>
   rw [cond_false,cond_false]
   by_cases h0:0<i
   ·have hw:w64 (x-1)=((i-1:Nat):Int):=by rw [w64_of (by omega) (by omega)];omega
    rw [show (decide (x>0)==true)=true by rw [decide_eq_true (by omega)];rfl,cond_true,hw,inb_true (by omega) (by omega),cond_true,Int.toNat_natCast]
    rw [show (Op.bytesLess (ByteArray.toList (CV.str (jg i 0))) (ByteArray.toList (CV.str (jg (i-1) 0)))||(ByteArray.toList (CV.str (jg i 0))==ByteArray.toList (CV.str (jg (i-1) 0))))=(decide (0<i) && !ltS (sv jg (i-1)) (sv jg i)) by rw [decide_eq_true h0,Bool.true_and,ltS_tri];rfl]
    cases decide (0<i) && !ltS (sv jg (i-1)) (sv jg i) with
    | true=>rfl
    | false=>rw [cond_false,cond_false,tail333 u jg _ k0 i (by omega),ih]
   ·rw [show (decide (x>0)==true)=false by rw [decide_eq_false (by omega)];rfl,cond_false,decide_eq_false h0,Bool.false_and,cond_false,tail333 u jg _ k0 i (by omega),ih]
end
section
variable {ρ : Type} (u : Nat) (s : ByteArray) (a1 : Nat) (f1 : FF) (a2 : Nat) (f2 : FF) (a3 : Nat) (f3 : FF) (a4 : Nat) (f4 : FF) (m : Nat) (f : FF) (jn : Nat) (jg : FF) (nb : Nat) (bg : FF)
theorem l362v2 (n:Nat) (g:FF) (y:Int) (s1:ByteArray) (y2:Int) (hk:n≤100) (k0 k1:Option ρ):∀ (d i t:Nat) (x:Int),1≤i→x=(i:Int)→n≤i+d→(0<d→i+d=n)→d<t →
  L362v2 u jn jg nb bg y s a1 f1 a2 f2 a3 f3 a4 f4 m f s1 y2 n g t x k0 k1=bif !ascB g d i then k0 else k1
 | 0,i,t+1,x,h0,hx,hi,_,ht=>by
  unfold L362v2
  rw [show decide (x<Int.ofNat n)=false from decide_eq_false (by simp only [Int.ofNat_eq_natCast];omega),cond_false];rfl
 | d+1,i,t+1,x,h0,hx,hi,he,ht=>by
  have he:=he (by omega)
  have h1:decide (x<Int.ofNat n)=true:=decide_eq_true (by simp only [Int.ofNat_eq_natCast];omega)
  have h2:inb x n=true:=inb_true (by omega) (by omega)
  have hw:w64 (x-1)=((i-1:Nat):Int):=by rw [w64_of (by omega) (by omega)];omega
  have h3:Int.toNat x=i:=by omega
  have hx1:w64 (x+1)=((i+1:Nat):Int):=by rw [w64_of (by omega) (by omega)];omega
  unfold L362v2 ascB
  rw [h1,cond_true,h2,cond_true,hw,inb_true (by omega) (by omega),cond_true,h3,Int.toNat_natCast]
  rw [show (Op.bytesLess (ByteArray.toList (CV.str (g i 0))) (ByteArray.toList (CV.str (g (i-1) 0)))||(ByteArray.toList (CV.str (g i 0))==ByteArray.toList (CV.str (g (i-1) 0)))) = !ltS (sv g (i-1)) (sv g i) by rw [ltS_tri];rfl]
  cases ltS (sv g (i-1)) (sv g i) with
  | false=>rfl
  | true=>rw [Bool.not_true,cond_false,Bool.true_and];exact l362v2 n g y s1 y2 hk k0 k1 d (i+1) t _ (by omega) hx1 (by omega) (fun _=>by omega) (by omega)
theorem tail362 (y:Int) (k0:Int→Option ρ) (X:Option ρ) (i:Nat) (hu:100≤u) :
  (bif ((decide ((CV.int (jg i 1))<1))==false) then (bif (decide ((CV.int (jg i 1))>10000)) then (k0 9) else (bif ((Int.ofNat (CV.len (jg i 2)))==0) then (k0 3) else (bif (decide ((Int.ofNat (CV.len (jg i 2)))>8)) then (k0 4) else (L362v2 u jn jg nb bg y s a1 f1 a2 f2 a3 f3 a4 f4 m f (CV.str (jg i 0)) (CV.int (jg i 1)) (CV.len (jg i 2)) (CV.el (jg i 2)) u 1 (k0 11) X)))) else (k0 9)) =
  (bif decide (hv jg i<1) then k0 9
   else bif decide (hv jg i>10000) then k0 9
   else bif (Int.ofNat (cn jg i)==0) then k0 3
   else bif decide (Int.ofNat (cn jg i)>8) then k0 4
   else bif !ascB (ce jg i) (cn jg i-1) 1 then k0 11 else X):=by
 cases q3:decide (hv jg i<1) with
 | true=>rfl
 | false =>
  cases q4:decide (hv jg i>10000) with
  | true=>rfl
  | false =>
   cases q5:(Int.ofNat (cn jg i)==0) with
   | true=>rfl
   | false =>
    cases q6:decide (Int.ofNat (cn jg i)>8) with
    | true=>rfl
    | false =>
     have p6:=of_decide_eq_false q6
     simp only [Int.ofNat_eq_natCast] at p6
     have p7:CV.len (jg i 2)=cn jg i:=rfl
     rw [show ((false==false)=true) from rfl,cond_true,cond_false,cond_false,cond_false,l362v2 u s a1 f1 a2 f2 a3 f3 a4 f4 m f jn jg nb bg _ _ _ _ _ (by omega) _ _ (cn jg i-1) 1 u 1 (Nat.le_refl _) rfl (by omega) (by omega) (by omega)];rfl
theorem l362 (hk:jn≤100) (hu:1000≤u) (hb:nb≤100) (k0:Int→Option ρ) (k1:Option ρ):∀ (d i t:Nat) (x:Int),x=(i:Int)→i+d=jn→d<t →
  L362v3 u jn jg nb bg s a1 f1 a2 f2 a3 f3 a4 f4 m f t x (fun y _ _ _ _=>k0 y) k1=bif firE (jobE nb bg jg) d i==0 then k1 else k0 (firE (jobE nb bg jg) d i)
 | 0,i,t+1,x,hx,hi,ht=>by
  unfold L362v3
  rw [show decide (x<Int.ofNat jn)=false from decide_eq_false (by simp only [Int.ofNat_eq_natCast];omega),cond_false];rfl
 | d+1,i,t+1,x,hx,hi,ht=>by
  have h1:decide (x<Int.ofNat jn)=true:=decide_eq_true (by simp only [Int.ofNat_eq_natCast];omega)
  have h2:inb x jn=true:=inb_true (by omega) (by omega)
  have h3:Int.toNat x=i:=by omega
  have hx1:w64 (x+1)=((i+1:Nat):Int):=by rw [w64_of (by omega) (by omega)];omega
  have ih:=l362 hk hu hb k0 k1 d (i+1) t _ hx1 (by omega) (by omega)
  have e:(bif firE (jobE nb bg jg) (d+1) i==0 then k1 else k0 (firE (jobE nb bg jg) (d+1) i))=bif jobE nb bg jg i==0 then (bif firE (jobE nb bg jg) d (i+1)==0 then k1 else k0 (firE (jobE nb bg jg) d (i+1))) else k0 (jobE nb bg jg i):=by
   conv=>lhs;unfold firE
   cases q:jobE nb bg jg i==0 with
   | true=>rfl
   | false=>rw [cond_false,cond_false,q,cond_false]
  rw [e,jobE_bif]
  generalize (bif firE (jobE nb bg jg) d (i+1)==0 then k1 else k0 (firE (jobE nb bg jg) d (i+1)))=X at ih ⊢
  unfold L362v3
  rw [h1,cond_true,h2,cond_true,h3,find361 u nb bg (CV.str (jg i 0)) (by omega) (by omega),ob_some,nix_has]
  show (bif !hasB (sv jg i) (strs nb bg) then _ else _)=_
  cases !hasB (sv jg i) (strs nb bg) with
  | true=>rfl
  | false =>
   rw [cond_false,cond_false]
   by_cases h0:0<i
   ·have hw:w64 (x-1)=((i-1:Nat):Int):=by rw [w64_of (by omega) (by omega)];omega
    rw [show (decide (x>0)==true)=true by rw [decide_eq_true (by omega)];rfl,cond_true,hw,inb_true (by omega) (by omega),cond_true,Int.toNat_natCast]
    rw [show (Op.bytesLess (ByteArray.toList (CV.str (jg i 0))) (ByteArray.toList (CV.str (jg (i-1) 0)))||(ByteArray.toList (CV.str (jg i 0))==ByteArray.toList (CV.str (jg (i-1) 0))))=(decide (0<i) && !ltS (sv jg (i-1)) (sv jg i)) by rw [decide_eq_true h0,Bool.true_and,ltS_tri];rfl]
    cases decide (0<i) && !ltS (sv jg (i-1)) (sv jg i) with
    | true=>rfl
    | false=>rw [cond_false,cond_false,ih,tail362 u s a1 f1 a2 f2 a3 f3 a4 f4 m f jn jg nb bg x k0 _ i (by omega)]
   ·rw [show (decide (x>0)==true)=false by rw [decide_eq_false (by omega)];rfl,cond_false,decide_eq_false h0,Bool.false_and,cond_false,ih,tail362 u s a1 f1 a2 f2 a3 f3 a4 f4 m f jn jg nb bg x k0 _ i (by omega)]
end
structure JOut (u:Nat) (s:ByteArray) (a1:Nat) (f1:FF) (a2:Nat) (f2:FF) (a3:Nat) (f3:FF) (a4:Nat) (f4:FF) (m:Nat) (f:FF) (jn:Nat) (jg:FF) (nb:Nat) (bg:FF) (ke:Nat) (ge ge' : FF) (k:Nat) (g:FF) (c e:Int):Prop where
 ord:NOut u s a1 f1 a2 f2 a3 f3 a4 f4 m f nb bg ke ge ge' k g c
 j1:F333 u s a1 f1 a2 f2 a3 f3 a4 f4 m f jn jg=some e
 j2:F362 u s a1 f1 a2 f2 a3 f3 a4 f4 m f jn jg=some e
 ok:e=0→jn≤64∧c=0∧∀ i,i<jn→JobOk nb bg jg i
 err:c≠0→jn≤64→e=c
 ok' : jn≤64→c=0→e=firE (jobE nb bg jg) jn 0
theorem jobs333 (u:Nat) (s:ByteArray) (a1:Nat) (f1:FF) (a2:Nat) (f2:FF) (a3:Nat) (f3:FF) (a4:Nat) (f4:FF) (m:Nat) (f:FF) (jn:Nat) (jg:FF) (hm:m≤1000) (ha:a1≤60) (hj:jn≤100) (hu:4000≤u) :
  ∃ nb bg ke ge ge' k g c e,JOut u s a1 f1 a2 f2 a3 f3 a4 f4 m f jn jg nb bg ke ge ge' k g c e:=by
 obtain ⟨nb,bg,ke,ge,ge',k,g,c,h⟩:=orders277 u s a1 f1 a2 f2 a3 f3 a4 f4 m f hm ha hu
 have hb:=h.le
 by_cases q:jn≤64
 ·have q0:decide (Int.ofNat jn>64)=false:=decide_eq_false (by simp only [Int.ofNat_eq_natCast];omega)
  cases hc:(c != 0) with
  | true =>
   have hc0:c≠0:=by simpa using hc
   refine ⟨nb,bg,ke,ge,ge',k,g,c,c,h,?_,?_,fun he=>absurd he hc0,fun _ _=>rfl,fun _ hz=>absurd hz hc0⟩
   ·unfold F333;rw [q0,cond_false,h.o1,ob_some];dsimp only;rw [hc,cond_true]
   ·unfold F362;rw [q0,cond_false,h.o2,ob_some];dsimp only;rw [hc,cond_true]
  | false =>
   have hc0:c=0:=by simpa using hc
   have fin:(bif firE (jobE nb bg jg) jn 0==0 then some 0 else some (firE (jobE nb bg jg) jn 0))=some (firE (jobE nb bg jg) jn 0):=by
    cases z:firE (jobE nb bg jg) jn 0==0 with
    | false=>rfl
    | true=>rw [cond_true];congr 1;exact (by simpa using z:firE (jobE nb bg jg) jn 0=0).symm
   refine ⟨nb,bg,ke,ge,ge',k,g,c,firE (jobE nb bg jg) jn 0,h,?_,?_,fun he=>⟨q,hc0,fun i hi=>jobE_zero (firE_zero he i (by omega) (by omega))⟩,fun hn=>absurd hc0 hn,fun _ _=>rfl⟩
   ·unfold F333;rw [q0,cond_false,h.o1,ob_some];dsimp only;rw [hc,cond_false,blocks251,h.bl,ob_some];dsimp only
    rw [l333 u jn jg nb bg (by omega) (by omega) (by omega) (fun x=>some x) (some 0) jn 0 u 0 rfl (by omega) (by omega)]
    exact fin
   ·unfold F362;rw [q0,cond_false,h.o2,ob_some];dsimp only;rw [hc,cond_false,h.bl,ob_some];dsimp only
    rw [l362 u s a1 f1 a2 f2 a3 f3 a4 f4 m f jn jg nb bg (by omega) (by omega) (by omega) (fun x=>some x) (some 0) jn 0 u 0 rfl (by omega) (by omega)]
    exact fin
 ·have q0:decide (Int.ofNat jn>64)=true:=decide_eq_true (by simp only [Int.ofNat_eq_natCast];omega)
  refine ⟨nb,bg,ke,ge,ge',k,g,c,4,h,?_,?_,fun he=>absurd he (by decide),fun _ hq=>absurd hq q,fun hq=>absurd hq q⟩
  ·unfold F333;rw [q0,cond_true]
  ·unfold F362;rw [q0,cond_true]
end Go.Eng.R13
/-
 sched: what comes before what,by the reference (Warshall).
-/
set_option linter.all false
namespace Go.Eng.R13
open Go Go.RowKit Go.Eng
def War (m:Nat) (f:FF):Nat→Nat→Nat→Prop
 | 0,a,b=>Ed m f a b
 | v+1,a,b=>War m f v a b∨(War m f v a v∧War m f v v b)
theorem War.path {m:Nat} {f:FF}:∀ {v a b:Nat},War m f v a b→Path m f a b
 | 0,a,b,h=>.one h
 | v+1,a,b,h=>h.elim (fun h=>h.path) fun h=>h.1.path.trans h.2.path
theorem War.step {m:Nat} {f:FF} {v a b:Nat} (h:War m f v a b):War m f (v+1) a b:=.inl h
theorem War.comp {m:Nat} {f:FF}:∀ {v a c b:Nat},c<v→War m f v a c→War m f v c b→War m f v a b
 | v+1,a,c,b,hc,h1,h2=>by
  by_cases q:c=v
  ·subst q
   have e1:War m f c a c:=h1.elim id fun h=>h.1
   have e2:War m f c c b:=h2.elim id fun h=>h.2
   exact .inr ⟨e1,e2⟩
  ·have hc' : c<v:=by omega
   rcases h1 with h1 | ⟨h1,h1'⟩
   ·rcases h2 with h2 | ⟨h2,h2'⟩
    ·exact .inl (War.comp hc' h1 h2)
    ·exact .inr ⟨War.comp hc' h1 h2,h2'⟩
   ·rcases h2 with h2 | ⟨h2,h2'⟩
    ·exact .inr ⟨h1,War.comp hc' h1' h2⟩
    ·exact .inr ⟨h1,h2'⟩
theorem War.up {m:Nat} {f:FF} {a b:Nat} (h:Ed m f a b):∀ v,War m f v a b
 | 0=>h
 | v+1=>.inl (War.up h v)
theorem War.of {m:Nat} {f:FF} {n a b:Nat} (hg:Good (n:Int) m f) (h:Path m f a b):War m f n a b:=by
 induction h with
 | one h=>exact War.up h n
 | snoc _ h2 ih =>
  obtain ⟨i,hi,e1,e2⟩:=h2
  have:=(hg i hi).2.1
  exact War.comp (by omega) ih (War.up ⟨i,hi,e1,e2⟩ n)
section
variable {ρ : Type} (u : Nat) (jn : Nat) (jg : FF) (nb : Nat) (bg : FF) (s : ByteArray) (a1 : Nat) (f1 : FF) (a2 : Nat) (f2 : FF) (a3 : Nat) (f3 : FF) (a4 : Nat) (f4 : FF) (m : Nat) (f : FF)
theorem blt_t {a b:Nat} (h:a<b):Nat.blt a b=true:=by rw [Nat.blt_eq];exact h
theorem l366v7 (hn:nb≤1000) (LN:Nat→Nat) (hL:∀ a,a<nb→LN a=nb) (i v:Nat) (hi:i<nb) (hv:v<nb) (y1 y2:Int) (hy1:y1=(v:Int)) (hy2:y2=(i:Int)):∀ (d j t:Nat) (x:Int) (F:FF),x=(j:Int)→j+d=nb→d<t →
  ∃ F',(∀ k0:FF→Option ρ,L366v7 u jn jg nb bg (Int.ofNat nb) nb y1 y2 s a1 f1 a2 f2 a3 f3 a4 f4 m f LN t x F k0=k0 F')∧(∀ a q,a≠i→mb F' a q=mb F a q)∧∀ q,q<nb→mb F' i q=(mb F i q||(mb F i v&&(decide (j≤q)&&mb F v q)))
 | 0,j,t+1,x,F,hx,hj,ht=>by
  refine ⟨F,fun k0=>?_,fun _ _ _=>rfl,fun q hq=>?_⟩
  ·unfold L366v7
   rw [show (decide (x<Int.ofNat nb)==true)=false by rw [decide_eq_false (by simp only [Int.ofNat_eq_natCast];omega)];rfl,cond_false]
  ·rw [decide_eq_false (by omega),Bool.false_and,Bool.and_false,Bool.or_false]
 | d+1,j,t+1,x,F,hx,hj,ht=>by
  have h1:(decide (x<Int.ofNat nb)==true)=true:=by rw [decide_eq_true (by simp only [Int.ofNat_eq_natCast];omega)];rfl
  have h3:Int.toNat x=j:=by omega
  have hx1:w64 (x+1)=((j+1:Nat):Int):=by rw [w64_of (by omega) (by omega)];omega
  have ti:Int.toNat y2=i:=by omega
  have tv:Int.toNat y1=v:=by omega
  have ii:inb y2 nb=true:=inb_true (by omega) (by omega)
  have iv:inb y1 nb=true:=inb_true (by omega) (by omega)
  have ij:inb x nb=true:=inb_true (by omega) (by omega)
  cases q0:mb F i v with
  | false =>
   refine ⟨F,fun k0=>?_,fun _ _ _=>rfl,fun q hq=>by rw [Bool.false_and,Bool.or_false]⟩
   unfold L366v7
   rw [h1,cond_true,ii,cond_true,ti,blt_t hi,Bool.and_true,cond_true,hL i hi,iv,cond_true,tv,show CV.bool (F i v)=false from q0,cond_false]
  | true =>
   have key:∀ (b:Bool),mb F i j=b→∃ F',(∀ k0:FF→Option ρ,L366v7 u jn jg nb bg (Int.ofNat nb) nb y1 y2 s a1 f1 a2 f2 a3 f3 a4 f4 m f LN (t+1) x F k0=k0 F')∧(∀ a q,a≠i→mb F' a q=mb F a q)∧∀ q,q<nb→mb F' i q=(mb F i q||(true&&(decide (j≤q)&&mb F v q))):=fun b hb=>by
    let F1:FF:=setM F i j (.b (mb F i j||mb F v j))
    have hF1:∀ a q,mb F1 a q=if a=i∧q=j then (mb F i j||mb F v j) else mb F a q:=fun a q=>setM_mb ..
    obtain ⟨F',e1,e2,e3⟩:=l366v7 hn LN hL i v hi hv y1 y2 hy1 hy2 d (j+1) t (w64 (x+1)) F1 hx1 (by omega) (by omega)
    refine ⟨F',fun k0=>?_,fun a q ha=>by rw [e2 a q ha,hF1,if_neg (fun h=>ha h.1)],fun q hq=>?_⟩
    ·unfold L366v7
     rw [h1,cond_true,ii,cond_true,ti,blt_t hi,Bool.and_true,cond_true,hL i hi,iv,cond_true,tv,show CV.bool (F i v)=true from q0,cond_true,cond_true,cond_true,cond_true,cond_true,ij,cond_true,h3]
     show (bif (mb F i j==false) then _ else _)=_
     cases b with
     | true =>
      rw [hb,show (true==false)=false from rfl,cond_false,cond_true,← e1 k0]
      show L366v7 _ _ _ _ _ _ _ _ _ _ _ _ _ _ _ _ _ _ _ _ _ _ _ (setM F i j (.b true)) _=L366v7 _ _ _ _ _ _ _ _ _ _ _ _ _ _ _ _ _ _ _ _ _ _ _ (setM F i j (.b (mb F i j||mb F v j))) _
      rw [hb,Bool.true_or]
     | false =>
      rw [hb,show (false==false)=true from rfl,cond_true,cond_true,blt_t hv,Bool.and_true,cond_true,hL v hv,ij,cond_true,cond_true,← e1 k0]
      show L366v7 _ _ _ _ _ _ _ _ _ _ _ _ _ _ _ _ _ _ _ _ _ _ _ (setM F i j (.b (mb F v j))) _=L366v7 _ _ _ _ _ _ _ _ _ _ _ _ _ _ _ _ _ _ _ _ _ _ _ (setM F i j (.b (mb F i j||mb F v j))) _
      rw [hb,Bool.false_or]
    ·rw [e3 q hq,hF1,hF1 i v,hF1 v q]
     have t1:(if i=i∧v=j then (mb F i j||mb F v j) else mb F i v)=true:=by
      split
      ·rename_i h;rw [← h.2,q0,Bool.true_or]
      ·exact q0
     rw [t1,Bool.true_and,Bool.true_and]
     by_cases hqj:q=j
     ·subst hqj
      rw [if_pos ⟨rfl,rfl⟩,decide_eq_false (by omega),Bool.false_and,Bool.or_false,decide_eq_true (Nat.le_refl _),Bool.true_and]
     ·rw [if_neg (fun h=>hqj h.2),if_neg (fun h=>hqj h.2)]
      congr 2
      exact decide_eq_decide.2 (by omega)
   exact key _ rfl
theorem l366v8 (hn:nb≤1000) (hu:4000≤u) (LN:Nat→Nat) (hL:∀ a,a<nb→LN a=nb) (v:Nat) (hv:v<nb) (y1:Int) (hy1:y1=(v:Int)):∀ (d i t:Nat) (x:Int) (F:FF),x=(i:Int)→i+d=nb→d<t →
  ∃ F',(∀ k0:FF→Option ρ,L366v8 u jn jg nb bg (Int.ofNat nb) nb y1 s a1 f1 a2 f2 a3 f3 a4 f4 m f LN t x F k0=k0 F')∧(∀ a q,a<i→mb F' a q=mb F a q)∧(∀ q,q<nb→mb F' v q=mb F v q)∧∀ a q,i≤a→a<nb→q<nb→mb F' a q=(mb F a q||(mb F a v&&mb F v q))
 | 0,i,t+1,x,F,hx,hi,ht=>by
  refine ⟨F,fun k0=>?_,fun _ _ _=>rfl,fun _ _=>rfl,fun a q h1 h2 _=>by omega⟩
  unfold L366v8
  rw [show decide (x<Int.ofNat nb)=false from decide_eq_false (by simp only [Int.ofNat_eq_natCast];omega),cond_false]
 | d+1,i,t+1,x,F,hx,hi,ht=>by
  have h1:decide (x<Int.ofNat nb)=true:=decide_eq_true (by simp only [Int.ofNat_eq_natCast];omega)
  have hx1:w64 (x+1)=((i+1:Nat):Int):=by rw [w64_of (by omega) (by omega)];omega
  obtain ⟨F1,b1,b2,b3⟩:=l366v7 (ρ:=ρ) u jn jg nb bg s a1 f1 a2 f2 a3 f3 a4 f4 m f hn LN hL i v (by omega) hv y1 x hy1 hx nb 0 u 0 F rfl (by omega) (by omega)
  obtain ⟨F',e1,e2,e3,e4⟩:=l366v8 hn hu LN hL v hv y1 hy1 d (i+1) t (w64 (x+1)) F1 hx1 (by omega) (by omega)
  have r:∀ q,q<nb→mb F1 v q=mb F v q:=fun q hq=>by
   by_cases h:v=i
   ·subst h
    rw [b3 q hq]
    cases mb F v q<;>simp
   ·exact b2 v q h
  refine ⟨F',fun k0=>?_,fun a q ha=>?_,fun q hq=>by rw [e3 q hq,r q hq],fun a q ha1 ha2 hq=>?_⟩
  ·rw [← e1 k0]
   conv=>lhs;unfold L366v8
   rw [h1,cond_true,b1]
  ·rw [e2 a q (by omega),b2 a q (by omega)]
  ·by_cases h:a=i
   ·subst h
    rw [e2 a q (by omega),b3 q hq,decide_eq_true (Nat.zero_le _),Bool.true_and]
   ·rw [e4 a q (by omega) ha2 hq,b2 a q h,b2 a v h,r q hq]
theorem l366v9 (hn:nb≤1000) (hu:4000≤u) (LN:Nat→Nat) (hL:∀ a,a<nb→LN a=nb) (ke:Nat) (ge:FF):∀ (d v t:Nat) (x:Int) (F:FF),x=(v:Int)→v+d=nb→d<t→(∀ a q,a<nb→q<nb→(mb F a q=true↔War ke ge v a q)) →
  ∃ F',(∀ k0:FF→Option ρ,L366v9 u jn jg nb bg (Int.ofNat nb) nb s a1 f1 a2 f2 a3 f3 a4 f4 m f LN t x F k0=k0 F')∧∀ a q,a<nb→q<nb→(mb F' a q=true↔War ke ge nb a q)
 | 0,v,t+1,x,F,hx,hi,ht,hF=>by
  refine ⟨F,fun k0=>?_,fun a q h1 h2=>by rw [hF a q h1 h2,show v=nb by omega]⟩
  unfold L366v9
  rw [show decide (x<Int.ofNat nb)=false from decide_eq_false (by simp only [Int.ofNat_eq_natCast];omega),cond_false]
 | d+1,v,t+1,x,F,hx,hi,ht,hF=>by
  have h1:decide (x<Int.ofNat nb)=true:=decide_eq_true (by simp only [Int.ofNat_eq_natCast];omega)
  have hx1:w64 (x+1)=((v+1:Nat):Int):=by rw [w64_of (by omega) (by omega)];omega
  obtain ⟨F1,b1,_,_,b4⟩:=l366v8 (ρ:=ρ) u jn jg nb bg s a1 f1 a2 f2 a3 f3 a4 f4 m f hn hu LN hL v (by omega) x hx nb 0 u 0 F rfl (by omega) (by omega)
  obtain ⟨F',e1,e2⟩:=l366v9 hn hu LN hL ke ge d (v+1) t (w64 (x+1)) F1 hx1 (by omega) (by omega) fun a q ha hq=>by
   rw [b4 a q (by omega) ha hq,Bool.or_eq_true,Bool.and_eq_true,hF a q ha hq,hF a v ha (by omega),hF v q (by omega) hq];rfl
  refine ⟨F',fun k0=>?_,e2⟩
  rw [← e1 k0]
  conv=>lhs;unfold L366v9
  rw [h1,cond_true,b1]
theorem makes_t {n:Nat} (h:n≤1073741824):(decide (0≤(Int.ofNat n))&&decide ((Int.ofNat n)≤(Int.ofNat n))&&decide ((Int.ofNat n)≤1073741824)&&true)=true:=by
 simp only [Int.ofNat_eq_natCast]
 rw [decide_eq_true (by omega),decide_eq_true (by omega),decide_eq_true (show (n:Int)≤1073741824 by omega)];rfl
theorem makes_t' {n:Nat} (h:n≤1073741824):(decide (0≤(Int.ofNat n))&&decide ((Int.ofNat n)=(Int.ofNat n))&&decide ((Int.ofNat n)≤1073741824))=true:=by
 rw [decide_eq_true (show (0:Int)≤Int.ofNat n from Int.natCast_nonneg n),decide_eq_true (show Int.ofNat n=Int.ofNat n from rfl),decide_eq_true (show Int.ofNat n≤1073741824 by simp only [Int.ofNat_eq_natCast];omega)];rfl
theorem l366v1 (hn:nb≤1000) (ke:Nat) (ge:FF):∀ (d i t:Nat) (x:Int) (LN:Nat→Nat) (F:FF),x=(i:Int)→i+d=nb→d<t→(∀ a,a<i→LN a=nb∧∀ q,mb F a q=false∨nb≤q) →
  ∃ LN' F',(∀ k0:(Nat→Nat)→FF→Option ρ,L366v1 u jn jg nb bg ke ge (Int.ofNat nb) nb s a1 f1 a2 f2 a3 f3 a4 f4 m f t x LN F k0=k0 LN' F')∧∀ a,a<nb→LN' a=nb∧∀ q,mb F' a q=false∨nb≤q
 | 0,i,t+1,x,LN,F,hx,hi,ht,hF=>by
  refine ⟨LN,F,fun k0=>?_,fun a ha=>hF a (by omega)⟩
  unfold L366v1
  rw [show decide (x<Int.ofNat nb)=false from decide_eq_false (by simp only [Int.ofNat_eq_natCast];omega),cond_false]
 | d+1,i,t+1,x,LN,F,hx,hi,ht,hF=>by
  have h1:decide (x<Int.ofNat nb)=true:=decide_eq_true (by simp only [Int.ofNat_eq_natCast];omega)
  have hx1:w64 (x+1)=((i+1:Nat):Int):=by rw [w64_of (by omega) (by omega)];omega
  have h3:Int.toNat x=i:=by omega
  have h4:Int.toNat (Int.ofNat nb)=nb:=rfl
  obtain ⟨LN',F',e1,e2⟩:=l366v1 hn ke ge d (i+1) t (w64 (x+1)) (updN LN i nb) (updM F i (fun _ j=>listF [(.b false)] j)) hx1 (by omega) (by omega) fun a ha=>by
   by_cases h:a=i
   ·subst h
    refine ⟨updN_same ..,fun q=>.inl ?_⟩
    show CV.bool (updM F a (fun _ j=>listF [(.b false)] j) a q)=false
    rw [updM_same];rfl
   ·refine ⟨by rw [updN_ne h];exact (hF a (by omega)).1,fun q=>?_⟩
    show CV.bool (updM F i _ a q)=false∨_
    rw [updM_ne h];exact (hF a (by omega)).2 q
  refine ⟨LN',F',fun k0=>?_,e2⟩
  rw [← e1 k0]
  conv=>lhs;unfold L366v1
  rw [h1,cond_true,makes_t (by omega),cond_true,inb_true (by omega) (by omega),cond_true,h4,h3,blt_t (show i<nb by omega),Bool.and_true,show Nat.beq nb nb=true from Nat.beq_refl nb,cond_true]
theorem l366v2 (hn:nb≤1000) (LN:Nat→Nat) (hL:∀ a,a<nb→LN a=nb) (ke:Nat) (hke:ke≤1000000) (ge:FF) (hg:Good (nb:Int) ke ge):∀ (d i t:Nat) (x:Int) (F:FF),x=(i:Int)→i+d=ke→d<t →
  ∃ F',(∀ k0:FF→Option ρ,L366v2 u jn jg nb bg ke ge (Int.ofNat nb) nb s a1 f1 a2 f2 a3 f3 a4 f4 m f LN t x F k0=k0 F')∧∀ a q,mb F' a q=true↔mb F a q=true∨∃ j,i≤j∧j<ke∧ea ge j=(a:Int)∧eb ge j=(q:Int)
 | 0,i,t+1,x,F,hx,hi,ht=>by
  refine ⟨F,fun k0=>?_,fun a q=>⟨.inl,fun h=>h.elim id fun ⟨j,h1,h2,_⟩=>by omega⟩⟩
  unfold L366v2
  rw [show decide (x<Int.ofNat ke)=false from decide_eq_false (by simp only [Int.ofNat_eq_natCast];omega),cond_false]
 | d+1,i,t+1,x,F,hx,hi,ht=>by
  have h1:decide (x<Int.ofNat ke)=true:=decide_eq_true (by simp only [Int.ofNat_eq_natCast];omega)
  have hx1:w64 (x+1)=((i+1:Nat):Int):=by rw [w64_of (by omega) (by omega)];omega
  have h3:Int.toNat x=i:=by omega
  obtain ⟨g1,g2,g3,g4,g5⟩:=hg i (by omega)
  obtain ⟨F',e1,e2⟩:=l366v2 hn LN hL ke hke ge hg d (i+1) t (w64 (x+1)) (setM F (Int.toNat (ea ge i)) (Int.toNat (eb ge i)) (.b true)) hx1 (by omega) (by omega)
  refine ⟨F',fun k0=>?_,fun a q=>?_⟩
  ·rw [← e1 k0]
   conv=>lhs;unfold L366v2
   rw [h1,cond_true,inb_true (by omega) (by omega),cond_true,h3,inb_true (i:=CV.int (ge i 0)) g1 g2,cond_true,blt_t (show Int.toNat (CV.int (ge i 0))<nb by have:=g1;have:=g2;unfold ea at *;omega),Bool.and_true,cond_true,cond_true,
    hL _ (show Int.toNat (CV.int (ge i 0))<nb by have:=g1;have:=g2;unfold ea at *;omega),inb_true (i:=CV.int (ge i 1)) g3 g4,cond_true]
  ·rw [e2,setM_mb]
   constructor
   ·rintro (h | ⟨j,h1,h2,h3⟩)
    ·split at h
     ·rename_i h5
      exact .inr ⟨i,Nat.le_refl _,by omega,by omega,by omega⟩
     ·exact .inl h
    ·exact .inr ⟨j,by omega,h2,h3⟩
   ·rintro (h | ⟨j,h1,h2,h3,h4⟩)
    ·left;split
     ·rfl
     ·exact h
    ·by_cases hj:j=i
     ·subst hj;left;rw [if_pos ⟨by omega,by omega⟩]
     ·exact .inr ⟨j,by omega,h2,h3,h4⟩
def bix (nb:Nat) (bg:FF) (jg:FF) (j:Nat):Nat:=(nix nb bg (sv jg j)).toNat
theorem bix_lt {nb:Nat} {bg jg:FF} {j:Nat} (h:JobOk nb bg jg j):bix nb bg jg j<nb∧nix nb bg (sv jg j)=(bix nb bg jg j:Int)∧sv bg (bix nb bg jg j)=sv jg j:=by
 rcases nix_cases nb bg (sv jg j) with ⟨_,h2⟩ | ⟨q,h1,h2,h3,_⟩
 ·obtain ⟨i,hi,e⟩:=mem_strs.1 h.has
  exact absurd e (h2 i hi)
 ·have:bix nb bg jg j=q:=by unfold bix;rw [h2];rfl
  rw [this];exact ⟨h1,h2,h3⟩
theorem l366v11 (hn:nb≤1000) (hj:jn≤1000) (hu:4000≤u) (hJ:∀ i,i<jn→JobOk nb bg jg i) (LN:Nat→Nat) (hL:∀ a,a<nb→LN a=nb) (M:FF) (LO:Nat→Nat) (i:Nat) (hi:i<jn) (hLO:LO i=jn) (y:Int) (hy:y=(i:Int)):∀ (d j t:Nat) (x:Int) (F:FF),x=(j:Int)→j+d=jn→d<t →
  ∃ F',(∀ k0:FF→Option ρ,L366v11 u jn jg nb bg nb jn y s a1 f1 a2 f2 a3 f3 a4 f4 m f LN M LO t x F k0=k0 F')∧(∀ a q,a≠i→mb F' a q=mb F a q)∧(∀ q,q<j→mb F' i q=mb F i q)∧∀ q,j≤q→q<jn→mb F' i q=mb M (bix nb bg jg i) (bix nb bg jg q)
 | 0,j,t+1,x,F,hx,hj,ht=>by
  refine ⟨F,fun k0=>?_,fun _ _ _=>rfl,fun _ _=>rfl,fun q h1 h2=>by omega⟩
  unfold L366v11
  rw [show decide (x<Int.ofNat jn)=false from decide_eq_false (by simp only [Int.ofNat_eq_natCast];omega),cond_false]
 | d+1,j,t+1,x,F,hx,hjd,ht=>by
  have h1:decide (x<Int.ofNat jn)=true:=decide_eq_true (by simp only [Int.ofNat_eq_natCast];omega)
  have hx1:w64 (x+1)=((j+1:Nat):Int):=by rw [w64_of (by omega) (by omega)];omega
  have h3:Int.toNat x=j:=by omega
  have h4:Int.toNat y=i:=by omega
  obtain ⟨c1,c2,_⟩:=bix_lt (hJ i hi)
  obtain ⟨d1,d2,_⟩:=bix_lt (hJ j (by omega))
  obtain ⟨F',e1,e2,e3,e4⟩:=l366v11 hn hj hu hJ LN hL M LO i hi hLO y hy d (j+1) t (w64 (x+1)) (setM F i j (.b (mb M (bix nb bg jg i) (bix nb bg jg j)))) hx1 (by omega) (by omega)
  refine ⟨F',fun k0=>?_,fun a q ha=>?_,fun q hq=>?_,fun q hq1 hq2=>?_⟩
  ·rw [← e1 k0]
   conv=>lhs;unfold L366v11
   rw [h1,cond_true,inb_true (by omega) (by omega),cond_true,h4,blt_t hi,Bool.and_true,cond_true,inb_true (by omega) (by omega),cond_true,
    find361 u nb bg (CV.str (jg i 0)) (by omega) (by omega),ob_some,show nix nb bg (CV.str (jg i 0))=(bix nb bg jg i:Int) from c2,inb_true (by omega) (by omega),cond_true,Int.toNat_natCast,blt_t c1,Bool.and_true,cond_true,inb_true (by omega) (by omega),cond_true,h3,
    find361 u nb bg (CV.str (jg j 0)) (by omega) (by omega),ob_some,show nix nb bg (CV.str (jg j 0))=(bix nb bg jg j:Int) from d2,hL _ c1,inb_true (by omega) (by omega),cond_true,cond_true,Int.toNat_natCast]
  ·rw [e2 a q ha,setM_mb,if_neg (fun h=>ha h.1)]
  ·rw [e3 q (by omega),setM_mb,if_neg (fun h=>by omega)]
  ·by_cases h:q=j
   ·subst h;rw [e3 q (by omega),setM_mb,if_pos ⟨rfl,rfl⟩]
   ·exact e4 q (by omega) hq2
theorem l366v12 (hn:nb≤1000) (hj:jn≤1000) (hu:4000≤u) (hJ:∀ i,i<jn→JobOk nb bg jg i) (LN:Nat→Nat) (hL:∀ a,a<nb→LN a=nb) (M:FF):∀ (d i t:Nat) (x:Int) (LO:Nat→Nat) (F:FF),x=(i:Int)→i+d=jn→d<t→(∀ a,a<i→LO a=jn∧∀ q,q<jn→mb F a q=mb M (bix nb bg jg a) (bix nb bg jg q)) →
  ∃ LO' F',(∀ k0:(Nat→Nat)→FF→Option ρ,L366v12 u jn jg nb bg nb jn s a1 f1 a2 f2 a3 f3 a4 f4 m f LN M t x LO F k0=k0 LO' F')∧∀ a,a<jn→LO' a=jn∧∀ q,q<jn→mb F' a q=mb M (bix nb bg jg a) (bix nb bg jg q)
 | 0,i,t+1,x,LO,F,hx,hi,ht,hF=>by
  refine ⟨LO,F,fun k0=>?_,fun a ha=>hF a (by omega)⟩
  unfold L366v12
  rw [show decide (x<Int.ofNat jn)=false from decide_eq_false (by simp only [Int.ofNat_eq_natCast];omega),cond_false]
 | d+1,i,t+1,x,LO,F,hx,hi,ht,hF=>by
  have h1:decide (x<Int.ofNat jn)=true:=decide_eq_true (by simp only [Int.ofNat_eq_natCast];omega)
  have hx1:w64 (x+1)=((i+1:Nat):Int):=by rw [w64_of (by omega) (by omega)];omega
  have h3:Int.toNat x=i:=by omega
  have h4:Int.toNat (Int.ofNat jn)=jn:=rfl
  obtain ⟨F1,b1,b2,_,b4⟩:=l366v11 (ρ:=ρ) u jn jg nb bg s a1 f1 a2 f2 a3 f3 a4 f4 m f hn hj hu hJ LN hL M (updN LO i jn) i (by omega) (updN_same ..) x hx jn 0 u 0 (updM F i (fun _ j=>listF [(.b false)] j)) rfl (by omega) (by omega)
  obtain ⟨LO',F',e1,e2⟩:=l366v12 hn hj hu hJ LN hL M d (i+1) t (w64 (x+1)) (updN LO i jn) F1 hx1 (by omega) (by omega) fun a ha=>by
   by_cases h:a=i
   ·subst h
    exact ⟨updN_same ..,fun q hq=>b4 q (by omega) hq⟩
   ·refine ⟨by rw [updN_ne h];exact (hF a (by omega)).1,fun q hq=>?_⟩
    rw [b2 a q h]
    show CV.bool (updM F i _ a q)=_
    rw [updM_ne h];exact (hF a (by omega)).2 q hq
  refine ⟨LO',F',fun k0=>?_,e2⟩
  rw [← e1 k0]
  conv=>lhs;unfold L366v12
  rw [h1,cond_true,makes_t (by omega),cond_true,inb_true (by omega) (by omega),cond_true,h4,h3,blt_t (show i<jn by omega),Bool.and_true,show Nat.beq jn jn=true from Nat.beq_refl jn,cond_true,b1]
end
def Rows (n:Nat) (bf:FF) (P:Nat→Nat→Prop):Prop:=∀ i,i<n→CV.len (bf i 0)=n∧∀ j,j<n→(bv (CV.el (bf i 0)) j=true↔P i j)
theorem before366 (u:Nat) (s:ByteArray) (a1:Nat) (f1:FF) (a2:Nat) (f2:FF) (a3:Nat) (f3:FF) (a4:Nat) (f4:FF) (m:Nat) (f:FF) (jn:Nat) (jg:FF) (nb:Nat) (bg:FF) (ke:Nat) (ge:FF) (hn:nb≤60) (hj:jn≤100) (hu:4000≤u) (hke:ke≤3600)
  (hb:F252 u s a1 f1 a2 f2 a3 f3 a4 f4 m f=some (nb,bg)) (he:F254 u s a1 f1 a2 f2 a3 f3 a4 f4 m f=some (ke,ge)) (hg:Good (nb:Int) ke ge) (hJ:∀ i,i<jn→JobOk nb bg jg i) :
  ∃ bf,F366 u s a1 f1 a2 f2 a3 f3 a4 f4 m f jn jg=some (jn,bf)∧Rows jn bf fun i j=>Path ke ge (bix nb bg jg i) (bix nb bg jg j):=by
 unfold F366
 rw [hb,ob_some,he,ob_some]
 dsimp only
 rw [makes_t' (by omega),cond_true]
 obtain ⟨LN,F,e1,g1⟩:=l366v1 (ρ:=Nat × FF) u jn jg nb bg s a1 f1 a2 f2 a3 f3 a4 f4 m f (by omega) ke ge nb 0 u 0 (fun _=>0) (fun _ _=>.any) rfl (by omega) (by omega) (fun a h=>by omega)
 obtain ⟨F2,e2,g2⟩:=l366v2 (ρ:=Nat × FF) u jn jg nb bg s a1 f1 a2 f2 a3 f3 a4 f4 m f (by omega) LN (fun a ha=>(g1 a ha).1) ke (by omega) ge hg ke 0 u 0 F rfl (by omega) (by omega)
 obtain ⟨F3,e3,g3⟩:=l366v9 (ρ:=Nat × FF) u jn jg nb bg s a1 f1 a2 f2 a3 f3 a4 f4 m f (by omega) (by omega) LN (fun a ha=>(g1 a ha).1) ke ge nb 0 u 0 F2 rfl (by omega) (by omega) fun a q ha hq=>by
  rw [g2]
  constructor
  ·rintro (h | ⟨j,_,h1,h2,h3⟩)
   ·rcases (g1 a ha).2 q with h4 | h4
    ·rw [h4] at h;cases h
    ·omega
   ·exact ⟨j,h1,h2,h3⟩
  ·rintro ⟨j,h1,h2,h3⟩
   exact .inr ⟨j,Nat.zero_le _,h1,h2,h3⟩
 obtain ⟨LO,F4,e4,g4⟩:=l366v12 (ρ:=Nat × FF) u jn jg nb bg s a1 f1 a2 f2 a3 f3 a4 f4 m f (by omega) (by omega) hu hJ LN (fun a ha=>(g1 a ha).1) F3 jn 0 u 0 (fun _=>0) (fun _ _=>.any) rfl (by omega) (by omega) (fun a h=>by omega)
 refine ⟨matF .bool LO F4,?_,fun i hi=>⟨(g4 i hi).1,fun j hj=>?_⟩⟩
 ·show L366v1 u jn jg nb bg ke ge (Int.ofNat nb) nb s a1 f1 a2 f2 a3 f3 a4 f4 m f u 0 (fun _=>0) (fun _ _=>.any) _=_
  rw [e1]
  show L366v2 u jn jg nb bg ke ge (Int.ofNat nb) nb s a1 f1 a2 f2 a3 f3 a4 f4 m f LN u 0 F _=_
  rw [e2]
  show L366v9 u jn jg nb bg (Int.ofNat nb) nb s a1 f1 a2 f2 a3 f3 a4 f4 m f LN u 0 F2 _=_
  rw [e3,makes_t' (by omega),cond_true]
  show L366v12 u jn jg nb bg nb jn s a1 f1 a2 f2 a3 f3 a4 f4 m f LN F3 u 0 (fun _=>0) (fun _ _=>.any) _=_
  rw [e4];rfl
 ·show mb F4 i j=true↔_
  rw [(g4 i hi).2 j hj,g3 _ _ (bix_lt (hJ i hi)).1 (bix_lt (hJ j hj)).1]
  exact ⟨War.path,War.of hg⟩
end Go.Eng.R13
/-
 sched: newHall.
-/
set_option linter.all false
namespace Go.Eng.R13
open Go Go.RowKit Go.Eng
def ints (k:Nat) (g:FF):List Int:=(List.range k).map (iv g)
theorem ints_push (k:Nat) (g:FF) (z:Int):ints (k+1) (joinF k g (rowsF 1 [(.i .i64 z)]))=ints k g ++ [z]:=by
 unfold ints
 rw [List.range_succ,List.map_append]
 congr 1
 ·exact List.map_congr_left fun i hi=>by
   rw [joinI _ _ _ _ (by have:=List.mem_range.1 hi;omega),if_neg (by have:=List.mem_range.1 hi;omega)]
 ·simp only [List.map_cons,List.map_nil]
  rw [joinI _ _ _ _ (Nat.le_refl _),if_pos rfl]
theorem mem_ints {k:Nat} {g:FF} {z:Int}:z∈ints k g↔∃ i,i<k∧iv g i=z:=by
 unfold ints;rw [List.mem_map]
 exact ⟨fun ⟨i,h1,h2⟩=>⟨i,List.mem_range.1 h1,h2⟩,fun ⟨i,h1,h2⟩=>⟨i,List.mem_range.2 h1,h2⟩⟩
theorem ble_t {a b:Nat} (h:a≤b):Nat.ble a b=true:=by rw [Nat.ble_eq];exact h
def ordStep (jn:Nat) (jg:FF) (acc:List Int) (b:ByteArray):List Int:=bif decide (nix jn jg b≥0) && !decide (nix jn jg b∈acc) then acc ++ [nix jn jg b] else acc
section
variable {ρ : Type} (u : Nat)
theorem l338 (k:Nat) (g:FF) (v:Int) (hk:k≤1000000) (k0:Int→Option ρ) (k1:Option ρ):∀ (d i t:Nat) (x:Int),x=(i:Int)→i+d=k→d<t →
  L338v1 u k g v (Int.ofNat k) t x k0 k1=bif decide (fidx (fun i=>v==iv g i) d i<0) then k1 else k0 (fidx (fun i=>v==iv g i) d i)
 | 0,i,t+1,x,hx,hi,ht=>by
  unfold L338v1
  rw [show decide (x<Int.ofNat k)=false from decide_eq_false (by simp only [Int.ofNat_eq_natCast];omega),cond_false];rfl
 | d+1,i,t+1,x,hx,hi,ht=>by
  have h1:decide (x<Int.ofNat k)=true:=decide_eq_true (by simp only [Int.ofNat_eq_natCast];omega)
  have h2:inb x k=true:=inb_true (by omega) (by omega)
  have h3:Int.toNat x=i:=by omega
  have hx1:w64 (x+1)=((i+1:Nat):Int):=by rw [w64_of (by omega) (by omega)];omega
  unfold L338v1 fidx
  rw [h1,cond_true,h2,cond_true,h3]
  show (bif v==iv g i then _ else _)=_
  cases q:v==iv g i with
  | true=>rw [cond_true,cond_true,show decide ((i:Int)<0)=false from decide_eq_false (by omega),cond_false,hx]
  | false=>rw [cond_false,cond_false];exact l338 k g v hk k0 k1 d (i+1) t _ hx1 (by omega) (by omega)
theorem has339 (k:Nat) (g:FF) (v:Int) (hk:k≤1000000) (hu:k<u):F339 u k g v=some (decide (v∈ints k g)):=by
 unfold F339 F338
 rw [l338 u k g v hk (fun x=>some x) (some (-1)) k 0 u 0 rfl (by omega) hu]
 rcases fidx_cases (fun i=>v==iv g i) k 0 with ⟨h1,h2⟩ | ⟨j,h1,h2,h3,h4,_⟩
 ·rw [h1]
  show some (decide ((-1:Int)≥0))=_
  rw [decide_eq_false (by decide),decide_eq_false]
  rw [mem_ints]
  rintro ⟨i,hi,he⟩
  have:=h2 i (Nat.zero_le _) (by omega)
  rw [he] at this;simp at this
 ·rw [h3,decide_eq_false (by omega),cond_false,ob_some,decide_eq_true (by omega),decide_eq_true]
  rw [mem_ints]
  exact ⟨j,by omega,(by simpa using h4:v=iv g j).symm⟩
theorem at334 (s1:ByteArray) (y:Int) (n:Nat) (g:FF) (nb:Nat) (bg:FF) (hn:nb≤1000) (hu:4000≤u):F334 u s1 y n g (listF [(.ro false (.pr .str .nil) nb bg)])=some (nix nb bg s1):=by
 unfold F334
 show ob (F256 u nb bg s1) _=_
 rw [index256 u nb bg s1 (by omega) (by omega),ob_some]
variable (s : ByteArray) (a1 : Nat) (f1 : FF) (a2 : Nat) (f2 : FF) (a3 : Nat) (f3 : FF) (a4 : Nat) (f4 : FF) (m : Nat) (f : FF) (jn : Nat) (jg : FF) (nb : Nat) (bg : FF)
theorem l340v2 (hn:nb≤60) (hj:jn≤100) (hu:4000≤u) (hJ:∀ i,i<jn→JobOk nb bg jg i) (ke:Nat) (ge:FF) (hke:ke≤1000) (hA:Acyc (nb:Int) ke ge) (i:Nat) (hi:i<jn) (y1 y2 y3:Int) (r:Nat) (rf:FF) (n:Nat) (g:FF):∀ (d j t:Nat) (x:Int) (M:FF),x=(j:Int)→j+d=jn→d<t →
  ∃ M',(∀ k0:FF→Option ρ,L340v2 u jn jg ke ge jn y1 y2 (Int.ofNat jn) s a1 f1 a2 f2 a3 f3 a4 f4 m f y3 r nb bg rf (sv jg i) (hv jg i) n g t x M k0=k0 M')∧(∀ q,q<j→bv M' q=bv M q)∧∀ q,j≤q→q<jn→(bv M' q=true↔Path ke ge (bix nb bg jg i) (bix nb bg jg q))
 | 0,j,t+1,x,M,hx,hjd,ht=>by
  refine ⟨M,fun k0=>?_,fun _ _=>rfl,fun q h1 h2=>by omega⟩
  unfold L340v2
  rw [show decide (x<Int.ofNat jn)=false from decide_eq_false (by simp only [Int.ofNat_eq_natCast];omega),cond_false]
 | d+1,j,t+1,x,M,hx,hjd,ht=>by
  have h1:decide (x<Int.ofNat jn)=true:=decide_eq_true (by simp only [Int.ofNat_eq_natCast];omega)
  have h2:inb x jn=true:=inb_true (by omega) (by omega)
  have h3:Int.toNat x=j:=by omega
  have hx1:w64 (x+1)=((j+1:Nat):Int):=by rw [w64_of (by omega) (by omega)];omega
  obtain ⟨c1,c2,c3⟩:=bix_lt (hJ i hi)
  obtain ⟨d1,d2,d3⟩:=bix_lt (hJ j (by omega))
  have key:∀ b:Bool,(b=true↔Path ke ge (bix nb bg jg i) (bix nb bg jg j))→(∀ k0:FF→Option ρ,L340v2 u jn jg ke ge jn y1 y2 (Int.ofNat jn) s a1 f1 a2 f2 a3 f3 a4 f4 m f y3 r nb bg rf (sv jg i) (hv jg i) n g (t+1) x M k0=L340v2 u jn jg ke ge jn y1 y2 (Int.ofNat jn) s a1 f1 a2 f2 a3 f3 a4 f4 m f y3 r nb bg rf (sv jg i) (hv jg i) n g t (w64 (x+1)) (setF M (0+j) 0 1 (listF [(.b b)])) k0) →
    ∃ M',(∀ k0:FF→Option ρ,L340v2 u jn jg ke ge jn y1 y2 (Int.ofNat jn) s a1 f1 a2 f2 a3 f3 a4 f4 m f y3 r nb bg rf (sv jg i) (hv jg i) n g (t+1) x M k0=k0 M')∧(∀ q,q<j→bv M' q=bv M q)∧∀ q,j≤q→q<jn→(bv M' q=true↔Path ke ge (bix nb bg jg i) (bix nb bg jg q)):=fun b hb hL=>by
   obtain ⟨M',e1,e2,e3⟩:=l340v2 hn hj hu hJ ke ge hke hA i hi y1 y2 y3 r rf n g d (j+1) t (w64 (x+1)) (setF M (0+j) 0 1 (listF [(.b b)])) hx1 (by omega) (by omega)
   refine ⟨M',fun k0=>(hL k0).trans (e1 k0),fun q hq=>by rw [e2 q (by omega),setB,if_neg (by omega)],fun q h1 h2=>?_⟩
   by_cases hq:q=j
   ·subst hq;rw [e2 q (by omega),setB,if_pos rfl];exact hb
   ·exact e3 q (by omega) h2
  by_cases hs:sv jg i=sv jg j
  ·have hbi:bix nb bg jg i=bix nb bg jg j:=by unfold bix;rw [hs]
   obtain ⟨p,hT⟩:=hA.topo
   refine key false ⟨fun h=>(by cases h),fun h=>?_⟩ fun k0=>?_
   ·rw [hbi] at h;exact (hT.irrefl (by omega) h).elim
   ·conv=>lhs;unfold L340v2
    rw [h1,cond_true,h2,cond_true,h3,tl_eq,show decide (sv jg i=CV.str (jg j 0))=true from decide_eq_true hs,show ((!true)==true)=false from rfl,cond_false,cond_true]
  ·obtain ⟨B,b1,b2⟩:=before232 u (nb:Int) ke ge (nix nb bg (sv jg i)) (nix nb bg (sv jg j)) (by omega) (by omega) (by omega)
   refine key B ?_ fun k0=>?_
   ·rw [b2,c2,d2]
    simp only [Int.toNat_natCast]
    exact ⟨fun h=>h.2.2.2,fun h=>⟨hA,by omega,by omega,h⟩⟩
   ·conv=>lhs;unfold L340v2
    rw [h1,cond_true,h2,cond_true,h3,tl_eq,show decide (sv jg i=CV.str (jg j 0))=false from decide_eq_false hs,show ((!false)==true)=true from rfl,cond_true,at334 u _ _ _ _ nb bg (by omega) hu,ob_some,at334 u _ _ _ _ nb bg (by omega) hu,ob_some]
    show ob (F232 u (nb:Int) ke ge (nix nb bg (sv jg i)) (nix nb bg (sv jg j))) _=_
    rw [b1,ob_some,cond_true]
theorem l340v3 (hn:nb≤60) (hj:jn≤100) (hu:4000≤u) (hJ:∀ i,i<jn→JobOk nb bg jg i) (ke:Nat) (ge:FF) (hke:ke≤1000) (hA:Acyc (nb:Int) ke ge) (y3:Int):∀ (d i t:Nat) (x:Int) (bf:FF),x=(i:Int)→i+d=jn→d<t→(∀ a,a<i→CV.len (bf a 0)=jn∧∀ j,j<jn→(bv (CV.el (bf a 0)) j=true↔Path ke ge (bix nb bg jg a) (bix nb bg jg j))) →
  ∃ bf',(∀ k0:Nat→FF→Option ρ,L340v3 u jn jg ke ge (Int.ofNat jn) s a1 f1 a2 f2 a3 f3 a4 f4 m f y3 nb bg t x i bf k0=k0 jn bf')∧Rows jn bf' fun i j=>Path ke ge (bix nb bg jg i) (bix nb bg jg j)
 | 0,i,t+1,x,bf,hx,hi,ht,hF=>by
  refine ⟨bf,fun k0=>?_,fun a ha=>hF a (by omega)⟩
  unfold L340v3
  rw [show decide (x<Int.ofNat jn)=false from decide_eq_false (by simp only [Int.ofNat_eq_natCast];omega),cond_false,show i=jn by omega]
 | d+1,i,t+1,x,bf,hx,hi,ht,hF=>by
  have h1:decide (x<Int.ofNat jn)=true:=decide_eq_true (by simp only [Int.ofNat_eq_natCast];omega)
  have h2:inb x jn=true:=inb_true (by omega) (by omega)
  have h3:Int.toNat x=i:=by omega
  have h4:Int.toNat (Int.ofNat jn)=jn:=rfl
  have hx1:w64 (x+1)=((i+1:Nat):Int):=by rw [w64_of (by omega) (by omega)];omega
  obtain ⟨M,b1,_,b3⟩:=l340v2 (ρ:=ρ) u s a1 f1 a2 f2 a3 f3 a4 f4 m f jn jg nb bg hn hj hu hJ ke ge hke hA i (by omega) (Int.ofNat jn) x y3 i bf (cn jg i) (ce jg i) jn 0 u 0 (fun _ j=>listF [(.b false)] j) rfl (by omega) (by omega)
  obtain ⟨bf',e1,e2⟩:=l340v3 hn hj hu hJ ke ge hke hA y3 d (i+1) t (w64 (x+1)) (joinF i bf (rowsF 1 [(.ro false (.pr .bool .nil) jn M)])) hx1 (by omega) (by omega) fun a ha=>by
   by_cases h:a=i
   ·subst h
    rw [joinF_at]
    exact ⟨rfl,fun j hj=>b3 j (Nat.zero_le _) hj⟩
   ·rw [joinF_lt (show a<i by omega)];exact hF a (by omega)
  refine ⟨bf',fun k0=>?_,e2⟩
  rw [← e1 k0]
  conv=>lhs;unfold L340v3
  rw [h1,cond_true,h2,cond_true,makes_t (by omega),cond_true,h3,h4,b1,show Nat.ble (i+1) 1073741824=true from ble_t (by omega),cond_true]
theorem l340v4 (hj:jn≤100) (hu:4000≤u) (K:Nat) (hK:K≤60) (ng:FF) (y:Int) (r:Nat) (rf:FF):∀ (d i t:Nat) (x:Int) (n:Nat) (g:FF),x=(i:Int)→i+d=K→d<t→n≤i →
  ∃ n' g',(∀ k0:Nat→FF→Option ρ,L340v4 u K ng (Int.ofNat K) jn jg y r rf t x n g k0=k0 n' g')∧n'≤K∧ints n' g' = ((List.range' i d).map (sv ng)).foldl (ordStep jn jg) (ints n g)
 | 0,i,t+1,x,n,g,hx,hi,ht,hn=>by
  refine ⟨n,g,fun k0=>?_,by omega,rfl⟩
  unfold L340v4
  rw [show decide (x<Int.ofNat K)=false from decide_eq_false (by simp only [Int.ofNat_eq_natCast];omega),cond_false]
 | d+1,i,t+1,x,n,g,hx,hi,ht,hn=>by
  have h1:decide (x<Int.ofNat K)=true:=decide_eq_true (by simp only [Int.ofNat_eq_natCast];omega)
  have h2:inb x K=true:=inb_true (by omega) (by omega)
  have h3:Int.toNat x=i:=by omega
  have hx1:w64 (x+1)=((i+1:Nat):Int):=by rw [w64_of (by omega) (by omega)];omega
  rw [List.range'_succ,List.map_cons,List.foldl_cons]
  have hU:∀ k0:Nat→FF→Option ρ,L340v4 u K ng (Int.ofNat K) jn jg y r rf (t+1) x n g k0=bif decide (nix jn jg (sv ng i)≥0) && !decide (nix jn jg (sv ng i)∈ints n g) then L340v4 u K ng (Int.ofNat K) jn jg y r rf t (w64 (x+1)) (n+1) (joinF n g (rowsF 1 [(.i .i64 (nix jn jg (sv ng i)))])) k0 else L340v4 u K ng (Int.ofNat K) jn jg y r rf t (w64 (x+1)) n g k0:=fun k0=>by
   conv=>lhs;unfold L340v4
   rw [h1,cond_true,h2,cond_true,h3,job337 u jn jg (CV.str (ng i 0)) (by omega) _ rfl (by omega),ob_some]
   show (bif decide (nix jn jg (sv ng i)≥0)==true then _ else _)=_
   cases decide (nix jn jg (sv ng i)≥0) with
   | false=>rfl
   | true =>
    rw [show (true==true)=true from rfl,cond_true,has339 u n g _ (by omega) (by omega),ob_some,show Nat.ble (n+1) 1073741824=true from ble_t (by omega),Bool.true_and]
    cases decide (nix jn jg (sv ng i)∈ints n g)<;>rfl
  unfold ordStep
  cases q:decide (nix jn jg (sv ng i)≥0) && !decide (nix jn jg (sv ng i)∈ints n g) with
  | true =>
   obtain ⟨n',g',e1,e2,e3⟩:=l340v4 hj hu K hK ng y r rf d (i+1) t (w64 (x+1)) (n+1) (joinF n g (rowsF 1 [(.i .i64 (nix jn jg (sv ng i)))])) hx1 (by omega) (by omega) (by omega)
   refine ⟨n',g',fun k0=>by rw [hU,q,cond_true,e1],e2,?_⟩
   rw [e3,ints_push];rfl
  | false =>
   obtain ⟨n',g',e1,e2,e3⟩:=l340v4 hj hu K hK ng y r rf d (i+1) t (w64 (x+1)) n g hx1 (by omega) (by omega) (by omega)
   refine ⟨n',g',fun k0=>by rw [hU,q,cond_false,e1],e2,?_⟩
   rw [e3];rfl
end
theorem Ends.ed {m:Nat} {f f' : FF} (h:Ends m f f') (a b:Nat):Ed m f a b↔Ed m f' a b :=
 ⟨fun ⟨i,h1,h2,h3⟩=>⟨i,h1,(h i h1).1 ▸ h2,(h i h1).2 ▸ h3⟩,fun ⟨i,h1,h2,h3⟩=>⟨i,h1,(h i h1).1.symm ▸ h2,(h i h1).2.symm ▸ h3⟩⟩
theorem Ends.path {m:Nat} {f f' : FF} (h:Ends m f f') (a b:Nat):Path m f a b↔Path m f' a b :=
 ⟨fun p=>p.mono fun a b=>(h.ed a b).1,fun p=>p.mono fun a b=>(h.ed a b).2⟩
theorem Ends.good {n:Int} {m:Nat} {f f' : FF} (h:Ends m f f') (hg:Good n m f):Good n m f':=fun i hi=>by
 obtain ⟨h1,h2⟩:=h i hi
 rw [← h1,← h2];exact hg i hi
def errR (e from_:Int):Int:=bif e != 0 then e else bif decide (from_<0) then 15 else bif decide (from_>1048576) then 15 else 0
theorem errR_zero {e from_:Int}:errR e from_=0↔e=0∧0≤from_∧from_≤1048576:=by
 unfold errR
 cases q:e != 0 with
 | true =>
  have:e≠0:=by simpa using q
  exact ⟨fun h=>absurd h this,fun h=>absurd h.1 this⟩
 | false =>
  have he:e=0:=by simpa using q
  rw [cond_false]
  cases q1:decide (from_<0) with
  | true=>have:=of_decide_eq_true q1;exact ⟨fun h=>(by cases h),fun h=>by omega⟩
  | false =>
   have:=of_decide_eq_false q1
   rw [cond_false]
   cases q2:decide (from_>1048576) with
   | true=>have:=of_decide_eq_true q2;exact ⟨fun h=>(by cases h),fun h=>by omega⟩
   | false=>have:=of_decide_eq_false q2;exact ⟨fun _=>⟨he,by omega,by omega⟩,fun _=>rfl⟩
theorem eq_false_not (b:Bool):(b==false) = !b:=by cases b<;>rfl
section
variable {u : Nat} {s : ByteArray} {a1 : Nat} {f1 : FF} {a2 : Nat} {f2 : FF} {a3 : Nat} {f3 : FF} {a4 : Nat} {f4 : FF} {m : Nat} {f : FF} {jn : Nat} {jg : FF} {nb : Nat} {bg : FF} {ke : Nat} {ge ge' : FF} {k : Nat} {g : FF} {c e : Int}
theorem JOut.right363 (h:JOut u s a1 f1 a2 f2 a3 f3 a4 f4 m f jn jg nb bg ke ge ge' k g c e) (from_:Int):F363 u s a1 f1 a2 f2 a3 f3 a4 f4 m f jn jg from_=some (errR e from_):=by
 unfold F363 errR
 rw [h.j2,ob_some,eq_false_not]
 cases (e != 0) with
 | true=>rfl
 | false =>
  cases decide (from_<0) with
  | true=>rfl
  | false=>cases decide (from_>1048576)<;>rfl
theorem JOut.acyc (h:JOut u s a1 f1 a2 f2 a3 f3 a4 f4 m f jn jg nb bg ke ge ge' k g c e) (ha:a1≤60) (hc:c=0):Acyc (nb:Int) ke ge∧(∃ l,run nb ke ge nb []=some l∧k=nb∧strs k g=l.map (sv bg)):=by
 have hle:=h.ord.le
 cases h.ord.out with
 | bad _ _ _ _ _ h1=>exact absurd hc h1
 | good ke' ge2 go l hp hg hr _ hk hs =>
  obtain ⟨e1,e2⟩:=ends_of (hp.trans h.ord.prs.symm)
  subst e1
  have hr' : run nb ke' ge nb []=some l:=(run_congr e2 nb []).symm.trans hr
  exact ⟨⟨⟨by omega,by omega⟩,e2.good hg,l,hr'⟩,l,hr',hk,hs⟩
theorem JOut.kele (h:JOut u s a1 f1 a2 f2 a3 f3 a4 f4 m f jn jg nb bg ke ge ge' k g c e) (ha:a1≤30):ke≤1000:=by
 have h1:=h.ord.kle
 have h2:=h.ord.le
 have:nb*nb≤30*30:=Nat.mul_le_mul (by omega) (by omega)
 omega
structure Hall (jn:Nat) (jg:FF) (nb:Nat) (bg:FF) (ke:Nat) (ge:FF) (k:Nat) (g:FF) (bf:FF) (on:Nat) (of:FF):Prop where
 rows:Rows jn bf fun i j=>Path ke ge (bix nb bg jg i) (bix nb bg jg j)
 ole:on≤k
 ord:ints on of=(strs k g).foldl (ordStep jn jg) []
theorem JOut.hall340 (h:JOut u s a1 f1 a2 f2 a3 f3 a4 f4 m f jn jg nb bg ke ge ge' k g c e) (ha:a1≤30) (hj:jn≤100) (hu:4000≤u) (from_:Int) :
  (errR e from_≠0→F340 u s a1 f1 a2 f2 a3 f3 a4 f4 m f jn jg from_=some (true,0,(fun _ _=>.any),0,0,(fun _ _=>.any),0,(fun _ _=>.any),errR e from_)) ∧
  (errR e from_=0→∃ bf on of,F340 u s a1 f1 a2 f2 a3 f3 a4 f4 m f jn jg from_=some (false,jn,jg,from_,jn,bf,on,of,0)∧Hall jn jg nb bg ke ge k g bf on of):=by
 constructor
 ·intro hne
  unfold F340
  unfold errR at hne ⊢
  rw [h.j1,ob_some,eq_false_not]
  cases q:(e != 0) with
  | true=>rfl
  | false =>
   cases q1:decide (from_<0) with
   | true=>rfl
   | false =>
    cases q2:decide (from_>1048576) with
    | true=>rfl
    | false=>rw [q,q1,q2] at hne;exact absurd rfl hne
 ·intro he
  obtain ⟨e0,t1,t2⟩:=errR_zero.1 he
  obtain ⟨_,hc,hJ⟩:=h.ok e0
  obtain ⟨hA,l,_,hk,_⟩:=h.acyc (by omega) hc
  have hle:=h.ord.le
  have hlen:=h.ord.len
  obtain ⟨bf,b1,b2⟩:=l340v3 (ρ:=Bool × Nat × FF × Int × Nat × FF × Nat × FF × Int) u s a1 f1 a2 f2 a3 f3 a4 f4 m f jn jg nb bg (by omega) hj hu hJ ke ge (h.kele ha) hA from_ jn 0 u 0 (fun _ _=>.any) rfl (by omega) (by omega) (fun a h=>by omega)
  obtain ⟨on,of,c1,c2,c3⟩:=l340v4 (ρ:=Bool × Nat × FF × Int × Nat × FF × Nat × FF × Int) u jn jg hj hu k (by omega) g from_ jn bf k 0 u 0 0 (fun _ _=>.any) rfl (by omega) (by omega) (Nat.le_refl _)
  refine ⟨bf,on,of,?_,b2,c2,?_⟩
  ·unfold F340
   rw [h.j1,ob_some,e0,show ((0:Int) != 0)=false from rfl,cond_false,eq_false_not,show decide (from_<0)=false from decide_eq_false (by omega),Bool.not_false,cond_true,show decide (from_>1048576)=false from decide_eq_false (by omega),cond_false,blocks251,h.ord.bl,ob_some,h.ord.e1,ob_some]
   dsimp only
   rw [show L340v3 u jn jg ke ge (Int.ofNat jn) s a1 f1 a2 f2 a3 f3 a4 f4 m f from_ nb bg u 0 0 (fun _ _=>.any) _=_ from b1 _,h.ord.o1,ob_some]
   dsimp only
   exact c1 _
  ·rw [c3,strs,List.range_eq_range'];rfl
end
end Go.Eng.R13
/-
 sched: entries and Check.
-/
set_option linter.all false
namespace Go.Eng.R13
open Go Go.RowKit Go.Eng
theorem lt_t {i k:Nat} (h:i<k):decide ((i:Int)<Int.ofNat k)=true:=decide_eq_true (by simp only [Int.ofNat_eq_natCast];omega)
theorem lt_f (k:Nat):decide ((k:Int)<Int.ofNat k)=false:=decide_eq_false (by simp only [Int.ofNat_eq_natCast];omega)
theorem inb_n {i k:Nat} (h:i<k):inb (i:Int) k=true:=inb_true (by omega) (by omega)
theorem w64_s {i:Nat} (h:i≤1000000):w64 ((i:Int)+1)=((i+1:Nat):Int):=by rw [w64_of (by omega) (by omega)];omega
theorem inbe_n {i k:Nat} (h:i<k):inbe (i:Int) k=true:=inbe_true (by omega) (by omega)
def fany (p:Nat→Bool):Nat→Nat→Bool
 | 0,_=>false
 | d+1,i=>p i||fany p d (i+1)
theorem fany_iff {p:Nat→Bool}:∀ {d i:Nat},fany p d i=true↔∃ j,i≤j∧j<i+d∧p j=true
 | 0,i=>⟨fun h=>(by cases h),fun ⟨j,h1,h2,_⟩=>by omega⟩
 | d+1,i=>by
  unfold fany
  rw [Bool.or_eq_true,fany_iff]
  constructor
  ·rintro (h | ⟨j,h1,h2,h3⟩)
   ·exact ⟨i,Nat.le_refl _,by omega,h⟩
   ·exact ⟨j,by omega,by omega,h3⟩
  ·rintro ⟨j,h1,h2,h3⟩
   by_cases h:j=i
   ·left;rw [← h];exact h3
   ·right;exact ⟨j,by omega,by omega,h3⟩
theorem fany0 {p:Nat→Bool} {n:Nat}:fany p n 0=true↔∃ j,j<n∧p j=true:=by
 rw [fany_iff]
 exact ⟨fun ⟨j,_,h2,h3⟩=>⟨j,by omega,h3⟩,fun ⟨j,h2,h3⟩=>⟨j,Nat.zero_le _,by omega,h3⟩⟩
theorem fany_congr {p q:Nat→Bool}:∀ {d i:Nat},(∀ j,i≤j→j<i+d→p j=q j)→fany p d i=fany q d i
 | 0,i,_=>rfl
 | d+1,i,h=>by unfold fany;rw [h i (Nat.le_refl _) (by omega),fany_congr fun j h1 h2=>h j (by omega) (by omega)]
theorem fidx_any (p:Nat→Bool):∀ (d i:Nat),decide (fidx p d i≥0)=fany p d i
 | 0,i=>rfl
 | d+1,i=>by
  unfold fidx fany
  cases p i with
  | true=>rw [cond_true,decide_eq_true (by omega),Bool.true_or]
  | false=>rw [cond_false,fidx_any p d (i+1),Bool.false_or]
section
variable {ρ : Type}
theorem scan (K1:Option ρ) (K0:Nat→Option ρ) (L:Nat→Int→Option ρ) (p:Nat→Bool) (k:Nat) (stop:∀ t,L (t+1) (k:Int)=K1) (step:∀ t (i:Nat),i<k→L (t+1) (i:Int)=bif p i then K0 i else L t ((i+1:Nat):Int)) :
  ∀ (d i t:Nat),i+d=k→d<t→L t (i:Int)=bif fany p d i then K0 (fidx p d i).toNat else K1
 | 0,i,t+1,hi,ht=>by rw [show i=k by omega];exact stop t
 | d+1,i,t+1,hi,ht=>by
  rw [step t i (by omega)]
  unfold fany fidx
  cases p i with
  | true=>rw [cond_true,Bool.true_or,cond_true,cond_true,Int.toNat_natCast]
  | false=>rw [cond_false,Bool.false_or,cond_false];exact scan K1 K0 L p k stop step d (i+1) t (by omega) (by omega)
theorem scanE (K1:Option ρ) (K0:Int→Option ρ) (L:Nat→Int→Option ρ) (e:Nat→Int) (k:Nat) (stop:∀ t,L (t+1) (k:Int)=K1) (step:∀ t (i:Nat),i<k→L (t+1) (i:Int)=bif e i != 0 then K0 (e i) else L t ((i+1:Nat):Int)) :
  ∀ (d i t:Nat),i+d=k→d<t→L t (i:Int)=bif firE e d i != 0 then K0 (firE e d i) else K1
 | 0,i,t+1,hi,ht=>by rw [show i=k by omega];exact stop t
 | d+1,i,t+1,hi,ht=>by
  rw [step t i (by omega)]
  unfold firE
  cases q:e i != 0 with
  | true=>rw [show (e i==0)=false by cases h:e i==0 with | false=>rfl | true=>simp_all,cond_false,q];rfl
  | false =>
   rw [show (e i==0)=true by cases h:e i==0 with | true=>rfl | false=>simp_all,cond_true,cond_false]
   exact scanE K1 K0 L e k stop step d (i+1) t (by omega) (by omega)
end
abbrev s2 (l:FF) (i:Nat):ByteArray:=CV.str (l i 1)
abbrev ts (l:FF) (i:Nat):Int:=CV.int (l i 2)
abbrev te (l:FF) (i:Nat):Int:=CV.int (l i 3)
def ovl (l:FF) (sc:ByteArray) (a b:Int) (j:Nat):Bool:=decide (s2 l j=sc)&&(decide (ts l j<b)&&decide (a<te l j))
def entE (jn:Nat) (jg:FF) (fr:Int) (n:Nat) (l:FF) (sb sc:ByteArray) (a b:Int):Int :=
 bif decide (nix jn jg sb<0) then 8
 else bif fany (fun j=>decide (sv l j=sb)) n 0 then 7
 else bif !hasB sc (strs (cn jg (nix jn jg sb).toNat) (ce jg (nix jn jg sb).toNat)) then 25
 else bif decide (a<fr) then 15
 else bif decide (a>1099511627776) then 15
 else bif b != w64 (a+hv jg (nix jn jg sb).toNat) then 17
 else bif fany (ovl l sc a b) n 0 then 19 else 0
section
variable (u : Nat) (jn : Nat) (jg : FF) (fr : Int) (n : Nat) (l : FF) (sb sc : ByteArray) (a b : Int)
theorem has349b (hn:n≤1000) (hu:4000≤u):F349b u n l (listF [(.s sb),(.s sc),(.i .i64 a),(.i .i64 b)])=some (fany (fun j=>decide (sv l j=sb)) n 0):=by
 unfold F349b F348b
 rw [show L348bv1 u n l (listF [(.s sb),(.s sc),(.i .i64 a),(.i .i64 b)]) (Int.ofNat n) u 0 (fun x=>some x) (some (-1))=_ from
  scan (some (-1)) (fun i=>some (i:Int)) (fun t x=>L348bv1 u n l (listF [(.s sb),(.s sc),(.i .i64 a),(.i .i64 b)]) (Int.ofNat n) t x (fun x=>some x) (some (-1))) (fun j=>decide (sv l j=sb)) n (fun t=>by
   show L348bv1 _ _ _ _ _ _ _ _ _=_
   unfold L348bv1;rw [lt_f,cond_false]) (fun t i hi=>by
   show L348bv1 _ _ _ _ _ _ _ _ _=_
   conv=>lhs;unfold L348bv1 F356
   rw [lt_t hi,cond_true,inb_n hi,cond_true,Int.toNat_natCast,ob_some,show CV.str (listF [(.s sb),(.s sc),(.i .i64 a),(.i .i64 b)] 0)=sb from rfl,tl_eq,w64_s (by omega)]) n 0 u (by omega) (by omega)]
 rw [← fidx_any]
 rcases fidx_cases (fun j=>decide (sv l j=sb)) n 0 with ⟨h1,_⟩ | ⟨j,_,_,h1,_,_⟩
 ·rw [h1];rfl
 ·rw [h1,decide_eq_true (show (j:Int)≥0 by omega),cond_true,ob_some,Int.toNat_natCast,decide_eq_true (show (j:Int)≥0 by omega)]
theorem has349c (hn:n≤1000) (hu:4000≤u):F349c u n l (listF [(.s sb),(.s sc),(.i .i64 a),(.i .i64 b)])=some (fany (ovl l sc a b) n 0):=by
 unfold F349c F348c
 rw [show L348cv1 u n l (listF [(.s sb),(.s sc),(.i .i64 a),(.i .i64 b)]) (Int.ofNat n) u 0 (fun x=>some x) (some (-1))=_ from
  scan (some (-1)) (fun i=>some (i:Int)) (fun t x=>L348cv1 u n l (listF [(.s sb),(.s sc),(.i .i64 a),(.i .i64 b)]) (Int.ofNat n) t x (fun x=>some x) (some (-1))) (ovl l sc a b) n (fun t=>by
   show L348cv1 _ _ _ _ _ _ _ _ _=_
   unfold L348cv1;rw [lt_f,cond_false]) (fun t i hi=>by
   show L348cv1 _ _ _ _ _ _ _ _ _=_
   conv=>lhs;unfold L348cv1 F357
   rw [lt_t hi,cond_true,inb_n hi,cond_true,Int.toNat_natCast,show CV.str (listF [(.s sb),(.s sc),(.i .i64 a),(.i .i64 b)] 1)=sc from rfl,show CV.int (listF [(.s sb),(.s sc),(.i .i64 a),(.i .i64 b)] 2)=a from rfl,show CV.int (listF [(.s sb),(.s sc),(.i .i64 a),(.i .i64 b)] 3)=b from rfl,tl_eq,w64_s (by omega)]
   show ob (bif decide (s2 l i=sc)==true then bif decide (a<te l i)==true then some (decide (ts l i<b)) else some false else some false) _=_
   unfold ovl
   cases decide (s2 l i=sc) with
   | false=>rfl
   | true =>
    cases decide (a<te l i) with
    | false=>cases decide (ts l i<b)<;>rfl
    | true=>cases decide (ts l i<b)<;>rfl) n 0 u (by omega) (by omega)]
 rw [← fidx_any]
 rcases fidx_cases (ovl l sc a b) n 0 with ⟨h1,_⟩ | ⟨j,_,_,h1,_,_⟩
 ·rw [h1];rfl
 ·rw [h1,decide_eq_true (show (j:Int)≥0 by omega),cond_true,ob_some,Int.toNat_natCast,decide_eq_true (show (j:Int)≥0 by omega)]
theorem nix_in {k:Nat} {g:FF} {s:ByteArray} (h:¬ nix k g s<0):inb (nix k g s) k=true∧(nix k g s).toNat<k∧nix k g s=((nix k g s).toNat:Int)∧sv g (nix k g s).toNat=s:=by
 rcases nix_cases k g s with ⟨h1,_⟩ | ⟨j,h1,h2,h3,_⟩
 ·omega
 ·rw [h2,Int.toNat_natCast];exact ⟨inb_n h1,h1,rfl,h3⟩
theorem ent358 (hj:jn≤1000) (hn:n≤1000) (hu:4000≤u) (hc:∀ i,i<jn→cn jg i≤1000) (h:Nat→CV) (h0:h 0=.ro false (.pr .str (.pr (.int .i64) (.pr (.sl (.pr .str .nil)) .nil))) jn jg) (h1:CV.int (h 1)=fr):F358 u h n l sb sc a b=some (entE jn jg fr n l sb sc a b):=by
 unfold F358 entE
 rw [job337 u jn jg sb (by omega) h h0 (by omega),ob_some]
 cases q:decide (nix jn jg sb<0) with
 | true=>rfl
 | false =>
  have q:=of_decide_eq_false q
  obtain ⟨i1,i2,i3,_⟩:=nix_in q
  rw [cond_false,cond_false,has349b u n l sb sc a b hn hu,ob_some,has349c u n l sb sc a b hn hu,h0,h1]
  cases fany (fun j=>decide (sv l j=sb)) n 0 with
  | true=>rfl
  | false =>
   rw [cond_false,cond_false,show CV.len (CV.ro false (.pr .str (.pr (.int .i64) (.pr (.sl (.pr .str .nil)) .nil))) jn jg)=jn from rfl,show CV.el (CV.ro false (.pr .str (.pr (.int .i64) (.pr (.sl (.pr .str .nil)) .nil))) jn jg)=jg from rfl,i1,cond_true]
   have:=hc _ i2
   rw [has257 u (CV.len (jg (nix jn jg sb).toNat 2)) _ sc (show cn jg (nix jn jg sb).toNat≤1000000 by omega) (show cn jg (nix jn jg sb).toNat<u by omega),ob_some]
   show (bif !hasB sc (strs (cn jg (nix jn jg sb).toNat) (ce jg (nix jn jg sb).toNat)) then _ else _)=_
   cases !hasB sc (strs (cn jg (nix jn jg sb).toNat) (ce jg (nix jn jg sb).toNat)) with
   | true=>rfl
   | false =>
    rw [eq_false_not]
    cases decide (a<fr) with
    | true=>rfl
    | false =>
     cases decide (a>1099511627776) with
     | true=>rfl
     | false =>
      cases b != w64 (a+hv jg (nix jn jg sb).toNat) with
      | true=>rfl
      | false=>cases fany (ovl l sc a b) n 0<;>rfl
theorem ent365 (hj:jn≤1000) (hn:n≤1000) (hu:4000≤u) (hc:∀ i,i<jn→cn jg i≤1000):F365 u jn jg fr n l sb sc a b=some (entE jn jg fr n l sb sc a b):=by
 unfold F365 entE
 rw [jobOf364 u jn jg sb (by omega) (by omega),ob_some]
 cases q:decide (nix jn jg sb<0) with
 | true=>rfl
 | false =>
  have q:=of_decide_eq_false q
  obtain ⟨i1,i2,i3,_⟩:=nix_in q
  have hl1:∀ (K0 K1:Option Int),L365v1 u jn jg fr n l (nix jn jg sb) sb sc a b u 0 K0 K1=bif fany (fun j=>decide (sv l j=sb)) n 0 then K0 else K1:=fun K0 K1 =>
   scan K1 (fun _=>K0) (fun t x=>L365v1 u jn jg fr n l (nix jn jg sb) sb sc a b t x K0 K1) (fun j=>decide (sv l j=sb)) n (fun t=>by
    show L365v1 _ _ _ _ _ _ _ _ _ _ _ _ _ _ _=_
    unfold L365v1;rw [lt_f,cond_false]) (fun t i hi=>by
    show L365v1 _ _ _ _ _ _ _ _ _ _ _ _ _ _ _=_
    conv=>lhs;unfold L365v1
    rw [lt_t hi,cond_true,inb_n hi,cond_true,Int.toNat_natCast,tl_eq,w64_s (by omega)]) n 0 u (by omega) (by omega)
  have hl2:∀ (K0 K1:Option Int),L365v2 u n l sb sc a b u 0 K0 K1=bif fany (ovl l sc a b) n 0 then K0 else K1:=fun K0 K1 =>
   scan K1 (fun _=>K0) (fun t x=>L365v2 u n l sb sc a b t x K0 K1) (ovl l sc a b) n (fun t=>by
    show L365v2 _ _ _ _ _ _ _ _ _ _ _=_
    unfold L365v2;rw [lt_f,cond_false]) (fun t i hi=>by
    show L365v2 _ _ _ _ _ _ _ _ _ _ _=_
    conv=>lhs;unfold L365v2
    rw [lt_t hi,cond_true,inb_n hi,cond_true,Int.toNat_natCast,tl_eq,w64_s (by omega)]
    unfold ovl
    show (bif decide (s2 l i=sc)==true then (bif true then (bif decide (ts l i<b)==true then (bif true then (bif decide (a<te l i) then K0 else _) else none) else _) else none) else _)=_
    cases decide (s2 l i=sc) with
    | false=>rfl
    | true =>
     cases decide (ts l i<b) with
     | false=>rfl
     | true=>cases decide (a<te l i)<;>rfl) n 0 u (by omega) (by omega)
  rw [cond_false,cond_false,hl1]
  cases fany (fun j=>decide (sv l j=sb)) n 0 with
  | true=>rfl
  | false =>
   have:=hc _ i2
   rw [cond_false,cond_false,i1,cond_true,find361 u (CV.len (jg (nix jn jg sb).toNat 2)) _ sc (show cn jg (nix jn jg sb).toNat≤1000000 by omega) (show cn jg (nix jn jg sb).toNat<u by omega),ob_some,nix_has]
   show (bif !hasB sc (strs (cn jg (nix jn jg sb).toNat) (ce jg (nix jn jg sb).toNat)) then _ else _)=_
   cases !hasB sc (strs (cn jg (nix jn jg sb).toNat) (ce jg (nix jn jg sb).toNat)) with
   | true=>rfl
   | false =>
    rw [eq_false_not]
    cases decide (a<fr) with
    | true=>rfl
    | false =>
     cases decide (a>1099511627776) with
     | true=>rfl
     | false =>
      cases b != w64 (a+hv jg (nix jn jg sb).toNat) with
      | true=>rfl
      | false=>rw [cond_false,cond_false,hl2];cases fany (ovl l sc a b) n 0<;>rfl
end
def enE (jn:Nat) (jg:FF) (fr:Int) (l:FF) (i:Nat):Int:=entE jn jg fr i l (sv l i) (s2 l i) (ts l i) (te l i)
def jx (jn:Nat) (jg:FF) (l:FF) (i:Nat):Nat:=(nix jn jg (sv l i)).toNat
def chkR (er:Int) (n jn:Nat) (ent:Nat→Int) (o:Bool):Int :=
 bif er != 0 then er else bif decide (Int.ofNat n>Int.ofNat jn) then 4 else bif firE ent n 0 != 0 then firE ent n 0 else bif decide (Int.ofNat n<Int.ofNat jn) then 3 else bif o then 11 else 0
theorem entE_zero {jn:Nat} {jg:FF} {fr:Int} {n:Nat} {l:FF} {sb sc:ByteArray} {a b:Int}:entE jn jg fr n l sb sc a b=0 ↔
  0≤nix jn jg sb∧(∀ j,j<n→sv l j≠sb)∧sc∈strs (cn jg (nix jn jg sb).toNat) (ce jg (nix jn jg sb).toNat)∧fr≤a∧a≤1099511627776∧b=w64 (a+hv jg (nix jn jg sb).toNat)∧∀ j,j<n→s2 l j=sc→ts l j<b→te l j≤a:=by
 unfold entE
 cases q1:decide (nix jn jg sb<0) with
 | true=>have:=of_decide_eq_true q1;exact ⟨fun h=>(by cases h),fun h=>by omega⟩
 | false =>
 have p1:=of_decide_eq_false q1
 cases q2:fany (fun j=>decide (sv l j=sb)) n 0 with
 | true =>
  obtain ⟨j,h1,h2⟩:=fany0.1 q2
  exact ⟨fun h=>(by cases h),fun h=>absurd (of_decide_eq_true h2) (h.2.1 j h1)⟩
 | false =>
 have p2:∀ j,j<n→sv l j≠sb:=fun j hj he=>by rw [fany0.2 ⟨j,hj,decide_eq_true he⟩] at q2;cases q2
 cases q3 : !hasB sc (strs (cn jg (nix jn jg sb).toNat) (ce jg (nix jn jg sb).toNat)) with
 | true=>exact ⟨fun h=>(by cases h),fun h=>by rw [hasB_iff.2 h.2.2.1] at q3;cases q3⟩
 | false =>
 have p3:sc∈strs (cn jg (nix jn jg sb).toNat) (ce jg (nix jn jg sb).toNat):=hasB_iff.1 (by simpa using q3)
 cases q4:decide (a<fr) with
 | true=>have:=of_decide_eq_true q4;exact ⟨fun h=>(by cases h),fun h=>by omega⟩
 | false =>
 have p4:=of_decide_eq_false q4
 cases q5:decide (a>1099511627776) with
 | true=>have:=of_decide_eq_true q5;exact ⟨fun h=>(by cases h),fun h=>by omega⟩
 | false =>
 have p5:=of_decide_eq_false q5
 cases q6:b != w64 (a+hv jg (nix jn jg sb).toNat) with
 | true =>
  have:b≠w64 (a+hv jg (nix jn jg sb).toNat):=by simpa using q6
  exact ⟨fun h=>(by cases h),fun h=>absurd h.2.2.2.2.2.1 this⟩
 | false =>
 have p6:b=w64 (a+hv jg (nix jn jg sb).toNat):=by simpa using q6
 cases q7:fany (ovl l sc a b) n 0 with
 | true =>
  obtain ⟨j,h1,h2⟩:=fany0.1 q7
  unfold ovl at h2
  rw [Bool.and_eq_true,Bool.and_eq_true] at h2
  exact ⟨fun h=>(by cases h),fun h=>by
   have:=h.2.2.2.2.2.2 j h1 (of_decide_eq_true h2.1) (of_decide_eq_true h2.2.1)
   have:=of_decide_eq_true h2.2.2
   omega⟩
 | false =>
  refine ⟨fun _=>⟨by omega,p2,p3,by omega,by omega,p6,fun j hj h1 h2=>?_⟩,fun _=>rfl⟩
  refine Classical.byContradiction fun h3=>?_
  rw [fany0.2 ⟨j,hj,by unfold ovl;rw [decide_eq_true h1,decide_eq_true h2,decide_eq_true (by omega)];rfl⟩] at q7
  cases q7
section
variable {u : Nat} {s : ByteArray} {a1 : Nat} {f1 : FF} {a2 : Nat} {f2 : FF} {a3 : Nat} {f3 : FF} {a4 : Nat} {f4 : FF} {m : Nat} {f : FF} {jn : Nat} {jg : FF} {nb : Nat} {bg : FF} {ke : Nat} {ge ge' : FF} {k : Nat} {g : FF} {c e : Int}
def bB (bf:FF) (i j:Nat):Bool:=bv (CV.el (bf i 0)) j
theorem Rows.eq {n:Nat} {b1 b2:FF} {P:Nat→Nat→Prop} (h1:Rows n b1 P) (h2:Rows n b2 P) {i j:Nat} (hi:i<n) (hj:j<n):bB b1 i j=bB b2 i j:=by
 have e1:=(h1 i hi).2 j hj
 have e2:=(h2 i hi).2 j hj
 unfold bB
 cases q1:bv (CV.el (b1 i 0)) j with
 | true=>exact (e2.2 (e1.1 q1)).symm
 | false =>
  cases q2:bv (CV.el (b2 i 0)) j with
  | false=>rfl
  | true=>rw [e1.2 (e2.1 q2)] at q1;cases q1
def ordB (bf:FF) (jn:Nat) (jg:FF) (n:Nat) (l:FF):Bool:=fany (fun i=>fany (fun q=>bB bf (jx jn jg l i) (jx jn jg l q)&&decide (te l i>ts l q)) n 0) n 0
theorem ord359 (hu:4000≤u) (hj:jn≤1000) (fr:Int) (bf:FF) (hb:∀ i,i<jn→CV.len (bf i 0)=jn) (on:Nat) (of:FF) (n:Nat) (l:FF) (hn:n≤1000) (hl:∀ i,i<n→¬ nix jn jg (sv l i)<0) (K0 K1:Option Int) :
  L359v8 u n l jn jg fr jn bf on of (Int.ofNat n) u 0 K0 K1=bif ordB bf jn jg n l then K0 else K1:=by
 refine scan K1 (fun _=>K0) (fun t x=>L359v8 u n l jn jg fr jn bf on of (Int.ofNat n) t x K0 K1) _ n (fun t=>by
  show L359v8 _ _ _ _ _ _ _ _ _ _ _ _ _ _ _=_
  unfold L359v8;rw [lt_f,cond_false]) (fun t i hi=>?_) n 0 u (by omega) (by omega)
 show L359v8 _ _ _ _ _ _ _ _ _ _ _ _ _ _ _=_
 conv=>lhs;unfold L359v8
 rw [lt_t hi,cond_true,inb_n hi,cond_true,Int.toNat_natCast,w64_s (by omega)]
 obtain ⟨a1,a2,a3,_⟩:=nix_in (hl i hi)
 refine scan _ (fun _=>K0) (fun t x=>L359v7 u n l jn jg fr jn bf on of (Int.ofNat n) (i:Int) (Int.ofNat n) (CV.str (l i 0)) (CV.str (l i 1)) (CV.int (l i 2)) (CV.int (l i 3)) t x K0 _) (fun q=>bB bf (jx jn jg l i) (jx jn jg l q)&&decide (te l i>ts l q)) n (fun t=>by
  show L359v7 _ _ _ _ _ _ _ _ _ _ _ _ _ _ _ _ _ _ _ _ _=_
  unfold L359v7;rw [lt_f,cond_false]) (fun t q hq=>?_) n 0 u (by omega) (by omega)
 obtain ⟨b1,b2,b3,_⟩:=nix_in (hl q hq)
 show L359v7 _ _ _ _ _ _ _ _ _ _ _ _ _ _ _ _ _ _ _ _ _=_
 conv=>lhs;unfold L359v7
 rw [lt_t hq,cond_true,inb_n hq,cond_true,job337 u jn jg (CV.str (l i 0)) (by omega) _ rfl (by omega),ob_some,a1,cond_true,Int.toNat_natCast,job337 u jn jg (CV.str (l q 0)) (by omega) _ rfl (by omega),ob_some,hb _ a2,b1,cond_true,w64_s (by omega)]
 show (bif bB bf (jx jn jg l i) (jx jn jg l q)==true then bif decide (te l i>ts l q) then K0 else _ else _)=_
 cases bB bf (jx jn jg l i) (jx jn jg l q) with
 | false=>rfl
 | true=>cases decide (te l i>ts l q)<;>rfl
theorem ord367 (hu:4000≤u) (hj:jn≤1000) (bf:FF) (hb:∀ i,i<jn→CV.len (bf i 0)=jn) (n:Nat) (l:FF) (hn:n≤1000) (hl:∀ i,i<n→¬ nix jn jg (sv l i)<0) (K0 K1:Option Int) :
  L367v4 u jn jg n l jn bf s a1 f1 a2 f2 a3 f3 a4 f4 m f u 0 K0 K1=bif ordB bf jn jg n l then K0 else K1:=by
 refine scan K1 (fun _=>K0) (fun t x=>L367v4 u jn jg n l jn bf s a1 f1 a2 f2 a3 f3 a4 f4 m f t x K0 K1) _ n (fun t=>by
  show L367v4 _ _ _ _ _ _ _ _ _ _ _ _ _ _ _ _ _ _ _ _ _ _=_
  unfold L367v4;rw [lt_f,cond_false]) (fun t i hi=>?_) n 0 u (by omega) (by omega)
 show L367v4 _ _ _ _ _ _ _ _ _ _ _ _ _ _ _ _ _ _ _ _ _ _=_
 conv=>lhs;unfold L367v4
 rw [lt_t hi,cond_true,w64_s (by omega)]
 obtain ⟨a1',a2',a3',_⟩:=nix_in (hl i hi)
 refine scan _ (fun _=>K0) (fun t x=>L367v3 u jn jg n l jn bf (i:Int) s a1 f1 a2 f2 a3 f3 a4 f4 m f t x K0 _) (fun q=>bB bf (jx jn jg l i) (jx jn jg l q)&&decide (te l i>ts l q)) n (fun t=>by
  show L367v3 _ _ _ _ _ _ _ _ _ _ _ _ _ _ _ _ _ _ _ _ _ _ _=_
  unfold L367v3;rw [lt_f,cond_false]) (fun t q hq=>?_) n 0 u (by omega) (by omega)
 obtain ⟨b1',b2',b3',_⟩:=nix_in (hl q hq)
 show L367v3 _ _ _ _ _ _ _ _ _ _ _ _ _ _ _ _ _ _ _ _ _ _ _=_
 conv=>lhs;unfold L367v3
 rw [lt_t hq,cond_true,inb_n hi,cond_true,Int.toNat_natCast,jobOf364 u jn jg (CV.str (l i 0)) (by omega) (by omega),ob_some,a1',cond_true,inb_n hq,cond_true,Int.toNat_natCast,jobOf364 u jn jg (CV.str (l q 0)) (by omega) (by omega),ob_some,hb _ a2',b1',cond_true,cond_true,cond_true,w64_s (by omega)]
 show (bif bB bf (jx jn jg l i) (jx jn jg l q)==true then bif decide (te l i>ts l q) then K0 else _ else _)=_
 cases bB bf (jx jn jg l i) (jx jn jg l q) with
 | false=>rfl
 | true=>cases decide (te l i>ts l q)<;>rfl
theorem JOut.check (h:JOut u s a1 f1 a2 f2 a3 f3 a4 f4 m f jn jg nb bg ke ge ge' k g c e) (ha:a1≤30) (hj:jn≤100) (hu:4000≤u) (fr:Int) (n:Nat) (l:FF) (hn:n≤1000) :
  ∃ o:Bool,F359 u s a1 f1 a2 f2 a3 f3 a4 f4 m f jn jg fr n l=some (chkR (errR e fr) n jn (enE jn jg fr l) o)∧F367 u s a1 f1 a2 f2 a3 f3 a4 f4 m f jn jg fr n l=some (chkR (errR e fr) n jn (enE jn jg fr l) o) ∧
   (errR e fr=0→firE (enE jn jg fr l) n 0=0→(o=true↔∃ i q,i<n∧q<n∧Path ke ge (bix nb bg jg (jx jn jg l i)) (bix nb bg jg (jx jn jg l q))∧te l i>ts l q)):=by
 cases q:errR e fr != 0 with
 | true =>
  have hne:errR e fr≠0:=by simpa using q
  have e1:=(h.hall340 ha hj hu fr).1 hne
  refine ⟨false,?_,?_,fun h0=>absurd h0 hne⟩
  ·unfold F359 chkR
   rw [e1,ob_some]
   dsimp only
   rw [cond_true,q,cond_true];rfl
  ·unfold F367 chkR
   rw [h.right363,ob_some,q,cond_true];rfl
 | false =>
  have he:errR e fr=0:=by simpa using q
  obtain ⟨e0,t1,t2⟩:=errR_zero.1 he
  obtain ⟨hj64,hc,hJ⟩:=h.ok e0
  obtain ⟨hA,_⟩:=h.acyc (by omega) hc
  obtain ⟨bf,on,of,e1,hH⟩:=(h.hall340 ha hj hu fr).2 he
  have hle:=h.ord.le
  have hcn:∀ i,i<jn→cn jg i≤1000:=fun i hi=>by have:=(hJ i hi).c2;omega
  obtain ⟨bf',e2,hR⟩:=before366 u s a1 f1 a2 f2 a3 f3 a4 f4 m f jn jg nb bg ke ge' (by omega) hj hu (by have:=h.kele ha;omega) h.ord.bl h.ord.e2 (h.ord.ends.good hA.2.1) hJ
  have hR' : Rows jn bf' fun i j=>Path ke ge (bix nb bg jg i) (bix nb bg jg j):=fun i hi=>⟨(hR i hi).1,fun j hj=>((hR i hi).2 j hj).trans (h.ord.ends.path _ _).symm⟩
  have k1:∀ (K1:Option Int),L359v5 u jn jg n l jn jg fr jn bf on of (Int.ofNat n) u 0 (fun x75=>(some x75)) K1=bif firE (enE jn jg fr l) n 0 != 0 then some (firE (enE jn jg fr l) n 0) else K1:=fun K1 =>
   scanE K1 (fun x=>some x) (fun t x=>L359v5 u jn jg n l jn jg fr jn bf on of (Int.ofNat n) t x (fun x75=>(some x75)) K1) (enE jn jg fr l) n (fun t=>by
    show L359v5 _ _ _ _ _ _ _ _ _ _ _ _ _ _ _ _ _=_
    unfold L359v5;rw [lt_f,cond_false]) (fun t i hi=>by
    show L359v5 _ _ _ _ _ _ _ _ _ _ _ _ _ _ _ _ _=_
    conv=>lhs;unfold L359v5
    rw [lt_t hi,cond_true,inb_n hi,cond_true,show inbe (i:Int) n=true from inbe_n hi,cond_true,Int.toNat_natCast,Nat.sub_zero,ent358 u jn jg fr i l _ _ _ _ (by omega) (by omega) hu hcn _ rfl rfl,ob_some,w64_s (by omega)];rfl) n 0 u (by omega) (by omega)
  have k2:∀ (K1:Option Int),L367v1 u jn jg fr n l s a1 f1 a2 f2 a3 f3 a4 f4 m f u 0 (fun x75=>(some x75)) K1=bif firE (enE jn jg fr l) n 0 != 0 then some (firE (enE jn jg fr l) n 0) else K1:=fun K1 =>
   scanE K1 (fun x=>some x) (fun t x=>L367v1 u jn jg fr n l s a1 f1 a2 f2 a3 f3 a4 f4 m f t x (fun x75=>(some x75)) K1) (enE jn jg fr l) n (fun t=>by
    show L367v1 _ _ _ _ _ _ _ _ _ _ _ _ _ _ _ _ _ _ _ _ _=_
    unfold L367v1;rw [lt_f,cond_false]) (fun t i hi=>by
    show L367v1 _ _ _ _ _ _ _ _ _ _ _ _ _ _ _ _ _ _ _ _ _=_
    conv=>lhs;unfold L367v1
    rw [lt_t hi,cond_true,show inbe (i:Int) n=true from inbe_n hi,cond_true,inb_n hi,cond_true,Int.toNat_natCast,Nat.sub_zero,ent365 u jn jg fr i l _ _ _ _ (by omega) (by omega) hu hcn,ob_some,w64_s (by omega)];rfl) n 0 u (by omega) (by omega)
  have hin:firE (enE jn jg fr l) n 0=0→∀ i,i<n→¬ nix jn jg (sv l i)<0:=fun hz i hi=>by
   have:=(entE_zero.1 (firE_zero hz i (Nat.zero_le _) (by omega))).1
   omega
  have hjx:firE (enE jn jg fr l) n 0=0→∀ i,i<n→jx jn jg l i<jn:=fun hz i hi=>(nix_in (hin hz i hi)).2.1
  refine ⟨ordB bf jn jg n l,?_,?_,fun _ hz=>?_⟩
  ·unfold F359 chkR
   rw [e1,ob_some,q]
   dsimp only
   rw [cond_false,cond_false,k1]
   cases decide (Int.ofNat n>Int.ofNat jn) with
   | true=>rfl
   | false =>
    cases qz:firE (enE jn jg fr l) n 0 != 0 with
    | true=>rfl
    | false =>
     have hz:firE (enE jn jg fr l) n 0=0:=by simpa using qz
     rw [cond_false,cond_false,cond_false,cond_false,ord359 hu (by omega) fr bf (fun i hi=>(hH.rows i hi).1) on of n l hn (hin hz)]
     cases decide (Int.ofNat n<Int.ofNat jn) with
     | true=>rfl
     | false=>cases ordB bf jn jg n l<;>rfl
  ·unfold F367 chkR
   rw [h.right363,ob_some,q,cond_false,cond_false,k2,e2,ob_some]
   dsimp only
   cases decide (Int.ofNat n>Int.ofNat jn) with
   | true=>rfl
   | false =>
    cases qz:firE (enE jn jg fr l) n 0 != 0 with
    | true=>rfl
    | false =>
     have hz:firE (enE jn jg fr l) n 0=0:=by simpa using qz
     rw [cond_false,cond_false,cond_false,cond_false,ord367 hu (by omega) bf' (fun i hi=>(hR i hi).1) n l hn (hin hz)]
     have:ordB bf' jn jg n l=ordB bf jn jg n l:=by
      unfold ordB
      exact fany_congr fun i _ hi=>fany_congr fun q _ hq=>by rw [Rows.eq hR' hH.rows (hjx hz i (by omega)) (hjx hz q (by omega))]
     rw [this]
     cases decide (Int.ofNat n<Int.ofNat jn) with
     | true=>rfl
     | false=>cases ordB bf jn jg n l<;>rfl
  ·unfold ordB
   rw [fany0]
   constructor
   ·rintro ⟨i,hi,hx⟩
    obtain ⟨q,hq,hx⟩:=fany0.1 hx
    rw [Bool.and_eq_true] at hx
    exact ⟨i,q,hi,hq,((hH.rows _ (hjx hz i hi)).2 _ (hjx hz q hq)).1 hx.1,of_decide_eq_true hx.2⟩
   ·rintro ⟨i,q,hi,hq,h1,h2⟩
    exact ⟨i,hi,fany0.2 ⟨q,hq,by rw [show bB bf (jx jn jg l i) (jx jn jg l q)=true from ((hH.rows _ (hjx hz i hi)).2 _ (hjx hz q hq)).2 h1,decide_eq_true h2];rfl⟩⟩
end
end Go.Eng.R13
/-
 sched: End,and what is few.
-/
set_option linter.all false
namespace Go.Eng.R13
open Go Go.RowKit Go.Eng
section
variable {ρ : Type} (u n : Nat) (l : FF)
end
theorem l330 {ρ:Type} (u:Nat) (s:ByteArray) (a1:Nat) (f1:FF) (a2:Nat) (f2:FF) (a3:Nat) (f3:FF) (a4:Nat) (f4:FF) (m:Nat) (f:FF) (jn:Nat) (jg:FF) (k0 k1:Option ρ) :
  ∀ (d i t:Nat),i+d=71→d<t→L330v1 u jn jg s a1 f1 a2 f2 a3 f3 a4 f4 m f t (i:Int) k0 k1=k0∨L330v1 u jn jg s a1 f1 a2 f2 a3 f3 a4 f4 m f t (i:Int) k0 k1=k1
 | 0,i,t+1,hi,ht=>by
  right
  unfold L330v1
  rw [show decide ((i:Int)<71)=false from decide_eq_false (by omega),cond_false]
  cases decide ((i:Int)<Int.ofNat jn)<;>rfl
 | d+1,i,t+1,hi,ht=>by
  unfold L330v1
  by_cases h:i<jn
  ·rw [lt_t h,show (true==true)=true from rfl,cond_true,show decide ((i:Int)<71)=true from decide_eq_true (by omega),cond_true,inb_n h,cond_true,w64_s (by omega)]
   cases decide (Int.ofNat (CV.len (jg (Int.toNat (i:Int)) 2))>10) with
   | true=>exact .inl rfl
   | false=>rw [cond_false];exact l330 u s a1 f1 a2 f2 a3 f3 a4 f4 m f jn jg k0 k1 d (i+1) t (by omega) (by omega)
  ·rw [show decide ((i:Int)<Int.ofNat jn)=false from decide_eq_false (by simp only [Int.ofNat_eq_natCast];omega)]
   exact .inr rfl
theorem few330 (u:Nat) (s:ByteArray) (a1:Nat) (f1:FF) (a2:Nat) (f2:FF) (a3:Nat) (f3:FF) (a4:Nat) (f4:FF) (m:Nat) (f:FF) (jn:Nat) (jg:FF) (hu:4000≤u) :
  ∃ b,F330 u s a1 f1 a2 f2 a3 f3 a4 f4 m f jn jg=some b∧(b=true→a1≤30∧m≤60∧jn≤70):=by
 unfold F330
 rcases l330 u s a1 f1 a2 f2 a3 f3 a4 f4 m f jn jg (some false) (bif ((decide ((Int.ofNat a1)≤30))==true) then (bif ((decide ((Int.ofNat m)≤60))==true) then (some (decide ((Int.ofNat jn)≤70))) else (some false)) else (some false)) 71 0 u (by omega) (by omega) with h | h
 ·exact ⟨false,h,fun h=>by cases h⟩
 ·rw [show ((0:Nat):Int)=0 from rfl] at h
  rw [h]
  cases q1:decide ((Int.ofNat a1)≤30) with
  | false=>exact ⟨false,rfl,fun h=>by cases h⟩
  | true =>
   cases q2:decide ((Int.ofNat m)≤60) with
   | false=>exact ⟨false,rfl,fun h=>by cases h⟩
   | true =>
    refine ⟨_,rfl,fun h=>?_⟩
    have q1:=of_decide_eq_true q1
    have q2:=of_decide_eq_true q2
    have q3:=of_decide_eq_true h
    simp only [Int.ofNat_eq_natCast] at q1 q2 q3
    exact ⟨by omega,by omega,by omega⟩
end Go.Eng.R13
/-
 sched: what Check accepts,without an order of the entries.
-/
set_option linter.all false
namespace Go.Eng.R13
open Go Go.RowKit Go.Eng
theorem firE_all {e:Nat→Int}:∀ {d i:Nat},(∀ j,i≤j→j<i+d→e j=0)→firE e d i=0
 | 0,i,_=>rfl
 | d+1,i,h=>by
  unfold firE
  rw [h i (Nat.le_refl _) (by omega)]
  exact firE_all fun j h1 h2=>h j (by omega) (by omega)
structure Solo (jn:Nat) (jg:FF) (fr:Int) (l:FF) (i:Nat):Prop where
 ix:0≤nix jn jg (sv l i)
 cr:s2 l i∈strs (cn jg (jx jn jg l i)) (ce jg (jx jn jg l i))
 t1:fr≤ts l i
 t2:ts l i≤1099511627776
 t3:te l i=w64 (ts l i+hv jg (jx jn jg l i))
def Two (l:FF) (i j:Nat):Prop:=sv l j≠sv l i∧(s2 l j=s2 l i→ts l j<te l i→te l j≤ts l i)
theorem Two.symm {l:FF} {i j:Nat} (h:Two l i j):Two l j i:=⟨fun e=>h.1 e.symm,fun e h1=>Classical.byContradiction fun h2=>by
 have:=h.2 e.symm (by omega)
 omega⟩
theorem fine_iff {jn:Nat} {jg:FF} {fr:Int} {n:Nat} {l:FF}:firE (enE jn jg fr l) n 0=0↔(∀ i,i<n→Solo jn jg fr l i)∧∀ i j,i<n→j<n→i≠j→Two l i j:=by
 constructor
 ·intro h
  have h' : ∀ i,i<n→_:=fun i hi=>entE_zero.1 (firE_zero h i (Nat.zero_le _) (by omega))
  have hT:∀ i j,i<n→j<i→Two l i j:=fun i j hi hj=>⟨(h' i hi).2.1 j hj,(h' i hi).2.2.2.2.2.2 j hj⟩
  refine ⟨fun i hi=>⟨(h' i hi).1,(h' i hi).2.2.1,(h' i hi).2.2.2.1,(h' i hi).2.2.2.2.1,(h' i hi).2.2.2.2.2.1⟩,fun i j hi hj hne=>?_⟩
  by_cases q:j<i
  ·exact hT i j hi q
  ·exact (hT j i hj (by omega)).symm
 ·rintro ⟨h1,h2⟩
  exact firE_all fun i _ hi=>entE_zero.2 ⟨(h1 i (by omega)).ix,fun j hj=>(h2 i j (by omega) (by omega) (by omega)).1,(h1 i (by omega)).cr,(h1 i (by omega)).t1,(h1 i (by omega)).t2,(h1 i (by omega)).t3,fun j hj=>(h2 i j (by omega) (by omega) (by omega)).2⟩
structure Valid (jn:Nat) (jg:FF) (fr:Int) (n:Nat) (l:FF) (P:Nat→Nat→Prop):Prop where
 len:n=jn
 solo:∀ i,i<n→Solo jn jg fr l i
 two:∀ i j,i<n→j<n→i≠j→Two l i j
 ord:∀ i q,i<n→q<n→P (jx jn jg l i) (jx jn jg l q)→te l i≤ts l q
def PB (ke:Nat) (ge:FF) (nb:Nat) (bg jg:FF) (i j:Nat):Prop:=Path ke ge (bix nb bg jg i) (bix nb bg jg j)
theorem jx_eq {jn:Nat} {jg:FF} {l:FF} {i:Nat} (h:0≤nix jn jg (sv l i)):jx jn jg l i<jn∧sv jg (jx jn jg l i)=sv l i:=by
 obtain ⟨_,h1,_,h2⟩:=nix_in (show ¬ nix jn jg (sv l i)<0 by omega)
 exact ⟨h1,h2⟩
theorem Valid.perm {jn:Nat} {jg:FF} {fr:Int} {n:Nat} {l l' : FF} {P:Nat→Nat→Prop} (h:Valid jn jg fr n l P) (σ:Nat→Nat) (h1:∀ j,j<n→σ j<n) (h2:∀ i j,i<n→j<n→σ i=σ j→i=j) (h3:∀ j,j<n→l' j=l (σ j)):Valid jn jg fr n l' P:=by
 have e0:∀ j,j<n→sv l' j=sv l (σ j):=fun j hj=>by unfold sv;rw [h3 j hj]
 have e1:∀ j,j<n→s2 l' j=s2 l (σ j):=fun j hj=>by unfold s2;rw [h3 j hj]
 have e2:∀ j,j<n→ts l' j=ts l (σ j):=fun j hj=>by unfold ts;rw [h3 j hj]
 have e3:∀ j,j<n→te l' j=te l (σ j):=fun j hj=>by unfold te;rw [h3 j hj]
 have e4:∀ j,j<n→jx jn jg l' j=jx jn jg l (σ j):=fun j hj=>by unfold jx;rw [e0 j hj]
 refine ⟨h.len,fun i hi=>?_,fun i j hi hj hne=>?_,fun i q hi hq hP=>?_⟩
 ·have:=h.solo _ (h1 i hi)
  exact ⟨by rw [e0 i hi];exact this.ix,by rw [e1 i hi,e4 i hi];exact this.cr,by rw [e2 i hi];exact this.t1,by rw [e2 i hi];exact this.t2,by rw [e3 i hi,e2 i hi,e4 i hi];exact this.t3⟩
 ·have:=h.two _ _ (h1 i hi) (h1 j hj) (fun e=>hne (h2 i j hi hj e))
  unfold Two
  rw [e0 i hi,e0 j hj,e1 i hi,e1 j hj,e2 i hi,e2 j hj,e3 i hi,e3 j hj]
  exact this
 ·rw [e4 i hi,e4 q hq] at hP
  rw [e3 i hi,e2 q hq]
  exact h.ord _ _ (h1 i hi) (h1 q hq) hP
section
variable {u : Nat} {s : ByteArray} {a1 : Nat} {f1 : FF} {a2 : Nat} {f2 : FF} {a3 : Nat} {f3 : FF} {a4 : Nat} {f4 : FF} {m : Nat} {f : FF} {jn : Nat} {jg : FF} {nb : Nat} {bg : FF} {ke : Nat} {ge ge' : FF} {k : Nat} {g : FF} {c e : Int}
theorem JOut.valid (h:JOut u s a1 f1 a2 f2 a3 f3 a4 f4 m f jn jg nb bg ke ge ge' k g c e) (ha:a1≤30) (hj:jn≤100) (hu:4000≤u) (fr:Int) (n:Nat) (l:FF) (hn:n≤1000) :
  ∃ r,F359 u s a1 f1 a2 f2 a3 f3 a4 f4 m f jn jg fr n l=some r∧(r=0↔errR e fr=0∧Valid jn jg fr n l (PB ke ge nb bg jg))∧(errR e fr≠0→r=errR e fr) ∧
   (errR e fr=0→n=jn→(∀ i,i<n→Solo jn jg fr l i)→(∀ i j,i<n→j<n→i≠j→Two l i j)→r=0∨r=11):=by
 obtain ⟨o,c1,_,c3⟩:=h.check ha hj hu fr n l hn
 refine ⟨_,c1,⟨fun hz=>?_,fun ⟨h1,h2⟩=>?_⟩,fun hne=>?_,fun h1 h2 h3 h4=>?_⟩
 ·unfold chkR at hz
  cases q1:errR e fr != 0 with
  | true=>rw [q1,cond_true] at hz;rw [hz] at q1;cases q1
  | false =>
   have h0:errR e fr=0:=by simpa using q1
   rw [q1,cond_false] at hz
   cases q2:decide (Int.ofNat n>Int.ofNat jn) with
   | true=>rw [q2] at hz;cases hz
   | false =>
    rw [q2,cond_false] at hz
    cases q3:firE (enE jn jg fr l) n 0 != 0 with
    | true=>rw [q3,cond_true] at hz;rw [hz] at q3;cases q3
    | false =>
     have hf:firE (enE jn jg fr l) n 0=0:=by simpa using q3
     rw [q3,cond_false] at hz
     cases q4:decide (Int.ofNat n<Int.ofNat jn) with
     | true=>rw [q4] at hz;cases hz
     | false =>
      rw [q4,cond_false] at hz
      have hn:n=jn:=by
       have:=of_decide_eq_false q2
       have:=of_decide_eq_false q4
       simp only [Int.ofNat_eq_natCast] at *
       omega
      cases q5:o with
      | true=>rw [q5] at hz;cases hz
      | false =>
       refine ⟨h0,hn,(fine_iff.1 hf).1,(fine_iff.1 hf).2,fun i q hi hq hP=>?_⟩
       refine Classical.byContradiction fun hlt=>?_
       rw [(c3 h0 hf).2 ⟨i,q,hi,hq,hP,by omega⟩] at q5
       cases q5
 ·have hf:firE (enE jn jg fr l) n 0=0:=fine_iff.2 ⟨h2.solo,h2.two⟩
  have ho:o=false:=by
   cases q:o with
   | false=>rfl
   | true =>
    obtain ⟨i,q,hi,hq,hP,hlt⟩:=(c3 h1 hf).1 q
    have:=h2.ord i q hi hq hP
    omega
  unfold chkR
  rw [h1,hf,ho,decide_eq_false (show ¬ Int.ofNat n>Int.ofNat jn by rw [h2.len];omega),decide_eq_false (show ¬ Int.ofNat n<Int.ofNat jn by rw [h2.len];omega)];rfl
 ·unfold chkR
  rw [show (errR e fr != 0)=true by simpa using hne];rfl
 ·have hf:firE (enE jn jg fr l) n 0=0:=fine_iff.2 ⟨h3,h4⟩
  unfold chkR
  rw [h1,hf,decide_eq_false (show ¬ Int.ofNat n>Int.ofNat jn by rw [h2];omega),decide_eq_false (show ¬ Int.ofNat n<Int.ofNat jn by rw [h2];omega)]
  cases o
  ·exact .inl rfl
  ·exact .inr rfl
theorem right380 (hu:4000≤u) (s:ByteArray) (a1:Nat) (f1:FF) (a2:Nat) (f2:FF) (a3:Nat) (f3:FF) (a4:Nat) (f4:FF) (m:Nat) (f:FF) (jn:Nat) (jg:FF) (fr:Int) :
  ∃ b,F380 u s a1 f1 a2 f2 a3 f3 a4 f4 m f jn jg fr=some b∧(b=true→a1≤30∧m≤60∧jn≤70∧0≤fr∧fr≤1048576∧∃ nb bg ke ge ge' k g c,JOut u s a1 f1 a2 f2 a3 f3 a4 f4 m f jn jg nb bg ke ge ge' k g c 0):=by
 obtain ⟨b,e,hb⟩:=few330 u s a1 f1 a2 f2 a3 f3 a4 f4 m f jn jg hu
 unfold F380
 rw [e,ob_some]
 cases b with
 | false=>exact ⟨false,rfl,fun h=>by cases h⟩
 | true =>
  obtain ⟨h1,h2,h3⟩:=hb rfl
  obtain ⟨nb,bg,ke,ge,ge',k,g,c,er,h⟩:=jobs333 u s a1 f1 a2 f2 a3 f3 a4 f4 m f jn jg (by omega) (by omega) (by omega) hu
  rw [show (true==true)=true from rfl,cond_true,h.j2,ob_some]
  cases q:er==0 with
  | false=>exact ⟨false,rfl,fun h=>by cases h⟩
  | true =>
   have he:er=0:=by simpa using q
   subst he
   cases q1:decide (fr≥0) with
   | false=>exact ⟨false,rfl,fun h=>by cases h⟩
   | true =>
    exact ⟨_,rfl,fun hd=>⟨h1,h2,h3,of_decide_eq_true q1,of_decide_eq_true hd,nb,bg,ke,ge,ge',k,g,c,h⟩⟩
end
end Go.Eng.R13
/-
 Edges between places of names,and paths along them.
-/
set_option linter.all false
namespace Go.Eng.R13
open Go Go.RowKit Go.Eng
theorem ed_prs {k:Nat} {g:FF} {x y:Nat}:Ed k g x y↔((x:Int),(y:Int))∈prs k g:=by
 unfold Ed prs
 rw [List.mem_map]
 constructor
 ·rintro ⟨i,h1,h2,h3⟩;exact ⟨i,List.mem_range.2 h1,by rw [h2,h3]⟩
 ·rintro ⟨i,h1,h2⟩
  have e1:=congrArg Prod.fst h2
  have e2:=congrArg Prod.snd h2
  exact ⟨i,List.mem_range.1 h1,e1,e2⟩
theorem ed_iff {k:Nat} {g:FF} {m:Nat} {f:FF} {B:Nat→ByteArray} {nb:Nat} (h:prs k g=edgesL m f B nb (List.range nb)) (x y:Nat):Ed k g x y↔x<nb∧y<nb∧x≠y∧comes m f (B x) (B y)=true:=by
 rw [ed_prs,h,mem_edges]
 constructor
 ·rintro ⟨a,b,h1,h2,h3,h4,h5⟩
  have e1:(x:Int)=(a:Int):=congrArg Prod.fst h4
  have e2:(y:Int)=(b:Int):=congrArg Prod.snd h4
  have e1:x=a:=by omega
  have e2:y=b:=by omega
  subst e1;subst e2
  exact ⟨h1,h2,h3,h5⟩
 ·rintro ⟨h1,h2,h3,h5⟩
  exact ⟨x,y,h1,h2,h3,rfl,h5⟩
theorem good_edges {k:Nat} {g:FF} {m:Nat} {f:FF} {B:Nat→ByteArray} {nb:Nat} (h:prs k g=edgesL m f B nb (List.range nb)):Good (nb:Int) k g:=fun i hi=>by
 have hm:(ea g i,eb g i)∈edgesL m f B nb (List.range nb):=by
  rw [← h];unfold prs;exact List.mem_map.2 ⟨i,List.mem_range.2 hi,rfl⟩
 obtain ⟨a,b,h1,h2,h3,h4,_⟩:=mem_edges.1 hm
 have e1:ea g i=(a:Int):=congrArg Prod.fst h4
 have e2:eb g i=(b:Int):=congrArg Prod.snd h4
 rw [e1,e2]
 exact ⟨by omega,by omega,by omega,by omega,by omega⟩
section
variable {k : Nat} {g : FF} {nb : Nat} {B : Nat → ByteArray} {C : ByteArray → ByteArray → Bool}
theorem path_src (hE:∀ x y,Ed k g x y↔x<nb∧y<nb∧x≠y∧C (B x) (B y)=true) (hI:∀ x,x<nb→¬ Path k g x x) {x x0 y:Nat} (h0:x0<nb) (hn:B x=B x0) (h:Path k g x y):Path k g x0 y:=by
 by_cases q:x=x0
 ·rw [← q];exact h
 ·obtain ⟨w,h1,h2⟩:=path_first.1 h
  obtain ⟨e1,e2,e3,e4⟩:=(hE x w).1 h1
  by_cases hw:w=x0
  ·subst hw
   have a1:Ed k g w x:=(hE w x).2 ⟨e2,e1,fun e=>e3 e.symm,by rw [hn] at e4 ⊢;exact e4⟩
   exact absurd (Path.snoc (.one a1) h1) (hI w h0)
  ·exact path_first.2 ⟨w,(hE x0 w).2 ⟨h0,e2,fun e=>hw e.symm,by rw [← hn];exact e4⟩,h2⟩
theorem path_dst (hE:∀ x y,Ed k g x y↔x<nb∧y<nb∧x≠y∧C (B x) (B y)=true) (hI:∀ x,x<nb→¬ Path k g x x) {x y y0:Nat} (h0:y0<nb) (hn:B y=B y0) (h:Path k g x y):Path k g x y0:=by
 by_cases q:y=y0
 ·rw [← q];exact h
 ·have edge:∀ c,Ed k g c y→Ed k g c y0:=fun c h1=>by
   obtain ⟨e1,e2,e3,e4⟩:=(hE c y).1 h1
   by_cases hc:c=y0
   ·subst hc
    have a1:Ed k g y c:=(hE y c).2 ⟨e2,e1,fun e=>e3 e.symm,by rw [hn] at e4 ⊢;exact e4⟩
    exact absurd (Path.snoc (.one a1) h1) (hI y e2)
   ·exact (hE c y0).2 ⟨e1,h0,hc,by rw [← hn];exact e4⟩
  cases h with
  | one h=>exact .one (edge _ h)
  | snoc h1 h2=>exact .snoc h1 (edge _ h2)
end
end Go.Eng.R13
/-
 NeedExists: where all edges go forward along some numbering,the search for an order does not stop.
-/
set_option linter.all false
namespace Go.Eng.R13
open Go Go.RowKit Go.Eng
theorem sub_len:∀ (n:Nat) (l:List Nat),(∀ v,v<n→v∈l)→n≤l.length
 | 0,_,_=>Nat.zero_le _
 | n+1,l,h=>by
  have hn:=h n (by omega)
  have:=sub_len n (l.erase n) fun v hv=>(List.mem_erase_of_ne (by omega)).2 (h v (by omega))
  rw [List.length_erase_of_mem hn] at this
  have:0<l.length:=List.length_pos_of_mem hn
  omega
theorem run_fwd {N m:Nat} {f:FF} (p:Nat→Nat) (h:∀ i,i<m→(ea f i).toNat<N∧∀ v:Nat,eb f i=(v:Int)→p (ea f i).toNat<p v):∀ (d:Nat) (out:List Nat),out.length+d≤N→run N m f d out≠none
 | 0,out,_=>by unfold run;exact fun e=>by cases e
 | d+1,out,hl=>by
  unfold run
  cases e:next N m f out with
  | some v =>
   refine run_fwd p h d (out ++ [v]) ?_
   rw [List.length_append];simp only [List.length_cons,List.length_nil];omega
  | none =>
   exfalso
   unfold next at e
   have hf:=List.find?_eq_none.1 e
   have hk:∀ k v,v<N→p v<k→v∈out:=by
    intro k
    induction k with
    | zero=>intro v _ hv;omega
    | succ k ih =>
     intro v hv hpv
     have hfv:=hf v (List.mem_range.2 hv)
     by_cases hm:v∈out
     ·exact hm
     ·exfalso
      apply hfv
      unfold free
      have hw:waits m f out v=false:=by
       cases hw:waits m f out v with
       | false=>rfl
       | true =>
        obtain ⟨i,hi,e1,e2⟩:=waits_iff.1 hw
        obtain ⟨q1,q2⟩:=h i hi
        have q2:=q2 v e1
        exact (e2 (ih _ q1 (by omega))).elim
      rw [hw]
      simp [hm]
   have:=sub_len N out fun v hv=>hk (p v+1) v hv (by omega)
   omega
end Go.Eng.R13
/-
 SchedOrder: the order of the entries,and one more requirement.
-/
set_option linter.all false
namespace Go.Eng.R13
open Go Go.RowKit Go.Eng
theorem comes_more (m:Nat) (f:FF) (an bn a b:ByteArray):comes ((0+m)+1) (joinF (0+m) (joinF 0 (rowsF 3 []) f) (rowsF 3 [(.i .i64 1),(.s bn),(.s an)])) a b=(comes m f a b||(decide (bn=b)&&decide (an=a))):=by
 unfold comes
 rw [List.range_succ,List.any_append,Nat.zero_add]
 congr 1
 ·refine Bool.eq_iff_iff.2 ?_
  rw [List.any_eq_true,List.any_eq_true]
  constructor
  ·rintro ⟨r,h1,h2⟩
   refine ⟨r,h1,?_⟩
   have:(joinF m (joinF 0 (rowsF 3 []) f) (rowsF 3 [(.i .i64 1),(.s bn),(.s an)])) r=f r:=by
    rw [joinF_lt (List.mem_range.1 h1)];rfl
   unfold cmR at h2 ⊢
   rw [this] at h2;exact h2
  ·rintro ⟨r,h1,h2⟩
   refine ⟨r,h1,?_⟩
   have:(joinF m (joinF 0 (rowsF 3 []) f) (rowsF 3 [(.i .i64 1),(.s bn),(.s an)])) r=f r:=by
    rw [joinF_lt (List.mem_range.1 h1)];rfl
   unfold cmR at h2 ⊢
   rw [this];exact h2
 ·simp only [List.any_cons,List.any_nil,Bool.or_false]
  unfold cmR
  rw [joinF_at]
  show (decide ((1:Int)=1)&&(decide (bn=b)&&decide (an=a))||decide ((1:Int)=2)&&(decide (bn=a)&&decide (an=b)))=_
  rw [decide_eq_true (rfl:(1:Int)=1),decide_eq_false (by decide:¬ (1:Int)=2)];simp
theorem fidx_congr {p q:Nat→Bool}:∀ {d i:Nat},(∀ j,i≤j→j<i+d→p j=q j)→fidx p d i=fidx q d i
 | 0,i,_=>rfl
 | d+1,i,h=>by unfold fidx;rw [h i (Nat.le_refl _) (by omega),fidx_congr fun j h1 h2=>h j (by omega) (by omega)]
section
variable {k k' : Nat} {g g' : FF} {nb : Nat} {B : Nat → ByteArray} {C : ByteArray → ByteArray → Bool} {an bn : ByteArray}
theorem path_more (hE:∀ x y,Ed k g x y↔x<nb∧y<nb∧x≠y∧C (B x) (B y)=true) (hE' : ∀ x y,Ed k' g' x y↔x<nb∧y<nb∧x≠y∧(C (B x) (B y)||(decide (bn=B y)&&decide (an=B x)))=true) {x y:Nat} (h:Path k' g' x y) :
  Path k g x y∨∃ xa yb,xa<nb∧yb<nb∧B xa=an∧B yb=bn∧(x=xa∨Path k g x xa)∧(yb=y∨Path k g yb y):=by
 have edge:∀ x y,Ed k' g' x y→Ed k g x y∨(x<nb∧y<nb∧B x=an∧B y=bn):=fun x y h=>by
  obtain ⟨e1,e2,e3,e4⟩:=(hE' x y).1 h
  rw [Bool.or_eq_true,Bool.and_eq_true,decide_eq_true_eq,decide_eq_true_eq] at e4
  rcases e4 with e4 | ⟨e4,e5⟩
  ·exact .inl ((hE x y).2 ⟨e1,e2,e3,e4⟩)
  ·exact .inr ⟨e1,e2,e5.symm,e4.symm⟩
 induction h with
 | one h =>
  rcases edge _ _ h with h | ⟨h1,h2,h3,h4⟩
  ·exact .inl (.one h)
  ·exact .inr ⟨_,_,h1,h2,h3,h4,.inl rfl,.inl rfl⟩
 | snoc _ h ih =>
  rcases edge _ _ h with h | ⟨h1,h2,h3,h4⟩
  ·rcases ih with ih | ⟨xa,yb,i1,i2,i3,i4,i5,i6⟩
   ·exact .inl (.snoc ih h)
   ·refine .inr ⟨xa,yb,i1,i2,i3,i4,i5,.inr ?_⟩
    rcases i6 with rfl | i6
    ·exact .one h
    ·exact .snoc i6 h
  ·rcases ih with ih | ⟨xa,yb,i1,i2,i3,i4,i5,i6⟩
   ·exact .inr ⟨_,_,h1,h2,h3,h4,.inr ih,.inl rfl⟩
   ·exact .inr ⟨xa,_,i1,h2,i3,h4,i5,.inl rfl⟩
theorem run_more (hA:Acyc (nb:Int) k g) (hE:∀ x y,Ed k g x y↔x<nb∧y<nb∧x≠y∧C (B x) (B y)=true) (hE' : ∀ x y,Ed k' g' x y↔x<nb∧y<nb∧x≠y∧(C (B x) (B y)||(decide (bn=B y)&&decide (an=B x)))=true)
  (hg' : Good (nb:Int) k' g') (hne:an≠bn) (hno:∀ xa yb,xa<nb→yb<nb→B xa=an→B yb=bn→¬ Path k g yb xa):run nb k' g' nb []≠none:=by
 obtain ⟨p,hT⟩:=hA.topo
 rw [Int.toNat_natCast] at hT
 have hex:∀ v,∃ j,v<nb→j<nb∧p j=v:=fun v=>by
  by_cases q:v<nb
  ·obtain ⟨j,h1,h2⟩:=hT.all v q
   exact ⟨j,fun _=>⟨h1,h2⟩⟩
  ·exact ⟨0,fun h=>absurd h q⟩
 let pos:Nat→Nat:=fun v=>Classical.choose (hex v)
 have hpos:∀ v,v<nb→pos v<nb∧p (pos v)=v:=fun v hv=>Classical.choose_spec (hex v) hv
 have hfw:∀ x y,Ed k g x y→pos x<pos y:=fun x y h=>by
  obtain ⟨e1,e2,_,_⟩:=(hE x y).1 h
  obtain ⟨i,i1,i2,i3⟩:=h
  obtain ⟨a,b⟩:=hpos y e2
  obtain ⟨c,d⟩:=hpos x e1
  obtain ⟨j,j1,j2⟩:=hT.fwd i i1 (pos y) a (by rw [i3,b])
  have:j=pos x:=hT.inj j (pos x) (by omega) c (by rw [d];omega)
  omega
 let Anc:Nat→Prop:=fun v=>∃ xa,xa<nb∧B xa=an∧(v=xa∨Path k g v xa)
 let p2:Nat→Nat:=fun v=>@ite _ (Anc v) (Classical.propDecidable _) (pos v) (nb+pos v)
 have hp1:∀ v,Anc v→p2 v=pos v:=fun v h=>if_pos h
 have hp2:∀ v,¬ Anc v→p2 v=nb+pos v:=fun v h=>if_neg h
 refine run_fwd p2 (fun i hi=>?_) nb [] (by simp)
 obtain ⟨g1,g2,g3,g4,g5⟩:=hg' i hi
 refine ⟨by omega,fun v hv=>?_⟩
 have hEd:Ed k' g' (ea g' i).toNat v:=⟨i,hi,by omega,hv⟩
 generalize (ea g' i).toNat=x at hEd ⊢
 obtain ⟨e1,e2,e3,e4⟩:=(hE' x v).1 hEd
 rw [Bool.or_eq_true,Bool.and_eq_true,decide_eq_true_eq,decide_eq_true_eq] at e4
 rcases e4 with e4 | ⟨e4,e5⟩
 ·have hxv:Ed k g x v:=(hE x v).2 ⟨e1,e2,e3,e4⟩
  have:=hfw x v hxv
  have hlt:=(hpos x e1).1
  by_cases q:Anc v
  ·have hx:Anc x:=by
    obtain ⟨xa,h1,h2,h3⟩:=q
    refine ⟨xa,h1,h2,.inr ?_⟩
    rcases h3 with rfl | h3
    ·exact .one hxv
    ·exact path_first.2 ⟨v,hxv,.inr h3⟩
   rw [hp1 v q,hp1 x hx];exact this
  ·rw [hp2 v q]
   by_cases q2:Anc x
   ·rw [hp1 x q2];omega
   ·rw [hp2 x q2];omega
 ·have hx:Anc x:=⟨x,e1,e5.symm,.inl rfl⟩
  have hv:¬ Anc v:=by
   rintro ⟨xa,h1,h2,h3⟩
   rcases h3 with rfl | h3
   ·exact hne (h2.symm.trans e4.symm)
   ·exact hno xa v h1 e2 h2 e4.symm h3
  rw [hp1 x hx,hp2 v hv]
  have:=(hpos x e1).1
  omega
end
def turnF (i n:Nat) (l:FF):FF:=joinF (0+(n-i)) (joinF 0 (rowsF 4 []) (shiftF i l)) l
theorem shiftF_at (i:Nat) (l:FF) (j:Nat):shiftF i l j=l (i+j):=by
 cases i with
 | zero=>show l j=_;rw [Nat.zero_add]
 | succ i=>rfl
theorem turnF_at {i n:Nat} {l:FF} {j:Nat} (hi:i<n) (hj:j<n):turnF i n l j=l (if j<n-i then i+j else j-(n-i)):=by
 unfold turnF
 rw [Nat.zero_add]
 split
 ·rename_i h
  rw [joinF_lt h]
  show shiftF i l j=_
  exact shiftF_at i l j
 ·rename_i h
  funext q
  unfold joinF
  have:Nat.blt j (n-i)=false:=by
   cases e:Nat.blt j (n-i) with
   | false=>rfl
   | true=>rw [Nat.blt_eq] at e;exact absurd e h
  rw [this];rfl
section
variable {u : Nat} {s : ByteArray} {a1 : Nat} {f1 : FF} {a2 : Nat} {f2 : FF} {a3 : Nat} {f3 : FF} {a4 : Nat} {f4 : FF} {m : Nat} {f : FF} {jn : Nat} {jg : FF} {nb : Nat} {bg : FF} {ke : Nat} {ge ge' : FF} {k : Nat} {g : FF} {c : Int}
theorem te_add {jn:Nat} {jg:FF} {fr:Int} {l:FF} {i:Nat} (h:Solo jn jg fr l i) (h0:0≤fr) (hJ:∀ i,i<jn→JobOk nb bg jg i):te l i=ts l i+hv jg (jx jn jg l i)∧1≤hv jg (jx jn jg l i):=by
 have hJ:=hJ _ (jx_eq h.ix).1
 have:=hJ.h1
 have:=hJ.h2
 have:=h.t1
 have:=h.t2
 rw [h.t3,w64_of (by omega) (by omega)]
 exact ⟨rfl,hJ.h1⟩
theorem more_check (h:JOut u s a1 f1 a2 f2 a3 f3 a4 f4 m f jn jg nb bg ke ge ge' k g c 0) (ha:a1≤30) (hm:m≤60) (hu:4000≤u) (fr:Int) (hf0:0≤fr) (hf1:fr≤1048576) (n:Nat) (l:FF) (h2:2≤n) (hv:Valid jn jg fr n l (PB ke ge nb bg jg)) :
  ∃ r,F359 u s a1 f1 a2 f2 a3 f3 a4 f4 ((0+m)+1) (joinF (0+m) (joinF 0 (rowsF 3 []) f) (rowsF 3 [(.i .i64 1),(.s (sv l (n-1))),(.s (sv l 0))])) jn jg fr n l=some r∧(te l 0>ts l (n-1)→r=11∨r=20)∧(te l 0≤ts l (n-1)→r=0):=by
 obtain ⟨hj64,hc,hJ⟩:=h.ok rfl
 obtain ⟨hA,_⟩:=h.acyc (by omega) hc
 have hle:=h.ord.le
 have hlen:=hv.len
 generalize hfm:(joinF (0+m) (joinF 0 (rowsF 3 []) f) (rowsF 3 [(.i .i64 1),(.s (sv l (n-1))),(.s (sv l 0))]))=fm
 have hcm:∀ a b,comes ((0+m)+1) fm a b=(comes m f a b||(decide (sv l (n-1)=b)&&decide (sv l 0=a))):=fun a b=>by rw [← hfm];exact comes_more m f _ _ a b
 obtain ⟨nb',bg',ke',ge2,ge2',k',g',c',e',h'⟩:=jobs333 u s a1 f1 a2 f2 a3 f3 a4 f4 ((0+m)+1) fm jn jg (by omega) (by omega) (by omega) hu
 have hst:strs nb' bg' = strs nb bg:=h'.ord.bls.trans h.ord.bls.symm
 have hnb:nb' = nb:=by rw [← strs_len nb' bg',hst,strs_len]
 subst hnb
 have hsv:∀ i,i<nb'→sv bg' i=sv bg i:=fun i hi=>by
  have:=congrArg (·[i]?) hst
  simp only [strs_at hi] at this
  exact Option.some.inj this
 have hnix:∀ z,nix nb' bg' z=nix nb' bg z:=fun z=>fidx_congr fun j _ hj=>by rw [hsv j (by omega)]
 have hbix:∀ j,bix nb' bg' jg j=bix nb' bg jg j:=fun j=>by unfold bix;rw [hnix]
 have hJ' : ∀ i,i<jn→JobOk nb' bg' jg i:=fun i hi=>⟨by rw [hst];exact (hJ i hi).has,(hJ i hi).lt,(hJ i hi).h1,(hJ i hi).h2,(hJ i hi).c1,(hJ i hi).c2,(hJ i hi).asc⟩
 have hE:=ed_iff h.ord.prs
 have hE' : ∀ x y,Ed ke' ge2 x y↔x<nb'∧y<nb'∧x≠y∧(comes m f (sv bg x) (sv bg y)||(decide (sv l (n-1)=sv bg y)&&decide (sv l 0=sv bg x)))=true:=fun x y=>by
  rw [ed_iff h'.ord.prs]
  constructor
  ·rintro ⟨e1,e2,e3,e4⟩
   rw [hcm,hsv x e1,hsv y e2] at e4
   exact ⟨e1,e2,e3,e4⟩
  ·rintro ⟨e1,e2,e3,e4⟩
   rw [hcm,hsv x e1,hsv y e2]
   exact ⟨e1,e2,e3,e4⟩
 have hI:∀ x,x<nb'→¬ Path ke ge x x:=fun x hx hp=>by
  obtain ⟨p,hT⟩:=hA.topo
  exact hT.irrefl (by omega) hp
 -- the blocks of the two entries
 have jix:∀ i,i<n→jx jn jg l i<jn∧sv jg (jx jn jg l i)=sv l i:=fun i hi=>jx_eq (hv.solo i hi).ix
 have bi:∀ i,i<n→bix nb' bg jg (jx jn jg l i)<nb'∧sv bg (bix nb' bg jg (jx jn jg l i))=sv l i:=fun i hi=>by
  obtain ⟨a,b⟩:=jix i hi
  obtain ⟨c1,_,c3⟩:=bix_lt (hJ _ a)
  exact ⟨c1,c3.trans b⟩
 have hne:sv l 0≠sv l (n-1):=(hv.two (n-1) 0 (by omega) (by omega) (by omega)).1
 obtain ⟨ba1,ba2⟩:=bi 0 (by omega)
 obtain ⟨bb1,bb2⟩:=bi (n-1) (by omega)
 -- the error of the jobs
 have hcc:c' = 0∨(c' = 20∧run nb' ke' ge2 nb' []=none):=by
  cases h'.ord.out with
  | good _ _ _ _ _ _ _ hc _ _=>exact .inl hc
  | bad ke3 ge3 go hp ho hc _ =>
   obtain ⟨q1,q2⟩:=ends_of (hp.trans h'.ord.prs.symm)
   subst q1
   cases ho with
   | range _ hr=>exfalso;omega
   | bad _ _ he=>exact absurd (good_iff.2 (good_edges hp)) he
   | order=>exact absurd rfl hc
   | cycle _ _ _ hr=>exact .inr ⟨rfl,by rw [← run_congr q2];rw [Int.toNat_natCast] at hr;exact hr⟩
 have hjE:firE (jobE nb' bg' jg) jn 0=0:=firE_all fun i _ hi=>by
  unfold jobE
  have hj:=hJ' i (by omega)
  have p1:=hj.c1
  have p2:=hj.c2
  have p3:=hj.h1
  have p4:=hj.h2
  rw [hasB_iff.2 hj.has,hj.asc,decide_eq_false (show ¬ Go.Eng.R13.hv jg i<1 by omega),decide_eq_false (show ¬ Go.Eng.R13.hv jg i>10000 by omega),decide_eq_false (show ¬ Int.ofNat (cn jg i)>8 by simp only [Int.ofNat_eq_natCast];omega),
   show (Int.ofNat (cn jg i)==0)=false from beq_false_of_ne (by simp only [Int.ofNat_eq_natCast];omega)]
  by_cases h0:0<i
  ·rw [hj.lt h0];simp
  ·rw [decide_eq_false h0];rfl
 obtain ⟨r,r1,r2,r3,r4⟩:=h'.valid ha (by omega) hu fr n l (by omega)
 refine ⟨r,r1,fun hgt=>?_,fun hle'=>?_⟩
 ·rcases hcc with hc0 | ⟨hc20,_⟩
  ·have he' : e' = 0:=by rw [h'.ok' hj64 hc0,hjE]
   have hR:errR e' fr=0:=errR_zero.2 ⟨he',hf0,hf1⟩
   rcases r4 hR hlen hv.solo hv.two with h0 | h0
   ·exfalso
    have:=(r2.1 h0).2.ord 0 (n-1) (by omega) (by omega) (by
     unfold PB
     rw [hbix,hbix]
     refine .one ((hE' _ _).2 ⟨ba1,bb1,fun e=>hne (by rw [← ba2,← bb2,e]),?_⟩)
     rw [ba2,bb2,decide_eq_true rfl,decide_eq_true rfl];simp)
    omega
   ·exact .inl h0
  ·right
   have he' : e' = 20:=(h'.err (by omega) hj64).trans hc20
   have hR:errR e' fr=20:=by rw [he'];rfl
   rw [r3 (by rw [hR];decide),hR]
 ·have hno0:¬ Path ke ge (bix nb' bg jg (jx jn jg l (n-1))) (bix nb' bg jg (jx jn jg l 0)):=fun hp=>by
   have o:=hv.ord (n-1) 0 (by omega) (by omega) hp
   obtain ⟨t1,t2⟩:=te_add (hv.solo 0 (by omega)) hf0 hJ
   obtain ⟨t3,t4⟩:=te_add (hv.solo (n-1) (by omega)) hf0 hJ
   omega
  have hno:∀ xa yb,xa<nb'→yb<nb'→sv bg xa=sv l 0→sv bg yb=sv l (n-1)→¬ Path ke ge yb xa:=fun xa yb h1 h2 h3 h4 hp =>
   hno0 (path_src hE hI bb1 (h4.trans bb2.symm) (path_dst hE hI ba1 (h3.trans ba2.symm) hp))
  have hc0:c' = 0:=by
   rcases hcc with hc0 | ⟨_,hr⟩
   ·exact hc0
   ·exact absurd hr (run_more hA hE hE' (good_edges h'.ord.prs) hne hno)
  have he' : e' = 0:=by rw [h'.ok' hj64 hc0,hjE]
  have hR:errR e' fr=0:=errR_zero.2 ⟨he',hf0,hf1⟩
  refine r2.2 ⟨hR,hlen,hv.solo,hv.two,fun i q hi hq hP=>?_⟩
  unfold PB at hP
  rw [hbix,hbix] at hP
  have le0:∀ i,i<n→ts l i≤te l i:=fun i hi=>by obtain ⟨t1,t2⟩:=te_add (hv.solo i hi) hf0 hJ;omega
  rcases path_more hE hE' hP with hP | ⟨xa,yb,p1,p2,p3,p4,p5,p6⟩
  ·exact hv.ord i q hi hq hP
  ·have q1:te l i≤te l 0:=by
    rcases p5 with p5 | p5
    ·have:i=0:=Classical.byContradiction fun hi0=>(hv.two i 0 hi (by omega) hi0).1 (by rw [← (bi i hi).2,p5,p3])
     rw [this];exact Int.le_refl _
    ·have:=hv.ord i 0 hi (by omega) (path_dst hE hI ba1 (p3.trans ba2.symm) p5)
     have:=le0 0 (by omega)
     omega
   have q2:ts l (n-1)≤ts l q:=by
    rcases p6 with p6 | p6
    ·have:q=n-1:=Classical.byContradiction fun hi0=>(hv.two q (n-1) hq (by omega) hi0).1 (by rw [← (bi q hq).2,← p6,p4])
     rw [this];exact Int.le_refl _
    ·have:=hv.ord (n-1) q (by omega) hq (path_src hE hI bb1 (p4.trans bb2.symm) p6)
     have:=le0 (n-1) (by omega)
     omega
   omega
theorem u8_wf {n:Int} (h:(Lit.int .u8 n).wf=true):0≤n∧n≤255:=by
 have e1:IntKind.u8.min=0:=rfl
 have e2:IntKind.u8.max=255:=rfl
 simpa [Lit.wf,e1,e2] using h
end
theorem order52 (s:ByteArray) (a1:Nat) (f1:Nat→Nat→CV) (a2:Nat) (f2:Nat→Nat→CV) (a3:Nat) (f3:Nat→Nat→CV) (a4:Nat) (f4:Nat→Nat→CV) (m:Nat) (f:Nat→Nat→CV) (_:SlIn (.pr .str (.pr (.int .i64) (.pr .str .nil))) a1 f1) (_:SlIn (.pr .str (.pr (.int .i64) (.pr (.int .i64) (.pr .str (.pr .str (.pr (.int .i64) (.pr (.sl (.pr (.int .i64) (.pr (.int .i64) .nil))) (.pr (.sl (.pr (.sl (.pr (.int .i64) (.pr (.int .i64) .nil))) .nil)) (.pr .str (.pr (.int .i64) (.pr (.int .i64) (.pr (.int .i64) (.pr (.int .i64) (.pr (.int .i64) (.pr (.int .i64) (.pr (.int .i64) (.pr (.int .i64) (.pr (.int .i64) .nil)))))))))))))))))) a2 f2) (_:SlIn (.pr .str (.pr .str (.pr .str (.pr (.int .i64) (.pr (.int .i64) (.pr (.int .i64) .nil)))))) a3 f3) (_:SlIn (.pr .str (.pr .str (.pr (.sl (.pr .str .nil)) (.pr (.int .i64) (.pr (.sl (.pr .str .nil)) .nil))))) a4 f4) (_:SlIn (.pr (.int .i64) (.pr .str (.pr .str .nil))) m f) (jn:Nat) (jg:Nat→Nat→CV) (fr:Int) (n:Nat) (l:Nat→Nat→CV) (_:SlIn (.pr .str (.pr (.int .i64) (.pr (.sl (.pr .str .nil)) .nil))) jn jg) (_:I64 fr) (_:SlIn (.pr .str (.pr .str (.pr (.int .i64) (.pr (.int .i64) .nil)))) n l) (kk:Int) (hkk:(Lit.int .u8 kk).wf=true):F385 4000 s a1 f1 a2 f2 a3 f3 a4 f4 m f jn jg fr n l kk=some true:=by
 obtain ⟨k1,k2⟩:=u8_wf hkk
 obtain ⟨b,e,hb⟩:=right380 (u:=4000) (Nat.le_refl _) s a1 f1 a2 f2 a3 f3 a4 f4 m f jn jg fr
 unfold F385
 rw [e,ob_some,awake_law]
 cases b with
 | false=>rfl
 | true =>
  obtain ⟨h1,h2,h3,f0,f9,nb,bg,ke,ge,ge',k,g,c,h⟩:=hb rfl
  rw [show ((!true)==false)=true from rfl,cond_true]
  by_cases q1:n<2
  ·rw [show decide (Int.ofNat n<2)=true from decide_eq_true (by simp only [Int.ofNat_eq_natCast];omega)];rfl
  ·by_cases q2:n>100
   ·rw [show decide (Int.ofNat n<2)=false from decide_eq_false (by simp only [Int.ofNat_eq_natCast];omega),show decide (Int.ofNat n>100)=true from decide_eq_true (by simp only [Int.ofNat_eq_natCast];omega)];rfl
   ·rw [show decide (Int.ofNat n<2)=false from decide_eq_false (by simp only [Int.ofNat_eq_natCast];omega),show decide (Int.ofNat n>100)=false from decide_eq_false (by simp only [Int.ofNat_eq_natCast];omega),show (false==false)=true from rfl,cond_true,cond_true]
    obtain ⟨r,r1,r2,_,_⟩:=h.valid h1 (by omega) (Nat.le_refl _) fr n l (by omega)
    rw [r1,ob_some]
    cases q3:r != 0 with
    | true=>rfl
    | false =>
     obtain ⟨_,hv⟩:=r2.1 (by simpa using q3)
     have hn0:((Int.ofNat n)==0)=false:=beq_false_of_ne (by simp only [Int.ofNat_eq_natCast];omega)
     have hw:w64 kk=kk:=w64_of (by omega) (by omega)
     rw [cond_false,hn0,cond_false,hw]
     obtain ⟨i,hi,ei⟩:∃ i:Nat,i<n∧Int.tmod kk (Int.ofNat n)=(i:Int):=by
      have e1:Int.tmod kk (Int.ofNat n)=kk % (n:Int):=Int.tmod_eq_emod_of_nonneg k1
      have e2:0≤kk % (n:Int):=Int.emod_nonneg _ (by omega)
      have e3:kk % (n:Int)<(n:Int):=Int.emod_lt_of_pos _ (by omega)
      exact ⟨(kk % (n:Int)).toNat,by omega,by rw [e1];omega⟩
     rw [ei,Int.toNat_natCast]
     have hlen:(0+(n-i))+(i-0)=n:=by omega
     have hv' : Valid jn jg fr n (turnF i n l) (PB ke ge nb bg jg):=hv.perm (fun j=>if j<n-i then i+j else j-(n-i)) (fun j hj=>by show (if j<n-i then i+j else j-(n-i))<n;split<;>omega) (fun a b ha hb he=>by
      have he:(if a<n-i then i+a else a-(n-i))=(if b<n-i then i+b else b-(n-i)):=he
      split at he<;>split at he<;>omega) (fun j hj=>turnF_at hi hj)
     rw [show inbe (i:Int) n=true from inbe_n hi,cond_true,ble_t (by omega),cond_true,cond_true,hlen,ble_t (by omega),cond_true,show inb 0 n=true from inb_true (by omega) (by omega),cond_true,
      show w64 (Int.ofNat n-1)=((n-1:Nat):Int) by rw [w64_of (by simp only [Int.ofNat_eq_natCast];omega) (by simp only [Int.ofNat_eq_natCast];omega)];simp only [Int.ofNat_eq_natCast];omega,inb_n (show n-1<n by omega),cond_true,ble_t (by omega),cond_true,ble_t (by omega),cond_true,Int.toNat_natCast]
     obtain ⟨r',e1,e2,e3⟩:=more_check h h1 h2 (Nat.le_refl _) fr f0 f9 n (turnF i n l) (by omega) hv'
     obtain ⟨rt,t1,t2,_,_⟩:=h.valid h1 (by omega) (Nat.le_refl _) fr n (turnF i n l) (by omega)
     have hrt:rt=0:=t2.2 ⟨errR_zero.2 ⟨rfl,f0,f9⟩,hv'⟩
     subst hrt
     rw [Nat.zero_add (n-1)]
     show ob (F359 4000 s a1 f1 a2 f2 a3 f3 a4 f4 ((0+m)+1) (joinF (0+m) (joinF 0 (rowsF 3 []) f) (rowsF 3 [(.i .i64 1),(.s (sv (turnF i n l) (n-1))),(.s (sv (turnF i n l) 0))])) jn jg fr n (turnF i n l)) (fun x21=>ob (F359 4000 s a1 f1 a2 f2 a3 f3 a4 f4 m f jn jg fr n (turnF i n l)) fun x22=>_)=_
     rw [e1,ob_some,t1,ob_some,show ((0:Int) != 0)=false from rfl,cond_false]
     show (bif decide (te (turnF i n l) 0>ts (turnF i n l) (n-1)) then _ else _)=_
     cases q4:decide (te (turnF i n l) 0>ts (turnF i n l) (n-1)) with
     | true =>
      rcases e2 (of_decide_eq_true q4) with h | h<;>rw [h]<;>rfl
     | false =>
      rw [e3 (by have:=of_decide_eq_false q4;omega)];rfl
end Go.Eng.R13
