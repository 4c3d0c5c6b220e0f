/-
 Whole functions;what a machine can look at.
-/
import Derived.Test.YtkknnlhhchielaaGreatDoorEngN
set_option linter.all false
namespace Go.Eng
open Go Go.RowKit
variable {df : DF}
def EE (P:Program):Ee->ResultVar->Bool
 | .tmp t,.tmp t'=>Nat.beq t t'
 | .mat t _,.tmp t'=>Nat.beq t t'
 | .cell t ty m,.cell t' ty'=>Nat.beq t t' && Nat.beq ty ty' && eD P ty m
 | _,_=>false
def lW (P:Program):List Ee->List ResultVar->Bool
 | [],[]=>true
 | r::l,v::vs=>EE P r v&&lW P l vs
 | _,_=>false
structure cd (P:Program) (f:FuncId) (F:AF):Prop where
 ok:dq P f=true
 fn:∃ fn c,P.funcs[f]?=some fn/\fn.body=some c/\fn.ntmps=F.n/\lW P F.res fn.results.toList=true/\jp P F.body c
section
variable {P : Program} {C : ao} {w0 : cD} {okA : Nat -> Prop} {μ : Nat -> Option Nat} {ok : Nat -> Prop} {st : St} {a : Act} {w : World}
theorem AR.toV_sound {x:A} {v:Value} {H:List Blk} (h:AR ok w x v):VR μ ok w H x.toV v:=by
 cases x with
 | v x=>exact h
 | agg l =>
  obtain ⟨cs,hp,hs,hc⟩:=h
  refine ⟨cs,hp,by simp [hs],fun t c ht=>?_⟩
  rw [qhZ] at ht
  cases hq:l[t]? with
  | none=>rw [hq] at ht;cases ht
  | some x =>
   rw [hq] at ht;cases ht
   obtain ⟨u,hu,hr⟩:=hc t x hq
   exact ⟨u,hu,hr⟩
def dg (tmps:Array Value):ResultVar->Sem Value
 | .tmp t=>pure (tmps.getD t undef)
 | .cell x t=>do loadVar t (<- asAddr (tmps.getD x undef))
theorem sF (hm:MR w0 okA μ ok st.heap w) (he:ER df μ ok st.heap w st.env a) {r:Ee} {v:ResultVar} (hr:EE P r v=true) {y:V} (hy:Gl st r=some y) (hyu:y≠.u) :
  ∃ u,(dg a.tmps v).run P w=.ok u w/\VR μ ok w st.heap y u:=by
 cases r with
 | tmp t =>
  cases v with
  | cell x ty=>cases hr
  | tmp t' =>
   have:=qbZ hr
   subst this
   simp only [Gl,rbZ] at hy
   subst hy
   have hl:st.env[t]?=some (st.env.getD t .u):=by
    rw [qdZ] at hyu ⊢
    cases hq:st.env[t]? with
    | none=>rw [hq] at hyu;exact (hyu rfl).elim
    | some v=>rfl
   obtain ⟨u,hu,hr⟩:=he.env t _ hl
   exact ⟨u,by simp only [dg];rw [Array.getD_eq_getD_getElem?,hu];rfl,hr⟩
 | cell t ty m =>
  cases v with
  | tmp t'=>cases hr
  | cell x ty' =>
   simp only [EE,qaZ] at hr
   obtain ⟨⟨h1,h2⟩,hagg⟩:=hr
   have:=qbZ h1
   subst this
   have:=qbZ h2
   subst this
   simp only [Gl] at hy
   split at hy
   ·rename_i b j hv
    split at hy
    ·rename_i cells hb
     have hl:st.env[t]?=some (.x (.ptr b j)):=by
      rw [qdZ] at hv
      cases hq:st.env[t]? with
      | none=>rw [hq] at hv;cases hv
      | some v=>rw [hq] at hv;simp only [Option.getD_some] at hv;rw [hv]
     obtain ⟨u0,hu0,hx⟩:=he.env t _ hl
     obtain ⟨_,hp⟩:=hx
     rw [hb] at hp
     obtain ⟨g,hg,rfl⟩:=hp
     obtain ⟨g',cur,e,hg',hw,hsz,hc⟩:=hm.blk b _ hb
     rw [hg] at hg';cases hg'
     have hgd:a.tmps.getD t undef=.pointer (some ⟨g,j,none⟩):=by rw [Array.getD_eq_getD_getElem?,hu0];rfl
     have fin:∀ u,(loadVar ty ⟨g,j,none⟩).run P w=.ok u w->VR μ ok w st.heap y u->∃ u,(dg a.tmps (.cell t ty)).run P w=.ok u w/\VR μ ok w st.heap y u:=by
      intro u h1 h2
      refine ⟨u,?_,h2⟩
      simp [dg,hgd,asAddr,h1]
     unfold rN at hy
     cases m with
     | none =>
      dsimp only at hy
      split at hy
      ·rename_i y' hy'
       cases hy
       obtain ⟨u,hu,hr⟩:=hc j y' hy'
       exact fin u (dL hagg (by rw [cell_of_row w g j cur e (0,0) hw];exact hu)) hr
      ·cases hy
     | some m =>
      obtain ⟨h1,h2⟩:=ah hy
      cases h2
      obtain ⟨u,hu,hr⟩:=FH hw hsz hc hagg (qpZ h1)
      exact fin u hu hr
    ·cases hy
   ·cases hy
 | set t t0 ln=>cases v<;>cases hr
 | mat t κ=>cases hy
theorem QS (hm:MR w0 okA μ ok st.heap w) (he:ER df μ ok st.heap w st.env a) {t:Nat} {κ:Kd} {v:ResultVar} (hr:EE P (.mat t κ) v=true) {x:A} (hx:Ay st (.mat t κ)=some x) :
  ∃ u,(dg a.tmps v).run P w=.ok u w/\AR (fun g=>g<w.heap.size/\(okA g\/w0.w.heap.size<=g\/w0.own g)) w x u:=by
 cases v with
 | cell x ty=>cases hr
 | tmp t' =>
  have:=qbZ hr
  subst this
  have hval:∀ y,st.env.getD t .u=y->y≠.u->∃ u,a.tmps[t]?=some u/\(dg a.tmps (.tmp t)).run P w=.ok u w/\VR μ ok w st.heap y u:=by
   intro y hy hne
   have hl:st.env[t]?=some y:=by
    rw [qdZ] at hy
    cases hq:st.env[t]? with
    | none=>rw [hq] at hy;exact (hne hy.symm).elim
    | some v=>rw [hq] at hy;simp only [Option.getD_some] at hy;rw [hy]
   obtain ⟨u,hu,hr⟩:=he.env t _ hl
   exact ⟨u,hu,by simp only [dg];rw [Array.getD_eq_getD_getElem?,hu];rfl,hr⟩
  have hok:∀ b g,μ b=some g->g<w.heap.size/\(okA g\/w0.w.heap.size<=g\/w0.own g):=fun b g hg=>⟨(hm.fresh b g hg).2.1,.inr (hm.fresh b g hg).1⟩
  simp only [Ay] at hx
  split at hx
  ·rename_i b off len hv
   split at hx
   ·rename_i κ' n ln f hb
    obtain ⟨hc,hx⟩:=ah hx
    cases hx
    have:=Kd.eq_of_beq hc
    subst this
    obtain ⟨u,_,hrun,hvr⟩:=hval _ hv (by intro hh;cases hh)
    refine ⟨u,hrun,?_⟩
    obtain ⟨_,hp⟩:=hvr
    rw [hb] at hp
    obtain ⟨_,_,hmx,g,hg,rfl⟩:=hp
    obtain ⟨hκ,_,g',cur,e,hg',hw,hsz,hrows⟩:=hm.blk b _ hb
    rw [hg] at hg';cases hg'
    have hlk:(Kd.pr κ .nil).len=1:=rfl
    refine ⟨_,_,rfl,rkZ _,hmx,(by intro hh;cases hh),.inr ⟨g,0,rfl,hok _ _ hg,fun i j hi hj=>?_⟩⟩
    have hj:j=0:=by
     have:(Kd.pr (.sl (.pr κ .nil)) .nil).len=1:=rfl
     omega
    subst hj
    refine ⟨⟨_,_,_,rfl⟩,?_⟩
    obtain ⟨u,hu,hrv,hcells⟩:=hrows i hi
    refine ⟨u,?_,?_⟩
    ·rw [cell_of_row w g _ cur e (0,0) hw]
     rw [<- hu]
     congr 1
     show 0+i*1+0=i
     omega
    ·obtain ⟨a',cap,rfl,q2,q3,q4⟩:=hrv
     refine ⟨a',cap,rfl,q2,q3,(by intro hh;cases hh),?_⟩
     rcases q4 with q4 | ⟨h,hh,rfl⟩
     ·exact .inl q4
     ·by_cases hpos:0<ln i
      ·refine .inr ⟨h,0,rfl,hok _ _ hh,fun k j hk hj=>?_⟩
       have hj:j=0:=by
        have:(Kd.pr κ .nil).len=1:=rfl
        omega
       subst hj
       obtain ⟨rc,e',r1,r2,r3⟩:=hcells h hpos hh
       obtain ⟨p1,u1,p2,p3⟩:=r3 k hk
       refine ⟨p1,u1,?_,CR.mono (fun g hg=>⟨hm.okd g hg,rfl⟩) p3⟩
       rw [cell_of_row w h _ rc e' (0,0) r1]
       rw [<- p2]
       congr 1
       show 0+k*1+0=k
       omega
      ·exact .inl (by omega)
   ·cases hx
  ·rename_i full r f hv
   cases hx
   obtain ⟨u,_,hrun,hvr⟩:=hval _ hv (by intro hh;cases hh)
   refine ⟨u,hrun,?_⟩
   obtain ⟨a',cap,rfl,q2,q3,_⟩:=hvr
   exact ⟨a',cap,rfl,q2,q3,(by intro hh;cases hh),.inl rfl⟩
  ·cases hx
theorem Lc {H:List Blk} {y:V} {x:A} (h:ll H y=some x):y≠.u:=by intro hh;subst hh;cases h
theorem tC (hm:MR w0 okA μ ok st.heap w) (he:ER df μ ok st.heap w st.env a):∀ {rs:List Ee} {vs:List ResultVar} {res:List A},lW P rs vs=true->aO (rs.map (Ay st))=some res ->
  ∃ us:List Value,(vs.mapM (dg a.tmps)).run P w=.ok us w /\
   us.length=res.length/\∀ (t:Nat) (x:A),res[t]?=some x->∃ u,us[t]?=some u/\AR (fun g=>g<w.heap.size/\(okA g\/w0.w.heap.size<=g\/w0.own g)) w x u
 | [],[],res,_,h=>by cases h;exact ⟨[],by simp,rfl,fun t x ht=>by simp at ht⟩
 | [],v::vs,res,hr,_=>by cases hr
 | r::rs,[],res,hr,_=>by cases hr
 | r::rs,v::vs,res,hr,h=>by
  simp only [lW,qaZ] at hr
  simp only [List.map_cons] at h
  unfold aO at h
  split at h
  ·rename_i hq;cases hq
  ·cases h
  ·rename_i x l hq
   rw [List.cons.injEq] at hq
   obtain ⟨hx,rfl⟩:=hq
   cases hq2:aO (rs.map (Ay st)) with
   | none=>rw [hq2] at h;cases h
   | some res' =>
    rw [hq2] at h
    cases h
    obtain ⟨us,h1,h2,h3⟩:=tC hm he hr.2 hq2
    obtain ⟨u,h4,h5⟩:∃ u,(dg a.tmps v).run P w=.ok u w/\AR (fun g=>g<w.heap.size/\(okA g\/w0.w.heap.size<=g\/w0.own g)) w x u:=by
     have other:(match Gl st r with | some v=>ll st.heap v | none=>none)=some x->∃ u,(dg a.tmps v).run P w=.ok u w/\AR (fun g=>g<w.heap.size/\(okA g\/w0.w.heap.size<=g\/w0.own g)) w x u:=by
      intro hx
      split at hx
      ·rename_i y hy
       obtain ⟨u,h4,h5⟩:=sF hm he hr.1 hy (Lc hx)
       refine ⟨u,h4,ou hm.blk (fun g hg=>hm.okd g hg) (fun b _ _ g hg=>?_) hx h5⟩
       have:=hm.fresh b g hg
       exact ⟨this.2.1,.inr this.1⟩
      ·cases hx
     cases r with
     | mat t κ=>exact QS hm he hr.1 hx
     | tmp t=>exact other hx
     | cell t ty m=>exact other hx
     | set t t0 ln=>exact other hx
    refine ⟨u::us,?_,by simp [h2],fun t z ht=>?_⟩
    ·rw [List.mapM_cons]
     simp only [Sem.run_bind,h4,Result.andThen_ok,h1,Sem.run_pure]
    ·cases t with
     | zero =>
      simp at ht;subst ht
      exact ⟨u,rfl,h5⟩
     | succ t=>simpa using h3 t z (by simpa using ht)
end
theorem DG {ok:Nat->Prop} {w:World} {us:List Value} {res:List A} (h2:us.length=res.length) (h3:∀ (t:Nat) (x:A),res[t]?=some x->∃ u,us[t]?=some u/\AR ok w x u) :
  om ok w res (if h:us.toArray.size=1 then us.toArray[0] else .tuple us.toArray):=by
 have many:(∀ x,res≠[x])->∃ vs:Array Value,(if h:us.toArray.size=1 then us.toArray[0] else Value.tuple us.toArray)=.tuple vs/\ARs ok w res vs:=by
  intro hne
  have h1:¬ us.toArray.size=1:=by
   intro hh
   have:res.length=1:=by rw [<- h2];simpa using hh
   obtain ⟨x,hx⟩:=List.length_eq_one_iff.1 this
   exact hne x hx
  rw [dif_neg h1]
  exact ⟨us.toArray,rfl,by simp [h2],fun t x ht=>by obtain ⟨u,hu,hr⟩:=h3 t x ht;exact ⟨u,by simpa using hu,hr⟩⟩
 rcases res with _ | ⟨x,_ | ⟨y,t⟩⟩
 ·exact many (by intro x hx;cases hx)
 ·obtain ⟨u,hu,hr⟩:=h3 0 x rfl
  have h1:us.toArray.size=1:=by simp [h2]
  have e:(if h:us.toArray.size=1 then us.toArray[0] else Value.tuple us.toArray)=u:=by
   rw [dif_pos h1]
   simp only [List.getElem_toArray]
   rw [qgZ (by simp at h1;omega)] at hu
   simpa using hu
  rw [e];exact hr
 ·exact many (by intro x hx;cases hx)
theorem jL {P:Program} {C:ao} (hmix:P.follows .mixedOrders=true) (hC:az P C) {f:FuncId} {F:AF} (hF:cd P f F) {fuel:Nat} {args res:List A} (h:aD C fuel F args=some res):Den P f args res:=by
 refine ⟨hF.ok,fun w okA vs hok hgl hargs=>?_⟩
 obtain ⟨fn,c,hfn,hbody,hn,hres,hfits⟩:=hF.fn
 refine calls_of_wp hfn hbody ?_
 unfold aD at h
 have hm:MR ⟨w,fun _=>False⟩ okA (fun _=>none) okA ([]:List Blk) w:=⟨⟨rfl,rfl,rfl,rkZ _,fun _ _ _=>rfl,fun _ h=>h.elim,rkZ _⟩,fun g hg=>⟨hok g hg,.inl hg⟩,fun g hg=>hg,(fun b g hg=>by cases hg),(fun b b' g hg=>by cases hg),(fun b o hb=>by simp at hb),(fun b g r n f hb=>by simp at hb)⟩
 have he:ER ([],[]) (fun _=>none) okA ([]:List Blk) w (args.map A.toV ++ List.replicate (F.n-args.length) .undef) { tmps:=vs ++ Array.replicate (fn.ntmps-vs.size) undef,defers:=[] }:=by
  refine ⟨by simp [hargs.1,hn],fun t v ht=>?_,⟨rfl,fun _ h=>by cases h⟩,hgl⟩
  by_cases hlt:t<args.length
  ·rw [qnZ (by simpa using hlt),qhZ] at ht
   cases hq:args[t]? with
   | none=>rw [hq] at ht;cases ht
   | some x =>
    rw [hq] at ht;cases ht
    obtain ⟨u,hu,hr⟩:=hargs.2 t x hq
    refine ⟨u,?_,hr.toV_sound⟩
    rw [qlZ (by rw [hargs.1];exact hlt)];exact hu
  ·rw [qsZ (by simp;omega),List.getElem?_replicate] at ht
   split at ht
   ·rename_i hl
    cases ht
    refine ⟨undef,?_,rfl⟩
    rw [qtZ (by rw [hargs.1];omega),Array.getElem?_replicate]
    simp only [rcZ] at hl
    rw [if_pos (by rw [hargs.1,hn];exact hl)]
   ·cases ht
 refine e9 (st:=⟨_,[]⟩) (r:=res) (k:=aH F) hmix hC fuel F.body c hfits hm he (fun e μ ok st a w' hm he hk=>?_) h
 have main:aO (F.res.map (Ay st))=some res->∃ v,(results fn a.tmps).run P w' = .ok v w'/\∃ v' ok',Ending.returned v=.returned v'/\Below w.heap.size w w'/\(∀ g,ok' g->g<w'.heap.size/\(okA g\/w.heap.size<=g))/\(∀ g,okA g->ok' g)/\om ok' w' res v':=by
  intro hk
  obtain ⟨us,h1,h2,h3⟩:=tC (P:=P) hm he hres hk
  have hrun:(fn.results.mapM (dg a.tmps)).run P w' = .ok us.toArray w':=by
   rw [Array.mapM_eq_mapM_toList,map_eq_pure_bind,Sem.run_bind,h1]
   rfl
  have hrw:results fn a.tmps=(do
    let vs <- fn.results.mapM (dg a.tmps)
    pure (if h:vs.size=1 then vs[0] else .tuple vs)):=by
   unfold results
   have:(fun | .tmp t=>pure (a.tmps.getD t undef) | .cell x t=>do loadVar t (<- asAddr (a.tmps.getD x undef)):ResultVar->Sem Value)=dg a.tmps:=by funext v;cases v<;>rfl
   rw [<- this]
   rfl
  refine ⟨if h:us.toArray.size=1 then us.toArray[0] else .tuple us.toArray,?_,_,fun g=>g<w'.heap.size/\(okA g\/w.heap.size<=g\/False),rfl,⟨⟨hm.below.os,hm.below.tape,hm.below.output,hm.below.size,fun k hk=>hm.below.block k hk (fun h=>h)⟩,hm.below.drawn⟩,fun g hg=>⟨hg.1,hg.2.imp id fun h=>h.elim id False.elim⟩,fun g hg=>hm.okd g (hm.keep g hg),?_⟩
  ·rw [hrw,Sem.run_bind,hrun]
   rfl
  ·exact DG h2 h3
 cases e with
 | exit id=>cases hk
 | normal =>
  obtain ⟨v,hv,hR⟩:=main hk
  exact ⟨he.defers.1,v,hv,hR⟩
 | ret =>
  obtain ⟨v,hv,hR⟩:=main hk
  exact ⟨he.defers.1,v,hv,hR⟩
end Go.Eng
