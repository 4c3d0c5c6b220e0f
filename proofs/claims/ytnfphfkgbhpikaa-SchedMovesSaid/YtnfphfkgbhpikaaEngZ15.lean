/-
 Several texts in one.
-/
import Derived.Test.YtnfphfkgbhpikaaEngZ1
set_option linter.all false
/-
 Functions to which blocks are lent.
-/
namespace Go.Eng
open Go Go.RowKit
def pinOk (st:St) (p:Nat × Nat):Bool :=
 match st.env.getD p.1 .u with
 | .x (.ptr b j)=>Nat.beq b p.2&&Nat.beq j 0
 | .x (.own b off len)=>Nat.beq b p.2&&(Nat.beq off 0&&Nat.blt 0 len)
 | _=>false
def lentR (bs:List Nat) (H:List Blk) (y:V0):Option V0 :=
 bif lentC bs y then some y
 else bif (refs H depth y).all fun b=>!bs.contains b then
  match snap H depth y with
  | some c=>some (.c c)
  | none=>none
 else none
def lentBl (bs:List Nat) (H:List Blk):Blk→Option Blk
 | .box cells=>match allSome (cells.map (lentR bs H)) with
  | some l=>some (.box l)
  | none=>none
 | .arr r n f=>some (.arr r n f)
 | _=>none
def sameB:Blk→Blk→Bool
 | .box _,.box _=>true
 | .arr r n _,.arr r' n' _=>r.beq r' && (Nat.beq n n' && (Nat.blt 0 n' && !r'.tagged))
 | _,_=>false
variable {ρ : Type}
def finL (F:AF) (bs:List Nat) (pins:List (Nat × Nat)) (H0:List Blk) (K:List A→List Blk→Option ρ) (e:Ex) (st:St):Option ρ :=
 match e with
 | .exit _=>none
 | _ =>
  match allSome (F.res.map (resA st)) with
  | none=>none
  | some res =>
   bif pins.all (pinOk st)&&res.all (·.scalar) then
    bif bs.all fun b=>sameB (H0.getD b .dead) (st.heap.getD b .dead) then
     match allSome ((List.range H0.length).map fun b=>bif bs.contains b then lentBl bs st.heap (st.heap.getD b .dead) else some .dead) with
     | some H'=>K res H'
     | none=>none
    else none
   else none
def evalS (C:Oracle) (fuel:Nat) (F:AF) (bs:List Nat) (pins:List (Nat × Nat)) (vs:List V) (H:List Blk) (K:List A→List Blk→Option ρ):Option ρ :=
 bif pins.all (pinOk ⟨vs,H⟩) then evalC C fuel F.body ⟨vs ++ List.replicate (F.n-vs.length) .undef,H⟩ (finL F bs pins H K) else none
theorem getD_at {α:Type} {l:List α} {t:Nat} {d v:α} (h:l.getD t d=v) (hv:v≠d):l[t]?=some v:=by
 rw [List.getD_eq_getElem?_getD] at h
 cases hq:l[t]? with
 | none=>rw [hq] at h;exact (hv h.symm).elim
 | some x=>rw [hq] at h;simp only [Option.getD_some] at h;rw [h]
theorem pin_place {μ:Nat→Option Nat} {ok:Nat→Prop} {w:World} {st:St} {H:List Blk} {p:Nat × Nat} {u:Value} (hp:pinOk st p=true) (hu:∀ v,st.env[p.1]?=some v→VR μ ok w H v u) :
  (∀ cs,H[p.2]?=some (.box cs)→∃ g,μ p.2=some g∧u=.pointer (some ⟨g,0,none⟩))∧(∀ r n f,H[p.2]?=some (.arr r n f)→∃ g len cap,μ p.2=some g∧u=.slice (some ⟨g,0,none⟩) len cap):=by
 unfold pinOk at hp
 split at hp
 ·rename_i b j hv
  rw [Bool.and_eq_true] at hp
  have e1:=Nat.eq_of_beq_eq_true hp.1
  have e2:=Nat.eq_of_beq_eq_true hp.2
  subst e1 e2
  obtain ⟨_,h2⟩:=hu _ (getD_at hv (by intro hh;cases hh))
  refine ⟨fun cs hcs=>?_,fun r n f hcs=>?_⟩
  ·rw [hcs] at h2;exact h2
  ·rw [hcs] at h2;exact h2.elim
 ·rename_i b off len hv
  rw [Bool.and_eq_true,Bool.and_eq_true] at hp
  have e1:=Nat.eq_of_beq_eq_true hp.1
  have e2:=Nat.eq_of_beq_eq_true hp.2.1
  have e3:0<len:=by have:=hp.2.2;rwa [Nat.blt_eq] at this
  subst e1 e2
  obtain ⟨_,h2⟩:=hu _ (getD_at hv (by intro hh;cases hh))
  refine ⟨fun cs hcs=>?_,fun r n f hcs=>?_⟩
  ·rw [hcs] at h2;exact h2.elim
  ·rw [hcs] at h2
   obtain ⟨_,a,cap,rfl,_,_,h3⟩:=h2
   rcases h3 with ⟨h3,_⟩ | ⟨g,cur,e,h3,h4,_⟩
   ·omega
   ·exact ⟨g,len,cap,h3,by rw [h4,Nat.zero_mul]⟩
 ·cases hp
theorem evalS_sound {P:Program} {C:Oracle} (hmix:P.follows .mixedOrders=true) (hC:Sound P C) {f:FuncId} {F:AF} (hF:FFits P f F) {fuel:Nat} {bs:List Nat} {pins:List (Nat × Nat)} {vs:List V} {H:List Blk} {res:List A} {H' : List Blk}
  (hoff:(pins.all fun p=>offB p.1 F.body)=true) (hpin:(bs.all fun b=>pins.any fun p=>Nat.beq p.2 b)=true) (h:evalS C fuel F bs pins vs H (fun r h=>some (r,h))=some (res,H')):LDen P f bs vs H res H':=by
 refine ⟨hF.ok,fun w ok μ us hμ hm hgl hsz hus=>?_⟩
 obtain ⟨fn,c,hfn,hbody,hn,hres,hfits⟩:=hF.fn
 refine calls_of_wp hfn hbody ?_
 unfold evalS at h
 obtain ⟨hp0,h⟩:=bif_some h
 let pv:List (Nat × Value):=pins.filterMap fun p=>(us[p.1]?).map fun u=>(p.1,u)
 have hpv:∀ q,q∈pv→(∃ p,p∈pins∧p.1=q.1)∧us[q.1]?=some q.2:=fun q hq=>by
  obtain ⟨p,hp,hq⟩:=List.mem_filterMap.1 hq
  cases hu:us[p.1]? with
  | none=>rw [hu] at hq;cases hq
  | some u =>
   rw [hu] at hq
   simp only [Option.map_some,Option.some.injEq] at hq
   subst hq
   exact ⟨⟨p,hp,rfl⟩,hu⟩
 have he:ER ([],pv) μ ok H w (vs ++ List.replicate (F.n-vs.length) .undef) { tmps:=us ++ Array.replicate (fn.ntmps-us.size) undef,defers:=[] }:=by
  refine ⟨by simp [hsz,hn],fun t v ht=>?_,⟨rfl,fun q hq=>?_⟩,hgl⟩
  ·by_cases hlt:t<vs.length
   ·rw [List.getElem?_append_left hlt] at ht
    obtain ⟨u,hu,hr⟩:=hus t v ht
    exact ⟨u,by rw [Array.getElem?_append_left (by rw [hsz];exact hlt)];exact hu,hr⟩
   ·rw [List.getElem?_append_right (by omega),List.getElem?_replicate] at ht
    split at ht
    ·rename_i hl
     cases ht
     refine ⟨undef,?_,rfl⟩
     rw [Array.getElem?_append_right (by rw [hsz];omega),Array.getElem?_replicate,if_pos (by rw [hsz,hn];exact hl)]
    ·cases ht
  ·obtain ⟨_,hu⟩:=hpv q hq
   have hlt:=(Array.getElem?_eq_some_iff.1 hu).1
   rw [Array.getElem?_append_left hlt];exact hu
 refine (wpIn_wide (n:=0)).1 (evalC_round (fl:=none) (st:=⟨_,H⟩) (r:=(res,H')) (k:=finL F bs pins H fun r h=>some (r,h)) hmix hC fuel F.body c hfits hm he (fun e μ' ok' st a w' hm' he' hk=>?_) (.inl rfl) (offP_of fun q hq=>?_) h)
 rotate_left
 ·obtain ⟨⟨p,hp,e⟩,_⟩:=hpv q hq
  have:=List.all_eq_true.1 hoff p hp
  rw [← e];exact this
 have main:(match allSome (F.res.map (resA st)) with
   | none=>none
   | some res =>
    bif pins.all (pinOk st)&&res.all (·.scalar) then
     bif bs.all fun b=>sameB (H.getD b .dead) (st.heap.getD b .dead) then
      match allSome ((List.range H.length).map fun b=>bif bs.contains b then lentBl bs st.heap (st.heap.getD b .dead) else some .dead) with
      | some H'=>some (res,H')
      | none=>none
     else none
    else none)=some (res,H')→∃ v,(results fn a.tmps).run P w' = .ok v w'∧∃ v' ok'',Ending.returned v=.returned v'∧MR ⟨w,rg μ⟩ ok μ ok'' H' w'∧GlobR ok'' w'∧ResR ok'' w' res v'∧LShape bs H H':=by
  intro hk
  split at hk
  ·cases hk
  ·rename_i res0 hres0
   obtain ⟨hc1,hk⟩:=bif_some hk
   obtain ⟨hc2,hk⟩:=bif_some hk
   rw [Bool.and_eq_true] at hc1
   split at hk
   ·rename_i H0' hH
    cases hk
    obtain ⟨hlen,hat⟩:=allSome_get hH
    rw [List.length_map,List.length_range] at hlen
    -- the results
    obtain ⟨us',h1,h2,h3⟩:=resL_run (P:=P) hm' he' hres hres0
    have hrun:(fn.results.mapM (resSem a.tmps)).run P w' = .ok us'.toArray w':=by
     rw [Array.mapM_eq_mapM_toList,map_eq_pure_bind,Sem.run_bind,h1]
     rfl
    have hrw:results fn a.tmps=(do
      let vs ← fn.results.mapM (resSem a.tmps)
      pure (if h:vs.size=1 then vs[0] else .tuple vs)):=by
     unfold results
     have:(fun | .tmp t=>pure (a.tmps.getD t undef) | .cell x t=>do loadVar t (← asAddr (a.tmps.getD x undef)):ResultVar→Sem Value)=resSem a.tmps:=by funext v;cases v<;>rfl
     rw [← this]
     rfl
    refine ⟨if h:us'.toArray.size=1 then us'.toArray[0] else .tuple us'.toArray,by rw [hrw,Sem.run_bind,hrun];rfl,_,fun g=>g<w'.heap.size∧(ok g∨w.heap.size≤g),rfl,?_⟩
    -- the places
    have hsame:∀ b,b∈bs→sameB (H.getD b .dead) (st.heap.getD b .dead)=true:=fun b hb=>List.all_eq_true.1 hc2 b hb
    have hnd:∀ {L:List Blk} {b:Nat} {o:Blk},L.getD b .dead=o→o≠.dead→L[b]?=some o:=fun h hv=>getD_at h hv
    have hplace:∀ b,b∈bs→∃ g,μ b=some g∧μ' b=some g:=fun b hb=>by
     obtain ⟨p,hp,hpb⟩:=List.any_eq_true.1 (List.all_eq_true.1 hpin b hb)
     have e0:=Nat.eq_of_beq_eq_true hpb
     subst e0
     have hpo:=List.all_eq_true.1 hp0 p hp
     have hpe:=List.all_eq_true.1 hc1.1 p hp
     -- the value
     obtain ⟨u,hu⟩:∃ u,us[p.1]?=some u:=by
      unfold pinOk at hpo
      split at hpo
      ·rename_i b j hv
       obtain ⟨u,hu,_⟩:=hus p.1 _ (getD_at hv (by intro hh;cases hh))
       exact ⟨u,hu⟩
      ·rename_i b off len hv
       obtain ⟨u,hu,_⟩:=hus p.1 _ (getD_at hv (by intro hh;cases hh))
       exact ⟨u,hu⟩
      ·cases hpo
     have hpin':=he'.defers.2 (p.1,u) (List.mem_filterMap.2 ⟨p,hp,by rw [hu];rfl⟩)
     have i1:=pin_place (μ:=μ) (ok:=ok) (w:=w) (H:=H) (u:=u) hpo (fun v hv=>by
      obtain ⟨u',hu',hr⟩:=hus p.1 v hv
      rw [hu] at hu';cases hu'
      exact hr)
     have i2:=pin_place (μ:=μ') (ok:=ok') (w:=w') (H:=st.heap) (u:=u) hpe (fun v hv=>by
      obtain ⟨u',hu',hr⟩:=he'.env p.1 v hv
      rw [hpin'] at hu';cases hu'
      exact hr)
     have hs:=hsame p.2 hb
     cases ho:H.getD p.2 .dead<;>cases ho' : st.heap.getD p.2 .dead<;>rw [ho,ho'] at hs<;>first | (cases hs;done) | skip
     ·obtain ⟨g,q1,q2⟩:=i1.1 _ (hnd ho (by intro hh;cases hh))
      obtain ⟨g',q3,q4⟩:=i2.1 _ (hnd ho' (by intro hh;cases hh))
      rw [q2] at q4
      cases q4
      exact ⟨g,q1,q3⟩
     ·obtain ⟨g,len,cap,q1,q2⟩:=i1.2 _ _ _ (hnd ho (by intro hh;cases hh))
      obtain ⟨g',len',cap',q3,q4⟩:=i2.2 _ _ _ (hnd ho' (by intro hh;cases hh))
      rw [q2] at q4
      cases q4
      exact ⟨g,q1,q3⟩
    -- what is ok
    have hws:w.heap.size≤w'.heap.size:=hm'.below.size
    have hokk:∀ g,ok' g→g<w'.heap.size∧(ok g∨w.heap.size≤g):=fun g hg=>by
     obtain ⟨q1,q2⟩:=hm'.okd g hg
     refine ⟨q1,?_⟩
     rcases q2 with q2 | q2 | q2
     ·exact .inl q2
     ·exact .inr q2
     ·exfalso
      obtain ⟨b,hb⟩:=q2
      obtain ⟨g',e1,e2⟩:=hplace b (hμ b g hb)
      rw [hb] at e1;cases e1
      exact (hm'.fresh b g e2).2.2 hg
    have hfre:∀ b g,μ b=some g→g<w.heap.size∧¬ ok g:=fun b g hg=>(hm.fresh b g hg).2
    have hHb:∀ b,b∈bs→b<H.length:=fun b hb=>by
     have hs:=hsame b hb
     cases hq:H[b]? with
     | some o=>exact (List.getElem?_eq_some_iff.1 hq).1
     | none =>
      rw [List.getD_eq_getElem?_getD,hq] at hs
      cases hs
    have hsl:∀ b,b∈bs→st.heap[b]?=some (st.heap.getD b .dead):=fun b hb=>by
     have hs:=hsame b hb
     cases hq:st.heap[b]? with
     | some o=>rw [List.getD_eq_getElem?_getD,hq];rfl
     | none =>
      rw [List.getD_eq_getElem?_getD (l:=st.heap),hq] at hs
      cases hx:H.getD b .dead<;>rw [hx] at hs<;>cases hs
    have hH'b:∀ b,b∈bs→∃ o,H'[b]?=some o∧lentBl bs st.heap (st.heap.getD b .dead)=some o:=fun b hb=>by
     have hlt:=hHb b hb
     refine ⟨H'[b]'(by rw [hlen];exact hlt),by simp,?_⟩
     have:=hat b (H'[b]'(by rw [hlen];exact hlt)) (by simp)
     rw [List.getElem?_map,List.getElem?_range hlt] at this
     simp only [Option.map_some,Option.some.injEq] at this
     rw [show bs.contains b=true by simpa using hb,cond_true] at this
     exact this
    have hptr:∀ b j v,b∈bs→PtrR μ' st.heap b j v→PtrR μ H' b j v:=fun b j v hb hh=>by
     obtain ⟨g,e1,e2⟩:=hplace b hb
     obtain ⟨o,q1,q2⟩:=hH'b b hb
     unfold PtrR at *
     rw [hsl b hb] at hh
     rw [q1]
     refine ⟨hh.1,?_⟩
     have h5:=hh.2
     cases ho:st.heap.getD b .dead<;>rw [ho] at h5 q2<;>first | (cases q2;done) | skip
     ·simp only [lentBl] at q2
      split at q2
      ·cases q2
       obtain ⟨g',q3,q4⟩:=h5
       rw [e2] at q3;cases q3
       exact ⟨g,e1,q4⟩
      ·cases q2
     ·exact h5.elim
    have hcell:∀ y y' v,lentR bs st.heap y=some y'→V0R μ' ok' w' st.heap y v→V0R μ (fun g=>g<w'.heap.size∧(ok g∨w.heap.size≤g)) w' H' y' v:=fun y y' v hy hv=>by
     unfold lentR at hy
     cases hl:lentC bs y with
     | true =>
      rw [hl,cond_true] at hy
      cases hy
      exact lentC_trans (bs:=bs) hptr (fun c v hc=>CR.mono (fun g hg=>⟨hokk g hg,rfl⟩) hc) hl hv
     | false =>
      rw [hl,cond_false] at hy
      obtain ⟨hrf,hy⟩:=bif_some hy
      split at hy
      ·rename_i cv hsn
       cases hy
       refine snap_sound hm'.blk hokk depth (fun b' hb' _ g hg=>?_) hsn hv
       have hnb:b' ∉ bs:=by
        have:=List.all_eq_true.1 hrf b' hb'
        simpa using this
       obtain ⟨q1,q2,q3⟩:=hm'.fresh b' g hg
       refine ⟨q2,?_⟩
       rcases q1 with q1 | q1
       ·exact .inr q1
       ·exfalso
        obtain ⟨b0,hb0⟩:=q1
        obtain ⟨g',e1,e2⟩:=hplace b0 (hμ b0 g hb0)
        rw [hb0] at e1;cases e1
        exact hnb (hm'.inj b' b0 g hg e2 ▸ hμ b0 g hb0)
      ·cases hy
    refine ⟨⟨hm'.below,fun g hg=>⟨hg.1,hg.2.imp id .inl⟩,fun g hg=>hokk g (hm'.keep g hg),fun b g hg=>⟨.inr ⟨b,hg⟩,Nat.lt_of_lt_of_le (hfre b g hg).1 hws,fun hh=>?_⟩,hm.inj,fun b o hbo=>?_,fun b g r n f _ _ hg=>⟨b,hg⟩⟩,he'.glob.mono fun g hg=>⟨hokk g hg,rfl⟩,ResR.scalar hc1.2 (resR_of h2 h3),fun b hb=>?_⟩
    ·rcases hh.2 with q | q
     ·exact (hfre b g hg).2 q
     ·have:=(hfre b g hg).1;omega
    ·have hlt:b<H.length:=by rw [← hlen];exact (List.getElem?_eq_some_iff.1 hbo).1
     by_cases hb:b∈bs
     ·obtain ⟨o',q1,q2⟩:=hH'b b hb
      rw [hbo] at q1;cases q1
      obtain ⟨g,e1,e2⟩:=hplace b hb
      have hblk:=hm'.blk b _ (hsl b hb)
      cases ho:st.heap.getD b .dead<;>rw [ho] at hblk q2<;>first | (cases q2;done) | skip
      ·simp only [lentBl] at q2
       split at q2
       ·rename_i l hl
        cases q2
        obtain ⟨hll,hla⟩:=allSome_get hl
        rw [List.length_map] at hll
        obtain ⟨g',cur,e,z1,z2,z3,z4⟩:=hblk
        rw [e2] at z1;cases z1
        refine ⟨g,cur,e,e1,z2,by rw [z3,hll],fun j y' hj=>?_⟩
        have:=hla j y' hj
        rw [List.getElem?_map] at this
        obtain ⟨y,hq,this⟩:=Option.map_eq_some_iff.1 this
        obtain ⟨u,hu,hr⟩:=z4 j y hq
        exact ⟨u,hu,hcell y y' u this hr⟩
       ·cases q2
      ·cases q2
       obtain ⟨z0,z⟩:=hblk
       refine ⟨z0,?_⟩
       rcases z with ⟨_,z⟩ | ⟨g',cur,e,z1,z2,z3,z4⟩
       ·rw [e2] at z;cases z
       ·rw [e2] at z1;cases z1
        exact .inr ⟨g,cur,e,e1,z2,z3,fun i j hi hj=>by
         obtain ⟨y1,u,y2,y3⟩:=z4 i j hi hj
         exact ⟨y1,u,y2,CR.mono (fun g hg=>⟨hokk g hg,rfl⟩) y3⟩⟩
     ·have:=hat b o hbo
      rw [List.getElem?_map,List.getElem?_range hlt] at this
      simp only [Option.map_some,Option.some.injEq] at this
      rw [show bs.contains b=false by simpa using hb,cond_false] at this
      cases this
      trivial
    ·obtain ⟨o,q1,q2⟩:=hH'b b hb
     have e0:H'.getD b .dead=o:=by rw [List.getD_eq_getElem?_getD,q1];rfl
     rw [e0]
     have hs:=hsame b hb
     cases ho:st.heap.getD b .dead<;>cases ho2:H.getD b .dead<;>rw [ho,ho2] at hs<;>rw [ho] at q2<;>first | (cases hs;done) | skip
     ·simp only [lentBl] at q2
      split at q2
      ·rename_i l hl
       cases q2
       refine ⟨List.all_eq_true.2 fun y' hy'=>?_,trivial⟩
       obtain ⟨_,hla⟩:=allSome_get hl
       obtain ⟨j,hj⟩:=List.mem_iff_getElem?.1 hy'
       have:=hla j y' hj
       rw [List.getElem?_map] at this
       obtain ⟨y,hq,this⟩:=Option.map_eq_some_iff.1 this
       unfold lentR at this
       cases hl:lentC bs y with
       | true=>rw [hl,cond_true] at this;cases this;exact hl
       | false =>
        rw [hl,cond_false] at this
        obtain ⟨_,this⟩:=bif_some this
        split at this
        ·cases this;rfl
        ·cases this
      ·cases q2
     ·cases q2
      unfold sameB at hs
      rw [Bool.and_eq_true,Bool.and_eq_true] at hs
      exact ⟨hs.2.2,Kd.eq_of_beq hs.1,Nat.eq_of_beq_eq_true hs.2.1⟩
   ·cases hk
 cases e with
 | exit id=>cases hk
 | normal =>
  obtain ⟨v,hv,hR⟩:=main hk
  exact ⟨he'.defers.1,v,hv,hR⟩
 | ret =>
  obtain ⟨v,hv,hR⟩:=main hk
  exact ⟨he'.defers.1,v,hv,hR⟩
end Go.Eng
/-
 Functions to which blocks are lent,and functions that call themselves: how the printed texts speak of them.
-/
namespace Go.Eng
open Go Go.RowKit
structure RG (E:Type) (W:E→E→Prop) (α:Type) where
 rd:E→{ρ:Type}→(α→Option ρ)→Option ρ
 can:α→E
 nat:∀ (e:E) {ρ σ:Type} (K:α→Option ρ) (g:ρ→Option σ),(rd e K).bind g=rd e fun a=>(K a).bind g
 inv:∀ (e:E) {ρ:Type} (K:α→Option ρ) (r:ρ),rd e K=some r→∃ a,W e (can a)∧K a=some r
inductive WL {E:Type} (W:E→E→Prop):List E→List E→Prop
 | nil:WL W [] []
 | cons {a a' : E} {l l' : List E} (h:W a a') (hl:WL W l l'):WL W (a :: l) (a' :: l')
theorem WL.at_ {E:Type} {W:E→E→Prop}:∀ {l l' : List E},WL W l l'→l.length=l'.length∧(∀ (t:Nat) (c:E),l[t]?=some c→∃ c',l'[t]?=some c'∧W c c')∧∀ (t:Nat) (c' : E),l'[t]?=some c'→∃ c,l[t]?=some c∧W c c'
 | _,_,.nil=>⟨rfl,fun t c h=>by simp at h,fun t c' h=>by simp at h⟩
 | _,_,.cons h hl=>by
  obtain ⟨h1,h2,h3⟩:=hl.at_
  refine ⟨by simp [h1],fun t c ht=>?_,fun t c' ht=>?_⟩
  ·cases t with
   | zero=>simp at ht;subst ht;exact ⟨_,rfl,h⟩
   | succ t=>simpa using h2 t c (by simpa using ht)
  ·cases t with
   | zero=>simp at ht;subst ht;exact ⟨_,rfl,h⟩
   | succ t=>simpa using h3 t c' (by simpa using ht)
section
variable {E : Type} {W : E → E → Prop} {α β : Type}
def j0:RG (List E) (WL W) Unit where
 rd:=fun l {_} K=>match l with
  | []=>K ()
  | _=>none
 can:=fun _=>[]
 nat:=fun l {_ _} K g=>by cases l<;>rfl
 inv:=fun l {_} K r h=>by
  cases l<;>first | (cases h;done) | exact ⟨(),.nil,h⟩
def j1 (c:RG E W α):RG (List E) (WL W) α where
 rd:=fun l {_} K=>match l with
  | [a]=>c.rd a K
  | _=>none
 can:=fun x=>[c.can x]
 nat:=fun l {_ _} K g=>by
  match l with
  | []=>rfl
  | [a]=>exact c.nat a K g
  | _ :: _ :: _=>rfl
 inv:=fun l {_} K r h=>by
  match l,h with
  | [a],h =>
   obtain ⟨x,hx,hk⟩:=c.inv a K r h
   exact ⟨x,.cons hx .nil,hk⟩
def jc (c:RG E W α) (s:RG (List E) (WL W) β):RG (List E) (WL W) (α × β) where
 rd:=fun l {_} K=>match l with
  | a :: l=>c.rd a fun x=>s.rd l fun y=>K (x,y)
  | []=>none
 can:=fun x=>c.can x.1 :: s.can x.2
 nat:=fun l {_ _} K g=>by
  cases l with
  | nil=>rfl
  | cons a l=>dsimp only;rw [c.nat];congr 1;funext x;rw [s.nat]
 inv:=fun l {_} K r h=>by
  cases l with
  | nil=>cases h
  | cons a l =>
   obtain ⟨x,hx,hk⟩:=c.inv a _ r h
   obtain ⟨y,hy,hk⟩:=s.inv l _ r hk
   exact ⟨(x,y),.cons hx hy,hk⟩
end
inductive WkY:V0→V0→Prop
 | c {x x' : CV} (h:Wk x x'):WkY (.c x) (.c x')
 | fn (f:FuncId) (caps:List Cap):WkY (.fn f caps) (.fn f caps)
inductive WkB:Blk→Blk→Prop
 | dead:WkB .dead .dead
 | box {l l' : List V0} (h:WL WkY l l'):WkB (.box l) (.box l')
 | arr (r:Kd) (n:Nat) (f:Nat→Nat→CV):WkB (.arr r n f) (.arr r n f)
inductive WkV:V→V→Prop
 | c {x x' : CV} (h:Wk x x'):WkV (.x (.c x)) (.x (.c x'))
 | ptr (b j:Nat):WkV (.x (.ptr b j)) (.x (.ptr b j))
 | own (b off len:Nat):WkV (.x (.own b off len)) (.x (.own b off len))
def capsB:List Cap→List Cap→Bool
 | [],[]=>true
 | .ptr b j :: l,.ptr b' j' :: l'=>Nat.beq b b' && (Nat.beq j j' && capsB l l')
 | _,_=>false
theorem capsB_eq:∀ {l l' : List Cap},capsB l l' = true→l=l'
 | [],[],_=>rfl
 | .ptr b j :: l,.ptr b' j' :: l',h=>by
  unfold capsB at h
  rw [Bool.and_eq_true,Bool.and_eq_true] at h
  rw [Nat.eq_of_beq_eq_true h.1,Nat.eq_of_beq_eq_true h.2.1,capsB_eq h.2.2]
 | [],.ptr _ _ :: _,h=>by cases h
 | [],.c _ :: _,h=>by cases h
 | .ptr _ _ :: _,[],h=>by cases h
 | .ptr _ _ :: _,.c _ :: _,h=>by cases h
 | .c _ :: _,_,h=>by cases h
def gY {α:Type} (c:RC α):RG V0 WkY α where
 rd:=fun y {_} K=>match y with
  | .c x=>c.rd x K
  | _=>none
 can:=fun a=>.c (c.can a)
 nat:=fun y {_ _} K g=>by cases y<;>first | rfl | exact c.nat _ K g
 inv:=fun y {_} K r h=>by
  cases y<;>first | (cases h;done) | skip
  obtain ⟨x,hx,hk⟩:=c.inv _ K r h
  exact ⟨x,.c hx,hk⟩
def gF (f:FuncId) (caps:List Cap):RG V0 WkY Unit where
 rd:=fun y {_} K=>match y with
  | .fn f' caps'=>bif Nat.beq f f' && capsB caps caps' then K () else none
  | _=>none
 can:=fun _=>.fn f caps
 nat:=fun y {_ _} K g=>by
  cases y<;>first | rfl | (dsimp only;rw [bif_bind];rfl)
 inv:=fun y {_} K r h=>by
  cases y<;>first | (cases h;done) | skip
  rename_i f' caps'
  obtain ⟨h1,h2⟩:=bif_some (show (bif Nat.beq f f' && capsB caps caps' then K () else none)=some r from h)
  rw [Bool.and_eq_true] at h1
  have e1:=Nat.eq_of_beq_eq_true h1.1
  have e2:=capsB_eq h1.2
  subst e1 e2
  exact ⟨(),.fn _ _,h2⟩
def gDead:RG Blk WkB Unit where
 rd:=fun y {_} K=>match y with
  | .dead=>K ()
  | _=>none
 can:=fun _=>.dead
 nat:=fun y {_ _} K g=>by cases y<;>rfl
 inv:=fun y {_} K r h=>by
  cases y<;>first | (cases h;done) | exact ⟨(),.dead,h⟩
def gBox {α:Type} (s:RG (List V0) (WL WkY) α):RG Blk WkB α where
 rd:=fun y {_} K=>match y with
  | .box l=>s.rd l K
  | _=>none
 can:=fun a=>.box (s.can a)
 nat:=fun y {_ _} K g=>by cases y<;>first | rfl | exact s.nat _ K g
 inv:=fun y {_} K r h=>by
  cases y<;>first | (cases h;done) | skip
  obtain ⟨x,hx,hk⟩:=s.inv _ K r h
  exact ⟨x,.box hx,hk⟩
def gV {α:Type} (c:RC α):RG V WkV α where
 rd:=fun y {_} K=>match y with
  | .x (.c x)=>c.rd x K
  | _=>none
 can:=fun a=>.x (.c (c.can a))
 nat:=fun y {_ _} K g=>by
  cases y with
  | x y=>cases y<;>first | rfl | exact c.nat _ K g
  | _=>rfl
 inv:=fun y {_} K r h=>by
  cases y with
  | x y =>
   cases y<;>first | (cases h;done) | skip
   obtain ⟨x,hx,hk⟩:=c.inv _ K r h
   exact ⟨x,.c hx,hk⟩
  | _=>cases h
def gP (b j:Nat):RG V WkV Unit where
 rd:=fun y {_} K=>match y with
  | .x (.ptr b' j')=>bif Nat.beq b b' && Nat.beq j j' then K () else none
  | _=>none
 can:=fun _=>.x (.ptr b j)
 nat:=fun y {_ _} K g=>by
  cases y with
  | x y=>cases y<;>first | rfl | (dsimp only;rw [bif_bind];rfl)
  | _=>rfl
 inv:=fun y {_} K r h=>by
  cases y with
  | x y =>
   cases y<;>first | (cases h;done) | skip
   rename_i b' j'
   obtain ⟨h1,h2⟩:=bif_some (show (bif Nat.beq b b' && Nat.beq j j' then K () else none)=some r from h)
   rw [Bool.and_eq_true] at h1
   have e1:=Nat.eq_of_beq_eq_true h1.1
   have e2:=Nat.eq_of_beq_eq_true h1.2
   subst e1 e2
   exact ⟨(),.ptr _ _,h2⟩
  | _=>cases h
theorem WkB.ptr {H HC:List Blk} (h:WL WkB H HC) {μ:Nat→Option Nat} {b j:Nat} {v:Value} (hp:PtrR μ H b j v):PtrR μ HC b j v:=by
 obtain ⟨h1,h2⟩:=hp
 refine ⟨h1,?_⟩
 cases hq:H[b]? with
 | none=>rw [hq] at h2;exact h2.elim
 | some o =>
  rw [hq] at h2
  obtain ⟨o',h3,h4⟩:=h.at_.2.1 b o hq
  rw [h3]
  cases h4 with
  | dead=>trivial
  | box _=>exact h2
  | arr=>exact h2
theorem LDen.weaken {P:Program} {f:FuncId} {bs:List Nat} {vs vs' : List V} {H HC:List Blk} {res:List A} {H' : List Blk} (hv:WL WkV vs vs') (hh:WL WkB H HC) (hd:LDen P f bs vs' HC res H'):LDen P f bs vs H res H':=by
 refine ⟨hd.1,fun w ok μ us hμ hm hgl hsz hus=>?_⟩
 have hm' : MR ⟨w,rg μ⟩ ok μ ok HC w:=by
  refine ⟨hm.below,hm.okd,hm.keep,hm.fresh,hm.inj,fun b o' hb=>?_,fun b g r n f _ _ hg=>⟨b,hg⟩⟩
  obtain ⟨o,h1,h2⟩:=hh.at_.2.2 b o' hb
  have h3:=hm.blk b o h1
  cases h2 with
  | dead=>trivial
  | arr=>exact h3
  | box hl =>
   obtain ⟨g,cur,e,q1,q2,q3,q4⟩:=h3
   refine ⟨g,cur,e,q1,q2,by rw [q3,hl.at_.1],fun j c' hj=>?_⟩
   obtain ⟨c,z1,z2⟩:=hl.at_.2.2 j c' hj
   obtain ⟨u,hu,hr⟩:=q4 j c z1
   refine ⟨u,hu,?_⟩
   cases z2 with
   | c hw=>exact hw _ _ _ hr
   | fn f caps =>
    obtain ⟨cs,h5,h6,h7⟩:=hr
    refine ⟨cs,h5,h6,fun t c ht=>?_⟩
    obtain ⟨u',hu',hr'⟩:=h7 t c ht
    refine ⟨u',hu',?_⟩
    cases c with
    | c x=>exact hr'
    | ptr b j=>exact WkB.ptr hh hr'
 refine (hd.2 w ok μ us hμ hm' hgl (by rw [hsz,hv.at_.1]) (fun t v' ht=>?_)).mono fun e w' he=>?_
 ·obtain ⟨v,h1,h2⟩:=hv.at_.2.2 t v' ht
  obtain ⟨u,hu,hr⟩:=hus t v h1
  refine ⟨u,hu,?_⟩
  cases h2 with
  | c hw=>exact hw _ _ _ hr
  | ptr b j=>exact WkB.ptr hh hr
  | own b off len =>
   obtain ⟨q1,q2⟩:=hr
   refine ⟨q1,?_⟩
   cases hq:H[b]? with
   | none=>rw [hq] at q2;exact q2.elim
   | some o =>
    rw [hq] at q2
    obtain ⟨o',h3,h4⟩:=hh.at_.2.1 b o hq
    rw [h3]
    cases h4 with
    | dead=>trivial
    | box _=>exact q2.elim
    | arr=>exact q2
 ·obtain ⟨v,ok',h1,h2,h3,h4,h5⟩:=he
  refine ⟨v,ok',h1,h2,h3,h4,fun b hb=>⟨(h5 b hb).1,?_⟩⟩
  have h6:=(h5 b hb).2
  cases hq:HC[b]? with
  | none =>
   rw [List.getD_eq_getElem?_getD,hq] at h6
   cases H'.getD b .dead<;>exact h6.elim
  | some o' =>
   obtain ⟨o,z1,z2⟩:=hh.at_.2.2 b o' hq
   rw [List.getD_eq_getElem?_getD (l:=HC),hq] at h6
   rw [List.getD_eq_getElem?_getD (l:=H),z1]
   cases z2 with
   | dead=>exact h6
   | arr=>exact h6
   | box _ =>
    simp only [Option.getD_some] at h6 ⊢
    cases hz:H'.getD b .dead<;>rw [hz] at h6<;>first | exact h6.elim | trivial
section
variable {α β τ : Type}
def mkL (bs0:List Nat) (gv:RG (List V) (WL WkV) α) (gh:RG (List Blk) (WL WkB) β) (F:α × β→Option τ) (res:τ→List A) (hp:α × β→τ→List Blk):LOra where
 o:=fun bs vs H {_} K=>bif bs==bs0 then gv.rd vs fun a=>gh.rd H fun b=>ob (F (a,b)) fun t=>K (res t) (hp (a,b) t) else none
 nat:=fun bs vs H {_} K=>by
  cases bs==bs0 with
  | false=>rfl
  | true =>
   rw [cond_true,cond_true,gv.nat]
   congr 1;funext a
   rw [gh.nat]
   congr 1;funext b
   rw [bind_ob];rfl
def DL (o:LOra) (C:Oracle) (f:Nat) (F:AF):Prop:=∀ {P:Program},P.follows .mixedOrders=true→Sound P C→FFits P f F→∀ (bs:List Nat) (vs:List V) (H:List Blk) (res:List A) (H' : List Blk),(o.o bs vs H fun r h=>some (r,h))=some (res,H')→LDen P f bs vs H res H'
variable {bs0 : List Nat} {gv : RG (List V) (WL WkV) α} {gh : RG (List Blk) (WL WkB) β} {res : τ → List A} {hp : α × β → τ → List Blk} {C : Oracle} {f : Nat} {G : AF}
theorem mkL_inv {F:α × β→Option τ} {bs:List Nat} {vs:List V} {H:List Blk} {rs:List A} {H' : List Blk} (h:((mkL bs0 gv gh F res hp).o bs vs H fun r h=>some (r,h))=some (rs,H')) :
  bs=bs0∧∃ x t,WL WkV vs (gv.can x.1)∧WL WkB H (gh.can x.2)∧F x=some t∧rs=res t∧H' = hp x t:=by
 obtain ⟨h1,h⟩:=bif_some (show (bif bs==bs0 then gv.rd vs fun a=>gh.rd H fun b=>ob (F (a,b)) fun t=>some (res t,hp (a,b) t) else none)=some (rs,H') from h)
 obtain ⟨a,ha,h⟩:=gv.inv vs _ _ h
 obtain ⟨b,hb,h⟩:=gh.inv H _ _ h
 obtain ⟨t,ht,h⟩:=ob_inv h
 cases h
 exact ⟨by simpa using h1,(a,b),t,ha,hb,ht,rfl,rfl⟩
theorem dL (u:Nat) {F:α × β→Option τ} {pins:List (Nat × Nat)} (hoff:(pins.all fun p=>offB p.1 G.body)=true) (hpin:(bs0.all fun b=>pins.any fun p=>Nat.beq p.2 b)=true)
  (e:∀ x,evalS C u G bs0 pins (gv.can x.1) (gh.can x.2) (fun r h=>some (r,h))=ob (F x) fun t=>some (res t,hp x t)):DL (mkL bs0 gv gh F res hp) C f G:=by
 intro P hmix hC hf bs vs H rs H' h
 obtain ⟨rfl,x,t,h1,h2,h3,rfl,rfl⟩:=mkL_inv h
 exact LDen.weaken h1 h2 (evalS_sound hmix hC hf hoff hpin ((e x).trans (by rw [h3];rfl)))
def recF {α τ:Type} (G:(α→Option τ)→α→Option τ):Nat→α→Option τ
 | 0=>fun _=>none
 | n+1=>G (recF G n)
theorem recL {A0:AF} {G:(α × β→Option τ)→α × β→Option τ} (hd:∀ F,DL (mkL bs0 gv gh (G F) res hp) (C.addL f (mkL bs0 gv gh F res hp)) f A0) {P:Program} (hmix:P.follows .mixedOrders=true) (hC:Sound P C) (hF:FFits P f A0) :
  ∀ (n:Nat) (bs:List Nat) (vs:List V) (H:List Blk) (rs:List A) (H' : List Blk),((mkL bs0 gv gh (recF G n) res hp).o bs vs H fun r h=>some (r,h))=some (rs,H')→LDen P f bs vs H rs H'
 | 0,bs,vs,H,rs,H',h=>by
  obtain ⟨_,x,t,_,_,h3,_⟩:=mkL_inv h
  cases h3
 | n+1,bs,vs,H,rs,H',h=>hd (recF G n) hmix (hC.addL (recL hd hmix hC hF n)) hF bs vs H rs H' h
end
end Go.Eng
