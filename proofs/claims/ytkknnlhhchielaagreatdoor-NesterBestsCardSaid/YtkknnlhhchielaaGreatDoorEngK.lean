/-
 Operations,part 9: calls;all operations together.
-/
import Derived.Test.YtkknnlhhchielaaGreatDoorEngW
import Derived.Test.YtkknnlhhchielaaGreatDoorEngI2
set_option linter.all false
namespace Go.Eng
open Go Go.RowKit
variable {df : DF}
def dq (P:Program) (f:FuncId):Bool :=
 match P.funcs[f]? with
 | some fn => fn.name != "runtime.NumGoroutine" && fn.body.isSome
 | none=>false
def Den (P:Program) (f:FuncId) (args res:List A):Prop :=
 dq P f=true/\∀ (w:World) (okA:Nat->Prop) (vs:Array Value),(∀ g,okA g->g<w.heap.size)->eN okA w->ARs okA w args vs ->
  Calls P f vs w fun e w'=>∃ v ok',e=.returned v/\Below w.heap.size w w'/\(∀ g,ok' g->g<w'.heap.size/\(okA g\/w.heap.size<=g))/\(∀ g,okA g->ok' g)/\om ok' w' res v
structure sZ (P:Program) (f:FuncId) (r:Kd) (n:Nat) (g:Nat->Nat->CV) (rest:List A) (g' : Nat->Nat->CV):Prop where
 ok:dq P f=true
 zero:n=0->∀ (w:World) (okA:Nat->Prop) (a:Option Addr) (cap:Nat) (vs:Array Value),cap<=maxLen->(∀ g,okA g->g<w.heap.size)->eN okA w->ARs okA w rest vs ->
  Calls P f (#[.slice a 0 cap] ++ vs) w fun e w'=>∃ v,e=.returned v/\Below w.heap.size w w'
 rows:0<n->∀ (w:World) (okA:Nat->Prop) (gb cap:Nat) (cur:Array Value) (e:TypeId) (vs:Array Value),(∀ g,okA g->g<w.heap.size)->eN okA w->¬ okA gb->ARs okA w rest vs ->
  w.heap[gb]?=some (.cells cur e (0,0))->n<=cap->cap<=maxLen->cur.size=cap*r.len ->
  (∀ i j,i<n->j<r.len->(r.nth j).okP (g i j)/\∃ u,cur[i*r.len+j]?=some u/\CR okA w (g i j) u) ->
  Calls P f (#[.slice (some ⟨gb,0,none⟩) n cap] ++ vs) w fun e' w'=>∃ v w1 cur',e' = .returned v/\Below w.heap.size w w1 /\
   w'.heap=(w1.setRow gb cur').heap/\w'.os=w1.os/\(w'.tape=w1.tape/\w1.drawn<=w'.drawn)/\w'.output=w1.output/\cur'.size=cur.size /\
   ∀ i j,i<n->j<r.len->(r.nth j).okP (g' i j)/\∃ u,cur'[i*r.len+j]?=some u/\CR okA w (g' i j) u
def aZ (P:Program) (f:FuncId) (r:Kd) (args:List A) (n:Nat) (g:Nat->Nat->CV):Prop :=
 dq P f=true/\∀ (w:World) (okA:Nat->Prop) (vs:Array Value),(∀ g,okA g->g<w.heap.size)->eN okA w->ARs okA w args vs ->
  Calls P f vs w fun e w'=>∃ v cap,e=.returned v/\Below w.heap.size w w'/\n<=cap/\cap<=maxLen /\
   ((n=0/\∃ a,v=.slice a 0 0)\/∃ gb cur e,w.heap.size<=gb/\v=.slice (some ⟨gb,0,none⟩) n cap/\w'.heap[gb]?=some (.cells cur e (0,0))/\cur.size=cap*r.len /\
    ∀ i j,i<n->j<r.len->(r.nth j).okP (g i j)/\∃ u,cur[i*r.len+j]?=some u/\CR (fun _=>False) w' (g i j) u)
structure WY (P:Program) (f:FuncId) (r:Kd) (n:Nat) (g:Nat->Nat->CV) (rest:List A) (m:Nat) (g' : Nat->Nat->CV):Prop where
 ok:dq P f=true
 zero:n=0->m=0/\∀ (w:World) (okA:Nat->Prop) (a:Option Addr) (vs:Array Value),(∀ g,okA g->g<w.heap.size)->eN okA w->ARs okA w rest vs ->
  Calls P f (#[.slice a 0 0] ++ vs) w fun e w'=>∃ a',e=.returned (.slice a' 0 0)/\Below w.heap.size w w'
 rows:∀ (w:World) (okA:Nat->Prop) (gb cap:Nat) (cur:Array Value) (e:TypeId) (vs:Array Value),(∀ g,okA g->g<w.heap.size)->eN okA w->¬ okA gb->ARs okA w rest vs ->
  w.heap[gb]?=some (.cells cur e (0,0))->n<=cap->cap<=maxLen->cur.size=cap*r.len ->
  (∀ i j,i<n->j<r.len->(r.nth j).okP (g i j)/\∃ u,cur[i*r.len+j]?=some u/\CR okA w (g i j) u) ->
  Calls P f (#[.slice (some ⟨gb,0,none⟩) n cap] ++ vs) w fun e' w'=>∃ w1 cur' a' cap',e' = .returned (.slice a' m cap')/\(m=0/\cap' = 0\/a' = some ⟨gb,0,none⟩/\cap' = cap)/\Below w.heap.size w w1 /\
   w'.heap=(w1.setRow gb cur').heap/\w'.os=w1.os/\(w'.tape=w1.tape/\w1.drawn<=w'.drawn)/\w'.output=w1.output/\cur'.size=cur.size /\
   ∀ i j,i<m->j<r.len->(r.nth j).okP (g' i j)/\∃ u,cur'[i*r.len+j]?=some u/\CR okA w (g' i j) u
def WW (bs:List Nat) (H H' : List Blk):Prop :=
 ∀ b,b∈bs->N8 bs (H'.getD b .dead)=true /\
  match H.getD b .dead,H'.getD b .dead with
  | .box _,.box _=>True
  | .arr r n _,.arr r' n' _=>r=r'/\n=n'
  | _,_=>False
def ach (P:Program) (f:FuncId) (bs:List Nat) (vs:List V) (H:List Blk) (res:List A) (H' : List Blk):Prop :=
 dq P f=true/\∀ (w:World) (ok:Nat->Prop) (μ:Nat->Option Nat) (us:Array Value),(∀ b g,μ b=some g->b∈bs)->MR ⟨w,rg μ⟩ ok μ ok H w->eN ok w->us.size=vs.length->(∀ (t:Nat) (v:V),vs[t]?=some v->∃ u,us[t]?=some u/\VR μ ok w H v u) ->
  Calls P f us w fun e w'=>∃ v ok',e=.returned v/\MR ⟨w,rg μ⟩ ok μ ok' H' w'/\eN ok' w'/\om ok' w' res v/\WW bs H H'
structure az (P:Program) (C:ao):Prop where
 call:∀ f args res,C.call f args some=some res->Den P f args res
 turn:∀ f r n g rest g',C.turn f r n g rest=some g'->sZ P f r n g rest g'
 fresh:∀ f r args n g,C.fresh f r args=some (n,g)->n<=1073741824->aZ P f r args n g
 cut:∀ f r n g rest m g',C.cut f r n g rest=some (m,g')->m<=n->WY P f r n g rest m g'
 lend:∀ f bs vs H res H',(C.lend f bs vs H fun r h=>some (r,h))=some (res,H')->ach P f bs vs H res H'
theorem ao.use {C:ao} {f:FuncId} {args:List A} {ρ:Type} {K:List A->Option ρ} {r:ρ} (h:C.call f args K=some r):∃ res,C.call f args some=some res/\K res=some r/\∀ {ρ' : Type} (K' : List A->Option ρ'),C.call f args K' = K' res:=by
 rw [C.nat] at h
 cases hq:C.call f args some with
 | none=>rw [hq] at h;cases h
 | some res=>rw [hq] at h;exact ⟨res,rfl,h,fun K'=>by rw [C.nat,hq];rfl⟩
section
variable {ρ : Type} {P : Program} {C : ao} {hb : Nat} {w0 : cD} {okA : Nat -> Prop} {μ : Nat -> Option Nat} {ok : Nat -> Prop} {st : St} {a : Act} {w : World}
 {o:Oper} {k:V->St->Option ρ} {r:ρ} {next:Act->World->Prop} {Q:Exit->Act->World->Prop}
theorem CR.scalar {x:CV} {v:Value} {ok' : Nat->Prop} {w' : World} (h:x.scalar=true) (hv:CR ok w x v):CR ok' w' x v:=by
 cases x<;>first | exact hv | simp [CV.scalar] at h
theorem AR.scalar {x:A} {v:Value} {ok' : Nat->Prop} {w' : World} (h:x.scalar=true) (hv:AR ok w x v):AR ok' w' x v:=by
 cases x with
 | v x=>exact CR.scalar h hv
 | agg l =>
  obtain ⟨cs,hp,hs,hc⟩:=hv
  refine ⟨cs,hp,hs,fun t c ht=>?_⟩
  obtain ⟨u,hu,hr⟩:=hc t c ht
  exact ⟨u,hu,CR.scalar (qiZ.1 h c (qrZ ht)) hr⟩
theorem om.scalar {res:List A} {v:Value} {ok' : Nat->Prop} {w' : World} (h:res.all (·.scalar)=true) (hv:om ok w res v):om ok' w' res v:=by
 unfold om at hv ⊢
 split at hv
 ·rename_i x
  exact AR.scalar (by simpa using h) hv
 ·obtain ⟨vs,hp,hs,hc⟩:=hv
  refine ⟨vs,hp,hs,fun t x ht=>?_⟩
  obtain ⟨u,hu,hr⟩:=hc t x ht
  exact ⟨u,hu,AR.scalar (qiZ.1 h x (qrZ ht)) hr⟩
theorem om.toV {res:List A} {v:Value} (h:om ok w res v):VR μ ok w st.heap (lm res) v:=by
 unfold om at h
 unfold lm
 split at h
 ·exact h.toV
 ·rename_i h1
  split
  ·rename_i x;exact absurd rfl (h1 x)
  ·exact h
theorem MR.call (hm:MR w0 okA μ ok st.heap w) {w' : World} {ok' : Nat->Prop} (hb:Below w.heap.size w w') (hok:∀ g,ok' g->g<w'.heap.size/\(ok g\/w.heap.size<=g)) (hkeep:∀ g,ok g->ok' g) :
  MR w0 okA μ ok' st.heap w'/\Ext μ ok w st.heap μ ok' w' st.heap:=by
 have hold:∀ k,k<w.heap.size->w'.heap[k]?=w.heap[k]?:=hb.block
 have E:Ext μ ok w st.heap μ ok' w' st.heap:=by
  refine ⟨fun k hk=>⟨hkeep k hk,hold k (hm.okd k hk).1⟩,fun b hb'=>hb',fun b cs hb'=>.inr ⟨⟨cs,hb'⟩,rfl⟩,fun b rr n f hb'=>.inr ⟨⟨f,hb'⟩,rfl,fun g cur e hg hw=>⟨cur,e,?_,rfl⟩⟩,fun b sb n f hb'=>.inr ⟨⟨n,f,hb'⟩,rfl⟩,fun b κ n ln f hb'=>.inr ⟨⟨f,hb'⟩,rfl,fun _=>rfl⟩⟩
  rw [hold g (hm.fresh b g hg).2.1];exact hw
 refine ⟨⟨hm.below.trans (hb.mono hm.below.size),fun g hg=>⟨(hok g hg).1,?_⟩,fun g hg=>hkeep g (hm.keep g hg),fun b g hg=>?_,hm.inj,fun b o hb'=>?_,hm.tag⟩,E⟩
 ·rcases (hok g hg).2 with h | h
  ·exact (hm.okd g h).2
  ·exact .inr (.inl (Nat.le_trans hm.below.size h))
 ·have:=hm.fresh b g hg
  refine ⟨this.1,qxZ this.2.1 hb.size,fun h=>?_⟩
  rcases (hok g h).2 with h' | h'
  ·exact this.2.2 h'
  ·omega
 ·exact E.blk rfl (fun _ _=>rfl) (fun k g _ hg=>hold g (hm.fresh k g hg).2.1) (hm.blk b o hb')
theorem dz {f:FuncId} {args:Array Value} (h:dq P f=true):(callFunc f args).run P w=.ok (.enter f args) w:=by
 unfold dq at h
 split at h
 ·rename_i fn hf
  simp only [qaZ,bne_iff_ne,ne_eq] at h
  have h2:fn.body.isNone=false:=by
   cases hb:fn.body with
   | none=>rw [hb] at h;simp at h
   | some b=>rfl
  have h1 : (fn.name == "runtime.NumGoroutine") = false := by simpa using h.1
  have h3:fn.body≠none:=by intro hn;rw [hn] at h2;cases h2
  simp [callFunc,hf,h.1,h3]
 ·cases h
theorem CY (hC:az P C) (hm:MR w0 okA μ ok st.heap w) (he:ER df μ ok st.heap w st.env a) (hk:dD df w0 okA a k r fun u w=>next (a.put o.dst u) w)
  {f:FuncId} {args:List V} {vs:List Value} {m:Mode} (hargs:args.length=vs.length) (hav:∀ (t:Nat) (v:V),args[t]?=some v->∃ u,vs[t]?=some u/\VR μ ok w st.heap v u)
  (hrun:dq P f=true->(execOp a.eval o).run P w=.ok (.enter f vs.toArray) w) (h:lz C f args m st k=some r):o.wp P a w next Q:=by
 unfold lz at h
 split at h
 ·cases h
 ·rename_i as has
  obtain ⟨hl,hg⟩:=aX has
  rw [rcZ] at hl
  ·obtain ⟨res,hres,h,_⟩:=ao.use h
   obtain ⟨hok0,hden⟩:=hC.call f as res hres
   have hreads:∀ okS:Nat->Prop,(∀ g,ok g->okS g)->(∀ b∈(args.map (eJ st.heap)).flatten,b<st.heap.length->∀ g,μ b=some g->okS g)->ARs okS w as vs.toArray:=by
    intro okS h1 h2
    refine ⟨by simp;omega,fun t x ht=>?_⟩
    have h3:=hg t x ht
    rw [qhZ] at h3
    cases hq:args[t]? with
    | none=>rw [hq] at h3;cases h3
    | some v =>
     rw [hq] at h3
     simp only [Option.map_some,rbZ] at h3
     obtain ⟨u,hu,hr⟩:=hav t v hq
     exact ⟨u,by simpa using hu,ou hm.blk h1 (fun b hb hlt=>h2 b (qyZ.2 ⟨_,rjZ.2 ⟨v,qrZ hq,rfl⟩,hb⟩) hlt) h3 hr⟩
   have hwp:∀ R:Ending->World->Prop,Calls P f vs.toArray w R->(∀ e w',R e w'->∃ v,e=.returned v/\next (a.put o.dst v) w')->o.wp P a w next Q:=by
    intro R hc hR
    unfold Oper.wp
    rw [hrun hok0,Oper.upon_enter]
    refine hc.mono fun e w' he=>?_
    obtain ⟨v,rfl,hn⟩:=hR e w' he
    exact hn
   cases m with
   | snap =>
    dsimp only at h
    obtain ⟨h1,h2⟩:=ah h
    have hrd:=hreads (fun g=>g<w.heap.size) (fun g hg=>(hm.okd g hg).1) (fun b _ _ g hg=>(hm.fresh b g hg).2.1)
    refine hwp _ (hden w (fun g=>g<w.heap.size) vs.toArray (fun g h=>h) (he.glob.mono fun g hg=>⟨(hm.okd g hg).1,rfl⟩) hrd) ?_
    rintro e w' ⟨v,ok',rfl,hbel,_,_,hres⟩
    obtain ⟨hm',E⟩:=hm.call (ok':=ok) hbel (fun g hg=>⟨qxZ (hm.okd g hg).1 hbel.size,.inl hg⟩) (fun g hg=>hg)
    exact ⟨v,rfl,hk _ _ _ _ _ _ hm' (he.ext E) (om.scalar h1 hres).toV h2⟩
   | freeze =>
    dsimp only at h
    obtain ⟨μ1,ok1,hm1,E1,hok1,hkill,hμ1,hH1⟩:=hm.freeze ((args.map (eJ st.heap)).flatten)
    have hrd:=hreads ok1 (fun g hg=>(E1.ok g hg).1) hkill
    refine hwp _ (hden w ok1 vs.toArray (fun g h=>(hm1.okd g h).1) (he.glob.mono E1.ok) hrd) ?_
    rintro e w' ⟨v,ok',rfl,hbel,hok',hkeep,hres⟩
    obtain ⟨hm2,he2⟩:=li hm he ((args.map (eJ st.heap)).flatten) hm1 E1 hkill hH1
    obtain ⟨hm',E⟩:=MR.call hm2 hbel hok' hkeep
    exact ⟨v,rfl,hk _ _ _ (st.thaw ((args.map (eJ st.heap)).flatten)) _ _ hm' (he2.ext E) hres.toV h⟩
theorem mM (he:ER df μ ok st.heap w st.env a) (args:List Operand) (t:Nat) (v:V) (h:(args.map st.ev)[t]?=some v):∃ u,(args.map a.eval)[t]?=some u/\VR μ ok w st.heap v u:=by
 rw [qhZ] at h
 cases hq:args[t]? with
 | none=>rw [hq] at h;cases h
 | some x =>
  rw [hq] at h;cases h
  exact ⟨a.eval x,by rw [qhZ,hq];rfl,aF he x⟩
theorem QJ (hC:az P C) (hm:MR w0 okA μ ok st.heap w) (he:ER df μ ok st.heap w st.env a) (hk:dD df w0 okA a k r fun u w=>next (a.put o.dst u) w)
  {f:FuncId} {args:List Operand} {ts:List TypeId} {m:Mode} (ho:o.op=(AOp.call f args ts m).erase) (h:aj C hb st (.call f args ts m) k=some r):o.wp P a w next Q:=by
 simp only [aj] at h
 refine CY hC hm he hk (vs:=args.map a.eval) (by simp) (mM he args) (fun hok=>?_) h
 have hc:=dz (P:=P) (w:=w) (args:=(args.map a.eval).toArray) hok
 simp [execOp,ho,AOp.erase,resolve,invoke,Act.eval,Deferred.ofValue,hc]
theorem M9 (hC:az P C) (hm:MR w0 okA μ ok st.heap w) (he:ER df μ ok st.heap w st.env a) (hk:dD df w0 okA a k r fun u w=>next (a.put o.dst u) w)
  {g:Operand} {args:List Operand} {ts:List TypeId} {m:Mode} (ho:o.op=(AOp.callv g args ts m).erase) (h:aj C hb st (.callv g args ts m) k=some r):o.wp P a w next Q:=by
 have hg:=aF he g
 have main:∀ (f:FuncId) (cs:Array Value) (caps:List V),a.eval g=.func (.func f) #[] cs->caps.length=cs.size->(∀ (t:Nat) (v:V),caps[t]?=some v->∃ u,cs[t]?=some u/\VR μ ok w st.heap v u) ->
   lz C f (args.map st.ev ++ caps) m st k=some r->o.wp P a w next Q:=by
  intro f cs caps h1 h2 h3 h4
  refine CY hC hm he hk (vs:=args.map a.eval ++ cs.toList) (by simp [h2]) (fun t v ht=>?_) (fun hok=>?_) h4
  ·by_cases hlt:t<args.length
   ·rw [qnZ (by simpa using hlt)] at ht ⊢
    exact mM he args t v ht
   ·rw [qsZ (by simp;omega)] at ht
    rw [qsZ (by simp;omega)]
    simp only [rcZ] at ht ⊢
    simpa using h3 _ v ht
  ·have hc:=dz (P:=P) (w:=w) (args:=(args.map a.eval ++ cs.toList).toArray) hok
   have e1:(args.map a.eval ++ cs.toList).toArray=(args.map a.eval).toArray ++ cs:=by simp
   rw [e1] at hc ⊢
   simp only [execOp,ho,AOp.erase,resolve,invoke,h1,Deferred.ofValue]
   simp [hc]
 simp only [aj] at h
 split at h
 ·rename_i y hgv
  rw [hgv] at hg
  split at h
  ·rename_i f caps
   obtain ⟨cs,hp,hs,hc⟩:=hg
   refine main f cs _ hp (by simp [hs]) (fun t v ht=>?_) h
   rw [qhZ] at ht
   cases hq:caps[t]? with
   | none=>rw [hq] at ht;cases ht
   | some c =>
    rw [hq] at ht
    simp only [Option.map_some,rbZ] at ht
    obtain ⟨u,hu,hr⟩:=hc t c hq
    refine ⟨u,hu,?_⟩
    cases c with
    | c x=>subst ht;exact hr
    | ptr b j=>subst ht;exact hr
  ·rename_i f nc caps
   obtain ⟨cs,hp,hs,hc⟩:=hg
   refine main f cs _ hp (by simp [hs]) (fun t v ht=>?_) h
   rw [qhZ] at ht
   by_cases hlt:t<nc
   ·rw [raZ hlt] at ht
    simp only [Option.map_some,rbZ] at ht
    obtain ⟨u,hu,hr⟩:=hc t hlt
    exact ⟨u,hu,by subst ht;exact hr⟩
   ·rw [rmZ (by simp;omega)] at ht;cases ht
  ·cases h
 ·cases h
theorem Cn {v:V} {x:A} {u:Value} (h:D1 v=some x) (hv:VR μ ok w st.heap v u):AR ok w x u:=by
 unfold D1 at h
 split at h
 ·cases h;exact hv
 ·cases h
  obtain ⟨cs,hp,hs,_⟩:=hv
  exact ⟨cs,hp,hs,fun j hj=>absurd hj (Nat.not_lt_zero j)⟩
 ·rename_i l
  split at h
  ·rename_i l' hl
   cases h
   obtain ⟨cs,hp,hs,hc⟩:=hv
   obtain ⟨h1,h2⟩:=aX hl
   rw [rcZ] at h1
   refine ⟨cs,hp,by omega,fun t c ht=>?_⟩
   have h3:=h2 t c ht
   rw [qhZ] at h3
   cases hq:l[t]? with
   | none=>rw [hq] at h3;cases h3
   | some y =>
    rw [hq] at h3
    simp only [Option.map_some,rbZ] at h3
    obtain ⟨u,hu,hr⟩:=hc t y hq
    cases y<;>first | cases h3 | skip
    exact ⟨u,hu,hr⟩
  ·cases h
 ·cases h
theorem VZ (hC:az P C) (hm:MR w0 okA μ ok st.heap w) (he:ER df μ ok st.heap w st.env a) (hk:dD df w0 okA a k r fun u w=>next (a.put o.dst u) w)
  {f:FuncId} {x:Operand} {rest:List Operand} {ts:List TypeId} (ho:o.op=(AOp.turn f x rest ts).erase) (h:aj C hb st (.turn f x rest ts) k=some r):o.wp P a w next Q:=by
 have hx:=aF he x
 simp only [aj] at h
 split at h
 ·cases h
 ·rename_i as has
  have hrest:ARs ok w as (rest.map a.eval).toArray:=by
   obtain ⟨h1,h2⟩:=aX has
   rw [rcZ] at h1
   refine ⟨by simp [h1],fun t z ht=>?_⟩
   have h3:=h2 t z ht
   rw [qhZ] at h3
   cases hq:rest[t]? with
   | none=>rw [hq] at h3;cases h3
   | some y =>
    rw [hq] at h3
    simp only [Option.map_some,rbZ] at h3
    exact ⟨a.eval y,by simp [hq],Cn h3 (aF he y)⟩
  have hrun:∀ v,a.eval x=v->dq P f=true->(execOp a.eval o).run P w=.ok (.enter f (#[v] ++ (rest.map a.eval).toArray)) w:=by
   intro v hv hok
   have hc:=dz (P:=P) (w:=w) (args:=#[v] ++ (rest.map a.eval).toArray) hok
   have e1:(#[v] ++ (rest.map a.eval).toArray)=(v::rest.map a.eval).toArray:=by simp
   rw [e1] at hc ⊢
   have hfv:a.eval (.func f)=.func (.func f) #[] #[]:=rfl
   simp only [execOp,ho,AOp.erase,resolve,invoke,hfv,Deferred.ofValue]
   simp [hv,hc]
  have hwp:∀ (v:Value) (R:Ending->World->Prop),a.eval x=v->dq P f=true->Calls P f (#[v] ++ (rest.map a.eval).toArray) w R->(∀ e w',R e w'->∃ v,e=.returned v/\next (a.put o.dst v) w')->o.wp P a w next Q:=by
   intro v R hv hok hc hR
   unfold Oper.wp
   rw [hrun v hv hok,Oper.upon_enter]
   refine hc.mono fun e w' he=>?_
   obtain ⟨v,rfl,hn⟩:=hR e w' he
   exact hn
  have quiet:∀ (res0:ρ),res0=r->∀ (v:Value) {r:Kd} {n:Nat} {g g' : Nat->Nat->CV} (al:Option Addr) (cap:Nat),cap<=maxLen->v=.slice al 0 cap->n=0->a.eval x=v->C.turn f r n g as=some g'->k .u st=some res0->o.wp P a w next Q:=by
   intro res0 hres0 v rr n g g' al cap hcapm hv hn hev ht hkk
   subst hres0
   have hd:=hC.turn _ _ _ _ _ _ ht
   refine hwp v _ hev hd.ok (hv ▸ hd.zero hn w ok al cap _ hcapm (fun g hg=>(hm.okd g hg).1) he.glob hrest) ?_
   rintro e w' ⟨v',rfl,hbel⟩
   obtain ⟨hm',E⟩:=hm.call (ok':=ok) hbel (fun g hg=>⟨qxZ (hm.okd g hg).1 hbel.size,.inl hg⟩) (fun g hg=>hg)
   exact ⟨v',rfl,hk _ _ .u _ v' _ hm' (he.ext E) trivial hkk⟩
  split at h
  ·rename_i b off len hv
   rw [hv] at hx
   split at h
   ·rename_i off rr n g hb'
    obtain ⟨_,hx⟩:=hx
    rw [hb'] at hx
    obtain ⟨hle,al,cap,hval,hlc,hcm,hcase⟩:=hx
    split at h
    ·rename_i g' ht
     obtain ⟨hln,h⟩:=ah h
     have hln:=qbZ hln
     by_cases hl0:len=0
     ·subst hl0
      have:Nat.beq 0 0=true:=rfl
      rw [this] at h
      exact quiet _ rfl _ al cap hcm hval rfl rfl ht h
     ·have:Nat.beq len 0=false:=by
       cases hq:Nat.beq len 0 with
       | false=>rfl
       | true=>exact (hl0 (qbZ hq)).elim
      rw [this] at h
      have h:k .u (st.setB b (.arr rr n g'))=some r:=h
      have hd:=hC.turn _ _ _ _ _ _ ht
      obtain ⟨g1,cur,e,hg1,hal,hw1,hsz⟩:=hcase.resolve_left fun hh=>hl0 hh.1
      obtain ⟨hpos,hblk⟩:=hm.blk b _ hb'
      obtain ⟨g2,cur2,e2,hg2,hw2,hsz2,hrows⟩:=hblk.resolve_left fun hh=>by omega
      rw [hg1] at hg2;cases hg2
      rw [hw1] at hw2;cases hw2
      rw [Nat.zero_mul] at hal
      rw [rlZ] at hsz hle
      subst hal
      have hlp:0<len:=Nat.pos_of_ne_zero hl0
      refine hwp _ _ hval hd.ok (hd.rows hlp w ok g1 cap cur e _ (fun g hg=>(hm.okd g hg).1) he.glob (hm.fresh b g1 hg1).2.2 hrest hw1 hlc hcm hsz (fun i j hi hj=>hrows i j (by omega) hj)) ?_
      rintro e' w' ⟨v',w1,cur',rfl,hbel,hheap,hos,htape,hout,hcs,hnew⟩
      obtain ⟨hm1,E1⟩:=hm.call (ok':=ok) hbel (fun g hg=>⟨qxZ (hm.okd g hg).1 hbel.size,.inl hg⟩) (fun g hg=>hg)
      have hw1' : w1.heap[g1]?=some (.cells cur e (0,0)):=by rw [hbel.block g1 (hm.fresh b g1 hg1).2.1];exact hw1
      obtain ⟨hm2,E2⟩:=hm1.update (o':=.arr rr n g') hb' hg1 hw1' hcs (.inr ⟨rr,n,g,_,rfl,rfl⟩) fun E=>by
       refine ⟨hpos,.inr ⟨g1,cur',e,hg1,setRow_heap w1 g1 cur cur' e _ hw1',by rw [hcs];exact hsz2,fun i j hi hj=>?_⟩⟩
       have hok2:∀ q,ok q->ok q/\(w1.setRow g1 cur').heap[q]?=w.heap[q]?:=fun q hq=>⟨hq,((E.ok q hq).2).trans (E1.ok q hq).2⟩
       obtain ⟨hk1,u,hu,hr⟩:=hnew i j (by omega) hj
       exact ⟨hk1,u,hu,CR.mono hok2 hr⟩
      have E3:Ext μ ok (w1.setRow g1 cur') (st.heap.set b (.arr rr n g')) μ ok w' (st.heap.set b (.arr rr n g')) :=
       ⟨fun g hg=>⟨hg,by rw [hheap]⟩,fun b hb=>hb,fun b cs hb=>.inr ⟨⟨cs,hb⟩,rfl⟩,fun b r n f hb=>.inr ⟨⟨f,hb⟩,rfl,fun g cur e _ hw=>⟨cur,e,by rw [hheap];exact hw,rfl⟩⟩,fun b sb n f hb=>.inr ⟨⟨n,f,hb⟩,rfl⟩,fun b κ n ln f hb=>.inr ⟨⟨f,hb⟩,rfl,fun _=>rfl⟩⟩
      have hm3:MR w0 okA μ ok (st.heap.set b (.arr rr n g')) w':=by
       refine ⟨⟨hos.trans hm2.below.os,htape.1.trans hm2.below.tape,hout.trans hm2.below.output,by rw [hheap];exact hm2.below.size,fun k hk ho=>by rw [hheap];exact hm2.below.block k hk ho,fun k ho cu e' hc=>by rw [hheap];exact hm2.below.lent k ho cu e' hc,Nat.le_trans hm2.below.drawn htape.2⟩,fun g hg=>by rw [hheap];exact hm2.okd g hg,hm2.keep,fun b g hg=>by rw [hheap];exact hm2.fresh b g hg,hm2.inj,fun b o ho'=>E3.blk rfl (fun _ _=>rfl) (fun _ g _ _=>by rw [hheap]) (hm2.blk b o ho'),hm2.tag⟩
      exact ⟨v',rfl,hk _ _ .u (st.setB b (.arr rr n g')) v' _ hm3 (((he.ext E1).ext E2).ext E3) trivial h⟩
    ·cases h
   ·cases h
  ·rename_i rr g hv
   rw [hv] at hx
   split at h
   ·rename_i g' ht
    obtain ⟨al,cap,hval,hle,hcm,hfull,_⟩:=hx
    exact quiet _ rfl _ al cap hcm hval rfl rfl ht h
   ·cases h
  ·cases h
theorem Na (hC:az P C) (hm:MR w0 okA μ ok st.heap w) (he:ER df μ ok st.heap w st.env a) (hk:dD df w0 okA a k r fun u w=>next (a.put o.dst u) w)
  {q:Nat} {f:FuncId} {args:List Operand} {ts:List TypeId} {rr:Kd} (ho:o.op=(AOp.callo q f args ts rr).erase) (hP:(AOp.callo q f args ts rr).okP P=true)
  (h:aj C hb st (.callo q f args ts rr) k=some r):o.wp P a w next Q:=by
 simp only [AOp.okP,qaZ] at hP
 obtain ⟨⟨hP1,hflat⟩,htg⟩:=hP
 have hpos:0<rr.len:=by simpa using hP1
 have htg:rr.tagged=false:=by simpa using htg
 simp only [aj] at h
 split at h
 ·cases h
 ·rename_i as has
  obtain ⟨hl,hg⟩:=aX has
  rw [rcZ] at hl
  have hrd:ARs (fun g=>g<w.heap.size) w as (args.map a.eval).toArray:=by
   refine ⟨by simp at hl;simp [hl],fun t x ht=>?_⟩
   have h3:=hg t x ht
   rw [qhZ] at h3
   cases hq:(args.map st.ev)[t]? with
   | none=>rw [hq] at h3;cases h3
   | some v =>
    rw [hq] at h3
    simp only [Option.map_some,rbZ] at h3
    obtain ⟨u,hu,hr⟩:=mM he args t v hq
    exact ⟨u,by simpa using hu,ou hm.blk (fun g hg=>(hm.okd g hg).1) (fun b _ _ g hg=>(hm.fresh b g hg).2.1) h3 hr⟩
  split at h
  ·rename_i p hfr
   obtain ⟨n,g⟩:=p
   obtain ⟨hble,h⟩:=ah h
   have hd:=hC.fresh f rr as n g hfr (qpZ hble)
   have hrun:(execOp a.eval o).run P w=.ok (.enter f (args.map a.eval).toArray) w:=by
    have hc:=dz (P:=P) (w:=w) (args:=(args.map a.eval).toArray) hd.1
    simp [execOp,ho,AOp.erase,resolve,invoke,Act.eval,Deferred.ofValue,hc]
   unfold jO at h
   split at h
   ·rename_i hres
    unfold Oper.wp
    rw [hrun,Oper.upon_enter]
    refine (hd.2 w (fun g=>g<w.heap.size) _ (fun g h=>h) (he.glob.mono fun g hg=>⟨(hm.okd g hg).1,rfl⟩) hrd).mono fun e w' hh=>?_
    obtain ⟨v,cap,rfl,hbel,hnc,hcm,hcase⟩:=hh
    obtain ⟨hm',E⟩:=hm.call (ok':=ok) hbel (fun g hg=>⟨qxZ (hm.okd g hg).1 hbel.size,.inl hg⟩) (fun g hg=>hg)
    have hlt:hb+q<st.heap.length:=(qfZ.1 hres).1
    rcases hcase with ⟨h0,al,rfl⟩ | ⟨gb,cur,ee,hgb,rfl,hcell,hsz,hrows⟩
    ·have h0:n=0:=h0
     subst h0
     obtain ⟨hm2,E2⟩:=hm'.install0 hres hpos g
     refine hk μ ok (.x (.own (hb+q) 0 0)) (st.setB (hb+q) (.arr rr 0 g)) _ _ hm2 ((he.ext E).ext E2) ?_ h
     refine ⟨rfl,?_⟩
     rw [show (st.setB (hb+q) (.arr rr 0 g)).heap[hb+q]?=some (.arr rr 0 g) from qkZ hlt]
     exact ⟨rkZ _,al,0,rfl,rkZ _,Nat.zero_le _,.inl ⟨rfl,rfl⟩⟩
    ·have hgs:gb<w'.heap.size:=(qqZ.1 hcell).1
     obtain ⟨hm2,E2⟩:=hm'.install (w':=w') (g:=gb) (.arr rr n g) hres hm'.below (rkZ _) (fun _ _=>rfl) (fun _ _ _=>rfl)
      ⟨.inl (Nat.le_trans hm.below.size hgb),hgs,fun hh=>by have:=(hm.okd _ hh).1;omega⟩ (fun b' hh=>by have:=(hm.fresh b' _ hh).2.1;omega) (fun r' n' f' hh ht=>by cases hh;rw [htg] at ht;cases ht)
      (fun E=>⟨hpos,.inr ⟨gb,cur,ee,je _ _ _,hcell,by rw [hsz];exact quZ _ hnc,fun i j hi hj=>by
       obtain ⟨h1,u,hu,hr⟩:=hrows i j hi hj
       exact ⟨h1,u,hu,CR.scalar (Kd.flat_scalar rr j _ hflat hj h1) hr⟩⟩⟩)
     refine hk _ ok (.x (.own (hb+q) 0 n)) (st.setB (hb+q) (.arr rr n g)) _ _ hm2 ((he.ext E).ext E2) ?_ h
     refine ⟨rfl,?_⟩
     rw [show (st.setB (hb+q) (.arr rr n g)).heap[hb+q]?=some (.arr rr n g) from qkZ hlt]
     refine ⟨by omega,some ⟨gb,0,none⟩,cap,rfl,hnc,hcm,.inr ⟨gb,cur,ee,je _ _ _,?_,hcell,?_⟩⟩
     ·rw [Nat.zero_mul]
     ·rw [rlZ];exact hsz
   ·cases h
  ·cases h
theorem Fi {bs:List Nat} {n0:Nat} {H:List Blk} {b:Nat}:(rO bs n0 H)[b]?=if b<n0 then some (bif bs.contains b then H.getD b .dead else .dead) else none:=by
 unfold rO
 rw [qhZ]
 by_cases h:b<n0
 ·rw [raZ h,if_pos h];rfl
 ·rw [rmZ (by simp;omega),if_neg h];rfl
theorem Ie {bs:List Nat} {H' H:List Blk} {b:Nat}:(Az bs H' H)[b]?=if b<H.length then some (bif bs.contains b then H'.getD b .dead else H.getD b .dead) else none:=by
 unfold Az
 rw [qhZ]
 by_cases h:b<H.length
 ·rw [raZ h,if_pos h];rfl
 ·rw [rmZ (by simp;omega),if_neg h];rfl
theorem EG {bs:List Nat} {H' H:List Blk}:(Az bs H' H).length=H.length:=by simp [Az]
theorem getD_some {H:List Blk} {b:Nat} (h:b<H.length):H[b]?=some (H.getD b .dead):=by
 rw [qdZ,qgZ h];rfl
theorem lN {bs:List Nat} {μ1 μ2:Nat->Option Nat} {ok1 ok2:Nat->Prop} {w1 w2:World} {H1 H2:List Blk} (hp:∀ b j v,b∈bs->jA μ1 H1 b j v->jA μ2 H2 b j v) (hc:∀ c v,CR ok1 w1 c v->CR ok2 w2 c v)
  {y:V0} {v:Value} (hl:N7 bs y=true) (h:V0R μ1 ok1 w1 H1 y v):V0R μ2 ok2 w2 H2 y v:=by
 cases y with
 | c x=>exact hc _ _ h
 | fn f caps =>
  obtain ⟨cs,h1,h2,h3⟩:=h
  refine ⟨cs,h1,h2,fun t c ht=>?_⟩
  obtain ⟨u,hu,hr⟩:=h3 t c ht
  refine ⟨u,hu,?_⟩
  cases c with
  | c x=>exact hc _ _ hr
  | ptr b j =>
   have:=qiZ.1 hl _ (qrZ ht)
   exact hp b j u (by simpa using this) hr
 | u=>cases hl
 | own b off len=>cases hl
 | ptr b j=>cases hl
 | aptr b i j=>cases hl
 | mrow b i=>cases hl
 | mptr b i k=>cases hl
theorem Fh {bs:List Nat} {μ1 μ2:Nat->Option Nat} {ok1 ok2:Nat->Prop} {w1 w2:World} {H1 H2:List Blk} (hp:∀ b j v,b∈bs->jA μ1 H1 b j v->jA μ2 H2 b j v) (hc:∀ c v,CR ok1 w1 c v->CR ok2 w2 c v)
  (ho:∀ b off len v,b∈bs->V0R μ1 ok1 w1 H1 (.own b off len) v->V0R μ2 ok2 w2 H2 (.own b off len) v)
  {y:V} {v:Value} (hl:I2 bs y=true) (h:VR μ1 ok1 w1 H1 y v):VR μ2 ok2 w2 H2 y v:=by
 cases y with
 | u=>cases hl
 | undef=>cases hl
 | tup l=>cases hl
 | agg l =>
  obtain ⟨cs,h1,h2,h3⟩:=h
  refine ⟨cs,h1,h2,fun t c ht=>?_⟩
  obtain ⟨u,hu,hr⟩:=h3 t c ht
  refine ⟨u,hu,?_⟩
  have:=qiZ.1 hl _ (qrZ ht)
  cases c<;>first | (cases this;done) | exact hc _ _ hr
 | x y =>
  cases y with
  | ptr b j=>exact hp b j v (by simpa [I2] using hl) h
  | own b off len=>exact ho b off len v (by simpa [I2] using hl) h
  | u=>cases hl
  | c x=>exact lN (bs:=bs) (y:=.c x) hp hc rfl h
  | aptr b i j=>cases hl
  | mrow b i=>cases hl
  | mptr b i k=>cases hl
  | fn f caps=>exact lN (bs:=bs) (y:=.fn f caps) hp hc hl h
theorem M6 (hC:az P C) (hm:MR w0 okA μ ok st.heap w) (he:ER df μ ok st.heap w st.env a) (hk:dD df w0 okA a k r fun u w=>next (a.put o.dst u) w)
  {g:Operand} {args:List Operand} {ts:List TypeId} {bs:List Nat} {n0:Nat} (ho:o.op=(AOp.callL g args ts bs n0).erase) (h:I3 C g args bs n0 st k=some r):o.wp P a w next Q:=by
 have hg:=aF he g
 unfold I3 at h
 split at h
 ·rename_i f caps hgv
  rw [hgv] at hg
  obtain ⟨cs,hp,hs,hcap⟩:=hg
  unfold N9 at h
  obtain ⟨hv,h⟩:=ah h
  rw [qaZ] at hv
  obtain ⟨hvl,hbn⟩:=hv
  obtain ⟨hbl,h⟩:=ah h
  rw [C.natL] at h
  cases hq:(C.lend f bs (args.map st.ev ++ caps.map WS) (rO bs n0 st.heap) fun r h=>some (r,h)) with
  | none=>rw [hq] at h;cases h
  | some p =>
   obtain ⟨res,H'⟩:=p
   rw [hq] at h
   have h:k (lm res) { st with heap:=Az bs H' st.heap } = some r:=h
   have hd:=hC.lend _ _ _ _ _ _ hq
   have hbs:∀ b,b∈bs->b<n0/\b<st.heap.length:=fun b hb=>by
    have:=qiZ.1 hbn b hb
    rw [qaZ,Nat.blt_eq,Nat.blt_eq] at this
    exact this
   have hlb:∀ b,b∈bs->N8 bs (st.heap.getD b .dead)=true:=fun b hb=>qiZ.1 hbl b hb
   -- the values
   have hvals:∀ (t:Nat) (v:V),(args.map st.ev ++ caps.map WS)[t]?=some v->∃ u,((args.map a.eval).toArray ++ cs)[t]?=some u/\VR μ ok w st.heap v u:=fun t v ht=>by
    by_cases hlt:t<args.length
    ·rw [qnZ (by simpa using hlt)] at ht
     obtain ⟨u,hu,hr⟩:=mM he args t v ht
     exact ⟨u,by rw [qlZ (by simpa using hlt)];simpa using hu,hr⟩
    ·rw [qsZ (by simp;omega),qhZ] at ht
     simp only [rcZ] at ht
     cases hq2:caps[t-args.length]? with
     | none=>rw [hq2] at ht;cases ht
     | some c =>
      rw [hq2] at ht
      simp only [Option.map_some,rbZ] at ht
      obtain ⟨u,hu,hr⟩:=hcap _ c hq2
      refine ⟨u,by rw [qtZ (by simp;omega)];simpa using hu,?_⟩
      subst ht
      cases c with
      | c x=>exact hr
      | ptr b j=>exact hr
   -- the lent blocks
   let μl:Nat->Option Nat:=fun b=>if b∈bs then μ b else none
   have hμl:∀ b g,μl b=some g->b∈bs/\μ b=some g:=fun b g hg=>by
    show _/\_
    by_cases hb:b∈bs
    ·exact ⟨hb,by simpa [μl,hb] using hg⟩
    ·simp [μl,hb] at hg
   have hμb:∀ b,b∈bs->μl b=μ b:=fun b hb=>by simp [μl,hb]
   have hHl:∀ b,b∈bs->(rO bs n0 st.heap)[b]?=st.heap[b]?:=fun b hb=>by
    rw [Fi,if_pos (hbs b hb).1,show bs.contains b=true by simpa using hb,cond_true,getD_some (hbs b hb).2]
   have hptr:∀ b j v,b∈bs->jA μ st.heap b j v->jA μl (rO bs n0 st.heap) b j v:=fun b j v hb hh=>by
    unfold jA at *
    rw [hHl b hb,hμb b hb];exact hh
   have hown:∀ b off len v,b∈bs->V0R μ ok w st.heap (.own b off len) v->V0R μl ok w (rO bs n0 st.heap) (.own b off len) v:=fun b off len v hb hh=>by
    obtain ⟨h1,h2⟩:=hh
    have hlb':=hlb b hb
    rw [getD_some (hbs b hb).2] at h2
    refine ⟨h1,?_⟩
    rw [hHl b hb,getD_some (hbs b hb).2]
    cases hqq:st.heap.getD b .dead<;>rw [hqq] at h2 hlb' <;> first | (cases hlb';done) | skip
    ·exact h2
    ·simpa only [Rs,hμb b hb] using h2
   have hml:MR ⟨w,rg μl⟩ ok μl ok (rO bs n0 st.heap) w:=by
    refine ⟨aU.refl w _,fun g hg=>⟨(hm.okd g hg).1,.inl hg⟩,fun g hg=>hg,fun b g hg=>⟨.inr ⟨b,hg⟩,(hm.fresh b g (hμl b g hg).2).2⟩,fun b b' g h1 h2=>hm.inj b b' g (hμl b g h1).2 (hμl b' g h2).2,fun b o hbo=>?_,fun b g r n f _ _ hg=>⟨b,hg⟩⟩
    rw [Fi] at hbo
    split at hbo
    ·cases hbo
     by_cases hb:b∈bs
     ·rw [show bs.contains b=true by simpa using hb,cond_true]
      have hb0:=hm.blk b _ (getD_some (hbs b hb).2)
      have hl:=hlb b hb
      cases hqq:st.heap.getD b .dead<;>rw [hqq] at hb0 hl<;>first | (cases hl;done) | skip
      ·obtain ⟨g',cur,e,q1,q2,q3,q4⟩:=hb0
       refine ⟨g',cur,e,(hμb b hb).trans q1,q2,q3,fun j c hj=>?_⟩
       obtain ⟨u,hu,hr⟩:=q4 j c hj
       exact ⟨u,hu,lN (bs:=bs) hptr (fun _ _ h=>h) (qiZ.1 hl c (qrZ hj)) hr⟩
      ·show lH μl ok w _ b _
       unfold lH at hb0 ⊢
       rw [hμb b hb];exact hb0
     ·rw [show bs.contains b=false by simpa using hb,cond_false];trivial
    ·cases hbo
   -- the call
   have hrun:(execOp a.eval o).run P w=.ok (.enter f ((args.map a.eval).toArray ++ cs)) w:=by
    have hc:=dz (P:=P) (w:=w) (args:=(args.map a.eval).toArray ++ cs) hd.1
    simp only [execOp,ho,AOp.erase,resolve,invoke,hp,Deferred.ofValue]
    simp [hc]
   unfold Oper.wp
   rw [hrun,Oper.upon_enter]
   refine (hd.2 w ok μl _ (fun b g hg=>(hμl b g hg).1) hml he.glob (by simp [hs]) (fun t v ht=>?_)).mono fun e w' hh=>?_
   ·obtain ⟨u,hu,hr⟩:=hvals t v ht
    exact ⟨u,hu,Fh (bs:=bs) hptr (fun _ _ h=>h) hown (qiZ.1 hvl v (qrZ ht)) hr⟩
   ·obtain ⟨v,ok',rfl,hm',hg',hR,hsh⟩:=hh
    have hrgl:∀ g,rg μl g->rg μ g/\¬ ok g:=fun g ⟨b,hb⟩=>⟨⟨b,(hμl b g hb).2⟩,(hm.fresh b g (hμl b g hb).2).2.2⟩
    have hold:∀ g,g<w.heap.size->¬ rg μl g->w'.heap[g]?=w.heap[g]?:=fun g h1 h2=>hm'.below.block g h1 h2
    have hput:∀ b,b∉bs->(Az bs H' st.heap)[b]?=st.heap[b]?:=fun b hb=>by
     rw [Ie]
     split
     ·rename_i hlt
      rw [show bs.contains b=false by simpa using hb,cond_false,getD_some hlt]
     ·rename_i hlt
      rw [rmZ (by omega)]
    have hputb:∀ b,b∈bs->(Az bs H' st.heap)[b]?=some (H'.getD b .dead):=fun b hb=>by
     rw [Ie,if_pos (hbs b hb).2,show bs.contains b=true by simpa using hb,cond_true]
    have hshp:=fun b hb=>(hsh b hb).2
    have hHd:∀ b,b∈bs->(rO bs n0 st.heap).getD b .dead=st.heap.getD b .dead:=fun b hb=>by
     rw [qdZ,hHl b hb,<- qdZ]
    have hH'l:∀ b,b∈bs->H'[b]?=some (H'.getD b .dead):=fun b hb=>by
     have h1:=hshp b hb
     cases hq3:H'[b]? with
     | some o=>rw [qdZ,hq3];rfl
     | none =>
      have:H'.getD b .dead=.dead:=by rw [qdZ,hq3];rfl
      rw [this] at h1
      cases hq4:(rO bs n0 st.heap).getD b .dead<;>rw [hq4] at h1<;>exact h1.elim
    have E:Ext μ ok w st.heap μ ok' w' (Az bs H' st.heap):=by
     refine ⟨fun g hg=>⟨hm'.keep g hg,hold g (hm.okd g hg).1 fun k=>(hrgl g k).2 hg⟩,fun b hb=>?_,fun b cs hb=>?_,fun b r n f hb=>?_,fun b sb n f hb=>?_,fun b κ n ln f hb=>?_⟩
     ·by_cases hbb:b∈bs
      ·have:=hlb b hbb
       rw [qdZ,hb] at this;cases this
      ·rw [hput b hbb];exact hb
     ·by_cases hbb:b∈bs
      ·have h1:=hshp b hbb
       rw [hHd b hbb,qdZ,hb] at h1
       rw [hputb b hbb]
       cases hq4:H'.getD b .dead<;>rw [hq4] at h1<;>first | exact h1.elim | exact .inr ⟨⟨_,rfl⟩,rfl⟩
      ·exact .inr ⟨⟨cs,by rw [hput b hbb];exact hb⟩,rfl⟩
     ·by_cases hbb:b∈bs
      ·have h1:=hshp b hbb
       rw [hHd b hbb,qdZ,hb] at h1
       rw [hputb b hbb]
       cases hq4:H'.getD b .dead<;>rw [hq4] at h1<;>first | exact h1.elim | skip
       obtain ⟨rfl,rfl⟩:=h1
       refine .inr ⟨⟨_,rfl⟩,rfl,fun g cur e hg hw=>?_⟩
       obtain ⟨cur',q1,q2⟩:=hm'.below.lent g ⟨b,by rw [hμb b hbb];exact hg⟩ cur e hw
       exact ⟨cur',e,q1,q2⟩
      ·refine .inr ⟨⟨f,by rw [hput b hbb];exact hb⟩,rfl,fun g cur e hg hw=>⟨cur,e,?_,rfl⟩⟩
       rw [hold g (hm.fresh b g hg).2.1 fun ⟨b',hb'⟩=>hbb (by rw [hm.inj b b' g hg (hμl b' g hb').2];exact (hμl b' g hb').1)];exact hw
     ·by_cases hbb:b∈bs
      ·have:=hlb b hbb
       rw [qdZ,hb] at this;cases this
      ·exact .inr ⟨⟨n,f,by rw [hput b hbb];exact hb⟩,rfl⟩
     ·by_cases hbb:b∈bs
      ·have:=hlb b hbb
       rw [qdZ,hb] at this;cases this
      ·exact .inr ⟨⟨f,by rw [hput b hbb];exact hb⟩,rfl,fun i=>by rw [EG]⟩
    have hm2:MR w0 okA μ ok' (Az bs H' st.heap) w':=by
     refine ⟨aU.step hm.below (fun g hg=>let ⟨b,hb⟩:=(hrgl g hg).1;(hm.fresh b g hb).1) hm'.below,fun g hg=>⟨(hm'.okd g hg).1,?_⟩,fun g hg=>hm'.keep g (hm.keep g hg),fun b g hg=>?_,hm.inj,fun b o hbo=>?_,fun b g r n f hbo ht hg=>?_⟩
     ·rcases (hm'.okd g hg).2 with q | q | q
      ·exact (hm.okd g q).2
      ·exact .inr (.inl (Nat.le_trans hm.below.size q))
      ·obtain ⟨b,hb⟩:=(hrgl g q).1
       exact .inr (hm.fresh b g hb).1
     ·have h1:=hm.fresh b g hg
      refine ⟨h1.1,qxZ h1.2.1 hm'.below.size,fun hok'=>?_⟩
      rcases (hm'.okd g hok').2 with q | q | q
      ·exact h1.2.2 q
      ·have q:w.heap.size<=g:=q
       omega
      ·obtain ⟨b',hb'⟩:=q
       exact (hm'.fresh b' g hb').2.2 hok'
     ·by_cases hb:b∈bs
      ·rw [hputb b hb] at hbo
       cases hbo
       have hb0:=hm'.blk b _ (hH'l b hb)
       have hl:=(hsh b hb).1
       have hptr' : ∀ b j v,b∈bs->jA μl H' b j v->jA μ (Az bs H' st.heap) b j v:=fun b j v hb hh=>by
        unfold jA at *
        rw [hputb b hb]
        rw [hH'l b hb,hμb b hb] at hh;exact hh
       cases hqq:H'.getD b .dead<;>rw [hqq] at hb0 hl<;>first | (cases hl;done) | skip
       ·obtain ⟨g',cur,e,q1,q2,q3,q4⟩:=hb0
        refine ⟨g',cur,e,(hμb b hb).symm.trans q1,q2,q3,fun j c hj=>?_⟩
        obtain ⟨u,hu,hr⟩:=q4 j c hj
        exact ⟨u,hu,lN (bs:=bs) hptr' (fun _ _ h=>h) (qiZ.1 hl c (qrZ hj)) hr⟩
       ·unfold lH at hb0 ⊢
        rw [hμb b hb] at hb0;exact hb0
      ·rw [hput b hb] at hbo
       have hlt:b<st.heap.length:=(qfZ.1 hbo).1
       refine E.blk EG (fun _ _=>rfl) (fun q g' hq hg'=>hold g' (hm.fresh q g' hg').2.1 fun ⟨b',hb'⟩=>?_) (hm.blk b o hbo)
       have e1:=hm.inj q b' g' hg' (hμl b' g' hb').2
       have e2:=(hμl b' g' hb').1
       rcases hq with rfl | hq
       ·exact hb (e1 ▸ e2)
       ·have:=(hbs b' e2).2
        omega
     ·by_cases hb:b∈bs
      ·rw [hputb b hb] at hbo
       have hl:=(hsh b hb).1
       rw [rhZ hbo] at hl
       have hl:(Nat.blt 0 n && !r.tagged)=true:=hl
       rw [ht] at hl;simp at hl
      ·rw [hput b hb] at hbo
       exact hm.tag b g r n f hbo ht hg
    exact hk μ ok' (lm res) { st with heap:=Az bs H' st.heap } v w' hm2 (he.ext E) hR.toV h
 ·cases h
theorem Nb (hC:az P C) (hm:MR w0 okA μ ok st.heap w) (he:ER df μ ok st.heap w st.env a) (hk:dD df w0 okA a k r fun u w=>next (a.put o.dst u) w)
  {g:Operand} {args:List Operand} {ts:List TypeId} {bs:List Nat} {n0:Nat} (ho:o.op=(AOp.callL g args ts bs n0).erase) (h:aj C hb st (.callL g args ts bs n0) k=some r):o.wp P a w next Q:=by
 simp only [aj] at h
 obtain ⟨μ1,ok1,hm1,E1,hok1,hkill,hμ1,hH1⟩:=hm.freeze (Hx bs (args.map st.ev) st.heap)
 obtain ⟨hm2,he2⟩:=li hm he _ hm1 E1 hkill hH1
 exact M6 hC hm2 he2 hk ho h
theorem tQ (hC:az P C) (hm:MR w0 okA μ ok st.heap w) (he:ER df μ ok st.heap w st.env a) (hk:dD df w0 okA a k r fun u w=>next (a.put o.dst u) w)
  {f:AOp} (ho:o.op=f.erase) (hP:f.okP P=true) (h:aj C hb st f k=some r):o.wp P a w next Q:=by
 cases f with
 | move x=>exact Ii hm he hk (.inl ho) h
 | assign x=>exact Ii hm he hk (.inr ho) h
 | pick c x y=>exact QF hm he hk ho h
 | box q t x=>exact V4 hm he hk ho h
 | alloc q t zs=>exact Nf hm he hk ho hP h
 | build t zs pl esz parts=>exact Nc hm he hk ho hP h
 | buildSlice q t e rr ln zs parts=>exact Ck hm he hk ho hP h
 | load t m x=>exact QH hm he hk ho hP h
 | store t m x y=>exact M4 hm he hk ho hP h
 | fieldAddr t x fi off=>exact DL hm he hk ho hP h
 | nilCheck x=>exact EM hm he hk ho h
 | iface t x =>
  have h:(none:Option ρ)=some r:=h
  cases h
 | pan x =>
  have h:(none:Option ρ)=some r:=h
  cases h
 | field t x fi off m=>exact M8 hm he hk ho hP h
 | indexAddr t e esz x i=>exact DK hm he hk ho hP h
 | indexAddrA t e ln esz x i=>exact Cj hm he hk ho hP h
 | index t e ln esz m x i=>exact M7 hm he hk ho hP h
 | indexS t x i =>
  have h:(none:Option ρ)=some r:=h
  cases h
 | sliceS t x lo hi =>
  have h:(none:Option ρ)=some r:=h
  cases h
 | allocA q t rr zs =>
  have h:(none:Option ρ)=some r:=h
  cases h
 | indexAddrR t e ln esz x i =>
  have h:(none:Option ρ)=some r:=h
  cases h
 | loadR t κ x =>
  have h:(none:Option ρ)=some r:=h
  cases h
 | binOp op t x y yt=>exact Nd hm he hk ho h
 | eqA neg rr t x y yt=>exact V3 hm he hk ho hP h
 | eqB neg t x y yt=>exact V2 hm he hk ho hP h
 | unOp op t x=>exact QE hm he hk ho h
 | extract x n=>exact Gu hm he hk ho h
 | len t str x=>exact V1 hm he hk ho hP h
 | mm mx args ts=>exact X0 hm he hk ho h
 | append q t e rr bytes x y=>exact J2 hm he hk ho hP h
 | slice t e esz x lo hi mx=>exact M5 hm he hk ho hP h
 | makeSlice q t e rr bytes zs l c=>exact DJ hm he hk ho hP h
 | call f args ts m=>exact QJ hC hm he hk ho h
 | callv g args ts m=>exact M9 hC hm he hk ho h
 | callL g args ts bs n0=>exact Nb hC hm he hk ho h
 | turn f x rest ts=>exact VZ hC hm he hk ho h
 | cut q f x rest ts rr =>
  have h:(none:Option ρ)=some r:=h
  cases h
 | clear t e zs x =>
  have h:(none:Option ρ)=some r:=h
  cases h
 | callo q f args ts rr=>exact Na hC hm he hk ho hP h
 | mkfn f caps=>exact QG hm he hk ho h
 | convert src dst kd x=>exact Gv hm he hk ho hP h
 | lookup t x key =>
  have h:(none:Option ρ)=some r:=h
  cases h
 | makeMap q t sb=>exact Gs hm he hk ho h
 | setPut t x key =>
  have h:(none:Option ρ)=some r:=h
  cases h
 | lookupI t x key =>
  have h:(none:Option ρ)=some r:=h
  cases h
 | mapPut t x key y =>
  have h:(none:Option ρ)=some r:=h
  cases h
 | capN t x=>exact QI hm he hk ho hP h
 | appendZ q t ti e rr bytes zs x y=>exact Gw hm he hk ho hP h
 | lookupB t x key=>exact Gt hm he hk ho hP h
 | mapPutT t x key=>exact Gr hm he hk ho hP h
 | buildC t e rr ln zs parts =>
  have h:(none:Option ρ)=some r:=h
  cases h
 | makeMat q t e κ bytes l c =>
  have h:(none:Option ρ)=some r:=h
  cases h
 | storeRow t x y =>
  have h:(none:Option ρ)=some r:=h
  cases h
end
end Go.Eng
