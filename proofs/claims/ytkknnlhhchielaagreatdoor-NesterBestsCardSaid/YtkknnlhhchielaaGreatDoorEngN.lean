/-
 The code of a function.
-/
import Derived.Test.YtkknnlhhchielaaGreatDoorEngM0
import Derived.LoopN
import Derived.LoopNIn
import Derived.Tactics
import Derived.Scope
set_option linter.all false
namespace Go.Eng
open Go Go.RowKit
variable {df : DF}
def o9:Operand->Operand->Bool
 | .tmp t,.tmp t'=>Nat.beq t t'
 | .const (.bool x),.const (.bool y)=>x==y
 | _,_=>false
def jp (P:Program):AC->Code->Prop
 | .skip,c=>c=.skip
 | .region _ l _ draw,c=>∃ id ops,c=.region id ops draw.isSome/\dZ P ops l/\∀ ords,draw=some ords->l5 ords 0 ops.toList=true
 | .seq a _ b,c=>∃ x y,c=.seq x y/\jp P a x/\jp P b y
 | .cond o a b,c=>∃ o' x y,c=.cond o' x y/\o9 o o' = true/\jp P a x/\jp P b y
 | .block id a,c=>∃ x,c=.block id x/\jp P a x
 | .loop _ _ a,c=>∃ x,c=.loop x/\jp P a x
 | .exit id _,c=>c=.exit id
 | .ret _,c=>c=.ret
 | .ghost _ a,c=>jp P a c
 | .scope a,c=>∃ x,c=.scope x/\jp P a x
 | .label l,c=>c=.label l
 | .round ..,_=>False
 | .back ..,_=>False
 | .iter ..,_=>False
def mA:Ex->Exit
 | .normal=>.normal
 | .exit id=>.exit id
 | .ret=>.ret
section
variable {ρ : Type} {P : Program} {C : ao} {w0 : cD} {okA : Nat -> Prop} {r : ρ}
theorem lc:∀ (l:List Nat) (env:List V),(eA env l).length=env.length
 | [],_=>rfl
 | t::l,env=>by unfold eA;rw [lc l];simp
theorem mr:∀ (l:List Nat) (env:List V) (t:Nat) (v:V),(eA env l)[t]?=some v->v=.u\/env[t]?=some v
 | [],env,t,v,h=>.inr h
 | s::l,env,t,v,h=>by
  unfold eA at h
  rcases mr l _ t v h with h1 | h1
  ·exact .inl h1
  ·by_cases hst:s=t
   ·subst hst
    rw [List.getElem?_set] at h1
    simp only [if_true] at h1
    split at h1
    ·simp at h1;exact .inl h1.symm
    ·cases h1
   ·rw [qoZ hst] at h1;exact .inr h1
theorem ER.kill {μ:Nat->Option Nat} {ok:Nat->Prop} {H:List Blk} {w:World} {env:List V} {a:Act} (h:ER df μ ok H w env a) (l:List Nat):ER df μ ok H w (eA env l) a:=by
 refine ⟨by rw [lc];exact h.size,fun t v ht=>?_,h.defers,h.glob⟩
 rcases mr l env t v ht with rfl | h1
 ·have hlt:t<a.tmps.size:=by
   have:=(qfZ.1 ht).1
   rw [lc] at this;rw [h.size];exact this
  exact ⟨a.tmps[t],by simp [hlt],trivial⟩
 ·exact h.env t v h1
theorem sI {μ:Nat->Option Nat} {ok:Nat->Prop} {st st' : St} {w:World} {a:Act} (hm:MR w0 okA μ ok st.heap w) (he:ER df μ ok st.heap w st.env a) {kill:List Nat} {h0:Nat} (h:st.norm kill h0=some st') :
  ∃ μ',MR w0 okA μ' ok st'.heap w/\ER df μ' ok st'.heap w st'.env a:=by
 unfold St.norm at h
 dsimp only at h
 obtain ⟨hc,h⟩:=ah h
 cases h
 rw [qaZ] at hc
 have hk:=he.kill kill
 refine ⟨_,hm.take hc.2,⟨hk.size,fun t v ht=>?_,hk.defers,hk.glob⟩⟩
 obtain ⟨u,hu,hr⟩:=hk.env t v ht
 exact ⟨u,hu,VR.take (qiZ.1 hc.1 v (qrZ ht)) hr⟩
theorem CT {μ:Nat->Option Nat} {ok:Nat->Prop} {H:List Blk} {w:World} {y:V0} {v:Value} (hy:vH y=true) (h:V0R μ ok w H y v):∃ a,v=.slice a 0 0:=by
 unfold vH at hy
 split at hy
 ·rename_i full r n f
  rw [qaZ] at hy
  have hn:=qbZ hy.2
  subst hn
  obtain ⟨a,cap,hv,_,_,hf,_⟩:=h
  have:=hf hy.1
  subst this
  exact ⟨a,hv⟩
 ·cases hy
theorem CI {μ:Nat->Option Nat} {ok:Nat->Prop} {H:List Blk} {w:World} {b:Nat} {r:Kd} {f:Nat->Nat->CV} (hb:H[b]?=some (.arr r 0 f)) (a:Option Addr):V0R μ ok w H (.own b 0 0) (.slice a 0 0):=by
 refine ⟨rfl,?_⟩
 rw [hb]
 exact ⟨by omega,a,0,rfl,by omega,by simp [maxLen],.inl ⟨rfl,rfl⟩⟩
theorem MR.fresh0 {μ:Nat->Option Nat} {ok:Nat->Prop} {H:List Blk} {w:World} (hm:MR w0 okA μ ok H w) {r:Kd} (hr:0<r.len) (f:Nat->Nat->CV) :
  ∃ μ',MR w0 okA μ' ok (H ++ [.arr r 0 f]) w/\Ext μ ok w H μ' ok w (H ++ [.arr r 0 f]):=by
 obtain ⟨μ1,hm1,E1⟩:=hm.reserve 1
 have hb:(H ++ List.replicate 1 Blk.rsv)[H.length]?=some .rsv:=by simp
 obtain ⟨hm2,E2⟩:=hm1.install0 hb hr f
 have:(H ++ List.replicate 1 Blk.rsv).set H.length (.arr r 0 f)=H ++ [.arr r 0 f]:=by simp
 rw [this] at hm2 E2
 exact ⟨μ1,hm2,E1.trans E2⟩
theorem MR.rebox {μ:Nat->Option Nat} {ok:Nat->Prop} {H:List Blk} {w:World} (hm:MR w0 okA μ ok H w) {b j:Nat} {cells:List V0} (hb:H[b]?=some (.box cells)) {y:V0}
  (hy:∀ u,(∀ c,cells[j]?=some c->V0R μ ok w H c u)->V0R μ ok w H y u):MR w0 okA μ ok (H.set b (.box (cells.set j y))) w/\Ext μ ok w H μ ok w (H.set b (.box (cells.set j y))):=by
 have hlt:b<H.length:=(qfZ.1 hb).1
 have hset:∀ b',b'≠b->(H.set b (.box (cells.set j y)))[b']?=H[b']?:=fun b' hn=>qoZ (Ne.symm hn)
 have hself:(H.set b (.box (cells.set j y)))[b]?=some (.box (cells.set j y)):=qkZ hlt
 have E:Ext μ ok w H μ ok w (H.set b (.box (cells.set j y))):=by
  refine ⟨fun k hk=>⟨hk,rfl⟩,fun b' hb'=>?_,fun b' cs hb'=>?_,fun b' r n f hb'=>?_,fun b' sb n f hb'=>?_,fun b' κ n ln f hb'=>?_⟩
  ·by_cases hbb:b' = b
   ·subst hbb;rw [hb] at hb';cases hb'
   ·rw [hset b' hbb];exact hb'
  ·by_cases hbb:b' = b
   ·subst hbb;exact .inr ⟨⟨_,hself⟩,rfl⟩
   ·exact .inr ⟨⟨cs,by rw [hset b' hbb];exact hb'⟩,rfl⟩
  ·by_cases hbb:b' = b
   ·subst hbb;rw [hb] at hb';cases hb'
   ·exact .inr ⟨⟨f,by rw [hset b' hbb];exact hb'⟩,rfl,fun g cur e _ hw=>⟨cur,e,hw,rfl⟩⟩
  ·by_cases hbb:b' = b
   ·subst hbb;rw [hb] at hb';cases hb'
   ·exact .inr ⟨⟨n,f,by rw [hset b' hbb];exact hb'⟩,rfl⟩
  ·by_cases hbb:b' = b
   ·subst hbb;rw [hb] at hb';cases hb'
   ·exact .inr ⟨⟨f,by rw [hset b' hbb];exact hb'⟩,rfl,fun i=>by rw [roZ]⟩
 refine ⟨⟨hm.below,hm.okd,hm.keep,hm.fresh,hm.inj,fun b' o ho=>?_,fun b' g r n f hx ht hmu=>by
  by_cases hbb:b' = b
  ·subst hbb;rw [hself] at hx;cases hx
  ·rw [hset b' hbb] at hx;exact hm.tag b' g r n f hx ht hmu⟩,E⟩
 by_cases hbb:b' = b
 ·subst hbb
  rw [hself] at ho;cases ho
  obtain ⟨g,cur,e,h1,h2,h3,h4⟩:=hm.blk b' _ hb
  refine ⟨g,cur,e,h1,h2,by simp [h3],fun t c ht=>?_⟩
  by_cases htj:j=t
  ·subst htj
   have hlt2:j<cells.length:=by
    have:=(qfZ.1 ht).1
    simpa using this
   rw [qkZ hlt2] at ht
   cases ht
   obtain ⟨u,hu,hr⟩:=h4 j cells[j] (by simp [hlt2])
   refine ⟨u,hu,E.v0 (hy u fun c hc=>?_)⟩
   rw [qgZ hlt2] at hc;cases hc;exact hr
  ·rw [qoZ htj] at ht
   obtain ⟨u,hu,hr⟩:=h4 t c ht
   exact ⟨u,hu,E.v0 hr⟩
 ·rw [hset b' hbb] at ho
  exact E.blk (roZ ..) (fun _ _=>rfl) (fun _ _ _ _=>rfl) (hm.blk b' o ho)
theorem GK {μ:Nat->Option Nat} {ok:Nat->Prop} {st:St} {w:World} {a:Act} (hm:MR w0 okA μ ok st.heap w) (he:ER df μ ok st.heap w st.env a) (h:KK) :
  ∃ μ',MR w0 okA μ' ok (sP st h).heap w/\ER df μ' ok (sP st h).heap w (sP st h).env a:=by
 cases h with
 | ty t r =>
  simp only [sP]
  split
  ·rename_i full n f hy
   cases hc:Nat.beq n 0 with
   | false=>exact ⟨μ,hm,he⟩
   | true =>
    refine ⟨μ,hm,he.same fun u hu=>?_⟩
    rw [qdZ] at hy
    cases hq:st.env[t]? with
    | none=>rw [hq] at hy;cases hy
    | some v =>
     rw [hq] at hy
     simp only [Option.getD_some] at hy
     subst hy
     obtain ⟨u',hu',hr⟩:=he.env t _ hq
     rw [hu] at hu';cases hu'
     obtain ⟨a',cap,hv,h1,h2,h3,_⟩:=hr
     exact ⟨a',cap,hv,h1,h2,h3,.inl (qbZ hc)⟩
  ·exact ⟨μ,hm,he⟩
 | slot t r =>
  simp only [sP]
  split
  ·rename_i y hy
   cases hc:vH y&&Nat.blt 0 r.len with
   | false=>exact ⟨μ,hm,he⟩
   | true =>
    rw [qaZ] at hc
    have hpos:0<r.len:=by simpa using hc.2
    obtain ⟨μ',hm',E⟩:=hm.fresh0 hpos (fun _ _=>.any)
    refine ⟨μ',hm',(he.ext E).same fun u hu=>?_⟩
    rw [qdZ] at hy
    cases hq:st.env[t]? with
    | none=>rw [hq] at hy;cases hy
    | some v =>
     rw [hq] at hy
     simp only [Option.getD_some] at hy
     subst hy
     obtain ⟨u',hu',hr⟩:=he.env t _ hq
     rw [hu] at hu';cases hu'
     obtain ⟨a',rfl⟩:=CT hc.1 hr
     exact CI (ok:=ok) (r:=r) (f:=fun _ _=>.any) (by simp) a'
  ·exact ⟨μ,hm,he⟩
 | cell t j r =>
  simp only [sP]
  split
  ·rename_i b j0 hy
   split
   ·rename_i cells hb
    cases hc:vH (cells.getD (j0+j) .u)&&Nat.blt 0 r.len with
    | false=>exact ⟨μ,hm,he⟩
    | true =>
     rw [qaZ] at hc
     have hpos:0<r.len:=by simpa using hc.2
     obtain ⟨μ',hm',E⟩:=hm.fresh0 hpos (fun _ _=>.any)
     have hlt:b<st.heap.length:=(qfZ.1 hb).1
     have hb2:(st.heap ++ [Blk.arr r 0 fun _ _=>.any])[b]?=some (.box cells):=by rw [qnZ hlt];exact hb
     have hnew:(st.heap ++ [Blk.arr r 0 fun _ _=>.any])[st.heap.length]?=some (.arr r 0 fun _ _=>.any):=by simp
     have hjl:j0+j<cells.length:=by
      rcases Nat.lt_or_ge (j0+j) cells.length with h | h
      ·exact h
      ·have h1:=hc.1
       rw [qdZ,rmZ h] at h1
       cases h1
     obtain ⟨hm2,E2⟩:=hm'.rebox hb2 (j:=j0+j) (y:=.own st.heap.length 0 0) fun u hu=>by
      have h1:=hu cells[j0+j] (by simp [hjl])
      have h2:=hc.1
      rw [qdZ,qgZ hjl] at h2
      obtain ⟨a',rfl⟩:=CT h2 h1
      exact CI hnew a'
     have e:(st.heap ++ [Blk.arr r 0 fun _ _=>.any]).set b (.box (cells.set (j0+j) (.own st.heap.length 0 0)))=st.heap.set b (.box (cells.set (j0+j) (.own st.heap.length 0 0))) ++ [.arr r 0 fun _ _=>.any]:=by
      rw [List.set_append_left _ _ hlt]
     rw [e] at hm2 E2
     exact ⟨μ',hm2,(he.ext E).ext E2⟩
   ·exact ⟨μ,hm,he⟩
  ·exact ⟨μ,hm,he⟩
theorem Ad:∀ (l:List KK) {μ:Nat->Option Nat} {ok:Nat->Prop} {st:St} {w:World} {a:Act},MR w0 okA μ ok st.heap w->ER df μ ok st.heap w st.env a ->
  ∃ μ',MR w0 okA μ' ok (j8 st l).heap w/\ER df μ' ok (j8 st l).heap w (j8 st l).env a
 | [],μ,ok,st,w,a,hm,he=>⟨μ,hm,he⟩
 | h::l,μ,ok,st,w,a,hm,he=>by
  obtain ⟨μ1,hm1,he1⟩:=GK hm he h
  exact Ad l hm1 he1
theorem jK {a:Act} {t:Nat} {u:Value} (h:a.tmps[t]?=some u):a.eval (.tmp t)=u:=by
 simp only [Act.eval]
 rw [Array.getD_eq_getD_getElem?,h];rfl
def rG (df:DF):AC->Prop
 | .region _ l _ _=>∀ f,f∈l->∀ q,q∈df.2->f.dst≠some q.1
 | .seq x _ y=>rG df x/\rG df y
 | .cond _ x y=>rG df x/\rG df y
 | .block _ x=>rG df x
 | .loop _ _ x=>rG df x
 | .ghost _ x=>rG df x
 | .scope x=>rG df x
 | .iter pre _ _ _ tf _ _ _ _ _ _ _=>(∀ f,f∈pre->∀ q,q∈df.2->f.dst≠some q.1)/\∀ q,q∈df.2->tf≠q.1
 | _=>True
theorem oy {d:List Deferred} (x:AC):rG (d,[]) x:=by
 induction x with
 | region=>intro f _ q hq;cases hq
 | seq _ _ _ h1 h2=>exact ⟨h1,h2⟩
 | cond _ _ _ h1 h2=>exact ⟨h1,h2⟩
 | block _ _ h=>exact h
 | loop _ _ _ h=>exact h
 | ghost _ _ h=>exact h
 | scope _ h=>exact h
 | iter=>exact ⟨(fun _ _ q hq=>nomatch hq),(fun q hq=>nomatch hq)⟩
 | _=>trivial
def flat:AC->Bool
 | .seq x _ y=>flat x&&flat y
 | .cond _ x y=>flat x&&flat y
 | .block _ x=>flat x
 | .loop _ _ x=>flat x
 | .ghost _ x=>flat x
 | .scope _=>false
 | .iter _ _ _ _ _ _ _ _ _ _ x6 xb=>flat x6&&flat xb
 | _=>true
theorem Te {fl:Option Nat} {a b:Bool} (h:fl=none\/(a&&b)=true):(fl=none\/a=true)/\(fl=none\/b=true):=by
 rcases h with h | h
 ·exact ⟨.inl h,.inl h⟩
 ·rw [qaZ] at h
  exact ⟨.inr h.1,.inr h.2⟩
theorem Yq {fl:Option Nat} {b:Bool} (h:fl=none\/b=true):fl=none\/b=true:=h
theorem dy {fl:Option Nat} {fd:Nat} (hmix:P.follows .mixedOrders=true) (hC:az P C) (fuel:Nat):∀ (ac:AC) (c:Code),jp P ac c->∀ {μ:Nat->Option Nat} {ok:Nat->Prop} {st:St} {a:Act} {w:World} {k:Ex->St->Option ρ} {Q:Exit->Act->World->Prop},
  MR w0 okA μ ok st.heap w->ER df μ ok st.heap w st.env a ->
  (∀ e μ ok st a w,MR w0 okA μ ok st.heap w->ER df μ ok st.heap w st.env a->k e st=some r->Q (mA e) a w) ->
  (fl=none\/flat ac=true)->rG df ac->aS C fuel ac st k=some r->c.wpIn (wd fl) fd P Q a w:=by
 intro ac
 induction ac with
 | skip =>
  intro c hf μ ok st a w k Q hm he hQ hfl hof h
  cases hf
  exact wpIn_skip (hQ .normal _ _ _ _ _ hm he h)
 | exit id ks =>
  intro c hf μ ok st a w k Q hm he hQ hfl hof h
  cases hf
  exact wpIn_exit (hQ (.exit id) _ _ (st.kill ks) _ _ hm (he.kill ks) h)
 | ret ks =>
  intro c hf μ ok st a w k Q hm he hQ hfl hof h
  cases hf
  exact wpIn_ret (hQ .ret _ _ (st.kill ks) _ _ hm (he.kill ks) h)
 | scope x ih =>
  intro c hf μ ok st a w k Q hm he hQ hfl hof h
  obtain ⟨cx,rfl,hx⟩:=hf
  unfold aS at h
  have hn:fl=none:=hfl.resolve_right (by simp [flat])
  subst hn
  refine wpIn_wide.2 (wp_scope_straight ((wpIn_wide (n:=fd)).1 (ih cx hx hm he (fun e μ ok st a w hm he hk=>?_) (.inl rfl) hof h)))
  cases e with
  | normal=>exact hQ .normal _ _ _ _ _ hm he hk
  | ret=>exact hQ .ret _ _ _ _ _ hm he hk
  | exit i=>exact hQ (.exit i) _ _ _ _ _ hm he hk
 | label l =>
  intro c hf μ ok st a w k Q hm he hQ hfl hof h
  cases hf
  exact wpIn_label (hQ .normal _ _ st _ _ hm he h)
 | round keep tx p0 p1 x ih =>
  intro c hf
  exact hf.elim
 | back oth ts tx tf p0 f ty x ih =>
  intro c hf
  exact hf.elim
 | iter =>
  intro c hf
  exact hf.elim
 | ghost l x ih =>
  intro c hf μ ok st a w k Q hm he hQ hfl hof h
  obtain ⟨μ1,ok1,hm1,E1,hok1,hkill,hμ1,hH1⟩:=hm.freeze l
  obtain ⟨hm2,he2⟩:=li hm he l hm1 E1 hkill hH1
  exact ih c hf (st:=st.thaw l) hm2 he2 hQ hfl hof h
 | region id l na draw =>
  intro c hf μ ok st a w k Q hm he hQ hfl hof h
  obtain ⟨id',ops,rfl,hr,hd⟩:=hf
  obtain ⟨μ1,hm1,E1⟩:=hm.reserve na
  have he1:=he.ext E1
  unfold aS at h
  cases draw with
  | none =>
   exact aT (st:={ st with heap:=st.heap ++ List.replicate na .rsv }) hC hr hof hm1 he1 (fun μ ok st a w hm he hk=>hQ .normal _ _ _ _ _ hm he hk) h
  | some ords =>
   exact tD (st:={ st with heap:=st.heap ++ List.replicate na .rsv }) hmix hC hr hof (hd ords rfl) hm1 he1 (fun μ ok st a w hm he hk=>hQ .normal _ _ _ _ _ hm he hk) h
 | seq x ks y ihx ihy =>
  intro c hf μ ok st a w k Q hm he hQ hfl hof h
  obtain ⟨cx,cy,rfl,hx,hy⟩:=hf
  unfold aS at h
  have hfl2:(fl=none\/flat x=true)/\(fl=none\/flat y=true):=Te hfl
  refine wpIn_seq (ihx cx hx hm he (fun e μ ok st a w hm he hk=>?_) hfl2.1 hof.1 h)
  cases e with
  | normal=>exact ihy cy hy (st:=st.kill ks) hm (he.kill ks) hQ hfl2.2 hof.2 hk
  | exit id=>exact hQ (.exit id) _ _ _ _ _ hm he hk
  | ret=>exact hQ .ret _ _ _ _ _ hm he hk
 | cond o x y ihx ihy =>
  intro c hf μ ok st a w k Q hm he hQ hfl hof h
  obtain ⟨o',cx,cy,rfl,ho,hx,hy⟩:=hf
  have hfl2:(fl=none\/flat x=true)/\(fl=none\/flat y=true):=Te hfl
  unfold aS at h
  split at h
  ·rename_i t
   have:o' = .tmp t:=by
    unfold o9 at ho
    split at ho
    ·rename_i h1;cases h1;rw [qbZ ho]
    ·rename_i h1;cases h1
    ·cases ho
   subst this
   split at h
   ·rename_i b hb
    have hev:=jK (jj he hb)
    refine wpIn_cond hev ?_
    cases b with
    | true=>exact ihx cx hx (st:=st.put t (bl true)) hm (he.lit hb) hQ hfl2.1 hof.1 h
    | false=>exact ihy cy hy (st:=st.put t (bl false)) hm (he.lit hb) hQ hfl2.2 hof.2 h
   ·cases h
  ·rename_i b
   have:o' = .const (.bool b):=by
    unfold o9 at ho
    split at ho
    ·rename_i h1;cases h1
    ·rename_i h1;cases h1
     rw [beq_iff_eq] at ho;rw [ho]
    ·cases ho
   subst this
   refine wpIn_cond (t:=b) rfl ?_
   cases b with
   | true=>exact ihx cx hx hm he hQ hfl2.1 hof.1 h
   | false=>exact ihy cy hy hm he hQ hfl2.2 hof.2 h
  ·cases h
 | block id x ih =>
  intro c hf μ ok st a w k Q hm he hQ hfl hof h
  obtain ⟨cx,rfl,hx⟩:=hf
  unfold aS at h
  refine wpIn_block (ih cx hx hm he (fun e μ ok st a w hm he hk=>?_) (Yq hfl) hof h)
  cases e with
  | normal=>exact hQ .normal _ _ _ _ _ hm he hk
  | ret=>exact hQ .ret _ _ _ _ _ hm he hk
  | exit i =>
   simp only [mA,Exit.inBlock]
   dsimp only at hk
   by_cases hii:i=id
   ·subst hii
    rw [if_pos rfl]
    have:Nat.beq i i=true:=Nat.beq_refl i
    rw [this] at hk
    exact hQ .normal _ _ _ _ _ hm he hk
   ·rw [if_neg hii]
    have:Nat.beq i id=false:=by
     cases hq:Nat.beq i id with
     | false=>rfl
     | true=>exact (hii (qbZ hq)).elim
    rw [this] at hk
    exact hQ (.exit i) _ _ _ _ _ hm he hk
 | loop hints kill x ih =>
  intro c hf μ ok st a w k Q hm he hQ hfl hof h
  obtain ⟨cx,rfl,hx⟩:=hf
  unfold aS at h
  obtain ⟨μ1,hm1,he1⟩:=Ad hints hm he
  dsimp only at h
  replace h:=(sK (fun st k=>aS C fuel x st k) (fun s=>s.norm kill (j8 st hints).heap.length) k fuel (j8 st hints)).trans h
  refine wpIn_loop_rounds fuel ?_
  have hfl' : fl=none\/flat x=true:=hfl
  have hof' : rG df x:=hof
  clear hm he
  revert h hm1 he1
  generalize (j8 st hints).heap.length=h0
  generalize j8 st hints=st1
  intro hm1 he1 h
  suffices hs:∀ (n:Nat) (μ:Nat->Option Nat) (ok:Nat->Prop) (st:St) (a:Act) (w:World),MR w0 okA μ ok st.heap w->ER df μ ok st.heap w st.env a ->
    dv (fun st k=>aS C fuel x st k) (fun s=>s.norm kill h0) n st k=some r->Code.roundsIn (wd fl) fd P cx Q n a w from hs fuel _ _ _ _ _ hm1 he1 h
  intro n
  induction n with
  | zero=>intro μ ok st a w hm he h;cases h
  | succ n ihn =>
   intro μ ok st a w hm he h
   unfold dv at h
   split at h
   ·cases h
   ·rename_i st' hst'
    obtain ⟨μ,hm',he'⟩:=sI hm he hst'
    rw [roundsIn_succ]
    refine ih cx hx hm' he' (fun e μ ok st a w hm he hk=>?_) hfl' hof' h
    cases e with
    | normal=>exact ihn μ ok st a w hm he hk
    | exit id=>exact hQ (.exit id) _ _ _ _ _ hm he hk
    | ret=>exact hQ .ret _ _ _ _ _ hm he hk
theorem e9 {ds:List Deferred} (hmix:P.follows .mixedOrders=true) (hC:az P C) (fuel:Nat) (ac:AC) (c:Code) (hf:jp P ac c) {μ:Nat->Option Nat} {ok:Nat->Prop} {st:St} {a:Act} {w:World} {k:Ex->St->Option ρ} {Q:Exit->Act->World->Prop}
  (hm:MR w0 okA μ ok st.heap w) (he:ER (ds,[]) μ ok st.heap w st.env a)
  (hQ:∀ e μ ok st a w,MR w0 okA μ ok st.heap w->ER (ds,[]) μ ok st.heap w st.env a->k e st=some r->Q (mA e) a w)
  (h:aS C fuel ac st k=some r):c.wp P Q a w :=
 (wpIn_wide (n:=0)).1 (dy (fl:=none) hmix hC fuel ac c hf hm he hQ (.inl rfl) (oy ac) h)
end
end Go.Eng
