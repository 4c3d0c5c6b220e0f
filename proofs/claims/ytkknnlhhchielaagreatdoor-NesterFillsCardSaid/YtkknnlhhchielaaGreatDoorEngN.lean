/-
 The code of a function.
-/
import Derived.Test.YtkknnlhhchielaaGreatDoorEngM0
import Derived.LoopN
import Derived.LoopNIn
import Derived.Tactics
import Derived.Scope
set_option linter.all false
namespace Go.Eng
open Go Go.RowKit
variable {df : DF}
def sameOpd:Operand→Operand→Bool
 | .tmp t,.tmp t'=>Nat.beq t t'
 | .const (.bool x),.const (.bool y)=>x==y
 | _,_=>false
def Fits (P:Program):AC→Code→Prop
 | .skip,c=>c=.skip
 | .region _ l _ draw,c=>∃ id ops,c=.region id ops draw.isSome∧RegFits P ops l∧∀ ords,draw=some ords→chkOrd ords 0 ops.toList=true
 | .seq a _ b,c=>∃ x y,c=.seq x y∧Fits P a x∧Fits P b y
 | .cond o a b,c=>∃ o' x y,c=.cond o' x y∧sameOpd o o' = true∧Fits P a x∧Fits P b y
 | .block id a,c=>∃ x,c=.block id x∧Fits P a x
 | .loop _ _ a,c=>∃ x,c=.loop x∧Fits P a x
 | .exit id _,c=>c=.exit id
 | .ret _,c=>c=.ret
 | .ghost _ a,c=>Fits P a c
 | .scope a,c=>∃ x,c=.scope x∧Fits P a x
 | .label l,c=>c=.label l
 | .round ..,_=>False
 | .back ..,_=>False
 | .iter ..,_=>False
def toExit:Ex→Exit
 | .normal=>.normal
 | .exit id=>.exit id
 | .ret=>.ret
section
variable {ρ : Type} {P : Program} {C : Oracle} {w0 : Base} {okA : Nat → Prop} {r : ρ}
theorem killE_len:∀ (l:List Nat) (env:List V),(killE env l).length=env.length
 | [],_=>rfl
 | t :: l,env=>by unfold killE;rw [killE_len l];simp
theorem killE_at:∀ (l:List Nat) (env:List V) (t:Nat) (v:V),(killE env l)[t]?=some v→v=.u∨env[t]?=some v
 | [],env,t,v,h=>.inr h
 | s :: l,env,t,v,h=>by
  unfold killE at h
  rcases killE_at l _ t v h with h1 | h1
  ·exact .inl h1
  ·by_cases hst:s=t
   ·subst hst
    rw [List.getElem?_set] at h1
    simp only [if_true] at h1
    split at h1
    ·simp at h1;exact .inl h1.symm
    ·cases h1
   ·rw [List.getElem?_set_ne hst] at h1;exact .inr h1
theorem ER.kill {μ:Nat→Option Nat} {ok:Nat→Prop} {H:List Blk} {w:World} {env:List V} {a:Act} (h:ER df μ ok H w env a) (l:List Nat):ER df μ ok H w (killE env l) a:=by
 refine ⟨by rw [killE_len];exact h.size,fun t v ht=>?_,h.defers,h.glob⟩
 rcases killE_at l env t v ht with rfl | h1
 ·have hlt:t<a.tmps.size:=by
   have:=(List.getElem?_eq_some_iff.1 ht).1
   rw [killE_len] at this;rw [h.size];exact this
  exact ⟨a.tmps[t],by simp [hlt],trivial⟩
 ·exact h.env t v h1
theorem norm_sound {μ:Nat→Option Nat} {ok:Nat→Prop} {st st' : St} {w:World} {a:Act} (hm:MR w0 okA μ ok st.heap w) (he:ER df μ ok st.heap w st.env a) {kill:List Nat} {h0:Nat} (h:st.norm kill h0=some st') :
  ∃ μ',MR w0 okA μ' ok st'.heap w∧ER df μ' ok st'.heap w st'.env a:=by
 unfold St.norm at h
 dsimp only at h
 obtain ⟨hc,h⟩:=bif_some h
 cases h
 rw [Bool.and_eq_true] at hc
 have hk:=he.kill kill
 refine ⟨_,hm.take hc.2,⟨hk.size,fun t v ht=>?_,hk.defers,hk.glob⟩⟩
 obtain ⟨u,hu,hr⟩:=hk.env t v ht
 exact ⟨u,hu,VR.take (List.all_eq_true.1 hc.1 v (List.mem_of_getElem? ht)) hr⟩
theorem empty_val {μ:Nat→Option Nat} {ok:Nat→Prop} {H:List Blk} {w:World} {y:V0} {v:Value} (hy:empty? y=true) (h:V0R μ ok w H y v):∃ a,v=.slice a 0 0:=by
 unfold empty? at hy
 split at hy
 ·rename_i full r n f
  rw [Bool.and_eq_true] at hy
  have hn:=Nat.eq_of_beq_eq_true hy.2
  subst hn
  obtain ⟨a,cap,hv,_,_,hf,_⟩:=h
  have:=hf hy.1
  subst this
  exact ⟨a,hv⟩
 ·cases hy
theorem own_empty {μ:Nat→Option Nat} {ok:Nat→Prop} {H:List Blk} {w:World} {b:Nat} {r:Kd} {f:Nat→Nat→CV} (hb:H[b]?=some (.arr r 0 f)) (a:Option Addr):V0R μ ok w H (.own b 0 0) (.slice a 0 0):=by
 refine ⟨rfl,?_⟩
 rw [hb]
 exact ⟨by omega,a,0,rfl,by omega,by simp [maxLen],.inl ⟨rfl,rfl⟩⟩
theorem MR.fresh0 {μ:Nat→Option Nat} {ok:Nat→Prop} {H:List Blk} {w:World} (hm:MR w0 okA μ ok H w) {r:Kd} (hr:0<r.len) (f:Nat→Nat→CV) :
  ∃ μ',MR w0 okA μ' ok (H ++ [.arr r 0 f]) w∧Ext μ ok w H μ' ok w (H ++ [.arr r 0 f]):=by
 obtain ⟨μ1,hm1,E1⟩:=hm.reserve 1
 have hb:(H ++ List.replicate 1 Blk.rsv)[H.length]?=some .rsv:=by simp
 obtain ⟨hm2,E2⟩:=hm1.install0 hb hr f
 have:(H ++ List.replicate 1 Blk.rsv).set H.length (.arr r 0 f)=H ++ [.arr r 0 f]:=by simp
 rw [this] at hm2 E2
 exact ⟨μ1,hm2,E1.trans E2⟩
theorem MR.rebox {μ:Nat→Option Nat} {ok:Nat→Prop} {H:List Blk} {w:World} (hm:MR w0 okA μ ok H w) {b j:Nat} {cells:List V0} (hb:H[b]?=some (.box cells)) {y:V0}
  (hy:∀ u,(∀ c,cells[j]?=some c→V0R μ ok w H c u)→V0R μ ok w H y u):MR w0 okA μ ok (H.set b (.box (cells.set j y))) w∧Ext μ ok w H μ ok w (H.set b (.box (cells.set j y))):=by
 have hlt:b<H.length:=(List.getElem?_eq_some_iff.1 hb).1
 have hset:∀ b',b'≠b→(H.set b (.box (cells.set j y)))[b']?=H[b']?:=fun b' hn=>List.getElem?_set_ne (Ne.symm hn)
 have hself:(H.set b (.box (cells.set j y)))[b]?=some (.box (cells.set j y)):=List.getElem?_set_self hlt
 have E:Ext μ ok w H μ ok w (H.set b (.box (cells.set j y))):=by
  refine ⟨fun k hk=>⟨hk,rfl⟩,fun b' hb'=>?_,fun b' cs hb'=>?_,fun b' r n f hb'=>?_,fun b' sb n f hb'=>?_,fun b' κ n ln f hb'=>?_⟩
  ·by_cases hbb:b' = b
   ·subst hbb;rw [hb] at hb';cases hb'
   ·rw [hset b' hbb];exact hb'
  ·by_cases hbb:b' = b
   ·subst hbb;exact .inr ⟨⟨_,hself⟩,rfl⟩
   ·exact .inr ⟨⟨cs,by rw [hset b' hbb];exact hb'⟩,rfl⟩
  ·by_cases hbb:b' = b
   ·subst hbb;rw [hb] at hb';cases hb'
   ·exact .inr ⟨⟨f,by rw [hset b' hbb];exact hb'⟩,rfl,fun g cur e _ hw=>⟨cur,e,hw,rfl⟩⟩
  ·by_cases hbb:b' = b
   ·subst hbb;rw [hb] at hb';cases hb'
   ·exact .inr ⟨⟨n,f,by rw [hset b' hbb];exact hb'⟩,rfl⟩
  ·by_cases hbb:b' = b
   ·subst hbb;rw [hb] at hb';cases hb'
   ·exact .inr ⟨⟨f,by rw [hset b' hbb];exact hb'⟩,rfl,fun i=>by rw [List.length_set]⟩
 refine ⟨⟨hm.below,hm.okd,hm.keep,hm.fresh,hm.inj,fun b' o ho=>?_,fun b' g r n f hx ht hmu=>by
  by_cases hbb:b' = b
  ·subst hbb;rw [hself] at hx;cases hx
  ·rw [hset b' hbb] at hx;exact hm.tag b' g r n f hx ht hmu⟩,E⟩
 by_cases hbb:b' = b
 ·subst hbb
  rw [hself] at ho;cases ho
  obtain ⟨g,cur,e,h1,h2,h3,h4⟩:=hm.blk b' _ hb
  refine ⟨g,cur,e,h1,h2,by simp [h3],fun t c ht=>?_⟩
  by_cases htj:j=t
  ·subst htj
   have hlt2:j<cells.length:=by
    have:=(List.getElem?_eq_some_iff.1 ht).1
    simpa using this
   rw [List.getElem?_set_self hlt2] at ht
   cases ht
   obtain ⟨u,hu,hr⟩:=h4 j cells[j] (by simp [hlt2])
   refine ⟨u,hu,E.v0 (hy u fun c hc=>?_)⟩
   rw [List.getElem?_eq_getElem hlt2] at hc;cases hc;exact hr
  ·rw [List.getElem?_set_ne htj] at ht
   obtain ⟨u,hu,hr⟩:=h4 t c ht
   exact ⟨u,hu,E.v0 hr⟩
 ·rw [hset b' hbb] at ho
  exact E.blk (List.length_set ..) (fun _ _=>rfl) (fun _ _ _ _=>rfl) (hm.blk b' o ho)
theorem hint_sound {μ:Nat→Option Nat} {ok:Nat→Prop} {st:St} {w:World} {a:Act} (hm:MR w0 okA μ ok st.heap w) (he:ER df μ ok st.heap w st.env a) (h:Hint) :
  ∃ μ',MR w0 okA μ' ok (doHint st h).heap w∧ER df μ' ok (doHint st h).heap w (doHint st h).env a:=by
 cases h with
 | ty t r =>
  simp only [doHint]
  split
  ·rename_i full n f hy
   cases hc:Nat.beq n 0 with
   | false=>exact ⟨μ,hm,he⟩
   | true =>
    refine ⟨μ,hm,he.same fun u hu=>?_⟩
    rw [List.getD_eq_getElem?_getD] at hy
    cases hq:st.env[t]? with
    | none=>rw [hq] at hy;cases hy
    | some v =>
     rw [hq] at hy
     simp only [Option.getD_some] at hy
     subst hy
     obtain ⟨u',hu',hr⟩:=he.env t _ hq
     rw [hu] at hu';cases hu'
     obtain ⟨a',cap,hv,h1,h2,h3,_⟩:=hr
     exact ⟨a',cap,hv,h1,h2,h3,.inl (Nat.eq_of_beq_eq_true hc)⟩
  ·exact ⟨μ,hm,he⟩
 | slot t r =>
  simp only [doHint]
  split
  ·rename_i y hy
   cases hc:empty? y&&Nat.blt 0 r.len with
   | false=>exact ⟨μ,hm,he⟩
   | true =>
    rw [Bool.and_eq_true] at hc
    have hpos:0<r.len:=by simpa using hc.2
    obtain ⟨μ',hm',E⟩:=hm.fresh0 hpos (fun _ _=>.any)
    refine ⟨μ',hm',(he.ext E).same fun u hu=>?_⟩
    rw [List.getD_eq_getElem?_getD] at hy
    cases hq:st.env[t]? with
    | none=>rw [hq] at hy;cases hy
    | some v =>
     rw [hq] at hy
     simp only [Option.getD_some] at hy
     subst hy
     obtain ⟨u',hu',hr⟩:=he.env t _ hq
     rw [hu] at hu';cases hu'
     obtain ⟨a',rfl⟩:=empty_val hc.1 hr
     exact own_empty (ok:=ok) (r:=r) (f:=fun _ _=>.any) (by simp) a'
  ·exact ⟨μ,hm,he⟩
 | cell t j r =>
  simp only [doHint]
  split
  ·rename_i b j0 hy
   split
   ·rename_i cells hb
    cases hc:empty? (cells.getD (j0+j) .u)&&Nat.blt 0 r.len with
    | false=>exact ⟨μ,hm,he⟩
    | true =>
     rw [Bool.and_eq_true] at hc
     have hpos:0<r.len:=by simpa using hc.2
     obtain ⟨μ',hm',E⟩:=hm.fresh0 hpos (fun _ _=>.any)
     have hlt:b<st.heap.length:=(List.getElem?_eq_some_iff.1 hb).1
     have hb2:(st.heap ++ [Blk.arr r 0 fun _ _=>.any])[b]?=some (.box cells):=by rw [List.getElem?_append_left hlt];exact hb
     have hnew:(st.heap ++ [Blk.arr r 0 fun _ _=>.any])[st.heap.length]?=some (.arr r 0 fun _ _=>.any):=by simp
     have hjl:j0+j<cells.length:=by
      rcases Nat.lt_or_ge (j0+j) cells.length with h | h
      ·exact h
      ·have h1:=hc.1
       rw [List.getD_eq_getElem?_getD,List.getElem?_eq_none h] at h1
       cases h1
     obtain ⟨hm2,E2⟩:=hm'.rebox hb2 (j:=j0+j) (y:=.own st.heap.length 0 0) fun u hu=>by
      have h1:=hu cells[j0+j] (by simp [hjl])
      have h2:=hc.1
      rw [List.getD_eq_getElem?_getD,List.getElem?_eq_getElem hjl] at h2
      obtain ⟨a',rfl⟩:=empty_val h2 h1
      exact own_empty hnew a'
     have e:(st.heap ++ [Blk.arr r 0 fun _ _=>.any]).set b (.box (cells.set (j0+j) (.own st.heap.length 0 0)))=st.heap.set b (.box (cells.set (j0+j) (.own st.heap.length 0 0))) ++ [.arr r 0 fun _ _=>.any]:=by
      rw [List.set_append_left _ _ hlt]
     rw [e] at hm2 E2
     exact ⟨μ',hm2,(he.ext E).ext E2⟩
   ·exact ⟨μ,hm,he⟩
  ·exact ⟨μ,hm,he⟩
theorem hints_sound:∀ (l:List Hint) {μ:Nat→Option Nat} {ok:Nat→Prop} {st:St} {w:World} {a:Act},MR w0 okA μ ok st.heap w→ER df μ ok st.heap w st.env a →
  ∃ μ',MR w0 okA μ' ok (doHints st l).heap w∧ER df μ' ok (doHints st l).heap w (doHints st l).env a
 | [],μ,ok,st,w,a,hm,he=>⟨μ,hm,he⟩
 | h :: l,μ,ok,st,w,a,hm,he=>by
  obtain ⟨μ1,hm1,he1⟩:=hint_sound hm he h
  exact hints_sound l hm1 he1
theorem eval_tmp {a:Act} {t:Nat} {u:Value} (h:a.tmps[t]?=some u):a.eval (.tmp t)=u:=by
 simp only [Act.eval]
 rw [Array.getD_eq_getD_getElem?,h];rfl
def offP (df:DF):AC→Prop
 | .region _ l _ _=>∀ f,f∈l→∀ q,q∈df.2→f.dst≠some q.1
 | .seq x _ y=>offP df x∧offP df y
 | .cond _ x y=>offP df x∧offP df y
 | .block _ x=>offP df x
 | .loop _ _ x=>offP df x
 | .ghost _ x=>offP df x
 | .scope x=>offP df x
 | .iter pre _ _ _ tf _ _ _ _ _ _ _=>(∀ f,f∈pre→∀ q,q∈df.2→f.dst≠some q.1)∧∀ q,q∈df.2→tf≠q.1
 | _=>True
theorem offP_nil {d:List Deferred} (x:AC):offP (d,[]) x:=by
 induction x with
 | region=>intro f _ q hq;cases hq
 | seq _ _ _ h1 h2=>exact ⟨h1,h2⟩
 | cond _ _ _ h1 h2=>exact ⟨h1,h2⟩
 | block _ _ h=>exact h
 | loop _ _ _ h=>exact h
 | ghost _ _ h=>exact h
 | scope _ h=>exact h
 | iter=>exact ⟨(fun _ _ q hq=>nomatch hq),(fun q hq=>nomatch hq)⟩
 | _=>trivial
def flat:AC→Bool
 | .seq x _ y=>flat x&&flat y
 | .cond _ x y=>flat x&&flat y
 | .block _ x=>flat x
 | .loop _ _ x=>flat x
 | .ghost _ x=>flat x
 | .scope _=>false
 | .iter _ _ _ _ _ _ _ _ _ _ x6 xb=>flat x6&&flat xb
 | _=>true
theorem flat2 {fl:Option Nat} {a b:Bool} (h:fl=none∨(a&&b)=true):(fl=none∨a=true)∧(fl=none∨b=true):=by
 rcases h with h | h
 ·exact ⟨.inl h,.inl h⟩
 ·rw [Bool.and_eq_true] at h
  exact ⟨.inr h.1,.inr h.2⟩
theorem flat1 {fl:Option Nat} {b:Bool} (h:fl=none∨b=true):fl=none∨b=true:=h
theorem evalC_round {fl:Option Nat} {fd:Nat} (hmix:P.follows .mixedOrders=true) (hC:Sound P C) (fuel:Nat):∀ (ac:AC) (c:Code),Fits P ac c→∀ {μ:Nat→Option Nat} {ok:Nat→Prop} {st:St} {a:Act} {w:World} {k:Ex→St→Option ρ} {Q:Exit→Act→World→Prop},
  MR w0 okA μ ok st.heap w→ER df μ ok st.heap w st.env a →
  (∀ e μ ok st a w,MR w0 okA μ ok st.heap w→ER df μ ok st.heap w st.env a→k e st=some r→Q (toExit e) a w) →
  (fl=none∨flat ac=true)→offP df ac→evalC C fuel ac st k=some r→c.wpIn (wd fl) fd P Q a w:=by
 intro ac
 induction ac with
 | skip =>
  intro c hf μ ok st a w k Q hm he hQ hfl hof h
  cases hf
  exact wpIn_skip (hQ .normal _ _ _ _ _ hm he h)
 | exit id ks =>
  intro c hf μ ok st a w k Q hm he hQ hfl hof h
  cases hf
  exact wpIn_exit (hQ (.exit id) _ _ (st.kill ks) _ _ hm (he.kill ks) h)
 | ret ks =>
  intro c hf μ ok st a w k Q hm he hQ hfl hof h
  cases hf
  exact wpIn_ret (hQ .ret _ _ (st.kill ks) _ _ hm (he.kill ks) h)
 | scope x ih =>
  intro c hf μ ok st a w k Q hm he hQ hfl hof h
  obtain ⟨cx,rfl,hx⟩:=hf
  unfold evalC at h
  have hn:fl=none:=hfl.resolve_right (by simp [flat])
  subst hn
  refine wpIn_wide.2 (wp_scope_straight ((wpIn_wide (n:=fd)).1 (ih cx hx hm he (fun e μ ok st a w hm he hk=>?_) (.inl rfl) hof h)))
  cases e with
  | normal=>exact hQ .normal _ _ _ _ _ hm he hk
  | ret=>exact hQ .ret _ _ _ _ _ hm he hk
  | exit i=>exact hQ (.exit i) _ _ _ _ _ hm he hk
 | label l =>
  intro c hf μ ok st a w k Q hm he hQ hfl hof h
  cases hf
  exact wpIn_label (hQ .normal _ _ st _ _ hm he h)
 | round keep tx p0 p1 x ih =>
  intro c hf
  exact hf.elim
 | back oth ts tx tf p0 f ty x ih =>
  intro c hf
  exact hf.elim
 | iter =>
  intro c hf
  exact hf.elim
 | ghost l x ih =>
  intro c hf μ ok st a w k Q hm he hQ hfl hof h
  obtain ⟨μ1,ok1,hm1,E1,hok1,hkill,hμ1,hH1⟩:=hm.freeze l
  obtain ⟨hm2,he2⟩:=thaw_sound hm he l hm1 E1 hkill hH1
  exact ih c hf (st:=st.thaw l) hm2 he2 hQ hfl hof h
 | region id l na draw =>
  intro c hf μ ok st a w k Q hm he hQ hfl hof h
  obtain ⟨id',ops,rfl,hr,hd⟩:=hf
  obtain ⟨μ1,hm1,E1⟩:=hm.reserve na
  have he1:=he.ext E1
  unfold evalC at h
  cases draw with
  | none =>
   exact region_sound (st:={ st with heap:=st.heap ++ List.replicate na .rsv }) hC hr hof hm1 he1 (fun μ ok st a w hm he hk=>hQ .normal _ _ _ _ _ hm he hk) h
  | some ords =>
   exact region_draw_sound (st:={ st with heap:=st.heap ++ List.replicate na .rsv }) hmix hC hr hof (hd ords rfl) hm1 he1 (fun μ ok st a w hm he hk=>hQ .normal _ _ _ _ _ hm he hk) h
 | seq x ks y ihx ihy =>
  intro c hf μ ok st a w k Q hm he hQ hfl hof h
  obtain ⟨cx,cy,rfl,hx,hy⟩:=hf
  unfold evalC at h
  have hfl2:(fl=none∨flat x=true)∧(fl=none∨flat y=true):=flat2 hfl
  refine wpIn_seq (ihx cx hx hm he (fun e μ ok st a w hm he hk=>?_) hfl2.1 hof.1 h)
  cases e with
  | normal=>exact ihy cy hy (st:=st.kill ks) hm (he.kill ks) hQ hfl2.2 hof.2 hk
  | exit id=>exact hQ (.exit id) _ _ _ _ _ hm he hk
  | ret=>exact hQ .ret _ _ _ _ _ hm he hk
 | cond o x y ihx ihy =>
  intro c hf μ ok st a w k Q hm he hQ hfl hof h
  obtain ⟨o',cx,cy,rfl,ho,hx,hy⟩:=hf
  have hfl2:(fl=none∨flat x=true)∧(fl=none∨flat y=true):=flat2 hfl
  unfold evalC at h
  split at h
  ·rename_i t
   have:o' = .tmp t:=by
    unfold sameOpd at ho
    split at ho
    ·rename_i h1;cases h1;rw [Nat.eq_of_beq_eq_true ho]
    ·rename_i h1;cases h1
    ·cases ho
   subst this
   split at h
   ·rename_i b hb
    have hev:=eval_tmp (env_bool he hb)
    refine wpIn_cond hev ?_
    cases b with
    | true=>exact ihx cx hx (st:=st.put t (bl true)) hm (he.lit hb) hQ hfl2.1 hof.1 h
    | false=>exact ihy cy hy (st:=st.put t (bl false)) hm (he.lit hb) hQ hfl2.2 hof.2 h
   ·cases h
  ·rename_i b
   have:o' = .const (.bool b):=by
    unfold sameOpd at ho
    split at ho
    ·rename_i h1;cases h1
    ·rename_i h1;cases h1
     rw [beq_iff_eq] at ho;rw [ho]
    ·cases ho
   subst this
   refine wpIn_cond (t:=b) rfl ?_
   cases b with
   | true=>exact ihx cx hx hm he hQ hfl2.1 hof.1 h
   | false=>exact ihy cy hy hm he hQ hfl2.2 hof.2 h
  ·cases h
 | block id x ih =>
  intro c hf μ ok st a w k Q hm he hQ hfl hof h
  obtain ⟨cx,rfl,hx⟩:=hf
  unfold evalC at h
  refine wpIn_block (ih cx hx hm he (fun e μ ok st a w hm he hk=>?_) (flat1 hfl) hof h)
  cases e with
  | normal=>exact hQ .normal _ _ _ _ _ hm he hk
  | ret=>exact hQ .ret _ _ _ _ _ hm he hk
  | exit i =>
   simp only [toExit,Exit.inBlock]
   dsimp only at hk
   by_cases hii:i=id
   ·subst hii
    rw [if_pos rfl]
    have:Nat.beq i i=true:=Nat.beq_refl i
    rw [this] at hk
    exact hQ .normal _ _ _ _ _ hm he hk
   ·rw [if_neg hii]
    have:Nat.beq i id=false:=by
     cases hq:Nat.beq i id with
     | false=>rfl
     | true=>exact (hii (Nat.eq_of_beq_eq_true hq)).elim
    rw [this] at hk
    exact hQ (.exit i) _ _ _ _ _ hm he hk
 | loop hints kill x ih =>
  intro c hf μ ok st a w k Q hm he hQ hfl hof h
  obtain ⟨cx,rfl,hx⟩:=hf
  unfold evalC at h
  obtain ⟨μ1,hm1,he1⟩:=hints_sound hints hm he
  dsimp only at h
  replace h:=(loopN_head (fun st k=>evalC C fuel x st k) (fun s=>s.norm kill (doHints st hints).heap.length) k fuel (doHints st hints)).trans h
  refine wpIn_loop_rounds fuel ?_
  have hfl' : fl=none∨flat x=true:=hfl
  have hof' : offP df x:=hof
  clear hm he
  revert h hm1 he1
  generalize (doHints st hints).heap.length=h0
  generalize doHints st hints=st1
  intro hm1 he1 h
  suffices hs:∀ (n:Nat) (μ:Nat→Option Nat) (ok:Nat→Prop) (st:St) (a:Act) (w:World),MR w0 okA μ ok st.heap w→ER df μ ok st.heap w st.env a →
    loopN (fun st k=>evalC C fuel x st k) (fun s=>s.norm kill h0) n st k=some r→Code.roundsIn (wd fl) fd P cx Q n a w from hs fuel _ _ _ _ _ hm1 he1 h
  intro n
  induction n with
  | zero=>intro μ ok st a w hm he h;cases h
  | succ n ihn =>
   intro μ ok st a w hm he h
   unfold loopN at h
   split at h
   ·cases h
   ·rename_i st' hst'
    obtain ⟨μ,hm',he'⟩:=norm_sound hm he hst'
    rw [roundsIn_succ]
    refine ih cx hx hm' he' (fun e μ ok st a w hm he hk=>?_) hfl' hof' h
    cases e with
    | normal=>exact ihn μ ok st a w hm he hk
    | exit id=>exact hQ (.exit id) _ _ _ _ _ hm he hk
    | ret=>exact hQ .ret _ _ _ _ _ hm he hk
theorem evalC_sound {ds:List Deferred} (hmix:P.follows .mixedOrders=true) (hC:Sound P C) (fuel:Nat) (ac:AC) (c:Code) (hf:Fits P ac c) {μ:Nat→Option Nat} {ok:Nat→Prop} {st:St} {a:Act} {w:World} {k:Ex→St→Option ρ} {Q:Exit→Act→World→Prop}
  (hm:MR w0 okA μ ok st.heap w) (he:ER (ds,[]) μ ok st.heap w st.env a)
  (hQ:∀ e μ ok st a w,MR w0 okA μ ok st.heap w→ER (ds,[]) μ ok st.heap w st.env a→k e st=some r→Q (toExit e) a w)
  (h:evalC C fuel ac st k=some r):c.wp P Q a w :=
 (wpIn_wide (n:=0)).1 (evalC_round (fl:=none) hmix hC fuel ac c hf hm he hQ (.inl rfl) (offP_nil ac) h)
end
end Go.Eng
