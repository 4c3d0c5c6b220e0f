/-
 Iterators shown by hand: what the loop sees of their runs;a call of yield;a call of an inner function.
-/
import Derived.Test.YtkknnlhhchielaaGreatDoorEngIt1
import Derived.Test.YtkknnlhhchielaaGreatDoorEngM0
set_option linter.all false
namespace Go.Eng
open Go Go.RowKit
def aM:Kd:=.pr (.int .i64) .nil
structure JOk (okI:Nat->Prop) (W1:World) (J:(Nat->Prop)->Nat->World->Prop):Prop where
 world:∀ I c W,J I c W->W1.heap.size<=W.heap.size/\(∀ g,okI g->W.heap[g]?=W1.heap[g]?)/\∀ g,I g->W1.heap.size<=g/\g<W.heap.size
 mono:∀ I c W I' W',J I c W->aU ⟨W,I⟩ W'->(∀ g,I' g->(I g\/W.heap.size<=g)/\g<W'.heap.size)->J I' c W'
structure YI (okI:Nat->Prop) (J:(Nat->Prop)->Nat->World->Prop) (c:Nat) (μ:Nat->Option Nat) (ok:Nat->Prop) (W:World):Prop where
 j:J (fun g=>(rg μ g\/ok g)/\¬ okI g) c W
 sub:∀ g,okI g->ok g
 dis:∀ g,ok g->¬ rg μ g
section
variable {okI : Nat -> Prop} {W1 : World} {J : (Nat -> Prop) -> Nat -> World -> Prop} {c : Nat} {μ μ' : Nat -> Option Nat} {ok ok' : Nat -> Prop} {W w : World} {H : List Blk}
theorem JOk.less (hJ:JOk okI W1 J) {I I' : Nat->Prop} (h:J I c W) (hI:∀ g,I' g->I g):J I' c W :=
 hJ.mono I c W I' W h (aU.refl W I) fun g hg=>⟨.inl (hI g hg),((hJ.world I c W h).2.2 g (hI g hg)).2⟩
theorem YI.run (hJ:JOk okI W1 J) (h:YI okI J c μ ok W) (hm:MR ⟨W,rg μ⟩ ok μ' ok' H w):YI okI J c μ' ok' w:=by
 refine ⟨hJ.mono _ c W _ w h.j ⟨hm.below.os,hm.below.tape,hm.below.output,hm.below.size,fun k hk ho=>hm.below.block k hk fun q=>ho ⟨.inl q,fun q2=>h.dis k (h.sub k q2) q⟩,fun k ho cur e hc=>?_,hm.below.drawn⟩ ?_,fun g hg=>hm.keep g (h.sub g hg),fun g hg ⟨b,hb⟩=>(hm.fresh b g hb).2.2 hg⟩
 ·by_cases q:rg μ k
  ·exact hm.below.lent k q cur e hc
  ·exact ⟨cur,(hm.below.block k (qqZ.1 hc).1 q).trans hc,rfl⟩
 ·rintro g ⟨hg,hn⟩
  rcases hg with ⟨b,hb⟩ | hg
  ·obtain ⟨h1,h2,h3⟩:=hm.fresh b g hb
   refine ⟨?_,h2⟩
   rcases h1 with q | q
   ·exact .inr q
   ·exact .inl ⟨.inl q,hn⟩
  ·obtain ⟨h1,h2⟩:=hm.okd g hg
   refine ⟨?_,h1⟩
   rcases h2 with q | q | q
   ·exact .inl ⟨.inr q,hn⟩
   ·exact .inr q
   ·exact .inl ⟨.inl q,hn⟩
theorem lu {W W' : World} {g:Nat} (h:W'.heap[g]?=W.heap[g]?) (hg:g<W.heap.size):g<W'.heap.size:=by
 rw [Array.getElem?_eq_getElem hg] at h
 exact (qqZ.1 h).1
theorem MR.yielded {w0:cD} {okA:Nat->Prop} (hJ:JOk okI W1 J) (hm:MR w0 okA μ ok H w) (hy:YI okI J c μ ok w) {b:Nat} {r:Kd} {n:Nat} {f:Nat->Nat->CV} (hb:H[b]?=some (.arr r n f)) {W' : World} {c' : Nat}
  (hj:J (fun g=>((rg μ g\/ok g)/\¬ okI g)/\¬ μ b=some g) c' W') (hs:∀ g,(rg μ g\/ok g)/\¬ okI g->W'.heap[g]?=w.heap[g]?) :
  MR ⟨W',rg (upd μ b none)⟩ ok (upd μ b none) ok (H.set b .dead) W'/\Ext μ ok w H (upd μ b none) ok W' (H.set b .dead)/\YI okI J c' (upd μ b none) ok W':=by
 have hI:∀ g,okI g->W'.heap[g]?=w.heap[g]?:=fun g hg=>((hJ.world _ _ _ hj).2.1 g hg).trans ((hJ.world _ _ _ hy.j).2.1 g hg).symm
 have hall:∀ g,(ok g\/rg μ g)->W'.heap[g]?=w.heap[g]?:=fun g hg=>by
  by_cases q:okI g
  ·exact hI g q
  ·exact hs g ⟨hg.symm,q⟩
 have hlt:b<H.length:=(qfZ.1 hb).1
 have hset:∀ b',b'≠b->(H.set b .dead)[b']?=H[b']?:=fun b' hn=>qoZ (Ne.symm hn)
 have hself:(H.set b .dead)[b]?=some .dead:=qkZ hlt
 have ho:∀ k,k≠b->upd μ b none k=μ k:=fun k hk=>by simp [upd,hk]
 have E:Ext μ ok w H (upd μ b none) ok W' (H.set b .dead):=by
  refine ⟨fun g hg=>⟨hg,hall g (.inl hg)⟩,fun b' hb'=>?_,fun b' cs hb'=>?_,fun b' r n f hb'=>?_,fun b' sb n f hb'=>?_,fun b' κ n ln f hb'=>?_⟩
  ·by_cases q:b' = b
   ·subst q;exact hself
   ·rw [hset b' q];exact hb'
  ·by_cases q:b' = b
   ·subst q;exact .inl hself
   ·exact .inr ⟨⟨cs,by rw [hset b' q];exact hb'⟩,ho b' q⟩
  ·by_cases q:b' = b
   ·subst q;exact .inl hself
   ·exact .inr ⟨⟨f,by rw [hset b' q];exact hb'⟩,ho b' q,fun g cur e hg hw=>⟨cur,e,by rw [hall g (.inr ⟨b',hg⟩)];exact hw,rfl⟩⟩
  ·by_cases q:b' = b
   ·subst q;exact .inl hself
   ·exact .inr ⟨⟨n,f,by rw [hset b' q];exact hb'⟩,ho b' q⟩
  ·by_cases q:b' = b
   ·subst q;exact .inl hself
   ·exact .inr ⟨⟨f,by rw [hset b' q];exact hb'⟩,ho b' q,fun i=>by
     have:=DE (H.set b .dead).length b' i
     rw [roZ] at this ⊢
     exact ho _ (by omega)⟩
 have up:∀ b' g,upd μ b none b' = some g->b'≠b/\μ b' = some g:=fun b' g hg=>by
  by_cases q:b' = b
  ·subst q;simp [upd] at hg
  ·exact ⟨q,by rw [<- ho b' q];exact hg⟩
 refine ⟨⟨aU.refl W' _,fun g hg=>⟨lu (hall g (.inl hg)) (hm.okd g hg).1,.inl hg⟩,fun g hg=>hg,fun b' g hg=>?_,fun b1 b2 g h1 h2=>hm.inj b1 b2 g (up _ _ h1).2 (up _ _ h2).2,fun b' o hb'=>?_,fun b' g r n f hx _ hg=>⟨b',hg⟩⟩,E,⟨hJ.less hj fun g hg=>⟨⟨hg.1.imp (fun ⟨b',h⟩=>⟨b',(up _ _ h).2⟩) id,hg.2⟩,?_⟩,hy.sub,fun g hg ⟨b',h⟩=>hy.dis g hg ⟨b',(up _ _ h).2⟩⟩⟩
 ·obtain ⟨h1,h2,h3⟩:=hm.fresh b' g (up _ _ hg).2
  exact ⟨.inr ⟨b',hg⟩,lu (hall g (.inr ⟨b',(up _ _ hg).2⟩)) h2,h3⟩
 ·by_cases q:b' = b
  ·subst q
   rw [hself] at hb'
   cases hb'
   trivial
  ·rw [hset b' q] at hb'
   exact E.blk (roZ ..) (fun k hk=>ho k (by omega)) (fun k g hk hg=>hall g (.inr ⟨k,hg⟩)) (hm.blk b' o hb')
 ·intro hbg
  rcases hg.1 with ⟨b',h⟩ | h
  ·exact (up _ _ h).1 (hm.inj b' b g (up _ _ h).2 hbg)
  ·exact hy.dis g h ⟨b,hbg⟩
theorem MR.called {w0:cD} {okA:Nat->Prop} (hJ:JOk okI W1 J) (hm:MR w0 okA μ ok H w) (hsub:∀ g,okI g->ok g) (hdis:∀ g,ok g->¬ rg μ g) {W' : World} {c' : Nat} {I' : Nat->Prop}
  (hj:J I' c' W') (hI:∀ g,(rg μ g\/ok g)/\¬ okI g->I' g) (hs:∀ g,(ok g\/rg μ g)->W'.heap[g]?=w.heap[g]?) :
  MR ⟨W',rg μ⟩ ok μ ok H W'/\Ext μ ok w H μ ok W' H/\YI okI J c' μ ok W':=by
 have E:Ext μ ok w H μ ok W' H:=⟨fun g hg=>⟨hg,hs g (.inl hg)⟩,fun b hb=>hb,fun b cs hb=>.inr ⟨⟨cs,hb⟩,rfl⟩,fun b r n f hb=>.inr ⟨⟨f,hb⟩,rfl,fun g cur e hg hw=>⟨cur,e,by rw [hs g (.inr ⟨b,hg⟩)];exact hw,rfl⟩⟩,fun b sb n f hb=>.inr ⟨⟨n,f,hb⟩,rfl⟩,fun b κ n ln f hb=>.inr ⟨⟨f,hb⟩,rfl,fun i=>rfl⟩⟩
 refine ⟨⟨aU.refl W' _,fun g hg=>⟨lu (hs g (.inl hg)) (hm.okd g hg).1,.inl hg⟩,fun g hg=>hg,fun b g hg=>⟨.inr ⟨b,hg⟩,lu (hs g (.inr ⟨b,hg⟩)) (hm.fresh b g hg).2.1,(hm.fresh b g hg).2.2⟩,hm.inj,fun b o ho=>E.blk rfl (fun _ _=>rfl) (fun k g _ hg=>hs g (.inr ⟨k,hg⟩)) (hm.blk b o ho),fun b g r n f _ _ hg=>⟨b,hg⟩⟩,E,hJ.less hj hI,hsub,hdis⟩
theorem mG (hblk:∀ (b:Nat) (o:Blk),H[b]?=some o->lH μ ok w H b o) {b n m:Nat} {f g:Nat->Nat->CV} {u:Value} (hb:H[b]?=some (.arr aM m f)) (hu:V0R μ ok w H (.own b 0 n) u) (hg:∀ i,i<n->g i 0=f i 0) :
  CR (fun k=>μ b=some k) w (.ro false aM n g) u:=by
 obtain ⟨_,hu⟩:=hu
 rw [hb] at hu
 obtain ⟨hle,a,cap,rfl,hc1,hc2,hown⟩:=hu
 refine ⟨a,cap,rfl,hc1,hc2,nofun,?_⟩
 by_cases h0:n=0
 ·exact .inl h0
 ·right
  rcases hown with ⟨q,_⟩ | ⟨gg,cur,e,hg',rfl,hw,hsz⟩
  ·exact absurd q h0
  ·obtain ⟨_,hbr⟩:=hblk b _ hb
   rcases hbr with ⟨_,q⟩ | ⟨g',cur',e',hg2,hw2,hn2,hcells⟩
   ·rw [hg'] at q;cases q
   ·rw [hg'] at hg2;cases hg2
    rw [hw] at hw2;cases hw2
    refine ⟨gg,0*aM.len,rfl,hg',fun i j hi hj=>?_⟩
    have hj0:j=0:=by simp [aM,Kd.len] at hj;omega
    subst hj0
    obtain ⟨hk,u',hu',hr⟩:=hcells i 0 (by omega) (by simp [aM,Kd.len])
    rw [hg i hi]
    refine ⟨hk,u',?_,?_⟩
    ·rw [cell_of_row w gg _ cur e (0,0) hw,Nat.zero_mul,rlZ];exact hu'
    ·obtain ⟨x,hx⟩:∃ x,f i 0=.i .i64 x:=hk
     rw [hx] at hr ⊢
     exact hr
theorem CR.rows {fl fl' : Bool} {n:Nat} {f g:Nat->Nat->CV} {u:Value} (h:CR ok w (.ro fl aM n f) u) (hg:∀ i,i<n->g i 0=f i 0) (hf:fl' = true->fl=true):CR ok w (.ro fl' aM n g) u:=by
 obtain ⟨a,cap,rfl,h1,h2,h3,h4⟩:=h
 refine ⟨a,cap,rfl,h1,h2,fun q=>h3 (hf q),h4.imp id ?_⟩
 rintro ⟨gg,off,h5,h6,h7⟩
 refine ⟨gg,off,h5,h6,fun i j hi hj=>?_⟩
 have hj0:j=0:=by simp [aM,Kd.len] at hj;omega
 subst hj0
 rw [hg i hi]
 exact h7 i 0 hi hj
end
section
variable {P : Program} {ops : Array Oper} {Q : Exit -> Act -> World -> Prop} {i : Nat} {K : Act -> World -> Prop} {a : Act} {w : World} {o : Oper} {fl : Option Nat} {fd : Nat}
theorem Eh {d tg ta:Nat} {ts:List TypeId} {m:Mode} (ho:ops[i]?=some o) (hf:sU P ops ⟨some d,.callv (.tmp tg) [.tmp ta] ts m,none⟩ o) {l:Nat} {u:Value} (hg:a.tmps[tg]?=some (.func (.yield l) #[] #[])) (ha:a.tmps[ta]?=some u)
  {rf:FuncId} {rt:Array Value} {ra rb:Code} (hy:(Instr.yield l #[u]).run P w=.ok (.round l rf rt ra rb) w) {R:Ending->World->Prop} (hr:∀ d,RoundIn (wd none) d P l rf rt ra rb w R) (hK:∀ e w',R e w'->e=.returned (.bool true)/\K (a.put (some d) (.bool true)) w') :
  wpOpIn (wd none) fd P ops Q i K a w:=by
 have want:o.guard=none:=by
  have:=hf.guard
  unfold jE at this
  cases hq:o.guard with
  | none=>rfl
  | some p=>rw [hq] at this;cases this
 unfold wpOpIn
 rw [ho]
 dsimp only
 rw [if_pos (by simp [Region.wanted,want])]
 refine ⟨fun _ _=>trivial,?_⟩
 have hd:o.dst=some d:=hf.dst
 have hrun:(o.semAt (wd none).round a.eval).run P w=.ok (.round l rf rt ra rb) w:=by
  have hop:o.op=.call { callee:=.value (tm tg),args:=#[tm ta],argTypes:=ts.toArray }:=hf.op
  have e:(o.semAt (wd none).round a.eval)=execOp a.eval o:=rfl
  rw [e]
  simp [execOp,hop,resolve,hg,ha,invoke,Deferred.ofValue,go_sem,hy]
 rw [hrun,Oper.uponIn_round]
 refine ⟨(fun k=>by cases k),(hr _).mono ?_⟩
 intro e w' h
 obtain ⟨he,h2⟩:=hK e w' h
 subst he
 dsimp only
 rw [hd]
 exact h2
theorem Rh {d tg ta tb:Nat} {ts:List TypeId} {m:Mode} (ho:ops[i]?=some o) (hf:sU P ops ⟨some d,.callv (.tmp tg) [.tmp ta,.tmp tb] ts m,none⟩ o) {gf:FuncId} {cs:Array Value} {u v:Value} (hg:a.tmps[tg]?=some (.func (.func gf) #[] cs)) (ha:a.tmps[ta]?=some u) (hb:a.tmps[tb]?=some v)
  (hok:dq P gf=true) {R:Ending->World->Prop} (hr:CallsIn (wd none) (fd-1) P gf (#[u,v] ++ cs) w R) (hK:∀ e w',R e w'->e=.returned (.bool true)/\K (a.put (some d) (.bool true)) w') :
  wpOpIn (wd none) fd P ops Q i K a w:=by
 have want:o.guard=none:=by
  have:=hf.guard
  unfold jE at this
  cases hq:o.guard with
  | none=>rfl
  | some p=>rw [hq] at this;cases this
 unfold wpOpIn
 rw [ho]
 dsimp only
 rw [if_pos (by simp [Region.wanted,want])]
 refine ⟨fun _ _=>trivial,?_⟩
 have hd:o.dst=some d:=hf.dst
 have hrun:(o.semAt (wd none).round a.eval).run P w=.ok (.enter gf (#[u,v] ++ cs)) w:=by
  have hop:o.op=.call { callee:=.value (tm tg),args:=#[tm ta,tm tb],argTypes:=ts.toArray }:=hf.op
  have e:(o.semAt (wd none).round a.eval)=execOp a.eval o:=rfl
  rw [e]
  have hc:=dz (P:=P) (w:=w) (args:=(#[u,v] ++ cs)) hok
  simp [execOp,hop,resolve,hg,ha,hb,invoke,Deferred.ofValue,go_sem,hc]
 rw [hrun,Oper.uponIn_enter]
 refine ⟨(fun k=>by cases k),hr.mono ?_⟩
 intro e w' h
 obtain ⟨he,h2⟩:=hK e w' h
 subst he
 dsimp only
 rw [hd]
 exact h2
end
end Go.Eng
