/-
 How the memory of a run turns: a new block,a block's content,blocks let go,blocks forgotten.
-/
import Derived.Test.YtkknnlhhchielaaGreatDoorEngB
set_option linter.all false
namespace Go.Eng
open Go Go.RowKit
section
variable {μ μ' μ'' : Nat -> Option Nat} {ok ok' ok'' : Nat -> Prop} {w w' w'' : World} {H H' H'' : List Blk}
theorem Ext.refl (μ:Nat->Option Nat) (ok:Nat->Prop) (w:World) (H:List Blk):Ext μ ok w H μ ok w H where
 ok:=fun g hg=>⟨hg,rfl⟩
 dead:=fun b hb=>hb
 box:=fun b cs hb=>.inr ⟨⟨cs,hb⟩,rfl⟩
 arr:=fun b r n f hb=>.inr ⟨⟨f,hb⟩,rfl,fun g cur e _ hw=>⟨cur,e,hw,rfl⟩⟩
 set:=fun b sb n f hb=>.inr ⟨⟨n,f,hb⟩,rfl⟩
 mat:=fun b κ n ln f hb=>.inr ⟨⟨f,hb⟩,rfl,fun _=>rfl⟩
theorem Ext.trans (E:Ext μ ok w H μ' ok' w' H') (F:Ext μ' ok' w' H' μ'' ok'' w'' H''):Ext μ ok w H μ'' ok'' w'' H'' where
 ok:=fun g hg=>⟨(F.ok g (E.ok g hg).1).1,(F.ok g (E.ok g hg).1).2.trans (E.ok g hg).2⟩
 dead:=fun b hb=>F.dead b (E.dead b hb)
 box:=fun b cs hb=>by
  rcases E.box b cs hb with h | ⟨⟨cs',h⟩,hm⟩
  ·exact .inl (F.dead b h)
  ·rcases F.box b cs' h with h' | ⟨hc,hm'⟩
   ·exact .inl h'
   ·exact .inr ⟨hc,hm'.trans hm⟩
 arr:=fun b r n f hb=>by
  rcases E.arr b r n f hb with h | ⟨⟨f',h⟩,hm,hk⟩
  ·exact .inl (F.dead b h)
  ·rcases F.arr b r n f' h with h' | ⟨hc,hm',hk'⟩
   ·exact .inl h'
   ·refine .inr ⟨hc,hm'.trans hm,fun g cur e hg hw=>?_⟩
    obtain ⟨cur',e',hw',hs⟩:=hk g cur e hg hw
    obtain ⟨cur'',e'',hw'',hs'⟩:=hk' g cur' e' (hm.trans hg) hw'
    exact ⟨cur'',e'',hw'',hs'.trans hs⟩
 set:=fun b sb n f hb=>by
  rcases E.set b sb n f hb with h | ⟨⟨n',f',h⟩,hm⟩
  ·exact .inl (F.dead b h)
  ·rcases F.set b sb n' f' h with h' | ⟨hc,hm'⟩
   ·exact .inl h'
   ·exact .inr ⟨hc,hm'.trans hm⟩
 mat:=fun b κ n ln f hb=>by
  rcases E.mat b κ n ln f hb with h | ⟨⟨f',h⟩,hm,hr⟩
  ·exact .inl (F.dead b h)
  ·rcases F.mat b κ n ln f' h with h' | ⟨hc,hm',hr'⟩
   ·exact .inl h'
   ·exact .inr ⟨hc,hm'.trans hm,fun i=>(hr' i).trans (hr i)⟩
theorem Ext.blkL (E:Ext μ ok w H μ' ok' w' H') {b:Nat} {o:Blk} (hm:μ' b=μ b) (hg:∀ g,μ b=some g->w'.heap[g]?=w.heap[g]?)
  (hr:∀ i,μ' (rix H'.length b i)=μ (rix H.length b i)/\∀ g,μ (rix H.length b i)=some g->w'.heap[g]?=w.heap[g]?) (h:lH μ ok w H b o):lH μ' ok' w' H' b o:=by
 cases o with
 | rsv=>exact hm.trans h
 | dead=>trivial
 | box cells =>
  obtain ⟨g,cur,e,h1,h2,h3,h4⟩:=h
  exact ⟨g,cur,e,hm.trans h1,(hg g h1).trans h2,h3,fun j c hj=>let ⟨u,hu,hr⟩:=h4 j c hj;⟨u,hu,E.v0 hr⟩⟩
 | arr r n f =>
  obtain ⟨h0,h⟩:=h
  refine ⟨h0,?_⟩
  rcases h with ⟨h1,h2⟩ | ⟨g,cur,e,h1,h2,h3,h4⟩
  ·exact .inl ⟨h1,hm.trans h2⟩
  ·refine .inr ⟨g,cur,e,hm.trans h1,(hg g h1).trans h2,h3,fun i j hi hj=>?_⟩
   obtain ⟨hk,u,hu,hr⟩:=h4 i j hi hj
   exact ⟨hk,u,hu,CR.mono E.ok hr⟩
 | set sb n f =>
  obtain ⟨g,es,h1,h2,h3⟩:=h
  exact ⟨g,es,hm.trans h1,(hg g h1).trans h2,h3⟩
 | mat κ n ln f =>
  obtain ⟨hκ,hn,g,cur,e,h1,h2,h3,h4⟩:=h
  refine ⟨hκ,hn,g,cur,e,hm.trans h1,(hg g h1).trans h2,h3,fun i hi=>?_⟩
  obtain ⟨u,hu,⟨a,cap,q1,q2,q3,q4⟩,h5⟩:=h4 i hi
  refine ⟨u,hu,⟨a,cap,q1,q2,q3,q4.imp id fun ⟨x,x1,x2⟩=>⟨x,(hr i).1.trans x1,x2⟩⟩,fun x hx0 hx=>?_⟩
  rw [(hr i).1] at hx
  obtain ⟨rc,e',r1,r2,r3⟩:=h5 x hx0 hx
  refine ⟨rc,e',((hr i).2 x hx).trans r1,r2,fun k hk=>?_⟩
  obtain ⟨r4,v,r5,r6⟩:=r3 k hk
  exact ⟨r4,v,r5,CR.mono E.ok r6⟩
theorem Ext.blk (E:Ext μ ok w H μ' ok' w' H') (hl:H'.length=H.length) {b:Nat} {o:Blk} (hm:∀ k,k=b\/H.length<=k->μ' k=μ k) (hg:∀ k g,k=b\/H.length<=k->μ k=some g->w'.heap[g]?=w.heap[g]?)
  (h:lH μ ok w H b o):lH μ' ok' w' H' b o :=
 E.blkL (hm b (.inl rfl)) (fun g=>hg b g (.inl rfl)) (fun i=>⟨by rw [hl];exact hm _ (.inr (DE ..)),fun g=>hg _ g (.inr (DE ..))⟩) h
end
theorem aU.step {w0:cD} {w' w'' : World} {own' : Nat->Prop} (h:aU w0 w') (ho:∀ g,own' g->w0.w.heap.size<=g\/w0.own g) (k:aU ⟨w',own'⟩ w''):aU w0 w'':=by
 refine ⟨k.os.trans h.os,k.tape.trans h.tape,k.output.trans h.output,Nat.le_trans h.size k.size,fun g hg hn=>?_,fun g hg cur e hc=>?_,Nat.le_trans h.drawn k.drawn⟩
 ·refine (k.block g (qxZ hg h.size) fun q=>?_).trans (h.block g hg hn)
  rcases ho g q with q | q
  ·omega
  ·exact hn q
 ·obtain ⟨cur',h1,h2⟩:=h.lent g hg cur e hc
  have hlt:g<w'.heap.size:=(qqZ.1 h1).1
  by_cases q:own' g
  ·obtain ⟨cur'',h3,h4⟩:=k.lent g q cur' e h1
   exact ⟨cur'',h3,h4.trans h2⟩
  ·exact ⟨cur',(k.block g hlt q).trans h1,h2⟩
theorem aU.refl (w:World) (own:Nat->Prop):aU ⟨w,own⟩ w:=⟨rfl,rfl,rfl,rkZ _,fun _ _ _=>rfl,fun _ _ cur e h=>⟨cur,h,rfl⟩,rkZ _⟩
def rg (μ:Nat->Option Nat):Nat->Prop:=fun g=>∃ b,μ b=some g
def upd (μ:Nat->Option Nat) (b:Nat) (x:Option Nat):Nat->Option Nat:=fun k=>if k=b then x else μ k
@[simp] theorem je (μ:Nat->Option Nat) (b:Nat) (x:Option Nat):upd μ b x b=x:=by simp [upd]
theorem aJ {μ:Nat->Option Nat} {b k:Nat} {x:Option Nat} (h:k≠b):upd μ b x k=μ k:=by simp [upd,h]
section
variable {w0 : cD} {okA : Nat -> Prop} {μ : Nat -> Option Nat} {ok : Nat -> Prop} {H : List Blk} {w w' : World}
theorem MR.install (h:MR w0 okA μ ok H w) {b g:Nat} (o:Blk) (hb:H[b]?=some .rsv) (hbelow:aU w0 w') (hsize:w.heap.size<=w'.heap.size)
  (hok:∀ k,ok k->w'.heap[k]?=w.heap[k]?) (hown:∀ b' k,μ b' = some k->w'.heap[k]?=w.heap[k]?)
  (hg:(w0.w.heap.size<=g\/w0.own g)/\g<w'.heap.size/\¬ ok g) (hg2:∀ b',μ b'≠some g) (htag:∀ r n f,o=.arr r n f->r.tagged=true->w0.own g)
  (hblk:Ext μ ok w H (upd μ b (some g)) ok w' (H.set b o)->lH (upd μ b (some g)) ok w' (H.set b o) b o) :
  MR w0 okA (upd μ b (some g)) ok (H.set b o) w'/\Ext μ ok w H (upd μ b (some g)) ok w' (H.set b o):=by
 have hne:∀ b' (x:Blk),H[b']?=some x->x≠.rsv->b'≠b:=fun b' x hx hr hbb=>by
  subst hbb;rw [hb] at hx;cases hx;exact hr rfl
 have hset:∀ b',b'≠b->(H.set b o)[b']?=H[b']?:=fun b' hn=>qoZ (Ne.symm hn)
 have hlt:b<H.length:=(qfZ.1 hb).1
 have E:Ext μ ok w H (upd μ b (some g)) ok w' (H.set b o):=by
  refine ⟨fun k hk=>⟨hk,hok k hk⟩,fun b' hb'=>?_,fun b' cs hb'=>?_,fun b' r n f hb'=>?_,fun b' sb n f hb'=>?_,fun b' κ n ln f hb'=>?_⟩
  ·rw [hset b' (hne b' _ hb' (by simp))];exact hb'
  ·have hn:=hne b' _ hb' (by simp)
   exact .inr ⟨⟨cs,by rw [hset b' hn];exact hb'⟩,aJ hn⟩
  ·have hn:=hne b' _ hb' (by simp)
   refine .inr ⟨⟨f,by rw [hset b' hn];exact hb'⟩,aJ hn,fun k cur e hk hw=>⟨cur,e,?_,rfl⟩⟩
   rw [hown b' k hk];exact hw
  ·have hn:=hne b' _ hb' (by simp)
   exact .inr ⟨⟨n,f,by rw [hset b' hn];exact hb'⟩,aJ hn⟩
  ·have hn:=hne b' _ hb' (by simp)
   exact .inr ⟨⟨f,by rw [hset b' hn];exact hb'⟩,aJ hn,fun i=>by rw [roZ];exact aJ (sE hlt)⟩
 refine ⟨⟨hbelow,fun k hk=>⟨qxZ (h.okd k hk).1 hsize,(h.okd k hk).2⟩,h.keep,?_,?_,?_,fun b' g' r n f hx ht hm=>by
  by_cases hbb:b' = b
  ·subst hbb
   rw [qkZ hlt] at hx
   cases hx
   simp at hm;subst hm
   exact htag r n f rfl ht
  ·rw [hset b' hbb] at hx;rw [aJ hbb] at hm;exact h.tag b' g' r n f hx ht hm⟩,E⟩
 ·intro b' k hk
  by_cases hbb:b' = b
  ·subst hbb;simp at hk;subst hk;exact hg
  ·rw [aJ hbb] at hk
   have:=h.fresh b' k hk
   exact ⟨this.1,qxZ this.2.1 hsize,this.2.2⟩
 ·intro b1 b2 k h1 h2
  by_cases hb1:b1=b
  ·subst hb1
   simp at h1;subst h1
   by_cases hb2:b2=b1
   ·exact hb2.symm
   ·rw [aJ hb2] at h2;exact absurd h2 (hg2 b2)
  ·rw [aJ hb1] at h1
   by_cases hb2:b2=b
   ·subst hb2
    simp at h2;subst h2;exact absurd h1 (hg2 b1)
   ·rw [aJ hb2] at h2;exact h.inj b1 b2 k h1 h2
 ·intro b' x hx
  by_cases hbb:b' = b
  ·subst hbb
   rw [qkZ hlt] at hx
   cases hx
   exact hblk E
  ·rw [hset b' hbb] at hx
   exact E.blk (roZ ..) (fun k hk=>aJ (by omega)) (fun k g' _ hk=>hown k g' hk) (h.blk b' x hx)
theorem MR.update (h:MR w0 okA μ ok H w) {b g:Nat} {o o' : Blk} {cur cur' : Array Value} {e:TypeId} (hb:H[b]?=some o) (hg:μ b=some g)
  (hw:w.heap[g]?=some (.cells cur e (0,0))) (hsz:cur'.size=cur.size)
  (hshape:(∃ c c',o=.box c/\o' = .box c')\/(∃ r n f f',o=.arr r n f/\o' = .arr r n f'))
  (hblk:Ext μ ok w H μ ok (w.setRow g cur') (H.set b o')->lH μ ok (w.setRow g cur') (H.set b o') b o') :
  MR w0 okA μ ok (H.set b o') (w.setRow g cur')/\Ext μ ok w H μ ok (w.setRow g cur') (H.set b o'):=by
 have hlt:b<H.length:=(qfZ.1 hb).1
 have hf:=h.fresh b g hg
 have hrow:(w.setRow g cur').heap[g]?=some (.cells cur' e (0,0)):=setRow_heap w g cur cur' e _ hw
 have hoth:∀ k,k≠g->(w.setRow g cur').heap[k]?=w.heap[k]?:=fun k hk=>setRow_other w g k cur' hk
 have hset:∀ b',b'≠b->(H.set b o')[b']?=H[b']?:=fun b' hn=>qoZ (Ne.symm hn)
 have E:Ext μ ok w H μ ok (w.setRow g cur') (H.set b o'):=by
  refine ⟨fun k hk=>⟨hk,hoth k (fun e=>hf.2.2 (e ▸ hk))⟩,fun b' hb'=>?_,fun b' cs hb'=>?_,fun b' r n f hb'=>?_,fun b' sb n f hb'=>?_,fun b' κ n ln f hb'=>?_⟩
  ·by_cases hbb:b' = b
   ·subst hbb;rw [hb] at hb';cases hb'
    rcases hshape with ⟨c,c',h1,_⟩ | ⟨r,n,f,f',h1,_⟩<;>cases h1
   ·rw [hset b' hbb];exact hb'
  ·by_cases hbb:b' = b
   ·subst hbb;rw [hb] at hb';cases hb'
    rcases hshape with ⟨c,c',h1,h2⟩ | ⟨r,n,f,f',h1,_⟩
    ·subst h2;exact .inr ⟨⟨c',by rw [qkZ hlt]⟩,rfl⟩
    ·cases h1
   ·exact .inr ⟨⟨cs,by rw [hset b' hbb];exact hb'⟩,rfl⟩
  ·by_cases hbb:b' = b
   ·subst hbb;rw [hb] at hb';cases hb'
    rcases hshape with ⟨c,c',h1,_⟩ | ⟨r',n',f',f'',h1,h2⟩
    ·cases h1
    ·cases h1
     subst h2
     refine .inr ⟨⟨f'',by rw [qkZ hlt]⟩,rfl,fun k c1 e1 hk hw1=>?_⟩
     rw [hg] at hk;cases hk
     rw [hw] at hw1;cases hw1
     exact ⟨cur',e,hrow,hsz⟩
   ·refine .inr ⟨⟨f,by rw [hset b' hbb];exact hb'⟩,rfl,fun k c1 e1 hk hw1=>⟨c1,e1,?_,rfl⟩⟩
    rw [hoth k (fun he=>hbb (h.inj b' b g (he ▸ hk) hg))];exact hw1
  ·by_cases hbb:b' = b
   ·subst hbb;rw [hb] at hb';cases hb'
    rcases hshape with ⟨c,c',h1,_⟩ | ⟨r',n',f',f'',h1,_⟩<;>cases h1
   ·exact .inr ⟨⟨n,f,by rw [hset b' hbb];exact hb'⟩,rfl⟩
  ·by_cases hbb:b' = b
   ·subst hbb;rw [hb] at hb';cases hb'
    rcases hshape with ⟨c,c',h1,_⟩ | ⟨r',n',f',f'',h1,_⟩<;>cases h1
   ·exact .inr ⟨⟨f,by rw [hset b' hbb];exact hb'⟩,rfl,fun i=>by rw [roZ]⟩
 refine ⟨⟨h.below.turn hw hsz hf.1 hrow hoth,fun k hk=>by simpa using h.okd k hk,h.keep,fun b' k hk=>by simpa using h.fresh b' k hk,h.inj,?_,fun b' g' r n f hx ht hm=>by
  by_cases hbb:b' = b
  ·subst hbb
   rw [qkZ hlt] at hx
   cases hx
   rcases hshape with ⟨c,c',_,h2⟩ | ⟨r0,n0,f0,f1,h1,h2⟩
   ·cases h2
   ·cases h2;subst h1;exact h.tag b' g' r n f0 hb ht hm
  ·rw [hset b' hbb] at hx;exact h.tag b' g' r n f hx ht hm⟩,E⟩
 intro b' x hx
 by_cases hbb:b' = b
 ·subst hbb
  rw [qkZ hlt] at hx
  cases hx
  exact hblk E
 ·rw [hset b' hbb] at hx
  exact E.blk (roZ ..) (fun k _=>rfl) (fun k g' hk hkg=>hoth g' (fun he=>(by omega:k≠b) (h.inj k b g (he ▸ hkg) hg))) (h.blk b' x hx)
theorem MR.freeze0 (h:MR w0 okA μ ok H w) {b:Nat} (hlt:b<H.length) :
  MR w0 okA (upd μ b none) (fun g=>ok g\/μ b=some g) (H.set b .dead) w/\Ext μ ok w H (upd μ b none) (fun g=>ok g\/μ b=some g) w (H.set b .dead):=by
 have hset:∀ b',b'≠b->(H.set b .dead)[b']?=H[b']?:=fun b' hn=>qoZ (Ne.symm hn)
 have hself:∀ x,H[b]?=some x->(H.set b .dead)[b]?=some .dead:=fun x hx=>qkZ (qfZ.1 hx).1
 have E:Ext μ ok w H (upd μ b none) (fun g=>ok g\/μ b=some g) w (H.set b .dead):=by
  refine ⟨fun k hk=>⟨.inl hk,rfl⟩,fun b' hb'=>?_,fun b' cs hb'=>?_,fun b' r n f hb'=>?_,fun b' sb n f hb'=>?_,fun b' κ n ln f hb'=>?_⟩
  ·by_cases hbb:b' = b
   ·subst hbb;exact hself _ hb'
   ·rw [hset b' hbb];exact hb'
  ·by_cases hbb:b' = b
   ·subst hbb;exact .inl (hself _ hb')
   ·exact .inr ⟨⟨cs,by rw [hset b' hbb];exact hb'⟩,aJ hbb⟩
  ·by_cases hbb:b' = b
   ·subst hbb;exact .inl (hself _ hb')
   ·exact .inr ⟨⟨f,by rw [hset b' hbb];exact hb'⟩,aJ hbb,fun g cur e _ hw=>⟨cur,e,hw,rfl⟩⟩
  ·by_cases hbb:b' = b
   ·subst hbb;exact .inl (hself _ hb')
   ·exact .inr ⟨⟨n,f,by rw [hset b' hbb];exact hb'⟩,aJ hbb⟩
  ·by_cases hbb:b' = b
   ·subst hbb;exact .inl (hself _ hb')
   ·exact .inr ⟨⟨f,by rw [hset b' hbb];exact hb'⟩,aJ hbb,fun i=>by rw [roZ];exact aJ (sE hlt)⟩
 refine ⟨⟨h.below,?_,fun g hg=>.inl (h.keep g hg),?_,?_,?_,fun b' g' r n f hx ht hm=>by
  by_cases hbb:b' = b
  ·subst hbb;simp at hm
  ·rw [hset b' hbb] at hx;rw [aJ hbb] at hm;exact h.tag b' g' r n f hx ht hm⟩,E⟩
 ·rintro g (hg | hg)
  ·exact h.okd g hg
  ·have:=h.fresh b g hg;exact ⟨this.2.1,.inr this.1⟩
 ·intro b' g hg
  by_cases hbb:b' = b
  ·subst hbb;simp at hg
  ·rw [aJ hbb] at hg
   have:=h.fresh b' g hg
   refine ⟨this.1,this.2.1,?_⟩
   rintro (h1 | h1)
   ·exact this.2.2 h1
   ·exact hbb (h.inj b' b g hg h1)
 ·intro b1 b2 g h1 h2
  by_cases hb1:b1=b
  ·subst hb1;simp at h1
  ·by_cases hb2:b2=b
   ·subst hb2;simp at h2
   ·rw [aJ hb1] at h1;rw [aJ hb2] at h2;exact h.inj b1 b2 g h1 h2
 ·intro b' x hx
  by_cases hbb:b' = b
  ·subst hbb
   rw [qkZ hlt] at hx;cases hx;trivial
  ·rw [hset b' hbb] at hx
   exact E.blk (roZ ..) (fun k hk=>aJ (by omega)) (fun _ _ _ _=>rfl) (h.blk b' x hx)
theorem MR.freeze1 (h:MR w0 okA μ ok H w) (b:Nat) :
  ∃ μ',MR w0 okA μ' (fun g=>ok g\/(b<H.length/\μ b=some g)) (H.set b .dead) w/\Ext μ ok w H μ' (fun g=>ok g\/(b<H.length/\μ b=some g)) w (H.set b .dead)/\(∀ k,k≠b\/H.length<=k->μ' k=μ k)/\(b<H.length->μ' b=none):=by
 by_cases hlt:b<H.length
 ·have e:(fun g=>ok g\/(b<H.length/\μ b=some g))=fun g=>ok g\/μ b=some g:=by funext g;simp [hlt]
  rw [e]
  obtain ⟨h1,h2⟩:=h.freeze0 hlt
  exact ⟨_,h1,h2,fun k hk=>aJ (by omega),fun _=>je ..⟩
 ·have e:(fun g=>ok g\/(b<H.length/\μ b=some g))=ok:=by funext g;simp [hlt]
  have e2:H.set b .dead=H:=List.set_eq_of_length_le (by omega)
  rw [e,e2]
  exact ⟨μ,h,Ext.refl _ _ _ _,fun _ _=>rfl,fun hh=>absurd hh hlt⟩
theorem MR.freeze (l:List Nat):∀ {μ:Nat->Option Nat} {ok:Nat->Prop} {H:List Blk},MR w0 okA μ ok H w ->
  ∃ μ' ok',MR w0 okA μ' ok' (eK H l) w/\Ext μ ok w H μ' ok' w (eK H l)/\(∀ g,ok' g->ok g\/∃ b∈l,μ b=some g)/\(∀ b∈l,b<H.length->∀ g,μ b=some g->ok' g) /\
   (∀ b,b∉l\/H.length<=b->μ' b=μ b)/\(∀ b,b∉l->(eK H l)[b]?=H[b]?):=by
 induction l with
 | nil=>exact fun h=>⟨_,_,h,Ext.refl _ _ _ _,fun g hg=>.inl hg,(fun b hb=>by cases hb),fun _ _=>rfl,fun _ _=>rfl⟩
 | cons b l ih =>
  intro μ ok H h
  obtain ⟨μ1,h1,E1,hk1,hk2⟩:=h.freeze1 b
  obtain ⟨μ',ok',h2,E2,h3,h4,h5,h6⟩:=ih h1
  rw [roZ] at h4 h5
  refine ⟨μ',ok',h2,E1.trans E2,?_,?_,?_,?_⟩
  ·intro g hg
   rcases h3 g hg with (h' | ⟨_,h'⟩) | ⟨b',hb',hm⟩
   ·exact .inl h'
   ·exact .inr ⟨b,qmZ ..,h'⟩
   ·by_cases hlt:b' < H.length
    ·by_cases hbb:b' = b
     ·subst hbb;rw [hk2 hlt] at hm;cases hm
     ·rw [hk1 b' (.inl hbb)] at hm;exact .inr ⟨b',qjZ _ hb',hm⟩
    ·rw [hk1 b' (.inr (by omega))] at hm;exact .inr ⟨b',qjZ _ hb',hm⟩
  ·intro b' hb' hlt g hg
   by_cases hbb:b' = b
   ·subst hbb;exact (E2.ok g (.inr ⟨hlt,hg⟩)).1
   ·exact h4 b' ((List.mem_cons.1 hb').resolve_left hbb) hlt g (by rw [hk1 b' (.inl hbb)];exact hg)
  ·intro b' hb'
   rw [h5 b' (hb'.imp (fun h hh=>h (qjZ _ hh)) id),hk1 b' (hb'.imp (fun h e=>h (by rw [e];exact qmZ ..)) id)]
  ·intro b' hb'
   show (eK (H.set b .dead) l)[b']?=_
   rw [h6 b' (fun h=>hb' (qjZ _ h)),qoZ (fun h=>hb' (by rw [<- h];exact qmZ ..))]
def cg (μ:Nat->Option Nat) (L L' : Nat):Nat->Option Nat:=fun k=>if k % L' < L then μ (k / L'*L+k % L') else none
theorem mE {μ:Nat->Option Nat} {L L' k:Nat} (h:k<L'):cg μ L L' k=if k<L then μ k else none:=by
 unfold cg
 rw [Nat.mod_eq_of_lt h,Nat.div_eq_of_lt h,Nat.zero_mul,rlZ]
theorem v6 {μ:Nat->Option Nat} {L L' b i:Nat} (h:b<L) (h' : b<L'):cg μ L L' (rix L' b i)=μ (rix L b i):=by
 have e1:rix L' b i % L' = b:=by unfold rix;rw [Nat.add_comm,Nat.add_mul_mod_self_right];exact Nat.mod_eq_of_lt h'
 have e2:rix L' b i / L' = i+1:=by unfold rix;rw [Nat.add_comm,Nat.add_mul_div_right _ _ (by omega),Nat.div_eq_of_lt h',rlZ]
 unfold cg
 rw [e1,e2,if_pos h];rfl
theorem jY {μ:Nat->Option Nat} {L L' k g:Nat} (h:cg μ L L' k=some g):k % L' < L/\μ (k / L'*L+k % L')=some g:=by
 unfold cg at h
 split at h
 ·rename_i hlt;exact ⟨hlt,h⟩
 ·cases h
theorem v7 {μ:Nat->Option Nat} {L L' : Nat} (inj:∀ b b' g,μ b=some g->μ b' = some g->b=b') {k k' g:Nat} (h:cg μ L L' k=some g) (h' : cg μ L L' k' = some g):k=k':=by
 obtain ⟨h1,h2⟩:=jY h
 obtain ⟨h3,h4⟩:=jY h'
 have e:=inj _ _ _ h2 h4
 have m1:(k / L'*L+k % L') % L=k % L':=by rw [Nat.add_comm,Nat.add_mul_mod_self_right];exact Nat.mod_eq_of_lt h1
 have m2:(k' / L'*L+k' % L') % L=k' % L':=by rw [Nat.add_comm,Nat.add_mul_mod_self_right];exact Nat.mod_eq_of_lt h3
 have e1:k % L' = k' % L':=by rw [<- m1,<- m2,e]
 have e2:k / L'*L=k' / L'*L:=by omega
 have e3:=Nat.eq_of_mul_eq_mul_right (by omega) e2
 have d1:=Nat.div_add_mod k L'
 have d2:=Nat.div_add_mod k' L'
 rw [<- d1,<- d2,e1,e3]
theorem MR.reserve (h:MR w0 okA μ ok H w) (n:Nat) :
  ∃ μ',MR w0 okA μ' ok (H ++ List.replicate n .rsv) w/\Ext μ ok w H μ' ok w (H ++ List.replicate n .rsv):=by
 have hlen:(H ++ List.replicate n Blk.rsv).length=H.length+n:=by simp
 have hold:∀ (b:Nat) (x:Blk),H[b]?=some x->(H ++ List.replicate n .rsv)[b]?=some x/\cg μ H.length (H.length+n) b=μ b:=fun b x hx=>by
  have hlt:=(qfZ.1 hx).1
  exact ⟨by rw [qnZ hlt];exact hx,by rw [mE (by omega),if_pos hlt]⟩
 have hrow:∀ (b:Nat) (x:Blk) (i:Nat),H[b]?=some x->cg μ H.length (H.length+n) (rix (H ++ List.replicate n Blk.rsv).length b i)=μ (rix H.length b i):=fun b x i hx=>by
  have hlt:=(qfZ.1 hx).1
  rw [hlen];exact v6 hlt (by omega)
 have E:Ext μ ok w H (cg μ H.length (H.length+n)) ok w (H ++ List.replicate n .rsv):=by
  refine ⟨fun k hk=>⟨hk,rfl⟩,fun b hb=>(hold b _ hb).1,fun b cs hb=>.inr ⟨⟨cs,(hold b _ hb).1⟩,(hold b _ hb).2⟩,fun b r k f hb=>?_,fun b sb k f hb=>.inr ⟨⟨k,f,(hold b _ hb).1⟩,(hold b _ hb).2⟩,
   fun b κ k ln f hb=>.inr ⟨⟨f,(hold b _ hb).1⟩,(hold b _ hb).2,fun i=>hrow b _ i hb⟩⟩
  exact .inr ⟨⟨f,(hold b _ hb).1⟩,(hold b _ hb).2,fun g cur e _ hw=>⟨cur,e,hw,rfl⟩⟩
 refine ⟨_,⟨h.below,h.okd,h.keep,fun b g hg=>h.fresh _ g (jY hg).2,fun b1 b2 g h1 h2=>v7 h.inj h1 h2,?_,fun b g r n' f hx ht hm=>by
  have hb:=(qfZ.1 hx).1
  rw [hlen] at hb
  rw [mE hb] at hm
  split at hm
  ·rename_i hlt
   rw [qnZ hlt] at hx
   exact h.tag b g r n' f hx ht hm
  ·cases hm⟩,E⟩
 intro b x hx
 by_cases hlt:b<H.length
 ·rw [qnZ hlt] at hx
  exact E.blkL (hold b x hx).2 (fun _ _=>rfl) (fun i=>⟨hrow b x i hx,fun _ _=>rfl⟩) (h.blk b x hx)
 ·have hb:=(qfZ.1 hx).1
  rw [hlen] at hb
  rw [qsZ (by omega),List.getElem?_replicate] at hx
  split at hx
  ·cases hx
   show cg μ H.length (H.length+n) b=none
   rw [mE hb,if_neg hlt]
  ·cases hx
theorem mJ (b:Nat) {H:List Blk} {b' : Nat} (hne:b'≠b):((H.map (Blk.drop b)).set b .rsv)[b']?=(H[b']?).map (Blk.drop b):=by
 rw [qoZ (Ne.symm hne),qhZ]
theorem jA.drop {b b' j:Nat} {r:Kd} {n:Nat} {f:Nat->Nat->CV} (hb:H[b]?=some (.arr r n f)) {v:Value} (h:jA μ H b' j v) :
  jA (upd μ b none) ((H.map (Blk.drop b)).set b .rsv) b' j v:=by
 obtain ⟨h1,h2⟩:=h
 refine ⟨h1,?_⟩
 by_cases hne:b' = b
 ·subst hne;rw [hb] at h2;exact h2.elim
 ·rw [mJ b hne]
  cases hq:H[b']? with
  | none=>rw [hq] at h2;exact h2
  | some o =>
   rw [hq] at h2
   cases o<;>simp only [Option.map,Blk.drop]<;>first | exact h2 | (obtain ⟨g,hg,hv⟩:=h2;exact ⟨g,(aJ hne).trans hg,hv⟩)
theorem drop_len (b:Nat) (H:List Blk):((H.map (Blk.drop b)).set b .rsv).length=H.length:=by simp
theorem V0R.drop {b:Nat} {r:Kd} {n:Nat} {f:Nat->Nat->CV} (hb:H[b]?=some (.arr r n f)) {y:V0} {v:Value} (h:V0R μ ok w H y v) :
  V0R (upd μ b none) ok w ((H.map (Blk.drop b)).set b .rsv) (y.drop b) v:=by
 cases y with
 | u=>exact h
 | c x=>exact h
 | ptr b' j=>exact jA.drop hb h
 | fn f caps =>
  obtain ⟨cs,hv,hs,hc⟩:=h
  refine ⟨cs,hv,hs,fun t c ht=>?_⟩
  obtain ⟨u,hu,hr⟩:=hc t c ht
  refine ⟨u,hu,?_⟩
  cases c with
  | c x=>exact hr
  | ptr b' j=>exact jA.drop hb hr
 | own b' off len =>
  simp only [V0.drop]
  by_cases hne:b' = b
  ·subst hne;simpa [V0R] using V0R.one h
  ·have:(b' == b)=false:=by simpa using hne
   rw [this]
   obtain ⟨h1,h2⟩:=h
   refine ⟨h1,?_⟩
   rw [mJ b hne]
   cases hq:H[b']? with
   | none=>rw [hq] at h2;exact h2
   | some o =>
    rw [hq] at h2
    cases o<;>simp only [Option.map,Blk.drop]<;>first | exact h2 | (simpa only [Rs,aJ hne] using h2)
 | aptr b' i j =>
  simp only [V0.drop]
  by_cases hne:b' = b
  ·subst hne;simpa [V0R] using V0R.one h
  ·have:(b' == b)=false:=by simpa using hne
   rw [this]
   obtain ⟨h1,h2⟩:=h
   refine ⟨h1,?_⟩
   rw [mJ b hne]
   cases hq:H[b']? with
   | none=>rw [hq] at h2;exact h2
   | some o =>
    rw [hq] at h2
    cases o<;>simp only [Option.map,Blk.drop]<;>first | exact h2 | (simpa only [aJ hne] using h2)
 | mrow b' i =>
  simp only [V0.drop]
  have hlt:b<H.length:=(qfZ.1 hb).1
  by_cases hne:b' = b
  ·subst hne;simpa [V0R] using V0R.one h
  ·have:(b' == b)=false:=by simpa using hne
   rw [this]
   obtain ⟨h1,h2⟩:=h
   refine ⟨h1,?_⟩
   rw [mJ b hne]
   cases hq:H[b']? with
   | none=>rw [hq] at h2;exact h2
   | some o =>
    rw [hq] at h2
    cases o<;>simp only [Option.map,Blk.drop]<;>first | exact h2 | (simpa only [drop_len,KG,aJ (sE hlt)] using h2)
 | mptr b' i k =>
  simp only [V0.drop]
  have hlt:b<H.length:=(qfZ.1 hb).1
  by_cases hne:b' = b
  ·subst hne;simpa [V0R] using V0R.one h
  ·have:(b' == b)=false:=by simpa using hne
   rw [this]
   obtain ⟨h1,h2⟩:=h
   refine ⟨h1,?_⟩
   rw [mJ b hne]
   cases hq:H[b']? with
   | none=>rw [hq] at h2;exact h2
   | some o =>
    rw [hq] at h2
    cases o<;>simp only [Option.map,Blk.drop]<;>first | exact h2 | (simpa only [drop_len,aJ (sE hlt)] using h2)
theorem VR.drop {b:Nat} {r:Kd} {n:Nat} {f:Nat->Nat->CV} (hb:H[b]?=some (.arr r n f)) {y:V} {v:Value} (h:VR μ ok w H y v) :
  VR (upd μ b none) ok w ((H.map (Blk.drop b)).set b .rsv) (y.drop b) v:=by
 cases y with
 | u=>trivial
 | undef=>exact h
 | x y=>exact V0R.drop hb h
 | agg l =>
  obtain ⟨cs,hv,hs,hc⟩:=h
  refine ⟨cs,hv,by simpa using hs,fun t c ht=>?_⟩
  rw [qhZ] at ht
  cases hq:l[t]? with
  | none=>rw [hq] at ht;cases ht
  | some c0 =>
   rw [hq] at ht;cases ht
   obtain ⟨u,hu,hr⟩:=hc t c0 hq
   exact ⟨u,hu,V0R.drop hb hr⟩
 | tup l=>exact h
theorem MR.drop (h:MR w0 okA μ ok H w) {b:Nat} {r:Kd} {n:Nat} {f:Nat->Nat->CV} (hb:H[b]?=some (.arr r n f)) :
  MR w0 okA (upd μ b none) ok ((H.map (Blk.drop b)).set b .rsv) w:=by
 refine ⟨h.below,h.okd,h.keep,?_,?_,?_,fun b' g' r' n' f' hx ht hm=>by
  by_cases hbb:b' = b
  ·subst hbb;simp at hm
  ·rw [aJ hbb] at hm
   rw [mJ b hbb] at hx
   cases hq:H[b']? with
   | none=>rw [hq] at hx;cases hx
   | some o =>
    rw [hq] at hx
    cases o with
    | arr r2 n2 f2=>cases hx;exact h.tag b' g' _ _ _ hq ht hm
    | rsv=>cases hx
    | dead=>cases hx
    | box c=>cases hx
    | set sb c d=>cases hx
    | mat κ c d f=>cases hx⟩
 ·intro b' g hg
  by_cases hbb:b' = b
  ·subst hbb;simp at hg
  ·rw [aJ hbb] at hg;exact h.fresh b' g hg
 ·intro b1 b2 g h1 h2
  by_cases hb1:b1=b
  ·subst hb1;simp at h1
  ·by_cases hb2:b2=b
   ·subst hb2;simp at h2
   ·rw [aJ hb1] at h1;rw [aJ hb2] at h2;exact h.inj b1 b2 g h1 h2
 ·intro b' x hx
  by_cases hbb:b' = b
  ·subst hbb
   have:b' < (H.map (Blk.drop b')).length:=by simpa using (qfZ.1 hb).1
   rw [qkZ this] at hx;cases hx;simp [lH]
  ·rw [mJ b hbb] at hx
   cases hq:H[b']? with
   | none=>rw [hq] at hx;cases hx
   | some o =>
    rw [hq] at hx;cases hx
    have h0:=h.blk b' o hq
    cases o with
    | rsv=>exact (aJ hbb).trans h0
    | dead=>trivial
    | box cells =>
     obtain ⟨g,cur,e,h1,h2,h3,h4⟩:=h0
     refine ⟨g,cur,e,(aJ hbb).trans h1,h2,by simpa using h3,fun j c hj=>?_⟩
     rw [qhZ] at hj
     cases hq2:cells[j]? with
     | none=>rw [hq2] at hj;cases hj
     | some c0 =>
      rw [hq2] at hj;cases hj
      obtain ⟨u,hu,hr⟩:=h4 j c0 hq2
      exact ⟨u,hu,V0R.drop hb hr⟩
    | arr r' n' f' =>
     obtain ⟨h5,h6⟩:=h0
     refine ⟨h5,?_⟩
     rw [aJ hbb]
     exact h6
    | set sb n' f' =>
     obtain ⟨g,es,h1,h2⟩:=h0
     exact ⟨g,es,(aJ hbb).trans h1,h2⟩
    | mat κ n' ln f' =>
     have hlt:b<H.length:=(qfZ.1 hb).1
     obtain ⟨h5,h6,g,cur,e,h1,h2⟩:=h0
     refine ⟨h5,h6,g,cur,e,(aJ hbb).trans h1,?_⟩
     simpa only [drop_len,KG,aJ (sE hlt)] using h2
theorem jX {h0 b:Nat} {o:Blk} (hlt:b<h0) (hb:H[b]?=some o):cg μ H.length (H.take h0).length b=μ b/\∀ i,cg μ H.length (H.take h0).length (rix (H.take h0).length b i)=μ (rix H.length b i):=by
 have h1:b<H.length:=(qfZ.1 hb).1
 have h2:b<(H.take h0).length:=by simp;omega
 exact ⟨by rw [mE h2,if_pos h1],fun i=>v6 h1 h2⟩
theorem jA.take {h0 b j:Nat} {v:Value} (hb:Nat.blt b h0=true) (h:jA μ H b j v):jA (cg μ H.length (H.take h0).length) (H.take h0) b j v:=by
 have hlt:b<h0:=by simpa using hb
 obtain ⟨h1,h2⟩:=h
 refine ⟨h1,?_⟩
 rw [rnZ hlt]
 cases hq:H[b]? with
 | none=>rw [hq] at h2;exact h2
 | some o =>
  rw [hq] at h2
  have hm:=(jX (μ:=μ) hlt hq).1
  cases o<;>first | exact h2 | (obtain ⟨g,hg,hv⟩:=h2;exact ⟨g,hm.trans hg,hv⟩)
theorem V0R.take {h0:Nat} {y:V0} {v:Value} (hy:y.below h0=true) (h:V0R μ ok w H y v):V0R (cg μ H.length (H.take h0).length) ok w (H.take h0) y v:=by
 have go:∀ b,b<h0->∀ (p q:Blk->Prop),(match H[b]? with | some o=>p o | none=>False)->(∀ o,H[b]?=some o->cg μ H.length (H.take h0).length b=μ b->(∀ i,cg μ H.length (H.take h0).length (rix (H.take h0).length b i)=μ (rix H.length b i))->p o->q o) ->
   (match (H.take h0)[b]? with | some o=>q o | none=>False):=fun b hlt p q h2 hpq=>by
  rw [rnZ hlt]
  cases hq:H[b]? with
  | none=>rw [hq] at h2;exact h2
  | some o =>
   rw [hq] at h2
   exact hpq o hq (jX hlt hq).1 (jX hlt hq).2 h2
 cases y with
 | u=>exact h
 | c x=>exact h
 | ptr b j=>exact jA.take hy h
 | fn f caps =>
  obtain ⟨cs,hv,hs,hc⟩:=h
  refine ⟨cs,hv,hs,fun t c ht=>?_⟩
  obtain ⟨u,hu,hr⟩:=hc t c ht
  refine ⟨u,hu,?_⟩
  cases c with
  | c x=>exact hr
  | ptr b j =>
   simp only [V0.below,qiZ] at hy
   exact jA.take (hy _ (qrZ ht)) hr
 | own b off len =>
  have hlt:b<h0:=by simpa [V0.below] using hy
  obtain ⟨h1,h2⟩:=h
  refine ⟨h1,?_⟩
  rw [rnZ hlt]
  cases hq:H[b]? with
  | none=>rw [hq] at h2;exact h2
  | some o =>
   rw [hq] at h2
   have hm:=(jX (μ:=μ) hlt hq).1
   cases o<;>first | exact h2 | (simpa only [Rs,hm] using h2)
 | aptr b i j =>
  have hlt:b<h0:=by simpa [V0.below] using hy
  obtain ⟨h1,h2⟩:=h
  refine ⟨h1,?_⟩
  rw [rnZ hlt]
  cases hq:H[b]? with
  | none=>rw [hq] at h2;exact h2
  | some o =>
   rw [hq] at h2
   have hm:=(jX (μ:=μ) hlt hq).1
   cases o<;>first | exact h2 | (simpa only [hm] using h2)
 | mrow b i =>
  have hlt:b<h0:=by simpa [V0.below] using hy
  obtain ⟨h1,h2⟩:=h
  refine ⟨h1,?_⟩
  rw [rnZ hlt]
  cases hq:H[b]? with
  | none=>rw [hq] at h2;exact h2
  | some o =>
   rw [hq] at h2
   have hm:=(jX (μ:=μ) hlt hq).2
   cases o<;>first | exact h2 | (simpa only [KG,hm] using h2)
 | mptr b i k =>
  have hlt:b<h0:=by simpa [V0.below] using hy
  obtain ⟨h1,h2⟩:=h
  refine ⟨h1,?_⟩
  rw [rnZ hlt]
  cases hq:H[b]? with
  | none=>rw [hq] at h2;exact h2
  | some o =>
   rw [hq] at h2
   have hm:=(jX (μ:=μ) hlt hq).2
   cases o<;>first | exact h2 | (simpa only [hm] using h2)
theorem VR.take {h0:Nat} {y:V} {v:Value} (hy:y.below h0=true) (h:VR μ ok w H y v):VR (cg μ H.length (H.take h0).length) ok w (H.take h0) y v:=by
 cases y with
 | u=>trivial
 | undef=>exact h
 | x y=>exact V0R.take hy h
 | agg l =>
  obtain ⟨cs,hv,hs,hc⟩:=h
  refine ⟨cs,hv,hs,fun t c ht=>?_⟩
  obtain ⟨u,hu,hr⟩:=hc t c ht
  simp only [V.below,qiZ] at hy
  exact ⟨u,hu,V0R.take (hy _ (qrZ ht)) hr⟩
 | tup l=>exact h
theorem MR.take (h:MR w0 okA μ ok H w) {h0:Nat} (hH:(H.take h0).all (Blk.below h0)=true):MR w0 okA (cg μ H.length (H.take h0).length) ok (H.take h0) w:=by
 refine ⟨h.below,h.okd,h.keep,fun b g hg=>h.fresh _ g (jY hg).2,fun b1 b2 g h1 h2=>v7 h.inj h1 h2,fun b o hb=>?_,fun b g r n f hx ht hm=>by
  have hlt:b<h0:=by
   have:=(qfZ.1 hx).1
   simp at this;omega
  rw [rnZ hlt] at hx
  rw [(jX hlt hx).1] at hm
  exact h.tag b g r n f hx ht hm⟩
 have hin:=qiZ.1 hH o (qrZ hb)
 have hlt:b<h0:=by
  have:=(qfZ.1 hb).1
  simp at this;omega
 rw [rnZ hlt] at hb
 obtain ⟨hm,hr⟩:=jX (μ:=μ) hlt hb
 have h0':=h.blk b o hb
 cases o with
 | rsv=>exact hm.trans h0'
 | dead=>trivial
 | arr r n f=>simpa only [lH,hm] using h0'
 | set sb n f=>simpa only [lH,hm] using h0'
 | mat κ n ln f=>simpa only [lH,KG,hm,hr] using h0'
 | box cells =>
  obtain ⟨g,cur,e,h1,h2,h3,h4⟩:=h0'
  refine ⟨g,cur,e,hm.trans h1,h2,h3,fun j c hj=>?_⟩
  obtain ⟨u,hu,hr⟩:=h4 j c hj
  exact ⟨u,hu,V0R.take (qiZ.1 hin c (qrZ hj)) hr⟩
end
end Go.Eng
