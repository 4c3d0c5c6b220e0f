/-
 Several texts in one.
-/
import Derived.RangeFuncNested
import Derived.Test.YtkknnlhhchielaaGreatDoorEngZ1
set_option linter.all false
/-
 Loops over functions whose elements are known: what an iterator must do;what stays true between the rounds.
-/
namespace Go.Eng
open Go Go.RowKit
def D8 (P:Program) (gf:FuncId) (cs:Array Value) (okI:Nat->Prop) (W1:World) (n:Nat) (el:Nat->CV):Prop :=
 ∀ (l d:Nat) (J:(Nat->Prop)->Nat->World->Prop),
  (∀ I c W,J I c W->W1.heap.size<=W.heap.size/\(∀ g,okI g->W.heap[g]?=W1.heap[g]?)/\∀ g,I g->W1.heap.size<=g/\g<W.heap.size) ->
  (∀ I c W I' W',J I c W->aU ⟨W,I⟩ W'->(∀ g,I' g->(I g\/W.heap.size<=g)/\g<W'.heap.size)->J I' c W') ->
  (∀ I c W V u,c<n->J I c W->(∀ g,V g->I g)->CR V W (el c) u->∃ fn tmps assign body,(Instr.yield l #[u]).run P W=.ok (.round l fn tmps assign body) W /\
   ∀ d,RoundIn (wd none) d P l fn tmps assign body W (fun e W'=>e=.returned (.bool true)/\J (fun g=>I g/\¬ V g) (c+1) W'/\∀ g,I g->W'.heap[g]?=W.heap[g]?)) ->
  J (fun _=>False) 0 W1->CallsIn (wd none) d P gf (#[.func (.yield l) #[] #[]] ++ cs) W1 (fun e W'=>(∃ v,e=.returned v)/\∃ I,J I n W')
structure FP (P:Program) (f:FuncId) (it:CV->Option (Bool × Nat × (Nat->CV))):Prop where
 ok:∀ cv n el,it cv=some (true,n,el)->∃ gf nc caps,Den P f [.v cv] [.v (.fn gf nc caps)]/\dq P gf=true /\
  ∀ (okI:Nat->Prop) (W1:World) (cs:Array Value),(∀ g,okI g->g<W1.heap.size)->eN okI W1->cs.size=nc->(∀ j,j<nc->∃ u,cs[j]?=some u/\CR okI W1 (caps j) u)->D8 P gf cs okI W1 n el
structure tZ (w0:cD) (okA ok0:Nat->Prop) (W1:World) (l:Nat) (pin:List (Nat × Obj)) (μ:Nat->Option Nat) (ok:Nat->Prop) (W:World):Prop where
 below:aU w0 W
 own:∀ g,rg μ g->w0.w.heap.size<=g\/w0.own g
 oks:∀ g,ok g->okA g\/w0.w.heap.size<=g\/w0.own g
 okk:∀ g,ok0 g->ok g
 dis:∀ g,ok g->¬ rg μ g
 lt:∀ g,ok g->g<W.heap.size
 rlt:∀ g,rg μ g->g<W.heap.size
 base:w0.w.heap.size<=W1.heap.size
 size:W1.heap.size<=W.heap.size
 same:∀ g,ok0 g->W.heap[g]?=W1.heap[g]?
 nl:¬ ok l/\¬ rg μ l/\w0.w.heap.size<=l/\l<W1.heap.size
 pin:∀ q,q∈pin->¬ ok q.1/\¬ rg μ q.1/\w0.w.heap.size<=q.1/\q.1<W1.heap.size/\q.1≠l/\W.heap[q.1]?=some q.2
section
variable {w0 : cD} {okA ok0 : Nat -> Prop} {W1 W : World} {l : Nat} {pin : List (Nat × Obj)} {μ : Nat -> Option Nat} {ok : Nat -> Prop}
theorem tZ.run (h:tZ w0 okA ok0 W1 l pin μ ok W) {okR:Nat->Prop} (hR:∀ g,okR g->ok g\/W1.heap.size<=g/\¬ rg μ g) (hR2:∀ g,ok g->okR g) {μ' : Nat->Option Nat} {ok' : Nat->Prop} {H:List Blk} {w' : World} (hm:MR ⟨W,rg μ⟩ okR μ' ok' H w') :
  tZ w0 okA ok0 W1 l pin μ' ok' w'/\w'.heap[l]?=W.heap[l]?:=by
 have hs:=h.below.size
 have hb:=h.base
 have hz:=h.size
 have hs' : W.heap.size<=w'.heap.size:=hm.below.size
 have hrg:∀ g,rg μ' g->(W.heap.size<=g\/rg μ g)/\g<w'.heap.size/\¬ ok' g:=fun g ⟨b,hb⟩=>hm.fresh b g hb
 have hok:∀ g,ok' g->g<w'.heap.size/\(okR g\/W.heap.size<=g\/rg μ g):=hm.okd
 have keepB:∀ g,g<W.heap.size->¬ rg μ g->w'.heap[g]?=W.heap[g]?:=fun g h1 h2=>hm.below.block g h1 h2
 have nn:∀ g,¬ ok g->¬ rg μ g->g<W1.heap.size->¬ ok' g/\¬ rg μ' g:=fun g h1 h2 h3=>⟨fun k=>by
  rcases (hok g k).2 with q | q | q
  ·rcases hR g q with q | q
   ·exact h1 q
   ·omega
  ·omega
  ·exact h2 q,fun k=>by
  rcases (hrg g k).1 with q | q
  ·omega
  ·exact h2 q⟩
 refine ⟨⟨aU.step h.below h.own hm.below,fun g hg=>?_,fun g hg=>?_,fun g hg=>hm.keep g (hR2 g (h.okk g hg)),fun g hg k=>(hrg g k).2.2 hg,fun g hg=>(hok g hg).1,fun g hg=>(hrg g hg).2.1,hb,Nat.le_trans h.size hs',fun g hg=>?_,?_,fun q hq=>?_⟩,keepB l (by have:=h.nl.2.2.2;omega) h.nl.2.1⟩
 ·rcases (hrg g hg).1 with q | q
  ·exact .inl (Nat.le_trans hs q)
  ·exact h.own g q
 ·rcases (hok g hg).2 with q | q | q
  ·rcases hR g q with q | q
   ·exact h.oks g q
   ·exact .inr (.inl (by omega))
  ·exact .inr (.inl (Nat.le_trans hs q))
  ·exact .inr (h.own g q)
 ·exact (keepB g (h.lt g (h.okk g hg)) (h.dis g (h.okk g hg))).trans (h.same g hg)
 ·exact ⟨(nn l h.nl.1 h.nl.2.1 h.nl.2.2.2).1,(nn l h.nl.1 h.nl.2.1 h.nl.2.2.2).2,h.nl.2.2⟩
 ·obtain ⟨p1,p2,p3,p4,p5,p6⟩:=h.pin q hq
  exact ⟨(nn _ p1 p2 p4).1,(nn _ p1 p2 p4).2,p3,p4,p5,(keepB _ (by omega) p2).trans p6⟩
theorem tZ.put (h:tZ w0 okA ok0 W1 l pin μ ok W) (o:Obj):tZ w0 okA ok0 W1 l pin μ ok (W.putObj l o)/\(W.putObj l o).heap[l]?=some o:=by
 have hz:=h.size
 refine ⟨⟨h.below.putObj h.nl.2.2.1,h.own,h.oks,h.okk,h.dis,fun g hg=>by rw [World.putObj_size];exact h.lt g hg,fun g hg=>by rw [World.putObj_size];exact h.rlt g hg,h.base,by rw [World.putObj_size];exact h.size,fun g hg=>?_,h.nl,fun q hq=>?_⟩,World.putObj_heap_same (by have:=h.nl.2.2.2;omega)⟩
 ·have:g≠l:=fun e=>h.nl.1 (e ▸ h.okk g hg)
  rw [World.putObj_heap_other this];exact h.same g hg
 ·obtain ⟨p1,p2,p3,p4,p5,p6⟩:=h.pin q hq
  exact ⟨p1,p2,p3,p4,p5,by rw [World.putObj_heap_other p5];exact p6⟩
theorem tZ.putS (h:tZ w0 okA ok0 W1 l pin μ ok W) (o:Obj):∀ g,(ok g\/rg μ g)->(W.putObj l o).heap[g]?=W.heap[g]?:=fun g hg=>by
 refine World.putObj_heap_other fun e=>?_
 subst e
 exact hg.elim h.nl.1 h.nl.2.1
theorem tZ.mono (h:tZ w0 okA ok0 W1 l pin μ ok W) {I:Nat->Prop} (hI:∀ g,I g->W1.heap.size<=g/\g<W.heap.size/\¬ ok g/\¬ rg μ g) {W' : World} (hb:aU ⟨W,I⟩ W') :
  tZ w0 okA ok0 W1 l pin μ ok W'/\W'.heap[l]?=W.heap[l]?/\∀ g,(ok g\/rg μ g)->W'.heap[g]?=W.heap[g]?:=by
 have hk:∀ g,g<W.heap.size->¬ I g->W'.heap[g]?=W.heap[g]?:=fun g hg hn=>hb.block g hg hn
 have hs:W.heap.size<=W'.heap.size:=hb.size
 have hz:=h.size
 have hz0:=h.base
 have n1:∀ g,g<W1.heap.size->¬ I g:=fun g hg k=>by have:=(hI g k).1;omega
 have no:∀ g,ok g->¬ I g:=fun g hg k=>(hI g k).2.2.1 hg
 have nr:∀ g,rg μ g->¬ I g:=fun g hg k=>(hI g k).2.2.2 hg
 refine ⟨⟨?_,h.own,h.oks,h.okk,h.dis,fun g hg=>qxZ (h.lt g hg) hs,fun g hg=>qxZ (h.rlt g hg) hs,hz0,Nat.le_trans h.size hs,fun g hg=>(hk g (h.lt g (h.okk g hg)) (no g (h.okk g hg))).trans (h.same g hg),h.nl,fun q hq=>?_⟩,hk l (by have:=h.nl.2.2.2;omega) (n1 l h.nl.2.2.2),fun g hg=>?_⟩
 ·have h0:=h.below
  have hs0:=h0.size
  refine ⟨hb.os.trans h0.os,hb.tape.trans h0.tape,hb.output.trans h0.output,Nat.le_trans hs0 hs,fun k hk' ho=>(hk k (by omega) (n1 k (by omega))).trans (h0.block k hk' ho),fun k ho cur e hc=>?_,Nat.le_trans h0.drawn hb.drawn⟩
  obtain ⟨cur',c1,c2⟩:=h0.lent k ho cur e hc
  have hlt:k<w0.w.heap.size:=(qqZ.1 hc).1
  exact ⟨cur',(hk k (by omega) (n1 k (by omega))).trans c1,c2⟩
 ·obtain ⟨p1,p2,p3,p4,p5,p6⟩:=h.pin q hq
  exact ⟨p1,p2,p3,p4,p5,(hk _ (by omega) (n1 _ p4)).trans p6⟩
 ·rcases hg with q | q
  ·exact hk g (h.lt g q) (no g q)
  ·exact hk g (h.rlt g q) (nr g q)
end
section
variable {df : DF} {okA : Nat -> Prop} {μ : Nat -> Option Nat} {ok : Nat -> Prop} {H : List Blk} {W : World}
theorem MR.more (hm:MR ⟨W,rg μ⟩ ok μ ok H W) {V:Nat->Prop} (hV:∀ g,V g->g<W.heap.size/\¬ rg μ g):MR ⟨W,rg μ⟩ (fun g=>ok g\/V g) μ (fun g=>ok g\/V g) H W/\Ext μ ok W H μ (fun g=>ok g\/V g) W H:=by
 have E:Ext μ ok W H μ (fun g=>ok g\/V g) W H:=⟨fun g hg=>⟨.inl hg,rfl⟩,fun b hb=>hb,fun b cs hb=>.inr ⟨⟨cs,hb⟩,rfl⟩,fun b r n f hb=>.inr ⟨⟨f,hb⟩,rfl,fun g cur e hg hw=>⟨cur,e,hw,rfl⟩⟩,fun b sb n f hb=>.inr ⟨⟨n,f,hb⟩,rfl⟩,fun b κ n ln f hb=>.inr ⟨⟨f,hb⟩,rfl,fun i=>rfl⟩⟩
 refine ⟨⟨hm.below,fun g hg=>?_,fun g hg=>hg,fun b g hg=>?_,hm.inj,fun b o ho=>E.blk rfl (fun _ _=>rfl) (fun k g _ hg=>rfl) (hm.blk b o ho),hm.tag⟩,E⟩
 ·rcases hg with q | q
  ·exact ⟨(hm.okd g q).1,.inl (.inl q)⟩
  ·exact ⟨(hV g q).1,.inl (.inr q)⟩
 ·obtain ⟨a,b',c⟩:=hm.fresh b g hg
  exact ⟨a,b',fun k=>k.elim c fun k=>(hV g k).2 ⟨b,hg⟩⟩
end
theorem Jg {keep:List (Nat × Nat × Nat)}:∀ {env:List V} {i:Nat},Rc keep i env=true->∀ (t:Nat) (v:V),env[t]?=some v->v=.u\/∃ b j,(i+t,b,j)∈keep/\v=.x (.ptr b j)
 | [],i,_,t,v,ht=>by simp at ht
 | x::env,i,h,t,v,ht=>by
  unfold Rc at h
  rw [qaZ] at h
  cases t with
  | zero =>
   simp at ht;subst ht
   have h1:=h.1
   split at h1
   ·rename_i b j hk
    split at h1
    ·rename_i b' j'
     rw [qaZ] at h1
     rw [<- qbZ h1.1,<- qbZ h1.2]
     exact .inr ⟨b,j,Bw hk,rfl⟩
    ·cases h1
   ·split at h1
    ·exact .inl rfl
    ·cases h1
  | succ t =>
   have:=Jg h.2 t v (by simpa using ht)
   rwa [show i+1+t=i+(t+1) by omega] at this
section
variable {w0 : cD} {okA ok0 : Nat -> Prop} {W1 W : World} {l : Nat} {pin : List (Nat × Obj)} {μ : Nat -> Option Nat} {ok : Nat -> Prop} {H : List Blk}
theorem MR.merge (ho:tZ w0 okA ok0 W1 l pin μ ok W) (hA:∀ g,okA g->ok0 g) (hm:MR ⟨W,rg μ⟩ ok μ ok H W) (ht:H.all Blk.untag=true):MR w0 okA μ ok H W :=
 ⟨ho.below,fun g hg=>⟨ho.lt g hg,ho.oks g hg⟩,fun g hg=>ho.okk g (hA g hg),fun b g hg=>⟨ho.own g ⟨b,hg⟩,ho.rlt g ⟨b,hg⟩,fun k=>ho.dis g k ⟨b,hg⟩⟩,hm.inj,hm.blk,fun b g r n f hb hr _=>by
  have:=qiZ.1 ht _ (qrZ hb)
  unfold Blk.untag at this
  simp [hr] at this⟩
end
section
variable {ρ : Type}
def itF (C:ao) (fuel p id1:Nat) (x6 xb:AC):CV->St->(St->Option ρ)->Option ρ:=fun v st k=>aS C fuel x6 (st.put p (.x (.c v))) fun e s=>match e with
 | .normal=>aS C fuel xb s (kIt id1 k)
 | _=>none
def itK (it:CV->Option (Bool × Nat × (Nat->CV))) (keep:List (Nat × Nat × Nat)) (kill:List Nat) (ts tf ln h0:Nat) (cv:CV) (n:Nat) (el:Nat->CV) (f:CV->St->(St->Option ρ)->Option ρ) (k:Ex->St->Option ρ) (j c:Nat) (st:St):Option ρ :=
 bif decide (c<n) then f (el c) st (fun s=>dv (itB it keep ts tf ln f) (fun s=>s.norm kill h0) j ((s.put tf (i64 ((c:Int)+1))).put ts (.x (.c cv))) (vD k)) else k .normal st
end
theorem BE {ρ:Type} {r:ρ} {it:CV->Option (Bool × Nat × (Nat->CV))} {cv:CV} {n:Nat} {el:Nat->CV} {f:CV->St->(St->Option ρ)->Option ρ} {k:Ex->St->Option ρ} {w0:cD} {okA:Nat->Prop} {keep:List (Nat × Nat × Nat)} {kill:List Nat} {ts tf ln h0 j c:Nat} {T:Array Value} {s s0:St} {a2:Act} {w:World} {μ:Nat->Option Nat} {ok:Nat->Prop}
  (hit:it cv=some (true,n,el)) (hm:MR w0 okA μ ok s.heap w) (he:ER ([],mF keep T) μ ok s.heap w s.env a2) (hsz:T.size=a2.tmps.size)
  (hh:s0.heap=s.heap) (hl:s0.env.length=s.env.length) (hts:∀ y,s0.env[ts]?=some y->y=.x (.c cv)) (htf:∀ y,s0.env[tf]?=some y->y=i64 (c:Int)) (hoth:∀ t,t≠ts->t≠tf->s0.env[t]?=s.env[t]?)
  (h:dv (itB it keep ts tf ln f) (fun s=>s.norm kill h0) j s0 (vD k)=some r) :
  ∃ j' μ' s',MR w0 okA μ' ok s'.heap w/\ER ([],[]) μ' ok s'.heap w s'.env { tmps:=T,defers:=[] }/\s'.env.length=ln/\s'.heap.all Blk.untag=true/\itK it keep kill ts tf ln h0 cv n el f k j' c s' = some r:=by
 cases j with
 | zero=>cases h
 | succ j =>
  unfold dv at h
  split at h
  ·cases h
  ·rename_i s1 hs1
   unfold St.norm at hs1
   dsimp only at hs1
   obtain ⟨hbel,hs1⟩:=ah hs1
   cases hs1
   rw [qaZ] at hbel
   unfold itB at h
   split at h
   ·rename_i cv1 hcv1
    split at h
    ·rename_i c1 hc1
     have e1:cv1=cv:=by
      rw [qdZ] at hcv1
      cases hq:(eA s0.env kill)[ts]? with
      | none=>rw [hq] at hcv1;cases hcv1
      | some v =>
       rw [hq] at hcv1
       simp only [Option.getD_some] at hcv1
       subst hcv1
       rcases mr _ _ _ _ hq with q | q
       ·cases q
       ·have:=hts _ q
        cases this;rfl
     have e2:c1=(c:Int):=by
      rw [qdZ] at hc1
      cases hq:(eA s0.env kill)[tf]? with
      | none=>rw [hq] at hc1;cases hc1
      | some v =>
       rw [hq] at hc1
       simp only [Option.getD_some] at hc1
       subst hc1
       rcases mr _ _ _ _ hq with q | q
       ·cases q
       ·have:=htf _ q
        cases this;rfl
     subst e1 e2
     rw [hit] at h
     dsimp only at h
     obtain ⟨hc,h⟩:=ah h
     rw [qaZ,qaZ,qaZ] at hc
     obtain ⟨_,hchk,hln,htag⟩:=hc
     have hent:∀ (t:Nat) (v:V),((((eA s0.env kill).set tf .u).set ts .u))[t]?=some v->v=.u\/(eA s0.env kill)[t]?=some v/\s.env[t]?=some v:=fun t v ht=>by
      by_cases q1:t=ts
      ·subst q1
       rw [List.getElem?_set] at ht
       simp only [if_true] at ht
       split at ht
       ·cases ht;exact .inl rfl
       ·cases ht
      ·rw [qoZ (Ne.symm q1)] at ht
       by_cases q2:t=tf
       ·subst q2
        rw [List.getElem?_set] at ht
        simp only [if_true] at ht
        split at ht
        ·cases ht;exact .inl rfl
        ·cases ht
       ·rw [qoZ (Ne.symm q2)] at ht
        rcases mr _ _ _ _ ht with q | q
        ·exact .inl q
        ·exact .inr ⟨ht,by rw [<- hoth t q1 q2];exact q⟩
     have hlen0:((((eA s0.env kill).set tf .u).set ts .u)).length=s.env.length:=by simp [lc,hl]
     have he1:ER ([],mF keep T) μ ok s.heap w (((eA s0.env kill).set tf .u).set ts .u) a2:=he.weak hlen0 fun t v ht=>(hent t v ht).imp id fun q=>q.2
     have hm' : MR w0 okA (cg μ s.heap.length (s.heap.take h0).length) ok (s.heap.take h0) w:=hm.take (by rw [<- hh];exact hbel.2)
     have he2:ER ([],mF keep T) (cg μ s.heap.length (s.heap.take h0).length) ok (s.heap.take h0) w (((eA s0.env kill).set tf .u).set ts .u) a2:=⟨he1.size,fun t v ht=>by
      obtain ⟨u,hu,hr⟩:=he1.env t v ht
      refine ⟨u,hu,VR.take ?_ hr⟩
      rcases hent t v ht with q | ⟨q,_⟩
      ·subst q;rfl
      ·exact qiZ.1 hbel.1 v (qrZ q),he1.defers,he1.glob⟩
     have hlen:s.env.length=T.size:=by rw [hsz];exact he.size.symm
     have hT:ER ([],[]) (cg μ s.heap.length (s.heap.take h0).length) ok (s.heap.take h0) w (((eA s0.env kill).set tf .u).set ts .u) { tmps:=T,defers:=[] }:=by
      refine ⟨by rw [hlen0,hlen],fun t v ht=>?_,⟨rfl,fun q hq=>by cases hq⟩,he2.glob⟩
      have hlt:t<T.size:=by rw [<- hlen,<- hlen0];exact (qfZ.1 ht).1
      have hTt:T[t]?=some T[t]:=by simp [hlt]
      rcases Jg hchk t v ht with rfl | ⟨b,j,hk,rfl⟩
      ·exact ⟨_,hTt,trivial⟩
      ·rw [rlZ] at hk
       obtain ⟨u,hu,hr⟩:=he2.env t _ ht
       have hpin:=he2.defers.2 _ (GA hk hTt)
       rw [hu] at hpin
       cases hpin
       exact ⟨_,hTt,hr⟩
     have hln:=qbZ hln
     refine ⟨j,_,⟨((eA s0.env kill).set tf .u).set ts .u,s.heap.take h0⟩,hm',hT,?_,by rw [<- hh];exact htag,?_⟩
     ·rw [hlen0,<- hl,<- lc kill s0.env];exact hln
     ·rw [hh] at h
      unfold itK
      have hd:decide ((c:Int)<Int.ofNat n)=decide (c<n):=by
       rw [decide_eq_decide]
       show (c:Int)<(n:Int)↔_
       omega
      rw [hd] at h
      cases hcn:decide (c<n) with
      | true=>rw [hcn] at h;exact h
      | false =>
       rw [hcn] at h
       exact h
    ·cases h
   ·cases h
section
variable {ρ : Type} {P : Program} {C : ao} {w0 : cD} {okA ok0 : Nat -> Prop} {W1 : World} {l : Nat} {r : ρ} {fuel : Nat} {it : CV -> Option (Bool × Nat × (Nat -> CV))} {cv : CV} {keep : List (Nat × Nat × Nat)} {ts tf p id1 : Nat} {x6 xb : AC} {kill : List Nat} {h0 ln : Nat} {el : Nat -> CV} {n : Nat} {kk : Ex -> St -> Option ρ} {T : Array Value} {rec : Loop} {pin : List (Nat × Obj)}
def IJ (C:ao) (fuel:Nat) (w0:cD) (okA ok0:Nat->Prop) (W1:World) (l:Nat) (pin:List (Nat × Obj)) (it:CV->Option (Bool × Nat × (Nat->CV))) (cv:CV) (keep:List (Nat × Nat × Nat)) (ts tf p id1:Nat) (x6 xb:AC) (kill:List Nat) (ln h0:Nat) (el:Nat->CV) (n:Nat) (kk:Ex->St->Option ρ) (T:Array Value) (rec:Loop) (r:ρ) (I:Nat->Prop) (c:Nat) (W:World):Prop :=
 ∃ st μ ok,tZ w0 okA ok0 W1 l pin μ ok W/\W.heap[l]?=some (.loop rec)/\MR ⟨W,rg μ⟩ ok μ ok st.heap W/\ER ([],[]) μ ok st.heap W st.env { tmps:=T,defers:=[] }/\st.env.length=ln/\st.heap.all Blk.untag=true /\
  (∃ j,itK it keep kill ts tf ln h0 cv n el (itF C fuel p id1 x6 xb) kk j c st=some r)/\c<=n/\∀ g,I g->W1.heap.size<=g/\g<W.heap.size/\¬ ok g/\¬ rg μ g
theorem IJ.world {I:Nat->Prop} {c:Nat} {W:World} (h:IJ C fuel w0 okA ok0 W1 l pin it cv keep ts tf p id1 x6 xb kill ln h0 el n kk T rec r I c W):W1.heap.size<=W.heap.size/\(∀ g,ok0 g->W.heap[g]?=W1.heap[g]?)/\∀ g,I g->W1.heap.size<=g/\g<W.heap.size:=by
 obtain ⟨st,μ,ok,ho,_,_,_,_,_,_,_,hI⟩:=h
 exact ⟨ho.size,ho.same,fun g hg=>⟨(hI g hg).1,(hI g hg).2.1⟩⟩
theorem IJ.mono {I I' : Nat->Prop} {c:Nat} {W W' : World} (h:IJ C fuel w0 okA ok0 W1 l pin it cv keep ts tf p id1 x6 xb kill ln h0 el n kk T rec r I c W) (hb:aU ⟨W,I⟩ W') (hI:∀ g,I' g->(I g\/W.heap.size<=g)/\g<W'.heap.size) :
  IJ C fuel w0 okA ok0 W1 l pin it cv keep ts tf p id1 x6 xb kill ln h0 el n kk T rec r I' c W':=by
 obtain ⟨st,μ,ok,ho,hl,hm,he,hln,htag,hev,hc,hdi⟩:=h
 obtain ⟨ho',hl',hs⟩:=ho.mono hdi hb
 obtain ⟨hm',E⟩:=hm.rebase hs hb.size
 refine ⟨st,μ,ok,ho',hl'.trans hl,hm',he.ext E,hln,htag,hev,hc,fun g hg=>?_⟩
 obtain ⟨h1,h2⟩:=hI g hg
 rcases h1 with h1 | h1
 ·exact ⟨(hdi g h1).1,h2,(hdi g h1).2.2⟩
 ·have h1:W.heap.size<=g:=h1
  exact ⟨Nat.le_trans ho.size h1,h2,fun k=>by have:=ho.lt g k;omega,fun k=>by have:=ho.rlt g k;omega⟩
theorem IJ.round {fn:FuncId} {c6 cb:Code} {D:Nat} (hmix:P.follows .mixedOrders=true) (hC:az P C) (hf6:jp P x6 c6) (hfl6:flat x6=true)
  (hrec:rec = { state:=.ready,pending:=none,fn,tmps:=T,params:=#[p],assign:=c6,body:=.block id1 cb,defers:=D })
  (hbody:∀ {w0:cD} {okA:Nat->Prop} {r0:Loop} {d:Nat} {df:DF} {μ:Nat->Option Nat} {ok:Nat->Prop} {st:St} {a:Act} {w:World} {k:Ex->St->Option ρ} {Q:Exit->Act->World->Prop},w0.w.heap[l]?=some (.loop r0)->¬ w0.own l ->
   MR w0 okA μ ok st.heap w->ER df μ ok st.heap w st.env a->(∀ e μ ok st a w,MR w0 okA μ ok st.heap w->ER df μ ok st.heap w st.env a->k e st=some r->Q (mA e) a w)->rG df xb->aS C fuel xb st k=some r->cb.wpIn (wd (some l)) d P Q a w)
  (hk:∀ q,q∈keep->q.1≠p/\jN q.1 x6=true/\jN q.1 xb=true) (hT:T.size=ln) (hit:it cv=some (true,n,el)) (hne:tf≠ts)
  {I V:Nat->Prop} {c:Nat} {W:World} {u:Value} (hcn:c<n) (hj:IJ C fuel w0 okA ok0 W1 l pin it cv keep ts tf p id1 x6 xb kill ln h0 el n kk T rec r I c W) (hV:∀ g,V g->I g) (hu:CR V W (el c) u) :
  ∃ fn tmps assign body,(Instr.yield l #[u]).run P W=.ok (.round l fn tmps assign body) W /\
   ∀ d,RoundIn (wd none) d P l fn tmps assign body W (fun e W'=>e=.returned (.bool true)/\IJ C fuel w0 okA ok0 W1 l pin it cv keep ts tf p id1 x6 xb kill ln h0 el n kk T rec r (fun g=>I g/\¬ V g) (c+1) W'/\∀ g,I g->W'.heap[g]?=W.heap[g]?):=by
 obtain ⟨st1,μ1,ok1,ho1,hl1,hm1,he1,hln,htag,hev,_,hdi⟩:=hj
 refine ⟨fn,T.setIfInBounds p u,c6,.block id1 cb,?_,fun d=>?_⟩
 ·have:=run_yield (P:=P) (args:=#[u]) hl1 (by rw [hrec];rfl)
  have hz:(#[p]:Array Tmp).zip #[u]=#[(p,u)]:=by simp
  rw [this,hrec]
  dsimp only
  rw [hz]
  rfl
 ·obtain ⟨j,hev⟩:=hev
  unfold itK at hev
  rw [qcZ hcn,cond_true] at hev
  unfold itF at hev
  obtain ⟨hmV,EV⟩:=hm1.more (V:=V) (fun g hg=>⟨(hdi g (hV g hg)).2.1,(hdi g (hV g hg)).2.2.2⟩)
  have heV:=he1.ext EV
  have pn:∀ q,q∈mF keep T->p≠q.1/\jN q.1 x6=true/\jN q.1 xb=true:=fun q hq=>by
   obtain ⟨⟨b,j,hq'⟩,_⟩:=sG hq
   have:=hk _ hq'
   exact ⟨this.1.symm,this.2.1,this.2.2⟩
  have hea:ER ([],mF keep T) μ1 (fun g=>ok1 g\/V g) st1.heap W st1.env { tmps:=T,defers:=[] }:=⟨heV.size,heV.env,⟨rfl,fun q hq=>(sG hq).2⟩,heV.glob⟩
  have hcu:CR (fun g=>ok1 g\/V g) W (el c) u:=CR.mono (fun g hg=>⟨.inr hg,rfl⟩) hu
  have heb:=hea.put (d:=p) (v:=.x (.c (el c))) (u:=u) (fun q hq=>(pn q hq).1) hcu
  refine roundIn_of_wpIn (F:=wd none) trivial ?_
  refine dy (fl:=some l) (st:=st1.put p (.x (.c (el c)))) hmix hC fuel x6 c6 hf6 hmV heb (fun e μ2 ok2 st2 a2 w2 hm2 he2 hk2=>?_) (.inr hfl6) (DM fun q hq=>(pn q hq).2.1) hev
  cases e with
  | exit i=>cases hk2
  | ret=>cases hk2
  | normal =>
   obtain ⟨ho2,hl2⟩:=ho1.run (okR:=fun g=>ok1 g\/V g) (fun g hg=>hg.imp id fun k=>⟨(hdi g (hV g k)).1,(hdi g (hV g k)).2.2.2⟩) (fun g hg=>.inl hg) hm2
   have hl2':=hl2.trans hl1
   refine ⟨_,run_beginRound hl2' (by rw [hrec]),?_⟩
   obtain ⟨ho3,hl3⟩:=ho2.put (.loop { rec with state:=.busy })
   obtain ⟨hm3,E3⟩:=hm2.rebase (ho2.putS (.loop { rec with state:=.busy })) (by rw [World.putObj_size];exact rkZ _)
   have he3:=he2.ext E3
   refine wpIn_block (hbody (w0:=⟨w2.putObj l (.loop { rec with state:=.busy }),rg μ2⟩) hl3 ho3.nl.2.1 hm3 he3 (fun e μ4 ok4 st4 a4 w4 hm4 he4 hk4=>?_) (DM fun q hq=>(pn q hq).2.2) hk2)
   have fin:dv (itB it keep ts tf ln (itF C fuel p id1 x6 xb)) (fun s=>s.norm kill h0) j ((st4.put tf (i64 ((c:Int)+1))).put ts (.x (.c cv))) (vD kk)=some r->roundPost P l (fun e W'=>e=.returned (.bool true)/\IJ C fuel w0 okA ok0 W1 l pin it cv keep ts tf p id1 x6 xb kill ln h0 el n kk T rec r (fun g=>I g/\¬ V g) (c+1) W'/\∀ g,I g->W'.heap[g]?=W.heap[g]?) .normal a4 w4:=by
    intro hk4
    obtain ⟨ho4,hl4⟩:=ho3.run (okR:=ok2) (fun g hg=>.inl hg) (fun g hg=>hg) hm4
    have hl4':=hl4.trans hl3
    have hrunR:(Instr.endRound l none).run P w4=.ok (.bool true) (w4.putObj l (.loop rec)):=by
     have:=run_endRound (P:=P) none hl4'
     rw [this,hrec];rfl
    refine ⟨_,_,hrunR,rfl,?_⟩
    obtain ⟨ho5,hl5⟩:=ho4.put (.loop rec)
    obtain ⟨hm6,E6⟩:=hm4.rebase (ho4.putS (.loop rec)) (by rw [World.putObj_size];exact rkZ _)
    have he6:=he4.ext E6
    have hlen4:st4.env.length=ln:=by
     cases j with
     | zero=>cases hk4
     | succ j =>
      unfold dv at hk4
      split at hk4
      ·cases hk4
      ·rename_i s1 hs1
       unfold St.norm at hs1
       dsimp only at hs1
       obtain ⟨_,hs1⟩:=ah hs1
       cases hs1
       unfold itB at hk4
       split at hk4
       ·split at hk4
        ·split at hk4
         ·obtain ⟨hc,_⟩:=ah hk4
          rw [qaZ,qaZ,qaZ] at hc
          have:=qbZ hc.2.2.1
          simpa [lc,St.put] using this
         ·cases hk4
        ·cases hk4
       ·cases hk4
    have hsz4:T.size=a4.tmps.size:=by rw [hT,he4.size,hlen4]
    obtain ⟨j',μ',s',hm',he',hln',htag',hev'⟩:=BE (T:=T) (c:=c+1) (s:=st4) (s0:=(st4.put tf (i64 ((c:Int)+1))).put ts (.x (.c cv))) hit hm6 he6 hsz4 rfl (by simp [St.put]) (fun y hy=>by
      have hlt:ts<((st4.env.set tf (i64 ((c:Int)+1))).set ts (.x (.c cv))).length:=(qfZ.1 hy).1
      rw [show ((st4.put tf (i64 ((c:Int)+1))).put ts (.x (.c cv))).env=(st4.env.set tf (i64 ((c:Int)+1))).set ts (.x (.c cv)) from rfl,qkZ (by simpa using hlt)] at hy
      cases hy;rfl) (fun y hy=>by
      have hlt:tf<((st4.env.set tf (i64 ((c:Int)+1))).set ts (.x (.c cv))).length:=(qfZ.1 hy).1
      rw [show ((st4.put tf (i64 ((c:Int)+1))).put ts (.x (.c cv))).env=(st4.env.set tf (i64 ((c:Int)+1))).set ts (.x (.c cv)) from rfl,qoZ (Ne.symm hne),qkZ (by simpa using hlt)] at hy
      cases hy;rfl) (fun t q1 q2=>by
      rw [show ((st4.put tf (i64 ((c:Int)+1))).put ts (.x (.c cv))).env=(st4.env.set tf (i64 ((c:Int)+1))).set ts (.x (.c cv)) from rfl,qoZ (Ne.symm q1),qoZ (Ne.symm q2)]) hk4
    obtain ⟨ho7,hl7⟩:=ho5.run (okR:=ok4) (fun g hg=>.inl hg) (fun g hg=>hg) hm'
    have dj:∀ g,(I g/\¬ V g)->¬ ok4 g/\¬ rg μ' g:=by
     rintro g ⟨hg,hnV⟩
     obtain ⟨i1,i2,i3,i4⟩:=hdi g hg
     have s2:W.heap.size<=w2.heap.size:=hm2.below.size
     have s3:(w2.putObj l (.loop { rec with state:=.busy })).heap.size<=w4.heap.size:=hm4.below.size
     rw [World.putObj_size] at s3
     have n2:¬ ok2 g:=fun k=>by
      rcases (hm2.okd g k).2 with (q | q) | q | q
      ·exact i3 q
      ·exact hnV q
      ·have q:W.heap.size<=g:=q;omega
      ·exact i4 q
     have r2:¬ rg μ2 g:=fun ⟨b,k⟩=>by
      rcases (hm2.fresh b g k).1 with q | q
      ·have q:W.heap.size<=g:=q;omega
      ·exact i4 q
     have n4:¬ ok4 g:=fun k=>by
      rcases (hm4.okd g k).2 with q | q | q
      ·exact n2 q
      ·have q:(w2.putObj l (.loop { rec with state:=.busy })).heap.size<=g:=q
       rw [World.putObj_size] at q;omega
      ·exact r2 q
     have r4:¬ rg μ4 g:=fun ⟨b,k⟩=>by
      rcases (hm4.fresh b g k).1 with q | q
      ·have q:(w2.putObj l (.loop { rec with state:=.busy })).heap.size<=g:=q
       rw [World.putObj_size] at q;omega
      ·exact r2 q
     refine ⟨n4,fun ⟨b,k⟩=>?_⟩
     rcases (hm'.fresh b g k).1 with q | q
     ·have q:(w4.putObj l (.loop rec)).heap.size<=g:=q
      rw [World.putObj_size] at q;omega
     ·exact r4 q
    have s2:W.heap.size<=w2.heap.size:=hm2.below.size
    have s3:(w2.putObj l (.loop { rec with state:=.busy })).heap.size<=w4.heap.size:=hm4.below.size
    rw [World.putObj_size] at s3
    refine ⟨⟨s',μ',ok4,ho7,hl5,(hm'.rebase (fun _ _=>rfl) (rkZ _)).1,he',hln',htag',⟨j',hev'⟩,hcn,fun g hg=>?_⟩,fun g hg=>?_⟩
    ·have:=hdi g hg.1
     exact ⟨this.1,by rw [World.putObj_size];omega,dj g hg⟩
    ·obtain ⟨i1,i2,i3,i4⟩:=hdi g hg
     have hgl:g≠l:=by have:=ho1.nl.2.2.2;omega
     have r2:¬ rg μ2 g:=fun ⟨b,k⟩=>by
      rcases (hm2.fresh b g k).1 with q | q
      ·have q:W.heap.size<=g:=q;omega
      ·exact i4 q
     rw [World.putObj_heap_other hgl]
     refine (hm4.below.block g (by show g<(w2.putObj l _).heap.size;rw [World.putObj_size];omega) r2).trans ?_
     show (w2.putObj l _).heap[g]?=_
     rw [World.putObj_heap_other hgl]
     exact hm2.below.block g i2 i4
   cases e with
   | normal=>exact fin hk4
   | ret=>cases hk4
   | exit i =>
    obtain ⟨hi,hk4⟩:=ah (show (bif Nat.beq i id1 then _ else none)=some r from hk4)
    have hi:=qbZ hi
    subst hi
    simp only [mA,Exit.inBlock,if_true]
    exact fin hk4
end
inductive oX (P:Program):AC->Code->Prop
 | plain {x:AC} {c:Code} (h:jp P x c):oX P x c
 | seq {x y:AC} {ks:List Nat} {cx cy:Code} (hx:oX P x cx) (hy:oX P y cy):oX P (.seq x ks y) (.seq cx cy)
 | ghost {l:List Nat} {x:AC} {c:Code} (h:oX P x c):oX P (.ghost l x) c
 | iter {pre:List FOp} {keep:List (Nat × Nat × Nat)} {kill:List Nat} {ts tf p:Nat} {f:FuncId} {ty:TypeId} {it:CV->Option (Bool × Nat × (Nat->CV))} {id1:Nat} {x6 xb:AC} {id5 id0:Nat} {ops5:Array Oper} {c6 cb:Code}
   (hr:dZ P ops5 (pre ++ [l7 ts tf f ty])) (h6:jp P x6 c6) (hb:oX P xb cb) (hit:FP P f it) (fl6:flat x6=true) (flb:flat xb=true)
   (hk:∀ q,q∈keep->q.1≠p/\jN q.1 x6=true/\jN q.1 xb=true) (hne:tf≠ts) :
   oX P (.iter pre keep kill ts tf p f ty it id1 x6 xb) (.seq (.region id5 ops5 false) (.block id0 (.rangeFunc (.tmp tf) #[p] c6 (.block id1 cb))))
structure TO (w0:cD) (D:Nat) (μ:Nat->Option Nat) (ok:Nat->Prop) (w:World):Prop where
 hD:w.heap[D]?=some (.deferred (some []))
 nok:¬ ok D
 nrg:¬ rg μ D
 ge:w0.w.heap.size<=D
 lt:D<w.heap.size
section
variable {ρ : Type} {P : Program} {C : ao} {r : ρ} {fuel : Nat}
def PE (P:Program) (C:ao) (fuel:Nat) (r:ρ) (xb:AC) (cb:Code) (l:Nat):Prop :=
 ∀ {w0:cD} {okA:Nat->Prop} {r0:Loop} {d:Nat} {df:DF} {μ:Nat->Option Nat} {ok:Nat->Prop} {st:St} {a:Act} {w:World} {k:Ex->St->Option ρ} {Q:Exit->Act->World->Prop},w0.w.heap[l]?=some (.loop r0)->¬ w0.own l ->
   MR w0 okA μ ok st.heap w->ER df μ ok st.heap w st.env a->(∀ e μ ok st a w,MR w0 okA μ ok st.heap w->ER df μ ok st.heap w st.env a->k e st=some r->Q (mA e) a w)->rG df xb->aS C fuel xb st k=some r->cb.wpIn (wd (some l)) d P Q a w
theorem QY {f:FuncId} {ty:TypeId} {ts tf hb:Nat} {st:St} {cv cl:CV} (hx:st.env.getD ts .u=.x (.c cv)) :
  ca (oneO f [.v cv] [.v cl]) hb st [l7 ts tf f ty] some=some (st.put tf (.x (.c cl))):=Ri hx
theorem CN {fl:Option Nat} {pre:List FOp} {keep:List (Nat × Nat × Nat)} {kill:List Nat} {ts tf p:Nat} {f:FuncId} {ty:TypeId} {it:CV->Option (Bool × Nat × (Nat->CV))} {id1:Nat} {x6 xb:AC} {id5 id0:Nat} {ops5:Array Oper} {c6 cb:Code}
  (hmix:P.follows .mixedOrders=true) (hC:az P C) (hr:dZ P ops5 (pre ++ [l7 ts tf f ty])) (h6:jp P x6 c6) (hbody:∀ l,PE P C fuel r xb cb l) (hit:FP P f it) (fl6:flat x6=true)
  (hk:∀ q,q∈keep->q.1≠p/\jN q.1 x6=true/\jN q.1 xb=true) (hne:tf≠ts)
  {w0:cD} {okA:Nat->Prop} {df:DF} {μ:Nat->Option Nat} {ok:Nat->Prop} {st:St} {a:Act} {w:World} {k:Ex->St->Option ρ} {Q:Exit->Act->World->Prop} {d:Nat}
  (hfl:∀ l0,fl=some l0->∃ r0,w0.w.heap[l0]?=some (.loop r0)/\¬ w0.own l0)
  (hm:MR w0 okA μ ok st.heap w) (he:ER df μ ok st.heap w st.env a)
  (hQ:∀ df' μ ok st a w,MR w0 okA μ ok st.heap w->ER df' μ ok st.heap w st.env a->(fl≠none/\df' = df\/fl=none/\∃ D,df' = ({ target:=.collected D,args:=#[] }::df.1,df.2)/\TO w0 D μ ok w)->k .normal st=some r->Q .normal a w)
  (hof:rG df (.iter pre keep kill ts tf p f ty it id1 x6 xb))
  (h:aS C fuel (.iter pre keep kill ts tf p f ty it id1 x6 xb) st k=some r) :
  (Code.seq (.region id5 ops5 false) (.block id0 (.rangeFunc (.tmp tf) #[p] c6 (.block id1 cb)))).wpIn (wd fl) d P Q a w:=by
 obtain ⟨kk0,hkk0⟩:∃ kk0,kk0=k:=⟨_,rfl⟩
 rw [<- hkk0] at h
 unfold aS at h
 refine wpIn_seq (Bi (df:=df) hC hr (fun f hf q hq=>?_) hm he (fun μ0 ok0 st0 a0 w0' hm0 he0 h o ho hof0=>?_) h)
 ·rcases List.mem_append.1 hf with hf | hf
  ·exact hof.1 f hf q hq
  ·rw [qzZ] at hf
   subst hf
   exact fun e=>hof.2 q hq (by injection e)
 clear hm he
 obtain ⟨hlen,h⟩:=ah h
 rw [qaZ] at hlen
 have hts:ts<st0.env.length:=by have:=hlen.1;rwa [Nat.blt_eq] at this
 have htf' : tf<st0.env.length:=by have:=hlen.2;rwa [Nat.blt_eq] at this
 obtain ⟨cv,n,el,hx,hitc⟩:∃ cv n el,st0.env.getD ts .u=.x (.c cv)/\it cv=some (true,n,el):=by
  cases hfu:fuel with
  | zero=>rw [hfu] at h;cases h
  | succ m =>
   rw [hfu] at h
   unfold dv at h
   split at h
   ·cases h
   ·rename_i s1 hs1
    unfold St.norm at hs1
    dsimp only at hs1
    obtain ⟨_,hs1⟩:=ah hs1
    cases hs1
    unfold itB at h
    split at h
    ·rename_i cv hcv
     split at h
     ·split at h
      ·rename_i bb n el hit2
       obtain ⟨hbb,_⟩:=ah h
       rw [qaZ] at hbb
       rw [hbb.1] at hit2
       refine ⟨cv,n,el,?_,hit2⟩
       rw [qdZ] at hcv ⊢
       cases hq:(eA (st0.put tf (i64 0)).env kill)[ts]? with
       | none=>rw [hq] at hcv;cases hcv
       | some v =>
        rw [hq] at hcv
        simp only [Option.getD_some] at hcv
        subst hcv
        rcases mr _ _ _ _ hq with q | q
        ·cases q
        ·have q:(st0.env.set tf (i64 0))[ts]?=some (.x (.c cv)):=q
         rw [qoZ hne] at q
         rw [q];rfl
      ·cases h
     ·cases h
    ·cases h
 have hxs:st0.env[ts]?=some (.x (.c cv)):=by
  rw [qdZ] at hx
  cases hq:st0.env[ts]? with
  | none=>rw [hq] at hx;cases hx
  | some v=>rw [hq] at hx;simp only [Option.getD_some] at hx;rw [hx]
 obtain ⟨gf,nc,caps,hden,hgok,hcalls⟩:=hit.ok cv n el hitc
 -- the call
 refine dP (C:=oneO f [.v cv] [.v (.fn gf nc caps)]) (hb:=0) (k:=some) (Gx hden) hm0 he0 ho hof0 (fun q hq=>fun e=>hof.2 q hq (by injection e)) (fun μ5 ok5 st5 a5 w5 hm5 he5 hk5=>?_) (QY hx)
 cases hk5
 have hm5:MR w0 okA μ5 ok5 st0.heap w5:=hm5
 have he5:ER df μ5 ok5 st0.heap w5 (st0.env.set tf (.x (.c (.fn gf nc caps)))) a5:=he5
 refine wpIn_block (wpIn_rangeFunc fun fn hfn=>?_)
 -- what lies in the temporaries
 obtain ⟨uf,huf,hruf⟩:=he5.env tf (.x (.c (.fn gf nc caps))) (by rw [qkZ htf'])
 obtain ⟨cs,rfl,hcs1,hcs⟩:∃ cs:Array Value,uf=.func (.func gf) #[] cs/\cs.size=nc/\∀ j,j<nc->∃ u,cs[j]?=some u/\CR ok5 w5 (caps j) u:=hruf
 -- the loop's record
 obtain ⟨l,mark,W1,pin,rec,D,hent,hout,hl1,hrec,hold,hsz,hmk⟩:∃ (l:Nat) (mark:List Deferred) (W1:World) (pin:List (Nat × Obj)) (rec:Loop) (D:Nat),
   (Instr.enterLoop fn a5.tmps #[p] c6 (.block id1 cb) fl).run P w5=.ok (l,mark) W1/\tZ w0 okA ok5 W1 l pin μ5 ok5 W1/\W1.heap[l]?=some (.loop rec) /\
   rec = { state:=.ready,pending:=none,fn,tmps:=a5.tmps,params:=#[p],assign:=c6,body:=.block id1 cb,defers:=D }/\(∀ g,g<w5.heap.size->W1.heap[g]?=w5.heap[g]?)/\w5.heap.size<=W1.heap.size /\
   (fl≠none/\mark = []\/fl=none/\mark = [{ target:=.collected D,args:=#[] }]/\(D,.deferred (some []))∈pin):=by
  have hsz0:=hm5.below.size
  cases hfq:fl with
  | none =>
   obtain ⟨rec,hrec⟩:∃ rec:Loop,rec = { state:=.ready,pending:=none,fn,tmps:=a5.tmps,params:=#[p],assign:=c6,body:=.block id1 cb,defers:=w5.heap.size }:=⟨_,rfl⟩
   obtain ⟨W1,hW1⟩:∃ W1,W1=(w5.alloc (.deferred (some []))).alloc (.loop rec):=⟨_,rfl⟩
   have hs1:W1.heap.size=w5.heap.size+2:=by rw [hW1];simp
   have hold:∀ g,g<w5.heap.size->W1.heap[g]?=w5.heap[g]?:=fun g hg=>by
    rw [hW1]
    show ((w5.heap.push _).push _)[g]?=_
    rw [Array.getElem?_push_lt (by simp;omega),Array.getElem_push_lt hg]
    simp [hg]
   have hl1:W1.heap[w5.heap.size+1]?=some (.loop rec):=by
    rw [hW1]
    have:=World.alloc_heap_new (w5.alloc (.deferred (some []))) (.loop rec)
    rwa [World.size_alloc] at this
   refine ⟨w5.heap.size+1,[{ target:=.collected w5.heap.size,args:=#[] }],W1,[(w5.heap.size,.deferred (some []))],rec,w5.heap.size,?_,?_,hl1,hrec,hold,by omega,.inr ⟨rfl,rfl,qmZ ..⟩⟩
   ·rw [hW1,hrec];exact run_enterLoop_outer fn a5.tmps #[p] c6 (.block id1 cb)
   ·refine ⟨hm5.below.trans (by
     rw [hW1]
     exact Below.alloc (Below.alloc (Below.refl _ _) hsz0 _) (by simp;omega) _),fun g ⟨b,hb⟩=>(hm5.fresh b g hb).1,fun g hg=>(hm5.okd g hg).2,fun g hg=>hg,fun g hg ⟨b,hb⟩=>(hm5.fresh b g hb).2.2 hg,fun g hg=>?_,fun g ⟨b,hb⟩=>?_,by omega,rkZ _,fun g _=>rfl,⟨fun k=>?_,fun ⟨b,k⟩=>?_,by omega,by omega⟩,fun q hq=>?_⟩
    ·have:=(hm5.okd g hg).1;omega
    ·have:=(hm5.fresh b g hb).2.1;omega
    ·have:=(hm5.okd _ k).1;omega
    ·have:=(hm5.fresh b _ k).2.1;omega
    ·rw [qzZ] at hq
     subst hq
     refine ⟨fun k=>?_,fun ⟨b,k⟩=>?_,hsz0,by show w5.heap.size<_;omega,by show w5.heap.size≠_;omega,?_⟩
     ·have:=(hm5.okd _ k).1;exact absurd this (Nat.lt_irrefl _)
     ·have:=(hm5.fresh b _ k).2.1;exact absurd this (Nat.lt_irrefl _)
     ·show W1.heap[w5.heap.size]?=_
      rw [hW1]
      show ((w5.heap.push _).push _)[w5.heap.size]?=_
      rw [Array.getElem?_push_lt (by simp),Array.getElem_push_eq]
  | some l0 =>
   obtain ⟨r0,hl0,hnl0⟩:=hfl l0 hfq
   have hlt0:l0<w0.w.heap.size:=(qqZ.1 hl0).1
   have hl0' : w5.heap[l0]?=some (.loop r0):=(hm5.below.block l0 hlt0 hnl0).trans hl0
   obtain ⟨rec,hrec⟩:∃ rec:Loop,rec = { state:=.ready,pending:=none,fn,tmps:=a5.tmps,params:=#[p],assign:=c6,body:=.block id1 cb,defers:=r0.defers }:=⟨_,rfl⟩
   obtain ⟨W1,hW1⟩:∃ W1,W1=w5.alloc (.loop rec):=⟨_,rfl⟩
   have hs1:W1.heap.size=w5.heap.size+1:=by rw [hW1];simp
   have hold:∀ g,g<w5.heap.size->W1.heap[g]?=w5.heap[g]?:=fun g hg=>by
    rw [hW1]
    show (w5.heap.push _)[g]?=_
    rw [Array.getElem?_push_lt hg]
    simp [hg]
   have hl1:W1.heap[w5.heap.size]?=some (.loop rec):=by
    rw [hW1]
    exact World.alloc_heap_new w5 (.loop rec)
   refine ⟨w5.heap.size,[],W1,[],rec,r0.defers,?_,?_,hl1,hrec,hold,by omega,.inl ⟨nofun,rfl⟩⟩
   ·rw [hW1,hrec];exact run_enterLoop_inner hl0' fn a5.tmps #[p] c6 (.block id1 cb)
   ·refine ⟨hm5.below.trans (by
     rw [hW1]
     exact Below.alloc (Below.refl _ _) hsz0 _),fun g ⟨b,hb⟩=>(hm5.fresh b g hb).1,fun g hg=>(hm5.okd g hg).2,fun g hg=>hg,fun g hg ⟨b,hb⟩=>(hm5.fresh b g hb).2.2 hg,fun g hg=>?_,fun g ⟨b,hb⟩=>?_,by omega,rkZ _,fun g _=>rfl,⟨fun k=>?_,fun ⟨b,k⟩=>?_,by omega,by omega⟩,fun q hq=>by cases hq⟩
    ·have:=(hm5.okd g hg).1;omega
    ·have:=(hm5.fresh b g hb).2.1;omega
    ·have:=(hm5.okd _ k).1;omega
    ·have:=(hm5.fresh b _ k).2.1;omega
 obtain ⟨hm1,E1⟩:=hm5.rebase (w':=W1) (fun g hg=>hold g (by
  rcases hg with q | ⟨b,q⟩
  ·exact (hm5.okd g q).1
  ·exact (hm5.fresh b g q).2.1)) hsz
 have he1:=he5.ext E1
 have hcr:∀ {c:CV} {u:Value},CR ok5 w5 c u->CR ok5 W1 c u:=fun h=>CR.mono (fun g hg=>⟨hg,hold g (hm5.okd g hg).1⟩) h
 have hT:a5.tmps.size=st0.env.length:=by rw [he5.size];simp
 -- the first head
 have hstart:IJ C fuel w0 okA ok5 W1 l pin it cv keep ts tf p id1 x6 xb kill st0.env.length st0.heap.length el n kk0 a5.tmps rec r (fun _=>False) 0 W1:=by
  have hek:ER ([],mF keep a5.tmps) μ5 ok5 st0.heap W1 (st0.env.set tf .u) { tmps:=a5.tmps,defers:=[] }:=by
   have h1:ER df μ5 ok5 st0.heap W1 (st0.env.set tf .u) a5:=he1.weak (by simp) fun t v ht=>by
    by_cases q:t=tf
    ·subst q
     rw [qkZ htf'] at ht
     cases ht;exact .inl rfl
    ·refine .inr ?_
     rw [qoZ (Ne.symm q)] at ht ⊢
     exact ht
   exact ⟨h1.size,h1.env,⟨rfl,fun q hq=>(sG hq).2⟩,h1.glob⟩
  obtain ⟨j',μ',s',hm',he',hln',htag',hev'⟩:=BE (T:=a5.tmps) (c:=0) (s:=⟨st0.env.set tf .u,st0.heap⟩) (s0:=st0.put tf (i64 0)) hitc hm1 hek rfl rfl (by simp [St.put]) (fun y hy=>by
    have hy:(st0.env.set tf (i64 0))[ts]?=some y:=hy
    rw [qoZ hne,hxs] at hy
    cases hy;rfl) (fun y hy=>by
    have hy:(st0.env.set tf (i64 0))[tf]?=some y:=hy
    rw [qkZ htf'] at hy
    cases hy;rfl) (fun t q1 q2=>by
    show (st0.env.set tf (i64 0))[t]?=(st0.env.set tf .u)[t]?
    rw [qoZ (Ne.symm q2),qoZ (Ne.symm q2)]) h
  obtain ⟨ho7,hl7⟩:=hout.run (okR:=ok5) (fun g hg=>.inl hg) (fun g hg=>hg) hm'
  exact ⟨s',μ',ok5,ho7,hl1,(hm'.rebase (fun _ _=>rfl) (rkZ _)).1,he',hln',htag',⟨j',hev'⟩,Nat.zero_le _,fun g hg=>hg.elim⟩
 have hwf:∀ fl f,(wd fl).fn f:=fun _ _=>trivial
 refine ⟨l,mark,W1,{ target:=.fn (.func gf) cs,args:=#[.func (.yield l) #[] #[]] },W1,gf,#[.func (.yield l) #[] #[]] ++ cs,W1,hent,?_,fun _ _=>hwf _ _,(show (callFunc gf _).run P W1=_ from dz hgok),(fun h=>by cases h),?_⟩
 ·simp [resolve,Deferred.ofValue,Act.eval,huf]
 have hgl1:eN ok5 W1:=he1.glob
 have hcall:=hcalls ok5 W1 cs hout.lt hgl1 hcs1 (fun j hj=>by
  obtain ⟨u,hu,hr⟩:=hcs j hj
  exact ⟨u,hu,hcr hr⟩) l (d-1) (fun I c W=>IJ C fuel w0 okA ok5 W1 l pin it cv keep ts tf p id1 x6 xb kill st0.env.length st0.heap.length el n kk0 a5.tmps rec r I c W)
  (fun I c W h=>h.world) (fun I c W I' W' h hb hI=>h.mono hb hI)
  (fun I c W V u hcn hj hV hu=>IJ.round hmix hC h6 fl6 hrec (fun {_ _ _ _ _ _ _ _ _ _ _ _}=>hbody l) hk hT hitc hne hcn hj hV hu) hstart
 have hcall2:CallsIn (wd fl) (d-1) P gf (#[.func (.yield l) #[] #[]] ++ cs) W1 (fun e W'=>(∃ v,e=.returned v)/\∃ I,IJ C fuel w0 okA ok5 W1 l pin it cv keep ts tf p id1 x6 xb kill st0.env.length st0.heap.length el n kk0 a5.tmps rec r I n W'):=hcall
 refine hcall2.mono ?_
 rintro e W' ⟨⟨v,rfl⟩,I,hj⟩
 obtain ⟨st1,μ1,ok1,ho1,hl1',hm1',he1',hln1,htag1,hev1,_,_⟩:=hj
 obtain ⟨j1,hev1⟩:=hev1
 unfold itK at hev1
 rw [qeZ (Nat.lt_irrefl n),cond_false] at hev1
 have hend:k .normal st1=some r:=by rw [<- hkk0];exact hev1
 have hrunE:(Instr.endLoop l).run P W' = .ok none (W'.putObj l (.loop { rec with state:=.exhausted })):=by
  have:=run_endLoop (P:=P) hl1' (by simp [hrec])
  rw [this,hrec]
 refine ⟨none,_,hrunE,?_⟩
 obtain ⟨hm7,E7⟩:=hm1'.rebase (ho1.putS (.loop { rec with state:=.exhausted })) (by rw [World.putObj_size];exact rkZ _)
 have he7:=he1'.ext E7
 have ho9:=(ho1.put (.loop { rec with state:=.exhausted })).1
 have hm9:=MR.merge ho9 hm5.keep hm7 htag1
 show Exit.inBlock id0 Q .normal _ _
 refine hQ (mark ++ df.1,df.2) μ1 ok1 st1 _ _ hm9 ⟨he7.size,he7.env,⟨by simp [he5.defers.1],fun q hq=>he5.defers.2 q hq⟩,he7.glob⟩ ?_ hend
 rcases hmk with ⟨q1,q2⟩ | ⟨q1,q2,q3⟩
 ·left
  exact ⟨q1,by rw [q2];rfl⟩
 ·right
  obtain ⟨p1,p2,p3,p4,p5,p6⟩:=ho9.pin _ q3
  exact ⟨q1,D,by rw [q2];rfl,p6,p1,p2,p3,qxZ p4 ho9.size⟩
end
section
variable {ρ : Type} {P : Program} {C : ao} {r : ρ} {fuel : Nat}
theorem OE (hmix:P.follows .mixedOrders=true) (hC:az P C) {x:AC} {c:Code} (hf:oX P x c):flat x=true->∀ l0,PE P C fuel r x c l0:=by
 induction hf with
 | plain h =>
  intro hfl l0 w0 okA r0 d df μ ok st a w k Q hl hn hm he hQ hof hev
  exact dy (fl:=some l0) hmix hC fuel _ _ h hm he hQ (.inr hfl) hof hev
 | @seq x y ks cx cy hx hy ihx ihy =>
  intro hfl l0 w0 okA r0 d df μ ok st a w k Q hl hn hm he hQ hof hev
  unfold flat at hfl
  rw [qaZ] at hfl
  unfold aS at hev
  refine wpIn_seq (ihx hfl.1 l0 hl hn hm he (fun e μ ok st a w hm he hk=>?_) hof.1 hev)
  cases e with
  | normal=>exact ihy hfl.2 l0 (st:=st.kill ks) hl hn hm (he.kill ks) hQ hof.2 hk
  | exit id=>exact hQ (.exit id) _ _ _ _ _ hm he hk
  | ret=>exact hQ .ret _ _ _ _ _ hm he hk
 | @ghost l x c h ih =>
  intro hfl l0 w0 okA r0 d df μ ok st a w k Q hl hn hm he hQ hof hev
  obtain ⟨μ1,ok1,hm1,E1,hok1,hkill,hμ1,hH1⟩:=hm.freeze l
  obtain ⟨hm2,he2⟩:=li hm he l hm1 E1 hkill hH1
  exact ih hfl l0 (st:=st.thaw l) hl hn hm2 he2 hQ hof hev
 | iter hr h6 hb hit fl6 flb hk hne ih =>
  intro hfl l0 w0 okA r0 d df μ ok st a w k Q hl hn hm he hQ hof hev
  refine CN (fl:=some l0) hmix hC hr h6 (fun l=>ih flb l) hit fl6 hk hne (fun l1 e=>?_) hm he (fun df2 μ2 ok2 st2 a2 w2 hm2 he2 hd hk2=>?_) hof hev
  ·cases e;exact ⟨r0,hl,hn⟩
  ·rcases hd with ⟨_,q⟩ | ⟨q,_⟩
   ·rw [q] at he2
    exact hQ .normal _ _ _ _ _ hm2 he2 hk2
   ·cases q
inductive Ar (P:Program):AC->Code->Prop
 | iter {pre:List FOp} {keep:List (Nat × Nat × Nat)} {kill:List Nat} {ts tf p:Nat} {f:FuncId} {ty:TypeId} {it:CV->Option (Bool × Nat × (Nat->CV))} {id1:Nat} {x6 xb:AC} {id5 id0:Nat} {ops5:Array Oper} {c6 cb:Code}
   (hr:dZ P ops5 (pre ++ [l7 ts tf f ty])) (h6:jp P x6 c6) (hb:oX P xb cb) (hit:FP P f it) (fl6:flat x6=true) (flb:flat xb=true)
   (hk:∀ q,q∈keep->q.1≠p/\jN q.1 x6=true/\jN q.1 xb=true) (hne:tf≠ts) :
   Ar P (.iter pre keep kill ts tf p f ty it id1 x6 xb) (.seq (.region id5 ops5 false) (.block id0 (.rangeFunc (.tmp tf) #[p] c6 (.block id1 cb))))
 | left {x y:AC} {ks:List Nat} {cx cy:Code} (hx:Ar P x cx) (hy:jp P y cy):Ar P (.seq x ks y) (.seq cx cy)
 | right {x y:AC} {ks:List Nat} {cx cy:Code} (hx:jp P x cx) (hy:Ar P y cy):Ar P (.seq x ks y) (.seq cx cy)
theorem FB {w0:cD} {okA:Nat->Prop} {d:Nat} (hmix:P.follows .mixedOrders=true) (hC:az P C) {ac:AC} {c:Code} (hf:Ar P ac c):∀ {μ:Nat->Option Nat} {ok:Nat->Prop} {st:St} {a:Act} {w:World} {k:Ex->St->Option ρ} {Q:Exit->Act->World->Prop},
  MR w0 okA μ ok st.heap w->ER ([],[]) μ ok st.heap w st.env a ->
  (∀ e μ ok st a w,MR w0 okA μ ok st.heap w->ER ([],[]) μ ok st.heap w st.env a->k e st=some r->Q (mA e) a w) ->
  (∀ e D μb okb Hb Wb μ ok st a w,MR w0 okA μb okb Hb Wb->TO w0 D μb okb Wb->MR ⟨Wb,rg μb⟩ okb μ ok st.heap w->ER ([{ target:=.collected D,args:=#[] }],[]) μ ok st.heap w st.env a->k e st=some r->Q (mA e) a w) ->
  aS C fuel ac st k=some r->c.wpIn (wd none) d P Q a w:=by
 induction hf with
 | iter hr h6 hb hit fl6 flb hk hne =>
  intro μ ok st a w k Q hm he hQ0 hQ1 h
  refine CN (fl:=none) hmix hC hr h6 (fun l=>OE hmix hC hb flb l) hit fl6 hk hne (fun l1 e=>by cases e) hm he (fun df' μ ok st a w hm he hd hk=>?_) (oy _) h
  rcases hd with ⟨q,_⟩ | ⟨_,D,rfl,hD⟩
  ·exact (q rfl).elim
  ·exact hQ1 .normal D μ ok st.heap w μ ok st a w hm hD (hm.rebase (fun _ _=>rfl) (rkZ _)).1 he hk
 | @left x y ks cx cy hx hy ih =>
  intro μ ok st a w k Q hm he hQ0 hQ1 h
  unfold aS at h
  refine wpIn_seq (ih hm he (fun e μ ok st a w hm he hh=>?_) (fun e D μb okb Hb Wb μ ok st a w hb hD hm he hh=>?_) h)
  ·cases e with
   | normal=>exact dy (fl:=none) (st:=st.kill ks) hmix hC fuel y cy hy hm (he.kill ks) hQ0 (.inl rfl) (oy y) hh
   | exit id=>exact hQ0 (.exit id) _ _ _ _ _ hm he hh
   | ret=>exact hQ0 .ret _ _ _ _ _ hm he hh
  ·cases e with
   | normal=>exact dy (fl:=none) (st:=st.kill ks) hmix hC fuel y cy hy hm (he.kill ks) (fun e μ ok st a w hm he hh=>hQ1 e D μb okb Hb Wb μ ok st a w hb hD hm he hh) (.inl rfl) (oy y) hh
   | exit id=>exact hQ1 (.exit id) D μb okb Hb Wb _ _ _ _ _ hb hD hm he hh
   | ret=>exact hQ1 .ret D μb okb Hb Wb _ _ _ _ _ hb hD hm he hh
 | @right x y ks cx cy hx hy ih =>
  intro μ ok st a w k Q hm he hQ0 hQ1 h
  unfold aS at h
  refine wpIn_seq (dy (fl:=none) hmix hC fuel x cx hx hm he (fun e μ ok st a w hm he hh=>?_) (.inl rfl) (oy x) h)
  cases e with
  | normal=>exact ih (st:=st.kill ks) hm (he.kill ks) hQ0 hQ1 hh
  | exit id=>exact hQ0 (.exit id) _ _ _ _ _ hm he hh
  | ret=>exact hQ0 .ret _ _ _ _ _ hm he hh
end
def so (P:Program):AC->Prop
 | .seq x _ y=>so P x/\so P y
 | .ghost _ x=>so P x
 | .iter _ _ _ _ _ _ f _ it _ _ xb=>FP P f it/\so P xb
 | _=>True
def I9:AC->Bool
 | .seq x _ y=>I9 x||I9 y
 | .iter ..=>true
 | _=>false
def I8 (P:Program) (pre:List FOp) (keep:List (Nat × Nat × Nat)) (ts tf p:Nat) (f:FuncId) (ty:TypeId) (x6 xb:AC) (ops5:Array Oper) (tf' : Nat) (ps:Array Tmp) (c6:Code) (id1 id1' : Nat):Bool :=
 Nat.beq tf' tf&&(ps.toList==[p])&&Nat.beq id1' id1&&JT P ops5 (pre ++ [l7 ts tf f ty]) ops5.toList&&eZ P x6 c6&&flat x6&&flat xb&&(keep.all fun q=>!Nat.beq q.1 p&&(jN q.1 x6&&jN q.1 xb)) && !Nat.beq tf ts
def lw (P:Program):AC->Code->Bool
 | .seq x _ y,.seq cx cy=>lw P x cx&&lw P y cy
 | .ghost _ x,c=>lw P x c
 | .iter pre keep _ ts tf p f ty _ id1 x6 xb,.seq (.region _ ops5 false) (.block _ (.rangeFunc (.tmp tf') ps c6 (.block id1' cb)))=>I8 P pre keep ts tf p f ty x6 xb ops5 tf' ps c6 id1 id1' && lw P xb cb
 | x,c=>eZ P x c
def oD (P:Program):AC->Code->Bool
 | .seq x _ y,.seq cx cy=>bif I9 x then oD P x cx&&eZ P y cy else eZ P x cx&&oD P y cy
 | .iter pre keep _ ts tf p f ty _ id1 x6 xb,.seq (.region _ ops5 false) (.block _ (.rangeFunc (.tmp tf') ps c6 (.block id1' cb)))=>I8 P pre keep ts tf p f ty x6 xb ops5 tf' ps c6 id1 id1' && lw P xb cb
 | _,_=>false
section
variable {P : Program}
theorem Fl {pre:List FOp} {keep:List (Nat × Nat × Nat)} {ts tf p:Nat} {f:FuncId} {ty:TypeId} {x6 xb:AC} {ops5:Array Oper} {tf' : Nat} {ps:Array Tmp} {c6:Code} {id1 id1' : Nat} (h:I8 P pre keep ts tf p f ty x6 xb ops5 tf' ps c6 id1 id1' = true)
  (hs:((pre ++ [l7 ts tf f ty]).map fun f=>(f.dst,f.op.erase))=ops5.toList.map fun o=>(o.dst,o.op)) (hs6:shA x6=shC c6) :
  tf' = tf/\ps=#[p]/\id1' = id1/\dZ P ops5 (pre ++ [l7 ts tf f ty])/\jp P x6 c6/\flat x6=true/\flat xb=true/\(∀ q,q∈keep->q.1≠p/\jN q.1 x6=true/\jN q.1 xb=true)/\tf≠ts:=by
 unfold I8 at h
 simp only [qaZ,Bool.not_eq_true'] at h
 obtain ⟨⟨⟨⟨⟨⟨⟨⟨h1,h2⟩,h3⟩,h4⟩,h5⟩,h6⟩,h7⟩,h8⟩,h10⟩:=h
 have nb:∀ {x y:Nat},Nat.beq x y=false->x≠y:=fun hh e=>by rw [e,Nat.beq_refl] at hh;cases hh
 have e2:ps=#[p]:=by
  have:ps.toList = [p]:=by simpa using h2
  rw [<- Array.toArray_toList (xs:=ps),this]
 refine ⟨qbZ h1,e2,qbZ h3,Bj h4 hs,tO h5 hs6,h6,h7,fun q hq=>?_,nb h10⟩
 have:=qiZ.1 h8 q hq
 simp only [qaZ,Bool.not_eq_true'] at this
 exact ⟨nb this.1,this.2⟩
theorem Oh:∀ {ac:AC} {c:Code},lw P ac c=true->shA ac=shC c->so P ac->oX P ac c:=by
 intro ac
 induction ac with
 | seq x ks y ihx ihy =>
  intro c hB hs ha
  cases c<;>first | (simp only [lw,eZ] at hB;cases hB;done) | skip
  simp only [shA,shC,Sh.two.injEq] at hs
  unfold lw at hB
  rw [qaZ] at hB
  exact .seq (ihx hB.1 hs.1 ha.1) (ihy hB.2 hs.2 ha.2)
 | ghost l x ih =>
  intro c hB hs ha
  unfold lw at hB
  exact .ghost (ih hB hs ha)
 | iter pre keep kill ts tf p f ty it id1 x6 xb ih6 ihb =>
  intro c hB hs ha
  unfold lw at hB
  split at hB
  ·rename_i heq;cases heq
  ·rename_i heq;cases heq
  ·rename_i heq
   cases heq
   rw [qaZ] at hB
   simp only [shA,shC,Sh.two.injEq,Sh.one.injEq,Sh.reg.injEq] at hs
   obtain ⟨e1,e2,e3,a1,a2,a3,a4,a5,a7⟩:=Fl hB.1 hs.1 hs.2.1
   subst e1 e2 e3
   exact .iter a1 a2 (ihb hB.2 hs.2.2 ha.2) ha.1 a3 a4 a5 a7
  ·simp only [eZ] at hB;cases hB
 | _ =>
  intro c hB hs ha
  unfold lw at hB
  exact .plain (tO hB hs)
theorem NX:∀ {ac:AC} {c:Code},oD P ac c=true->shA ac=shC c->so P ac->Ar P ac c:=by
 intro ac
 induction ac with
 | seq x ks y ihx ihy =>
  intro c hB hs ha
  cases c<;>first | (simp only [oD] at hB;cases hB;done) | skip
  simp only [shA,shC,Sh.two.injEq] at hs
  unfold oD at hB
  cases hq:I9 x with
  | true =>
   rw [hq,cond_true,qaZ] at hB
   exact .left (ihx hB.1 hs.1 ha.1) (tO hB.2 hs.2)
  | false =>
   rw [hq,cond_false,qaZ] at hB
   exact .right (tO hB.1 hs.1) (ihy hB.2 hs.2 ha.2)
 | iter pre keep kill ts tf p f ty it id1 x6 xb ih6 ihb =>
  intro c hB hs ha
  unfold oD at hB
  split at hB
  ·rename_i heq;cases heq
  ·rename_i heq
   cases heq
   rw [qaZ] at hB
   simp only [shA,shC,Sh.two.injEq,Sh.one.injEq,Sh.reg.injEq] at hs
   obtain ⟨e1,e2,e3,a1,a2,a3,a4,a5,a7⟩:=Fl hB.1 hs.1 hs.2.1
   subst e1 e2 e3
   exact .iter a1 a2 (Oh hB.2 hs.2.2 ha.2) ha.1 a3 a4 a5 a7
  ·cases hB
 | _=>intro c hB _;simp only [oD] at hB;cases hB
end
structure D9 (P:Program) (f:FuncId) (F:AF):Prop where
 ok:dq P f=true
 fn:∃ fn c,P.funcs[f]?=some fn/\fn.body=some c/\fn.ntmps=F.n/\lW P F.res fn.results.toList=true/\(so P F.body->Ar P F.body c)
def Jc (P:Program) (F:AF) (fn:Func):Bool :=
 Nat.beq fn.ntmps F.n&&lW P F.res fn.results.toList&&(match fn.body with | some c=>oD P F.body c | none=>false)
theorem Kw {P : Program} {f : FuncId} {F : AF} {fn : Func} {c : Code} (hfn : P.funcs[f]? = some fn) (hname : (fn.name != "runtime.NumGoroutine") = true) (hbody : fn.body = some c) (hB : Jc P F fn = true)
  (hs:shA F.body=shC c):D9 P f F:=by
 unfold Jc at hB
 rw [hbody] at hB
 simp only [qaZ] at hB
 refine ⟨?_,fn,c,hfn,hbody,qbZ hB.1.1,hB.1.2,fun ha=>NX hB.2 hs ha⟩
 unfold dq
 rw [hfn]
 simp only [hbody,hname,Option.isSome_some,Bool.and_self]
theorem D0 {P:Program} {C:ao} {fuel:Nat} (hmix:P.follows .mixedOrders=true) (hC:az P C) {f:FuncId} {F:AF} (hF:D9 P f F) (ha:so P F.body) {args res:List A} (h:aD C fuel F args=some res):Den P f args res:=by
 refine ⟨hF.ok,fun w okA vs hok hgl hargs=>?_⟩
 obtain ⟨fn,c,hfn,hbody,hn,hres,hfits⟩:=hF.fn
 refine (callsIn_wide (n:=0)).1 (callsIn_of_wp_marks hfn hbody trivial ?_)
 unfold aD at h
 have hm:MR ⟨w,fun _=>False⟩ okA (fun _=>none) okA ([]:List Blk) w:=MR.init hok
 have he:ER ([],[]) (fun _=>none) okA ([]:List Blk) w (args.map A.toV ++ List.replicate (F.n-args.length) .undef) { tmps:=vs ++ Array.replicate (fn.ntmps-vs.size) undef,defers:=[] }:=by
  refine ⟨by simp [hargs.1,hn],fun t v ht=>?_,⟨rfl,fun _ h=>by cases h⟩,hgl⟩
  by_cases hlt:t<args.length
  ·rw [qnZ (by simpa using hlt),qhZ] at ht
   cases hq:args[t]? with
   | none=>rw [hq] at ht;cases ht
   | some x =>
    rw [hq] at ht;cases ht
    obtain ⟨u,hu,hr⟩:=hargs.2 t x hq
    refine ⟨u,?_,hr.toV_sound⟩
    rw [qlZ (by rw [hargs.1];exact hlt)];exact hu
  ·rw [qsZ (by simp;omega),List.getElem?_replicate] at ht
   split at ht
   ·rename_i hl
    cases ht
    refine ⟨undef,?_,rfl⟩
    rw [qtZ (by rw [hargs.1];omega),Array.getElem?_replicate]
    simp only [rcZ] at hl
    rw [if_pos (by rw [hargs.1,hn];exact hl)]
   ·cases ht
 have hrun:∀ {w0:cD} {okA:Nat->Prop} {df:DF} {μ:Nat->Option Nat} {ok:Nat->Prop} {st:St} {a:Act} {w' : World},MR w0 okA μ ok st.heap w'->ER df μ ok st.heap w' st.env a->aO (F.res.map (Ay st))=some res ->
   ∃ v,(results fn a.tmps).run P w' = .ok v w'/\om (fun g=>g<w'.heap.size/\(okA g\/w0.w.heap.size<=g\/w0.own g)) w' res v:=by
  intro w0 okA df μ ok st a w' hm he hk
  obtain ⟨us,h1,h2,h3⟩:=tC (P:=P) hm he hres hk
  have hrun:(fn.results.mapM (dg a.tmps)).run P w' = .ok us.toArray w':=by
   rw [Array.mapM_eq_mapM_toList,map_eq_pure_bind,Sem.run_bind,h1]
   rfl
  have hrw:results fn a.tmps=(do
    let vs <- fn.results.mapM (dg a.tmps)
    pure (if h:vs.size=1 then vs[0] else .tuple vs)):=by
   unfold results
   have:(fun | .tmp t=>pure (a.tmps.getD t undef) | .cell x t=>do loadVar t (<- asAddr (a.tmps.getD x undef)):ResultVar->Sem Value)=dg a.tmps:=by funext v;cases v<;>rfl
   rw [<- this]
   rfl
  refine ⟨if h:us.toArray.size=1 then us.toArray[0] else .tuple us.toArray,?_,DG h2 h3⟩
  rw [hrw,Sem.run_bind,hrun]
  rfl
 refine FB (d:=0) (st:=⟨_,[]⟩) (r:=res) (k:=aH F) hmix hC (hfits ha) hm he (fun e μ ok st a w' hm he hk=>?_) (fun e D μb okb Hb Wb μ ok st a w' hb hD hm he hk=>?_) h
 ·have main:aO (F.res.map (Ay st))=some res->LeavesInM (wd none) 0 P fn a.tmps (fun e w'=>∃ v ok',e=.returned v/\Below w.heap.size w w'/\(∀ g,ok' g->g<w'.heap.size/\(okA g\/w.heap.size<=g))/\(∀ g,okA g->ok' g)/\om ok' w' res v) a.defers .returning w':=by
   intro hk
   obtain ⟨v,h1,h2⟩:=hrun hm he hk
   rw [he.defers.1]
   exact ⟨v,h1,v,_,rfl,Below.of_base hm.below,fun g hg=>⟨hg.1,hg.2.imp id fun h=>h.elim id False.elim⟩,fun g hg=>hm.okd g (hm.keep g hg),h2⟩
  cases e with
  | exit id=>cases hk
  | normal=>exact main hk
  | ret=>exact main hk
 ·have hbw:aU ⟨w,fun _=>False⟩ w':=aU.step hb.below (fun g ⟨b,hg⟩=>(hb.fresh b g hg).1) hm.below
  have hDw:w'.heap[D]?=some (.deferred (some [])):=(hm.below.block D hD.lt hD.nrg).trans hD.hD
  have nok:¬ ok D:=fun k=>by
   rcases (hm.okd D k).2 with q | q | q
   ·exact hD.nok q
   ·have q:Wb.heap.size<=D:=q
    have:=hD.lt;omega
   ·exact hD.nrg q
  have nrg:¬ rg μ D:=fun ⟨b,k⟩=>by
   rcases (hm.fresh b D k).1 with q | q
   ·have q:Wb.heap.size<=D:=q
    have:=hD.lt;omega
   ·exact hD.nrg q
  have main:aO (F.res.map (Ay st))=some res->LeavesInM (wd none) 0 P fn a.tmps (fun e w'=>∃ v ok',e=.returned v/\Below w.heap.size w w'/\(∀ g,ok' g->g<w'.heap.size/\(okA g\/w.heap.size<=g))/\(∀ g,okA g->ok' g)/\om ok' w' res v) a.defers .returning w':=by
   intro hk
   have hsame:∀ g,(ok g\/rg μ g)->(w'.putObj D (.deferred none)).heap[g]?=w'.heap[g]?:=fun g hg=>World.putObj_heap_other fun e=>by
    subst e
    exact hg.elim nok nrg
   obtain ⟨hm2,E2⟩:=hm.rebase hsame (by rw [World.putObj_size];exact rkZ _)
   have he2:=he.ext E2
   obtain ⟨v,h1,h2⟩:=hrun hm2 he2 hk
   rw [he.defers.1]
   have hsz:w.heap.size<=w'.heap.size:=hbw.size
   have hWb:w.heap.size<=Wb.heap.size:=hb.below.size
   refine ⟨(fun h=>by cases h),.inl ⟨D,_,rfl,run_takeDeferred hDw,v,h1,v,_,rfl,Below.of_base (hbw.putObj hD.ge),fun g hg=>⟨hg.1,?_⟩,fun g hg=>⟨?_,.inl (hm.keep g (hb.keep g hg))⟩,h2⟩⟩
   ·rcases hg.2 with q | q | q
    ·rcases (hm.okd g q).2 with q | q | ⟨b,q⟩
     ·exact (hb.okd g q).2.imp id fun h=>h.elim id False.elim
     ·have q:Wb.heap.size<=g:=q
      exact .inr (by omega)
     ·rcases (hb.fresh b g q).1 with q | q
      ·exact .inr q
      ·exact q.elim
    ·have q:(w'.putObj D (.deferred none)).heap.size<=g:=q
     rw [World.putObj_size] at q
     exact .inr (by omega)
    ·obtain ⟨b,q⟩:=q
     rcases (hm.fresh b g q).1 with q | ⟨b,q⟩
     ·have q:Wb.heap.size<=g:=q
      exact .inr (by omega)
     ·rcases (hb.fresh b g q).1 with q | q
      ·exact .inr q
      ·exact q.elim
   ·rw [World.putObj_size]
    exact (hm.okd g (hm.keep g (hb.keep g hg))).1
  cases e with
  | exit id=>cases hk
  | normal=>exact main hk
  | ret=>exact main hk
def eI (it:CV->Option (Bool × Nat × (Nat->CV))) (keep:List (Nat × Nat × Nat)) (ts tf ln p id1:Nat) (x6 xb:AC) (C:ao) (u:Nat) {ρ:Type}:St->(Ex->St->Option ρ)->Option ρ:=itB it keep ts tf ln fun v st k=>aS C u x6 (st.put p (.x (.c v))) fun e s=>match e with
 | .normal=>aS C u xb s (kIt id1 k)
 | _=>none
def Kl {ρ:Type} (tf ts:Nat) (c:Int) (cv:CV) (k:Ex->St->Option ρ):St->Option ρ:=fun s=>k .normal ((s.put tf (i64 c)).put ts (.x (.c cv)))
def DOI (o:Ora) (C:ao) (f:Nat) (F:AF):Prop:=∀ {P:Program},P.follows .mixedOrders=true->az P C->so P F.body->D9 P f F->∀ args res:List A,o.o args some=some res->Den P f args res
section
variable {α τ σ : Type} {R : RX α} {F : α -> Option τ} {res : τ -> List A} {C : ao} {f : Nat} {G : AF} (u : Nat)
theorem dOI (e:∀ a,aD C u G (R.can a)=ob (F a) fun t=>some (res t)):DOI (mkO R F res) C f G:=by
 intro P hmix hC ha hf args rs h
 obtain ⟨a,hw,hk⟩:=R.inv args _ rs h
 exact Den.weaken hw (D0 hmix hC hf ha ((e a).trans hk))
end
end Go.Eng
