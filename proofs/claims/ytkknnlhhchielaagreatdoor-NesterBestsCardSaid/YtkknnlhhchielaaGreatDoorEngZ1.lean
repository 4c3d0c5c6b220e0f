/-
 Several texts in one.
-/
import Derived.RangeFuncCalls
import Derived.RangeFuncLeaves
import Derived.RangeFuncRecord
import Derived.Test.YtkknnlhhchielaaGreatDoorEngQ
import Derived.Test.YtkknnlhhchielaaGreatDoorEngU
set_option linter.all false
/-
 A run that is taken up anew;the iterator of slices.Backward.
-/
namespace Go.Eng
open Go Go.RowKit
variable {df : DF}
section
variable {P : Program} {C : ao} {w0 : cD} {okA : Nat -> Prop} {μ : Nat -> Option Nat} {ok : Nat -> Prop} {H : List Blk} {w w' : World}
theorem MR.rebase (hm:MR w0 okA μ ok H w) (hh:∀ g,(ok g\/rg μ g)->w'.heap[g]?=w.heap[g]?) (hsz:w.heap.size<=w'.heap.size):MR ⟨w',rg μ⟩ ok μ ok H w'/\Ext μ ok w H μ ok w' H:=by
 have E:Ext μ ok w H μ ok w' H:=⟨fun g hg=>⟨hg,hh g (.inl hg)⟩,fun b hb=>hb,fun b cs hb=>.inr ⟨⟨cs,hb⟩,rfl⟩,fun b r n f hb=>.inr ⟨⟨f,hb⟩,rfl,fun g cur e hg hw=>⟨cur,e,by rw [hh g (.inr ⟨b,hg⟩)];exact hw,rfl⟩⟩,fun b sb n f hb=>.inr ⟨⟨n,f,hb⟩,rfl⟩,fun b κ n ln f hb=>.inr ⟨⟨f,hb⟩,rfl,fun i=>rfl⟩⟩
 refine ⟨⟨aU.refl w' _,fun g hg=>⟨qxZ (hm.okd g hg).1 hsz,.inl hg⟩,fun g hg=>hg,fun b g hg=>⟨.inr ⟨b,hg⟩,qxZ (hm.fresh b g hg).2.1 hsz,(hm.fresh b g hg).2.2⟩,hm.inj,fun b o ho=>E.blk rfl (fun _ _=>rfl) (fun k g _ hg=>hh g (.inr ⟨k,hg⟩)) (hm.blk b o ho),fun b g r n f _ _ hg=>⟨b,hg⟩⟩,E⟩
theorem MR.init (h:∀ g,okA g->g<w.heap.size):MR ⟨w,fun _=>False⟩ okA (fun _=>none) okA ([]:List Blk) w :=
 ⟨aU.refl w _,fun g hg=>⟨h g hg,.inl hg⟩,fun g hg=>hg,(fun b g hg=>by cases hg),(fun b b' g hg=>by cases hg),(fun b o hb=>by simp at hb),(fun b g r n f hb=>by simp at hb)⟩
end
end Go.Eng
/-
 The iterator of slices.Backward: what it does with its loop's body.
-/
namespace Go.Eng
open Go Go.RowKit
theorem jJ {t:Nat} {o:Operand} (h:o9 (.tmp t) o=true):o=.tmp t:=by
 unfold o9 at h
 split at h
 ·rename_i h1;cases h1;rw [qbZ h]
 ·rename_i h1;cases h1
 ·cases h
theorem Below.of_base {w w' : World} (h:aU ⟨w,fun _=>False⟩ w'):Below w.heap.size w w' :=
 ⟨⟨h.os,h.tape,h.output,h.size,fun k hk=>h.block k hk (fun q=>q)⟩,h.drawn⟩
theorem ER.weak {df:DF} {μ:Nat->Option Nat} {ok:Nat->Prop} {H:List Blk} {w:World} {env env' : List V} {a:Act} (h:ER df μ ok H w env a) (hl:env'.length=env.length)
  (hv:∀ (t:Nat) (v:V),env'[t]?=some v->v=V.u\/env[t]?=some v):ER df μ ok H w env' a:=by
 refine ⟨by rw [hl];exact h.size,fun t v ht=>?_,h.defers,h.glob⟩
 rcases hv t v ht with rfl | h1
 ·have hlt:t<a.tmps.size:=by
   have:=(qfZ.1 ht).1
   rw [hl] at this;rw [h.size];exact this
  exact ⟨a.tmps[t],by simp [hlt],trivial⟩
 ·exact h.env t v h1
section
variable {P : Program} {gf : FuncId} {tS tE tI tB : TypeId} {okI : Nat -> Prop} {kk : IntKind} {fl : Bool} {n : Nat} {g : Nat -> Nat -> CV} {l : Nat}
end
structure Out (w0:cD) (okA ok0:Nat->Prop) (W1:World) (l D:Nat) (μ:Nat->Option Nat) (ok:Nat->Prop) (W:World):Prop where
 below:aU w0 W
 own:∀ g,rg μ g->w0.w.heap.size<=g\/w0.own g
 oks:∀ g,ok g->okA g\/w0.w.heap.size<=g\/w0.own g
 okk:∀ g,ok0 g->ok g
 dis:∀ g,ok g->¬ rg μ g
 lt:∀ g,ok g->g<W.heap.size
 rlt:∀ g,rg μ g->g<W.heap.size
 size:W1.heap.size<=W.heap.size
 same:∀ g,ok0 g->W.heap[g]?=W1.heap[g]?
 nl:¬ ok l/\¬ rg μ l/\w0.w.heap.size<=l/\l<W.heap.size
 nD:¬ ok D/\¬ rg μ D/\w0.w.heap.size<=D/\D<W.heap.size
 hD:W.heap[D]?=some (.deferred (some []))
 ne:D≠l
section
variable {w0 : cD} {okA ok0 : Nat -> Prop} {W1 W : World} {l D : Nat} {μ : Nat -> Option Nat} {ok : Nat -> Prop}
theorem Out.run (h:Out w0 okA ok0 W1 l D μ ok W) {μ' : Nat->Option Nat} {ok' : Nat->Prop} {H:List Blk} {w' : World} (hm:MR ⟨W,rg μ⟩ ok μ' ok' H w') :
  Out w0 okA ok0 W1 l D μ' ok' w'/\w'.heap[l]?=W.heap[l]?:=by
 have hs:=h.below.size
 have hs' : W.heap.size<=w'.heap.size:=hm.below.size
 have hrg:∀ g,rg μ' g->(W.heap.size<=g\/rg μ g)/\g<w'.heap.size/\¬ ok' g:=fun g ⟨b,hb⟩=>hm.fresh b g hb
 have hok:∀ g,ok' g->g<w'.heap.size/\(ok g\/W.heap.size<=g\/rg μ g):=hm.okd
 have keepB:∀ g,g<W.heap.size->¬ rg μ g->w'.heap[g]?=W.heap[g]?:=fun g h1 h2=>hm.below.block g h1 h2
 have nn:∀ g,¬ ok g->¬ rg μ g->g<W.heap.size->¬ ok' g/\¬ rg μ' g:=fun g h1 h2 h3=>⟨fun k=>by
  rcases (hok g k).2 with q | q | q
  ·exact h1 q
  ·omega
  ·exact h2 q,fun k=>by
  rcases (hrg g k).1 with q | q
  ·omega
  ·exact h2 q⟩
 refine ⟨⟨aU.step h.below h.own hm.below,fun g hg=>?_,fun g hg=>?_,fun g hg=>hm.keep g (h.okk g hg),fun g hg k=>(hrg g k).2.2 hg,fun g hg=>(hok g hg).1,fun g hg=>(hrg g hg).2.1,Nat.le_trans h.size hs',fun g hg=>?_,?_,?_,?_,h.ne⟩,keepB l h.nl.2.2.2 h.nl.2.1⟩
 ·rcases (hrg g hg).1 with q | q
  ·exact .inl (Nat.le_trans hs q)
  ·exact h.own g q
 ·rcases (hok g hg).2 with q | q | q
  ·exact h.oks g q
  ·exact .inr (.inl (Nat.le_trans hs q))
  ·exact .inr (h.own g q)
 ·exact (keepB g (h.lt g (h.okk g hg)) (h.dis g (h.okk g hg))).trans (h.same g hg)
 ·exact ⟨(nn l h.nl.1 h.nl.2.1 h.nl.2.2.2).1,(nn l h.nl.1 h.nl.2.1 h.nl.2.2.2).2,h.nl.2.2.1,qxZ h.nl.2.2.2 hs'⟩
 ·exact ⟨(nn D h.nD.1 h.nD.2.1 h.nD.2.2.2).1,(nn D h.nD.1 h.nD.2.1 h.nD.2.2.2).2,h.nD.2.2.1,qxZ h.nD.2.2.2 hs'⟩
 ·exact (keepB D h.nD.2.2.2 h.nD.2.1).trans h.hD
theorem aU.putObj {w0:cD} {W:World} {l:Nat} {o:Obj} (h:aU w0 W) (hl:w0.w.heap.size<=l):aU w0 (W.putObj l o):=by
 refine ⟨h.os,h.tape,h.output,by rw [World.putObj_size];exact h.size,fun k hk ho=>?_,fun k ho cur e hc=>?_,h.drawn⟩
 ·rw [World.putObj_heap_other (by omega)];exact h.block k hk ho
 ·have hlt:k<w0.w.heap.size:=(qqZ.1 hc).1
  obtain ⟨cur',h1,h2⟩:=h.lent k ho cur e hc
  exact ⟨cur',by rw [World.putObj_heap_other (by omega)];exact h1,h2⟩
theorem Out.put (h:Out w0 okA ok0 W1 l D μ ok W) (o:Obj):Out w0 okA ok0 W1 l D μ ok (W.putObj l o)/\(W.putObj l o).heap[l]?=some o:=by
 refine ⟨⟨h.below.putObj h.nl.2.2.1,h.own,h.oks,h.okk,h.dis,fun g hg=>by rw [World.putObj_size];exact h.lt g hg,fun g hg=>by rw [World.putObj_size];exact h.rlt g hg,by rw [World.putObj_size];exact h.size,fun g hg=>?_,by rw [World.putObj_size];exact h.nl,by rw [World.putObj_size];exact h.nD,?_,h.ne⟩,World.putObj_heap_same h.nl.2.2.2⟩
 ·have:g≠l:=fun e=>h.nl.1 (e ▸ h.okk g hg)
  rw [World.putObj_heap_other this];exact h.same g hg
 ·rw [World.putObj_heap_other h.ne];exact h.hD
theorem Out.putS (h:Out w0 okA ok0 W1 l D μ ok W) (o:Obj):∀ g,(ok g\/rg μ g)->(W.putObj l o).heap[g]?=W.heap[g]?:=fun g hg=>by
 refine World.putObj_heap_other fun e=>?_
 subst e
 exact hg.elim h.nl.1 h.nl.2.1
theorem Out.mono (h:Out w0 okA ok0 W1 l D μ ok W) {W' : World} (hb:Below W.heap.size W W'):Out w0 okA ok0 W1 l D μ ok W'/\W'.heap[l]?=W.heap[l]?/\∀ g,(ok g\/rg μ g)->W'.heap[g]?=W.heap[g]?:=by
 have hk:∀ g,g<W.heap.size->W'.heap[g]?=W.heap[g]?:=fun g hg=>hb.block g hg
 have hs:=hb.size
 refine ⟨⟨h.below.trans (hb.mono h.below.size),h.own,h.oks,h.okk,h.dis,fun g hg=>qxZ (h.lt g hg) hs,fun g hg=>qxZ (h.rlt g hg) hs,Nat.le_trans h.size hs,fun g hg=>(hk g (h.lt g (h.okk g hg))).trans (h.same g hg),⟨h.nl.1,h.nl.2.1,h.nl.2.2.1,qxZ h.nl.2.2.2 hs⟩,⟨h.nD.1,h.nD.2.1,h.nD.2.2.1,qxZ h.nD.2.2.2 hs⟩,(hk D h.nD.2.2.2).trans h.hD,h.ne⟩,hk l h.nl.2.2.2,fun g hg=>?_⟩
 rcases hg with q | q
 ·exact hk g (h.lt g q)
 ·exact hk g (h.rlt g q)
end
noncomputable def oneO (f:FuncId) (as res:List A):ao :=
 ⟨fun f' as' {_} K=>open Classical in if f' = f/\as' = as then K res else none,fun f' as' {_} K=>by by_cases h:f' = f/\as' = as<;>simp [h],fun _ _ _ _ _=>none,fun _ _ _=>none,fun _ _ _ _ _=>none,fun _ _ _ _ {_} _=>none,fun _ _ _ _ {_} _=>rfl⟩
theorem Gx {P:Program} {f:FuncId} {as res:List A} (h:Den P f as res):az P (oneO f as res):=by
 refine ⟨fun f' as' res' h'=>?_,(fun _ _ _ _ _ _ h=>by cases h),(fun _ _ _ _ _ h=>by cases h),(fun _ _ _ _ _ _ _ h=>by cases h),(fun _ _ _ _ _ _ h=>by cases h)⟩
 have h' : (open Classical in if f' = f/\as' = as then some res else none)=some res':=h'
 split at h'
 ·rename_i hh
  cases h'
  rw [hh.1,hh.2];exact h
 ·cases h'
theorem Bw:∀ {keep:List (Nat × Nat × Nat)} {i b j:Nat},Bx i keep=some (b,j)->(i,b,j)∈keep
 | [],_,_,_,h=>by cases h
 | (t,b',j')::l,i,b,j,h=>by
  unfold Bx at h
  cases hq:Nat.beq t i with
  | true =>
   rw [hq] at h;cases h
   rw [qbZ hq];exact qmZ ..
  | false=>rw [hq] at h;exact qjZ _ (Bw h)
theorem DM {df:DF} {x:AC} (h:∀ q,q∈df.2->jN q.1 x=true):rG df x:=by
 induction x with
 | region id l na draw =>
  intro f hf q hq k
  have:=qiZ.1 (h q hq) f hf
  rw [k] at this
  simp at this
 | seq a ks b iha ihb=>exact ⟨iha fun q hq=>((qaZ _ _).mp (h q hq)).1,ihb fun q hq=>((qaZ _ _).mp (h q hq)).2⟩
 | cond o a b iha ihb=>exact ⟨iha fun q hq=>((qaZ _ _).mp (h q hq)).1,ihb fun q hq=>((qaZ _ _).mp (h q hq)).2⟩
 | block id a ih=>exact ih h
 | loop hs ks a ih=>exact ih h
 | ghost l a ih=>exact ih h
 | scope a ih=>exact ih h
 | iter=>exact ⟨fun f hf q hq k=>by
   have:=qiZ.1 ((qaZ _ _).mp (h q hq)).1 f hf
   rw [k] at this
   simp at this,fun q hq k=>by
   have:=((qaZ _ _).mp (h q hq)).2
   rw [k] at this
   simp at this⟩
 | _=>trivial
def mF (keep:List (Nat × Nat × Nat)) (T:Array Value):List (Nat × Value):=keep.filterMap fun q=>(T[q.1]?).map fun u=>(q.1,u)
theorem sG {keep:List (Nat × Nat × Nat)} {T:Array Value} {q:Nat × Value} (h:q∈mF keep T):(∃ b j,(q.1,b,j)∈keep)/\T[q.1]?=some q.2:=by
 unfold mF at h
 obtain ⟨⟨t,b,j⟩,hx,hy⟩:=List.mem_filterMap.1 h
 cases hT:T[t]? with
 | none=>simp [hT] at hy
 | some u =>
  simp [hT] at hy
  subst hy
  exact ⟨⟨b,j,hx⟩,hT⟩
theorem GA {keep:List (Nat × Nat × Nat)} {T:Array Value} {t b j:Nat} {u:Value} (h:(t,b,j)∈keep) (hT:T[t]?=some u):(t,u)∈mF keep T :=
 List.mem_filterMap.2 ⟨(t,b,j),h,by simp [hT]⟩
section
variable {ρ : Type} {P : Program} {C : ao} {w0 : cD} {okA : Nat -> Prop} {r : ρ} {fuel : Nat} {keep : List (Nat × Nat × Nat)} {tx p0 p1 : Nat} {X : AC} {kill : List Nat} {h0 : Nat} {kB : Ex -> St -> Option ρ} {T : Array Value}
def rk (C:ao) (fuel:Nat) (keep:List (Nat × Nat × Nat)) (tx p0 p1:Nat) (X:AC) (kill:List Nat) (h0:Nat) (kB:Ex->St->Option ρ) (j:Nat):Ex->St->Option ρ:=fun e st=>match e with
 | .normal=>dv (fun st k=>aS C fuel (.round keep tx p0 p1 X) st k) (fun s=>s.norm kill h0) j st kB
 | e=>kB e st
end
section
variable {ρ : Type} {P : Program} {C : ao} {w0 : cD} {okA ok0 : Nat -> Prop} {W1 : World} {l D : Nat} {r : ρ} {fuel : Nat} {keep : List (Nat × Nat × Nat)} {tx p0 p1 : Nat} {X : AC} {kill : List Nat} {h0 : Nat} {kB : Ex -> St -> Option ρ} {T : Array Value}
def RJ (C:ao) (fuel:Nat) (w0:cD) (okA ok0:Nat->Prop) (W1:World) (l D:Nat) (keep:List (Nat × Nat × Nat)) (tx p0 p1:Nat) (X:AC) (kill:List Nat) (h0:Nat) (kB:Ex->St->Option ρ) (T:Array Value) (rec:Loop) (cv:CV) (r:ρ) (k:Nat) (W:World):Prop :=
 ∃ j st μ ok,Out w0 okA ok0 W1 l D μ ok W/\W.heap[l]?=some (.loop rec)/\MR ⟨W,rg μ⟩ ok μ ok st.heap W/\ER ([],[]) μ ok st.heap W (eA st.env [p0,p1]) { tmps:=T,defers:=[] } /\
  st.env.getD tx .u=.x (.c cv)/\st.env.getD p0 .u=i64 (k:Int)/\aS C fuel (.round keep tx p0 p1 X) st (rk C fuel keep tx p0 p1 X kill h0 kB j)=some r
theorem RJ.world {rec:Loop} {cv:CV} {k:Nat} {W:World} (h:RJ C fuel w0 okA ok0 W1 l D keep tx p0 p1 X kill h0 kB T rec cv r k W):W1.heap.size<=W.heap.size/\∀ g,ok0 g->W.heap[g]?=W1.heap[g]?:=by
 obtain ⟨j,st,μ,ok,ho,_⟩:=h
 exact ⟨ho.size,ho.same⟩
theorem RJ.mono {rec:Loop} {cv:CV} {k:Nat} {W W' : World} (h:RJ C fuel w0 okA ok0 W1 l D keep tx p0 p1 X kill h0 kB T rec cv r k W) (hb:Below W.heap.size W W'):RJ C fuel w0 okA ok0 W1 l D keep tx p0 p1 X kill h0 kB T rec cv r k W':=by
 obtain ⟨j,st,μ,ok,ho,hl,hm,he,h1⟩:=h
 obtain ⟨ho',hl',hs⟩:=ho.mono hb
 obtain ⟨hm',E⟩:=hm.rebase hs hb.size
 exact ⟨j,st,μ,ok,ho',hl'.trans hl,hm',he.ext E,h1⟩
theorem Ri {f:FuncId} {ty:TypeId} {ts tf hb:Nat} {st:St} {cv cl:CV} (hx:st.env.getD ts .u=.x (.c cv)) :
  ca (oneO f [.v cv] [.v cl]) hb st [l7 ts tf f ty] some=some (st.put tf (.x (.c cl))):=by
 have e1:st.ev (.tmp ts)=.x (.c cv):=hx
 show lz (oneO f [.v cv] [.v cl]) f [st.ev (.tmp ts)] .freeze st (fun v st=>some (st.putO (some tf) v))=_
 rw [e1]
 show (oneO f [.v cv] [.v cl]).call f [.v cv] _=_
 have:∀ {K:List A->Option St},(oneO f [.v cv] [.v cl]).call f [.v cv] K=K [.v cl]:=fun {K}=>if_pos ⟨rfl,rfl⟩
 rw [this]
 rfl
theorem ER.rest {df:DF} {μ:Nat->Option Nat} {ok:Nat->Prop} {w:World} {a:Act}:∀ {sv:List (Nat × CV)} {st:St},ER df μ ok st.heap w st.env a->(∀ t c,(t,c)∈sv->∃ u,a.tmps[t]?=some u/\CR ok w c u)->ER df μ ok (st.rest sv).heap w (st.rest sv).env a
 | [],st,h,_=>h
 | (t,c)::l,st,h,hs=>by
  have h1:ER df μ ok (st.put t (.x (.c c))).heap w (st.put t (.x (.c c))).env a:=by
   refine ER.same (t:=t) (v:=.x (.c c)) h fun u hu=>?_
   obtain ⟨u',hu',hr⟩:=hs t c (qmZ ..)
   rw [hu] at hu';cases hu'
   exact hr
  exact ER.rest (sv:=l) (st:=st.put t (.x (.c c))) h1 fun t c hm=>hs t c (qjZ _ hm)
end
section
variable {ρ : Type} {P : Program} {C : ao} {w0 : cD} {okA : Nat -> Prop} {r : ρ} {fuel : Nat}
end
section
variable {α τ σ : Type} {R : RX α} {F : α -> Option τ} {res : τ -> List A} {C : ao} {f fb gf : Nat} {G : AF} (u : Nat)
end
end Go.Eng
