/-
 Several texts in one.
-/
import Derived.Orders
import Derived.Test.YtkknnlhhchielaaGreatDoorEngL
set_option linter.all false
namespace Go.Eng
open Go Go.RowKit
section
variable {ρ : Type} {C : ao} {hb : Nat} {st : St}
theorem eL {α β:Type} (c:Bool) (x y:Option α) (f:α->Option β):(bif c then x else y).bind f=bif c then x.bind f else y.bind f:=by cases c<;>rfl
theorem FK {st:St} {d:Nat} {x:Option Operand} {hi:Nat} {α β:Type} (k:Nat->Option α) (f:α->Option β) :
  (bnd st d x hi k).bind f=bnd st d x hi fun n=>(k n).bind f:=by
 unfold bnd
 cases x with
 | none=>rfl
 | some y =>
  dsimp only
  split
  ·rw [eL];rfl
  ·rfl
theorem CZ {f:FuncId} {as:List A} {α β:Type} (K:List A->Option α) (g:α->Option β):(C.call f as K).bind g=C.call f as fun res=>(K res).bind g:=by
 rw [C.nat f as K,C.nat f as fun res=>(K res).bind g,Option.bind_assoc]
theorem CM {f:FuncId} {bs:List Nat} {vs:List V} {H:List Blk} {α β:Type} (K:List A->List Blk->Option α) (g:α->Option β):(C.lend f bs vs H K).bind g=C.lend f bs vs H fun r h=>(K r h).bind g:=by
 rw [C.natL f bs vs H K,C.natL f bs vs H fun r h=>(K r h).bind g,Option.bind_assoc]
theorem lO (o:AOp) (k:V->St->Option ρ):aj C hb st o k=(aj C hb st o fun v s=>some (v,s)).bind fun p=>k p.1 p.2:=by
 cases o<;>simp only [aj,jO,lz,I3,N9]<;>(repeat' (first | rfl | (rw [Ks];congr 1;funext i) | (rw [eL]) | (rw [FK]) | (rw [CM];congr 1;funext res h) | (rw [CZ];congr 1;funext res) | split))
 all_goals (simp only [eL,FK,CZ,CM];first | rfl | simp)
end
inductive Eff where
 | none
 | set (b:Nat) (o:Blk)
 | app (b:Nat) (o:Blk)
def Eff.ap:Eff->St->St
 | .none,st=>st
 | .set b o,st=>st.setB b o
 | .app b o,st=>(st.drop b).setB b o
def dH.has (φ:dH) (b:Nat):Prop:=b∈φ.rd\/b∈φ.wr
def dH.names (φ:dH) (b:Nat):Prop:=φ.has b\/b∈φ.nm
structure tk (o:AOp) (φ:dH) (st st2:St):Prop where
 ev:∀ x∈o.erase.operands.toList,st2.ev x=st.ev x
 heap:∀ b,φ.has b->st2.heap[b]?=st.heap[b]?
def Eff.ok (φ:dH) (st:St):Eff->Prop
 | .none=>True
 | .set b o=>b∈φ.wr/\∀ x∈o.ids,φ.has x
 | .app b o=>b∈φ.wr/\(∀ x∈o.ids,φ.has x)/\(∀ (b' : Nat) (o' : Blk),st.heap[b']?=some o'->b∈o'.ids->b' ∈ φ.wr)/\b∈φ.dr
structure Loc (C:ao) (hb:Nat) (st:St) (o:AOp) (φ:dH) (v:V) (E:Eff):Prop where
 loc:∀ st2,tk o φ st st2->∀ {ρ:Type} (k:V->St->Option ρ),aj C hb st2 o k=k v (E.ap st2)
 eff:E.ok φ st
 vids:∀ x∈v.ids,φ.names x
 uids:∀ x∈o.erase.operands.toList,(st.ev x).known=true/\∀ b∈(st.ev x).ids,φ.names b
 cids:∀ b∈φ.wr,∀ x∈lA st.heap b,φ.has x
section
variable {ρ : Type} {C : ao} {hb : Nat} {st : St}
theorem Loc.of {o:AOp} {φ:dH} {v:V} {E:Eff} (h1:∀ st2,tk o φ st st2->∀ {ρ:Type} (k:V->St->Option ρ),aj C hb st2 o k=k v (E.ap st2)) (h2:E.ok φ st) (h3:∀ x∈v.ids,φ.has x)
  (h4:∀ x∈o.erase.operands.toList,(st.ev x).known=true/\∀ b∈(st.ev x).ids,φ.has b) (h5:∀ b∈φ.wr,∀ x∈lA st.heap b,φ.has x):Loc C hb st o φ v E :=
 ⟨h1,h2,fun x hx=>.inl (h3 x hx),fun x hx=>⟨(h4 x hx).1,fun b hb=>.inl ((h4 x hx).2 b hb)⟩,h5⟩
theorem J6 {vs:List V} {φ:dH} (h:QP vs=some φ):φ.wr = []/\(∀ v∈vs,v.known=true/\∀ b∈v.ids,b∈φ.nm):=by
 unfold QP at h
 cases hk:vs.all V.known with
 | false=>rw [hk] at h;cases h
 | true =>
  rw [hk] at h;cases h
  exact ⟨rfl,fun v hv=>⟨qiZ.1 hk v hv,fun b hb=>qyZ.2 ⟨_,rjZ.2 ⟨v,hv,rfl⟩,hb⟩⟩⟩
theorem jw {vs:List V} {φ:dH} (h:lq vs=some φ):φ.wr = []/\(∀ v∈vs,v.known=true/\∀ b∈v.ids,φ.has b)/\∀ b,φ.has b->∃ v∈vs,b∈v.ids:=by
 unfold lq at h
 cases hk:vs.all V.known with
 | false=>rw [hk] at h;cases h
 | true =>
  rw [hk] at h;cases h
  refine ⟨rfl,fun v hv=>⟨qiZ.1 hk v hv,fun b hb=>.inl (qyZ.2 ⟨_,rjZ.2 ⟨v,hv,rfl⟩,hb⟩)⟩,?_⟩
  rintro b (h | h)
  ·obtain ⟨l,hl,hb⟩:=qyZ.1 h
   obtain ⟨v,hv,rfl⟩:=rjZ.1 hl
   exact ⟨v,hv,hb⟩
  ·cases h
theorem Cv {b0:Nat} {vs:List V} {φ:dH} (h:Qj b0 vs=some φ):φ.wr = [b0]/\(∀ v∈vs,v.known=true/\∀ b∈v.ids,φ.has b):=by
 unfold Qj at h
 cases hk:vs.all V.known with
 | false=>rw [hk] at h;cases h
 | true =>
  rw [hk] at h;cases h
  exact ⟨rfl,fun v hv=>⟨qiZ.1 hk v hv,fun b hb=>.inl (qyZ.2 ⟨_,rjZ.2 ⟨v,hv,rfl⟩,hb⟩)⟩⟩
theorem Loc.quiet {o:AOp} {φ:dH} (hwr:φ.wr = []) (hst:∀ (st2:St) {ρ:Type} (k:V->St->Option ρ),aj C hb st2 o k=aj C hb st2 o fun v _=>k v st2)
  (heq:∀ st2,tk o φ st st2->∀ {ρ:Type} (k:V->Option ρ),aj C hb st2 o (fun v _=>k v)=aj C hb st o fun v _=>k v)
  (huids:∀ x∈o.erase.operands.toList,(st.ev x).known=true/\∀ b∈(st.ev x).ids,φ.has b)
  {k:V->St->Option ρ} {r:ρ} (h:aj C hb st o k=some r) (hv:∀ v s,aj C hb st o (fun v s=>some (v,s))=some (v,s)->∀ x∈v.ids,φ.has x):∃ v E,Loc C hb st o φ v E:=by
 rw [lO] at h
 cases hr:aj C hb st o (fun v s=>some (v,s)) with
 | none=>rw [hr] at h;cases h
 | some p =>
  obtain ⟨v,s⟩:=p
  refine ⟨v,.none,fun st2 ha ρ k=>?_,trivial,fun x hx=>.inl (hv v s hr x hx),fun x hx=>⟨(huids x hx).1,fun b hb=>.inl ((huids x hx).2 b hb)⟩,fun b hb=>by rw [hwr] at hb;cases hb⟩
  rw [hst st2 k,heq st2 ha (fun v=>k v st2),lO,hr]
  rfl
theorem A.toV_ids (y:A):y.toV.ids = []:=by
 cases y with
 | v x=>rfl
 | agg l =>
  simp only [A.toV,V.ids]
  induction l with
  | nil=>rfl
  | cons c l ih=>simpa [V0.ids] using ih
theorem vy {l:List V0} {off:Nat} {m:Option Nat} {v:V} (h:rN l off m=some v):∀ x∈v.ids,x∈(V.agg l).ids:=by
 intro x hx
 unfold rN at h
 cases m with
 | none =>
  dsimp only at h
  split at h
  ·rename_i y hy
   cases h
   exact qyZ.2 ⟨_,rjZ.2 ⟨y,qrZ hy,rfl⟩,hx⟩
  ·cases h
 | some m =>
  obtain ⟨_,h2⟩:=ah h
  cases h2
  obtain ⟨s,hs,hx⟩:=qyZ.1 hx
  obtain ⟨y,hy,rfl⟩:=rjZ.1 hs
  exact qyZ.2 ⟨_,rjZ.2 ⟨y,List.mem_of_mem_drop (List.mem_of_mem_take hy),rfl⟩,hx⟩
theorem lQ {v:V} {l:List V0} (h:cellsOf v=some l):∀ x,x∈(l.map V0.ids).flatten↔x∈v.ids:=by
 intro x
 cases v with
 | u=>cases h
 | undef=>cases h
 | tup l=>cases h
 | x y=>cases h;simp [V.ids]
 | agg l=>cases h;rfl
theorem Ba {α:Type} {row l:List α} {off:Nat} {x:α} (h:x∈splice row off l):x∈row\/x∈l:=by
 unfold splice at h
 rcases List.mem_append.1 h with h | h
 ·rcases List.mem_append.1 h with h | h
  ·exact .inl (List.mem_of_mem_take h)
  ·exact .inr h
 ·exact .inl (List.mem_of_mem_drop h)
theorem BH {place:Nat->Option (Nat × Nat)}:∀ {ps:List (Nat × V)} {zs l:List V0},e8 place zs ps=some l->∀ x∈(l.map V0.ids).flatten,x∈(zs.map V0.ids).flatten\/∃ p∈ps,x∈p.2.ids
 | [],zs,l,h,x,hx=>by cases h;exact .inl hx
 | (i,v)::ps,zs,l,h,x,hx=>by
  unfold e8 at h
  split at h
  ·cases h
  ·split at h
   ·rename_i l' hl
    obtain ⟨_,h⟩:=ah h
    rcases BH h x hx with h1 | ⟨p,hp,h1⟩
    ·obtain ⟨s,hs,hx'⟩:=qyZ.1 h1
     obtain ⟨y,hy,rfl⟩:=rjZ.1 hs
     rcases Ba hy with hy | hy
     ·exact .inl (qyZ.2 ⟨_,rjZ.2 ⟨y,hy,rfl⟩,hx'⟩)
     ·exact .inr ⟨_,qmZ ..,(lQ hl x).1 (qyZ.2 ⟨_,rjZ.2 ⟨y,hy,rfl⟩,hx'⟩)⟩
    ·exact .inr ⟨p,qjZ _ hp,h1⟩
   ·cases h
end
section
variable {ρ : Type} {C : ao} {hb : Nat} {st : St} {φ : dH} {k : V -> St -> Option ρ} {r : ρ}
theorem Loc.closed {o:AOp} {vs:List V} (hf:lq vs=some φ) (hsub:∀ x∈o.erase.operands.toList,st.ev x∈vs)
  (hst:∀ (st2:St) {ρ:Type} (k:V->St->Option ρ),aj C hb st2 o k=aj C hb st2 o fun v _=>k v st2)
  (heq:∀ st2,tk o φ st st2->∀ {ρ:Type} (k:V->Option ρ),aj C hb st2 o (fun v _=>k v)=aj C hb st o fun v _=>k v)
  (h:aj C hb st o k=some r) (hv:∀ v s,aj C hb st o (fun v s=>some (v,s))=some (v,s)->∀ x∈v.ids,∃ u∈vs,x∈u.ids):∃ v E,Loc C hb st o φ v E:=by
 have hsp:=jw hf
 refine Loc.quiet hsp.1 hst heq (fun x hx=>hsp.2.1 _ (hsub x hx)) h (fun v s hh x hx=>?_)
 obtain ⟨u,hu,hxu⟩:=hv v s hh x hx
 exact (hsp.2.1 u hu).2 x hxu
theorem Fd {x:Operand} {o:AOp} (ho:o=.move x\/o=.assign x) (hf:dh hb st o=some φ) (h:aj C hb st o k=some r):∃ v E,Loc C hb st o φ v E:=by
 rcases ho with rfl | rfl
 all_goals
  have hsp:=J6 (vs:=[st.ev x]) hf
  refine ⟨st.ev x,.none,fun st2 ha ρ k=>?_,trivial,fun y hy=>.inr ((hsp.2 _ (qzZ.2 rfl)).2 y hy),fun y hy=>?_,fun b hb=>by rw [hsp.1] at hb;cases hb⟩
  ·simp only [aj,ha.ev x (by simp [AOp.erase,Op.operands])];rfl
  ·have hyx:y=x:=by simpa [AOp.erase,Op.operands] using hy
   rw [hyx]
   exact ⟨(hsp.2 _ (qzZ.2 rfl)).1,fun b hb=>.inr ((hsp.2 _ (qzZ.2 rfl)).2 b hb)⟩
theorem N1 {c x y:Operand} (hf:dh hb st (.pick c x y)=some φ) (h:aj C hb st (.pick c x y) k=some r):∃ v E,Loc C hb st (.pick c x y) φ v E:=by
 refine Loc.closed (vs:=[st.ev c,st.ev x,st.ev y]) hf (by simp [AOp.erase,Op.operands]) (fun st2 ρ k=>rfl) (fun st2 ha ρ k=>?_) h (fun v s hh z hz=>?_)
 ·simp only [aj,ha.ev c (by simp [AOp.erase,Op.operands]),ha.ev x (by simp [AOp.erase,Op.operands]),ha.ev y (by simp [AOp.erase,Op.operands])]
 ·simp only [aj] at hh
  split at hh
  ·rename_i t ht
   cases t
   ·simp only [cond_false,rbZ,Prod.mk.injEq] at hh
    exact ⟨st.ev y,by simp,hh.1 ▸ hz⟩
   ·simp only [cond_true,rbZ,Prod.mk.injEq] at hh
    exact ⟨st.ev x,by simp,hh.1 ▸ hz⟩
  ·cases hh
theorem Ko {op:BinOp} {kd:IntKind} {x y:Int} {v:V} (h:Fn op kd x y=some v):v.ids = []:=by
 unfold Fn at h
 split at h<;>first | (cases h;rfl) | cases h
theorem JO {op:BinOp} {x y:ByteArray} {v:V} (h:Ep op x y=some v):v.ids = []:=by
 unfold Ep at h
 split at h<;>first | (cases h;rfl) | cases h
theorem tV {α:Type} {c:Bool} {x:Option α} {y:α} (h:(bif c then none else x)=some y):x=some y:=by
 cases c<;>simp_all
theorem KC {op:BinOp} {t yt:TypeId} {x y:Operand} {v:V} {s:St} (hh:aj C hb st (.binOp op t x y yt) (fun v s=>some (v,s))=some (v,s)):v.ids = []:=by
 simp only [aj] at hh
 split at hh
 ·obtain ⟨_,hh⟩:=ah hh
  split at hh
  ·have h1:=tV hh;cases h1;rfl
  ·have h1:=tV hh;cases h1;rfl
  ·obtain ⟨_,h1⟩:=ah hh;cases h1;rfl
  ·obtain ⟨_,h1⟩:=ah hh;cases h1;rfl
  ·split at hh
   ·rename_i v' hv;cases hh;exact Ko hv
   ·cases hh
 ·split at hh
  ·rename_i v' hv;cases hh;exact JO hv
  ·cases hh
 ·cases hh
theorem ex {v:V} {vs:List V} (h:v.ids = []):∀ x∈v.ids,∃ u∈vs,x∈u.ids:=by
 intro x hx;rw [h] at hx;cases hx
theorem Kh {op:BinOp} {t yt:TypeId} {x y:Operand} (hf:dh hb st (.binOp op t x y yt)=some φ) (h:aj C hb st (.binOp op t x y yt) k=some r):∃ v E,Loc C hb st (.binOp op t x y yt) φ v E:=by
 refine Loc.closed (vs:=[st.ev x,st.ev y]) hf (by simp [AOp.erase,Op.operands]) (fun st2 ρ k=>rfl) (fun st2 ha ρ k=>?_) h (fun v s hh=>ex (KC hh))
 simp only [aj,ha.ev x (by simp [AOp.erase,Op.operands]),ha.ev y (by simp [AOp.erase,Op.operands])]
theorem QW {neg:Bool} {rr:Kd} {t yt:TypeId} {x y:Operand} (hf:dh hb st (.eqA neg rr t x y yt)=some φ) (h:aj C hb st (.eqA neg rr t x y yt) k=some r):∃ v E,Loc C hb st (.eqA neg rr t x y yt) φ v E:=by
 refine Loc.closed (vs:=[st.ev x,st.ev y]) hf (by simp [AOp.erase,Op.operands]) (fun st2 ρ k=>rfl) (fun st2 ha ρ k=>?_) h (fun v s hh=>ex ?_)
 ·simp only [aj,ha.ev x (by simp [AOp.erase,Op.operands]),ha.ev y (by simp [AOp.erase,Op.operands])]
 ·simp only [aj] at hh
  split at hh
  ·split at hh
   ·cases hh;rfl
   ·cases hh
  ·cases hh
theorem QV {neg:Bool} {t yt:TypeId} {x y:Operand} (hf:dh hb st (.eqB neg t x y yt)=some φ) (h:aj C hb st (.eqB neg t x y yt) k=some r):∃ v E,Loc C hb st (.eqB neg t x y yt) φ v E:=by
 refine Loc.closed (vs:=[st.ev x,st.ev y]) hf (by simp [AOp.erase,Op.operands]) (fun st2 ρ k=>rfl) (fun st2 ha ρ k=>?_) h (fun v s hh=>ex ?_)
 ·simp only [aj,ha.ev x (by simp [AOp.erase,Op.operands]),ha.ev y (by simp [AOp.erase,Op.operands])]
 ·simp only [aj] at hh
  split at hh
  ·cases hh;rfl
  ·cases hh
theorem N0 {op:UnOp} {t:TypeId} {x:Operand} (hf:dh hb st (.unOp op t x)=some φ) (h:aj C hb st (.unOp op t x) k=some r):∃ v E,Loc C hb st (.unOp op t x) φ v E:=by
 refine Loc.closed (vs:=[st.ev x]) hf (by simp [AOp.erase,Op.operands]) (fun st2 ρ k=>rfl) (fun st2 ha ρ k=>?_) h (fun v s hh=>ex ?_)
 ·simp only [aj,ha.ev x (by simp [AOp.erase,Op.operands])]
 ·simp only [aj] at hh
  split at hh
  ·cases hh;rfl
  ·cases hh;rfl
  ·cases hh
theorem Fg {src dst:TypeId} {kd:IntKind} {x:Operand} (hf:dh hb st (.convert src dst kd x)=some φ) (h:aj C hb st (.convert src dst kd x) k=some r):∃ v E,Loc C hb st (.convert src dst kd x) φ v E:=by
 refine Loc.closed (vs:=[st.ev x]) hf (by simp [AOp.erase,Op.operands]) (fun st2 ρ k=>rfl) (fun st2 ha ρ k=>?_) h (fun v s hh=>ex ?_)
 ·simp only [aj,ha.ev x (by simp [AOp.erase,Op.operands])]
 ·simp only [aj] at hh
  split at hh
  ·cases hh;rfl
  ·cases hh
theorem Ff {x:Operand} {n:Nat} (hf:dh hb st (.extract x n)=some φ) (h:aj C hb st (.extract x n) k=some r):∃ v E,Loc C hb st (.extract x n) φ v E:=by
 refine Loc.closed (vs:=[st.ev x]) hf (by simp [AOp.erase,Op.operands]) (fun st2 ρ k=>rfl) (fun st2 ha ρ k=>?_) h (fun v s hh=>ex ?_)
 ·simp only [aj,ha.ev x (by simp [AOp.erase,Op.operands])]
 ·simp only [aj] at hh
  split at hh
  ·split at hh
   ·cases hh;exact A.toV_ids _
   ·cases hh
  ·cases hh
theorem GD {t:TypeId} {x i:Operand} (hf:dh hb st (.indexS t x i)=some φ) (h:aj C hb st (.indexS t x i) k=some r):∃ v E,Loc C hb st (.indexS t x i) φ v E:=by
 have h:none=some r:=h
 cases h
theorem Wh {mx:Bool} {args:List Operand} {ts:List TypeId} (hf:dh hb st (.mm mx args ts)=some φ) (h:aj C hb st (.mm mx args ts) k=some r):∃ v E,Loc C hb st (.mm mx args ts) φ v E:=by
 have hops:(AOp.mm mx args ts).erase.operands.toList=args:=by simp [AOp.erase,Op.operands,Call.operands]
 refine Loc.closed (vs:=args.map st.ev) hf (by rw [hops];exact fun x hx=>rjZ.2 ⟨x,hx,rfl⟩) (fun st2 ρ k=>rfl) (fun st2 ha ρ k=>?_) h (fun v s hh=>ex ?_)
 ·have:args.map st2.ev=args.map st.ev:=List.map_congr_left (fun x hx=>ha.ev x (by rw [hops];exact hx))
  simp only [aj,this]
 ·simp only [aj] at hh
  split at hh
  ·split at hh
   ·cases hh;rfl
   ·cases hh
  ·cases hh
theorem Kc {t:TypeId} {x:Operand} {fi off:Nat} {m:Option Nat} (hf:dh hb st (.field t x fi off m)=some φ) (h:aj C hb st (.field t x fi off m) k=some r):∃ v E,Loc C hb st (.field t x fi off m) φ v E:=by
 refine Loc.closed (vs:=[st.ev x]) hf (by simp [AOp.erase,Op.operands]) (fun st2 ρ k=>rfl) (fun st2 ha ρ k=>?_) h (fun v s hh=>?_)
 ·simp only [aj,ha.ev x (by simp [AOp.erase,Op.operands])]
 ·simp only [aj] at hh
  split at hh
  ·rename_i l hl
   split at hh
   ·rename_i v' hv
    cases hh
    exact fun z hz=>⟨st.ev x,by simp,by rw [hl];exact vy hv z hz⟩
   ·cases hh
  ·cases hh
theorem Kb {t e:TypeId} {ln esz:Nat} {m:Option Nat} {x i:Operand} (hf:dh hb st (.index t e ln esz m x i)=some φ) (h:aj C hb st (.index t e ln esz m x i) k=some r):∃ v E,Loc C hb st (.index t e ln esz m x i) φ v E:=by
 refine Loc.closed (vs:=[st.ev x,st.ev i]) hf (by simp [AOp.erase,Op.operands]) (fun st2 ρ k=>rfl) (fun st2 ha ρ k=>?_) h (fun v s hh=>?_)
 ·simp only [aj,ha.ev x (by simp [AOp.erase,Op.operands]),ha.ev i (by simp [AOp.erase,Op.operands])]
 ·simp only [aj] at hh
  split at hh
  ·split at hh
   ·rename_i l hl
    have hh:=eY hh
    obtain ⟨_,hh⟩:=ah hh
    split at hh
    ·rename_i v' hv
     cases hh
     exact fun z hz=>⟨st.ev x,by simp,by rw [hl];exact vy hv z hz⟩
    ·cases hh
   ·cases hh
  ·cases hh
theorem Cm {t:TypeId} {x:Operand} {fi off:Nat} (hf:dh hb st (.fieldAddr t x fi off)=some φ) (h:aj C hb st (.fieldAddr t x fi off) k=some r):∃ v E,Loc C hb st (.fieldAddr t x fi off) φ v E:=by
 have hsp:=jw hf
 have hids:=(hsp.2.1 (st.ev x) (by simp)).2
 refine Loc.closed (vs:=[st.ev x]) hf (by simp [AOp.erase,Op.operands]) (fun st2 ρ k=>rfl) (fun st2 ha ρ k=>?_) h (fun v s hh=>?_)
 ·simp only [aj,ha.ev x (by simp [AOp.erase,Op.operands])]
  split
  ·rename_i b j hx
   have:=ha.heap b (hids b (by rw [hx];simp [V.ids,V0.ids]))
   simp only [jZ,this]
  ·rename_i b i j hx
   have:=ha.heap b (hids b (by rw [hx];simp [V.ids,V0.ids]))
   simp only [j5,this]
  ·rfl
  ·rfl
 ·simp only [aj] at hh
  split at hh
  ·rename_i b j hx
   obtain ⟨_,hh⟩:=ah hh
   cases hh
   exact fun z hz=>⟨st.ev x,by simp,by rw [hx];exact hz⟩
  ·rename_i b i j hx
   obtain ⟨_,hh⟩:=ah hh
   cases hh
   exact fun z hz=>⟨st.ev x,by simp,by rw [hx];exact hz⟩
  ·cases hh;exact ex rfl
  ·cases hh
theorem DR {x:Operand} (hf:dh hb st (.nilCheck x)=some φ) (h:aj C hb st (.nilCheck x) k=some r):∃ v E,Loc C hb st (.nilCheck x) φ v E:=by
 have hsp:=jw hf
 have hids:=(hsp.2.1 (st.ev x) (by simp)).2
 refine Loc.closed (vs:=[st.ev x]) hf (by simp [AOp.erase,Op.operands]) (fun st2 ρ k=>rfl) (fun st2 ha ρ k=>?_) h (fun v s hh=>?_)
 ·simp only [aj,ha.ev x (by simp [AOp.erase,Op.operands])]
  split
  ·rename_i b j hx
   have:=ha.heap b (hids b (by rw [hx];simp [V.ids,V0.ids]))
   simp only [jZ,this]
  ·rfl
  ·rfl
 ·simp only [aj] at hh
  split at hh
  ·rename_i b j hx
   obtain ⟨_,hh⟩:=ah hh
   cases hh
   exact fun z hz=>⟨st.ev x,by simp,by rw [hx];exact hz⟩
  ·cases hh;exact ex rfl
  ·cases hh
theorem Cl {t e:TypeId} {esz:Nat} {x i:Operand} (hf:dh hb st (.indexAddr t e esz x i)=some φ) (h:aj C hb st (.indexAddr t e esz x i) k=some r):∃ v E,Loc C hb st (.indexAddr t e esz x i) φ v E:=by
 have hsp:=jw hf
 have hids:=(hsp.2.1 (st.ev x) (by simp)).2
 refine Loc.closed (vs:=[st.ev x,st.ev i]) hf (by simp [AOp.erase,Op.operands]) (fun st2 ρ k=>rfl) (fun st2 ha ρ k=>?_) h (fun v s hh=>?_)
 ·simp only [aj,ha.ev x (by simp [AOp.erase,Op.operands]),ha.ev i (by simp [AOp.erase,Op.operands])]
  split
  ·split
   ·rfl
   ·rename_i b off len hx
    have:=ha.heap b (hids b (by rw [hx];simp [V.ids,V0.ids]))
    simp only [this]
   ·rename_i b i' hx
    have:=ha.heap b (hids b (by rw [hx];simp [V.ids,V0.ids]))
    simp only [this]
   ·rfl
  ·rfl
 ·simp only [aj] at hh
  split at hh
  ·split at hh
   ·obtain ⟨_,hh⟩:=ah hh
    obtain ⟨_,hh⟩:=ah hh
    cases hh;exact ex rfl
   ·rename_i b off len hx
    split at hh
    ·obtain ⟨_,hh⟩:=ah hh
     obtain ⟨_,hh⟩:=ah hh
     cases hh
     exact fun z hz=>⟨st.ev x,by simp,by rw [hx];exact hz⟩
    ·obtain ⟨_,hh⟩:=ah hh
     obtain ⟨_,hh⟩:=ah hh
     cases hh
     exact fun z hz=>⟨st.ev x,by simp,by rw [hx];exact hz⟩
    ·cases hh
   ·rename_i b i' hx
    split at hh
    ·obtain ⟨_,hh⟩:=ah hh
     obtain ⟨_,hh⟩:=ah hh
     cases hh
     exact fun z hz=>⟨st.ev x,by simp,by rw [hx];exact hz⟩
    ·cases hh
   ·cases hh
  ·cases hh
theorem Bu {t e:TypeId} {ln esz:Nat} {x i:Operand} (hf:dh hb st (.indexAddrA t e ln esz x i)=some φ) (h:aj C hb st (.indexAddrA t e ln esz x i) k=some r):∃ v E,Loc C hb st (.indexAddrA t e ln esz x i) φ v E:=by
 have hsp:=jw hf
 have hids:=(hsp.2.1 (st.ev x) (by simp)).2
 refine Loc.closed (vs:=[st.ev x,st.ev i]) hf (by simp [AOp.erase,Op.operands]) (fun st2 ρ k=>rfl) (fun st2 ha ρ k=>?_) h (fun v s hh=>?_)
 ·simp only [aj,ha.ev x (by simp [AOp.erase,Op.operands]),ha.ev i (by simp [AOp.erase,Op.operands])]
  split
  ·split
   ·rename_i b j hx
    have:=ha.heap b (hids b (by rw [hx];simp [V.ids,V0.ids]))
    simp only [jZ,this]
   ·rename_i b i' j hx
    have:=ha.heap b (hids b (by rw [hx];simp [V.ids,V0.ids]))
    simp only [j5,this]
   ·rfl
   ·rfl
  ·rfl
 ·simp only [aj] at hh
  split at hh
  ·split at hh
   ·rename_i b j hx
    have hh:=eY hh
    obtain ⟨_,hh⟩:=ah hh
    cases hh
    exact fun z hz=>⟨st.ev x,by simp,by rw [hx];exact hz⟩
   ·rename_i b i' j hx
    have hh:=eY hh
    obtain ⟨_,hh⟩:=ah hh
    cases hh
    exact fun z hz=>⟨st.ev x,by simp,by rw [hx];exact hz⟩
   ·have hh:=eY hh
    obtain ⟨_,hh⟩:=ah hh
    cases hh;exact ex rfl
   ·cases hh
  ·cases hh
theorem vM {st st2:St} {d:Nat} {o:Option Operand} {hi:Nat} {α:Type} {f:Nat->Option α} (h:∀ y,o=some y->st2.ev y=st.ev y):bnd st2 d o hi f=bnd st d o hi f:=by
 unfold bnd
 cases o with
 | none=>rfl
 | some y=>dsimp only;rw [h y rfl]
theorem BO {st:St} {d:Nat} {o:Option Operand} {hi:Nat} {α:Type} {f:Nat->Option α} {r:α} (h:bnd st d o hi f=some r):∃ n,f n=some r:=by
 unfold bnd at h
 cases o with
 | none=>exact ⟨_,h⟩
 | some y =>
  dsimp only at h
  split at h
  ·obtain ⟨_,h⟩:=ah h;exact ⟨_,h⟩
  ·cases h
theorem J9 {t e:TypeId} {esz:Nat} {x:Operand} {lo hi mx:Option Operand} (hf:dh hb st (.slice t e esz x lo hi mx)=some φ) (h:aj C hb st (.slice t e esz x lo hi mx) k=some r):∃ v E,Loc C hb st (.slice t e esz x lo hi mx) φ v E:=by
 have hsp:=jw hf
 have hids:=(hsp.2.1 (st.ev x) (by simp)).2
 have hops:∀ y,y∈(AOp.slice t e esz x lo hi mx).erase.operands.toList↔(y=x\/lo=some y\/hi=some y\/mx=some y):=by
  intro y
  cases lo<;>cases hi<;>cases mx<;>simp [AOp.erase,Op.operands,eq_comm]
 refine Loc.closed (vs:=st.ev x::((lo.toList ++ hi.toList ++ mx.toList).map st.ev)) hf (fun y hy=>?_) (fun st2 ρ k=>rfl) (fun st2 ha ρ k=>?_) h (fun v s hh=>?_)
 ·rcases (hops y).1 hy with rfl | rfl | rfl | rfl
  ·exact qmZ
  ·exact qjZ _ (rjZ.2 ⟨y,by simp,rfl⟩)
  ·exact qjZ _ (rjZ.2 ⟨y,by simp,rfl⟩)
  ·exact qjZ _ (rjZ.2 ⟨y,by simp,rfl⟩)
 ·have hx:st2.ev x=st.ev x:=ha.ev x ((hops x).2 (.inl rfl))
  have bl:∀ {α:Type} (d n:Nat) (f:Nat->Option α),bnd st2 d lo n f=bnd st d lo n f:=fun d n f=>vM fun y hy=>ha.ev y ((hops y).2 (.inr (.inl hy)))
  have bh:∀ {α:Type} (d n:Nat) (f:Nat->Option α),bnd st2 d hi n f=bnd st d hi n f:=fun d n f=>vM fun y hy=>ha.ev y ((hops y).2 (.inr (.inr (.inl hy))))
  have bm:∀ {α:Type} (d n:Nat) (f:Nat->Option α),bnd st2 d mx n f=bnd st d mx n f:=fun d n f=>vM fun y hy=>ha.ev y ((hops y).2 (.inr (.inr (.inr hy))))
  simp only [aj,hx,bl,bh,bm]
  split
  ·rfl
  ·rename_i b off len hxv
   have:=ha.heap b (hids b (by rw [hxv];simp [V.ids,V0.ids]))
   simp only [this]
  ·rfl
 ·simp only [aj] at hh
  split at hh
  ·obtain ⟨_,hh⟩:=ah hh
   obtain ⟨_,hh⟩:=BO hh
   obtain ⟨_,hh⟩:=BO hh
   obtain ⟨_,hh⟩:=BO hh
   cases hh;exact ex rfl
  ·rename_i b off len hxv
   split at hh
   ·obtain ⟨_,hh⟩:=ah hh
    obtain ⟨_,hh⟩:=BO hh
    obtain ⟨_,hh⟩:=BO hh
    cases hh
    exact fun z hz=>⟨st.ev x,by simp,by rw [hxv];exact hz⟩
   ·cases hh
  ·cases hh
theorem GB {t:TypeId} {x:Operand} {lo hi:Option Operand} (hf:dh hb st (.sliceS t x lo hi)=some φ) (h:aj C hb st (.sliceS t x lo hi) k=some r):∃ v E,Loc C hb st (.sliceS t x lo hi) φ v E:=by
 have h:none=some r:=h
 cases h
theorem Bt {t e:TypeId} {ln esz:Nat} {x i:Operand} (hf:dh hb st (.indexAddrR t e ln esz x i)=some φ) (h:aj C hb st (.indexAddrR t e ln esz x i) k=some r):∃ v E,Loc C hb st (.indexAddrR t e ln esz x i) φ v E:=by
 have h:none=some r:=h
 cases h
theorem QU {t:TypeId} {str:Bool} {x:Operand} (hf:dh hb st (.len t str x)=some φ) (h:aj C hb st (.len t str x) k=some r):∃ v E,Loc C hb st (.len t str x) φ v E:=by
 have hsp:=jw hf
 have hids:=(hsp.2.1 (st.ev x) (by simp)).2
 refine Loc.closed (vs:=[st.ev x]) hf (by simp [AOp.erase,Op.operands,Call.operands]) (fun st2 ρ k=>rfl) (fun st2 ha ρ k=>?_) h (fun v s hh=>ex ?_)
 ·simp only [aj,ha.ev x (by simp [AOp.erase,Op.operands,Call.operands])]
  split
  ·rfl
  ·rename_i b off len hx
   have:=ha.heap b (hids b (by rw [hx];simp [V.ids,V0.ids]))
   simp only [j5,this]
  ·rename_i b i hx
   have:=ha.heap b (hids b (by rw [hx];simp [V.ids,V0.ids]))
   simp only [this]
  ·rfl
  ·rfl
 ·simp only [aj] at hh
  split at hh
  ·have:=tV hh;cases this;rfl
  ·obtain ⟨_,hh⟩:=ah hh;cases hh;rfl
  ·split at hh
   ·have:=tV hh;cases this;rfl
   ·cases hh
  ·obtain ⟨_,hh⟩:=ah hh;cases hh;rfl
  ·cases hh
theorem Kg {t:TypeId} {zs:List V0} {pl:List (Nat × Nat)} {esz:Nat} {parts:List (Nat × Operand)} (hf:dh hb st (.build t zs pl esz parts)=some φ) (h:aj C hb st (.build t zs pl esz parts) k=some r):∃ v E,Loc C hb st (.build t zs pl esz parts) φ v E:=by
 unfold dh at hf
 obtain ⟨hz,hf⟩:=ah hf
 have hops:(AOp.build t zs pl esz parts).erase.operands.toList=parts.map (·.2):=by simp [AOp.erase,Op.operands]
 refine Loc.closed (vs:=parts.map fun p=>st.ev p.2) hf (by
  rw [hops]
  intro x hx
  obtain ⟨p,hp,rfl⟩:=rjZ.1 hx
  exact rjZ.2 ⟨p,hp,rfl⟩) (fun st2 ρ k=>rfl) (fun st2 ha ρ k=>?_) h (fun v s hh=>?_)
 ·have:(parts.map fun p=>(p.1,st2.ev p.2))=parts.map fun p=>(p.1,st.ev p.2):=List.map_congr_left (fun p hp=>by rw [ha.ev p.2 (by rw [hops];exact rjZ.2 ⟨p,hp,rfl⟩)])
  simp only [aj,this]
 ·simp only [aj] at hh
  split at hh
  ·rename_i l hl
   cases hh
   intro z hz'
   rcases BH hl z hz' with h1 | ⟨p,hp,h1⟩
   ·have:(zs.map V0.ids).flatten = []:=by simpa using hz
    rw [this] at h1;cases h1
   ·obtain ⟨q,hq,rfl⟩:=rjZ.1 hp
    exact ⟨st.ev q.2,rjZ.2 ⟨q,hq,rfl⟩,h1⟩
  ·cases hh
end
section
variable {ρ : Type} {C : ao} {hb : Nat} {st : St} {φ : dH} {k : V -> St -> Option ρ} {r : ρ}
theorem v8 {rr:Kd} {g:Nat->CV} {j:Nat} {m:Option Nat} {v:V} (h:ri rr g j m=some v):v.ids = []:=by
 unfold ri at h
 cases m with
 | none=>obtain ⟨_,h⟩:=ah h;cases h;rfl
 | some m =>
  obtain ⟨_,h⟩:=ah h
  cases h
  simp only [V.ids,List.map_map]
  apply List.flatten_eq_nil_iff.2
  intro l hl
  obtain ⟨t,_,rfl⟩:=rjZ.1 hl
  rfl
theorem dS {H:List Blk} {b:Nat} {o:Blk} (h:H[b]?=some o):lA H b=o.ids:=by simp [lA,h]
theorem N4 {t:TypeId} {m:Option Nat} {x:Operand} (hf:dh hb st (.load t m x)=some φ) (h:aj C hb st (.load t m x) k=some r):∃ v E,Loc C hb st (.load t m x) φ v E:=by
 have hops:(AOp.load t m x).erase.operands.toList = [x]:=rfl
 unfold dh at hf
 dsimp only at hf
 split at hf
 ·rename_i b j hx
  cases hf
  refine Loc.quiet rfl (fun st2 ρ k=>rfl) (fun st2 ha ρ k=>?_) ?_ h (fun v s hh=>?_)
  ·have e1:=ha.ev x (by rw [hops];simp)
   have e2:=ha.heap b (.inl (by simp))
   simp only [aj,e1,hx,e2]
  ·rw [hops]
   intro y hy
   simp only [qzZ] at hy
   subst hy
   rw [hx]
   exact ⟨rfl,fun b' hb'=>.inl (by simp [V.ids,V0.ids] at hb';simp [hb'])⟩
  ·simp only [aj,hx] at hh
   split at hh
   ·rename_i cells hq
    split at hh
    ·rename_i v' hv
     cases hh
     intro z hz
     exact .inl (qjZ _ (by rw [dS hq];exact vy hv z hz))
    ·cases hh
   ·cases hh
 ·rename_i b i j hx
  cases hf
  refine Loc.quiet rfl (fun st2 ρ k=>rfl) (fun st2 ha ρ k=>?_) ?_ h (fun v s hh=>?_)
  ·have e1:=ha.ev x (by rw [hops];simp)
   have e2:=ha.heap b (.inl (by simp))
   simp only [aj,e1,hx,e2]
  ·rw [hops]
   intro y hy
   simp only [qzZ] at hy
   subst hy
   rw [hx]
   exact ⟨rfl,fun b' hb'=>.inl (by simp [V.ids,V0.ids] at hb';simp [hb'])⟩
  ·simp only [aj,hx] at hh
   split at hh
   ·split at hh
    ·rename_i v' hv
     cases hh
     intro z hz
     rw [v8 hv] at hz;cases hz
    ·cases hh
   ·obtain ⟨_,hh⟩:=ah hh
    cases hh
    intro z hz
    exact .inl (by simpa [V.ids,V0.ids] using hz)
   ·cases hh
 ·rename_i b i k' hx
  cases hf
  refine Loc.quiet rfl (fun st2 ρ k=>rfl) (fun st2 ha ρ k=>?_) ?_ h (fun v s hh=>?_)
  ·have e1:=ha.ev x (by rw [hops];simp)
   have e2:=ha.heap b (.inl (by simp))
   simp only [aj,e1,hx,e2]
  ·rw [hops]
   intro y hy
   simp only [qzZ] at hy
   subst hy
   rw [hx]
   exact ⟨rfl,fun b' hb'=>.inl (by simpa [V.ids,V0.ids] using hb')⟩
  ·simp only [aj,hx] at hh
   split at hh
   ·obtain ⟨_,hh⟩:=ah hh
    cases hh
    intro z hz;cases hz
   ·cases hh
 ·rename_i c hx
  cases hf
  refine Loc.quiet rfl (fun st2 ρ k=>rfl) (fun st2 ha ρ k=>?_) ?_ h (fun v s hh=>?_)
  ·have e1:=ha.ev x (by rw [hops];simp)
   simp only [aj,e1,hx]
   cases c<;>rfl
  ·rw [hops]
   intro y hy
   simp only [qzZ] at hy
   subst hy
   rw [hx]
   exact ⟨rfl,fun b' hb'=>by cases hb'⟩
  ·simp only [aj,hx] at hh
   split at hh
   ·rename_i heq;cases heq
   ·rename_i heq;cases heq
   ·rename_i heq;cases heq
   ·split at hh
    ·rename_i v' hv
     cases hh
     intro z hz
     rw [v8 hv] at hz;cases hz
    ·cases hh
   ·cases hh
 ·cases hf
theorem Ka {t:TypeId} {κ:Kd} {x:Operand} (hf:dh hb st (.loadR t κ x)=some φ) (h:aj C hb st (.loadR t κ x) k=some r):∃ v E,Loc C hb st (.loadR t κ x) φ v E:=by
 have h:none=some r:=h
 cases h
theorem Fe {t:TypeId} {x key:Operand} (hf:dh hb st (.lookupI t x key)=some φ) (h:aj C hb st (.lookupI t x key) k=some r):∃ v E,Loc C hb st (.lookupI t x key) φ v E:=by
 have h:none=some r:=h
 cases h
theorem GC {t:TypeId} {x key y:Operand} (hf:dh hb st (.mapPut t x key y)=some φ) (h:aj C hb st (.mapPut t x key y) k=some r):∃ v E,Loc C hb st (.mapPut t x key y) φ v E:=by
 have h:none=some r:=h
 cases h
theorem Loc.new {o:AOp} {q:Nat} {ob:Blk} {v:V} (hwr:φ.wr = [hb+q]) (hres:st.heap[hb+q]?=some .rsv) (hids:∀ x∈ob.ids,φ.has x) (hv:v.ids = [hb+q])
  (huids:∀ x∈o.erase.operands.toList,(st.ev x).known=true/\∀ b∈(st.ev x).ids,φ.has b)
  (hrun:∀ st2,tk o φ st st2->∀ {ρ:Type} (k:V->St->Option ρ),aj C hb st2 o k=jO hb st2 q ob fun s=>k v s):∃ v E,Loc C hb st o φ v E:=by
 refine ⟨v,.set (hb+q) ob,Loc.of (fun st2 ha ρ k=>?_) ⟨by rw [hwr];simp,hids⟩ (fun x hx=>.inr (by rw [hwr,<- hv];exact hx)) huids (fun b hb=>?_)⟩
 ·rw [hrun st2 ha k]
  unfold jO
  rw [ha.heap (hb+q) (.inr (by rw [hwr];simp)),hres]
  rfl
 ·rw [hwr,qzZ] at hb
  subst hb
  rw [dS hres]
  intro x hx;cases hx
theorem QX {q:Nat} {t:TypeId} {x:Operand} (hf:dh hb st (.box q t x)=some φ) (h:aj C hb st (.box q t x) k=some r):∃ v E,Loc C hb st (.box q t x) φ v E:=by
 have hsp:=Cv hf
 simp only [aj] at h
 split at h
 ·rename_i l hl
  have hres:st.heap[hb+q]?=some .rsv:=by
   unfold jO at h
   split at h
   ·assumption
   ·cases h
  refine Loc.new (ob:=.box l) (v:=.x (.ptr (hb+q) 0)) hsp.1 hres (fun y hy=>(hsp.2 (st.ev x) (by simp)).2 y ((lQ hl y).1 hy)) rfl
   (fun y hy=>hsp.2 _ (by simp [AOp.erase,Op.operands] at hy;simp [hy])) (fun st2 ha ρ k=>?_)
  simp only [aj,ha.ev x (by simp [AOp.erase,Op.operands]),hl]
 ·cases h
theorem Ki {q:Nat} {t:TypeId} {zs:List V0} (hf:dh hb st (.alloc q t zs)=some φ) (h:aj C hb st (.alloc q t zs) k=some r):∃ v E,Loc C hb st (.alloc q t zs) φ v E:=by
 unfold dh at hf
 obtain ⟨hz,hf⟩:=ah hf
 cases hf
 simp only [aj] at h
 have hres:st.heap[hb+q]?=some .rsv:=by
  unfold jO at h
  split at h
  ·assumption
  ·cases h
 refine Loc.new (ob:=.box zs) (v:=.x (.ptr (hb+q) 0)) rfl hres (fun y hy=>?_) rfl (fun y hy=>by simp [AOp.erase,Op.operands] at hy) (fun st2 ha ρ k=>rfl)
 have:(zs.map V0.ids).flatten = []:=by simpa using hz
 rw [show (Blk.box zs).ids=(zs.map V0.ids).flatten from rfl,this] at hy
 cases hy
theorem EF {H:List Blk}:∀ (d:Nat) {y:V0},y.ids = []->dp H d y = []
 | 0,y,_=>rfl
 | d+1,y,h=>by
  cases y with
  | u=>rfl
  | c x=>rfl
  | own b off len=>simp [V0.ids] at h
  | ptr b j=>simp [V0.ids] at h
  | aptr b i j=>simp [V0.ids] at h
  | mrow b i=>simp [V0.ids] at h
  | mptr b i j=>simp [V0.ids] at h
  | fn f caps =>
   simp only [dp]
   apply List.flatten_eq_nil_iff.2
   intro l hl
   obtain ⟨c,hc,rfl⟩:=rjZ.1 hl
   cases c with
   | c x=>rfl
   | ptr b j =>
    simp only [V0.ids] at h
    have:=List.flatten_eq_nil_iff.1 h [b] (rjZ.2 ⟨.ptr b j,hc,rfl⟩)
    cases this
theorem Eu {H H2:List Blk}:∀ (d:Nat) {y:V0},y.ids = []->snap H2 d y=snap H d y
 | 0,y,_=>rfl
 | d+1,y,h=>by
  cases y with
  | u=>rfl
  | c x=>rfl
  | own b off len=>simp [V0.ids] at h
  | ptr b j=>simp [V0.ids] at h
  | aptr b i j=>simp [V0.ids] at h
  | mrow b i=>simp [V0.ids] at h
  | mptr b i j=>simp [V0.ids] at h
  | fn f caps =>
   simp only [snap]
   congr 2
   apply List.map_congr_left
   intro c hc
   cases c with
   | c x=>rfl
   | ptr b j =>
    simp only [V0.ids] at h
    have:=List.flatten_eq_nil_iff.1 h [b] (rjZ.2 ⟨.ptr b j,hc,rfl⟩)
    cases this
theorem ja {l:List V0} (h:(l.map V0.ids).flatten = []) {H H2:List Blk}:(l.map (dp H depth)).flatten = []/\l.map (snap H2 depth)=l.map (snap H depth):=by
 have h1:∀ y∈l,y.ids = []:=fun y hy=>List.flatten_eq_nil_iff.1 h _ (rjZ.2 ⟨y,hy,rfl⟩)
 refine ⟨List.flatten_eq_nil_iff.2 (fun s hs=>?_),List.map_congr_left (fun y hy=>Eu depth (h1 y hy))⟩
 obtain ⟨y,hy,rfl⟩:=rjZ.1 hs
 exact EF depth (h1 y hy)
theorem Oo {zs:List V0} (hz:(zs.map V0.ids).flatten = []) (t:Nat):(zs.getD t .u).ids = []:=by
 rw [qdZ]
 cases hq:zs[t]? with
 | none=>rfl
 | some y=>exact List.flatten_eq_nil_iff.1 hz _ (rjZ.2 ⟨y,qrZ hq,rfl⟩)
theorem Ot (r:Kd) (v:V):(Fq r v).ids=v.ids:=by
 unfold Fq
 split
 ·split
  ·rename_i n _ _ _
   cases Nat.beq n 0<;>rfl
  ·rfl
 ·rfl
theorem Bv {q:Nat} {t e:TypeId} {rr:Kd} {ln:Nat} {zs:List V0} {parts:List (Nat × Operand)} (hf:dh hb st (.buildSlice q t e rr ln zs parts)=some φ)
  (h:aj C hb st (.buildSlice q t e rr ln zs parts) k=some r):∃ v E,Loc C hb st (.buildSlice q t e rr ln zs parts) φ v E:=by
 unfold dh at hf
 obtain ⟨hz,hf⟩:=ah hf
 rw [qaZ] at hz
 have hz1:(zs.map V0.ids).flatten = []:=by simpa using hz.1
 have hz2:(parts.map fun p=>(st.ev p.2).ids).flatten = []:=by simpa using hz.2
 have hsp:=Cv hf
 have hops:(AOp.buildSlice q t e rr ln zs parts).erase.operands.toList=parts.map (·.2):=by simp [AOp.erase,Op.operands]
 simp only [aj] at h
 split at h
 ·cases h
 ·rename_i l hl
  have hlids:(l.map V0.ids).flatten = []:=by
   rw [rfZ]
   intro x hx
   rcases BH hl x hx with h1 | ⟨p,hp,h1⟩
   ·obtain ⟨s,hs,hx'⟩:=qyZ.1 h1
    obtain ⟨y,hy,rfl⟩:=rjZ.1 hs
    obtain ⟨t',_,rfl⟩:=rjZ.1 hy
    rw [Oo hz1] at hx';cases hx'
   ·obtain ⟨q',hq,rfl⟩:=rjZ.1 hp
    have:=List.flatten_eq_nil_iff.1 hz2 _ (rjZ.2 ⟨q',hq,rfl⟩)
    rw [Ot,this] at h1;cases h1
  split at h
  ·cases h
  ·rename_i cs hcs
   obtain ⟨hfit,h⟩:=ah h
   rw [(ja hlids (H:=st.heap) (H2:=st.heap)).1] at h
   have hres:st.heap[hb+q]?=some .rsv:=by
    unfold jO at h
    split at h
    ·assumption
    ·cases h
   refine Loc.new (ob:=.arr rr ln (fun i j=>au cs (i*rr.len+j))) (v:=.x (.own (hb+q) 0 ln)) hsp.1 hres (fun y hy=>by cases hy) rfl ?_ (fun st2 ha ρ k=>?_)
   ·rw [hops]
    intro y hy
    obtain ⟨p,hp,rfl⟩:=rjZ.1 hy
    exact hsp.2 _ (rjZ.2 ⟨p,hp,rfl⟩)
   ·have e1:(parts.map fun p=>(p.1,Fq rr (st2.ev p.2)))=parts.map fun p=>(p.1,Fq rr (st.ev p.2)):=List.map_congr_left (fun p hp=>by rw [ha.ev p.2 (by rw [hops];exact rjZ.2 ⟨p,hp,rfl⟩)])
    simp only [aj,e1,hl,(ja hlids (H:=st.heap) (H2:=st2.heap)).2,hcs,hfit,cond_true,(ja hlids (H:=st2.heap) (H2:=st2.heap)).1]
    rfl
theorem J8 {t:TypeId} {m:Nat} {x y:Operand} (hf:dh hb st (.store t m x y)=some φ) (h:aj C hb st (.store t m x y) k=some r):∃ v E,Loc C hb st (.store t m x y) φ v E:=by
 have hops:(AOp.store t m x y).erase.operands.toList = [x,y]:=rfl
 unfold dh at hf
 dsimp only at hf
 simp only [aj] at h
 split at h
 ·cases h
 ·rename_i l hl
  obtain ⟨hlen,h⟩:=ah h
  split at hf
  ·rename_i b j hx
   obtain ⟨hk,hf⟩:=ah hf
   cases hf
   rw [hx] at h
   dsimp only at h
   split at h
   ·rename_i cells hq
    obtain ⟨hle,h⟩:=ah h
    refine ⟨.undef,.set b (.box (splice cells j l)),Loc.of (fun st2 ha ρ k=>?_) ⟨by simp,fun z hz=>?_⟩ (fun z hz=>by cases hz) ?_ (fun b' hb' z hz=>?_)⟩
    ·have e1:=ha.ev x (by rw [hops];simp)
     have e2:=ha.ev y (by rw [hops];simp)
     have e3:=ha.heap b (.inr (by simp))
     simp only [aj,e1,e2,hl,hlen,cond_true,hx,e3,hq,hle]
     rfl
    ·obtain ⟨s,hs,hz'⟩:=qyZ.1 hz
     obtain ⟨y0,hy0,rfl⟩:=rjZ.1 hs
     rcases Ba hy0 with h1 | h1
     ·exact .inl (qwZ _ (by rw [dS hq];exact qyZ.2 ⟨_,rjZ.2 ⟨y0,h1,rfl⟩,hz'⟩))
     ·exact .inl (qvZ _ ((lQ hl z).1 (qyZ.2 ⟨_,rjZ.2 ⟨y0,h1,rfl⟩,hz'⟩)))
    ·rw [hops]
     intro z hz
     simp only [List.mem_cons,List.not_mem_nil,or_false] at hz
     rcases hz with rfl | rfl
     ·rw [hx];exact ⟨rfl,fun b' hb'=>.inr (by simpa [V.ids,V0.ids] using hb')⟩
     ·exact ⟨hk,fun b' hb'=>.inl (qvZ _ hb')⟩
    ·simp only [qzZ] at hb'
     subst hb'
     exact .inl (qwZ _ hz)
   ·cases h
  ·rename_i b i j hx
   obtain ⟨hk,hf⟩:=ah hf
   cases hf
   rw [qaZ] at hk
   have hyids:(st.ev y).ids = []:=by simpa using hk.2
   have hlids:(l.map V0.ids).flatten = []:=by
    rw [rfZ]
    intro z hz
    have:=(lQ hl z).1 hz
    rw [hyids] at this;cases this
   rw [hx] at h
   dsimp only at h
   split at h
   ·rename_i rr n f hq
    split at h
    ·cases h
    ·rename_i cs hcs
     obtain ⟨hfit,h⟩:=ah h
     rw [(ja hlids (H:=st.heap) (H2:=st.heap)).1] at hfit
     refine ⟨.undef,.set b (.arr rr n (cm f i j m (au cs))),Loc.of (fun st2 ha ρ k=>?_) ⟨by simp,(fun z hz=>by cases hz)⟩ (fun z hz=>by cases hz) ?_ (fun b' hb' z hz=>?_)⟩
     ·have e1:=ha.ev x (by rw [hops];simp)
      have e2:=ha.ev y (by rw [hops];simp)
      have e3:=ha.heap b (.inr (by simp))
      simp only [aj,e1,e2,hl,hlen,cond_true,hx,e3,hq,(ja hlids (H:=st.heap) (H2:=st2.heap)).2,hcs,(ja hlids (H:=st2.heap) (H2:=st2.heap)).1,hfit]
      rfl
     ·rw [hops]
      intro z hz
      simp only [List.mem_cons,List.not_mem_nil,or_false] at hz
      rcases hz with rfl | rfl
      ·rw [hx];exact ⟨rfl,fun b' hb'=>.inr (by simpa [V.ids,V0.ids] using hb')⟩
      ·exact ⟨hk.1,fun b' hb'=>by rw [hyids] at hb';cases hb'⟩
     ·simp only [qzZ] at hb'
      subst hb'
      rw [dS hq] at hz;cases hz
   ·cases h
  ·rename_i b i j hx
   obtain ⟨hk,hf⟩:=ah hf
   cases hf
   rw [qaZ] at hk
   have hyids:(st.ev y).ids = []:=by simpa using hk.2
   rw [hx] at h
   dsimp only at h
   split at h
   ·rename_i κ n ln f c hq _
    obtain ⟨hfit,h⟩:=ah h
    refine ⟨.undef,.set b (.mat κ n ln (Dt f i j c)),Loc.of (fun st2 ha ρ k=>?_) ⟨by simp,(fun z hz=>by cases hz)⟩ (fun z hz=>by cases hz) ?_ (fun b' hb' z hz=>?_)⟩
    ·have e1:=ha.ev x (by rw [hops];simp)
     have e2:=ha.ev y (by rw [hops];simp)
     have e3:=ha.heap b (.inr (by simp))
     simp only [aj,e1,e2,hl,hlen,cond_true,hx,e3,hq,hfit]
     rfl
    ·rw [hops]
     intro z hz
     simp only [List.mem_cons,List.not_mem_nil,or_false] at hz
     rcases hz with rfl | rfl
     ·rw [hx];exact ⟨rfl,fun b' hb'=>.inr (by simpa [V.ids,V0.ids] using hb')⟩
     ·exact ⟨hk.1,fun b' hb'=>by rw [hyids] at hb';cases hb'⟩
    ·simp only [qzZ] at hb'
     subst hb'
     rw [dS hq] at hz;cases hz
   ·cases h
  ·cases hf
theorem Br {b:Nat}:∀ {H:List Blk} {n b' : Nat} {o:Blk},H[b']?=some o->b∈o.ids->n+b' ∈ named b n H
 | [],n,b',o,h,_=>by simp at h
 | x::H,n,0,o,h,hb=>by
  simp at h;subst h
  unfold named
  have:x.ids.contains b=true:=by simpa using hb
  rw [this];simp
 | x::H,n,b'+1,o,h,hb=>by
  have ih:=Br (n:=n+1) (H:=H) (b':=b') (by simpa using h) hb
  unfold named
  rw [show n+(b'+1)=n+1+b' by omega]
  cases x.ids.contains b
  ·exact ih
  ·exact qjZ _ ih
theorem vW {H H2:List Blk} {rr:Kd} {y:V} (h:∀ b∈y.ids,H2[b]?=H[b]?):rL H2 rr y=rL H rr y:=by
 unfold rL
 split
 ·rfl
 ·rename_i b off len
  rw [h b (by simp [V.ids,V0.ids])]
 ·rfl
theorem GE {q:Nat} {t e:TypeId} {rr:Kd} {bytes:Nat} {x y:Operand} (hf:dh hb st (.append q t e rr bytes x y)=some φ) (h:aj C hb st (.append q t e rr bytes x y) k=some r) :
  ∃ v E,Loc C hb st (.append q t e rr bytes x y) φ v E:=by
 have hops:(AOp.append q t e rr bytes x y).erase.operands.toList = [x,y]:=rfl
 unfold dh at hf
 dsimp only at hf
 split at hf
 ·rename_i b off len hx
  obtain ⟨hk,hf⟩:=ah hf
  cases hf
  simp only [aj] at h
  split at h
  ·cases h
  ·rename_i m g hsrc
   rw [hx] at h
   dsimp only at h
   split at h
   ·rename_i r' n f hq
    obtain ⟨hc,h⟩:=ah h
    refine ⟨.x (.own b 0 (len+m)),.app b (.arr rr (len+m) (aB len f g)),Loc.of (fun st2 ha ρ k=>?_) ⟨by simp,(fun z hz=>by cases hz),(fun b' o' h1 h2=>?_),by simp⟩ (fun z hz=>.inr ?_) ?_ (fun b' hb' z hz=>?_)⟩
    ·have e1:=ha.ev x (by rw [hops];simp)
     have e2:=ha.ev y (by rw [hops];simp)
     have e3:=ha.heap b (.inr (by simp))
     have e4:rL st2.heap rr (st.ev y)=rL st.heap rr (st.ev y):=vW (fun b' hb'=>ha.heap b' (.inl (qvZ _ hb')))
     simp only [aj,e1,e2,e4,hsrc,hx,e3,hq,hc,cond_true]
     rfl
    ·have:=Br (n:=0) h1 h2
     rw [rlZ] at this
     exact qjZ _ this
    ·simp [V.ids,V0.ids] at hz;simp [hz]
    ·rw [hops]
     intro z hz
     simp only [List.mem_cons,List.not_mem_nil,or_false] at hz
     rcases hz with rfl | rfl
     ·rw [hx];exact ⟨rfl,fun b' hb'=>.inr (by simp [V.ids,V0.ids] at hb';simp [hb'])⟩
     ·exact ⟨hk,fun b' hb'=>.inl (qvZ _ hb')⟩
    ·rcases List.mem_cons.1 hb' with rfl | hb'
     ·rw [dS hq] at hz;cases hz
     ·exact .inl (qwZ _ (qyZ.2 ⟨_,rjZ.2 ⟨b',hb',rfl⟩,hz⟩))
   ·cases h
 ·rename_i fl r' n f hx
  obtain ⟨hk,hf⟩:=ah hf
  cases hf
  simp only [aj] at h
  split at h
  ·cases h
  ·rename_i m g hsrc
   rw [hx] at h
   dsimp only at h
   obtain ⟨hc,h⟩:=ah h
   unfold jO at h
   split at h
   ·rename_i hres
    refine Loc.new (q:=q) (ob:=.arr rr (n+m) (aB n f g)) (v:=.x (.own (hb+q) 0 (n+m))) rfl hres (fun x hx=>by cases hx) rfl (fun z hz=>?_) (fun st2 ha ρ k=>?_)
    ·rw [hops] at hz
     simp only [List.mem_cons,List.not_mem_nil,or_false] at hz
     rcases hz with rfl | rfl
     ·rw [hx];exact ⟨rfl,fun b' hb'=>by simp [V.ids,V0.ids] at hb'⟩
     ·exact ⟨hk,fun b' hb'=>.inl hb'⟩
    ·have e1:=ha.ev x (by rw [hops];simp)
     have e2:=ha.ev y (by rw [hops];simp)
     have e4:rL st2.heap rr (st.ev y)=rL st.heap rr (st.ev y):=vW (fun b' hb'=>ha.heap b' (.inl hb'))
     simp only [aj,e1,e2,e4,hsrc,hx,hc,cond_true]
   ·cases h
 ·cases hf
theorem eM {α β:Type} {L:List α} {f g:α->Option β} {r:List β} (h:aO (L.map f)=some r) (hfg:∀ x∈L,∀ y,f x=some y->g x=some y):aO (L.map g)=some r:=by
 induction L generalizing r with
 | nil=>exact h
 | cons x L ih =>
  simp only [List.map_cons] at h ⊢
  cases hx:f x with
  | none=>rw [hx] at h;cases h
  | some y =>
   rw [hx] at h
   simp only [aO] at h
   cases hq:aO (L.map f) with
   | none=>rw [hq] at h;cases h
   | some r' =>
    rw [hq] at h
    rw [hfg x (qmZ ..) y hx]
    simp only [aO,ih hq (fun x hx=>hfg x (qjZ _ hx))]
    exact h
def AX (H:List Blk) (d:Nat):Cap->Option CV
 | .c x=>some x
 | .ptr b j=>snap H d (.ptr b j)
def Jh (H:List Blk) (d:Nat):Cap->List Nat
 | .c _=>[]
 | .ptr b j=>dp H d (.ptr b j)
theorem Hz (H:List Blk) (d:Nat) (f:FuncId) (caps:List Cap):snap H (d+1) (.fn f caps)=(match aO (caps.map (AX H d)) with | some l=>some (.fn f l.length (au l)) | none=>none):=by
 have:(fun | .c x=>some x | .ptr b j=>snap H d (.ptr b j):Cap->Option CV)=AX H d:=by funext c;cases c<;>rfl
 simp only [snap]
 rw [<- this]
 rfl
theorem DH (H:List Blk) (d:Nat) (f:FuncId) (caps:List Cap):dp H (d+1) (.fn f caps)=(caps.map (Jh H d)).flatten:=by
 have:(fun | .c _=>[] | .ptr b j=>dp H d (.ptr b j):Cap->List Nat)=Jh H d:=by funext c;cases c<;>rfl
 simp only [dp]
 rw [<- this]
 rfl
theorem eU {H H2:List Blk}:∀ (d:Nat) {y:V0} {c:CV},(∀ b∈dp H d y,H2[b]?=H[b]?)->snap H d y=some c->snap H2 d y=some c/\dp H2 d y=dp H d y
 | 0,y,c,_,h=>by simp [snap] at h
 | d+1,y,c,hr,h=>by
  have ptr:∀ (b j:Nat) (c:CV),(∀ b' ∈ dp H (d+1) (.ptr b j),H2[b']?=H[b']?)->snap H (d+1) (.ptr b j)=some c->snap H2 (d+1) (.ptr b j)=some c/\dp H2 (d+1) (.ptr b j)=dp H (d+1) (.ptr b j):=by
   intro b j c hr h
   simp only [snap,dp] at h hr ⊢
   cases hb:H[b]? with
   | none=>rw [hb] at h;cases h
   | some o =>
    rw [hb] at h hr
    cases o with
    | rsv=>cases h
    | dead=>cases h
    | arr _ _ _=>cases h
    | set _ _ _=>cases h
    | mat _ _ _ _=>cases h
    | box cells =>
     dsimp only at h hr
     have e:=hr b (qmZ ..)
     rw [e,hb]
     dsimp only
     cases hq:aO ((cells.drop j).map (snap H d)) with
     | none=>rw [hq] at h;cases h
     | some l =>
      rw [hq] at h
      have hin:∀ y∈cells.drop j,∀ b' ∈ dp H d y,H2[b']?=H[b']?:=fun y hy b' hb'=>hr b' (qjZ _ (qyZ.2 ⟨_,rjZ.2 ⟨y,hy,rfl⟩,hb'⟩))
      have h1:=eM hq (g:=snap H2 d) (fun y hy c hc=>(eU d (hin y hy) hc).1)
      rw [h1]
      refine ⟨h,?_⟩
      congr 2
      apply List.map_congr_left
      intro y hy
      have hs:=aX hq
      obtain ⟨t,ht⟩:=List.mem_iff_getElem?.1 hy
      have hlt:t<l.length:=by rw [hs.1,rcZ];exact (qfZ.1 ht).1
      have h2:=hs.2 t l[t] (by simp)
      rw [qhZ,ht] at h2
      simp only [Option.map_some,rbZ] at h2
      exact (eU d (hin y hy) h2).2
  cases y with
  | u=>exact ⟨h,rfl⟩
  | c x=>exact ⟨h,rfl⟩
  | own b off len =>
   have:=hr b (by simp [dp])
   simp only [snap,dp,this] at h ⊢
   exact ⟨h,trivial⟩
  | aptr b i j =>
   have:=hr b (by simp [dp])
   simp only [snap,dp,this] at h ⊢
   exact ⟨h,trivial⟩
  | mrow b i=>simp [snap] at h
  | mptr b i j=>simp [snap] at h
  | ptr b j=>exact ptr b j c hr h
  | fn f caps =>
   rw [Hz] at h
   rw [DH] at hr
   rw [Hz,DH,DH]
   cases hq:aO (caps.map (AX H d)) with
   | none=>rw [hq] at h;cases h
   | some l =>
    rw [hq] at h
    have hin:∀ b j,Cap.ptr b j∈caps->∀ b' ∈ dp H d (.ptr b j),H2[b']?=H[b']?:=fun b j hc b' hb'=>hr b' (qyZ.2 ⟨_,rjZ.2 ⟨_,hc,rfl⟩,hb'⟩)
    have h1:=eM hq (g:=AX H2 d) (fun y hy c hc=>by
     cases y with
     | c x=>exact hc
     | ptr b j=>exact (eU d (hin b j hy) hc).1)
    rw [h1]
    refine ⟨h,?_⟩
    congr 1
    apply List.map_congr_left
    intro y hy
    cases y with
    | c x=>rfl
    | ptr b j =>
     have hs:=aX hq
     obtain ⟨t,ht⟩:=List.mem_iff_getElem?.1 hy
     have hlt:t<l.length:=by rw [hs.1,rcZ];exact (qfZ.1 ht).1
     have h2:=hs.2 t l[t] (by simp)
     rw [qhZ,ht] at h2
     simp only [Option.map_some,rbZ] at h2
     exact (eU d (hin b j hy) h2).2
theorem ov {H H2:List Blk} {v:V} {c:A} (hr:∀ b∈eJ H v,H2[b]?=H[b]?) (h:ll H v=some c):ll H2 v=some c/\eJ H2 v=eJ H v:=by
 cases v with
 | u=>cases h
 | undef=>cases h
 | tup l=>cases h
 | x y =>
  simp only [ll,eJ] at h hr ⊢
  cases hq:snap H depth y with
  | none=>rw [hq] at h;cases h
  | some c' =>
   rw [hq] at h
   obtain ⟨h1,h2⟩:=eU depth hr hq
   rw [h1];exact ⟨h,h2⟩
 | agg l =>
  simp only [ll,eJ] at h hr ⊢
  cases hq:aO (l.map (snap H depth)) with
  | none=>rw [hq] at h;cases h
  | some r =>
   rw [hq] at h
   have hin:∀ y∈l,∀ b' ∈ dp H depth y,H2[b']?=H[b']?:=fun y hy b' hb'=>hr b' (qyZ.2 ⟨_,rjZ.2 ⟨y,hy,rfl⟩,hb'⟩)
   rw [eM hq (g:=snap H2 depth) (fun y hy c hc=>(eU depth (hin y hy) hc).1)]
   refine ⟨h,?_⟩
   congr 1
   apply List.map_congr_left
   intro y hy
   have hs:=aX hq
   obtain ⟨t,ht⟩:=List.mem_iff_getElem?.1 hy
   have hlt:t<r.length:=by rw [hs.1,rcZ];exact (qfZ.1 ht).1
   have h2:=hs.2 t r[t] (by simp)
   rw [qhZ,ht] at h2
   simp only [Option.map_some,rbZ] at h2
   exact (eU depth (hin y hy) h2).2
theorem Bg (res:List A):(lm res).ids = []:=by
 unfold lm
 split
 ·exact A.toV_ids _
 ·rfl
theorem CL {o:AOp} {f:FuncId} {vs:List V} {m:Mode} (hf:jM st vs m=some φ) (h:lz C f vs m st k=some r)
  (hrun:∀ st2,tk o φ st st2->∀ {ρ:Type} (k:V->St->Option ρ),aj C hb st2 o k=lz C f vs m st2 k)
  (huids:∀ x∈o.erase.operands.toList,(st.ev x).known=true/\∀ b∈(st.ev x).ids,∃ v∈vs,b∈v.ids):∃ v E,Loc C hb st o φ v E:=by
 unfold lz at h
 split at h
 ·cases h
 ·rename_i as has
  ·obtain ⟨res,hres,h,huse⟩:=ao.use h
   have hsn:∀ st2:St,(∀ b∈(vs.map (eJ st.heap)).flatten,st2.heap[b]?=st.heap[b]?)->aO (vs.map (ll st2.heap))=some as/\vs.map (eJ st2.heap)=vs.map (eJ st.heap):=by
    intro st2 hag
    have hin:∀ y∈vs,∀ b' ∈ eJ st.heap y,st2.heap[b']?=st.heap[b']?:=fun y hy b' hb'=>hag b' (qyZ.2 ⟨_,rjZ.2 ⟨y,hy,rfl⟩,hb'⟩)
    refine ⟨eM has (fun y hy c hc=>(ov (hin y hy) hc).1),List.map_congr_left (fun y hy=>?_)⟩
    have hs:=aX has
    obtain ⟨t,ht⟩:=List.mem_iff_getElem?.1 hy
    have hlt:t<as.length:=by rw [hs.1,rcZ];exact (qfZ.1 ht).1
    have h2:=hs.2 t as[t] (by simp)
    rw [qhZ,ht] at h2
    simp only [Option.map_some,rbZ] at h2
    exact (ov (hin y hy) h2).2
   have hidsin:∀ ψ:dH,(∀ v∈vs,∀ b∈v.ids,ψ.has b)->∀ x∈o.erase.operands.toList,(st.ev x).known=true/\∀ b∈(st.ev x).ids,ψ.has b:=fun ψ hψ x hx=>by
    refine ⟨(huids x hx).1,fun b hb=>?_⟩
    obtain ⟨v,hv,hb'⟩:=(huids x hx).2 b hb
    exact hψ v hv b hb'
   unfold jM at hf
   cases m with
   | snap =>
    dsimp only at h hf
    obtain ⟨hsc,h⟩:=ah h
    obtain ⟨hk,hf⟩:=ah hf
    cases hf
    refine ⟨lm res,.none,Loc.of (fun st2 ha ρ k=>?_) trivial (fun x hx=>by rw [Bg] at hx;cases hx) (hidsin _ (fun v hv b hb=>.inl (qwZ _ (qyZ.2 ⟨_,rjZ.2 ⟨v,hv,rfl⟩,hb⟩)))) (fun b hb=>by cases hb)⟩
    rw [hrun st2 ha k]
    obtain ⟨e1,e2⟩:=hsn st2 (fun b hb=>ha.heap b (.inl (qvZ _ hb)))
    unfold lz
    simp only [e1,huse,hsc,cond_true]
    rfl
   | freeze =>
    dsimp only at h hf
    obtain ⟨hk,hf⟩:=ah hf
    cases hf
    rw [qaZ] at hk
    have hemp:(vs.map (eJ st.heap)).flatten = []:=by simpa using hk.2
    refine ⟨lm res,.none,Loc.of (fun st2 ha ρ k=>?_) trivial (fun x hx=>by rw [Bg] at hx;cases hx) (hidsin _ (fun v hv b hb=>.inl (qyZ.2 ⟨_,rjZ.2 ⟨v,hv,rfl⟩,hb⟩))) (fun b hb=>by cases hb)⟩
    rw [hrun st2 ha k]
    obtain ⟨e1,e2⟩:=hsn st2 (fun b hb=>by rw [hemp] at hb;cases hb)
    unfold lz
    simp only [e1,huse,e2,hemp]
    rfl
theorem N6 {f:FuncId} {args:List Operand} {ts:List TypeId} {m:Mode} (hf:dh hb st (.call f args ts m)=some φ) (h:aj C hb st (.call f args ts m) k=some r):∃ v E,Loc C hb st (.call f args ts m) φ v E:=by
 have hops:(AOp.call f args ts m).erase.operands.toList=.func f::args:=by simp [AOp.erase,Op.operands,Call.operands]
 have hk:∀ v∈args.map st.ev,v.known=true:=by
  unfold dh jM at hf
  cases m with
  | snap=>obtain ⟨hk,_⟩:=ah hf;exact qiZ.1 hk
  | freeze=>obtain ⟨hk,_⟩:=ah hf;rw [qaZ] at hk;exact qiZ.1 hk.1
 refine CL (vs:=args.map st.ev) hf h (fun st2 ha ρ k=>?_) ?_
 ·have:args.map st2.ev=args.map st.ev:=List.map_congr_left (fun x hx=>ha.ev x (by rw [hops];exact qjZ _ hx))
  simp only [aj,this]
 ·rw [hops]
  intro x hx
  rcases List.mem_cons.1 hx with rfl | hx
  ·exact ⟨rfl,fun b hb=>by simp [St.ev,V.ids,V0.ids] at hb⟩
  ·exact ⟨hk _ (rjZ.2 ⟨x,hx,rfl⟩),fun b hb=>⟨_,rjZ.2 ⟨x,hx,rfl⟩,hb⟩⟩
theorem Ke {g:Operand} {args:List Operand} {ts:List TypeId} {m:Mode} (hf:dh hb st (.callv g args ts m)=some φ) (h:aj C hb st (.callv g args ts m) k=some r):∃ v E,Loc C hb st (.callv g args ts m) φ v E:=by
 have hops:(AOp.callv g args ts m).erase.operands.toList=g::args:=by simp [AOp.erase,Op.operands,Call.operands]
 have main:∀ (f:FuncId) (caps:List V),jM st (args.map st.ev ++ caps) m=some φ->lz C f (args.map st.ev ++ caps) m st k=some r->(st.ev g).known=true->(∀ b∈(st.ev g).ids,∃ v∈caps,b∈v.ids) ->
   (∀ st2:St,st2.ev g=st.ev g->∀ {ρ:Type} (k:V->St->Option ρ),aj C hb st2 (.callv g args ts m) k=lz C f (args.map st2.ev ++ caps) m st2 k)->∃ v E,Loc C hb st (.callv g args ts m) φ v E:=by
  intro f caps hf h hg1 hg2 hev
  have hk:∀ v∈args.map st.ev ++ caps,v.known=true:=by
   unfold jM at hf
   cases m with
   | snap=>obtain ⟨hk,_⟩:=ah hf;exact qiZ.1 hk
   | freeze=>obtain ⟨hk,_⟩:=ah hf;rw [qaZ] at hk;exact qiZ.1 hk.1
  refine CL hf h (fun st2 ha ρ k=>?_) ?_
  ·have:args.map st2.ev=args.map st.ev:=List.map_congr_left (fun x hx=>ha.ev x (by rw [hops];exact qjZ _ hx))
   rw [hev st2 (ha.ev g (by rw [hops];simp)) k,this]
  ·rw [hops]
   intro x hx
   rcases List.mem_cons.1 hx with rfl | hx
   ·refine ⟨hg1,fun b hb=>?_⟩
    obtain ⟨v,hv,hb'⟩:=hg2 b hb
    exact ⟨v,qwZ _ hv,hb'⟩
   ·exact ⟨hk _ (qvZ _ (rjZ.2 ⟨x,hx,rfl⟩)),fun b hb=>⟨_,qvZ _ (rjZ.2 ⟨x,hx,rfl⟩),hb⟩⟩
 unfold dh at hf
 dsimp only at hf
 simp only [aj] at h
 split at hf
 ·rename_i f caps hg
  rw [hg] at h
  dsimp only at h
  refine main f _ hf h (by rw [hg];rfl) (fun b hb=>?_) (fun st2 he ρ k=>?_)
  ·rw [hg] at hb
   obtain ⟨s,hs,hb'⟩:=qyZ.1 hb
   obtain ⟨c,hc,rfl⟩:=rjZ.1 hs
   cases c with
   | c x=>cases hb'
   | ptr b' j=>exact ⟨.x (.ptr b' j),rjZ.2 ⟨_,hc,rfl⟩,hb'⟩
  ·simp only [aj,he,hg]
 ·rename_i f nc caps hg
  rw [hg] at h
  dsimp only at h
  refine main f _ hf h (by rw [hg];rfl) (fun b hb=>by rw [hg] at hb;cases hb) (fun st2 he ρ k=>?_)
  simp only [aj,he,hg]
 ·cases hf
theorem Kf {q:Nat} {f:FuncId} {args:List Operand} {ts:List TypeId} {rr:Kd} (hf:dh hb st (.callo q f args ts rr)=some φ) (h:aj C hb st (.callo q f args ts rr) k=some r):∃ v E,Loc C hb st (.callo q f args ts rr) φ v E:=by
 have hops:(AOp.callo q f args ts rr).erase.operands.toList=.func f::args:=by simp [AOp.erase,Op.operands,Call.operands]
 unfold dh at hf
 dsimp only at hf
 obtain ⟨hk,hf⟩:=ah hf
 cases hf
 simp only [aj] at h
 split at h
 ·cases h
 ·rename_i as has
  split at h
  ·rename_i p hfr
   obtain ⟨n,g⟩:=p
   obtain ⟨hble,h⟩:=ah h
   unfold jO at h
   split at h
   ·rename_i hres
    refine Loc.new (q:=q) (ob:=.arr rr n g) (v:=.x (.own (hb+q) 0 n)) rfl hres (fun x hx=>by cases hx) rfl (fun x hx=>?_) (fun st2 ha ρ k=>?_)
    ·rw [hops] at hx
     rcases List.mem_cons.1 hx with rfl | hx
     ·exact ⟨rfl,fun b hb=>by simp [St.ev,V.ids,V0.ids] at hb⟩
     exact ⟨qiZ.1 hk _ (rjZ.2 ⟨x,hx,rfl⟩),fun b hb'=>.inl (qwZ _ (qyZ.2 ⟨_,rjZ.2 ⟨_,rjZ.2 ⟨x,hx,rfl⟩,rfl⟩,hb'⟩))⟩
    ·have hev:args.map st2.ev=args.map st.ev:=List.map_congr_left fun x hx=>ha.ev x (by rw [hops];exact qjZ _ hx)
     have hin:∀ y∈args.map st.ev,∀ b' ∈ eJ st.heap y,st2.heap[b']?=st.heap[b']?:=fun y hy b' hb'=>ha.heap b' (.inl (qvZ _ (qyZ.2 ⟨_,rjZ.2 ⟨y,hy,rfl⟩,hb'⟩)))
     have hsn:aO ((args.map st.ev).map (ll st2.heap))=some as:=eM has (fun y hy c hc=>(ov (hin y hy) hc).1)
     simp only [aj,hev,hsn,hfr,hble,cond_true]
   ·cases h
  ·cases h
theorem Fo {o:AOp} (hf:dh hb st o=some φ) (h:aj C hb st o k=some r):∃ v E,Loc C hb st o φ v E:=by
 cases o with
 | move x=>exact Fd (.inl rfl) hf h
 | assign x=>exact Fd (.inr rfl) hf h
 | pick c x y=>exact N1 hf h
 | box q t x=>exact QX hf h
 | alloc q t zs=>exact Ki hf h
 | build t zs pl esz parts=>exact Kg hf h
 | buildSlice q t e rr ln zs parts=>exact Bv hf h
 | load t m x=>exact N4 hf h
 | store t m x y=>exact J8 hf h
 | fieldAddr t x fi off=>exact Cm hf h
 | nilCheck x=>exact DR hf h
 | field t x fi off m=>exact Kc hf h
 | indexAddr t e esz x i=>exact Cl hf h
 | indexAddrA t e ln esz x i=>exact Bu hf h
 | index t e ln esz m x i=>exact Kb hf h
 | indexS t x i=>exact GD hf h
 | sliceS t x lo hi=>exact GB hf h
 | allocA q t rr zs=>cases hf
 | indexAddrR t e ln esz x i=>exact Bt hf h
 | loadR t κ x=>exact Ka hf h
 | binOp op t x y yt=>exact Kh hf h
 | eqA neg rr t x y yt=>exact QW hf h
 | eqB neg t x y yt=>exact QV hf h
 | unOp op t x=>exact N0 hf h
 | extract x n=>exact Ff hf h
 | len t str x=>exact QU hf h
 | mm mx args ts=>exact Wh hf h
 | append q t e rr bytes x y=>exact GE hf h
 | slice t e esz x lo hi mx=>exact J9 hf h
 | makeSlice q t e rr bytes zs l c=>cases hf
 | call f args ts m=>exact N6 hf h
 | callv g args ts m=>exact Ke hf h
 | turn f x rest ts=>cases hf
 | callo q f args ts rr=>exact Kf hf h
 | callL g args ts bs n0=>cases hf
 | cut q f x rest ts rr=>cases hf
 | clear t e zs x=>cases hf
 | mkfn f caps=>cases hf
 | convert src dst kd x=>exact Fg hf h
 | lookup t x key=>cases hf
 | makeMap q t sb=>cases hf
 | iface t x=>cases hf
 | pan x=>cases hf
 | setPut t x key=>cases hf
 | lookupI t x key=>exact Fe hf h
 | mapPut t x key y=>exact GC hf h
 | lookupB t x key=>cases hf
 | capN t x=>cases hf
 | appendZ q t ti e rr bytes zs x y=>cases hf
 | mapPutT t x key=>cases hf
 | buildC t e rr ln zs parts=>cases hf
 | makeMat q t e κ bytes l c=>cases hf
 | storeRow t x y=>cases hf
end
def Eff.pt (i:Nat) (x:Option Blk):Eff->Option Blk
 | .none=>x
 | .set b o=>if b=i then x.map fun _=>o else x
 | .app b o=>if b=i then x.map fun _=>o else x.map (Blk.drop b)
def Eff.dr:Eff->V->V
 | .app b _=>V.drop b
 | _=>id
theorem Eff.ap_heap (E:Eff) (st:St) (i:Nat):(E.ap st).heap[i]?=E.pt i st.heap[i]?:=by
 cases E with
 | none=>rfl
 | set b o =>
  simp only [Eff.ap,Eff.pt,St.setB]
  by_cases h:b=i
  ·subst h
   rw [if_pos rfl,List.getElem?_set]
   simp only [if_true]
   by_cases hl:b<st.heap.length
   ·rw [if_pos hl,qgZ hl];rfl
   ·rw [if_neg hl,rmZ (by omega)];rfl
  ·rw [if_neg h,qoZ h]
 | app b o =>
  simp only [Eff.ap,Eff.pt,St.setB,St.drop]
  by_cases h:b=i
  ·subst h
   rw [if_pos rfl,List.getElem?_set]
   simp only [if_true,rcZ]
   by_cases hl:b<st.heap.length
   ·rw [if_pos hl,qgZ hl];rfl
   ·rw [if_neg hl,rmZ (by omega)];rfl
  ·rw [if_neg h,qoZ h,qhZ]
theorem Eff.ap_env (E:Eff) (st:St):(E.ap st).env=st.env.map E.dr:=by
 cases E<;>simp [Eff.ap,Eff.dr,St.setB,St.drop]
theorem V0.drop_not {b:Nat} {y:V0} (h:b∉y.ids):y.drop b=y:=by
 cases y with
 | own b' off len =>
  have:(b' == b)=false:=by simp [V0.ids] at h;simp;exact fun hh=>h hh.symm
  simp [V0.drop,this]
 | aptr b' i j =>
  have:(b' == b)=false:=by simp [V0.ids] at h;simp;exact fun hh=>h hh.symm
  simp [V0.drop,this]
 | mrow b' i =>
  have:(b' == b)=false:=by simp [V0.ids] at h;simp;exact fun hh=>h hh.symm
  simp [V0.drop,this]
 | mptr b' i j =>
  have:(b' == b)=false:=by simp [V0.ids] at h;simp;exact fun hh=>h hh.symm
  simp [V0.drop,this]
 | _=>rfl
theorem V0.drop_known {b:Nat} {y:V0} (h:(y.drop b).known=true):y.drop b=y:=by
 cases y with
 | own b' off len =>
  simp only [V0.drop] at h ⊢
  cases hb:(b' == b) with
  | false=>rfl
  | true=>rw [hb] at h;cases h
 | aptr b' i j =>
  simp only [V0.drop] at h ⊢
  cases hb:(b' == b) with
  | false=>rfl
  | true=>rw [hb] at h;cases h
 | mrow b' i =>
  simp only [V0.drop] at h ⊢
  cases hb:(b' == b) with
  | false=>rfl
  | true=>rw [hb] at h;cases h
 | mptr b' i j =>
  simp only [V0.drop] at h ⊢
  cases hb:(b' == b) with
  | false=>rfl
  | true=>rw [hb] at h;cases h
 | _=>rfl
theorem V0.drop_ids {b x:Nat} {y:V0} (h:x∈(y.drop b).ids):x∈y.ids:=by
 cases y with
 | own b' off len =>
  simp only [V0.drop] at h
  cases hb:(b' == b) with
  | false=>rw [hb] at h;exact h
  | true=>rw [hb] at h;cases h
 | aptr b' i j =>
  simp only [V0.drop] at h
  cases hb:(b' == b) with
  | false=>rw [hb] at h;exact h
  | true=>rw [hb] at h;cases h
 | mrow b' i =>
  simp only [V0.drop] at h
  cases hb:(b' == b) with
  | false=>rw [hb] at h;exact h
  | true=>rw [hb] at h;cases h
 | mptr b' i j =>
  simp only [V0.drop] at h
  cases hb:(b' == b) with
  | false=>rw [hb] at h;exact h
  | true=>rw [hb] at h;cases h
 | _=>exact h
theorem V0.drop_comm (b c:Nat) (y:V0):(y.drop c).drop b=(y.drop b).drop c:=by
 cases y with
 | own b' off len=>simp only [V0.drop];cases h1:(b' == b)<;>cases h2:(b' == c)<;>simp [V0.drop,h1,h2]
 | aptr b' i j=>simp only [V0.drop];cases h1:(b' == b)<;>cases h2:(b' == c)<;>simp [V0.drop,h1,h2]
 | mrow b' i=>simp only [V0.drop];cases h1:(b' == b)<;>cases h2:(b' == c)<;>simp [V0.drop,h1,h2]
 | mptr b' i j=>simp only [V0.drop];cases h1:(b' == b)<;>cases h2:(b' == c)<;>simp [V0.drop,h1,h2]
 | _=>rfl
theorem oE {α:Type} {f:α->α} {l:List α} (h:∀ x∈l,f x=x):l.map f=l:=by
 induction l with
 | nil=>rfl
 | cons a l ih=>rw [List.map_cons,h a (qmZ ..),ih fun x hx=>h x (qjZ _ hx)]
theorem V.drop_not {b:Nat} {y:V} (h:b∉y.ids):y.drop b=y:=by
 cases y with
 | x y=>simp only [V.drop];rw [V0.drop_not h]
 | agg l =>
  simp only [V.drop]
  rw [oE fun x hx=>V0.drop_not fun hb=>h (qyZ.2 ⟨_,rjZ.2 ⟨x,hx,rfl⟩,hb⟩)]
 | _=>rfl
theorem V.drop_known {b:Nat} {y:V} (h:(y.drop b).known=true):y.drop b=y:=by
 cases y with
 | x y=>simp only [V.drop];rw [V0.drop_known h]
 | agg l =>
  simp only [V.drop,V.known,List.all_map,qiZ] at h ⊢
  rw [oE fun x hx=>V0.drop_known (h x hx)]
 | _=>rfl
theorem V.drop_comm (b c:Nat) (y:V):(y.drop c).drop b=(y.drop b).drop c:=by
 cases y with
 | x y=>simp only [V.drop];rw [V0.drop_comm]
 | agg l=>simp only [V.drop,List.map_map];congr 1;apply List.map_congr_left;intro x _;exact V0.drop_comm b c x
 | _=>rfl
theorem Blk.drop_not {b:Nat} {o:Blk} (h:b∉o.ids):o.drop b=o:=by
 cases o with
 | box cells =>
  simp only [Blk.drop]
  rw [oE fun x hx=>V0.drop_not fun hb=>h (qyZ.2 ⟨_,rjZ.2 ⟨x,hx,rfl⟩,hb⟩)]
 | _=>rfl
theorem Blk.drop_ids {b x:Nat} {o:Blk} (h:x∈(o.drop b).ids):x∈o.ids:=by
 cases o with
 | box cells =>
  simp only [Blk.drop,Blk.ids,List.map_map] at h
  obtain ⟨s,hs,hx⟩:=qyZ.1 h
  obtain ⟨y,hy,rfl⟩:=rjZ.1 hs
  exact qyZ.2 ⟨_,rjZ.2 ⟨y,hy,rfl⟩,V0.drop_ids hx⟩
 | _=>exact h
theorem Eff.dr_comm (E F:Eff) (v:V):E.dr (F.dr v)=F.dr (E.dr v):=by
 cases E<;>cases F<;>first | rfl | exact V.drop_comm ..
section
variable {C : ao} {hb : Nat}
theorem Eff.pt_id {E:Eff} {φ:dH} {st:St} (h:E.ok φ st) {i:Nat} (hi:i∉φ.wr):E.pt i st.heap[i]?=st.heap[i]?:=by
 cases E with
 | none=>rfl
 | set b o =>
  have:b≠i:=fun hh=>hi (hh ▸ h.1)
  simp [Eff.pt,this]
 | app b o =>
  have:b≠i:=fun hh=>hi (hh ▸ h.1)
  simp only [Eff.pt,if_neg this]
  cases hq:st.heap[i]? with
  | none=>rfl
  | some o' =>
   simp only [Option.map_some]
   rw [Blk.drop_not fun hb=>hi (h.2.2.1 i o' hq hb)]
theorem Eff.dr_id {E:Eff} {φ:dH} {st:St} (h:E.ok φ st) {v:V} (hv:∀ b∈v.ids,b∈φ.wr->b∉φ.dr):E.dr v=v:=by
 cases E with
 | none=>rfl
 | set b o=>rfl
 | app b o=>exact V.drop_not fun hb=>hv b hb h.1 h.2.2.2
theorem Eff.dr_known {E:Eff} {v:V} (h:(E.dr v).known=true):E.dr v=v:=by
 cases E with
 | none=>rfl
 | set b o=>rfl
 | app b o=>exact V.drop_known h
structure oo (C:ao) (hb:Nat) (st:St) (f:FOp) (φ:dH) (us:List Nat) (v:V) (E:Eff):Prop where
 sub:∀ t∈us,t∈f.uses
 loc:∀ st2:St,(∀ t∈us,st2.env.getD t .u=st.env.getD t .u)->(∀ b,φ.has b->st2.heap[b]?=st.heap[b]?)->∀ {ρ:Type} (k:St->Option ρ),ca C hb st2 [f] k=k ((E.ap st2).putO f.dst v)
 eff:E.ok φ st
 vids:∀ x∈v.ids,φ.names x
 uids:∀ t∈us,(st.env.getD t .u).known=true/\∀ b∈(st.env.getD t .u).ids,φ.names b
 cids:∀ b∈φ.wr,∀ x∈lA st.heap b,φ.has x
variable {st : St} {f p : FOp} {φ ψ : dH} {us ws : List Nat} {v u : V} {E F : Eff}
theorem oo.after (h:oo C hb st f φ us v E) {b:Nat} (hb' : b∈φ.wr) {o:Blk} (ho:E.pt b st.heap[b]?=some o):∀ x∈o.ids,φ.has x:=by
 intro x hx
 have hc:=h.cids b hb'
 have he:=h.eff
 cases E with
 | none =>
  have ho:st.heap[b]?=some o:=ho
  exact hc x (by rw [dS ho];exact hx)
 | set b0 o0 =>
  simp only [Eff.pt] at ho
  split at ho
  ·cases hq:st.heap[b]? with
   | none=>rw [hq] at ho;cases ho
   | some o'=>rw [hq] at ho;cases ho;exact he.2 x hx
  ·exact hc x (by rw [dS ho];exact hx)
 | app b0 o0 =>
  simp only [Eff.pt] at ho
  split at ho
  ·cases hq:st.heap[b]? with
   | none=>rw [hq] at ho;cases ho
   | some o'=>rw [hq] at ho;cases ho;exact he.2.1 x hx
  ·cases hq:st.heap[b]? with
   | none=>rw [hq] at ho;cases ho
   | some o' =>
    rw [hq] at ho;cases ho
    exact hc x (by rw [dS hq];exact Blk.drop_ids hx)
theorem Eff.ok_move {st' : St} (h:E.ok φ st) (hN:∀ (b' : Nat) (o' : Blk),st'.heap[b']?=some o'->b' ∉ φ.wr->∀ b∈φ.wr,b∈o'.ids->∃ o,st.heap[b']?=some o/\b∈o.ids):E.ok φ st':=by
 cases E with
 | none=>trivial
 | set b o=>exact h
 | app b o =>
  refine ⟨h.1,h.2.1,fun b' o' h1 h2=>?_,h.2.2.2⟩
  by_cases hb' : b' ∈ φ.wr
  ·exact hb'
  ·obtain ⟨o2,h3,h4⟩:=hN b' o' h1 hb' b h.1 h2
   exact h.2.2.1 b' o2 h3 h4
theorem oo.move {st' : St} (h:oo C hb st f φ us v E) (h1:∀ t∈us,st'.env.getD t .u=st.env.getD t .u) (h2:∀ b,φ.has b->st'.heap[b]?=st.heap[b]?)
  (hN:∀ (b' : Nat) (o' : Blk),st'.heap[b']?=some o'->b' ∉ φ.wr->∀ b∈φ.wr,b∈o'.ids->∃ o,st.heap[b']?=some o/\b∈o.ids):oo C hb st' f φ us v E where
 sub:=h.sub
 loc:=fun st2 he hh ρ k=>h.loc st2 (fun t ht=>(he t ht).trans (h1 t ht)) (fun b hb=>(hh b hb).trans (h2 b hb)) k
 eff:=Eff.ok_move h.eff hN
 vids:=h.vids
 uids:=fun t ht=>by rw [h1 t ht];exact h.uids t ht
 cids:=fun b hb=>by
  have:lA st'.heap b=lA st.heap b:=by unfold lA;rw [h2 b (.inr hb)]
  rw [this];exact h.cids b hb
theorem lf {a b:List Nat} (h:GZ a b=true) {x:Nat} (h1:x∈a) (h2:x∈b):False:=by
 unfold GZ at h
 have:=qiZ.1 h x h1
 simp at this
 exact this h2
structure sn (p f:FOp) (ψ φ:dH):Prop where
 d1:∀ d,p.dst=some d->d∉f.uses
 d2:∀ d,f.dst=some d->d∉p.uses
 d3:∀ d,p.dst=some d->f.dst≠some d
 w1:∀ b∈ψ.wr,¬ φ.has b
 w2:∀ b∈φ.wr,¬ ψ.has b
 n1:∀ b∈ψ.dr,b∉φ.nm
 n2:∀ b∈φ.dr,b∉ψ.nm
theorem sn.symm (h:sn p f ψ φ):sn f p φ ψ:=⟨h.d2,h.d1,fun d h1 h2=>h.d3 d h2 h1,h.w2,h.w1,h.n2,h.n1⟩
theorem OQ (h:(Dq p f&&ψ.indep φ)=true):sn p f ψ φ:=by
 rw [qaZ] at h
 obtain ⟨hs,hi⟩:=h
 unfold Dq at hs
 unfold dH.indep at hi
 simp only [qaZ] at hs hi
 obtain ⟨⟨⟨⟨i1,i2⟩,i3⟩,i4⟩,i5⟩:=hi
 refine ⟨fun d hd hm=>?_,fun d hd hm=>?_,fun d hd hm=>?_,fun b hb hm=>?_,fun b hb hm=>?_,fun b hb hm=>lf i4 hb hm,fun b hb hm=>lf i5 hm hb⟩
 ·rw [hd] at hs
  simp only [qaZ,Bool.not_eq_true',List.contains_eq_mem,decide_eq_false_iff_not] at hs
  exact hs.1.1 hm
 ·rw [hd] at hs
  simp only [Bool.not_eq_true',List.contains_eq_mem,decide_eq_false_iff_not] at hs
  exact hs.2 hm
 ·rw [hd,hm] at hs
  simp at hs
 ·rcases hm with hm | hm
  ·exact lf i1 hb hm
  ·exact lf i2 hb hm
 ·rcases hm with hm | hm
  ·exact lf i3 hm hb
  ·exact lf i2 hm hb
theorem Bq (hw:∀ b∈φ.wr,¬ ψ.has b) (hn:∀ b∈φ.dr,b∉ψ.nm) {b:Nat} (h:ψ.names b) (h1:b∈φ.wr):b∉φ.dr:=fun h2=>by
 rcases h with h | h
 ·exact hw b h1 h
 ·exact hn b h2 h
theorem oJ (E:Eff) (l:List V) (t:Nat):(l.map E.dr).getD t .u=E.dr (l.getD t .u):=by
 rw [qdZ,qdZ,qhZ]
 cases l[t]? with
 | none=>cases E<;>rfl
 | some v=>rfl
theorem ow {st:St} {d:Option Nat} {v:V} {t:Nat} (h:d≠some t):(st.putO d v).env.getD t .u=st.env.getD t .u:=by
 cases d with
 | none=>rfl
 | some d =>
  simp only [St.putO,St.put]
  rw [qdZ,qdZ,qoZ (fun hh=>h (by rw [hh]))]
theorem oo.swap (hp:oo C hb st p ψ ws u F) (hf:oo C hb ((F.ap st).putO p.dst u) f φ us v E) (ha:sn p f ψ φ) :
  oo C hb st f φ us v E/\oo C hb ((E.ap st).putO f.dst v) p ψ ws u F/\(F.ap ((E.ap st).putO f.dst v)).putO p.dst u=(E.ap ((F.ap st).putO p.dst u)).putO f.dst v:=by
 have hh1:∀ b,b∉ψ.wr->((F.ap st).putO p.dst u).heap[b]?=st.heap[b]?:=fun b hb=>by
  rw [St.putO_heap,Eff.ap_heap];exact Eff.pt_id hp.eff hb
 have hback:oo C hb st f φ us v E:=by
  refine hf.move (fun t ht=>?_) (fun b hb'=>(hh1 b fun hw=>ha.w1 b hw hb').symm) (fun b' o' h1 h2 b hb' h3=>?_)
  ·have hk:=(hf.uids t ht).1
   have hne:p.dst≠some t:=fun hd=>ha.d1 t hd (hf.sub t ht)
   rw [ow hne,Eff.ap_env,oJ] at hk
   rw [ow hne,Eff.ap_env,oJ,Eff.dr_known hk]
  ·by_cases hw:b' ∈ ψ.wr
   ·exact (ha.w2 b hb' (hp.cids b' hw b (by rw [dS h1];exact h3))).elim
   ·exact ⟨o',by rw [hh1 b' hw];exact h1,h3⟩
 have hh2:∀ b,b∉φ.wr->((E.ap st).putO f.dst v).heap[b]?=st.heap[b]?:=fun b hb=>by
  rw [St.putO_heap,Eff.ap_heap];exact Eff.pt_id hback.eff hb
 have hfwd:oo C hb ((E.ap st).putO f.dst v) p ψ ws u F:=by
  refine hp.move (fun t ht=>?_) (fun b hb'=>hh2 b fun hw=>ha.w2 b hw hb') (fun b' o' h1 h2 b hb' h3=>?_)
  ·have hne:f.dst≠some t:=fun hd=>ha.d2 t hd (hp.sub t ht)
   rw [ow hne,Eff.ap_env,oJ]
   exact Eff.dr_id hback.eff fun b hb hw=>Bq ha.w2 ha.n2 ((hp.uids t ht).2 b hb) hw
  ·by_cases hw:b' ∈ φ.wr
   ·rw [St.putO_heap,Eff.ap_heap] at h1
    exact (ha.w1 b hb' (hback.after hw h1 b h3)).elim
   ·exact ⟨o',by rw [hh2 b' hw] at h1;exact h1,h3⟩
 refine ⟨hback,hfwd,?_⟩
 have hheap:((F.ap ((E.ap st).putO f.dst v)).putO p.dst u).heap=((E.ap ((F.ap st).putO p.dst u)).putO f.dst v).heap:=by
  apply List.ext_getElem?
  intro i
  simp only [St.putO_heap,Eff.ap_heap]
  by_cases hw:i∈ψ.wr
  ·have hn:i∉φ.wr:=fun hh=>ha.w1 i hw (.inr hh)
   have e1:=Eff.pt_id hback.eff hn
   have e2:=Eff.pt_id hf.eff hn
   simp only [St.putO_heap,Eff.ap_heap] at e2
   rw [e1,e2]
  ·have e1:=Eff.pt_id hp.eff hw
   have e2:=Eff.pt_id hfwd.eff hw
   simp only [St.putO_heap,Eff.ap_heap] at e2
   rw [e1,e2]
 have henv:((F.ap ((E.ap st).putO f.dst v)).putO p.dst u).env=((E.ap ((F.ap st).putO p.dst u)).putO f.dst v).env:=by
  have eu:E.dr u=u:=Eff.dr_id hf.eff fun b hb hw=>Bq ha.w2 ha.n2 (hp.vids b hb) hw
  have ev:F.dr v=v:=Eff.dr_id hp.eff fun b hb hw=>Bq ha.w1 ha.n1 (hf.vids b hb) hw
  have ec:(st.env.map E.dr).map F.dr=(st.env.map F.dr).map E.dr:=by
   simp only [List.map_map];apply List.map_congr_left;intro x _;exact Eff.dr_comm F E x
  cases hpd:p.dst with
  | none =>
   cases hfd:f.dst with
   | none=>simp only [St.putO,Eff.ap_env];exact ec
   | some d=>simp only [St.putO,St.put,Eff.ap_env,List.map_set,ev];rw [ec]
  | some d =>
   cases hfd:f.dst with
   | none=>simp only [St.putO,St.put,Eff.ap_env,List.map_set,eu];rw [ec]
   | some d' =>
    have hne:d'≠d:=fun hh=>ha.d3 d hpd (by rw [hfd,hh])
    simp only [St.putO,St.put,Eff.ap_env,List.map_set,ev,eu]
    rw [ec,List.set_comm _ _ hne]
 revert hheap henv
 generalize (F.ap ((E.ap st).putO f.dst v)).putO p.dst u=s1
 generalize (E.ap ((F.ap st).putO p.dst u)).putO f.dst v=s2
 intro h1 h2
 cases s1;cases s2
 cases h1;cases h2;rfl
end
variable {df : DF}
section
variable {ρ : Type} {C : ao} {hb : Nat} {st : St}
theorem tG {t:Nat} {v:V} (h:st.env.getD t .u=v) (hv:v≠.u):st.put t v=st:=by
 unfold St.put
 have hlt:t<st.env.length:=by
  rcases Nat.lt_or_ge t st.env.length with hl | hl
  ·exact hl
  ·rw [qdZ,rmZ hl] at h
   exact (hv h.symm).elim
 have:st.env.set t v=st.env:=by
  rw [qdZ,qgZ hlt] at h
  simp only [Option.getD_some] at h
  subst h
  exact List.set_getElem_self hlt
 rw [this]
theorem dJ:∀ {l:List Operand} {t:Nat},t∈dM l↔.tmp t∈l
 | [],t=>by simp [dM]
 | .tmp s::l,t=>by simp [dM,dJ (l:=l)]
 | .const _::l,t=>by simp [dM,dJ (l:=l)]
 | .func _::l,t=>by simp [dM,dJ (l:=l)]
 | .global _::l,t=>by simp [dM,dJ (l:=l)]
theorem Db {o:AOp} {φ:dH} {st2:St} (h1:∀ t∈dM o.erase.operands.toList,st2.env.getD t .u=st.env.getD t .u) (h2:∀ b,φ.has b->st2.heap[b]?=st.heap[b]?):tk o φ st st2:=by
 refine ⟨fun x hx=>?_,h2⟩
 cases x with
 | tmp t=>exact h1 t (dJ.2 hx)
 | _=>rfl
theorem GM {f:FOp} {φ:dH} {k:V->St->Option ρ} {r:ρ} (hg:f.guard=none) (hf:dh hb st f.op=some φ) (h:aj C hb st f.op k=some r):∃ us v E,oo C hb st f φ us v E:=by
 obtain ⟨v,E,hl⟩:=Fo hf h
 refine ⟨dM f.op.erase.operands.toList,v,E,?_,?_,hl.eff,hl.vids,?_,hl.cids⟩
 ·intro t ht
  unfold FOp.uses
  exact qvZ _ ht
 ·intro st2 h1 h2 ρ k
  unfold ca
  rw [hg]
  dsimp only
  rw [hl.loc st2 (Db h1 h2)]
  simp only [ca]
 ·intro t ht
  exact hl.uids _ (dJ.1 ht)
theorem GN {f:FOp} {φ:dH} {k:V->St->Option ρ} {r:ρ} {t:Nat} {want:Bool} (hg:f.guard=some (t,want)) (hx:st.env.getD t .u=.x (.c (.b want))) (hf:dh hb st f.op=some φ)
  (h:aj C hb st f.op k=some r):∃ us v E,oo C hb st f φ us v E:=by
 obtain ⟨v,E,hl⟩:=Fo hf h
 refine ⟨t::dM f.op.erase.operands.toList,v,E,?_,?_,hl.eff,hl.vids,?_,hl.cids⟩
 ·intro s hs
  unfold FOp.uses
  rw [hg]
  rcases List.mem_cons.1 hs with rfl | hs
  ·simp
  ·exact qvZ _ hs
 ·intro st2 h1 h2 ρ k
  have hx2:st2.env.getD t .u=.x (.c (.b want)):=(h1 t (qmZ ..)).trans hx
  have hps:st2.put t (bl want)=st2:=tG hx2 (by intro hh;cases hh)
  unfold ca
  rw [hg]
  dsimp only
  rw [hx2]
  simp only [BEq.rfl,cond_true]
  rw [hps,hl.loc st2 (Db (fun s hs=>h1 s (qjZ _ hs)) h2)]
  simp only [ca]
 ·intro s hs
  rcases List.mem_cons.1 hs with rfl | hs
  ·rw [hx];exact ⟨rfl,fun b hb=>by cases hb⟩
  ·exact hl.uids _ (dJ.1 hs)
theorem Ku {f:FOp} {t:Nat} {want:Bool} (hg:f.guard=some (t,want)) (hx:st.env.getD t .u=.x (.c (.b (!want)))):oo C hb st f ⟨[],[],[],[]⟩ [t] .undef .none:=by
 refine ⟨?_,?_,trivial,(fun x hx=>by cases hx),?_,(fun b hb=>by cases hb)⟩
 ·intro s hs
  unfold FOp.uses
  rw [hg]
  simp only [qzZ] at hs
  subst hs
  simp
 ·intro st2 h1 h2 ρ k
  have hx2:st2.env.getD t .u=.x (.c (.b (!want))):=(h1 t (qmZ ..)).trans hx
  have hps:st2.put t (bl !want)=st2:=tG hx2 (by intro hh;cases hh)
  unfold ca
  rw [hg]
  dsimp only
  rw [hx2]
  have:((!want)==want)=false:=by cases want<;>rfl
  simp only [this,cond_false,hps,ca]
  rfl
 ·intro s hs
  simp only [qzZ] at hs
  subst hs
  rw [hx];exact ⟨rfl,fun b hb=>by cases hb⟩
theorem GL {f:FOp} {t:Nat} {want:Bool} (hg:f.guard=some (t,want)) (hx:st.env.getD t .u=.undef):oo C hb st f ⟨[],[],[],[]⟩ [t] .undef .none:=by
 refine ⟨?_,?_,trivial,(fun x hx=>by cases hx),?_,(fun b hb=>by cases hb)⟩
 ·intro s hs
  unfold FOp.uses
  rw [hg]
  simp only [qzZ] at hs
  subst hs
  simp
 ·intro st2 h1 h2 ρ k
  have hx2:st2.env.getD t .u=.undef:=(h1 t (qmZ ..)).trans hx
  unfold ca
  rw [hg]
  dsimp only
  rw [hx2]
  simp only [ca]
  rfl
 ·intro s hs
  simp only [qzZ] at hs
  subst hs
  rw [hx];exact ⟨rfl,fun b hb=>by cases hb⟩
structure Ent where
 i:Nat
 f:FOp
 ord:List Nat
 φ:dH
 bar:Bool
inductive lL (C:ao) (hb:Nat) (k:St->Option ρ) (r:ρ):St->List Ent->Prop
 | nil {st:St} (h:k st=some r):lL C hb k r st []
 | cons {st:St} {e:Ent} {L:List Ent} {us:List Nat} {v:V} {E:Eff} (hl:oo C hb st e.f e.φ us v E) (h:lL C hb k r ((E.ap st).putO e.f.dst v) L)
   (hz:e.bar=false) (hm:∀ x∈L,e.i∈x.ord\/(x.bar=false/\sn e.f x.f e.φ x.φ)):lL C hb k r st (e::L)
 | bar {st st1:St} {e:Ent} {L:List Ent} (hs:∀ {ρ' : Type} (k' : St->Option ρ'),ca C hb st [e.f] k' = k' st1) (h:lL C hb k r st1 L) (hz:e.bar=true) (hm:∀ x∈L,e.i∈x.ord):lL C hb k r st (e::L)
variable {k : St -> Option ρ} {r : ρ}
theorem lL.head {e:Ent} {L:List Ent} (h:lL C hb k r st (e::L)):∃ st1,(∀ {ρ' : Type} (k' : St->Option ρ'),ca C hb st [e.f] k' = k' st1)/\lL C hb k r st1 L:=by
 cases h with
 | cons hl h hb hm=>exact ⟨_,fun k'=>hl.loc st (fun _ _=>rfl) (fun _ _=>rfl) k',h⟩
 | bar hs h hb hm=>exact ⟨_,hs,h⟩
theorem lL.bubble {e:Ent} {B:List Ent}:∀ {A:List Ent} {st:St},lL C hb k r st (A ++ e::B)->(∀ a∈A,a.i∉e.ord)->lL C hb k r st (e::(A ++ B))
 | [],st,h,_=>h
 | a::A,st,h,hA=>by
  cases h with
  | bar hs h hb hm=>exact (hA a (qmZ ..) (hm e (by simp))).elim
  | cons hl h hb1 hm =>
   have ih:=lL.bubble h fun x hx=>hA x (qjZ _ hx)
   cases ih with
   | bar hs2 h2 hb2 hm2 =>
    rcases hm e (by simp) with h3 | h3
    ·exact (hA a (qmZ ..) h3).elim
    ·rw [h3.1] at hb2;cases hb2
   | cons hl2 h2 hb2 hm2 =>
    have hap:sn a.f e.f a.φ e.φ:=by
     rcases hm e (by simp) with h3 | h3
     ·exact (hA a (qmZ ..) h3).elim
     ·exact h3.2
    obtain ⟨f1,f2,f3⟩:=hl.swap hl2 hap
    refine .cons f1 (.cons f2 (by rw [f3];exact h2) hb1 fun x hx=>hm x ?_) hb2 fun x hx=>?_
    ·rcases List.mem_append.1 hx with h4 | h4
     ·exact qvZ _ h4
     ·exact qwZ _ (qjZ _ h4)
    ·rcases List.mem_cons.1 hx with rfl | hx
     ·exact .inr ⟨hb1,hap.symm⟩
     ·exact hm2 x hx
theorem Rm {hb0:Nat} {o:AOp} {k:V->St->Option ρ} (hb:Tj o=true) (h:aj C hb0 st o k=some r):∃ v st1,∀ {ρ' : Type} (k' : V->St->Option ρ'),aj C hb0 st o k' = k' v st1:=by
 rw [lO] at h
 cases hq:(aj C hb0 st o fun v s=>some (v,s)) with
 | none=>rw [hq] at h;cases h
 | some p=>exact ⟨p.1,p.2,fun k'=>by rw [lO,hq];rfl⟩
theorem tL {f:FOp} {φ:dH} {ord:List Nat}:∀ {l:List (Nat × FOp × dH)},lM f φ ord l=true->∀ d∈l,d.1∈ord\/sn d.2.1 f d.2.2 φ
 | [],_,d,hd=>by cases hd
 | (i,p,ψ)::l,h,d,hd=>by
  unfold lM at h
  rw [qaZ] at h
  rcases List.mem_cons.1 hd with rfl | hd
  ·rw [Bool.or_eq_true] at h
   rcases h.1 with h1 | h1
   ·exact .inl (by simpa using h1)
   ·exact .inr (OQ h1)
  ·exact tL h.2 d hd
theorem FC (n:Nat) (done:List (Nat × FOp × dH)) (o:FOp) (l:List FOp) (ords:List (List Nat)):dU C hb st n done (o::l) ords k=dU C hb st n done (o::l) (ords.getD 0 []::ords.tail) k:=by
 cases ords<;>rfl
theorem AW:∀ {l:List FOp} {ords:List (List Nat)} {st:St} {n:Nat} {done:List (Nat × FOp × dH)},dU C hb st n done l ords k=some r ->
  ∃ L:List Ent,lL C hb k r st L/\L.length=l.length/\(∀ (j:Nat) (e:Ent),L[j]?=some e->e.i=n+j/\l[j]?=some e.f/\e.ord=ords.getD j [])/\∀ d∈done,∀ x∈L,d.1∈x.ord\/(x.bar=false/\sn d.2.1 x.f d.2.2 x.φ)
 | [],ords,st,n,done,h=>⟨[],.nil h,rfl,fun j e he=>by simp at he,fun d _ x hx=>by cases hx⟩
 | o::l,ords,st,n,done,h=>by
  have step:∀ (φ:dH) (us:List Nat) (v:V) (E:Eff) (st1:St),oo C hb st o φ us v E->(E.ap st).putO o.dst v=st1->lM o φ (ords.getD 0 []) done=true ->
    dU C hb st1 (n+1) ((n,o,φ)::done) l ords.tail k=some r ->
    ∃ L:List Ent,lL C hb k r st L/\L.length=(o::l).length/\(∀ (j:Nat) (e:Ent),L[j]?=some e->e.i=n+j/\(o::l)[j]?=some e.f/\e.ord=ords.getD j [])/\∀ d∈done,∀ x∈L,d.1∈x.ord\/(x.bar=false/\sn d.2.1 x.f d.2.2 x.φ):=by
   intro φ us v E st1 hl hst hm h
   obtain ⟨L,hc,hlen,hat,hd⟩:=AW h
   subst hst
   refine ⟨⟨n,o,ords.getD 0 [],φ,false⟩::L,.cons hl hc rfl fun x hx=>hd _ (qmZ ..) x hx,by simp [hlen],fun j e he=>?_,fun d hdd x hx=>?_⟩
   ·cases j with
    | zero=>simp at he;subst he;exact ⟨rfl,rfl,rfl⟩
    | succ j =>
     obtain ⟨h1,h2,h3⟩:=hat j e (by simpa using he)
     refine ⟨by rw [h1];omega,by simpa using h2,?_⟩
     rw [h3]
     cases ords with
     | nil=>simp
     | cons x y=>simp
   ·rcases List.mem_cons.1 hx with rfl | hx
    ·exact (tL hm d hdd).imp id fun h=>⟨rfl,h⟩
    ·exact hd d (qjZ _ hdd) x hx
  rw [FC] at h
  unfold dU at h
  dsimp only at h
  split at h
  ·rename_i hg
   split at h
   ·obtain ⟨hbar,h⟩:=ah h
    rw [qaZ,qaZ] at hbar
    obtain ⟨hb1,hb2,hb3⟩:=hbar
    obtain ⟨v,st1,hf⟩:=Rm hb1 h
    rw [hf] at h
    obtain ⟨L,hc,hlen,hat,hd⟩:=AW h
    refine ⟨⟨n,o,ords.getD 0 [],⟨[],[],[],[]⟩,true⟩::L,.bar (st1:=st1.putO o.dst v) (fun k'=>?_) hc rfl (fun x hx=>?_),by simp [hlen],fun j e he=>?_,fun d hdd x hx=>?_⟩
    ·unfold ca
     rw [hg]
     dsimp only
     rw [hf]
     simp only [ca]
    ·obtain ⟨j,hj⟩:=List.mem_iff_getElem?.1 hx
     obtain ⟨_,_,h3⟩:=hat j x hj
     have hlt:j<l.length:=by rw [<- hlen];exact (qfZ.1 hj).1
     have:=qiZ.1 hb3 j (by simpa using hlt)
     rw [h3]
     simpa using this
    ·cases j with
     | zero=>simp at he;subst he;exact ⟨rfl,rfl,rfl⟩
     | succ j =>
      obtain ⟨h1,h2,h3⟩:=hat j e (by simpa using he)
      refine ⟨by rw [h1];omega,by simpa using h2,?_⟩
      rw [h3]
      cases ords with
      | nil=>simp
      | cons x y=>simp
    ·rcases List.mem_cons.1 hx with rfl | hx
     ·left
      have:=qiZ.1 hb2 d hdd
      simpa using this
     ·exact hd d hdd x hx
   ·rename_i φ hφ
    obtain ⟨hm,h⟩:=ah h
    obtain ⟨us,v,E,hl⟩:=GM hg hφ h
    have e1:=hl.loc st (fun _ _=>rfl) (fun _ _=>rfl) (fun s=>dU C hb s (n+1) ((n,o,φ)::done) l ords.tail k)
    unfold ca at e1
    rw [hg] at e1
    dsimp only at e1
    simp only [ca] at e1
    rw [e1] at h
    exact step φ us v E _ hl rfl hm h
  ·rename_i t want hg
   split at h
   ·rename_i x hx
    cases hxw:(x==want) with
    | true =>
     rw [hxw] at h
     have hxe:x=want:=by simpa using hxw
     subst hxe
     have hps:st.put t (bl x)=st:=tG hx (by intro hh;cases hh)
     rw [hps] at h
     simp only [cond_true] at h
     split at h
     ·cases h
     ·rename_i φ hφ
      obtain ⟨hm,h⟩:=ah h
      obtain ⟨us,v,E,hl⟩:=GN hg hx hφ h
      have e1:=hl.loc st (fun _ _=>rfl) (fun _ _=>rfl) (fun s=>dU C hb s (n+1) ((n,o,φ)::done) l ords.tail k)
      unfold ca at e1
      rw [hg] at e1
      dsimp only at e1
      rw [hx] at e1
      simp only [ca,BEq.rfl,cond_true,hps] at e1
      rw [e1] at h
      exact step φ us v E _ hl rfl hm h
    | false =>
     rw [hxw] at h
     have hxe:x = !want:=by cases x<;>cases want<;>simp_all
     subst hxe
     have hps:st.put t (bl !want)=st:=tG hx (by intro hh;cases hh)
     simp only [cond_false] at h
     obtain ⟨hm,h⟩:=ah h
     rw [hps] at h
     exact step ⟨[],[],[],[]⟩ [t] .undef .none _ (Ku hg hx) rfl hm h
   ·rename_i hx
    obtain ⟨hm,h⟩:=ah h
    exact step ⟨[],[],[],[]⟩ [t] .undef .none _ (GL hg hx) rfl hm h
   ·cases h
end
def OG (o:Oper):List Nat:=(o.after.toList.filter (Region.binds .any)).map (·.on)
def lP (ords:List (List Nat)) (i:Nat) (o:Oper):Bool :=
 ((OG o).all fun e=>Nat.blt e i)&&(ords.getD i []).all fun j=>(OG o).any fun e=>Nat.beq e j||(ords.getD e []).any (Nat.beq j)
def l5 (ords:List (List Nat)):Nat->List Oper->Bool
 | _,[]=>true
 | i,o::l=>lP ords i o&&l5 ords (i+1) l
theorem jx {ords:List (List Nat)}:∀ {l:List Oper} {n:Nat},l5 ords n l=true->∀ (i:Nat) (o:Oper),l[i]?=some o->lP ords (n+i) o=true
 | [],n,_,i,o,h=>by simp at h
 | x::l,n,hc,i,o,h=>by
  unfold l5 at hc
  rw [qaZ] at hc
  cases i with
  | zero=>simp at h;subst h;exact hc.1
  | succ i =>
   have:=jx hc.2 i o (by simpa using h)
   rw [show n+(i+1)=n+1+i by omega];exact this
theorem dR {md:Region.Mode} {ops:Array Oper} {listed:Array Bool} {i:Nat}:i∈Region.ready md ops listed↔i<ops.size/\listed.getD i true=false/\∃ o,ops[i]?=some o/\∀ e∈o.after.toList,Region.binds md e=true->listed.getD e.on false=true:=by
 unfold Region.ready
 simp only [List.mem_filter,riZ,qaZ,Bool.not_eq_true']
 constructor
 ·rintro ⟨h1,h2,h3⟩
  refine ⟨h1,h2,?_⟩
  cases ho:ops[i]? with
  | none=>rw [ho] at h3;cases h3
  | some o =>
   rw [ho] at h3
   simp only [Option.map_some,Option.getD_some,Array.all_eq_true'] at h3
   refine ⟨o,rfl,fun e he hb=>?_⟩
   have:=h3 e (by simpa using he)
   rw [hb] at this
   simpa using this
 ·rintro ⟨h1,h2,o,ho,h3⟩
  refine ⟨h1,h2,?_⟩
  rw [ho]
  simp only [Option.map_some,Option.getD_some,Array.all_eq_true']
  intro e he
  cases hb:Region.binds md e with
  | false=>rfl
  | true=>simpa using h3 e (by simpa using he) hb
section
variable {ρ : Type} {P : Program} {C : ao} {hb : Nat} {w0 : cD} {okA : Nat -> Prop} {fl : Option Nat} {fd : Nat} {r : ρ} {Q : Exit -> Act -> World -> Prop} {ops : Array Oper}
theorem KF (hC:az P C) {l:List FOp} (hfit:dZ P ops l) (hpin:∀ f,f∈l->∀ q,q∈df.2->f.dst≠some q.1) {ords:List (List Nat)} (hchk:l5 ords 0 ops.toList=true) {k:St->Option ρ}
  (hQ:∀ μ ok st a w,MR w0 okA μ ok st.heap w->ER df μ ok st.heap w st.env a->k st=some r->Q .normal a w) :
  ∀ (n:Nat) (L:List Ent) (listed:Array Bool) (μ:Nat->Option Nat) (ok:Nat->Prop) (st:St) (a:Act) (w:World),L.length=n->MR w0 okA μ ok st.heap w->ER df μ ok st.heap w st.env a ->
   lL C hb k r st L->(∀ e∈L,l[e.i]?=some e.f/\e.ord=ords.getD e.i [])->(L.map Ent.i).Nodup->listed.size=ops.size ->
   (∀ i,i<ops.size->(listed.getD i true=false↔i∈L.map Ent.i))->(∀ i,i<ops.size->listed.getD i true=true->∀ j∈ords.getD i [],listed.getD j false=true) ->
   wpAnyIn (wd fl) fd P .any ops Q n listed a w:=by
 have hgd:∀ (listed:Array Bool) (i:Nat),i<listed.size->listed.getD i true=listed.getD i false:=fun listed i hi=>by simp [Array.getD,hi]
 have hedge:∀ (i:Nat) (o:Oper),ops[i]?=some o->∀ e∈o.after.toList,Region.binds .any e=true->e.on<i:=by
  intro i o ho e he hb
  have:=jx hchk i o (by simpa using ho)
  unfold lP at this
  rw [qaZ] at this
  have h1:=qiZ.1 this.1 e.on (rjZ.2 ⟨e,List.mem_filter.2 ⟨he,hb⟩,rfl⟩)
  rw [rlZ] at h1
  simpa [Nat.blt_eq] using h1
 intro n
 induction n with
 | zero =>
  intro L listed μ ok st a w hlen hm he hc hL hnd hsz hiff hcl
  have:L = []:=List.length_eq_zero_iff.1 hlen
  subst this
  cases hc with
  | nil h =>
   refine ⟨?_,hQ _ _ _ _ _ hm he h⟩
   rw [rfZ]
   intro i hi
   obtain ⟨h1,h2,_⟩:=dR.1 hi
   have:=(hiff i h1).1 h2
   simp at this
 | succ n ih =>
  intro L listed μ ok st a w hlen hm he hc hL hnd hsz hiff hcl
  have hin:∀ e∈L,e.i<ops.size:=fun e hee=>by
   have:=(qfZ.1 (hL e hee).1).1
   rw [<- hfit.len];exact this
  refine ⟨fun hnil=>?_,fun i hi=>?_⟩
  ·exfalso
   -- the least of those that are left is ready
   have hex:∃ i,i<ops.size/\listed.getD i true=false:=by
    cases L with
    | nil=>simp at hlen
    | cons e L=>exact ⟨e.i,hin e (qmZ ..),(hiff e.i (hin e (qmZ ..))).2 (by simp)⟩
   obtain ⟨i0,h01,h02⟩:=hex
   have hmin:∃ i,(i<ops.size/\listed.getD i true=false)/\∀ j,j<i->¬ (j<ops.size/\listed.getD j true=false):=by
    induction i0 using Nat.strongRecOn with
    | _ i0 ihs =>
     by_cases hj:∃ j,j<i0/\j<ops.size/\listed.getD j true=false
     ·obtain ⟨j,hj1,hj2,hj3⟩:=hj
      exact ihs j hj1 hj2 hj3
     ·exact ⟨i0,⟨h01,h02⟩,fun j hji hjj=>hj ⟨j,hji,hjj⟩⟩
   obtain ⟨i,⟨h1,h2⟩,h3⟩:=hmin
   have:i∈Region.ready .any ops listed:=by
    refine dR.2 ⟨h1,h2,ops[i],by simp [h1],fun e he hb=>?_⟩
    have hlt:=hedge i ops[i] (by simp [h1]) e he hb
    have:=h3 e.on hlt
    have hlt2:e.on<ops.size:=by omega
    cases hq:listed.getD e.on true with
    | false=>exact (this ⟨hlt2,hq⟩).elim
    | true=>rw [hgd listed e.on (by omega)] at hq;exact hq
   rw [hnil] at this
   cases this
  ·obtain ⟨h1,h2,o,ho,h3⟩:=dR.1 hi
   obtain ⟨e,heL,hei⟩:=rjZ.1 ((hiff i h1).1 h2)
   subst hei
   obtain ⟨A,B,hAB⟩:=List.append_of_mem heL
   subst hAB
   have hordl:∀ j∈e.ord,listed.getD j false=true:=by
    intro j hj
    rw [(hL e heL).2] at hj
    have hck:=jx hchk e.i o (by simpa using ho)
    unfold lP at hck
    rw [qaZ,rlZ] at hck
    have h4:=qiZ.1 hck.2 j hj
    obtain ⟨e',he',h5⟩:=List.any_eq_true.1 h4
    obtain ⟨ed,hed,rfl⟩:=rjZ.1 he'
    obtain ⟨hed1,hed2⟩:=List.mem_filter.1 hed
    have hl:=h3 ed hed1 hed2
    rw [Bool.or_eq_true] at h5
    rcases h5 with h5 | h5
    ·have:=qbZ h5
     rw [<- this];exact hl
    ·obtain ⟨j',hj',h6⟩:=List.any_eq_true.1 h5
     have:=qbZ h6
     subst this
     have hlt:=hedge e.i o ho ed hed1 hed2
     exact hcl ed.on (by omega) (by rw [hgd listed ed.on (by omega)];exact hl) j hj'
   have hAo:∀ x∈A,x.i∉e.ord:=by
    intro x hx hxo
    have hxL:x∈A ++ e::B:=qvZ _ hx
    have h4:=hordl x.i hxo
    have h5:=(hiff x.i (hin x hxL)).2 (rjZ.2 ⟨x,hxL,rfl⟩)
    rw [hgd listed x.i (by rw [hsz];exact hin x hxL)] at h5
    rw [h4] at h5;cases h5
   have hbub:=hc.bubble hAo
   obtain ⟨st1,hs1,hc2⟩:=hbub.head
   clear hbub
   ·obtain ⟨o',ho',hfo⟩:=hfit.at_ e.i e.f (hL e heL).1
    rw [ho] at ho'
    cases ho'
    have hsub:∀ x∈A ++ B,x∈A ++ e::B:=fun x hx=>by
     rcases List.mem_append.1 hx with h | h
     ·exact qvZ _ h
     ·exact qwZ _ (qjZ _ h)
    have hnd2:e.i∉(A ++ B).map Ent.i/\((A ++ B).map Ent.i).Nodup:=by
     have hp:((A ++ e::B).map Ent.i).Perm (e.i::(A ++ B).map Ent.i):=by
      have:(A ++ e::B).Perm (e::(A ++ B)):=List.perm_middle
      exact this.map Ent.i
     have:=hp.nodup_iff.1 hnd
     exact List.nodup_cons.1 this
    classical
    refine dP (r:=r) (C:=C) (hb:=hb) (k:=fun s=>if lL C hb k r s (A ++ B) then some r else none) hC hm he ho hfo (hpin _ (qrZ (hL e heL).1)) (fun μ' ok' st' a' w' hm' he' hk=>?_) ?_
    ·have hcert:lL C hb k r st' (A ++ B):=by
      by_cases hcc:lL C hb k r st' (A ++ B)
      ·exact hcc
      ·simp [hcc] at hk
     have hset:∀ j (d:Bool),(listed.setIfInBounds e.i true).getD j d=if j=e.i/\j<listed.size then true else listed.getD j d:=by
      intro j d
      simp only [Array.getD_eq_getD_getElem?,Array.getElem?_setIfInBounds]
      by_cases hje:e.i=j
      ·subst hje
       by_cases hlt:e.i<listed.size<;>simp [hlt]
      ·have:¬ (j=e.i):=fun hh=>hje hh.symm
       simp [hje,this]
     refine ih (A ++ B) _ μ' ok' st' a' w' (by simp at hlen ⊢;omega) hm' he' hcert (fun x hx=>hL x (hsub x hx)) hnd2.2 (by simp [hsz]) (fun j hj=>?_) (fun j hj hjt q hq=>?_)
     ·rw [hset]
      by_cases hje:j=e.i
      ·subst hje
       rw [if_pos ⟨rfl,by omega⟩]
       constructor
       ·intro hh;cases hh
       ·intro hh;exact (hnd2.1 hh).elim
      ·rw [if_neg fun hh=>hje hh.1,hiff j hj]
       simp only [List.map_append,List.map_cons,List.mem_append,List.mem_cons]
       constructor
       ·rintro (h | h | h)
        ·exact .inl h
        ·exact (hje h).elim
        ·exact .inr h
       ·rintro (h | h)
        ·exact .inl h
        ·exact .inr (.inr h)
     ·rw [hset] at hjt ⊢
      by_cases hje:j=e.i
      ·subst hje
       have:=hordl q (by rw [(hL e heL).2];exact hq)
       rw [this];simp
      ·rw [if_neg fun hh=>hje hh.1] at hjt
       rw [hcl j hj hjt q hq];simp
    ·rw [hs1]
     simp [hc2]
theorem MR.drew {μ:Nat->Option Nat} {ok:Nat->Prop} {H:List Blk} {w w' : World} (h:MR w0 okA μ ok H w) (hh:w'.heap=w.heap) (ho:w'.os=w.os) (ht:w'.tape=w.tape) (hu:w'.output=w.output) (hdr:w.drawn<=w'.drawn):MR w0 okA μ ok H w':=by
 have E:Ext μ ok w H μ ok w' H:=⟨fun g hg=>⟨hg,by rw [hh]⟩,fun b hb=>hb,fun b cs hb=>.inr ⟨⟨cs,hb⟩,rfl⟩,fun b r n f hb=>.inr ⟨⟨f,hb⟩,rfl,fun g cur e _ hw=>⟨cur,e,by rw [hh];exact hw,rfl⟩⟩,fun b sb n f hb=>.inr ⟨⟨n,f,hb⟩,rfl⟩,fun b κ n ln f hb=>.inr ⟨⟨f,hb⟩,rfl,fun i=>rfl⟩⟩
 refine ⟨⟨by rw [ho];exact h.below.os,by rw [ht];exact h.below.tape,by rw [hu];exact h.below.output,by rw [hh];exact h.below.size,fun k hk hno=>by rw [hh];exact h.below.block k hk hno,fun k hno cu e' hc=>by rw [hh];exact h.below.lent k hno cu e' hc,Nat.le_trans h.below.drawn hdr⟩,fun g hg=>by rw [hh];exact h.okd g hg,h.keep,fun b g hg=>by rw [hh];exact h.fresh b g hg,h.inj,fun b o ho'=>E.blk rfl (fun k _=>rfl) (fun k g _ _=>by rw [hh]) (h.blk b o ho'),h.tag⟩
theorem ER.drew {μ:Nat->Option Nat} {ok:Nat->Prop} {H:List Blk} {w w' : World} {env:List V} {a:Act} (h:ER df μ ok H w env a) (hh:w'.heap=w.heap):ER df μ ok H w' env a:=by
 have E:Ext μ ok w H μ ok w' H:=⟨fun g hg=>⟨hg,by rw [hh]⟩,fun b hb=>hb,fun b cs hb=>.inr ⟨⟨cs,hb⟩,rfl⟩,fun b r n f hb=>.inr ⟨⟨f,hb⟩,rfl,fun g cur e _ hw=>⟨cur,e,by rw [hh];exact hw,rfl⟩⟩,fun b sb n f hb=>.inr ⟨⟨n,f,hb⟩,rfl⟩,fun b κ n ln f hb=>.inr ⟨⟨f,hb⟩,rfl,fun i=>rfl⟩⟩
 exact h.ext E
variable {μ : Nat -> Option Nat} {ok : Nat -> Prop} {st : St} {a : Act} {w : World}
theorem tD (hmix:P.follows .mixedOrders=true) (hC:az P C) {l:List FOp} (hfit:dZ P ops l) (hpin:∀ f,f∈l->∀ q,q∈df.2->f.dst≠some q.1) {ords:List (List Nat)} (hchk:l5 ords 0 ops.toList=true) {k:St->Option ρ}
  (hm:MR w0 okA μ ok st.heap w) (he:ER df μ ok st.heap w st.env a)
  (hQ:∀ μ ok st a w,MR w0 okA μ ok st.heap w->ER df μ ok st.heap w st.env a->k st=some r->Q .normal a w) {id:Nat} (h:dU C hb st 0 [] l ords k=some r):(Code.region id ops true).wpIn (wd fl) fd P Q a w:=by
 obtain ⟨L,hc,hlen,hat,_⟩:=AW h
 refine wpIn_region_any hmix ?_
 have hL:∀ e∈L,l[e.i]?=some e.f/\e.ord=ords.getD e.i []:=fun e he=>by
  obtain ⟨j,hj⟩:=List.mem_iff_getElem?.1 he
  obtain ⟨h1,h2,h3⟩:=hat j e hj
  rw [rlZ] at h1
  rw [h1];exact ⟨h2,h3⟩
 have hmap:L.map Ent.i=List.range ops.size:=by
  apply List.ext_getElem?
  intro j
  rw [qhZ]
  cases hj:L[j]? with
  | none =>
   have:L.length<=j:=List.getElem?_eq_none_iff.1 hj
   rw [rmZ (by simp;rw [<- hfit.len,<- hlen];exact this)];rfl
  | some e =>
   obtain ⟨h1,_,_⟩:=hat j e hj
   have hlt:=(qfZ.1 hj).1
   rw [raZ (by rw [<- hfit.len,<- hlen];exact hlt)]
   simp [h1]
 refine KF hC hfit hpin hchk hQ ops.size L _ μ ok st a _ (by rw [hlen,hfit.len]) (hm.drew rfl rfl rfl rfl (Nat.le_succ _)) (he.drew rfl) hc hL (by rw [hmap];exact List.nodup_range) (by simp) (fun i hi=>?_) (fun i hi ht=>?_)
 ·rw [hmap]
  simp [Array.getD,hi]
 ·simp [Array.getD,hi] at ht
end
end Go.Eng
/-
 Regions that draw their order,part 5: a region whose last operation but one is shown by hand.
-/
namespace Go.Eng
open Go Go.RowKit
variable {df : DF}
section
variable {ρ : Type} {P : Program} {C : ao} {hb : Nat} {w0 : cD} {okA : Nat -> Prop} {fl : Option Nat} {fd : Nat} {r : ρ} {Q : Exit -> Act -> World -> Prop} {ops : Array Oper} {μ : Nat -> Option Nat} {ok : Nat -> Prop} {st : St} {a : Act} {w : World}
theorem Rp (hC:az P C) {l:List FOp} {m q0:Nat} (hfit:dZ P ops l) (hpin:∀ i f,i<m->l[i]?=some f->∀ q,q∈df.2->f.dst≠some q.1) (hml:m<l.length) {ords:List (List Nat)} (hchk:l5 ords 0 ops.toList=true) {k:St->Option ρ}
  (hrest:∀ i,m<=i->i<ops.size->∀ j,j<m->j∈ords.getD i [])
  (hQ:∀ listed μ ok st a w,listed.size=ops.size->(∀ i,i<ops.size->(listed.getD i true=false↔m<=i))->MR w0 okA μ ok st.heap w->ER df μ ok st.heap w st.env a->k st=some r->wpAnyIn (wd fl) fd P .any ops Q q0 listed a w) :
  ∀ (n:Nat) (L:List Ent) (listed:Array Bool) (μ:Nat->Option Nat) (ok:Nat->Prop) (st:St) (a:Act) (w:World),L.length=n->MR w0 okA μ ok st.heap w->ER df μ ok st.heap w st.env a ->
   lL C hb k r st L->(∀ e∈L,e.i<m/\l[e.i]?=some e.f/\e.ord=ords.getD e.i [])->(L.map Ent.i).Nodup->listed.size=ops.size ->
   (∀ i,i<ops.size->(listed.getD i true=false↔i∈L.map Ent.i\/m<=i))->(∀ i,i<ops.size->listed.getD i true=true->∀ j∈ords.getD i [],listed.getD j false=true) ->
   wpAnyIn (wd fl) fd P .any ops Q (n+q0) listed a w:=by
 have hgd:∀ (listed:Array Bool) (i:Nat),i<listed.size->listed.getD i true=listed.getD i false:=fun listed i hi=>by simp [Array.getD,hi]
 have hedge:∀ (i:Nat) (o:Oper),ops[i]?=some o->∀ e∈o.after.toList,Region.binds .any e=true->e.on<i:=by
  intro i o ho e he hb
  have:=jx hchk i o (by simpa using ho)
  unfold lP at this
  rw [qaZ] at this
  have h1:=qiZ.1 this.1 e.on (rjZ.2 ⟨e,List.mem_filter.2 ⟨he,hb⟩,rfl⟩)
  rw [rlZ] at h1
  simpa [Nat.blt_eq] using h1
 intro n
 induction n with
 | zero =>
  intro L listed μ ok st a w hlen hm he hc hL hnd hsz hiff hcl
  have:L = []:=List.length_eq_zero_iff.1 hlen
  subst this
  cases hc with
  | nil h =>
   rw [rlZ]
   exact hQ _ _ _ _ _ _ hsz (fun i hi=>by simpa using hiff i hi) hm he h
 | succ n ih =>
  intro L listed μ ok st a w hlen hm he hc hL hnd hsz hiff hcl
  have hin:∀ e∈L,e.i<ops.size:=fun e hee=>by
   have:=(qfZ.1 (hL e hee).2.1).1
   rw [<- hfit.len];exact this
  have hord:∀ (i:Nat) (o:Oper),ops[i]?=some o->(∀ ed∈o.after.toList,Region.binds .any ed=true->listed.getD ed.on false=true)->∀ j∈ords.getD i [],listed.getD j false=true:=by
   intro i o ho h3 j hj
   have hi:i<ops.size:=(qqZ.1 ho).1
   have hck:=jx hchk i o (by simpa using ho)
   unfold lP at hck
   rw [qaZ,rlZ] at hck
   have h4:=qiZ.1 hck.2 j hj
   obtain ⟨e',he',h5⟩:=List.any_eq_true.1 h4
   obtain ⟨ed,hed,rfl⟩:=rjZ.1 he'
   obtain ⟨hed1,hed2⟩:=List.mem_filter.1 hed
   have hl:=h3 ed hed1 hed2
   rw [Bool.or_eq_true] at h5
   rcases h5 with h5 | h5
   ·have:=qbZ h5
    rw [<- this];exact hl
   ·obtain ⟨j',hj',h6⟩:=List.any_eq_true.1 h5
    have:=qbZ h6
    subst this
    have hlt:=hedge i o ho ed hed1 hed2
    exact hcl ed.on (by omega) (by rw [hgd listed ed.on (by omega)];exact hl) j hj'
  rw [show n+1+q0=(n+q0)+1 by omega]
  refine ⟨fun hnil=>?_,fun i hi=>?_⟩
  ·exfalso
   -- the least of those that are left is ready
   have hex:∃ i,i<ops.size/\listed.getD i true=false:=by
    cases L with
    | nil=>simp at hlen
    | cons e L=>exact ⟨e.i,hin e (qmZ ..),(hiff e.i (hin e (qmZ ..))).2 (.inl (by simp))⟩
   obtain ⟨i0,h01,h02⟩:=hex
   have hmin:∃ i,(i<ops.size/\listed.getD i true=false)/\∀ j,j<i->¬ (j<ops.size/\listed.getD j true=false):=by
    induction i0 using Nat.strongRecOn with
    | _ i0 ihs =>
     by_cases hj:∃ j,j<i0/\j<ops.size/\listed.getD j true=false
     ·obtain ⟨j,hj1,hj2,hj3⟩:=hj
      exact ihs j hj1 hj2 hj3
     ·exact ⟨i0,⟨h01,h02⟩,fun j hji hjj=>hj ⟨j,hji,hjj⟩⟩
   obtain ⟨i,⟨h1,h2⟩,h3⟩:=hmin
   have:i∈Region.ready .any ops listed:=by
    refine dR.2 ⟨h1,h2,ops[i],by simp [h1],fun e he hb=>?_⟩
    have hlt:=hedge i ops[i] (by simp [h1]) e he hb
    have:=h3 e.on hlt
    have hlt2:e.on<ops.size:=by omega
    cases hq:listed.getD e.on true with
    | false=>exact (this ⟨hlt2,hq⟩).elim
    | true=>rw [hgd listed e.on (by omega)] at hq;exact hq
   rw [hnil] at this
   cases this
  ·obtain ⟨h1,h2,o,ho,h3⟩:=dR.1 hi
   have hLm:i∈L.map Ent.i:=by
    rcases (hiff i h1).1 h2 with h4 | h4
    ·exact h4
    ·exfalso
     cases L with
     | nil=>simp at hlen
     | cons e0 L0 =>
      have h5:=hord i o ho h3 e0.i (hrest i h4 h1 e0.i (hL e0 (qmZ ..)).1)
      have h6:=(hiff e0.i (hin e0 (qmZ ..))).2 (.inl (by simp))
      rw [hgd listed e0.i (by rw [hsz];exact hin e0 (qmZ ..)),h5] at h6
      cases h6
   obtain ⟨e,heL,hei⟩:=rjZ.1 hLm
   subst hei
   obtain ⟨A,B,hAB⟩:=List.append_of_mem heL
   subst hAB
   have hordl:∀ j∈e.ord,listed.getD j false=true:=by
    intro j hj
    rw [(hL e heL).2.2] at hj
    exact hord e.i o ho h3 j hj
   have hAo:∀ x∈A,x.i∉e.ord:=by
    intro x hx hxo
    have hxL:x∈A ++ e::B:=qvZ _ hx
    have h4:=hordl x.i hxo
    have h5:=(hiff x.i (hin x hxL)).2 (.inl (rjZ.2 ⟨x,hxL,rfl⟩))
    rw [hgd listed x.i (by rw [hsz];exact hin x hxL)] at h5
    rw [h4] at h5;cases h5
   have hbub:=hc.bubble hAo
   obtain ⟨st1,hs1,hc2⟩:=hbub.head
   clear hbub
   ·obtain ⟨o',ho',hfo⟩:=hfit.at_ e.i e.f (hL e heL).2.1
    rw [ho] at ho'
    cases ho'
    have hsub:∀ x∈A ++ B,x∈A ++ e::B:=fun x hx=>by
     rcases List.mem_append.1 hx with h | h
     ·exact qvZ _ h
     ·exact qwZ _ (qjZ _ h)
    have hnd2:e.i∉(A ++ B).map Ent.i/\((A ++ B).map Ent.i).Nodup:=by
     have hp:((A ++ e::B).map Ent.i).Perm (e.i::(A ++ B).map Ent.i):=by
      have:(A ++ e::B).Perm (e::(A ++ B)):=List.perm_middle
      exact this.map Ent.i
     have:=hp.nodup_iff.1 hnd
     exact List.nodup_cons.1 this
    classical
    refine dP (r:=r) (C:=C) (hb:=hb) (k:=fun s=>if lL C hb k r s (A ++ B) then some r else none) hC hm he ho hfo (hpin e.i _ (hL e heL).1 (hL e heL).2.1) (fun μ' ok' st' a' w' hm' he' hk=>?_) ?_
    ·have hcert:lL C hb k r st' (A ++ B):=by
      by_cases hcc:lL C hb k r st' (A ++ B)
      ·exact hcc
      ·simp [hcc] at hk
     have hset:∀ j (d:Bool),(listed.setIfInBounds e.i true).getD j d=if j=e.i/\j<listed.size then true else listed.getD j d:=by
      intro j d
      simp only [Array.getD_eq_getD_getElem?,Array.getElem?_setIfInBounds]
      by_cases hje:e.i=j
      ·subst hje
       by_cases hlt:e.i<listed.size<;>simp [hlt]
      ·have:¬ (j=e.i):=fun hh=>hje hh.symm
       simp [hje,this]
     refine ih (A ++ B) _ μ' ok' st' a' w' (by simp at hlen ⊢;omega) hm' he' hcert (fun x hx=>hL x (hsub x hx)) hnd2.2 (by simp [hsz]) (fun j hj=>?_) (fun j hj hjt q hq=>?_)
     ·rw [hset]
      by_cases hje:j=e.i
      ·subst hje
       rw [if_pos ⟨rfl,by omega⟩]
       constructor
       ·intro hh;cases hh
       ·intro hh
        rcases hh with hh | hh
        ·exact (hnd2.1 hh).elim
        ·have:=(hL e heL).1;omega
      ·rw [if_neg fun hh=>hje hh.1,hiff j hj]
       simp only [List.map_append,List.map_cons,List.mem_append,List.mem_cons]
       constructor
       ·rintro ((h | h | h) | h)
        ·exact .inl (.inl h)
        ·exact (hje h).elim
        ·exact .inl (.inr h)
        ·exact .inr h
       ·rintro ((h | h) | h)
        ·exact .inl (.inl h)
        ·exact .inl (.inr (.inr h))
        ·exact .inr h
     ·rw [hset] at hjt ⊢
      by_cases hje:j=e.i
      ·subst hje
       have:=hordl q (by rw [(hL e heL).2.2];exact hq)
       rw [this];simp
      ·rw [if_neg fun hh=>hje hh.1] at hjt
       rw [hcl j hj hjt q hq];simp
    ·rw [hs1]
     simp [hc2]
theorem Ro {ords:List (List Nat)} (hchk:l5 ords 0 ops.toList=true) {m:Nat} (hsz0:ops.size=m+2) (hlast:m∈ords.getD (m+1) []) {listed:Array Bool} (hsz:listed.size=ops.size) (hiff:∀ i,i<ops.size->(listed.getD i true=false↔m<=i))
  (hcl:∀ i,i<m->∀ j∈ords.getD i [],j<m) {a:Act} {w:World} (h:wpOpIn (wd fl) fd P ops Q m (wpOpIn (wd fl) fd P ops Q (m+1) (Q .normal)) a w):wpAnyIn (wd fl) fd P .any ops Q 2 listed a w:=by
 have hgd:∀ (listed:Array Bool) (i:Nat),i<listed.size->listed.getD i true=listed.getD i false:=fun listed i hi=>by simp [Array.getD,hi]
 have hedge:∀ (i:Nat) (o:Oper),ops[i]?=some o->∀ e∈o.after.toList,Region.binds .any e=true->e.on<i:=by
  intro i o ho e he hb
  have:=jx hchk i o (by simpa using ho)
  unfold lP at this
  rw [qaZ] at this
  have h1:=qiZ.1 this.1 e.on (rjZ.2 ⟨e,List.mem_filter.2 ⟨he,hb⟩,rfl⟩)
  rw [rlZ] at h1
  simpa [Nat.blt_eq] using h1
 have hset:∀ (listed:Array Bool) (i j:Nat) (d:Bool),(listed.setIfInBounds i true).getD j d=if j=i/\j<listed.size then true else listed.getD j d:=by
  intro listed i j d
  simp only [Array.getD_eq_getD_getElem?,Array.getElem?_setIfInBounds]
  by_cases hje:i=j
  ·subst hje
   by_cases hlt:i<listed.size<;>simp [hlt]
  ·have:¬ (j=i):=fun hh=>hje hh.symm
   simp [hje,this]
 have hready:m∈Region.ready .any ops listed:=by
  have hm:m<ops.size:=by omega
  refine dR.2 ⟨hm,(hiff m hm).2 (rkZ _),ops[m],by simp [hm],fun e he hb=>?_⟩
  have hlt:=hedge m ops[m] (by simp [hm]) e he hb
  have hlt2:e.on<ops.size:=by omega
  rw [<- hgd listed e.on (by omega)]
  cases hq:listed.getD e.on true with
  | true=>rfl
  | false=>have:=(hiff e.on hlt2).1 hq;omega
 refine ⟨fun hnil=>(by rw [hnil] at hready;cases hready),fun i hi=>?_⟩
 have him:i=m:=by
  obtain ⟨h1,h2,o,ho,h3⟩:=dR.1 hi
  have hmi:=(hiff i h1).1 h2
  by_cases hq:i=m
  ·exact hq
  ·exfalso
   have hi1:i=m+1:=by omega
   subst hi1
   have hck:=jx hchk (m+1) o (by simpa using ho)
   unfold lP at hck
   rw [qaZ,rlZ] at hck
   obtain ⟨e',he',h5⟩:=List.any_eq_true.1 (qiZ.1 hck.2 m hlast)
   obtain ⟨ed,hed,rfl⟩:=rjZ.1 he'
   obtain ⟨hed1,hed2⟩:=List.mem_filter.1 hed
   have hl:=h3 ed hed1 hed2
   have hlt:=hedge (m+1) o ho ed hed1 hed2
   have hon:ed.on<ops.size:=by omega
   rw [<- hgd listed ed.on (by omega)] at hl
   have hlm:ed.on<m:=by
    rcases Nat.lt_or_ge ed.on m with q | q
    ·exact q
    ·have:=(hiff ed.on hon).2 q
     rw [this] at hl;cases hl
   rw [Bool.or_eq_true] at h5
   rcases h5 with h5 | h5
   ·have:=qbZ h5;omega
   ·obtain ⟨j',hj',h6⟩:=List.any_eq_true.1 h5
    have:=qbZ h6
    subst this
    have:=hcl ed.on hlm m hj'
    omega
 subst him
 refine wpOpIn_mono (fun a w h=>?_) h
 have hsz2:(listed.setIfInBounds i true).size=ops.size:=by simp [hsz]
 have hready2:i+1∈Region.ready .any ops (listed.setIfInBounds i true):=by
  have hm:i+1<ops.size:=by omega
  refine dR.2 ⟨hm,?_,ops[i+1],by simp [hm],fun e he hb=>?_⟩
  ·rw [hset,if_neg (by omega)]
   exact (hiff _ hm).2 (by omega)
  ·have hlt:=hedge (i+1) ops[i+1] (by simp [hm]) e he hb
   rw [hset]
   by_cases hq:e.on=i
   ·rw [if_pos ⟨hq,by omega⟩]
   ·rw [if_neg (fun hh=>hq hh.1),<- hgd listed e.on (by omega)]
    cases hq2:listed.getD e.on true with
    | true=>rfl
    | false=>have:=(hiff e.on (by omega)).1 hq2;omega
 refine ⟨fun hnil=>(by rw [hnil] at hready2;cases hready2),fun i2 hi2=>?_⟩
 have hi2e:i2=i+1:=by
  obtain ⟨h1,h2,_⟩:=dR.1 hi2
  rw [hset] at h2
  by_cases hq:i2=i
  ·rw [if_pos ⟨hq,by omega⟩] at h2;cases h2
  ·rw [if_neg (fun hh=>hq hh.1)] at h2
   have:=(hiff i2 h1).1 h2;omega
 subst hi2e
 refine wpOpIn_mono (fun a w h=>⟨?_,h⟩) h
 rw [rfZ]
 intro j hj
 obtain ⟨h1,h2,_⟩:=dR.1 hj
 rw [hset,Array.size_setIfInBounds] at h2
 by_cases hq:j=i+1
 ·rw [if_pos ⟨hq,by omega⟩] at h2;cases h2
 ·rw [if_neg (fun hh=>hq hh.1),hset] at h2
  by_cases hq2:j=i
  ·rw [if_pos ⟨hq2,by omega⟩] at h2;cases h2
  ·rw [if_neg (fun hh=>hq2 hh.1)] at h2
   have:=(hiff j h1).1 h2;omega
theorem od (hmix:P.follows .mixedOrders=true) (hC:az P C) {pre:List FOp} {f1 f2:FOp} (hfit:dZ P ops (pre ++ [f1,f2])) (hpin:∀ f,f∈pre->∀ q,q∈df.2->f.dst≠some q.1) {ords:List (List Nat)} (hchk:l5 ords 0 ops.toList=true) {k:St->Option ρ}
  (hr1:∀ j,j<pre.length->j∈ords.getD pre.length []) (hr2:∀ j,j<pre.length+1->j∈ords.getD (pre.length+1) []) (hcl:∀ i,i<pre.length->∀ j∈ords.getD i [],j<pre.length)
  (hm:MR w0 okA μ ok st.heap w) (he:ER df μ ok st.heap w st.env a)
  (hQ:∀ μ ok st a w,MR w0 okA μ ok st.heap w->ER df μ ok st.heap w st.env a->k st=some r->wpOpIn (wd fl) fd P ops Q pre.length (wpOpIn (wd fl) fd P ops Q (pre.length+1) (Q .normal)) a w) {id:Nat} (h:dU C hb st 0 [] pre ords k=some r):(Code.region id ops true).wpIn (wd fl) fd P Q a w:=by
 obtain ⟨L,hc,hlen,hat,_⟩:=AW h
 have hsize:ops.size=pre.length+2:=by rw [<- hfit.len];simp
 refine wpIn_region_any hmix ?_
 have hL:∀ e∈L,e.i<pre.length/\(pre ++ [f1,f2])[e.i]?=some e.f/\e.ord=ords.getD e.i []:=fun e he=>by
  obtain ⟨j,hj⟩:=List.mem_iff_getElem?.1 he
  obtain ⟨h1,h2,h3⟩:=hat j e hj
  rw [rlZ] at h1
  have hlt:=(qfZ.1 hj).1
  rw [h1]
  exact ⟨by omega,by rw [qnZ (by omega)];exact h2,h3⟩
 have hmap:L.map Ent.i=List.range pre.length:=by
  apply List.ext_getElem?
  intro j
  rw [qhZ]
  cases hj:L[j]? with
  | none =>
   have:L.length<=j:=List.getElem?_eq_none_iff.1 hj
   rw [rmZ (by simp;omega)];rfl
  | some e =>
   obtain ⟨h1,_,_⟩:=hat j e hj
   have hlt:=(qfZ.1 hj).1
   rw [raZ (by omega)]
   simp [h1]
 rw [hsize]
 have:=Rp (q0:=2) (m:=pre.length) (fl:=fl) (fd:=fd) (Q:=Q) hC hfit (fun i f hi hf q hq=>by
   rw [qnZ hi] at hf
   exact hpin f (qrZ hf) q hq) (by simp) hchk (k:=k) (r:=r) (hb:=hb)
  (fun i hi1 hi2 j hj=>by
   rcases Nat.lt_or_ge pre.length i with q | q
   ·have:i=pre.length+1:=by omega
    subst this
    exact hr2 j (by omega)
   ·have:i=pre.length:=by omega
    subst this
    exact hr1 j hj)
  (fun listed μ ok st a w hs hi hm he hk=>Ro hchk hsize (hr2 _ (by omega)) hs hi hcl (hQ μ ok st a w hm he hk))
  pre.length L (Array.replicate (pre.length+2) false) μ ok st a { w with drawn:=w.drawn+1 } hlen (hm.drew rfl rfl rfl rfl (Nat.le_succ _)) (he.drew rfl) hc hL (by rw [hmap];exact List.nodup_range) (by simp [hsize]) (fun i hi=>by
   rw [hmap]
   rw [hsize] at hi
   simp [Array.getD,hi]
   omega) (fun i hi ht=>by
   rw [hsize] at hi
   simp [Array.getD,hi] at ht)
 exact this
end
end Go.Eng
