/-
 What the kernel looks at,once for each function.
-/
import Derived.Test.YtkknnlhhchielaaGreatDoorEngO
set_option linter.all false
namespace Go.Eng
open Go Go.RowKit
inductive Sh where
 | leaf
 | reg (l:List (Option Nat × Op))
 | two (a b:Sh)
 | one (a:Sh)
def l7 (ts tf:Nat) (f:FuncId) (ty:TypeId):FOp:=⟨some tf,.call f [.tmp ts] [ty] .freeze,none⟩
def shA:AC->Sh
 | .region _ l _ _=>.reg (l.map fun f=>(f.dst,f.op.erase))
 | .seq a _ b=>.two (shA a) (shA b)
 | .cond _ a b=>.two (shA a) (shA b)
 | .block _ a=>.one (shA a)
 | .loop _ _ a=>.one (shA a)
 | .ghost _ a=>shA a
 | .scope a=>.one (shA a)
 | .round _ _ _ _ a=>shA a
 | .back pre _ _ ts tf _ f ty a=>.two (.reg ((pre ++ [l7 ts tf f ty]).map fun f=>(f.dst,f.op.erase))) (.one (shA a))
 | .iter pre _ _ ts tf _ f ty _ _ x6 xb=>.two (.reg ((pre ++ [l7 ts tf f ty]).map fun f=>(f.dst,f.op.erase))) (.one (.one (.two (shA x6) (.one (shA xb)))))
 | _=>.leaf
def shC:Code->Sh
 | .region _ ops _=>.reg (ops.toList.map fun o=>(o.dst,o.op))
 | .seq a b=>.two (shC a) (shC b)
 | .cond _ a b=>.two (shC a) (shC b)
 | .block _ a=>.one (shC a)
 | .loop a=>.one (shC a)
 | .scope a=>.one (shC a)
 | .rangeFunc _ _ a b=>.one (.two (shC a) (shC b))
 | _=>.leaf
def JT (P:Program) (ops:Array Oper):List FOp->List Oper->Bool
 | [],[]=>true
 | f::l,o::os=>jE ops f o&&f.op.okP P&&JT P ops l os
 | _,_=>false
def eZ (P:Program):AC->Code->Bool
 | .skip,.skip=>true
 | .region _ l _ draw,.region _ ops d=>JT P ops l ops.toList&&(match draw with | none=>!d | some ords=>d&&l5 ords 0 ops.toList)
 | .seq a _ b,.seq x y=>eZ P a x&&eZ P b y
 | .cond o a b,.cond o' x y=>o9 o o' && eZ P a x&&eZ P b y
 | .block id a,.block id' x=>Nat.beq id id' && eZ P a x
 | .loop _ _ a,.loop x=>eZ P a x
 | .exit id _,.exit id'=>Nat.beq id id'
 | .ret _,.ret=>true
 | .ghost _ a,c=>eZ P a c
 | .scope a,.scope x=>eZ P a x
 | .label l,.label l'=>Nat.beq l l'
 | _,_=>false
theorem HZ {P:Program} {ops:Array Oper}:∀ {l:List FOp} {os:List Oper},JT P ops l os=true->l.length=os.length/\∀ (i:Nat) (f:FOp),l[i]?=some f->∃ o,os[i]?=some o/\jE ops f o=true/\f.op.okP P=true
 | [],[],_=>⟨rfl,fun i f h=>by simp at h⟩
 | [],o::os,h=>by cases h
 | f::l,[],h=>by cases h
 | f::l,o::os,h=>by
  simp only [JT,qaZ] at h
  obtain ⟨h1,h2⟩:=HZ h.2
  refine ⟨by simp [h1],fun i g hg=>?_⟩
  cases i with
  | zero=>simp at hg;subst hg;exact ⟨o,rfl,h.1.1,h.1.2⟩
  | succ i=>simpa using h2 i g (by simpa using hg)
theorem Bj {P:Program} {ops:Array Oper} {l:List FOp} (hB:JT P ops l ops.toList=true) (hs:(l.map fun f=>(f.dst,f.op.erase))=ops.toList.map fun o=>(o.dst,o.op)):dZ P ops l:=by
 obtain ⟨h1,h2⟩:=HZ hB
 refine ⟨by simpa using h1,fun i f hf=>?_⟩
 obtain ⟨o,ho,hg,hp⟩:=h2 i f hf
 have h3:(l.map fun f=>(f.dst,f.op.erase))[i]?=(ops.toList.map fun o=>(o.dst,o.op))[i]?:=by rw [hs]
 rw [qhZ,qhZ,hf,ho] at h3
 simp only [Option.map_some,rbZ,Prod.mk.injEq] at h3
 refine ⟨o,by simpa using ho,h3.1.symm,h3.2.symm,hg,hp⟩
theorem tO {P:Program}:∀ {ac:AC} {c:Code},eZ P ac c=true->shA ac=shC c->jp P ac c:=by
 intro ac
 induction ac with
 | skip=>intro c hB _;cases c<;>first | rfl | cases hB
 | ret ks=>intro c hB _;cases c<;>first | rfl | cases hB
 | exit id ks =>
  intro c hB _
  cases c<;>first | cases hB | skip
  rw [show jp P (.exit id ks)=fun c=>c=.exit id from rfl]
  rw [qbZ hB]
 | scope a ih =>
  intro c hB hs
  cases c<;>first | cases hB | skip
  simp only [shA,shC,Sh.one.injEq] at hs
  exact ⟨_,rfl,ih hB hs⟩
 | label l =>
  intro c hB _
  cases c<;>first | cases hB | skip
  rw [show jp P (.label l)=fun c=>c=.label l from rfl]
  rw [qbZ hB]
 | ghost l a ih =>
  intro c hB hs
  refine ih (c:=c) ?_ hs
  cases c<;>exact hB
 | region id l na draw =>
  intro c hB hs
  cases c<;>first | cases hB | skip
  rename_i id' ops d
  simp only [eZ,qaZ] at hB
  have hs:(l.map fun f=>(f.dst,f.op.erase))=ops.toList.map fun o=>(o.dst,o.op):=by
   injection hs
  refine ⟨id',ops,?_,Bj hB.1 hs,fun ords ho=>?_⟩
  ·cases draw with
   | none =>
    have:d=false:=by simpa using hB.2
    rw [this];rfl
   | some ords =>
    have:d=true:=by
     have:=hB.2
     simp only [qaZ] at this
     exact this.1
    rw [this];rfl
  ·subst ho
   have:=hB.2
   simp only [qaZ] at this
   exact this.2
 | seq a ks b iha ihb =>
  intro c hB hs
  cases c<;>first | cases hB | skip
  simp only [eZ,qaZ] at hB
  simp only [shA,shC,Sh.two.injEq] at hs
  exact ⟨_,_,rfl,iha hB.1 hs.1,ihb hB.2 hs.2⟩
 | cond o a b iha ihb =>
  intro c hB hs
  cases c<;>first | cases hB | skip
  simp only [eZ,qaZ] at hB
  simp only [shA,shC,Sh.two.injEq] at hs
  exact ⟨_,_,_,rfl,hB.1.1,iha hB.1.2 hs.1,ihb hB.2 hs.2⟩
 | block id a ih =>
  intro c hB hs
  cases c<;>first | cases hB | skip
  simp only [eZ,qaZ] at hB
  simp only [shA,shC,Sh.one.injEq] at hs
  rw [show jp P (.block id a)=fun c=>∃ x,c=.block id x/\jp P a x from rfl]
  rw [<- qbZ hB.1]
  exact ⟨_,rfl,ih hB.2 hs⟩
 | round keep tx p0 p1 a ih=>intro c hB;cases c<;>cases hB
 | back pre rs oth ts tf p0 f ty a ih=>intro c hB;cases c<;>cases hB
 | iter=>intro c hB;cases c<;>cases hB
 | loop hs0 ks a ih =>
  intro c hB hs
  cases c<;>first | cases hB | skip
  simp only [shA,shC,Sh.one.injEq] at hs
  exact ⟨_,rfl,ih hB hs⟩
def GV (P:Program) (F:AF) (fn:Func):Bool :=
 Nat.beq fn.ntmps F.n&&lW P F.res fn.results.toList&&(match fn.body with | some c=>eZ P F.body c | none=>false)
theorem di {P : Program} {f : FuncId} {F : AF} {fn : Func} {c : Code} (hfn : P.funcs[f]? = some fn) (hname : (fn.name != "runtime.NumGoroutine") = true) (hbody : fn.body = some c) (hB : GV P F fn = true)
  (hs:shA F.body=shC c):cd P f F:=by
 unfold GV at hB
 rw [hbody] at hB
 simp only [qaZ] at hB
 refine ⟨?_,fn,c,hfn,hbody,qbZ hB.1.1,hB.1.2,tO hB.2 hs⟩
 unfold dq
 rw [hfn]
 simp only [hbody,hname,Option.isSome_some,Bool.and_self]
def jN (t:Nat):AC->Bool
 | .region _ l _ _=>l.all fun f=>match f.dst with | some d=>!Nat.beq d t | none=>true
 | .seq x _ y=>jN t x&&jN t y
 | .cond _ x y=>jN t x&&jN t y
 | .block _ x=>jN t x
 | .loop _ _ x=>jN t x
 | .ghost _ x=>jN t x
 | .scope x=>jN t x
 | .iter pre _ _ _ tf _ _ _ _ _ _ _=>(pre.all fun f=>match f.dst with | some d=>!Nat.beq d t | none=>true) && !Nat.beq tf t
 | _=>true
theorem fo {P : Program} {f : FuncId} {F : AF} {fn : Func} {c : Code} (hfn : P.funcs[f]? = some fn) (hname : (fn.name != "runtime.NumGoroutine") = true := by kernel_rfl) (hbody : fn.body = some c := by exact rfl) (hB : GV P F fn = true := by kernel_rfl)
  (hs:shA F.body=shC c:=by exact rfl):cd P f F:=di hfn hname hbody hB hs
end Go.Eng
