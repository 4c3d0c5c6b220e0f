/-
 Annotated code made out of the program's own;what is written down of it are hints.
-/
import Derived.Test.YtkknnlhhchielaaGreatDoorEngQ
set_option linter.all false
namespace Go.Eng
open Go Go.RowKit
inductive TI where
 | i (k:IntKind)
 | b
 | s
 | l (e:Nat)
 | r (fs:List Nat)
 | a (n e:Nat)
 | o (n:Nat)
 | n (t:Nat)
inductive Fc where
 | snap | freeze | turn
 | fresh (r:Kd)
structure Tab where
 ty:Nat->TI
 by_:Nat->Nat
 fc:Nat->Fc
 keep:Bool:=false
namespace Tab
variable (T : Tab)
def u:Nat->Nat->TI
 | 0,_=>.o 1
 | d+1,t=>match T.ty t with
  | .n t=>u d t
  | x=>x
abbrev un (t:Nat):TI:=T.u 4 t
def sz:Nat->Nat->Nat
 | 0,_=>1
 | d+1,t=>match T.un t with
  | .r fs=>(fs.map (sz d)).sum
  | .a n e=>n*sz d e
  | .o n=>n
  | _=>1
abbrev size (t:Nat):Nat:=T.sz 9 t
def agg (t:Nat):Bool:=match T.un t with
 | .r _=>true
 | .a _ _=>true
 | _=>false
def m (t:Nat):Option Nat:=bif T.agg t then some (T.size t) else none
def rep {α:Type}:Nat->(α->α)->α->α
 | 0,_,x=>x
 | n+1,f,x=>f (rep n f x)
def rw_:Nat->Nat->Nat->Kd->Kd
 | 0,_,_,k=>k
 | f+1,d,t,k=>match T.un t with
  | .i q=>.pr (.int q) k
  | .b=>.pr .bool k
  | .s=>.pr .str k
  | .l e=>bif Nat.blt d 4 then .pr (.sl (rw_ f (d+1) e .nil)) k else .pr .oth k
  | .r fs=>fs.foldr (rw_ f d) k
  | .a n e=>rep n (rw_ f d e) k
  | .o n=>rep n (.pr .oth) k
  | .n _=>k
abbrev row (t:Nat):Kd:=T.rw_ 12 0 t .nil
def zs_ (nl:Nat->V0):Nat->Nat->List V0->List V0
 | 0,_,k=>k
 | f+1,t,k=>match T.un t with
  | .i q=>.c (.i q 0)::k
  | .b=>.c (.b false)::k
  | .s=>.c (.s ByteArray.empty)::k
  | .l e=>nl e::k
  | .r fs=>fs.foldr (zs_ nl f) k
  | .a n e=>rep n (zs_ nl f e) k
  | .o n=>rep n (.u::·) k
  | .n _=>k
abbrev zs (t:Nat):List V0:=T.zs_ (fun _=>vcn) 12 t []
def nilr (fl:Bool) (e:Nat):V0:=.c (.ro fl (T.rw_ 12 1 e .nil) 0 aR)
abbrev zr (fl:Bool) (t:Nat):List V0:=T.zs_ (T.nilr fl) 12 t []
def off:List Nat->Nat->Nat->Nat
 | [],_,k=>k
 | _,0,k=>k
 | f::l,i+1,k=>off l i (k+T.size f)
def fields (t:Nat):List Nat:=match T.un t with
 | .r fs=>fs
 | _=>[]
def places:List Nat->Nat->List (Nat × Nat)
 | [],_=>[]
 | f::l,k=>(k,T.size f)::places l (k+T.size f)
def elem (t:Nat):Nat:=match T.un t with
 | .l e=>e
 | .a _ e=>e
 | _=>0
def isS (t:Nat):Bool:=match T.un t with
 | .s=>true
 | _=>false
def kindI (t:Nat):IntKind:=match T.un t with
 | .i k=>k
 | _=>.i64
def call (q:Nat) (c:Call):Option AOp:=match c.callee,c.args.toList with
 | .builtin .len,[x]=>some (.len (c.argTypes.getD 0 0) (T.isS (c.argTypes.getD 0 0)) x)
 | .builtin .max,as=>some (.mm true as c.argTypes.toList)
 | .builtin .min,as=>some (.mm false as c.argTypes.toList)
 | .builtin .append,[x,y]=>some (.append q (c.argTypes.getD 0 0) (T.elem (c.argTypes.getD 0 0)) (T.row (T.elem (c.argTypes.getD 0 0))) (T.by_ (T.elem (c.argTypes.getD 0 0))) x y)
 | .value (.func f),as=>match T.fc f,as with
  | .snap,_=>some (.call f as c.argTypes.toList .snap)
  | .freeze,_=>some (.call f as c.argTypes.toList .freeze)
  | .turn,x::r=>some (.turn f x r c.argTypes.toList)
  | .fresh r,_=>some (.callo q f as c.argTypes.toList r)
  | _,_=>none
 | _,_=>none
def op (q:Nat):Op->Option AOp
 | .move x=>some (.move x)
 | .assign x=>some (.assign x)
 | .pick a b c=>some (.pick a b c)
 | .nilCheck x=>some (.nilCheck x)
 | .panic x=>some (.pan x)
 | .makeInterface t x=>some (.iface t x)
 | .alloc t=>some (.alloc q t (T.zs t))
 | .box t x=>some (.box q t x)
 | .build t ps=>match T.un t with
  | .r fs=>some (.build t (T.zr (!T.keep) t) (T.places fs 0) 0 ps.toList)
  | _=>some (.build t (T.zr (!T.keep) t) [] (T.size (T.elem t)) ps.toList)
 | .buildSlice t n ps=>some (.buildSlice q t (T.elem t) (T.row (T.elem t)) n (T.zr true (T.elem t)) ps.toList)
 | .load t x=>some (.load t (T.m t) x)
 | .store t x y=>some (.store t (T.size t) x y)
 | .fieldAddr t x i=>some (.fieldAddr t x i (T.off (T.fields t) i 0))
 | .field t x i=>some (.field t x i (T.off (T.fields t) i 0) (T.m ((T.fields t).getD i 0)))
 | .indexAddr t x i=>match T.un t with
  | .l e=>some (.indexAddr t e (T.size e) x i)
  | .a n e=>some (.indexAddrA t e n (T.size e) x i)
  | _=>none
 | .index t x i=>match T.un t with
  | .s=>some (.indexS t x i)
  | .a n e=>some (.index t e n (T.size e) (T.m e) x i)
  | _=>none
 | .binOp o t x y yt=>match T.un t,o with
  | .b,.eql=>some (.eqB false t x y yt)
  | .b,.neq=>some (.eqB true t x y yt)
  | .r _,.eql=>some (.eqA false (T.row t) t x y yt)
  | .r _,.neq=>some (.eqA true (T.row t) t x y yt)
  | .a _ _,.eql=>some (.eqA false (T.row t) t x y yt)
  | .a _ _,.neq=>some (.eqA true (T.row t) t x y yt)
  | _,_=>some (.binOp o t x y yt)
 | .unOp o t x=>some (.unOp o t x)
 | .convert a b x=>some (.convert a b (T.kindI b) x)
 | .extract x n=>some (.extract x n)
 | .slice t x lo hi mx=>some (.slice t (T.elem t) (T.size (T.elem t)) x lo hi mx)
 | .makeFunc (.func f) _ cs=>some (.mkfn f cs.toList)
 | .call c=>T.call q c
 | _=>none
def QZ:AOp->Bool
 | .box ..=>true
 | .alloc ..=>true
 | .buildSlice ..=>true
 | .append ..=>true
 | .callo ..=>true
 | _=>false
def nth:List (Option Nat)->Nat->Option Nat
 | [],_=>none
 | d::_,0=>d
 | _::l,i+1=>nth l i
def gd (ds:List (Option Nat)):Option (Nat × Bool)->Option (Nat × Bool)
 | some (j,w)=>match nth ds j with
  | some d=>some (d,w)
  | none=>none
 | none=>none
def YM (f:FOp) (r:List FOp × Nat):List FOp × Nat:=(f::r.1,r.2)
def ops (ds:List (Option Nat)):Nat->List Oper->List FOp × Nat
 | q,[]=>([],q)
 | q,o::l=>match T.op q o.op with
  | some a=>YM ⟨o.dst,a,gd ds o.guard⟩ (ops ds (bif QZ a then q+1 else q) l)
  | none=>([],q)
def dsts:List Oper->List (Option Nat)
 | []=>[]
 | o::l=>o.dst::dsts l
def ins (n:Nat):List Nat->List Nat
 | []=>[n]
 | m::l=>match Nat.blt n m,Nat.beq n m with
  | true,_=>n::m::l
  | _,true=>m::l
  | _,_=>m::ins n l
def Q2 (acc:List (List Nat)) (l:List Nat) (e:Edge):List Nat:=match e.ground with
 | .textOnly _=>l
 | .gcOnly _=>l
 | _=>(acc.getD e.on []).foldr ins (ins e.on l)
def draws (acc:List (List Nat)):List Oper->List (List Nat)
 | []=>acc
 | o::l=>draws (acc ++ [o.after.toList.foldl (Q2 acc) []]) l
end Tab
inductive Hn where
 | k (l:List Nat)
 | g (l:List Nat)
 | h (l:List KK)
def Ok:Code->Bool
 | .cond _ _ _=>true
 | .loop _=>true
 | .seq a b=>Ok a||Ok b
 | .block _ a=>Ok a
 | .scope a=>Ok a
 | _=>false
def I0:List Hn->List (List Nat) × List Hn
 | .g l::r=>match I0 r with
  | (x,y)=>(l::x,y)
 | r=>([],r)
def wrap (l:List (List Nat)) (a:AC):AC:=l.foldr .ghost a
def VU:List Hn->List Nat × List Hn
 | .k l::r=>(l,r)
 | r=>([],r)
def FM (T:Tab):Code->List Hn->AC × List Hn
 | .region id os d,hs=>match T.ops (Tab.dsts os.toList) 0 os.toList with
  | (l,n)=>match d with
   | true=>(.region id l n (some (Tab.draws [] os.toList)),hs)
   | false=>(.region id l n none,hs)
 | .seq a b,hs=>match (bif Ok a then VU hs else ([],hs)) with
  | (ks,hs)=>match FM T a hs with
   | (x,hs)=>match FM T b hs with
    | (y,hs)=>(.seq x ks y,hs)
 | .cond o a b,hs=>match FM T a hs with
  | (x,hs)=>match FM T b hs with
   | (y,hs)=>(.cond o x y,hs)
 | .block id a,hs=>match FM T a hs with
  | (x,hs)=>(.block id x,hs)
 | .loop a,hs=>match I0 hs with
  | (m,.h h::.k ks::hs)=>match FM T a hs with
   | (x,hs)=>(wrap m (.loop h ks x),hs)
  | (_,hs)=>(.skip,hs)
 | .exit id,hs=>match I0 hs with
  | (m,hs)=>match VU hs with
   | (ks,hs)=>(wrap m (.exit id ks),hs)
 | .ret,hs=>match I0 hs with
  | (m,hs)=>match VU hs with
   | (ks,hs)=>(wrap m (.ret ks),hs)
 | .scope a,hs=>match FM T a hs with
  | (x,hs)=>(.scope x,hs)
 | .label l,hs=>(.label l,hs)
 | _,hs=>(.skip,hs)
def aaP (T:Tab):ResultVar->Ee
 | .tmp t=>.tmp t
 | .cell t ty=>.cell t ty (T.m ty)
def acg (T:Tab) (f:Func) (hs:List Hn):AF:=match f.body with
 | some c=>⟨f.ntmps,f.results.toList.map (aaP T),(FM T c hs).1⟩
 | none=>⟨0,[],.skip⟩
abbrev An (T:Tab) (f:Func) (hs:List Hn):Type:={a:AF // acg T f hs=a}
def sA:AC->List Nat->AC
 | a,[]=>a
 | a,i::l=>match a,i with
  | .seq x _ _,0=>sA x l
  | .seq _ _ y,_=>sA y l
  | .cond _ x _,0=>sA x l
  | .cond _ _ y,_=>sA y l
  | .block _ x,_=>sA x l
  | .loop _ _ x,_=>sA x l
  | .ghost _ x,_=>sA x l
  | .scope x,_=>sA x l
  | x,_=>x
def hole (T:AC):List Nat->AC->AC
 | [],_=>T
 | i::l,a=>match a,i with
  | .seq x k y,0=>.seq (hole T l x) k y
  | .seq x k y,_=>.seq x k (hole T l y)
  | .cond c x y,0=>.cond c (hole T l x) y
  | .cond c x y,_=>.cond c x (hole T l y)
  | .block b x,_=>.block b (hole T l x)
  | .scope x,_=>.scope (hole T l x)
  | x,_=>x
end Go.Eng
