/-
 An abstract evaluator for the model's code,over closed data. Definitions alone;soundness is proved in EngB and later texts.
-/
import Derived.Test.YtkknnlhhchielaaGreatDoorEngT
set_option linter.all false
namespace Go.Eng
open Go
inductive Cap where
 | c (x:CV)
 | ptr (b j:Nat)
inductive V0 where
 | u
 | c (x:CV)
 | own (b off len:Nat)
 | ptr (b j:Nat)
 | aptr (b i j:Nat)
 | mrow (b i:Nat)
 | mptr (b i k:Nat)
 | fn (f:FuncId) (caps:List Cap)
 deriving Inhabited
inductive A where
 | v (x:CV)
 | agg (l:List CV)
inductive V where
 | u
 | undef
 | x (y:V0)
 | agg (l:List V0)
 | tup (l:List A)
 deriving Inhabited
inductive Blk where
 | rsv
 | dead
 | box (cells:List V0)
 | arr (r:Kd) (n:Nat) (f:Nat->Nat->CV)
 | set (sb:Nat) (n:Nat) (f:Nat->Nat->CV)
 | mat (κ:Kd) (n:Nat) (ln:Nat->Nat) (f:Nat->Nat->CV)
structure St where
 env:List V
 heap:List Blk
structure ao where
 call:FuncId->List A->{ρ:Type}->(List A->Option ρ)->Option ρ
 nat:∀ (f:FuncId) (args:List A) {ρ:Type} (K:List A->Option ρ),call f args K=(call f args some).bind K
 turn:FuncId->Kd->Nat->(Nat->Nat->CV)->List A->Option (Nat->Nat->CV)
 fresh:FuncId->Kd->List A->Option (Nat × (Nat->Nat->CV))
 cut:FuncId->Kd->Nat->(Nat->Nat->CV)->List A->Option (Nat × (Nat->Nat->CV))
 lend:FuncId->List Nat->List V->List Blk->{ρ:Type}->(List A->List Blk->Option ρ)->Option ρ
 natL:∀ (f:FuncId) (bs:List Nat) (vs:List V) (H:List Blk) {ρ:Type} (K:List A->List Blk->Option ρ),lend f bs vs H K=(lend f bs vs H fun r H'=>some (r,H')).bind fun p=>K p.1 p.2
def St.put (st:St) (d:Nat) (v:V):St:={ st with env:=st.env.set d v }
def St.putO (st:St) (d:Option Nat) (v:V):St :=
 match d with
 | some d=>st.put d v
 | none=>st
def St.setB (st:St) (b:Nat) (o:Blk):St:={ st with heap:=st.heap.set b o }
def cv0:Value->V0
 | .bool x=>.c (.b x)
 | .int k n=>.c (.i k n)
 | .string s=>.c (.s s)
 | .slice none 0 0=>.c (.ro true .nil 0 (fun _ _=>.any))
 | _=>.u
def cvV:Value->V
 | .agg cs=>bif cs.toList.all Value.oneCell' then .agg (cs.toList.map cv0) else .u
 | .tuple _=>.u
 | v=>.x (cv0 v)
def St.ev (st:St):Operand->V
 | .tmp t=>st.env.getD t .u
 | .const v=>cvV v
 | .func f=>.x (.fn f [])
 | .global g=>match Wp g with
  | some (r,h)=>.x (.c (.rp r h))
  | none=>.u
def cellsOf:V->Option (List V0)
 | .x y=>some [y]
 | .agg l=>some l
 | _=>none
def A.toV:A->V
 | .v x=>.x (.c x)
 | .agg l=>.agg (l.map .c)
def splice {α:Type} (row:List α) (off:Nat) (l:List α):List α:=row.take off ++ l ++ row.drop (off+l.length)
def d9 (off:Nat) (f:Nat->Nat->CV):Nat->Nat->CV :=
 match off with
 | 0=>f
 | off=>fun i j=>f (off+i) j
def mC (off:Nat) (g:Nat->CV):Nat->CV :=
 match off with
 | 0=>g
 | off=>fun j=>g (off+j)
def aO {α:Type}:List (Option α)->Option (List α)
 | []=>some []
 | none::_=>none
 | some a::l=>match aO l with
  | some r=>some (a::r)
  | none=>none
def snap (H:List Blk):Nat->V0->Option CV
 | 0,_=>none
 | d+1,v =>
  match v with
  | .u=>some .any
  | .c x=>some x
  | .own b off len =>
   match H[b]? with
   | some (.arr r _ f)=>some (.ro false r len (d9 off f))
   | _=>none
  | .ptr b j =>
   match H[b]? with
   | some (.box cells) =>
    match aO ((cells.drop j).map (snap H d)) with
    | some l=>some (.rp (vY l) (au l))
    | none=>none
   | _=>none
  | .aptr b i j =>
   match H[b]? with
   | some (.arr r _ f)=>some (.rp (r.drop j) (mC j (f i)))
   | _=>none
  | .mrow _ _=>none
  | .mptr _ _ _=>none
  | .fn f caps =>
   match aO (caps.map fun
    | .c x=>some x
    | .ptr b j=>snap H d (.ptr b j)) with
   | some l=>some (.fn f l.length (au l))
   | none=>none
def dp (H:List Blk):Nat->V0->List Nat
 | 0,_=>[]
 | d+1,v =>
  match v with
  | .u=>[]
  | .c _=>[]
  | .own b _ _=>[b]
  | .aptr b _ _=>[b]
  | .mrow b _=>[b]
  | .mptr b _ _=>[b]
  | .ptr b j =>
   match H[b]? with
   | some (.box cells)=>b::((cells.drop j).map (dp H d)).flatten
   | _=>[]
  | .fn _ caps=>(caps.map fun
    | .c _=>[]
    | .ptr b j=>dp H d (.ptr b j)).flatten
def depth:Nat:=5
def ll (H:List Blk):V->Option A
 | .x y=>match snap H depth y with
  | some x=>some (.v x)
  | none=>none
 | .agg l=>match aO (l.map (snap H depth)) with
  | some r=>some (.agg r)
  | none=>none
 | _=>none
def eJ (H:List Blk):V->List Nat
 | .x y=>dp H depth y
 | .agg l=>(l.map (dp H depth)).flatten
 | _=>[]
def eK (H:List Blk):List Nat->List Blk
 | []=>H
 | b::l=>eK (H.set b .dead) l
def V0.thaw (H:List Blk) (l:List Nat) (y:V0):V0 :=
 match dp H depth y with
 | []=>y
 | b::r=>bif l.contains b&&r.all fun x=>l.contains x then
   match snap H depth y with
   | some z=>.c z
   | none=>y
  else y
def V.thaw (H:List Blk) (l:List Nat):V->V
 | .x y=>.x (y.thaw H l)
 | .agg ys=>.agg (ys.map (V0.thaw H l))
 | v=>v
def Blk.thaw (H:List Blk) (l:List Nat):Blk->Blk
 | .box cells=>.box (cells.map (V0.thaw H l))
 | o=>o
def St.thaw (st:St) (l:List Nat):St :=
 match l with
 | []=>st
 | l=>{ env:=st.env.map (V.thaw st.heap l),heap:=(eK st.heap l).map (Blk.thaw st.heap l) }
def CV.scalar:CV->Bool
 | .b _=>true
 | .i _ _=>true
 | .s _=>true
 | _=>false
def A.scalar:A->Bool
 | .v x=>x.scalar
 | .agg l=>l.all (·.scalar)
def V0.drop (b:Nat):V0->V0
 | .own b' off len=>bif b' == b then .u else .own b' off len
 | .aptr b' i j=>bif b' == b then .u else .aptr b' i j
 | .mrow b' i=>bif b' == b then .u else .mrow b' i
 | .mptr b' i k=>bif b' == b then .u else .mptr b' i k
 | v=>v
def V.drop (b:Nat):V->V
 | .x y=>.x (y.drop b)
 | .agg l=>.agg (l.map (V0.drop b))
 | v=>v
def Blk.drop (b:Nat):Blk->Blk
 | .box cells=>.box (cells.map (V0.drop b))
 | o=>o
def St.drop (st:St) (b:Nat):St:={ env:=st.env.map (V.drop b),heap:=st.heap.map (Blk.drop b) }
def V0.below (n:Nat):V0->Bool
 | .u=>true
 | .c _=>true
 | .own b _ _=>Nat.blt b n
 | .ptr b _=>Nat.blt b n
 | .aptr b _ _=>Nat.blt b n
 | .mrow b _=>Nat.blt b n
 | .mptr b _ _=>Nat.blt b n
 | .fn _ caps=>caps.all fun
  | .c _=>true
  | .ptr b _=>Nat.blt b n
def V.below (n:Nat):V->Bool
 | .x y=>y.below n
 | .agg l=>l.all (V0.below n)
 | _=>true
def Blk.below (n:Nat):Blk->Bool
 | .box cells=>cells.all (V0.below n)
 | _=>true
inductive Mode where
 | snap | freeze
inductive AOp where
 | move (x:Operand)
 | assign (x:Operand)
 | pick (c a b:Operand)
 | box (q:Nat) (t:TypeId) (x:Operand)
 | alloc (q:Nat) (t:TypeId) (zs:List V0)
 | build (t:TypeId) (zs:List V0) (pl:List (Nat × Nat)) (esz:Nat) (parts:List (Nat × Operand))
 | buildSlice (q:Nat) (t e:TypeId) (r:Kd) (len:Nat) (zs:List V0) (parts:List (Nat × Operand))
 | load (t:TypeId) (m:Option Nat) (x:Operand)
 | store (t:TypeId) (m:Nat) (x y:Operand)
 | fieldAddr (t:TypeId) (x:Operand) (fi off:Nat)
 | nilCheck (x:Operand)
 | iface (t:TypeId) (x:Operand)
 | pan (x:Operand)
 | field (t:TypeId) (x:Operand) (fi off:Nat) (m:Option Nat)
 | indexAddr (t e:TypeId) (esz:Nat) (x i:Operand)
 | indexAddrA (t e:TypeId) (len esz:Nat) (x i:Operand)
 | index (t e:TypeId) (len esz:Nat) (m:Option Nat) (x i:Operand)
 | indexS (t:TypeId) (x i:Operand)
 | sliceS (t:TypeId) (x:Operand) (lo hi:Option Operand)
 | allocA (q:Nat) (t:TypeId) (r:Kd) (zs:List CV)
 | indexAddrR (t e:TypeId) (len esz:Nat) (x i:Operand)
 | loadR (t:TypeId) (κ:Kd) (x:Operand)
 | binOp (op:BinOp) (t:TypeId) (x y:Operand) (yt:TypeId)
 | eqA (neg:Bool) (r:Kd) (t:TypeId) (x y:Operand) (yt:TypeId)
 | eqB (neg:Bool) (t:TypeId) (x y:Operand) (yt:TypeId)
 | unOp (op:UnOp) (t:TypeId) (x:Operand)
 | extract (x:Operand) (n:Nat)
 | len (t:TypeId) (str:Bool) (x:Operand)
 | mm (max:Bool) (args:List Operand) (ts:List TypeId)
 | append (q:Nat) (t e:TypeId) (r:Kd) (bytes:Nat) (x y:Operand)
 | slice (t e:TypeId) (esz:Nat) (x:Operand) (lo hi max:Option Operand)
 | makeSlice (q:Nat) (t e:TypeId) (r:Kd) (bytes:Nat) (zs:List CV) (l c:Operand)
 | call (f:FuncId) (args:List Operand) (ts:List TypeId) (m:Mode)
 | callv (g:Operand) (args:List Operand) (ts:List TypeId) (m:Mode)
 | turn (f:FuncId) (x:Operand) (rest:List Operand) (ts:List TypeId)
 | callo (q:Nat) (f:FuncId) (args:List Operand) (ts:List TypeId) (r:Kd)
 | cut (q:Nat) (f:FuncId) (x:Operand) (rest:List Operand) (ts:List TypeId) (r:Kd)
 | clear (t e:TypeId) (zs:List CV) (x:Operand)
 | capN (t:TypeId) (x:Operand)
 | appendZ (q:Nat) (t ti e:TypeId) (r:Kd) (bytes:Nat) (zs:List CV) (x y:Operand)
 | mkfn (f:FuncId) (caps:List Operand)
 | convert (src dst:TypeId) (k:IntKind) (x:Operand)
 | lookup (t:TypeId) (x key:Operand)
 | makeMap (q:Nat) (t:TypeId) (sb:Nat)
 | setPut (t:TypeId) (x key:Operand)
 | lookupI (t:TypeId) (x key:Operand)
 | mapPut (t:TypeId) (x key y:Operand)
 | lookupB (t:TypeId) (x key:Operand)
 | mapPutT (t:TypeId) (x key:Operand)
 | buildC (t e:TypeId) (r:Kd) (len:Nat) (zs:List V0) (parts:List (Nat × Operand))
 | makeMat (q:Nat) (t e:TypeId) (κ:Kd) (bytes:Nat) (l c:Operand)
 | storeRow (t:TypeId) (x y:Operand)
 | callL (g:Operand) (args:List Operand) (ts:List TypeId) (bs:List Nat) (n0:Nat)
def AOp.erase:AOp->Op
 | .move x=>.move x
 | .assign x=>.assign x
 | .pick c a b=>.pick c a b
 | .box _ t x=>.box t x
 | .alloc _ t _=>.alloc t
 | .build t _ _ _ parts=>.build t parts.toArray
 | .buildSlice _ t _ _ ln _ parts=>.buildSlice t ln parts.toArray
 | .load t _ x=>.load t x
 | .store t _ x y=>.store t x y
 | .fieldAddr t x fi _=>.fieldAddr t x fi
 | .nilCheck x=>.nilCheck x
 | .iface t x=>.makeInterface t x
 | .pan x=>.panic x
 | .field t x fi _ _=>.field t x fi
 | .indexAddr t _ _ x i=>.indexAddr t x i
 | .indexAddrA t _ _ _ x i=>.indexAddr t x i
 | .index t _ _ _ _ x i=>.index t x i
 | .indexS t x i=>.index t x i
 | .sliceS t x lo hi=>.slice t x lo hi none
 | .allocA _ t _ _=>.alloc t
 | .indexAddrR t _ _ _ x i=>.indexAddr t x i
 | .loadR t _ x=>.load t x
 | .binOp op t x y yt=>.binOp op t x y yt
 | .eqA neg _ t x y yt=>.binOp (bif neg then .neq else .eql) t x y yt
 | .eqB neg t x y yt=>.binOp (bif neg then .neq else .eql) t x y yt
 | .unOp op t x=>.unOp op t x
 | .extract x n=>.extract x n
 | .len t _ x=>.call { callee:=.builtin .len,args:=#[x],argTypes:=#[t] }
 | .mm mx args ts=>.call { callee:=.builtin (bif mx then .max else .min),args:=args.toArray,argTypes:=ts.toArray }
 | .append _ t _ _ _ x y=>.call { callee:=.builtin .append,args:=#[x,y],argTypes:=#[t,t] }
 | .slice t _ _ x lo hi mx=>.slice t x lo hi mx
 | .makeSlice _ t _ _ _ _ l c=>.makeSlice t l c
 | .call f args ts _=>.call { callee:=.value (.func f),args:=args.toArray,argTypes:=ts.toArray }
 | .callv g args ts _=>.call { callee:=.value g,args:=args.toArray,argTypes:=ts.toArray }
 | .callL g args ts _ _=>.call { callee:=.value g,args:=args.toArray,argTypes:=ts.toArray }
 | .turn f x rest ts=>.call { callee:=.value (.func f),args:=(x::rest).toArray,argTypes:=ts.toArray }
 | .cut _ f x rest ts _=>.call { callee:=.value (.func f),args:=(x::rest).toArray,argTypes:=ts.toArray }
 | .callo _ f args ts _=>.call { callee:=.value (.func f),args:=args.toArray,argTypes:=ts.toArray }
 | .clear t _ _ x=>.call { callee:=.builtin .clear,args:=#[x],argTypes:=#[t] }
 | .capN t x=>.call { callee:=.builtin .cap,args:=#[x],argTypes:=#[t] }
 | .appendZ _ t ti _ _ _ _ x y=>.call { callee:=.builtin .append,args:=#[x,y],argTypes:=#[t,ti] }
 | .mkfn f caps=>.makeFunc (.func f) #[] caps.toArray
 | .convert src dst _ x=>.convert src dst x
 | .lookup t x key=>.lookup t x key false
 | .makeMap _ t _=>.makeMap t none
 | .setPut t x key=>.mapUpdate t x key (.const (.bool true))
 | .lookupI t x key=>.lookup t x key false
 | .mapPut t x key y=>.mapUpdate t x key y
 | .lookupB t x key=>.lookup t x key false
 | .mapPutT t x key=>.mapUpdate t x key (.const (.bool true))
 | .buildC t _ _ ln _ parts=>.buildSlice t ln parts.toArray
 | .makeMat _ t _ _ _ l c=>.makeSlice t l c
 | .storeRow t x y=>.store t x y
def i64 (n:Int):V:=.x (.c (.i .i64 n))
def bl (b:Bool):V:=.x (.c (.b b))
def e8 (place:Nat->Option (Nat × Nat)) (zs:List V0):List (Nat × V)->Option (List V0)
 | []=>some zs
 | (i,v)::rest =>
  match place i with
  | none=>none
  | some (off,size) =>
   match cellsOf v with
   | some l=>bif Nat.beq l.length size&&Nat.ble (off+l.length) zs.length then e8 place (splice zs off l) rest else none
   | none=>none
def Fq (r:Kd):V->V
 | .x (.c (.ro full .nil n f)) =>
  match r with
  | .pr (.sl k) .nil=>bif Nat.beq n 0 then .x (.c (.ro full k n f)) else .x (.c (.ro full .nil n f))
  | _=>.x (.c (.ro full .nil n f))
 | v=>v
def Gn (pl:List (Nat × Nat)) (esz:Nat):Nat->Option (Nat × Nat) :=
 match esz with
 | 0=>fun i=>pl[i]?
 | esz=>fun i=>some (i*esz,esz)
def Fn (op:BinOp) (k:IntKind) (a b:Int):Option V :=
 match op with
 | .add=>some (.x (.c (.i k (k.wrap (a+b)))))
 | .sub=>some (.x (.c (.i k (k.wrap (a-b)))))
 | .mul=>some (.x (.c (.i k (k.wrap (a*b)))))
 | .eql=>some (bl (a==b))
 | .neq=>some (bl (a != b))
 | .lss=>some (bl (decide (a<b)))
 | .leq=>some (bl (decide (a<=b)))
 | .gtr=>some (bl (decide (a>b)))
 | .geq=>some (bl (decide (a>=b)))
 | .and=>some (.x (.c (.i k (bits .and k a b))))
 | .or=>some (.x (.c (.i k (bits .or k a b))))
 | .xor=>some (.x (.c (.i k (bits .xor k a b))))
 | _=>none
def Ep (op:BinOp) (a b:ByteArray):Option V :=
 match op with
 | .eql=>some (bl (a.toList==b.toList))
 | .neq=>some (bl (!(a.toList==b.toList)))
 | .lss=>some (bl (Op.bytesLess a.toList b.toList))
 | .leq=>some (bl (Op.bytesLess a.toList b.toList||a.toList==b.toList))
 | .gtr=>some (bl (!(Op.bytesLess a.toList b.toList||a.toList==b.toList)))
 | .geq=>some (bl (!(Op.bytesLess a.toList b.toList)))
 | _=>none
def aQ:Kd->List V0->List V0->Option Bool
 | .pr (.int k) r,.c (.i k1 a)::l,.c (.i k2 b)::l' =>
  bif jP k k1&&jP k k2 then (match aQ r l l' with | some t=>some ((a==b)&&t) | none=>none) else none
 | .pr .bool r,.c (.b a)::l,.c (.b b)::l'=>match aQ r l l' with | some t=>some ((a==b)&&t) | none=>none
 | .pr .str r,.c (.s a)::l,.c (.s b)::l'=>match aQ r l l' with | some t=>some ((a.toList==b.toList)&&t) | none=>none
 | .nil,[],[]=>some true
 | _,_,_=>none
def E9 (mx:Bool) (k:IntKind) (x:Int):List V->Option Int
 | []=>some x
 | .x (.c (.i k' y))::l=>bif jP k k' then E9 mx k (bif mx then (if y>x then y else x) else (if y<x then y else x)) l else none
 | _=>none
def ri (r:Kd) (g:Nat->CV) (j:Nat) (m:Option Nat):Option V :=
 match m with
 | none=>bif Nat.blt j r.len then some (.x (.c ((r.nth j).proj (g j)))) else none
 | some m=>bif Nat.ble (j+m) r.len then some (.agg ((List.range m).map fun t=>.c ((r.nth (j+t)).proj (g (j+t))))) else none
def rN (l:List V0) (off:Nat) (m:Option Nat):Option V :=
 match m with
 | none=>match l[off]? with
  | some y=>some (.x y)
  | none=>none
 | some m=>bif Nat.ble (off+m) l.length then some (.agg ((l.drop off).take m)) else none
def lB (r:Kd) (j:Nat):List CV->Bool
 | []=>true
 | c::l=>(r.nth j).fits c&&lB r (j+1) l
variable {ρ : Type}
section
variable (C : ao) (hb : Nat)
def jO (st:St) (q:Nat) (o:Blk) (k:St->Option ρ):Option ρ :=
 match st.heap[hb+q]? with
 | some .rsv=>k (st.setB (hb+q) o)
 | _=>none
def rL (H:List Blk) (r:Kd):V->Option (Nat × (Nat->Nat->CV))
 | .x (.c (.ro _ r' n f))=>bif r.beq r' || Nat.beq n 0 then some (n,f) else none
 | .x (.own b off len) =>
  match H[b]? with
  | some (.arr r' _ f)=>bif r.beq r' then some (len,d9 off f) else none
  | _=>none
 | _=>none
def aB (n:Nat) (f g:Nat->Nat->CV):Nat->Nat->CV :=
 fun i j=>bif Nat.blt i n then f i j else g (i-n) j
def cm (f:Nat->Nat->CV) (i j m:Nat) (L:Nat->CV):Nat->Nat->CV :=
 fun i' j'=>bif Nat.beq i' i&&Nat.ble j j' && Nat.blt j' (j+m) then L (j' - j) else f i' j'
def Dt (f:Nat->Nat->CV) (i k:Nat) (c:CV):Nat->Nat->CV:=fun j l=>bif Nat.beq j i&&Nat.beq l k then c else f j l
def D1:V->Option A
 | .x (.c x)=>some (.v x)
 | .x (.fn f [])=>some (.v (.fn f 0 (fun _=>.any)))
 | .agg l=>match aO (l.map fun | .c x=>some x | _=>none) with
  | some l=>some (.agg l)
  | none=>none
 | _=>none
def inb (i:Int) (n:Nat):Bool:=decide (0<=i)&&decide (i<(n:Int))
def oH (i:Int) (n:Nat):Bool:=decide (0<=i)&&decide (i<=(n:Int))
def Ya (n:Nat) (f:Nat->Nat->CV) (s:ByteArray):List Nat:=(List.range n).filter fun i=>ByteArray.toList ((f i 0).str)==ByteArray.toList s
def Oi (n:Nat) (f:Nat->Nat->CV) (s:ByteArray):Nat:=(Ya n f s).length
def lJ (n:Nat) (f:Nat->Nat->CV) (s:ByteArray):Option Nat:=(List.range n).find? fun i=>ByteArray.toList ((f i 0).str)==ByteArray.toList s
def lX (n:Nat) (f:Nat->Nat->CV) (s:ByteArray):Int:=match lJ n f s with
 | some i=>(f i 1).int
 | none=>0
def oG (n:Nat) (f:Nat->Nat->CV) (s:ByteArray):Nat:=match lJ n f s with
 | some _=>n
 | none=>n+1
def oF (n:Nat) (f:Nat->Nat->CV) (s:ByteArray) (v:Int):Nat->Nat->CV:=match lJ n f s with
 | some i0=>fun i j=>bif Nat.beq i i0&&Nat.beq j 1 then .i .i64 v else f i j
 | none=>fun i j=>bif Nat.blt i n then f i j else (bif Nat.beq j 0 then .s s else .i .i64 v)
def BC {ρ:Type} (n:Int):Nat->Nat->(Int->Option ρ)->Option ρ
 | _,0,_=>none
 | j,m+1,f=>bif n==Int.ofNat j then f (Int.ofNat j) else BC n (j+1) m f
def GH {ρ:Type} (n:Int) (ln:Nat) (f:Int->Option ρ):Option ρ:=BC n 0 ln f
def lm (res:List A):V :=
 match res with
 | [a]=>a.toV
 | l=>.tup l
def jZ (H:List Blk) (b:Nat):Bool :=
 match H[b]? with
 | some (.box _)=>true
 | _=>false
def j5 (H:List Blk) (b:Nat):Bool :=
 match H[b]? with
 | some (.arr _ _ _)=>true
 | _=>false
def lz (f:FuncId) (args:List V) (m:Mode) (st:St) (k:V->St->Option ρ):Option ρ :=
 match aO (args.map (ll st.heap)) with
 | none=>none
 | some as =>
  C.call f as fun res =>
   match m with
   | .snap=>bif res.all (·.scalar) then k (lm res) st else none
   | .freeze=>k (lm res) (st.thaw ((args.map (eJ st.heap)).flatten))
def WS:Cap->V
 | .c x=>.x (.c x)
 | .ptr b j=>.x (.ptr b j)
def N7 (bs:List Nat):V0->Bool
 | .c _=>true
 | .fn _ caps=>caps.all fun
  | .c _=>true
  | .ptr b _=>bs.contains b
 | _=>false
def N8 (bs:List Nat):Blk->Bool
 | .box cells=>cells.all (N7 bs)
 | .arr r n _=>Nat.blt 0 n && !r.tagged
 | _=>false
def I2 (bs:List Nat):V->Bool
 | .x (.ptr b _)=>bs.contains b
 | .x (.own b _ _)=>bs.contains b
 | .x y=>N7 bs y
 | .agg l=>l.all fun | .c _=>true | _=>false
 | _=>false
def rO (bs:List Nat) (n0:Nat) (H:List Blk):List Blk:=(List.range n0).map fun b=>bif bs.contains b then H.getD b .dead else .dead
def Az (bs:List Nat) (H' H:List Blk):List Blk:=(List.range H.length).map fun b=>bif bs.contains b then H'.getD b .dead else H.getD b .dead
def N9 (f:FuncId) (vs:List V) (bs:List Nat) (n0:Nat) (st:St) (k:V->St->Option ρ):Option ρ :=
 bif vs.all (I2 bs)&&bs.all fun b=>Nat.blt b n0&&Nat.blt b st.heap.length then
  bif bs.all fun b=>N8 bs (st.heap.getD b .dead) then
   C.lend f bs vs (rO bs n0 st.heap) fun res H'=>k (lm res) { st with heap:=Az bs H' st.heap }
  else none
 else none
def Hx (bs:List Nat) (vs:List V) (H:List Blk):List Nat:=((vs.map (eJ H)).flatten).filter fun b=>!bs.contains b
def I3 (g:Operand) (args:List Operand) (bs:List Nat) (n0:Nat) (st:St) (k:V->St->Option ρ):Option ρ :=
 match st.ev g with
 | .x (.fn f caps)=>N9 C f (args.map st.ev ++ caps.map WS) bs n0 st k
 | _=>none
def bnd (st:St) (dflt:Nat) (o:Option Operand) (hi:Nat) (k:Nat->Option ρ):Option ρ :=
 match o with
 | none=>k dflt
 | some x =>
  match st.ev x with
  | .x (.c (.i _ i))=>bif oH i hi then k i.toNat else none
  | _=>none
def aj (st:St) (o:AOp) (k:V->St->Option ρ):Option ρ :=
 match o with
 | .move x=>k (st.ev x) st
 | .assign x=>k (st.ev x) st
 | .pick c a b =>
  match st.ev c with
  | .x (.c (.b t))=>bif t then k (st.ev a) st else k (st.ev b) st
  | _=>none
 | .box q _ x =>
  match cellsOf (st.ev x) with
  | some l=>jO hb st q (.box l) fun st=>k (.x (.ptr (hb+q) 0)) st
  | none=>none
 | .alloc q _ zs=>jO hb st q (.box zs) fun st=>k (.x (.ptr (hb+q) 0)) st
 | .build _ zs pl esz parts =>
  match e8 (Gn pl esz) zs (parts.map fun p=>(p.1,st.ev p.2)) with
  | some l=>k (.agg l) st
  | none=>none
 | .buildSlice q _ _ r len zs parts =>
  match e8 (fun i=>some (i*r.len,r.len)) ((List.range (len*r.len)).map fun t=>zs.getD (t % r.len) .u) (parts.map fun p=>(p.1,Fq r (st.ev p.2))) with
  | none=>none
  | some l =>
   match aO (l.map (snap st.heap depth)) with
   | none=>none
   | some cs =>
    bif (List.range len).all fun i=>lB r 0 ((cs.drop (i*r.len)).take r.len) then
     jO hb (st.thaw ((l.map (dp st.heap depth)).flatten)) q (.arr r len (fun i j=>au cs (i*r.len+j))) fun st=>k (.x (.own (hb+q) 0 len)) st
    else none
 | .load _ m x =>
  match st.ev x with
  | .x (.ptr b j) =>
   match st.heap[b]? with
   | some (.box cells) =>
    match rN cells j m with
    | some v=>k v st
    | none=>none
   | _=>none
  | .x (.aptr b i j) =>
   match st.heap[b]? with
   | some (.arr r _ f) =>
    match ri r (f i) j m with
    | some v=>k v st
    | none=>none
   | some (.mat _ n _ _)=>bif (Nat.beq j 0&&Nat.blt i n)&&m.isNone then k (.x (.mrow b i)) st else none
   | _=>none
  | .x (.mptr b i k') =>
   match st.heap[b]? with
   | some (.mat κ _ _ f)=>bif m.isNone then k (.x (.c (κ.proj (f i k')))) st else none
   | _=>none
  | .x (.c (.rp r g)) =>
   match ri r g 0 m with
   | some v=>k v st
   | none=>none
  | _=>none
 | .store _ m x y =>
  match cellsOf (st.ev y) with
  | none=>none
  | some l =>
   bif Nat.beq l.length m then
    match st.ev x with
    | .x (.ptr b j) =>
     match st.heap[b]? with
     | some (.box cells)=>bif Nat.ble (j+m) cells.length then k .undef (st.setB b (.box (splice cells j l))) else none
     | _=>none
    | .x (.aptr b i j) =>
     match st.heap[b]? with
     | some (.arr r n f) =>
      match aO (l.map (snap st.heap depth)) with
      | none=>none
      | some cs =>
       bif Nat.ble (j+m) r.len&&lB r j cs && !((l.map (dp st.heap depth)).flatten.contains b) then
        k .undef ({ st with heap:=eK st.heap ((l.map (dp st.heap depth)).flatten) }.setB b (.arr r n (cm f i j m (au cs))))
       else none
     | _=>none
    | .x (.mptr b i j) =>
     match st.heap[b]?,l with
     | some (.mat κ n ln f),[.c c]=>bif Nat.beq m 1&&(κ.fits c&&c.scalar) then k .undef (st.setB b (.mat κ n ln (Dt f i j c))) else none
     | _,_=>none
    | _=>none
   else none
 | .fieldAddr _ x _ off =>
  match st.ev x with
  | .x (.ptr b j)=>bif jZ st.heap b then k (.x (.ptr b (j+off))) st else none
  | .x (.aptr b i j)=>bif j5 st.heap b then k (.x (.aptr b i (j+off))) st else none
  | .x (.c (.rp r g))=>k (.x (.c (.rp (r.drop off) (mC off g)))) st
  | _=>none
 | .iface ..=>none
 | .pan _=>none
 | .nilCheck x =>
  match st.ev x with
  | .x (.ptr b j)=>bif jZ st.heap b then k (.x (.ptr b j)) st else none
  | .x (.c (.rp r g))=>k (.x (.c (.rp r g))) st
  | _=>none
 | .field _ x _ off m =>
  match st.ev x with
  | .agg l =>
   match rN l off m with
   | some v=>k v st
   | none=>none
  | _=>none
 | .indexAddr _ _ esz x i =>
  match st.ev i with
  | .x (.c (.i _ i)) =>
   match st.ev x with
   | .x (.c (.ro _ r n f))=>bif Nat.beq r.len esz then (bif inb i n then k (.x (.c (.rp r (f i.toNat)))) st else none) else none
   | .x (.own b off len) =>
    match st.heap[b]? with
    | some (.arr r _ _)=>bif Nat.beq r.len esz then (bif inb i len then k (.x (.aptr b (off+i.toNat) 0)) st else none) else none
    | some (.mat _ _ _ _)=>bif Nat.beq 1 esz then (bif inb i len then k (.x (.aptr b i.toNat 0)) st else none) else none
    | _=>none
   | .x (.mrow b i') =>
    match st.heap[b]? with
    | some (.mat _ _ ln _)=>bif Nat.beq 1 esz then (bif inb i (ln i') then k (.x (.mptr b i' i.toNat)) st else none) else none
    | _=>none
   | _=>none
  | _=>none
 | .indexAddrA _ _ len esz x i =>
  match st.ev i with
  | .x (.c (.i _ i)) =>
   match st.ev x with
   | .x (.ptr b j)=>GH i len fun i=>bif jZ st.heap b&&inb i len then k (.x (.ptr b (j+i.toNat*esz))) st else none
   | .x (.aptr b i' j)=>GH i len fun i=>bif j5 st.heap b&&inb i len then k (.x (.aptr b i' (j+i.toNat*esz))) st else none
   | .x (.c (.rp r g))=>GH i len fun i=>bif inb i len then k (.x (.c (.rp (r.drop (i.toNat*esz)) (mC (i.toNat*esz) g)))) st else none
   | _=>none
  | _=>none
 | .index _ _ len esz m x i =>
  match st.ev i with
  | .x (.c (.i _ i)) =>
   match st.ev x with
   | .agg l=>GH i len fun i =>
    bif inb i len then
     match rN l (i.toNat*esz) m with
     | some v=>k v st
     | none=>none
    else none
   | _=>none
  | _=>none
 | .allocA ..=>none
 | .indexAddrR ..=>none
 | .loadR ..=>none
 | .sliceS ..=>none
 | .indexS ..=>none
 | .binOp op _ x y _ =>
  match st.ev x,st.ev y with
  | .x (.c (.i k1 a)),.x (.c (.i k2 b)) =>
   bif jP k1 k2 then
    match op with
    | .quo=>bif (b==0) then none else k (.x (.c (.i k1 (k1.wrap (a.tdiv b))))) st
    | .rem=>bif (b==0) then none else k (.x (.c (.i k1 (a.tmod b)))) st
    | .shl=>bif decide (0<=b)&&decide (b<=(k1.bits:Int)) then k (.x (.c (.i k1 (k1.wrap (a*2 ^ b.toNat))))) st else none
    | .shr=>bif decide (0<=b)&&decide (b<=(k1.bits:Int)) then k (.x (.c (.i k1 (a / 2 ^ b.toNat)))) st else none
    | op=>match Fn op k1 a b with
     | some v=>k v st
     | none=>none
   else none
  | .x (.c (.s a)),.x (.c (.s b)) =>
   match Ep op a b with
   | some v=>k v st
   | none=>none
  | _,_=>none
 | .eqA neg r _ x y _ =>
  match st.ev x,st.ev y with
  | .agg l,.agg l' =>
   match aQ r l l' with
   | some t=>k (bl (bif neg then !t else t)) st
   | none=>none
  | _,_=>none
 | .eqB neg _ x y _ =>
  match st.ev x,st.ev y with
  | .x (.c (.b s)),.x (.c (.b t))=>k (bl (bif neg then !(s==t) else (s==t))) st
  | _,_=>none
 | .unOp op _ x =>
  match op,st.ev x with
  | .not,.x (.c (.b t))=>k (bl (!t)) st
  | .neg,.x (.c (.i kd n))=>k (.x (.c (.i kd (kd.wrap (0-n))))) st
  | _,_=>none
 | .extract x n =>
  match st.ev x with
  | .tup l=>match l[n]? with
   | some a=>k a.toV st
   | none=>none
  | _=>none
 | .len _ str x =>
  match st.ev x with
  | .x (.c (.ro _ _ n _))=>bif str then none else k (i64 n) st
  | .x (.own b _ len)=>bif j5 st.heap b && !str then k (i64 len) st else none
  | .x (.mrow b i) =>
   match st.heap[b]? with
   | some (.mat _ _ ln _)=>bif str then none else k (i64 (ln i)) st
   | _=>none
  | .x (.c (.s s))=>bif str then k (i64 s.size) st else none
  | _=>none
 | .mm mx args _ =>
  match args.map st.ev with
  | .x (.c (.i kd n))::l=>match E9 mx kd n l with
   | some r=>k (.x (.c (.i kd r))) st
   | none=>none
  | _=>none
 | .append q _ _ r _ x y =>
  match rL st.heap r (st.ev y) with
  | none=>none
  | some (m,g) =>
   match st.ev x with
   | .x (.own b off len) =>
    match off,st.heap[b]? with
    | 0,some (.arr r' _ f) =>
     bif r.beq r' && Nat.ble (len+m) 1073741824 then
      k (.x (.own b 0 (len+m))) ((st.drop b).setB b (.arr r (len+m) (aB len f g)))
     else none
    | _,_=>none
   | .x (.c (.ro full r' n f)) =>
    bif full&&(Nat.beq n 0||Nat.blt 0 m)&&(r.beq r' || Nat.beq n 0)&&Nat.ble (n+m) 1073741824 then
     jO hb st q (.arr r (n+m) (aB n f g)) fun st=>k (.x (.own (hb+q) 0 (n+m))) st
    else none
   | _=>none
 | .slice _ _ esz x lo hi mx =>
  match st.ev x with
  | .x (.c (.ro fl r n f)) =>
   bif Nat.beq r.len esz&&(mx.isNone||hi.isSome) then
    bnd st n mx n fun m=>bnd st n hi m fun h=>bnd st 0 lo h fun l =>
     k (.x (.c (.ro (bif mx.isNone then fl&&Nat.beq h n else Nat.beq m h) r (h-l) (d9 l f)))) st
   else none
  | .x (.own b off len) =>
   match st.heap[b]? with
   | some (.arr r _ _) =>
    bif Nat.beq r.len esz&&mx.isNone then
     bnd st len hi len fun h=>bnd st 0 lo h fun l=>k (.x (.own b (off+l) (h-l))) st
    else none
   | _=>none
  | _=>none
 | .makeSlice q _ _ r _ zs l c =>
  match st.ev l,st.ev c with
  | .x (.c (.i _ l)),.x (.c (.i _ c)) =>
   bif decide (0<=l)&&decide (l<=c)&&decide (c<=1073741824)&&lB r 0 zs then
    jO hb st q (.arr r l.toNat (fun _ j=>au zs j)) fun st=>k (.x (.own (hb+q) 0 l.toNat)) st
   else none
  | _,_=>none
 | .call f args _ m=>lz C f (args.map st.ev) m st k
 | .callL g args _ bs n0=>I3 C g args bs n0 (st.thaw (Hx bs (args.map st.ev) st.heap)) k
 | .callv g args _ m =>
  match st.ev g with
  | .x g =>
   match g with
   | .fn f caps=>lz C f (args.map st.ev ++ caps.map fun
     | .c x=>.x (.c x)
     | .ptr b j=>.x (.ptr b j)) m st k
   | .c (.fn f nc caps)=>lz C f (args.map st.ev ++ (List.range nc).map fun t=>.x (.c (caps t))) m st k
   | _=>none
  | _=>none
 | .callo q f args _ r =>
  match aO ((args.map st.ev).map (ll st.heap)) with
  | none=>none
  | some as =>
   match C.fresh f r as with
   | some p=>bif Nat.ble p.1 1073741824 then jO hb st q (.arr r p.1 p.2) fun st=>k (.x (.own (hb+q) 0 p.1)) st else none
   | none=>none
 | .turn f x rest _ =>
  match aO (rest.map fun y=>D1 (st.ev y)) with
  | none=>none
  | some as =>
   match st.ev x with
   | .x (.own b off len) =>
    match off,st.heap[b]? with
    | 0,some (.arr r n g) =>
     match C.turn f r len g as with
     | some g'=>bif Nat.beq len n then (bif Nat.beq len 0 then k .u st else k .u (st.setB b (.arr r n g'))) else none
     | none=>none
    | _,_=>none
   | .x (.c (.ro true r 0 g)) =>
    match C.turn f r 0 g as with
    | some _=>k .u st
    | none=>none
   | _=>none
 | .cut ..=>none
 | .capN _ x =>
  match st.ev x with
  | .x (.c (.ro true _ n _))=>k (i64 n) st
  | _=>none
 | .appendZ q _ _ _ r _ zs x y =>
  match st.ev x,st.ev y with
  | .x (.c (.ro true _ 0 _)),.x (.c (.i .i64 l)) =>
   bif decide (0<l)&&decide (l<=1073741824)&&lB r 0 zs then
    jO hb st q (.arr r l.toNat (fun _ j=>au zs j)) fun st=>k (.x (.own (hb+q) 0 l.toNat)) st
   else none
  | _,_=>none
 | .clear ..=>none
 | .mkfn f caps =>
  match aO (caps.map fun x=>match st.ev x with
   | .x (.c c)=>some (Cap.c c)
   | .x (.ptr b j)=>some (Cap.ptr b j)
   | _=>none) with
  | some l=>k (.x (.fn f l)) st
  | none=>none
 | .convert _ _ kd x =>
  match st.ev x with
  | .x (.c (.i _ n))=>k (.x (.c (.i kd (kd.wrap n)))) st
  | _=>none
 | .lookup ..=>none
 | .makeMap q _ sb=>jO hb st q (.set sb 0 (fun _ _=>.any)) fun st=>k (.x (.own (hb+q) 0 0)) st
 | .lookupI ..=>none
 | .mapPut ..=>none
 | .setPut ..=>none
 | .lookupB _ x key =>
  match st.ev x,st.ev key with
  | .x (.own b _ _),.x (.c (.s s)) =>
   match st.heap[b]? with
   | some (.set 2 n f)=>k (.x (.c (.b (lX n f s==1)))) st
   | _=>none
  | _,_=>none
 | .mapPutT _ x key =>
  match st.ev x,st.ev key with
  | .x (.own b _ _),.x (.c (.s s)) =>
   match st.heap[b]? with
   | some (.set 2 n f)=>k .undef (st.setB b (.set 2 (oG n f s) (oF n f s 1)))
   | _=>none
  | _,_=>none
 | .buildC ..=>none
 | .makeMat ..=>none
 | .storeRow ..=>none
structure FOp where
 dst:Option Nat
 op:AOp
 guard:Option (Nat × Bool)
def ca (st:St):List FOp->(St->Option ρ)->Option ρ
 | [],k=>k st
 | o::l,k =>
  match o.guard with
  | none=>aj C hb st o.op fun v st=>ca (st.putO o.dst v) l k
  | some (t,want) =>
   match st.env.getD t .u with
   | .x (.c (.b x)) =>
    bif x==want then aj C hb (st.put t (bl want)) o.op fun v st=>ca (st.putO o.dst v) l k
    else ca ((st.put t (bl (!want))).putO o.dst .undef) l k
   | .undef=>ca (st.putO o.dst .undef) l k
   | _=>none
def V0.ids:V0->List Nat
 | .u=>[]
 | .c _=>[]
 | .own b _ _=>[b]
 | .ptr b _=>[b]
 | .aptr b _ _=>[b]
 | .mrow b _=>[b]
 | .mptr b _ _=>[b]
 | .fn _ caps=>(caps.map fun
   | .c _=>[]
   | .ptr b _=>[b]).flatten
def V.ids:V->List Nat
 | .x y=>y.ids
 | .agg l=>(l.map V0.ids).flatten
 | _=>[]
def Blk.ids:Blk->List Nat
 | .box cells=>(cells.map V0.ids).flatten
 | _=>[]
def V0.known:V0->Bool
 | .u=>false
 | _=>true
def V.known:V->Bool
 | .u=>false
 | .x y=>y.known
 | .agg l=>l.all V0.known
 | _=>true
def Blk.known:Blk->Bool
 | .box cells=>cells.all V0.known
 | _=>true
def lA (H:List Blk) (b:Nat):List Nat :=
 match H[b]? with
 | some o=>o.ids
 | none=>[]
def named (b:Nat):Nat->List Blk->List Nat
 | _,[]=>[]
 | n,o::H=>bif o.ids.contains b then n::named b (n+1) H else named b (n+1) H
structure dH where
 rd:List Nat
 wr:List Nat
 nm:List Nat
 dr:List Nat
def lq (vs:List V):Option dH:=bif vs.all V.known then some ⟨(vs.map V.ids).flatten,[],[],[]⟩ else none
def QP (vs:List V):Option dH:=bif vs.all V.known then some ⟨[],[],(vs.map V.ids).flatten,[]⟩ else none
def Qj (b:Nat) (vs:List V):Option dH:=bif vs.all V.known then some ⟨(vs.map V.ids).flatten,[b],[],[]⟩ else none
def jM (st:St) (vs:List V) (m:Mode):Option dH :=
 match m with
 | .snap=>bif vs.all V.known then some ⟨(vs.map (eJ st.heap)).flatten ++ (vs.map V.ids).flatten,[],[],[]⟩ else none
 | .freeze=>bif vs.all V.known&&((vs.map (eJ st.heap)).flatten).isEmpty then some ⟨(vs.map V.ids).flatten,[],[],[]⟩ else none
def dh (st:St) (o:AOp):Option dH :=
 match o with
 | .move x=>QP [st.ev x]
 | .assign x=>QP [st.ev x]
 | .pick c a b=>lq [st.ev c,st.ev a,st.ev b]
 | .box q _ x=>Qj (hb+q) [st.ev x]
 | .alloc q _ zs=>bif (zs.map V0.ids).flatten.isEmpty then some ⟨[],[hb+q],[],[]⟩ else none
 | .build _ zs _ _ parts=>bif (zs.map V0.ids).flatten.isEmpty then lq (parts.map fun p=>st.ev p.2) else none
 | .buildSlice q _ _ _ _ zs parts =>
  bif (zs.map V0.ids).flatten.isEmpty&&((parts.map fun p=>(st.ev p.2).ids).flatten).isEmpty then Qj (hb+q) (parts.map fun p=>st.ev p.2) else none
 | .load _ _ x =>
  match st.ev x with
  | .x (.ptr b _)=>some ⟨b::lA st.heap b,[],[],[]⟩
  | .x (.aptr b _ _)=>some ⟨[b],[],[],[]⟩
  | .x (.mptr b _ _)=>some ⟨[b],[],[],[]⟩
  | .x (.c _)=>some ⟨[],[],[],[]⟩
  | _=>none
 | .store _ _ x y =>
  match st.ev x with
  | .x (.ptr b _)=>bif (st.ev y).known then some ⟨(st.ev y).ids ++ lA st.heap b,[b],[],[]⟩ else none
  | .x (.aptr b _ _)=>bif (st.ev y).known&&(st.ev y).ids.isEmpty then some ⟨[],[b],[],[]⟩ else none
  | .x (.mptr b _ _)=>bif (st.ev y).known&&(st.ev y).ids.isEmpty then some ⟨[],[b],[],[]⟩ else none
  | _=>none
 | .fieldAddr _ x _ _=>lq [st.ev x]
 | .nilCheck x=>lq [st.ev x]
 | .iface ..=>none
 | .pan _=>none
 | .field _ x _ _ _=>lq [st.ev x]
 | .indexAddr _ _ _ x i=>lq [st.ev x,st.ev i]
 | .indexAddrA _ _ _ _ x i=>lq [st.ev x,st.ev i]
 | .index _ _ _ _ _ x i=>lq [st.ev x,st.ev i]
 | .indexS _ x i=>lq [st.ev x,st.ev i]
 | .sliceS _ x lo hi=>lq (st.ev x::((lo.toList ++ hi.toList).map st.ev))
 | .allocA ..=>none
 | .indexAddrR _ _ _ _ x i=>lq [st.ev x,st.ev i]
 | .loadR _ _ x =>
  match st.ev x with
  | .x (.aptr b _ _)=>some ⟨[b],[],[],[]⟩
  | _=>none
 | .binOp _ _ x y _=>lq [st.ev x,st.ev y]
 | .eqA _ _ _ x y _=>lq [st.ev x,st.ev y]
 | .eqB _ _ x y _=>lq [st.ev x,st.ev y]
 | .unOp _ _ x=>lq [st.ev x]
 | .extract x _=>lq [st.ev x]
 | .len _ _ x=>lq [st.ev x]
 | .mm _ args _=>lq (args.map st.ev)
 | .convert _ _ _ x=>lq [st.ev x]
 | .lookup ..=>none
 | .makeMap ..=>none
 | .setPut ..=>none
 | .lookupI _ x key =>
  match st.ev x,st.ev key with
  | .x (.own b _ _),.x (.c (.s _))=>some ⟨[b],[],[],[]⟩
  | _,_=>none
 | .mapPut _ x key y =>
  match st.ev x,st.ev key,st.ev y with
  | .x (.own b _ _),.x (.c _),.x (.c _)=>some ⟨[],[b],[],[]⟩
  | _,_,_=>none
 | .buildC ..=>none
 | .lookupB ..=>none
 | .mapPutT ..=>none
 | .makeMat ..=>none
 | .storeRow ..=>none
 | .mkfn ..=>none
 | .turn ..=>none
 | .callo q _ args _ _=>bif (args.map st.ev).all V.known then some ⟨((args.map st.ev).map (eJ st.heap)).flatten ++ ((args.map st.ev).map V.ids).flatten,[hb+q],[],[]⟩ else none
 | .callL ..=>none
 | .cut ..=>none
 | .clear ..=>none
 | .capN ..=>none
 | .appendZ ..=>none
 | .slice _ _ _ x lo hi mx=>lq (st.ev x::((lo.toList ++ hi.toList ++ mx.toList).map st.ev))
 | .append q _ _ _ _ x y =>
  match st.ev x with
  | .x (.own b _ _)=>bif (st.ev y).known then some ⟨(st.ev y).ids ++ ((named b 0 st.heap).map (lA st.heap)).flatten,b::named b 0 st.heap,[],[b]⟩ else none
  | .x (.c (.ro _ _ _ _))=>bif (st.ev y).known then some ⟨(st.ev y).ids,[hb+q],[],[]⟩ else none
  | _=>none
 | .call _ args _ m=>jM st (args.map st.ev) m
 | .callv g args _ m =>
  match st.ev g with
  | .x (.fn _ caps)=>jM st (args.map st.ev ++ caps.map fun
     | .c x=>.x (.c x)
     | .ptr b j=>.x (.ptr b j)) m
  | .x (.c (.fn _ nc caps))=>jM st (args.map st.ev ++ (List.range nc).map fun t=>.x (.c (caps t))) m
  | _=>none
 | .makeSlice ..=>none
def GZ (a b:List Nat):Bool:=a.all fun x=>!b.contains x
def dH.indep (p f:dH):Bool:=GZ p.wr f.rd&&GZ p.wr f.wr&&GZ p.rd f.wr&&GZ p.dr f.nm&&GZ p.nm f.dr
def dM:List Operand->List Nat
 | []=>[]
 | .tmp t::l=>t::dM l
 | _::l=>dM l
def FOp.uses (o:FOp):List Nat :=
 dM o.op.erase.operands.toList ++ (match o.guard with | some (t,_)=>[t] | none=>[])
def Dq (p f:FOp):Bool :=
 (match p.dst with | some d=>!f.uses.contains d&&(match f.dst with | some d'=>!Nat.beq d d' | none=>true) | none=>true) &&
 (match f.dst with | some d=>!p.uses.contains d | none=>true)
def lM (f:FOp) (φ:dH) (ord:List Nat):List (Nat × FOp × dH)->Bool
 | []=>true
 | (i,p,ψ)::l=>(ord.contains i||(Dq p f&&ψ.indep φ))&&lM f φ ord l
def Tj:AOp->Bool
 | .callL ..=>true
 | .call ..=>true
 | _=>false
def dU (st:St) (n:Nat) (done:List (Nat × FOp × dH)):List FOp->List (List Nat)->(St->Option ρ)->Option ρ
 | [],_,k=>k st
 | o::l,ords,k =>
  let ord:=match ords with | x::_=>x | []=>[]
  let ords':=match ords with | _::y=>y | []=>[]
  match o.guard with
  | none =>
   match dh hb st o.op with
   | none=>bif Tj o.op&&((done.all fun d=>ord.contains d.1)&&(List.range l.length).all fun j=>(ords'.getD j []).contains n) then aj C hb st o.op fun v st=>dU (st.putO o.dst v) (n+1) done l ords' k else none
   | some φ=>bif lM o φ ord done then aj C hb st o.op fun v st=>dU (st.putO o.dst v) (n+1) ((n,o,φ)::done) l ords' k else none
  | some (t,want) =>
   match st.env.getD t .u with
   | .x (.c (.b x)) =>
    bif x==want then
     match dh hb (st.put t (bl want)) o.op with
     | none=>none
     | some φ=>bif lM o φ ord done then aj C hb (st.put t (bl want)) o.op fun v st=>dU (st.putO o.dst v) (n+1) ((n,o,φ)::done) l ords' k else none
    else
     bif lM o ⟨[],[],[],[]⟩ ord done then dU ((st.put t (bl (!want))).putO o.dst .undef) (n+1) ((n,o,⟨[],[],[],[]⟩)::done) l ords' k else none
   | .undef=>bif lM o ⟨[],[],[],[]⟩ ord done then dU (st.putO o.dst .undef) (n+1) ((n,o,⟨[],[],[],[]⟩)::done) l ords' k else none
   | _=>none
end
inductive Ex where
 | normal
 | exit (id:Nat)
 | ret
inductive KK where
 | slot (t:Nat) (r:Kd)
 | cell (t j:Nat) (r:Kd)
 | ty (t:Nat) (r:Kd)
inductive AC where
 | skip
 | region (id:Nat) (ops:List FOp) (na:Nat) (draw:Option (List (List Nat)))
 | seq (a:AC) (kill:List Nat) (b:AC)
 | cond (c:Operand) (a b:AC)
 | block (id:Nat) (a:AC)
 | loop (hints:List KK) (kill:List Nat) (a:AC)
 | exit (id:Nat) (kill:List Nat)
 | ret (kill:List Nat)
 | ghost (l:List Nat) (a:AC)
 | scope (a:AC)
 | label (l:Nat)
 | round (keep:List (Nat × Nat × Nat)) (tx p0 p1:Nat) (a:AC)
 | back (pre:List FOp) (rs oth:List Nat) (ts tf p0:Nat) (f:FuncId) (ty:TypeId) (a:AC)
 | iter (pre:List FOp) (keep:List (Nat × Nat × Nat)) (kill:List Nat) (ts tf p:Nat) (f:FuncId) (ty:TypeId) (it:CV->Option (Bool × Nat × (Nat->CV))) (id1:Nat) (x6 xb:AC)
def eA (env:List V):List Nat->List V
 | []=>env
 | t::l=>eA (env.set t .u) l
def St.kill (st:St) (l:List Nat):St:={ st with env:=eA st.env l }
def vH : V0->Bool
 | .c (.ro full _ n _)=>full&&Nat.beq n 0
 | _=>false
def sP (st:St):KK->St
 | .ty t r =>
  match st.env.getD t .u with
  | .x (.c (.ro full .nil n f))=>bif Nat.beq n 0 then { st with env:=st.env.set t (.x (.c (.ro full r n f))) } else st
  | _=>st
 | .slot t r =>
  match st.env.getD t .u with
  | .x y=>bif vH y&&Nat.blt 0 r.len then { env:=st.env.set t (.x (.own st.heap.length 0 0)),heap:=st.heap ++ [.arr r 0 (fun _ _=>.any)] } else st
  | _=>st
 | .cell t j r =>
  match st.env.getD t .u with
  | .x (.ptr b j0) =>
   match st.heap[b]? with
   | some (.box cells) =>
    bif vH (cells.getD (j0+j) .u)&&Nat.blt 0 r.len then { st with heap:=(st.heap.set b (.box (cells.set (j0+j) (.own st.heap.length 0 0)))) ++ [.arr r 0 (fun _ _=>.any)] } else st
   | _=>st
  | _=>st
def j8 (st:St):List KK->St
 | []=>st
 | h::l=>j8 (sP st h) l
def St.norm (st:St) (kill:List Nat) (h0:Nat):Option St :=
 let env:=eA st.env kill
 let heap:=st.heap.take h0
 bif env.all (V.below h0)&&heap.all (Blk.below h0) then some ⟨env,heap⟩ else none
def dv (f:St->(Ex->St->Option ρ)->Option ρ) (nrm:St->Option St):Nat->St->(Ex->St->Option ρ)->Option ρ
 | 0,_,_=>none
 | n+1,st,k =>
  match nrm st with
  | none=>none
  | some st=>f st fun e st=>match e with
   | .normal=>dv f nrm n st k
   | e=>k e st
def am (f:St->(Ex->St->Option ρ)->Option ρ) (nrm:St->Option St):Nat->St->(Ex->St->Option ρ)->Option ρ
 | 0,_,_=>none
 | n+1,st,k=>f st fun e st=>match e with
   | .normal=>match nrm st with
    | none=>none
    | some st=>am f nrm n st k
   | e=>k e st
theorem sK (f:St->(Ex->St->Option ρ)->Option ρ) (nrm:St->Option St) (k:Ex->St->Option ρ):∀ (n:Nat) (st:St),dv f nrm n st k=match nrm st with | none=>none | some st=>am f nrm n st k
 | 0,st=>by
  unfold dv
  cases nrm st<;>rfl
 | n+1,st=>by
  unfold dv
  cases hq:nrm st with
  | none=>rfl
  | some s =>
   dsimp only
   unfold am
   congr 1
   funext e st
   cases e with
   | normal=>exact sK f nrm k n st
   | exit id=>rfl
   | ret=>rfl
def Bx (i:Nat):List (Nat × Nat × Nat)->Option (Nat × Nat)
 | []=>none
 | (t,b,j)::l=>bif Nat.beq t i then some (b,j) else Bx i l
def acf (keep:List (Nat × Nat × Nat)) (tx p0 i:Nat) (v:V):Bool :=
 match Bx i keep with
 | some (b,j)=>match v with
  | .x (.ptr b' j')=>Nat.beq b b' && Nat.beq j j'
  | _=>false
 | none=>match v with
  | .u=>true
  | _=>Nat.beq i tx||Nat.beq i p0
def YO (keep:List (Nat × Nat × Nat)) (tx p0:Nat):Nat->List V->Bool
 | _,[]=>true
 | i,v::l=>acf keep tx p0 i v&&YO keep tx p0 (i+1) l
def Jb:Nat:=999999
def Mi (env:List V):List Nat->List (Nat × CV)
 | []=>[]
 | t::l=>match env.getD t .u with
  | .x (.c c)=>(t,c)::Mi env l
  | _=>Mi env l
def St.rest (st:St):List (Nat × CV)->St
 | []=>st
 | (t,c)::l=>(st.put t (.x (.c c))).rest l
def X8 (tx p0:Nat) (sv:List (Nat × CV)) (k:Ex->St->Option ρ):Ex->St->Option ρ :=
 fun e st=>match e with
  | .exit i=>bif Nat.beq i Jb then k .normal ((st.kill [tx,p0]).rest sv) else none
  | _=>none
def aaU (ln tx p0:Nat) (v c:V) (k:Ex->St->Option ρ):Ex->St->Option ρ :=
 fun e st=>match e with
  | .normal=>bif Nat.beq st.env.length ln then k .normal ((st.put tx v).put p0 c) else none
  | _=>none
def Rc (keep:List (Nat × Nat × Nat)):Nat->List V->Bool
 | _,[]=>true
 | i,v::l=>(match Bx i keep with
  | some (b,j)=>(match v with | .x (.ptr b' j')=>Nat.beq b b' && Nat.beq j j' | _=>false)
  | none=>(match v with | .u=>true | _=>false))&&Rc keep (i+1) l
def Blk.untag:Blk->Bool
 | .arr r _ _=>!r.tagged
 | _=>true
def itB (it:CV->Option (Bool × Nat × (Nat->CV))) (keep:List (Nat × Nat × Nat)) (ts tf ln:Nat) (f:CV->St->(St->Option ρ)->Option ρ):St->(Ex->St->Option ρ)->Option ρ:=fun st k =>
 match st.env.getD ts .u with
 | .x (.c cv)=>match st.env.getD tf .u with
  | .x (.c (.i .i64 c))=>match it cv with
   | some (b,n,el)=>bif b&&(Rc keep 0 ((st.put tf .u).put ts .u).env&&(Nat.beq st.env.length ln&&st.heap.all Blk.untag)) then
     bif decide (c<Int.ofNat n) then f (el c.toNat) ((st.put tf .u).put ts .u) (fun s=>k .normal ((s.put tf (i64 (c+1))).put ts (.x (.c cv)))) else k (.exit Jb) ((st.put tf .u).put ts .u)
    else none
   | none=>none
  | _=>none
 | _=>none
def vD (k:Ex->St->Option ρ):Ex->St->Option ρ :=
 fun e st=>match e with
  | .exit i=>bif Nat.beq i Jb then k .normal st else none
  | _=>none
def kIt (id1:Nat) (k:St->Option ρ):Ex->St->Option ρ :=
 fun e st=>match e with
  | .normal=>k st
  | .exit i=>bif Nat.beq i id1 then k st else none
  | .ret=>none
def aS (C:ao) (fuel:Nat):AC->St->(Ex->St->Option ρ)->Option ρ
 | .skip,st,k=>k .normal st
 | .region _ ops na draw,st,k =>
  match draw with
  | none=>ca C st.heap.length { st with heap:=st.heap ++ List.replicate na .rsv } ops (k .normal)
  | some ords=>dU C st.heap.length { st with heap:=st.heap ++ List.replicate na .rsv } 0 [] ops ords (k .normal)
 | .seq a ks b,st,k=>aS C fuel a st fun e st=>match e with
  | .normal=>aS C fuel b (st.kill ks) k
  | e=>k e st
 | .cond c a b,st,k =>
  match c with
  | .tmp t =>
   match st.env.getD t .u with
   | .x (.c (.b x))=>bif x then aS C fuel a (st.put t (bl true)) k else aS C fuel b (st.put t (bl false)) k
   | _=>none
  | .const (.bool x)=>bif x then aS C fuel a st k else aS C fuel b st k
  | _=>none
 | .block id a,st,k=>aS C fuel a st fun e st=>match e with
  | .exit i=>bif Nat.beq i id then k .normal st else k (.exit i) st
  | e=>k e st
 | .loop hints kill a,st,k =>
  let st0:=j8 st hints
  match st0.norm kill st0.heap.length with
  | none=>none
  | some s=>am (fun st k=>aS C fuel a st k) (fun s=>s.norm kill st0.heap.length) fuel s k
 | .exit id ks,st,k=>k (.exit id) (st.kill ks)
 | .ret ks,st,k=>k .ret (st.kill ks)
 | .ghost l a,st,k=>aS C fuel a (st.thaw l) k
 | .scope a,st,k=>aS C fuel a st k
 | .label _,st,k=>k .normal st
 | .round keep tx p0 p1 a,st,k =>
  match st.env.getD tx .u with
  | .x (.c (.ro fl (.pr (.int kk) .nil) n g)) =>
   match st.env.getD p0 .u with
   | .x (.c (.i .i64 c)) =>
    bif YO keep tx p0 0 st.env then
     bif decide (0<c) then aS C fuel a ((st.put p0 (i64 (c-1))).put p1 (.x (.c (.i kk ((g (c-1).toNat 0).int))))) (aaU st.env.length tx p0 (.x (.c (.ro fl (.pr (.int kk) .nil) n g))) (i64 (c-1)) k)
     else k (.exit Jb) st
    else none
   | _=>none
  | _=>none
 | .back pre rs oth ts tf p0 _ _ a,st,k =>
  ca C st.heap.length st pre fun st =>
   bif Nat.blt ts st.env.length&&Nat.blt tf st.env.length then
    match st.env.getD ts .u with
    | .x (.c (.ro _ (.pr (.int _) .nil) n _))=>aS C fuel a ((st.kill oth).put p0 (i64 n)) (X8 ts p0 (Mi (eA st.env [tf]) rs) k)
    | _=>none
   else none
 | .iter pre keep kill ts tf p _ _ it id1 x6 xb,st,k =>
  ca C st.heap.length st pre fun st =>
   bif Nat.blt ts st.env.length&&Nat.blt tf st.env.length then
    dv (itB it keep ts tf st.env.length fun v st k=>aS C fuel x6 (st.put p (.x (.c v))) fun e s=>match e with
     | .normal=>aS C fuel xb s (kIt id1 k)
     | _=>none) (fun s=>s.norm kill st.heap.length) fuel (st.put tf (i64 0)) (vD k)
   else none
inductive Ee where
 | tmp (t:Nat)
 | cell (t:Nat) (ty:TypeId) (m:Option Nat)
 | set (t t0 ln:Nat)
 | mat (t:Nat) (κ:Kd)
def Gl (st:St):Ee->Option V
 | .tmp t=>some (st.env.getD t .u)
 | .cell t _ m =>
  match st.env.getD t .u with
  | .x (.ptr b j) =>
   match st.heap[b]? with
   | some (.box cells)=>rN cells j m
   | _=>none
  | _=>none
 | .mat _ _=>none
 | .set t t0 ln =>
  match st.env.getD t .u with
  | .x (.own b _ _) =>
   match st.heap[b]? with
   | some (.set 0 n f) =>
    match st.env.getD t0 .u with
    | .x (.c (.ro true _ n0 _))=>bif Nat.beq n0 0&&Nat.beq st.env.length ln then some (.x (.c (.ro false (.pr (.int .i64) (.pr (.int .i64) .nil)) n f))) else none
    | _=>none
   | _=>none
  | _=>none
structure AF where
 n:Nat
 res:List Ee
 body:AC
def aaR (κ:Kd) (ln:Nat->Nat) (f:Nat->Nat->CV):Nat->Nat->CV:=fun i _=>.ro false (.pr κ .nil) (ln i) (fun k _=>f i k)
def aaQ (κ:Kd) (n:Nat) (ln:Nat->Nat) (f:Nat->Nat->CV):CV:=.ro false (.pr (.sl (.pr κ .nil)) .nil) n (aaR κ ln f)
def Ay (st:St) (r:Ee):Option A :=
 match r with
 | .mat t κ =>
  match st.env.getD t .u with
  | .x (.own b _ _) =>
   match st.heap[b]? with
   | some (.mat κ' n ln f)=>bif κ.beq κ' then some (.v (aaQ κ n ln f)) else none
   | _=>none
  | .x (.c (.ro _ _ 0 f))=>some (.v (.ro false (.pr (.sl (.pr κ .nil)) .nil) 0 f))
  | _=>none
 | r =>
  match Gl st r with
  | some v=>ll st.heap v
  | none=>none
def aH (f:AF) (e:Ex) (st:St):Option (List A) :=
 match e with
 | .exit _=>none
 | _=>aO (f.res.map (Ay st))
def aD (C:ao) (fuel:Nat) (f:AF) (args:List A):Option (List A) :=
 aS C fuel f.body ⟨args.map A.toV ++ List.replicate (f.n-args.length) .undef,[]⟩ (aH f)
def F2:V0->Value->Bool
 | .c (.i k n),.int k' n'=>jP k k' && (n==n')
 | .c (.b x),.bool x'=>x==x'
 | .c (.s x),.string x'=>x.toList==x'.toList
 | .c (.ro _ _ 0 _),.slice none 0 0=>true
 | .u,v=>v.oneCell'
 | _,_=>false
def dY:List V0->List Value->Bool
 | [],[]=>true
 | c::l,v::vs=>F2 c v&&dY l vs
 | _,_=>false
def eD (P:Program) (t:TypeId) (m:Option Nat):Bool :=
 match P.underlying t with
 | some (.struct _) | some (.array _ _) =>
  match m,P.info? t with
  | some m,some i=>Nat.beq m i.size
  | _,_=>false
 | some _=>m.isNone
 | none=>false
def dT (P:Program) (t:TypeId) (m:Nat):Bool :=
 match P.info? t with
 | some i=>Nat.beq m i.size
 | none=>false
def jf (P:Program) (t e:TypeId):Bool :=
 match P.underlying t with
 | some (.slice e')=>Nat.beq e e'
 | _=>false
def j7 (P:Program) (ks:TypeId->Option Kd):List Field->Nat->Option Kd
 | [],_=>some .nil
 | f::fs,off =>
  match P.underlying f.type with
  | some (.int k) => bif f.name != "_" && Nat.beq f.offset off then (match j7 P ks fs (off + 1) with | some r => some (.pr (.int k) r) | none => none) else none
  | some .bool => bif f.name != "_" && Nat.beq f.offset off then (match j7 P ks fs (off + 1) with | some r => some (.pr .bool r) | none => none) else none
  | some .string => bif f.name != "_" && Nat.beq f.offset off then (match j7 P ks fs (off + 1) with | some r => some (.pr .str r) | none => none) else none
  | some (.struct _) =>
   match ks f.type with
   | some r1 =>
    bif f.name != "_" && Nat.beq f.offset off && eD P f.type (some r1.len) then
     match j7 P ks fs (off+r1.len) with
     | some r2=>some (r1.app r2)
     | none=>none
    else none
   | none=>none
  | _=>none
def Kd.rep (k:Kd):Nat->Kd
 | 0=>.nil
 | n+1=>.pr k (k.rep n)
def vK (P:Program):Nat->TypeId->Option Kd
 | 0,_=>none
 | d+1,t =>
  match P.underlying t with
  | some (.struct fs)=>bif P.stoodInHeld t then none else j7 P (vK P d) fs.toList 0
  | some (.array n e)=>match P.underlying e with
   | some (.int k)=>bif dT P e 1 then some (Kd.rep (.int k) n) else none
   | _=>none
  | _=>none
def Kd.scalarK:Kd->Bool
 | .int _=>true
 | .bool=>true
 | .str=>true
 | _=>false
def AOp.okP (P:Program):AOp->Bool
 | .alloc _ t zs =>
  match P.info? t with
  | some i=>match i.zero with
   | some z=>dY zs z.cells.toList
   | none=>false
  | none=>false
 | .build t zs pl esz _ =>
  (match P.info? t with
  | some i=>match i.zero with
   | some z=>dY zs z.cells.toList
   | none=>false
  | none=>false) &&
  (match P.underlying t with
  | some (.struct fields)=>Nat.beq esz 0&&decide (fields.toList.mapM (fun f=>(P.info? f.type).map fun i=>(f.offset,i.size))=some pl)
  | some (.array _ e)=>Nat.blt 0 esz&&dT P e esz
  | _=>false)
 | .buildSlice _ t e r ln zs _ =>
  jf P t e&&dT P e r.len&&Nat.blt 0 r.len&&Nat.ble (ln*r.len) 16777216 &&
  (match P.info? e with
  | some i=>match i.zero with
   | some z=>dY zs z.cells.toList&&Nat.beq zs.length r.len
   | none=>false
  | none=>false) && !r.tagged
 | .buildC t e r ln zs _ =>
  jf P t e&&dT P e r.len&&Nat.blt 0 r.len&&Nat.ble (ln*r.len) 16777216 &&
  (match P.info? e with
  | some i=>match i.zero with
   | some z=>dY zs z.cells.toList&&Nat.beq zs.length r.len
   | none=>false
  | none=>false)
 | .makeMat _ t e κ bytes _ _ =>
  jf P t e&&Nat.ble bytes 4096&&κ.scalarK &&
  (match P.info? e with
  | some i=>Nat.beq i.size 1&&Nat.beq i.bytes bytes&&(match i.zero with | some (.slice none 0 0)=>true | _=>false)
  | none=>false)
 | .storeRow t _ _=>dT P t 1
 | .load t m _=>eD P t m
 | .store t m _ _=>dT P t m
 | .fieldAddr t _ fi off =>
  match P.underlying t with
  | some (.struct fields)=>match fields[fi]? with
   | some f=>Nat.beq f.offset off&&(match P.info? f.type with | some i=>Nat.blt 0 i.size | none=>false)
   | none=>false
  | _=>false
 | .field t _ fi off m =>
  match P.underlying t with
  | some (.struct fields)=>match fields[fi]? with
   | some f=>Nat.beq f.offset off&&eD P f.type m
   | none=>false
  | _=>false
 | .indexAddr t e esz _ _=>jf P t e&&dT P e esz
 | .indexAddrA t e ln esz _ _ =>
  (match P.underlying t with
  | some (.array n e')=>Nat.beq ln n&&Nat.beq e e'
  | _=>false)&&dT P e esz
 | .index t e ln esz m _ _ =>
  (match P.underlying t with
  | some (.array n e')=>Nat.beq ln n&&Nat.beq e e'
  | _=>false)&&dT P e esz&&eD P e m
 | .callo _ _ _ _ r=>Nat.blt 0 r.len&&r.flat && !r.tagged
 | .cut _ _ _ _ _ r=>!r.tagged
 | .clear t e zs _ =>
  jf P t e &&
  (match P.info? e with
  | some i=>(match i.zero with | some z=>dY (zs.map .c) z.cells.toList | none=>false)
  | none=>false)
 | .indexS t _ _=>match P.underlying t with | some .string=>true | _=>false
 | .sliceS t _ _ _=>match P.underlying t with | some .string=>true | _=>false
 | .allocA _ t r zs =>
  (match P.info? t with
  | some i=>match i.zero with
   | some z=>dY (zs.map .c) z.cells.toList
   | none=>false
  | none=>false)&&Nat.beq zs.length r.len&&Nat.blt 0 r.len && !r.tagged
 | .indexAddrR t e ln esz _ _ =>
  (match P.underlying t with
  | some (.array n e')=>Nat.beq ln n&&Nat.beq e e'
  | _=>false)&&dT P e esz
 | .loadR t _ _=>eD P t none
 | .eqA _ r t _ _ _=>(match vK P 6 t with | some r'=>r'.beq r | none=>false) && !P.eqGuardType P.depth t
 | .eqB _ t _ _ _=>match P.underlying t with | some .bool=>true | _=>false
 | .len t str _=>match P.underlying t with
  | some .string=>str
  | some (.slice _)=>!str
  | _=>false
 | .append _ t e r bytes _ _ =>
  jf P t e&&Nat.blt 0 r.len&&Nat.ble bytes 4096 &&
  (match P.info? e with
  | some i=>Nat.beq i.size r.len&&Nat.beq i.bytes bytes&&(match i.zero with | some z=>Nat.beq z.cells.size r.len | none=>false)
  | none=>false) && !r.tagged
 | .slice t e esz _ _ _ _=>jf P t e&&dT P e esz
 | .makeSlice _ t e r bytes zs _ _ =>
  jf P t e&&Nat.blt 0 r.len&&Nat.ble bytes 4096&&Nat.beq zs.length r.len &&
  (match P.info? e with
  | some i=>Nat.beq i.size r.len&&Nat.beq i.bytes bytes&&(match i.zero with | some z=>dY (zs.map .c) z.cells.toList | none=>false)
  | none=>false) && !r.tagged
 | .capN t _=>(match P.underlying t with | some (.slice _)=>true | _=>false)
 | .appendZ _ t ti e r bytes zs _ _ =>
  jf P t e&&Nat.blt 0 r.len&&Nat.ble bytes 4096&&Nat.beq zs.length r.len&&(match P.underlying ti with | some (.int _)=>true | _=>false) &&
  (match P.info? e with
  | some i=>Nat.beq i.size r.len&&Nat.beq i.bytes bytes&&(match i.zero with | some z=>dY (zs.map .c) z.cells.toList | none=>false)
  | none=>false) && !r.tagged
 | .lookup t _ _ =>
  match P.underlying t with
  | some (.map kt et)=>(match P.underlying kt with | some .string=>true | _=>false)&&(match P.underlying et with | some (.slice _)=>true | _=>false)&&(match P.info? et with
   | some i=>(match i.zero with | some (.slice none 0 0)=>true | _=>false)
   | none=>false)
  | _=>false
 | .makeMap _ t _=>match P.underlying t with | some (.map _ _)=>true | _=>false
 | .lookupI t _ _ =>
  match P.underlying t with
  | some (.map kt et)=>(match P.underlying kt with | some .string=>true | _=>false)&&(match P.info? et with
   | some i=>(match i.zero with | some (.int .i64 0)=>true | _=>false)
   | none=>false)
  | _=>false
 | .mapPut t _ _ _ =>
  match P.underlying t with
  | some (.map kt _)=>(match P.underlying kt with | some .string=>true | _=>false)
  | _=>false
 | .lookupB t _ _ =>
  match P.underlying t with
  | some (.map kt et)=>(match P.underlying kt with | some .string=>true | _=>false)&&(match P.info? et with
   | some i=>(match i.zero with | some (.bool false)=>true | _=>false)
   | none=>false)
  | _=>false
 | .mapPutT t _ _ =>
  match P.underlying t with
  | some (.map kt _)=>(match P.underlying kt with | some .string=>true | _=>false)
  | _=>false
 | .setPut t _ _ =>
  match P.underlying t with
  | some (.map kt et)=>(match P.underlying et with | some .bool=>true | _=>false)&&(match P.underlying kt with
   | some (.array 2 e)=>dT P e 1&&(match P.underlying e with | some (.int .i64)=>true | _=>false)
   | _=>false)
  | _=>false
 | .convert src dst k _ =>
  (P.underlying src).isSome&&(match P.underlying dst with | some (.int k')=>jP k k' | _=>false)
 | _=>true
end Go.Eng
