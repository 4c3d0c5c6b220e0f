/-
 What a decompiled function is made of;arguments by their kinds;oracles,one function after another.
-/
import Derived.Test.YtkknnlhhchielaaGreatDoorEngP
set_option linter.all false
namespace Go.Eng
open Go Go.RowKit
def ob {α ρ:Type} (x:Option α) (K:α->Option ρ):Option ρ :=
 match x with
 | some a=>K a
 | none=>none
def w64 (n:Int):Int:=IntKind.i64.wrap n
def aG (w:Nat) (l:List CV):Nat->Nat->CV:=fun i j=>au l (i*w+j)
section
variable {ρ : Type}
def aI (C:ao) (fuel:Nat) (ks:List Nat) (b:AC) (k:Ex->St->Option ρ):Ex->St->Option ρ :=
 fun e st=>match e with
  | .normal=>aS C fuel b (st.kill ks) k
  | e=>k e st
def aA (id:Nat) (k:Ex->St->Option ρ):Ex->St->Option ρ :=
 fun e st=>match e with
  | .exit i=>bif Nat.beq i id then k .normal st else k (.exit i) st
  | e=>k e st
theorem lv {f:St->(Ex->St->Option ρ)->Option ρ} {nrm:St->Option St} {k:Ex->St->Option ρ} {n:Nat} {st st' : St} (h:nrm st=some st'):dv f nrm n st k=am f nrm n st' k:=by
 rw [sK,h]
theorem ak {α:Type} (c:Bool) (x y:Option α) (K:α->Option ρ):ob (bif c then x else y) K=bif c then ob x K else ob y K:=by cases c<;>rfl
theorem aa {α:Type} (a:α) (K:α->Option ρ):ob (some a) K=K a:=rfl
theorem af {α:Type} (K:α->Option ρ):ob (none:Option α) K=none:=rfl
theorem aw {α β:Type} (x:Option α) (f:α->Option β) (g:β->Option ρ):ob (ob x f) g=ob x fun a=>ob (f a) g:=by cases x<;>rfl
theorem Rj {α β:Type} (x:Option α) (f:α->Option β) (g:β->Option ρ):(ob x f).bind g=ob x fun a=>(f a).bind g:=by cases x<;>rfl
def Gp:Kd->(Nat->CV)->Nat->List CV
 | .pr a r,g,j=>a.proj (g j)::Gp r g (j+1)
 | _,_,_=>[]
def pj (R:Kd) (g:Nat->CV):List CV:=Gp R g 0
def pjc (R:Kd) (g:Nat->CV):List V0:=(pj R g).map .c
def Fv (κ:Kd) (c:CV):Bool :=
 match κ,c with
 | .sl r,.ro _ r' n _=>r.beq r' || Nat.beq n 0
 | .sl _,_=>false
 | κ,c=>κ.fits c
def Ae:Kd->List CV->Bool
 | .pr a r,c::l=>Fv a c&&Ae r l
 | .nil,[]=>true
 | _,_=>false
def Fm (f:Nat) (l:List A) (t:Nat):Bool :=
 match l[t]? with
 | some (.v (.fn f' _ _))=>Nat.beq f f'
 | _=>false
end
section
variable {ρ σ : Type}
def Wk (c c' : CV):Prop:=∀ (ok:Nat->Prop) (w:World) (v:Value),CR ok w c v->CR ok w c' v
def WkA (a a' : A):Prop:=∀ (ok:Nat->Prop) (w:World) (v:Value),AR ok w a v->AR ok w a' v
inductive WkL:List A->List A->Prop
 | nil:WkL [] []
 | cons {a a' : A} {l l' : List A} (h:WkA a a') (hl:WkL l l'):WkL (a::l) (a'::l')
inductive WkC:List CV->List CV->Prop
 | nil:WkC [] []
 | cons {a a' : CV} {l l' : List CV} (h:Wk a a') (hl:WkC l l'):WkC (a::l) (a'::l')
theorem Wk.refl (c:CV):Wk c c:=fun _ _ _ h=>h
theorem WkA.v {c c' : CV} (h:Wk c c'):WkA (.v c) (.v c'):=fun ok w v hv=>h ok w v hv
theorem WkC.at_:∀ {l l' : List CV},WkC l l'->l.length=l'.length/\∀ (t:Nat) (c' : CV),l'[t]?=some c'->∃ c,l[t]?=some c/\Wk c c'
 | _,_,.nil=>⟨rfl,fun t c' h=>by simp at h⟩
 | _,_,.cons h hl=>by
  obtain ⟨h1,h2⟩:=hl.at_
  refine ⟨by simp [h1],fun t c' ht=>?_⟩
  cases t with
  | zero=>simp at ht;subst ht;exact ⟨_,rfl,h⟩
  | succ t=>simpa using h2 t c' (by simpa using ht)
theorem WkA.agg {l l' : List CV} (h:WkC l l'):WkA (.agg l) (.agg l'):=by
 intro ok w v hv
 obtain ⟨h1,h2⟩:=h.at_
 obtain ⟨cs,hp,hs,hc⟩:=hv
 refine ⟨cs,hp,by omega,fun t c' ht=>?_⟩
 obtain ⟨c,hc',hw⟩:=h2 t c' ht
 obtain ⟨u,hu,hr⟩:=hc t c hc'
 exact ⟨u,hu,hw ok w u hr⟩
theorem WkL.at_:∀ {l l' : List A},WkL l l'->l.length=l'.length/\∀ (t:Nat) (c' : A),l'[t]?=some c'->∃ c,l[t]?=some c/\WkA c c'
 | _,_,.nil=>⟨rfl,fun t c' h=>by simp at h⟩
 | _,_,.cons h hl=>by
  obtain ⟨h1,h2⟩:=hl.at_
  refine ⟨by simp [h1],fun t c' ht=>?_⟩
  cases t with
  | zero=>simp at ht;subst ht;exact ⟨_,rfl,h⟩
  | succ t=>simpa using h2 t c' (by simpa using ht)
theorem WkL.ars {l l' : List A} (h:WkL l l') {ok:Nat->Prop} {w:World} {vs:Array Value} (hv:ARs ok w l vs):ARs ok w l' vs:=by
 obtain ⟨h1,h2⟩:=h.at_
 refine ⟨by rw [hv.1,h1],fun t x ht=>?_⟩
 obtain ⟨c,hc',hw⟩:=h2 t x ht
 obtain ⟨u,hu,hr⟩:=hv.2 t c hc'
 exact ⟨u,hu,hw ok w u hr⟩
theorem Den.weaken {P:Program} {f:FuncId} {args args' res:List A} (h:WkL args args') (hd:Den P f args' res):Den P f args res :=
 ⟨hd.1,fun w okA vs hok hg hv=>hd.2 w okA vs hok hg (h.ars hv)⟩
theorem Wk.ro {fl:Bool} {r r' : Kd} {n:Nat} {f:Nat->Nat->CV} (h:(r.beq r' || Nat.beq n 0)=true):Wk (.ro fl r' n f) (.ro false r n f):=by
 intro ok w v hv
 obtain ⟨a,cap,h1,h2,h3,h4,h5⟩:=hv
 refine ⟨a,cap,h1,h2,h3,(fun hh=>by cases hh),?_⟩
 rw [Bool.or_eq_true] at h
 rcases h with h | h
 ·have:=Kd.eq_of_beq h
  subst this
  exact h5
 ·exact .inl (qbZ h)
theorem Ou {κ:Kd} {c:CV} (h:Fv κ c=true):Wk c (κ.proj c):=by
 cases κ with
 | sl r =>
  cases c<;>simp only [Fv] at h
  all_goals first | exact Wk.ro h | cases h
 | int k =>
  obtain ⟨n,rfl⟩:(Kd.int k).okP c:=Kd.fits_ok h
  exact Wk.refl _
 | bool =>
  obtain ⟨n,rfl⟩:Kd.bool.okP c:=Kd.fits_ok h
  exact Wk.refl _
 | str =>
  obtain ⟨n,rfl⟩:Kd.str.okP c:=Kd.fits_ok h
  exact Wk.refl _
 | oth=>exact Wk.refl _
 | nil=>exact Wk.refl _
 | pr a r=>exact Wk.refl _
theorem Ft:∀ {R:Kd} {l:List CV} (g:Nat->CV) (j:Nat),Ae R l=true->(∀ t c,l[t]?=some c->g (j+t)=c)->WkC l (Gp R g j)
 | .nil,[],_,_,_,_=>.nil
 | .pr a r,c::l,g,j,h,hg=>by
  simp only [Ae,qaZ] at h
  have e:g j=c:=hg 0 c rfl
  refine .cons ?_ (Ft g (j+1) h.2 fun t d ht=>by rw [Nat.add_right_comm];exact hg (t+1) d ht)
  rw [e];exact Ou h.1
 | .nil,_::_,_,_,h,_=>by cases h
 | .pr _ _,[],_,_,h,_=>by cases h
 | .int _,l,_,_,h,_=>by cases l<;>cases h
 | .bool,l,_,_,h,_=>by cases l<;>cases h
 | .str,l,_,_,h,_=>by cases l<;>cases h
 | .oth,l,_,_,h,_=>by cases l<;>cases h
 | .sl _,l,_,_,h,_=>by cases l<;>cases h
theorem Wk.i {k:IntKind} {n:Int} {c:CV} (h:c=.i k n):Wk c (.i k n):=h ▸ Wk.refl _
theorem Wk.b {x:Bool} {c:CV} (h:c=.b x):Wk c (.b x):=h ▸ Wk.refl _
theorem Wk.s {x:ByteArray} {c:CV} (h:c=.s x):Wk c (.s x):=h ▸ Wk.refl _
theorem Wk.rp {rr:Kd} {g:Nat->CV} {g' : Nat->CV} (h:∀ j,j<rr.len->(rr.nth j).okP (g j)->Wk (g j) (g' j)/\(rr.nth j).okP (g' j)):Wk (.rp rr g) (.rp rr g'):=by
 intro ok w v hv
 obtain ⟨gg,off,h1,h2,h3⟩:=hv
 refine ⟨gg,off,h1,h2,fun j hj=>?_⟩
 obtain ⟨hk,u,hu,hr⟩:=h3 j hj
 obtain ⟨h4,h5⟩:=h j hj hk
 exact ⟨h5,u,hu,h4 ok w u hr⟩
theorem Wk.fn {f nc:Nat} {caps caps' : Nat->CV} (h:∀ j,j<nc->Wk (caps j) (caps' j)):Wk (.fn f nc caps) (.fn f nc caps'):=by
 intro ok w v hv
 obtain ⟨cs,h1,h2,h3⟩:=hv
 refine ⟨cs,h1,h2,fun j hj=>?_⟩
 obtain ⟨u,hu,hr⟩:=h3 j hj
 exact ⟨u,hu,h j hj ok w u hr⟩
end
structure Ora where
 o:List A->{ρ:Type}->(List A->Option ρ)->Option ρ
 nat:∀ (args:List A) {ρ:Type} (K:List A->Option ρ),o args K=(o args some).bind K
def ao.add (C:ao) (f:FuncId) (sel:List A->Bool) (o:Ora):ao where
 call:=fun g args {_} K=>bif Nat.beq f g&&sel args then o.o args K else C.call g args K
 nat:=fun g args {_} K=>by
  cases Nat.beq f g&&sel args with
  | false=>exact C.nat g args K
  | true=>exact o.nat args K
 turn:=C.turn
 fresh:=C.fresh
 cut:=C.cut
 lend:=C.lend
 natL:=C.natL
theorem az.add {P:Program} {C:ao} (hC:az P C) {f:FuncId} {sel:List A->Bool} {o:Ora} (h:∀ args res,o.o args some=some res->Den P f args res):az P (C.add f sel o) where
 call:=fun g args res hh=>by
  have hh:(bif Nat.beq f g&&sel args then o.o args some else C.call g args some)=some res:=hh
  cases hq:Nat.beq f g&&sel args with
  | false=>rw [hq] at hh;exact hC.call g args res hh
  | true =>
   rw [hq] at hh
   rw [qaZ] at hq
   have:=qbZ hq.1
   subst this
   exact h args res hh
 turn:=hC.turn
 fresh:=hC.fresh
 cut:=hC.cut
 lend:=hC.lend
def ao.addT (C:ao) (f:FuncId) (T:Kd->Nat->(Nat->Nat->CV)->List A->Option (Nat->Nat->CV)):ao where
 call:=C.call
 nat:=C.nat
 turn:=fun f' r n g rest=>bif Nat.beq f f' then T r n g rest else C.turn f' r n g rest
 fresh:=C.fresh
 cut:=C.cut
 lend:=C.lend
 natL:=C.natL
theorem az.addT {P:Program} {C:ao} (hC:az P C) {f:FuncId} {T:Kd->Nat->(Nat->Nat->CV)->List A->Option (Nat->Nat->CV)} (h:∀ r n g rest g',T r n g rest=some g'->sZ P f r n g rest g'):az P (C.addT f T) where
 call:=hC.call
 turn:=fun f' r n g rest g' hh=>by
  have hh:(bif Nat.beq f f' then T r n g rest else C.turn f' r n g rest)=some g':=hh
  cases hq:Nat.beq f f' with
  | false=>rw [hq] at hh;exact hC.turn f' r n g rest g' hh
  | true =>
   rw [hq] at hh
   have:=qbZ hq
   subst this
   exact h r n g rest g' hh
 fresh:=hC.fresh
 cut:=hC.cut
 lend:=hC.lend
abbrev vi (n:Int):CV:=.i .i64 n
abbrev vci (n:Int):V0:=.c (.i .i64 n)
abbrev vcb (b:Bool):V0:=.c (.b b)
abbrev vcs (s:ByteArray):V0:=.c (.s s)
abbrev vxi (n:Int):V:=.x (.c (.i .i64 n))
abbrev vxb (b:Bool):V:=.x (.c (.b b))
abbrev vxs (s:ByteArray):V:=.x (.c (.s s))
abbrev aR:Nat->Nat->CV:=fun _ _=>.any
abbrev vcn:V0:=.c (.ro true .nil 0 aR)
abbrev kP:Kd:=.pr (.int .i64) (.pr (.int .i64) .nil)
abbrev kV:Kd:=.pr (.int .i64) (.pr (.int .i64) (.pr (.int .i64) .nil))
abbrev FF:=Nat->Nat->CV
def Gk (n:Nat) (g:Nat->Nat->CV):Nat->Nat->CV:=fun i j=>g (n-1-i) j
def aN {ρ:Type} (f:St->(Ex->St->Option ρ)->Option ρ) (nrm:St->Option St) (n:Nat) (k:Ex->St->Option ρ):Ex->St->Option ρ :=
 fun e st=>match e with
  | .normal=>match nrm st with
   | none=>none
   | some st=>am f nrm n st k
  | e=>k e st
theorem AR.resTransfer {res res' : List A} (h:WkL res res') {ok:Nat->Prop} {w:World} {v:Value} (hv:om ok w res v):om ok w res' v:=by
 cases h with
 | nil=>exact hv
 | cons h hl =>
  cases hl with
  | nil=>exact h ok w v hv
  | cons h2 hl2 =>
   obtain ⟨vs,h1,h3⟩:=hv
   exact ⟨vs,h1,(WkL.cons h (WkL.cons h2 hl2)).ars h3⟩
theorem Den.results {P:Program} {f:FuncId} {args res res' : List A} (h:WkL res res') (hd:Den P f args res):Den P f args res' :=
 ⟨hd.1,fun w okA vs hok hg hv=>(hd.2 w okA vs hok hg hv).mono fun e w' he=>by
  obtain ⟨v,ok',h1,h2,h3,h4,h5⟩:=he
  exact ⟨v,ok',h1,h2,h3,h4,AR.resTransfer h h5⟩⟩
theorem Ni {α ρ:Type} {x:Option α} {K:α->Option ρ} {r:ρ} (h:ob x K=some r):∃ t,x=some t/\K t=some r:=by
 cases x with
 | none=>cases h
 | some t=>exact ⟨t,rfl,h⟩
abbrev tm (n:Nat):Operand:=.tmp n
abbrev ic (n:Int):Operand:=.const (.int .i64 n)
abbrev mv (d t:Nat):FOp:=⟨some d,.move (.tmp t),none⟩
abbrev o1 (d:Nat) (o:AOp):FOp:=⟨some d,o,none⟩
abbrev o0 (o:AOp):FOp:=⟨none,o,none⟩
abbrev og (d:Nat) (o:AOp) (g:Nat) (w:Bool):FOp:=⟨some d,o,some (g,w)⟩
def rl (a:Nat):Nat->List Nat->List Nat
 | 0,l=>l
 | n+1,l=>a::rl (a+1) n l
def us:Nat->List V->List V
 | 0,l=>l
 | n+1,l=>.u::us n l
abbrev lo (t x:Nat):AOp:=.load t none (tm x)
abbrev ln (t n x:Nat):AOp:=.load t (some n) (tm x)
abbrev fa (t x i o:Nat):AOp:=.fieldAddr t (tm x) i o
abbrev bt (op:BinOp) (t x y:Nat):AOp:=.binOp op t (tm x) (tm y) t
abbrev bk (op:BinOp) (t x:Nat) (n:Int):AOp:=.binOp op t (tm x) (ic n) t
abbrev sg (x:Nat):AOp:=.assign (tm x)
abbrev sk (n:Int):AOp:=.assign (ic n)
abbrev sb (b:Bool):AOp:=.assign (.const (.bool b))
abbrev bx (q t x:Nat):AOp:=.box q t (tm x)
abbrev cs (f:Nat) (l ts:List Nat):AOp:=.call f (l.map tm) ts .snap
abbrev cf (f:Nat) (l ts:List Nat):AOp:=.call f (l.map tm) ts .freeze
abbrev pa (x z:Nat):AOp:=.pick (tm x) (.const (.bool true)) (tm z)
abbrev po (x y:Nat):AOp:=.pick (tm x) (tm y) (.const (.bool false))
structure RC (α:Type) where
 rd:CV->{ρ:Type}->(α->Option ρ)->Option ρ
 can:α->CV
 nat:∀ (c:CV) {ρ σ:Type} (K:α->Option ρ) (g:ρ->Option σ),(rd c K).bind g=rd c fun a=>(K a).bind g
 inv:∀ (c:CV) {ρ:Type} (K:α->Option ρ) (r:ρ),rd c K=some r->∃ a,Wk c (can a)/\K a=some r
structure RS (α:Type) where
 rd:List CV->{ρ:Type}->(α->Option ρ)->Option ρ
 can:α->List CV
 nat:∀ (c:List CV) {ρ σ:Type} (K:α->Option ρ) (g:ρ->Option σ),(rd c K).bind g=rd c fun a=>(K a).bind g
 inv:∀ (c:List CV) {ρ:Type} (K:α->Option ρ) (r:ρ),rd c K=some r->∃ a,WkC c (can a)/\K a=some r
structure RA (α:Type) where
 rd:A->{ρ:Type}->(α->Option ρ)->Option ρ
 can:α->A
 nat:∀ (c:A) {ρ σ:Type} (K:α->Option ρ) (g:ρ->Option σ),(rd c K).bind g=rd c fun a=>(K a).bind g
 inv:∀ (c:A) {ρ:Type} (K:α->Option ρ) (r:ρ),rd c K=some r->∃ a,WkA c (can a)/\K a=some r
structure RX (α:Type) where
 rd:List A->{ρ:Type}->(α->Option ρ)->Option ρ
 can:α->List A
 nat:∀ (c:List A) {ρ σ:Type} (K:α->Option ρ) (g:ρ->Option σ),(rd c K).bind g=rd c fun a=>(K a).bind g
 inv:∀ (c:List A) {ρ:Type} (K:α->Option ρ) (r:ρ),rd c K=some r->∃ a,WkL c (can a)/\K a=some r
def cI (k:IntKind):RC Int where
 rd:=fun c {_} K=>match c with
  | .i k' n=>bif jP k k' then K n else none
  | _=>none
 can:=.i k
 nat:=fun c {_ _} K g=>by
  cases c<;>first | rfl | (dsimp only;rw [eL];rfl)
 inv:=fun c {_} K r h=>by
  cases c<;>first | (cases h;done) | skip
  rename_i k' n
  obtain ⟨h1,h2⟩:=ah (show (bif jP k k' then K n else none)=some r from h)
  have:=eX h1
  subst this
  exact ⟨n,Wk.refl _,h2⟩
abbrev ci:RC Int:=cI .i64
def cB:RC Bool where
 rd:=fun c {_} K=>match c with
  | .b x=>K x
  | _=>none
 can:=.b
 nat:=fun c {_ _} K g=>by cases c<;>rfl
 inv:=fun c {_} K r h=>by
  cases c<;>first | (cases h;done) | skip
  exact ⟨_,Wk.refl _,h⟩
def cS:RC ByteArray where
 rd:=fun c {_} K=>match c with
  | .s x=>K x
  | _=>none
 can:=.s
 nat:=fun c {_ _} K g=>by cases c<;>rfl
 inv:=fun c {_} K r h=>by
  cases c<;>first | (cases h;done) | skip
  exact ⟨_,Wk.refl _,h⟩
def cL (r:Kd):RC (Nat × (Nat->Nat->CV)) where
 rd:=fun c {_} K=>match c with
  | .ro _ r' n f=>bif r.beq r' || Nat.beq n 0 then K (n,f) else none
  | _=>none
 can:=fun x=>.ro false r x.1 x.2
 nat:=fun c {_ _} K g=>by
  cases c<;>first | rfl | (dsimp only;rw [eL];rfl)
 inv:=fun c {_} K r0 h=>by
  cases c<;>first | (cases h;done) | skip
  rename_i fl r' n f
  obtain ⟨h1,h2⟩:=ah (show (bif r.beq r' || Nat.beq n 0 then K (n,f) else none)=some r0 from h)
  exact ⟨(n,f),Wk.ro h1,h2⟩
def cP (r:Kd):RC (Nat->CV) where
 rd:=fun c {_} K=>match c with
  | .rp r' g=>bif r.beq r' then K g else none
  | _=>none
 can:=.rp r
 nat:=fun c {_ _} K g=>by
  cases c<;>first | rfl | (dsimp only;rw [eL];rfl)
 inv:=fun c {_} K r0 h=>by
  cases c<;>first | (cases h;done) | skip
  rename_i r' g
  obtain ⟨h1,h2⟩:=ah (show (bif r.beq r' then K g else none)=some r0 from h)
  have:=Kd.eq_of_beq h1
  subst this
  exact ⟨g,Wk.refl _,h2⟩
def cK:RC CV where
 rd:=fun c {_} K=>K c
 can:=fun c=>c
 nat:=fun c {_ _} K g=>rfl
 inv:=fun c {_} K r h=>⟨c,Wk.refl _,h⟩
theorem WkC.caps {f:Nat} {caps:Nat->CV} {l:List CV}:∀ {n:Nat},WkC ((List.range n).map caps) l->Wk (.fn f n caps) (.fn f n (au l)):=by
 intro n h
 obtain ⟨h1,h2⟩:=h.at_
 refine Wk.fn fun j hj=>?_
 have hl:j<l.length:=by rw [<- h1];simpa using hj
 obtain ⟨c,hc,hw⟩:=h2 j l[j] (by simp [hl])
 have e1:c=caps j:=by
  rw [qhZ,raZ hj] at hc
  simpa using hc.symm
 have e2:au l j=l[j]:=by unfold au;rw [qdZ,qgZ hl];rfl
 rw [e2,<- e1]
 exact hw
def cF {α:Type} (f nc:Nat) (s:RS α):RC α where
 rd:=fun c {_} K=>match c with
  | .fn f' nc' caps=>bif Nat.beq f f' && Nat.beq nc nc' then s.rd ((List.range nc).map caps) K else none
  | _=>none
 can:=fun a=>.fn f nc (au (s.can a))
 nat:=fun c {_ _} K g=>by
  cases c<;>first | rfl | (dsimp only;rw [eL,s.nat];rfl)
 inv:=fun c {_} K r0 h=>by
  cases c<;>first | (cases h;done) | skip
  rename_i f' nc' caps
  obtain ⟨h1,h2⟩:=ah (show (bif Nat.beq f f' && Nat.beq nc nc' then s.rd ((List.range nc).map caps) K else none)=some r0 from h)
  rw [qaZ] at h1
  have e1:=qbZ h1.1
  have e2:=qbZ h1.2
  subst e1;subst e2
  obtain ⟨a,ha,hk⟩:=s.inv _ K r0 h2
  exact ⟨a,WkC.caps ha,hk⟩
theorem WkC.cells {row:Kd} {g:Nat->CV} {l:List CV} (h:WkC ((List.range row.len).map g) l) (hf:lB row 0 l=true):Wk (.rp row g) (.rp row (au l)):=by
 obtain ⟨h1,h2⟩:=h.at_
 rintro ok w v ⟨b,off,hv,hb,hrow⟩
 refine ⟨b,off,hv,hb,fun j hj=>?_⟩
 obtain ⟨_,u,hu,hr⟩:=hrow j hj
 have hl:j<l.length:=by rw [<- h1];simpa using hj
 obtain ⟨c,hc,hw⟩:=h2 j l[j] (by simp [hl])
 have e1:c=g j:=by
  rw [qhZ,raZ hj] at hc
  simpa using hc.symm
 have e2:au l j=l[j]:=by unfold au;rw [qdZ,qgZ hl];rfl
 have:=lg (t:=j) (c:=l[j]) hf (by simp [hl])
 rw [rlZ] at this
 rw [e2]
 exact ⟨Kd.fits_ok this,u,hu,by rw [e1] at hw;exact hw ok w u hr⟩
def cR {α:Type} (row:Kd) (s:RS α):RC α where
 rd:=fun c {_} K=>match c with
  | .rp r g=>bif row.beq r then s.rd ((List.range row.len).map g) fun a=>bif lB row 0 (s.can a) then K a else none else none
  | _=>none
 can:=fun a=>.rp row (au (s.can a))
 nat:=fun c {_ _} K g=>by
  cases c<;>first | rfl | (dsimp only;rw [eL,s.nat];congr 2;funext a;rw [eL];rfl)
 inv:=fun c {_} K r0 h=>by
  cases c<;>first | (cases h;done) | skip
  rename_i r' g
  obtain ⟨h1,h2⟩:=ah (show (bif row.beq r' then s.rd ((List.range row.len).map g) (fun a=>bif lB row 0 (s.can a) then K a else none) else none)=some r0 from h)
  have e1:=Kd.eq_of_beq h1
  subst e1
  obtain ⟨a,ha,hk⟩:=s.inv _ _ r0 h2
  obtain ⟨hf,hk⟩:=ah hk
  exact ⟨a,ha.cells hf,hk⟩
def t0:RS Unit where
 rd:=fun l {_} K=>match l with
  | []=>K ()
  | _=>none
 can:=fun _=>[]
 nat:=fun l {_ _} K g=>by cases l<;>rfl
 inv:=fun l {_} K r h=>by
  cases l<;>first | (cases h;done) | exact ⟨(),.nil,h⟩
def t1 {α:Type} (c:RC α):RS α where
 rd:=fun l {_} K=>match l with
  | [a]=>c.rd a K
  | _=>none
 can:=fun x=>[c.can x]
 nat:=fun l {_ _} K g=>by
  match l with
  | []=>rfl
  | [a]=>exact c.nat a K g
  | _::_::_=>rfl
 inv:=fun l {_} K r h=>by
  match l,h with
  | [a],h =>
   obtain ⟨x,hx,hk⟩:=c.inv a K r h
   exact ⟨x,.cons hx .nil,hk⟩
def tc {α β:Type} (c:RC α) (s:RS β):RS (α × β) where
 rd:=fun l {_} K=>match l with
  | a::l=>c.rd a fun x=>s.rd l fun y=>K (x,y)
  | []=>none
 can:=fun x=>c.can x.1::s.can x.2
 nat:=fun l {_ _} K g=>by
  cases l with
  | nil=>rfl
  | cons a l=>dsimp only;rw [c.nat];congr 1;funext x;rw [s.nat]
 inv:=fun l {_} K r h=>by
  cases l with
  | nil=>cases h
  | cons a l =>
   obtain ⟨x,hx,hk⟩:=c.inv a _ r h
   obtain ⟨y,hy,hk⟩:=s.inv l _ r hk
   exact ⟨(x,y),.cons hx hy,hk⟩
def av {α:Type} (c:RC α):RA α where
 rd:=fun a {_} K=>match a with
  | .v x=>c.rd x K
  | _=>none
 can:=fun x=>.v (c.can x)
 nat:=fun a {_ _} K g=>by
  cases a with
  | v x=>exact c.nat x K g
  | agg l=>rfl
 inv:=fun a {_} K r h=>by
  cases a with
  | v x =>
   obtain ⟨y,hy,hk⟩:=c.inv x K r h
   exact ⟨y,WkA.v hy,hk⟩
  | agg l=>cases h
def ag {α:Type} (s:RS α):RA α where
 rd:=fun a {_} K=>match a with
  | .agg l=>s.rd l K
  | _=>none
 can:=fun x=>.agg (s.can x)
 nat:=fun a {_ _} K g=>by
  cases a with
  | v x=>rfl
  | agg l=>exact s.nat l K g
 inv:=fun a {_} K r h=>by
  cases a with
  | v x=>cases h
  | agg l =>
   obtain ⟨y,hy,hk⟩:=s.inv l K r h
   exact ⟨y,WkA.agg hy,hk⟩
def ar (R:Kd):RA (Nat->CV) where
 rd:=fun a {_} K=>match a with
  | .agg l=>bif Ae R l then K (au l) else none
  | _=>none
 can:=fun g=>.agg (pj R g)
 nat:=fun a {_ _} K g=>by
  cases a with
  | v x=>rfl
  | agg l=>dsimp only;rw [eL];rfl
 inv:=fun a {_} K r h=>by
  cases a with
  | v x=>cases h
  | agg l =>
   obtain ⟨h1,h2⟩:=ah (show (bif Ae R l then K (au l) else none)=some r from h)
   exact ⟨au l,WkA.agg (Ft (au l) 0 h1 fun t c ht=>by unfold au;rw [rlZ,qdZ,ht];rfl),h2⟩
def q0:RX Unit where
 rd:=fun l {_} K=>match l with
  | []=>K ()
  | _=>none
 can:=fun _=>[]
 nat:=fun l {_ _} K g=>by cases l<;>rfl
 inv:=fun l {_} K r h=>by
  cases l<;>first | (cases h;done) | exact ⟨(),.nil,h⟩
def q1 {α:Type} (c:RA α):RX α where
 rd:=fun l {_} K=>match l with
  | [a]=>c.rd a K
  | _=>none
 can:=fun x=>[c.can x]
 nat:=fun l {_ _} K g=>by
  match l with
  | []=>rfl
  | [a]=>exact c.nat a K g
  | _::_::_=>rfl
 inv:=fun l {_} K r h=>by
  match l,h with
  | [a],h =>
   obtain ⟨x,hx,hk⟩:=c.inv a K r h
   exact ⟨x,.cons hx .nil,hk⟩
def qc {α β:Type} (c:RA α) (s:RX β):RX (α × β) where
 rd:=fun l {_} K=>match l with
  | a::l=>c.rd a fun x=>s.rd l fun y=>K (x,y)
  | []=>none
 can:=fun x=>c.can x.1::s.can x.2
 nat:=fun l {_ _} K g=>by
  cases l with
  | nil=>rfl
  | cons a l=>dsimp only;rw [c.nat];congr 1;funext x;rw [s.nat]
 inv:=fun l {_} K r h=>by
  cases l with
  | nil=>cases h
  | cons a l =>
   obtain ⟨x,hx,hk⟩:=c.inv a _ r h
   obtain ⟨y,hy,hk⟩:=s.inv l _ r hk
   exact ⟨(x,y),.cons hx hy,hk⟩
def mkO {α τ:Type} (R:RX α) (F:α->Option τ) (res:τ->List A):Ora where
 o:=fun args {_} K=>R.rd args fun a=>ob (F a) fun t=>K (res t)
 nat:=fun args {_} K=>by
  rw [R.nat];congr 1;funext a;rw [Rj];rfl
def DO (o:Ora) (C:ao) (f:Nat) (F:AF):Prop:=∀ {P:Program},P.follows .mixedOrders=true->az P C->cd P f F->∀ args res:List A,o.o args some=some res->Den P f args res
section
variable {α τ σ : Type} {R : RX α} {F : α -> Option τ} {res : τ -> List A} {C : ao} {f : Nat} {G : AF} (u : Nat)
theorem dW {H:α->Option σ} {raw:σ->List A} {nrm:σ->τ} (e:∀ a,aD C u G (R.can a)=ob (H a) fun t=>some (raw t)) (hF:∀ a,F a=ob (H a) fun t=>some (nrm t)) (w:∀ t,WkL (raw t) (res (nrm t))):DO (mkO R F res) C f G:=by
 intro P hmix hC hf args rs h
 obtain ⟨a,ha,hk⟩:=R.inv args _ rs h
 rw [hF] at hk
 obtain ⟨v,hv,hk⟩:=Ni hk
 obtain ⟨t,ht,hv⟩:=Ni hv
 cases hv
 cases hk
 exact Den.results (w t) (Den.weaken ha (jL hmix hC hf ((e a).trans (by rw [ht];rfl))))
theorem dO (e:∀ a,aD C u G (R.can a)=ob (F a) fun t=>some (res t)):DO (mkO R F res) C f G:=by
 intro P hmix hC hf args rs h
 obtain ⟨a,ha,hk⟩:=R.inv args _ rs h
 exact Den.weaken ha (jL hmix hC hf ((e a).trans hk))
theorem dN {raw:τ->List A} (e:∀ a,aD C u G (R.can a)=ob (F a) fun t=>some (raw t)) (w:∀ t,WkL (raw t) (res t)):DO (mkO R F res) C f G :=
 dW u e (fun a=>by cases F a<;>rfl) (nrm:=fun t=>t) w
end
def eB (a:AC) (C:ao) (u:Nat) {ρ:Type}:St->(Ex->St->Option ρ)->Option ρ:=fun st k=>aS C u a st k
def nN (h0:Nat) (l:List Nat):St->Option St:=fun s=>s.norm l h0
end Go.Eng
