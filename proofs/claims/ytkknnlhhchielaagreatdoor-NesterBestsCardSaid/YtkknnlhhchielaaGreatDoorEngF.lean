/-
 Operations,part 2: values,loads,addresses.
-/
import Derived.Test.YtkknnlhhchielaaGreatDoorEngE
set_option linter.all false
namespace Go.Eng
open Go Go.RowKit
variable {df : DF}
theorem Al {m:Nat} {Pr:Nat->Value->Prop} (h:∀ t,t<m->∃ u,Pr t u):∃ cs:List Value,cs.length=m/\∀ t,t<m->∃ u,cs[t]?=some u/\Pr t u:=by
 induction m with
 | zero=>exact ⟨[],rfl,fun t ht=>by omega⟩
 | succ m ih =>
  obtain ⟨cs,hl,hc⟩:=ih (fun t ht=>h t (by omega))
  obtain ⟨u,hu⟩:=h m (by omega)
  refine ⟨cs ++ [u],by simp [hl],fun t ht=>?_⟩
  by_cases htm:t=m
  ·subst htm;exact ⟨u,by rw [qsZ (by omega)];simp [hl],hu⟩
  ·obtain ⟨v,hv,hp⟩:=hc t (by omega)
   exact ⟨v,by rw [qnZ (by omega)];exact hv,hp⟩
theorem jz (g o n:Nat):(⟨g,o,none⟩:Addr).add n=⟨g,o+n,none⟩:=by
 unfold Addr.add;split<;>simp_all
section
variable {P : Program} {w : World}
theorem BS {t:TypeId} (h:eD P t none=true):(isAgg t).run P w=.ok false w:=by
 unfold eD at h
 split at h
 ·rename_i h1;simp at h
 ·simp at h
 ·rename_i d h1 h2 h3
  unfold isAgg
  rw [Sem.run_bind,run_underlying h3 w]
  cases d<;>simp_all
 ·cases h
theorem mN {t:TypeId} {m:Nat} (h:eD P t (some m)=true):(isAgg t).run P w=.ok true w/\(sizeOf t).run P w=.ok m w:=by
 unfold eD at h
 split at h
 ·rename_i h1
  cases hi:P.info? t with
  | none=>rw [hi] at h;cases h
  | some i =>
   rw [hi] at h
   have:=qbZ h
   subst this
   exact ⟨by unfold isAgg;simp [run_underlying h1],by simp [sizeOf,typeInfo,hi]⟩
 ·rename_i h1
  cases hi:P.info? t with
  | none=>rw [hi] at h;cases h
  | some i =>
   rw [hi] at h
   have:=qbZ h
   subst this
   exact ⟨by unfold isAgg;simp [run_underlying h1],by simp [sizeOf,typeInfo,hi]⟩
 ·simp at h
 ·cases h
theorem jv {t:TypeId} {m:Nat} (h:dT P t m=true):(sizeOf t).run P w=.ok m w:=by
 unfold dT at h
 split at h
 ·rename_i i hi
  have:=qbZ h
  subst this
  simp [sizeOf,typeInfo,hi]
 ·cases h
theorem ju {t e:TypeId} (h:jf P t e=true):P.underlying t=some (.slice e):=by
 unfold jf at h
 split at h
 ·rename_i e' he
  have:=qbZ h
  subst this;exact he
 ·cases h
theorem dL {t:TypeId} {a:Addr} {u:Value} (h:eD P t none=true) (hu:w.cell? a=some u):(loadVar t a).run P w=.ok u w:=by
 simp [loadVar,BS h,hu]
theorem ml {t:TypeId} {a:Addr} {m:Nat} {cs:List Value} (h:eD P t (some m)=true) (hl:cs.length=m) (hu:∀ j v,cs[j]?=some v->w.cell? (a.add j)=some v) :
  (loadVar t a).run P w=.ok (.agg cs.toArray) w:=by
 have h1:=run_loadCells_list (P:=P) w a cs hu
 rw [hl] at h1
 simp [loadVar,(mN h).1,(mN h).2,h1]
variable {μ : Nat -> Option Nat} {ok : Nat -> Prop} {H : List Blk}
theorem EA {r:Kd} {f:Nat->CV} {g base j:Nat} {m:Option Nat} {v:V} {t:TypeId}
  (hrow:∀ t,t<r.len->(r.nth t).okP (f t)/\∃ u,w.cell? ⟨g,base+t,none⟩=some u/\CR ok w (f t) u) (h:ri r f j m=some v) (hagg:eD P t m=true) :
  ∃ u,(loadVar t ⟨g,base+j,none⟩).run P w=.ok u w/\VR μ ok w H v u:=by
 unfold ri at h
 cases m with
 | none =>
  obtain ⟨h1,h2⟩:=ah h
  cases h2
  have h1:j<r.len:=by simpa using h1
  obtain ⟨hk,u,hu,hr⟩:=hrow j h1
  exact ⟨u,dL hagg hu,CR.proj hk hr⟩
 | some m =>
  obtain ⟨h1,h2⟩:=ah h
  cases h2
  have h1:=qpZ h1
  obtain ⟨cs,hl,hc⟩:=Al (m:=m) (Pr:=fun t u=>w.cell? ⟨g,base+(j+t),none⟩=some u/\CR ok w ((r.nth (j+t)).proj (f (j+t))) u) (fun t ht=>by
   obtain ⟨hk,u,hu,hr⟩:=hrow (j+t) (by omega)
   exact ⟨u,hu,CR.proj hk hr⟩)
  refine ⟨.agg cs.toArray,ml hagg hl (fun t v hv=>?_),cs.toArray,rfl,by simp [hl],fun t c ht=>?_⟩
  ·have hlt:=(qfZ.1 hv).1
   obtain ⟨u,hu,hcell,_⟩:=hc t (by omega)
   rw [hv] at hu;cases hu
   rw [jz,Nat.add_assoc];exact hcell
  ·rw [qhZ] at ht
   cases hq:(List.range m)[t]? with
   | none=>rw [hq] at ht;cases ht
   | some t' =>
    have hlt:=(qfZ.1 hq).1
    simp at hlt
    rw [raZ hlt] at hq;cases hq
    rw [raZ hlt] at ht
    simp only [Option.map_some,rbZ] at ht
    subst ht
    obtain ⟨u,hu,_,hr⟩:=hc t hlt
    exact ⟨u,by simpa using hu,hr⟩
theorem FH {cells:List V0} {g j:Nat} {cur:Array Value} {e:TypeId} (hw:w.heap[g]?=some (.cells cur e (0,0))) (hsz:cur.size=cells.length)
  (hc:∀ (j:Nat) (c:V0),cells[j]?=some c->∃ u,cur[j]?=some u/\V0R μ ok w H c u) {t:TypeId} {m:Nat} (hagg:eD P t (some m)=true) (hle:j+m<=cells.length) :
  ∃ u,(loadVar t ⟨g,j,none⟩).run P w=.ok u w/\VR μ ok w H (.agg ((cells.drop j).take m)) u:=by
 refine ⟨.agg ((cur.toList.drop j).take m).toArray,ml hagg (by simp;omega) (fun t v hv=>?_),_,rfl,by simp;omega,fun t c ht=>?_⟩
 ·rw [jz,cell_of_row w g (j+t) cur e (0,0) hw]
  rw [List.getElem?_take] at hv
  split at hv
  ·rw [List.getElem?_drop] at hv;simpa using hv
  ·cases hv
 ·rw [List.getElem?_take] at ht
  split at ht
  ·rename_i htm
   rw [List.getElem?_drop] at ht
   obtain ⟨u,hu,hr⟩:=hc _ c ht
   refine ⟨u,?_,hr⟩
   simp only [List.getElem?_toArray]
   rw [rnZ htm,List.getElem?_drop]
   simpa using hu
  ·cases ht
end
section
variable {ρ : Type} {P : Program} {C : ao} {hb : Nat} {w0 : cD} {okA : Nat -> Prop} {μ : Nat -> Option Nat} {ok : Nat -> Prop} {st : St} {a : Act} {w : World}
 {o:Oper} {k:V->St->Option ρ} {r:ρ} {next:Act->World->Prop} {Q:Exit->Act->World->Prop}
def dD (df:DF) (w0:cD) (okA:Nat->Prop) (a:Act) (k:V->St->Option ρ) (r:ρ) (K:Value->World->Prop):Prop :=
 ∀ μ ok v st u w,MR w0 okA μ ok st.heap w->ER df μ ok st.heap w st.env a->VR μ ok w st.heap v u->k v st=some r->K u w
theorem dK {u:Value} {w' : World} (h:(execOp a.eval o).run P w=.ok (.value u) w') (hk:next (a.put o.dst u) w'):o.wp P a w next Q:=by
 unfold Oper.wp;rw [h];exact hk
theorem lh {w' : World} (h:(execOp a.eval o).run P w=.ok .skip w') (hk:next (a.put o.dst undef) w'):o.wp P a w next Q:=by
 unfold Oper.wp;rw [h];exact hk
theorem aP (hm:MR w0 okA μ ok st.heap w) (he:ER df μ ok st.heap w st.env a) (hk:dD df w0 okA a k r fun u w=>next (a.put o.dst u) w)
  {v:V} {u:Value} (hrun:(execOp a.eval o).run P w=.ok (.value u) w) (hv:VR μ ok w st.heap v u) (hkk:k v st=some r):o.wp P a w next Q :=
 dK hrun (hk _ _ _ _ _ _ hm he hv hkk)
theorem Ii (hm:MR w0 okA μ ok st.heap w) (he:ER df μ ok st.heap w st.env a) (hk:dD df w0 okA a k r fun u w=>next (a.put o.dst u) w)
  {x:Operand} (ho:o.op=.move x\/o.op=.assign x) (h:k (st.ev x) st=some r):o.wp P a w next Q:=by
 refine aP hm he hk (u:=a.eval x) ?_ (aF he x) h
 rcases ho with ho | ho<;>simp [execOp,ho]
theorem QF (hm:MR w0 okA μ ok st.heap w) (he:ER df μ ok st.heap w st.env a) (hk:dD df w0 okA a k r fun u w=>next (a.put o.dst u) w)
  {c x y:Operand} (ho:o.op=.pick c x y) (h:aj C hb st (.pick c x y) k=some r):o.wp P a w next Q:=by
 have hc:=aF he c
 simp only [aj] at h
 split at h
 ·rename_i t ht
  rw [ht] at hc
  have hc:a.eval c=.bool t:=hc
  cases t
  ·exact aP hm he hk (u:=a.eval y) (by simp [execOp,ho,hc,asBool]) (aF he y) h
  ·exact aP hm he hk (u:=a.eval x) (by simp [execOp,ho,hc,asBool]) (aF he x) h
 ·cases h
theorem QH (hm:MR w0 okA μ ok st.heap w) (he:ER df μ ok st.heap w st.env a) (hk:dD df w0 okA a k r fun u w=>next (a.put o.dst u) w)
  {t:TypeId} {m:Option Nat} {x:Operand} (ho:o.op=.load t x) (hP:eD P t m=true) (h:aj C hb st (.load t m x) k=some r):o.wp P a w next Q:=by
 have hx:=aF he x
 have main:∀ (ad:Addr) (v:V) (u:Value),a.eval x=.pointer (some ad)->(loadVar t ad).run P w=.ok u w->VR μ ok w st.heap v u->k v st=some r->o.wp P a w next Q :=
  fun ad v u h1 h2 h3 h4=>aP hm he hk (u:=u) (by simp [execOp,ho,h1,Instr.loadAt,Instr.sureAddr,h2]) h3 h4
 simp only [aj] at h
 split at h
 ·rename_i b j hv
  rw [hv] at hx
  split at h
  ·rename_i cells hb'
   obtain ⟨_,hp⟩:=hx
   rw [hb'] at hp
   obtain ⟨g,hg,hp⟩:=hp
   obtain ⟨g',cur,e,hg',hw,hsz,hc⟩:=hm.blk b _ hb'
   rw [hg] at hg';cases hg'
   split at h
   ·rename_i v hpv
    unfold rN at hpv
    cases m with
    | none =>
     dsimp only at hpv
     split at hpv
     ·rename_i y hy
      cases hpv
      obtain ⟨u,hu,hr⟩:=hc j y hy
      exact main _ (.x y) u hp (dL hP (by rw [cell_of_row w g j cur e (0,0) hw];exact hu)) hr h
     ·cases hpv
    | some m =>
     obtain ⟨h1,h2⟩:=ah hpv
     cases h2
     obtain ⟨u,hu,hr⟩:=FH hw hsz hc hP (qpZ h1)
     exact main _ _ u hp hu hr h
   ·cases h
  ·cases h
 ·rename_i b i j hv
  rw [hv] at hx
  split at h
  ·rename_i rr n f hb'
   obtain ⟨_,hp⟩:=hx
   rw [hb'] at hp
   obtain ⟨hi,g,hg,hp⟩:=hp
   obtain ⟨h0,hbr⟩:=hm.blk b _ hb'
   rcases hbr with ⟨_,h5⟩ | ⟨g',cur,e,hg',hw,hn,hc⟩
   ·rw [hg] at h5;cases h5
   ·rw [hg] at hg';cases hg'
    split at h
    ·rename_i v hpr
     obtain ⟨u,hu,hr⟩:=EA (μ:=μ) (H:=st.heap) (g:=g) (base:=i*rr.len) (fun t ht=>by
      obtain ⟨hk,u,hu,hr⟩:=hc i t hi ht
      exact ⟨hk,u,by rw [cell_of_row w g _ cur e (0,0) hw];exact hu,hr⟩) hpr hP
     exact main _ _ u hp hu hr h
    ·cases h
  ·rename_i κ n ln f hb'
   obtain ⟨_,hp⟩:=hx
   rw [hb'] at hp
   obtain ⟨hi,g,hg,hp⟩:=hp
   obtain ⟨hκ,hn,g',cur,e,hg',hw,hsz,hc⟩:=hm.blk b _ hb'
   rw [hg] at hg';cases hg'
   obtain ⟨h1,h2⟩:=ah h
   clear h
   rw [qaZ,qaZ] at h1
   have hj:=qbZ h1.1.1
   subst hj
   have hm0:m=none:=by simpa using h1.2
   subst hm0
   obtain ⟨u,hu,hrow,_⟩:=hc i hi
   refine main _ (.x (.mrow b i)) u hp (dL hP (by rw [Nat.add_zero,cell_of_row w g i cur e (0,0) hw];exact hu)) ?_ h2
   obtain ⟨a',cap,rfl,q⟩:=hrow
   refine ⟨rfl,?_⟩
   rw [hb']
   exact ⟨hi,a',cap,rfl,q⟩
  ·cases h
 ·rename_i b i j hv
  rw [hv] at hx
  split at h
  ·rename_i κ n ln f hb'
   obtain ⟨_,hp⟩:=hx
   rw [hb'] at hp
   obtain ⟨hi,hj,x0,hx0,hp⟩:=hp
   obtain ⟨hκ,hn,g',cur,e,hg',hw,hsz,hc⟩:=hm.blk b _ hb'
   obtain ⟨h1,h2⟩:=ah h
   clear h
   have hm0:m=none:=by simpa using h1
   subst hm0
   obtain ⟨u,hu,hrow,hall⟩:=hc i hi
   obtain ⟨rc,e',r1,r2,r3⟩:=hall x0 (by omega) hx0
   obtain ⟨r4,v,r5,r6⟩:=r3 j hj
   exact main _ (.x (.c (κ.proj (f i j)))) v hp (dL hP (by rw [cell_of_row w x0 j rc e' (0,0) r1];exact r5)) (CR.proj r4 r6) h2
  ·cases h
 ·rename_i rr f hv
  rw [hv] at hx
  obtain ⟨g,off,hp,hg,hrow⟩:=hx
  split at h
  ·rename_i v hpr
   obtain ⟨u,hu,hr⟩:=EA (μ:=μ) (H:=st.heap) (g:=g) (base:=off) hrow hpr hP
   exact main _ _ u hp hu hr h
  ·cases h
 ·cases h
theorem DL (hm:MR w0 okA μ ok st.heap w) (he:ER df μ ok st.heap w st.env a) (hk:dD df w0 okA a k r fun u w=>next (a.put o.dst u) w)
  {t:TypeId} {x:Operand} {fi off:Nat} (ho:o.op=.fieldAddr t x fi) (hP:(AOp.fieldAddr t x fi off).okP P=true) (h:aj C hb st (.fieldAddr t x fi off) k=some r):o.wp P a w next Q:=by
 have hx:=aF he x
 have main:∀ (g j:Nat) (v:V),a.eval x=.pointer (some ⟨g,j,none⟩)->VR μ ok w st.heap v (.pointer (some ⟨g,j+off,none⟩))->k v st=some r->o.wp P a w next Q:=by
  intro g j v h1 h3 h4
  simp only [AOp.okP] at hP
  split at hP
  ·rename_i fields hu
   split at hP
   ·rename_i f hf
    rw [qaZ] at hP
    have hoff:=qbZ hP.1
    have hpos:=hP.2
    cases hi:P.info? f.type with
    | none=>rw [hi] at hpos;cases hpos
    | some i =>
     rw [hi] at hpos
     have hpos:i.size≠0:=by have:=hpos;simp at this;omega
     exact aP hm he hk (u:=.pointer (some ⟨g,j+off,none⟩)) (by simp [execOp,ho,h1,Instr.fieldAt,run_underlying hu,hf,Instr.sureAddr,fieldPlace,sizeOf,typeInfo,hi,hpos,jz,hoff]) h3 h4
   ·cases hP
  ·cases hP
 simp only [aj] at h
 split at h
 ·rename_i b j hv
  rw [hv] at hx
  obtain ⟨h1,hp⟩:=hx
  obtain ⟨hlive,h⟩:=ah h
  unfold jZ at hlive
  split at hlive
  ·rename_i cs hq
   rw [hq] at hp
   obtain ⟨g,hg,hp⟩:=hp
   have hv' : V0R μ ok w st.heap (.ptr b (j+off)) (.pointer (some ⟨g,j+off,none⟩)):=⟨rfl,by rw [hq];exact ⟨g,hg,rfl⟩⟩
   exact main g j (.x (.ptr b (j+off))) hp hv' h
  ·cases hlive
 ·rename_i b i j hv
  rw [hv] at hx
  obtain ⟨h1,hp⟩:=hx
  obtain ⟨hlive,h⟩:=ah h
  unfold j5 at hlive
  split at hlive
  ·rename_i rr n f hq
   rw [hq] at hp
   obtain ⟨hi,g,hg,hp⟩:=hp
   have hv' : V0R μ ok w st.heap (.aptr b i (j+off)) (.pointer (some ⟨g,i*rr.len+j+off,none⟩)):=⟨rfl,by rw [hq];exact ⟨hi,g,hg,by rw [Nat.add_assoc]⟩⟩
   exact main g _ (.x (.aptr b i (j+off))) hp hv' h
  ·cases hlive
 ·rename_i rr f hv
  rw [hv] at hx
  obtain ⟨g,base,hp,hg,hrow⟩:=hx
  have hv' : CR ok w (.rp (rr.drop off) (mC off f)) (.pointer (some ⟨g,base+off,none⟩)):=by
   refine ⟨g,base+off,rfl,hg,fun j hj=>?_⟩
   rw [vq,Kd.drop_nth off rr j hj]
   obtain ⟨hk,u,hu,hr⟩:=hrow (off+j) (Kd.drop_len' rr off j hj)
   exact ⟨hk,u,by rw [Nat.add_assoc];exact hu,hr⟩
  exact main g base (.x (.c (.rp (rr.drop off) (mC off f)))) hp hv' h
 ·cases h
theorem EM (hm:MR w0 okA μ ok st.heap w) (he:ER df μ ok st.heap w st.env a) (hk:dD df w0 okA a k r fun u w=>next (a.put o.dst u) w)
  {x:Operand} (ho:o.op=.nilCheck x) (h:aj C hb st (.nilCheck x) k=some r):o.wp P a w next Q:=by
 have hx:=aF he x
 have main:∀ (ad:Addr) (v:V),a.eval x=.pointer (some ad)->VR μ ok w st.heap v (.pointer (some ad))->k v st=some r->o.wp P a w next Q :=
  fun ad v h1 h3 h4=>aP hm he hk (u:=.pointer (some ad)) (by simp [execOp,ho,h1]) h3 h4
 simp only [aj] at h
 split at h
 ·rename_i b j hv
  rw [hv] at hx
  have hx0:=hx
  obtain ⟨h1,hp⟩:=hx
  obtain ⟨hlive,h⟩:=ah h
  unfold jZ at hlive
  split at hlive
  ·rename_i cs hq
   rw [hq] at hp
   obtain ⟨g,hg,hp⟩:=hp
   rw [hp] at hx0
   exact main _ _ hp hx0 h
  ·cases hlive
 ·rename_i rr f hv
  rw [hv] at hx
  have hx0:=hx
  obtain ⟨g,base,hp,hg,hrow⟩:=hx
  rw [hp] at hx0
  exact main _ _ hp hx0 h
 ·cases h
end
end Go.Eng
