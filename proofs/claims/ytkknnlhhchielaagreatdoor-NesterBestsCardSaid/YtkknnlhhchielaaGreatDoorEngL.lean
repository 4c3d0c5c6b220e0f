/-
 Regions in the order of the text;what fits what.
-/
import Derived.Test.YtkknnlhhchielaaGreatDoorEngK
import Derived.OrdersIn
import Derived.AtR
set_option linter.all false
namespace Go.Eng
open Go Go.RowKit
variable {df : DF}
def jE (ops:Array Oper) (f:FOp) (o:Oper):Bool :=
 match f.guard,o.guard with
 | none,none=>true
 | some (t,want),some (j,want')=>(want==want')&&(match (ops[j]?).bind (·.dst) with | some d=>Nat.beq d t | none=>false)
 | _,_=>false
structure sU (P:Program) (ops:Array Oper) (f:FOp) (o:Oper):Prop where
 dst:o.dst=f.dst
 op:o.op=f.op.erase
 guard:jE ops f o=true
 ok:f.op.okP P=true
structure dZ (P:Program) (ops:Array Oper) (l:List FOp):Prop where
 len:l.length=ops.size
 at_:∀ (i:Nat) (f:FOp),l[i]?=some f->∃ o,ops[i]?=some o/\sU P ops f o
def wd (l:Option Nat):Fence:={ Fence.wide with round:=l }
theorem Ag (x:AOp) (c:Call):x.erase≠.defer c:=by cases x<;>simp [AOp.erase]
theorem A2 {P:Program} {o:Oper} {a:Act} {w:World} {K:Act->World->Prop} {Q:Exit->Act->World->Prop} {l:Option Nat} {n:Nat} (hd:∀ c,o.op≠.defer c) (h:o.wp P a w K Q):o.wpIn (wd l) n P a w K Q:=by
 refine ⟨fun _ _=>trivial,?_⟩
 have e:(o.semAt (wd l).round a.eval)=execOp a.eval o:=Oper.semAt_eq _ _ _ hd
 rw [e]
 unfold Oper.wp at h
 revert h
 generalize (execOp a.eval o).run P w=x
 intro h
 cases x with
 | ok v w' =>
  cases v with
  | value v=>exact h
  | skip=>exact h
  | defer d=>exact h
  | enter f args=>exact ⟨(fun k=>by cases k),callsIn_wide (n:=n-1).2 h⟩
  | row r args =>
   refine ⟨(fun k=>by cases k),fun c cs _=>?_⟩
   obtain ⟨v,w'',h1,h2⟩:=h c cs
   exact ⟨v,w'',h1,stepsIn_wide.2 h2⟩
  | _=>exact h.elim
 | halt v w'=>cases v<;>exact h
section
variable {ρ : Type} {P : Program} {C : ao} {hb : Nat} {w0 : cD} {okA : Nat -> Prop} {μ : Nat -> Option Nat} {ok : Nat -> Prop} {st : St} {a : Act} {w : World}
 {fl:Option Nat} {fd:Nat} {r:ρ} {Q:Exit->Act->World->Prop} {ops:Array Oper}
theorem ER.same {H:List Blk} {env:List V} (he:ER df μ ok H w env a) {t:Nat} {v:V} (h:∀ u,a.tmps[t]?=some u->VR μ ok w H v u):ER df μ ok H w (env.set t v) a:=by
 refine ⟨by rw [he.size];simp,fun t' v' ht'=>?_,he.defers,he.glob⟩
 by_cases htt:t=t'
 ·subst htt
  have hlt:t<env.length:=by
   have:=(qfZ.1 ht').1;simpa using this
  rw [qkZ hlt] at ht'
  cases ht'
  obtain ⟨u,hu,_⟩:=he.env t env[t] (by simp [hlt])
  exact ⟨u,hu,h u hu⟩
 ·rw [qoZ htt] at ht'
  exact he.env t' v' ht'
theorem jj (he:ER df μ ok st.heap w st.env a) {t:Nat} {x:Bool} (h:st.env.getD t .u=.x (.c (.b x))):a.tmps[t]?=some (.bool x):=by
 rw [qdZ] at h
 cases hq:st.env[t]? with
 | none=>rw [hq] at h;cases h
 | some v =>
  rw [hq] at h
  simp only [Option.getD_some] at h
  subst h
  obtain ⟨u,hu,hr⟩:=he.env t _ hq
  have hr:u=.bool x:=hr
  rw [hu,hr]
theorem Kx (he:ER df μ ok st.heap w st.env a) {t:Nat} (h:st.env.getD t .u=.undef):a.tmps[t]?=some undef:=by
 rw [qdZ] at h
 cases hq:st.env[t]? with
 | none=>rw [hq] at h;cases h
 | some v =>
  rw [hq] at h
  simp only [Option.getD_some] at h
  subst h
  obtain ⟨u,hu,hr⟩:=he.env t _ hq
  have hr:u=undef:=hr
  rw [hu,hr]
theorem ER.lit (he:ER df μ ok st.heap w st.env a) {t:Nat} {x:Bool} (h:st.env.getD t .u=.x (.c (.b x))):ER df μ ok (st.put t (bl x)).heap w (st.put t (bl x)).env a :=
 he.same fun u hu=>by
  rw [jj he h] at hu
  cases hu
  rfl
theorem F4 {f:FOp} {o:Oper} {t:Nat} {want:Bool} (hg:jE ops f o=true) (hf:f.guard=some (t,want)) :
  ∃ j,o.guard=some (j,want)/\∀ tmps:Array Value,yielded ops tmps j=match tmps[t]? with | some (.bool b)=>some b | _=>none:=by
 unfold jE at hg
 rw [hf] at hg
 cases ho:o.guard with
 | none=>rw [ho] at hg;cases hg
 | some p =>
  obtain ⟨j,want'⟩:=p
  rw [ho] at hg
  simp only [qaZ,beq_iff_eq] at hg
  obtain ⟨h1,h2⟩:=hg
  subst h1
  refine ⟨j,rfl,fun tmps=>?_⟩
  split at h2
  ·rename_i d hd
   have:=qbZ h2
   subst this
   unfold yielded
   rw [hd]
   rfl
  ·cases h2
theorem dP (hC:az P C) (hm:MR w0 okA μ ok st.heap w) (he:ER df μ ok st.heap w st.env a) {f:FOp} {o:Oper} {i:Nat} (hi:ops[i]?=some o) (hf:sU P ops f o) (hpin:∀ q,q∈df.2->f.dst≠some q.1)
  {K:Act->World->Prop} {k:St->Option ρ}
  (hK:∀ μ ok st a w,MR w0 okA μ ok st.heap w->ER df μ ok st.heap w st.env a->k st=some r->K a w)
  (h:ca C hb st [f] k=some r):wpOpIn (wd fl) fd P ops Q i K a w:=by
 unfold wpOpIn
 have hnd:∀ c,o.op≠.defer c:=fun c=>by rw [hf.op];exact Ag _ c
 rw [hi]
 dsimp only
 unfold ca at h
 have howed:∀ st:St,dD df w0 okA a (fun v st=>ca C hb (st.putO f.dst v) [] k) r (fun u w=>K (a.put o.dst u) w):=by
  intro st0 μ ok v st u w hm he hv hh
  rw [hf.dst]
  exact hK _ _ _ _ _ (by rw [St.putO_heap];exact hm) (he.putO hpin hv) hh
 have hput:∀ st:St,ER df μ ok st.heap w st.env a->MR w0 okA μ ok st.heap w->ca C hb (st.putO f.dst .undef) [] k=some r->K (a.put o.dst undef) w:=by
  intro st he hm hh
  rw [hf.dst]
  exact hK _ _ _ _ _ (by rw [St.putO_heap];exact hm) (he.putO (v:=.undef) hpin rfl) hh
 split at h
 ·rename_i hg
  have hog:o.guard=none:=by
   have:=hf.guard
   unfold jE at this
   rw [hg] at this
   cases ho:o.guard with
   | none=>rfl
   | some p=>rw [ho] at this;cases this
  rw [if_pos (by simp [Region.wanted,hog])]
  exact A2 hnd (tQ hC hm he (howed st) hf.op hf.ok h)
 ·rename_i t want hg
  obtain ⟨j,hog,hy⟩:=F4 hf.guard hg
  split at h
  ·rename_i x hx
   have hy' : yielded ops a.tmps j=some x:=by rw [hy,jj he hx]
   cases hxw:(x==want) with
   | true =>
    rw [hxw] at h
    have hxe:x=want:=by simpa using hxw
    subst hxe
    rw [if_pos (by simp [Region.wanted,hog,hy'])]
    exact A2 hnd (tQ hC (st:=st.put t (bl x)) hm (he.lit hx) (howed st) hf.op hf.ok h)
   | false =>
    rw [hxw] at h
    have hxe:x = !want:=by cases x<;>cases want<;>simp_all
    rw [if_neg (by simp [Region.wanted,hog,hy'];intro hh;rw [hh] at hxw;simp at hxw)]
    subst hxe
    exact ⟨fun _ _=>trivial,hput (st.put t (bl (!want))) (he.lit hx) hm h⟩
  ·rename_i hx
   have hy' : yielded ops a.tmps j=none:=by rw [hy,Kx he hx];rfl
   rw [if_neg (by simp [Region.wanted,hog,hy'])]
   exact ⟨fun _ _=>trivial,hput st he hm h⟩
  ·cases h
theorem BK (f:FOp) (l:List FOp) (k:St->Option ρ):ca C hb st (f::l) k=ca C hb st [f] (fun st=>ca C hb st l k):=by
 simp only [ca]
theorem Af (hC:az P C) {l:List FOp} (hfit:dZ P ops l) (hpin:∀ f,f∈l->∀ q,q∈df.2->f.dst≠some q.1) {k:St->Option ρ} (hQ:∀ μ ok st a w,MR w0 okA μ ok st.heap w->ER df μ ok st.heap w st.env a->k st=some r->Q .normal a w) :
  ∀ (n i:Nat) (μ:Nat->Option Nat) (ok:Nat->Prop) (st:St) (a:Act) (w:World),i+n=l.length->MR w0 okA μ ok st.heap w->ER df μ ok st.heap w st.env a->ca C hb st (l.drop i) k=some r->wpOpsIn (wd fl) fd P ops Q (List.range' i n) a w
 | 0,i,μ,ok,st,a,w,hi,hm,he,h=>by
  rw [List.drop_of_length_le (by omega)] at h
  exact hQ _ _ _ _ _ hm he h
 | n+1,i,μ,ok,st,a,w,hi,hm,he,h=>by
  have hlt:i<l.length:=by omega
  rw [List.drop_eq_getElem_cons hlt,BK] at h
  obtain ⟨o,ho,hf⟩:=hfit.at_ i l[i] (by simp)
  rw [List.range'_succ,wpOpsIn_cons]
  exact dP hC hm he ho hf (hpin _ (List.getElem_mem hlt)) (fun μ ok st a w hm he hh=>Af hC hfit hpin hQ n (i+1) μ ok st a w (by omega) hm he hh) h
theorem aT (hC:az P C) {l:List FOp} (hfit:dZ P ops l) (hpin:∀ f,f∈l->∀ q,q∈df.2->f.dst≠some q.1) {k:St->Option ρ} (hm:MR w0 okA μ ok st.heap w) (he:ER df μ ok st.heap w st.env a)
  (hQ:∀ μ ok st a w,MR w0 okA μ ok st.heap w->ER df μ ok st.heap w st.env a->k st=some r->Q .normal a w) {id:Nat} (h:ca C hb st l k=some r):(Code.region id ops false).wpIn (wd fl) fd P Q a w:=by
 refine wpIn_region ?_
 rw [<- hfit.len,List.range_eq_range']
 exact Af hC hfit hpin hQ l.length 0 μ ok st a w (by simp) hm he (by simpa using h)
theorem CQ (hC:az P C) {pre:List FOp} {f1:FOp} (hfit:dZ P ops (pre ++ [f1])) (hpin:∀ f,f∈pre ++ [f1]->∀ q,q∈df.2->f.dst≠some q.1) {K:St->Option ρ}
  (hlast:∀ μ ok st a w,MR w0 okA μ ok st.heap w->ER df μ ok st.heap w st.env a->K st=some r->∀ o,ops[pre.length]?=some o->sU P ops f1 o->wpOpIn (wd fl) fd P ops Q pre.length (fun a w=>Q .normal a w) a w) :
  ∀ (n i:Nat) (μ:Nat->Option Nat) (ok:Nat->Prop) (st:St) (a:Act) (w:World),i+n=pre.length->MR w0 okA μ ok st.heap w->ER df μ ok st.heap w st.env a->ca C hb st (pre.drop i) K=some r->wpOpsIn (wd fl) fd P ops Q (List.range' i (n+1)) a w
 | 0,i,μ,ok,st,a,w,hi,hm,he,h=>by
  rw [List.drop_of_length_le (by omega)] at h
  have hi:i=pre.length:=by omega
  subst hi
  obtain ⟨o,ho,hf⟩:=hfit.at_ pre.length f1 (by simp)
  rw [List.range'_succ,wpOpsIn_cons]
  exact hlast _ _ _ _ _ hm he h o ho hf
 | n+1,i,μ,ok,st,a,w,hi,hm,he,h=>by
  have hlt:i<pre.length:=by omega
  rw [List.drop_eq_getElem_cons hlt,BK] at h
  obtain ⟨o,ho,hf⟩:=hfit.at_ i pre[i] (by rw [qnZ hlt];simp)
  rw [List.range'_succ,wpOpsIn_cons]
  exact dP hC hm he ho hf (hpin _ (qvZ _ (List.getElem_mem hlt))) (fun μ ok st a w hm he hh=>CQ hC hfit hpin hlast n (i+1) μ ok st a w (by omega) hm he hh) h
theorem Bi (hC:az P C) {pre:List FOp} {f1:FOp} (hfit:dZ P ops (pre ++ [f1])) (hpin:∀ f,f∈pre ++ [f1]->∀ q,q∈df.2->f.dst≠some q.1) {K:St->Option ρ} (hm:MR w0 okA μ ok st.heap w) (he:ER df μ ok st.heap w st.env a)
  (hlast:∀ μ ok st a w,MR w0 okA μ ok st.heap w->ER df μ ok st.heap w st.env a->K st=some r->∀ o,ops[pre.length]?=some o->sU P ops f1 o->wpOpIn (wd fl) fd P ops Q pre.length (fun a w=>Q .normal a w) a w)
  {id:Nat} (h:ca C hb st pre K=some r):(Code.region id ops false).wpIn (wd fl) fd P Q a w:=by
 refine wpIn_region ?_
 rw [<- hfit.len,List.range_eq_range',List.length_append]
 exact CQ hC hfit hpin hlast pre.length 0 μ ok st a w (by simp) hm he (by simpa using h)
end
end Go.Eng
