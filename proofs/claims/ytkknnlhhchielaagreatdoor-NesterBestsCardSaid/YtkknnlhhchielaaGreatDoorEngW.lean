/-
 Operations,part 8b: maps.
-/
import Derived.Test.YtkknnlhhchielaaGreatDoorEngJ3
import Derived.MapKept
set_option linter.all false
namespace Go.Eng
open Go Go.RowKit
variable {df : DF}
section
variable {P : Program} {w : World} {kt e : TypeId} {kd : IntKind}
end
section
variable {ρ : Type} {P : Program} {C : ao} {hb : Nat} {w0 : cD} {okA : Nat -> Prop} {μ : Nat -> Option Nat} {ok : Nat -> Prop} {st : St} {a : Act} {w : World}
 {o:Oper} {k:V->St->Option ρ} {r:ρ} {next:Act->World->Prop} {Q:Exit->Act->World->Prop}
theorem Gs (hm:MR w0 okA μ ok st.heap w) (he:ER df μ ok st.heap w st.env a) (hk:dD df w0 okA a k r fun u w=>next (a.put o.dst u) w)
  {q:Nat} {t:TypeId} {sb:Nat} (ho:o.op=(AOp.makeMap q t sb).erase) (h:aj C hb st (.makeMap q t sb) k=some r):o.wp P a w next Q:=by
 simp only [aj] at h
 unfold jO at h
 split at h
 ·rename_i hres
  have hnew:(w.alloc (.map #[] 0)).heap[w.heap.size]?=some (.map #[] 0):=heap_alloc_new w _
  have hold:∀ k,k<w.heap.size->(w.alloc (.map #[] 0)).heap[k]?=w.heap[k]?:=fun k hk=>Below.heap_alloc w _ k hk
  obtain ⟨g1,E⟩:=hm.install (g:=w.heap.size) (w':=w.alloc (.map #[] 0)) (.set sb 0 (fun _ _=>.any)) hres (hm.below.trans (lS hm _)) (by simp) (fun k hk=>hold k (hm.okd k hk).1) (fun b' k hk=>hold k (hm.fresh b' k hk).2.1)
   ⟨.inl hm.below.size,by simp,fun h=>by have:=(hm.okd _ h).1;omega⟩ (fun b' h=>by have:=(hm.fresh b' _ h).2.1;omega) (fun _ _ _ hh=>by cases hh)
   (fun E=>⟨w.heap.size,#[],je _ _ _,hnew,rfl,fun _ i hi=>by omega,fun _=>⟨fun i hi=>by omega,fun i j s hi=>by omega⟩⟩)
  have hrun:(execOp a.eval o).run P w=.ok (.value (.map (some w.heap.size))) (w.alloc (.map #[] 0)):=by
   simp [execOp,ho,AOp.erase,Instr.makeMap]
  have hv:V0R (upd μ (hb+q) (some w.heap.size)) ok (w.alloc (.map #[] 0)) (st.setB (hb+q) (.set sb 0 (fun _ _=>.any))).heap (.own (hb+q) 0 0) (.map (some w.heap.size)):=by
   refine ⟨rfl,?_⟩
   rw [show (st.setB (hb+q) (.set sb 0 (fun _ _=>.any))).heap[hb+q]?=some (.set sb 0 (fun _ _=>.any)) from qkZ (qfZ.1 hres).1]
   exact ⟨_,je _ _ _,rfl⟩
  exact dK hrun (hk (upd μ (hb+q) (some w.heap.size)) ok (.x (.own (hb+q) 0 0)) (st.setB (hb+q) (.set sb 0 (fun _ _=>.any))) _ _ g1 (he.ext E) hv h)
 ·cases h
def putM (w:World) (g:Nat) (es:Array MapEntry) (clock:Nat):World:={ w with heap:=w.heap.setIfInBounds g (.map es clock) }
theorem vw {g:Nat} {o:Obj} (hw:w.heap[g]?=some o) (es:Array MapEntry) (clock:Nat):(putM w g es clock).heap[g]?=some (.map es clock):=(MapKept.heap_set hw).1
theorem Gm {g:Nat} {o:Obj} (hw:w.heap[g]?=some o) (es:Array MapEntry) (clock k:Nat) (h:k≠g):(putM w g es clock).heap[k]?=w.heap[k]?:=(MapKept.heap_set hw).2 k h
theorem vv (g:Nat) (es:Array MapEntry) (clock:Nat):(putM w g es clock).heap.size=w.heap.size:=by simp [putM]
theorem MR.putM {H:List Blk} (h:MR w0 okA μ ok H w) {b g n n' sb:Nat} {f f' : Nat->Nat->CV} {es es' : Array MapEntry} {clock clock' : Nat} (hb:H[b]?=some (.set sb n f)) (hg:μ b=some g)
  (hw:w.heap[g]?=some (.map es clock))
  (hblk:lH μ ok (putM w g es' clock') (H.set b (.set sb n' f')) b (.set sb n' f')) :
  MR w0 okA μ ok (H.set b (.set sb n' f')) (putM w g es' clock')/\Ext μ ok w H μ ok (putM w g es' clock') (H.set b (.set sb n' f')):=by
 have hlt:b<H.length:=(qfZ.1 hb).1
 have hf:=h.fresh b g hg
 have hrow:=vw hw es' clock'
 have hoth:∀ k,k≠g->(Go.Eng.putM w g es' clock').heap[k]?=w.heap[k]?:=fun k hk=>Gm hw es' clock' k hk
 have hset:∀ b',b'≠b->(H.set b (Blk.set sb n' f'))[b']?=H[b']?:=fun b' hn=>qoZ (Ne.symm hn)
 have E:Ext μ ok w H μ ok (Go.Eng.putM w g es' clock') (H.set b (.set sb n' f')):=by
  refine ⟨fun k hk=>⟨hk,hoth k (fun e=>hf.2.2 (e ▸ hk))⟩,fun b' hb'=>?_,fun b' cs hb'=>?_,fun b' r n f hb'=>?_,fun b' sb n f hb'=>?_,fun b' κ n ln f hb'=>?_⟩
  ·by_cases hbb:b' = b
   ·subst hbb;rw [hb] at hb';cases hb'
   ·rw [hset b' hbb];exact hb'
  ·by_cases hbb:b' = b
   ·subst hbb;rw [hb] at hb';cases hb'
   ·exact .inr ⟨⟨cs,by rw [hset b' hbb];exact hb'⟩,rfl⟩
  ·by_cases hbb:b' = b
   ·subst hbb;rw [hb] at hb';cases hb'
   ·refine .inr ⟨⟨f,by rw [hset b' hbb];exact hb'⟩,rfl,fun k c1 e1 hk hw1=>⟨c1,e1,?_,rfl⟩⟩
    rw [hoth k (fun he=>hbb (h.inj b' b g (he ▸ hk) hg))];exact hw1
  ·by_cases hbb:b' = b
   ·subst hbb
    rw [hb] at hb';cases hb'
    exact .inr ⟨⟨n',f',by rw [qkZ hlt]⟩,rfl⟩
   ·exact .inr ⟨⟨n,f,by rw [hset b' hbb];exact hb'⟩,rfl⟩
  ·by_cases hbb:b' = b
   ·subst hbb;rw [hb] at hb';cases hb'
   ·exact .inr ⟨⟨f,by rw [hset b' hbb];exact hb'⟩,rfl,fun i=>by rw [roZ]⟩
 have hbl:aU w0 (Go.Eng.putM w g es' clock'):=⟨h.below.os,h.below.tape,h.below.output,by rw [vv];exact h.below.size,
  fun k hk ho=>(hoth k (fun he=>hf.1.elim (fun h1=>by omega) (fun h1=>ho (by rw [he];exact h1)))).trans (h.below.block k hk ho),fun k ho cu e' hc=>by
   obtain ⟨c1,h1,h2⟩:=h.below.lent k ho cu e' hc
   by_cases hk:k=g
   ·subst hk
    rw [hw] at h1;cases h1
   ·exact ⟨c1,(hoth k hk).trans h1,h2⟩,h.below.drawn⟩
 refine ⟨⟨hbl,fun k hk=>by rw [vv];exact h.okd k hk,h.keep,fun b' k hk=>by rw [vv];exact h.fresh b' k hk,h.inj,?_,fun b' g' r n f hx ht hm=>by
  by_cases hbb:b' = b
  ·subst hbb
   rw [qkZ hlt] at hx
   cases hx
  ·rw [hset b' hbb] at hx;exact h.tag b' g' r n f hx ht hm⟩,E⟩
 intro b' x hx
 by_cases hbb:b' = b
 ·subst hbb
  rw [qkZ hlt] at hx
  cases hx
  exact hblk
 ·rw [hset b' hbb] at hx
  exact E.blk (roZ ..) (fun k _=>rfl) (fun k g' hk hkg=>hoth g' (fun he=>(by omega:k≠b) (h.inj k b g (he ▸ hkg) hg))) (h.blk b' x hx)
theorem K7 {a b:ByteArray} (h:(ByteArray.toList a==ByteArray.toList b)=true):a=b:=by
 rw [beq_iff_eq,ByteArray.toList_eq,ByteArray.toList_eq] at h
 exact ByteArray.ext (Array.ext' h)
theorem mo {n j:Nat} {f:Nat->Nat->CV} {s:ByteArray} (h:lJ n f s=some j):j<n/\(f j 0).str=s:=by
 unfold lJ at h
 have h1:=List.find?_some h
 have h2:=List.mem_of_find?_eq_some h
 exact ⟨by simpa using h2,K7 h1⟩
theorem vA {n:Nat} {f:Nat->Nat->CV} {s:ByteArray} (h:lJ n f s=none) (i:Nat) (hi:i<n):(f i 0).str≠s:=fun e=>by
 unfold lJ at h
 have:=List.find?_eq_none.1 h i (by simpa using hi)
 exact this (by rw [e];exact beq_self_eq_true _)
theorem NZ {n g:Nat} {f:Nat->Nat->CV} {es:Array MapEntry} (hn:es.size=n) {sb:Nat} (hall:∀ i,i<n->∃ s x,f i 0=.s s/\f i 1=.i .i64 x/\es[i]?=some { key:=.string s,val:=mvV sb x,born:=i }) {kt:TypeId} (hkt:P.underlying kt=some .string) (y:ByteArray)
  (huni:∀ i j s,i<n->j<n->f i 0=.s s->f j 0=.s s->i=j) :
  (lJ n f y=none/\(Instr.findKey kt (.string y) es.toList).run P w=.ok none w)\/∃ j x,lJ n f y=some j/\j<n/\f j 0=.s y/\f j 1=.i .i64 x/\es[j]?=some { key:=.string y,val:=mvV sb x,born:=j }/\(Instr.findKey kt (.string y) es.toList).run P w=.ok (some (j,mvV sb x)) w:=by
 have hks:∀ z∈es.toList,MapKept.IsKey .string z.key:=fun z hz=>by
  obtain ⟨i,hi,e1⟩:=List.getElem_of_mem hz
  obtain ⟨s,x,_,_,e2⟩:=hall i (by simpa [hn] using hi)
  have e3:es[i]?=some z:=by rw [<- Array.getElem?_toList,qgZ hi,e1]
  rw [e3] at e2;cases e2
  trivial
 have hkk:MapKept.IsKey .string (.string y):=trivial
 rcases MapKept.findNow_spec hkk es.toList 0 hks with ⟨e1,e2⟩ | ⟨j,m,e1,e2,e3⟩
 ·left
  refine ⟨?_,MapKept.run_findKey hkt e1⟩
  cases hq:lJ n f y with
  | none=>rfl
  | some j =>
   obtain ⟨hj,hs⟩:=mo hq
   obtain ⟨s,x,q1,q2,q3⟩:=hall j hj
   rw [q1] at hs
   have hs:s=y:=hs
   subst hs
   exact (e2 _ (qrZ (i:=j) (by simpa using q3)) rfl).elim
 ·right
  have hj:es[j]?=some m:=by simpa using e2
  have hjn:j<n:=by rw [<- hn];exact (qqZ.1 hj).1
  obtain ⟨s,x,q1,q2,q3⟩:=hall j hjn
  rw [hj] at q3;cases q3
  have e3:Value.string s=.string y:=e3
  cases e3
  refine ⟨j,x,?_,hjn,q1,q2,hj,by have:=MapKept.run_findKey (P:=P) (w:=w) hkt e1;simpa using this⟩
  cases hq:lJ n f y with
  | none=>exact (vA hq j hjn (by rw [q1];rfl)).elim
  | some j' =>
   obtain ⟨hj',hs⟩:=mo hq
   obtain ⟨s',x',p1,_⟩:=hall j' hj'
   rw [p1] at hs
   have hs:s' = y:=hs
   subst hs
   rw [huni j' j s' hj' hjn p1 q1]
theorem Gt (hm:MR w0 okA μ ok st.heap w) (he:ER df μ ok st.heap w st.env a) (hk:dD df w0 okA a k r fun u w=>next (a.put o.dst u) w)
  {t:TypeId} {x key:Operand} (ho:o.op=(AOp.lookupB t x key).erase) (hP:(AOp.lookupB t x key).okP P=true)
  (h:aj C hb st (.lookupB t x key) k=some r):o.wp P a w next Q:=by
 have hx:=aF he x
 have hy:=aF he key
 simp only [AOp.okP] at hP
 split at hP
 ·rename_i kt et hu
  simp only [qaZ] at hP
  obtain ⟨h1,h3⟩:=hP
  split at h1
  ·rename_i hkt
   split at h3
   ·rename_i i hi
    split at h3
    ·rename_i hz
     simp only [aj] at h
     split at h
     ·rename_i b _ _ y hv1 hv2
      split at h
      ·rename_i n f hq
       rw [hv1] at hx
       rw [hv2] at hy
       obtain ⟨_,hx⟩:=hx
       rw [hq] at hx
       obtain ⟨g,hg,hval⟩:=hx
       have hy:a.eval key=.string y:=hy
       obtain ⟨g',es,hg',hes,hn,_,hall⟩:=hm.blk b _ hq
       rw [hg] at hg';cases hg'
       obtain ⟨hall,huni⟩:=hall (by decide)
       have hkk:MapKept.IsKey .string (.string y):=trivial
       have hzv:(zeroValue et).run P w=.ok (.bool false) w:=by simp [zeroValue,typeInfo,hi,hz]
       rcases NZ (P:=P) (w:=w) (g:=g) hn hall hkt y huni with ⟨e1,e2⟩ | ⟨j,v,e1,e2,e3,e4,e5,e6⟩
       ·have hmg:lX n f y=0:=by unfold lX;rw [e1]
        rw [hmg] at h
        have h:k (.x (.c (.b false))) st=some r:=h
        exact aP hm he hk (u:=.bool false) (v:=.x (.c (.b false)))
         (by simp [execOp,ho,AOp.erase,hval,hy,Instr.lookup,run_underlying hu,MapKept.run_getObj_map hes,MapKept.run_checkKey hkt hkk,e2,hzv]) rfl h
       ·have hmg:lX n f y=v:=by unfold lX;rw [e1];show (f j 1).int=v;rw [e4];rfl
        rw [hmg] at h
        exact aP hm he hk (u:=.bool (v==1)) (v:=.x (.c (.b (v==1))))
         (by simp [execOp,ho,AOp.erase,hval,hy,Instr.lookup,run_underlying hu,MapKept.run_getObj_map hes,MapKept.run_checkKey hkt hkk,e6,mvV]) rfl h
      ·cases h
     ·cases h
    ·cases h3
   ·cases h3
  ·cases h1
 ·cases hP
theorem Gr (hm:MR w0 okA μ ok st.heap w) (he:ER df μ ok st.heap w st.env a) (hk:dD df w0 okA a k r fun u w=>next (a.put o.dst u) w)
  {t:TypeId} {x key:Operand} (ho:o.op=(AOp.mapPutT t x key).erase) (hP:(AOp.mapPutT t x key).okP P=true)
  (h:aj C hb st (.mapPutT t x key) k=some r):o.wp P a w next Q:=by
 have hx:=aF he x
 have hy:=aF he key
 simp only [AOp.okP] at hP
 split at hP
 ·rename_i kt et hu
  split at hP
  ·rename_i hkt
   simp only [aj] at h
   split at h
   ·rename_i b _ _ s hv1 hv2
    split at h
    ·rename_i n f hq
     rw [hv1] at hx
     rw [hv2] at hy
     obtain ⟨_,hx⟩:=hx
     rw [hq] at hx
     obtain ⟨g,hg,hval⟩:=hx
     have hy:a.eval key=.string s:=hy
     obtain ⟨g',es,hg',hes,hn,_,hall⟩:=hm.blk b _ hq
     rw [hg] at hg';cases hg'
     obtain ⟨hall,huni⟩:=hall (by decide)
     have hkk:MapKept.IsKey .string (.string s):=trivial
     have hc:a.eval (.const (.bool true))=.bool true:=rfl
     rcases NZ (P:=P) (w:=w) (g:=g) hn hall hkt s huni with ⟨e1,e2⟩ | ⟨j,u,e1,e2,e3,e4,e5,e6⟩
     ·have hmn:oG n f s=n+1:=by unfold oG;rw [e1]
      have hmr:oF n f s 1=fun i j=>bif Nat.blt i n then f i j else (bif Nat.beq j 0 then .s s else .i .i64 1):=by unfold oF;rw [e1]
      rw [hmn,hmr] at h
      have blt1:∀ i,i<n->Nat.blt i n=true:=fun i hi=>by rw [Nat.blt_eq];exact hi
      have blt2:∀ i,¬ i<n->Nat.blt i n=false:=fun i hi=>by
       cases hb2:Nat.blt i n with
       | false=>rfl
       | true=>rw [Nat.blt_eq] at hb2;exact absurd hb2 hi
      obtain ⟨g1,E⟩:=hm.putM (sb:=2) (es':=es.push { key:=.string s,val:=.bool true,born:=n }) (clock':=n+1) (n':=n+1) (f':=fun i j=>bif Nat.blt i n then f i j else (bif Nat.beq j 0 then .s s else .i .i64 1)) hq hg hes
       ⟨g,_,hg,vw hes _ _,by simp [hn],(fun hh=>absurd hh (by decide)),fun _=>⟨fun i hi=>by
        by_cases hin:i<n
        ·obtain ⟨s',x',q1,q2,q3⟩:=hall i hin
         refine ⟨s',x',by simp only [blt1 i hin];exact q1,by simp only [blt1 i hin];exact q2,?_⟩
         rw [Array.getElem?_push_lt (by omega)]
         rw [Array.getElem?_eq_getElem (by omega)] at q3
         exact q3
        ·have hin2:i=n:=by omega
         refine ⟨s,1,by simp only [blt2 i hin];rfl,by simp only [blt2 i hin];rfl,?_⟩
         have:i=es.size:=by omega
         subst this
         rw [Array.getElem?_push_size,hin2]
         rfl,fun i j s' hi hj h1 h2=>by
        by_cases hin:i<n
        ·by_cases hjn:j<n
         ·simp only [blt1 i hin,blt1 j hjn] at h1 h2
          exact huni i j s' hin hjn h1 h2
         ·simp only [blt1 i hin,blt2 j hjn] at h1 h2
          have h2:CV.s s=.s s':=h2
          cases h2
          exact (vA e1 i hin (by rw [show f i 0=.s s from h1];rfl)).elim
        ·by_cases hjn:j<n
         ·simp only [blt2 i hin,blt1 j hjn] at h1 h2
          have h1:CV.s s=.s s':=h1
          cases h1
          exact (vA e1 j hjn (by rw [show f j 0=.s s from h2];rfl)).elim
         ·omega⟩⟩
      refine lh (w':=putM w g (es.push { key:=.string s,val:=.bool true,born:=n }) (n+1)) ?_ (hk μ ok .undef _ _ _ g1 (he.ext E) rfl h)
      simp [execOp,ho,AOp.erase,hval,hy,hc,Instr.mapUpdate,run_underlying hu,MapKept.run_getObj_map hes,MapKept.run_checkKey hkt hkk,e2,MapKept.run_setObj_map _ hes,putM]
     ·have hmn:oG n f s=n:=by unfold oG;rw [e1]
      have hmr:oF n f s 1=fun i i2=>bif Nat.beq i j&&Nat.beq i2 1 then .i .i64 1 else f i i2:=by unfold oF;rw [e1]
      rw [hmn,hmr] at h
      have keyof:∀ i,(bif Nat.beq i j&&Nat.beq 0 1 then CV.i .i64 1 else f i 0)=f i 0:=fun i=>by cases Nat.beq i j<;>rfl
      obtain ⟨g1,E⟩:=hm.putM (sb:=2) (es':=es.modify j fun e=>{ e with key:=.string s,val:=.bool true }) (clock':=n) (n':=n) (f':=fun i i2=>bif Nat.beq i j&&Nat.beq i2 1 then .i .i64 1 else f i i2) hq hg hes
       ⟨g,_,hg,vw hes _ _,by simp [hn],(fun hh=>absurd hh (by decide)),fun _=>⟨fun i hi=>by
        obtain ⟨s',x',q1,q2,q3⟩:=hall i hi
        by_cases hij:i=j
        ·subst hij
         refine ⟨s,1,(keyof i).trans e3,by show (bif Nat.beq i i&&Nat.beq 1 1 then CV.i .i64 1 else f i 1)=_;rw [Nat.beq_refl];rfl,?_⟩
         rw [Array.getElem?_modify,if_pos rfl,e5]
         rfl
        ·refine ⟨s',x',(keyof i).trans q1,?_,?_⟩
         ·have:Nat.beq i j=false:=by
           cases hb2:Nat.beq i j with
           | false=>rfl
           | true=>exact absurd (qbZ hb2) hij
          show (bif Nat.beq i j&&Nat.beq 1 1 then CV.i .i64 1 else f i 1)=_
          rw [this];exact q2
         ·rw [Array.getElem?_modify,if_neg (fun hh=>hij hh.symm)];exact q3,fun i i2 s' hi hi2 h1 h2=>huni i i2 s' hi hi2 ((keyof i).symm.trans h1) ((keyof i2).symm.trans h2)⟩⟩
      have hstay:(Instr.keyThatStays (.string s) (.string s)).run P w=.ok (.string s) w:=by
       have:Instr.sameBits 10000 (.string s) (.string s)=true:=by
        show Instr.sameBits (9999+1) (.string s) (.string s)=true
        simp only [Instr.sameBits]
        cases s with
        | mk d=>show (d==d)=true;simp
       simp [Instr.keyThatStays,this]
      refine lh (w':=putM w g (es.modify j fun e=>{ e with key:=.string s,val:=.bool true }) n) ?_ (hk μ ok .undef _ _ _ g1 (he.ext E) rfl h)
      simp [execOp,ho,AOp.erase,hval,hy,hc,Instr.mapUpdate,run_underlying hu,MapKept.run_getObj_map hes,MapKept.run_checkKey hkt hkk,e6,e5,hstay,mvV,MapKept.run_setObj_map _ hes,putM]
    ·cases h
   ·cases h
  ·cases hP
 ·cases hP
end
end Go.Eng
