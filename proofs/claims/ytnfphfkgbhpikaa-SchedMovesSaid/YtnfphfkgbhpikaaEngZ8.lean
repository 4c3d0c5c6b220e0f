/-
 Several texts in one.
-/
import Derived.Maps.OwnRows
import Derived.Maps.RangeRun
import Derived.Test.YtnfphfkgbhpikaaEngX0
import Derived.Test.YtnfphfkgbhpikaaEngZ1
set_option linter.all false
/-
 A range over a map of the run's own: its keys collected,in whatever order they come.
-/
namespace Go.Eng
open Go Go.RowKit
open Go.ChangeMaps (setBlock)
def prK:Kd:=.pr (.int .i64) (.pr (.int .i64) .nil)
structure Col (w0:Base) (okA:Nat→Prop) (it gm:Nat) (μ:Nat→Option Nat) (ok:Nat→Prop) (W:World):Prop where
 below:BelowB w0 W
 own:∀ g,rg μ g→w0.w.heap.size≤g∨w0.own g
 oks:∀ g,ok g→okA g∨w0.w.heap.size≤g∨w0.own g
 okk:∀ g,okA g→ok g
 nit:¬ ok it∧¬ rg μ it∧w0.w.heap.size≤it∧it<W.heap.size
 ng:¬ ok gm∧¬ rg μ gm∧gm<W.heap.size
 ne:gm≠it
section
variable {w0 : Base} {okA : Nat → Prop} {W : World} {it gm : Nat} {μ : Nat → Option Nat} {ok : Nat → Prop}
theorem Col.run (h:Col w0 okA it gm μ ok W) {μ' : Nat→Option Nat} {ok' : Nat→Prop} {H:List Blk} {w' : World} (hm:MR ⟨W,rg μ⟩ ok μ' ok' H w') :
  Col w0 okA it gm μ' ok' w'∧w'.heap[it]?=W.heap[it]?∧w'.heap[gm]?=W.heap[gm]?:=by
 have hs:=h.below.size
 have hs' : W.heap.size≤w'.heap.size:=hm.below.size
 have hrg:∀ g,rg μ' g→(W.heap.size≤g∨rg μ g)∧g<w'.heap.size∧¬ ok' g:=fun g ⟨b,hb⟩=>hm.fresh b g hb
 have hok:∀ g,ok' g→g<w'.heap.size∧(ok g∨W.heap.size≤g∨rg μ g):=hm.okd
 have keepB:∀ g,g<W.heap.size→¬ rg μ g→w'.heap[g]?=W.heap[g]?:=fun g h1 h2=>hm.below.block g h1 h2
 have nn:∀ g,¬ ok g→¬ rg μ g→g<W.heap.size→¬ ok' g∧¬ rg μ' g:=fun g h1 h2 h3=>⟨fun k=>by
  rcases (hok g k).2 with q | q | q
  ·exact h1 q
  ·omega
  ·exact h2 q,fun k=>by
  rcases (hrg g k).1 with q | q
  ·omega
  ·exact h2 q⟩
 refine ⟨⟨BelowB.step h.below h.own hm.below,fun g hg=>?_,fun g hg=>?_,fun g hg=>hm.keep g (h.okk g hg),?_,?_,h.ne⟩,keepB it h.nit.2.2.2 h.nit.2.1,keepB gm h.ng.2.2 h.ng.2.1⟩
 ·rcases (hrg g hg).1 with q | q
  ·exact .inl (Nat.le_trans hs q)
  ·exact h.own g q
 ·rcases (hok g hg).2 with q | q | q
  ·exact h.oks g q
  ·exact .inr (.inl (Nat.le_trans hs q))
  ·exact .inr (h.own g q)
 ·exact ⟨(nn it h.nit.1 h.nit.2.1 h.nit.2.2.2).1,(nn it h.nit.1 h.nit.2.1 h.nit.2.2.2).2,h.nit.2.2.1,Nat.lt_of_lt_of_le h.nit.2.2.2 hs'⟩
 ·exact ⟨(nn gm h.ng.1 h.ng.2.1 h.ng.2.2).1,(nn gm h.ng.1 h.ng.2.1 h.ng.2.2).2,Nat.lt_of_lt_of_le h.ng.2.2 hs'⟩
theorem Col.turn (h:Col w0 okA it gm μ ok W) {W' : World} (hos:W'.os=W.os) (ht:W'.tape=W.tape) (ho:W'.output=W.output) (hs:W'.heap.size=W.heap.size) (hd:W.drawn≤W'.drawn)
  (hh:∀ x,x≠it→W'.heap[x]?=W.heap[x]?):Col w0 okA it gm μ ok W':=by
 refine ⟨⟨hos.trans h.below.os,ht.trans h.below.tape,ho.trans h.below.output,by rw [hs];exact h.below.size,fun k hk hn=>?_,fun k hk cur e hc=>?_,Nat.le_trans h.below.drawn hd⟩,h.own,h.oks,h.okk,⟨h.nit.1,h.nit.2.1,h.nit.2.2.1,by rw [hs];exact h.nit.2.2.2⟩,⟨h.ng.1,h.ng.2.1,by rw [hs];exact h.ng.2.2⟩,h.ne⟩
 ·have:=h.nit.2.2.1
  rw [hh k (by omega)];exact h.below.block k hk hn
 ·have hlt:k<w0.w.heap.size:=(Array.getElem?_eq_some_iff.1 hc).1
  have:=h.nit.2.2.1
  obtain ⟨cur',h1,h2⟩:=h.below.lent k hk cur e hc
  exact ⟨cur',by rw [hh k (by omega)];exact h1,h2⟩
theorem Col.same (h:Col w0 okA it gm μ ok W) {W' : World} (hh:∀ x,x≠it→W'.heap[x]?=W.heap[x]?):∀ g,(ok g∨rg μ g)→W'.heap[g]?=W.heap[g]?:=fun g hg =>
 hh g fun e=>by subst e;exact hg.elim h.nit.1 h.nit.2.1
end
def OpIs (ops:Array Oper) (i:Nat) (dst:Option Nat) (op:Op):Prop:=∃ o,ops[i]?=some o∧o.dst=dst∧o.op=op∧o.guard=none
structure CollC (P:Program) (tM tK tS:TypeId) (c:Code):Prop where
 code:∃ i23 ops23 i24 ops24 i25 ops25 i26 ops26,c=.seq (.region i23 ops23 false) (.block 7 (.loop (.seq (.region i24 ops24 false) (.seq (.cond (.tmp 69) .skip (.exit 7)) (.block 8 (.seq (.region i25 ops25 false) (.region i26 ops26 false))))))) ∧
  (ops23.size=2∧OpIs ops23 0 (some 66) (.move (.tmp 4))∧OpIs ops23 1 (some 67) (.range tM (.tmp 66))) ∧
  (ops24.size=2∧OpIs ops24 0 (some 68) (.next (.tmp 67) false)∧OpIs ops24 1 (some 69) (.extract (.tmp 68) 0)) ∧
  (ops25.size=4∧OpIs ops25 0 (some 70) (.entry (.tmp 67))∧OpIs ops25 1 (some 71) (.extract (.tmp 70) 0) ∧
   (∃ o,ops25[2]?=some o∧OpFits P ops25 ⟨some 14,.alloc 0 tK [.c (.i .i64 0),.c (.i .i64 0)],none⟩ o)∧(∃ o,ops25[3]?=some o∧OpFits P ops25 ⟨none,.store tK 2 (.tmp 14) (.tmp 71),none⟩ o)) ∧
  RegFits P ops26 [⟨some 72,.move (.tmp 13),none⟩,⟨some 73,.load tK (some 2) (.tmp 14),none⟩,⟨some 74,.buildSlice 1 tS tK prK 1 [.c (.i .i64 0),.c (.i .i64 0)] [(0,.tmp 73)],none⟩,
   ⟨some 75,.append 0 tS tK prK 16 (.tmp 72) (.tmp 74),none⟩,⟨some 13,.assign (.tmp 75),none⟩]
 map:∃ e,P.underlying tM=some (.map tK e)
def colE (m:Nat):List V:=(List.replicate 79 V.u).set 13 (.x (.own 0 0 m))
def c25 (tK:TypeId):List FOp:=[⟨some 14,.alloc 0 tK [.c (.i .i64 0),.c (.i .i64 0)],none⟩,⟨none,.store tK 2 (.tmp 14) (.tmp 71),none⟩]
def c26 (tK tS:TypeId):List FOp:=[⟨some 72,.move (.tmp 13),none⟩,⟨some 73,.load tK (some 2) (.tmp 14),none⟩,⟨some 74,.buildSlice 1 tS tK prK 1 [.c (.i .i64 0),.c (.i .i64 0)] [(0,.tmp 73)],none⟩,
   ⟨some 75,.append 0 tS tK prK 16 (.tmp 72) (.tmp 74),none⟩,⟨some 13,.assign (.tmp 75),none⟩]
def pV (x y:Int):V:=.agg [.c (.i .i64 x),.c (.i .i64 y)]
def colK:List Nat:=[14,68,69,70,71,72,73,74,75]
def joinP (m:Nat) (g:Nat→Nat→CV) (x y:Int):Nat→Nat→CV:=joinF m g (fun i j=>listF [.i .i64 x,.i .i64 y] (i*2+j))
theorem col_eval26 (C:Oracle) (tK tS:TypeId) (m:Nat) (hm:m+1≤1073741824) (g:Nat→Nat→CV) (x y:Int) :
  evalL C 1 ⟨((colE m).set 71 (pV x y)).set 14 (.x (.ptr 1 0)),[.arr prK m g,.box [.c (.i .i64 x),.c (.i .i64 y)],.rsv]⟩ (c26 tK tS) (fun s=>s.norm colK 1) =
   some ⟨colE (m+1),[.arr prK (m+1) (joinP m g x y)]⟩:=by
 have h:Nat.ble (m+1) 1073741824=true:=by simpa using hm
 have e:evalL C 1 ⟨((colE m).set 71 (pV x y)).set 14 (.x (.ptr 1 0)),[.arr prK m g,.box [.c (.i .i64 x),.c (.i .i64 y)],.rsv]⟩ (c26 tK tS) (fun s=>s.norm colK 1) =
  bif prK.beq prK&&Nat.ble (m+1) 1073741824 then (((((St.drop ⟨((((colE m).set 71 (pV x y)).set 14 (.x (.ptr 1 0))).set 72 (.x (.own 0 0 m))).set 73 (pV x y) |>.set 74 (.x (.own 2 0 1)),[.arr prK m g,.box [.c (.i .i64 x),.c (.i .i64 y)],.arr prK 1 (fun i j=>listF [.i .i64 x,.i .i64 y] (i*2+j))]⟩ 0).setB 0 (.arr prK (m+1) (joinP m g x y))).put 75 (.x (.own 0 0 (m+1)))).put 13 (.x (.own 0 0 (m+1)))).norm colK 1) else none:=rfl
 rw [e,h]
 have e2:(((St.drop ⟨((((colE m).set 71 (pV x y)).set 14 (.x (.ptr 1 0))).set 72 (.x (.own 0 0 m))).set 73 (pV x y) |>.set 74 (.x (.own 2 0 1)),[.arr prK m g,.box [.c (.i .i64 x),.c (.i .i64 y)],.arr prK 1 (fun i j=>listF [.i .i64 x,.i .i64 y] (i*2+j))]⟩ 0).setB 0 (.arr prK (m+1) (joinP m g x y))).put 75 (.x (.own 0 0 (m+1)))).put 13 (.x (.own 0 0 (m+1))) =
  ⟨(((((((colE m).set 71 (pV x y)).set 14 (.x (.ptr 1 0))).set 72 (.x .u)).set 73 (pV x y)).set 74 (.x (.own 2 0 1))).set 75 (.x (.own 0 0 (m+1)))).set 13 (.x (.own 0 0 (m+1))),[.arr prK (m+1) (joinP m g x y),.box [.c (.i .i64 x),.c (.i .i64 y)],.arr prK 1 (fun i j=>listF [.i .i64 x,.i .i64 y] (i*2+j))]⟩:=rfl
 rw [e2]
 have e3:killE ((((((((colE m).set 71 (pV x y)).set 14 (.x (.ptr 1 0))).set 72 (.x .u)).set 73 (pV x y)).set 74 (.x (.own 2 0 1))).set 75 (.x (.own 0 0 (m+1)))).set 13 (.x (.own 0 0 (m+1)))) colK=colE (m+1):=by
  simp only [killE,colK,colE,List.replicate,List.set]
 have hb:prK.beq prK=true:=rfl
 rw [hb]
 simp only [Bool.and_self,cond_true]
 unfold St.norm
 dsimp only
 rw [e3]
 have e4:(colE (m+1)).all (V.below 1)=true:=by
  simp only [colE,List.replicate,List.set,List.all_cons,List.all_nil,V.below,V0.below,Bool.and_true]
  rfl
 rw [e4]
 simp only [List.take_succ_cons,List.take_zero,List.all_cons,List.all_nil,Bool.and_true,Bool.true_and,Blk.below,cond_true]
theorem colE_u (m t:Nat) (ht:t≠13):(colE m).set t .u=colE m:=by
 apply List.ext_getElem?
 intro i
 unfold colE
 rw [List.set_comm _ _ (Ne.symm ht)]
 congr 2
 apply List.ext_getElem?
 intro k
 rw [List.getElem?_set]
 split
 ·rename_i h
  subst h
  simp only [List.length_replicate]
  split
  ·rename_i h;rw [List.getElem?_replicate,if_pos h]
  ·rename_i h;rw [List.getElem?_replicate,if_neg h]
 ·rfl
theorem op_at {P:Program} {ops:Array Oper} {i:Nat} {o:Oper} {fl:Option Nat} {fd:Nat} {Q:Exit→Act→World→Prop} {K:Act→World→Prop} {a:Act} {w w' : World} {u:Value}
  (ho:ops[i]?=some o) (hg:o.guard=none) (hd:∀ c,o.op≠.defer c) (hrun:(execOp a.eval o).run P w=.ok (.value u) w') (hK:K (a.put o.dst u) w'):wpOpIn (wd fl) fd P ops Q i K a w:=by
 unfold wpOpIn
 rw [ho]
 dsimp only
 rw [if_pos (by simp [Region.wanted,hg])]
 exact wp_round hd (wp_value hrun hK)
section
variable {P : Program} {C : Oracle} {w0 : Base} {okA : Nat → Prop} {fd : Nat}
def CI (w0:Base) (okA:Nat→Prop) (it gm n:Nat) (f:Nat→Nat→CV) (es:Array MapEntry) (m:Nat) (a:Act) (w:World):Prop :=
 ∃ μ ok g seen,Col w0 okA it gm μ ok w∧MR ⟨w,rg μ⟩ ok μ ok [.arr prK m g] w∧ER ([],[(67,.pointer (some ⟨it,0,none⟩))]) μ ok [.arr prK m g] w (colE m) a ∧
  w.heap[it]?=some (.mapIter (some gm) n seen n)∧w.heap[gm]?=some (.map es n)∧seen.size=m∧seen.toList.Nodup∧(∀ x,x∈seen.toList→x<n) ∧
  ∀ i,i<m→∀ j,j<2→g i j=f (seen.toList.getD i 0) j
def SetIs (n:Nat) (f:Nat→Nat→CV) (es:Array MapEntry):Prop :=
 es.size=n∧∀ i,i<n→∃ x y,f i 0=.i .i64 x∧f i 1=.i .i64 y∧es[i]?=some { key:=.agg #[.int .i64 x,.int .i64 y],val:=.bool true,born:=i }
theorem SetIs.born {n:Nat} {f:Nat→Nat→CV} {es:Array MapEntry} (h:SetIs n f es) {e:MapEntry} (he:e∈es.toList) :
  ∃ i x y,i<n∧e = { key:=.agg #[.int .i64 x,.int .i64 y],val:=.bool true,born:=i }∧f i 0=.i .i64 x∧f i 1=.i .i64 y:=by
 obtain ⟨i,hi,e1⟩:=List.getElem_of_mem he
 obtain ⟨x,y,q1,q2,q3⟩:=h.2 i (by simpa [h.1] using hi)
 have e3:es[i]?=some e:=by rw [← Array.getElem?_toList,List.getElem?_eq_getElem hi,e1]
 rw [e3] at q3;cases q3
 exact ⟨i,x,y,by simpa [h.1] using hi,rfl,q1,q2⟩
theorem SetIs.nodup {n:Nat} {f:Nat→Nat→CV} {es:Array MapEntry} (h:SetIs n f es):(es.toList.map (·.born)).Nodup:=by
 have:es.toList.map (·.born)=List.range n:=by
  apply List.ext_getElem?
  intro i
  rw [List.getElem?_map]
  by_cases hi:i<n
  ·obtain ⟨x,y,_,_,q3⟩:=h.2 i hi
   rw [Array.getElem?_toList,q3,List.getElem?_range hi];rfl
  ·rw [List.getElem?_eq_none (by simp [h.1];omega),List.getElem?_eq_none (by simp;omega)];rfl
 rw [this]
 exact List.nodup_range
end
end Go.Eng
/-
 A range over a map of the run's own: the loop's theorem.
-/
namespace Go.Eng
open Go Go.RowKit
open Go.ChangeMaps (setBlock)
theorem nodup_lt:∀ {n:Nat} {l:List Nat},l.Nodup→(∀ x,x∈l→x<n)→l.length≤n:=fun {n l} h1 h2=>by
 have:=h1.length_le_of_subset (l₂:=List.range n) fun x hx=>List.mem_range.2 (h2 x hx)
 simpa using this
section
variable {P : Program} {C : Oracle} {w0 : Base} {okA : Nat → Prop} {fd : Nat}
theorem left_none {n:Nat} {f:Nat→Nat→CV} {es:Array MapEntry} {seen:Array Nat} (hset:SetIs n f es) (h:(leftOf es seen).size=0) {i:Nat} (hi:i<n):i∈seen.toList:=by
 obtain ⟨x,y,_,_,q3⟩:=hset.2 i hi
 have he:leftOf es seen=#[]:=Array.eq_empty_of_size_eq_zero h
 unfold leftOf at he
 rw [Array.filter_eq_empty_iff] at he
 have:=he _ (Array.mem_of_getElem? q3)
 simpa using this
theorem coll_round (hC:Sound P C) {tK tS:TypeId} {ops24 ops25 ops26:Array Oper} {i24 i25 i26:Nat} {it gm n m:Nat} {f:Nat→Nat→CV} {es:Array MapEntry} {R:Act→World→Prop} {Q:Exit→Act→World→Prop}
  (hset:SetIs n f es) (hn:n≤1073741824)
  (h24:ops24.size=2∧OpIs ops24 0 (some 68) (.next (.tmp 67) false)∧OpIs ops24 1 (some 69) (.extract (.tmp 68) 0))
  (h25:ops25.size=4∧OpIs ops25 0 (some 70) (.entry (.tmp 67))∧OpIs ops25 1 (some 71) (.extract (.tmp 70) 0) ∧
   (∃ o,ops25[2]?=some o∧OpFits P ops25 ⟨some 14,.alloc 0 tK [.c (.i .i64 0),.c (.i .i64 0)],none⟩ o)∧(∃ o,ops25[3]?=some o∧OpFits P ops25 ⟨none,.store tK 2 (.tmp 14) (.tmp 71),none⟩ o))
  (h26:RegFits P ops26 (c26 tK tS)) {a:Act} {w:World} (hI:CI w0 okA it gm n f es m a w)
  (hQ:m=n→∀ a w,CI w0 okA it gm n f es n a w→Q (.exit 7) a w) (hR:m<n→∀ a w,CI w0 okA it gm n f es (m+1) a w→R a w) :
   (Code.seq (.region i24 ops24 false) (.seq (.cond (.tmp 69) .skip (.exit 7)) (.block 8 (.seq (.region i25 ops25 false) (.region i26 ops26 false))))).wpIn (wd none) fd P (Exit.then R Q) a w:=by
 obtain ⟨μ,ok,g,seen,hcol,hm,he,hit,hgm,hsz,hnd,hlt,hg⟩:=hI
 obtain ⟨hs24,⟨o0,ho0,hd0,hop0,hg0⟩,⟨o1,ho1,hd1,hop1,hg1⟩⟩:=h24
 have hold:∀ x∈es.toList,x.born<n:=fun x hx=>by
  obtain ⟨i,_,_,hi,e,_⟩:=hset.born hx
  rw [e];exact hi
 have hsize:a.tmps.size=79:=by have:=he.size;simpa [colE] using this
 have h67:a.eval (.tmp 67)=.pointer (some ⟨it,0,none⟩):=eval_tmp (he.defers.2 (67,.pointer (some ⟨it,0,none⟩)) (List.mem_singleton.2 rfl))
 refine wpIn_seq (wpIn_region ?_)
 rw [hs24]
 show wpOpsIn _ _ P ops24 _ [0,1] a w
 rw [wpOpsIn_cons]
 rcases run_next_at (P:=P) w o0.type it gm n n seen es n hit hgm hold (Nat.le_refl _) with ⟨hl,hrun⟩ | ⟨e,hel,w1,hw1,hrun⟩
 ·refine op_at ho0 hg0 (fun c=>by rw [hop0];simp) (u:=.tuple #[.bool false]) (w':=w) (by simp [execOp,hop0,h67,hrun,Result.andThen]) ?_
  rw [wpOpsIn_cons,hd0]
  refine op_at ho1 hg1 (fun c=>by rw [hop1];simp) (u:=.bool false) (w':=w) ?_ ?_
  ·have:(a.put (some 68) (.tuple #[.bool false])).eval (.tmp 68)=.tuple #[.bool false]:=eval_tmp (by simp [Act.put,hsize])
   simp [execOp,hop1,this,Instr.extract]
  ·rw [hd1]
   have h69:((a.put (some 68) (.tuple #[.bool false])).put (some 69) (.bool false)).eval (.tmp 69)=.bool false:=eval_tmp (by simp [Act.put,hsize])
   show (Code.seq _ _).wpIn _ _ P _ _ _
   refine wpIn_seq (wpIn_cond_false h69 (wpIn_exit ?_))
   have hall:∀ i,i<n→i∈seen.toList:=fun i hi=>left_none hset hl hi
   have hmn:m=n:=by
    have h1:=nodup_lt hnd hlt
    have h2:=(List.nodup_range (n:=n)).length_le_of_subset (l₂:=seen.toList) (fun x hx=>hall x (by simpa using hx))
    simp only [List.length_range,Array.length_toList] at h1 h2
    omega
   subst hmn
   refine hQ rfl _ _ ⟨μ,ok,g,seen,hcol,hm,?_,hit,hgm,hsz,hnd,hlt,hg⟩
   have:=(he.put (d:=68) (v:=.u) (u:=.tuple #[.bool false]) (fun q hq=>by simp at hq;subst hq;simp) trivial).put (d:=69) (v:=.u) (u:=.bool false) (fun q hq=>by simp at hq;subst hq;simp) trivial
   rwa [colE_u _ _ (by omega),colE_u _ _ (by omega)] at this
 ·have hel2:e∈es.toList:=by
   unfold leftOf at hel
   simp at hel
   exact Array.mem_def.1 hel.1
  have hns:e.born∉seen.toList:=by
   unfold leftOf at hel
   simp at hel
   simpa using hel.2
  obtain ⟨i0,x,y,hi0,he0,hf0,hf1⟩:=hset.born hel2
  obtain ⟨w2,hw2⟩:∃ w2,w2=setBlock w1 it (.mapIter (some gm) n (seen.push e.born) n):=⟨_,rfl⟩
  rw [← hw2] at hrun
  have hw1h:w1.heap=w.heap:=by rcases hw1 with rfl | rfl<;>rfl
  have hitlt:it<w.heap.size:=hcol.nit.2.2.2
  have hw2it:w2.heap[it]?=some (.mapIter (some gm) n (seen.push e.born) n):=by
   rw [hw2];show (w1.heap.setIfInBounds it _)[it]?=_
   rw [hw1h];simp [hitlt]
  have hw2o:∀ z,z≠it→w2.heap[z]?=w.heap[z]?:=fun z hz=>by
   rw [hw2];show (w1.heap.setIfInBounds it _)[z]?=_
   rw [hw1h];simp [Ne.symm hz]
  have hw2s:w2.heap.size=w.heap.size:=by
   rw [hw2];show (w1.heap.setIfInBounds it _).size=_
   rw [hw1h];simp
  have hdr:w.drawn≤w2.drawn:=by
   rw [hw2]
   rcases hw1 with rfl | rfl
   ·exact Nat.le_refl _
   ·exact Nat.le_succ _
  have hcol2:Col w0 okA it gm μ ok w2:=hcol.turn (by rw [hw2];rcases hw1 with rfl | rfl<;>rfl) (by rw [hw2];rcases hw1 with rfl | rfl<;>rfl) (by rw [hw2];rcases hw1 with rfl | rfl<;>rfl) hw2s hdr hw2o
  obtain ⟨hm2,E2⟩:=hm.rebase (hcol.same hw2o) (by rw [hw2s];exact Nat.le_refl _)
  have he2:=he.ext E2
  have hgm2:w2.heap[gm]?=some (.map es n):=by rw [hw2o gm hcol.ne];exact hgm
  have hpin:∀ (d:Nat),d≠67→∀ q,q∈([(67,Value.pointer (some ⟨it,0,none⟩))]:List (Nat × Value))→d≠q.1:=fun d hd q hq=>by simp at hq;subst hq;exact hd
  refine op_at ho0 hg0 (fun c=>by rw [hop0];simp) (u:=.tuple #[.bool true,e.key,e.val]) (w':=w2) (by simp [execOp,hop0,h67,hrun,Result.andThen]) ?_
  rw [wpOpsIn_cons,hd0]
  have he3:=he2.put (d:=68) (v:=.u) (u:=.tuple #[.bool true,e.key,e.val]) (hpin 68 (by omega)) trivial
  refine op_at ho1 hg1 (fun c=>by rw [hop1];simp) (u:=.bool true) (w':=w2) ?_ ?_
  ·have:(a.put (some 68) (.tuple #[.bool true,e.key,e.val])).eval (.tmp 68)=.tuple #[.bool true,e.key,e.val]:=eval_tmp (by simp [Act.put,hsize])
   simp [execOp,hop1,this,Instr.extract]
  rw [hd1]
  have he4:=he3.put (d:=69) (v:=.u) (u:=.bool true) (hpin 69 (by omega)) trivial
  rw [colE_u _ _ (by omega),colE_u _ _ (by omega)] at he4
  obtain ⟨a4,ha4⟩:∃ a4,a4=(a.put (some 68) (.tuple #[.bool true,e.key,e.val])).put (some 69) (.bool true):=⟨_,rfl⟩
  have h69:a4.eval (.tmp 69)=.bool true:=by rw [ha4];exact eval_tmp (by simp [Act.put,hsize])
  rw [← ha4] at he4 ⊢
  show (Code.seq _ _).wpIn _ _ P _ _ _
  refine wpIn_seq (wpIn_cond_true h69 (wpIn_skip ?_))
  show (Code.block 8 _).wpIn _ _ P _ _ _
  refine wpIn_block (wpIn_seq (wpIn_region ?_))
  obtain ⟨hs25,⟨p0,hp0,hpd0,hpop0,hpg0⟩,⟨p1,hp1,hpd1,hpop1,hpg1⟩,⟨p2,hp2,hpf2⟩,⟨p3,hp3,hpf3⟩⟩:=h25
  rw [hs25]
  show wpOpsIn _ _ P ops25 _ [0,1,2,3] a4 w2
  rw [wpOpsIn_cons]
  have h67b:a4.eval (.tmp 67)=.pointer (some ⟨it,0,none⟩):=eval_tmp (he4.defers.2 (67,.pointer (some ⟨it,0,none⟩)) (List.mem_singleton.2 rfl))
  have hsize4:a4.tmps.size=79:=by have:=he4.size;simpa [colE] using this
  have hent:=run_entry_at (P:=P) w2 it gm n seen es n e hw2it hgm2 hel2 hset.nodup
  refine op_at hp0 hpg0 (fun c=>by rw [hpop0];simp) (u:=.tuple #[e.key,e.val]) (w':=w2) (by simp [execOp,hpop0,h67b,hent,Result.andThen]) ?_
  rw [wpOpsIn_cons,hpd0]
  have he5:=he4.put (d:=70) (v:=.u) (u:=.tuple #[e.key,e.val]) (hpin 70 (by omega)) trivial
  refine op_at hp1 hpg1 (fun c=>by rw [hpop1];simp) (u:=e.key) (w':=w2) ?_ ?_
  ·have:(a4.put (some 70) (.tuple #[e.key,e.val])).eval (.tmp 70)=.tuple #[e.key,e.val]:=eval_tmp (by simp [Act.put,hsize4])
   simp [execOp,hpop1,this,Instr.extract]
  rw [wpOpsIn_cons,hpd1]
  have hkey:e.key=.agg #[.int .i64 x,.int .i64 y]:=by rw [he0]
  have he6:=he5.put (d:=71) (v:=pV x y) (u:=e.key) (hpin 71 (by omega)) (by
   rw [hkey]
   refine ⟨_,rfl,rfl,fun t c ht=>?_⟩
   match t with
   | 0=>cases ht;exact ⟨_,rfl,rfl⟩
   | 1=>cases ht;exact ⟨_,rfl,rfl⟩
   | t+2=>simp at ht)
  rw [colE_u _ _ (by omega)] at he6
  obtain ⟨μ3,hm3,E3⟩:=hm2.reserve 2
  have he7:=he6.ext E3
  have hp26:∀ f',f' ∈ c26 tK tS→∀ q,q∈([(67,Value.pointer (some ⟨it,0,none⟩))]:List (Nat × Value))→f'.dst≠some q.1:=by
   intro f' hf' q hq
   simp at hq;subst hq
   simp only [c26,List.mem_cons,List.not_mem_nil,or_false] at hf'
   rcases hf' with rfl | rfl | rfl | rfl | rfl<;>simp
  refine fop_step (C:=C) (hb:=1) (df:=([],[(67,.pointer (some ⟨it,0,none⟩))])) (st:=⟨(colE m).set 71 (pV x y),[.arr prK m g,.rsv,.rsv]⟩) (k:=some) hC hm3 he7 hp2 hpf2 (fun q hq=>by simp at hq;subst hq;simp) (fun μ4 ok4 st4 a5 w4 hm4 he8 hk4=>?_) rfl
  cases hk4
  rw [wpOpsIn_cons]
  refine fop_step (C:=C) (hb:=1) (df:=([],[(67,.pointer (some ⟨it,0,none⟩))])) (k:=some) hC hm4 he8 hp3 hpf3 (fun q hq=>by simp) (fun μ5 ok5 st5 a6 w5 hm5 he9 hk5=>?_) rfl
  cases hk5
  show Code.wpIn _ _ P _ _ _ _
  have hmlt:m<n:=by
   have:=nodup_lt (l:=e.born :: seen.toList) (n:=n) (List.nodup_cons.2 ⟨hns,hnd⟩) (fun z hz=>by
    rcases List.mem_cons.1 hz with rfl | hz
    ·exact hold _ hel2
    ·exact hlt z hz)
   simp [hsz] at this
   omega
  refine region_sound (C:=C) (hb:=1) (df:=([],[(67,.pointer (some ⟨it,0,none⟩))])) (k:=fun s=>s.norm colK 1) hC h26 hp26 hm5 he9 (fun μ6 ok6 st6 a7 w6 hm6 he10 hk6=>?_) (col_eval26 C tK tS m (by omega) g x y)
  obtain ⟨μ7,hm7,he11⟩:=norm_sound hm6 he10 hk6
  obtain ⟨hcol7,hit7,hgm7⟩:=hcol2.run hm7
  obtain ⟨hm8,E8⟩:=hm7.rebase (w':=w6) (fun _ _=>rfl) (Nat.le_refl _)
  refine hR hmlt _ _ ⟨μ7,ok6,_,seen.push e.born,hcol7,hm8,he11,hit7.trans hw2it,hgm7.trans hgm2,by simp [hsz],?_,?_,?_⟩
  ·rw [Array.toList_push]
   refine List.nodup_append.2 ⟨hnd,by simp,fun z hz z' hz'=>?_⟩
   simp only [List.mem_singleton] at hz'
   subst hz'
   exact fun hh=>hns (hh ▸ hz)
  ·intro z hz
   rw [Array.toList_push,List.mem_append] at hz
   rcases hz with hz | hz
   ·exact hlt z hz
   ·simp only [List.mem_singleton] at hz
    subst hz;exact hold _ hel2
  ·intro i hi j hj
   have hbe:e.born=i0:=by rw [he0]
   unfold joinP joinF
   by_cases him:i<m
   ·have hb1:Nat.blt i m=true:=by simpa using him
    rw [hb1]
    show g i j=_
    rw [hg i him j hj,Array.toList_push,List.getD_eq_getElem?_getD,List.getD_eq_getElem?_getD,List.getElem?_append_left (by simpa [hsz] using him)]
   ·have him2:i=m:=by omega
    have hb1:Nat.blt i m=false:=by
     cases hb2:Nat.blt i m with
     | false=>rfl
     | true=>exact absurd (by simpa using hb2) him
    rw [hb1]
    show listF _ ((i-m)*2+j)=_
    rw [him2,Nat.sub_self,Array.toList_push,List.getD_eq_getElem?_getD,List.getElem?_append_right (by simp [hsz])]
    simp only [Array.length_toList,hsz,Nat.sub_self,List.getElem?_cons_zero,Option.getD_some,hbe]
    match j,hj with
    | 0,_=>rw [hf0];rfl
    | 1,_=>rw [hf1];rfl
theorem CollC.sound (hC:Sound P C) {tM tK tS:TypeId} {c:Code} (hc:CollC P tM tK tS c) {μ:Nat→Option Nat} {ok:Nat→Prop} {st:St} {a:Act} {w:World} {Q:Exit→Act→World→Prop} {b o l n:Nat} {f:Nat→Nat→CV} {r:Kd} {f' : Nat→Nat→CV}
  (hm:MR w0 okA μ ok st.heap w) (he:ER ([],[]) μ ok st.heap w st.env a) (hlen:st.env.length=79) (h4:st.env.getD 4 .u=.x (.own b o l)) (hb:st.heap[b]?=some (.set false n f)) (h13:st.env.getD 13 .u=.x (.c (.ro true r 0 f')))
  (hn:n≤1073741824) (hQ:∀ it gm es a w,SetIs n f es→CI w0 okA it gm n f es n a w→Q .normal a w):c.wpIn (wd none) fd P Q a w:=by
 obtain ⟨⟨i23,ops23,i24,ops24,i25,ops25,i26,ops26,rfl,⟨hs23,⟨o0,ho0,hd0,hop0,hg0⟩,⟨o1,ho1,hd1,hop1,hg1⟩⟩,h24,h25,h26⟩,⟨e,hmt⟩⟩:=hc
 have hget:∀ (t:Nat) (v:V),st.env.getD t .u=v→v≠.u→∃ u,a.tmps[t]?=some u∧VR μ ok w st.heap v u:=fun t v ht hv=>by
  rw [List.getD_eq_getElem?_getD] at ht
  cases hq:st.env[t]? with
  | none=>rw [hq] at ht;exact absurd ht.symm hv
  | some x=>rw [hq] at ht;simp only [Option.getD_some] at ht;subst ht;exact he.env t _ hq
 obtain ⟨u4,hu4,hr4⟩:=hget 4 _ h4 (by simp)
 obtain ⟨u13,hu13,hr13⟩:=hget 13 _ h13 (by simp)
 obtain ⟨_,hr4⟩:=hr4
 rw [hb] at hr4
 obtain ⟨gm,hgm,rfl⟩:=hr4
 obtain ⟨gm',es,hgm',hes,hen,hall⟩:=hm.blk b _ hb
 rw [hgm] at hgm';cases hgm'
 have hset:SetIs n f es:=⟨hen,hall.1 rfl⟩
 obtain ⟨ad,cap,rfl,hc1,hc2,hc3,_⟩:=hr13
 have hcap:=hc3 rfl
 subst hcap
 have hsize:a.tmps.size=79:=by rw [he.size];exact hlen
 have h4e:a.eval (.tmp 4)=.map (some gm):=eval_tmp hu4
 have hfr:=hm.fresh b gm hgm
 refine wpIn_seq (wpIn_region ?_)
 rw [hs23]
 show wpOpsIn _ _ P ops23 _ [0,1] a w
 rw [wpOpsIn_cons]
 refine op_at ho0 hg0 (fun c=>by rw [hop0];simp) (u:=.map (some gm)) (w':=w) (by simp [execOp,hop0,h4e]) ?_
 rw [wpOpsIn_cons,hd0]
 have h66:(a.put (some 66) (.map (some gm))).eval (.tmp 66)=.map (some gm):=eval_tmp (by simp [Act.put,hsize])
 refine op_at ho1 hg1 (fun c=>by rw [hop1];simp) (u:=.pointer (some ⟨w.heap.size,0,none⟩)) (w':=w.alloc (.mapIter (some gm) n #[] n)) ?_ ?_
 ·simp [execOp,hop1,h66,Instr.range,run_underlying hmt,MapKept.run_getObj_map hes]
 rw [hd1]
 show Code.wpIn _ _ P _ _ _ _
 refine wpIn_block (wpIn_loop_rounds (n+1) ?_)
 have hold:∀ k,k<w.heap.size→(w.alloc (.mapIter (some gm) n #[] n)).heap[k]?=w.heap[k]?:=fun k hk=>Below.heap_alloc w _ k hk
 have hnew:(w.alloc (.mapIter (some gm) n #[] n)).heap[w.heap.size]?=some (.mapIter (some gm) n #[] n):=heap_alloc_new w _
 have hI:CI w0 okA w.heap.size gm n f es 0 ((a.put (some 66) (.map (some gm))).put (some 67) (.pointer (some ⟨w.heap.size,0,none⟩))) (w.alloc (.mapIter (some gm) n #[] n)):=by
  refine ⟨fun _=>none,ok,fun _ _=>.any,#[],⟨hm.below.trans (below_alloc hm _),fun g ⟨b,hb⟩=>(by cases hb),fun g hg=>(hm.okd g hg).2,hm.keep,⟨fun k=>?_,fun ⟨b,hb⟩=>(by cases hb),hm.below.size,by simp⟩,⟨hfr.2.2,fun ⟨b,hb⟩=>(by cases hb),by have:=hfr.2.1;simp;omega⟩,by have:=hfr.2.1;omega⟩,?_,?_,hnew,by rw [hold gm hfr.2.1];exact hes,rfl,by simp,by simp,by omega⟩
  ·have:=(hm.okd _ k).1;omega
  ·refine ⟨BelowB.refl _ _,fun g hg=>⟨by have:=(hm.okd g hg).1;simp;omega,.inl hg⟩,fun g hg=>hg,(fun b g hg=>by cases hg),(fun b b' g hg=>by cases hg),fun b o hb=>?_,(fun b g r n f hb _ hg=>by cases hg)⟩
   match b with
   | 0=>cases hb;exact ⟨by decide,.inl ⟨rfl,rfl⟩⟩
   | b+1=>simp at hb
  ·refine ⟨by simp [Act.put,hsize,colE],fun t v ht=>?_,⟨?_,fun q hq=>?_⟩,?_⟩
   ·have htl:t<79:=by have:=(List.getElem?_eq_some_iff.1 ht).1;simpa [colE] using this
    have hsz2:((a.put (some 66) (.map (some gm))).put (some 67) (.pointer (some ⟨w.heap.size,0,none⟩))).tmps.size=79:=by simp [Act.put,hsize]
    by_cases h:t=13
    ·subst h
     cases ht
     exact ⟨.slice ad 0 0,by simp only [Act.put];rw [Array.getElem?_setIfInBounds_ne (by omega),Array.getElem?_setIfInBounds_ne (by omega)];exact hu13,rfl,Nat.le_refl _,ad,0,rfl,Nat.le_refl _,by simp [maxLen],.inl ⟨rfl,rfl⟩⟩
    ·unfold colE at ht
     rw [List.getElem?_set_ne (Ne.symm h),List.getElem?_replicate,if_pos htl] at ht
     cases ht
     exact ⟨_,Array.getElem?_eq_getElem (by rw [hsz2];exact htl),trivial⟩
   ·simpa [Act.put] using he.defers.1
   ·simp only [List.mem_singleton] at hq
    subst hq
    simp [Act.put,hsize]
   ·exact he.glob.mono fun g hg=>⟨hg,hold g (hm.okd g hg).1⟩
 have main:∀ (j m:Nat) (a:Act) (w' : World),m+j=n→CI w0 okA w.heap.size gm n f es m a w' →
   Code.roundsIn (wd none) fd P (.seq (.region i24 ops24 false) (.seq (.cond (.tmp 69) .skip (.exit 7)) (.block 8 (.seq (.region i25 ops25 false) (.region i26 ops26 false))))) (Exit.inBlock 7 Q) (j+1) a w':=by
  intro j
  induction j with
  | zero =>
   intro m a w' hj hI
   rw [roundsIn_succ]
   exact coll_round hC hset hn h24 h25 h26 hI (fun _ a w hI=>by show (if (7:Nat)=7 then Q .normal a w else Q (.exit 7) a w);rw [if_pos rfl];exact hQ _ _ _ _ _ hset hI) (fun hlt=>by omega)
  | succ j ih =>
   intro m a w' hj hI
   rw [roundsIn_succ]
   exact coll_round hC hset hn h24 h25 h26 hI (fun hh=>by omega) (fun hlt a w hI=>ih (m+1) a w (by omega) hI)
 exact main n 0 _ _ (by omega) hI
end
end Go.Eng
/-
 A function that collects the keys of a map of its own.
-/
namespace Go.Eng
open Go Go.RowKit
def noRet:AC→Bool
 | .ret _=>false
 | .seq a _ b=>noRet a&&noRet b
 | .cond _ a b=>noRet a&&noRet b
 | .block _ a=>noRet a
 | .loop _ _ a=>noRet a
 | .ghost _ a=>noRet a
 | .scope a=>noRet a
 | .round ..=>false
 | .back ..=>false
 | _=>true
theorem loopN_congr {ρ:Type} {f:St→(Ex→St→Option ρ)→Option ρ} {nrm:St→Option St} (hf:∀ st k k',(∀ e st,e≠.ret→k e st=k' e st)→f st k=f st k') :
  ∀ (n:Nat) (st:St) (k k' : Ex→St→Option ρ),(∀ e st,e≠.ret→k e st=k' e st)→loopN f nrm n st k=loopN f nrm n st k'
 | 0,_,_,_,_=>rfl
 | n+1,st,k,k',h=>by
  unfold loopN
  cases nrm st with
  | none=>rfl
  | some st =>
   refine hf st _ _ fun e st he=>?_
   cases e with
   | normal=>exact loopN_congr hf n st k k' h
   | exit i=>exact h _ _ (by simp)
   | ret=>exact (he rfl).elim
theorem evalC_calm {ρ:Type} {C:Oracle} {fuel:Nat}:∀ (ac:AC),noRet ac=true→∀ (st:St) (k k' : Ex→St→Option ρ),(∀ e st,e≠.ret→k e st=k' e st)→evalC C fuel ac st k=evalC C fuel ac st k':=by
 intro ac
 induction ac with
 | skip=>intro _ st k k' h;exact h _ _ (by simp)
 | ret ks=>intro hc;cases hc
 | round=>intro hc;cases hc
 | back=>intro hc;cases hc
 | exit id ks=>intro _ st k k' h;exact h _ _ (by simp)
 | label l=>intro _ st k k' h;exact h _ _ (by simp)
 | scope x ih=>intro hc st k k' h;exact ih hc st k k' h
 | ghost l x ih=>intro hc st k k' h;exact ih hc _ k k' h
 | region id ops na draw =>
  intro _ st k k' h
  have:k .normal=k' .normal:=funext fun st=>h _ _ (by simp)
  unfold evalC
  rw [this]
 | seq a ks b iha ihb =>
  intro hc st k k' h
  unfold noRet at hc
  rw [Bool.and_eq_true] at hc
  unfold evalC
  refine iha hc.1 st _ _ fun e st he=>?_
  cases e with
  | normal=>exact ihb hc.2 _ k k' h
  | exit i=>exact h _ _ (by simp)
  | ret=>exact (he rfl).elim
 | cond c a b iha ihb =>
  intro hc st k k' h
  unfold noRet at hc
  rw [Bool.and_eq_true] at hc
  unfold evalC
  split
  ·split
   ·rw [iha hc.1 _ k k' h,ihb hc.2 _ k k' h]
   ·rfl
  ·rw [iha hc.1 _ k k' h,ihb hc.2 _ k k' h]
  ·rfl
 | block id a ih =>
  intro hc st k k' h
  unfold evalC
  refine ih hc st _ _ fun e st he=>?_
  cases e with
  | normal=>exact h _ _ (by simp)
  | exit i=>dsimp only;rw [h .normal _ (by simp),h (.exit i) _ (by simp)]
  | ret=>exact (he rfl).elim
 | loop hints kill a ih =>
  intro hc st k k' h
  unfold evalC
  exact loopN_congr (fun st k k' h=>ih hc st k k' h) _ _ _ _ h
inductive MFits (P:Program) (tM tK tS:TypeId) (post:AC):AC→Code→Prop
 | here {l:Nat} {c cp:Code}:CollC P tM tK tS c→Fits P post cp→MFits P tM tK tS post (.label l) (.seq c cp)
 | right {x y:AC} {ks:List Nat} {cx cy:Code}:noRet x=true→Fits P x cx→MFits P tM tK tS post y cy→MFits P tM tK tS post (.seq x ks y) (.seq cx cy)
def Shuf (n:Nat) (f g:Nat→Nat→CV):Prop:=∃ σ:List Nat,σ.Perm (List.range n)∧∀ i,i<n→∀ j,j<2→g i j=f (σ.getD i 0) j
theorem set_res {st:St} {fl:Bool} {n:Nat} {f:Nat→Nat→CV} (h:resA st (.set 4 13 79)=some (.v (.ro fl prK n f))) :
  ∃ b o l' f',st.env.getD 4 .u=.x (.own b o l')∧st.heap[b]?=some (.set false n f')∧∃ r f'',st.env.getD 13 .u=.x (.c (.ro true r 0 f''))∧st.env.length=79∧f' = f:=by
 have h:(match resV st (.set 4 13 79) with | some v=>snapA st.heap v | none=>none)=some (A.v (.ro fl prK n f)):=h
 split at h
 ·rename_i v hv
  simp only [resV] at hv
  split at hv
  ·rename_i b o l' h4
   split at hv
   ·rename_i n' f' hb
    split at hv
    ·rename_i r n0 f'' h13
     obtain ⟨hc1,hv⟩:=bif_some hv
     rw [Bool.and_eq_true] at hc1
     cases hv
     have h0:=Nat.eq_of_beq_eq_true hc1.1
     subst h0
     have:(some (A.v (.ro false (.pr (.int .i64) (.pr (.int .i64) .nil)) n' f')):Option A)=some (.v (.ro fl prK n f)):=h
     cases this
     exact ⟨b,o,l',f,h4,hb,r,f'',h13,Nat.eq_of_beq_eq_true hc1.2,rfl⟩
    ·cases hv
   ·cases hv
  ·cases hv
 ·cases h
section
variable {P : Program} {C : Oracle} {w0 : Base} {okA : Nat → Prop} {fuel d : Nat}
theorem evalM_sound (hmix:P.follows .mixedOrders=true) (hC:Sound P C) {tM tK tS:TypeId} {post:AC} {ac:AC} {c:Code} (hf:MFits P tM tK tS post ac c) {N:Nat} {fb:AC} {res:List ARes} {okR:List A→Prop} {Q:Exit→Act→World→Prop} {fl:Bool} {n:Nat} {f:Nat→Nat→CV}
  (hn:n≤1073741824) (hpost:∀ g,Shuf n f g→∃ rs,okR rs∧evalC C fuel post ⟨colE n,[.arr prK n g]⟩ (finish ⟨79,res,post⟩)=some rs)
  (hQ:∀ rs it gm μ ok W pin e μ' ok' st a w,okR rs→Col w0 okA it gm μ ok W→MR ⟨W,rg μ⟩ ok μ' ok' st.heap w→ER ([],pin) μ' ok' st.heap w st.env a→finish ⟨79,res,post⟩ e st=some rs→Q (toExit e) a w) :
  ∀ {μ:Nat→Option Nat} {ok:Nat→Prop} {st:St} {a:Act} {w:World},MR w0 okA μ ok st.heap w→ER ([],[]) μ ok st.heap w st.env a →
   evalC C fuel ac st (finish ⟨N,[.set 4 13 79],fb⟩)=some [.v (.ro fl prK n f)]→c.wpIn (wd none) d P Q a w:=by
 induction hf with
 | @here l c cp hc hp =>
  intro μ ok st a w hm he h
  have h:allSome ([resA st (.set 4 13 79)])=some [.v (.ro fl prK n f)]:=h
  obtain ⟨b,o,l',f',h4,hb,r,f'',h13,hlen,hff⟩:∃ b o l' f',st.env.getD 4 .u=.x (.own b o l')∧st.heap[b]?=some (.set false n f')∧∃ r f'',st.env.getD 13 .u=.x (.c (.ro true r 0 f''))∧st.env.length=79∧f' = f:=by
   cases hq:resA st (.set 4 13 79) with
   | none=>rw [hq] at h;cases h
   | some z =>
    rw [hq] at h
    have h:(some [z]:Option (List A))=some [.v (.ro fl prK n f)]:=h
    cases h
    exact set_res hq
  subst hff
  refine wpIn_seq (hc.sound hC hm he hlen h4 hb h13 hn fun it gm es a w hset hI=>?_)
  obtain ⟨μ2,ok2,g,seen,hcol,hm2,he2,hit,hgm,hsz,hnd,hlt,hg⟩:=hI
  have hsh:Shuf n f' g:=⟨seen.toList,(List.perm_ext_iff_of_nodup hnd List.nodup_range).2 fun i=>⟨fun hi=>List.mem_range.2 (hlt i hi),fun hi=>by
   by_cases hmem:i∈seen.toList
   ·exact hmem
   ·exfalso
    have:=nodup_lt (l:=i :: seen.toList) (n:=n) (List.nodup_cons.2 ⟨hmem,hnd⟩) (fun z hz=>by
     rcases List.mem_cons.1 hz with rfl | hz
     ·exact List.mem_range.1 hi
     ·exact hlt z hz)
    simp [hsz] at this
    omega⟩,hg⟩
  have he3:ER ([],[]) μ2 ok2 [.arr prK n g] w (colE n) a:=⟨he2.size,he2.env,⟨he2.defers.1,fun q hq=>by cases hq⟩,he2.glob⟩
  obtain ⟨rs,hok1,hrs⟩:=hpost g hsh
  exact evalC_round (fl:=none) (st:=⟨colE n,[.arr prK n g]⟩) hmix hC fuel post cp hp hm2 he3 (fun e μ' ok' st a w hm he hk=>hQ rs it gm μ2 ok2 _ [] e μ' ok' st a w hok1 hcol hm he hk) (.inl rfl) (offP_nil post) hrs
 | @right x y ks cx cy hr hx hy ih =>
  intro μ ok st a w hm he h
  unfold evalC at h
  rw [evalC_calm x hr _ _ (fun e st=>match e with
   | .normal=>evalC C fuel y (st.kill ks) (finish ⟨N,[.set 4 13 79],fb⟩)
   | _=>none) (fun e st he=>by
    cases e with
    | normal=>rfl
    | exit i=>rfl
    | ret=>exact (he rfl).elim)] at h
  refine wpIn_seq (evalC_round (fl:=none) hmix hC fuel x cx hx hm he (fun e μ ok st a w hm he hk=>?_) (.inl rfl) (offP_nil x) h)
  cases e with
  | normal=>exact ih (st:=st.kill ks) hm (he.kill ks) hk
  | exit i=>cases hk
  | ret=>cases hk
structure FFitsM (P:Program) (tM tK tS:TypeId) (f:FuncId) (F:AF) (post:AC) (res:List ARes):Prop where
 ok:callOk P f=true
 fn:∃ fn c,P.funcs[f]?=some fn∧fn.body=some c∧fn.ntmps=F.n∧resOks P res fn.results.toList=true∧MFits P tM tK tS post F.body c
theorem evalFM_sound (hmix:P.follows .mixedOrders=true) (hC:Sound P C) {tM tK tS:TypeId} {f:FuncId} {F:AF} {post:AC} {res:List ARes} {fb:AC} {N:Nat} (hF:FFitsM P tM tK tS f F post res) (hFe:F=⟨N,[.set 4 13 79],fb⟩) {args rs:List A} {fl:Bool} {n:Nat} {g:Nat→Nat→CV}
  (h:evalF C fuel F args=some [.v (.ro fl prK n g)]) (hn:n≤1073741824) (hpost:∀ g',Shuf n g g'→∃ rs',WkL rs' rs∧evalC C fuel post ⟨colE n,[.arr prK n g']⟩ (finish ⟨79,res,post⟩)=some rs'):Den P f args rs:=by
 refine ⟨hF.ok,fun w okA vs hok hgl hargs=>?_⟩
 obtain ⟨fn,c,hfn,hbody,hN,hres,hfits⟩:=hF.fn
 refine (callsIn_wide (n:=0)).1 (callsIn_of_wp_marks hfn hbody trivial ?_)
 unfold evalF at h
 have hm:MR ⟨w,fun _=>False⟩ okA (fun _=>none) okA ([]:List Blk) w:=MR.init hok
 have he:ER ([],[]) (fun _=>none) okA ([]:List Blk) w (args.map A.toV ++ List.replicate (F.n-args.length) .undef) { tmps:=vs ++ Array.replicate (fn.ntmps-vs.size) undef,defers:=[] }:=by
  refine ⟨by simp [hargs.1,hN],fun t v ht=>?_,⟨rfl,fun _ h=>by cases h⟩,hgl⟩
  by_cases hlt:t<args.length
  ·rw [List.getElem?_append_left (by simpa using hlt),List.getElem?_map] at ht
   cases hq:args[t]? with
   | none=>rw [hq] at ht;cases ht
   | some x =>
    rw [hq] at ht;cases ht
    obtain ⟨u,hu,hr⟩:=hargs.2 t x hq
    refine ⟨u,?_,hr.toV_sound⟩
    rw [Array.getElem?_append_left (by rw [hargs.1];exact hlt)];exact hu
  ·rw [List.getElem?_append_right (by simp;omega),List.getElem?_replicate] at ht
   split at ht
   ·rename_i hl
    cases ht
    refine ⟨undef,?_,rfl⟩
    rw [Array.getElem?_append_right (by rw [hargs.1];omega),Array.getElem?_replicate]
    simp only [List.length_map] at hl
    rw [if_pos (by rw [hargs.1,hN];exact hl)]
   ·cases ht
 have hrun:∀ {rs:List A} {w0:Base} {okA:Nat→Prop} {df:DF} {μ:Nat→Option Nat} {ok:Nat→Prop} {st:St} {a:Act} {w' : World},MR w0 okA μ ok st.heap w'→ER df μ ok st.heap w' st.env a→allSome (res.map (resA st))=some rs →
   ∃ v,(results fn a.tmps).run P w' = .ok v w'∧ResR (fun g=>g<w'.heap.size∧(okA g∨w0.w.heap.size≤g∨w0.own g)) w' rs v:=by
  intro rs w0 okA df μ ok st a w' hm he hk
  obtain ⟨us,h1,h2,h3⟩:=resL_run (P:=P) hm he hres hk
  have hrun:(fn.results.mapM (resSem a.tmps)).run P w' = .ok us.toArray w':=by
   rw [Array.mapM_eq_mapM_toList,map_eq_pure_bind,Sem.run_bind,h1]
   rfl
  have hrw:results fn a.tmps=(do
    let vs ← fn.results.mapM (resSem a.tmps)
    pure (if h:vs.size=1 then vs[0] else .tuple vs)):=by
   unfold results
   have:(fun | .tmp t=>pure (a.tmps.getD t undef) | .cell x t=>do loadVar t (← asAddr (a.tmps.getD x undef)):ResultVar→Sem Value)=resSem a.tmps:=by funext v;cases v<;>rfl
   rw [← this]
   rfl
  refine ⟨if h:us.toArray.size=1 then us.toArray[0] else .tuple us.toArray,?_,resR_of h2 h3⟩
  rw [hrw,Sem.run_bind,hrun]
  rfl
 subst hFe
 refine evalM_sound (d:=0) (st:=⟨_,[]⟩) (okR:=fun rs'=>WkL rs' rs) (res:=res) hmix hC hfits hn hpost (fun rs' it gm μ ok W pin e μ' ok' st a w' hwk hcol hm he hk=>?_) hm he h
 obtain ⟨hcol2,_⟩:=hcol.run hm
 have main:allSome (res.map (resA st))=some rs'→LeavesInM (wd none) 0 P fn a.tmps (fun e w'=>∃ v ok',e=.returned v∧Below w.heap.size w w'∧(∀ g,ok' g→g<w'.heap.size∧(okA g∨w.heap.size≤g))∧(∀ g,okA g→ok' g)∧ResR ok' w' rs v) a.defers .returning w':=by
  intro hk
  obtain ⟨v,h1,h2⟩:=hrun hm he hk
  rw [he.defers.1]
  refine ⟨v,h1,v,_,rfl,Below.of_base hcol2.below,fun g hg=>⟨hg.1,?_⟩,fun g hg=>⟨(hm.okd g (hm.keep g (hcol.okk g hg))).1,.inl (hcol.okk g hg)⟩,AR.resTransfer hwk h2⟩
  rcases hg.2 with q | q | q
  ·exact (hcol.oks g q).imp id fun h=>h.elim id False.elim
  ·exact .inr (Nat.le_trans hcol.below.size q)
  ·exact .inr ((hcol.own g q).elim id False.elim)
 cases e with
 | exit id=>cases hk
 | normal=>exact main hk
 | ret=>exact main hk
end
end Go.Eng
/-
 A map from strings to their places in a list,as it comes together.
-/
namespace Go.Eng
open Go Go.RowKit
def blkOf (x:MapEntry):Nat:=match x.val with | .slice (some a) _ _=>a.block | _=>0
structure Grp (te:TypeId) (m:Nat) (f:Nat→Nat→CV) (es:Array MapEntry) (W:World):Prop where
 keys:∀ (i:Nat) x,es[i]?=some x→∃ s,x.key=.string s
 inj:∀ (i i' : Nat) x x',es[i]?=some x→es[i']?=some x'→x.key=x'.key→i=i'
 apart:∀ (i i' : Nat) x x',es[i]?=some x→es[i']?=some x'→i≠i'→blkOf x≠blkOf x'
 grp:∀ s:ByteArray,(idxN m f s=0∧∀ (i:Nat) x,es[i]?=some x→x.key≠.string s) ∨
  ∃ (j:Nat) (x:MapEntry) (cap:Nat) (cur:Array Value),es[j]?=some x∧x.key=.string s∧x.val=.slice (some ⟨blkOf x,0,none⟩) (idxN m f s) cap∧idxN m f s≤cap∧cap≤maxLen ∧
   W.heap[blkOf x]?=some (.cells cur te (0,0))∧cur.size=cap∧∀ i,i<idxN m f s→cur[i]?=some (.int .i64 (Int.ofNat ((idxL m f s).getD i 0)))
theorem bytes_toList {a b:ByteArray}:(ByteArray.toList a==ByteArray.toList b)=true↔a=b:=by
 constructor
 ·intro h
  have h:ByteArray.toList a=ByteArray.toList b:=by simpa using h
  rw [ByteArray.toList_eq,ByteArray.toList_eq] at h
  exact ByteArray.ext (Array.ext' h)
 ·rintro rfl;simp
theorem idxL_succ (m:Nat) (f:Nat→Nat→CV) (y s:ByteArray) (hy:f m 0=.s y):idxL (m+1) f s=if y=s then idxL m f s ++ [m] else idxL m f s:=by
 unfold idxL
 rw [List.range_succ,List.filter_append]
 have:CV.str (f m 0)=y:=by rw [hy];rfl
 by_cases h:y=s
 ·rw [if_pos h,List.filter_cons_of_pos (by rw [this];exact bytes_toList.2 h)];rfl
 ·rw [if_neg h,List.filter_cons_of_neg (by rw [this];exact fun hh=>h (bytes_toList.1 hh))];simp
theorem Grp.put {te:TypeId} {m:Nat} {f:Nat→Nat→CV} {es es' : Array MapEntry} {W W' : World} (h:Grp te m f es W) {y:ByteArray} (hy:f m 0=.s y) {j:Nat} {new:MapEntry} {gN nc:Nat} {cur:Array Value}
  (hj:es'[j]?=some new) (hkey:new.key=.string y) (hval:new.val=.slice (some ⟨gN,0,none⟩) (idxN m f y+1) nc) (hle:idxN m f y+1≤nc) (hmax:nc≤maxLen)
  (hcur:W'.heap[gN]?=some (.cells cur te (0,0))) (hsz:cur.size=nc) (hold:∀ i,i<idxN m f y→cur[i]?=some (.int .i64 (Int.ofNat ((idxL m f y).getD i 0)))) (hlast:cur[idxN m f y]?=some (.int .i64 (Int.ofNat m)))
  (hoth:∀ (i:Nat),i≠j→es'[i]?=es[i]?) (hwas:∀ x,es[j]?=some x→x.key=.string y) (hno:∀ (i:Nat) x,i≠j→es[i]?=some x→x.key≠.string y)
  (hfar:∀ (i:Nat) x,i≠j→es[i]?=some x→blkOf x≠gN∧W'.heap[blkOf x]?=W.heap[blkOf x]?):Grp te (m+1) f es' W':=by
 have hb:blkOf new=gN:=by unfold blkOf;rw [hval]
 refine ⟨fun i x hx=>?_,fun i i' x x' hx hx' hk=>?_,fun i i' x x' hx hx' hne=>?_,fun s=>?_⟩
 ·by_cases hij:i=j
  ·subst hij;rw [hj] at hx;cases hx;exact ⟨y,hkey⟩
  ·rw [hoth i hij] at hx;exact h.keys i x hx
 ·by_cases hij:i=j
  ·subst hij;rw [hj] at hx;cases hx
   by_cases hij' : i' = i
   ·exact hij'.symm
   ·rw [hoth i' hij'] at hx'
    exact absurd (hk.symm.trans hkey) (hno i' x' hij' hx')
  ·rw [hoth i hij] at hx
   by_cases hij' : i' = j
   ·subst hij';rw [hj] at hx';cases hx'
    exact absurd (hk.trans hkey) (hno i x hij hx)
   ·rw [hoth i' hij'] at hx'
    exact h.inj i i' x x' hx hx' hk
 ·by_cases hij:i=j
  ·subst hij;rw [hj] at hx;cases hx
   rw [hoth i' (Ne.symm hne)] at hx'
   rw [hb]
   exact Ne.symm (hfar i' x' (Ne.symm hne) hx').1
  ·rw [hoth i hij] at hx
   by_cases hij' : i' = j
   ·subst hij';rw [hj] at hx';cases hx'
    rw [hb]
    exact (hfar i x hij hx).1
   ·rw [hoth i' hij'] at hx'
    exact h.apart i i' x x' hx hx' hne
 ·by_cases hs:y=s
  ·subst hs
   have hl:idxL (m+1) f y=idxL m f y ++ [m]:=by rw [idxL_succ m f y y hy,if_pos rfl]
   have hn:idxN (m+1) f y=idxN m f y+1:=by unfold idxN;rw [hl];simp
   refine .inr ⟨j,new,nc,cur,hj,hkey,by rw [hb,hn];exact hval,by rw [hn];exact hle,hmax,by rw [hb];exact hcur,hsz,fun i hi=>?_⟩
   rw [hn] at hi
   rw [hl]
   by_cases hi2:i<idxN m f y
   ·rw [hold i hi2,List.getD_eq_getElem?_getD,List.getD_eq_getElem?_getD,List.getElem?_append_left hi2]
   ·have:i=idxN m f y:=by omega
    subst this
    have hx:(idxL m f y ++ [m])[idxN m f y]?=some m:=by
     unfold idxN
     rw [List.getElem?_append_right (Nat.le_refl _)]
     simp
    rw [hlast,List.getD_eq_getElem?_getD,hx];rfl
  ·have hl:idxL (m+1) f s=idxL m f s:=by rw [idxL_succ m f y s hy,if_neg hs]
   have hn:idxN (m+1) f s=idxN m f s:=by unfold idxN;rw [hl]
   have hsk:(Value.string y)≠.string s:=fun hh=>hs (by cases hh;rfl)
   rcases h.grp s with ⟨q1,q2⟩ | ⟨i,x,cap,cu,q1,q2,q3,q4,q5,q6,q7,q8⟩
   ·refine .inl ⟨by rw [hn];exact q1,fun i x hx=>?_⟩
    by_cases hij:i=j
    ·subst hij;rw [hj] at hx;cases hx
     rw [hkey];exact hsk
    ·rw [hoth i hij] at hx;exact q2 i x hx
   ·have hij:i≠j:=fun hh=>by
     subst hh
     have:=hwas x q1
     rw [this] at q2
     exact hsk q2
    exact .inr ⟨i,x,cap,cu,by rw [hoth i hij];exact q1,q2,by rw [hn];exact q3,by rw [hn];exact q4,q5,by rw [(hfar i x hij q1).2];exact q6,q7,fun t ht=>by rw [hn] at ht;rw [hl];exact q8 t ht⟩
theorem Grp.closed {te:TypeId} {n:Nat} {f:Nat→Nat→CV} {es:Array MapEntry} {W:World} (h:Grp te n f es W) {ok:Nat→Prop} {gm clock:Nat} (hgm:W.heap[gm]?=some (.map es clock)) (hok:ok gm) (hoks:∀ (i:Nat) x,es[i]?=some x→ok (blkOf x)) :
  CR ok W (.mp n f) (.map (some gm)):=by
 have hmem:∀ x,x∈es.toList→∃ i:Nat,es[i]?=some x:=fun x hx=>by
  obtain ⟨i,hi,e1⟩:=List.getElem_of_mem hx
  exact ⟨i,by rw [← Array.getElem?_toList,List.getElem?_eq_getElem hi,e1]⟩
 refine ⟨gm,es,clock,rfl,hok,hgm,fun x hx=>?_,fun s=>?_⟩
 ·obtain ⟨i,hi⟩:=hmem x hx
  exact h.keys i x hi
 ·rcases h.grp s with ⟨q1,q2⟩ | ⟨i,x,cap,cu,q1,q2,q3,q4,q5,q6,q7,q8⟩
  ·refine .inl ⟨q1,fun x hx=>?_⟩
   obtain ⟨i,hi⟩:=hmem x hx
   exact q2 i x hi
  ·refine .inr ⟨x,some ⟨blkOf x,0,none⟩,cap,List.mem_of_getElem? (i:=i) (by simpa using q1),q2,fun z hz hk=>?_,q3,q4,q5,.inr ⟨blkOf x,0,rfl,hoks i x q1,fun t ht=>?_⟩⟩
   ·obtain ⟨i',hi'⟩:=hmem z hz
    have:=h.inj i' i z x hi' q1 (hk.trans q2.symm)
    subst this
    rw [hi'] at q1;cases q1;rfl
   ·rw [Nat.zero_add]
    unfold World.cell?
    simp only [q6]
    exact q8 t ht
end Go.Eng
/-
 A map from strings to their places in a list: one more string entered.
-/
namespace Go.Eng
open Go Go.RowKit
def RowAt (te:TypeId) (W:World) (base:Nat) (v:Value) (n:Nat) (L:Nat→Value):Prop :=
 (n=0∧v=.slice none 0 0)∨∃ g cap cur,v=.slice (some ⟨g,0,none⟩) n cap∧n≤cap∧cap≤maxLen∧base<g∧g<W.heap.size∧W.heap[g]?=some (.cells cur te (0,0))∧cur.size=cap∧∀ i,i<n→cur[i]?=some (L i)
structure Grown (W w1:World) (gN:Nat):Prop where
 os:w1.os=W.os
 tape:w1.tape=W.tape
 output:w1.output=W.output
 size:W.heap.size≤w1.heap.size
 drawn:W.drawn≤w1.drawn
 old:∀ k,k<W.heap.size→k≠gN→w1.heap[k]?=W.heap[k]?
section
variable {P : Program} {W : World}
theorem app_one {t ty e:TypeId} {i:TypeInfo} {z:Value} (ht:P.underlying t=some (.slice e)) (hi:P.info? e=some i) (hz:i.zero=some z) (hsize:i.size=1) (hby:i.bytes=8) (hzs:z.cells.size=1)
  {base n:Nat} {v x:Value} {L:Nat→Value} (h:RowAt e W base v n L) (hbase:base<W.heap.size) (hn:n≤1073741824) {a:Addr} {c:Nat} (hx:W.cell? a=some x) (hx1:x.oneCell' = true) :
  ∃ v' w1 gN nc cur',(Builtin.append_ #[t,t] ty #[v,.slice (some a) 1 c]).run P W=.ok v' w1∧v' = .slice (some ⟨gN,0,none⟩) (n+1) nc∧n+1≤nc∧nc≤maxLen∧base<gN ∧
   w1.heap[gN]?=some (.cells cur' e (0,0))∧cur'.size=nc∧(∀ i,i<n→cur'[i]?=some (L i))∧cur'[n]?=some x ∧
   (gN=W.heap.size∨∃ cap,v=.slice (some ⟨gN,0,none⟩) n cap)∧Grown W w1 gN:=by
 have hnews:∀ j u,([x]:List Value)[j]?=some u→W.cell? (a.add j)=some u:=fun j u hj=>by
  match j,hj with
  | 0,hj=>simp at hj;subst hj;simpa [Addr.add] using hx
 have hml:maxLen=9223372036854775807:=rfl
 rcases h with ⟨rfl,rfl⟩ | ⟨g,cap,cur,rfl,hnc,hcm,hbg,hgs,hg,hcs,hL⟩
 ·have hr:=run_append_nil (P:=P) W t ty e i z ht hi hz a 1 c [x] (by simp [hsize]) hnews (by omega) (by omega) (by omega)
  have hge:=grownCap_ge W 1 0 e
  have hle:grownCap W 1 0 e≤maxLen:=grownCap_le_maxLen W 1 0 e (by omega)
  refine ⟨_,_,W.heap.size,grownCap W 1 0 e,([x].toArray ++ Builtin.zeroCells z.cells (grownCap W 1 0 e-1)),hr,rfl,hge,hle,hbase,heap_alloc_new W.drew _,?_,fun i hi=>by omega,?_,.inl rfl,⟨rfl,rfl,rfl,by simp,by show W.drawn≤W.drawn+1;omega,fun k hk _=>heap_alloc_old W.drew _ hk⟩⟩
  ·simp [size_zeroCells,hzs];omega
  ·rw [Array.getElem?_append_left (by simp)];rfl
 ·by_cases hroom:n+1≤cap
  ·have hr:=run_append_room (P:=P) W t ty e i ht hi g n cap cur hg a 1 c [x] (by simp [hsize]) hnews (by simpa using hx1) hroom (by simp [hsize];omega)
   rw [hsize,Nat.mul_one] at hr
   have hlen:(cur.toList.take n ++ [x] ++ cur.toList.drop (n+[x].length)).length=cap:=by simp;omega
   refine ⟨_,_,g,cap,_,hr,rfl,hroom,hcm,hbg,setRow_heap W g cur _ e _ hg,by simpa using hlen,fun i hi=>?_,?_,.inr ⟨cap,rfl⟩,⟨rfl,rfl,rfl,by simp,Nat.le_refl _,fun k hk hne=>setRow_other W g k _ hne⟩⟩
   ·rw [List.getElem?_toArray,List.append_assoc,List.getElem?_append_left (by simp;omega),List.getElem?_take,if_pos hi,Array.getElem?_toList]
    exact hL i hi
   ·rw [List.getElem?_toArray,List.append_assoc,List.getElem?_append_right (by simp;omega)]
    simp
    rw [show n-min n cur.size=0 by omega]
    rfl
  ·have hcn:cap=n:=by omega
   have hold:∀ j u,(cur.toList.take n)[j]?=some u→W.cell? ((⟨g,0,none⟩:Addr).add j)=some u:=fun j u hj=>by
    rw [List.getElem?_take] at hj
    split at hj
    ·have e1:(⟨g,0,none⟩:Addr).add j=⟨g,j,none⟩:=by simp [Addr.add_lit]
     rw [e1]
     unfold World.cell?
     simp only [hg]
     simpa using hj
    ·cases hj
   have hr:=run_append_grow (P:=P) W t ty e i z ht hi hz ⟨g,0,none⟩ n cap (cur.toList.take n) (by simp [hsize];omega) hold a 1 c [x] (by simp [hsize]) hnews (by omega) (by omega) (growslice_fits (by omega) (by rw [hby];omega))
   have hge:=grownCap_ge W (n+1) cap e
   have hle:grownCap W (n+1) cap e≤maxLen:=grownCap_le_maxLen W (n+1) cap e (by omega)
   refine ⟨_,_,W.heap.size,grownCap W (n+1) cap e,_,hr,rfl,hge,hle,hbase,heap_alloc_new W.drew _,?_,fun i hi=>?_,?_,.inl rfl,⟨rfl,rfl,rfl,by simp,by show W.drawn≤W.drawn+1;omega,fun k hk _=>heap_alloc_old W.drew _ hk⟩⟩
   ·simp [size_zeroCells,hzs];omega
   ·rw [Array.getElem?_append_left (by simp;omega),Array.getElem?_append_left (by simp;omega),List.getElem?_toArray,List.getElem?_take,if_pos hi,Array.getElem?_toList]
    exact hL i hi
   ·rw [Array.getElem?_append_left (by simp;omega),Array.getElem?_append_right (by simp;omega)]
    simp
    rw [show n-min n cur.size=0 by omega]
    rfl
end
structure NI (te:TypeId) (w:World) (gm k:Nat) (f:Nat→Nat→CV) (W:World):Prop where
 bel:Below w.heap.size w W
 ge:w.heap.size≤gm
 ex:∃ es clock,W.heap[gm]?=some (.map es clock)∧Grp te k f es W∧∀ (i:Nat) x,es[i]?=some x→gm<blkOf x∧blkOf x<W.heap.size
section
variable {P : Program} {w W : World} {gm k : Nat} {f : Nat → Nat → CV}
theorem idxN_le (m:Nat) (f:Nat→Nat→CV) (s:ByteArray):idxN m f s≤m:=by
 unfold idxN idxL
 exact Nat.le_trans (List.length_filter_le _ _) (by simp)
theorem NI.made {te:TypeId}:NI te w w.heap.size 0 f (w.alloc (.map #[] 0)):=by
 refine ⟨(Below.refl _ w).alloc (Nat.le_refl _) _,Nat.le_refl _,#[],0,heap_alloc_new w _,⟨fun i x hx=>by simp at hx,fun i i' x x' hx=>by simp at hx,fun i i' x x' hx=>by simp at hx,fun s=>.inl ⟨by simp [idxN,idxL],fun i x hx=>by simp at hx⟩⟩,fun i x hx=>by simp at hx⟩
theorem NI.step {tM kt tS tI ty:TypeId} {i iS:TypeInfo} {z:Value} (hu:P.underlying tM=some (.map kt tS)) (hkt:P.underlying kt=some .string) (hiS:P.info? tS=some iS) (hzS:iS.zero=some (.slice none 0 0))
  (ht:P.underlying tS=some (.slice tI)) (hi:P.info? tI=some i) (hz:i.zero=some z) (hsize:i.size=1) (hby:i.bytes=8) (hzs:z.cells.size=1)
  (h:NI tI w gm k f W) (hk:k<1073741824) {y:ByteArray} (hy:f k 0=.s y) :
  ∃ v,(Instr.lookup tM (.map (some gm)) (.string y) false).run P W=.ok v W∧∀ e1,
   ∃ v' w1,(Builtin.append_ #[tS,tS] ty #[v,.slice (some ⟨W.heap.size,0,none⟩) 1 1]).run P (W.alloc (.cells #[.int .i64 (Int.ofNat k)] e1))=.ok v' w1 ∧
   ∃ w2,(Instr.mapUpdate tM (.map (some gm)) (.string y) v').run P w1=.ok () w2∧NI tI w gm (k+1) f w2:=by
 obtain ⟨hbel,hge,es,clock,hes,hgrp,hblk⟩:=h
 have hgm:gm<W.heap.size:=(Array.getElem?_eq_some_iff.1 hes).1
 have hmem:∀ x,x∈es.toList→∃ j:Nat,es[j]?=some x:=fun x hx=>by
  obtain ⟨j,hj,e1⟩:=List.getElem_of_mem hx
  exact ⟨j,by rw [← Array.getElem?_toList,List.getElem?_eq_getElem hj,e1]⟩
 have hks:∀ z∈es.toList,MapKept.IsKey .string z.key:=fun z hz=>by
  obtain ⟨j,hj⟩:=hmem z hz
  obtain ⟨s,hs⟩:=hgrp.keys j z hj
  rw [hs];trivial
 have hkk:MapKept.IsKey .string (.string y):=trivial
 have hzv:(zeroValue tS).run P W=.ok (.slice none 0 0) W:=by simp [zeroValue,typeInfo,hiS,hzS]
 -- the slice that is there
 have hlook:∃ v,(Instr.lookup tM (.map (some gm)) (.string y) false).run P W=.ok v W∧RowAt tI W gm v (idxN k f y) (fun t=>.int .i64 (Int.ofNat ((idxL k f y).getD t 0))) ∧
   ((Instr.findNow .string (.string y) es.toList 0=some none∧(∀ (j:Nat) x,es[j]?=some x→x.key≠.string y)∧v=.slice none 0 0) ∨
    ∃ (j:Nat) (m:MapEntry),Instr.findNow .string (.string y) es.toList 0=some (some (j,m.val))∧es[j]?=some m∧m.key=.string y∧v=m.val∧∃ cap,v=.slice (some ⟨blkOf m,0,none⟩) (idxN k f y) cap):=by
  rcases MapKept.findNow_spec hkk es.toList 0 hks with ⟨e1,e2⟩ | ⟨j,m,e1,e2,e3⟩
  ·rcases hgrp.grp y with ⟨q1,q2⟩ | ⟨j,x,cap,cu,q1,q2,q3,q4,q5,q6,q7,q8⟩
   ·refine ⟨.slice none 0 0,?_,.inl ⟨q1,rfl⟩,.inl ⟨e1,q2,rfl⟩⟩
    simp [Instr.lookup,run_underlying hu,MapKept.run_getObj_map hes,MapKept.run_checkKey hkt hkk,MapKept.run_findKey hkt e1,hzv]
   ·exact absurd q2 (e2 x (List.mem_of_getElem? (i:=j) (by simpa using q1)))
  ·have e2:es[j]?=some m:=by simpa using e2
   rcases hgrp.grp y with ⟨q1,q2⟩ | ⟨j',x,cap,cu,q1,q2,q3,q4,q5,q6,q7,q8⟩
   ·exact absurd e3 (q2 j m e2)
   ·have:j' = j:=hgrp.inj j' j x m q1 e2 (q2.trans e3.symm)
    subst this
    rw [e2] at q1;cases q1
    refine ⟨m.val,?_,.inr ⟨blkOf m,cap,cu,q3,q4,q5,(hblk j' m e2).1,(hblk j' m e2).2,q6,q7,q8⟩,.inr ⟨j',m,by simpa using e1,e2,e3,rfl,cap,q3⟩⟩
    simp [Instr.lookup,run_underlying hu,MapKept.run_getObj_map hes,MapKept.run_checkKey hkt hkk,MapKept.run_findKey hkt e1]
 obtain ⟨v,hrun,hrow,hcase⟩:=hlook
 refine ⟨v,hrun,fun e1=>?_⟩
 have hold:∀ q,q<W.heap.size→(W.alloc (.cells #[.int .i64 (Int.ofNat k)] e1)).heap[q]?=W.heap[q]?:=fun q hq=>heap_alloc_old W _ hq
 have hsz:(W.alloc (.cells #[.int .i64 (Int.ofNat k)] e1)).heap.size=W.heap.size+1:=by simp
 have hrow' : RowAt tI (W.alloc (.cells #[.int .i64 (Int.ofNat k)] e1)) gm v (idxN k f y) (fun t=>.int .i64 (Int.ofNat ((idxL k f y).getD t 0))):=by
  rcases hrow with h1 | ⟨g,cap,cur,h1,h2,h3,h4,h5,h6,h7,h8⟩
  ·exact .inl h1
  ·exact .inr ⟨g,cap,cur,h1,h2,h3,h4,by omega,by rw [hold g h5];exact h6,h7,h8⟩
 have hcell:(W.alloc (.cells #[.int .i64 (Int.ofNat k)] e1)).cell? ⟨W.heap.size,0,none⟩=some (.int .i64 (Int.ofNat k)):=by
  unfold World.cell?
  simp only [heap_alloc_new W _]
  rfl
 have hnk:=idxN_le k f y
 obtain ⟨v',w1,gN,nc,cur',hr,hv',hle,hmax,hbg,hcur,hcsz,holdL,hlast,hwhere,hgrown⟩:=app_one (P:=P) (ty:=ty) ht hi hz hsize hby hzs hrow' (by omega) (by omega) hcell rfl
 refine ⟨v',w1,hr,?_⟩
 have hesW1:w1.heap[gm]?=some (.map es clock):=by
  rw [hgrown.old gm (by omega) (by omega),hold gm hgm];exact hes
 have hgNlt:gN<w1.heap.size:=(Array.getElem?_eq_some_iff.1 hcur).1
 have hoth1:∀ q,q<W.heap.size→q≠gN→w1.heap[q]?=W.heap[q]?:=fun q hq hne=>(hgrown.old q (by omega) hne).trans (hold q hq)
 have hwhere' : gN=W.heap.size+1∨∃ cap,v=.slice (some ⟨gN,0,none⟩) (idxN k f y) cap:=by rw [← hsz];exact hwhere
 have hbel1:∀ (es' : Array MapEntry) (cl:Nat),Below w.heap.size w (putM w1 gm es' cl):=fun es' cl=>by
  obtain ⟨⟨b1,b2,b3,b4,b5⟩,b6⟩:=hbel
  refine ⟨⟨hgrown.os.trans b1,hgrown.tape.trans b2,hgrown.output.trans b3,?_,fun q hq=>?_⟩,Nat.le_trans b6 hgrown.drawn⟩
  ·rw [putM_size]
   exact Nat.le_trans (Nat.le_trans b4 (by omega)) hgrown.size
  ·rw [putM_other hesW1 _ _ q (by omega),hoth1 q (by omega) (by omega)]
   exact b5 q hq
 -- entries beside the new one lie elsewhere,and are as they were
 rcases hcase with ⟨e1',hno,hvn⟩ | ⟨j,m,e1',hj,hkey,hvm,cap,hvc⟩
 ·have hgN:gN=W.heap.size+1:=by
   rcases hwhere' with h | ⟨cap,h⟩
   ·exact h
   ·rw [hvn] at h;cases h
  refine ⟨putM w1 gm (es.push { key:=.string y,val:=v',born:=clock }) (clock+1),?_,hbel1 _ _,hge,_,_,putM_same hesW1 _ _,?_,fun i' x hx=>?_⟩
  ·simp [Instr.mapUpdate,run_underlying hu,MapKept.run_getObj_map hesW1,MapKept.run_checkKey hkt hkk,MapKept.run_findKey hkt e1',MapKept.run_setObj_map _ hesW1,putM]
  ·refine hgrp.put (j:=es.size) (new:={ key:=.string y,val:=v',born:=clock }) hy (by simp) rfl hv' hle hmax (by rw [putM_other hesW1 _ _ gN (by omega)];exact hcur) hcsz holdL hlast (fun i' hne=>?_) (fun x hx=>by simp at hx) (fun i' x _ hx=>hno i' x hx) (fun i' x _ hx=>?_)
   ·rw [Array.getElem?_push,if_neg hne]
   ·have hb:=hblk i' x hx
    exact ⟨by omega,by rw [putM_other hesW1 _ _ _ (by omega)];exact hoth1 _ hb.2 (by omega)⟩
  ·rw [putM_size]
   have hsz1:=hgrown.size
   rw [Array.getElem?_push] at hx
   split at hx
   ·cases hx
    have:blkOf ({ key:=.string y,val:=v',born:=clock }:MapEntry)=gN:=by unfold blkOf;rw [hv']
    rw [this];exact ⟨hbg,hgNlt⟩
   ·have hb:=hblk i' x hx
    exact ⟨hb.1,by omega⟩
 ·have hgN:gN=W.heap.size+1∨gN=blkOf m:=by
   rcases hwhere' with h | ⟨cap',h⟩
   ·exact .inl h
   ·rw [hvc] at h;cases h;exact .inr rfl
  have hjlt:j<es.size:=(Array.getElem?_eq_some_iff.1 hj).1
  have hmod:∀ i' : Nat,i'≠j→(es.modify j fun e=>{ e with key:=.string y,val:=v' })[i']?=es[i']?:=fun i' hne=>by
   rw [Array.getElem?_modify,if_neg (Ne.symm hne)]
  have hmodj:(es.modify j fun e=>{ e with key:=.string y,val:=v' })[j]?=some { m with key:=.string y,val:=v' }:=by
   rw [Array.getElem?_modify,if_pos rfl,hj];rfl
  refine ⟨putM w1 gm (es.modify j fun e=>{ e with key:=.string y,val:=v' }) clock,?_,hbel1 _ _,hge,_,_,putM_same hesW1 _ _,?_,fun i' x hx=>?_⟩
  ·have hst:(Instr.keyThatStays (.string y) (.string y)).run P w1=.ok (.string y) w1:=by
    have:Instr.sameBits 10000 (.string y) (.string y)=true:=by
     show Instr.sameBits (9999+1) (.string y) (.string y)=true
     simp [Instr.sameBits,(MapKept.bytes_beq y y).2 rfl]
    simp [Instr.keyThatStays,this]
   simp [Instr.mapUpdate,run_underlying hu,MapKept.run_getObj_map hesW1,MapKept.run_checkKey hkt hkk,MapKept.run_findKey hkt e1',MapKept.run_setObj_map _ hesW1,putM,hj,hkey,hst]
  ·refine hgrp.put (j:=j) (new:={ m with key:=.string y,val:=v' }) hy hmodj rfl hv' hle hmax (by rw [putM_other hesW1 _ _ gN (by omega)];exact hcur) hcsz holdL hlast hmod (fun x hx=>by rw [hj] at hx;cases hx;exact hkey) (fun i' x hne hx=>fun hk'=>hne (hgrp.inj i' j x m hx hj (hk'.trans hkey.symm))) (fun i' x hne hx=>?_)
   have hb:=hblk i' x hx
   have hap:=hgrp.apart i' j x m hx hj hne
   have hbn:blkOf x≠gN:=by rcases hgN with h | h<;>omega
   exact ⟨hbn,by rw [putM_other hesW1 _ _ _ (by omega)];exact hoth1 _ hb.2 hbn⟩
  ·rw [putM_size]
   have hsz1:=hgrown.size
   by_cases hij:i' = j
   ·subst hij
    rw [hmodj] at hx;cases hx
    have:blkOf ({ m with key:=.string y,val:=v' }:MapEntry)=gN:=by unfold blkOf;rw [hv']
    rw [this];exact ⟨hbg,hgNlt⟩
   ·rw [hmod i' hij] at hx
    have hb:=hblk i' x hx
    exact ⟨hb.1,by omega⟩
theorem NI.closed {te:TypeId} (h:NI te w gm k f W):CR (fun g=>w.heap.size≤g∧g<W.heap.size) W (.mp k f) (.map (some gm)):=by
 obtain ⟨hbel,hge,es,clock,hes,hgrp,hblk⟩:=h
 have hgm:gm<W.heap.size:=(Array.getElem?_eq_some_iff.1 hes).1
 exact hgrp.closed hes ⟨hge,hgm⟩ fun i x hx=>⟨by have:=(hblk i x hx).1;omega,(hblk i x hx).2⟩
end
end Go.Eng
/-
 A map from strings to their places in a list: its operations in a walk.
-/
namespace Go.Eng
open Go Go.RowKit
section
variable {P : Program} {w w' : World} {ops : Array Oper} {rest : List Oper} {o : Oper} {a : Act} {Q : Exit → Act → World → Prop}
theorem wpList_lookup_at (hg:o.guard=none) (t:TypeId) (m x:Operand) (hop:o.op=.lookup t m x false) (mv kv v:Value) (hm:a.eval m=mv) (hx:a.eval x=kv)
  (hrun:(Instr.lookup t mv kv false).run P w=.ok v w) (h:wpList P ops Q rest (a.put o.dst v) w):wpList P ops Q (o :: rest) a w:=by
 refine wpList_plain hg fun K hK=>?_
 unfold Oper.wp execOp
 simp only [hop,hm,hx,Sem.run_bind,Sem.run_pure,hrun,Result.andThen_ok]
 exact hK _ _ h
theorem wpList_append_at (hg:o.guard=none) (t:TypeId) (s x:Operand) (hop:o.op=.call { callee:=.builtin .append,args:=#[s,x],argTypes:=#[t,t] }) (sv xv v:Value) (hs:a.eval s=sv) (hx:a.eval x=xv)
  (hrun:(Builtin.append_ #[t,t] o.type #[sv,xv]).run P w=.ok v w') (h:wpList P ops Q rest (a.put o.dst v) w'):wpList P ops Q (o :: rest) a w:=by
 refine wpList_plain hg fun K hK=>?_
 unfold Oper.wp execOp
 simp only [hop,resolve,invoke,builtin,Sem.run_bind,Sem.run_pure,Result.andThen_ok,List.map_toArray,List.map_cons,List.map_nil,hs,hx,hrun]
 exact hK _ _ h
theorem wpList_update_at (hg:o.guard=none) (t:TypeId) (m x y:Operand) (hop:o.op=.mapUpdate t m x y) (mv kv v:Value) (hm:a.eval m=mv) (hx:a.eval x=kv) (hy:a.eval y=v)
  (hrun:(Instr.mapUpdate t mv kv v).run P w=.ok () w') (h:wpList P ops Q rest (a.put o.dst undef) w'):wpList P ops Q (o :: rest) a w:=by
 refine wpList_plain hg fun K hK=>?_
 unfold Oper.wp execOp
 simp only [hop,hm,hx,hy,Sem.run_bind,Sem.run_pure,hrun,Result.andThen_ok]
 exact hK _ _ h
end
theorem callOk_num {P : Program} {f : FuncId} {fn : Func} {c : Code} (hfn : P.funcs[f]? = some fn) (hname : (fn.name != "runtime.NumGoroutine") = true) (hbody : fn.body = some c) : callOk P f = true := by
 unfold callOk
 rw [hfn]
 simp only [hbody,hname,Option.isSome_some,Bool.and_self]
def strK:Kd:=.pr .str .nil
theorem numbers_den {P:Program} {fid tI:FuncId} (hok:callOk P fid=true)
  (hnone:∀ (a:Option Addr) (cap:Nat) (w:World),Calls P fid #[.slice a 0 cap] w fun e w'=>e=.returned (.map (some w.heap.size))∧∀ f,NI tI w w.heap.size 0 f w')
  (hany:∀ (b off n cap:Nat) (f:Nat→Nat→CV) (w:World),n≤1073741824→b<w.heap.size→(∀ j,j<n→∃ s,f j 0=.s s∧w.cell? ⟨b,off+j,none⟩=some (.string s)) →
   Calls P fid #[.slice (some ⟨b,off,none⟩) n cap] w fun e w'=>e=.returned (.map (some w.heap.size))∧NI tI w w.heap.size n f w')
  (fl:Bool) (n:Nat) (f:Nat→Nat→CV) (hn:n≤1073741824):Den P fid [.v (.ro fl strK n f)] [.v (.mp n f)]:=by
 refine ⟨hok,fun w okA vs hokA _ hargs=>?_⟩
 obtain ⟨hs,hv⟩:=hargs
 obtain ⟨u,hu,a,cap,hval,_,_,_,hcells⟩:=hv 0 _ rfl
 subst hval
 have hvs:vs=#[.slice a n cap]:=by
  apply Array.ext_getElem?
  intro i
  match i with
  | 0=>exact hu
  | i+1 =>
   have:vs.size=1:=hs
   rw [Array.getElem?_eq_none (by omega)];rfl
 subst hvs
 have fin:∀ (e:Ending) (w' : World),e=.returned (.map (some w.heap.size))→NI tI w w.heap.size n f w' →
   ∃ v ok',e=Ending.returned v∧Below w.heap.size w w'∧(∀ g,ok' g→g<w'.heap.size∧(okA g∨w.heap.size≤g))∧(∀ g,okA g→ok' g)∧ResR ok' w' [.v (.mp n f)] v:=fun e w' he hni=>by
  refine ⟨_,fun g=>g<w'.heap.size∧(okA g∨w.heap.size≤g),he,hni.bel,fun g hg=>hg,fun g hg=>⟨Nat.lt_of_lt_of_le (hokA g hg) hni.bel.size,.inl hg⟩,?_⟩
  exact CR.mono (fun g hg=>⟨⟨hg.2,.inr hg.1⟩,rfl⟩) hni.closed
 rcases hcells with h0 | ⟨g,off,ha,hg,hc⟩
 ·subst h0
  exact (hnone a cap w).mono fun e w' ⟨h1,h2⟩=>fin e w' h1 (h2 f)
 ·subst ha
  refine (hany g off n cap f w hn (hokA g hg) fun j hj=>?_).mono fun e w' ⟨h1,h2⟩=>fin e w' h1 h2
  obtain ⟨⟨s,hs⟩,u,hu,hr⟩:=hc j 0 hj (by decide)
  rw [hs] at hr
  have hr:u=.string s:=hr
  subst hr
  exact ⟨s,hs,by simpa [strK,Kd.len] using hu⟩
end Go.Eng
/-
 A function that collects the keys of a map of its own and sorts them: what is looked at,and how the printed texts speak of it.
-/
namespace Go.Eng
open Go Go.RowKit
def shColl (tM tK tS:TypeId):Sh :=
 .two (.reg [(some 66,.move (.tmp 4)),(some 67,.range tM (.tmp 66))]) (.one (.one (.two (.reg [(some 68,.next (.tmp 67) false),(some 69,.extract (.tmp 68) 0)]) (.two (.two .leaf .leaf) (.one (.two
  (.reg [(some 70,.entry (.tmp 67)),(some 71,.extract (.tmp 70) 0),(some 14,.alloc tK),(none,.store tK (.tmp 14) (.tmp 71))]) (.reg ((c26 tK tS).map fun f=>(f.dst,f.op.erase)))))))))
def noGd (ops:Array Oper):Bool:=ops.toList.all fun o=>o.guard.isNone
def collB (P:Program) (tM tK tS:TypeId):Code→Bool
 | .seq (.region _ o23 false) (.block b7 (.loop (.seq (.region _ o24 false) (.seq (.cond (.tmp t69) .skip (.exit e7)) (.block b8 (.seq (.region _ o25 false) (.region _ o26 false))))))) =>
  Nat.beq b7 7&&Nat.beq t69 69&&Nat.beq e7 7&&Nat.beq b8 8&&noGd o23&&noGd o24&&noGd o25&&regB P o25 (c25 tK) (o25.toList.drop 2)&&regB P o26 (c26 tK tS) o26.toList &&
   (match P.underlying tM with | some (.map k _)=>Nat.beq k tK | _=>false)
 | _=>false
theorem opIs_of {ops:Array Oper} {l:List (Option Nat × Op)} (hs:ops.toList.map (fun o=>(o.dst,o.op))=l) (hg:noGd ops=true) {i:Nat} {d:Option Nat} {op:Op} (hl:l[i]?=some (d,op)):OpIs ops i d op:=by
 rw [← hs,List.getElem?_map] at hl
 cases hq:ops.toList[i]? with
 | none=>rw [hq] at hl;cases hl
 | some o =>
  rw [hq] at hl
  simp only [Option.map_some,Option.some.injEq,Prod.mk.injEq] at hl
  have:=List.all_eq_true.1 hg o (List.mem_of_getElem? hq)
  exact ⟨o,by simpa using hq,hl.1,hl.2,by simpa using this⟩
theorem collC_of {P:Program} {tM tK tS:TypeId} {c:Code} (h:collB P tM tK tS c=true) (hs:shColl tM tK tS=shC c):CollC P tM tK tS c:=by
 unfold collB at h
 split at h
 ·rename_i i23 o23 b7 i24 o24 t69 e7 b8 i25 o25 i26 o26
  simp only [Bool.and_eq_true] at h
  obtain ⟨⟨⟨⟨⟨⟨⟨⟨⟨h1,h2⟩,h3⟩,h4⟩,h5⟩,h6⟩,h7⟩,h8⟩,h9⟩,h10⟩:=h
  have e1:=Nat.eq_of_beq_eq_true h1
  have e2:=Nat.eq_of_beq_eq_true h2
  have e3:=Nat.eq_of_beq_eq_true h3
  have e4:=Nat.eq_of_beq_eq_true h4
  subst e1 e2 e3 e4
  simp only [shColl,shC,Sh.two.injEq,Sh.one.injEq,Sh.reg.injEq] at hs
  obtain ⟨s23,s24,_,s25,s26⟩:=hs
  have sz:∀ (o:Array Oper) (l:List (Option Nat × Op)),o.toList.map (fun o=>(o.dst,o.op))=l→o.size=l.length:=fun o l hh=>by rw [← hh];simp
  obtain ⟨r1,r2⟩:=regB_at h8
  have at25:∀ (i:Nat) (f:FOp),(c25 tK)[i]?=some f→[(some 70,Op.entry (.tmp 67)),(some 71,.extract (.tmp 70) 0),(some 14,.alloc tK),(none,.store tK (.tmp 14) (.tmp 71))][i+2]?=some (f.dst,f.op.erase)→∃ o,o25[i+2]?=some o∧OpFits P o25 f o:=fun i f hf hl=>by
   obtain ⟨o,ho,hg,hp⟩:=r2 i f hf
   rw [List.getElem?_drop,Nat.add_comm] at ho
   refine ⟨o,by simpa using ho,?_⟩
   rw [s25,List.getElem?_map,ho] at hl
   simp only [Option.map_some,Option.some.injEq,Prod.mk.injEq] at hl
   exact ⟨hl.1,hl.2,hg,hp⟩
  refine ⟨⟨i23,o23,i24,o24,i25,o25,i26,o26,rfl,⟨sz _ _ s23.symm,opIs_of s23.symm h5 (i:=0) rfl,opIs_of s23.symm h5 (i:=1) rfl⟩,⟨sz _ _ s24.symm,opIs_of s24.symm h6 (i:=0) rfl,opIs_of s24.symm h6 (i:=1) rfl⟩,
   ⟨sz _ _ s25.symm,opIs_of s25.symm h7 (i:=0) rfl,opIs_of s25.symm h7 (i:=1) rfl,at25 0 _ rfl rfl,at25 1 _ rfl rfl⟩,regFits_of h9 s26⟩,?_⟩
  split at h10
  ·rename_i k e hu
   have:=Nat.eq_of_beq_eq_true h10
   subst this
   exact ⟨e,hu⟩
  ·cases h10
 ·cases h
def mfitsB (P:Program) (tM tK tS:TypeId) (post:AC):AC→Code→Bool
 | .label _,.seq c cp=>collB P tM tK tS c&&fitsB P post cp
 | .seq x _ y,.seq cx cy=>noRet x&&fitsB P x cx&&mfitsB P tM tK tS post y cy
 | _,_=>false
def shM (tM tK tS:TypeId) (post:AC):AC→Sh
 | .label _=>.two (shColl tM tK tS) (shA post)
 | .seq x _ y=>.two (shA x) (shM tM tK tS post y)
 | _=>.leaf
theorem mfits_of {P:Program} {tM tK tS:TypeId} {post:AC}:∀ {ac:AC} {c:Code},mfitsB P tM tK tS post ac c=true→shM tM tK tS post ac=shC c→MFits P tM tK tS post ac c:=by
 intro ac
 induction ac with
 | label l =>
  intro c hB hs
  cases c<;>first | (simp only [mfitsB] at hB;cases hB;done) | skip
  simp only [mfitsB,Bool.and_eq_true] at hB
  simp only [shM,shC,Sh.two.injEq] at hs
  exact .here (collC_of hB.1 hs.1) (fits_of hB.2 hs.2)
 | seq x ks y ihx ihy =>
  intro c hB hs
  cases c<;>first | (simp only [mfitsB] at hB;cases hB;done) | skip
  simp only [mfitsB,Bool.and_eq_true] at hB
  simp only [shM,shC,Sh.two.injEq] at hs
  exact .right hB.1.1 (fits_of hB.1.2 hs.1) (ihy hB.2 hs.2)
 | _=>intro c hB _;simp only [mfitsB] at hB;cases hB
def ffitsMB (P:Program) (tM tK tS:TypeId) (F:AF) (post:AC) (res:List ARes) (fn:Func):Bool :=
 Nat.beq fn.ntmps F.n&&resOks P res fn.results.toList&&(match fn.body with | some c=>mfitsB P tM tK tS post F.body c | none=>false)
theorem ffitsM_of {P : Program} {tM tK tS : TypeId} {f : FuncId} {F : AF} {post : AC} {res : List ARes} {fn : Func} {c : Code} (hfn : P.funcs[f]? = some fn) (hname : (fn.name != "runtime.NumGoroutine") = true) (hbody : fn.body = some c) (hB : ffitsMB P tM tK tS F post res fn = true)
  (hs:shM tM tK tS post F.body=shC c):FFitsM P tM tK tS f F post res:=by
 unfold ffitsMB at hB
 rw [hbody] at hB
 simp only [Bool.and_eq_true] at hB
 refine ⟨?_,fn,c,hfn,hbody,Nat.eq_of_beq_eq_true hB.1.1,hB.1.2,mfits_of hB.2 hs⟩
 unfold callOk
 rw [hfn]
 simp only [hbody,hname,Option.isSome_some,Bool.and_self]
theorem map_perm_range {α:Type} {n:Nat} {σ:List Nat} (h:σ.Perm (List.range n)) (d:Nat) (p:Nat→α):((List.range n).map fun i=>p (σ.getD i d)).Perm ((List.range n).map p):=by
 have hl:σ.length=n:=by rw [h.length_eq,List.length_range]
 have:(List.range n).map (fun i=>p (σ.getD i d))=σ.map p:=by
  apply List.ext_getElem?
  intro i
  rw [List.getElem?_map,List.getElem?_map]
  by_cases hi:i<n
  ·have hi2:i<σ.length:=by omega
   rw [List.getElem?_range hi,List.getElem?_eq_getElem hi2]
   simp only [Option.map_some]
   rw [List.getD_eq_getElem?_getD,List.getElem?_eq_getElem hi2];rfl
  ·rw [List.getElem?_eq_none (by simp;omega),List.getElem?_eq_none (by omega)];rfl
 rw [this]
 exact h.map p
theorem shuf_prs {n:Nat} {f g:FF} (h:Shuf n f g):(prsP n g).Perm (prsP n f):=by
 obtain ⟨σ,hp,hg⟩:=h
 have:prsP n g=(List.range n).map fun i=>prP f (σ.getD i 0):=by
  unfold prsP
  apply List.map_congr_left
  intro i hi
  have hi:=List.mem_range.1 hi
  unfold prP
  rw [hg i hi 0 (by omega),hg i hi 1 (by omega)]
 rw [this]
 exact map_perm_range hp 0 (prP f)
theorem shuf_sort {n:Nat} {f g:FF} (h:Shuf n f g):sortT n g=sortT n f:=by
 have hp:=shuf_prs h
 have h1:sortP (prsP n g)=sortP (prsP n f) :=
  List.Perm.eq_of_pairwise (le:=fun x y=>leP x y=true) (fun a b _ _=>leP_antisymm) (sortP_sorted _) (sortP_sorted _) ((sortP_perm _).trans (hp.trans (sortP_perm _).symm))
 have h2:(prsP n g).all inB=(prsP n f).all inB:=by
  rw [Bool.eq_iff_iff,List.all_eq_true,List.all_eq_true]
  exact ⟨fun h x hx=>h x (hp.mem_iff.2 hx),fun h x hx=>h x (hp.mem_iff.1 hx)⟩
 unfold sortT sortable sortF
 rw [h1,h2]
theorem Wk.zero {fl:Bool} {r r' : Kd} {f f' : FF}:Wk (.ro fl r 0 f) (.ro false r' 0 f'):=fun ok w v h=>by
 obtain ⟨a,cap,hv,h1,h2,_⟩:=h
 exact ⟨a,cap,hv,h1,h2,nofun,.inl rfl⟩
def DOM (tM tK tS:TypeId) (o:Ora) (C:Oracle) (f:Nat) (F:AF) (post:AC) (res:List ARes):Prop:=∀ {P:Program},P.follows .mixedOrders=true→Sound P C→FFitsM P tM tK tS f F post res→∀ args rs:List A,o.o args some=some rs→Den P f args rs
theorem dM {α:Type} {R:RX α} {F:α→Option (Nat × FF)} {C:Oracle} {f N:Nat} {fb post:AC} {res:List ARes} {tM tK tS:TypeId} (u:Nat)
  (e:∀ a,evalF C u ⟨N,[.set 4 13 79],fb⟩ (R.can a)=ob (F a) fun t=>some [.v (.ro false prK t.1 t.2)])
  (hp:∀ n g,evalC C u post ⟨colE n,[.arr prK n g]⟩ (finish ⟨79,res,post⟩)=ob (sortT n g) fun g2=>bif Nat.beq n n then (bif Nat.beq n 0 then some [.v (.ro false prK n g)] else some [.v (.ro false prK n g2)]) else none) :
  DOM tM tK tS (mkO R (fun a=>sortX (F a)) fun t=>[.v (.ro false prK t.1 t.2)]) C f ⟨N,[.set 4 13 79],fb⟩ post res:=by
 intro P hmix hC hf args rs h
 obtain ⟨a,ha,hk⟩:=R.inv args _ rs h
 obtain ⟨t,ht,hk⟩:=ob_inv hk
 cases hk
 unfold sortX at ht
 obtain ⟨⟨n,g⟩,h1,h2⟩:=ob_inv ht
 obtain ⟨h3,h4⟩:=bif_some h2
 obtain ⟨g2,h5,h6⟩:=ob_inv h4
 cases h6
 have hn:n≤1073741824:=Nat.le_of_ble_eq_true h3
 refine Den.weaken ha (evalFM_sound hmix hC hf rfl ((e a).trans (by rw [h1];rfl)) hn fun g' hsh=>?_)
 have hb:Nat.beq n n=true:=Nat.beq_refl n
 have hp':=hp n g'
 rw [shuf_sort hsh,h5,ob_some,hb,cond_true] at hp'
 cases h0:Nat.beq n 0 with
 | true =>
  rw [h0,cond_true] at hp'
  have:=Nat.eq_of_beq_eq_true h0
  subst this
  exact ⟨_,.cons (WkA.v Wk.zero) .nil,hp'⟩
 | false =>
  rw [h0,cond_false] at hp'
  exact ⟨_,.cons (WkA.v (Wk.refl _)) .nil,hp'⟩
end Go.Eng
