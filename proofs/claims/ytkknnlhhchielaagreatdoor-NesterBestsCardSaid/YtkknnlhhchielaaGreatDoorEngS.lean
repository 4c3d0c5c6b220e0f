/-
 A law's arguments,read as closed values;what the row asks behind the call.
-/
import Derived.Test.YtkknnlhhchielaaGreatDoorEngR
import Derived.Carry
import Derived.ReadAgain
import Derived.ProofKit
import Derived.Deep.Slices
import Derived.OpenShut
set_option linter.all false
namespace Go.Eng
open Go Go.RowKit Go.ChangeShapes Go.WideShapes Go.Deep
def CV.wf:CV->Prop
 | .i k n=>(Lit.int k n).wf=true
 | .s x=>x.size<=maxLen
 | .ro _ r n f=>n<=maxLen/\∀ i j,i<n->j<r.len->(r.nth j).okP (f i j)/\(f i j).wf
 | _=>True
def HX (P:Program) (rt:TypeId->Option Kd):List Field->Nat->Option Kd
 | [],_=>some .nil
 | f::fs,off =>
  match rt f.type with
  | some r1=>bif Nat.beq f.offset off&&Nat.beq (P.cellsOf f.type) r1.len then
    match HX P rt fs (off+r1.len) with
    | some r2=>some (r1.app r2)
    | none=>none
   else none
  | none=>none
def Be (r:Kd):Nat->Kd
 | 0=>.nil
 | n+1=>r.app (Be r n)
def Gj (P:Program):Nat->TypeId->Option Kd
 | 0,_=>none
 | d+1,t =>
  match P.underlying t with
  | some (.int k)=>some (.pr (.int k) .nil)
  | some .bool=>some (.pr .bool .nil)
  | some .string=>some (.pr .str .nil)
  | some (.slice e) =>
   match Gj P d e with
   | some r=>bif Nat.beq (P.cellsOf e) r.len&&Nat.blt 0 r.len then some (.pr (.sl r) .nil) else none
   | none=>none
  | some (.struct fs) =>
   match HX P (Gj P d) fs.toList 0 with
   | some r=>bif Nat.beq (P.cellsOf t) r.len then some r else none
   | none=>none
  | some (.array n e) =>
   match Gj P d e with
   | some r=>bif Nat.beq (P.cellsOf e) r.len&&Nat.beq (P.cellsOf t) (n*r.len) then some (Be r n) else none
   | none=>none
  | _=>none
theorem Kd.app_len:∀ (r s:Kd),(r.app s).len=r.len+s.len
 | .pr a r,s=>by simp only [Kd.app,Kd.len,Kd.app_len r s];omega
 | .nil,s=>by simp [Kd.app,Kd.len]
 | .int _,s=>by simp [Kd.app,Kd.len]
 | .bool,s=>by simp [Kd.app,Kd.len]
 | .str,s=>by simp [Kd.app,Kd.len]
 | .oth,s=>by simp [Kd.app,Kd.len]
 | .sl _,s=>by simp [Kd.app,Kd.len]
theorem Kd.app_nth:∀ (r s:Kd) (j:Nat),(r.app s).nth j=if j<r.len then r.nth j else s.nth (j-r.len)
 | .pr a r,s,0=>by simp [Kd.app,Kd.len,Kd.nth]
 | .pr a r,s,j+1=>by
  have e:((Kd.pr a r).app s).nth (j+1)=(r.app s).nth j:=rfl
  have l:(Kd.pr a r).len=r.len+1:=rfl
  rw [e,Kd.app_nth r s j]
  by_cases h:j<r.len
  ·rw [if_pos h,if_pos (by omega)];rfl
  ·rw [if_neg h,if_neg (by omega),l];congr 1;omega
 | .nil,s,j=>by simp [Kd.app,Kd.len]
 | .int _,s,j=>by simp [Kd.app,Kd.len]
 | .bool,s,j=>by simp [Kd.app,Kd.len]
 | .str,s,j=>by simp [Kd.app,Kd.len]
 | .oth,s,j=>by simp [Kd.app,Kd.len]
 | .sl _,s,j=>by simp [Kd.app,Kd.len]
section
variable (ok : Nat -> Prop) (w : World)
def jc (r:Kd) (cs:List Value):Prop :=
 cs.length=r.len/\∀ j,j<r.len->∃ c u,cs[j]?=some u/\(r.nth j).okP c/\c.wf/\CR ok w c u
end
section
variable {ok : Nat -> Prop} {w : World}
theorem jc.nil:jc ok w .nil []:=⟨rfl,fun j h=>by simp [Kd.len] at h⟩
theorem jc.app {r1 r2:Kd} {c1 c2:List Value} (h1:jc ok w r1 c1) (h2:jc ok w r2 c2):jc ok w (r1.app r2) (c1 ++ c2):=by
 refine ⟨by rw [List.length_append,h1.1,h2.1,Kd.app_len],fun j hj=>?_⟩
 rw [Kd.app_len] at hj
 by_cases h:j<r1.len
 ·obtain ⟨c,u,hu,hk⟩:=h1.2 j h
  refine ⟨c,u,?_,?_⟩
  ·rw [qnZ (by rw [h1.1];exact h)];exact hu
  ·rw [Kd.app_nth,if_pos h];exact hk
 ·obtain ⟨c,u,hu,hk⟩:=h2.2 (j-r1.len) (by omega)
  refine ⟨c,u,?_,?_⟩
  ·rw [qsZ (by rw [h1.1];omega),h1.1];exact hu
  ·rw [Kd.app_nth,if_neg h];exact hk
theorem jc.one {κ:Kd} {c:CV} {u:Value} (h1:κ.okP c) (h2:c.wf) (h3:CR ok w c u):jc ok w (.pr κ .nil) [u] :=
 ⟨rfl,fun j hj=>by
  have:j=0:=by simp [Kd.len] at hj;omega
  subst this
  exact ⟨c,u,rfl,h1,h2,h3⟩⟩
theorem EB {P:Program} {rt:TypeId->Option Kd} {cs:List Value}:∀ (fs:List Field) (off:Nat) (r:Kd),HX P rt fs off=some r ->
  (∀ f∈fs,∀ r1,rt f.type=some r1->jc ok w r1 ((cs.drop f.offset).take (P.cellsOf f.type)))->jc ok w r ((cs.drop off).take r.len)
 | [],off,r,h,_=>by
  cases h
  simpa [Kd.len] using jc.nil
 | f::fs,off,r,h,hf=>by
  unfold HX at h
  split at h
  ·rename_i r1 hr1
   obtain ⟨hb,h⟩:=ah h
   rw [qaZ] at hb
   have e1:=qbZ hb.1
   have e2:=qbZ hb.2
   split at h
   ·rename_i r2 hr2
    cases h
    have h1:=hf f qmZ r1 hr1
    have h2:=EB fs _ r2 hr2 (fun g hg=>hf g (qjZ _ hg))
    rw [e1,e2] at h1
    rw [Kd.app_len,List.take_add,List.drop_drop]
    exact h1.app h2
   ·cases h
  ·cases h
theorem Cz {r:Kd} {cs:List Value}:∀ (n k:Nat),(∀ i,i<n->jc ok w r ((cs.drop ((k+i)*r.len)).take r.len))->jc ok w (Be r n) ((cs.drop (k*r.len)).take (n*r.len))
 | 0,k,_=>by simpa [Be] using jc.nil
 | n+1,k,h=>by
  have h1:=h 0 (by omega)
  have h2:=Cz n (k+1) (fun i hi=>by have:=h (i+1) (by omega);rwa [show k+1+i=k+(i+1) from by omega])
  rw [Be,Nat.succ_mul,Nat.add_comm (n*r.len),List.take_add,List.drop_drop]
  rw [Nat.add_zero] at h1
  rw [Nat.succ_mul] at h2
  exact h1.app h2
theorem K6 {H:Type} {enc:TypeId × Value->H} {P:Program} {W:World} {sp:Nat->Bool} {held:Bool}:∀ (d:Nat) (t:TypeId) (r:Kd),Gj P d t=some r->∀ (fuel:Nat) (cs:List Value) (x:DataW H × List MemPlace),
  DataW.trod enc P W 0 sp held fuel t cs=some x->jc (fun g=>g<W.heap.size) W r cs:=by
 intro d
 induction d with
 | zero=>intro t r h;cases h
 | succ d ih =>
  intro t r h fuel cs x ht
  unfold Gj at h
  split at h
  ·rename_i k hu
   cases h
   obtain ⟨n,rfl,_,hwf⟩:=DataW.trod_int hu ht
   exact jc.one (c:=.i k n) ⟨n,rfl⟩ hwf rfl
  ·rename_i hu
   cases h
   obtain ⟨b,rfl,_⟩:=DataW.trod_bool hu ht
   exact jc.one (c:=.b b) ⟨b,rfl⟩ trivial rfl
  ·rename_i hu
   cases h
   obtain ⟨s,rfl,_,hs⟩:=DataW.trod_string hu ht
   exact jc.one (c:=.s s) ⟨s,rfl⟩ hs rfl
  ·rename_i e hu
   split at h
   ·rename_i re hre
    obtain ⟨hb,h⟩:=ah h
    cases h
    rw [qaZ] at hb
    have e1:=qbZ hb.1
    have e2:0<re.len:=by simpa [Nat.blt_eq] using hb.2
    rcases open_slice hu ht with ⟨rfl,_⟩ | ⟨a,len,cap,m,n,D,Pl,rfl,_,hlc,hcm,hm,_,hel⟩
    ·exact jc.one (c:=.ro false re 0 fun _ _=>.any) ⟨_,_,_,rfl⟩ ⟨Nat.zero_le _,fun i j hi=>absurd hi (Nat.not_lt_zero i)⟩ ⟨none,0,rfl,rkZ _,Nat.zero_le _,(fun h=>by cases h),.inl rfl⟩
    ·have hlm:len<=m:=by rw [hm];split<;>omega
     have hall:∀ i j,∃ c,i<len->j<re.len->(∃ u,W.cell? (a.add (i*re.len) |>.add j)=some u/\(re.nth j).okP c/\c.wf/\CR (fun g=>g<W.heap.size) W c u):=by
      intro i j
      by_cases hi:i<len
      ·by_cases hj:j<re.len
       ·obtain ⟨cs',hc,htr⟩:=hel i (by omega)
        have hro:=ih e re hre _ _ _ htr
        obtain ⟨c,u,hcu,hk⟩:=hro.2 j hj
        rw [e1] at hc
        obtain ⟨_,_,hat⟩:=World.cells?_some hc
        exact ⟨c,fun _ _=>⟨u,by rw [hat j hj];exact hcu,hk⟩⟩
       ·exact ⟨.any,fun _ h=>absurd h hj⟩
      ·exact ⟨.any,fun h=>absurd h hi⟩
     refine jc.one (c:=.ro false re len fun i j=>Classical.choose (hall i j)) ⟨_,_,_,rfl⟩ ⟨Nat.le_trans hlc hcm,fun i j hi hj=>?_⟩ ⟨some a,cap,rfl,hlc,hcm,(fun h=>by cases h),?_⟩
     ·obtain ⟨u,_,hk,hw,_⟩:=Classical.choose_spec (hall i j) hi hj
      exact ⟨hk,hw⟩
     ·by_cases h0:len=0
      ·exact .inl h0
      ·obtain ⟨g,off,spot⟩:=a
       have hs0:spot=none:=by
        obtain ⟨u,hu',_⟩:=Classical.choose_spec (hall 0 0) (by omega) e2
        simp only [Nat.zero_mul,Addr.add,if_true] at hu'
        exact World.cell?_spot hu'
       subst hs0
       have hadd:∀ i j,((⟨g,off,none⟩:Addr).add (i*re.len)).add j=⟨g,off+i*re.len+j,none⟩:=by
        intro i j
        unfold Addr.add
        by_cases h1:i*re.len=0<;>by_cases h2:j=0<;>simp [h1,h2]
       have hg:g<W.heap.size:=by
        obtain ⟨u,hu',_⟩:=Classical.choose_spec (hall 0 0) (by omega) e2
        rw [hadd] at hu'
        unfold World.cell? at hu'
        split at hu'
        ·rename_i hq
         exact (qqZ.1 hq).1
        ·cases hu'
       refine .inr ⟨g,off,rfl,hg,fun i j hi hj=>?_⟩
       obtain ⟨u,hu',hk,hw,hcr⟩:=Classical.choose_spec (hall i j) hi hj
       exact ⟨hk,u,by rw [hadd] at hu';exact hu',hcr⟩
   ·cases h
  ·rename_i fs hu
   split at h
   ·rename_i r' hr'
    obtain ⟨hb,h⟩:=ah h
    cases h
    have e1:=qbZ hb
    obtain ⟨xs,n,_,_,hlen,hxl,hf⟩:=DataW.trod_struct hu ht
    have:=EB (P:=P) (ok:=fun g=>g<W.heap.size) (w:=W) (cs:=cs) fs.toList 0 r hr' (fun f hfm r1 hr1=>by
     obtain ⟨i,hi⟩:=List.getElem?_of_mem hfm
     rw [Array.getElem?_toList] at hi
     have h2:=hf i f hi
     have hil:i<xs.length:=by rw [hxl];exact (qqZ.1 hi).1
     rw [qgZ hil] at h2
     exact ih _ _ hr1 _ _ _ h2)
    rw [List.drop_zero,List.take_of_length_le (by omega)] at this
    exact this
   ·cases h
  ·rename_i n e hu
   split at h
   ·rename_i r' hr'
    obtain ⟨hb,h⟩:=ah h
    cases h
    rw [qaZ] at hb
    have e1:=qbZ hb.1
    have e2:=qbZ hb.2
    obtain ⟨xs,m,_,_,hlen,hxl,hf⟩:=DataW.trod_array hu ht
    have:=Cz (ok:=fun g=>g<W.heap.size) (w:=W) (r:=r') (cs:=cs) n 0 (fun i hi=>by
     have h2:=hf i hi
     have hil:i<xs.length:=by omega
     rw [qgZ hil,e1] at h2
     rw [rlZ]
     exact ih _ _ hr' _ _ _ h2)
    rw [Nat.zero_mul,List.drop_zero,List.take_of_length_le (by omega)] at this
    exact this
   ·cases h
  ·cases h
theorem J1 {H:Type} {enc:TypeId × Value->H} {P:Program} {W:World} {sp:Nat->Bool} {held:Bool} {d:Nat} {t:TypeId} {r:Kd} (hr:Gj P d t=some r) {cs:Array Value} {dd:DataW H} {ps:List MemPlace}
  (h:DataW.Trod enc P W 0 sp held t (.agg cs) dd ps):∃ l:List CV,l.length=r.len/\(∀ (j:Nat) (c:CV),l[j]?=some c->(r.nth j).okP c/\c.wf)/\AR (fun g=>g<W.heap.size) W (.agg l) (.agg cs):=by
 obtain ⟨fuel,hf⟩:=h
 obtain ⟨h1,h2⟩:=K6 d t _ hr fuel _ _ hf
 have hall:∀ j,∃ c,j<r.len->∃ u,cs[j]?=some u/\(r.nth j).okP c/\c.wf/\CR (fun g=>g<W.heap.size) W c u:=by
  intro j
  by_cases hj:j<r.len
  ·obtain ⟨c,u,hu,hk⟩:=h2 j hj
   exact ⟨c,fun _=>⟨u,by simpa [Value.cells] using hu,hk⟩⟩
  ·exact ⟨.any,fun h=>absurd h hj⟩
 refine ⟨(List.range r.len).map fun j=>Classical.choose (hall j),by simp,fun j c hj=>?_,cs,rfl,by simpa [Value.cells] using h1,fun j c hj=>?_⟩
 ·rw [qhZ] at hj
  by_cases hl:j<r.len
  ·rw [raZ hl] at hj
   cases hj
   obtain ⟨u,_,hk,hw,_⟩:=Classical.choose_spec (hall j) hl
   exact ⟨hk,hw⟩
  ·rw [rmZ (by simp;omega)] at hj;cases hj
 ·rw [qhZ] at hj
  by_cases hl:j<r.len
  ·rw [raZ hl] at hj
   cases hj
   obtain ⟨u,hu,_,_,hcr⟩:=Classical.choose_spec (hall j) hl
   exact ⟨u,hu,hcr⟩
  ·rw [rmZ (by simp;omega)] at hj;cases hj
theorem ARs.cons {W:World} {a:A} {l:List A} {v:Value} {vs:List Value} (h:AR ok W a v) (hl:ARs ok W l vs.toArray):ARs ok W (a::l) (v::vs).toArray:=by
 refine ⟨by simpa using hl.1,fun t x ht=>?_⟩
 cases t with
 | zero=>simp at ht;subst ht;exact ⟨v,by simp,h⟩
 | succ t =>
  obtain ⟨u,hu,hr⟩:=hl.2 t x (by simpa using ht)
  exact ⟨u,by simpa using hu,hr⟩
theorem ARs.nil {W:World}:ARs ok W [] (([]:List Value).toArray):=⟨rfl,fun t x ht=>by simp at ht⟩
theorem Kk {P:Program} {f:FuncId} {args:List A} (hd:Den P f args [.v (.b true)]) {W:World} {vs:Array Value} (hg:eN (fun g=>g<W.heap.size) W) (h:ARs (fun g=>g<W.heap.size) W args vs) :
  Calls P f vs W fun e w'=>e=.returned (.bool true)/\Below W.heap.size W w' :=
 (hd.2 W _ vs (fun _ h=>h) hg h).mono fun e w' he=>by
  obtain ⟨v,ok',rfl,h2,_,_,h5⟩:=he
  have:v=.bool true:=h5
  exact ⟨by rw [this],h2⟩
end
end Go.Eng
