/-
 A law's arguments,read as closed values;what the row asks behind the call.
-/
import Derived.Test.YtajhkinnmdlokaaGreatEngR
import Derived.Carry
import Derived.ReadAgain
import Derived.ProofKit
import Derived.Deep.Slices
import Derived.OpenShut
set_option linter.all false
namespace Go.Eng
open Go Go.RowKit Go.ChangeShapes Go.WideShapes Go.Deep
def CV.wf:CV→Prop
 | .i k n=>(Lit.int k n).wf=true
 | .s x=>x.size≤maxLen
 | .ro _ r n f=>n≤maxLen∧∀ i j,i<n→j<r.len→(r.nth j).okP (f i j)∧(f i j).wf
 | _=>True
def rowFs (P:Program) (rt:TypeId→Option Kd):List Field→Nat→Option Kd
 | [],_=>some .nil
 | f :: fs,off =>
  match rt f.type with
  | some r1=>bif Nat.beq f.offset off&&Nat.beq (P.cellsOf f.type) r1.len then
    match rowFs P rt fs (off+r1.len) with
    | some r2=>some (r1.app r2)
    | none=>none
   else none
  | none=>none
def rowRep (r:Kd):Nat→Kd
 | 0=>.nil
 | n+1=>r.app (rowRep r n)
def rowT (P:Program):Nat→TypeId→Option Kd
 | 0,_=>none
 | d+1,t =>
  match P.underlying t with
  | some (.int k)=>some (.pr (.int k) .nil)
  | some .bool=>some (.pr .bool .nil)
  | some .string=>some (.pr .str .nil)
  | some (.slice e) =>
   match rowT P d e with
   | some r=>bif Nat.beq (P.cellsOf e) r.len&&Nat.blt 0 r.len then some (.pr (.sl r) .nil) else none
   | none=>none
  | some (.struct fs) =>
   match rowFs P (rowT P d) fs.toList 0 with
   | some r=>bif Nat.beq (P.cellsOf t) r.len then some r else none
   | none=>none
  | some (.array n e) =>
   match rowT P d e with
   | some r=>bif Nat.beq (P.cellsOf e) r.len&&Nat.beq (P.cellsOf t) (n*r.len) then some (rowRep r n) else none
   | none=>none
  | _=>none
theorem Kd.app_len:∀ (r s:Kd),(r.app s).len=r.len+s.len
 | .pr a r,s=>by simp only [Kd.app,Kd.len,Kd.app_len r s];omega
 | .nil,s=>by simp [Kd.app,Kd.len]
 | .int _,s=>by simp [Kd.app,Kd.len]
 | .bool,s=>by simp [Kd.app,Kd.len]
 | .str,s=>by simp [Kd.app,Kd.len]
 | .oth,s=>by simp [Kd.app,Kd.len]
 | .sl _,s=>by simp [Kd.app,Kd.len]
theorem Kd.app_nth:∀ (r s:Kd) (j:Nat),(r.app s).nth j=if j<r.len then r.nth j else s.nth (j-r.len)
 | .pr a r,s,0=>by simp [Kd.app,Kd.len,Kd.nth]
 | .pr a r,s,j+1=>by
  have e:((Kd.pr a r).app s).nth (j+1)=(r.app s).nth j:=rfl
  have l:(Kd.pr a r).len=r.len+1:=rfl
  rw [e,Kd.app_nth r s j]
  by_cases h:j<r.len
  ·rw [if_pos h,if_pos (by omega)];rfl
  ·rw [if_neg h,if_neg (by omega),l];congr 1;omega
 | .nil,s,j=>by simp [Kd.app,Kd.len]
 | .int _,s,j=>by simp [Kd.app,Kd.len]
 | .bool,s,j=>by simp [Kd.app,Kd.len]
 | .str,s,j=>by simp [Kd.app,Kd.len]
 | .oth,s,j=>by simp [Kd.app,Kd.len]
 | .sl _,s,j=>by simp [Kd.app,Kd.len]
section
variable (ok : Nat → Prop) (w : World)
def RowOk (r:Kd) (cs:List Value):Prop :=
 cs.length=r.len∧∀ j,j<r.len→∃ c u,cs[j]?=some u∧(r.nth j).okP c∧c.wf∧CR ok w c u
end
section
variable {ok : Nat → Prop} {w : World}
theorem RowOk.nil:RowOk ok w .nil []:=⟨rfl,fun j h=>by simp [Kd.len] at h⟩
theorem RowOk.app {r1 r2:Kd} {c1 c2:List Value} (h1:RowOk ok w r1 c1) (h2:RowOk ok w r2 c2):RowOk ok w (r1.app r2) (c1 ++ c2):=by
 refine ⟨by rw [List.length_append,h1.1,h2.1,Kd.app_len],fun j hj=>?_⟩
 rw [Kd.app_len] at hj
 by_cases h:j<r1.len
 ·obtain ⟨c,u,hu,hk⟩:=h1.2 j h
  refine ⟨c,u,?_,?_⟩
  ·rw [List.getElem?_append_left (by rw [h1.1];exact h)];exact hu
  ·rw [Kd.app_nth,if_pos h];exact hk
 ·obtain ⟨c,u,hu,hk⟩:=h2.2 (j-r1.len) (by omega)
  refine ⟨c,u,?_,?_⟩
  ·rw [List.getElem?_append_right (by rw [h1.1];omega),h1.1];exact hu
  ·rw [Kd.app_nth,if_neg h];exact hk
theorem RowOk.one {κ:Kd} {c:CV} {u:Value} (h1:κ.okP c) (h2:c.wf) (h3:CR ok w c u):RowOk ok w (.pr κ .nil) [u] :=
 ⟨rfl,fun j hj=>by
  have:j=0:=by simp [Kd.len] at hj;omega
  subst this
  exact ⟨c,u,rfl,h1,h2,h3⟩⟩
theorem ARs.cons {W:World} {a:A} {l:List A} {v:Value} {vs:List Value} (h:AR ok W a v) (hl:ARs ok W l vs.toArray):ARs ok W (a :: l) (v :: vs).toArray:=by
 refine ⟨by simpa using hl.1,fun t x ht=>?_⟩
 cases t with
 | zero=>simp at ht;subst ht;exact ⟨v,by simp,h⟩
 | succ t =>
  obtain ⟨u,hu,hr⟩:=hl.2 t x (by simpa using ht)
  exact ⟨u,by simpa using hu,hr⟩
theorem ARs.nil {W:World}:ARs ok W [] (([]:List Value).toArray):=⟨rfl,fun t x ht=>by simp at ht⟩
theorem law_calls {P:Program} {f:FuncId} {args:List A} (hd:Den P f args [.v (.b true)]) {W:World} {vs:Array Value} (hg:GlobR (fun g=>g<W.heap.size) W) (h:ARs (fun g=>g<W.heap.size) W args vs) :
  Calls P f vs W fun e w'=>e=.returned (.bool true)∧Below W.heap.size W w' :=
 (hd.2 W _ vs (fun _ h=>h) hg h).mono fun e w' he=>by
  obtain ⟨v,ok',rfl,h2,_,_,h5⟩:=he
  have:v=.bool true:=h5
  exact ⟨by rw [this],h2⟩
end
end Go.Eng
