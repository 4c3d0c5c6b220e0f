/-
 Rows of two numbers,sorted by the first one,then by the second one;and without what is equal to the row before: the plain forms.
-/
import Derived.Test.YtnfphfkgbhpikaaEngQ
set_option linter.all false
namespace Go.Eng
open Go
def toI:CV→Int
 | .i _ n=>n
 | _=>0
def sortLim:Int:=2305843009213693952
def inB (p:Int × Int):Bool:=decide (-sortLim<p.1)&&decide (p.1<sortLim)&&decide (-sortLim<p.2)&&decide (p.2<sortLim)
abbrev PB:={ p:Int × Int // inB p=true }
instance:Inhabited PB:=⟨⟨(0,0),rfl⟩⟩
def ltP (a b:Int × Int):Bool:=decide (a.1<b.1)||(decide (a.1=b.1)&&decide (a.2<b.2))
def leP (a b:Int × Int):Bool:=!ltP b a
def prP (g:FF) (i:Nat):Int × Int:=(toI (g i 0),toI (g i 1))
def prsP (n:Nat) (g:FF):List (Int × Int):=(List.range n).map (prP g)
def insP (a:Int × Int):List (Int × Int)→List (Int × Int)
 | []=>[a]
 | b :: l=>bif leP a b then a :: b :: l else b :: insP a l
def sortP (l:List (Int × Int)):List (Int × Int):=l.foldr insP []
def pairsF (l:List (Int × Int)):FF:=fun i j=>match l[i]? with
 | some p=>bif Nat.beq j 0 then vi p.1 else vi p.2
 | none=>.any
def sortF (n:Nat) (g:FF):FF:=pairsF (sortP (prsP n g))
def sortable (n:Nat) (g:FF):Bool:=Nat.ble n 1073741824&&(prsP n g).all inB
def sortT (n:Nat) (g:FF):Option FF:=bif sortable n g then some (sortF n g) else none
def sortX (x:Option (Nat × FF)):Option (Nat × FF):=ob x fun t=>bif Nat.ble t.1 1073741824 then ob (sortT t.1 t.2) fun g=>some (t.1,g) else none
def isClo (f:FuncId):List A→Bool
 | [.v (.fn f' 0 _)]=>Nat.beq f f'
 | _=>false
def compG (a:Int × Int):List (Int × Int)→List (Int × Int)
 | []=>[]
 | b :: l=>bif b.1==a.1&&b.2==a.2 then compG a l else b :: compG b l
def compP:List (Int × Int)→List (Int × Int)
 | []=>[]
 | a :: l=>a :: compG a l
def cutN (n:Nat) (g:FF):Nat:=(compP (prsP n g)).length
def cutF (n:Nat) (g:FF):FF:=pairsF (compP (prsP n g))
theorem ltP_iff {a b:Int × Int}:ltP a b=true↔a.1<b.1∨a.1=b.1∧a.2<b.2:=by simp [ltP]
theorem leP_iff {a b:Int × Int}:leP a b=true↔a.1<b.1∨a.1=b.1∧a.2≤b.2:=by
 have:=@ltP_iff b a
 cases h:ltP b a with
 | true=>have:=this.1 h;simp [leP,h];omega
 | false =>
  have:¬ (b.1<a.1∨b.1=a.1∧b.2<a.2):=fun hh=>by rw [this.2 hh] at h;cases h
  simp [leP,h];omega
theorem leP_total (a b:Int × Int) (h:¬ leP a b=true):leP b a=true:=by rw [leP_iff] at h ⊢;omega
theorem leP_trans {a b c:Int × Int} (h:leP a b=true) (h' : leP b c=true):leP a c=true:=by rw [leP_iff] at *;omega
theorem leP_antisymm {a b:Int × Int} (h:leP a b=true) (h' : leP b a=true):a=b:=by
 rw [leP_iff] at *
 exact Prod.ext (by omega) (by omega)
theorem insP_perm (a:Int × Int):∀ l,(insP a l).Perm (a :: l)
 | []=>.refl _
 | b :: l=>by
  unfold insP
  cases leP a b with
  | true=>exact .refl _
  | false=>exact ((insP_perm a l).cons b).trans (.swap a b l)
theorem sortP_perm:∀ l,(sortP l).Perm l
 | []=>.refl _
 | a :: l=>(insP_perm a _).trans ((sortP_perm l).cons a)
theorem insP_sorted (a:Int × Int):∀ l,l.Pairwise (fun x y=>leP x y=true)→(insP a l).Pairwise (fun x y=>leP x y=true)
 | [],_=>List.pairwise_singleton _ _
 | b :: l,h=>by
  unfold insP
  cases hh:leP a b with
  | true =>
   refine List.pairwise_cons.2 ⟨fun x hx=>?_,h⟩
   rcases List.mem_cons.1 hx with rfl | hx
   ·exact hh
   ·exact leP_trans hh ((List.pairwise_cons.1 h).1 x hx)
  | false =>
   refine List.pairwise_cons.2 ⟨fun x hx=>?_,insP_sorted a l (List.pairwise_cons.1 h).2⟩
   rcases List.mem_cons.1 ((insP_perm a l).mem_iff.1 hx) with rfl | hx
   ·exact leP_total _ _ (by rw [hh];exact Bool.false_ne_true)
   ·exact (List.pairwise_cons.1 h).1 x hx
theorem sortP_sorted:∀ l,(sortP l).Pairwise (fun x y=>leP x y=true)
 | []=>List.Pairwise.nil
 | a :: l=>insP_sorted a _ (sortP_sorted l)
end Go.Eng
