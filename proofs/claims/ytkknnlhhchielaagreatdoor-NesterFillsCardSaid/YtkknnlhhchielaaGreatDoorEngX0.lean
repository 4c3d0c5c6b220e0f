/-
 Rows of two numbers,sorted by the first one,then by the second one;and without what is equal to the row before: the plain forms.
-/
import Derived.Test.YtkknnlhhchielaaGreatDoorEngQ
set_option linter.all false
namespace Go.Eng
open Go
def toI:CV→Int
 | .i _ n=>n
 | _=>0
def sortLim:Int:=2305843009213693952
def inB (p:Int × Int):Bool:=decide (-sortLim<p.1)&&decide (p.1<sortLim)&&decide (-sortLim<p.2)&&decide (p.2<sortLim)
abbrev PB:={ p:Int × Int // inB p=true }
instance:Inhabited PB:=⟨⟨(0,0),rfl⟩⟩
def prP (g:FF) (i:Nat):Int × Int:=(toI (g i 0),toI (g i 1))
def prsP (n:Nat) (g:FF):List (Int × Int):=(List.range n).map (prP g)
def pairsF (l:List (Int × Int)):FF:=fun i j=>match l[i]? with
 | some p=>bif Nat.beq j 0 then vi p.1 else vi p.2
 | none=>.any
def compG (a:Int × Int):List (Int × Int)→List (Int × Int)
 | []=>[]
 | b :: l=>bif b.1==a.1&&b.2==a.2 then compG a l else b :: compG b l
def compP:List (Int × Int)→List (Int × Int)
 | []=>[]
 | a :: l=>a :: compG a l
def cutN (n:Nat) (g:FF):Nat:=(compP (prsP n g)).length
def cutF (n:Nat) (g:FF):FF:=pairsF (compP (prsP n g))
end Go.Eng
namespace Go.Eng
open Go
def numsI (n:Nat) (g:FF):List Int:=(List.range n).map fun i=>CV.int (g i 0)
def insL (a:Int):List Int→List Int
 | []=>[a]
 | b :: l=>bif decide (a≤b) then a :: b :: l else b :: insL a l
def sortL (l:List Int):List Int:=l.foldr insL []
theorem insL_perm (a:Int):∀ l,(insL a l).Perm (a :: l)
 | []=>.refl _
 | b :: l=>by
  unfold insL
  cases decide (a≤b) with
  | true=>exact .refl _
  | false=>exact ((insL_perm a l).cons b).trans (.swap a b l)
theorem sortL_perm:∀ l,(sortL l).Perm l
 | []=>.refl _
 | a :: l=>(insL_perm a _).trans ((sortL_perm l).cons a)
theorem insL_sorted (a:Int):∀ l,l.Pairwise (fun x y=>x≤y)→(insL a l).Pairwise (fun x y=>x≤y)
 | [],_=>List.pairwise_singleton _ _
 | b :: l,h=>by
  unfold insL
  have h1:=List.pairwise_cons.1 h
  by_cases hh:a≤b
  ·rw [decide_eq_true hh]
   refine List.pairwise_cons.2 ⟨fun x hx=>?_,h⟩
   rcases List.mem_cons.1 hx with rfl | hx
   ·exact hh
   ·exact Int.le_trans hh (h1.1 x hx)
  ·rw [decide_eq_false hh]
   refine List.pairwise_cons.2 ⟨fun x hx=>?_,insL_sorted a l h1.2⟩
   rcases List.mem_cons.1 ((insL_perm a l).subset hx) with rfl | hx
   ·omega
   ·exact h1.1 x hx
theorem sortL_sorted:∀ l,(sortL l).Pairwise (fun x y=>x≤y)
 | []=>List.Pairwise.nil
 | a :: l=>insL_sorted a _ (sortL_sorted l)
theorem sortL_merge (l:List Int):(l.mergeSort fun x y=>decide (x≤y))=sortL l:=by
 refine List.Perm.eq_of_pairwise (le:=fun a b:Int=>decide (a≤b)=true) (fun a b _ _ h1 h2=>by simp only [decide_eq_true_eq] at h1 h2;omega) (List.pairwise_mergeSort (fun a b c h1 h2=>by simp only [decide_eq_true_eq] at *;omega) (fun a b=>by simp only [Bool.or_eq_true,decide_eq_true_eq];omega) l) ((sortL_sorted l).imp fun {a b} h=>by simpa using h) ((List.mergeSort_perm l _).trans (sortL_perm l).symm)
def sortIF (n:Nat) (g:FF):FF:=fun i _=>vi ((sortL (numsI n g)).getD i 0)
def sortIT (n:Nat) (g:FF):Option FF:=bif Nat.blt 0 n&&Nat.ble n 1073741824 then some (sortIF n g) else none
end Go.Eng
