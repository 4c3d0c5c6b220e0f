/-
 Rows of two numbers,sorted by the first one,then by the second one;and without what is equal to the row before: the plain forms.
-/
import Derived.Test.YtkknnlhhchielaaGreatDoorEngQ
set_option linter.all false
namespace Go.Eng
open Go
def toI:CV->Int
 | .i _ n=>n
 | _=>0
def AK:Int:=2305843009213693952
def inB (p:Int × Int):Bool:=decide (-AK<p.1)&&decide (p.1<AK)&&decide (-AK<p.2)&&decide (p.2<AK)
abbrev PB:={ p:Int × Int // inB p=true }
instance:Inhabited PB:=⟨⟨(0,0),rfl⟩⟩
def prP (g:FF) (i:Nat):Int × Int:=(toI (g i 0),toI (g i 1))
def XY (n:Nat) (g:FF):List (Int × Int):=(List.range n).map (prP g)
def VW (l:List (Int × Int)):FF:=fun i j=>match l[i]? with
 | some p=>bif Nat.beq j 0 then vi p.1 else vi p.2
 | none=>.any
def OJ (a:Int × Int):List (Int × Int)->List (Int × Int)
 | []=>[]
 | b::l=>bif b.1==a.1&&b.2==a.2 then OJ a l else b::OJ b l
def Th:List (Int × Int)->List (Int × Int)
 | []=>[]
 | a::l=>a::OJ a l
def acd (n:Nat) (g:FF):Nat:=(Th (XY n g)).length
def ace (n:Nat) (g:FF):FF:=VW (Th (XY n g))
def jh (n:Nat) (g:FF):List Int:=(List.range n).map fun i=>(g i 0).int
def Kq (a:Int):List Int->List Int
 | []=>[a]
 | b::l=>bif decide (a<=b) then a::b::l else b::Kq a l
def jI (l:List Int):List Int:=l.foldr Kq []
theorem vF (a:Int):∀ l,(Kq a l).Perm (a::l)
 | []=>.refl _
 | b::l=>by
  unfold Kq
  cases decide (a<=b) with
  | true=>exact .refl _
  | false=>exact ((vF a l).cons b).trans (.swap a b l)
theorem dI:∀ l,(jI l).Perm l
 | []=>.refl _
 | a::l=>(vF a _).trans ((dI l).cons a)
theorem Ac (a:Int):∀ l,l.Pairwise (fun x y=>x<=y)->(Kq a l).Pairwise (fun x y=>x<=y)
 | [],_=>List.pairwise_singleton _ _
 | b::l,h=>by
  unfold Kq
  have h1:=List.pairwise_cons.1 h
  by_cases hh:a<=b
  ·rw [qcZ hh]
   refine List.pairwise_cons.2 ⟨fun x hx=>?_,h⟩
   rcases List.mem_cons.1 hx with rfl | hx
   ·exact hh
   ·exact Int.le_trans hh (h1.1 x hx)
  ·rw [qeZ hh]
   refine List.pairwise_cons.2 ⟨fun x hx=>?_,Ac a l h1.2⟩
   rcases List.mem_cons.1 ((vF a l).subset hx) with rfl | hx
   ·omega
   ·exact h1.1 x hx
theorem mB:∀ l,(jI l).Pairwise (fun x y=>x<=y)
 | []=>List.Pairwise.nil
 | a::l=>Ac a _ (mB l)
theorem Et (l:List Int):(l.mergeSort fun x y=>decide (x<=y))=jI l:=by
 refine List.Perm.eq_of_pairwise (le:=fun a b:Int=>decide (a<=b)=true) (fun a b _ _ h1 h2=>by simp only [decide_eq_true_eq] at h1 h2;omega) (List.pairwise_mergeSort (fun a b c h1 h2=>by simp only [decide_eq_true_eq] at *;omega) (fun a b=>by simp only [Bool.or_eq_true,decide_eq_true_eq];omega) l) ((mB l).imp fun {a b} h=>by simpa using h) ((List.mergeSort_perm l _).trans (dI l).symm)
def dF (n:Nat) (g:FF):FF:=fun i _=>vi ((jI (jh n g)).getD i 0)
def Dp (n:Nat) (g:FF):Option FF:=bif Nat.blt 0 n&&Nat.ble n 1073741824 then some (dF n g) else none
end Go.Eng
