/-
 Rows of two numbers,sorted by the first one,then by the second one;and without what is equal to the row before: the plain forms.
-/
import Derived.Test.YtkknnlhhchielaaGreatDoorEngQ
set_option linter.all false
namespace Go.Eng
open Go
def toI:CV->Int
 | .i _ n=>n
 | _=>0
def AO:Int:=2305843009213693952
def inB (p:Int × Int):Bool:=decide (-AO<p.1)&&decide (p.1<AO)&&decide (-AO<p.2)&&decide (p.2<AO)
abbrev PB:={ p:Int × Int // inB p=true }
instance:Inhabited PB:=⟨⟨(0,0),rfl⟩⟩
def prP (g:FF) (i:Nat):Int × Int:=(toI (g i 0),toI (g i 1))
def Yf (n:Nat) (g:FF):List (Int × Int):=(List.range n).map (prP g)
def V4 (l:List (Int × Int)):FF:=fun i j=>match l[i]? with
 | some p=>bif Nat.beq j 0 then vi p.1 else vi p.2
 | none=>.any
def OB (a:Int × Int):List (Int × Int)->List (Int × Int)
 | []=>[]
 | b::l=>bif b.1==a.1&&b.2==a.2 then OB a l else b::OB b l
def Tf:List (Int × Int)->List (Int × Int)
 | []=>[]
 | a::l=>a::OB a l
def acd (n:Nat) (g:FF):Nat:=(Tf (Yf n g)).length
def ace (n:Nat) (g:FF):FF:=V4 (Tf (Yf n g))
def jr (n:Nat) (g:FF):List Int:=(List.range n).map fun i=>(g i 0).int
def JY (a:Int):List Int->List Int
 | []=>[a]
 | b::l=>bif decide (a<=b) then a::b::l else b::JY a l
def jP (l:List Int):List Int:=l.foldr JY []
theorem vQ (a:Int):∀ l,(JY a l).Perm (a::l)
 | []=>.refl _
 | b::l=>by
  unfold JY
  cases decide (a<=b) with
  | true=>exact .refl _
  | false=>exact ((vQ a l).cons b).trans (.swap a b l)
theorem dH:∀ l,(jP l).Perm l
 | []=>.refl _
 | a::l=>(vQ a _).trans ((dH l).cons a)
theorem Ak (a:Int):∀ l,l.Pairwise (fun x y=>x<=y)->(JY a l).Pairwise (fun x y=>x<=y)
 | [],_=>List.pairwise_singleton _ _
 | b::l,h=>by
  unfold JY
  have h1:=List.pairwise_cons.1 h
  by_cases hh:a<=b
  ·rw [qcZ hh]
   refine List.pairwise_cons.2 ⟨fun x hx=>?_,h⟩
   rcases List.mem_cons.1 hx with rfl | hx
   ·exact hh
   ·exact Int.le_trans hh (h1.1 x hx)
  ·rw [qeZ hh]
   refine List.pairwise_cons.2 ⟨fun x hx=>?_,Ak a l h1.2⟩
   rcases List.mem_cons.1 ((vQ a l).subset hx) with rfl | hx
   ·omega
   ·exact h1.1 x hx
theorem mQ:∀ l,(jP l).Pairwise (fun x y=>x<=y)
 | []=>List.Pairwise.nil
 | a::l=>Ak a _ (mQ l)
theorem EF (l:List Int):(l.mergeSort fun x y=>decide (x<=y))=jP l:=by
 refine List.Perm.eq_of_pairwise (le:=fun a b:Int=>decide (a<=b)=true) (fun a b _ _ h1 h2=>by simp only [decide_eq_true_eq] at h1 h2;omega) (List.pairwise_mergeSort (fun a b c h1 h2=>by simp only [decide_eq_true_eq] at *;omega) (fun a b=>by simp only [Bool.or_eq_true,decide_eq_true_eq];omega) l) ((mQ l).imp fun {a b} h=>by simpa using h) ((List.mergeSort_perm l _).trans (dH l).symm)
def dE (n:Nat) (g:FF):FF:=fun i _=>vi ((jP (jr n g)).getD i 0)
def Dy (n:Nat) (g:FF):Option FF:=bif Nat.blt 0 n&&Nat.ble n 1073741824 then some (dE n g) else none
end Go.Eng
