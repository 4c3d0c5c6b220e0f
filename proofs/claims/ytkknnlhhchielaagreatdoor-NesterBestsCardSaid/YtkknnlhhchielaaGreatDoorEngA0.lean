/-
 Kinds of cells,and closed values.
-/
import Derived.WalkKit
set_option linter.all false
namespace Go.Eng
def qaZ:=@Bool.and_eq_true
def qbZ:=@Nat.eq_of_beq_eq_true
def qcZ:=@decide_eq_true
def qdZ:=@List.getD_eq_getElem?_getD
def qeZ:=@decide_eq_false
def qfZ:=@List.getElem?_eq_some_iff
def qgZ:=@List.getElem?_eq_getElem
def qhZ:=@List.getElem?_map
def qiZ:=@List.all_eq_true
def qjZ:=@List.mem_cons_of_mem
def qkZ:=@List.getElem?_set_self
def qlZ:=@Array.getElem?_append_left
def qmZ:=@List.mem_cons_self
def qnZ:=@List.getElem?_append_left
def qoZ:=@List.getElem?_set_ne
def qpZ:=@Nat.le_of_ble_eq_true
def qqZ:=@Array.getElem?_eq_some_iff
def qrZ:=@List.mem_of_getElem?
def qsZ:=@List.getElem?_append_right
def qtZ:=@Array.getElem?_append_right
def quZ:=@Nat.mul_le_mul_right
def qvZ:=@List.mem_append_left
def qwZ:=@List.mem_append_right
def qxZ:=@Nat.lt_of_lt_of_le
def qyZ:=@List.mem_flatten
def qzZ:=@List.mem_singleton
def raZ:=@List.getElem?_range
def rbZ:=@Option.some.injEq
def rcZ:=@List.length_map
def rdZ:=@List.nodup_iff_pairwise_ne
def reZ:=@List.pairwise_iff_getElem
def rfZ:=@List.eq_nil_iff_forall_not_mem
def rgZ:=@Int.natCast_nonneg
def rhZ:=@Option.some.inj
def riZ:=@List.mem_range
def rjZ:=@List.mem_map
def rkZ:=@Nat.le_refl
def rlZ:=@Nat.zero_add
def rmZ:=@List.getElem?_eq_none
def rnZ:=@List.getElem?_take_of_lt
def roZ:=@List.length_set
open Go
inductive Kd where
 | nil | int (k:IntKind) | bool | str | oth | sl (r:Kd) | pr (a r:Kd)
def Kd.len:Kd->Nat
 | .pr _ r=>r.len+1
 | _=>0
def Kd.nth:Kd->Nat->Kd
 | .pr a _,0=>a
 | .pr _ r,n+1=>r.nth n
 | _,_=>.oth
def Kd.drop:Kd->Nat->Kd
 | r,0=>r
 | .pr _ r,n+1=>r.drop n
 | _,_=>.nil
def Kd.mark:Kd->Kd
 | .pr a r=>.pr a r.mark
 | _=>.bool
def Kd.tagged:Kd->Bool
 | .pr _ r=>r.tagged
 | .bool=>true
 | _=>false
def Kd.app:Kd->Kd->Kd
 | .pr a r,s=>.pr a (r.app s)
 | _,s=>s
def jP:IntKind->IntKind->Bool:=fun a b=>decide (a=b)
def Kd.beq:Kd->Kd->Bool
 | .nil,.nil=>true
 | .int k,.int k'=>jP k k'
 | .bool,.bool=>true
 | .str,.str=>true
 | .oth,.oth=>true
 | .sl r,.sl r'=>r.beq r'
 | .pr a r,.pr a' r'=>a.beq a' && r.beq r'
 | _,_=>false
inductive CV where
 | any
 | b (x:Bool)
 | i (k:IntKind) (n:Int)
 | s (x:ByteArray)
 | ro (full:Bool) (r:Kd) (n:Nat) (f:Nat->Nat->CV)
 | rp (r:Kd) (g:Nat->CV)
 | fn (f:FuncId) (nc:Nat) (caps:Nat->CV)
 | mp (n:Nat) (f:Nat->Nat->CV)
 | lit (v:Value)
 deriving Inhabited
def CV.int:CV->Int
 | .i _ n=>n
 | _=>0
def CV.bool:CV->Bool
 | .b x=>x
 | _=>false
def CV.str:CV->ByteArray
 | .s x=>x
 | _=>ByteArray.empty
def CV.len:CV->Nat
 | .ro _ _ n _=>n
 | _=>0
def CV.el:CV->Nat->Nat->CV
 | .ro _ _ _ f=>f
 | _=>fun _ _=>.any
def Kd.proj (κ:Kd) (c:CV):CV :=
 match κ with
 | .int k=>.i k c.int
 | .bool=>.b c.bool
 | .str=>.s c.str
 | .sl r=>.ro false r c.len c.el
 | _=>c
def CV.kd:CV->Kd
 | .i k _=>.int k
 | .b _=>.bool
 | .s _=>.str
 | .ro _ r _ _=>.sl r
 | _=>.oth
def vY:List CV->Kd
 | []=>.nil
 | c::l=>.pr c.kd (vY l)
def Kd.fits (κ:Kd) (c:CV):Bool :=
 match κ with
 | .oth=>true
 | .nil=>true
 | .pr _ _=>true
 | κ=>κ.beq c.kd
def Kd.flat:Kd->Bool
 | .pr (.int _) r=>r.flat
 | .pr .bool r=>r.flat
 | .pr .str r=>r.flat
 | .nil=>true
 | _=>false
def au (l:List CV):Nat->CV:=fun t=>l.getD t .any
abbrev p8 {a b c d e f g h i:Type} (x:a × b × c × d × e × f × g × h × i):i:=x.2.2.2.2.2.2.2.2
abbrev pG {a b c d e f g h i a' b' c' d' e' f' g' h' : Type} (x:a × b × c × d × e × f × g × h × a' × b' × c' × d' × e' × f' × g' × h' × i):i:=x.2.2.2.2.2.2.2.2.2.2.2.2.2.2.2.2
end Go.Eng
