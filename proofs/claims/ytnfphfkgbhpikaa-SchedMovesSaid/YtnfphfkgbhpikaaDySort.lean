/-
 The order of Edges' closure: by the first end,then by the second one.
-/
import Derived.Test.YtnfphfkgbhpikaaDecT2
import Derived.Test.YtnfphfkgbhpikaaEngU
import Derived.Test.YtnfphfkgbhpikaaEngX0
set_option linter.all false
namespace Go.Eng.R13
open Go Go.RowKit Go.Eng
def cfI (p q:Int):Int:=bif p != 0 then p else bif q != 0 then q else 0
def cmpI (a b:Int):Int:=bif decide (a<b) then -1 else bif decide (a>b) then 1 else 0
theorem cmp_law (u:Nat) (a b:Int):F89 u a b=some (cmpI a b):=by
 have h:F90 u a=some false:=by simp [F90]
 have h2:F90 u b=some false:=by simp [F90]
 unfold F89 cmpI
 rw [h,h2]
 simp only [ob_some,cond_false]
 cases decide (a<b) with
 | true=>rfl
 | false=>cases decide (a>b)<;>rfl
theorem or_law {ρ:Type} (fuel m:Nat) (p q:Int) (k0:Int→Option ρ) (k1:Option ρ):L201v1 fuel 2 (rowsF 1 [(.i .i64 p),(.i .i64 q)]) (Int.ofNat 2) (m+3) 0 k0 k1=bif p != 0 then k0 p else bif q != 0 then k0 q else k1:=by
 have e0:CV.int (rowsF 1 [(.i .i64 p),(.i .i64 q)] (Int.toNat 0) 0)=p:=rfl
 have w1:w64 (0+1)=1:=rfl
 unfold L201v1
 rw [bif_t (by rfl),bif_t (by rfl),e0,w1]
 congr 1
theorem clo_law (a b c d:Int):F273 100 a b c d=some (cfI (cmpI a c) (cmpI b d)):=by
 unfold F273 F201
 rw [cmp_law,cmp_law]
 simp only [ob_some]
 rw [show L201v1 100 2 (rowsF 1 [(.i .i64 (cmpI a c)),(.i .i64 (cmpI b d))]) (Int.ofNat 2) 100 0 (fun x11=>some x11) (some 0)=_ from or_law 100 97 _ _ _ _]
 unfold cfI
 cases (cmpI a c != 0) with
 | true=>rfl
 | false =>
  cases (cmpI b d != 0) with
  | true=>rfl
  | false=>rfl
theorem cmpI_cases (a b:Int):(a<b∧cmpI a b = -1)∨(a>b∧cmpI a b=1)∨(a=b∧cmpI a b=0):=by
 unfold cmpI
 by_cases h:a<b
 ·exact .inl ⟨h,by simp [h]⟩
 ·by_cases h2:a>b
  ·exact .inr (.inl ⟨h2,by simp [h,h2]⟩)
  ·exact .inr (.inr ⟨by omega,by simp [h,h2]⟩)
theorem clo_neg (x y:PB):cfI (cmpI x.1.1 y.1.1) (cmpI x.1.2 y.1.2)<0↔ltP x.1 y.1=true:=by
 rw [ltP_iff]
 unfold cfI
 rcases cmpI_cases x.1.1 y.1.1 with ⟨h,e⟩ | ⟨h,e⟩ | ⟨h,e⟩
 ·rw [e];simp;omega
 ·rw [e];simp;omega
 ·rw [e]
  rcases cmpI_cases x.1.2 y.1.2 with ⟨h2,e2⟩ | ⟨h2,e2⟩ | ⟨h2,e2⟩<;>rw [e2]<;>simp<;>omega
theorem awake_law:F360 4000=some true:=by kernel_rfl
end Go.Eng.R13
