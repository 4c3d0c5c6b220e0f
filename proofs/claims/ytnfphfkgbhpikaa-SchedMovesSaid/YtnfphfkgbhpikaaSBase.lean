/-
 What all laws of this seat share: the loaded program's facts,and an argument's reading.
-/
import Derived.Test.YtnfphfkgbhpikaaRows
import Derived.Test.YtnfphfkgbhpikaaSndT
import Derived.Test.YtnfphfkgbhpikaaEngU
set_option linter.all false
set_option maxRecDepth 100000
namespace Go.Proofs.Ytnfphfkgbhpikaa
open Go.ChangeShapes Go.WideShapes Go.ChangeAt Go.RowKit Go.Eng
theorem own:ownKnob Try.prog.godebug=none:=by kernel_rfl
theorem laidOut:laidOutB Try.prog=true:=by kernel_rfl
theorem mix:Try.prog.follows .mixedOrders=true:=by kernel_rfl
def rowA28:Kd:=(.pr .str (.pr (.sl (.pr .str (.pr (.int .i64) (.pr .str .nil)))) (.pr (.sl (.pr .str (.pr (.int .i64) (.pr (.int .i64) (.pr .str (.pr .str (.pr (.int .i64) (.pr (.sl (.pr (.int .i64) (.pr (.int .i64) .nil))) (.pr (.sl (.pr (.sl (.pr (.int .i64) (.pr (.int .i64) .nil))) .nil)) (.pr .str (.pr (.int .i64) (.pr (.int .i64) (.pr (.int .i64) (.pr (.int .i64) (.pr (.int .i64) (.pr (.int .i64) (.pr (.int .i64) (.pr (.int .i64) (.pr (.int .i64) .nil))))))))))))))))))) (.pr (.sl (.pr .str (.pr .str (.pr .str (.pr (.int .i64) (.pr (.int .i64) (.pr (.int .i64) .nil))))))) (.pr (.sl (.pr .str (.pr .str (.pr (.sl (.pr .str .nil)) (.pr (.int .i64) (.pr (.sl (.pr .str .nil)) .nil)))))) (.pr (.sl (.pr (.int .i64) (.pr .str (.pr .str .nil)))) .nil))))))
theorem row28:rowT Try.prog 12 28=some rowA28:=by kernel_rfl
theorem open28 {l:List CV} (hl:l.length=rowA28.len) (hk:∀ (j:Nat) (c:CV),l[j]?=some c→(rowA28.nth j).okP c∧c.wf):∃ s0c0 fl0c1 n0c1 f0c1 fl0c2 n0c2 f0c2 fl0c3 n0c3 f0c3 fl0c4 n0c4 f0c4 fl0c5 n0c5 f0c5,l = [.s s0c0,.ro fl0c1 (.pr .str (.pr (.int .i64) (.pr .str .nil))) n0c1 f0c1,.ro fl0c2 (.pr .str (.pr (.int .i64) (.pr (.int .i64) (.pr .str (.pr .str (.pr (.int .i64) (.pr (.sl (.pr (.int .i64) (.pr (.int .i64) .nil))) (.pr (.sl (.pr (.sl (.pr (.int .i64) (.pr (.int .i64) .nil))) .nil)) (.pr .str (.pr (.int .i64) (.pr (.int .i64) (.pr (.int .i64) (.pr (.int .i64) (.pr (.int .i64) (.pr (.int .i64) (.pr (.int .i64) (.pr (.int .i64) (.pr (.int .i64) .nil)))))))))))))))))) n0c2 f0c2,.ro fl0c3 (.pr .str (.pr .str (.pr .str (.pr (.int .i64) (.pr (.int .i64) (.pr (.int .i64) .nil)))))) n0c3 f0c3,.ro fl0c4 (.pr .str (.pr .str (.pr (.sl (.pr .str .nil)) (.pr (.int .i64) (.pr (.sl (.pr .str .nil)) .nil))))) n0c4 f0c4,.ro fl0c5 (.pr (.int .i64) (.pr .str (.pr .str .nil))) n0c5 f0c5]∧SlIn (.pr .str (.pr (.int .i64) (.pr .str .nil))) n0c1 f0c1∧SlIn (.pr .str (.pr (.int .i64) (.pr (.int .i64) (.pr .str (.pr .str (.pr (.int .i64) (.pr (.sl (.pr (.int .i64) (.pr (.int .i64) .nil))) (.pr (.sl (.pr (.sl (.pr (.int .i64) (.pr (.int .i64) .nil))) .nil)) (.pr .str (.pr (.int .i64) (.pr (.int .i64) (.pr (.int .i64) (.pr (.int .i64) (.pr (.int .i64) (.pr (.int .i64) (.pr (.int .i64) (.pr (.int .i64) (.pr (.int .i64) .nil)))))))))))))))))) n0c2 f0c2∧SlIn (.pr .str (.pr .str (.pr .str (.pr (.int .i64) (.pr (.int .i64) (.pr (.int .i64) .nil)))))) n0c3 f0c3∧SlIn (.pr .str (.pr .str (.pr (.sl (.pr .str .nil)) (.pr (.int .i64) (.pr (.sl (.pr .str .nil)) .nil))))) n0c4 f0c4∧SlIn (.pr (.int .i64) (.pr .str (.pr .str .nil))) n0c5 f0c5:=by
 match l,hl with
 | [x0,x1,x2,x3,x4,x5],_ =>
  obtain ⟨h0,g0⟩:=hk 0 x0 rfl
  obtain ⟨s0c0,rfl⟩:=(show ∃ n,x0=.s n from h0)
  obtain ⟨h1,g1⟩:=hk 1 x1 rfl
  obtain ⟨fl0c1,n0c1,f0c1,rfl⟩:=(show ∃ fl n f,x1=.ro fl (.pr .str (.pr (.int .i64) (.pr .str .nil))) n f from h1)
  obtain ⟨h2,g2⟩:=hk 2 x2 rfl
  obtain ⟨fl0c2,n0c2,f0c2,rfl⟩:=(show ∃ fl n f,x2=.ro fl (.pr .str (.pr (.int .i64) (.pr (.int .i64) (.pr .str (.pr .str (.pr (.int .i64) (.pr (.sl (.pr (.int .i64) (.pr (.int .i64) .nil))) (.pr (.sl (.pr (.sl (.pr (.int .i64) (.pr (.int .i64) .nil))) .nil)) (.pr .str (.pr (.int .i64) (.pr (.int .i64) (.pr (.int .i64) (.pr (.int .i64) (.pr (.int .i64) (.pr (.int .i64) (.pr (.int .i64) (.pr (.int .i64) (.pr (.int .i64) .nil)))))))))))))))))) n f from h2)
  obtain ⟨h3,g3⟩:=hk 3 x3 rfl
  obtain ⟨fl0c3,n0c3,f0c3,rfl⟩:=(show ∃ fl n f,x3=.ro fl (.pr .str (.pr .str (.pr .str (.pr (.int .i64) (.pr (.int .i64) (.pr (.int .i64) .nil)))))) n f from h3)
  obtain ⟨h4,g4⟩:=hk 4 x4 rfl
  obtain ⟨fl0c4,n0c4,f0c4,rfl⟩:=(show ∃ fl n f,x4=.ro fl (.pr .str (.pr .str (.pr (.sl (.pr .str .nil)) (.pr (.int .i64) (.pr (.sl (.pr .str .nil)) .nil))))) n f from h4)
  obtain ⟨h5,g5⟩:=hk 5 x5 rfl
  obtain ⟨fl0c5,n0c5,f0c5,rfl⟩:=(show ∃ fl n f,x5=.ro fl (.pr (.int .i64) (.pr .str (.pr .str .nil))) n f from h5)
  exact ⟨s0c0,fl0c1,n0c1,f0c1,fl0c2,n0c2,f0c2,fl0c3,n0c3,f0c3,fl0c4,n0c4,f0c4,fl0c5,n0c5,f0c5,rfl,g1,g2,g3,g4,g5⟩
def rowA32:Kd:=(.pr (.sl (.pr .str (.pr (.int .i64) (.pr (.sl (.pr .str .nil)) .nil)))) (.pr (.int .i64) (.pr (.sl (.pr .str (.pr .str (.pr (.int .i64) (.pr (.int .i64) .nil))))) .nil)))
theorem row32:rowT Try.prog 12 32=some rowA32:=by kernel_rfl
theorem open32 {l:List CV} (hl:l.length=rowA32.len) (hk:∀ (j:Nat) (c:CV),l[j]?=some c→(rowA32.nth j).okP c∧c.wf):∃ fl0c0 n0c0 f0c0 a0c1 fl0c2 n0c2 f0c2,l = [.ro fl0c0 (.pr .str (.pr (.int .i64) (.pr (.sl (.pr .str .nil)) .nil))) n0c0 f0c0,.i .i64 a0c1,.ro fl0c2 (.pr .str (.pr .str (.pr (.int .i64) (.pr (.int .i64) .nil)))) n0c2 f0c2]∧SlIn (.pr .str (.pr (.int .i64) (.pr (.sl (.pr .str .nil)) .nil))) n0c0 f0c0∧I64 a0c1∧SlIn (.pr .str (.pr .str (.pr (.int .i64) (.pr (.int .i64) .nil)))) n0c2 f0c2:=by
 match l,hl with
 | [x0,x1,x2],_ =>
  obtain ⟨h0,g0⟩:=hk 0 x0 rfl
  obtain ⟨fl0c0,n0c0,f0c0,rfl⟩:=(show ∃ fl n f,x0=.ro fl (.pr .str (.pr (.int .i64) (.pr (.sl (.pr .str .nil)) .nil))) n f from h0)
  obtain ⟨h1,g1⟩:=hk 1 x1 rfl
  obtain ⟨a0c1,rfl⟩:=(show ∃ n,x1=.i .i64 n from h1)
  obtain ⟨h2,g2⟩:=hk 2 x2 rfl
  obtain ⟨fl0c2,n0c2,f0c2,rfl⟩:=(show ∃ fl n f,x2=.ro fl (.pr .str (.pr .str (.pr (.int .i64) (.pr (.int .i64) .nil)))) n f from h2)
  exact ⟨fl0c0,n0c0,f0c0,a0c1,fl0c2,n0c2,f0c2,rfl,g0,i64_wf g1,g2⟩
end Go.Proofs.Ytnfphfkgbhpikaa
