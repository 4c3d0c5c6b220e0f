/-
 What all laws of this seat share: the loaded program's facts, and an argument's reading.
-/
import Derived.Test.YtmpnfnngjeojlaaRows
import Derived.Test.YtmpnfnngjeojlaaSndT
import Derived.Test.YtmpnfnngjeojlaaEngU
set_option linter.all false
set_option maxRecDepth 100000
namespace Go.Proofs.Ytmpnfnngjeojlaa
open Go.ChangeShapes Go.WideShapes Go.ChangeAt Go.RowKit Go.Eng
theorem own : ownKnob Try.prog.godebug = none := by kernel_rfl
theorem laidOut : laidOutB Try.prog = true := by kernel_rfl
theorem mix : Try.prog.follows .mixedOrders = true := by kernel_rfl
def rowA29 : Kd := (.pr .str (.pr (.int .i64) (.pr (.sl (.pr .str (.pr (.int .i64) (.pr (.int .i64) (.pr (.int .i64) (.pr .bool .nil)))))) (.pr .str (.pr .str (.pr (.int .i64) (.pr (.int .i64) (.pr (.int .i64) (.pr .str (.pr (.sl (.pr .str (.pr (.int .i64) (.pr (.int .i64) (.pr .str (.pr .str (.pr (.int .i64) (.pr (.sl (.pr (.int .i64) (.pr (.int .i64) .nil))) (.pr (.sl (.pr (.sl (.pr (.int .i64) (.pr (.int .i64) .nil))) .nil)) (.pr .str (.pr (.int .i64) (.pr (.int .i64) (.pr (.int .i64) (.pr (.int .i64) (.pr (.int .i64) (.pr (.int .i64) (.pr (.int .i64) (.pr (.int .i64) (.pr (.int .i64) .nil))))))))))))))))))) .nil))))))))))
theorem row29 : rowT Try.prog 8 29 = some rowA29 := by kernel_rfl
theorem chain29 : rowA29.chain = true := rfl
def rowA43 : Kd := (.pr .str (.pr (.int .i64) (.pr (.int .i64) (.pr (.int .i64) (.pr .bool .nil)))))
theorem row43 : rowT Try.prog 8 43 = some rowA43 := by kernel_rfl
theorem open43 {l : List CV} (hl : l.length = rowA43.len) (hk : ∀ (j : Nat) (c : CV), l[j]? = some c → (rowA43.nth j).okP c ∧ c.wf) : ∃ s0c0 a0c1 a0c2 a0c3 b0c4, l = [.s s0c0, .i .i64 a0c1, .i .i64 a0c2, .i .i64 a0c3, .b b0c4] ∧ I64 a0c1 ∧ I64 a0c2 ∧ I64 a0c3 := by
 match l, hl with
 | [x0, x1, x2, x3, x4], _ =>
  obtain ⟨h0, g0⟩ := hk 0 x0 rfl
  obtain ⟨s0c0, rfl⟩ := (show ∃ n, x0 = .s n from h0)
  obtain ⟨h1, g1⟩ := hk 1 x1 rfl
  obtain ⟨a0c1, rfl⟩ := (show ∃ n, x1 = .i .i64 n from h1)
  obtain ⟨h2, g2⟩ := hk 2 x2 rfl
  obtain ⟨a0c2, rfl⟩ := (show ∃ n, x2 = .i .i64 n from h2)
  obtain ⟨h3, g3⟩ := hk 3 x3 rfl
  obtain ⟨a0c3, rfl⟩ := (show ∃ n, x3 = .i .i64 n from h3)
  obtain ⟨h4, g4⟩ := hk 4 x4 rfl
  obtain ⟨b0c4, rfl⟩ := (show ∃ n, x4 = .b n from h4)
  exact ⟨s0c0, a0c1, a0c2, a0c3, b0c4, rfl, i64_wf g1, i64_wf g2, i64_wf g3⟩
end Go.Proofs.Ytmpnfnngjeojlaa
