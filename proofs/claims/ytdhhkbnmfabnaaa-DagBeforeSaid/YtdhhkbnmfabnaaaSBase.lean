/-
 What all laws of this seat share: the loaded program's facts, and an argument's reading.
-/
import Derived.Test.YtdhhkbnmfabnaaaRows
import Derived.Test.YtdhhkbnmfabnaaaSndT
import Derived.Test.YtdhhkbnmfabnaaaEngU
set_option linter.all false
set_option maxRecDepth 100000
namespace Go.Proofs.Ytdhhkbnmfabnaaa
open Go.ChangeShapes Go.WideShapes Go.ChangeAt Go.RowKit Go.Eng
theorem own : ownKnob Try.prog.godebug = none := by kernel_rfl
theorem laidOut : laidOutB Try.prog = true := by kernel_rfl
theorem mix : Try.prog.follows .mixedOrders = true := by kernel_rfl
def rowA22 : Kd := (.pr (.sl (.pr (.int .i64) (.pr (.int .i64) .nil))) .nil)
theorem row22 : rowT Try.prog 12 22 = some rowA22 := by kernel_rfl
def rowA31 : Kd := (.pr (.int .i64) (.pr (.int .i64) .nil))
theorem row31 : rowT Try.prog 12 31 = some rowA31 := by kernel_rfl
theorem open31 {l : List CV} (hl : l.length = rowA31.len) (hk : ∀ (j : Nat) (c : CV), l[j]? = some c → (rowA31.nth j).okP c ∧ c.wf) : ∃ a0c0 a0c1, l = [.i .i64 a0c0, .i .i64 a0c1] ∧ I64 a0c0 ∧ I64 a0c1 := by
 match l, hl with
 | [x0, x1], _ =>
  obtain ⟨h0, g0⟩ := hk 0 x0 rfl
  obtain ⟨a0c0, rfl⟩ := (show ∃ n, x0 = .i .i64 n from h0)
  obtain ⟨h1, g1⟩ := hk 1 x1 rfl
  obtain ⟨a0c1, rfl⟩ := (show ∃ n, x1 = .i .i64 n from h1)
  exact ⟨a0c0, a0c1, rfl, i64_wf g0, i64_wf g1⟩
end Go.Proofs.Ytdhhkbnmfabnaaa
