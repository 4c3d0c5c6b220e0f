/-
 Words for the plain forms: counters, bounds, 64-bit numbers; what came in.
-/
import Derived.Test.YtkknnlhhchielaaDoorEngS
import Derived.IntWalk
set_option linter.all false
namespace Go.Eng
open Go Go.RowKit
theorem w64_of {n : Int} (h1 : -9223372036854775808 ≤ n) (h2 : n ≤ 9223372036854775807) : w64 n = n := IntWalk.i64_in n ⟨h1, h2⟩
theorem w64_succ {i : Nat} (h : i < 9223372036854775807) : w64 (Int.ofNat i + 1) = Int.ofNat (i + 1) := by
 rw [w64_of] <;> simp <;> omega
theorem inb_nat (i n : Nat) : inb (Int.ofNat i) n = decide (i < n) := by
 unfold inb
 have : (0 : Int) ≤ Int.ofNat i := Int.natCast_nonneg i
 simp
theorem inb_true {i : Int} {n : Nat} (h1 : 0 ≤ i) (h2 : i < n) : inb i n = true := by
 unfold inb; simp [h1, h2]
theorem lt_nat (i n : Nat) : decide (Int.ofNat i < Int.ofNat n) = decide (i < n) := by simp
theorem toNat_nat (i : Nat) : Int.toNat (Int.ofNat i) = i := rfl
theorem bif_t {α : Type} {c : Bool} (h : c = true) (x y : α) : (bif c then x else y) = x := by rw [h]; rfl
theorem bif_f {α : Type} {c : Bool} (h : c = false) (x y : α) : (bif c then x else y) = y := by rw [h]; rfl
theorem i64_wf {n : Int} (h : (Lit.int .i64 n).wf = true) : -9223372036854775808 ≤ n ∧ n ≤ 9223372036854775807 := by
 have e1 : IntKind.i64.min = -9223372036854775808 := rfl
 have e2 : IntKind.i64.max = 9223372036854775807 := rfl
 simpa [Lit.wf, e1, e2] using h
def I64 (n : Int) : Prop := -9223372036854775808 ≤ n ∧ n ≤ 9223372036854775807
def SlIn (r : Kd) (n : Nat) (f : Nat → Nat → CV) : Prop := n ≤ maxLen ∧ ∀ i j, i < n → j < r.len → (r.nth j).okP (f i j) ∧ (f i j).wf
end Go.Eng
