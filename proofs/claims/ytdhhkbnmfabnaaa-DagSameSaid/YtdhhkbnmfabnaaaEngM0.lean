import Derived.Test.YtdhhkbnmfabnaaaEngL
set_option linter.all false
namespace Go.Eng
open Go Go.RowKit
section
variable {ρ : Type} {C : Oracle} {hb : Nat} {st : St}
theorem bif_bind {α β : Type} (c : Bool) (x y : Option α) (f : α → Option β) : (bif c then x else y).bind f = bif c then x.bind f else y.bind f := by cases c <;> rfl
theorem bnd_bind {st : St} {d : Nat} {x : Option Operand} {hi : Nat} {α β : Type} (k : Nat → Option α) (f : α → Option β) :
  (bnd st d x hi k).bind f = bnd st d x hi fun n => (k n).bind f := by
 unfold bnd
 cases x with
 | none => rfl
 | some y =>
  dsimp only
  split
  ·rw [bif_bind]; rfl
  ·rfl
theorem call_bind {f : FuncId} {as : List A} {α β : Type} (K : List A → Option α) (g : α → Option β) : (C.call f as K).bind g = C.call f as fun res => (K res).bind g := by
 rw [C.nat f as K, C.nat f as fun res => (K res).bind g, Option.bind_assoc]
theorem evalOp_bind (o : AOp) (k : V → St → Option ρ) : evalOp C hb st o k = (evalOp C hb st o fun v s => some (v, s)).bind fun p => k p.1 p.2 := by
 cases o <;> simp only [evalOp, newB, callF] <;> (repeat' (first | rfl | (rw [idxK_bind]; congr 1; funext i) | (rw [bif_bind]) | (rw [bnd_bind]) | (rw [call_bind]; congr 1; funext res) | split))
 all_goals (simp only [bif_bind, bnd_bind, call_bind]; first | rfl | simp)
end
end Go.Eng
