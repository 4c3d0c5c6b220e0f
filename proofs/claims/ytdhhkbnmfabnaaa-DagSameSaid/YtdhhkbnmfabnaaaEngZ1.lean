/-
 A run that is taken up anew; the iterator of slices.Backward.
-/
import Derived.Test.YtdhhkbnmfabnaaaEngQ
import Derived.RangeFuncCalls
import Derived.RangeFuncRecord
set_option linter.all false
namespace Go.Eng
open Go Go.RowKit
variable {df : DF}
theorem BelowB.step {w0 : Base} {w' w'' : World} {own' : Nat → Prop} (h : BelowB w0 w') (ho : ∀ g, own' g → w0.w.heap.size ≤ g ∨ w0.own g) (k : BelowB ⟨w', own'⟩ w'') : BelowB w0 w'' := by
 refine ⟨k.os.trans h.os, k.tape.trans h.tape, k.output.trans h.output, Nat.le_trans h.size k.size, fun g hg hn => ?_, fun g hg cur e hc => ?_, Nat.le_trans h.drawn k.drawn⟩
 ·refine (k.block g (Nat.lt_of_lt_of_le hg h.size) fun q => ?_).trans (h.block g hg hn)
  rcases ho g q with q | q
  ·omega
  ·exact hn q
 ·obtain ⟨cur', h1, h2⟩ := h.lent g hg cur e hc
  have hlt : g < w'.heap.size := (Array.getElem?_eq_some_iff.1 h1).1
  by_cases q : own' g
  ·obtain ⟨cur'', h3, h4⟩ := k.lent g q cur' e h1
   exact ⟨cur'', h3, h4.trans h2⟩
  ·exact ⟨cur', (k.block g hlt q).trans h1, h2⟩
theorem BelowB.refl (w : World) (own : Nat → Prop) : BelowB ⟨w, own⟩ w := ⟨rfl, rfl, rfl, Nat.le_refl _, fun _ _ _ => rfl, fun _ _ cur e h => ⟨cur, h, rfl⟩, Nat.le_refl _⟩
def rg (μ : Nat → Option Nat) : Nat → Prop := fun g => ∃ b, μ b = some g
section
variable {P : Program} {C : Oracle} {w0 : Base} {okA : Nat → Prop} {μ : Nat → Option Nat} {ok : Nat → Prop} {H : List Blk} {w w' : World}
theorem MR.rebase (hm : MR w0 okA μ ok H w) (hh : ∀ g, (ok g ∨ rg μ g) → w'.heap[g]? = w.heap[g]?) (hsz : w.heap.size ≤ w'.heap.size) : MR ⟨w', rg μ⟩ ok μ ok H w' ∧ Ext μ ok w H μ ok w' H := by
 have E : Ext μ ok w H μ ok w' H := ⟨fun g hg => ⟨hg, hh g (.inl hg)⟩, fun b hb => hb, fun b cs hb => .inr ⟨⟨cs, hb⟩, rfl⟩, fun b r n f hb => .inr ⟨⟨f, hb⟩, rfl, fun g cur e hg hw => ⟨cur, e, by rw [hh g (.inr ⟨b, hg⟩)]; exact hw, rfl⟩⟩⟩
 refine ⟨⟨BelowB.refl w' _, fun g hg => ⟨Nat.lt_of_lt_of_le (hm.okd g hg).1 hsz, .inl hg⟩, fun g hg => hg, fun b g hg => ⟨.inr ⟨b, hg⟩, Nat.lt_of_lt_of_le (hm.fresh b g hg).2.1 hsz, (hm.fresh b g hg).2.2⟩, hm.inj, fun b o ho => E.blk rfl (fun g hg => hh g (.inr ⟨b, hg⟩)) (hm.blk b o ho), fun b g r n f _ _ hg => ⟨b, hg⟩⟩, E⟩
theorem MR.init (h : ∀ g, okA g → g < w.heap.size) : MR ⟨w, fun _ => False⟩ okA (fun _ => none) okA ([] : List Blk) w :=
 ⟨BelowB.refl w _, fun g hg => ⟨h g hg, .inl hg⟩, fun g hg => hg, (fun b g hg => by cases hg), (fun b b' g hg => by cases hg), (fun b o hb => by simp at hb), (fun b g r n f hb => by simp at hb)⟩
end
end Go.Eng
