/-
 NeedOpen: a block of the design is ready exactly if it is not erected and no requirement is open.
-/
import Derived.Test.YtajhkinnmdlokaaNdReady
set_option linter.all false
namespace Go.Eng.R13
open Go Go.RowKit Go.Eng
theorem unmet_kind {K : Int} {on : ByteArray} {R D : List ByteArray} (h : metB K on R D = false) : K = 1 ∨ K = 2 ∨ K = 3 := by
 unfold metB at h
 by_cases h1 : K = 1
 ·exact .inl h1
 ·by_cases h2 : K = 2
  ·exact .inr (.inl h2)
  ·by_cases h3 : K = 3
   ·exact .inr (.inr h3)
   ·rw [decide_eq_false h1, decide_eq_false h2, decide_eq_false h3] at h; cases h
theorem anyK_iff {l : List (Int × ByteArray × ByteArray)} {z : Int} : anyK l z = true ↔ ∃ x, x ∈ l ∧ x.1 = z := by
 unfold anyK
 rw [List.any_eq_true]
 exact ⟨fun ⟨x, h1, h2⟩ => ⟨x, h1, of_decide_eq_true h2⟩, fun ⟨x, h1, h2⟩ => ⟨x, h1, decide_eq_true h2⟩⟩
theorem mem_opens {block : ByteArray} {R D : List ByteArray} {m : Nat} {f : FF} {x : Int × ByteArray × ByteArray} : x ∈ opens block R D m f ↔ (∃ i, i < m ∧ nd f i = x) ∧ x.2.1 = block ∧ metB x.1 x.2.2 R D = false := by
 unfold opens opB nds
 rw [List.mem_filter, Bool.and_eq_true, decide_eq_true_iff, Bool.not_eq_true', List.mem_map]
 exact ⟨fun ⟨⟨i, h1, h2⟩, h3⟩ => ⟨⟨i, List.mem_range.1 h1, h2⟩, h3⟩, fun ⟨⟨i, h1, h2⟩, h3⟩ => ⟨⟨i, List.mem_range.2 h1, h2⟩, h3⟩⟩
theorem rdE_zero {block : ByteArray} {R D : List ByteArray} {m : Nat} {f : FF} : rdE (opens block R D m f) = 0 ↔ opens block R D m f = [] := by
 constructor
 ·intro h
  cases hl : opens block R D m f with
  | nil => rfl
  | cons x l =>
   exfalso
   have hx : x ∈ opens block R D m f := by rw [hl]; exact .head _
   have hk := unmet_kind (mem_opens.1 hx).2.2
   unfold rdE at h
   cases h1 : anyK (opens block R D m f) 1 with
   | true => rw [h1] at h; cases h
   | false =>
    cases h2 : anyK (opens block R D m f) 2 with
    | true => rw [h1, h2] at h; cases h
    | false =>
     cases h3 : anyK (opens block R D m f) 3 with
     | true => rw [h1, h2, h3] at h; cases h
     | false =>
      rcases hk with hk | hk | hk
      ·rw [anyK_iff.2 ⟨x, hx, hk⟩] at h1; cases h1
      ·rw [anyK_iff.2 ⟨x, hx, hk⟩] at h2; cases h2
      ·rw [anyK_iff.2 ⟨x, hx, hk⟩] at h3; cases h3
 ·intro h; rw [h]; rfl
theorem ready_zero {block : ByteArray} {B R D : List ByteArray} {m : Nat} {f : FF} : readyE block B R D m f = 0 ↔ hasB block B = true ∧ hasB block R = false ∧ opens block R D m f = [] := by
 unfold readyE
 cases h1 : hasB block B with
 | false =>
  constructor
  ·intro h; cases h
  ·intro h; cases h.1
 | true =>
  cases h2 : hasB block R with
  | true =>
   constructor
   ·intro h; cases h
   ·intro h; cases h.2.1
  | false => exact rdE_zero.trans ⟨fun h => ⟨rfl, rfl, h⟩, fun h => h.2.2⟩
section
variable {ρ : Type}
end
end Go.Eng.R13
