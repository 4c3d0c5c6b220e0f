/-
 NeedOpen: a block of the design is ready exactly if it is not erected and no requirement is open.
-/
import Derived.Test.YtajhkinnmdlokaaNdReady
set_option linter.all false
namespace Go.Eng.R13
open Go Go.RowKit Go.Eng
theorem hasB_bls (n : Nat) (f : FF) (s : ByteArray) : hasB s (bls n f) = (List.range n).any fun j => decide (sv f j = s) && isBl f j := by
 unfold hasB bls
 rw [List.any_map, List.any_filter]
 congr 1
 funext j
 show (isBl f j && decide (sv f j = s)) = _
 rw [Bool.and_comm]
theorem unmet_kind {K : Int} {on : ByteArray} {R D : List ByteArray} (h : metB K on R D = false) : K = 1 ∨ K = 2 ∨ K = 3 := by
 unfold metB at h
 by_cases h1 : K = 1
 ·exact .inl h1
 ·by_cases h2 : K = 2
  ·exact .inr (.inl h2)
  ·by_cases h3 : K = 3
   ·exact .inr (.inr h3)
   ·rw [decide_eq_false h1, decide_eq_false h2, decide_eq_false h3] at h; cases h
theorem anyK_iff {l : List (Int × ByteArray × ByteArray)} {z : Int} : anyK l z = true ↔ ∃ x, x ∈ l ∧ x.1 = z := by
 unfold anyK
 rw [List.any_eq_true]
 exact ⟨fun ⟨x, h1, h2⟩ => ⟨x, h1, of_decide_eq_true h2⟩, fun ⟨x, h1, h2⟩ => ⟨x, h1, decide_eq_true h2⟩⟩
theorem mem_opens {block : ByteArray} {R D : List ByteArray} {m : Nat} {f : FF} {x : Int × ByteArray × ByteArray} : x ∈ opens block R D m f ↔ (∃ i, i < m ∧ nd f i = x) ∧ x.2.1 = block ∧ metB x.1 x.2.2 R D = false := by
 unfold opens opB nds
 rw [List.mem_filter, Bool.and_eq_true, decide_eq_true_iff, Bool.not_eq_true', List.mem_map]
 exact ⟨fun ⟨⟨i, h1, h2⟩, h3⟩ => ⟨⟨i, List.mem_range.1 h1, h2⟩, h3⟩, fun ⟨⟨i, h1, h2⟩, h3⟩ => ⟨⟨i, List.mem_range.2 h1, h2⟩, h3⟩⟩
theorem rdE_zero {block : ByteArray} {R D : List ByteArray} {m : Nat} {f : FF} : rdE (opens block R D m f) = 0 ↔ opens block R D m f = [] := by
 constructor
 ·intro h
  cases hl : opens block R D m f with
  | nil => rfl
  | cons x l =>
   exfalso
   have hx : x ∈ opens block R D m f := by rw [hl]; exact .head _
   have hk := unmet_kind (mem_opens.1 hx).2.2
   unfold rdE at h
   cases h1 : anyK (opens block R D m f) 1 with
   | true => rw [h1] at h; cases h
   | false =>
    cases h2 : anyK (opens block R D m f) 2 with
    | true => rw [h1, h2] at h; cases h
    | false =>
     cases h3 : anyK (opens block R D m f) 3 with
     | true => rw [h1, h2, h3] at h; cases h
     | false =>
      rcases hk with hk | hk | hk
      ·rw [anyK_iff.2 ⟨x, hx, hk⟩] at h1; cases h1
      ·rw [anyK_iff.2 ⟨x, hx, hk⟩] at h2; cases h2
      ·rw [anyK_iff.2 ⟨x, hx, hk⟩] at h3; cases h3
 ·intro h; rw [h]; rfl
theorem ready_zero {block : ByteArray} {B R D : List ByteArray} {m : Nat} {f : FF} : readyE block B R D m f = 0 ↔ hasB block B = true ∧ hasB block R = false ∧ opens block R D m f = [] := by
 unfold readyE
 cases h1 : hasB block B with
 | false =>
  constructor
  ·intro h; cases h
  ·intro h; cases h.1
 | true =>
  cases h2 : hasB block R with
  | true =>
   constructor
   ·intro h; cases h
   ·intro h; cases h.2.1
  | false => exact rdE_zero.trans ⟨fun h => ⟨rfl, rfl, h⟩, fun h => h.2.2⟩
section
variable {ρ : Type}
theorem l281v1 (u : Nat) (x7 : Nat → CV) (k0 : Bool → Option ρ) (hn : CV.len (x7 1) ≤ 1000000) : ∀ (d i t : Nat) (x : Int) (b : Bool), x = (i : Int) → i + d = CV.len (x7 1) → d < t →
  L281v1 u x7 t b x k0 = k0 (b || (List.range' i d).any fun j => decide (sv (CV.el (x7 1)) j = CV.str (x7 8)) && isBl (CV.el (x7 1)) j)
 | 0, i, t + 1, x, b, hx, hi, ht => by
  unfold L281v1
  rw [show decide (x < Int.ofNat (CV.len (x7 1))) = false from decide_eq_false (by simp only [Int.ofNat_eq_natCast]; omega), cond_false]; simp
 | d + 1, i, t + 1, x, b, hx, hi, ht => by
  have h1 : decide (x < Int.ofNat (CV.len (x7 1))) = true := decide_eq_true (by simp only [Int.ofNat_eq_natCast]; omega)
  have h2 : inb x (CV.len (x7 1)) = true := inb_true (by omega) (by omega)
  have h3 : Int.toNat x = i := by omega
  have hx1 : w64 (x + 1) = ((i + 1 : Nat) : Int) := by rw [w64_of (by omega) (by omega)]; omega
  unfold L281v1
  rw [h1, cond_true, h2, cond_true, cond_true, h3, tl_eq, int_beq]
  cases b with
  | true => rw [show (true == false) = false from rfl, cond_false, l281v1 u x7 k0 hn d (i + 1) t _ _ hx1 (by omega) (by omega), Bool.true_or, Bool.true_or]
  | false =>
   rw [show (false == false) = true from rfl, cond_true, List.range'_succ, List.any_cons, Bool.false_or]
   show (bif decide (sv (CV.el (x7 1)) i = CV.str (x7 8)) == true then L281v1 u x7 t (isBl (CV.el (x7 1)) i) (w64 (x + 1)) k0 else L281v1 u x7 t false (w64 (x + 1)) k0) = _
   rw [l281v1 u x7 k0 hn d (i + 1) t _ _ hx1 (by omega) (by omega), l281v1 u x7 k0 hn d (i + 1) t _ _ hx1 (by omega) (by omega)]
   cases decide (sv (CV.el (x7 1)) i = CV.str (x7 8)) <;> rfl
theorem l281v2 (u : Nat) (y : Bool) (x7 : Nat → CV) (k0 : Bool → Option ρ) (hn : CV.len (x7 6) ≤ 1000000) : ∀ (d i t : Nat) (x : Int) (b : Bool), x = (i : Int) → i + d = CV.len (x7 6) → d < t →
  L281v2 u y x7 t b x k0 = k0 (b || (List.range' i d).any fun j => decide (sv (CV.el (x7 6)) j = CV.str (x7 8)))
 | 0, i, t + 1, x, b, hx, hi, ht => by
  unfold L281v2
  rw [show decide (x < Int.ofNat (CV.len (x7 6))) = false from decide_eq_false (by simp only [Int.ofNat_eq_natCast]; omega), cond_false]; simp
 | d + 1, i, t + 1, x, b, hx, hi, ht => by
  have h1 : decide (x < Int.ofNat (CV.len (x7 6))) = true := decide_eq_true (by simp only [Int.ofNat_eq_natCast]; omega)
  have h2 : inb x (CV.len (x7 6)) = true := inb_true (by omega) (by omega)
  have h3 : Int.toNat x = i := by omega
  have hx1 : w64 (x + 1) = ((i + 1 : Nat) : Int) := by rw [w64_of (by omega) (by omega)]; omega
  unfold L281v2
  rw [h1, cond_true, h2, cond_true, h3, tl_eq]
  cases b with
  | true => rw [show (true == false) = false from rfl, cond_false, l281v2 u y x7 k0 hn d (i + 1) t _ _ hx1 (by omega) (by omega), Bool.true_or, Bool.true_or]
  | false =>
   rw [show (false == false) = true from rfl, cond_true, List.range'_succ, List.any_cons, Bool.false_or, l281v2 u y x7 k0 hn d (i + 1) t _ _ hx1 (by omega) (by omega)]
end
theorem nds_len (k : Nat) (g : FF) : (nds k g).length = k := by simp [nds]
theorem open51 (x : Nat → CV) (_ : RowIn kR0 x) : F281 4000 x = some true := by
 obtain ⟨b, e, hb⟩ := few274 4000 (CV.str (x 0)) (CV.len (x 1)) (CV.el (x 1)) (CV.len (x 2)) (CV.el (x 2)) (CV.len (x 3)) (CV.el (x 3)) (CV.len (x 4)) (CV.el (x 4)) (CV.len (x 5)) (CV.el (x 5)) (CV.len (x 6)) (CV.el (x 6)) (CV.len (x 7)) (CV.el (x 7)) (Nat.le_refl _)
 unfold F281
 rw [e, ob_some]
 cases b with
 | false => rw [Bool.not_false, cond_true, awake_law]; rfl
 | true =>
  rw [Bool.not_true, cond_false]
  obtain ⟨h1, h2, h3, h4, h5, h6, h7⟩ := hb rfl
  obtain ⟨r1, _⟩ := ready263 4000 (CV.str (x 0)) (CV.len (x 1)) (CV.el (x 1)) (CV.len (x 2)) (CV.el (x 2)) (CV.len (x 3)) (CV.el (x 3)) (CV.len (x 4)) (CV.el (x 4)) (CV.len (x 5)) (CV.el (x 5)) (CV.len (x 6)) (CV.el (x 6)) (CV.len (x 7)) (CV.el (x 7)) (CV.str (x 8)) (by omega) (by omega) (by omega) (by omega) (Nat.le_refl _)
  obtain ⟨k, g, b1, b2, b3, b4⟩ := open259 4000 (CV.str (x 0)) (CV.len (x 1)) (CV.el (x 1)) (CV.len (x 2)) (CV.el (x 2)) (CV.len (x 3)) (CV.el (x 3)) (CV.len (x 4)) (CV.el (x 4)) (CV.len (x 5)) (CV.el (x 5)) (CV.len (x 6)) (CV.el (x 6)) (CV.len (x 7)) (CV.el (x 7)) (CV.str (x 8)) (by omega) (by omega) (by omega) (by omega) (by omega) (by omega)
  rw [l281v1 4000 x _ (by omega) (CV.len (x 1)) 0 4000 0 false rfl (by omega) (by omega), Bool.false_or, ← List.range_eq_range', ← hasB_bls,
   l281v2 4000 _ x _ (by omega) (CV.len (x 6)) 0 4000 0 false rfl (by omega) (by omega), Bool.false_or, any_mem, b3, ob_some, r1, ob_some, awake_law]
  dsimp only
  simp only [ob_some]
  have hz := @ready_zero (CV.str (x 8)) (bls (CV.len (x 1)) (CV.el (x 1))) (strs (CV.len (x 6)) (CV.el (x 6))) (strs (CV.len (x 7)) (CV.el (x 7))) (CV.len (x 5)) (CV.el (x 5))
  have hl : k = (opens (CV.str (x 8)) (strs (CV.len (x 6)) (CV.el (x 6))) (strs (CV.len (x 7)) (CV.el (x 7))) (CV.len (x 5)) (CV.el (x 5))).length := by rw [← b2, nds_len]
  rw [int_beq]
  cases q1 : hasB (CV.str (x 8)) (bls (CV.len (x 1)) (CV.el (x 1))) with
  | false =>
   have : ¬ readyE (CV.str (x 8)) (bls (CV.len (x 1)) (CV.el (x 1))) (strs (CV.len (x 6)) (CV.el (x 6))) (strs (CV.len (x 7)) (CV.el (x 7))) (CV.len (x 5)) (CV.el (x 5)) = 0 := fun h => by
    have := (hz.1 h).1; rw [q1] at this; cases this
   rw [decide_eq_false this]; rfl
  | true =>
   cases q2 : hasB (CV.str (x 8)) (strs (CV.len (x 6)) (CV.el (x 6))) with
   | true =>
    have : ¬ readyE (CV.str (x 8)) (bls (CV.len (x 1)) (CV.el (x 1))) (strs (CV.len (x 6)) (CV.el (x 6))) (strs (CV.len (x 7)) (CV.el (x 7))) (CV.len (x 5)) (CV.el (x 5)) = 0 := fun h => by
     have := (hz.1 h).2.1; rw [q2] at this; cases this
    rw [decide_eq_false this]; rfl
   | false =>
    by_cases hk : k = 0
    ·have h0 : readyE (CV.str (x 8)) (bls (CV.len (x 1)) (CV.el (x 1))) (strs (CV.len (x 6)) (CV.el (x 6))) (strs (CV.len (x 7)) (CV.el (x 7))) (CV.len (x 5)) (CV.el (x 5)) = 0 :=
      hz.2 ⟨q1, q2, List.eq_nil_of_length_eq_zero (by omega)⟩
     subst hk
     rw [decide_eq_true h0]; rfl
    ·have h0 : ¬ readyE (CV.str (x 8)) (bls (CV.len (x 1)) (CV.el (x 1))) (strs (CV.len (x 6)) (CV.el (x 6))) (strs (CV.len (x 7)) (CV.el (x 7))) (CV.len (x 5)) (CV.el (x 5)) = 0 := fun h => by
      have := (hz.1 h).2.2
      rw [this] at hl
      exact hk hl
     have h1 : (Int.ofNat k == 0) = false := by simp; omega
     rw [decide_eq_false h0, h1]; rfl
end Go.Eng.R13
