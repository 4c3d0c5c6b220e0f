/-
 NeedOrders: Edges and Order return what is specified.
-/
import Derived.Test.YtajhkinnmdlokaaNdEdges
set_option linter.all false
namespace Go.Eng.R13
open Go Go.RowKit Go.Eng
def Ends (m : Nat) (f f' : FF) : Prop := ∀ i, i < m → ea f i = ea f' i ∧ eb f i = eb f' i
theorem errE_congr {n : Int} {f f' : FF} : ∀ (d i : Nat), (∀ j, i ≤ j → j < i + d → ea f j = ea f' j ∧ eb f j = eb f' j) → errE n f i d = errE n f' i d
 | 0, i, h => rfl
 | d + 1, i, h => by
  unfold errE
  obtain ⟨h1, h2⟩ := h i (Nat.le_refl _) (by omega)
  rw [h1, h2, errE_congr d (i + 1) fun j hj1 hj2 => h j (by omega) (by omega)]
theorem run_congr {N m : Nat} {f f' : FF} (h : Ends m f f') : ∀ (d : Nat) (out : List Nat), run N m f d out = run N m f' d out := by
 have hw : ∀ out v, waits m f out v = waits m f' out v := fun out v => by
  rw [Bool.eq_iff_iff, waits_iff, waits_iff]
  exact ⟨fun ⟨i, h1, h2, h3⟩ => ⟨i, h1, (h i h1).2 ▸ h2, (h i h1).1 ▸ h3⟩, fun ⟨i, h1, h2, h3⟩ => ⟨i, h1, (h i h1).2.symm ▸ h2, (h i h1).1.symm ▸ h3⟩⟩
 have hn : ∀ out, next N m f out = next N m f' out := fun out => by
  unfold next
  exact find_congr fun v _ => by unfold free; rw [hw]
 intro d
 induction d with
 | zero => intro out; rfl
 | succ d ih =>
  intro out
  unfold run
  rw [hn]
  cases next N m f' out with
  | none => rfl
  | some v => exact ih _
theorem OrdR.congr {n : Int} {m : Nat} {f f' : FF} (h : Ends m f f') {k : Nat} {g : FF} {c : Int} (ho : OrdR n m f k g c) : OrdR n m f' k g c := by
 have he : errE n f 0 m = errE n f' 0 m := errE_congr m 0 fun j _ hj => h j (by omega)
 have hG : Good n m f → Good n m f' := fun hg i hi => by rw [← (h i hi).1, ← (h i hi).2]; exact hg i hi
 cases ho with
 | range _ h1 => exact .range _ h1
 | bad _ h1 h2 => rw [he] at h2 ⊢; exact .bad _ h1 h2
 | cycle _ h1 h2 h3 => exact .cycle _ h1 (hG h2) (by rw [← run_congr h]; exact h3)
 | order _ l h1 h2 h3 h4 => exact .order _ l h1 (hG h2) (by rw [← run_congr h]; exact h3) h4
section
variable {ρ : Type}
end
theorem OrdR.ok {n : Int} {m : Nat} {f : FF} {k : Nat} {g : FF} {c : Int} (h : OrdR n m f k g c) (hc : c = 0) : ∃ l, 0 ≤ n ∧ Good n m f ∧ run (Int.toNat n) m f (Int.toNat n) [] = some l ∧ k = Int.toNat n ∧ ∀ i, i < Int.toNat n → iv g i = ((l.getD i 0 : Nat) : Int) := by
 cases h with
 | range => cases hc
 | bad _ _ h => exact absurd hc h
 | cycle => cases hc
 | order _ l h1 h2 h3 h4 => exact ⟨l, h1.1, h2, h3, rfl, h4⟩
theorem l268 {ρ : Type} (u : Nat) (y : Int) (s : ByteArray) (a1 : Nat) (f1 : FF) (a2 : Nat) (f2 : FF) (a3 : Nat) (f3 : FF) (n : Nat) (f : FF) (a5 : Nat) (f5 : FF) (hn : n ≤ 1000000) (k0 k1 : Option ρ) :
  ∀ (d i t : Nat) (x : Int), x = (i : Int) → i + d = n → d < t → L268v1 u y s a1 f1 a2 f2 a3 f3 n f a5 f5 t x k0 k1 = k0 ∨ L268v1 u y s a1 f1 a2 f2 a3 f3 n f a5 f5 t x k0 k1 = k1
 | 0, i, t + 1, x, hx, hi, ht => by
  right
  unfold L268v1
  rw [show decide (x < Int.ofNat n) = false from decide_eq_false (by simp only [Int.ofNat_eq_natCast]; omega), cond_false]
 | d + 1, i, t + 1, x, hx, hi, ht => by
  have h1 : decide (x < Int.ofNat n) = true := decide_eq_true (by simp only [Int.ofNat_eq_natCast]; omega)
  have h2 : inb x n = true := inb_true (by omega) (by omega)
  have hx1 : w64 (x + 1) = ((i + 1 : Nat) : Int) := by rw [w64_of (by omega) (by omega)]; omega
  have ih := l268 u y s a1 f1 a2 f2 a3 f3 n f a5 f5 hn k0 k1 d (i + 1) t (w64 (x + 1)) hx1 (by omega) (by omega)
  unfold L268v1
  rw [h1, cond_true, h2, cond_true, cond_true]
  cases (decide (Int.ofNat (CV.len (f (Int.toNat x) 2)) > y) == false) with
  | false => left; rfl
  | true =>
   rw [cond_true]
   cases decide (Int.ofNat (CV.len (f (Int.toNat x) 4)) > y) with
   | true => left; rfl
   | false => rw [cond_false]; exact ih
theorem gt_bif {α : Type} (n : Nat) (x y : α) : (bif (decide (Int.ofNat n > 60) == false) then x else y) = if n ≤ 60 then x else y := by
 by_cases h : n ≤ 60
 ·rw [if_pos h, decide_eq_false (by simp only [Int.ofNat_eq_natCast]; omega)]; rfl
 ·rw [if_neg h, decide_eq_true (by simp only [Int.ofNat_eq_natCast]; omega)]; rfl
theorem few268 (u : Nat) (s : ByteArray) (a1 : Nat) (f1 : FF) (a2 : Nat) (f2 : FF) (a3 : Nat) (f3 : FF) (a4 : Nat) (f4 : FF) (a5 : Nat) (f5 : FF) (hu : 4000 ≤ u) :
  ∃ b, F268 u s a1 f1 a2 f2 a3 f3 a4 f4 a5 f5 60 = some b ∧ (b = true → a1 ≤ 60 ∧ a2 ≤ 60 ∧ a3 ≤ 60 ∧ a4 ≤ 60 ∧ a5 ≤ 60) := by
 unfold F268
 simp only [gt_bif]
 by_cases h1 : a1 ≤ 60
 ·rw [if_pos h1]
  by_cases h2 : a2 ≤ 60
  ·rw [if_pos h2]
   by_cases h3 : a3 ≤ 60
   ·rw [if_pos h3]
    by_cases h4 : a4 ≤ 60
    ·rw [if_pos h4]
     by_cases h5 : a5 ≤ 60
     ·rw [decide_eq_false (show ¬ Int.ofNat a5 > 60 by simp only [Int.ofNat_eq_natCast]; omega), cond_false]
      rcases l268 u 60 s a1 f1 a2 f2 a3 f3 a4 f4 a5 f5 (by omega) (some false) (some true) a4 0 u 0 rfl (by omega) (by omega) with h | h
      ·exact ⟨false, h, fun h => by cases h⟩
      ·exact ⟨true, h, fun _ => ⟨h1, h2, h3, h4, h5⟩⟩
     ·rw [decide_eq_true (show Int.ofNat a5 > 60 by simp only [Int.ofNat_eq_natCast]; omega), cond_true]
      exact ⟨false, rfl, fun h => by cases h⟩
    ·rw [if_neg h4]; exact ⟨false, rfl, fun h => by cases h⟩
   ·rw [if_neg h3]; exact ⟨false, rfl, fun h => by cases h⟩
  ·rw [if_neg h2]; exact ⟨false, rfl, fun h => by cases h⟩
 ·rw [if_neg h1]; exact ⟨false, rfl, fun h => by cases h⟩
theorem few274 (u : Nat) (s : ByteArray) (a1 : Nat) (f1 : FF) (a2 : Nat) (f2 : FF) (a3 : Nat) (f3 : FF) (a4 : Nat) (f4 : FF) (a5 : Nat) (f5 : FF) (r : Nat) (rf : FF) (d : Nat) (df : FF) (hu : 4000 ≤ u) :
  ∃ b, F274 u s a1 f1 a2 f2 a3 f3 a4 f4 a5 f5 r rf d df = some b ∧ (b = true → a1 ≤ 60 ∧ a2 ≤ 60 ∧ a3 ≤ 60 ∧ a4 ≤ 60 ∧ a5 ≤ 60 ∧ r ≤ 60 ∧ d ≤ 60) := by
 obtain ⟨b, e, hb⟩ := few268 u s a1 f1 a2 f2 a3 f3 a4 f4 a5 f5 hu
 unfold F274
 rw [e, ob_some]
 cases b with
 | false => exact ⟨false, rfl, fun h => by cases h⟩
 | true =>
  rw [show (true == true) = true from rfl, cond_true]
  by_cases hr : Int.ofNat r ≤ 60
  ·rw [decide_eq_true hr, show (true == true) = true from rfl, cond_true]
   refine ⟨_, rfl, fun h => ?_⟩
   have h := of_decide_eq_true h
   simp only [Int.ofNat_eq_natCast] at h hr
   have := hb rfl
   omega
  ·rw [decide_eq_false hr]
   exact ⟨false, rfl, fun h => by cases h⟩
end Go.Eng.R13
