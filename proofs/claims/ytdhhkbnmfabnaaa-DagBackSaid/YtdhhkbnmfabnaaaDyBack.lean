/-
 DagBack: there is no path back, and an edge back makes a cycle.
-/
import Derived.Test.YtdhhkbnmfabnaaaDyPath
set_option linter.all false
namespace Go.Eng.R13
open Go Go.RowKit Go.Eng
def snocE (m : Nat) (f : FF) (b a : Int) : FF := joinF (0 + m) (joinF 0 (rowsF 2 []) f) (rowsF 2 [(.i .i64 b), (.i .i64 a)])
theorem snocE_old {m : Nat} {f : FF} {b a : Int} {i : Nat} (h : i < m) (j : Nat) : snocE m f b a i j = f i j := by
 unfold snocE joinF
 have h1 : Nat.blt i (0 + m) = true := by rw [Nat.blt_eq]; omega
 have h2 : Nat.blt i 0 = false := by
  cases q : Nat.blt i 0 with
  | false => rfl
  | true => rw [Nat.blt_eq] at q; omega
 rw [h1, cond_true, h2, cond_false, Nat.sub_zero]
theorem snocE_new {m : Nat} {f : FF} {b a : Int} : ea (snocE m f b a) m = b ∧ eb (snocE m f b a) m = a := by
 have h1 : Nat.blt m (0 + m) = false := by
  cases q : Nat.blt m (0 + m) with
  | false => rfl
  | true => rw [Nat.blt_eq] at q; omega
 unfold ea eb snocE joinF
 rw [h1, cond_false, cond_false, Nat.zero_add, Nat.sub_self]
 exact ⟨rfl, rfl⟩
theorem back10 (n : Int) (_ : I64 n) (m : Nat) (f : FF) (_ : SlIn (.pr (.int .i64) (.pr (.int .i64) .nil)) m f) (a : Int) (b : Int) (_ : I64 a) (_ : I64 b) : F247 400 n m f a b = some true := by
 unfold F247
 by_cases hm : (Int.ofNat m) > 299
 ·rw [show (decide ((Int.ofNat m) > 299) == false) = false by rw [decide_eq_true hm]; rfl, cond_false, awake_law]; rfl
 ·have hm' : m ≤ 299 := by simp only [Int.ofNat_eq_natCast] at hm; omega
  rw [show (decide ((Int.ofNat m) > 299) == false) = true by rw [decide_eq_false hm]; rfl, cond_true]
  obtain ⟨B, e1, h1⟩ := before232 400 n m f a b (by omega) (by omega) (by omega)
  rw [e1, ob_some]
  cases B with
  | false => rw [show (!false) = true from rfl, cond_true, awake_law]; rfl
  | true =>
   obtain ⟨hA, ha, hb, hp⟩ := h1.1 rfl
   obtain ⟨p, ht⟩ := hA.topo
   have hne : a ≠ b := fun e => ht.irrefl (a := a.toNat) (by omega) (by rw [← e] at hp; exact hp)
   obtain ⟨B2, e2, h2⟩ := before232 400 n m f b a (by omega) (by omega) (by omega)
   obtain ⟨B3, e3, h3⟩ := before232 400 n m f b b (by omega) (by omega) (by omega)
   have f2 : B2 = false := by
    cases B2 with
    | false => rfl
    | true => exact (ht.irrefl (a := a.toNat) (by omega) (hp.trans (h2.1 rfl).2.2.2)).elim
   have f3 : B3 = false := by
    cases B3 with
    | false => rfl
    | true => exact (ht.irrefl (a := b.toNat) (by omega) (h3.1 rfl).2.2.2).elim
   obtain ⟨k, g, c, e4, h4⟩ := order225 400 n (m + 1) (snocE m f b a) (by omega) (by omega) (by omega)
   have hE : ∀ x y, Ed m f x y → Ed (m + 1) (snocE m f b a) x y := fun x y ⟨i, hi, q1, q2⟩ => ⟨i, by omega, by unfold ea; rw [snocE_old hi]; exact q1, by unfold eb; rw [snocE_old hi]; exact q2⟩
   have hnew : Ed (m + 1) (snocE m f b a) b.toNat a.toNat := ⟨m, by omega, by rw [snocE_new.1]; omega, by rw [snocE_new.2]; omega⟩
   have hg' : Good n (m + 1) (snocE m f b a) := fun i hi => by
    by_cases q : i < m
    ·have := hA.2.1 i q
     unfold ea eb
     rw [snocE_old q, snocE_old q]
     exact this
    ·have : i = m := by omega
     subst this
     rw [snocE_new.1, snocE_new.2]
     exact ⟨hb.1, hb.2, ha.1, ha.2, fun e => hne e.symm⟩
   have hc : c = 20 := by
    cases h4 with
    | range _ h => have := hA.1; omega
    | bad _ h he => exact (he (good_iff.2 hg')).elim
    | cycle => rfl
    | order _ l h hg hr hl =>
     obtain ⟨_, ht'⟩ := topo_of (fun i hi => (hg i hi).1) hr
     exact (ht'.irrefl (a := a.toNat) (by omega) (.snoc (hp.mono hE) hnew)).elim
   rw [show (!true) = false from rfl, cond_false, show Nat.ble (0 + m) 1073741824 = true by rw [Nat.ble_eq]; omega, cond_true, show Nat.ble ((0 + m) + 1) 1073741824 = true by rw [Nat.ble_eq]; omega, cond_true]
   rw [show ((0 + m) + 1) = m + 1 by omega]
   show (ob (F225 400 n (m + 1) (snocE m f b a)) _) = _
   rw [e4, ob_some, show ((a != b) == true) = true by simp [hne], cond_true, e2, ob_some, f2, show ((!false) == true) = true from rfl, cond_true, e3, ob_some, f3, show ((!false) == true) = true from rfl, cond_true]
   dsimp only
   rw [hc, show (((20 : Int) == 20) == true) = true from rfl, cond_true, awake_law]; rfl
end Go.Eng.R13
