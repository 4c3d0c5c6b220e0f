/-
  The area of a valid shape.
-/
import Derived.Test.YtnpgipmbionmgaaPlNest
import Derived.Test.YtnpgipmbionmgaaGeo6
set_option linter.all false
namespace Go.Eng.R13
open Go Go.RowKit Go.Eng Geo
theorem jo (n : Nat) (f g : Nat → Nat → CV) (j c : Nat) (h : j < n) : joinF n f g j c = f j c := by
  unfold joinF
  rw [bif_t (by simpa [Nat.blt_eq] using h)]
theorem jn (n : Nat) (f g : Nat → Nat → CV) (j c : Nat) (h : n ≤ j) : joinF n f g j c = g (j - n) c := by
  unfold joinF
  rw [bif_f]
  cases hq : Nat.blt j n with
  | false => rfl
  | true => simp [Nat.blt_eq] at hq; omega
def harea (f2 : Nat → Nat → CV) (j : Nat) : Int := area (CV.len (f2 j 0)) (pt (CV.el (f2 j 0)))
theorem area_bd {n : Nat} {f : Nat → Nat → CV} (V : Valid n f) : -68719476736 ≤ area n (pt f) ∧ area n (pt f) ≤ 68719476736 := by
  have h := asum_bd V.big V.near n (Nat.le_refl n)
  have hs := V.small
  have e : area n (pt f) = sm n (aterm n f) := rfl
  rw [e]
  omega
theorem sm_bd {f : Nat → Int} {B : Int} (n : Nat) (h : ∀ i, i < n → -B ≤ f i ∧ f i ≤ B) : -(B * (n : Int)) ≤ sm n f ∧ sm n f ≤ B * (n : Int) := by
  induction n with
  | zero => simp [sm]
  | succ n ih =>
    have h1 := ih (fun i hi => h i (by omega))
    have h2 := h n (by omega)
    rw [sm]
    have e : B * ((n + 1 : Nat) : Int) = B * (n : Int) + B := by rw [Int.natCast_succ]; grind
    rw [e]
    omega
def cfh (n1 : Nat) (f1 f2 : Nat → Nat → CV) : Nat → Nat → CV := joinF 1 (rowsF 1 [(.ro false (.pr (.int .i64) (.pr (.int .i64) .nil)) n1 f1)]) f2
theorem cfh_succ (n1 : Nat) (f1 f2 : Nat → Nat → CV) (j : Nat) : cfh n1 f1 f2 (j + 1) 0 = f2 j 0 := by
  unfold cfh
  rw [jn _ _ _ _ _ (by omega)]
  rfl
theorem cfh_valid {n1 n2 : Nat} {f1 f2 : Nat → Nat → CV} (S : VShape n1 f1 n2 f2) {j : Nat} (h : j < 1 + n2) : Valid (CV.len (cfh n1 f1 f2 j 0)) (CV.el (cfh n1 f1 f2 j 0)) := by
  cases j with
  | zero => exact S.outer
  | succ j => rw [cfh_succ]; exact (S.hole j (by omega)).valid
theorem sums18 {ρ : Type} (N a b : Nat) (F c d : Nat → Nat → CV) (hN : N ≤ 9) (hV : ∀ j, j < N → Valid (CV.len (F j 0)) (CV.el (F j 0))) (k : Int → Option ρ) : ∀ (m i : Nat), N < m + i → i ≤ N → L18v1 100 N F (Int.ofNat N) a c b d m (sm i (harea F)) (Int.ofNat i) k = k (sm N (harea F)) := by
  intro m
  induction m with
  | zero => intro i h1 h2; omega
  | succ m ih =>
    intro i h1 h2
    unfold L18v1
    rw [lt_nat, inb_nat, toNat_nat]
    by_cases h : i < N
    · obtain ⟨x, hx, _, hx'⟩ := area_law (CV.len (F i 0)) (CV.el (F i 0))
      have hb := sm_bd (f := harea F) (B := 68719476736) (i + 1) (fun j hj => area_bd (hV j (by omega)))
      rw [bif_t (decide_eq_true h), bif_t (decide_eq_true h), hx, ob_some, hx' (hV i h), w64_succ (by omega)]
      have e : sm i (harea F) + area (CV.len (F i 0)) (pt (CV.el (F i 0))) = sm (i + 1) (harea F) := rfl
      rw [e, w64_of (by omega) (by omega)]
      exact ih (i + 1) (by omega) (by omega)
    · rw [bif_f (decide_eq_false h)]
      have : i = N := by omega
      rw [this]
theorem area18 {n1 n2 : Nat} {f1 f2 : Nat → Nat → CV} (S : VShape n1 f1 n2 f2) : F18 100 n1 f1 n2 f2 = some (area n1 (pt f1) + sm n2 (harea f2)) := by
  have few := S.few
  unfold F18 D18
  obtain ⟨c, h1, _, h3⟩ := shape_law n1 n2 f1 f2
  have hc := h3.2 S
  subst hc
  have c42 : F42 100 n1 f1 n2 f2 = some (1 + n2, cfh n1 f1 f2) := by
    unfold F42 D42
    rw [bif_t (by rw [Nat.ble_eq]; omega)]
    rfl
  rw [h1, ob_some, bif_f (by simp), c42, ob_some]
  refine (sums18 (1 + n2) n1 n2 (cfh n1 f1 f2) f1 f2 (by omega) (fun j hj => cfh_valid S hj) (fun x => some x) 100 0 (by omega) (by omega)).trans ?_
  congr 1
  have e := sm_shift n2 (harea (cfh n1 f1 f2))
  have e2 : sm n2 (fun i => harea (cfh n1 f1 f2) (i + 1)) = sm n2 (harea f2) := sm_congr fun i hi => by unfold harea; rw [cfh_succ]
  have e3 : sm (1 + n2) (harea (cfh n1 f1 f2)) = sm n2 (harea (cfh n1 f1 f2)) + harea (cfh n1 f1 f2) n2 := by rw [Nat.add_comm]; rfl
  have e4 : harea (cfh n1 f1 f2) 0 = area n1 (pt f1) := rfl
  rw [e3, ← e, e2, e4]
  omega
end Go.Eng.R13
