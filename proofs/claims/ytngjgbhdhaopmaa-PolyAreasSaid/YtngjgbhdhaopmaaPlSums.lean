/-
 RegionSums: the plain law.
-/
import Derived.Test.YtngjgbhdhaopmaaPlGreat
import Derived.Test.YtngjgbhdhaopmaaPlCheck
import Derived.Test.YtngjgbhdhaopmaaPlBounds
set_option linter.all false
namespace Go.Eng.R13
open Go Go.RowKit Go.Eng Geo
theorem f33v37 (n : Nat) (f : Nat → Nat → CV) : F33 100 n f = F37 100 n f:=by
 obtain ⟨c,h1,h2,_⟩ := check_law n f
 rw [h1,h2]
theorem f34v38 (n : Nat) (f : Nat → Nat → CV) : F34 100 n f = F38 100 n f:=by
 obtain ⟨c,h1,h2,_⟩ := area_law n f
 rw [h1,h2]
theorem l43v45 {ρ : Type} (n : Nat) (f : Nat → Nat → CV) (k : Int → Int → Option ρ) : ∀ (m : Nat) (a b i : Int),L43v1 100 n f (Int.ofNat n) m a b i k = L45v1 100 n f m a b i k:=by
 intro m
 induction m with
 | zero => intro a b i;rfl
 | succ m ih =>
  intro a b i
  unfold L43v1 L45v1
  rw [ih,Int.mul_comm (CV.int (f (Int.toNat (Int.tmod (w64 (i + 1)) (Int.ofNat n))) 0)) (CV.int (f (Int.toNat i) 1))]
theorem f43v45 (n : Nat) (f : Nat → Nat → CV) : F43 100 n f = F45 100 n f:=by
 unfold F43 F45
 rw [f33v37]
 refine congrArg (ob (F37 100 n f)) (funext fun c => ?_)
 rw [l43v45]
theorem some43 {ρ : Type} (n : Nat) (f : Nat → Nat → CV) (hn : n ≤ 32) (h0 : 0 < n) (k : Int → Int → Option ρ) : ∀ (m i : Nat) (a b : Int),n < m + i → i ≤ n → ∃ x y,L43v1 100 n f (Int.ofNat n) m a b (Int.ofNat i) k = k x y:=by
 intro m
 induction m with
 | zero => intro i a b h1 h2;omega
 | succ m ih =>
  intro i a b h1 h2
  unfold L43v1
  rw [lt_nat,inb_nat,toNat_nat]
  by_cases h : i < n
  ·have hx : (i + 1) % n < n := Nat.mod_lt _ h0
   rw [bif_t (decide_eq_true h),bif_t (decide_eq_true h),bif_f (ofNat_ne0 h0),w64_succ (by omega),tmod_nat,inb_nat,toNat_nat,bif_t (decide_eq_true hx)]
   exact ih (i + 1) _ _ (by omega) (by omega)
  ·rw [bif_f (decide_eq_false h)]
   exact ⟨a,b,rfl⟩
theorem f43_some (n : Nat) (f : Nat → Nat → CV) : ∃ x,F43 100 n f = some x:=by
 unfold F43
 obtain ⟨c,h1,_,h3⟩ := check_law n f
 rw [h1,ob_some]
 by_cases hc : c = 0
 ·have V := h3.1 hc
  have vb := V.big
  have vs := V.small
  obtain ⟨x,y,h⟩ := some43 n f V.small (by omega) (fun x15 x16 => some (x15,x16)) 100 0 0 0 (by omega) (by omega)
  rw [bif_f (by simpa using hc),show (0 : Int) = Int.ofNat 0 from rfl]
  exact ⟨_,h⟩
 ·rw [bif_t (by simpa using hc)]
  exact ⟨_,rfl⟩
def Ext (z : Int) (g : Nat → Nat → CV) (i : Nat) (a b : Int) : Prop :=
 (a ≤ z ∧ z ≤ b ∧ ∀ j,j < i → a ≤ CV.int (g j 0) ∧ CV.int (g j 0) ≤ b) ∧ (a = z ∨ ∃ j,j < i ∧ CV.int (g j 0) = a) ∧ (b = z ∨ ∃ j,j < i ∧ CV.int (g j 0) = b)
end Go.Eng.R13
