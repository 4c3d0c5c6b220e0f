/-
 Bounds: the reference's loop.
-/
import Derived.Test.YtkknnlhhchielaaDoorDecT2
import Derived.Test.YtkknnlhhchielaaDoorEngU
set_option linter.all false
namespace Go.Eng.R13
open Go Go.RowKit Go.Eng
def Bds (f : Nat → Nat → CV) (i : Nat) (a b c d : Int) : Prop :=
 (∀ j,j < i → a ≤ CV.int (f j 0) ∧ b ≤ CV.int (f j 1) ∧ CV.int (f j 0) ≤ c ∧ CV.int (f j 1) ≤ d) ∧
 (0 < i → (∃ j,j < i ∧ CV.int (f j 0) = a) ∧ (∃ j,j < i ∧ CV.int (f j 1) = b) ∧ (∃ j,j < i ∧ CV.int (f j 0) = c) ∧ (∃ j,j < i ∧ CV.int (f j 1) = d))
theorem Bds.step {f : Nat → Nat → CV} {i : Nat} {a b c d a' b' c' d' : Int} (hi : 0 < i) (h : Bds f i a b c d)
  (ha : a' = if CV.int (f i 0) < a then CV.int (f i 0) else a) (hb : b' = if CV.int (f i 1) < b then CV.int (f i 1) else b)
  (hc : c' = if CV.int (f i 0) > c then CV.int (f i 0) else c) (hd : d' = if CV.int (f i 1) > d then CV.int (f i 1) else d) : Bds f (i + 1) a' b' c' d':=by
 obtain ⟨h1,h2⟩ := h
 obtain ⟨⟨j1,k1,e1⟩,⟨j2,k2,e2⟩,⟨j3,k3,e3⟩,⟨j4,k4,e4⟩⟩ := h2 hi
 have q1 : a' ≤ a ∧ a' ≤ CV.int (f i 0):=by rw [ha];split <;> omega
 have q2 : b' ≤ b ∧ b' ≤ CV.int (f i 1):=by rw [hb];split <;> omega
 have q3 : c ≤ c' ∧ CV.int (f i 0) ≤ c':=by rw [hc];split <;> omega
 have q4 : d ≤ d' ∧ CV.int (f i 1) ≤ d':=by rw [hd];split <;> omega
 refine ⟨fun j hj => ?_,fun _ => ⟨?_,?_,?_,?_⟩⟩
 ·by_cases e : j = i
  ·rw [e];exact ⟨q1.2,q2.2,q3.2,q4.2⟩
  ·obtain ⟨p1,p2,p3,p4⟩ := h1 j (by omega)
   exact ⟨by omega,by omega,by omega,by omega⟩
 ·by_cases e : CV.int (f i 0) < a
  ·exact ⟨i,by omega,by rw [ha,if_pos e]⟩
  ·exact ⟨j1,by omega,by rw [ha,if_neg e];exact e1⟩
 ·by_cases e : CV.int (f i 1) < b
  ·exact ⟨i,by omega,by rw [hb,if_pos e]⟩
  ·exact ⟨j2,by omega,by rw [hb,if_neg e];exact e2⟩
 ·by_cases e : CV.int (f i 0) > c
  ·exact ⟨i,by omega,by rw [hc,if_pos e]⟩
  ·exact ⟨j3,by omega,by rw [hc,if_neg e];exact e3⟩
 ·by_cases e : CV.int (f i 1) > d
  ·exact ⟨i,by omega,by rw [hd,if_pos e]⟩
  ·exact ⟨j4,by omega,by rw [hd,if_neg e];exact e4⟩
theorem bounds_loop {ρ : Type} (n a : Nat) (f b : Nat → Nat → CV) (k0 : Int → Int → Int → Int → Option ρ) (hn : n ≤ 40) : ∀ (m i : Nat) (p q r s : Int),n < m + i → i ≤ n → (0 < i → Bds f i p q r s) →
  ∃ p' q' r' s',L21v1 100 n f a b m (Int.ofNat i) p q r s k0 = k0 p' q' r' s' ∧ (0 < n → Bds f n p' q' r' s'):=by
 intro m
 induction m with
 | zero => intro i p q r s h1 h2;omega
 | succ m ih =>
  intro i p q r s h1 h2 hB
  unfold L21v1
  rw [lt_nat,inb_nat,toNat_nat]
  by_cases h : i < n
  ·rw [bif_t (by simpa using h),bif_t (by simpa using h),w64_succ (by omega)]
   by_cases h0 : i = 0
   ·subst h0
    rw [bif_t (by simp)]
    refine ih 1 _ _ _ _ (by omega) (by omega) fun _ => ?_
    simp only [gt_iff_lt,ite_self]
    refine ⟨fun j hj => ?_,fun _ => ⟨⟨0,by omega,rfl⟩,⟨0,by omega,rfl⟩,⟨0,by omega,rfl⟩,⟨0,by omega,rfl⟩⟩⟩
    have : j = 0:=by omega
    subst this
    exact ⟨Int.le_refl _,Int.le_refl _,Int.le_refl _,Int.le_refl _⟩
   ·rw [bif_f (by simp [h0])]
    exact ih (i + 1) _ _ _ _ (by omega) (by omega) fun _ => (hB (by omega)).step (by omega) rfl rfl rfl rfl
  ·rw [bif_f (by simpa using h)]
   have : i = n:=by omega
   subst this
   exact ⟨p,q,r,s,rfl,hB⟩
theorem bounds_law (n a : Nat) (f b : Nat → Nat → CV) (hn : n ≤ 40) : ∃ p q r s,F21 100 n f a b = some (p,q,r,s) ∧ (0 < n → Bds f n p q r s):=by
 unfold F21
 exact bounds_loop n a f b _ hn 100 0 0 0 0 0 (by omega) (by omega) (fun h => absurd h (by omega))
end Go.Eng.R13
