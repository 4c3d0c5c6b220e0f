/-
 slices.Reverse over points: the plain law,and the oracle's first row.
-/
import Derived.Test.YtkknnlhhchielaaDoorDecT2
import Derived.Test.YtkknnlhhchielaaDoorEngU
set_option linter.all false
namespace Go.Eng.R13
open Go Go.RowKit Go.Eng
theorem setF_at (f : Nat → Nat → CV) (i : Nat) (L : Nat → CV) (a c : Nat) : setF f i 0 2 L a c = if a = i ∧ c < 2 then L c else f a c:=by
 unfold setF
 by_cases h1 : a = i
 ·subst h1
  by_cases h2 : c < 2
  ·have : (Nat.beq a a && Nat.ble 0 c && Nat.blt c (0 + 2)) = true:=by
    simp [Nat.blt_eq,h2]
   rw [this,if_pos ⟨rfl,h2⟩];rfl
  ·have : (Nat.beq a a && Nat.ble 0 c && Nat.blt c (0 + 2)) = false:=by
    have : Nat.blt c (0 + 2) = false:=by
     cases hq : Nat.blt c (0 + 2) with
     | false => rfl
     | true => exact (h2 (by simpa [Nat.blt_eq] using hq)).elim
    rw [this];simp
   rw [this,if_neg (fun h => h2 h.2)];rfl
 ·have : (Nat.beq a i && Nat.ble 0 c && Nat.blt c (0 + 2)) = false:=by
   have : Nat.beq a i = false:=by
    cases hq : Nat.beq a i with
    | false => rfl
    | true => exact (h1 (Nat.eq_of_beq_eq_true hq)).elim
   simp [this]
  rw [this,if_neg (fun h => h1 h.1)];rfl
theorem listF_2 (a b : CV) (c : Nat) (h : c < 2) : listF [a,b] c = if c = 0 then a else b:=by
 match c,h with
 | 0,_ => rfl
 | 1,_ => rfl
theorem rev_loop {ρ : Type} (fuel n : Nat) (g : Nat → Nat → CV) (hn : n < 9223372036854775808) (hg : ∀ i j,i < n → j < 2 → ∃ z,g i j = .i .i64 z) (k0 : (Nat → Nat → CV) → Option ρ) :
  ∀ (m i : Nat) (f : Nat → Nat → CV),n < m + i → 2 * i ≤ n + 1 → (∀ j c,j < n → c < 2 → f j c = if j < i ∨ n ≤ j + i then g (n - 1 - j) c else g j c) →
   ∃ f',L52v1 fuel n m (Int.ofNat i) (Int.ofNat n - 1 - Int.ofNat i) f k0 = k0 f' ∧ ∀ j c,j < n → c < 2 → f' j c = g (n - 1 - j) c:=by
 intro m
 induction m with
 | zero => intro i f h1 h2 hf;omega
 | succ m ih =>
  intro i f h1 h2 hf
  unfold L52v1
  by_cases hlt : (Int.ofNat i) < Int.ofNat n - 1 - Int.ofNat i
  ·have hlt' : i + i + 1 < n:=by simp at hlt;omega
   have hx : Int.ofNat n - 1 - Int.ofNat i = Int.ofNat (n - 1 - i):=by simp;omega
   rw [bif_t (by simpa using hlt),hx,inb_nat,inb_nat]
   rw [bif_t (by simp;omega),bif_t (by simp;omega),bif_t (by simp;omega),bif_t (by simp;omega)]
   rw [w64_succ (by omega),toNat_nat,toNat_nat,Nat.zero_add,Nat.zero_add]
   have hw : w64 (Int.ofNat (n - 1 - i) - 1) = Int.ofNat n - 1 - Int.ofNat (i + 1):=by
    rw [w64_of] <;> simp <;> omega
   rw [hw]
   refine ih (i + 1) _ (by omega) (by omega) fun j c hj hc => ?_
   have val : ∀ a d,a < n → d < 2 → CV.i .i64 (CV.int (f a d)) = f a d:=by
    intro a d ha hd
    rw [hf a d ha hd]
    split
    ·obtain ⟨z,hz⟩ := hg (n - 1 - a) d (by omega) hd
     rw [hz];rfl
    ·obtain ⟨z,hz⟩ := hg a d ha hd
     rw [hz];rfl
   rw [setF_at,setF_at,listF_2 _ _ c hc,listF_2 _ _ c hc]
   rw [val _ _ (by omega) (by omega),val _ _ (by omega) (by omega),val _ _ (by omega) (by omega),val _ _ (by omega) (by omega)]
   have two : ∀ a,(if c = 0 then f a 0 else f a 1) = f a c:=by
    intro a
    match c,hc with
    | 0,_ => rfl
    | 1,_ => rfl
   rw [two,two]
   by_cases e1 : j = n - 1 - i
   ·rw [if_pos ⟨e1,hc⟩,if_pos (by omega),hf i c (by omega) hc,if_neg (by omega),e1]
    congr 1;omega
   ·rw [if_neg (fun h => e1 h.1)]
    by_cases e2 : j = i
    ·rw [if_pos ⟨e2,hc⟩,if_pos (by omega),hf _ c (by omega) hc,if_neg (by omega),e2]
    ·rw [if_neg (fun h => e2 h.1),hf j c hj hc]
     by_cases e3 : j < i ∨ n ≤ j + i
     ·rw [if_pos e3,if_pos (by omega)]
     ·rw [if_neg e3,if_neg (by omega)]
  ·have hlt' : n ≤ i + i + 1:=by simp at hlt;omega
   rw [bif_f (by simpa using hlt)]
   refine ⟨f,rfl,fun j c hj hc => ?_⟩
   rw [hf j c hj hc]
   split
   ·rfl
   ·have : j = n - 1 - j:=by omega
    rw [← this]
theorem rev_law (fuel n : Nat) (g : Nat → Nat → CV) (hn : n < fuel) (hn2 : n < 9223372036854775808) (hg : ∀ i j,i < n → j < 2 → ∃ z,g i j = .i .i64 z) :
  ∃ f',F52 fuel n g = some (n,f') ∧ ∀ i j,i < n → j < 2 → f' i j = revF n g i j:=by
 unfold F52 D52
 have h0 : w64 (Int.ofNat n - 1) = Int.ofNat n - 1 - Int.ofNat 0:=by
  rw [w64_of] <;> simp <;> omega
 rw [h0]
 obtain ⟨f',h1,h2⟩ := rev_loop (ρ := Nat × (Nat → Nat → CV)) fuel n g hn2 hg (fun x => some (n,x)) fuel 0 g (by omega) (by omega) (fun j c hj hc => by rw [if_neg (by omega)])
 exact ⟨f',h1,h2⟩
end Go.Eng.R13
