/-
 Places of points,contours that touch,and the check of shapes: the program's and the reference's.
-/
import Derived.Test.YtngjgbhdhaopmaaPlPoly
set_option linter.all false
namespace Go.Eng.R13
open Go Go.RowKit Go.Eng Geo
def IsWhere (n : Nat) (f : Nat → Nat → CV) (q : Pt) (w : Int) : Prop :=
 (Valid n f ∧ nr q.1 q.2 → (OnC n (pt f) q 0 → w = 0) ∧ (¬ OnC n (pt f) q 0 → w = if par n (pt f) q = true then 1 else -1)) ∧ (¬ (Valid n f ∧ nr q.1 q.2) → w = -1)
def InC (n : Nat) (f : Nat → Nat → CV) (q : Pt) : Prop := ¬ OnC n (pt f) q 0 ∧ par n (pt f) q = true
def OutC (n : Nat) (f : Nat → Nat → CV) (q : Pt) : Prop := ¬ OnC n (pt f) q 0 ∧ par n (pt f) q = false
theorem IsWhere.val {n : Nat} {f : Nat → Nat → CV} {q : Pt} {w : Int} (h : IsWhere n f q w) (V : Valid n f) (hq : nr q.1 q.2) : (w = 1 ∧ InC n f q) ∨ (w = 0 ∧ OnC n (pt f) q 0) ∨ (w = -1 ∧ OutC n f q):=by
 obtain ⟨h1,h2⟩ := h.1 ⟨V,hq⟩
 by_cases ho : OnC n (pt f) q 0
 ·exact .inr (.inl ⟨h1 ho,ho⟩)
 ·have := h2 ho
  cases hp : par n (pt f) q with
  | true => rw [hp,if_pos rfl] at this;exact .inl ⟨this,ho,hp⟩
  | false => rw [hp,if_neg (by simp)] at this;exact .inr (.inr ⟨this,ho,hp⟩)
theorem IsWhere.one {n : Nat} {f : Nat → Nat → CV} {q : Pt} {w : Int} (h : IsWhere n f q w) (V : Valid n f) (hq : nr q.1 q.2) : w = 1 ↔ InC n f q:=by
 rcases h.val V hq with ⟨a,b⟩ | ⟨a,b⟩ | ⟨a,b⟩
 ·exact ⟨fun _ => b,fun _ => a⟩
 ·exact ⟨fun hh => by omega,fun hh => absurd b hh.1⟩
 ·exact ⟨fun hh => by omega,fun hh => by have := hh.2;rw [b.2] at this;cases this⟩
theorem IsWhere.range {n : Nat} {f : Nat → Nat → CV} {q : Pt} {w : Int} (h : IsWhere n f q w) : w = 1 ∨ w = 0 ∨ w = -1:=by
 by_cases hv : Valid n f ∧ nr q.1 q.2
 ·rcases h.val hv.1 hv.2 with ⟨a,_⟩ | ⟨a,_⟩ | ⟨a,_⟩ <;> omega
 ·exact .inr (.inr (h.2 hv))
def Touch (n : Nat) (p : Nat → Pt) (n' : Nat) (p' : Nat → Pt) : Prop := ∃ i k,i < n ∧ k < n' ∧ Meet (p i) (p (nx n i)) (p' k) (p' (nx n' k))
theorem Touch.symm {n : Nat} {p : Nat → Pt} {n' : Nat} {p' : Nat → Pt} (h : Touch n p n' p') : Touch n' p' n p:=by
 obtain ⟨i,k,hi,hk,hm⟩ := h
 exact ⟨k,i,hk,hi,hm.symm⟩
end Go.Eng.R13
