/-
 Valid contours that do not touch.
-/
import Derived.Test.YtmpnfnngjeojlaaPlPlace
import Derived.Test.YtmpnfnngjeojlaaGeo6
set_option linter.all false
namespace Go.Eng.R13
open Go Go.RowKit Go.Eng Geo
theorem onK_C {n : Nat} {p : Nat → Pt} {q : Pt} : OnC n p q 0 ↔ OnK n p q := ⟨fun ⟨j,_,a,b⟩ => ⟨j,a,b⟩,fun ⟨j,a,b⟩ => ⟨j,Nat.zero_le j,a,b⟩⟩
theorem noTouch {n n' : Nat} {f g : Nat → Nat → CV} (V : Valid n f) (W : Valid n' g) (h : ¬ Touch n (pt f) n' (pt g)) : NoTouch n (pt f) n' (pt g) :=
 ⟨V.big,W.big,fun i hi k hk hm => h ⟨i,k,hi,hk,hm⟩,V.ne,W.ne⟩
def ClosedC (n : Nat) (f : Nat → Nat → CV) (q : Pt) : Prop := par n (pt f) q = true ∨ OnK n (pt f) q
theorem IsWhere.nonneg {n : Nat} {f : Nat → Nat → CV} {q : Pt} {w : Int} (h : IsWhere n f q w) (V : Valid n f) (hw : 0 ≤ w) : nr q.1 q.2 ∧ ClosedC n f q:=by
 have hq : nr q.1 q.2:=by
  by_cases hh : Valid n f ∧ nr q.1 q.2
  ·exact hh.2
  ·have := h.2 hh;omega
 refine ⟨hq,?_⟩
 rcases h.val V hq with ⟨_,b⟩ | ⟨_,b⟩ | ⟨a,_⟩
 ·exact .inl b.2
 ·exact .inr (onK_C.1 b)
 ·omega
end Go.Eng.R13
