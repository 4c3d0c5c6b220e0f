/-
 Functions that return a slice of their own making; slices.Clone.
-/
import Derived.Test.YtajhkinnmdlokaaEngU
import Derived.Lib.SliceRun
set_option linter.all false
namespace Go.Eng
open Go Go.RowKit
variable {df : DF}
def FreshPost (w : World) (r : Kd) (n : Nat) (g : Nat → Nat → CV) (v : Value) (w' : World) : Prop :=
 ∃ cap, n ≤ cap ∧ cap ≤ maxLen ∧
   ((n = 0 ∧ ∃ a, v = .slice a 0 0) ∨ ∃ gb cur e, w.heap.size ≤ gb ∧ v = .slice (some ⟨gb, 0, none⟩) n cap ∧ w'.heap[gb]? = some (.cells cur e (0, 0)) ∧ cur.size = cap * r.len ∧
    ∀ i j, i < n → j < r.len → (r.nth j).okP (g i j) ∧ ∃ u, cur[i * r.len + j]? = some u ∧ CR (fun _ => False) w' (g i j) u)
theorem FreshDen.of {P : Program} {f : FuncId} {r : Kd} {args : List A} {n : Nat} {g : Nat → Nat → CV} (hok : callOk P f = true)
  (h : ∀ (w : World) (okA : Nat → Prop) (vs : Array Value), (∀ g, okA g → g < w.heap.size) → GlobR okA w → ARs okA w args vs →
   Calls P f vs w fun e w' => ∃ v, e = .returned v ∧ Below w.heap.size w w' ∧ FreshPost w r n g v w') : FreshDen P f r args n g :=
 ⟨hok, fun w okA vs h1 h2 h3 => (h w okA vs h1 h2 h3).mono fun e w' hh => by
  obtain ⟨v, h4, h5, cap, h6, h7, h8⟩ := hh
  exact ⟨v, cap, h4, h5, h6, h7, h8⟩⟩
theorem FreshPost.congr {w w' : World} {r : Kd} {n : Nat} {g g' : Nat → Nat → CV} {v : Value} (h : FreshPost w r n g v w') (e : ∀ i j, i < n → j < r.len → g i j = g' i j) : FreshPost w r n g' v w' := by
 obtain ⟨cap, h1, h2, h3⟩ := h
 refine ⟨cap, h1, h2, h3.imp id fun h4 => ?_⟩
 obtain ⟨gb, cur, ee, a1, a2, a3, a4, a5⟩ := h4
 refine ⟨gb, cur, ee, a1, a2, a3, a4, fun i j hi hj => ?_⟩
 rw [← e i j hi hj]
 exact a5 i j hi hj
section
variable {P : Program} {C : Oracle} {okA : Nat → Prop} {μ : Nat → Option Nat} {ok : Nat → Prop} {st : St} {a : Act} {w w' : World}
end
def RowIn (R : Kd) (g : Nat → CV) : Prop := ∀ j, j < R.len → (R.nth j).okP (g j) ∧ (g j).wf
theorem rowIn_of {R : Kd} {l : List CV} (hl : l.length = R.len) (hk : ∀ (j : Nat) (c : CV), l[j]? = some c → (R.nth j).okP c ∧ c.wf) : RowIn R (listF l) := by
 intro j hj
 have : l[j]? = some (l[j]'(by omega)) := by simp
 have e : listF l j = l[j]'(by omega) := by unfold listF; rw [List.getD_eq_getElem?_getD, this]; rfl
 rw [e]
 exact hk j _ this
def Kd.chain : Kd → Bool
 | .nil => true
 | .pr _ r => r.chain
 | _ => false
theorem Kd.beq_rfl : ∀ a : Kd, a.beq a = true
 | .nil => rfl
 | .int k => by simp [Kd.beq, kindEq]
 | .bool => rfl
 | .str => rfl
 | .oth => rfl
 | .sl r => by simp [Kd.beq, Kd.beq_rfl r]
 | .pr a r => by simp [Kd.beq, Kd.beq_rfl a, Kd.beq_rfl r]
theorem fitsC_of {κ : Kd} {c : CV} (h : κ.okP c) : fitsC κ c = true := by
 cases κ <;> simp only [Kd.okP] at h
 case int k => obtain ⟨n, rfl⟩ := h; exact Kd.beq_rfl _
 case bool => obtain ⟨n, rfl⟩ := h; rfl
 case str => obtain ⟨n, rfl⟩ := h; rfl
 case sl r => obtain ⟨fl, n, f, rfl⟩ := h; simp [fitsC, Kd.beq_rfl]
 all_goals (cases c <;> rfl)
theorem fitsL_of : ∀ {R : Kd} {l : List CV}, R.chain = true → l.length = R.len → (∀ (j : Nat) (c : CV), l[j]? = some c → (R.nth j).okP c ∧ c.wf) → fitsL R l = true
 | .nil, [], _, _, _ => rfl
 | .nil, _ :: _, _, h, _ => by simp [Kd.len] at h
 | .pr a r, [], _, h, _ => by simp [Kd.len] at h
 | .pr a r, c :: l, hc, h, hk => by
  simp only [fitsL, Bool.and_eq_true]
  refine ⟨fitsC_of (hk 0 c rfl).1, fitsL_of hc (by simpa [Kd.len] using h) fun j d hd => ?_⟩
  exact hk (j + 1) d (by simpa using hd)
 | .int _, _, hc, _, _ => by cases hc
 | .bool, _, hc, _, _ => by cases hc
 | .str, _, hc, _, _ => by cases hc
 | .oth, _, hc, _, _ => by cases hc
 | .sl _, _, hc, _, _ => by cases hc
end Go.Eng
