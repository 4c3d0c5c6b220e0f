/-
 The order that Order gives: every node once, edges lead forward, no lesser node could come earlier.
-/
import Derived.Test.YtdhhkbnmfabnaaaDyOrd
set_option linter.all false
namespace Go.Eng.R13
open Go Go.RowKit Go.Eng
theorem nodup_len : ∀ (N : Nat) (l : List Nat), l.Nodup → (∀ x, x ∈ l → x < N) → l.length ≤ N
 | 0, l, _, h => by
  cases l with
  | nil => exact Nat.le_refl _
  | cons a l => have := h a (List.mem_cons_self ..); omega
 | N + 1, l, hn, h => by
  have h1 := nodup_len N (l.erase N) (hn.erase N) (fun x hx => by
   rw [hn.mem_erase_iff] at hx
   have := h x hx.2
   omega)
  by_cases q : N ∈ l
  ·have := List.length_erase_of_mem q
   omega
  ·rw [List.erase_of_not_mem q] at h1; omega
theorem nodup_all {N : Nat} {l : List Nat} (hn : l.Nodup) (h : ∀ x, x ∈ l → x < N) (hl : l.length = N) {v : Nat} (hv : v < N) : v ∈ l := by
 by_cases q : v ∈ l
 ·exact q
 ·have := nodup_len N (v :: l) (List.nodup_cons.2 ⟨q, hn⟩) (fun x hx => by
   rcases List.mem_cons.1 hx with rfl | hx
   ·exact hv
   ·exact h x hx)
  simp at this
  omega
section
variable {N m : Nat} {f : FF}
theorem run_spec : ∀ (d : Nat) (out l : List Nat), run N m f d out = some l → (∃ s, l = out ++ s) ∧ ∀ k, out.length ≤ k → k < l.length → next N m f (l.take k) = some (l.getD k 0)
 | 0, out, l, h => by
  cases h
  exact ⟨⟨[], by simp⟩, fun k h1 h2 => by omega⟩
 | d + 1, out, l, h => by
  unfold run at h
  split at h
  ·cases h
  ·rename_i v hv
   obtain ⟨⟨s, hs⟩, h2⟩ := run_spec d _ _ h
   refine ⟨⟨v :: s, by rw [hs]; simp⟩, fun k hk1 hk2 => ?_⟩
   by_cases e : k = out.length
   ·subst e
    have e1 : l.take out.length = out := by rw [hs, List.append_assoc]; simp
    have e2 : l.getD out.length 0 = v := by rw [hs, List.getD_eq_getElem?_getD]; simp
    rw [e1, e2]; exact hv
   ·exact h2 k (by simp; omega) hk2
theorem find_least {p : Nat → Bool} : ∀ {N v : Nat}, (List.range N).find? p = some v → ∀ w, w < v → p w = false
 | 0, v, h => by simp at h
 | N + 1, v, h => by
  rw [List.range_succ, List.find?_append] at h
  cases hq : (List.range N).find? p with
  | some x =>
   rw [hq] at h
   cases h
   exact find_least hq
  | none =>
   rw [hq] at h
   have hN : v = N := by
    cases hp : p N with
    | true => simp [List.find?_cons, hp] at h; exact h.symm
    | false => simp [List.find?_cons, hp] at h
   subst hN
   intro w hw
   have := List.find?_eq_none.1 hq w (by simpa using hw)
   simpa using this
structure Topo (N m : Nat) (f : FF) (p : Nat → Nat) : Prop where
 lt : ∀ k, k < N → p k < N
 inj : ∀ k j, k < N → j < N → p k = p j → k = j
 all : ∀ v, v < N → ∃ k, k < N ∧ p k = v
 fwd : ∀ i, i < m → ∀ j, j < N → eb f i = (p j : Int) → ∃ k, k < j ∧ (p k : Int) = ea f i
 least : ∀ k, k + 1 < N → p (k + 1) < p k → ∃ i, i < m ∧ eb f i = (p (k + 1) : Int) ∧ ea f i = (p k : Int)
theorem mem_take {l : List Nat} {k v : Nat} (hk : k ≤ l.length) : v ∈ l.take k ↔ ∃ j, j < k ∧ l.getD j 0 = v := by
 rw [List.mem_iff_getElem?]
 constructor
 ·rintro ⟨j, hj⟩
  rw [List.getElem?_take] at hj
  split at hj
  ·rename_i h
   refine ⟨j, h, ?_⟩
   rw [List.getD_eq_getElem?_getD, hj]; rfl
  ·cases hj
 ·rintro ⟨j, hj, rfl⟩
  refine ⟨j, ?_⟩
  rw [List.getElem?_take, if_pos hj, List.getD_eq_getElem?_getD]
  rw [List.getElem?_eq_getElem (by omega)]; rfl
theorem topo_of (hg : ∀ i, i < m → 0 ≤ ea f i) {l : List Nat} (h : run N m f N [] = some l) : l.length = N ∧ Topo N m f (fun k => l.getD k 0) := by
 have hl : l.length = N := by have := run_len N [] l h; simpa using this
 obtain ⟨_, hs⟩ := run_spec N [] l h
 have hs : ∀ k, k < N → next N m f (l.take k) = some (l.getD k 0) := fun k hk => hs k (by simp) (by omega)
 have hne : ∀ k j, k < N → j < k → l.getD j 0 ≠ l.getD k 0 := fun k j hk hj e => by
  have := (next_some (hs k hk)).2.1
  exact this ((mem_take (by omega)).2 ⟨j, hj, e⟩)
 have hinj : ∀ k j, k < N → j < N → l.getD k 0 = l.getD j 0 → k = j := fun k j hk hj e => by
  rcases Nat.lt_trichotomy k j with q | q | q
  ·exact (hne j k hj q e).elim
  ·exact q
  ·exact (hne k j hk q e.symm).elim
 have hlt : ∀ k, k < N → l.getD k 0 < N := fun k hk => (next_some (hs k hk)).1
 have hget : ∀ k (hk : k < l.length), l[k] = l.getD k 0 := fun k hk => by rw [List.getD_eq_getElem?_getD, List.getElem?_eq_getElem hk]; rfl
 have hnd : l.Nodup := by
  rw [List.nodup_iff_pairwise_ne, List.pairwise_iff_getElem]
  intro i j hi hj hij
  rw [hget i hi, hget j hj]
  exact hne j i (by omega) hij
 have hfree : ∀ i, i < m → ∀ j, j < N → eb f i = (l.getD j 0 : Int) → ∃ k, k < j ∧ (l.getD k 0 : Int) = ea f i := fun i hi j hj he => by
  have h3 := (next_some (hs j hj)).2.2
  have : (ea f i).toNat ∈ l.take j := by
   by_cases q : (ea f i).toNat ∈ l.take j
   ·exact q
   ·have := waits_iff.2 ⟨i, hi, he, q⟩
    rw [h3] at this; cases this
  obtain ⟨k, hk, hk2⟩ := (mem_take (by omega)).1 this
  exact ⟨k, hk, by rw [hk2]; have := hg i hi; omega⟩
 refine ⟨hl, ⟨hlt, hinj, fun v hv => ?_, hfree, fun k hk hlt2 => ?_⟩⟩
 ·have := nodup_all hnd (fun x hx => by
   obtain ⟨i, hi⟩ := List.mem_iff_getElem?.1 hx
   have hi2 : i < l.length := (List.getElem?_eq_some_iff.1 hi).1
   have := hlt i (by omega)
   rw [List.getD_eq_getElem?_getD, hi] at this
   exact this) hl hv
  obtain ⟨i, hi⟩ := List.mem_iff_getElem?.1 this
  have hi2 : i < l.length := (List.getElem?_eq_some_iff.1 hi).1
  exact ⟨i, by omega, by rw [List.getD_eq_getElem?_getD, hi]; rfl⟩
 ·have h0 : next N m f (l.take k) = some (l.getD k 0) := hs k (by omega)
  have hf := find_least h0 (l.getD (k + 1) 0) hlt2
  have hnm : l.getD (k + 1) 0 ∉ l.take k := fun hh => by
   obtain ⟨j, hj, e⟩ := (mem_take (by omega)).1 hh
   exact hne (k + 1) j hk (by omega) e
  have hw : waits m f (l.take k) (l.getD (k + 1) 0) = true := by
   unfold free at hf
   cases hq : waits m f (l.take k) (l.getD (k + 1) 0) with
   | true => rfl
   | false =>
    rw [hq] at hf
    simp [hnm] at hf
    exact (hnm hf).elim
  obtain ⟨i, hi, he, ha⟩ := waits_iff.1 hw
  obtain ⟨j, hj, hj2⟩ := hfree i hi (k + 1) hk he
  refine ⟨i, hi, he, ?_⟩
  have : j = k := by
   by_cases q : j < k
   ·have : (ea f i).toNat ∈ l.take k := (mem_take (by omega)).2 ⟨j, q, by omega⟩
    exact (ha this).elim
   ·omega
  subst this
  exact hj2.symm
end
end Go.Eng.R13
