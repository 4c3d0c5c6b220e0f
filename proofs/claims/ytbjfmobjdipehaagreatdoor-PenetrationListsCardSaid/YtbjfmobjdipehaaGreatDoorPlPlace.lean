/-
 RegionWheres: the plain law.
-/
import Derived.Test.YtbjfmobjdipehaaGreatDoorPlCheck
import Derived.Test.YtbjfmobjdipehaaGreatDoorGeo6
set_option linter.all false
namespace Go.Eng.R13
open Go Go.RowKit Go.Eng Geo
theorem Valid.ne {n : Nat} {f : Nat → Nat → CV} (V : Valid n f) : ∀ i, i < n → pt f i ≠ pt f (nx n i) :=
 fun i hi => V.simple.dist i (nx n i) hi (nx_lt V.big) (fun h => nx_ne V.big hi h.symm)
theorem on_side {n n' : Nat} {f g : Nat → Nat → CV} (V : Valid n f) (W : Valid n' g) (h : ¬ Touch n (pt f) n' (pt g)) {q : Pt} (hq : OnC n (pt f) q 0) : ¬ OnC n' (pt g) q 0 ∧ par n' (pt g) q = par n' (pt g) (pt f 0) := by
 obtain ⟨i, _, hi, ho⟩ := hq
 obtain ⟨h1, h2⟩ := par_edge (free_edge h hi) ho (V.ne i hi) (W.ne)
 refine ⟨fun ⟨k, _, hk, hk'⟩ => h1 k hk hk', ?_⟩
 rw [h2]
 exact (all_corners V.big h i hi).2
theorem outer_out {n1 : Nat} {f1 f2 : Nat → Nat → CV} {i : Nat} (V : Valid n1 f1) (H : HoleAt n1 f1 f2 i) : par (CV.len (f2 i 0)) (pt (CV.el (f2 i 0))) (pt f1 0) = false := by
 have vb := V.big
 obtain ⟨t, ht, _, hm⟩ := exists_least (n := n1) (P := fun _ => True) (fun j => - (pt f1 j).2) ⟨0, by omega, trivial⟩
 have hT : ¬ Touch n1 (pt f1) (CV.len (f2 i 0)) (pt (CV.el (f2 i 0))) := fun h => H.free h.symm
 rw [← (all_corners V.big hT t ht).2]
 refine par_out (.inl fun c hc => ?_)
 have hin := H.inside c hc
 by_cases hle : (pt (CV.el (f2 i 0)) c).2 ≤ (pt f1 t).2
 ·exact hle
 ·exfalso
  have : par n1 (pt f1) (pt (CV.el (f2 i 0)) c) = false := par_out (.inl fun j hj => by have := hm j hj trivial; omega)
  rw [hin.2] at this
  cases this
theorem place47 (n1 n2 : Nat) (f1 f2 : Nat → Nat → CV) (qx qy : Int) (hn : n2 ≤ 8) (W : Nat → Int) (hW : ∀ i, i < n2 → F65 100 (CV.len (f2 i 0)) (CV.el (f2 i 0)) qx qy = some (W i)) (hr : ∀ i, i < n2 → W i = 1 ∨ W i = 0 ∨ W i = -1) : ∀ (m i : Nat), n2 < m + i → i ≤ n2 →
  ∃ z, L47v1 100 n2 f2 (Int.ofNat n2) n1 f1 qx qy m (Int.ofNat i) (fun x => some x) (some 1) = some z ∧ (((∀ j, i ≤ j → j < n2 → W j < 0) ∧ z = 1) ∨ ∃ j, i ≤ j ∧ j < n2 ∧ 0 ≤ W j ∧ (∀ j', i ≤ j' → j' < j → W j' < 0) ∧ z = - W j) := by
 intro m
 induction m with
 | zero => intro i h1 h2; omega
 | succ m ih =>
  intro i h1 h2
  unfold L47v1
  rw [lt_nat, inb_nat, toNat_nat]
  by_cases h : i < n2
  ·have hw := hr i h
   rw [bif_t (decide_eq_true h), bif_t (decide_eq_true h), w64_succ (by omega), hW i h, ob_some]
   by_cases hp : W i ≥ 0
   ·rw [bif_t (decide_eq_true hp), w64_of (by omega) (by omega)]
    exact ⟨_, rfl, .inr ⟨i, Nat.le_refl i, h, hp, fun j' a b => by omega, by omega⟩⟩
   ·rw [bif_f (decide_eq_false hp)]
    obtain ⟨z, e, hz⟩ := ih (i + 1) (by omega) (by omega)
    refine ⟨z, e, ?_⟩
    rcases hz with ⟨a, b⟩ | ⟨j, a, b, c, d, e⟩
    ·refine .inl ⟨fun j h3 h4 => ?_, b⟩
     by_cases e : j = i
     ·rw [e]; omega
     ·exact a j (by omega) h4
    ·refine .inr ⟨j, by omega, b, c, fun j' h3 h4 => ?_, e⟩
     by_cases e : j' = i
     ·rw [e]; omega
     ·exact d j' (by omega) h4
  ·rw [bif_f (decide_eq_false h)]
   exact ⟨1, rfl, .inl ⟨fun j a b => by omega, rfl⟩⟩
theorem place23 (n1 n2 : Nat) (f1 f2 : Nat → Nat → CV) (qx qy : Int) (hn : n2 ≤ 8) (W : Nat → Int) (hW : ∀ i, i < n2 → F40 100 (CV.len (f2 i 0)) (CV.el (f2 i 0)) qx qy = some (W i)) (hr : ∀ i, i < n2 → W i = 1 ∨ W i = 0 ∨ W i = -1) : ∀ (m i : Nat) (acc : Int), n2 < m + i → i ≤ n2 →
  ∃ z, L23v1 100 n1 f1 n2 f2 qx qy m acc (Int.ofNat i) (fun x => some x) = some z ∧ z ≤ acc ∧ (∀ j, i ≤ j → j < n2 → z ≤ - W j) ∧ (z = acc ∨ ∃ j, i ≤ j ∧ j < n2 ∧ z = - W j) := by
 intro m
 induction m with
 | zero => intro i acc h1 h2; omega
 | succ m ih =>
  intro i acc h1 h2
  unfold L23v1
  rw [lt_nat, inb_nat, toNat_nat]
  by_cases h : i < n2
  ·have hw := hr i h
   rw [bif_t (decide_eq_true h), bif_t (decide_eq_true h), w64_succ (by omega), hW i h, ob_some, w64_of (n := 0 - W i) (by omega) (by omega)]
   obtain ⟨z, e, z1, z2, z3⟩ := ih (i + 1) (if 0 - W i < acc then 0 - W i else acc) (by omega) (by omega)
   refine ⟨z, e, ?_, fun j a b => ?_, ?_⟩
   ·split at z1 <;> omega
   ·by_cases e : j = i
    ·rw [e]; split at z1 <;> omega
    ·exact z2 j (by omega) b
   ·rcases z3 with h3 | ⟨j, a, b, c⟩
    ·by_cases hlt : 0 - W i < acc
     ·rw [if_pos hlt] at h3
      exact .inr ⟨i, Nat.le_refl i, h, by omega⟩
     ·rw [if_neg hlt] at h3
      exact .inl h3
    ·exact .inr ⟨j, by omega, b, c⟩
  ·rw [bif_f (decide_eq_false h)]
   exact ⟨acc, rfl, Int.le_refl _, fun j a b => by omega, .inl rfl⟩
def IsPlace (n1 : Nat) (f1 : Nat → Nat → CV) (n2 : Nat) (f2 : Nat → Nat → CV) (q : Pt) (z : Int) : Prop :=
 ∃ (w : Int) (W : Nat → Int), IsWhere n1 f1 q w ∧ (∀ i, IsWhere (CV.len (f2 i 0)) (CV.el (f2 i 0)) q (W i)) ∧ z ≤ w ∧ (∀ j, j < n2 → z ≤ - W j) ∧ (z = w ∨ ∃ j, j < n2 ∧ z = - W j)
theorem place_full (n1 : Nat) (f1 : Nat → Nat → CV) (n2 : Nat) (f2 : Nat → Nat → CV) (qx qy : Int) : ∃ z, F22 100 n1 f1 n2 f2 qx qy = some z ∧ F23 100 n1 f1 n2 f2 qx qy = some z ∧ (VShape n1 f1 n2 f2 → IsPlace n1 f1 n2 f2 (qx, qy) z) := by
 unfold F22 D22 F23 D23
 obtain ⟨c, h1, h2, h3⟩ := shape_law n1 n2 f1 f2
 rw [h1, h2, ob_some, ob_some]
 by_cases hc : c = 0
 ·have S := h3.1 hc
  subst hc
  have hW : ∀ i, ∃ w, F65 100 (CV.len (f2 i 0)) (CV.el (f2 i 0)) qx qy = some w ∧ F40 100 (CV.len (f2 i 0)) (CV.el (f2 i 0)) qx qy = some w ∧ IsWhere (CV.len (f2 i 0)) (CV.el (f2 i 0)) (qx, qy) w := fun i => where_law _ _ qx qy
  obtain ⟨W, hW⟩ : ∃ W : Nat → Int, ∀ i, F65 100 (CV.len (f2 i 0)) (CV.el (f2 i 0)) qx qy = some (W i) ∧ F40 100 (CV.len (f2 i 0)) (CV.el (f2 i 0)) qx qy = some (W i) ∧ IsWhere (CV.len (f2 i 0)) (CV.el (f2 i 0)) (qx, qy) (W i) := ⟨fun i => Classical.choose (hW i), fun i => Classical.choose_spec (hW i)⟩
  obtain ⟨w, hw1, hw2, hw3⟩ := where_law n1 f1 qx qy
  have hr : ∀ i, i < n2 → W i = 1 ∨ W i = 0 ∨ W i = -1 := fun i _ => (hW i).2.2.range
  have hwr := hw3.range
  obtain ⟨z, e1, z1, z2, z3⟩ := place23 n1 n2 f1 f2 qx qy S.few W (fun i _ => (hW i).2.1) hr 100 0 w (by have := S.few; omega) (by omega)
  obtain ⟨y, e2, hy⟩ := place47 n1 n2 f1 f2 qx qy S.few W (fun i _ => (hW i).1) hr 100 0 (by have := S.few; omega) (by omega)
  unfold F47 D47
  rw [bif_f (show ((0 : Int) != 0) = false from rfl), bif_f (show ((0 : Int) != 0) = false from rfl), hw1, hw2, ob_some, ob_some, show (0 : Int) = Int.ofNat 0 from rfl, e1]
  have hP : IsPlace n1 f1 n2 f2 (qx, qy) z := ⟨w, W, hw3, fun i => (hW i).2.2, z1, fun j hj => z2 j (Nat.zero_le j) hj, z3.imp id fun ⟨j, _, a, b⟩ => ⟨j, a, b⟩⟩
  by_cases hw : w ≤ 0
  ·rw [bif_t (decide_eq_true (by simpa using hw)), ob_some]
   suffices hz : z = w from ⟨w, rfl, by rw [hz], fun _ => hz ▸ hP⟩
   rcases z3 with h | ⟨j, _, hj, h⟩
   ·exact h
   ·rcases hwr with g | g | g
    ·omega
    ·
     by_cases hz : z = w
     ·exact hz
     ·exfalso
      have hv : Valid n1 f1 ∧ nr qx qy := by
       by_cases hh : Valid n1 f1 ∧ nr qx qy
       ·exact hh
       ·have := hw3.2 hh; omega
      have hon : OnC n1 (pt f1) (qx, qy) 0 := by
       rcases hw3.val hv.1 hv.2 with ⟨a, _⟩ | ⟨_, b⟩ | ⟨a, _⟩
       ·omega
       ·exact b
       ·omega
      have H := S.hole j hj
      have hT : ¬ Touch n1 (pt f1) (CV.len (f2 j 0)) (pt (CV.el (f2 j 0))) := fun h => H.free h.symm
      obtain ⟨o1, o2⟩ := on_side hv.1 H.valid hT hon
      rw [outer_out hv.1 H] at o2
      have hneg := ((hW j).2.2.out H.valid hv.2).2 ⟨o1, o2⟩
      have := hr j hj
      omega
    ·have := hr j hj
     omega
  ·rw [bif_f (decide_eq_false (by simpa using hw)), e2]
   suffices hz : z = y from ⟨y, rfl, by rw [hz], fun _ => hz ▸ hP⟩
   rcases hy with ⟨a, b⟩ | ⟨j, a, hj, c, d, e⟩
   ·rcases z3 with h | ⟨j, _, hj, h⟩
    ·omega
    ·have := a j (by omega) hj
     have := hr j hj
     omega
   ·have hzj := z2 j (by omega) hj
    rcases hr j hj with g | g | g
    ·rcases z3 with h | ⟨j', _, hj', h⟩
     ·omega
     ·have := hr j' hj'; omega
    ·rcases z3 with h | ⟨j', _, hj', h⟩
     ·omega
     ·rcases hr j' hj' with g' | g' | g'
      ·
       exfalso
       have hv : nr qx qy := by
        by_cases hh : Valid (CV.len (f2 j 0)) (CV.el (f2 j 0)) ∧ nr qx qy
        ·exact hh.2
        ·have := (hW j).2.2.2 hh; omega
       have Vj := (S.hole j hj).valid
       have Vj' := (S.hole j' hj').valid
       have hon : OnC (CV.len (f2 j 0)) (pt (CV.el (f2 j 0))) (qx, qy) 0 := by
        rcases (hW j).2.2.val Vj hv with ⟨a, _⟩ | ⟨_, b⟩ | ⟨a, _⟩
        ·omega
        ·exact b
        ·omega
       have hne : j ≠ j' := fun h => by rw [h] at g; omega
       have ap : ¬ Touch (CV.len (f2 j 0)) (pt (CV.el (f2 j 0))) (CV.len (f2 j' 0)) (pt (CV.el (f2 j' 0))) ∧ OutC (CV.len (f2 j' 0)) (CV.el (f2 j' 0)) (pt (CV.el (f2 j 0)) 0) := by
        rcases Nat.lt_or_ge j' j with hlt | hge
        ·obtain ⟨p1, p2, p3⟩ := S.apart j hj j' hlt
         exact ⟨p1, p3⟩
        ·obtain ⟨p1, p2, p3⟩ := S.apart j' hj' j (by omega)
         exact ⟨fun h => p1 h.symm, p2⟩
       obtain ⟨o1, o2⟩ := on_side Vj Vj' ap.1 hon
       rw [ap.2.2] at o2
       have hneg := ((hW j').2.2.out Vj' hv).2 ⟨o1, o2⟩
       omega
      ·omega
      ·omega
    ·omega
 ·rw [bif_t (by simpa using hc), bif_t (by simpa using hc)]
  exact ⟨-1, rfl, rfl, fun S => absurd (h3.2 S) hc⟩
theorem place_law (n1 : Nat) (f1 : Nat → Nat → CV) (n2 : Nat) (f2 : Nat → Nat → CV) (qx qy : Int) : ∃ z, F22 100 n1 f1 n2 f2 qx qy = some z ∧ F23 100 n1 f1 n2 f2 qx qy = some z := by
 obtain ⟨z, h1, h2, _⟩ := place_full n1 f1 n2 f2 qx qy
 exact ⟨z, h1, h2⟩
end Go.Eng.R13
