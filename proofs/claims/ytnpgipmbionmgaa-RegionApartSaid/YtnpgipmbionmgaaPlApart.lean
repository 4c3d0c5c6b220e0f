/-
  RegionApart: the plain law.
-/
import Derived.Test.YtnpgipmbionmgaaPlClose
import Derived.Test.YtnpgipmbionmgaaGeo9
set_option linter.all false
namespace Go.Eng.R13
open Go Go.RowKit Go.Eng Geo

theorem Near.mono {x p q : Pt} {g h : Int} (h0 : 0 ≤ h) (hg : h ≤ g) (hn : Near x p q h) : Near x p q g := by
  have hh : h * h ≤ g * g := Int.mul_le_mul hg hg h0 (by omega)
  by_cases h1 : dot x p q ≤ 0
  · rw [near_p h1] at hn ⊢; omega
  · by_cases h2 : dot q p q ≤ dot x p q
    · rw [near_q h1 h2] at hn ⊢; omega
    · rw [near_m h1 h2] at hn ⊢
      have := Int.mul_le_mul_of_nonneg_right hh (dot_self (a := q) (b := p))
      omega
theorem Close.mono {g h : Int} {a b c d : Pt} (h0 : 0 ≤ h) (hg : h ≤ g) (hc : Close h a b c d) : Close g a b c d := by
  rcases hc with k | k | k | k | k
  · exact .inl k
  · exact .inr (.inl (k.mono h0 hg))
  · exact .inr (.inr (.inl (k.mono h0 hg)))
  · exact .inr (.inr (.inr (.inl (k.mono h0 hg))))
  · exact .inr (.inr (.inr (.inr (k.mono h0 hg))))
theorem Close.symm {g : Int} {a b c d : Pt} (hc : Close g a b c d) : Close g c d a b := by
  rcases hc with k | k | k | k | k
  · exact .inl k.symm
  · exact .inr (.inr (.inr (.inl k)))
  · exact .inr (.inr (.inr (.inr k)))
  · exact .inr (.inl k)
  · exact .inr (.inr (.inl k))

def Cl (gap : Int) (n1 : Nat) (f1 : Nat → Nat → CV) (n2 : Nat) (f2 : Nat → Nat → CV) (m1 : Nat) (g1 : Nat → Nat → CV) (m2 : Nat) (g2 : Nat → Nat → CV) : Prop :=
  ∀ i, i < 1 + n2 → ∀ k, k < 1 + m2 → ¬ CloseC gap (cl (cf n1 f1 f2) i) (cl (cf m1 g1 g2) k) (ce (cf n1 f1 f2) i) (ce (cf m1 g1 g2) k)
def Off (n1 : Nat) (f1 : Nat → Nat → CV) (n2 : Nat) (f2 : Nat → Nat → CV) (q : Pt) : Prop := ∃ z, F47 100 n1 f1 n2 f2 q.1 q.2 = some z ∧ z < 0
structure Clr (gap : Int) (n1 : Nat) (f1 : Nat → Nat → CV) (n2 : Nat) (f2 : Nat → Nat → CV) (m1 : Nat) (g1 : Nat → Nat → CV) (m2 : Nat) (g2 : Nat → Nat → CV) : Prop where
  lo : 0 ≤ gap
  hi : gap ≤ 1000
  left : VShape n1 f1 n2 f2
  right : VShape m1 g1 m2 g2
  off : Off n1 f1 n2 f2 (pt g1 0)
  off' : Off m1 g1 m2 g2 (pt f1 0)
  cl : Cl gap n1 f1 n2 f2 m1 g1 m2 g2
theorem Clr.symm {gap : Int} {n1 : Nat} {f1 : Nat → Nat → CV} {n2 : Nat} {f2 : Nat → Nat → CV} {m1 : Nat} {g1 : Nat → Nat → CV} {m2 : Nat} {g2 : Nat → Nat → CV} (h : Clr gap n1 f1 n2 f2 m1 g1 m2 g2) : Clr gap m1 g1 m2 g2 n1 f1 n2 f2 :=
  ⟨h.lo, h.hi, h.right, h.left, h.off', h.off, fun i hi k hk ⟨a, ha, b, hb, hc⟩ => h.cl k hk i hi ⟨b, hb, a, ha, hc.symm⟩⟩
theorem Clr.mono {gap g : Int} {n1 : Nat} {f1 : Nat → Nat → CV} {n2 : Nat} {f2 : Nat → Nat → CV} {m1 : Nat} {g1 : Nat → Nat → CV} {m2 : Nat} {g2 : Nat → Nat → CV} (h : Clr gap n1 f1 n2 f2 m1 g1 m2 g2) (h0 : 0 ≤ g) (hg : g ≤ gap) : Clr g n1 f1 n2 f2 m1 g1 m2 g2 :=
  ⟨h0, by have := h.hi; omega, h.left, h.right, h.off, h.off', fun i hi k hk ⟨a, ha, b, hb, hc⟩ => h.cl i hi k hk ⟨a, ha, b, hb, hc.mono h0 hg⟩⟩

theorem clear27 (n1 : Nat) (f1 : Nat → Nat → CV) (n2 : Nat) (f2 : Nat → Nat → CV) (m1 : Nat) (g1 : Nat → Nat → CV) (m2 : Nat) (g2 : Nat → Nat → CV) (gap : Int) : ∃ r, F27 100 n1 f1 n2 f2 m1 g1 m2 g2 gap = some r ∧ (r = true ↔ Clr gap n1 f1 n2 f2 m1 g1 m2 g2) := by
  unfold F27 D27
  obtain ⟨c, c1, _, c3⟩ := shape_law n1 n2 f1 f2
  obtain ⟨d, d1, _, d3⟩ := shape_law m1 m2 g1 g2
  rw [c1, d1]
  simp only [ob_some]
  have tf0 : (true == false) = false := rfl
  by_cases ha : gap < 0
  · simp only [decide_eq_true ha, tf0, cond_false]
    exact ⟨false, rfl, fun h => (by cases h), fun h => absurd h.lo (by omega)⟩
  · by_cases hb : gap > 1000
    · simp only [decide_eq_false ha, decide_eq_true hb, tf0, beq_self_eq_true, cond_true, cond_false]
      exact ⟨false, rfl, fun h => (by cases h), fun h => absurd h.hi (by omega)⟩
    · simp only [decide_eq_false ha, decide_eq_false hb, beq_self_eq_true, cond_true]
      by_cases hc : c = 0
      · have S := c3.1 hc
        subst hc
        have z0 : ((0 : Int) != 0) = false := rfl
        by_cases hd : d = 0
        · have T := d3.1 hd
          subst hd
          obtain ⟨z, z1, _⟩ := place47_eq S (CV.int (g1 0 0)) (CV.int (g1 0 1))
          obtain ⟨y, y1, _⟩ := place47_eq T (CV.int (f1 0 0)) (CV.int (f1 0 1))
          have vb := S.outer.big
          have wb := T.outer.big
          have sf := S.few
          have tf := T.few
          have i1 : inb 0 n1 = true := inb_true (by omega) (by omega)
          have i2 : inb 0 m1 = true := inb_true (by omega) (by omega)
          simp only [z0, beq_self_eq_true, cond_true, cond_false, i1, i2, z1, y1, cont42 S.few, ob_some]
          by_cases hz : z ≥ 0
          · have hz' : (decide (z ≥ 0) == false) = false := by rw [decide_eq_true hz]; rfl
            simp only [hz', cond_false]
            refine ⟨false, rfl, fun h => (by cases h), fun h => ?_⟩
            obtain ⟨z', e, e'⟩ := h.off
            rw [show F47 100 n1 f1 n2 f2 (pt g1 0).1 (pt g1 0).2 = some z from z1] at e
            cases e
            omega
          · have hz' : (decide (z ≥ 0) == false) = true := by rw [decide_eq_false hz]; rfl
            simp only [hz', cond_true]
            by_cases hy : y ≥ 0
            · simp only [decide_eq_true hy, cond_true]
              refine ⟨false, rfl, fun h => (by cases h), fun h => ?_⟩
              obtain ⟨z', e, e'⟩ := h.off'
              rw [show F47 100 m1 g1 m2 g2 (pt f1 0).1 (pt f1 0).2 = some y from y1] at e
              cases e
              omega
            · simp only [decide_eq_false hy, cond_false]
              rw [show (0 : Int) = Int.ofNat 0 from rfl]
              obtain ⟨r, r1, r2⟩ := clear27_3 (1 + n2) (cf n1 f1 f2) n1 n2 m1 m2 f1 f2 g1 g2 gap (by omega) (by omega) (by omega) (fun j hj => cf_valid S hj) T 100 0 (by omega) (by omega)
              refine ⟨r, r1, ?_⟩
              have e : (r = true ↔ Cl gap n1 f1 n2 f2 m1 g1 m2 g2) := by
                have e1 : (r = true ↔ ¬ (r = false)) := by cases r <;> simp
                rw [e1, r2, Ex.zero]
                constructor
                · intro h i hi k hk hc
                  exact h ⟨i, hi, Ex.zero.2 ⟨k, hk, hc⟩⟩
                · rintro h ⟨i, hi, hE⟩
                  obtain ⟨k, hk, hc⟩ := Ex.zero.1 hE
                  exact h i hi k hk hc
              exact ⟨fun h => ⟨by omega, by omega, S, T, ⟨z, z1, by omega⟩, ⟨y, y1, by omega⟩, e.1 h⟩, fun h => e.2 h.cl⟩
        · have e1 : (d != 0) = true := by simpa using hd
          simp only [z0, e1, beq_self_eq_true, cond_true]
          exact ⟨false, rfl, fun h => (by cases h), fun h => absurd (d3.2 h.right) hd⟩
      · have e1 : (c != 0) = true := by simpa using hc
        simp only [e1, tf0, cond_false]
        exact ⟨false, rfl, fun h => (by cases h), fun h => absurd (c3.2 h.left) hc⟩

theorem onK_C {n : Nat} {p : Nat → Pt} {q : Pt} : OnC n p q 0 ↔ OnK n p q := ⟨fun ⟨j, _, a, b⟩ => ⟨j, a, b⟩, fun ⟨j, a, b⟩ => ⟨j, Nat.zero_le j, a, b⟩⟩
theorem noTouch {n n' : Nat} {f g : Nat → Nat → CV} (V : Valid n f) (W : Valid n' g) (h : ¬ Touch n (pt f) n' (pt g)) : NoTouch n (pt f) n' (pt g) :=
  ⟨V.big, W.big, fun i hi k hk hm => h ⟨i, k, hi, hk, hm⟩, V.ne, W.ne⟩
/-- in or on a contour -/
def ClosedC (n : Nat) (f : Nat → Nat → CV) (q : Pt) : Prop := par n (pt f) q = true ∨ OnK n (pt f) q
theorem IsWhere.nonneg {n : Nat} {f : Nat → Nat → CV} {q : Pt} {w : Int} (h : IsWhere n f q w) (V : Valid n f) (hw : 0 ≤ w) : nr q.1 q.2 ∧ ClosedC n f q := by
  have hq : nr q.1 q.2 := by
    by_cases hh : Valid n f ∧ nr q.1 q.2
    · exact hh.2
    · have := h.2 hh; omega
  refine ⟨hq, ?_⟩
  rcases h.val V hq with ⟨_, b⟩ | ⟨_, b⟩ | ⟨a, _⟩
  · exact .inl b.2
  · exact .inr (onK_C.1 b)
  · omega

theorem cf_zero (n1 : Nat) (f1 f2 : Nat → Nat → CV) : cl (cf n1 f1 f2) 0 = n1 ∧ ce (cf n1 f1 f2) 0 = f1 := ⟨rfl, rfl⟩
theorem cf_succ (n1 : Nat) (f1 f2 : Nat → Nat → CV) (j : Nat) : cl (cf n1 f1 f2) (j + 1) = CV.len (f2 j 0) ∧ ce (cf n1 f1 f2) (j + 1) = CV.el (f2 j 0) := by
  have e : cf n1 f1 f2 (j + 1) 0 = f2 j 0 := by
    unfold cf joinF
    rw [bif_f (by cases hq : Nat.blt (j + 1) 1 with | false => rfl | true => simp [Nat.blt_eq] at hq)]
    rfl
  unfold cl ce
  rw [e]
  exact ⟨rfl, rfl⟩
theorem Cl.free {gap : Int} {n1 : Nat} {f1 : Nat → Nat → CV} {n2 : Nat} {f2 : Nat → Nat → CV} {m1 : Nat} {g1 : Nat → Nat → CV} {m2 : Nat} {g2 : Nat → Nat → CV} (h : Cl gap n1 f1 n2 f2 m1 g1 m2 g2) {i k : Nat} (hi : i < 1 + n2) (hk : k < 1 + m2) :
    ¬ Touch (cl (cf n1 f1 f2) i) (pt (ce (cf n1 f1 f2) i)) (cl (cf m1 g1 g2) k) (pt (ce (cf m1 g1 g2) k)) := fun ⟨a, b, ha, hb, hm⟩ => h i hi k hk ⟨a, ha, b, hb, .inl hm⟩

/-- the first corner of the other shape: out of the outer contour, or within a hole -/
theorem Off.cases {n1 : Nat} {f1 : Nat → Nat → CV} {n2 : Nat} {f2 : Nat → Nat → CV} {q : Pt} (S : VShape n1 f1 n2 f2) (hq : nr q.1 q.2) (h : Off n1 f1 n2 f2 q) :
    par n1 (pt f1) q = false ∨ ∃ j, j < n2 ∧ par (CV.len (f2 j 0)) (pt (CV.el (f2 j 0))) q = true := by
  obtain ⟨z, z1, z2⟩ := h
  obtain ⟨z', e1, _, _, w, W, hw, hW, _, _, h3⟩ := place47_full S q.1 q.2
  rw [z1] at e1
  cases e1
  rcases h3 with h | ⟨j, hj, h⟩
  · exact .inl ((hw.out S.outer hq).1 (by omega)).2
  · refine .inr ⟨j, hj, ?_⟩
    have hr := (hW j).range
    exact (((hW j).one (S.hole j hj).valid hq).1 (by omega)).2

/-- a shape's outer contour within a hole of another: no common point -/
theorem in_hole {gap : Int} {n1 : Nat} {f1 : Nat → Nat → CV} {n2 : Nat} {f2 : Nat → Nat → CV} {m1 : Nat} {g1 : Nat → Nat → CV} {m2 : Nat} {g2 : Nat → Nat → CV} (C : Clr gap n1 f1 n2 f2 m1 g1 m2 g2) {j : Nat} (hj : j < n2) (hp : par (CV.len (f2 j 0)) (pt (CV.el (f2 j 0))) (pt g1 0) = true)
    {q : Pt} (hq : nr q.1 q.2) (h2 : ClosedC m1 g1 q) {W : Int} (hW : IsWhere (CV.len (f2 j 0)) (CV.el (f2 j 0)) q W) : W = 1 := by
  have V := (C.left.hole j hj).valid
  have hT := C.cl.free (i := j + 1) (k := 0) (by omega) (by omega)
  rw [(cf_succ n1 f1 f2 j).1, (cf_succ n1 f1 f2 j).2, (cf_zero m1 g1 g2).1, (cf_zero m1 g1 g2).2] at hT
  have N := noTouch C.right.outer V (fun h => hT h.symm)
  obtain ⟨a, b⟩ := two_within N hp h2
  exact (hW.one V hq).2 ⟨fun h => a (onK_C.1 h), b⟩

theorem no_common {gap : Int} {n1 : Nat} {f1 : Nat → Nat → CV} {n2 : Nat} {f2 : Nat → Nat → CV} {m1 : Nat} {g1 : Nat → Nat → CV} {m2 : Nat} {g2 : Nat → Nat → CV} (C : Clr gap n1 f1 n2 f2 m1 g1 m2 g2) {q : Pt} {z y : Int} (hz : IsPlace n1 f1 n2 f2 q z) (hy : IsPlace m1 g1 m2 g2 q y) (z0 : 0 ≤ z) : y < 0 := by
  by_cases y0 : y < 0
  · exact y0
  · exfalso
    obtain ⟨w, W, hw, hW, w1, w2, _⟩ := hz
    obtain ⟨v, V, hv, hV, v1, v2, _⟩ := hy
    obtain ⟨hq, c1⟩ := hw.nonneg C.left.outer (by omega)
    obtain ⟨_, c2⟩ := hv.nonneg C.right.outer (by omega)
    have nf : nr (pt f1 0).1 (pt f1 0).2 := C.left.outer.near 0 (by have := C.left.outer.big; omega)
    have ng : nr (pt g1 0).1 (pt g1 0).2 := C.right.outer.near 0 (by have := C.right.outer.big; omega)
    rcases C.off.cases C.left ng with o1 | ⟨j, hj, o1⟩
    · rcases C.off'.cases C.right nf with o2 | ⟨j, hj, o2⟩
      · have hT := C.cl.free (i := 0) (k := 0) (by omega) (by omega)
        rw [(cf_zero n1 f1 f2).1, (cf_zero n1 f1 f2).2, (cf_zero m1 g1 g2).1, (cf_zero m1 g1 g2).2] at hT
        exact two_apart (noTouch C.left.outer C.right.outer hT) o2 o1 c1 c2
      · have e := in_hole C.symm hj o2 hq c1 (hV j)
        have := v2 j hj
        omega
    · have e := in_hole C hj o1 hq c2 (hW j)
      have := w2 j hj
      omega

theorem apart_law (n1 : Nat) (f1 : Nat → Nat → CV) (n2 : Nat) (f2 : Nat → Nat → CV) (_ : ShapeIn n1 f1 n2 f2) (m1 : Nat) (g1 : Nat → Nat → CV) (m2 : Nat) (g2 : Nat → Nat → CV) (_ : ShapeIn m1 g1 m2 g2) (gap h qx qy : Int) (_ : I64 gap) (_ : I64 h) (_ : I64 qx) (_ : I64 qy) : F10 100 n1 f1 n2 f2 m1 g1 m2 g2 gap h qx qy = some true := by
  unfold F10 D10
  rcases great_law n1 n2 f1 f2 with k | ⟨k, _, _, _⟩
  · rw [k, ob_some, bif_f (by simp), alive_law, ob_some]
  · rcases great_law m1 m2 g1 g2 with k' | ⟨k', _, _, _⟩
    · rw [k, ob_some, bif_t (by simp), k', ob_some, bif_t rfl, alive_law, ob_some]
    · obtain ⟨r, r1, r2⟩ := clear27 n1 f1 n2 f2 m1 g1 m2 g2 gap
      obtain ⟨s, s1, s2⟩ := clear27 m1 g1 m2 g2 n1 f1 n2 f2 gap
      obtain ⟨t, t1, t2⟩ := clear27 n1 f1 n2 f2 m1 g1 m2 g2 h
      obtain ⟨z, z1, _, z2⟩ := place_full n1 f1 n2 f2 qx qy
      obtain ⟨y, y1, _, y2⟩ := place_full m1 g1 m2 g2 qx qy
      have hrs : s = r := by
        have : (s = true ↔ r = true) := s2.trans ((⟨Clr.symm, Clr.symm⟩ : Clr gap m1 g1 m2 g2 n1 f1 n2 f2 ↔ Clr gap n1 f1 n2 f2 m1 g1 m2 g2).trans r2.symm)
        cases r <;> cases s <;> simp at this <;> rfl
      subst hrs
      simp only [k, k', r1, s1, t1, z1, y1, alive_law, ob_some, beq_self_eq_true, cond_true, Bool.not_true, cond_false]
      cases s with
      | false => rfl
      | true =>
        have C := r2.1 rfl
        have key : (bif decide (z < 0) == false then bif decide (y < 0) == true then some true else some false else some true : Option Bool) = some true := by
          by_cases hz : z < 0
          · rw [decide_eq_true hz]; rfl
          · have := no_common C (z2 C.left) (y2 C.right) (by omega)
            rw [decide_eq_false hz, decide_eq_true this]; rfl
        by_cases h0 : h ≥ 0
        · by_cases hg : h ≤ gap
          · have ht : t = true := t2.2 (C.mono h0 hg)
            subst ht
            rw [decide_eq_true h0, decide_eq_true hg]
            exact key
          · rw [decide_eq_true h0, decide_eq_false hg]
            exact key
        · rw [decide_eq_false h0]
          exact key
end Go.Eng.R13
