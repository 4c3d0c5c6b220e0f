/-
  A contour in the opposite order.
-/
import Derived.Test.YtnpgipmbionmgaaGeo9
set_option linter.all false
namespace Geo

theorem nx_lt' {n i : Nat} (h : 0 < n) : nx n i < n := Nat.mod_lt _ h

/-! equal corners -/
theorem simple_congr {n : Nat} {p q : Nat → Pt} (h : ∀ i, i < n → p i = q i) (S : Simple n p) : Simple n q := by
  have hb := S.big
  have hx : ∀ i, p (nx n i) = q (nx n i) := fun i => h _ (nx_lt' (by omega))
  refine ⟨S.big, fun i j hi hj hne => ?_, fun e he => ?_, fun e i he hi h1 h2 h3 => ?_⟩
  · rw [← h i hi, ← h j hj]; exact S.dist i j hi hj hne
  · rw [← h e he, ← hx, ← hx]; exact S.corner e he
  · rw [← h e he, ← h i hi, ← hx, ← hx]; exact S.apart e i he hi h1 h2 h3
theorem par_congr {n : Nat} {p q : Nat → Pt} (h0 : 0 < n) (h : ∀ i, i < n → p i = q i) (z : Pt) : par n p z = par n q z :=
  xs_congr fun i hi => by rw [h i hi, h ((i + 1) % n) (Nat.mod_lt _ h0)]
theorem area_congr {n : Nat} {p q : Nat → Pt} (h0 : 0 < n) (h : ∀ i, i < n → p i = q i) : area n p = area n q :=
  sm_congr fun i hi => by rw [h i hi, h (nx n i) (nx_lt' h0)]
theorem onK_congr {n : Nat} {p q : Nat → Pt} (h0 : 0 < n) (h : ∀ i, i < n → p i = q i) (z : Pt) : OnK n p z ↔ OnK n q z :=
  ⟨fun ⟨j, hj, ho⟩ => ⟨j, hj, by rw [← h j hj, ← h (nx n j) (nx_lt' h0)]; exact ho⟩, fun ⟨j, hj, ho⟩ => ⟨j, hj, by rw [h j hj, h (nx n j) (nx_lt' h0)]; exact ho⟩⟩

/-! the opposite order -/
def rv (n : Nat) (p : Nat → Pt) (j : Nat) : Pt := p (n - 1 - j)
def ej (n j : Nat) : Nat := n - 1 - nx n j
theorem ej_lt {n j : Nat} (h : 0 < n) : ej n j < n := by unfold ej; omega
theorem ej_cases {n j : Nat} (hj : j < n) : (j + 1 < n ∧ ej n j = n - 2 - j) ∨ (j + 1 = n ∧ ej n j = n - 1) := by
  unfold ej
  rcases nx_cases hj with ⟨c, d⟩ | ⟨c, d⟩ <;> rw [d] <;> omega
theorem rv_edge {n j : Nat} {p : Nat → Pt} (hj : j < n) : rv n p j = p (nx n (ej n j)) ∧ rv n p (nx n j) = p (ej n j) := by
  refine ⟨?_, rfl⟩
  unfold rv
  congr 1
  unfold ej
  rcases nx_cases hj with ⟨h1, h2⟩ | ⟨h1, h2⟩
  · rw [h2, nx_small (by omega)]; omega
  · rw [h2, nx_last (by omega)]; omega
theorem xs_rev (n : Nat) : ∀ g : Nat → Bool, xs n (fun j => g (n - 1 - j)) = xs n g := by
  induction n with
  | zero => intro g; rfl
  | succ n ih =>
    intro g
    have e := ih (fun j => g (j + 1))
    have e2 := xs_shift n g
    have e3 : xs n (fun j => g (n + 1 - 1 - j)) = xs n (fun j => g (n - 1 - j + 1)) := xs_congr fun i hi => by rw [show n + 1 - 1 - i = n - 1 - i + 1 from by omega]
    simp only [xs]
    rw [e3, e, show n + 1 - 1 - n = 0 from by omega, e2]
theorem sm_rev (n : Nat) : ∀ g : Nat → Int, sm n (fun j => g (n - 1 - j)) = sm n g := by
  induction n with
  | zero => intro g; rfl
  | succ n ih =>
    intro g
    have e := ih (fun j => g (j + 1))
    have e2 := sm_shift n g
    have e3 : sm n (fun j => g (n + 1 - 1 - j)) = sm n (fun j => g (n - 1 - j + 1)) := sm_congr fun i hi => by rw [show n + 1 - 1 - i = n - 1 - i + 1 from by omega]
    simp only [sm]
    rw [e3, e, show n + 1 - 1 - n = 0 from by omega, e2]
theorem xs_ej (n : Nat) (g : Nat → Bool) : xs n (fun j => g (ej n j)) = xs n g := (xs_next n (fun k => g (n - 1 - k))).trans (xs_rev n g)
theorem sm_ej (n : Nat) (g : Nat → Int) : sm n (fun j => g (ej n j)) = sm n g := (sm_next n (fun k => g (n - 1 - k))).trans (sm_rev n g)

theorem rv_par {n : Nat} {p : Nat → Pt} {q : Pt} (hq : ¬ OnK n p q) : par n (rv n p) q = par n p q := by
  have h : par n (rv n p) q = xs n (fun j => rc q (p (ej n j)) (p (nx n (ej n j)))) := by
    unfold par
    refine xs_congr fun j hj => ?_
    obtain ⟨h1, h2⟩ := rv_edge (p := p) hj
    show rc q (rv n p j) (rv n p (nx n j)) = _
    rw [h1, h2]
    exact (rc_swap (fun h => hq ⟨ej n j, ej_lt (by omega), h⟩)).symm
  rw [h]
  exact xs_ej n (fun k => rc q (p k) (p (nx n k)))
theorem rv_area (n : Nat) (p : Nat → Pt) : area n (rv n p) = - area n p := by
  have h : area n (rv n p) = sm n (fun j => (-1) * ((p (ej n j)).1 * (p (nx n (ej n j))).2 - (p (nx n (ej n j))).1 * (p (ej n j)).2)) := by
    unfold area
    refine sm_congr fun j hj => ?_
    obtain ⟨h1, h2⟩ := rv_edge (p := p) hj
    rw [h1, h2]
    grind
  rw [h, sm_ej n (fun k => (-1) * ((p k).1 * (p (nx n k)).2 - (p (nx n k)).1 * (p k).2)), sm_mul]
  unfold area
  omega
theorem ej_ej {n j : Nat} (hj : j < n) : ej n (ej n j) = j := by
  have h1 : ej n j < n := ej_lt (by omega)
  unfold ej at *
  rcases nx_cases hj with ⟨a, b⟩ | ⟨a, b⟩ <;> rw [b] at h1 ⊢ <;> rcases nx_cases h1 with ⟨c, d⟩ | ⟨c, d⟩ <;> rw [d] <;> omega
theorem rv_onK {n : Nat} {p : Nat → Pt} {q : Pt} : OnK n (rv n p) q ↔ OnK n p q := by
  constructor
  · rintro ⟨j, hj, ho⟩
    obtain ⟨h1, h2⟩ := rv_edge (p := p) hj
    rw [h1, h2] at ho
    exact ⟨ej n j, ej_lt (by omega), ho.swap⟩
  · rintro ⟨j, hj, ho⟩
    have hl : ej n j < n := ej_lt (by omega)
    obtain ⟨h1, h2⟩ := rv_edge (p := p) hl
    rw [ej_ej hj] at h1 h2
    exact ⟨ej n j, hl, by rw [h1, h2]; exact ho.swap⟩
theorem rv_simple {n : Nat} {p : Nat → Pt} (S : Simple n p) : Simple n (rv n p) := by
  have hb := S.big
  refine ⟨hb, fun i j hi hj hne => ?_, fun e he => ?_, fun e i he hi h1 h2 h3 => ?_⟩
  · exact S.dist _ _ (by omega) (by omega) (by omega)
  · have hl : ej n (nx n e) < n := ej_lt (by omega)
    have hx : nx n e < n := nx_lt' (by omega)
    obtain ⟨a1, a2⟩ := rv_edge (p := p) he
    obtain ⟨b1, b2⟩ := rv_edge (p := p) hx
    have ee : ej n e = nx n (ej n (nx n e)) := by
      unfold ej
      rcases nx_cases he with ⟨c, d⟩ | ⟨c, d⟩
      · rw [d]
        rcases nx_cases (show e + 1 < n by omega) with ⟨c', d'⟩ | ⟨c', d'⟩
        · rw [d', nx_small (by omega)]; omega
        · rw [d', nx_last (by omega)]; omega
      · rw [d, nx_small (show 0 + 1 < n by omega), nx_small (by omega)]; omega
    have c := S.corner _ hl
    rw [ee] at a1
    rw [a1, b1, b2]
    exact ⟨fun h => c.2 h.swap, fun h => c.1 h.swap⟩
  · obtain ⟨a1, a2⟩ := rv_edge (p := p) he
    obtain ⟨b1, b2⟩ := rv_edge (p := p) hi
    rw [a1, a2, b1, b2]
    have h : ¬ Meet (p (ej n e)) (p (nx n (ej n e))) (p (ej n i)) (p (nx n (ej n i))) := by
      have l1 : ej n e < n := ej_lt (by omega)
      have l2 : ej n i < n := ej_lt (by omega)
      have v1 := ej_cases he
      have v2 := ej_cases hi
      have u1 := nx_cases l1
      have u2 := nx_cases l2
      have w1 := nx_cases he
      have w2 := nx_cases hi
      exact S.apart _ _ l1 l2 (by omega) (by omega) (by omega)
    exact fun hm => h hm.swap.swap2
end Geo
