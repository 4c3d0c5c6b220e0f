/-
 NeedRemains: a block that is ready remains ready.
-/
import Derived.Test.YtajhkinnmdlokaaNdOpen
set_option linter.all false
namespace Go.Eng.R13
open Go Go.RowKit Go.Eng
theorem hasB_app (s : ByteArray) (l l' : List ByteArray) : hasB s (l ++ l') = (hasB s l || hasB s l') := by unfold hasB; rw [List.any_append]
theorem opens_nil {block : ByteArray} {R D : List ByteArray} {m : Nat} {f : FF} : opens block R D m f = [] ↔ ∀ i, i < m → CV.str (f i 1) = block → metB (CV.int (f i 0)) (CV.str (f i 2)) R D = true := by
 constructor
 ·intro h i hi hb
  cases hq : metB (CV.int (f i 0)) (CV.str (f i 2)) R D with
  | true => rfl
  | false =>
   have : nd f i ∈ opens block R D m f := mem_opens.2 ⟨⟨i, hi, rfl⟩, hb, hq⟩
   rw [h] at this; cases this
 ·intro h
  rw [List.eq_nil_iff_forall_not_mem]
  intro x hx
  obtain ⟨⟨i, hi, hx1⟩, h2, h3⟩ := mem_opens.1 hx
  subst hx1
  have := h i hi h2
  rw [show metB (CV.int (f i 0)) (CV.str (f i 2)) R D = false from h3] at this
  cases this
theorem met_done {K : Int} {on : ByteArray} {R D D' : List ByteArray} (h : metB K on R D = true) : metB K on R (D ++ D') = true := by
 unfold metB at *
 rw [hasB_app]
 cases h1 : decide (K = 1) with
 | true => rw [h1] at h; exact h
 | false =>
  cases h2 : decide (K = 2) with
  | true => rw [h1, h2] at h; exact h
  | false =>
   cases h3 : decide (K = 3) with
   | true =>
    rw [h1, h2, h3] at h
    have h : hasB on D = true := h
    show (hasB on D || hasB on D') = true
    rw [h]; rfl
   | false => rfl
theorem met_raised {K : Int} {on : ByteArray} {R R' D : List ByteArray} (h : metB K on R D = true) (hK : K ≠ 2) : metB K on (R ++ R') D = true := by
 unfold metB at *
 rw [hasB_app, decide_eq_false hK] at *
 cases h1 : decide (K = 1) with
 | true =>
  rw [h1] at h
  have h : (decide (on = ByteArray.empty) || hasB on R) = true := h
  show (decide (on = ByteArray.empty) || (hasB on R || hasB on R')) = true
  rw [← Bool.or_assoc, h]; rfl
 | false => rw [h1] at h; exact h
section
variable {ρ : Type}
theorem l282v1 (u n2 : Nat) (f2 : FF) (x7 : Nat → CV) (k0 : Bool → Option ρ) (hn : CV.len (x7 5) ≤ 1000000) : ∀ (d i t : Nat) (x : Int) (b : Bool), x = (i : Int) → i + d = CV.len (x7 5) → d < t →
  L282v1 u n2 f2 x7 t b x k0 = k0 (b && (List.range' i d).all fun j => !(decide (CV.int (CV.el (x7 5) j 0) = 2) && decide (CV.str (CV.el (x7 5) j 1) = CV.str (x7 8))))
 | 0, i, t + 1, x, b, hx, hi, ht => by
  unfold L282v1
  rw [show decide (x < Int.ofNat (CV.len (x7 5))) = false from decide_eq_false (by simp only [Int.ofNat_eq_natCast]; omega), cond_false]; simp
 | d + 1, i, t + 1, x, b, hx, hi, ht => by
  have h1 : decide (x < Int.ofNat (CV.len (x7 5))) = true := decide_eq_true (by simp only [Int.ofNat_eq_natCast]; omega)
  have h2 : inb x (CV.len (x7 5)) = true := inb_true (by omega) (by omega)
  have h3 : Int.toNat x = i := by omega
  have hx1 : w64 (x + 1) = ((i + 1 : Nat) : Int) := by rw [w64_of (by omega) (by omega)]; omega
  have h4 : ((CV.int (CV.el (x7 5) i 0) != 2) == false) = decide (CV.int (CV.el (x7 5) i 0) = 2) := by
   by_cases h : CV.int (CV.el (x7 5) i 0) = 2 <;> simp [h]
  unfold L282v1
  rw [h1, cond_true, h2, cond_true, cond_true, h3, tl_eq, h4]
  cases b with
  | false => rw [show (false == true) = false from rfl, cond_false, l282v1 u n2 f2 x7 k0 hn d (i + 1) t _ _ hx1 (by omega) (by omega), Bool.false_and, Bool.false_and]
  | true =>
   rw [show (true == true) = true from rfl, cond_true, List.range'_succ, List.all_cons, Bool.true_and, l282v1 u n2 f2 x7 k0 hn d (i + 1) t _ _ hx1 (by omega) (by omega), l282v1 u n2 f2 x7 k0 hn d (i + 1) t _ _ hx1 (by omega) (by omega)]
   cases decide (CV.int (CV.el (x7 5) i 0) = 2) with
   | false => rfl
   | true => rfl
theorem l282v2 (u n : Nat) (f : FF) (y : Bool) (x7 : Nat → CV) (k0 : Nat → FF → Option ρ) (hn : n ≤ 100) : ∀ (d i t : Nat) (x : Int) (k : Nat) (g : FF), x = (i : Int) → i + d = n → d < t → k ≤ 100 + i →
  ∃ k' g', k' ≤ 200 ∧ strs k' g' = strs k g ++ (((List.range' i d).map (sv f)).filter fun s => !decide (s = CV.str (x7 8))) ∧ L282v2 u n f y x7 t k x g k0 = k0 k' g'
 | 0, i, t + 1, x, k, g, hx, hi, ht, hk => by
  refine ⟨k, g, by omega, by simp, ?_⟩
  unfold L282v2
  rw [show decide (x < Int.ofNat n) = false from decide_eq_false (by simp only [Int.ofNat_eq_natCast]; omega), cond_false]
 | d + 1, i, t + 1, x, k, g, hx, hi, ht, hk => by
  have h1 : decide (x < Int.ofNat n) = true := decide_eq_true (by simp only [Int.ofNat_eq_natCast]; omega)
  have h2 : inb x n = true := inb_true (by omega) (by omega)
  have h3 : Int.toNat x = i := by omega
  have hx1 : w64 (x + 1) = ((i + 1 : Nat) : Int) := by rw [w64_of (by omega) (by omega)]; omega
  have h4 : Nat.ble (k + 1) 1073741824 = true := by simp; omega
  cases q : decide (sv f i = CV.str (x7 8)) with
  | true =>
   obtain ⟨k', g', b1, b2, b3⟩ := l282v2 u n f y x7 k0 hn d (i + 1) t (w64 (x + 1)) k g hx1 (by omega) (by omega) (by omega)
   refine ⟨k', g', b1, ?_, ?_⟩
   ·rw [b2, List.range'_succ, List.map_cons, List.filter_cons_of_neg (by rw [q]; simp)]
   ·unfold L282v2
    rw [h1, cond_true, h2, cond_true, cond_true, h3, tl_eq, show decide (CV.str (f i 0) = CV.str (x7 8)) = true from q, Bool.not_true, cond_false]
    exact b3
  | false =>
   obtain ⟨k', g', b1, b2, b3⟩ := l282v2 u n f y x7 k0 hn d (i + 1) t (w64 (x + 1)) (k + 1) (joinF k g (rowsF 1 [.s (CV.str (f i 0))])) hx1 (by omega) (by omega) (by omega)
   refine ⟨k', g', b1, ?_, ?_⟩
   ·rw [b2, strs_join, List.range'_succ, List.map_cons, List.filter_cons_of_pos (by rw [q]; rfl), List.append_assoc]; rfl
   ·unfold L282v2
    rw [h1, cond_true, h2, cond_true, cond_true, h3, tl_eq, show decide (CV.str (f i 0) = CV.str (x7 8)) = false from q, Bool.not_false, cond_true, h4, cond_true]
    exact b3
end
theorem strs_joinF (a b : Nat) (f g : FF) : strs (a + b) (joinF a f g) = strs a f ++ strs b g := by
 unfold strs
 rw [List.range_add, List.map_append, List.map_map]
 congr 1
 ·exact List.map_congr_left fun i hi => by unfold sv; rw [joinF_lt (List.mem_range.1 hi)]
 ·apply List.map_congr_left
  intro i _
  show CV.str (joinF a f g (a + i) 0) = CV.str (g i 0)
  unfold joinF
  have : Nat.blt (a + i) a = false := by
   cases h : Nat.blt (a + i) a with
   | false => rfl
   | true => rw [Nat.blt_eq] at h; omega
  rw [this, cond_false, Nat.add_sub_cancel_left]
theorem strs_copy (n : Nat) (g : FF) : strs (0 + n) (joinF 0 (rowsF 1 []) g) = strs n g := by rw [strs_joinF]; rfl
theorem remains51 (x : Nat → CV) (_ : RowIn kR0 x) (n : Nat) (f : FF) (_ : SlIn (.pr .str .nil) n f) : F282 4000 x n f = some true := by
 obtain ⟨b, e, hb⟩ := few274 4000 (CV.str (x 0)) (CV.len (x 1)) (CV.el (x 1)) (CV.len (x 2)) (CV.el (x 2)) (CV.len (x 3)) (CV.el (x 3)) (CV.len (x 4)) (CV.el (x 4)) (CV.len (x 5)) (CV.el (x 5)) (CV.len (x 6)) (CV.el (x 6)) (CV.len (x 7)) (CV.el (x 7)) (Nat.le_refl _)
 unfold F282
 rw [e, ob_some, awake_law]
 cases b with
 | false => rfl
 | true =>
  rw [show ((!true) == false) = true from rfl, cond_true]
  obtain ⟨h1, h2, h3, h4, h5, h6, h7⟩ := hb rfl
  by_cases hn : n ≤ 60
  ·rw [decide_eq_false (show ¬ Int.ofNat n > 60 by simp only [Int.ofNat_eq_natCast]; omega), show (false == false) = true from rfl, cond_true]
   obtain ⟨r1, _⟩ := ready263 4000 (CV.str (x 0)) (CV.len (x 1)) (CV.el (x 1)) (CV.len (x 2)) (CV.el (x 2)) (CV.len (x 3)) (CV.el (x 3)) (CV.len (x 4)) (CV.el (x 4)) (CV.len (x 5)) (CV.el (x 5)) (CV.len (x 6)) (CV.el (x 6)) (CV.len (x 7)) (CV.el (x 7)) (CV.str (x 8)) (by omega) (by omega) (by omega) (by omega) (Nat.le_refl _)
   rw [r1, ob_some]
   by_cases hz : readyE (CV.str (x 8)) (bls (CV.len (x 1)) (CV.el (x 1))) (strs (CV.len (x 6)) (CV.el (x 6))) (strs (CV.len (x 7)) (CV.el (x 7))) (CV.len (x 5)) (CV.el (x 5)) = 0
   ·obtain ⟨z1, z2, z3⟩ := ready_zero.1 hz
    have z3 := opens_nil.1 z3
    rw [hz, show ((0 : Int) != 0) = false from rfl, cond_false]
    rw [show Nat.ble (0 + CV.len (x 7)) 1073741824 = true by simp; omega, cond_true, show Nat.ble ((0 + CV.len (x 7)) + n) 1073741824 = true by simp; omega, cond_true]
    obtain ⟨r2, _⟩ := ready263 4000 (CV.str (x 0)) (CV.len (x 1)) (CV.el (x 1)) (CV.len (x 2)) (CV.el (x 2)) (CV.len (x 3)) (CV.el (x 3)) (CV.len (x 4)) (CV.el (x 4)) (CV.len (x 5)) (CV.el (x 5)) (CV.len (x 6)) (CV.el (x 6)) ((0 + CV.len (x 7)) + n) (joinF (0 + CV.len (x 7)) (joinF 0 (rowsF 1 []) (CV.el (x 7))) f) (CV.str (x 8)) (by omega) (by omega) (by omega) (by omega) (Nat.le_refl _)
    rw [strs_joinF, strs_copy] at r2
    have e2 : readyE (CV.str (x 8)) (bls (CV.len (x 1)) (CV.el (x 1))) (strs (CV.len (x 6)) (CV.el (x 6))) (strs (CV.len (x 7)) (CV.el (x 7)) ++ strs n f) (CV.len (x 5)) (CV.el (x 5)) = 0 :=
     ready_zero.2 ⟨z1, z2, opens_nil.2 fun i hi hb => met_done (z3 i hi hb)⟩
    rw [r2, ob_some, e2, show ((0 : Int) != 0) = false from rfl, cond_false]
    rw [l282v1 4000 n f x _ (by omega) (CV.len (x 5)) 0 4000 0 true rfl (by omega) (by omega), Bool.true_and]
    rw [show Nat.ble (0 + CV.len (x 6)) 1073741824 = true by simp; omega, cond_true]
    obtain ⟨k', g', b1, b2, b3⟩ := l282v2 (ρ := Bool) 4000 n f ((List.range' 0 (CV.len (x 5))).all fun j => !(decide (CV.int (CV.el (x 5) j 0) = 2) && decide (CV.str (CV.el (x 5) j 1) = CV.str (x 8)))) x
     (fun x33 x34 => (bif ((!(List.range' 0 (CV.len (x 5))).all fun j => !(decide (CV.int (CV.el (x 5) j 0) = 2) && decide (CV.str (CV.el (x 5) j 1) = CV.str (x 8)))) == false) then (ob (F263 4000 (CV.str (x 0)) (CV.len (x 1)) (CV.el (x 1)) (CV.len (x 2)) (CV.el (x 2)) (CV.len (x 3)) (CV.el (x 3)) (CV.len (x 4)) (CV.el (x 4)) (CV.len (x 5)) (CV.el (x 5)) x33 x34 (CV.len (x 7)) (CV.el (x 7)) (CV.str (x 8))) fun x35 => (bif ((x35 == 0) == true) then (ob (some true) fun x36 => (some x36)) else (some false))) else (ob (some true) fun x37 => (some x37))))
     (by omega) n 0 4000 0 (0 + CV.len (x 6)) (joinF 0 (rowsF 1 []) (CV.el (x 6))) rfl (by omega) (by omega) (by omega)
    refine b3.trans ?_
    cases hfree : (List.range' 0 (CV.len (x 5))).all fun j => !(decide (CV.int (CV.el (x 5) j 0) = 2) && decide (CV.str (CV.el (x 5) j 1) = CV.str (x 8))) with
    | false => rfl
    | true =>
     rw [show ((!true) == false) = true from rfl, cond_true]
     obtain ⟨r3, _⟩ := ready263 4000 (CV.str (x 0)) (CV.len (x 1)) (CV.el (x 1)) (CV.len (x 2)) (CV.el (x 2)) (CV.len (x 3)) (CV.el (x 3)) (CV.len (x 4)) (CV.el (x 4)) (CV.len (x 5)) (CV.el (x 5)) k' g' (CV.len (x 7)) (CV.el (x 7)) (CV.str (x 8)) (by omega) (by omega) (by omega) (by omega) (Nat.le_refl _)
     rw [b2, strs_copy] at r3
     have e3 : readyE (CV.str (x 8)) (bls (CV.len (x 1)) (CV.el (x 1))) (strs (CV.len (x 6)) (CV.el (x 6)) ++ (((List.range' 0 n).map (sv f)).filter fun s => !decide (s = CV.str (x 8)))) (strs (CV.len (x 7)) (CV.el (x 7))) (CV.len (x 5)) (CV.el (x 5)) = 0 := by
      refine ready_zero.2 ⟨z1, ?_, opens_nil.2 fun i hi hb => met_raised (z3 i hi hb) fun hK => ?_⟩
      ·rw [hasB_app, z2, Bool.false_or]
       unfold hasB
       rw [List.any_filter]
       rw [List.any_eq_false]
       intro s _
       cases decide (s = CV.str (x 8)) <;> simp
      ·have := List.all_eq_true.1 hfree i (by simp [List.mem_range']; omega)
       rw [decide_eq_true hK, decide_eq_true hb] at this
       cases this
     rw [r3, ob_some, e3]
     rfl
   ·have : (readyE (CV.str (x 8)) (bls (CV.len (x 1)) (CV.el (x 1))) (strs (CV.len (x 6)) (CV.el (x 6))) (strs (CV.len (x 7)) (CV.el (x 7))) (CV.len (x 5)) (CV.el (x 5)) != 0) = true := by simpa using hz
    rw [this, cond_true]; rfl
  ·rw [decide_eq_true (show Int.ofNat n > 60 by simp only [Int.ofNat_eq_natCast]; omega)]; rfl
end Go.Eng.R13
