/-
 Order: what the reference computes; DagOrders.
-/
import Derived.Test.YtdhhkbnmfabnaaaDyOrd
set_option linter.all false
namespace Go.Eng.R13
open Go Go.RowKit Go.Eng
section
variable {ρ : Type} {n : Int} {m : Nat} {f : FF}
theorem l229v3 (u : Nat) (hg : Good n m f) (hm : m ≤ 1000000) (K : Nat) (T O : FF) (k0 : FF → Option ρ) : ∀ (d i t : Nat) (x : Int) (g : FF), x = (i : Int) → i + d = m → d < t →
  ∃ g', (∀ w, bv g' w = (bv g w || (List.range' i d).any fun j => decide (eb f j = (w : Int)) && !bv T (ea f j).toNat)) ∧ L229v3 u n m f K (Int.toNat n) (Int.toNat n) T O t x g k0 = k0 g'
 | 0, i, t + 1, x, g, hx, hi, ht => by
  refine ⟨g, fun w => by simp, ?_⟩
  unfold L229v3
  have h1 : decide (x < Int.ofNat m) = false := decide_eq_false (by simp only [Int.ofNat_eq_natCast]; omega)
  rw [h1, cond_false]
 | d + 1, i, t + 1, x, g, hx, hi, ht => by
  obtain ⟨a1, a2, b1, b2, _⟩ := hg i (by omega)
  have h1 : decide (x < Int.ofNat m) = true := decide_eq_true (by simp only [Int.ofNat_eq_natCast]; omega)
  have h2 : inb x m = true := inb_true (by omega) (by omega)
  have h3 : Int.toNat x = i := by omega
  have h4 : inb (CV.int (f i 1)) (Int.toNat n) = true := inb_true b1 (show eb f i < _ by omega)
  have h5 : inb (CV.int (f i 0)) (Int.toNat n) = true := inb_true a1 (show ea f i < _ by omega)
  have hx1 : w64 (x + 1) = ((i + 1 : Nat) : Int) := by rw [w64_of (by omega) (by omega)]; omega
  have hT : CV.bool (T (0 + Int.toNat (CV.int (f i 0))) 0) = bv T (ea f i).toNat := by rw [Nat.zero_add]
  cases q : bv T (ea f i).toNat with
  | true =>
   obtain ⟨g', hg', he⟩ := l229v3 u hg hm K T O k0 d (i + 1) t (w64 (x + 1)) g hx1 (by omega) (by omega)
   refine ⟨g', fun w => ?_, ?_⟩
   ·rw [hg', List.range'_succ, List.any_cons, q]; simp
   ·unfold L229v3
    rw [h1, cond_true, h2, cond_true, h3, h5, cond_true, hT, q, show (!true) = false from rfl, cond_false]
    exact he
  | false =>
   obtain ⟨g', hg', he⟩ := l229v3 u hg hm K T O k0 d (i + 1) t (w64 (x + 1)) (setF g (0 + Int.toNat (CV.int (f i 1))) 0 1 (listF [.b true])) hx1 (by omega) (by omega)
   refine ⟨g', fun w => ?_, ?_⟩
   ·rw [hg', setB, List.range'_succ, List.any_cons, q]
    by_cases qw : eb f i = (w : Int)
    ·have : w = Int.toNat (CV.int (f i 1)) := by show w = Int.toNat (eb f i); omega
     rw [if_pos this]; simp [qw]
    ·have : ¬ w = Int.toNat (CV.int (f i 1)) := fun e => qw (by have : w = Int.toNat (eb f i) := e; omega)
     rw [if_neg this]; simp [qw]
   ·unfold L229v3
    rw [h1, cond_true, h2, cond_true, h3, h5, cond_true, hT, q, show (!false) = true from rfl, cond_true, cond_true, h4, cond_true]
    exact he
theorem find_snoc {p : Nat → Bool} (d : Nat) : (List.range (d + 1)).find? p = match (List.range d).find? p with | some v => some v | none => if p d then some d else none := by
 rw [List.range_succ, List.find?_append]
 cases (List.range d).find? p with
 | some v => rfl
 | none => cases hp : p d <;> simp [List.find?_cons, hp]
theorem l229v4 (u : Nat) (K : Nat) (T O W : FF) (hn : n ≤ 1000000) (k0 : Int → Option ρ) : ∀ (d t : Nat) (y x : Int), x = (d : Int) - 1 → (d : Int) ≤ n → d < t →
  L229v4 u n m f K (Int.toNat n) (Int.toNat n) T O W t y x k0 = k0 (match (List.range d).find? (fun v => !bv T v && !bv W v) with | some v => (v : Int) | none => y)
 | 0, t + 1, y, x, hx, hd, ht => by
  unfold L229v4
  have h1 : decide (x ≥ 0) = false := decide_eq_false (by omega)
  rw [h1, cond_false]; rfl
 | d + 1, t + 1, y, x, hx, hd, ht => by
  have h1 : decide (x ≥ 0) = true := decide_eq_true (by omega)
  have h2 : inb x (Int.toNat n) = true := inb_true (by omega) (by omega)
  have h3 : Int.toNat x = d := by omega
  have hx1 : w64 (x - 1) = (d : Int) - 1 := by rw [w64_of (by omega) (by omega)]; omega
  rw [find_snoc]
  have fin : ∀ (b : Bool), (!bv T d && !bv W d) = b → (k0 (match (List.range d).find? (fun v => !bv T v && !bv W v) with | some v => (v : Int) | none => bif b then x else y)) =
    k0 (match (match (List.range d).find? (fun v => !bv T v && !bv W v) with | some v => some v | none => if (!bv T d && !bv W d) then some d else none) with | some v => (v : Int) | none => y) := by
   intro b hb
   rw [hb]
   cases (List.range d).find? (fun v => !bv T v && !bv W v) with
   | some v => rfl
   | none => cases b <;> simp [hx] <;> congr 1 <;> omega
  unfold L229v4
  rw [h1, cond_true, h2, cond_true, h3, cond_true]
  rw [show CV.bool (T (0 + d) 0) = bv T d by rw [Nat.zero_add], show CV.bool (W (0 + d) 0) = bv W d by rw [Nat.zero_add]]
  cases hT : bv T d with
  | true =>
   rw [show ((!true) == true) = false from rfl, cond_false, l229v4 u K T O W hn k0 d t y (w64 (x - 1)) hx1 (by omega) (by omega)]
   have := fin false (by rw [hT]; rfl)
   rw [cond_false] at this
   rw [this, hT]
  | false =>
   rw [show ((!false) == true) = true from rfl, cond_true]
   cases hW : bv W d with
   | true =>
    rw [show (!true) = false from rfl, cond_false, l229v4 u K T O W hn k0 d t y (w64 (x - 1)) hx1 (by omega) (by omega)]
    have := fin false (by rw [hT, hW]; rfl)
    rw [cond_false] at this
    rw [this, hT, hW]; rfl
   | false =>
    rw [show (!false) = true from rfl, cond_true, l229v4 u K T O W hn k0 d t x (w64 (x - 1)) hx1 (by omega) (by omega)]
    have := fin true (by rw [hT, hW]; rfl)
    rw [cond_true] at this
    rw [this, hT, hW]; rfl
structure RInv (out : List Nat) (T O : FF) : Prop where
 ord : ∀ i, i < out.length → iv O i = ((out.getD i 0 : Nat) : Int)
 tak : ∀ w, bv T w = out.contains w
theorem l229v5 (u : Nat) (hg : Good n m f) (hm : m ≤ 1000000) (hn0 : 0 ≤ n) (hn : n ≤ 256) (hu : 400 ≤ u) (hmu : m < u) (k0 : FF → Nat → FF → FF → Option ρ) (k1 : Nat → FF → FF → Option ρ) :
  ∀ (d t : Nat) (out : List Nat) (T O : FF), out.length + d = Int.toNat n → d < t → RInv out T O →
   (run (Int.toNat n) m f d out = none → ∃ a b c e, L229v5 u n m f (Int.toNat n) t out.length T O k0 k1 = k0 a b c e) ∧
   (∀ l, run (Int.toNat n) m f d out = some l → ∃ T' O', (∀ i, i < Int.toNat n → iv O' i = ((l.getD i 0 : Nat) : Int)) ∧ L229v5 u n m f (Int.toNat n) t out.length T O k0 k1 = k1 (Int.toNat n) T' O')
 | 0, t + 1, out, T, O, hd, ht, hI => by
  refine ⟨fun h => by simp [run] at h, fun l h => ?_⟩
  cases h
  have h1 : decide ((Int.ofNat out.length) < n) = false := decide_eq_false (by simp only [Int.ofNat_eq_natCast]; omega)
  refine ⟨T, O, fun i hi => hI.ord i (by omega), ?_⟩
  unfold L229v5
  rw [h1, cond_false, show out.length = Int.toNat n by omega]
 | d + 1, t + 1, out, T, O, hd, ht, hI => by
  have h1 : decide ((Int.ofNat out.length) < n) = true := decide_eq_true (by simp only [Int.ofNat_eq_natCast]; omega)
  have c1 : (decide (0 ≤ n) && decide (n ≤ n) && decide (n ≤ 1073741824) && true) = true := by simp; omega
  obtain ⟨W, hW, e3⟩ := l229v3 u hg hm out.length T O (fun x73 => (L229v4 u n m f out.length (Int.toNat n) (Int.toNat n) T O x73 u (-1) (w64 (n - 1))
  (fun x96 => (bif (decide (x96 < 0)) then (k0 T out.length O x73) else (bif (inb x96 (Int.toNat n)) then (bif (Nat.ble (out.length + 1) 1073741824) then (L229v5 u n m f (Int.toNat n) t (out.length + 1) (setF T (0 + (Int.toNat x96)) 0 1 (listF [(.b true)])) (joinF out.length O (rowsF 1 [(.i .i64 x96)])) k0 k1) else none) else none))))) m 0 u 0 (fun _ j => listF [(.b false)] j) rfl (by omega) hmu
  have h4 := l229v4 (n := n) (m := m) (f := f) u out.length T O W (by omega) (fun x96 => (bif (decide (x96 < 0)) then (k0 T out.length O W) else (bif (inb x96 (Int.toNat n)) then (bif (Nat.ble (out.length + 1) 1073741824) then (L229v5 u n m f (Int.toNat n) t (out.length + 1) (setF T (0 + (Int.toNat x96)) 0 1 (listF [(.b true)])) (joinF out.length O (rowsF 1 [(.i .i64 x96)])) k0 k1) else none) else none))) (Int.toNat n) u (-1) (w64 (n - 1)) (by rw [w64_of (by omega) (by omega)]; omega) (by omega) (by omega)
  have hf : (List.range (Int.toNat n)).find? (fun v => !bv T v && !bv W v) = next (Int.toNat n) m f out := by
   unfold next
   refine find_congr fun w hw => ?_
   unfold free
   rw [hI.tak w]
   congr 2
   rw [hW w]
   show (false || _) = _
   rw [Bool.false_or]
   unfold waits
   rw [List.range_eq_range']
   congr 1
   funext j
   rw [hI.tak]
  have h9 : L229v5 u n m f (Int.toNat n) (t + 1) out.length T O k0 k1 = L229v3 u n m f out.length (Int.toNat n) (Int.toNat n) T O u 0 (fun _ j => listF [(.b false)] j) (fun x73 => (L229v4 u n m f out.length (Int.toNat n) (Int.toNat n) T O x73 u (-1) (w64 (n - 1))
  (fun x96 => (bif (decide (x96 < 0)) then (k0 T out.length O x73) else (bif (inb x96 (Int.toNat n)) then (bif (Nat.ble (out.length + 1) 1073741824) then (L229v5 u n m f (Int.toNat n) t (out.length + 1) (setF T (0 + (Int.toNat x96)) 0 1 (listF [(.b true)])) (joinF out.length O (rowsF 1 [(.i .i64 x96)])) k0 k1) else none) else none))))) := by
   show (bif decide ((Int.ofNat out.length) < n) then (bif (decide (0 ≤ n) && decide (n ≤ n) && decide (n ≤ 1073741824) && true) then _ else _) else _) = _
   rw [h1, cond_true, c1, cond_true]
  rw [h9, e3, h4, hf]
  show (run (Int.toNat n) m f (d + 1) out = none → _) ∧ _
  unfold run
  cases hx : next (Int.toNat n) m f out with
  | none => exact ⟨fun _ => ⟨_, _, _, _, rfl⟩, fun l h => by cases h⟩
  | some v =>
   obtain ⟨hv1, hv2, hv3⟩ := next_some hx
   dsimp only
   rw [show decide ((v : Int) < 0) = false from decide_eq_false (by omega), cond_false, inb_true (i := (v : Int)) (n := Int.toNat n) (by omega) (by omega), cond_true, show Nat.ble (out.length + 1) 1073741824 = true by rw [Nat.ble_eq]; omega, cond_true, Int.toNat_natCast]
   have hI' : RInv (out ++ [v]) (setF T (0 + v) 0 1 (listF [.b true])) (joinF out.length O (rowsF 1 [.i .i64 (v : Int)])) := by
    refine ⟨fun i hi => ?_, fun w => ?_⟩
    ·rw [joinI _ _ _ _ (by simp at hi; omega), getD_snoc]
     split
     ·rfl
     ·exact hI.ord i (by simp at hi; omega)
    ·rw [setB, hI.tak w]
     by_cases q : w = v
     ·subst q; simp
     ·simp [q]
   have := l229v5 u hg hm hn0 hn hu hmu k0 k1 d t (out ++ [v]) _ _ (by simp; omega) (by omega) hI'
   rw [show (out ++ [v]).length = out.length + 1 by simp] at this
   exact this
theorem order229 (u : Nat) (n : Int) (m : Nat) (f : FF) (hm : m ≤ 1000000) (hu : 400 ≤ u) (hmu : m < u) : ∃ k g c, F229 u n m f = some (k, g, c) ∧ OrdR n m f k g c := by
 by_cases hn : 0 ≤ n ∧ n ≤ 256
 ·have h1 : (decide (n < 0) == false) = true := by rw [decide_eq_false (by omega)]; rfl
  have h2 : decide (n > 256) = false := decide_eq_false (by omega)
  by_cases he : errE n f 0 m = 0
  ·have hg := good_iff.1 he
   have hI : RInv [] (fun _ j => listF [(.b false)] j) (fun _ _ => .any) := ⟨fun i hi => by simp at hi, fun w => rfl⟩
   have h8 := l229v5 (ρ := Bool × Nat × FF × Int) u hg (by omega) hn.1 hn.2 hu hmu (fun x183 x184 x185 x186 => (some (true, 0, (fun _ _ => .any), 20))) (fun x108 x109 x110 => (some (false, x108, x110, 0))) (Int.toNat n) u [] (fun _ j => listF [(.b false)] j) (fun _ _ => .any) (by simp) (by omega) hI
   have c1 : (decide (0 ≤ n) && decide (n ≤ n) && decide (n ≤ 1073741824) && true) = true := by simp; omega
   have hF : FT229 u n m f = L229v5 u n m f (Int.toNat n) u 0 (fun _ j => listF [(.b false)] j) (fun _ _ => .any) (fun x183 x184 x185 x186 => (some (true, 0, (fun _ _ => .any), 20))) (fun x108 x109 x110 => (some (false, x108, x110, 0))) := by
    unfold FT229
    rw [h1, cond_true, h2, cond_false, check228 u n m f (by omega) hmu, ob_some, he, show ((0 : Int) != 0) = false from rfl, cond_false, c1, cond_true]
   cases hr : run (Int.toNat n) m f (Int.toNat n) [] with
   | none =>
    obtain ⟨a, b, c, e, hL⟩ := h8.1 hr
    have hL : L229v5 (ρ := Bool × Nat × FF × Int) u n m f (Int.toNat n) u 0 (fun _ j => listF [(.b false)] j) (fun _ _ => .any) (fun x183 x184 x185 x186 => (some (true, 0, (fun _ _ => .any), 20))) (fun x108 x109 x110 => (some (false, x108, x110, 0))) = _ := hL
    refine ⟨0, (fun _ _ => .any), 20, ?_, .cycle _ hn hg hr⟩
    unfold F229
    rw [hF, hL]; rfl
   | some l =>
    obtain ⟨T', O', hO, hL⟩ := h8.2 l hr
    have hL : L229v5 (ρ := Bool × Nat × FF × Int) u n m f (Int.toNat n) u 0 (fun _ j => listF [(.b false)] j) (fun _ _ => .any) (fun x183 x184 x185 x186 => (some (true, 0, (fun _ _ => .any), 20))) (fun x108 x109 x110 => (some (false, x108, x110, 0))) = _ := hL
    refine ⟨Int.toNat n, O', 0, ?_, .order _ l hn hg hr hO⟩
    unfold F229
    rw [hF, hL]; rfl
  ·refine ⟨0, (fun _ _ => .any), errE n f 0 m, ?_, .bad _ hn he⟩
   unfold F229 FT229
   rw [h1, cond_true, h2, cond_false, check228 u n m f (by omega) hmu, ob_some, show (errE n f 0 m != 0) = true by simp [he], cond_true]
   rfl
 ·refine ⟨0, (fun _ _ => .any), 9, ?_, .range _ (by omega)⟩
  unfold F229 FT229
  by_cases q : n < 0
  ·rw [show (decide (n < 0) == false) = false by rw [decide_eq_true q]; rfl, cond_false]; rfl
  ·rw [show (decide (n < 0) == false) = true by rw [decide_eq_false q]; rfl, cond_true, decide_eq_true (show n > 256 by omega), cond_true]; rfl
theorem OrdR.same {k k' : Nat} {g g' : FF} {c c' : Int} (h : OrdR n m f k g c) (h' : OrdR n m f k' g' c') : k = k' ∧ c = c' ∧ ∀ i, i < k → iv g i = iv g' i := by
 have z : ∀ i, i < 0 → iv g i = iv g' i := fun i hi => by omega
 cases h with
 | range _ h =>
  cases h' with
  | range => exact ⟨rfl, rfl, z⟩
  | bad _ h' => omega
  | cycle _ h' => omega
  | order _ _ h' => omega
 | bad _ h he =>
  cases h' with
  | range _ h' => omega
  | bad => exact ⟨rfl, rfl, z⟩
  | cycle _ _ hg => exact (he (good_iff.2 hg)).elim
  | order _ _ _ hg => exact (he (good_iff.2 hg)).elim
 | cycle _ h hg hr =>
  cases h' with
  | range _ h' => omega
  | bad _ _ he => exact (he (good_iff.2 hg)).elim
  | cycle => exact ⟨rfl, rfl, z⟩
  | order _ _ _ _ hr' => rw [hr] at hr'; cases hr'
 | order _ l h hg hr hl =>
  cases h' with
  | range _ h' => omega
  | bad _ _ he => exact (he (good_iff.2 hg)).elim
  | cycle _ _ _ hr' => rw [hr] at hr'; cases hr'
  | order _ l' _ _ hr' hl' =>
   rw [hr] at hr'; cases hr'
   exact ⟨rfl, rfl, fun i hi => by rw [hl i hi, hl' i hi]⟩
theorem OrdR.len {k : Nat} {g : FF} {c : Int} (h : OrdR n m f k g c) : k ≤ 256 := by cases h <;> omega
end
end Go.Eng.R13
