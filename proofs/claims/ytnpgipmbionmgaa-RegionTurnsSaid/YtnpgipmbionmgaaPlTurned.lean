/-
  Several texts in one.
-/
import Derived.Test.YtnpgipmbionmgaaGeo6
import Derived.Test.YtnpgipmbionmgaaPlGreat
import Derived.Test.YtnpgipmbionmgaaPlSum18
/-
  Contours and shapes that are turned, mirrored and shifted: the same answers.
-/
set_option linter.all false
namespace Go.Eng.R13
open Go Go.RowKit Go.Eng Geo
def Turned (T : Pt → Pt) (b : Bool) (n : Nat) (f g : Nat → Nat → CV) : Prop := ∀ j, j < n → pt g j = T (pt f (bif b then n - 1 - j else j))
def Fit (T : Pt → Pt) (b : Bool) : Prop := Rigid (bif b then -1 else 1) T
theorem Turned.rvd {T : Pt → Pt} {n : Nat} {f g : Nat → Nat → CV} (h : Turned T true n f g) : ∀ j, j < n → pt g j = rv n (fun i => T (pt f i)) j := fun j hj => h j hj
theorem Turned.fwd {T : Pt → Pt} {n : Nat} {f g : Nat → Nat → CV} (h : Turned T false n f g) : ∀ j, j < n → pt g j = (fun i => T (pt f i)) j := fun j hj => h j hj
theorem t_simple {T : Pt → Pt} {b : Bool} {n : Nat} {f g : Nat → Nat → CV} (R : Fit T b) (h : Turned T b n f g) : Simple n (pt g) ↔ Simple n (pt f) := by
  cases b with
  | true => exact ⟨fun S => R.simple.1 (rv_simple_iff.1 (simple_congr h.rvd S)), fun S => simple_congr (fun j hj => (h.rvd j hj).symm) (rv_simple (R.simple.2 S))⟩
  | false => exact ⟨fun S => R.simple.1 (simple_congr h.fwd S), fun S => simple_congr (fun j hj => (h.fwd j hj).symm) (R.simple.2 S)⟩
theorem t_area {T : Pt → Pt} {b : Bool} {n : Nat} {f g : Nat → Nat → CV} (h0 : 0 < n) (R : Fit T b) (h : Turned T b n f g) : area n (pt g) = area n (pt f) := by
  cases b with
  | true =>
    have e : area n (fun i => T (pt f i)) = (-1) * area n (pt f) := R.area n (pt f)
    rw [area_congr h0 h.rvd, rv_area, e]; omega
  | false =>
    have e : area n (fun i => T (pt f i)) = 1 * area n (pt f) := R.area n (pt f)
    rw [area_congr h0 h.fwd, e]; omega
theorem t_onK {T : Pt → Pt} {b : Bool} {n : Nat} {f g : Nat → Nat → CV} (h0 : 0 < n) (R : Fit T b) (h : Turned T b n f g) (q : Pt) : OnK n (pt g) (T q) ↔ OnK n (pt f) q := by
  cases b with
  | true => rw [onK_congr h0 h.rvd, rv_onK]; exact R.onK n (pt f) q
  | false => rw [onK_congr h0 h.fwd]; exact R.onK n (pt f) q
theorem t_par {T : Pt → Pt} {b : Bool} {n : Nat} {f g : Nat → Nat → CV} (h0 : 0 < n) (R : Fit T b) (h : Turned T b n f g) {q : Pt} (hq : ¬ OnK n (pt f) q) : par n (pt g) (T q) = par n (pt f) q := by
  have h1 : ¬ OnK n (fun i => T (pt f i)) (T q) := fun hh => hq ((R.onK n (pt f) q).1 hh)
  cases b with
  | true => rw [par_congr h0 h.rvd, rv_par h1]; exact R.par n (pt f) q hq
  | false => rw [par_congr h0 h.fwd]; exact R.par n (pt f) q hq
theorem t_in {T : Pt → Pt} {b : Bool} {n : Nat} {f g : Nat → Nat → CV} (h0 : 0 < n) (R : Fit T b) (h : Turned T b n f g) (q : Pt) : InC n g (T q) ↔ InC n f q := by
  unfold InC
  rw [onK_C, onK_C, t_onK h0 R h]
  exact ⟨fun ⟨a, c⟩ => ⟨a, by rw [← t_par h0 R h a]; exact c⟩, fun ⟨a, c⟩ => ⟨a, by rw [t_par h0 R h a]; exact c⟩⟩
theorem t_out {T : Pt → Pt} {b : Bool} {n : Nat} {f g : Nat → Nat → CV} (h0 : 0 < n) (R : Fit T b) (h : Turned T b n f g) (q : Pt) : OutC n g (T q) ↔ OutC n f q := by
  unfold OutC
  rw [onK_C, onK_C, t_onK h0 R h]
  exact ⟨fun ⟨a, c⟩ => ⟨a, by rw [← t_par h0 R h a]; exact c⟩, fun ⟨a, c⟩ => ⟨a, by rw [t_par h0 R h a]; exact c⟩⟩
theorem t_valid {T : Pt → Pt} {b : Bool} {n : Nat} {f g : Nat → Nat → CV} (R : Fit T b) (h : Turned T b n f g) (hf : AllNr n f) (hg : AllNr n g) : Valid n g ↔ Valid n f :=
  ⟨fun V => ⟨V.big, V.small, hf, (t_simple R h).1 V.simple⟩, fun V => ⟨V.big, V.small, hg, (t_simple R h).2 V.simple⟩⟩
theorem t_corner {T : Pt → Pt} {b : Bool} {n : Nat} {f g : Nat → Nat → CV} (h : Turned T b n f g) : (∀ j, j < n → ∃ i, i < n ∧ pt g j = T (pt f i)) ∧ (∀ i, i < n → ∃ j, j < n ∧ pt g j = T (pt f i)) := by
  constructor
  · intro j hj
    refine ⟨bif b then n - 1 - j else j, ?_, h j hj⟩
    cases b <;> simp <;> omega
  · intro i hi
    refine ⟨bif b then n - 1 - i else i, ?_, ?_⟩
    · cases b <;> simp <;> omega
    · rw [h _ (by cases b <;> simp <;> omega)]
      congr 2
      cases b
      · rfl
      · simp; omega
theorem t_edge {T : Pt → Pt} {b : Bool} {n : Nat} {f g : Nat → Nat → CV} (h : Turned T b n f g) : ∀ j, j < n → ∃ i, i < n ∧ ((pt g j = T (pt f i) ∧ pt g (nx n j) = T (pt f (nx n i))) ∨ (pt g j = T (pt f (nx n i)) ∧ pt g (nx n j) = T (pt f i))) := by
  intro j hj
  have hx : nx n j < n := nx_lt' (by omega)
  cases b with
  | false => exact ⟨j, hj, .inl ⟨h j hj, h _ hx⟩⟩
  | true =>
    obtain ⟨e1, e2⟩ := rv_edge (p := fun i => T (pt f i)) hj
    exact ⟨ej n j, ej_lt (by omega), .inr ⟨(h.rvd j hj).trans e1, (h.rvd _ hx).trans e2⟩⟩
theorem t_edge' {T : Pt → Pt} {b : Bool} {n : Nat} {f g : Nat → Nat → CV} (h : Turned T b n f g) : ∀ i, i < n → ∃ j, j < n ∧ ((pt g j = T (pt f i) ∧ pt g (nx n j) = T (pt f (nx n i))) ∨ (pt g j = T (pt f (nx n i)) ∧ pt g (nx n j) = T (pt f i))) := by
  intro i hi
  cases b with
  | false => exact ⟨i, hi, .inl ⟨h i hi, h _ (nx_lt' (by omega))⟩⟩
  | true =>
    have hl : ej n i < n := ej_lt (by omega)
    obtain ⟨e1, e2⟩ := rv_edge (p := fun i => T (pt f i)) hl
    rw [ej_ej hi] at e1 e2
    exact ⟨ej n i, hl, .inr ⟨(h.rvd _ hl).trans e1, (h.rvd _ (nx_lt' (by omega))).trans e2⟩⟩
theorem meet_any {T : Pt → Pt} {e : Int} (R : Rigid e T) {a b c d x y z w : Pt} (h1 : (x = T a ∧ y = T b) ∨ (x = T b ∧ y = T a)) (h2 : (z = T c ∧ w = T d) ∨ (z = T d ∧ w = T c)) : Meet x y z w ↔ Meet a b c d := by
  rw [← R.meet a b c d]
  rcases h1 with ⟨rfl, rfl⟩ | ⟨rfl, rfl⟩ <;> rcases h2 with ⟨rfl, rfl⟩ | ⟨rfl, rfl⟩
  · exact Iff.rfl
  · exact ⟨fun h => h.swap2, fun h => h.swap2⟩
  · exact ⟨fun h => h.swap, fun h => h.swap⟩
  · exact ⟨fun h => h.swap.swap2, fun h => h.swap.swap2⟩
theorem t_touch {T : Pt → Pt} {b : Bool} {n n' : Nat} {f g f' g' : Nat → Nat → CV} (R : Fit T b) (h : Turned T b n f g) (h' : Turned T b n' f' g') : Touch n (pt g) n' (pt g') ↔ Touch n (pt f) n' (pt f') := by
  constructor
  · rintro ⟨i, k, hi, hk, hm⟩
    obtain ⟨i', hi', e1⟩ := t_edge h i hi
    obtain ⟨k', hk', e2⟩ := t_edge h' k hk
    exact ⟨i', k', hi', hk', (meet_any R e1 e2).1 hm⟩
  · rintro ⟨i, k, hi, hk, hm⟩
    obtain ⟨i', hi', e1⟩ := t_edge' h i hi
    obtain ⟨k', hk', e2⟩ := t_edge' h' k hk
    exact ⟨i', k', hi', hk', (meet_any R e1 e2).2 hm⟩
theorem code33 (n : Nat) (f : Nat → Nat → CV) (hA : AllNr n f) : ∃ c, F33 100 n f = some c ∧ ((n < 3 ∧ c = 3) ∨ (32 < n ∧ c = 4) ∨ (3 ≤ n ∧ n ≤ 32 ∧ Simple n (pt f) ∧ c = 0) ∨ (3 ≤ n ∧ n ≤ 32 ∧ ¬ Simple n (pt f) ∧ c = 17)) := by
  unfold F33 D33
  by_cases h1 : n < 3
  · rw [bif_t (by simp; omega)]
    exact ⟨3, rfl, .inl ⟨h1, rfl⟩⟩
  · rw [bif_f (by simp; omega)]
    by_cases h2 : n ≤ 32
    · rw [bif_f (by simp; omega)]
      obtain ⟨b, hb, hb'⟩ := far50 n f (by omega)
      have b0 := hb'.2 hA
      subst b0
      obtain ⟨r, hr, hr'⟩ := simple_law62 n f h2 (by omega) hA
      have e : SimpleP n (pt f) ↔ Simple n (pt f) := (simpleP_R (by omega)).trans (simpleR_iff (by omega))
      rw [hb, ob_some, bif_f rfl, hr, ob_some]
      cases r with
      | true =>
        have S := e.1 (hr'.1 rfl)
        have ha := area_simple S
        rw [bif_t (show ((!true) == false) = true from rfl), area_law63 n f h2 (by omega) hA, ob_some, bif_f (by simpa using ha)]
        exact ⟨0, rfl, .inr (.inr (.inl ⟨by omega, h2, S, rfl⟩))⟩
      | false =>
        rw [bif_f (show ((!false) == false) = false from rfl)]
        exact ⟨17, rfl, .inr (.inr (.inr ⟨by omega, h2, fun S => (by have h9 := hr'.2 (e.2 S); cases h9), rfl⟩))⟩
    · rw [bif_t (by simp; omega)]
      exact ⟨4, rfl, .inr (.inl ⟨by omega, rfl⟩)⟩
theorem t33 {T : Pt → Pt} {b : Bool} {n : Nat} {f g : Nat → Nat → CV} (R : Fit T b) (h : Turned T b n f g) (hf : AllNr n f) (hg : AllNr n g) : F33 100 n g = F33 100 n f := by
  obtain ⟨c, h1, h2⟩ := code33 n f hf
  obtain ⟨d, h3, h4⟩ := code33 n g hg
  rw [t_simple R h] at h4
  rw [h1, h3]
  congr 1
  rcases h2 with h2 | h2 | ⟨_, _, h2, _⟩ | ⟨_, _, h2, _⟩ <;> rcases h4 with h4 | h4 | ⟨_, _, h4, _⟩ | ⟨_, _, h4, _⟩ <;> first | omega | exact absurd h2 h4 | exact absurd h4 h2
theorem t34 {T : Pt → Pt} {b : Bool} {n : Nat} {f g : Nat → Nat → CV} (R : Fit T b) (h : Turned T b n f g) (V : Valid n f) (W : Valid n g) : F34 100 n g = F34 100 n f := by
  obtain ⟨c, h1, _, h2⟩ := area_law n f
  obtain ⟨d, h3, _, h4⟩ := area_law n g
  have hb := V.big
  rw [h1, h3, h2 V, h4 W, t_area (by omega) R h]
theorem bool_eq {r s : Bool} {P Q : Prop} (h1 : r = true ↔ P) (h2 : s = true ↔ Q) (h : P ↔ Q) : r = s := by
  have := h1.trans (h.trans h2.symm)
  cases r <;> cases s <;> simp at this <;> rfl
theorem t35 {T : Pt → Pt} {b : Bool} {n n' : Nat} {f g f' g' : Nat → Nat → CV} (R : Fit T b) (h : Turned T b n f g) (h' : Turned T b n' f' g') (V : Valid n f) (W : Valid n g) (V' : Valid n' f') (W' : Valid n' g') : F35 100 n g n' g' = F35 100 n f n' f' := by
  obtain ⟨r, h1, h2⟩ := within35 n n' g g' W W'
  obtain ⟨s, h3, h4⟩ := within35 n n' f f' V V'
  rw [h1, h3]
  congr 1
  refine bool_eq h2 h4 ?_
  rw [t_touch R h h']
  have hb := V'.big
  refine and_congr_right fun _ => ⟨fun k i hi => ?_, fun k i hi => ?_⟩
  · obtain ⟨j, hj, e⟩ := (t_corner h).2 i hi
    have := k j hj
    rw [e, t_in (by omega) R h'] at this
    exact this
  · obtain ⟨j, hj, e⟩ := (t_corner h).1 i hi
    rw [e, t_in (by omega) R h']
    exact k j hj
theorem out_all {n n' : Nat} {f g : Nat → Nat → CV} (h0 : 3 ≤ n) (h : ¬ Touch n (pt f) n' (pt g)) : OutC n' g (pt f 0) ↔ ∀ i, i < n → OutC n' g (pt f i) := by
  constructor
  · intro k i hi
    obtain ⟨a, b⟩ := all_corners h0 h i hi
    exact ⟨a, by rw [b]; exact k.2⟩
  · intro k
    exact k 0 (by omega)
theorem t_outs {T : Pt → Pt} {b : Bool} {n n' : Nat} {f g f' g' : Nat → Nat → CV} (h0 : 0 < n') (R : Fit T b) (h : Turned T b n f g) (h' : Turned T b n' f' g') : (∀ i, i < n → OutC n' g' (pt g i)) ↔ ∀ i, i < n → OutC n' f' (pt f i) := by
  refine ⟨fun k i hi => ?_, fun k i hi => ?_⟩
  · obtain ⟨j, hj, e⟩ := (t_corner h).2 i hi
    have := k j hj
    rw [e, t_out h0 R h'] at this
    exact this
  · obtain ⟨j, hj, e⟩ := (t_corner h).1 i hi
    rw [e, t_out h0 R h']
    exact k j hj
theorem t36 {T : Pt → Pt} {b : Bool} {n n' : Nat} {f g f' g' : Nat → Nat → CV} (R : Fit T b) (h : Turned T b n f g) (h' : Turned T b n' f' g') (V : Valid n f) (W : Valid n g) (V' : Valid n' f') (W' : Valid n' g') : F36 100 n g n' g' = F36 100 n f n' f' := by
  obtain ⟨r, h1, h2⟩ := apart36 n n' g g' W W'
  obtain ⟨s, h3, h4⟩ := apart36 n n' f f' V V'
  have hb := V.big
  have hb' := V'.big
  rw [h1, h3]
  congr 1
  refine bool_eq h2 h4 ?_
  rw [t_touch R h h']
  refine and_congr_right fun k => ?_
  have k' : ¬ Touch n (pt g) n' (pt g') := by rw [t_touch R h h']; exact k
  rw [out_all hb k, out_all hb k', out_all hb' (fun hh => k hh.symm), out_all hb' (fun hh => k' hh.symm), t_outs (by omega) R h h', t_outs (by omega) R h' h]
end Go.Eng.R13
/-
  A shape at a spot.
-/
set_option linter.all false
namespace Go.Eng.R13
open Go Go.RowKit Go.Eng
theorem joinF_old (n : Nat) (f g : Nat → Nat → CV) (j c : Nat) (h : j < n) : joinF n f g j c = f j c := by
  unfold joinF
  rw [bif_t (by simpa [Nat.blt_eq] using h)]
theorem joinF_new (n : Nat) (f g : Nat → Nat → CV) (j c : Nat) (h : n ≤ j) : joinF n f g j c = g (j - n) c := by
  unfold joinF
  rw [bif_f]
  cases hq : Nat.blt j n with
  | false => rfl
  | true => simp [Nat.blt_eq] at hq; omega
theorem ble_ok {n : Nat} (h : n ≤ 1073741824) : Nat.ble n 1073741824 = true := by rw [Nat.ble_eq]; exact h
def rot : Nat → Int → Int → Int × Int
  | 0, x, y => (x, y)
  | n + 1, x, y => rot n (w64 (0 - y)) x
def tp (fl : Bool) (t : Nat) (tx ty x y : Int) : Int × Int :=
  (w64 ((rot t (bif fl then w64 (0 - x) else x) y).1 + tx), w64 ((rot t (bif fl then w64 (0 - x) else x) y).2 + ty))
theorem rot32 {ρ : Type} (a : ByteArray) (b c : Int) (t : Nat) (fl : Bool) (ht : t ≤ 3) (k0 : Int → Int → Option ρ) : ∀ (m i : Nat) (x y : Int), t < m + i → i ≤ t →
    L32v1 100 a b c (Int.ofNat t) fl m (Int.ofNat i) x y k0 = k0 (rot (t - i) x y).1 (rot (t - i) x y).2 := by
  intro m
  induction m with
  | zero => intro i x y h1 h2; omega
  | succ m ih =>
    intro i x y h1 h2
    unfold L32v1
    rw [lt_nat]
    by_cases h : i < t
    · rw [bif_t (by simpa using h), w64_succ (by omega), ih (i + 1) _ _ (by omega) (by omega)]
      rw [show t - i = (t - (i + 1)) + 1 from by omega]
      rfl
    · rw [bif_f (by simpa using h), show t - i = 0 from by omega]
      rfl
theorem rot51 {ρ : Type} (a : Nat → CV) (b c : Nat) (d : Nat → Nat → CV) (e g : Int) (t : Nat) (q : Nat → Nat → CV) (ht : t ≤ 3) (k0 : Int → Int → Option ρ) : ∀ (m i : Nat) (x y : Int), t < m + i → i ≤ t →
    L51v2 100 a b c d e g (Int.ofNat t) q m (Int.ofNat i) x y k0 = k0 (rot (t - i) x y).1 (rot (t - i) x y).2 := by
  intro m
  induction m with
  | zero => intro i x y h1 h2; omega
  | succ m ih =>
    intro i x y h1 h2
    unfold L51v2
    rw [lt_nat]
    by_cases h : i < t
    · rw [bif_t (by simpa using h), w64_succ (by omega), ih (i + 1) _ _ (by omega) (by omega)]
      rw [show t - i = (t - (i + 1)) + 1 from by omega]
      rfl
    · rw [bif_f (by simpa using h), show t - i = 0 from by omega]
      rfl
theorem point_law (x y : Int) (s : ByteArray) (tx ty : Int) (t : Nat) (fl : Bool) (ht : t ≤ 3) : F32 100 x y s tx ty (Int.ofNat t) fl = some (tp fl t tx ty x y) := by
  unfold F32 D32
  cases fl with
  | true =>
    rw [bif_t rfl]
    exact rot32 s tx ty t true ht _ 100 0 _ _ (by omega) (by omega)
  | false =>
    rw [bif_f rfl]
    exact rot32 s tx ty t false ht _ 100 0 _ _ (by omega) (by omega)
def Are (P : Nat → Int × Int) (g : Nat → Nat → CV) (i : Nat) : Prop := ∀ j, j < i → g j 0 = .i .i64 (P j).1 ∧ g j 1 = .i .i64 (P j).2
theorem Are.snoc {P : Nat → Int × Int} {g : Nat → Nat → CV} {i : Nat} (h : Are P g i) {a b : Int} (hp : P i = (a, b)) : Are P (joinF i g (rowsF 2 [.i .i64 a, .i .i64 b])) (i + 1) := by
  intro j hj
  by_cases e : j = i
  · subst e
    rw [joinF_new _ _ _ _ _ (Nat.le_refl j), joinF_new _ _ _ _ _ (Nat.le_refl j), Nat.sub_self, hp]
    exact ⟨rfl, rfl⟩
  · rw [joinF_old _ _ _ _ _ (by omega), joinF_old _ _ _ _ _ (by omega)]
    exact h j (by omega)
def cp (fl : Bool) (t : Nat) (tx ty : Int) (f : Nat → Nat → CV) (j : Nat) : Int × Int := tp fl t tx ty (CV.int (f j 0)) (CV.int (f j 1))
def cq (fl : Bool) (t : Nat) (tx ty : Int) (n : Nat) (f : Nat → Nat → CV) (j : Nat) : Int × Int := cp fl t tx ty f (bif fl then n - 1 - j else j)
theorem loop51 {ρ : Type} (s : ByteArray) (n t : Nat) (fl : Bool) (tx ty : Int) (f : Nat → Nat → CV) (hn : n ≤ 40) (ht : t ≤ 3) (k0 : Nat → (Nat → Nat → CV) → Option ρ) : ∀ (m i : Nat) (g : Nat → Nat → CV), n < m + i → i ≤ n → Are (cp fl t tx ty f) g i →
    ∃ g', L51v3 100 (listF [.s s, .i .i64 tx, .i .i64 ty, .i .i64 (Int.ofNat t), .b fl]) n f (Int.ofNat n) m i (Int.ofNat i) g k0 = k0 n g' ∧ Are (cp fl t tx ty f) g' n := by
  intro m
  induction m with
  | zero => intro i g h1 h2; omega
  | succ m ih =>
    intro i g h1 h2 hg
    unfold L51v3
    rw [lt_nat, inb_nat, toNat_nat]
    by_cases h : i < n
    · rw [bif_t (by simpa using h), bif_t (by simpa using h), w64_succ (by omega)]
      have e4 : CV.bool (listF [.s s, .i .i64 tx, .i .i64 ty, .i .i64 (Int.ofNat t), .b fl] 4) = fl := rfl
      have e3 : CV.int (listF [.s s, .i .i64 tx, .i .i64 ty, .i .i64 (Int.ofNat t), .b fl] 3) = Int.ofNat t := rfl
      have e1 : CV.int (listF [.s s, .i .i64 tx, .i .i64 ty, .i .i64 (Int.ofNat t), .b fl] 1) = tx := rfl
      have e2 : CV.int (listF [.s s, .i .i64 tx, .i .i64 ty, .i .i64 (Int.ofNat t), .b fl] 2) = ty := rfl
      rw [e4, e3, e1, e2]
      cases fl with
      | true =>
        rw [bif_t rfl]
        rw [show (0 : Int) = Int.ofNat 0 from rfl, rot51 _ _ _ _ _ _ t _ ht _ 100 0 _ _ (by omega) (by omega), bif_t (ble_ok (by omega))]
        exact ih (i + 1) _ (by omega) (by omega) (hg.snoc rfl)
      | false =>
        rw [bif_f rfl]
        rw [show (0 : Int) = Int.ofNat 0 from rfl, rot51 _ _ _ _ _ _ t _ ht _ 100 0 _ _ (by omega) (by omega), bif_t (ble_ok (by omega))]
        exact ih (i + 1) _ (by omega) (by omega) (hg.snoc rfl)
    · rw [bif_f (by simpa using h)]
      have : i = n := by omega
      subst this
      exact ⟨g, rfl, hg⟩
theorem moved_law (s : ByteArray) (n t : Nat) (fl : Bool) (tx ty : Int) (f : Nat → Nat → CV) (hn : n ≤ 40) (ht : t ≤ 3) :
    ∃ g, F51 100 n f (listF [.s s, .i .i64 tx, .i .i64 ty, .i .i64 (Int.ofNat t), .b fl]) = some (n, g) ∧ Are (cq fl t tx ty n f) g n := by
  unfold F51 D51
  obtain ⟨g, h1, h2⟩ := loop51 s n t fl tx ty f hn ht (fun x65 x66 => (bif (CV.bool (listF [.s s, .i .i64 tx, .i .i64 ty, .i .i64 (Int.ofNat t), .b fl] 4)) then (bif (Nat.beq x65 x65) then (bif (Nat.beq x65 0) then (some (x65, x66)) else (some (x65, (revF x65 x66)))) else none) else (some (x65, x66)))) 100 0 (fun _ _ => .any) (by omega) (by omega) (fun j hj => by omega)
  rw [show (0 : Int) = Int.ofNat 0 from rfl, h1]
  have e4 : CV.bool (listF [.s s, .i .i64 tx, .i .i64 ty, .i .i64 (Int.ofNat t), .b fl] 4) = fl := rfl
  rw [e4]
  cases fl with
  | true =>
    rw [bif_t rfl, bif_t (Nat.beq_refl n)]
    by_cases h0 : n = 0
    · subst h0
      exact ⟨g, rfl, fun j hj => by omega⟩
    · rw [bif_f (by cases hq : Nat.beq n 0 with | false => rfl | true => exact (h0 (Nat.eq_of_beq_eq_true hq)).elim)]
      refine ⟨_, rfl, fun j hj => ?_⟩
      unfold revF cq
      exact h2 (n - 1 - j) (by omega)
  | false =>
    rw [bif_f rfl]
    exact ⟨g, rfl, h2⟩
def farB (x y : Int) : Bool := decide (x < -1099511627776 ∨ x > 1099511627776 ∨ y < -1099511627776 ∨ y > 1099511627776)
theorem far49 (x y : Int) : F49 100 x y = some (farB x y) := by
  unfold F49 D49 farB
  by_cases h1 : x < -1099511627776
  · rw [bif_f (by simpa using h1)]; simp [h1]
  · rw [bif_t (by simpa using h1)]
    by_cases h2 : x > 1099511627776
    · rw [bif_f (by simpa using h2)]; simp [h2]
    · rw [bif_t (by simpa using h2)]
      by_cases h3 : y < -1099511627776
      · rw [bif_f (by simpa using h3)]; simp [h3]
      · rw [bif_t (by simpa using h3)]
        congr 1
        rw [Bool.eq_iff_iff]
        simp only [decide_eq_true_eq]
        omega
def FarFrom (n : Nat) (f : Nat → Nat → CV) (i : Nat) : Prop := ∃ j, i ≤ j ∧ j < n ∧ farB (CV.int (f j 0)) (CV.int (f j 1)) = true
theorem far_loop (n : Nat) (f : Nat → Nat → CV) (hn : n ≤ 40) : ∀ (m i : Nat), n < m + i → i ≤ n →
    ∃ z, L73cv1 100 n f (Int.ofNat n) m (Int.ofNat i) (fun x => some x) (some (-1)) = some z ∧ (z ≥ 0 ↔ FarFrom n f i) := by
  intro m
  induction m with
  | zero => intro i h1 h2; omega
  | succ m ih =>
    intro i h1 h2
    unfold L73cv1
    rw [lt_nat, inb_nat, toNat_nat]
    by_cases h : i < n
    · rw [bif_t (by simpa using h), bif_t (by simpa using h), w64_succ (by omega), far49, ob_some]
      cases hq : farB (CV.int (f i 0)) (CV.int (f i 1)) with
      | true =>
        rw [bif_t rfl]
        exact ⟨_, rfl, fun _ => ⟨i, Nat.le_refl i, h, hq⟩, fun _ => Int.natCast_nonneg i⟩
      | false =>
        rw [bif_f rfl]
        obtain ⟨z, h3, h4⟩ := ih (i + 1) (by omega) (by omega)
        refine ⟨z, h3, h4.trans ⟨fun ⟨j, a, b, c⟩ => ⟨j, by omega, b, c⟩, fun ⟨j, a, b, c⟩ => ⟨j, ?_, b, c⟩⟩⟩
        by_cases e : j = i
        · subst e; rw [hq] at c; cases c
        · omega
    · rw [bif_f (by simpa using h)]
      exact ⟨-1, rfl, fun hh => by omega, fun ⟨j, a, b, c⟩ => by omega⟩
theorem far_law (n : Nat) (f : Nat → Nat → CV) (hn : n ≤ 40) : ∃ b, F50c 100 n f = some b ∧ (b = true ↔ FarFrom n f 0) := by
  unfold F50c D50c F73c D73c
  obtain ⟨z, h1, h2⟩ := far_loop n f hn 100 0 (by omega) (by omega)
  rw [show (0 : Int) = Int.ofNat 0 from rfl, h1, ob_some]
  exact ⟨_, rfl, by rw [decide_eq_true_iff]; exact h2⟩
def FarC (n : Nat) (f : Nat → Nat → CV) (i : Nat) : Prop := ∃ j, i ≤ j ∧ j < n ∧ FarFrom (CV.len (f j 0)) (CV.el (f j 0)) 0
theorem farC_loop {ρ : Type} (n a b : Nat) (f c d : Nat → Nat → CV) (s : ByteArray) (x y z : Int) (e : Bool) (hn : n ≤ 13) (hl : ∀ j, j < n → CV.len (f j 0) ≤ 40) (k0 k1 : Option ρ) : ∀ (m i : Nat), n < m + i → i ≤ n →
    (FarC n f i → L25v1 100 n f (Int.ofNat n) a c b d s x y z e m (Int.ofNat i) k0 k1 = k0) ∧ (¬ FarC n f i → L25v1 100 n f (Int.ofNat n) a c b d s x y z e m (Int.ofNat i) k0 k1 = k1) := by
  intro m
  induction m with
  | zero => intro i h1 h2; omega
  | succ m ih =>
    intro i h1 h2
    unfold L25v1
    rw [lt_nat, inb_nat, toNat_nat]
    by_cases h : i < n
    · obtain ⟨q, hq1, hq2⟩ := far_law (CV.len (f i 0)) (CV.el (f i 0)) (hl i h)
      rw [bif_t (by simpa using h), bif_t (by simpa using h), w64_succ (by omega), hq1, ob_some]
      cases q with
      | true =>
        rw [bif_t rfl]
        exact ⟨fun _ => rfl, fun hh => absurd ⟨i, Nat.le_refl i, h, hq2.1 rfl⟩ hh⟩
      | false =>
        rw [bif_f rfl]
        have e1 : FarC n f i ↔ FarC n f (i + 1) := by
          refine ⟨fun ⟨j, a, b, c⟩ => ⟨j, ?_, b, c⟩, fun ⟨j, a, b, c⟩ => ⟨j, by omega, b, c⟩⟩
          by_cases e : j = i
          · subst e
            have := hq2.2 c
            cases this
          · omega
        rw [e1]
        exact ih (i + 1) (by omega) (by omega)
    · rw [bif_f (by simpa using h)]
      exact ⟨fun ⟨j, a, b, c⟩ => by omega, fun _ => rfl⟩
def Holes (fl : Bool) (t : Nat) (tx ty : Int) (f g : Nat → Nat → CV) (i : Nat) : Prop :=
  ∀ j, j < i → CV.len (g j 0) = CV.len (f j 0) ∧ Are (cq fl t tx ty (CV.len (f j 0)) (CV.el (f j 0))) (CV.el (g j 0)) (CV.len (f j 0))
theorem Holes.snoc {fl : Bool} {t : Nat} {tx ty : Int} {f g : Nat → Nat → CV} {i n : Nat} (h : Holes fl t tx ty f g i) {x : Nat → Nat → CV} {r : Kd} {b : Bool} (hn : n = CV.len (f i 0)) (hx : Are (cq fl t tx ty n (CV.el (f i 0))) x n) :
    Holes fl t tx ty f (joinF i g (rowsF 1 [.ro b r n x])) (i + 1) := by
  intro j hj
  by_cases e : j = i
  · subst e
    rw [joinF_new _ _ _ _ _ (Nat.le_refl j), Nat.sub_self]
    subst hn
    exact ⟨rfl, hx⟩
  · rw [joinF_old _ _ _ _ _ (by omega)]
    exact h j (by omega)
theorem holes25 {ρ : Type} (s : ByteArray) (n t : Nat) (fl : Bool) (tx ty : Int) (f : Nat → Nat → CV) (a b : Nat) (c d : Nat → Nat → CV) (hn : n ≤ 12) (hl : ∀ j, j < n → CV.len (f j 0) ≤ 40) (ht : t ≤ 3) (k0 : Nat → (Nat → Nat → CV) → Option ρ) : ∀ (m i : Nat) (g : Nat → Nat → CV), n < m + i → i ≤ n → Holes fl t tx ty f g i →
    ∃ g', L25v2 100 s tx ty (Int.ofNat t) fl n f (Int.ofNat n) a c b d m (Int.ofNat i) i g k0 = k0 n g' ∧ Holes fl t tx ty f g' n := by
  intro m
  induction m with
  | zero => intro i g h1 h2; omega
  | succ m ih =>
    intro i g h1 h2 hg
    unfold L25v2
    rw [lt_nat, inb_nat, toNat_nat]
    by_cases h : i < n
    · obtain ⟨x, hx1, hx2⟩ := moved_law s (CV.len (f i 0)) t fl tx ty (CV.el (f i 0)) (hl i h) ht
      rw [bif_t (by simpa using h), bif_t (by simpa using h), w64_succ (by omega), hx1, ob_some, bif_t (ble_ok (by omega))]
      exact ih (i + 1) _ (by omega) (by omega) (hg.snoc rfl hx2)
    · rw [bif_f (by simpa using h)]
      have : i = n := by omega
      subst this
      exact ⟨g, rfl, hg⟩
theorem move25 (n1 : Nat) (f1 : Nat → Nat → CV) (n2 : Nat) (f2 : Nat → Nat → CV) (s : ByteArray) (tx ty : Int) (t : Nat) (fl : Bool) (hn1 : n1 ≤ 40) (hn2 : n2 ≤ 12) (hh : ∀ j, j < n2 → CV.len (f2 j 0) ≤ 40) (ht : t ≤ 3) :
    let F := joinF 1 (rowsF 1 [(.ro false (.pr (.int .i64) (.pr (.int .i64) .nil)) n1 f1)]) f2
    (farB tx ty = true ∨ FarC (1 + n2) F 0 → F25 100 n1 f1 n2 f2 s tx ty (Int.ofNat t) fl = some (0, (fun _ _ => .any), 0, (fun _ _ => .any))) ∧
    (¬ (farB tx ty = true ∨ FarC (1 + n2) F 0) → ∃ g x, F25 100 n1 f1 n2 f2 s tx ty (Int.ofNat t) fl = some (n1, g, n2, x) ∧ Are (cq fl t tx ty n1 f1) g n1 ∧ Holes fl t tx ty f2 x n2) := by
  have hN : 1 + n2 ≤ 13 := by omega
  have hl : ∀ j, j < 1 + n2 → CV.len (joinF 1 (rowsF 1 [(.ro false (.pr (.int .i64) (.pr (.int .i64) .nil)) n1 f1)]) f2 j 0) ≤ 40 := by
    intro j hj
    by_cases e : j < 1
    · have : j = 0 := by omega
      subst this
      rw [joinF_old _ _ _ _ _ (by omega)]
      exact hn1
    · rw [joinF_new _ _ _ _ _ (by omega)]
      exact hh _ (by omega)
  have c42 : F42 100 n1 f1 n2 f2 = some (1 + n2, joinF 1 (rowsF 1 [(.ro false (.pr (.int .i64) (.pr (.int .i64) .nil)) n1 f1)]) f2) := by
    unfold F42 D42
    rw [bif_t (ble_ok (by omega))]
  intro F
  have hF : F = joinF 1 (rowsF 1 [(.ro false (.pr (.int .i64) (.pr (.int .i64) .nil)) n1 f1)]) f2 := rfl
  rw [← hF] at hl c42
  clear_value F
  have ht1 : ¬ Int.ofNat t < 0 := by simp <;> omega
  have ht2 : ¬ Int.ofNat t > 3 := by simp <;> omega
  constructor
  · intro hb
    unfold F25 FT25 D25
    rw [bif_t (by simpa using ht1), bif_t (by simpa using ht2), far49, ob_some]
    cases hq : farB tx ty with
    | true => rw [bif_t rfl]; rfl
    | false =>
      rw [bif_f rfl, c42, ob_some, show (0 : Int) = Int.ofNat 0 from rfl]
      have hc : FarC (1 + n2) F 0 := hb.resolve_left (by rw [hq]; simp)
      rw [(farC_loop (1 + n2) n1 n2 F f1 f2 s tx ty (Int.ofNat t) fl hN hl _ _ 100 0 (by omega) (by omega)).1 hc]; rfl
  · intro hb
    obtain ⟨g, hg1, hg2⟩ := moved_law s n1 t fl tx ty f1 hn1 ht
    have hq : farB tx ty = false := by
      cases hq : farB tx ty with
      | false => rfl
      | true => exact absurd (.inl hq) hb
    obtain ⟨x, hx1, hx2⟩ := holes25 s n2 t fl tx ty f2 n1 n1 f1 g hn2 hh ht (fun x71 x72 => (some (false, n1, g, x71, x72))) 100 0 (fun _ _ => .any) (by omega) (by omega) (fun j hj => by omega)
    refine ⟨g, x, ?_, hg2, hx2⟩
    unfold F25 FT25 D25
    rw [bif_t (by simpa using ht1), bif_t (by simpa using ht2), far49, ob_some, hq, bif_f rfl, c42, ob_some]
    rw [show (0 : Int) = Int.ofNat 0 from rfl]
    rw [(farC_loop (1 + n2) n1 n2 F f1 f2 s tx ty (Int.ofNat t) fl hN hl _ _ 100 0 (by omega) (by omega)).2 (fun hc => hb (.inr hc)), hg1, ob_some]
    rw [hx1]; rfl
end Go.Eng.R13
/-
  RegionTurns: the plain law.
-/
set_option linter.all false
namespace Go.Eng.R13
open Go Go.RowKit Go.Eng Geo
structure TShape (T : Pt → Pt) (b : Bool) (n1 : Nat) (f1 : Nat → Nat → CV) (n2 : Nat) (f2 g1 g2 : Nat → Nat → CV) : Prop where
  fit : Fit T b
  outer : Turned T b n1 f1 g1
  len : ∀ j, j < n2 → CV.len (g2 j 0) = CV.len (f2 j 0)
  hole : ∀ j, j < n2 → Turned T b (CV.len (f2 j 0)) (CV.el (f2 j 0)) (CV.el (g2 j 0))
  near : AllNr n1 f1
  near' : AllNr n1 g1
  hnear : ∀ j, j < n2 → AllNr (CV.len (f2 j 0)) (CV.el (f2 j 0))
  hnear' : ∀ j, j < n2 → AllNr (CV.len (f2 j 0)) (CV.el (g2 j 0))
theorem t13v2 {ρ : Type} {T : Pt → Pt} {b : Bool} {n1 n2 : Nat} {f1 f2 g1 g2 : Nat → Nat → CV} (h : TShape T b n1 f1 n2 f2 g1 g2) {i : Nat} (hi : i < n2) (hn : n2 ≤ 8) (V : ∀ j, j ≤ i → Valid (CV.len (f2 j 0)) (CV.el (f2 j 0))) (c1 c2 : Int) (k0 k1 : Option ρ) : ∀ (m j : Nat), i < m + j → j ≤ i →
    L13v2 100 (CV.len (f2 i 0)) (CV.el (g2 i 0)) n2 g2 c1 c2 i (Int.ofNat i) n1 g1 m (Int.ofNat j) k0 k1 = L13v2 100 (CV.len (f2 i 0)) (CV.el (f2 i 0)) n2 f2 c1 c2 i (Int.ofNat i) n1 f1 m (Int.ofNat j) k0 k1 := by
  intro m
  induction m with
  | zero => intro j h1 h2; omega
  | succ m ih =>
    intro j h1 h2
    unfold L13v2
    rw [lt_nat, inb_nat, toNat_nat]
    by_cases hj : j < i
    · have Wi := (t_valid h.fit (h.hole i hi) (h.hnear i hi) (h.hnear' i hi)).2 (V i (Nat.le_refl i))
      have Wj := (t_valid h.fit (h.hole j (by omega)) (h.hnear j (by omega)) (h.hnear' j (by omega))).2 (V j h2)
      rw [bif_t (decide_eq_true hj), bif_t (decide_eq_true hj), bif_t (decide_eq_true hj), bif_t (decide_eq_true hj), w64_succ (by omega), ih (j + 1) (by omega) (by omega), h.len j (by omega), t36 h.fit (h.hole i hi) (h.hole j (by omega)) (V i (Nat.le_refl i)) Wi (V j h2) Wj]
    · rw [bif_f (decide_eq_false hj), bif_f (decide_eq_false hj)]
theorem t13v3 {T : Pt → Pt} {b : Bool} {n1 n2 : Nat} {f1 f2 g1 g2 : Nat → Nat → CV} (h : TShape T b n1 f1 n2 f2 g1 g2) (hn : n2 ≤ 8) (V1 : Valid n1 f1) : ∀ (m i : Nat), n2 < m + i → i ≤ n2 → (∀ j, j < i → Valid (CV.len (f2 j 0)) (CV.el (f2 j 0))) →
    L13v3 100 n2 g2 (Int.ofNat n2) n1 g1 m (Int.ofNat i) (fun x => some x) (some 0) = L13v3 100 n2 f2 (Int.ofNat n2) n1 f1 m (Int.ofNat i) (fun x => some x) (some 0) := by
  intro m
  have W1 := (t_valid h.fit h.outer h.near h.near').2 V1
  induction m with
  | zero => intro i h1 h2; omega
  | succ m ih =>
    intro i h1 h2 hv
    unfold L13v3
    rw [lt_nat, inb_nat, toNat_nat]
    by_cases hi : i < n2
    · rw [h.len i hi, t33 h.fit (h.hole i hi) (h.hnear i hi) (h.hnear' i hi)]
      obtain ⟨c, e1, _, e3⟩ := check_law (CV.len (f2 i 0)) (CV.el (f2 i 0))
      rw [bif_t (decide_eq_true hi), bif_t (decide_eq_true hi), bif_t (decide_eq_true hi), bif_t (decide_eq_true hi), e1, ob_some, ob_some]
      by_cases hc : c = 0
      · have V := e3.1 hc
        have W := (t_valid h.fit (h.hole i hi) (h.hnear i hi) (h.hnear' i hi)).2 V
        subst hc
        have hv' : ∀ j, j ≤ i → Valid (CV.len (f2 j 0)) (CV.el (f2 j 0)) := fun j hj => by
          by_cases e : j = i
          · rw [e]; exact V
          · exact hv j (by omega)
        rw [t34 h.fit (h.hole i hi) V W, t35 h.fit (h.hole i hi) h.outer V W V1 W1, w64_succ (by omega), show (0 : Int) = Int.ofNat 0 from rfl]
        rw [Nat.sub_zero, t13v2 h hi hn hv' _ _ _ _ 100 0 (by omega) (by omega)]
        have e := ih (i + 1) (by omega) (by omega) (fun j hj => hv' j (by omega))
        rw [show (Int.ofNat 0 : Int) = 0 from rfl] at *
        rw [e]
      · have hc' : (c != 0) = true := by simpa using hc
        rw [bif_t hc', bif_t hc']
    · rw [bif_f (decide_eq_false hi), bif_f (decide_eq_false hi)]
theorem t13 {T : Pt → Pt} {b : Bool} {n1 n2 : Nat} {f1 f2 g1 g2 : Nat → Nat → CV} (h : TShape T b n1 f1 n2 f2 g1 g2) : F13 100 n1 g1 n2 g2 = F13 100 n1 f1 n2 f2 := by
  unfold F13 D13
  by_cases hn : n2 ≤ 8
  · have d1 : decide (Int.ofNat n2 > 8) = false := by simp; omega
    rw [bif_f d1, bif_f d1, t33 h.fit h.outer h.near h.near']
    obtain ⟨c, e1, _, e3⟩ := check_law n1 f1
    rw [e1, ob_some, ob_some]
    by_cases hc : c = 0
    · have V := e3.1 hc
      have W := (t_valid h.fit h.outer h.near h.near').2 V
      subst hc
      rw [t34 h.fit h.outer V W, show L13v3 100 n2 g2 (Int.ofNat n2) n1 g1 100 0 (fun x55 => some x55) (some 0) = L13v3 100 n2 f2 (Int.ofNat n2) n1 f1 100 0 (fun x55 => some x55) (some 0) from t13v3 h hn V 100 0 (by omega) (by omega) (fun j hj => by omega)]
    · have hc' : (c != 0) = true := by simpa using hc
      rw [bif_t hc', bif_t hc']
  · have d1 : decide (Int.ofNat n2 > 8) = true := by simp; omega
    rw [bif_t d1, bif_t d1]
theorem t18 {T : Pt → Pt} {b : Bool} {n1 n2 : Nat} {f1 f2 g1 g2 : Nat → Nat → CV} (h : TShape T b n1 f1 n2 f2 g1 g2) : ∃ a, F18 100 n1 g1 n2 g2 = some a ∧ F18 100 n1 f1 n2 f2 = some a := by
  obtain ⟨c, c1, _, c3⟩ := shape_law n1 n2 f1 f2
  obtain ⟨d, d1, _, d3⟩ := shape_law n1 n2 g1 g2
  have hcd : d = c := by
    have := t13 h
    rw [c1, d1] at this
    exact Option.some.inj this
  subst hcd
  by_cases hc : d = 0
  · have S := c3.1 hc
    have U := d3.1 hc
    have hb := S.outer.big
    refine ⟨_, area18 U, ?_⟩
    rw [area18 S, t_area (by omega) h.fit h.outer]
    congr 2
    refine sm_congr fun j hj => ?_
    unfold harea
    have hb := (S.hole j hj).valid.big
    rw [h.len j hj, t_area (by omega) h.fit (h.hole j hj)]
  · have hc' : (d != 0) = true := by simpa using hc
    refine ⟨0, ?_, ?_⟩
    · unfold F18 D18; rw [d1, ob_some, bif_t hc']
    · unfold F18 D18; rw [c1, ob_some, bif_t hc']
theorem on_nr {z a b : Pt} (ha : nr a.1 a.2) (hb : nr b.1 b.2) (h : On z a b) : nr z.1 z.2 := by
  obtain ⟨_, h2, h3⟩ := h
  unfold btw at h2 h3
  unfold nr at *
  omega
theorem far_out {n : Nat} {f : Nat → Nat → CV} (h0 : 0 < n) (hA : AllNr n f) {z : Pt} (hz : ¬ nr z.1 z.2) : OutC n f z := by
  have ho : ¬ OnK n (pt f) z := fun ⟨j, hj, hh⟩ => hz (on_nr (hA j hj) (hA _ (nx_lt' h0)) hh)
  refine ⟨fun h => ho (onK_C.1 h), ?_⟩
  by_cases h2 : 32768 < z.2
  · exact par_out (.inl fun i hi => by have := hA i hi; unfold nr at this; show CV.int (f i 1) ≤ z.2; omega)
  · by_cases h3 : z.2 < -32768
    · exact par_out (.inr fun i hi => by have := hA i hi; unfold nr at this; show z.2 < CV.int (f i 1); omega)
    · rw [← rigid_qt.par n (pt f) z ho]
      by_cases h4 : 32768 < z.1
      · exact par_out (.inl fun i hi => by have := hA i hi; unfold nr at this; show CV.int (f i 0) ≤ z.1; omega)
      · exact par_out (.inr fun i hi => by have := hA i hi; unfold nr at *; show z.1 < CV.int (f i 0); omega)
theorem t_where {T : Pt → Pt} {b : Bool} {n : Nat} {f g : Nat → Nat → CV} (R : Fit T b) (h : Turned T b n f g) (V : Valid n f) (hg : AllNr n g) {q : Pt} (hq : nr q.1 q.2) {w w' : Int} (hw : IsWhere n f q w) (hw' : IsWhere n g (T q) w') : w' = w := by
  have W := (t_valid R h V.near hg).2 V
  have hb := V.big
  have r1 := hw.range
  have r2 := hw'.range
  by_cases hz : nr (T q).1 (T q).2
  · have a1 := (hw.one V hq).trans ((t_in (by omega) R h q).symm.trans (hw'.one W hz).symm)
    have a2 := (hw.out V hq).trans ((t_out (by omega) R h q).symm.trans (hw'.out W hz).symm)
    omega
  · have e1 : w' = -1 := hw'.2 (fun hh => hz hh.2)
    have e2 := (hw.out V hq).2 ((t_out (by omega) R h q).1 (far_out (by omega) hg hz))
    omega
theorem t22 {T : Pt → Pt} {b : Bool} {n1 n2 : Nat} {f1 f2 g1 g2 : Nat → Nat → CV} (h : TShape T b n1 f1 n2 f2 g1 g2) {q : Pt} (hq : nr q.1 q.2) : ∃ z, F22 100 n1 g1 n2 g2 (T q).1 (T q).2 = some z ∧ F22 100 n1 f1 n2 f2 q.1 q.2 = some z := by
  obtain ⟨c, c1, _, c3⟩ := shape_law n1 n2 f1 f2
  obtain ⟨d, d1, _, d3⟩ := shape_law n1 n2 g1 g2
  have hcd : d = c := by
    have := t13 h
    rw [c1, d1] at this
    exact Option.some.inj this
  subst hcd
  by_cases hc : d = 0
  · have S := c3.1 hc
    have U := d3.1 hc
    obtain ⟨z, z1, _, z2⟩ := place_full n1 f1 n2 f2 q.1 q.2
    obtain ⟨y, y1, _, y2⟩ := place_full n1 g1 n2 g2 (T q).1 (T q).2
    refine ⟨z, ?_, z1⟩
    rw [y1]
    congr 1
    obtain ⟨w, W, hw, hW, w1, w2, w3⟩ := z2 S
    obtain ⟨v, Q, hv, hQ, v1, v2, v3⟩ := y2 U
    have ew : v = w := t_where h.fit h.outer S.outer h.near' hq hw hv
    have eW : ∀ j, j < n2 → Q j = W j := fun j hj => by
      have hQj := hQ j
      rw [h.len j hj] at hQj
      exact t_where h.fit (h.hole j hj) (S.hole j hj).valid (h.hnear' j hj) hq (hW j) hQj
    rcases w3 with k | ⟨j, hj, k⟩
    · rcases v3 with k' | ⟨j', hj', k'⟩
      · omega
      · have := w2 j' hj'; have := eW j' hj'; omega
    · have a1 := v2 j hj
      have a2 := eW j hj
      rcases v3 with k' | ⟨j', hj', k'⟩
      · omega
      · have := w2 j' hj'; have := eW j' hj'; omega
  · have hc' : (d != 0) = true := by simpa using hc
    refine ⟨-1, ?_, ?_⟩
    · unfold F22 D22; rw [d1, ob_some, bif_t hc']
    · unfold F22 D22; rw [c1, ob_some, bif_t hc']
end Go.Eng.R13
/-
  RegionTurns: the plain law.
-/
set_option linter.all false
namespace Go.Eng.R13
open Go Go.RowKit Go.Eng Geo
theorem nr_bif {ρ : Type} (x y : Int) (k0 nxt : Option ρ) :
    (nr x y → (bif ((decide (x < (-32768))) == false) then (bif ((decide (x > 32768)) == false) then (bif ((decide (y < (-32768))) == false) then (bif (decide (y > 32768)) then k0 else nxt) else k0) else k0) else k0) = nxt) ∧
    (¬ nr x y → (bif ((decide (x < (-32768))) == false) then (bif ((decide (x > 32768)) == false) then (bif ((decide (y < (-32768))) == false) then (bif (decide (y > 32768)) then k0 else nxt) else k0) else k0) else k0) = k0) := by
  unfold nr
  by_cases a : x < -32768 <;> by_cases b : x > 32768 <;> by_cases c : y < -32768 <;> by_cases d : y > 32768 <;> simp only [a, b, c, d, decide_true, decide_false] <;> refine ⟨fun h => ?_, fun h => ?_⟩ <;> first | rfl | (exfalso; omega)
def NrFrom (n : Nat) (f : Nat → Nat → CV) (i : Nat) : Prop := ∀ j, i ≤ j → j < n → nr (CV.int (f j 0)) (CV.int (f j 1))
theorem in31v2 {ρ : Type} (N i a b : Nat) (F c d : Nat → Nat → CV) (hi : i < N) (hl : CV.len (F i 0) ≤ 40) (q : Int → Int → Option ρ) (k0 k1 : Option ρ) (hq : ∀ x y, q x y = k0) : ∀ (m j : Nat), CV.len (F i 0) < m + j → j ≤ CV.len (F i 0) →
    (NrFrom (CV.len (F i 0)) (CV.el (F i 0)) j → L31v2 100 N (Int.ofNat i) a c b d F m (Int.ofNat j) q k1 = k1) ∧ (¬ NrFrom (CV.len (F i 0)) (CV.el (F i 0)) j → L31v2 100 N (Int.ofNat i) a c b d F m (Int.ofNat j) q k1 = k0) := by
  intro m
  induction m with
  | zero => intro j h1 h2; omega
  | succ m ih =>
    intro j h1 h2
    unfold L31v2
    simp only [inb_nat, toNat_nat, Nat.zero_add, lt_nat, hq]
    rw [bif_t (decide_eq_true hi)]
    by_cases h : j < CV.len (F i 0)
    · rw [bif_t (decide_eq_true h), bif_t (decide_eq_true hi), bif_t (decide_eq_true h), w64_succ (by omega)]
      obtain ⟨p1, p2⟩ := nr_bif (CV.int (CV.el (F i 0) j 0)) (CV.int (CV.el (F i 0) j 1)) k0 (L31v2 100 N (Int.ofNat i) a c b d F m (Int.ofNat (j + 1)) q k1)
      by_cases hn : nr (CV.int (CV.el (F i 0) j 0)) (CV.int (CV.el (F i 0) j 1))
      · rw [p1 hn]
        have e : NrFrom (CV.len (F i 0)) (CV.el (F i 0)) j ↔ NrFrom (CV.len (F i 0)) (CV.el (F i 0)) (j + 1) := all_step (Q := fun j => nr (CV.int (CV.el (F i 0) j 0)) (CV.int (CV.el (F i 0) j 1))) hn
        rw [e]
        exact ih (j + 1) (by omega) (by omega)
      · rw [p2 hn]
        exact ⟨fun hh => absurd (hh j (Nat.le_refl j) h) hn, fun _ => rfl⟩
    · rw [bif_f (decide_eq_false h)]
      exact ⟨fun _ => rfl, fun hh => absurd (fun k h3 h4 => by omega) hh⟩
def NrAll (N : Nat) (F : Nat → Nat → CV) (i : Nat) : Prop := ∀ j, i ≤ j → j < N → NrFrom (CV.len (F j 0)) (CV.el (F j 0)) 0
theorem in31v3 (N a b : Nat) (F c d : Nat → Nat → CV) (hN : N ≤ 13) (hl : ∀ j, j < N → CV.len (F j 0) ≤ 40) : ∀ (m i : Nat), N < m + i → i ≤ N →
    ∃ r, L31v3 100 N a c b d F m (Int.ofNat i) (fun _ _ => some false) (some true) = some r ∧ (r = true ↔ NrAll N F i) := by
  intro m
  induction m with
  | zero => intro i h1 h2; omega
  | succ m ih =>
    intro i h1 h2
    unfold L31v3
    rw [lt_nat]
    by_cases h : i < N
    · obtain ⟨p1, p2⟩ := in31v2 N i a b F c d h (hl i h) (fun _ _ => some false) (some false) (L31v3 100 N a c b d F m (Int.ofNat (i + 1)) (fun _ _ => some false) (some true)) (fun _ _ => rfl) 100 0 (by have := hl i h; omega) (by omega)
      rw [bif_t (decide_eq_true h), w64_succ (by omega), show (0 : Int) = Int.ofNat 0 from rfl]
      by_cases hn : NrFrom (CV.len (F i 0)) (CV.el (F i 0)) 0
      · obtain ⟨r, r1, r2⟩ := ih (i + 1) (by omega) (by omega)
        have e : NrAll N F i ↔ NrAll N F (i + 1) := all_step (Q := fun j => NrFrom (CV.len (F j 0)) (CV.el (F j 0)) 0) hn
        exact ⟨r, (p1 hn).trans r1, by rw [e]; exact r2⟩
      · exact ⟨false, p2 hn, fun hh => (by cases hh), fun hh => absurd (hh i (Nat.le_refl i) h) hn⟩
    · rw [bif_f (decide_eq_false h)]
      exact ⟨true, rfl, fun _ j h3 h4 => by omega, fun _ => rfl⟩
theorem cfh_len {n1 n2 : Nat} {f1 f2 : Nat → Nat → CV} (h1 : n1 ≤ 40) (hh : ∀ j, j < n2 → CV.len (f2 j 0) ≤ 40) : ∀ j, j < 1 + n2 → CV.len (cfh n1 f1 f2 j 0) ≤ 40 := by
  intro j hj
  cases j with
  | zero => exact h1
  | succ j => rw [cfh_succ]; exact hh j (by omega)
theorem inside31 (n1 : Nat) (f1 : Nat → Nat → CV) (n2 : Nat) (f2 : Nat → Nat → CV) (hn1 : n1 ≤ 40) (hn2 : n2 ≤ 12) (hh : ∀ j, j < n2 → CV.len (f2 j 0) ≤ 40) : ∃ b, F31 100 n1 f1 n2 f2 = some b ∧ (b = true ↔ AllNr n1 f1 ∧ ∀ j, j < n2 → AllNr (CV.len (f2 j 0)) (CV.el (f2 j 0))) := by
  unfold F31 D31
  rw [bif_t (by rw [Nat.ble_eq]; omega), show (0 : Int) = Int.ofNat 0 from rfl]
  obtain ⟨r, r1, r2⟩ := in31v3 (1 + n2) n1 n2 (cfh n1 f1 f2) f1 f2 (by omega) (cfh_len hn1 hh) 100 0 (by omega) (by omega)
  refine ⟨r, r1, r2.trans ?_⟩
  constructor
  · intro h
    refine ⟨fun i hi => h 0 (by omega) (by omega) i (by omega) hi, fun j hj i hi => ?_⟩
    have := h (j + 1) (by omega) (by omega) i (by omega)
    rw [cfh_succ] at this
    exact this hi
  · rintro ⟨h1, h2⟩ j _ hj i _ hi
    cases j with
    | zero => exact h1 i hi
    | succ j =>
      rw [cfh_succ] at hi ⊢
      exact h2 j (by omega) i hi
def tmap (fl : Bool) (t : Nat) (tx ty : Int) (p : Pt) : Pt := tr (tx, ty) (qts t (bif fl then mi p else p))
theorem tmap_fit (fl : Bool) (t : Nat) (tx ty : Int) : Fit (tmap fl t tx ty) fl := by
  cases fl with
  | true => exact ((rigid_tr (tx, ty)).comp ((rigid_qts t).comp rigid_mi) : Rigid (1 * (1 * -1)) _)
  | false => exact ((rigid_tr (tx, ty)).comp (rigid_qts t) : Rigid (1 * 1) _)
theorem rot_qts : ∀ (t : Nat) (x y : Int), nr x y → rot t x y = qts t (x, y) ∧ nr (qts t (x, y)).1 (qts t (x, y)).2
  | 0, x, y, h => ⟨rfl, h⟩
  | t + 1, x, y, h => by
    have h' : nr (-y) x := by unfold nr at *; omega
    have e : w64 (0 - y) = -y := by rw [w64_of] <;> (unfold nr at h; omega)
    have := rot_qts t (-y) x h'
    show rot t (w64 (0 - y)) x = qts t (qt (x, y)) ∧ _
    rw [e]
    exact this
theorem tp_map {fl : Bool} {t : Nat} {tx ty x y : Int} (h : nr x y) (hf : farB tx ty = false) : tp fl t tx ty x y = tmap fl t tx ty (x, y) := by
  have hb : ¬ (tx < -1099511627776 ∨ tx > 1099511627776 ∨ ty < -1099511627776 ∨ ty > 1099511627776) := by
    unfold farB at hf; exact of_decide_eq_false hf
  have e : ∀ X Y, nr X Y → (w64 ((rot t X Y).1 + tx), w64 ((rot t X Y).2 + ty)) = tr (tx, ty) (qts t (X, Y)) := by
    intro X Y hX
    obtain ⟨h1, h2⟩ := rot_qts t X Y hX
    rw [h1]
    unfold nr at h2
    rw [w64_of (by omega) (by omega), w64_of (by omega) (by omega)]
    rfl
  unfold tp tmap
  cases fl with
  | true =>
    have e1 : w64 (0 - x) = -x := by rw [w64_of] <;> (unfold nr at h; omega)
    simp only [cond_true, e1]
    exact e (-x) y (by unfold nr at *; omega)
  | false => exact e x y h
theorem are_pt {P : Nat → Int × Int} {g : Nat → Nat → CV} {n : Nat} (h : Are P g n) : ∀ j, j < n → pt g j = P j := by
  intro j hj
  obtain ⟨h1, h2⟩ := h j hj
  unfold pt
  rw [h1, h2]
  rfl
theorem turned_of {fl : Bool} {t : Nat} {tx ty : Int} {n : Nat} {f g : Nat → Nat → CV} (hA : AllNr n f) (hf : farB tx ty = false) (h : Are (cq fl t tx ty n f) g n) : Turned (tmap fl t tx ty) fl n f g := by
  intro j hj
  rw [are_pt h j hj]
  unfold cq cp
  have hi : (bif fl then n - 1 - j else j) < n := by cases fl <;> simp <;> omega
  exact tp_map (hA _ hi) hf
theorem near_far {x y : Int} (h : nr x y) : farB x y = false := by
  unfold farB nr at *
  exact decide_eq_false (by omega)
theorem not_farC {n1 n2 : Nat} {f1 f2 : Nat → Nat → CV} (h1 : AllNr n1 f1) (h2 : ∀ j, j < n2 → AllNr (CV.len (f2 j 0)) (CV.el (f2 j 0))) : ¬ FarC (1 + n2) (cfh n1 f1 f2) 0 := by
  rintro ⟨j, _, hj, i, _, hi, hb⟩
  cases j with
  | zero =>
    have := near_far (h1 i hi)
    rw [show CV.el (cfh n1 f1 f2 0 0) = f1 from rfl, this] at hb
    cases hb
  | succ j =>
    rw [cfh_succ] at hi hb
    rw [near_far (h2 j (by omega) i hi)] at hb
    cases hb
theorem empty13 (f1 f2 : Nat → Nat → CV) : F13 100 0 f1 0 f2 = some 3 := rfl
theorem empty18 (f1 f2 : Nat → Nat → CV) : F18 100 0 f1 0 f2 = some 0 := rfl
theorem empty22 (f1 f2 : Nat → Nat → CV) (x y : Int) : F22 100 0 f1 0 f2 x y = some (-1) := rfl
theorem turns_law (n1 : Nat) (f1 : Nat → Nat → CV) (n2 : Nat) (f2 : Nat → Nat → CV) (_ : ShapeIn n1 f1 n2 f2) (s : ByteArray) (tx ty turn : Int) (fl : Bool) (_ : I64 tx) (_ : I64 ty) (_ : I64 turn) (qx qy : Int) (_ : I64 qx) (_ : I64 qy) : F9 100 n1 f1 n2 f2 s tx ty turn fl qx qy = some true := by
  unfold F9 D9
  rcases great_law n1 n2 f1 f2 with h | ⟨h, hn1, hn2, hh⟩
  · rw [h, ob_some, bif_f (by simp), alive_law, ob_some]
  · rw [h, ob_some, bif_t (by simp)]
    by_cases ht1 : turn < 0
    · rw [bif_f (by rw [decide_eq_true ht1]; rfl), alive_law, ob_some]
    · rw [bif_t (by rw [decide_eq_false ht1]; rfl)]
      by_cases ht2 : turn > 3
      · rw [bif_f (by rw [decide_eq_true ht2]; rfl), alive_law, ob_some]
      · rw [bif_t (by rw [decide_eq_false ht2]; rfl)]
        obtain ⟨t, rfl⟩ : ∃ t : Nat, turn = Int.ofNat t := ⟨turn.toNat, (Int.toNat_of_nonneg (by omega)).symm⟩
        have ht : t ≤ 3 := by simp at ht2; omega
        obtain ⟨b1, i1, j1⟩ := inside31 n1 f1 n2 f2 hn1 hn2 hh
        obtain ⟨b2, i2, j2⟩ := inside31 1 (rowsF 2 [(.i .i64 qx), (.i .i64 qy)]) 0 (fun _ _ => .any) (by omega) (by omega) (fun j hj => by omega)
        rw [i1, ob_some]
        cases b1 with
        | false => rw [bif_f (show ((!false) == false) = false from rfl), alive_law, ob_some]
        | true =>
          rw [bif_t (show ((!true) == false) = true from rfl), i2, ob_some]
          cases b2 with
          | false => rw [bif_t (show (!false) = true from rfl), alive_law, ob_some]
          | true =>
            obtain ⟨A1, A2⟩ := j1.1 rfl
            have hq : nr qx qy := (j2.1 rfl).1 0 (by omega)
            rw [bif_f (show (!true) = false from rfl)]
            obtain ⟨m1, m2⟩ := move25 n1 f1 n2 f2 s tx ty t fl hn1 hn2 hh ht
            by_cases hb : farB tx ty = true ∨ FarC (1 + n2) (cfh n1 f1 f2) 0
            · have hfar : farB tx ty = true := hb.resolve_right (not_farC A1 A2)
              have hat : ((tx == 0) && ((ty == 0) && true)) = false := by
                cases hz : ((tx == 0) && ((ty == 0) && true)) with
                | false => rfl
                | true =>
                  simp only [Bool.and_true, Bool.and_eq_true, beq_iff_eq] at hz
                  rw [hz.1, hz.2] at hfar
                  cases hfar
              rw [m1 hb, ob_some]
              obtain ⟨b3, i3, j3⟩ := inside31 0 (fun _ _ => .any) 0 (fun _ _ => .any) (by omega) (by omega) (fun j hj => by omega)
              have e3 : b3 = true := j3.2 ⟨fun i hi => by omega, fun j hj => by omega⟩
              subst e3
              simp only [i3, ob_some, hat, alive_law, Bool.not_true, Bool.not_false, beq_self_eq_true, cond_true, show (true == false) = false from rfl, cond_false]
              by_cases h0 : n1 = 0
              · subst h0
                by_cases h00 : n2 = 0
                · subst h00
                  simp only [empty13, empty18, empty22, point_law _ _ _ _ _ _ _ ht, ob_some, alive_law]
                  rfl
                · have e5 : ((Int.ofNat 0) != (Int.ofNat n2)) = true := by simp; omega
                  rw [bif_t (by simp), bif_t e5]
              · have e5 : ((Int.ofNat 0) != (Int.ofNat n1)) = true := by simp; omega
                rw [e5]; rfl
            · have hfar : farB tx ty = false := by
                cases hz : farB tx ty with
                | false => rfl
                | true => exact absurd (.inl hz) hb
              obtain ⟨g, x, e1, hg, hx⟩ := m2 hb
              rw [e1, ob_some]
              obtain ⟨b3, i3, j3⟩ := inside31 n1 g n2 x hn1 hn2 (fun j hj => by rw [(hx j hj).1]; exact hh j hj)
              simp only [i3, ob_some]
              cases b3 with
              | false =>
                simp only [alive_law, ob_some]
                cases ((tx == 0) && ((ty == 0) && true)) <;> rfl
              | true =>
                obtain ⟨B1, B2⟩ := j3.1 rfl
                have TS : TShape (tmap fl t tx ty) fl n1 f1 n2 f2 g x := ⟨tmap_fit fl t tx ty, turned_of A1 hfar hg, fun j hj => (hx j hj).1, fun j hj => turned_of (A2 j hj) hfar (hx j hj).2, A1, B1, A2, fun j hj => by have := B2 j hj; rw [(hx j hj).1] at this; exact this⟩
                obtain ⟨c, c1, _, _⟩ := shape_law n1 n2 f1 f2
                have c2 : F13 100 n1 g n2 x = some c := (t13 TS).trans c1
                obtain ⟨a, a1, a2⟩ := t18 TS
                obtain ⟨z, z1, z2⟩ := t22 TS (q := (qx, qy)) hq
                have ep := point_law qx qy s tx ty t fl ht
                rw [tp_map hq hfar] at ep
                have z2' : F22 100 n1 f1 n2 f2 qx qy = some z := z2
                rw [bif_t (show ((!true) == false) = true from rfl), bif_t (by simp), bif_f (by simp)]
                simp only [c1, c2, a1, a2, ep, z1, z2', ob_some, alive_law, beq_self_eq_true, cond_true]
end Go.Eng.R13
