/-
  RegionSums: the plain law.
-/
import Derived.Test.YtnpgipmbionmgaaPlCheck
import Derived.Test.YtnpgipmbionmgaaPlBounds
set_option linter.all false
namespace Go.Eng.R13
open Go Go.RowKit Go.Eng Geo

theorem f33v37 (n : Nat) (f : Nat → Nat → CV) : F33 100 n f = F37 100 n f := by
  obtain ⟨c, h1, h2, _⟩ := check_law n f
  rw [h1, h2]
theorem f34v38 (n : Nat) (f : Nat → Nat → CV) : F34 100 n f = F38 100 n f := by
  obtain ⟨c, h1, h2, _⟩ := area_law n f
  rw [h1, h2]
theorem f13v14 (n1 : Nat) (f1 : Nat → Nat → CV) (n2 : Nat) (f2 : Nat → Nat → CV) : F13 100 n1 f1 n2 f2 = F14 100 n1 f1 n2 f2 := by
  obtain ⟨c, h1, h2, _⟩ := shape_law n1 n2 f1 f2
  rw [h1, h2]
theorem f65v40 (n : Nat) (f : Nat → Nat → CV) (x y : Int) : F65 100 n f x y = F40 100 n f x y := by
  obtain ⟨c, h1, h2, _⟩ := where_law n f x y
  rw [h1, h2]

theorem l43v45 {ρ : Type} (n : Nat) (f : Nat → Nat → CV) (k : Int → Int → Option ρ) : ∀ (m : Nat) (a b i : Int), L43v1 100 n f (Int.ofNat n) m a b i k = L45v1 100 n f m a b i k := by
  intro m
  induction m with
  | zero => intro a b i; rfl
  | succ m ih =>
    intro a b i
    unfold L43v1 L45v1
    rw [ih, Int.mul_comm (CV.int (f (Int.toNat (Int.tmod (w64 (i + 1)) (Int.ofNat n))) 0)) (CV.int (f (Int.toNat i) 1))]
theorem f43v45 (n : Nat) (f : Nat → Nat → CV) : F43 100 n f = F45 100 n f := by
  unfold F43 D43 F45 D45
  rw [f33v37]
  refine congrArg (ob (F37 100 n f)) (funext fun c => ?_)
  rw [l43v45]

theorem f42v44 (n1 : Nat) (f1 : Nat → Nat → CV) (n2 : Nat) (f2 : Nat → Nat → CV) : F42 100 n1 f1 n2 f2 = F44 100 n1 f1 n2 f2 := by
  unfold F42 D42 F44 D44; rfl
theorem l18v19 {ρ : Type} (N a b : Nat) (F c d : Nat → Nat → CV) (k : Int → Option ρ) : ∀ (m : Nat) (s i : Int), L18v1 100 N F (Int.ofNat N) a c b d m s i k = L19v1 100 N F a c b d m s i k := by
  intro m
  induction m with
  | zero => intro s i; rfl
  | succ m ih =>
    intro s i
    unfold L18v1 L19v1
    rw [f34v38]
    simp only [ih]
theorem f18v19 (n1 : Nat) (f1 : Nat → Nat → CV) (n2 : Nat) (f2 : Nat → Nat → CV) : F18 100 n1 f1 n2 f2 = F19 100 n1 f1 n2 f2 := by
  unfold F18 D18 F19 D19
  rw [f13v14, f42v44]
  simp only [l18v19]

theorem l16v17 {ρ : Type} (N a b : Nat) (F c d : Nat → Nat → CV) (k : Int → Int → Option ρ) : ∀ (m : Nat) (s t i : Int), L16v1 100 N F (Int.ofNat N) a c b d m s t i k = L17v1 100 N F a c b d m s t i k := by
  intro m
  induction m with
  | zero => intro s t i; rfl
  | succ m ih =>
    intro s t i
    unfold L16v1 L17v1
    rw [f43v45]
    simp only [ih]
theorem f16v17 (n1 : Nat) (f1 : Nat → Nat → CV) (n2 : Nat) (f2 : Nat → Nat → CV) : F16 100 n1 f1 n2 f2 = F17 100 n1 f1 n2 f2 := by
  unfold F16 D16 F17 D17
  rw [f13v14, f42v44]
  simp only [l16v17]

/-! none of these fails -/
theorem some43 {ρ : Type} (n : Nat) (f : Nat → Nat → CV) (hn : n ≤ 32) (h0 : 0 < n) (k : Int → Int → Option ρ) : ∀ (m i : Nat) (a b : Int), n < m + i → i ≤ n → ∃ x y, L43v1 100 n f (Int.ofNat n) m a b (Int.ofNat i) k = k x y := by
  intro m
  induction m with
  | zero => intro i a b h1 h2; omega
  | succ m ih =>
    intro i a b h1 h2
    unfold L43v1
    rw [lt_nat, inb_nat, toNat_nat]
    by_cases h : i < n
    · have hx : (i + 1) % n < n := Nat.mod_lt _ h0
      rw [bif_t (decide_eq_true h), bif_t (decide_eq_true h), bif_f (ofNat_ne0 h0), w64_succ (by omega), tmod_nat, inb_nat, toNat_nat, bif_t (decide_eq_true hx)]
      exact ih (i + 1) _ _ (by omega) (by omega)
    · rw [bif_f (decide_eq_false h)]
      exact ⟨a, b, rfl⟩
theorem f43_some (n : Nat) (f : Nat → Nat → CV) : ∃ x, F43 100 n f = some x := by
  unfold F43 D43
  obtain ⟨c, h1, _, h3⟩ := check_law n f
  rw [h1, ob_some]
  by_cases hc : c = 0
  · have V := h3.1 hc
    have vb := V.big
    have vs := V.small
    obtain ⟨x, y, h⟩ := some43 n f V.small (by omega) (fun x15 x16 => some (x15, x16)) 100 0 0 0 (by omega) (by omega)
    rw [bif_f (by simpa using hc), show (0 : Int) = Int.ofNat 0 from rfl]
    exact ⟨_, h⟩
  · rw [bif_t (by simpa using hc)]
    exact ⟨_, rfl⟩
theorem some18 {ρ : Type} (N a b : Nat) (F c d : Nat → Nat → CV) (hN : N ≤ 13) (k : Int → Option ρ) : ∀ (m i : Nat) (s : Int), N < m + i → i ≤ N → ∃ x, L18v1 100 N F (Int.ofNat N) a c b d m s (Int.ofNat i) k = k x := by
  intro m
  induction m with
  | zero => intro i s h1 h2; omega
  | succ m ih =>
    intro i s h1 h2
    unfold L18v1
    rw [lt_nat, inb_nat, toNat_nat]
    by_cases h : i < N
    · obtain ⟨x, hx, _⟩ := area_law (CV.len (F i 0)) (CV.el (F i 0))
      rw [bif_t (decide_eq_true h), bif_t (decide_eq_true h), hx, ob_some, w64_succ (by omega)]
      exact ih (i + 1) _ (by omega) (by omega)
    · rw [bif_f (decide_eq_false h)]
      exact ⟨s, rfl⟩
theorem some16 {ρ : Type} (N a b : Nat) (F c d : Nat → Nat → CV) (hN : N ≤ 13) (k : Int → Int → Option ρ) : ∀ (m i : Nat) (s t : Int), N < m + i → i ≤ N → ∃ x y, L16v1 100 N F (Int.ofNat N) a c b d m s t (Int.ofNat i) k = k x y := by
  intro m
  induction m with
  | zero => intro i s t h1 h2; omega
  | succ m ih =>
    intro i s t h1 h2
    unfold L16v1
    rw [lt_nat, inb_nat, toNat_nat]
    by_cases h : i < N
    · obtain ⟨x, hx⟩ := f43_some (CV.len (F i 0)) (CV.el (F i 0))
      rw [bif_t (decide_eq_true h), bif_t (decide_eq_true h), hx, ob_some, w64_succ (by omega)]
      exact ih (i + 1) _ _ (by omega) (by omega)
    · rw [bif_f (decide_eq_false h)]
      exact ⟨s, t, rfl⟩
theorem f18_some (n1 : Nat) (f1 : Nat → Nat → CV) (n2 : Nat) (f2 : Nat → Nat → CV) (hn : n2 ≤ 12) : ∃ x, F18 100 n1 f1 n2 f2 = some x := by
  unfold F18 D18
  obtain ⟨c, h1, _, _⟩ := shape_law n1 n2 f1 f2
  rw [h1, ob_some]
  have c42 : F42 100 n1 f1 n2 f2 = some (1 + n2, joinF 1 (rowsF 1 [(.ro false (.pr (.int .i64) (.pr (.int .i64) .nil)) n1 f1)]) f2) := by
    unfold F42 D42
    rw [bif_t (by rw [Nat.ble_eq]; omega)]
  by_cases hc : c = 0
  · rw [bif_f (by simpa using hc), c42, ob_some, show (0 : Int) = Int.ofNat 0 from rfl]
    obtain ⟨x, hx⟩ := some18 (1 + n2) n1 n2 (joinF 1 (rowsF 1 [(.ro false (.pr (.int .i64) (.pr (.int .i64) .nil)) n1 f1)]) f2) f1 f2 (by omega) (fun x26 => some x26) 100 0 (Int.ofNat 0) (by omega) (by omega)
    exact ⟨x, hx⟩
  · rw [bif_t (by simpa using hc)]
    exact ⟨_, rfl⟩
theorem f16_some (n1 : Nat) (f1 : Nat → Nat → CV) (n2 : Nat) (f2 : Nat → Nat → CV) (hn : n2 ≤ 12) : ∃ x, F16 100 n1 f1 n2 f2 = some x := by
  unfold F16 D16
  obtain ⟨c, h1, _, _⟩ := shape_law n1 n2 f1 f2
  rw [h1, ob_some]
  have c42 : F42 100 n1 f1 n2 f2 = some (1 + n2, joinF 1 (rowsF 1 [(.ro false (.pr (.int .i64) (.pr (.int .i64) .nil)) n1 f1)]) f2) := by
    unfold F42 D42
    rw [bif_t (by rw [Nat.ble_eq]; omega)]
  by_cases hc : c = 0
  · rw [bif_f (by simpa using hc), c42, ob_some, show (0 : Int) = Int.ofNat 0 from rfl]
    obtain ⟨x, y, hx⟩ := some16 (1 + n2) n1 n2 (joinF 1 (rowsF 1 [(.ro false (.pr (.int .i64) (.pr (.int .i64) .nil)) n1 f1)]) f2) f1 f2 (by omega) (fun x28 x29 => some (x28, x29)) 100 0 (Int.ofNat 0) (Int.ofNat 0) (by omega) (by omega)
    exact ⟨_, hx⟩
  · rw [bif_t (by simpa using hc)]
    exact ⟨_, rfl⟩

/-! bounds -/
theorem joinF_o (n : Nat) (f g : Nat → Nat → CV) (j c : Nat) (h : j < n) : joinF n f g j c = f j c := by
  unfold joinF
  rw [bif_t (by simpa [Nat.blt_eq] using h)]
theorem joinF_n (n : Nat) (f g : Nat → Nat → CV) (j c : Nat) (h : n ≤ j) : joinF n f g j c = g (j - n) c := by
  unfold joinF
  rw [bif_f]
  cases hq : Nat.blt j n with
  | false => rfl
  | true => simp [Nat.blt_eq] at hq; omega
def Col (f : Nat → Nat → CV) (c : Nat) (g : Nat → Nat → CV) (i : Nat) : Prop := ∀ j, j < i → CV.int (g j 0) = CV.int (f j c)
theorem Col.snoc {f g : Nat → Nat → CV} {c i : Nat} (h : Col f c g i) : Col f c (joinF i g (rowsF 1 [.i .i64 (CV.int (f i c))])) (i + 1) := by
  intro j hj
  by_cases e : j = i
  · subst e
    rw [joinF_n _ _ _ _ _ (Nat.le_refl j), Nat.sub_self]; rfl
  · rw [joinF_o _ _ _ _ _ (by omega)]
    exact h j (by omega)
theorem cols46 {ρ : Type} (n : Nat) (f : Nat → Nat → CV) (hn : n ≤ 40) (k : Nat → (Nat → Nat → CV) → (Nat → Nat → CV) → Option ρ) : ∀ (m i : Nat) (g h : Nat → Nat → CV), n < m + i → i ≤ n → Col f 0 g i → Col f 1 h i →
    ∃ g' h', L46v1 100 n f (Int.ofNat n) m i (Int.ofNat i) g h k = k n g' h' ∧ Col f 0 g' n ∧ Col f 1 h' n := by
  intro m
  induction m with
  | zero => intro i g h h1 h2; omega
  | succ m ih =>
    intro i g h h1 h2 hg hh
    unfold L46v1
    rw [lt_nat, inb_nat, toNat_nat]
    by_cases hlt : i < n
    · rw [bif_t (decide_eq_true hlt), bif_t (decide_eq_true hlt), w64_succ (by omega), bif_t (by rw [Nat.ble_eq]; omega), bif_t (by rw [Nat.ble_eq]; omega)]
      exact ih (i + 1) _ _ (by omega) (by omega) hg.snoc hh.snoc
    · rw [bif_f (decide_eq_false hlt)]
      have : i = n := by omega
      subst this
      exact ⟨g, h, rfl, hg, hh⟩
/-- least and greatest of z and the first i -/
def Ext (z : Int) (g : Nat → Nat → CV) (i : Nat) (a b : Int) : Prop :=
  (a ≤ z ∧ z ≤ b ∧ ∀ j, j < i → a ≤ CV.int (g j 0) ∧ CV.int (g j 0) ≤ b) ∧ (a = z ∨ ∃ j, j < i ∧ CV.int (g j 0) = a) ∧ (b = z ∨ ∃ j, j < i ∧ CV.int (g j 0) = b)
theorem ext72 {ρ : Type} (n : Nat) (z : Int) (g : Nat → Nat → CV) (hn : n ≤ 40) (k : Int → Int → Option ρ) : ∀ (m i : Nat) (a b : Int), n < m + i → i ≤ n → Ext z g i a b → ∃ a' b', L72v1 100 n g (Int.ofNat n) m a b (Int.ofNat i) k = k a' b' ∧ Ext z g n a' b' := by
  intro m
  induction m with
  | zero => intro i a b h1 h2; omega
  | succ m ih =>
    intro i a b h1 h2 hE
    unfold L72v1
    rw [lt_nat, inb_nat, toNat_nat]
    by_cases hlt : i < n
    · rw [bif_t (decide_eq_true hlt), bif_t (decide_eq_true hlt), w64_succ (by omega)]
      refine ih (i + 1) _ _ (by omega) (by omega) ?_
      obtain ⟨⟨e1, e2, e3⟩, e4, e5⟩ := hE
      refine ⟨⟨by split <;> omega, by split <;> omega, fun j hj => ?_⟩, ?_, ?_⟩
      · by_cases e : j = i
        · rw [e]; constructor <;> split <;> omega
        · have := e3 j (by omega)
          constructor <;> split <;> omega
      · by_cases e : CV.int (g i 0) < a
        · rw [if_pos e]; exact .inr ⟨i, by omega, rfl⟩
        · rw [if_neg e]
          rcases e4 with h | ⟨j, h, h'⟩
          · exact .inl h
          · exact .inr ⟨j, by omega, h'⟩
      · by_cases e : CV.int (g i 0) > b
        · rw [if_pos e]; exact .inr ⟨i, by omega, rfl⟩
        · rw [if_neg e]
          rcases e5 with h | ⟨j, h, h'⟩
          · exact .inl h
          · exact .inr ⟨j, by omega, h'⟩
    · rw [bif_f (decide_eq_false hlt)]
      have : i = n := by omega
      subst this
      exact ⟨a, b, rfl, hE⟩
theorem ext_law (n : Nat) (z : Int) (g : Nat → Nat → CV) (hn : n ≤ 40) : ∃ a b, F72 100 z n g = some (a, b) ∧ Ext z g n a b := by
  unfold F72 D72
  exact ext72 n z g hn _ 100 0 z z (by omega) (by omega) ⟨⟨Int.le_refl _, Int.le_refl _, fun j hj => by omega⟩, .inl rfl, .inl rfl⟩

theorem Bds.unique {f : Nat → Nat → CV} {n : Nat} {a b c d a' b' c' d' : Int} (hn : 0 < n) (h : Bds f n a b c d) (h' : Bds f n a' b' c' d') : a = a' ∧ b = b' ∧ c = c' ∧ d = d' := by
  obtain ⟨h1, h2⟩ := h
  obtain ⟨⟨j1, k1, e1⟩, ⟨j2, k2, e2⟩, ⟨j3, k3, e3⟩, ⟨j4, k4, e4⟩⟩ := h2 hn
  obtain ⟨g1, g2⟩ := h'
  obtain ⟨⟨i1, l1, m1⟩, ⟨i2, l2, m2⟩, ⟨i3, l3, m3⟩, ⟨i4, l4, m4⟩⟩ := g2 hn
  have p1 := h1 i1 l1
  have p2 := h1 i2 l2
  have p3 := h1 i3 l3
  have p4 := h1 i4 l4
  have q1 := g1 j1 k1
  have q2 := g1 j2 k2
  have q3 := g1 j3 k3
  have q4 := g1 j4 k4
  exact ⟨by omega, by omega, by omega, by omega⟩

theorem bounds46 (n : Nat) (f : Nat → Nat → CV) (hn : n ≤ 40) : ∃ p q r s, F46 100 n f = some (p, q, r, s) ∧ (0 < n → Bds f n p q r s) ∧ (n = 0 → p = 0 ∧ q = 0 ∧ r = 0 ∧ s = 0) := by
  unfold F46 D46
  by_cases h0 : n = 0
  · subst h0
    exact ⟨0, 0, 0, 0, rfl, fun h => by omega, fun _ => ⟨rfl, rfl, rfl, rfl⟩⟩
  · rw [bif_f (by simp; omega)]
    obtain ⟨g, h, e1, hg, hh⟩ := cols46 n f hn (fun x16 x17 x18 => (bif (inb 0 x16) then (ob (F72 100 (CV.int (x17 0 0)) x16 x17) fun x19 => (bif (inb 0 x16) then (ob (F72 100 (CV.int (x18 0 0)) x16 x18) fun x20 => (some (x19.1, x20.1, x19.2, x20.2))) else none)) else none)) 100 0 (fun _ _ => .any) (fun _ _ => .any) (by omega) (by omega) (fun j hj => by omega) (fun j hj => by omega)
    obtain ⟨a, b, e2, E2⟩ := ext_law n (CV.int (g 0 0)) g hn
    obtain ⟨c, d, e3, E3⟩ := ext_law n (CV.int (h 0 0)) h hn
    refine ⟨a, c, b, d, e1.trans ?_, fun _ => ?_, fun h => absurd h h0⟩
    · rw [bif_t (inb_true (by omega) (by omega)), e2, ob_some, bif_t (inb_true (by omega) (by omega)), e3, ob_some]
    · obtain ⟨⟨_, _, x1⟩, x2, x3⟩ := E2
      obtain ⟨⟨_, _, y1⟩, y2, y3⟩ := E3
      have hn0 : 0 < n := by omega
      refine ⟨fun j hj => ?_, fun _ => ⟨?_, ?_, ?_, ?_⟩⟩
      · have p := x1 j hj
        have q := y1 j hj
        rw [hg j hj] at p
        rw [hh j hj] at q
        exact ⟨p.1, q.1, p.2, q.2⟩
      · rcases x2 with h | ⟨j, hj, h⟩
        · exact ⟨0, hn0, by rw [h, hg 0 hn0]⟩
        · exact ⟨j, hj, by rw [← hg j hj, h]⟩
      · rcases y2 with h | ⟨j, hj, h⟩
        · exact ⟨0, hn0, by rw [h, hh 0 hn0]⟩
        · exact ⟨j, hj, by rw [← hh j hj, h]⟩
      · rcases x3 with h | ⟨j, hj, h⟩
        · exact ⟨0, hn0, by rw [h, hg 0 hn0]⟩
        · exact ⟨j, hj, by rw [← hg j hj, h]⟩
      · rcases y3 with h | ⟨j, hj, h⟩
        · exact ⟨0, hn0, by rw [h, hh 0 hn0]⟩
        · exact ⟨j, hj, by rw [← hh j hj, h]⟩
theorem bounds_eq (n1 : Nat) (f1 : Nat → Nat → CV) (n2 : Nat) (f2 : Nat → Nat → CV) (hn : n1 ≤ 40) : ∃ p, F20 100 n1 f1 n2 f2 = some p ∧ F21 100 n1 f1 n2 f2 = some p := by
  obtain ⟨p, q, r, s, h1, h2, h3⟩ := bounds46 n1 f1 hn
  have e20 : F20 100 n1 f1 n2 f2 = some (p, q, r, s) := by
    unfold F20 D20
    rw [h1, ob_some]
  by_cases h0 : n1 = 0
  · obtain ⟨rfl, rfl, rfl, rfl⟩ := h3 h0
    subst h0
    exact ⟨_, e20, rfl⟩
  · obtain ⟨p', q', r', s', h4, h5⟩ := bounds_law n1 n2 f1 f2 hn
    obtain ⟨rfl, rfl, rfl, rfl⟩ := Bds.unique (by omega) (h2 (by omega)) (h5 (by omega))
    exact ⟨_, e20, h4⟩

theorem sums_law (n1 : Nat) (f1 : Nat → Nat → CV) (n2 : Nat) (f2 : Nat → Nat → CV) (_ : ShapeIn n1 f1 n2 f2) : F4 100 n1 f1 n2 f2 = some true := by
  unfold F4 D4
  rcases great_law n1 n2 f1 f2 with h | ⟨h, hn1, hn2, _⟩
  · rw [h, ob_some, bif_t rfl, alive_law, ob_some]
  · obtain ⟨x, hx⟩ := f16_some n1 f1 n2 f2 hn2
    obtain ⟨y, hy⟩ := f18_some n1 f1 n2 f2 hn2
    obtain ⟨p, hp1, hp2⟩ := bounds_eq n1 f1 n2 f2 hn1
    have hx' := hx
    have hy' := hy
    rw [f16v17] at hx'
    rw [f18v19] at hy'
    rw [h, ob_some, bif_f rfl, hx, hx', hy, hy', hp1, hp2]
    simp only [ob_some, beq_self_eq_true, Bool.and_self, cond_true, alive_law]
end Go.Eng.R13
