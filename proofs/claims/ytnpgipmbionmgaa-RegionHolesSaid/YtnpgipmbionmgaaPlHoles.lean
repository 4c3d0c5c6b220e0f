/-
  RegionHoles: the plain law.
-/
import Derived.Test.YtnpgipmbionmgaaPlNest
import Derived.Test.YtnpgipmbionmgaaGeo10
set_option linter.all false
namespace Go.Eng.R13
open Go Go.RowKit Go.Eng Geo

theorem jo (n : Nat) (f g : Nat → Nat → CV) (j c : Nat) (h : j < n) : joinF n f g j c = f j c := by
  unfold joinF
  rw [bif_t (by simpa [Nat.blt_eq] using h)]
theorem jn (n : Nat) (f g : Nat → Nat → CV) (j c : Nat) (h : n ≤ j) : joinF n f g j c = g (j - n) c := by
  unfold joinF
  rw [bif_f]
  cases hq : Nat.blt j n with
  | false => rfl
  | true => simp [Nat.blt_eq] at hq; omega

/-! all holes but one -/
def sk (i j : Nat) : Nat := if j < i then j else j + 1
theorem sk_lt {i j n : Nat} (hi : i < n) (hj : j < n - 1) : sk i j < n := by unfold sk; split <;> omega
theorem sk_ne {i j : Nat} : sk i j ≠ i := by unfold sk; split <;> omega
theorem sk_mono {i j k : Nat} (h : j < k) : sk i j < sk i k := by unfold sk; split <;> split <;> omega
def RestIs (f2 : Nat → Nat → CV) (i N : Nat) (g : Nat → Nat → CV) : Prop := ∀ j, j < N → CV.len (g j 0) = CV.len (f2 (sk i j) 0) ∧ CV.el (g j 0) = CV.el (f2 (sk i j) 0)
theorem rest_loop {ρ : Type} (i n1 n2 : Nat) (f1 f2 : Nat → Nat → CV) (qx qy : Int) (hn : n2 ≤ 8) (hi : i < n2) (k0 : Nat → (Nat → Nat → CV) → Option ρ) : ∀ (m k c : Nat) (g : Nat → Nat → CV), n2 < m + k → k ≤ n2 → c = (if k ≤ i then k else k - 1) → RestIs f2 i c g →
    ∃ g', L11v1 100 (Int.ofNat i) n1 f1 n2 f2 qx qy m (Int.ofNat k) c g k0 = k0 (n2 - 1) g' ∧ RestIs f2 i (n2 - 1) g' := by
  intro m
  induction m with
  | zero => intro k c g h1 h2; omega
  | succ m ih =>
    intro k c g h1 h2 hc hg
    unfold L11v1
    rw [lt_nat, inb_nat, toNat_nat]
    by_cases h : k < n2
    · rw [bif_t (decide_eq_true h), w64_succ (by omega)]
      by_cases e : k = i
      · subst e
        rw [bif_f (by simp)]
        rw [if_pos (Nat.le_refl k)] at hc
        exact ih (k + 1) c g (by omega) (by omega) (by rw [if_neg (by omega)]; omega) hg
      · rw [bif_t (by simp; omega), bif_t (decide_eq_true h), bif_t (by rw [Nat.ble_eq]; split at hc <;> omega)]
        refine ih (k + 1) (c + 1) _ (by omega) (by omega) (by split at hc <;> split <;> omega) ?_
        intro j hj
        by_cases ej : j = c
        · subst ej
          rw [jn _ _ _ _ _ (Nat.le_refl j), Nat.sub_self]
          have : sk i j = k := by unfold sk; split at hc <;> split <;> omega
          rw [this]
          exact ⟨rfl, rfl⟩
        · rw [jo _ _ _ _ _ (by omega)]
          exact hg j (by omega)
    · rw [bif_f (decide_eq_false h)]
      have : c = n2 - 1 := by split at hc <;> omega
      subst this
      exact ⟨g, rfl, hg⟩
theorem HoleAt.congr {n1 : Nat} {f1 f2 g : Nat → Nat → CV} {i j : Nat} (h1 : CV.len (g j 0) = CV.len (f2 i 0)) (h2 : CV.el (g j 0) = CV.el (f2 i 0)) (H : HoleAt n1 f1 f2 i) : HoleAt n1 f1 g j := by
  obtain ⟨a, b, c, d⟩ := H
  refine ⟨?_, ?_, ?_, ?_⟩
  · rw [h1, h2]; exact a
  · rw [h1, h2]; exact b
  · rw [h1, h2]; exact c
  · rw [h1, h2]; exact d
theorem rest_valid {n1 n2 i : Nat} {f1 f2 g : Nat → Nat → CV} (S : VShape n1 f1 n2 f2) (hi : i < n2) (hg : RestIs f2 i (n2 - 1) g) : VShape n1 f1 (n2 - 1) g := by
  refine ⟨by have := S.few; omega, S.outer, S.pos, fun j hj => (S.hole _ (sk_lt hi hj)).congr (hg j hj).1 (hg j hj).2, fun j hj k hk => ?_⟩
  have := S.apart _ (sk_lt hi hj) _ (sk_mono (i := i) hk)
  unfold ApartAt at *
  rw [(hg j hj).1, (hg j hj).2, (hg k (by omega)).1, (hg k (by omega)).2]
  exact this

/-! the hole, turned about -/
theorem turned_loop {ρ : Type} (i n1 n2 N : Nat) (f1 f2 g : Nat → Nat → CV) (qx qy : Int) (hi : i < n2) (hn : CV.len (f2 i 0) ≤ 32) (k0 : Nat → (Nat → Nat → CV) → Option ρ) : ∀ (m r c : Nat) (h : Nat → Nat → CV), r < m → c + r = CV.len (f2 i 0) → (∀ j, j < c → pt h j = pt (CV.el (f2 i 0)) (CV.len (f2 i 0) - 1 - j)) →
    ∃ h', L11v2 100 (Int.ofNat i) n1 f1 n2 f2 qx qy N g m ((r : Int) - 1) c h k0 = k0 (CV.len (f2 i 0)) h' ∧ ∀ j, j < CV.len (f2 i 0) → pt h' j = pt (CV.el (f2 i 0)) (CV.len (f2 i 0) - 1 - j) := by
  intro m
  induction m with
  | zero => intro r c h h1; omega
  | succ m ih =>
    intro r c h h1 h2 hh
    unfold L11v2
    rw [inb_nat, toNat_nat]
    cases r with
    | zero =>
      rw [bif_f (by simp)]
      have : c = CV.len (f2 i 0) := by omega
      rw [this] at hh ⊢
      exact ⟨h, rfl, hh⟩
    | succ r =>
      have e : ((r + 1 : Nat) : Int) - 1 = Int.ofNat r := by simp
      have e2 : w64 (Int.ofNat r - 1) = (r : Int) - 1 := by rw [w64_of] <;> simp <;> omega
      rw [e, e2, inb_nat, toNat_nat, bif_t (by simp), bif_t (decide_eq_true hi), bif_t (decide_eq_true (by omega)), bif_t (by rw [Nat.ble_eq]; omega)]
      refine ih r (c + 1) _ (by omega) (by omega) ?_
      intro j hj
      by_cases ej : j = c
      · subst ej
        unfold pt
        rw [jn _ _ _ _ _ (Nat.le_refl j), jn _ _ _ _ _ (Nat.le_refl j), Nat.sub_self, show CV.len (f2 i 0) - 1 - j = r from by omega]
        rfl
      · have := hh j (by omega)
        unfold pt at *
        rw [jo _ _ _ _ _ (by omega), jo _ _ _ _ _ (by omega)]
        exact this
theorem rev_valid {n : Nat} {H h : Nat → Nat → CV} (V : Valid n H) (e : ∀ j, j < n → pt h j = pt H (n - 1 - j)) : Valid n h := by
  have hb := V.big
  refine ⟨V.big, V.small, fun j hj => ?_, simple_congr (fun j hj => (e j hj).symm) (rv_simple V.simple)⟩
  have h1 := V.near (n - 1 - j) (by omega)
  have h2 := e j hj
  rw [show CV.int (h j 0) = CV.int (H (n - 1 - j) 0) from congrArg Prod.fst h2, show CV.int (h j 1) = CV.int (H (n - 1 - j) 1) from congrArg Prod.snd h2]
  exact h1
theorem rev_area {n : Nat} {H h : Nat → Nat → CV} (V : Valid n H) (e : ∀ j, j < n → pt h j = pt H (n - 1 - j)) : area n (pt h) = - area n (pt H) := by
  have hb := V.big
  rw [area_congr (by omega) e]
  exact rv_area n (pt H)
theorem rev_onK {n : Nat} {H h : Nat → Nat → CV} (V : Valid n H) (e : ∀ j, j < n → pt h j = pt H (n - 1 - j)) (q : Pt) : OnK n (pt h) q ↔ OnK n (pt H) q := by
  have hb := V.big
  rw [onK_congr (by omega) e]
  exact rv_onK (p := pt H)
theorem rev_par {n : Nat} {H h : Nat → Nat → CV} (V : Valid n H) (e : ∀ j, j < n → pt h j = pt H (n - 1 - j)) {q : Pt} (hq : ¬ OnK n (pt H) q) : par n (pt h) q = par n (pt H) q := by
  have hb := V.big
  rw [par_congr (by omega) e]
  exact rv_par hq
theorem rev_shape {n1 i : Nat} {f1 f2 h : Nat → Nat → CV} {g : Nat → Nat → CV} (H : HoleAt n1 f1 f2 i) (e : ∀ j, j < CV.len (f2 i 0) → pt h j = pt (CV.el (f2 i 0)) (CV.len (f2 i 0) - 1 - j)) : VShape (CV.len (f2 i 0)) h 0 g := by
  refine ⟨by omega, rev_valid H.valid e, ?_, fun j hj => by omega, fun j hj => by omega⟩
  rw [rev_area H.valid e]
  have := H.neg
  omega

/-! areas -/
def harea (f2 : Nat → Nat → CV) (j : Nat) : Int := area (CV.len (f2 j 0)) (pt (CV.el (f2 j 0)))
theorem area_bd {n : Nat} {f : Nat → Nat → CV} (V : Valid n f) : -68719476736 ≤ area n (pt f) ∧ area n (pt f) ≤ 68719476736 := by
  have h := asum_bd V.big V.near n (Nat.le_refl n)
  have hs := V.small
  have e : area n (pt f) = sm n (aterm n f) := rfl
  rw [e]
  omega
theorem sm_bd {f : Nat → Int} {B : Int} (n : Nat) (h : ∀ i, i < n → -B ≤ f i ∧ f i ≤ B) : -(B * (n : Int)) ≤ sm n f ∧ sm n f ≤ B * (n : Int) := by
  induction n with
  | zero => simp [sm]
  | succ n ih =>
    have h1 := ih (fun i hi => h i (by omega))
    have h2 := h n (by omega)
    rw [sm]
    have e : B * ((n + 1 : Nat) : Int) = B * (n : Int) + B := by rw [Int.natCast_succ]; grind
    rw [e]
    omega
def cfh (n1 : Nat) (f1 f2 : Nat → Nat → CV) : Nat → Nat → CV := joinF 1 (rowsF 1 [(.ro false (.pr (.int .i64) (.pr (.int .i64) .nil)) n1 f1)]) f2
theorem cfh_succ (n1 : Nat) (f1 f2 : Nat → Nat → CV) (j : Nat) : cfh n1 f1 f2 (j + 1) 0 = f2 j 0 := by
  unfold cfh
  rw [jn _ _ _ _ _ (by omega)]
  rfl
theorem cfh_valid {n1 n2 : Nat} {f1 f2 : Nat → Nat → CV} (S : VShape n1 f1 n2 f2) {j : Nat} (h : j < 1 + n2) : Valid (CV.len (cfh n1 f1 f2 j 0)) (CV.el (cfh n1 f1 f2 j 0)) := by
  cases j with
  | zero => exact S.outer
  | succ j => rw [cfh_succ]; exact (S.hole j (by omega)).valid
theorem sums18 {ρ : Type} (N a b : Nat) (F c d : Nat → Nat → CV) (hN : N ≤ 9) (hV : ∀ j, j < N → Valid (CV.len (F j 0)) (CV.el (F j 0))) (k : Int → Option ρ) : ∀ (m i : Nat), N < m + i → i ≤ N → L18v1 100 N F (Int.ofNat N) a c b d m (sm i (harea F)) (Int.ofNat i) k = k (sm N (harea F)) := by
  intro m
  induction m with
  | zero => intro i h1 h2; omega
  | succ m ih =>
    intro i h1 h2
    unfold L18v1
    rw [lt_nat, inb_nat, toNat_nat]
    by_cases h : i < N
    · obtain ⟨x, hx, _, hx'⟩ := area_law (CV.len (F i 0)) (CV.el (F i 0))
      have hb := sm_bd (f := harea F) (B := 68719476736) (i + 1) (fun j hj => area_bd (hV j (by omega)))
      rw [bif_t (decide_eq_true h), bif_t (decide_eq_true h), hx, ob_some, hx' (hV i h), w64_succ (by omega)]
      have e : sm i (harea F) + area (CV.len (F i 0)) (pt (CV.el (F i 0))) = sm (i + 1) (harea F) := rfl
      rw [e, w64_of (by omega) (by omega)]
      exact ih (i + 1) (by omega) (by omega)
    · rw [bif_f (decide_eq_false h)]
      have : i = N := by omega
      rw [this]
theorem area18 {n1 n2 : Nat} {f1 f2 : Nat → Nat → CV} (S : VShape n1 f1 n2 f2) : F18 100 n1 f1 n2 f2 = some (area n1 (pt f1) + sm n2 (harea f2)) := by
  have few := S.few
  unfold F18 D18
  obtain ⟨c, h1, _, h3⟩ := shape_law n1 n2 f1 f2
  have hc := h3.2 S
  subst hc
  have c42 : F42 100 n1 f1 n2 f2 = some (1 + n2, cfh n1 f1 f2) := by
    unfold F42 D42
    rw [bif_t (by rw [Nat.ble_eq]; omega)]
    rfl
  rw [h1, ob_some, bif_f (by simp), c42, ob_some]
  refine (sums18 (1 + n2) n1 n2 (cfh n1 f1 f2) f1 f2 (by omega) (fun j hj => cfh_valid S hj) (fun x => some x) 100 0 (by omega) (by omega)).trans ?_
  congr 1
  have e := sm_shift n2 (harea (cfh n1 f1 f2))
  have e2 : sm n2 (fun i => harea (cfh n1 f1 f2) (i + 1)) = sm n2 (harea f2) := sm_congr fun i hi => by unfold harea; rw [cfh_succ]
  have e3 : sm (1 + n2) (harea (cfh n1 f1 f2)) = sm n2 (harea (cfh n1 f1 f2)) + harea (cfh n1 f1 f2) n2 := by rw [Nat.add_comm]; rfl
  have e4 : harea (cfh n1 f1 f2) 0 = area n1 (pt f1) := rfl
  rw [e3, ← e, e2, e4]
  omega
theorem sm_skip (h : Nat → Int) : ∀ n i : Nat, i < n → sm (n - 1) (fun j => h (sk i j)) + h i = sm n h := by
  intro n
  induction n with
  | zero => intro i hi; omega
  | succ n ih =>
    intro i hi
    rw [Nat.add_sub_cancel]
    by_cases e : i = n
    · subst e
      rw [sm, sm_congr (g := h) fun j hj => by unfold sk; rw [if_pos hj]]
    · have h1 := ih i (by omega)
      obtain ⟨k, rfl⟩ : ∃ k, n = k + 1 := ⟨n - 1, by omega⟩
      rw [Nat.add_sub_cancel] at h1
      rw [sm, sm, ← h1, show sk i k = k + 1 from by unfold sk; rw [if_neg (by omega)]]
      omega

/-! places -/
theorem IsPlace.single {n : Nat} {f g : Nat → Nat → CV} {q : Pt} {z : Int} (h : IsPlace n f 0 g q z) : IsWhere n f q z := by
  obtain ⟨w, W, hw, _, _, _, h3⟩ := h
  rcases h3 with h | ⟨j, hj, _⟩
  · rw [h]; exact hw
  · omega
/-- what holds of a point in or on hole i -/
theorem hole_point {n1 n2 i : Nat} {f1 f2 : Nat → Nat → CV} (S : VShape n1 f1 n2 f2) (hi : i < n2) {q : Pt} (hq : ClosedC (CV.len (f2 i 0)) (CV.el (f2 i 0)) q) :
    InC n1 f1 q ∧ ∀ j, j < n2 → j ≠ i → OutC (CV.len (f2 j 0)) (CV.el (f2 j 0)) q := by
  have H := S.hole i hi
  have hb := H.valid.big
  constructor
  · obtain ⟨a, b⟩ := two_within (noTouch H.valid S.outer H.free) (H.inside 0 (by omega)).2 hq
    exact ⟨fun h => a (onK_C.1 h), b⟩
  · intro j hj hne
    have H' := S.hole j hj
    have ap : ¬ Touch (CV.len (f2 i 0)) (pt (CV.el (f2 i 0))) (CV.len (f2 j 0)) (pt (CV.el (f2 j 0))) ∧ OutC (CV.len (f2 i 0)) (CV.el (f2 i 0)) (pt (CV.el (f2 j 0)) 0) ∧ OutC (CV.len (f2 j 0)) (CV.el (f2 j 0)) (pt (CV.el (f2 i 0)) 0) := by
      rcases Nat.lt_or_ge j i with hlt | hge
      · exact S.apart i hi j hlt
      · obtain ⟨a, b, c⟩ := S.apart j hj i (by omega)
        exact ⟨fun h => a h.symm, c, b⟩
    have N := noTouch H.valid H'.valid ap.1
    have hn : ∀ h : ClosedC (CV.len (f2 j 0)) (CV.el (f2 j 0)) q, False := fun h => two_apart N ap.2.2.2 ap.2.1.2 hq h
    refine ⟨fun h => hn (.inr (onK_C.1 h)), ?_⟩
    cases hp : par (CV.len (f2 j 0)) (pt (CV.el (f2 j 0))) q with
    | false => rfl
    | true => exact (hn (.inl hp)).elim

theorem holes_point {n1 n2 i : Nat} {f1 f2 g h r : Nat → Nat → CV} (S : VShape n1 f1 n2 f2) (hi : i < n2) (hg : RestIs f2 i (n2 - 1) g) (e : ∀ j, j < CV.len (f2 i 0) → pt h j = pt (CV.el (f2 i 0)) (CV.len (f2 i 0) - 1 - j)) {q : Pt} {a b c : Int}
    (ha : IsPlace (CV.len (f2 i 0)) h 0 r q a) (hb : IsPlace n1 f1 (n2 - 1) g q b) (hc : IsPlace n1 f1 n2 f2 q c) : a = -1 ∨ (a = 1 ∧ b = 1 ∧ c = -1) ∨ (a = 0 ∧ b = 1 ∧ c = 0) := by
  have H := S.hole i hi
  have A := ha.single
  have Vh := rev_valid H.valid e
  by_cases hn : a = -1
  · exact .inl hn
  · have hr := A.range
    obtain ⟨hq, hcl⟩ := A.nonneg Vh (by omega)
    have hcl' : ClosedC (CV.len (f2 i 0)) (CV.el (f2 i 0)) q := by
      by_cases ho : OnK (CV.len (f2 i 0)) (pt (CV.el (f2 i 0))) q
      · exact .inr ho
      · rcases hcl with k | k
        · rw [rev_par H.valid e ho] at k; exact .inl k
        · exact .inr ((rev_onK H.valid e q).1 k)
    obtain ⟨p1, p2⟩ := hole_point S hi hcl'
    have hb1 : b = 1 := by
      obtain ⟨w, W, hw, hW, _, _, h3⟩ := hb
      rcases h3 with h | ⟨j, hj, h⟩
      · rw [h]; exact (hw.one S.outer hq).2 p1
      · have hV := (S.hole _ (sk_lt hi hj)).valid
        have o := p2 _ (sk_lt hi hj) sk_ne
        have hWj := hW j
        rw [(hg j hj).1, (hg j hj).2] at hWj
        have := (hWj.out hV hq).2 o
        have := hWj.range
        omega
    obtain ⟨w, W, hw, hW, _, c2, c3⟩ := hc
    have w1 : w = 1 := (hw.one S.outer hq).2 p1
    have Wj : ∀ j, j < n2 → j ≠ i → W j = -1 := fun j hj hne => by
      have := ((hW j).out (S.hole j hj).valid hq).2 (p2 j hj hne)
      have := (hW j).range
      omega
    have hWi := (hW i).range
    by_cases ho : OnK (CV.len (f2 i 0)) (pt (CV.el (f2 i 0))) q
    · have a0 : a = 0 := by
        rcases A.val Vh hq with ⟨_, k⟩ | ⟨k, _⟩ | ⟨_, k⟩
        · exact absurd (onK_C.2 ((rev_onK H.valid e q).2 ho)) k.1
        · exact k
        · exact absurd (onK_C.2 ((rev_onK H.valid e q).2 ho)) k.1
      have W0 : W i = 0 := by
        rcases (hW i).val H.valid hq with ⟨_, k⟩ | ⟨k, _⟩ | ⟨_, k⟩
        · exact absurd (onK_C.2 ho) k.1
        · exact k
        · exact absurd (onK_C.2 ho) k.1
      refine .inr (.inr ⟨a0, hb1, ?_⟩)
      have := c2 i hi
      rcases c3 with h | ⟨j, hj, h⟩
      · omega
      · by_cases ej : j = i
        · rw [ej] at h; omega
        · have := Wj j hj ej; omega
    · have hp : par (CV.len (f2 i 0)) (pt (CV.el (f2 i 0))) q = true := hcl'.resolve_right ho
      have W1 : W i = 1 := ((hW i).one H.valid hq).2 ⟨fun k => ho (onK_C.1 k), hp⟩
      have a1 : a = 1 := (A.one Vh hq).2 ⟨fun k => ho ((rev_onK H.valid e q).1 (onK_C.1 k)), by rw [rev_par H.valid e ho]; exact hp⟩
      refine .inr (.inl ⟨a1, hb1, ?_⟩)
      have := c2 i hi
      rcases c3 with h | ⟨j, hj, h⟩
      · omega
      · by_cases ej : j = i
        · rw [ej] at h; omega
        · have := Wj j hj ej; omega

/-- what follows the two loops -/
def K30 (n1 : Nat) (f1 : Nat → Nat → CV) (n2 : Nat) (f2 : Nat → Nat → CV) (qx qy : Int) (x30 : Nat) (x31 : Nat → Nat → CV) : Nat → (Nat → Nat → CV) → Option Bool :=
  (fun x56 x57 => (ob (F13 100 n1 f1 x30 x31) fun x58 => (bif ((x58 != 0) == false) then (ob (F13 100 x56 x57 0 (fun _ _ => .any)) fun x59 => (bif ((x59 != 0) == false) then (ob (F18 100 n1 f1 x30 x31) fun x60 => (ob (F18 100 n1 f1 n2 f2) fun x61 => (ob (F18 100 x56 x57 0 (fun _ _ => .any)) fun x62 => (bif (x60 != (w64 (x61 + x62))) then (some false) else (ob (F22 100 x56 x57 0 (fun _ _ => .any) qx qy) fun x63 => (bif ((decide (x63 < 0)) == false) then (ob (F22 100 n1 f1 x30 x31 qx qy) fun x64 => (bif ((x64 == 1) == true) then (bif ((decide (x63 ≤ 0)) == false) then (ob (F22 100 n1 f1 n2 f2 qx qy) fun x65 => (bif ((x65 == (-1)) == true) then (bif ((x63 != 0) == false) then (ob (F22 100 n1 f1 n2 f2 qx qy) fun x66 => (bif ((x66 == 0) == true) then (ob (F15 100) fun x67 => (some x67)) else (some false))) else (ob (F15 100) fun x68 => (some x68))) else (some false))) else (bif ((x63 != 0) == false) then (ob (F22 100 n1 f1 n2 f2 qx qy) fun x69 => (bif ((x69 == 0) == true) then (ob (F15 100) fun x70 => (some x70)) else (some false))) else (ob (F15 100) fun x71 => (some x71)))) else (some false))) else (bif ((decide (x63 ≤ 0)) == false) then (ob (F22 100 n1 f1 n2 f2 qx qy) fun x72 => (bif ((x72 == (-1)) == true) then (bif ((x63 != 0) == false) then (ob (F22 100 n1 f1 n2 f2 qx qy) fun x73 => (bif ((x73 == 0) == true) then (ob (F15 100) fun x74 => (some x74)) else (some false))) else (ob (F15 100) fun x75 => (some x75))) else (some false))) else (bif ((x63 != 0) == false) then (ob (F22 100 n1 f1 n2 f2 qx qy) fun x76 => (bif ((x76 == 0) == true) then (ob (F15 100) fun x77 => (some x77)) else (some false))) else (ob (F15 100) fun x78 => (some x78)))))))))) else (some false))) else (some false))))
theorem holes_law (n1 : Nat) (f1 : Nat → Nat → CV) (n2 : Nat) (f2 : Nat → Nat → CV) (_ : ShapeIn n1 f1 n2 f2) (x : Int) (_ : I64 x) (qx qy : Int) (_ : I64 qx) (_ : I64 qy) : F11 100 n1 f1 n2 f2 x qx qy = some true := by
  unfold F11 D11
  rcases great_law n1 n2 f1 f2 with k | ⟨k, _, _, _⟩
  · rw [k, ob_some, bif_f (by simp), alive_law, ob_some]
  · obtain ⟨c, c1, _, c3⟩ := shape_law n1 n2 f1 f2
    rw [k, ob_some, bif_t (by simp), c1, ob_some]
    by_cases hc : c = 0
    · have S := c3.1 hc
      have few := S.few
      subst hc
      rw [bif_t (by simp)]
      by_cases h0 : x < 0
      · rw [bif_f (by rw [decide_eq_true h0]; rfl), alive_law, ob_some]
      · rw [bif_t (by rw [decide_eq_false h0]; rfl)]
        by_cases h1 : x ≥ Int.ofNat n2
        · rw [bif_t (decide_eq_true h1), alive_law, ob_some]
        · rw [bif_f (decide_eq_false h1)]
          obtain ⟨i, rfl⟩ := Int.eq_ofNat_of_zero_le (show 0 ≤ x by omega)
          have hi : i < n2 := by simp at h1; omega
          have H := S.hole i hi
          have hs := H.valid.small
          have hb := H.valid.big
          rw [show ((i : Nat) : Int) = Int.ofNat i from rfl, show (0 : Int) = Int.ofNat 0 from rfl]
          obtain ⟨g, e1, hg⟩ := rest_loop i n1 n2 f1 f2 qx qy few hi (fun x30 x31 => (bif (inb (Int.ofNat i) n2) then (L11v2 100 (Int.ofNat i) n1 f1 n2 f2 qx qy x30 x31 100 (w64 ((Int.ofNat (CV.len (f2 (Int.toNat (Int.ofNat i)) 0))) - 1)) 0 (fun _ _ => .any) (K30 n1 f1 n2 f2 qx qy x30 x31)) else none)) 100 0 0 (fun _ _ => .any) (by omega) (by omega) (by simp) (fun j hj => by omega)
          refine e1.trans ?_
          rw [inb_nat, toNat_nat, bif_t (decide_eq_true hi), w64_of (n := Int.ofNat _ - 1) (by simp; omega) (by simp; omega)]
          obtain ⟨h, e2, hh⟩ := turned_loop i n1 n2 (n2 - 1) f1 f2 g qx qy hi hs (K30 n1 f1 n2 f2 qx qy (n2 - 1) g) 100 (CV.len (f2 i 0)) 0 (fun _ _ => .any) (by omega) (by omega) (fun j hj => by omega)
          refine (e2 : _).trans ?_
          have R := rest_valid S hi hg
          have T : VShape (CV.len (f2 i 0)) h 0 (fun _ _ => .any) := rev_shape H hh
          obtain ⟨d, d1, _, d3⟩ := shape_law n1 (n2 - 1) f1 g
          obtain ⟨t, t1, _, t3⟩ := shape_law (CV.len (f2 i 0)) 0 h (fun _ _ => .any)
          have hd := d3.2 R
          have ht := t3.2 T
          subst hd
          subst ht
          obtain ⟨za, a1, _, a3⟩ := place_full (CV.len (f2 i 0)) h 0 (fun _ _ => .any) qx qy
          obtain ⟨zb, b1, _, b3⟩ := place_full n1 f1 (n2 - 1) g qx qy
          obtain ⟨zc, p1, _, p3⟩ := place_full n1 f1 n2 f2 qx qy
          have hz := holes_point S hi hg hh (a3 T) (b3 R) (p3 S)
          have esum : area n1 (pt f1) + sm (n2 - 1) (harea g) = w64 (area n1 (pt f1) + sm n2 (harea f2) + (area (CV.len (f2 i 0)) (pt h) + sm 0 (harea (fun _ _ => .any)))) := by
            have q1 := sm_skip (harea f2) n2 i hi
            have q2 : sm (n2 - 1) (harea g) = sm (n2 - 1) (fun j => harea f2 (sk i j)) := sm_congr fun j hj => by unfold harea; rw [(hg j hj).1, (hg j hj).2]
            have q3 := rev_area H.valid hh
            have q4 : harea f2 i = area (CV.len (f2 i 0)) (pt (CV.el (f2 i 0))) := rfl
            have q5 : sm 0 (harea (fun _ _ => .any)) = 0 := rfl
            have b1 := area_bd S.outer
            have b2 := sm_bd (f := harea f2) (B := 68719476736) n2 (fun j hj => area_bd (S.hole j hj).valid)
            have b3 := area_bd H.valid
            rw [w64_of (by omega) (by omega)]
            omega
          unfold K30
          rw [d1, t1, area18 R, area18 S, area18 T, a1, b1, p1]
          simp only [ob_some, alive_law]
          rw [bif_t (by simp), bif_t (by simp), bif_f (by rw [esum]; simp)]
          rcases hz with rfl | ⟨rfl, rfl, rfl⟩ | ⟨rfl, rfl, rfl⟩ <;> rfl
    · rw [bif_f (by simpa using hc), alive_law, ob_some]
end Go.Eng.R13
