/-
  Closed contours by their levels, part 3: the area is not zero. Lines over segments.
-/
import Derived.Test.YtnpgipmbionmgaaGeo1
import Derived.Test.YtnpgipmbionmgaaGeo4
set_option linter.all false
namespace Geo
section
variable {n : Nat} {L : Lev n}

theorem psum (c σ : Int) (S : Nat) : ∀ m : Nat, sm m (fun s => c + σ * (2 * ((s : Int) - S) + 1)) = c * m + σ * ((m : Int) * m - 2 * S * m)
  | 0 => by simp [sm]
  | m + 1 => by
    rw [sm, psum c σ S m]
    grind
theorem cut (S : Nat) (q : Int) (h1 : -(S : Int) ≤ q) (h2 : q ≤ S) (f : Nat → Int) : sm (2 * S) (fun s => (if 2 * ((s : Int) - S) + 1 < 2 * q then 1 else 0) * f s) = sm (q + S).toNat f := by
  have a : ∀ m : Nat, (m : Int) ≤ q + S → sm m (fun s => (if 2 * ((s : Int) - S) + 1 < 2 * q then 1 else 0) * f s) = sm m f := by
    intro m hm
    exact sm_congr fun i hi => by rw [if_pos (by omega)]; omega
  have b : ∀ (d m : Nat), q + S ≤ m → sm (m + d) (fun s => (if 2 * ((s : Int) - S) + 1 < 2 * q then 1 else 0) * f s) = sm m (fun s => (if 2 * ((s : Int) - S) + 1 < 2 * q then 1 else 0) * f s) := by
    intro d
    induction d with
    | zero => intro m _; rfl
    | succ d ih =>
      intro m h
      rw [← Nat.add_assoc, sm, ih m h, if_neg (by omega)]; omega
  have h3 := a (q + S).toNat (by omega)
  have h4 := b (2 * S - (q + S).toNat) (q + S).toNat (by omega)
  rw [show (q + S).toNat + (2 * S - (q + S).toNat) = 2 * S from by omega] at h4
  rw [h4, h3]

theorem Lev.edge_area (F : L.Fine) {e : Nat} (he : e < n) (S : Nat) (hS : ∀ i, i < n → -(2 * S : Int) ≤ L.H i ∧ L.H i ≤ 2 * S) :
    4 * sm (2 * S) (fun s => L.da e (2 * ((s : Int) - S) + 1) * L.X e (2 * ((s : Int) - S) + 1)) = (L.H (nx n e) - L.H e) * (L.V e + L.V (nx n e)) := by
  have hx : nx n e < n := nx_lt F.big
  obtain ⟨c, σ, hX⟩ := F.aff e he
  obtain ⟨q0, h0⟩ := F.even e
  obtain ⟨q1, h1⟩ := F.even (nx n e)
  have b0 := hS e he
  have b1 := hS _ hx
  have e1 : sm (2 * S) (fun s => L.da e (2 * ((s : Int) - S) + 1) * L.X e (2 * ((s : Int) - S) + 1)) =
      sm (2 * S) (fun s => (if 2 * ((s : Int) - S) + 1 < 2 * q1 then 1 else 0) * (c + σ * (2 * ((s : Int) - S) + 1))) - sm (2 * S) (fun s => (if 2 * ((s : Int) - S) + 1 < 2 * q0 then 1 else 0) * (c + σ * (2 * ((s : Int) - S) + 1))) := by
    rw [← sm_sub]
    refine sm_congr fun s _ => ?_
    unfold Lev.da Lev.g
    rw [hX, h0, h1]
    split <;> split <;> omega
  have s0 := F.start e he
  have s1 := F.stop e he
  rw [hX, h0] at s0
  rw [hX, h1] at s1
  rw [e1, cut S q1 (by omega) (by omega), cut S q0 (by omega) (by omega), psum, psum, ← s0, ← s1, h0, h1]
  have t1 : ((q1 + S).toNat : Int) = q1 + S := by omega
  have t0 : ((q0 + S).toNat : Int) = q0 + S := by omega
  rw [t1, t0]
  grind

/-- THE AREA OF A CONTOUR THAT NOWHERE MEETS ITSELF IS NOT ZERO. -/
theorem Lev.area_ne (F : L.Fine) : sm n (fun e => (L.H (nx n e) - L.H e) * (L.V e + L.V (nx n e))) ≠ 0 := by
  obtain ⟨c, hc⟩ := L.all_round F
  have hb := F.big
  obtain ⟨S, hS⟩ : ∃ S : Nat, ∀ e, e < n → -(2 * S : Int) ≤ L.H e ∧ L.H e ≤ 2 * S := by
    have : ∀ m : Nat, ∃ S : Nat, ∀ e, e < m → -(2 * S : Int) ≤ L.H e ∧ L.H e ≤ 2 * S := by
      intro m
      induction m with
      | zero => exact ⟨0, fun e h => by omega⟩
      | succ m ih =>
        obtain ⟨B, hB⟩ := ih
        refine ⟨B + (L.H m).natAbs, fun e he => ?_⟩
        by_cases h : e = m
        · subst h; omega
        · have := hB e (by omega); omega
    exact this n
  have e1 : sm n (fun e => (L.H (nx n e) - L.H e) * (L.V e + L.V (nx n e))) = 4 * sm (2 * S) (fun s => sm n fun e => L.da e (2 * ((s : Int) - S) + 1) * L.X e (2 * ((s : Int) - S) + 1)) := by
    rw [← sm_swap n (2 * S) (fun e s => L.da e (2 * ((s : Int) - S) + 1) * L.X e (2 * ((s : Int) - S) + 1)), ← sm_mul]
    exact sm_congr fun e he => (L.edge_area F he S hS).symm
  rw [e1]
  -- a level that edge 0 passes
  obtain ⟨k, _, hk, _⟩ := L.round F (e := 0) (by omega)
  have hx : nx n 0 < n := nx_lt hb
  obtain ⟨q0, h0⟩ := F.even 0
  obtain ⟨q1, h1⟩ := F.even (nx n 0)
  have b0 := hS 0 (by omega)
  have b1 := hS _ hx
  have hd : L.da 0 (2 * k + 1) ≠ 0 := by
    unfold Lev.rng at hk
    unfold Lev.da Lev.g
    split <;> split <;> omega
  have hks : ((k + S).toNat : Int) - S = k := by unfold Lev.rng at hk; omega
  have hlt : (k + S).toNat < 2 * S := by unfold Lev.rng at hk; omega
  obtain ⟨hc01, hne⟩ := (L.level_pos F hc k).2.2 ⟨0, by omega, hd⟩
  have lev := fun s : Nat => L.level_pos F hc ((s : Int) - S)
  rcases hc01 with h | h
  · have hneg : sm n (fun e => L.da e (2 * k + 1) * L.X e (2 * k + 1)) < 0 := by
      have := (L.level_pos F hc k).2.1 h
      omega
    have hp : 0 < sm (2 * S) (fun s => 0 - sm n fun e => L.da e (2 * ((s : Int) - S) + 1) * L.X e (2 * ((s : Int) - S) + 1)) := by
      refine sm_pos (k := (k + S).toNat) (fun s _ => ?_) hlt ?_
      · have := (lev s).2.1 h
        omega
      · rw [hks]; omega
    rw [sm_sub, sm_zero] at hp
    omega
  · have hpos : 0 < sm n (fun e => L.da e (2 * k + 1) * L.X e (2 * k + 1)) := by
      have := (L.level_pos F hc k).1 h
      omega
    have hp : 0 < sm (2 * S) (fun s => sm n fun e => L.da e (2 * ((s : Int) - S) + 1) * L.X e (2 * ((s : Int) - S) + 1)) := by
      refine sm_pos (k := (k + S).toNat) (fun s _ => (lev s).1 h) hlt ?_
      rw [hks]; exact hpos
    omega
end

/-! lines over segments: the place at each height, M-fold -/
structure Line (α β M : Int) (a b : Pt) (N : Int → Int) : Prop where
  aff : ∃ c s, ∀ t, N t = c + s * t
  fst : N (ht α β a) = M * a.1
  snd : N (ht α β b) = M * b.1

section
variable {α β M : Int} {a b u v : Pt} {N O : Int → Int}
theorem Line.swap (h : Line α β M a b N) : Line α β M b a N := ⟨h.aff, h.snd, h.fst⟩

theorem Line.cross (h : Line α β M a b N) (q : Pt) : (ht α β b - ht α β a) * (M * q.1 - N (ht α β q)) = - (M * β) * cross a b q := by
  obtain ⟨⟨c, s, hN⟩, h1, h2⟩ := h
  rw [hN] at h1 h2 ⊢
  unfold Geo.cross
  have e : s * (ht α β b - ht α β a) = M * (b.1 - a.1) := by grind
  have e2 : (ht α β b - ht α β a) * (c + s * ht α β q) = (ht α β b - ht α β a) * (M * a.1) + M * (b.1 - a.1) * (ht α β q - ht α β a) := by grind
  unfold ht at *
  grind

theorem order_up (hM : 0 < M) (hβ : 0 < β) (hN : Line α β M a b N) (hO : Line α β M u v O) (hab : ht α β a < ht α β b) (huv : ht α β u < ht α β v) (hn : ¬ Meet a b u v) {t t' : Int}
    (h1 : ht α β a ≤ t ∧ t ≤ ht α β b) (h2 : ht α β u ≤ t ∧ t ≤ ht α β v) (h3 : ht α β a ≤ t' ∧ t' ≤ ht α β b) (h4 : ht α β u ≤ t' ∧ t' ≤ ht α β v) : ¬ (O t ≤ N t ∧ N t' ≤ O t') := by
  rintro ⟨g1, g2⟩
  obtain ⟨c1, s1, e1⟩ := hN.aff
  obtain ⟨c2, s2, e2⟩ := hO.aff
  have cu := hN.cross u
  have cv := hN.cross v
  have ca := hO.cross a
  have cb := hO.cross b
  rw [← hO.fst] at cu
  rw [← hO.snd] at cv
  rw [← hN.fst] at ca
  rw [← hN.snd] at cb
  have hMβ : 0 < M * β := Int.mul_pos hM hβ
  -- the difference
  have D : ∀ x, O x - N x = (c2 - c1) + (s2 - s1) * x := fun x => by rw [e1, e2]; grind
  have zero : ∀ {d y z : Int}, d * y = - (M * β) * z → y = 0 → z = 0 := by
    intro d y z h hy
    rw [hy] at h
    have h0 : (M * β) * z = 0 := by grind
    rcases Int.mul_eq_zero.1 h0 with h' | h'
    · omega
    · exact h'
  have pos : ∀ {d y z : Int}, 0 < d → d * y = - (M * β) * z → 0 < y → z < 0 := by
    intro d y z hd h hy
    have : 0 < d * y := Int.mul_pos hd hy
    have h0 : z * (M * β) < 0 := by grind
    exact neg_of hMβ h0
  have neg : ∀ {d y z : Int}, 0 < d → d * y = - (M * β) * z → y < 0 → 0 < z := by
    intro d y z hd h hy
    have : 0 < d * (-y) := Int.mul_pos hd (by omega)
    have h0 : 0 < z * (M * β) := by grind
    exact pos_of hMβ h0
  have du : ∀ x, O (ht α β x) - N (ht α β x) = (c2 - c1) + (s2 - s1) * ht α β x := fun x => D _
  have Dt := D t
  have Dt' := D t'
  rcases Int.lt_trichotomy 0 (s2 - s1) with hs | hs | hs
  · have mono : ∀ x y, x ≤ y → O x - N x ≤ O y - N y := fun x y hxy => by
      rw [D, D]
      have := Int.mul_le_mul_of_nonneg_left hxy (Int.le_of_lt hs)
      omega
    have strict : ∀ x y, x ≤ y → O x - N x = O y - N y → x = y := fun x y hxy he => by
      rw [D, D] at he
      have h0 : (s2 - s1) * (y - x) = 0 := by grind
      rcases Int.mul_eq_zero.1 h0 with h' | h' <;> omega
    have mu := mono _ _ h2.1
    have ma := mono _ _ h1.1
    have mv := mono _ _ h4.2
    have mb := mono _ _ h3.2
    by_cases zu : O (ht α β u) - N (ht α β u) = 0
    · have := strict _ _ h2.1 (by omega)
      exact hn (.inl (on_of (zero cu zu) (by omega) (by omega) hab))
    · by_cases zv : O (ht α β v) - N (ht α β v) = 0
      · have := strict _ _ h4.2 (by omega)
        exact hn (.inr (.inl (on_of (zero cv zv) (by omega) (by omega) hab)))
      · by_cases za : O (ht α β a) - N (ht α β a) = 0
        · have := strict _ _ h1.1 (by omega)
          exact hn (.inr (.inr (.inl (on_of (zero ca (by omega)) (by omega) (by omega) huv))))
        · by_cases zb : O (ht α β b) - N (ht α β b) = 0
          · have := strict _ _ h3.2 (by omega)
            exact hn (.inr (.inr (.inr (.inl (on_of (zero cb (by omega)) (by omega) (by omega) huv)))))
          · exact hn (.inr (.inr (.inr (.inr ⟨.inr ⟨neg (by omega) cu (by omega), pos (by omega) cv (by omega)⟩, .inl ⟨pos (by omega) ca (by omega), neg (by omega) cb (by omega)⟩⟩))))
  · have z : ∀ x, O x - N x = c2 - c1 := fun x => by rw [D, ← hs]; omega
    have zt := z t
    have zt' := z t'
    by_cases h : ht α β a ≤ ht α β u
    · exact hn (.inl (on_of (zero cu (by rw [z]; omega)) h (by omega) hab))
    · exact hn (.inr (.inr (.inl (on_of (zero ca (by have := z (ht α β a); omega)) (by omega) (by omega) huv))))
  · have mono : ∀ x y, x ≤ y → O y - N y ≤ O x - N x := fun x y hxy => by
      rw [D, D]
      have := Int.mul_le_mul_of_nonneg_left hxy (show 0 ≤ -(s2 - s1) by omega)
      grind
    have strict : ∀ x y, x ≤ y → O x - N x = O y - N y → x = y := fun x y hxy he => by
      rw [D, D] at he
      have h0 : (s2 - s1) * (y - x) = 0 := by grind
      rcases Int.mul_eq_zero.1 h0 with h' | h' <;> omega
    have mu := mono _ _ h4.1
    have ma := mono _ _ h3.1
    have mv := mono _ _ h2.2
    have mb := mono _ _ h1.2
    by_cases zu : O (ht α β u) - N (ht α β u) = 0
    · have := strict _ _ h4.1 (by omega)
      exact hn (.inl (on_of (zero cu zu) (by omega) (by omega) hab))
    · by_cases zv : O (ht α β v) - N (ht α β v) = 0
      · have := strict _ _ h2.2 (by omega)
        exact hn (.inr (.inl (on_of (zero cv zv) (by omega) (by omega) hab)))
      · by_cases za : O (ht α β a) - N (ht α β a) = 0
        · have := strict _ _ h3.1 (by omega)
          exact hn (.inr (.inr (.inl (on_of (zero ca (by omega)) (by omega) (by omega) huv))))
        · by_cases zb : O (ht α β b) - N (ht α β b) = 0
          · have := strict _ _ h1.2 (by omega)
            exact hn (.inr (.inr (.inr (.inl (on_of (zero cb (by omega)) (by omega) (by omega) huv)))))
          · exact hn (.inr (.inr (.inr (.inr ⟨.inl ⟨pos (by omega) cu (by omega), neg (by omega) cv (by omega)⟩, .inr ⟨neg (by omega) ca (by omega), pos (by omega) cb (by omega)⟩⟩))))

def rngP (α β : Int) (a b : Pt) (t : Int) : Prop := (ht α β a ≤ t ∧ t ≤ ht α β b) ∨ (ht α β b ≤ t ∧ t ≤ ht α β a)

theorem order_apart (hM : 0 < M) (hβ : 0 < β) (hN : Line α β M a b N) (hO : Line α β M u v O) (hab : ht α β a ≠ ht α β b) (huv : ht α β u ≠ ht α β v) (hn : ¬ Meet a b u v) {t t' : Int}
    (h1 : rngP α β a b t) (h2 : rngP α β u v t) (h3 : rngP α β a b t') (h4 : rngP α β u v t') : (N t < O t ∧ N t' < O t') ∨ (O t < N t ∧ O t' < N t') := by
  have key : ∀ {s s' : Int}, rngP α β a b s → rngP α β u v s → rngP α β a b s' → rngP α β u v s' → ¬ (O s ≤ N s ∧ N s' ≤ O s') := by
    intro s s' h1 h2 h3 h4
    unfold rngP at *
    rcases Int.lt_or_lt_of_ne hab with g | g <;> rcases Int.lt_or_lt_of_ne huv with g' | g'
    · exact order_up hM hβ hN hO g g' hn (by omega) (by omega) (by omega) (by omega)
    · exact order_up hM hβ hN hO.swap g g' (fun h => hn h.symm.swap.symm) (by omega) (by omega) (by omega) (by omega)
    · exact order_up hM hβ hN.swap hO g g' (fun h => hn h.swap) (by omega) (by omega) (by omega) (by omega)
    · exact order_up hM hβ hN.swap hO.swap g g' (fun h => hn h.swap.symm.swap.symm) (by omega) (by omega) (by omega) (by omega)
  have k1 := key h1 h2 h3 h4
  have k2 := key h3 h4 h1 h2
  have k3 := key h1 h2 h1 h2
  have k4 := key h3 h4 h3 h4
  omega

theorem order_corner (hM : 0 < M) (hβ : 0 < β) (hN : Line α β M a b N) (hO : Line α β M b v O) (hab : ht α β a ≠ ht α β b) (hbv : ht α β b ≠ ht α β v) (hn1 : ¬ On v a b) (hn2 : ¬ On a b v) {t t' : Int}
    (h1 : rngP α β a b t) (h2 : rngP α β b v t) (h3 : rngP α β a b t') (h4 : rngP α β b v t') (ht1 : t ≠ ht α β b) (ht2 : t' ≠ ht α β b) : (N t < O t ∧ N t' < O t') ∨ (O t < N t ∧ O t' < N t') := by
  obtain ⟨c1, s1, e1⟩ := hN.aff
  obtain ⟨c2, s2, e2⟩ := hO.aff
  have hMβ : 0 < M * β := Int.mul_pos hM hβ
  have hb : N (ht α β b) = O (ht α β b) := hN.snd.trans hO.fst.symm
  have D : ∀ x, O x - N x = (s2 - s1) * (x - ht α β b) := fun x => by
    rw [e1, e2] at hb
    rw [e1, e2]; grind
  have cv := hN.cross v
  rw [← hO.snd] at cv
  by_cases hs : s2 - s1 = 0
  · exfalso
    have hz : O (ht α β v) - N (ht α β v) = 0 := by rw [D, hs]; omega
    rw [hz] at cv
    have h0 : (M * β) * cross a b v = 0 := by grind
    have hc : cross a b v = 0 := by
      rcases Int.mul_eq_zero.1 h0 with h' | h'
      · omega
      · exact h'
    have hc2 : cross b v a = 0 := by rw [cross_rot]; exact hc
    unfold rngP at *
    by_cases hlt : t < ht α β b
    · by_cases hav : ht α β a ≤ ht α β v
      · exact hn1 (on_of hc hav (by omega) (by omega))
      · refine hn2 (On.swap (on_of (α := α) (β := β) ?_ (by omega) (by omega) (by omega)))
        rw [cross_swap, hc2]; rfl
    · by_cases hav : ht α β a ≤ ht α β v
      · exact hn2 (on_of (α := α) (β := β) hc2 (by omega) (by omega) (by omega))
      · refine hn1 (On.swap (on_of (α := α) (β := β) ?_ (by omega) (by omega) (by omega)))
        rw [cross_swap, hc]; rfl
  · have same : (t < ht α β b ∧ t' < ht α β b) ∨ (ht α β b < t ∧ ht α β b < t') := by unfold rngP at *; omega
    have Dt := D t
    have Dt' := D t'
    have sg : ∀ x, x < ht α β b → (0 < s2 - s1 → O x < N x) ∧ (s2 - s1 < 0 → N x < O x) := by
      intro x hx
      have Dx := D x
      refine ⟨fun h => ?_, fun h => ?_⟩
      · have : 0 < (s2 - s1) * (ht α β b - x) := Int.mul_pos h (by omega)
        grind
      · have : 0 < (-(s2 - s1)) * (ht α β b - x) := Int.mul_pos (by omega) (by omega)
        grind
    have sg' : ∀ x, ht α β b < x → (0 < s2 - s1 → N x < O x) ∧ (s2 - s1 < 0 → O x < N x) := by
      intro x hx
      have Dx := D x
      refine ⟨fun h => ?_, fun h => ?_⟩
      · have : 0 < (s2 - s1) * (x - ht α β b) := Int.mul_pos h (by omega)
        grind
      · have : 0 < (-(s2 - s1)) * (x - ht α β b) := Int.mul_pos (by omega) (by omega)
        grind
    rcases Int.lt_or_lt_of_ne hs with h | h <;> rcases same with ⟨g1, g2⟩ | ⟨g1, g2⟩
    · exact .inl ⟨(sg t g1).2 h, (sg t' g2).2 h⟩
    · exact .inr ⟨(sg' t g1).2 h, (sg' t' g2).2 h⟩
    · exact .inr ⟨(sg t g1).1 h, (sg t' g2).1 h⟩
    · exact .inl ⟨(sg' t g1).1 h, (sg' t' g2).1 h⟩
end
end Geo
