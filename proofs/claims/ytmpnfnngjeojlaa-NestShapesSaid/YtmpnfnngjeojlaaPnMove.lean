/-
 Several texts in one.
-/
import Derived.Test.YtmpnfnngjeojlaaEngV
import Derived.Test.YtmpnfnngjeojlaaGeo6
import Derived.Test.YtmpnfnngjeojlaaPlApart
/-
 Nest: a part at a spot, as the program and as the reference move it; shapes of equal points.
-/
set_option linter.all false
namespace Go.Eng.R13
open Go Go.RowKit Go.Eng Geo
structure Mv (T : Pt → Pt) (n1 : Nat) (f1 : Nat → Nat → CV) (n2 : Nat) (f2 g1 g2 : Nat → Nat → CV) : Prop where
 fit : Rigid 1 T
 outer : ∀ j, j < n1 → pt g1 j = T (pt f1 j)
 len : ∀ j, j < n2 → CV.len (g2 j 0) = CV.len (f2 j 0)
 hole : ∀ j, j < n2 → ∀ i, i < CV.len (f2 j 0) → pt (CV.el (g2 j 0)) i = T (pt (CV.el (f2 j 0)) i)
def Small (n1 : Nat) (n2 : Nat) (f2 : Nat → Nat → CV) : Prop := n1 ≤ 40 ∧ n2 ≤ 12 ∧ ∀ j, j < n2 → CV.len (f2 j 0) ≤ 40
structure MovedTo (s : ByteArray) (tx ty : Int) (turn : Int) (fl : Bool) (n1 : Nat) (f1 : Nat → Nat → CV) (n2 : Nat) (f2 : Nat → Nat → CV) (a : Nat) (c : Nat → Nat → CV) (b : Nat) (d : Nat → Nat → CV) : Prop where
 small : Small a b d
 size : a ≤ n1 ∧ b ≤ n2
 all : ∀ t : Nat, turn = Int.ofNat t → t ≤ 3 → ¬ (farB tx ty = true ∨ FarC (1 + n2) (cfh n1 f1 f2) 0) → a = n1 ∧ b = n2 ∧ Are (cq fl t tx ty n1 f1) c n1 ∧ Holes fl t tx ty f2 d n2
 none : (turn < 0 ∨ 3 < turn ∨ farB tx ty = true ∨ FarC (1 + n2) (cfh n1 f1 f2) 0) → a = 0 ∧ b = 0
theorem are_are {P : Nat → Int × Int} {f g : Nat → Nat → CV} {n : Nat} (h : Are P f n) (h' : Are P g n) : ∀ j, j < n → pt g j = pt f j := fun j hj => (are_pt h' j hj).trans (are_pt h j hj).symm
theorem move_eq (n1 n2 : Nat) (f1 f2 : Nat → Nat → CV) (s : ByteArray) (tx ty turn : Int) (fl : Bool) (S : Small n1 n2 f2) : ∃ a c b d c' d',
  F25 100 n1 f1 n2 f2 s tx ty turn fl = some (a, c, b, d) ∧ F26 100 n1 f1 n2 f2 s tx ty turn fl = some (a, c', b, d') ∧ Mv (fun p => p) a c b d c' d' ∧ MovedTo s tx ty turn fl n1 f1 n2 f2 a c b d := by
 obtain ⟨hn1, hn2, hh⟩ := S
 have nothing : ∀ c d : Nat → Nat → CV, Mv (fun p => p) 0 c 0 d (fun _ _ => .any) (fun _ _ => .any) := fun c d => ⟨rigid_id, fun j hj => by omega, fun j hj => by omega, fun j hj => by omega⟩
 have hN : 1 + n2 ≤ 13 := by omega
 have hl : ∀ j, j < 1 + n2 → CV.len (joinF 1 (rowsF 1 [(.ro false (.pr (.int .i64) (.pr (.int .i64) .nil)) n1 f1)]) f2 j 0) ≤ 40 := by
  intro j hj
  by_cases e : j < 1
  ·have : j = 0 := by omega
   subst this
   rw [joinF_old _ _ _ _ _ (by omega)]
   exact hn1
  ·rw [joinF_new _ _ _ _ _ (by omega)]
   exact hh _ (by omega)
 have c42 : F42 100 n1 f1 n2 f2 = some (1 + n2, joinF 1 (rowsF 1 [(.ro false (.pr (.int .i64) (.pr (.int .i64) .nil)) n1 f1)]) f2) := by
  unfold F42
  rw [bif_t (ble_ok (by omega))]
 have c44 : F44 100 n1 f1 n2 f2 = some (1 + n2, joinF 1 (rowsF 1 [(.ro false (.pr (.int .i64) (.pr (.int .i64) .nil)) n1 f1)]) f2) := c42
 have hcf : cfh n1 f1 f2 = joinF 1 (rowsF 1 [(.ro false (.pr (.int .i64) (.pr (.int .i64) .nil)) n1 f1)]) f2 := rfl
 have nomove : (turn < 0 ∨ 3 < turn ∨ farB tx ty = true ∨ FarC (1 + n2) (cfh n1 f1 f2) 0) → ∀ c d, MovedTo s tx ty turn fl n1 f1 n2 f2 0 c 0 d := fun h c d =>
  ⟨⟨by omega, by omega, fun j hj => by omega⟩, ⟨by omega, by omega⟩, fun t e1 e2 e3 => by
   rcases h with k | k | k
   ·rw [e1] at k; simp at k; omega
   ·rw [e1] at k; simp at k; omega
   ·exact absurd k e3, fun _ => ⟨rfl, rfl⟩⟩
 rw [hcf] at nomove
 generalize hF : joinF 1 (rowsF 1 [(.ro false (.pr (.int .i64) (.pr (.int .i64) .nil)) n1 f1)]) f2 = F at hl c42 c44 nomove hcf
 generalize hNN : 1 + n2 = N at hN hl c42 c44 nomove
 by_cases ht1 : turn < 0
 ·refine ⟨0, (fun _ _ => .any), 0, (fun _ _ => .any), _, _, ?_, ?_, nothing _ _, nomove (.inl ht1) _ _⟩
  ·unfold F25 FT25
   rw [bif_f (by simpa using ht1)]; rfl
  ·unfold F26 FT26
   rw [c44, ob_some, bif_f (by simpa using ht1), show (0 : Int) = Int.ofNat 0 from rfl, idle_outer N n1 n2 F f1 f2 s tx ty turn fl hN hl _ 100 0 (by omega) (by omega)]; rfl
 ·by_cases ht2 : turn > 3
  ·refine ⟨0, (fun _ _ => .any), 0, (fun _ _ => .any), _, _, ?_, ?_, nothing _ _, nomove (.inr (.inl ht2)) _ _⟩
   ·unfold F25 FT25
    rw [bif_t (by simpa using ht1), bif_f (by simpa using ht2)]; rfl
   ·unfold F26 FT26
    rw [c44, ob_some, bif_t (by simpa using ht1), bif_f (by simpa using ht2), show (0 : Int) = Int.ofNat 0 from rfl, idle_outer N n1 n2 F f1 f2 s tx ty turn fl hN hl _ 100 0 (by omega) (by omega)]; rfl
  ·obtain ⟨t, rfl⟩ : ∃ t : Nat, turn = Int.ofNat t := ⟨turn.toNat, (Int.toNat_of_nonneg (by omega)).symm⟩
   have ht : t ≤ 3 := by simp at ht2; omega
   have e25 : (farB tx ty = true ∨ FarC N F 0) → F25 100 n1 f1 n2 f2 s tx ty (Int.ofNat t) fl = some (0, (fun _ _ => .any), 0, (fun _ _ => .any)) := by
    intro hb
    unfold F25 FT25
    rw [bif_t (by simpa using ht1), bif_t (by simpa using ht2), far49, ob_some]
    cases hq : farB tx ty with
    | true => rw [bif_t rfl]; rfl
    | false =>
     rw [bif_f rfl, c42, ob_some, show (0 : Int) = Int.ofNat 0 from rfl]
     have hc : FarC N F 0 := hb.resolve_left (by rw [hq]; simp)
     rw [(farC_loop N n1 n2 F f1 f2 s tx ty (Int.ofNat t) fl hN hl _ _ 100 0 (by omega) (by omega)).1 hc]; rfl
   obtain ⟨r, h3, h4⟩ := bad_outer N n1 n2 F f1 f2 s tx ty (Int.ofNat t) fl hN hl (fun x98 => (bif x98 then (some (true, 0, (fun _ _ => CV.any), 0, (fun _ _ => CV.any))) else (ob (F54 100 n1 f1 s tx ty (Int.ofNat t) fl) fun x99 => (L26v4 100 n1 f1 n2 f2 s tx ty (Int.ofNat t) fl x99.1 x99.2 100 0 0 (fun _ _ => .any)
 (fun x129 x130 => (some (false, x99.1, x99.2, x129, x130))))))) 100 0 (farB tx ty) (by omega) (by omega)
   by_cases hb : farB tx ty = true ∨ FarC N F 0
   ·refine ⟨0, _, 0, _, _, _, e25 hb, ?_, nothing _ _, nomove (.inr (.inr hb)) _ _⟩
    unfold F26 FT26
    rw [c44, ob_some, bif_t (by simpa using ht1), bif_t (by simpa using ht2), far53, ob_some]
    refine (congrArg (fun z => ob z _) h3).trans ?_
    rw [h4.2 hb, bif_t rfl]; rfl
   ·obtain ⟨g, hg1, hg2⟩ := moved_law s n1 t fl tx ty f1 hn1 ht
    obtain ⟨g', hg3, hg4⟩ := contour_law s n1 t fl tx ty f1 hn1 ht
    have hr : r = false := by
     cases r with
     | false => rfl
     | true => exact absurd (h4.1 rfl) hb
    have hq : farB tx ty = false := by
     cases hq : farB tx ty with
     | false => rfl
     | true => exact absurd (.inl hq) hb
    obtain ⟨x, hx1, hx2⟩ := holes25 s n2 t fl tx ty f2 n1 n1 f1 g hn2 hh ht (fun x71 x72 => (some (false, n1, g, x71, x72))) 100 0 (fun _ _ => .any) (by omega) (by omega) (fun j hj => by omega)
    obtain ⟨x', hx3, hx4⟩ := holes26 s n2 t fl tx ty f2 n1 n1 f1 g' hn2 hh ht (fun x129 x130 => (some (false, n1, g', x129, x130))) 100 0 (fun _ _ => .any) (by omega) (by omega) (fun j hj => by omega)
    refine ⟨n1, g, n2, x, g', x', ?_, ?_, ⟨rigid_id, are_are hg2 hg4, fun j hj => ?_, fun j hj => ?_⟩, ⟨⟨hn1, hn2, fun j hj => ?_⟩, ⟨by omega, by omega⟩, fun t' e1 e2 e3 => ?_, fun h => ?_⟩⟩
    ·unfold F25 FT25
     rw [bif_t (by simpa using ht1), bif_t (by simpa using ht2), far49, ob_some, hq, bif_f rfl, c42, ob_some]
     rw [show (0 : Int) = Int.ofNat 0 from rfl]
     rw [(farC_loop N n1 n2 F f1 f2 s tx ty (Int.ofNat t) fl hN hl _ _ 100 0 (by omega) (by omega)).2 (fun hc => hb (.inr hc)), hg1, ob_some]
     rw [hx1]; rfl
    ·unfold F26 FT26
     rw [c44, ob_some, bif_t (by simpa using ht1), bif_t (by simpa using ht2), far53, ob_some]
     refine (congrArg (fun z => ob z _) h3).trans ?_
     rw [hr, bif_f rfl, hg3, ob_some]
     refine (congrArg (fun z => ob z _) hx3).trans ?_
     rfl
    ·exact (hx4 j hj).1.trans (hx2 j hj).1.symm
    ·obtain ⟨a1, a2⟩ := hx2 j hj
     obtain ⟨b1, b2⟩ := hx4 j hj
     rw [a1]
     exact are_are a2 b2
    ·rw [(hx2 j hj).1]; exact hh j hj
    ·have : t' = t := by have := e1; simp at this; omega
     subst this
     exact ⟨rfl, rfl, hg2, hx2⟩
    ·rw [hcf, hNN] at h
     rcases h with k | k | k
     ·exact absurd k (by simp)
     ·exact absurd k ht2
     ·exact absurd k hb
theorem Mv.ts {T : Pt → Pt} {n1 n2 : Nat} {f1 f2 g1 g2 : Nat → Nat → CV} (h : Mv T n1 f1 n2 f2 g1 g2) (a1 : AllNr n1 f1) (a2 : AllNr n1 g1) (a3 : ∀ j, j < n2 → AllNr (CV.len (f2 j 0)) (CV.el (f2 j 0))) (a4 : ∀ j, j < n2 → AllNr (CV.len (f2 j 0)) (CV.el (g2 j 0))) : TShape T false n1 f1 n2 f2 g1 g2 :=
 ⟨h.fit, h.outer, h.len, h.hole, a1, a2, a3, a4⟩
theorem VShape.all {n1 n2 : Nat} {f1 f2 : Nat → Nat → CV} (S : VShape n1 f1 n2 f2) : AllNr n1 f1 ∧ ∀ j, j < n2 → AllNr (CV.len (f2 j 0)) (CV.el (f2 j 0)) := ⟨S.outer.near, fun j hj => (S.hole j hj).valid.near⟩
theorem TShape.valid {T : Pt → Pt} {b : Bool} {n1 n2 : Nat} {f1 f2 g1 g2 : Nat → Nat → CV} (h : TShape T b n1 f1 n2 f2 g1 g2) (S : VShape n1 f1 n2 f2) : VShape n1 g1 n2 g2 := by
 obtain ⟨c, c1, _, c3⟩ := shape_law n1 n2 f1 f2
 obtain ⟨d, d1, _, d3⟩ := shape_law n1 n2 g1 g2
 have := t13 h
 rw [c1, d1] at this
 have e := Option.some.inj this
 exact d3.1 (e.trans (c3.2 S))
theorem dot_map {T : Pt → Pt} (h : ∀ p q, dot (T p) (T q) (T p) = dot p q p) (a b c : Pt) : dot (T a) (T b) (T c) = dot a b c := by
 have h1 := h a b
 have h2 := h c b
 have h3 := h a c
 unfold dot at *
 grind
structure Iso (T : Pt → Pt) : Prop where
 rigid : Rigid 1 T
 len : ∀ p q, dot (T p) (T q) (T p) = dot p q p
theorem Iso.near {T : Pt → Pt} (h : Iso T) {x p q : Pt} {g : Int} : Near (T x) (T p) (T q) g ↔ Near x p q g := by
 unfold Near
 rw [dot_map h.len, dot_map h.len, dot_map h.len, dot_map h.len, h.rigid.cr]
 simp only [Int.one_mul]
theorem Mv.cl {T : Pt → Pt} {n1 n2 : Nat} {f1 f2 g1 g2 : Nat → Nat → CV} (h : Mv T n1 f1 n2 f2 g1 g2) {i : Nat} (hi : i < 1 + n2) : cl (cf n1 g1 g2) i = cl (cf n1 f1 f2) i ∧ ∀ j, j < cl (cf n1 f1 f2) i → pt (ce (cf n1 g1 g2) i) j = T (pt (ce (cf n1 f1 f2) i) j) := by
 cases i with
 | zero => exact ⟨rfl, h.outer⟩
 | succ i =>
  obtain ⟨e1, e2⟩ := cf_succ n1 f1 f2 i
  obtain ⟨d1, d2⟩ := cf_succ n1 g1 g2 i
  rw [e1, e2, d1, d2]
  exact ⟨h.len i (by omega), h.hole i (by omega)⟩
theorem f22_valid {n1 n2 : Nat} {f1 f2 : Nat → Nat → CV} (S : VShape n1 f1 n2 f2) (x y : Int) : F22 100 n1 f1 n2 f2 x y = F47 100 n1 f1 n2 f2 x y := by
 obtain ⟨c, c1, _, c3⟩ := shape_law n1 n2 f1 f2
 have hc := c3.2 S
 subst hc
 obtain ⟨z, z1, _⟩ := place47_eq S x y
 unfold F22
 rw [c1, ob_some, bif_f (by rfl), z1, ob_some]
theorem Mv.off {T : Pt → Pt} {n1 n2 : Nat} {f1 f2 g1 g2 : Nat → Nat → CV} (h : TShape T false n1 f1 n2 f2 g1 g2) (S : VShape n1 f1 n2 f2) (S' : VShape n1 g1 n2 g2) {q : Pt} (hq : nr q.1 q.2) (ho : Off n1 f1 n2 f2 q) : Off n1 g1 n2 g2 (T q) := by
 obtain ⟨z, z1, z2⟩ := ho
 obtain ⟨w, w1, w2⟩ := t22 h hq
 rw [f22_valid S] at w2
 rw [f22_valid S'] at w1
 rw [w2] at z1
 cases z1
 exact ⟨_, w1, z2⟩
end Go.Eng.R13
/-
 Nest: Check, program and reference.
-/
set_option linter.all false
namespace Go.Eng.R13
open Go Go.RowKit Go.Eng Geo
abbrev FF' := Nat → Nat → CV
abbrev Sp := ByteArray × Int × Int × Int × Bool
abbrev Sh := Nat × (Nat → Nat → CV) × Nat × (Nat → Nat → CV)
def sp (S : FF') (j : Nat) : Sp := (CV.str (S j 0), CV.int (S j 1), CV.int (S j 2), CV.int (S j 3), CV.bool (S j 4))
def sh (G : FF') (j : Nat) : Sh := (CV.len (G j 0), CV.el (G j 0), CV.len (G j 1), CV.el (G j 1))
def eqS (a b : ByteArray) : Bool := ByteArray.toList a == ByteArray.toList b
theorem eqS_symm (a b : ByteArray) : eqS a b = eqS b a := by unfold eqS; exact BEq.comm
def fdGo (PF : FF') (s : ByteArray) : Nat → Nat → Int
 | 0, _ => -1
 | m + 1, i => bif eqS (CV.str (PF i 0)) s then Int.ofNat i else fdGo PF s m (i + 1)
def fd (P : Nat) (PF : FF') (s : ByteArray) : Int := fdGo PF s P 0
theorem fdGo_cases (PF : FF') (s : ByteArray) : ∀ m i, fdGo PF s m i = -1 ∨ ∃ k : Nat, i ≤ k ∧ k < i + m ∧ fdGo PF s m i = Int.ofNat k ∧ eqS (CV.str (PF k 0)) s = true
 | 0, i => .inl rfl
 | m + 1, i => by
  unfold fdGo
  cases h : eqS (CV.str (PF i 0)) s with
  | true => exact .inr ⟨i, Nat.le_refl i, by omega, rfl, h⟩
  | false =>
   rcases fdGo_cases PF s m (i + 1) with h1 | ⟨k, k1, k2, k3, k4⟩
   ·exact .inl h1
   ·exact .inr ⟨k, by omega, by omega, k3, k4⟩
theorem fd_cases (P : Nat) (PF : FF') (s : ByteArray) : fd P PF s = -1 ∨ ∃ k : Nat, k < P ∧ fd P PF s = Int.ofNat k ∧ eqS (CV.str (PF k 0)) s = true := by
 rcases fdGo_cases PF s P 0 with h | ⟨k, k1, k2, k3, k4⟩
 ·exact .inl h
 ·exact .inr ⟨k, by omega, k3, k4⟩
theorem find176_loop (P : Nat) (PF : FF') (s : ByteArray) (hP : P ≤ 90) : ∀ (m i : Nat), P < m + i → i ≤ P → L176v1 100 P PF s m (Int.ofNat i) (fun x => some x) (some (-1)) = some (fdGo PF s (P - i) i) := by
 intro m
 induction m with
 | zero => intro i h1 h2; omega
 | succ m ih =>
  intro i h1 h2
  unfold L176v1
  rw [lt_nat, inb_nat, toNat_nat]
  by_cases h : i < P
  ·rw [bif_t (decide_eq_true h), bif_t (decide_eq_true h), show P - i = (P - (i + 1)) + 1 from by omega, fdGo]
   unfold eqS
   cases hq : (ByteArray.toList (CV.str (PF i 0)) == ByteArray.toList s) with
   | true => rfl
   | false => rw [bif_f rfl, bif_f rfl, w64_succ (by omega)]; exact ih (i + 1) (by omega) (by omega)
  ·rw [bif_f (decide_eq_false h), show P - i = 0 from by omega]; rfl
theorem find176 (P : Nat) (PF : FF') (s : ByteArray) (hP : P ≤ 90) : F176 100 P PF s = some (fd P PF s) := find176_loop P PF s hP 100 0 (by omega) (by omega)
theorem find171_loop (P : Nat) (PF : FF') (s : ByteArray) (hP : P ≤ 90) : ∀ (m i : Nat), P < m + i → i ≤ P → L171v1 100 P PF (listF [.s s]) (Int.ofNat P) m (Int.ofNat i) (fun x => some x) (some (-1)) = some (fdGo PF s (P - i) i) := by
 intro m
 induction m with
 | zero => intro i h1 h2; omega
 | succ m ih =>
  intro i h1 h2
  unfold L171v1
  rw [lt_nat, inb_nat, toNat_nat]
  by_cases h : i < P
  ·have e : F170 100 (listF (pj kR1 (PF i))) (listF [.s s]) = some (eqS (CV.str (PF i 0)) s) := rfl
   rw [bif_t (decide_eq_true h), bif_t (decide_eq_true h), e, ob_some, show P - i = (P - (i + 1)) + 1 from by omega, fdGo]
   cases hq : eqS (CV.str (PF i 0)) s with
   | true => rfl
   | false => rw [bif_f rfl, bif_f rfl, w64_succ (by omega)]; exact ih (i + 1) (by omega) (by omega)
  ·rw [bif_f (decide_eq_false h), show P - i = 0 from by omega]; rfl
theorem find171 (P : Nat) (PF : FF') (s : ByteArray) (hP : P ≤ 90) : F171 100 P PF (listF [.s s]) = some (fd P PF s) := find171_loop P PF s hP 100 0 (by omega) (by omega)
theorem find172_no {P : Nat} {PF : FF'} {s : ByteArray} (hP : P ≤ 90) (h : fd P PF s = -1) : F172 100 P PF s = some (ByteArray.empty, 0, 0, ByteArray.empty, ByteArray.empty, 0, 0, (fun _ _ => .any), 0, (fun _ _ => .any), ByteArray.empty, 0, 0, 0, 0, 0, 0, 0, 0, 0, false) := by
 unfold F172 FT172
 rw [find171 P PF s hP, ob_some, h, bif_t (by rfl)]
 rfl
theorem find172_yes {P : Nat} {PF : FF'} {s : ByteArray} {k : Nat} (hP : P ≤ 90) (hk : k < P) (h : fd P PF s = Int.ofNat k) : F172 100 P PF s = some (CV.str (PF k 0), CV.int (PF k 1), CV.int (PF k 2), CV.str (PF k 3), CV.str (PF k 4), CV.int (PF k 5), CV.len (PF k 6), CV.el (PF k 6), CV.len (PF k 7), CV.el (PF k 7), CV.str (PF k 8), CV.int (PF k 9), CV.int (PF k 10), CV.int (PF k 11), CV.int (PF k 12), CV.int (PF k 13), CV.int (PF k 14), CV.int (PF k 15), CV.int (PF k 16), CV.int (PF k 17), true) := by
 unfold F172 FT172
 rw [find171 P PF s hP, ob_some, h, bif_f (decide_eq_false (by simp)), inb_nat, bif_t (decide_eq_true hk), toNat_nat]
 rfl
structure FewP (P : Nat) (PF : FF') : Prop where
 parts : P ≤ 20
 outer : ∀ j, j < P → CV.len (PF j 6) ≤ 12
 holes : ∀ j, j < P → CV.len (PF j 7) ≤ 4
 hole : ∀ j, j < P → ∀ i, i < CV.len (PF j 7) → CV.len (CV.el (PF j 7) i 0) ≤ 12
theorem FewP.small {P : Nat} {PF : FF'} (h : FewP P PF) {j : Nat} (hj : j < P) : Small (CV.len (PF j 6)) (CV.len (PF j 7)) (CV.el (PF j 7)) :=
 ⟨by have := h.outer j hj; omega, by have := h.holes j hj; omega, fun i hi => by have := h.hole j hj i hi; omega⟩
theorem few167v2 {ρ : Type} (a : Nat) (b : FF') (c : Int) (d : ByteArray) (e : Int) (f : Nat) (g : FF') (h : Nat) (i : FF') (n : Nat) (F : FF') (hn : n ≤ 4) (k0 k1 : Option ρ) : ∀ (m j : Nat), n < m + j → j ≤ n →
  (L167v2 100 a b c d e f g h i n F m (Int.ofNat j) k0 k1 = k0) ∨ (L167v2 100 a b c d e f g h i n F m (Int.ofNat j) k0 k1 = k1 ∧ ∀ t, j ≤ t → t < n → CV.len (F t 0) ≤ 12) := by
 intro m
 induction m with
 | zero => intro j h1 h2; omega
 | succ m ih =>
  intro j h1 h2
  unfold L167v2
  rw [lt_nat, inb_nat, toNat_nat]
  by_cases hj : j < n
  ·rw [bif_t (decide_eq_true hj), bif_t (decide_eq_true hj)]
   by_cases h3 : CV.len (F j 0) ≤ 12
   ·rw [bif_f (decide_eq_false (by simp; omega)), w64_succ (by omega)]
    rcases ih (j + 1) (by omega) (by omega) with h4 | ⟨h4, h5⟩
    ·exact .inl h4
    ·refine .inr ⟨h4, fun t h6 h7 => ?_⟩
     by_cases e : t = j
     ·rw [e]; exact h3
     ·exact h5 t (by omega) h7
   ·rw [bif_t (decide_eq_true (by simp; omega))]
    exact .inl rfl
  ·rw [bif_f (decide_eq_false hj)]
   exact .inr ⟨rfl, fun t h6 h7 => by omega⟩
theorem few167v3 {ρ : Type} (P : Nat) (PF : FF') (s : ByteArray) (g : Int) (n : Nat) (S : FF') (k0 k1 : Option ρ) : ∀ (m j : Nat), 21 < m + j → j ≤ 21 → j ≤ P →
  (L167v3 100 P PF s g n S m (Int.ofNat j) k0 k1 = k0) ∨ (L167v3 100 P PF s g n S m (Int.ofNat j) k0 k1 = k1 ∧ ∀ t, j ≤ t → t < P → t < 21 → CV.len (PF t 6) ≤ 12 ∧ CV.len (PF t 7) ≤ 4 ∧ ∀ i, i < CV.len (PF t 7) → CV.len (CV.el (PF t 7) i 0) ≤ 12) := by
 intro m
 induction m with
 | zero => intro j h1 h2; omega
 | succ m ih =>
  intro j h1 h2 h0
  unfold L167v3
  rw [lt_nat, inb_nat, toNat_nat]
  by_cases hj : j < P
  ·rw [decide_eq_true hj, bif_t (by rfl)]
   by_cases h21 : j < 21
   ·rw [bif_t (decide_eq_true (by simp; omega)), bif_t (by rfl)]
    by_cases h3 : CV.len (PF j 6) ≤ 12
    ·rw [bif_t (by rw [decide_eq_false (by simp; omega)]; rfl)]
     by_cases h4 : CV.len (PF j 7) ≤ 4
     ·rw [bif_f (decide_eq_false (by simp; omega)), show (0 : Int) = Int.ofNat 0 from rfl, w64_succ (by omega)]
      rcases few167v2 P PF (Int.ofNat j) s g n S (CV.len (PF j 6)) (CV.el (PF j 6)) (CV.len (PF j 7)) (CV.el (PF j 7)) h4 k0 (L167v3 100 P PF s g n S m (Int.ofNat (j + 1)) k0 k1) 100 0 (by omega) (by omega) with q | ⟨q, q2⟩
      ·rw [q]; exact .inl rfl
      ·rw [q]
       rcases ih (j + 1) (by omega) (by omega) (by omega) with h5 | ⟨h5, h6⟩
       ·exact .inl h5
       ·refine .inr ⟨h5, fun t t1 t2 t3 => ?_⟩
        by_cases e : t = j
        ·rw [e]; exact ⟨h3, h4, fun i hi => q2 i (by omega) hi⟩
        ·exact h6 t (by omega) t2 t3
     ·rw [bif_t (decide_eq_true (by simp; omega))]
      exact .inl rfl
    ·rw [bif_f (by rw [decide_eq_true (by simp; omega)]; rfl)]
     exact .inl rfl
   ·rw [bif_f (decide_eq_false (by simp; omega))]
    exact .inr ⟨rfl, fun t t1 t2 t3 => by omega⟩
  ·rw [decide_eq_false hj, bif_f (by rfl)]
   exact .inr ⟨rfl, fun t t1 t2 t3 => by omega⟩
theorem few_law (s : ByteArray) (g : Int) (n : Nat) (S : FF') (P : Nat) (PF : FF') : ∃ r, F167 100 s g n S P PF = some r ∧ (r = true → n ≤ 40 ∧ FewP P PF) := by
 unfold F167
 rw [show (0 : Int) = Int.ofNat 0 from rfl]
 rcases few167v3 P PF s g n S (some false) (bif ((decide ((Int.ofNat n) ≤ 40)) == true) then (some (decide ((Int.ofNat P) ≤ 20))) else (some false)) 100 0 (by omega) (by omega) (by omega) with h | ⟨h, h2⟩
 ·exact ⟨false, h, fun h => by cases h⟩
 ·by_cases hn : n ≤ 40
  ·by_cases hP : P ≤ 20
   ·refine ⟨true, h.trans ?_, fun _ => ⟨hn, hP, fun j hj => (h2 j (by omega) hj (by omega)).1, fun j hj => (h2 j (by omega) hj (by omega)).2.1, fun j hj => (h2 j (by omega) hj (by omega)).2.2⟩⟩
    rw [decide_eq_true (by simp; omega), decide_eq_true (by simp; omega)]; rfl
   ·refine ⟨false, h.trans ?_, fun h => by cases h⟩
    rw [decide_eq_true (by simp; omega), decide_eq_false (by simp; omega)]; rfl
  ·refine ⟨false, h.trans ?_, fun h => by cases h⟩
   rw [decide_eq_false (by simp; omega)]; rfl
def small (n : Int) : Bool := decide (n ≥ -32768) && decide (n ≤ 32768)
def placed (s : Sp) : Bool := decide (s.2.2.2.1 ≥ 0) && (decide (s.2.2.2.1 ≤ 3) && (small s.2.1 && small s.2.2.1))
theorem small173 (n : Int) : F173 100 n = some (small n) := by
 unfold F173 small
 cases decide (n ≥ -32768) <;> rfl
theorem placed174 (s : ByteArray) (x y t : Int) (f : Bool) : F174 100 s x y t f = some (placed (s, x, y, t, f)) := by
 unfold F174 placed
 rw [small173, small173]
 simp only [ob_some]
 cases decide (t ≥ 0) <;> cases decide (t ≤ 3) <;> cases small x <;> rfl
theorem placed178 (s : ByteArray) (x y t : Int) (f : Bool) : F178 100 s x y t f = some (placed (s, x, y, t, f)) := placed174 s x y t f
def mvt (PF : FF') (k : Nat) (s : Sp) : Sh := (F25 100 (CV.len (PF k 6)) (CV.el (PF k 6)) (CV.len (PF k 7)) (CV.el (PF k 7)) s.1 s.2.1 s.2.2.1 s.2.2.2.1 s.2.2.2.2).getD (0, (fun _ _ => .any), 0, (fun _ _ => .any))
def mvr (PF : FF') (k : Nat) (s : Sp) : Sh := (F26 100 (CV.len (PF k 6)) (CV.el (PF k 6)) (CV.len (PF k 7)) (CV.el (PF k 7)) s.1 s.2.1 s.2.2.1 s.2.2.2.1 s.2.2.2.2).getD (0, (fun _ _ => .any), 0, (fun _ _ => .any))
def pk (P : Nat) (PF : FF') (s : Sp) : Nat := (fd P PF s.1).toNat
def mv (P : Nat) (PF : FF') (s : Sp) : Sh := mvt PF (pk P PF s) s
theorem mvt_law {P : Nat} {PF : FF'} (hP : FewP P PF) {k : Nat} (hk : k < P) (s : Sp) :
  F25 100 (CV.len (PF k 6)) (CV.el (PF k 6)) (CV.len (PF k 7)) (CV.el (PF k 7)) s.1 s.2.1 s.2.2.1 s.2.2.2.1 s.2.2.2.2 = some (mvt PF k s) ∧
  F26 100 (CV.len (PF k 6)) (CV.el (PF k 6)) (CV.len (PF k 7)) (CV.el (PF k 7)) s.1 s.2.1 s.2.2.1 s.2.2.2.1 s.2.2.2.2 = some (mvr PF k s) ∧
  (mvr PF k s).1 = (mvt PF k s).1 ∧ (mvr PF k s).2.2.1 = (mvt PF k s).2.2.1 ∧
  Mv (fun p => p) (mvt PF k s).1 (mvt PF k s).2.1 (mvt PF k s).2.2.1 (mvt PF k s).2.2.2 (mvr PF k s).2.1 (mvr PF k s).2.2.2 ∧
  MovedTo s.1 s.2.1 s.2.2.1 s.2.2.2.1 s.2.2.2.2 (CV.len (PF k 6)) (CV.el (PF k 6)) (CV.len (PF k 7)) (CV.el (PF k 7)) (mvt PF k s).1 (mvt PF k s).2.1 (mvt PF k s).2.2.1 (mvt PF k s).2.2.2 := by
 obtain ⟨a, c, b, d, c', d', e1, e2, e3, e4⟩ := move_eq (CV.len (PF k 6)) (CV.len (PF k 7)) (CV.el (PF k 6)) (CV.el (PF k 7)) s.1 s.2.1 s.2.2.1 s.2.2.2.1 s.2.2.2.2 (hP.small hk)
 have q1 : mvt PF k s = (a, c, b, d) := by unfold mvt; rw [e1]; rfl
 have q2 : mvr PF k s = (a, c', b, d') := by unfold mvr; rw [e2]; rfl
 rw [q1, q2, e1, e2]
 exact ⟨rfl, rfl, rfl, rfl, e3, e4⟩
def withinB (a : Sh) (L W gap : Int) : Bool := (F29 100 a.1 a.2.1 a.2.2.1 a.2.2.2 L W gap).getD false
def clearB (gap : Int) (a b : Sh) : Bool := (F27 100 a.1 a.2.1 a.2.2.1 a.2.2.2 b.1 b.2.1 b.2.2.1 b.2.2.2 gap).getD false
def shapeC (PF : FF') (k : Nat) : Int := (F13 100 (CV.len (PF k 6)) (CV.el (PF k 6)) (CV.len (PF k 7)) (CV.el (PF k 7))).getD 0
theorem shapeC_law (PF : FF') (k : Nat) : F13 100 (CV.len (PF k 6)) (CV.el (PF k 6)) (CV.len (PF k 7)) (CV.el (PF k 7)) = some (shapeC PF k) ∧ F14 100 (CV.len (PF k 6)) (CV.el (PF k 6)) (CV.len (PF k 7)) (CV.el (PF k 7)) = some (shapeC PF k) ∧ (shapeC PF k = 0 ↔ VShape (CV.len (PF k 6)) (CV.el (PF k 6)) (CV.len (PF k 7)) (CV.el (PF k 7))) := by
 obtain ⟨c, c1, c2, c3⟩ := shape_law (CV.len (PF k 6)) (CV.len (PF k 7)) (CV.el (PF k 6)) (CV.el (PF k 7))
 have : shapeC PF k = c := by unfold shapeC; rw [c1]; rfl
 rw [this]
 exact ⟨c1, c2, c3⟩
def rest (P : Nat) (PF : FF') (gr : ByteArray) (th L W gap : Int) (s : Sp) : Int :=
 bif CV.int (PF (pk P PF s) 2) != 1 then 10 else
 bif !(eqS (CV.str (PF (pk P PF s) 4)) gr) then 23 else
 bif CV.int (PF (pk P PF s) 5) != th then 23 else
 bif shapeC PF (pk P PF s) != 0 then 17 else
 bif !(placed s) then 9 else
 bif !(withinB (mv P PF s) L W gap) then 18 else 0
def anyF (f : Nat → Bool) : Nat → Nat → Bool
 | 0, _ => false
 | m + 1, i => f i || anyF f m (i + 1)
section
variable (P : Nat) (PF S : FF') (gr : ByteArray) (th L W gap : Int)
def code (j : Nat) : Int :=
 bif decide (fd P PF (CV.str (S j 0)) < 0) then 8 else
 bif anyF (fun t => eqS (CV.str (S t 0)) (CV.str (S j 0))) j 0 then 7 else
 bif rest P PF gr th L W gap (sp S j) != 0 then rest P PF gr th L W gap (sp S j) else
 bif anyF (fun t => !(clearB gap (mv P PF (sp S j)) (mv P PF (sp S t)))) j 0 then 19 else 0
def scan (c : Nat → Int) : Nat → Nat → Int
 | 0, _ => 0
 | m + 1, j => bif c j != 0 then c j else scan c m (j + 1)
end
end Go.Eng.R13
/-
 Nest: Check of the reference; what an accepted plan is.
-/
set_option linter.all false
namespace Go.Eng.R13
open Go Go.RowKit Go.Eng Geo
theorem scan_zero {c : Nat → Int} : ∀ {m j : Nat}, scan c m j = 0 ↔ ∀ t, j ≤ t → t < j + m → c t = 0
 | 0, j => ⟨fun _ t a b => by omega, fun _ => rfl⟩
 | m + 1, j => by
  unfold scan
  by_cases h : c j = 0
  ·rw [bif_f (by simpa using h), scan_zero]
   constructor
   ·intro k t a b
    by_cases e : t = j
    ·rw [e]; exact h
    ·exact k t (by omega) (by omega)
   ·intro k t a b; exact k t (by omega) (by omega)
  ·rw [bif_t (by simpa using h)]
   exact ⟨fun k => absurd k h, fun k => absurd (k j (Nat.le_refl j) (by omega)) h⟩
structure Own (P : Nat) (PF : FF') (gr : ByteArray) (th L W gap : Int) (s : Sp) : Prop where
 found : 0 ≤ fd P PF s.1
 kind : CV.int (PF (pk P PF s) 2) = 1
 grade : eqS (CV.str (PF (pk P PF s) 4)) gr = true
 thick : CV.int (PF (pk P PF s) 5) = th
 shape : VShape (CV.len (PF (pk P PF s) 6)) (CV.el (PF (pk P PF s) 6)) (CV.len (PF (pk P PF s) 7)) (CV.el (PF (pk P PF s) 7))
 spot : placed s = true
 fits : withinB (mv P PF s) L W gap = true
structure Pair (P : Nat) (PF : FF') (gap : Int) (s t : Sp) : Prop where
 fresh : eqS s.1 t.1 = false
 clear : clearB gap (mv P PF t) (mv P PF s) = true
structure Acc (P : Nat) (PF : FF') (S : FF') (gr : ByteArray) (th L W gap : Int) (n : Nat) : Prop where
 gap0 : 0 ≤ gap
 gap5 : gap ≤ 500
 some : 0 < n
 few : n ≤ 32
 own : ∀ j, j < n → Own P PF gr th L W gap (sp S j)
 pair : ∀ j, j < n → ∀ t, t < j → Pair P PF gap (sp S t) (sp S j)
theorem Pair.symm {P : Nat} {PF : FF'} {gap : Int} {s t : Sp} (h : Pair P PF gap s t) : Pair P PF gap t s := by
 refine ⟨(eqS_symm _ _).trans h.fresh, ?_⟩
 have := h.clear
 obtain ⟨r, r1, r2⟩ := clear27 (mv P PF t).1 (mv P PF t).2.1 (mv P PF t).2.2.1 (mv P PF t).2.2.2 (mv P PF s).1 (mv P PF s).2.1 (mv P PF s).2.2.1 (mv P PF s).2.2.2 gap
 obtain ⟨q, q1, q2⟩ := clear27 (mv P PF s).1 (mv P PF s).2.1 (mv P PF s).2.2.1 (mv P PF s).2.2.2 (mv P PF t).1 (mv P PF t).2.1 (mv P PF t).2.2.1 (mv P PF t).2.2.2 gap
 have e1 : clearB gap (mv P PF t) (mv P PF s) = r := by unfold clearB; rw [r1]; rfl
 have e2 : clearB gap (mv P PF s) (mv P PF t) = q := by unfold clearB; rw [q1]; rfl
 rw [e1] at this
 rw [e2]
 exact q2.2 (r2.1 this).symm
theorem clearB_iff {gap : Int} {a b : Sh} : clearB gap a b = true ↔ Clr gap a.1 a.2.1 a.2.2.1 a.2.2.2 b.1 b.2.1 b.2.2.1 b.2.2.2 := by
 obtain ⟨r, r1, r2⟩ := clear27 a.1 a.2.1 a.2.2.1 a.2.2.2 b.1 b.2.1 b.2.2.1 b.2.2.2 gap
 have e1 : clearB gap a b = r := by unfold clearB; rw [r1]; rfl
 rw [e1]
 exact r2
def law23 (g : Nat → CV) : Prop := CV.len (g 2) ≤ 40 ∧ FewP (CV.len (g 9)) (CV.el (g 9))
theorem few168 (g : Nat → CV) : ∃ r, F168 100 (listF (pj kR0 g)) = some r ∧ (r = true → law23 g) := by
 obtain ⟨r, r1, r2⟩ := few_law (CV.str (g 0)) (CV.int (g 1)) (CV.len (g 2)) (CV.el (g 2)) (CV.len (g 9)) (CV.el (g 9))
 have e : F168 100 (listF (pj kR0 g)) = ob (F167 100 (CV.str (g 0)) (CV.int (g 1)) (CV.len (g 2)) (CV.el (g 2)) (CV.len (g 9)) (CV.el (g 9))) fun x => some x := rfl
 rw [e, r1]
 exact ⟨r, rfl, r2⟩
theorem awake23 : F187 100 = some true := by kernel_rfl
end Go.Eng.R13
/-
 Nest: Fewer, Adds, Errors.
-/
set_option linter.all false
namespace Go.Eng.R13
open Go Go.RowKit Go.Eng Geo
theorem Own.pk_lt {P : Nat} {PF : FF'} {s : Sp} (h : 0 ≤ fd P PF s.1) : pk P PF s < P ∧ fd P PF s.1 = Int.ofNat (pk P PF s) := by
 rcases fd_cases P PF s.1 with q | ⟨k, hk, q, _⟩
 ·rw [q] at h; exact absurd h (by decide)
 ·have : pk P PF s = k := by unfold pk; rw [q]; rfl
  rw [this]; exact ⟨hk, q⟩
theorem fits_iff {P : Nat} {PF : FF'} (hP : FewP P PF) {s : Sp} (h : 0 ≤ fd P PF s.1) {L W gap : Int} : withinB (mv P PF s) L W gap = true ↔ Fine (mv P PF s).1 L W gap ∧ InB gap (w64 (L - gap)) (w64 (W - gap)) (mv P PF s).1 (mv P PF s).2.1 0 := by
 obtain ⟨_, _, _, _, _, mM⟩ := mvt_law hP (Own.pk_lt h).1 s
 obtain ⟨r, r1, r2⟩ := within_law (mv P PF s).1 (mv P PF s).2.2.1 (mv P PF s).2.1 (mv P PF s).2.2.2 L W gap mM.small.1
 have hw : withinB (mv P PF s) L W gap = r := by unfold withinB; rw [r1]; rfl
 rw [hw]; exact r2
theorem Own.mono {P : Nat} {PF : FF'} (hP : FewP P PF) {gr : ByteArray} {th L W gap L' W' gap' : Int} {s : Sp} (o : Own P PF gr th L W gap s) (g0 : 0 ≤ gap') (g1 : gap' ≤ gap) (hL : L ≤ L') (hL' : L' ≤ 32768) (hW : W ≤ W') (hW' : W' ≤ 32768) : Own P PF gr th L' W' gap' s := by
 refine ⟨o.found, o.kind, o.grade, o.thick, o.shape, o.spot, (fits_iff hP o.found).2 ?_⟩
 obtain ⟨⟨f1, f2, f3, f4⟩, b⟩ := (fits_iff hP o.found).1 o.fits
 refine ⟨⟨f1, by omega, by omega, by omega⟩, fun j h1 h2 => ?_⟩
 have := b j h1 h2
 rw [w64_of (by omega) (by omega), w64_of (by omega) (by omega)] at this
 rw [w64_of (by omega) (by omega), w64_of (by omega) (by omega)]
 omega
theorem Pair.mono {P : Nat} {PF : FF'} {gap gap' : Int} {s t : Sp} (p : Pair P PF gap s t) (g0 : 0 ≤ gap') (g1 : gap' ≤ gap) : Pair P PF gap' s t :=
 ⟨p.fresh, clearB_iff.2 ((clearB_iff.1 p.clear).mono g0 g1)⟩
theorem Acc.sub {P : Nat} {PF S S' : FF'} (hP : FewP P PF) {gr : ByteArray} {th L W gap L' W' gap' : Int} {n n' : Nat} (A : Acc P PF S gr th L W gap n) (g0 : 0 ≤ gap') (g1 : gap' ≤ gap) (hL : L ≤ L') (hL' : L' ≤ 32768) (hW : W ≤ W') (hW' : W' ≤ 32768)
  (hn : 0 < n') (hn' : n' ≤ 32) (σ : Nat → Nat) (h1 : ∀ j, j < n' → σ j < n ∧ sp S' j = sp S (σ j)) (h2 : ∀ j, j < n' → ∀ i, i < j → σ i ≠ σ j) : Acc P PF S' gr th L' W' gap' n' := by
 have a5 := A.gap5
 refine ⟨g0, by omega, hn, hn', fun j hj => ?_, fun j hj t ht => ?_⟩
 ·rw [(h1 j hj).2]
  exact (A.own _ (h1 j hj).1).mono hP g0 g1 hL hL' hW hW'
 ·rw [(h1 j hj).2, (h1 t (by omega)).2]
  have ne := h2 j hj t ht
  rcases Nat.lt_or_ge (σ t) (σ j) with k | k
  ·exact (A.pair _ (h1 j hj).1 _ k).mono g0 g1
  ·exact (A.pair _ (h1 t (by omega)).1 (σ j) (by omega)).symm.mono g0 g1
theorem Acc.sides {P : Nat} {PF S : FF'} (hP : FewP P PF) {gr : ByteArray} {th L W gap : Int} {n : Nat} (A : Acc P PF S gr th L W gap n) : 0 ≤ L ∧ L ≤ 32768 ∧ 0 ≤ W ∧ W ≤ 32768 := by
 have o := A.own 0 A.some
 obtain ⟨⟨f1, f2, f3, f4⟩, _⟩ := (fits_iff hP o.found).1 o.fits
 omega
end Go.Eng.R13
/-
 Nest: Used2, program and reference; what lies inside of a contour lies within its bounds.
-/
set_option linter.all false
namespace Go.Eng.R13
open Go Go.RowKit Go.Eng Geo
def area2P (PF : FF') (k : Nat) : Int := (F18 100 (CV.len (PF k 6)) (CV.el (PF k 6)) (CV.len (PF k 7)) (CV.el (PF k 7))).getD 0
theorem area2P_law {P : Nat} {PF : FF'} (hP : FewP P PF) {k : Nat} (hk : k < P) : F18 100 (CV.len (PF k 6)) (CV.el (PF k 6)) (CV.len (PF k 7)) (CV.el (PF k 7)) = some (area2P PF k) ∧ F19 100 (CV.len (PF k 6)) (CV.el (PF k 6)) (CV.len (PF k 7)) (CV.el (PF k 7)) = some (area2P PF k) := by
 obtain ⟨x, hx⟩ := f18_some (CV.len (PF k 6)) (CV.el (PF k 6)) (CV.len (PF k 7)) (CV.el (PF k 7)) (by have := hP.holes k hk; omega)
 have : area2P PF k = x := by unfold area2P; rw [hx]; rfl
 rw [this]
 exact ⟨hx, (f18v19 _ _ _ _).symm.trans hx⟩
def ua (P : Nat) (PF S : FF') : Int → Nat → Nat → Int
 | acc, 0, _ => acc
 | acc, m + 1, j => ua P PF S (bif decide (fd P PF (CV.str (S j 0)) < 0) then acc else w64 (acc + area2P PF (pk P PF (sp S j)))) m (j + 1)
theorem used183_loop {ρ : Type} (P n : Nat) (PF S : FF') (hP : FewP P PF) (hn : n ≤ 90) (k0 : Int → Option ρ) : ∀ (m j : Nat) (acc : Int), n < m + j → j ≤ n → L183v1 100 P PF n S (Int.ofNat n) m acc (Int.ofNat j) k0 = k0 (ua P PF S acc (n - j) j) := by
 have hP' := hP.parts
 intro m
 induction m with
 | zero => intro j acc h1 h2; omega
 | succ m ih =>
  intro j acc h1 h2
  unfold L183v1
  rw [lt_nat, inb_nat, toNat_nat]
  by_cases h : j < n
  ·rw [bif_t (decide_eq_true h), bif_t (decide_eq_true h), w64_succ (by omega), show n - j = (n - (j + 1)) + 1 from by omega, ua]
   rcases fd_cases P PF (CV.str (S j 0)) with hf | ⟨k, hk, hf, _⟩
   ·rw [find172_no (by omega) hf, ob_some, bif_f (by rfl), hf, ih (j + 1) acc (by omega) (by omega)]; rfl
   ·have hpk : pk P PF (sp S j) = k := by unfold pk sp; rw [hf]; rfl
    rw [find172_yes (by omega) hk hf, ob_some]
    dsimp only
    rw [bif_t rfl, (area2P_law hP hk).1, ob_some, hf, hpk, ih (j + 1) _ (by omega) (by omega), bif_f (decide_eq_false (by simp))]
  ·rw [bif_f (decide_eq_false h), show n - j = 0 from by omega]; rfl
theorem used192_loop {ρ : Type} (P n : Nat) (PF S : FF') (hP : FewP P PF) (hn : n ≤ 90) (a : ByteArray) (b : Int) (k0 : Int → Option ρ) : ∀ (m j : Nat) (acc : Int), n < m + j → j ≤ n → L192v1 100 P PF a b n S m acc (Int.ofNat j) k0 = k0 (ua P PF S acc (n - j) j) := by
 have hP' := hP.parts
 intro m
 induction m with
 | zero => intro j acc h1 h2; omega
 | succ m ih =>
  intro j acc h1 h2
  unfold L192v1
  rw [lt_nat, inb_nat, toNat_nat]
  by_cases h : j < n
  ·rw [bif_t (decide_eq_true h), bif_t (decide_eq_true h), w64_succ (by omega), show n - j = (n - (j + 1)) + 1 from by omega, ua, find176 _ _ _ (by omega), ob_some]
   rcases fd_cases P PF (CV.str (S j 0)) with hf | ⟨k, hk, hf, _⟩
   ·rw [hf, bif_f (by rfl), ih (j + 1) acc (by omega) (by omega)]; rfl
   ·have hpk : pk P PF (sp S j) = k := by unfold pk sp; rw [hf]; rfl
    have h0 : (0 : Int) ≤ Int.ofNat k := Int.natCast_nonneg k
    rw [hf, bif_t (decide_eq_true h0), inb_nat, toNat_nat, bif_t (decide_eq_true hk), (area2P_law hP hk).2, ob_some, hpk, ih (j + 1) _ (by omega) (by omega), bif_f (decide_eq_false (by simp))]
  ·rw [bif_f (decide_eq_false h), show n - j = 0 from by omega]; rfl
def used (P : Nat) (PF S : FF') (n : Nat) : Int := bif decide (Int.ofNat n > 32) then 0 else ua P PF S 0 n 0
theorem used_both (P n : Nat) (PF S : FF') (hP : FewP P PF) (a : ByteArray) (b : Int) : F183 100 a b n S P PF = some (used P PF S n) ∧ F192 100 a b n S P PF = some (used P PF S n) := by
 unfold F183 F192 used
 by_cases h : n ≤ 32
 ·have e : decide (Int.ofNat n > 32) = false := decide_eq_false (by simp; omega)
  rw [e, bif_f rfl, bif_f rfl, bif_f rfl]
  exact ⟨used183_loop P n PF S hP (by omega) _ 100 0 0 (by omega) (by omega), used192_loop P n PF S hP (by omega) a b _ 100 0 0 (by omega) (by omega)⟩
 ·have e : decide (Int.ofNat n > 32) = true := decide_eq_true (by simp; omega)
  rw [e, bif_t rfl, bif_t rfl, bif_t rfl]; exact ⟨rfl, rfl⟩
end Go.Eng.R13
/-
 NestAdds: the plain law; what Shapes returns.
-/
set_option linter.all false
namespace Go.Eng.R13
open Go Go.RowKit Go.Eng Geo
def scode (P : Nat) (PF S : FF') (j : Nat) : Int := bif decide (fd P PF (CV.str (S j 0)) < 0) then 8 else bif !(placed (sp S j)) then 9 else 0
theorem scode_cases {P : Nat} {PF S : FF'} {j : Nat} : scode P PF S j = 0 ↔ 0 ≤ fd P PF (CV.str (S j 0)) ∧ placed (sp S j) = true := by
 unfold scode
 by_cases h : fd P PF (CV.str (S j 0)) < 0
 ·rw [bif_t (decide_eq_true h)]
  exact ⟨fun h => absurd h (by decide), fun k => absurd k.1 (by omega)⟩
 ·rw [bif_f (decide_eq_false h)]
  cases hp : placed (sp S j) with
  | true => exact ⟨fun _ => ⟨by omega, rfl⟩, fun _ => rfl⟩
  | false => exact ⟨fun h => absurd h (by decide), fun k => by cases k.2⟩
theorem shapes175_loop {ρ : Type} (P n : Nat) (PF S : FF') (hP : FewP P PF) (hn : n ≤ 90) (k0 : Int → Option ρ) (k1 : Nat → FF' → Option ρ) : ∀ (m j : Nat) (G : FF'), n < m + j → j ≤ n → (∀ t, t < j → sh G t = mv P PF (sp S t)) →
  (scan (scode P PF S) (n - j) j ≠ 0 ∧ L175v1 100 P PF n S (Int.ofNat n) m j (Int.ofNat j) G k0 k1 = k0 (scan (scode P PF S) (n - j) j)) ∨
  (scan (scode P PF S) (n - j) j = 0 ∧ ∃ G', L175v1 100 P PF n S (Int.ofNat n) m j (Int.ofNat j) G k0 k1 = k1 n G' ∧ ∀ t, t < n → sh G' t = mv P PF (sp S t)) := by
 have hP' := hP.parts
 intro m
 induction m with
 | zero => intro j G h1 h2; omega
 | succ m ih =>
  intro j G h1 h2 hG
  unfold L175v1
  rw [lt_nat, inb_nat, toNat_nat]
  by_cases h : j < n
  ·have hsc : scan (scode P PF S) (n - j) j = bif scode P PF S j != 0 then scode P PF S j else scan (scode P PF S) (n - (j + 1)) (j + 1) := by
    rw [show n - j = (n - (j + 1)) + 1 from by omega]; rfl
   generalize hz : scan (scode P PF S) (n - j) j = z at *
   rw [bif_t (decide_eq_true h), bif_t (decide_eq_true h)]
   rcases fd_cases P PF (CV.str (S j 0)) with hf | ⟨k, hk, hf, _⟩
   ·rw [find172_no (by omega) hf, ob_some, bif_t (by rfl)]
    have : scode P PF S j = 8 := by unfold scode; rw [hf]; rfl
    rw [this, bif_t (by rfl)] at hsc
    subst hsc
    exact .inl ⟨by decide, rfl⟩
   ·have hpk : pk P PF (sp S j) = k := by unfold pk sp; rw [hf]; rfl
    rw [find172_yes (by omega) hk hf, ob_some]
    dsimp only
    rw [bif_f (by rfl), placed174, ob_some, show (CV.str (S j 0), CV.int (S j 1), CV.int (S j 2), CV.int (S j 3), CV.bool (S j 4)) = sp S j from rfl]
    have hc : scode P PF S j = bif !(placed (sp S j)) then 9 else 0 := by unfold scode; rw [hf, bif_f (decide_eq_false (by simp))]
    cases hp : placed (sp S j) with
    | false =>
     rw [hp] at hc
     rw [hc, bif_t (by rfl)] at hsc
     have hsc : z = 9 := hsc
     subst hsc
     rw [bif_t (by rfl)]
     exact .inl ⟨by decide, rfl⟩
    | true =>
     rw [hp] at hc
     obtain ⟨mE, _, _, _, _, _⟩ := mvt_law hP hk (sp S j)
     have mE' : F25 100 (CV.len (PF k 6)) (CV.el (PF k 6)) (CV.len (PF k 7)) (CV.el (PF k 7)) (CV.str (S j 0)) (CV.int (S j 1)) (CV.int (S j 2)) (CV.int (S j 3)) (CV.bool (S j 4)) = some (mv P PF (sp S j)) := by
      rw [show mv P PF (sp S j) = mvt PF k (sp S j) from by unfold mv; rw [hpk]]; exact mE
     rw [hc, bif_f (by rfl)] at hsc
     subst hsc
     rw [bif_f (by rfl), mE', ob_some, bif_t (ble_ok (by omega)), w64_succ (by omega)]
     refine ih (j + 1) _ (by omega) (by omega) fun t ht => ?_
     by_cases e : t = j
     ·subst e
      unfold sh
      rw [joinF_new _ _ _ _ _ (Nat.le_refl t), joinF_new _ _ _ _ _ (Nat.le_refl t), Nat.sub_self]
      rfl
     ·have := hG t (by omega)
      unfold sh at this ⊢
      rw [joinF_old _ _ _ _ _ (by omega), joinF_old _ _ _ _ _ (by omega)]
      exact this
  ·rw [bif_f (decide_eq_false h), show n - j = 0 from by omega]
   have : j = n := by omega
   subst this
   exact .inr ⟨rfl, G, rfl, hG⟩
theorem shapes175 (P n : Nat) (PF S : FF') (hP : FewP P PF) (hn : n ≤ 90) (a : ByteArray) (b : Int) : ∃ N G e, F175 100 a b n S P PF = some (N, G, e) ∧ e = scan (scode P PF S) n 0 ∧ (e ≠ 0 → N = 0) ∧ (e = 0 → N = n ∧ ∀ t, t < n → sh G t = mv P PF (sp S t)) := by
 unfold F175 FT175
 rcases shapes175_loop P n PF S hP hn (fun x29 => (some (true, 0, (fun _ _ => .any), x29))) (fun x30 x31 => (some (false, x30, x31, 0))) 100 0 (fun _ _ => .any) (by omega) (by omega) (fun t ht => by omega) with ⟨h1, h2⟩ | ⟨h1, G, h2, h3⟩
 ·rw [show L175v1 100 P PF n S (Int.ofNat n) 100 0 0 (fun _ _ => .any) _ _ = _ from h2, ob_some]
  exact ⟨0, _, _, rfl, rfl, fun _ => rfl, fun h => absurd h h1⟩
 ·rw [show L175v1 100 P PF n S (Int.ofNat n) 100 0 0 (fun _ _ => .any) _ _ = _ from h2, ob_some]
  exact ⟨n, G, 0, rfl, h1.symm, fun h => absurd rfl h, fun _ => ⟨rfl, h3⟩⟩
end Go.Eng.R13
/-
 Nest: the areas of valid shapes.
-/
set_option linter.all false
namespace Go.Eng.R13
open Go Go.RowKit Go.Eng Geo
def toShp (n1 : Nat) (f1 : FF') (n2 : Nat) (f2 : FF') : Shp := ⟨⟨n1, pt f1⟩, n2, fun j => ⟨CV.len (f2 j 0), pt (CV.el (f2 j 0))⟩⟩
theorem VShape.ok {n1 n2 : Nat} {f1 f2 : FF'} (S : VShape n1 f1 n2 f2) : (toShp n1 f1 n2 f2).Ok ∧ (toShp n1 f1 n2 f2).Sgn := by
 refine ⟨⟨S.outer.simple, fun j hj => (S.hole j hj).valid.simple, fun j hj => noTouch (S.hole j hj).valid S.outer (S.hole j hj).free, fun j hj => ?_, fun i hi j hj hne => ?_⟩, S.pos, fun j hj => (S.hole j hj).neg⟩
 ·have hb := (S.hole j hj).valid.big
  exact ((S.hole j hj).inside 0 (by omega)).2
 ·have key : ∀ i, i < n2 → ∀ j, j < i → NoTouch (CV.len (f2 i 0)) (pt (CV.el (f2 i 0))) (CV.len (f2 j 0)) (pt (CV.el (f2 j 0))) := fun i hi j hj => noTouch (S.hole i hi).valid (S.hole j (by omega)).valid (S.apart i hi j hj).1
  rcases Nat.lt_or_gt_of_ne hne with k | k
  ·exact ⟨(key j hj i k).symm, (S.apart j hj i k).2.1.2⟩
  ·exact ⟨key i hi j k, (S.apart i hi j k).2.2.2⟩
theorem area2P_val {PF : FF'} {k : Nat} (S : VShape (CV.len (PF k 6)) (CV.el (PF k 6)) (CV.len (PF k 7)) (CV.el (PF k 7))) : area2P PF k = (toShp (CV.len (PF k 6)) (CV.el (PF k 6)) (CV.len (PF k 7)) (CV.el (PF k 7))).area := by
 unfold area2P
 rw [area18 S]
 rfl
theorem sm_le_zero {n : Nat} {f : Nat → Int} (h : ∀ i, i < n → f i ≤ 0) : sm n f ≤ 0 := by
 have := sm_nonneg (n := n) (f := fun i => 0 - f i) fun i hi => by have := h i hi; omega
 rw [sm_sub, sm_zero] at this
 omega
theorem area2P_bd {P : Nat} {PF : FF'} (hP : FewP P PF) {k : Nat} (hk : k < P) : 0 ≤ area2P PF k ∧ area2P PF k ≤ 68719476736 := by
 obtain ⟨e1, _, e3⟩ := shapeC_law PF k
 by_cases h : shapeC PF k = 0
 ·have S := e3.1 h
  obtain ⟨o, g⟩ := S.ok
  rw [area2P_val S]
  refine ⟨Shp.area_nonneg o g, ?_⟩
  have h1 := area_bd S.outer
  have h2 : sm (CV.len (PF k 7)) (fun j => area (CV.len (CV.el (PF k 7) j 0)) (pt (CV.el (CV.el (PF k 7) j 0)))) ≤ 0 := sm_le_zero fun j hj => by have := (S.hole j hj).neg; omega
  show area (CV.len (PF k 6)) (pt (CV.el (PF k 6))) + sm (CV.len (PF k 7)) (fun j => area (CV.len (CV.el (PF k 7) j 0)) (pt (CV.el (CV.el (PF k 7) j 0)))) ≤ _
  omega
 ·have : area2P PF k = 0 := by
   unfold area2P F18
   rw [e1, ob_some, bif_t (by simpa using h)]; rfl
  omega
def uterm (P : Nat) (PF S : FF') (j : Nat) : Int := bif decide (fd P PF (CV.str (S j 0)) < 0) then 0 else area2P PF (pk P PF (sp S j))
theorem uterm_bd {P : Nat} {PF S : FF'} (hP : FewP P PF) (j : Nat) : 0 ≤ uterm P PF S j ∧ uterm P PF S j ≤ 68719476736 := by
 unfold uterm
 by_cases h : fd P PF (CV.str (S j 0)) < 0
 ·rw [bif_t (decide_eq_true h)]; omega
 ·rw [bif_f (decide_eq_false h)]
  exact area2P_bd hP (Own.pk_lt (s := sp S j) (show 0 ≤ fd P PF (CV.str (S j 0)) by omega)).1
theorem sm_tail (n : Nat) (f : Nat → Int) : sm (n + 1) f = f 0 + sm n fun i => f (i + 1) := by
 have := sm_shift n f
 rw [sm]; omega
theorem ua_sum {P : Nat} {PF S : FF'} (hP : FewP P PF) : ∀ (m j : Nat) (acc : Int), m ≤ 40 → 0 ≤ acc → acc ≤ 68719476736 * (40 - (m : Int)) → ua P PF S acc m j = acc + sm m fun i => uterm P PF S (j + i)
 | 0, j, acc, _, _, _ => by show acc = acc + 0; omega
 | m + 1, j, acc, hm, h0, h1 => by
  have b := uterm_bd (S := S) hP j
  have hstep : (bif decide (fd P PF (CV.str (S j 0)) < 0) then acc else w64 (acc + area2P PF (pk P PF (sp S j)))) = acc + uterm P PF S j := by
   unfold uterm at b ⊢
   by_cases h : fd P PF (CV.str (S j 0)) < 0
   ·rw [bif_t (decide_eq_true h), bif_t (decide_eq_true h)]; omega
   ·rw [bif_f (decide_eq_false h)] at b
    rw [bif_f (decide_eq_false h), bif_f (decide_eq_false h), w64_of (by omega) (by omega)]
  unfold ua
  rw [hstep, ua_sum hP m (j + 1) _ (by omega) (by omega) (by omega), sm_tail m fun i => uterm P PF S (j + i)]
  have : sm m (fun i => uterm P PF S (j + 1 + i)) = sm m fun i => uterm P PF S (j + (i + 1)) := sm_congr fun i _ => by rw [show j + 1 + i = j + (i + 1) from by omega]
  rw [this]
  show _ = acc + (uterm P PF S (j + 0) + _)
  rw [Nat.add_zero]; omega
theorem used_sum {P n : Nat} {PF S : FF'} (hP : FewP P PF) (hn : n ≤ 32) : used P PF S n = sm n (uterm P PF S) := by
 unfold used
 rw [bif_f (decide_eq_false (by simp; omega)), ua_sum hP n 0 0 (by omega) (by omega) (by omega), Int.zero_add]
 exact sm_congr fun i _ => by rw [Nat.zero_add]
theorem sm_bound {n : Nat} {f : Nat → Int} {B : Int} (h : ∀ i, i < n → f i ≤ B) : sm n f ≤ B * n := by
 induction n with
 | zero => simp [sm]
 | succ n ih =>
  have := ih fun i hi => h i (by omega)
  have := h n (by omega)
  rw [sm]
  have e : B * ((n + 1 : Nat) : Int) = B * n + B := by rw [Int.natCast_add]; grind
  omega
theorem used_bd {P n : Nat} {PF S : FF'} (hP : FewP P PF) : 0 ≤ used P PF S n ∧ used P PF S n ≤ 2199023255552 := by
 by_cases hn : n ≤ 32
 ·rw [used_sum hP hn]
  refine ⟨sm_nonneg fun i _ => (uterm_bd hP i).1, ?_⟩
  have := sm_bound (n := n) fun i _ => (uterm_bd (S := S) hP i).2
  omega
 ·unfold used
  rw [bif_t (decide_eq_true (by simp; omega))]; omega
def yld (P : Nat) (PF S : FF') (L W : Int) (n : Nat) : Int := if 1 ≤ L ∧ L ≤ 32768 ∧ 1 ≤ W ∧ W ≤ 32768 then Int.tdiv (used P PF S n * 1000) (2 * L * W) else 0
theorem yield_both {P n : Nat} {PF S : FF'} (hP : FewP P PF) (a a1 a2 a3 : ByteArray) (gap th L W : Int) : F186 100 a gap n S a1 a2 th L W a3 P PF = some (yld P PF S L W n) ∧ F193 100 a gap n S a1 a2 th L W a3 P PF = some (yld P PF S L W n) := by
 unfold F186 F193 yld
 by_cases h1 : L < 1
 ·rw [decide_eq_true h1, if_neg (by omega)]; exact ⟨rfl, rfl⟩
 ·by_cases h2 : L > 32768
  ·rw [decide_eq_false h1, decide_eq_true h2, if_neg (by omega)]; exact ⟨rfl, rfl⟩
  ·by_cases h3 : W < 1
   ·rw [decide_eq_false h1, decide_eq_false h2, decide_eq_true h3, if_neg (by omega)]; exact ⟨rfl, rfl⟩
   ·by_cases h4 : W > 32768
    ·rw [decide_eq_false h1, decide_eq_false h2, decide_eq_false h3, decide_eq_true h4, if_neg (by omega)]; exact ⟨rfl, rfl⟩
    ·rw [decide_eq_false h1, decide_eq_false h2, decide_eq_false h3, decide_eq_false h4, if_pos (by omega)]
     obtain ⟨u1, u2⟩ := used_both P n PF S hP a gap
     obtain ⟨b1, b2⟩ := used_bd (n := n) (S := S) hP
     have hLW : 0 < L * W := Int.mul_pos (by omega) (by omega)
     have hLW2 : L * W ≤ 1073741824 := by
      have h5 := Int.mul_le_mul_of_nonneg_right (show L ≤ 32768 by omega) (show 0 ≤ W by omega)
      omega
     have e1 : w64 (2 * L) = 2 * L := w64_of (by omega) (by omega)
     have e2 : w64 (2 * L * W) = 2 * L * W := by rw [Int.mul_assoc]; exact w64_of (by omega) (by omega)
     have e3 : w64 (used P PF S n * 1000) = used P PF S n * 1000 := w64_of (by omega) (by omega)
     have e0 : 0 < 2 * L * W := by rw [Int.mul_assoc]; omega
     have ez : (2 * L * W == 0) = false := by simp; omega
     have hq0 : 0 ≤ Int.tdiv (used P PF S n * 1000) (2 * L * W) := Int.tdiv_nonneg (by omega) (by omega)
     have hq1 : Int.tdiv (used P PF S n * 1000) (2 * L * W) ≤ used P PF S n * 1000 := Int.tdiv_le_self _ (by omega)
     have e4 : w64 (Int.tdiv (used P PF S n * 1000) (2 * L * W)) = Int.tdiv (used P PF S n * 1000) (2 * L * W) := w64_of (by omega) (by omega)
     have hr0 : 0 ≤ Int.tmod (used P PF S n * 1000) (2 * L * W) := Int.tmod_nonneg _ (by omega)
     have tf : (false == false) = true := rfl
     rw [tf, bif_t rfl, bif_t rfl, bif_t rfl, bif_f rfl, bif_t rfl, bif_t rfl, bif_t rfl, bif_f rfl, u1, u2, ob_some, ob_some, e1, e2, e3, ez, bif_f rfl, e4]
     refine ⟨?_, rfl⟩
     unfold F185 F184
     rw [ez, bif_f rfl, bif_f (show ((used P PF S n * 1000 == -9223372036854775808) == true) = false by simp; omega), bif_f rfl, bif_f rfl, ob_some, e4]
     dsimp only
     rw [decide_eq_false (show ¬ Int.tmod (used P PF S n * 1000) (2 * L * W) < 0 by omega), decide_eq_false (show ¬ 2 * L * W < 0 by omega)]
     cases ((Int.tmod (used P PF S n * 1000) (2 * L * W) != 0) == true) <;> rfl
end Go.Eng.R13
/-
 NestShapes: the plain law.
-/
set_option linter.all false
namespace Go.Eng.R13
open Go Go.RowKit Go.Eng Geo
theorem same190 {n : Nat} {f g : FF'} (hn : n ≤ 40) (h : ∀ j, j < n → pt g j = pt f j) : F190 100 n f n g = some true := by
 have K : ∀ m i, n < m + i → i ≤ n → L190v1 100 n f n g m (Int.ofNat i) (some false) (some true) = some true := by
  intro m
  induction m with
  | zero => intro i h1 h2; omega
  | succ m ih =>
   intro i h1 h2
   unfold L190v1
   rw [lt_nat, inb_nat, toNat_nat]
   by_cases hi : i < n
   ·have e1 : CV.int (g i 0) = CV.int (f i 0) := congrArg Prod.fst (h i hi)
    have e2 : CV.int (g i 1) = CV.int (f i 1) := congrArg Prod.snd (h i hi)
    rw [bif_t (decide_eq_true hi), bif_t (decide_eq_true hi), bif_t (decide_eq_true hi), e1, e2, bif_f (by simp), w64_succ (by omega)]
    exact ih (i + 1) (by omega) (by omega)
   ·rw [bif_f (decide_eq_false hi)]
 unfold F190
 rw [bif_f (by simp)]
 exact K 100 0 (by omega) (by omega)
def SameL (n : Nat) (G H : FF') : Prop := ∀ t, t < n → (sh H t).1 = (sh G t).1 ∧ (sh H t).2.2.1 = (sh G t).2.2.1 ∧ Small (sh G t).1 (sh G t).2.2.1 (sh G t).2.2.2 ∧ Mv (fun p => p) (sh G t).1 (sh G t).2.1 (sh G t).2.2.1 (sh G t).2.2.2 (sh H t).2.1 (sh H t).2.2.2
theorem same191_2 {ρ : Type} (n : Nat) (G H : FF') (hS : SameL n G H) (i : Nat) (hi : i < n) (k0 k1 : Option ρ) : ∀ m j, CV.len (G i 1) < m + j → j ≤ CV.len (G i 1) → L191v2 100 n G n H (Int.ofNat i) m (Int.ofNat j) k0 k1 = k1 := by
 obtain ⟨e1, e2, e3, e4⟩ := hS i hi
 have e2' : CV.len (H i 1) = CV.len (G i 1) := e2
 have hs : CV.len (G i 1) ≤ 12 := e3.2.1
 intro m
 induction m with
 | zero => intro j h1 h2; omega
 | succ m ih =>
  intro j h1 h2
  unfold L191v2
  rw [inb_nat, toNat_nat, lt_nat, inb_nat, inb_nat, toNat_nat, bif_t (decide_eq_true hi)]
  by_cases hj : j < CV.len (G i 1)
  ·rw [bif_t (decide_eq_true hj), bif_t (decide_eq_true hi), bif_t (decide_eq_true hj), bif_t (decide_eq_true hi), e2', bif_t (decide_eq_true hj)]
   have hl : CV.len (CV.el (H i 1) j 0) = CV.len (CV.el (G i 1) j 0) := e4.len j hj
   have hq : F190 100 (CV.len (CV.el (G i 1) j 0)) (CV.el (CV.el (G i 1) j 0)) (CV.len (CV.el (G i 1) j 0)) (CV.el (CV.el (H i 1) j 0)) = some true := same190 (e3.2.2 j hj) (e4.hole j hj)
   rw [hl, hq, ob_some, bif_f (by rfl), w64_succ (by omega)]
   exact ih (j + 1) (by omega) (by omega)
  ·rw [bif_f (decide_eq_false hj)]
theorem same191 (n : Nat) (G H : FF') (hn : n ≤ 90) (hS : SameL n G H) : F191 100 n G n H = some true := by
 have K : ∀ m i, n < m + i → i ≤ n → L191v3 100 n G n H m (Int.ofNat i) (some false) (some true) = some true := by
  intro m
  induction m with
  | zero => intro i h1 h2; omega
  | succ m ih =>
   intro i h1 h2
   unfold L191v3
   rw [lt_nat, inb_nat, toNat_nat]
   by_cases hi : i < n
   ·obtain ⟨e1, e2, e3, e4⟩ := hS i hi
    have e1' : CV.len (H i 0) = CV.len (G i 0) := e1
    have e2' : CV.len (H i 1) = CV.len (G i 1) := e2
    have hq : F190 100 (CV.len (G i 0)) (CV.el (G i 0)) (CV.len (G i 0)) (CV.el (H i 0)) = some true := same190 e3.1 e4.outer
    have hs : CV.len (G i 1) ≤ 12 := e3.2.1
    rw [bif_t (decide_eq_true hi), bif_t (decide_eq_true hi), bif_t (decide_eq_true hi), e1', hq, ob_some, bif_t (by rfl), bif_t (decide_eq_true hi), bif_t (decide_eq_true hi), e2', bif_f (by simp), w64_succ (by omega)]
    rw [show L191v2 100 n G n H (Int.ofNat i) 100 0 (some false) (L191v3 100 n G n H m (Int.ofNat (i + 1)) (some false) (some true)) = L191v3 100 n G n H m (Int.ofNat (i + 1)) (some false) (some true) from same191_2 n G H hS i hi _ _ 100 0 (by omega) (by omega)]
    exact ih (i + 1) (by omega) (by omega)
   ·rw [bif_f (decide_eq_false hi)]
 unfold F191
 rw [bif_f (by simp)]
 exact K 100 0 (by omega) (by omega)
def mw (P : Nat) (PF : FF') (s : Sp) : Sh := mvr PF (pk P PF s) s
theorem shapes189_loop {ρ : Type} (P n : Nat) (PF S : FF') (hP : FewP P PF) (hn : n ≤ 90) (a : ByteArray) (b : Int) (k0 : Int → Option ρ) (k1 : Nat → FF' → Option ρ) : ∀ (m j : Nat) (G : FF'), n < m + j → j ≤ n → (∀ t, t < j → sh G t = mw P PF (sp S t)) →
  (scan (scode P PF S) (n - j) j ≠ 0 ∧ L189v1 100 P PF a b n S m j (Int.ofNat j) G k0 k1 = k0 (scan (scode P PF S) (n - j) j)) ∨
  (scan (scode P PF S) (n - j) j = 0 ∧ ∃ G', L189v1 100 P PF a b n S m j (Int.ofNat j) G k0 k1 = k1 n G' ∧ ∀ t, t < n → sh G' t = mw P PF (sp S t)) := by
 have hP' := hP.parts
 intro m
 induction m with
 | zero => intro j G h1 h2; omega
 | succ m ih =>
  intro j G h1 h2 hG
  unfold L189v1
  rw [lt_nat, inb_nat, toNat_nat]
  by_cases h : j < n
  ·have hsc : scan (scode P PF S) (n - j) j = bif scode P PF S j != 0 then scode P PF S j else scan (scode P PF S) (n - (j + 1)) (j + 1) := by
    rw [show n - j = (n - (j + 1)) + 1 from by omega]; rfl
   generalize hz : scan (scode P PF S) (n - j) j = z at *
   rw [bif_t (decide_eq_true h), bif_t (decide_eq_true h), find176 _ _ _ (by omega), ob_some]
   rcases fd_cases P PF (CV.str (S j 0)) with hf | ⟨k, hk, hf, _⟩
   ·rw [hf, bif_t (by rfl)]
    have : scode P PF S j = 8 := by unfold scode; rw [hf]; rfl
    rw [this, bif_t (by rfl)] at hsc
    subst hsc
    exact .inl ⟨by decide, rfl⟩
   ·have hpk : pk P PF (sp S j) = k := by unfold pk sp; rw [hf]; rfl
    rw [hf, bif_f (decide_eq_false (by simp)), bif_t (decide_eq_true h), placed178, ob_some, show (CV.str (S j 0), CV.int (S j 1), CV.int (S j 2), CV.int (S j 3), CV.bool (S j 4)) = sp S j from rfl]
    have hc : scode P PF S j = bif !(placed (sp S j)) then 9 else 0 := by unfold scode; rw [hf, bif_f (decide_eq_false (by simp))]
    cases hp : placed (sp S j) with
    | false =>
     rw [hp] at hc
     rw [hc, bif_t (by rfl)] at hsc
     have hsc : z = 9 := hsc
     subst hsc
     rw [bif_t (by rfl)]
     exact .inl ⟨by decide, rfl⟩
    | true =>
     rw [hp] at hc
     obtain ⟨_, mE, _, _, _, _⟩ := mvt_law hP hk (sp S j)
     have mE' : F26 100 (CV.len (PF k 6)) (CV.el (PF k 6)) (CV.len (PF k 7)) (CV.el (PF k 7)) (CV.str (S j 0)) (CV.int (S j 1)) (CV.int (S j 2)) (CV.int (S j 3)) (CV.bool (S j 4)) = some (mw P PF (sp S j)) := by
      rw [show mw P PF (sp S j) = mvr PF k (sp S j) from by unfold mw; rw [hpk]]; exact mE
     rw [hc, bif_f (by rfl)] at hsc
     subst hsc
     rw [bif_f (by rfl), inb_nat, toNat_nat, bif_t (decide_eq_true hk), bif_t (decide_eq_true h), mE', ob_some, bif_t (ble_ok (by omega)), w64_succ (by omega)]
     refine ih (j + 1) _ (by omega) (by omega) fun t ht => ?_
     by_cases e : t = j
     ·subst e
      unfold sh
      rw [joinF_new _ _ _ _ _ (Nat.le_refl t), joinF_new _ _ _ _ _ (Nat.le_refl t), Nat.sub_self]
      rfl
     ·have := hG t (by omega)
      unfold sh at this ⊢
      rw [joinF_old _ _ _ _ _ (by omega), joinF_old _ _ _ _ _ (by omega)]
      exact this
  ·rw [bif_f (decide_eq_false h), show n - j = 0 from by omega]
   have : j = n := by omega
   subst this
   exact .inr ⟨rfl, G, rfl, hG⟩
theorem shapes189 (P n : Nat) (PF S : FF') (hP : FewP P PF) (hn : n ≤ 90) (a : ByteArray) (b : Int) : ∃ N G e, F189 100 a b n S P PF = some (N, G, e) ∧ e = scan (scode P PF S) n 0 ∧ (e ≠ 0 → N = 0) ∧ (e = 0 → N = n ∧ ∀ t, t < n → sh G t = mw P PF (sp S t)) := by
 unfold F189 FT189
 rcases shapes189_loop P n PF S hP hn a b (fun x29 => (some (true, 0, (fun _ _ => .any), x29))) (fun x30 x31 => (some (false, x30, x31, 0))) 100 0 (fun _ _ => .any) (by omega) (by omega) (fun t ht => by omega) with ⟨h1, h2⟩ | ⟨h1, G, h2, h3⟩
 ·rw [show L189v1 100 P PF a b n S 100 0 0 (fun _ _ => .any) _ _ = _ from h2, ob_some]
  exact ⟨0, _, _, rfl, rfl, fun _ => rfl, fun h => absurd h h1⟩
 ·rw [show L189v1 100 P PF a b n S 100 0 0 (fun _ _ => .any) _ _ = _ from h2, ob_some]
  exact ⟨n, G, 0, rfl, h1.symm, fun h => absurd rfl h, fun _ => ⟨rfl, h3⟩⟩
theorem shapes23 (g : Nat → CV) (_ : RowIn kR0 g) : F194 100 g = some true := by
 unfold F194
 obtain ⟨r, r1, r2⟩ := few168 g
 rw [r1, ob_some]
 cases r with
 | false => rw [bif_t (by rfl), awake23, ob_some]
 | true =>
  rw [bif_f (by rfl)]
  obtain ⟨h40, hP⟩ := r2 rfl
  obtain ⟨N, G, e, a1, a2, a3, a4⟩ := shapes175 (CV.len (g 9)) (CV.len (g 2)) (CV.el (g 9)) (CV.el (g 2)) hP (by omega) (CV.str (g 0)) (CV.int (g 1))
  obtain ⟨M, H, f, b1, b2, b3, b4⟩ := shapes189 (CV.len (g 9)) (CV.len (g 2)) (CV.el (g 9)) (CV.el (g 2)) hP (by omega) (CV.str (g 0)) (CV.int (g 1))
  have hef : f = e := b2.trans a2.symm
  subst hef
  obtain ⟨u1, u2⟩ := used_both (CV.len (g 9)) (CV.len (g 2)) (CV.el (g 9)) (CV.el (g 2)) hP (CV.str (g 0)) (CV.int (g 1))
  obtain ⟨y1, y2⟩ := yield_both (n := CV.len (g 2)) (S := CV.el (g 2)) hP (CV.str (g 0)) (CV.str (g 3)) (CV.str (g 4)) (CV.str (g 8)) (CV.int (g 1)) (CV.int (g 5)) (CV.int (g 6)) (CV.int (g 7))
  have hs : F191 100 N G M H = some true := by
   by_cases hf : f = 0
   ·obtain ⟨c1, c2⟩ := a4 hf
    obtain ⟨d1, d2⟩ := b4 hf
    rw [c1, d1]
    refine same191 _ G H (by omega) fun t ht => ?_
    rw [c2 t ht, d2 t ht]
    have hc := scode_cases.1 (scan_zero.1 (a2.symm.trans hf) t (by omega) (by omega))
    obtain ⟨_, _, q3, q4, q5, q6⟩ := mvt_law hP (Own.pk_lt (s := sp (CV.el (g 2)) t) hc.1).1 (sp (CV.el (g 2)) t)
    exact ⟨q3, q4, q6.small, q5⟩
   ·rw [a3 hf, b3 hf]
    exact same191 0 G H (by omega) fun t ht => by omega
  rw [a1, ob_some, b1, ob_some]
  dsimp only
  rw [hs, ob_some, u1, u2, ob_some, ob_some, y1, y2, ob_some, ob_some, awake23, ob_some]
  simp
end Go.Eng.R13
