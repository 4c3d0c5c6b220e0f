/-
 When a shape is clear of another.
-/
import Derived.Test.YtmpnfnngjeojlaaPlPlace
import Derived.Test.YtmpnfnngjeojlaaPlRoot
set_option linter.all false
namespace Go.Eng.R13
open Go Go.RowKit Go.Eng Geo
def Close (g : Int) (a b c d : Pt) : Prop := Meet a b c d ∨ Near a c d g ∨ Near b c d g ∨ Near c a b g ∨ Near d a b g
instance (g : Int) (a b c d : Pt) : Decidable (Close g a b c d):=by unfold Close;infer_instance
theorem close55 {x1 x2 x3 x4 x5 x6 x7 x8 g : Int} (ha : nr x1 x2) (hb : nr x3 x4) (hc : nr x5 x6) (hd : nr x7 x8) (hg : 0 ≤ g) (hg' : g ≤ 1000) : F55 100 x1 x2 x3 x4 x5 x6 x7 x8 (listF [(.i .i64 g)]) = some (decide (Close g (x1,x2) (x3,x4) (x5,x6) (x7,x8))):=by
 unfold F55
 rw [show CV.int (listF [(.i .i64 g)] 0) = g from rfl,meet56 ha hb hc hd,near57 ha hc hd hg hg',near57 hb hc hd hg hg',near57 hc ha hb hg hg',near57 hd ha hb hg hg']
 simp only [ob_some]
 have e : decide (Close g (x1,x2) (x3,x4) (x5,x6) (x7,x8)) = (decide (Meet (x1,x2) (x3,x4) (x5,x6) (x7,x8)) || (decide (Near (x1,x2) (x5,x6) (x7,x8) g) || (decide (Near (x3,x4) (x5,x6) (x7,x8) g) || (decide (Near (x5,x6) (x1,x2) (x3,x4) g) || decide (Near (x7,x8) (x1,x2) (x3,x4) g))))):=by
  rw [Bool.eq_iff_iff]
  simp only [Bool.or_eq_true,decide_eq_true_iff]
  exact Iff.rfl
 rw [e]
 generalize decide (Meet (x1,x2) (x3,x4) (x5,x6) (x7,x8)) = b1
 generalize decide (Near (x1,x2) (x5,x6) (x7,x8) g) = b2
 generalize decide (Near (x3,x4) (x5,x6) (x7,x8) g) = b3
 generalize decide (Near (x5,x6) (x1,x2) (x3,x4) g) = b4
 generalize decide (Near (x7,x8) (x1,x2) (x3,x4) g) = b5
 cases b1 <;> cases b2 <;> cases b3 <;> cases b4 <;> cases b5 <;> rfl
def Ex (n : Nat) (P : Nat → Prop) (i : Nat) : Prop := ∃ k,i ≤ k ∧ k < n ∧ P k
theorem Ex.here {n : Nat} {P : Nat → Prop} {i : Nat} (h : i < n) (hp : P i) : Ex n P i := ⟨i,Nat.le_refl i,h,hp⟩
theorem Ex.step {n : Nat} {P : Nat → Prop} {i : Nat} (h : ¬ P i) : Ex n P i ↔ Ex n P (i + 1):=by
 refine ⟨fun ⟨j,a,b,c⟩ => ⟨j,?_,b,c⟩,fun ⟨j,a,b,c⟩ => ⟨j,by omega,b,c⟩⟩
 by_cases e : j = i
 ·subst e;exact absurd c h
 ·omega
theorem Ex.none {n : Nat} {P : Nat → Prop} {i : Nat} (h : ¬ i < n) : ¬ Ex n P i:=fun ⟨j,a,b,_⟩ => by omega
theorem Ex.zero {n : Nat} {P : Nat → Prop} : Ex n P 0 ↔ ∃ k,k < n ∧ P k := ⟨fun ⟨k,_,a,b⟩ => ⟨k,a,b⟩,fun ⟨k,a,b⟩ => ⟨k,Nat.zero_le k,a,b⟩⟩
theorem close58_2 {ρ : Type} (n n' i : Nat) (f g : Nat → Nat → CV) (gap : Int) (hg : 0 ≤ gap) (hg' : gap ≤ 1000) (hn : n ≤ 32) (hn' : n' ≤ 32) (h0 : 3 ≤ n) (h0' : 3 ≤ n') (hi : i < n) (hA : AllNr n f) (hB : AllNr n' g) (c : Int) (a : Int → Int → Option ρ) (k0 k1 : Option ρ) (ha : ∀ x y,a x y = k0) : ∀ (m k : Nat),n' < m + k → k ≤ n' →
  (Ex n' (fun k => Close gap (pt f i) (pt f (nx n i)) (pt g k) (pt g (nx n' k))) k → L58bv2 100 n f n' g (listF [(.i .i64 gap)]) (Int.ofNat i) c (Int.ofNat n') (CV.int (f i 0)) (CV.int (f i 1)) m (Int.ofNat k) a k1 = k0) ∧
  (¬ Ex n' (fun k => Close gap (pt f i) (pt f (nx n i)) (pt g k) (pt g (nx n' k))) k → L58bv2 100 n f n' g (listF [(.i .i64 gap)]) (Int.ofNat i) c (Int.ofNat n') (CV.int (f i 0)) (CV.int (f i 1)) m (Int.ofNat k) a k1 = k1):=by
 intro m
 induction m with
 | zero => intro k h1 h2;omega
 | succ m ih =>
  intro k h1 h2
  unfold L58bv2
  rw [lt_nat,inb_nat,toNat_nat]
  by_cases h : k < n'
  ·have hx : nx n i < n := nx_lt h0
   have hy : nx n' k < n' := nx_lt h0'
   have e1 : (i + 1) % n = nx n i := rfl
   have e2 : (k + 1) % n' = nx n' k := rfl
   rw [bif_t (by simpa using h),bif_t (by simpa using h),bif_f (ofNat_ne0 (by omega)),w64_succ (i := i) (by omega),w64_succ (i := k) (by omega),tmod_nat,tmod_nat,inb_nat,inb_nat,toNat_nat,toNat_nat,e1,e2,
    bif_t (by simpa using hx),bif_f (ofNat_ne0 (by omega)),bif_t (by simpa using hy),close55 (hA i hi) (hA _ hx) (hB k h) (hB _ hy) hg hg',ob_some]
   by_cases hM : Close gap (pt f i) (pt f (nx n i)) (pt g k) (pt g (nx n' k))
   ·rw [bif_t (decide_eq_true hM),ha]
    exact ⟨fun _ => rfl,fun hh => absurd (Ex.here h hM) hh⟩
   ·rw [bif_f (decide_eq_false hM),Ex.step hM]
    exact ih (k + 1) (by omega) (by omega)
  ·rw [bif_f (by simpa using h)]
   exact ⟨fun hh => absurd hh (Ex.none h),fun _ => rfl⟩
def CloseI (gap : Int) (n n' : Nat) (f g : Nat → Nat → CV) (i : Nat) : Prop := Ex n' (fun k => Close gap (pt f i) (pt f (nx n i)) (pt g k) (pt g (nx n' k))) 0
theorem close58_3 (n n' : Nat) (f g : Nat → Nat → CV) (gap : Int) (hg : 0 ≤ gap) (hg' : gap ≤ 1000) (hn : n ≤ 32) (hn' : n' ≤ 32) (h0 : 3 ≤ n) (h0' : 3 ≤ n') (hA : AllNr n f) (hB : AllNr n' g) : ∀ (m i : Nat),n < m + i → i ≤ n →
  ∃ r,L58bv3 100 n f n' g (listF [(.i .i64 gap)]) (Int.ofNat n) m (Int.ofNat i) (fun _ _ _ _ => some true) (some false) = some r ∧ (r = true ↔ Ex n (CloseI gap n n' f g) i):=by
 intro m
 induction m with
 | zero => intro i h1 h2;omega
 | succ m ih =>
  intro i h1 h2
  unfold L58bv3
  rw [lt_nat,inb_nat,toNat_nat]
  by_cases h : i < n
  ·obtain ⟨m1,m2⟩ := close58_2 n n' i f g gap hg hg' hn hn' h0 h0' h hA hB (Int.ofNat n) (fun _ _ => some true) (some true) (L58bv3 100 n f n' g (listF [(.i .i64 gap)]) (Int.ofNat n) m (Int.ofNat (i + 1)) (fun _ _ _ _ => some true) (some false)) (fun _ _ => rfl) 100 0 (by omega) (by omega)
   rw [bif_t (by simpa using h),bif_t (by simpa using h),w64_succ (by omega),show (0 : Int) = Int.ofNat 0 from rfl]
   by_cases hT : CloseI gap n n' f g i
   ·rw [m1 hT]
    exact ⟨true,rfl,fun _ => Ex.here h hT,fun _ => rfl⟩
   ·rw [m2 hT,Ex.step hT]
    exact ih (i + 1) (by omega) (by omega)
  ·rw [bif_f (by simpa using h)]
   exact ⟨false,rfl,fun hh => (by cases hh),fun hh => absurd hh (Ex.none h)⟩
def CloseC (gap : Int) (n n' : Nat) (f g : Nat → Nat → CV) : Prop := ∃ i,i < n ∧ ∃ k,k < n' ∧ Close gap (pt f i) (pt f (nx n i)) (pt g k) (pt g (nx n' k))
theorem close58 (n n' : Nat) (f g : Nat → Nat → CV) (gap : Int) (hg : 0 ≤ gap) (hg' : gap ≤ 1000) (V : Valid n f) (W : Valid n' g) : ∃ r,F58b 100 n f n' g (listF [(.i .i64 gap)]) = some r ∧ (r = true ↔ CloseC gap n n' f g):=by
 have := V.small
 unfold F58b
 obtain ⟨r,h1,h2⟩ := close58_3 n n' f g gap hg hg' V.small W.small V.big W.big V.near W.near 100 0 (by omega) (by omega)
 refine ⟨r,h1,h2.trans (Ex.zero.trans ?_)⟩
 simp only [CloseI,Ex.zero,CloseC]
def cf (n1 : Nat) (f1 f2 : Nat → Nat → CV) : Nat → Nat → CV := joinF 1 (rowsF 1 [(.ro false (.pr (.int .i64) (.pr (.int .i64) .nil)) n1 f1)]) f2
theorem cf_valid {n1 : Nat} {f1 : Nat → Nat → CV} {n2 : Nat} {f2 : Nat → Nat → CV} (S : VShape n1 f1 n2 f2) {j : Nat} (h : j < 1 + n2) : Valid (CV.len (cf n1 f1 f2 j 0)) (CV.el (cf n1 f1 f2 j 0)):=by
 cases j with
 | zero => exact S.outer
 | succ j =>
  have e : cf n1 f1 f2 (j + 1) 0 = f2 j 0:=by
   unfold cf joinF
   rw [bif_f (by cases hq : Nat.blt (j + 1) 1 with | false => rfl | true => simp [Nat.blt_eq] at hq)]
   rfl
  rw [e]
  exact (S.hole j (by omega)).valid
theorem cont42 {n1 : Nat} {f1 : Nat → Nat → CV} {n2 : Nat} {f2 : Nat → Nat → CV} (h : n2 ≤ 8) : F42 100 n1 f1 n2 f2 = some (1 + n2,cf n1 f1 f2):=by
 unfold F42
 rw [bif_t (by rw [Nat.ble_eq];omega)]
 rfl
abbrev cl (F : Nat → Nat → CV) (i : Nat) : Nat := CV.len (F i 0)
abbrev ce (F : Nat → Nat → CV) (i : Nat) : Nat → Nat → CV := CV.el (F i 0)
theorem clear27_2 {ρ : Type} (N i : Nat) (F G : Nat → Nat → CV) (gap : Int) (hg : 0 ≤ gap) (hg' : gap ≤ 1000) (hN : N ≤ 9) (hV : Valid (cl F i) (ce F i)) (hW : ∀ j,j < N → Valid (cl G j) (ce G j)) (c0 : Nat) (c1 : Nat → Nat → CV) (c2 c3 : Int) (a1 a3 b1 b3 : Nat) (a2 a4 b2 b4 : Nat → Nat → CV) (k0 k1 : Option ρ) : ∀ (m k : Nat),N < m + k → k ≤ N →
  (Ex N (fun k => CloseC gap (cl F i) (cl G k) (ce F i) (ce G k)) k → L27v2 100 (cl F i) (ce F i) c0 c1 c2 c3 N G (Int.ofNat N) a1 a2 a3 a4 b1 b2 b3 b4 gap m (Int.ofNat k) k0 k1 = k0) ∧
  (¬ Ex N (fun k => CloseC gap (cl F i) (cl G k) (ce F i) (ce G k)) k → L27v2 100 (cl F i) (ce F i) c0 c1 c2 c3 N G (Int.ofNat N) a1 a2 a3 a4 b1 b2 b3 b4 gap m (Int.ofNat k) k0 k1 = k1):=by
 intro m
 induction m with
 | zero => intro k h1 h2;omega
 | succ m ih =>
  intro k h1 h2
  unfold L27v2
  rw [lt_nat,inb_nat,toNat_nat]
  by_cases h : k < N
  ·obtain ⟨r,hr,hr'⟩ := close58 (cl F i) (cl G k) (ce F i) (ce G k) gap hg hg' hV (hW k h)
   rw [bif_t (decide_eq_true h),bif_t (decide_eq_true h),hr,ob_some,w64_succ (by omega)]
   by_cases hM : CloseC gap (cl F i) (cl G k) (ce F i) (ce G k)
   ·rw [bif_t (hr'.2 hM)]
    exact ⟨fun _ => rfl,fun hh => absurd (Ex.here (P:=fun k => CloseC gap (cl F i) (cl G k) (ce F i) (ce G k)) h hM) hh⟩
   ·rw [bif_f (Bool.eq_false_iff.2 fun hh => hM (hr'.1 hh)),Ex.step (P:=fun k => CloseC gap (cl F i) (cl G k) (ce F i) (ce G k)) hM]
    exact ih (k + 1) (by omega) (by omega)
  ·rw [bif_f (decide_eq_false h)]
   exact ⟨fun hh => absurd hh (Ex.none h),fun _ => rfl⟩
def CloseS (gap : Int) (N : Nat) (F G : Nat → Nat → CV) (i : Nat) : Prop := Ex N (fun k => CloseC gap (cl F i) (cl G k) (ce F i) (ce G k)) 0
theorem clear27_3 (M : Nat) (F : Nat → Nat → CV) (n1 n2 m1 m2 : Nat) (f1 f2 g1 g2 : Nat → Nat → CV) (gap : Int) (hg : 0 ≤ gap) (hg' : gap ≤ 1000) (hM : M ≤ 9) (hV : ∀ j,j < M → Valid (cl F j) (ce F j)) (S : VShape m1 g1 m2 g2) : ∀ (m i : Nat),M < m + i → i ≤ M →
  ∃ r,L27v3 100 M F (Int.ofNat M) n1 f1 n2 f2 m1 g1 m2 g2 gap m (Int.ofNat i) (some false) (some true) = some r ∧ (r = false ↔ Ex M (CloseS gap (1 + m2) F (cf m1 g1 g2)) i):=by
 intro m
 have few := S.few
 induction m with
 | zero => intro i h1 h2;omega
 | succ m ih =>
  intro i h1 h2
  unfold L27v3
  rw [lt_nat,inb_nat,toNat_nat]
  by_cases h : i < M
  ·obtain ⟨p1,p2⟩ := clear27_2 (1 + m2) i F (cf m1 g1 g2) gap hg hg' (by omega) (hV i h) (fun j hj => cf_valid S hj) M F (Int.ofNat M) (Int.ofNat i) n1 n2 m1 m2 f1 f2 g1 g2 (some false) (L27v3 100 M F (Int.ofNat M) n1 f1 n2 f2 m1 g1 m2 g2 gap m (Int.ofNat (i + 1)) (some false) (some true)) 100 0 (by omega) (by omega)
   rw [bif_t (decide_eq_true h),bif_t (decide_eq_true h),cont42 few,ob_some,w64_succ (by omega),show (0 : Int) = Int.ofNat 0 from rfl]
   by_cases hT : CloseS gap (1 + m2) F (cf m1 g1 g2) i
   ·exact ⟨false,p1 hT,fun _ => Ex.here h hT,fun _ => rfl⟩
   ·obtain ⟨r,hr,hr'⟩ := ih (i + 1) (by omega) (by omega)
    refine ⟨r,(p2 hT).trans hr,?_⟩
    rw [Ex.step hT];exact hr'
  ·rw [bif_f (decide_eq_false h)]
   exact ⟨true,rfl,fun hh => (by cases hh),fun hh => absurd hh (Ex.none h)⟩
theorem place47_full {n1 : Nat} {f1 : Nat → Nat → CV} {n2 : Nat} {f2 : Nat → Nat → CV} (S : VShape n1 f1 n2 f2) (qx qy : Int) : ∃ z,F47 100 n1 f1 n2 f2 qx qy = some z ∧ F23 100 n1 f1 n2 f2 qx qy = some z ∧ F22 100 n1 f1 n2 f2 qx qy = some z ∧ IsPlace n1 f1 n2 f2 (qx,qy) z:=by
 obtain ⟨z,h1,h2,h3⟩ := place_full n1 f1 n2 f2 qx qy
 refine ⟨z,?_,h2,h1,h3 S⟩
 obtain ⟨c,c1,_,c3⟩ := shape_law n1 n2 f1 f2
 have hc := c3.2 S
 subst hc
 unfold F22 at h1
 rw [c1,ob_some] at h1
 have h2' : ob (F47 100 n1 f1 n2 f2 qx qy) (fun t => some t) = some z := h1
 cases hh : F47 100 n1 f1 n2 f2 qx qy with
 | none => rw [hh] at h2';cases h2'
 | some a => rw [hh] at h2';exact h2'
theorem place47_eq {n1 : Nat} {f1 : Nat → Nat → CV} {n2 : Nat} {f2 : Nat → Nat → CV} (S : VShape n1 f1 n2 f2) (qx qy : Int) : ∃ z,F47 100 n1 f1 n2 f2 qx qy = some z ∧ F23 100 n1 f1 n2 f2 qx qy = some z:=by
 obtain ⟨z,h1,h2,_⟩ := place47_full S qx qy
 exact ⟨z,h1,h2⟩
end Go.Eng.R13
