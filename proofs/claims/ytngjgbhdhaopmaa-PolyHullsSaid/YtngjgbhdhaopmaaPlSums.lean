/-
 RegionSums: the plain law.
-/
import Derived.Test.YtngjgbhdhaopmaaPlGreat
import Derived.Test.YtngjgbhdhaopmaaPlCheck
import Derived.Test.YtngjgbhdhaopmaaPlBounds
set_option linter.all false
namespace Go.Eng.R13
open Go Go.RowKit Go.Eng Geo
theorem joinF_o (n : Nat) (f g : Nat → Nat → CV) (j c : Nat) (h : j < n) : joinF n f g j c = f j c:=by
 unfold joinF
 rw [bif_t (by simpa [Nat.blt_eq] using h)]
theorem joinF_n (n : Nat) (f g : Nat → Nat → CV) (j c : Nat) (h : n ≤ j) : joinF n f g j c = g (j - n) c:=by
 unfold joinF
 rw [bif_f]
 cases hq : Nat.blt j n with
 | false => rfl
 | true => simp [Nat.blt_eq] at hq;omega
def Col (f : Nat → Nat → CV) (c : Nat) (g : Nat → Nat → CV) (i : Nat) : Prop := ∀ j,j < i → CV.int (g j 0) = CV.int (f j c)
theorem Col.snoc {f g : Nat → Nat → CV} {c i : Nat} (h : Col f c g i) : Col f c (joinF i g (rowsF 1 [.i .i64 (CV.int (f i c))])) (i + 1):=by
 intro j hj
 by_cases e : j = i
 ·subst e
  rw [joinF_n _ _ _ _ _ (Nat.le_refl j),Nat.sub_self];rfl
 ·rw [joinF_o _ _ _ _ _ (by omega)]
  exact h j (by omega)
theorem cols46 {ρ : Type} (n : Nat) (f : Nat → Nat → CV) (hn : n ≤ 60) (k : Nat → (Nat → Nat → CV) → (Nat → Nat → CV) → Option ρ) : ∀ (m i : Nat) (g h : Nat → Nat → CV),n < m + i → i ≤ n → Col f 0 g i → Col f 1 h i →
  ∃ g' h',L46v1 100 n f (Int.ofNat n) m i (Int.ofNat i) g h k = k n g' h' ∧ Col f 0 g' n ∧ Col f 1 h' n:=by
 intro m
 induction m with
 | zero => intro i g h h1 h2;omega
 | succ m ih =>
  intro i g h h1 h2 hg hh
  unfold L46v1
  rw [lt_nat,inb_nat,toNat_nat]
  by_cases hlt : i < n
  ·rw [bif_t (decide_eq_true hlt),bif_t (decide_eq_true hlt),w64_succ (by omega),bif_t (by rw [Nat.ble_eq];omega),bif_t (by rw [Nat.ble_eq];omega)]
   exact ih (i + 1) _ _ (by omega) (by omega) hg.snoc hh.snoc
  ·rw [bif_f (decide_eq_false hlt)]
   have : i = n:=by omega
   subst this
   exact ⟨g,h,rfl,hg,hh⟩
def Ext (z : Int) (g : Nat → Nat → CV) (i : Nat) (a b : Int) : Prop :=
 (a ≤ z ∧ z ≤ b ∧ ∀ j,j < i → a ≤ CV.int (g j 0) ∧ CV.int (g j 0) ≤ b) ∧ (a = z ∨ ∃ j,j < i ∧ CV.int (g j 0) = a) ∧ (b = z ∨ ∃ j,j < i ∧ CV.int (g j 0) = b)
theorem ext72 {ρ : Type} (n : Nat) (z : Int) (g : Nat → Nat → CV) (hn : n ≤ 60) (k : Int → Int → Option ρ) : ∀ (m i : Nat) (a b : Int),n < m + i → i ≤ n → Ext z g i a b → ∃ a' b',L72v1 100 n g (Int.ofNat n) m a b (Int.ofNat i) k = k a' b' ∧ Ext z g n a' b':=by
 intro m
 induction m with
 | zero => intro i a b h1 h2;omega
 | succ m ih =>
  intro i a b h1 h2 hE
  unfold L72v1
  rw [lt_nat,inb_nat,toNat_nat]
  by_cases hlt : i < n
  ·rw [bif_t (decide_eq_true hlt),bif_t (decide_eq_true hlt),w64_succ (by omega)]
   refine ih (i + 1) _ _ (by omega) (by omega) ?_
   obtain ⟨⟨e1,e2,e3⟩,e4,e5⟩ := hE
   refine ⟨⟨by split <;> omega,by split <;> omega,fun j hj => ?_⟩,?_,?_⟩
   ·by_cases e : j = i
    ·rw [e];constructor <;> split <;> omega
    ·have := e3 j (by omega)
     constructor <;> split <;> omega
   ·by_cases e : CV.int (g i 0) < a
    ·rw [if_pos e];exact .inr ⟨i,by omega,rfl⟩
    ·rw [if_neg e]
     rcases e4 with h | ⟨j,h,h'⟩
     ·exact .inl h
     ·exact .inr ⟨j,by omega,h'⟩
   ·by_cases e : CV.int (g i 0) > b
    ·rw [if_pos e];exact .inr ⟨i,by omega,rfl⟩
    ·rw [if_neg e]
     rcases e5 with h | ⟨j,h,h'⟩
     ·exact .inl h
     ·exact .inr ⟨j,by omega,h'⟩
  ·rw [bif_f (decide_eq_false hlt)]
   have : i = n:=by omega
   subst this
   exact ⟨a,b,rfl,hE⟩
theorem ext_law (n : Nat) (z : Int) (g : Nat → Nat → CV) (hn : n ≤ 60) : ∃ a b,F72 100 z n g = some (a,b) ∧ Ext z g n a b:=by
 unfold F72
 exact ext72 n z g hn _ 100 0 z z (by omega) (by omega) ⟨⟨Int.le_refl _,Int.le_refl _,fun j hj => by omega⟩,.inl rfl,.inl rfl⟩
theorem Bds.unique {f : Nat → Nat → CV} {n : Nat} {a b c d a' b' c' d' : Int} (hn : 0 < n) (h : Bds f n a b c d) (h' : Bds f n a' b' c' d') : a = a' ∧ b = b' ∧ c = c' ∧ d = d':=by
 obtain ⟨h1,h2⟩ := h
 obtain ⟨⟨j1,k1,e1⟩,⟨j2,k2,e2⟩,⟨j3,k3,e3⟩,⟨j4,k4,e4⟩⟩ := h2 hn
 obtain ⟨g1,g2⟩ := h'
 obtain ⟨⟨i1,l1,m1⟩,⟨i2,l2,m2⟩,⟨i3,l3,m3⟩,⟨i4,l4,m4⟩⟩ := g2 hn
 have p1 := h1 i1 l1
 have p2 := h1 i2 l2
 have p3 := h1 i3 l3
 have p4 := h1 i4 l4
 have q1 := g1 j1 k1
 have q2 := g1 j2 k2
 have q3 := g1 j3 k3
 have q4 := g1 j4 k4
 exact ⟨by omega,by omega,by omega,by omega⟩
theorem bounds46 (n : Nat) (f : Nat → Nat → CV) (hn : n ≤ 60) : ∃ p q r s,F46 100 n f = some (p,q,r,s) ∧ (0 < n → Bds f n p q r s) ∧ (n = 0 → p = 0 ∧ q = 0 ∧ r = 0 ∧ s = 0):=by
 unfold F46
 by_cases h0 : n = 0
 ·subst h0
  exact ⟨0,0,0,0,rfl,fun h => by omega,fun _ => ⟨rfl,rfl,rfl,rfl⟩⟩
 ·rw [bif_f (by simp;omega)]
  obtain ⟨g,h,e1,hg,hh⟩ := cols46 n f hn (fun x16 x17 x18 => (bif (inb 0 x16) then (ob (F72 100 (CV.int (x17 0 0)) x16 x17) fun x19 => (bif (inb 0 x16) then (ob (F72 100 (CV.int (x18 0 0)) x16 x18) fun x20 => (some (x19.1,x20.1,x19.2,x20.2))) else none)) else none)) 100 0 (fun _ _ => .any) (fun _ _ => .any) (by omega) (by omega) (fun j hj => by omega) (fun j hj => by omega)
  obtain ⟨a,b,e2,E2⟩ := ext_law n (CV.int (g 0 0)) g hn
  obtain ⟨c,d,e3,E3⟩ := ext_law n (CV.int (h 0 0)) h hn
  refine ⟨a,c,b,d,e1.trans ?_,fun _ => ?_,fun h => absurd h h0⟩
  ·rw [bif_t (inb_true (by omega) (by omega)),e2,ob_some,bif_t (inb_true (by omega) (by omega)),e3,ob_some]
  ·obtain ⟨⟨_,_,x1⟩,x2,x3⟩ := E2
   obtain ⟨⟨_,_,y1⟩,y2,y3⟩ := E3
   have hn0 : 0 < n:=by omega
   refine ⟨fun j hj => ?_,fun _ => ⟨?_,?_,?_,?_⟩⟩
   ·have p := x1 j hj
    have q := y1 j hj
    rw [hg j hj] at p
    rw [hh j hj] at q
    exact ⟨p.1,q.1,p.2,q.2⟩
   ·rcases x2 with h | ⟨j,hj,h⟩
    ·exact ⟨0,hn0,by rw [h,hg 0 hn0]⟩
    ·exact ⟨j,hj,by rw [← hg j hj,h]⟩
   ·rcases y2 with h | ⟨j,hj,h⟩
    ·exact ⟨0,hn0,by rw [h,hh 0 hn0]⟩
    ·exact ⟨j,hj,by rw [← hh j hj,h]⟩
   ·rcases x3 with h | ⟨j,hj,h⟩
    ·exact ⟨0,hn0,by rw [h,hg 0 hn0]⟩
    ·exact ⟨j,hj,by rw [← hg j hj,h]⟩
   ·rcases y3 with h | ⟨j,hj,h⟩
    ·exact ⟨0,hn0,by rw [h,hh 0 hn0]⟩
    ·exact ⟨j,hj,by rw [← hh j hj,h]⟩
end Go.Eng.R13
