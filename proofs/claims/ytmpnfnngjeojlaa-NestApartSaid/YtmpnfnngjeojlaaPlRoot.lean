/-
 The root,and how near a point is to an edge.
-/
import Derived.Test.YtmpnfnngjeojlaaPlPoly
set_option linter.all false
namespace Go.Eng.R13
open Go Go.RowKit Go.Eng Geo
theorem w64_nat {n : Nat} (h : n < 9223372036854775807) : w64 (Int.ofNat n) = Int.ofNat n := w64_of (by simp <;> omega) (by simp <;> omega)
theorem le_natd (a b : Nat) : decide (Int.ofNat a ≤ Int.ofNat b) = decide (a ≤ b) := decide_eq_decide.2 Int.ofNat_le
theorem or_law (q k : Nat) (hk : k < 32) (h : 2 ^ (k + 1) * q < 4294967296) : bits .or .i64 (Int.ofNat (2 ^ (k + 1) * q)) (Int.ofNat (2 ^ k)) = Int.ofNat (2 ^ (k + 1) * q + 2 ^ k):=by
 have hp : 2 ^ k < 4294967296 := Nat.pow_lt_pow_right (by omega) hk
 have ho := Nat.two_pow_add_eq_or_of_lt (i := k + 1) (b := 2 ^ k) (Nat.pow_lt_pow_right (by omega) (by omega)) q
 have hb : 2 ^ (k + 1) * q + 2 ^ k < 9223372036854775807:=by omega
 show w64 (Int.ofNat ((BitVec.ofInt 64 (Int.ofNat (2 ^ (k + 1) * q)) ||| BitVec.ofInt 64 (Int.ofNat (2 ^ k))).toNat)) = _
 rw [BitVec.toNat_or,show ∀ n : Nat,BitVec.ofInt 64 (Int.ofNat n) = BitVec.ofNat 64 n from fun n => BitVec.ofInt_natCast 64 n,show ∀ n : Nat,BitVec.ofInt 64 (Int.ofNat n) = BitVec.ofNat 64 n from fun n => BitVec.ofInt_natCast 64 n,BitVec.toNat_ofNat,BitVec.toNat_ofNat,
  Nat.mod_eq_of_lt (by omega),Nat.mod_eq_of_lt (by omega),← ho]
 generalize 2 ^ (k + 1) * q + 2 ^ k = N at *
 exact w64_nat hb
theorem le_div {t X : Nat} (ht : 0 < t) : t ≤ X / t ↔ t * t ≤ X := Nat.le_div_iff_mul_le ht
theorem root_loop {ρ : Type} (X : Nat) (hX : X < 4611686018427387904) (k0 : Int → Option ρ) : ∀ (m i q : Nat),32 < m + i → i ≤ 32 → 2 ^ (32 - i) * q + 2 ^ (32 - i) ≤ 4294967296 → (2 ^ (32 - i) * q) * (2 ^ (32 - i) * q) ≤ X → X < (2 ^ (32 - i) * q + 2 ^ (32 - i)) * (2 ^ (32 - i) * q + 2 ^ (32 - i)) →
  ∃ r : Nat,L85v1 100 (Int.ofNat X) m (Int.ofNat (2 ^ (32 - i) * q)) (Int.ofNat i) k0 = k0 (Int.ofNat r) ∧ r * r ≤ X ∧ X < (r + 1) * (r + 1) ∧ r < 4294967296:=by
 intro m
 induction m with
 | zero => intro i q h1 h2;omega
 | succ m ih =>
  intro i q h1 h2 hq hl hu
  unfold L85v1
  rw [show (32 : Int) = Int.ofNat 32 from rfl,lt_nat]
  by_cases h : i < 32
  ·have hs : w64 (31 - Int.ofNat i) = Int.ofNat (31 - i):=by
    rw [w64_of] <;> simp <;> omega
   obtain ⟨e,he⟩ : ∃ e,e = 31 - i := ⟨_,rfl⟩
   have e1 : 32 - i = e + 1:=by omega
   have e2 : 32 - (i + 1) = e:=by omega
   have hp : 0 < 2 ^ e := Nat.pow_pos (by omega)
   have hp1 : 2 ^ (e + 1) = 2 * 2 ^ e:=by rw [Nat.pow_succ];omega
   have hlt : 2 ^ e < 4294967296 := Nat.pow_lt_pow_right (by omega) (show e < 32 by omega)
   have hsh : w64 (1 * 2 ^ (Int.toNat (Int.ofNat e))) = Int.ofNat (2 ^ e):=by
    rw [toNat_nat,Int.one_mul,show (2 : Int) ^ e = Int.ofNat (2 ^ e) from (Int.natCast_pow 2 e).symm]
    exact w64_nat (by omega)
   rw [e1] at hq hl hu ⊢
   rw [bif_t (decide_eq_true h),hs,← he,hsh,or_law q e (by omega) (by omega),w64_succ (by omega)]
   rw [bif_t (by simp;omega),bif_f (ofNat_ne0 (by omega)),show ∀ a b : Nat,Int.tdiv (Int.ofNat a) (Int.ofNat b) = Int.ofNat (a / b) from fun _ _ => rfl,
    w64_nat (n := X / _) (by have := Nat.div_le_self X (2 ^ (e + 1) * q + 2 ^ e);omega),le_natd]
   by_cases hT : (2 ^ (e + 1) * q + 2 ^ e) * (2 ^ (e + 1) * q + 2 ^ e) ≤ X
   ·rw [bif_t (decide_eq_true ((le_div (by omega)).2 hT))]
    have ea : 2 ^ (e + 1) * q + 2 ^ e = 2 ^ e * (2 * q + 1):=by rw [hp1];grind
    have eb : 2 ^ e * (2 * q + 1) + 2 ^ e = 2 ^ (e + 1) * q + 2 ^ (e + 1):=by rw [hp1];grind
    have := ih (i + 1) (2 * q + 1) (by omega) (by omega)
    rw [e2] at this
    rw [ea] at hT ⊢
    exact this (by omega) hT (by rw [eb];exact hu)
   ·rw [bif_f (decide_eq_false (fun hh => hT ((le_div (by omega)).1 hh)))]
    have ea : 2 ^ (e + 1) * q = 2 ^ e * (2 * q):=by rw [hp1];grind
    have := ih (i + 1) (2 * q) (by omega) (by omega)
    rw [e2] at this
    rw [ea] at hT hl hq ⊢
    exact this (by omega) hl (by omega)
  ·rw [bif_f (decide_eq_false h)]
   have : i = 32:=by omega
   subst this
   simp only [Nat.sub_self,Nat.pow_zero,Nat.one_mul] at *
   exact ⟨q,rfl,hl,hu,by omega⟩
theorem root77 (X : Nat) (hX : X < 4611686018427387904) : ∃ s : Int,F77 100 (Int.ofNat X) = some s ∧ ∀ c : Int,0 ≤ c → (c < s ↔ c * c < Int.ofNat X):=by
 unfold F77 F85
 obtain ⟨r,h1,h2,h3,h4⟩ := root_loop X hX (fun x7 => some x7) 100 0 0 (by omega) (by omega) (by decide) (by simp) (by simp;omega)
 rw [bif_f (by simp),show (0 : Int) = Int.ofNat (2 ^ (32 - 0) * 0) from rfl]
 rw [show L85v1 100 (Int.ofNat X) 100 (Int.ofNat (2 ^ (32 - 0) * 0)) (Int.ofNat (2 ^ (32 - 0) * 0)) (fun x7 => some x7) = some (Int.ofNat r) from h1,ob_some]
 have hb : r * r < 4611686018427387904:=by omega
 have ec : Int.ofNat r * Int.ofNat r = Int.ofNat (r * r) := rfl
 rw [ec,w64_of (n := Int.ofNat (r * r)) (by simp;omega) (by simp;omega),lt_nat,w64_succ (by omega)]
 by_cases hlt : r * r < X
 ·rw [bif_t (decide_eq_true hlt)]
  refine ⟨_,rfl,fun c hc => ?_⟩
  obtain ⟨d,rfl⟩ := Int.eq_ofNat_of_zero_le hc
  have key : d < r + 1 ↔ d * d < X:=by
   constructor
   ·intro h
    have : d * d ≤ r * r := Nat.mul_le_mul (by omega) (by omega)
    omega
   ·intro h
    by_cases hh : d < r + 1
    ·exact hh
    ·have : (r + 1) * (r + 1) ≤ d * d := Nat.mul_le_mul (by omega) (by omega)
     omega
  have e2 : (d : Int) * (d : Int) = ((d * d : Nat) : Int) := rfl
  rw [e2]
  show ((d : Int) < ((r + 1 : Nat) : Int)) ↔ ((d * d : Nat) : Int) < ((X : Nat) : Int)
  rw [Int.ofNat_lt,Int.ofNat_lt];exact key
 ·rw [bif_f (decide_eq_false hlt)]
  refine ⟨_,rfl,fun c hc => ?_⟩
  obtain ⟨d,rfl⟩ := Int.eq_ofNat_of_zero_le hc
  have key : d < r ↔ d * d < X:=by
   constructor
   ·intro h
    have : d * d < r * r := Nat.mul_self_lt_mul_self h
    omega
   ·intro h
    by_cases hh : d < r
    ·exact hh
    ·have : r * r ≤ d * d := Nat.mul_le_mul (by omega) (by omega)
     omega
  have e2 : (d : Int) * (d : Int) = ((d * d : Nat) : Int) := rfl
  rw [e2]
  show ((d : Int) < (r : Int)) ↔ ((d * d : Nat) : Int) < ((X : Nat) : Int)
  rw [Int.ofNat_lt,Int.ofNat_lt];exact key
theorem dot_bd {a b c : Pt} (ha : nr a.1 a.2) (hb : nr b.1 b.2) (hc : nr c.1 c.2) : -8589934592 ≤ dot a b c ∧ dot a b c ≤ 8589934592:=by
 unfold nr at *
 have h1 := mul_bd (x := a.1 - b.1) (y := c.1 - b.1) (A := 65536) (B := 65536) (by omega) (by omega) (by omega) (by omega)
 have h2 := mul_bd (x := a.2 - b.2) (y := c.2 - b.2) (A := 65536) (B := 65536) (by omega) (by omega) (by omega) (by omega)
 unfold dot
 omega
theorem sq_nn (x : Int) : 0 ≤ x * x:=by
 by_cases h : 0 ≤ x
 ·exact Int.mul_nonneg h h
 ·have := Int.mul_nonneg (a := -x) (b := -x) (by omega) (by omega)
  grind
theorem dot_self {a b : Pt} : 0 ≤ dot a b a:=by
 unfold dot
 have h1 := sq_nn (a.1 - b.1)
 have h2 := sq_nn (a.2 - b.2)
 omega
theorem dot_comm (a b c : Pt) : dot a b c = dot c b a:=by unfold dot;grind
def Near (x p q : Pt) (g : Int) : Prop := if dot x p q ≤ 0 then dot x p x < g * g else if dot q p q ≤ dot x p q then dot x q x < g * g else cross p q x * cross p q x < g * g * dot q p q
theorem near_p {x p q : Pt} {g : Int} (h : dot x p q ≤ 0) : Near x p q g ↔ dot x p x < g * g:=by unfold Near;rw [if_pos h]
theorem near_q {x p q : Pt} {g : Int} (h : ¬ dot x p q ≤ 0) (h2 : dot q p q ≤ dot x p q) : Near x p q g ↔ dot x q x < g * g:=by unfold Near;rw [if_neg h,if_pos h2]
theorem near_m {x p q : Pt} {g : Int} (h : ¬ dot x p q ≤ 0) (h2 : ¬ dot q p q ≤ dot x p q) : Near x p q g ↔ cross p q x * cross p q x < g * g * dot q p q:=by unfold Near;rw [if_neg h,if_neg h2]
instance (x p q : Pt) (g : Int) : Decidable (Near x p q g):=by unfold Near;infer_instance
theorem cross_bd {a b c : Pt} (ha : nr a.1 a.2) (hb : nr b.1 b.2) (hc : nr c.1 c.2) : -8589934592 ≤ cross a b c ∧ cross a b c ≤ 8589934592:=by
 unfold nr at *
 have h1 := mul_bd (x := b.1 - a.1) (y := c.2 - a.2) (A := 65536) (B := 65536) (by omega) (by omega) (by omega) (by omega)
 have h2 := mul_bd (x := b.2 - a.2) (y := c.1 - a.1) (A := 65536) (B := 65536) (by omega) (by omega) (by omega) (by omega)
 unfold cross
 omega
theorem near57 {x1 x2 x3 x4 x5 x6 g : Int} (ha : nr x1 x2) (hb : nr x3 x4) (hc : nr x5 x6) (hg : 0 ≤ g) (hg' : g ≤ 1000) : F57 100 x1 x2 x3 x4 x5 x6 g = some (decide (Near (x1,x2) (x3,x4) (x5,x6) g)):=by
 have b1 := dot_bd (a:=(x1,x2)) (b:=(x3,x4)) (c:=(x5,x6)) ha hb hc
 have b2 := dot_bd (a:=(x5,x6)) (b:=(x3,x4)) (c:=(x5,x6)) hc hb hc
 have b3 := cross_bd (a:=(x3,x4)) (b:=(x5,x6)) (c:=(x1,x2)) hb hc ha
 have p2 := dot_self (a:=(x5,x6)) (b:=(x3,x4))
 have g1 := mul_bd (x := g) (y := g) (A := 1000) (B := 1000) (by omega) (by omega) (by omega) (by omega)
 have g0 : 0 ≤ g * g := Int.mul_nonneg hg hg
 have g2 := mul_bd (x := g * g) (y := dot (x5,x6) (x3,x4) (x5,x6)) (A := 1000000) (B := 8589934592) (by omega) (by omega) (by omega) (by omega)
 have g3 : 0 ≤ g * g * dot (x5,x6) (x3,x4) (x5,x6) := Int.mul_nonneg g0 p2
 unfold F57
 rw [w_dot ha hb hc,w_dot hc hb hc,w_dot ha hb ha,w_dot ha hc ha,w64_of (n := g * g) (by omega) (by omega),w64_of (n := g * g * _) (by omega) (by omega),cross75 hb hc ha,ob_some]
 obtain ⟨X,hX⟩ := Int.eq_ofNat_of_zero_le g3
 obtain ⟨s,hs,hc⟩ := root77 X (by omega)
 rw [hX,show ((X : Nat) : Int) = Int.ofNat X from rfl,hs,ob_some]
 by_cases h1 : dot (x1,x2) (x3,x4) (x5,x6) ≤ 0
 ·rw [bif_f (by rw [decide_eq_false (by omega)];rfl),bif_f (decide_eq_false (by omega))]
  congr 1
  exact decide_eq_decide.2 (near_p h1).symm
 ·rw [bif_t (by rw [decide_eq_true (by omega)];rfl)]
  by_cases h2 : dot (x5,x6) (x3,x4) (x5,x6) ≤ dot (x1,x2) (x3,x4) (x5,x6)
  ·rw [bif_f (decide_eq_false (by omega)),bif_t (decide_eq_true (by omega))]
   congr 1
   exact decide_eq_decide.2 (near_q h1 h2).symm
  ·rw [bif_t (decide_eq_true (by omega))]
   congr 1
   refine decide_eq_decide.2 (Iff.trans ?_ (near_m h1 h2).symm)
   rw [hX,w64_of (n := 0 - cross (x3,x4) (x5,x6) (x1,x2)) (by omega) (by omega)]
   split
   ·rw [hc _ (by omega)]
    rw [show (0 - cross (x3,x4) (x5,x6) (x1,x2)) * (0 - cross (x3,x4) (x5,x6) (x1,x2)) = cross (x3,x4) (x5,x6) (x1,x2) * cross (x3,x4) (x5,x6) (x1,x2) from by grind]
    exact Iff.rfl
   ·rw [hc _ (by omega)]
    exact Iff.rfl
end Go.Eng.R13
