/-
 Places of points,contours that touch,and the check of shapes: the program's and the reference's.
-/
import Derived.Test.YtngjgbhdhaopmaaPlPoly
set_option linter.all false
namespace Go.Eng.R13
open Go Go.RowKit Go.Eng Geo
theorem rc_down {q a b : Pt} (h : ¬ On q a b) (h1 : b.2 ≤ q.2) (h2 : q.2 < a.2) : rc q a b = decide (cross a b q < 0):=by
 rw [rc_swap h,rc_up h1 h2,cross_swap a b q]
 exact decide_eq_decide.2 (by omega)
theorem where40 (n : Nat) (f : Nat → Nat → CV) (qx qy : Int) (hn : n ≤ 32) (h0 : 3 ≤ n) (hA : AllNr n f) (hq : nr qx qy) : ∀ (m i : Nat) (s : Bool),n < m + i → i ≤ n → s = xs i (fun j => rc (qx,qy) (pt f j) (pt f (nx n j))) →
  (OnC n (pt f) (qx,qy) i → L40v1 100 n f qx qy m s (Int.ofNat i) (fun _ _ _ _ => some (0 : Int)) (fun b => (bif b then some 1 else some (-1))) = some 0) ∧
  (¬ OnC n (pt f) (qx,qy) i → L40v1 100 n f qx qy m s (Int.ofNat i) (fun _ _ _ _ => some (0 : Int)) (fun b => (bif b then some 1 else some (-1))) = (bif par n (pt f) (qx,qy) then some 1 else some (-1))):=by
 intro m
 induction m with
 | zero => intro i s h1 h2;omega
 | succ m ih =>
  intro i s h1 h2 hs
  unfold L40v1
  rw [lt_nat,inb_nat,toNat_nat]
  by_cases h : i < n
  ·have hx : nx n i < n := nx_lt h0
   have e1 : (i + 1) % n = nx n i := rfl
   rw [bif_t (by simpa using h),bif_t (by simpa using h),bif_f (ofNat_ne0 (by omega)),w64_succ (by omega),tmod_nat,inb_nat,toNat_nat,e1,bif_t (by simpa using hx),on70 hq (hA i h) (hA _ hx),ob_some]
   by_cases ho : On (qx,qy) (pt f i) (pt f (nx n i))
   ·rw [bif_t (decide_eq_true ho)]
    exact ⟨fun _ => rfl,fun hh => absurd ⟨i,Nat.le_refl i,h,ho⟩ hh⟩
   ·rw [bif_f (decide_eq_false ho),OnC.step ho,cross71 (hA i h) (hA _ hx) hq]
    simp only [ob_some]
    have hxs : xs (i + 1) (fun j => rc (qx,qy) (pt f j) (pt f (nx n j))) = (s ^^ rc (qx,qy) (pt f i) (pt f (nx n i))):=by rw [xs,hs]
    have tog : rc (qx,qy) (pt f i) (pt f (nx n i)) = true → _:=fun hr => ih (i + 1) (!s) (by omega) (by omega) (by rw [hxs,hr,Bool.xor_true])
    have sam : rc (qx,qy) (pt f i) (pt f (nx n i)) = false → _:=fun hr => ih (i + 1) s (by omega) (by omega) (by rw [hxs,hr,Bool.xor_false])
    by_cases a : CV.int (f i 1) ≤ qy
    ·rw [bif_t (by simpa using a)]
     by_cases b : qy < CV.int (f (nx n i) 1)
     ·rw [bif_t (by simpa using b),bif_f (by simp;omega)]
      have hr := rc_up (q:=(qx,qy)) (a := pt f i) (b := pt f (nx n i)) a b
      by_cases hc : 0 < cross (pt f i) (pt f (nx n i)) (qx,qy)
      ·rw [bif_f (by rw [show decide (cross (CV.int (f i 0),CV.int (f i 1)) (CV.int (f (nx n i) 0),CV.int (f (nx n i) 1)) (qx,qy) > 0) = true from decide_eq_true hc];rfl)]
       exact tog (by rw [hr];exact decide_eq_true hc)
      ·rw [bif_t (by rw [show decide (cross (CV.int (f i 0),CV.int (f i 1)) (CV.int (f (nx n i) 0),CV.int (f (nx n i) 1)) (qx,qy) > 0) = false from decide_eq_false hc];rfl)]
       exact sam (by rw [hr];exact decide_eq_false hc)
     ·rw [bif_f (by simpa using b),bif_t (by simp;omega),bif_f (by simpa using a)]
      exact sam (rc_flat (.inr ⟨a,by dsimp only;omega⟩))
    ·rw [bif_f (by simpa using a)]
     by_cases b : CV.int (f (nx n i) 1) ≤ qy
     ·rw [bif_t (by simpa using b),bif_t (by simp;omega)]
      have hr := rc_down (q:=(qx,qy)) (a := pt f i) (b := pt f (nx n i)) ho b (by dsimp only;omega)
      by_cases hc : cross (pt f i) (pt f (nx n i)) (qx,qy) < 0
      ·rw [bif_t (decide_eq_true hc)]
       exact tog (by rw [hr];exact decide_eq_true hc)
      ·rw [bif_f (decide_eq_false hc)]
       exact sam (by rw [hr];exact decide_eq_false hc)
     ·rw [bif_f (by simpa using b)]
      exact sam (rc_flat (.inl ⟨by dsimp only;omega,by dsimp only;omega⟩))
  ·rw [bif_f (by simpa using h)]
   have e : i = n:=by omega
   subst e
   refine ⟨fun ⟨j,a,b,_⟩ => by omega,fun _ => ?_⟩
   rw [hs];rfl
def IsWhere (n : Nat) (f : Nat → Nat → CV) (q : Pt) (w : Int) : Prop :=
 (Valid n f ∧ nr q.1 q.2 → (OnC n (pt f) q 0 → w = 0) ∧ (¬ OnC n (pt f) q 0 → w = if par n (pt f) q = true then 1 else -1)) ∧ (¬ (Valid n f ∧ nr q.1 q.2) → w = -1)
theorem where_law (n : Nat) (f : Nat → Nat → CV) (qx qy : Int) : ∃ w,F65 100 n f qx qy = some w ∧ F40 100 n f qx qy = some w ∧ IsWhere n f (qx,qy) w:=by
 obtain ⟨c,h1,h2,h3⟩ := check_law n f
 obtain ⟨b,hb1,hb2⟩ := far61 qx qy
 obtain ⟨d,hd1,hd2⟩ := near69 qx qy
 unfold F65 F40
 rw [h1,h2,hb1,hd1,ob_some,ob_some,ob_some,ob_some]
 by_cases hq : nr qx qy
 ·have eb := hb2.2 hq
  have ed := hd2.2 hq
  subst eb;subst ed
  rw [bif_t (by rfl)]
  by_cases hc : c = 0
  ·subst hc
   have V := h3.1 rfl
   have vs := V.small
   rw [bif_f (by rfl),bif_t (by rfl),bif_f (show (!true) = false from rfl),show (0 : Int) = Int.ofNat 0 from rfl]
   obtain ⟨a1,a2⟩ := where65 n f qx qy V.small V.big V.near hq 100 0 false (by omega) (by omega) rfl
   obtain ⟨b1,b2⟩ := where40 n f qx qy V.small V.big V.near hq 100 0 false (by omega) (by omega) rfl
   by_cases ho : OnC n (pt f) (qx,qy) 0
   ·exact ⟨0,a1 ho,b1 ho,fun _ => ⟨fun _ => rfl,fun hh => absurd ho hh⟩,fun hh => absurd ⟨V,hq⟩ hh⟩
   ·refine ⟨if par n (pt f) (qx,qy) = true then 1 else -1,(a2 ho).trans ?_,(b2 ho).trans ?_,fun _ => ⟨fun hh => absurd hh ho,fun _ => rfl⟩,fun hh => absurd ⟨V,hq⟩ hh⟩
    ·cases par n (pt f) (qx,qy) <;> rfl
    ·cases par n (pt f) (qx,qy) <;> rfl
  ·rw [bif_t (by simpa using hc),bif_f (by simpa using hc)]
   exact ⟨-1,rfl,rfl,fun hh => absurd (h3.2 hh.1) hc,fun _ => rfl⟩
 ·have eb : b = true:=by
   cases b with
   | false => exact absurd (hb2.1 rfl) hq
   | true => rfl
  have ed : d = false:=by
   cases d with
   | false => rfl
   | true => exact absurd (hd2.1 rfl) hq
  subst eb;subst ed
  rw [bif_f (by rfl)]
  refine ⟨-1,rfl,?_,fun hh => absurd hh.2 hq,fun _ => rfl⟩
  by_cases hc : c = 0
  ·rw [bif_t (by simpa using hc),bif_t (show (!false) = true from rfl)]
  ·rw [bif_f (by simpa using hc)]
def InC (n : Nat) (f : Nat → Nat → CV) (q : Pt) : Prop := ¬ OnC n (pt f) q 0 ∧ par n (pt f) q = true
def OutC (n : Nat) (f : Nat → Nat → CV) (q : Pt) : Prop := ¬ OnC n (pt f) q 0 ∧ par n (pt f) q = false
theorem IsWhere.val {n : Nat} {f : Nat → Nat → CV} {q : Pt} {w : Int} (h : IsWhere n f q w) (V : Valid n f) (hq : nr q.1 q.2) : (w = 1 ∧ InC n f q) ∨ (w = 0 ∧ OnC n (pt f) q 0) ∨ (w = -1 ∧ OutC n f q):=by
 obtain ⟨h1,h2⟩ := h.1 ⟨V,hq⟩
 by_cases ho : OnC n (pt f) q 0
 ·exact .inr (.inl ⟨h1 ho,ho⟩)
 ·have := h2 ho
  cases hp : par n (pt f) q with
  | true => rw [hp,if_pos rfl] at this;exact .inl ⟨this,ho,hp⟩
  | false => rw [hp,if_neg (by simp)] at this;exact .inr (.inr ⟨this,ho,hp⟩)
theorem IsWhere.one {n : Nat} {f : Nat → Nat → CV} {q : Pt} {w : Int} (h : IsWhere n f q w) (V : Valid n f) (hq : nr q.1 q.2) : w = 1 ↔ InC n f q:=by
 rcases h.val V hq with ⟨a,b⟩ | ⟨a,b⟩ | ⟨a,b⟩
 ·exact ⟨fun _ => b,fun _ => a⟩
 ·exact ⟨fun hh => by omega,fun hh => absurd b hh.1⟩
 ·exact ⟨fun hh => by omega,fun hh => by have := hh.2;rw [b.2] at this;cases this⟩
theorem IsWhere.out {n : Nat} {f : Nat → Nat → CV} {q : Pt} {w : Int} (h : IsWhere n f q w) (V : Valid n f) (hq : nr q.1 q.2) : w < 0 ↔ OutC n f q:=by
 rcases h.val V hq with ⟨a,b⟩ | ⟨a,b⟩ | ⟨a,b⟩
 ·exact ⟨fun hh => by omega,fun hh => by have := hh.2;rw [b.2] at this;cases this⟩
 ·exact ⟨fun hh => by omega,fun hh => absurd b hh.1⟩
 ·exact ⟨fun _ => b,fun _ => by omega⟩
theorem IsWhere.range {n : Nat} {f : Nat → Nat → CV} {q : Pt} {w : Int} (h : IsWhere n f q w) : w = 1 ∨ w = 0 ∨ w = -1:=by
 by_cases hv : Valid n f ∧ nr q.1 q.2
 ·rcases h.val hv.1 hv.2 with ⟨a,_⟩ | ⟨a,_⟩ | ⟨a,_⟩ <;> omega
 ·exact .inr (.inr (h.2 hv))
def Touch (n : Nat) (p : Nat → Pt) (n' : Nat) (p' : Nat → Pt) : Prop := ∃ i k,i < n ∧ k < n' ∧ Meet (p i) (p (nx n i)) (p' k) (p' (nx n' k))
theorem Touch.symm {n : Nat} {p : Nat → Pt} {n' : Nat} {p' : Nat → Pt} (h : Touch n p n' p') : Touch n' p' n p:=by
 obtain ⟨i,k,hi,hk,hm⟩ := h
 exact ⟨k,i,hk,hi,hm.symm⟩
end Go.Eng.R13
