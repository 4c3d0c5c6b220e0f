/-
 Several texts in one.
-/
set_option linter.all false
/-
 Points and segments of the plane with integer coordinates: sides,meeting,heights.
-/
namespace Geo
abbrev Pt := Int × Int
def cross (a b c : Pt) : Int:=(b.1 - a.1) * (c.2 - a.2) - (b.2 - a.2) * (c.1 - a.1)
def btw (a b q : Int) : Prop:=(a ≤ q ∧ q ≤ b) ∨ (b ≤ q ∧ q ≤ a)
def On (q a b : Pt) : Prop := cross a b q = 0 ∧ btw a.1 b.1 q.1 ∧ btw a.2 b.2 q.2
def opp (s t : Int) : Prop:=(s < 0 ∧ 0 < t) ∨ (0 < s ∧ t < 0)
def Meet (a b c d : Pt) : Prop := On c a b ∨ On d a b ∨ On a c d ∨ On b c d ∨ (opp (cross a b c) (cross a b d) ∧ opp (cross c d a) (cross c d b))
def ht (α β : Int) (p : Pt) : Int := α * p.1 + β * p.2
theorem cross_swap (a b c : Pt) : cross b a c = - cross a b c:=by unfold cross;grind
theorem cross_self_left (a b : Pt) : cross a b a = 0:=by unfold cross;grind
theorem cross_self_right (a b : Pt) : cross a b b = 0:=by unfold cross;grind
theorem On.swap {q a b : Pt} (h : On q a b) : On q b a:=by
 obtain ⟨h1,h2,h3⟩ := h
 refine ⟨by rw [cross_swap,h1];rfl,?_,?_⟩
 ·unfold btw at *;omega
 ·unfold btw at *;omega
theorem On.left (a b : Pt) : On a a b:=by
 refine ⟨cross_self_left a b,?_,?_⟩ <;> (unfold btw;omega)
theorem On.right (a b : Pt) : On b a b:=by
 refine ⟨cross_self_right a b,?_,?_⟩ <;> (unfold btw;omega)
theorem Meet.symm {a b c d : Pt} (h : Meet a b c d) : Meet c d a b:=by
 rcases h with h | h | h | h | ⟨h1,h2⟩
 ·exact .inr (.inr (.inl h))
 ·exact .inr (.inr (.inr (.inl h)))
 ·exact .inl h
 ·exact .inr (.inl h)
 ·exact .inr (.inr (.inr (.inr ⟨h2,h1⟩)))
theorem Meet.swap {a b c d : Pt} (h : Meet a b c d) : Meet b a c d:=by
 rcases h with h | h | h | h | ⟨h1,h2⟩
 ·exact .inl h.swap
 ·exact .inr (.inl h.swap)
 ·exact .inr (.inr (.inr (.inl h)))
 ·exact .inr (.inr (.inl h))
 ·refine .inr (.inr (.inr (.inr ⟨?_,?_⟩)))
  ·have e1 := cross_swap a b c
   have e2 := cross_swap a b d
   unfold opp at *
   omega
  ·unfold opp at *;omega
end Geo
/-
 The ray to the right: how often it crosses a closed contour,by parity. Along a segment that does not meet the contour the parity stays.
-/
namespace Geo
def rc (q a b : Pt) : Bool:=(decide (a.2 > q.2) != decide (b.2 > q.2)) && (decide (0 < cross a b q) == decide (b.2 > a.2))
def xs : Nat → (Nat → Bool) → Bool
 | 0,_ => false
 | n + 1,f => xs n f ^^ f n
def par (n : Nat) (p : Nat → Pt) (q : Pt) : Bool := xs n fun i => rc q (p i) (p ((i + 1) % n))
def Free (n : Nat) (p : Nat → Pt) (a b : Pt) : Prop := ∀ i,i < n → ¬ Meet a b (p i) (p ((i + 1) % n))
theorem Free.symm {n : Nat} {p : Nat → Pt} {a b : Pt} (h : Free n p a b) : Free n p b a:=fun i hi hm => h i hi hm.swap
end Geo
/-
 Closed contours by their levels: what lies to the right of an edge is the same all along the contour,and so the area is not zero.
-/
namespace Geo
def sm : Nat → (Nat → Int) → Int
 | 0,_ => 0
 | n + 1,f => sm n f + f n
theorem sm_congr {n : Nat} {f g : Nat → Int} (h : ∀ i,i < n → f i = g i) : sm n f = sm n g:=by
 induction n with
 | zero => rfl
 | succ n ih => rw [sm,sm,ih fun i hi => h i (by omega),h n (by omega)]
theorem sm_add (n : Nat) (f g : Nat → Int) : sm n (fun i => f i + g i) = sm n f + sm n g:=by
 induction n with
 | zero => rfl
 | succ n ih => rw [sm,sm,sm,ih];omega
theorem sm_zero (n : Nat) : sm n (fun _ => 0) = 0:=by
 induction n with
 | zero => rfl
 | succ n ih => rw [sm,ih];rfl
theorem sm_one {n : Nat} {f : Nat → Int} {k : Nat} (hk : k < n) (h : ∀ i,i < n → i ≠ k → f i = 0) : sm n f = f k:=by
 induction n with
 | zero => omega
 | succ n ih =>
  rw [sm]
  by_cases e : k = n
  ·subst e
   rw [sm_congr (g:=fun _ => 0) (fun i hi => h i (by omega) (by omega)),sm_zero];omega
  ·rw [ih (by omega) (fun i hi => h i (by omega)),h n (by omega) (by omega)];omega
def nx (n i : Nat) : Nat:=(i + 1) % n
structure Lev (n : Nat) where
 H : Nat → Int
 V : Nat → Int
 X : Nat → Int → Int
def Lev.rng {n : Nat} (L : Lev n) (e : Nat) (t : Int) : Prop:=(L.H e ≤ t ∧ t ≤ L.H (nx n e)) ∨ (L.H (nx n e) ≤ t ∧ t ≤ L.H e)
def Lev.sep {n : Nat} (L : Lev n) (e i : Nat) (t : Int) : Prop := L.rng e t ∧ L.rng i t ∧ ¬ (nx n e = i ∧ L.H i = t) ∧ ¬ (nx n i = e ∧ L.H e = t)
structure Lev.Fine {n : Nat} (L : Lev n) : Prop where
 big : 3 ≤ n
 even : ∀ i,∃ k,L.H i = 2 * k
 inj : ∀ i j,i < n → j < n → i ≠ j → L.H i ≠ L.H j
 aff : ∀ e,e < n → ∃ c s,∀ t,L.X e t = c + s * t
 start : ∀ e,e < n → L.X e (L.H e) = L.V e
 stop : ∀ e,e < n → L.X e (L.H (nx n e)) = L.V (nx n e)
 order : ∀ e i t t',e < n → i < n → e ≠ i → L.sep e i t → L.sep e i t' → (L.X e t < L.X i t ∧ L.X e t' < L.X i t') ∨ (L.X i t < L.X e t ∧ L.X i t' < L.X e t')
section
variable {n : Nat} (L : Lev n)
def Lev.g (i : Nat) (t : Int) : Int := if t < L.H i then 1 else 0
def Lev.da (i : Nat) (t : Int) : Int := L.g (nx n i) t - L.g i t
def Lev.rt (e i : Nat) (t : Int) : Int := if L.X e t < L.X i t then 1 else 0
def Lev.r (e : Nat) (t : Int) : Int := sm n fun i => L.rt e i t * L.da i t
end
section
variable {n : Nat} {L : Lev n}
theorem nx_lt {i : Nat} (h : 3 ≤ n) : nx n i < n := Nat.mod_lt _ (by omega)
theorem nx_ne {i : Nat} (h : 3 ≤ n) (hi : i < n) : nx n i ≠ i:=by
 unfold nx
 by_cases e : i + 1 = n
 ·rw [e,Nat.mod_self];omega
 ·rw [Nat.mod_eq_of_lt (by omega)];omega
theorem nx_inj {i j : Nat} (hi : i < n) (hj : j < n) (h : nx n i = nx n j) : i = j:=by
 unfold nx at h
 by_cases e : i + 1 = n <;> by_cases e' : j + 1 = n
 ·omega
 ·rw [e,Nat.mod_self,Nat.mod_eq_of_lt (by omega)] at h;omega
 ·rw [e',Nat.mod_self,Nat.mod_eq_of_lt (by omega)] at h;omega
 ·rw [Nat.mod_eq_of_lt (by omega),Nat.mod_eq_of_lt (by omega)] at h;omega
theorem Lev.rt_self (e : Nat) (t : Int) : L.rt e e t = 0:=by unfold Lev.rt;rw [if_neg (by omega)]
theorem Lev.rt_same (F : L.Fine) {e i : Nat} {t t' : Int} (he : e < n) (hi : i < n) (hne : e ≠ i) (h : L.sep e i t) (h' : L.sep e i t') : L.rt e i t = L.rt e i t':=by
 unfold Lev.rt
 rcases F.order e i t t' he hi hne h h' with ⟨h1,h2⟩ | ⟨h1,h2⟩
 ·rw [if_pos h1,if_pos h2]
 ·rw [if_neg (by omega),if_neg (by omega)]
theorem Lev.sep_odd (F : L.Fine) {e i : Nat} {t k : Int} (ht : t = 2 * k + 1) (h1 : L.rng e t) (h2 : L.rng i t) : L.sep e i t:=by
 refine ⟨h1,h2,fun h => ?_,fun h => ?_⟩
 ·obtain ⟨q,hq⟩ := F.even i;omega
 ·obtain ⟨q,hq⟩ := F.even e;omega
theorem Lev.da_odd {i : Nat} {t : Int} (h : L.da i t ≠ 0) : L.rng i t:=by
 unfold Lev.da Lev.g at h
 unfold Lev.rng
 split at h <;> split at h <;> omega
end
end Geo
/-
 Closed contours by their levels,part 2: round the corners;the area.
-/
namespace Geo
section
variable {n : Nat} {L : Lev n}
theorem sm_ind {n : Nat} {k : Nat} (hk : k < n) (c : Int) : sm n (fun i => if i = k then c else 0) = c:=by
 rw [sm_one hk (fun i _ hne => if_neg hne),if_pos rfl]
theorem Lev.mid1 (F : L.Fine) {e i : Nat} {k s : Int} (he : e < n) (hi : i < n) (h1 : i ≠ e) (h2 : i ≠ nx n e) (hk : L.H (nx n e) = 2 * k) (hs : s = 2 * k - 1 ∨ s = 2 * k + 1) (he' : L.rng e s) (hi' : L.rng i s) :
  L.rt e i s = if L.V (nx n e) < L.X i (2 * k) then 1 else 0:=by
 have hb := F.big
 have a0 : L.H i ≠ 2 * k:=fun h => F.inj i (nx n e) hi (nx_lt hb) h2 (h.trans hk.symm)
 have a1 : L.H (nx n i) ≠ 2 * k:=fun h => F.inj (nx n i) (nx n e) (nx_lt hb) (nx_lt hb) (fun hh => h1 (nx_inj hi he hh)) (h.trans hk.symm)
 have a2 : L.H e ≠ 2 * k:=fun h => F.inj e (nx n e) he (nx_lt hb) (fun hh => nx_ne hb he hh.symm) (h.trans hk.symm)
 obtain ⟨q0,hq0⟩ := F.even i
 obtain ⟨q1,hq1⟩ := F.even (nx n i)
 have s1 : L.sep e i s:=by
  rcases hs with hs | hs
  ·exact Lev.sep_odd F (k := k - 1) (by omega) he' hi'
  ·exact Lev.sep_odd F (k := k) hs he' hi'
 have s2 : L.sep e i (2 * k):=by
  refine ⟨by unfold Lev.rng;omega,by unfold Lev.rng at hi' ⊢;omega,fun h => a0 h.2,fun h => a2 h.2⟩
 rw [L.rt_same F he hi (fun h => h1 h.symm) s1 s2]
 unfold Lev.rt
 rw [← hk,F.stop e he]
theorem Lev.mid2 (F : L.Fine) {e i : Nat} {k s : Int} (he : e < n) (hi : i < n) (h1 : i ≠ e) (h2 : i ≠ nx n e) (hk : L.H (nx n e) = 2 * k) (hs : s = 2 * k - 1 ∨ s = 2 * k + 1) (he' : L.rng (nx n e) s) (hi' : L.rng i s) :
  L.rt (nx n e) i s = if L.V (nx n e) < L.X i (2 * k) then 1 else 0:=by
 have hb := F.big
 have hx : nx n e < n := nx_lt hb
 have a0 : L.H i ≠ 2 * k:=fun h => F.inj i (nx n e) hi hx h2 (h.trans hk.symm)
 have a1 : L.H (nx n i) ≠ 2 * k:=fun h => F.inj (nx n i) (nx n e) (nx_lt hb) hx (fun hh => h1 (nx_inj hi he hh)) (h.trans hk.symm)
 obtain ⟨q0,hq0⟩ := F.even i
 obtain ⟨q1,hq1⟩ := F.even (nx n i)
 have s1 : L.sep (nx n e) i s:=by
  rcases hs with hs | hs
  ·exact Lev.sep_odd F (k := k - 1) (by omega) he' hi'
  ·exact Lev.sep_odd F (k := k) hs he' hi'
 have s2 : L.sep (nx n e) i (2 * k):=by
  refine ⟨by unfold Lev.rng;omega,by unfold Lev.rng at hi' ⊢;omega,fun h => a0 h.2,fun h => h1 (nx_inj hi he h.1)⟩
 rw [L.rt_same F hx hi (fun h => h2 h.symm) s1 s2]
 unfold Lev.rt
 rw [← hk,F.start _ hx]
theorem Lev.da_other (F : L.Fine) {i : Nat} {k : Int} (h0 : L.H i ≠ 2 * k) (h1 : L.H (nx n i) ≠ 2 * k) : L.da i (2 * k + 1) = L.da i (2 * k - 1):=by
 obtain ⟨q0,hq0⟩ := F.even i
 obtain ⟨q1,hq1⟩ := F.even (nx n i)
 have de : ∀ j,L.H j ≠ 2 * k → (∃ q,L.H j = 2 * q) → L.g j (2 * k + 1) = L.g j (2 * k - 1):=by
  intro j hj ⟨q,hq⟩
  unfold Lev.g
  by_cases h : 2 * k + 1 < L.H j
  ·rw [if_pos h,if_pos (by omega)]
  ·rw [if_neg h,if_neg (by omega)]
 unfold Lev.da
 rw [de _ h0 ⟨q0,hq0⟩,de _ h1 ⟨q1,hq1⟩]
def Lev.base {n : Nat} (L : Lev n) (e : Nat) (k : Int) : Int :=
 sm n fun i => if i = e ∨ i = nx n e then 0 else (if L.V (nx n e) < L.X i (2 * k) then 1 else 0) * L.da i (2 * k - 1)
theorem Lev.r1 (F : L.Fine) {e : Nat} {k s : Int} (he : e < n) (hk : L.H (nx n e) = 2 * k) (hs : s = 2 * k - 1 ∨ s = 2 * k + 1) (he' : L.rng e s) : L.r e s = L.base e k + L.rt e (nx n e) s * L.da (nx n e) s:=by
 have hb := F.big
 have hx : nx n e < n := nx_lt hb
 unfold Lev.base
 rw [← sm_ind hx (L.rt e (nx n e) s * L.da (nx n e) s),← sm_add]
 refine sm_congr fun i hi => ?_
 by_cases h1 : i = e
 ·subst h1
  rw [L.rt_self,if_pos (.inl rfl),if_neg (fun h => nx_ne hb he h.symm)];simp
 ·by_cases h2 : i = nx n e
  ·rw [if_pos (.inr h2),if_pos h2,h2];simp
  ·rw [if_neg (by omega),if_neg h2]
   have a0 : L.H i ≠ 2 * k:=fun h => F.inj i (nx n e) hi hx h2 (h.trans hk.symm)
   have a1 : L.H (nx n i) ≠ 2 * k:=fun h => F.inj (nx n i) (nx n e) (nx_lt hb) hx (fun hh => h1 (nx_inj hi he hh)) (h.trans hk.symm)
   have hd : L.da i s = L.da i (2 * k - 1):=by
    rcases hs with hs | hs
    ·rw [hs]
    ·rw [hs];exact L.da_other F a0 a1
   rw [hd]
   by_cases hz : L.da i (2 * k - 1) = 0
   ·rw [hz];simp
   ·rw [L.mid1 F he hi h1 h2 hk hs he' (Lev.da_odd (hd ▸ hz))];simp
theorem Lev.r2 (F : L.Fine) {e : Nat} {k s : Int} (he : e < n) (hk : L.H (nx n e) = 2 * k) (hs : s = 2 * k - 1 ∨ s = 2 * k + 1) (he' : L.rng (nx n e) s) : L.r (nx n e) s = L.base e k + L.rt (nx n e) e s * L.da e s:=by
 have hb := F.big
 have hx : nx n e < n := nx_lt hb
 unfold Lev.base
 rw [← sm_ind he (L.rt (nx n e) e s * L.da e s),← sm_add]
 refine sm_congr fun i hi => ?_
 by_cases h1 : i = e
 ·rw [if_pos (.inl h1),if_pos h1,h1];simp
 ·by_cases h2 : i = nx n e
  ·rw [if_pos (.inr h2),if_neg h1,h2,L.rt_self];simp
  ·rw [if_neg (by omega),if_neg h1]
   have a0 : L.H i ≠ 2 * k:=fun h => F.inj i (nx n e) hi hx h2 (h.trans hk.symm)
   have a1 : L.H (nx n i) ≠ 2 * k:=fun h => F.inj (nx n i) (nx n e) (nx_lt hb) hx (fun hh => h1 (nx_inj hi he hh)) (h.trans hk.symm)
   have hd : L.da i s = L.da i (2 * k - 1):=by
    rcases hs with hs | hs
    ·rw [hs]
    ·rw [hs];exact L.da_other F a0 a1
   rw [hd]
   by_cases hz : L.da i (2 * k - 1) = 0
   ·rw [hz];simp
   ·rw [L.mid2 F he hi h1 h2 hk hs he' (Lev.da_odd (hd ▸ hz))];simp
end
end Geo
/-
 Closed contours by their levels,part 3: the area is not zero. Lines over segments.
-/
namespace Geo
section
variable {n : Nat} {L : Lev n}
theorem cut (S : Nat) (q : Int) (h1 : -(S : Int) ≤ q) (h2 : q ≤ S) (f : Nat → Int) : sm (2 * S) (fun s => (if 2 * ((s : Int) - S) + 1 < 2 * q then 1 else 0) * f s) = sm (q + S).toNat f:=by
 have a : ∀ m : Nat,(m : Int) ≤ q + S → sm m (fun s => (if 2 * ((s : Int) - S) + 1 < 2 * q then 1 else 0) * f s) = sm m f:=by
  intro m hm
  exact sm_congr fun i hi => by rw [if_pos (by omega)];omega
 have b : ∀ (d m : Nat),q + S ≤ m → sm (m + d) (fun s => (if 2 * ((s : Int) - S) + 1 < 2 * q then 1 else 0) * f s) = sm m (fun s => (if 2 * ((s : Int) - S) + 1 < 2 * q then 1 else 0) * f s):=by
  intro d
  induction d with
  | zero => intro m _;rfl
  | succ d ih =>
   intro m h
   rw [← Nat.add_assoc,sm,ih m h,if_neg (by omega)];omega
 have h3 := a (q + S).toNat (by omega)
 have h4 := b (2 * S - (q + S).toNat) (q + S).toNat (by omega)
 rw [show (q + S).toNat + (2 * S - (q + S).toNat) = 2 * S from by omega] at h4
 rw [h4,h3]
end
structure Line (α β M : Int) (a b : Pt) (N : Int → Int) : Prop where
 aff : ∃ c s,∀ t,N t = c + s * t
 fst : N (ht α β a) = M * a.1
 snd : N (ht α β b) = M * b.1
section
variable {α β M : Int} {a b u v : Pt} {N O : Int → Int}
theorem Line.swap (h : Line α β M a b N) : Line α β M b a N := ⟨h.aff,h.snd,h.fst⟩
theorem Line.cross (h : Line α β M a b N) (q : Pt) : (ht α β b - ht α β a) * (M * q.1 - N (ht α β q)) = - (M * β) * cross a b q:=by
 obtain ⟨⟨c,s,hN⟩,h1,h2⟩ := h
 rw [hN] at h1 h2 ⊢
 unfold Geo.cross
 have e : s * (ht α β b - ht α β a) = M * (b.1 - a.1):=by grind
 have e2 : (ht α β b - ht α β a) * (c + s * ht α β q) = (ht α β b - ht α β a) * (M * a.1) + M * (b.1 - a.1) * (ht α β q - ht α β a):=by grind
 unfold ht at *
 grind
end
end Geo
