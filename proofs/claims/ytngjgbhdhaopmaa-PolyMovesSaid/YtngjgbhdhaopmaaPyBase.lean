/-
 Several texts in one.
-/
import Derived.Test.YtngjgbhdhaopmaaGeo6
import Derived.Test.YtngjgbhdhaopmaaPlShift
import Derived.Test.YtngjgbhdhaopmaaPlSums
import Derived.Test.YtngjgbhdhaopmaaPySort
/-
 The examples of the chapter;Check,Where.
-/
set_option linter.all false
set_option maxRecDepth 100000
namespace Go.Eng.R13
open Go Go.RowKit Go.Eng Geo
theorem awake_law : F207 100 = some true:=by kernel_rfl
end Go.Eng.R13
/-
 Moments and convexity: what the program computes of a valid polygon.
-/
set_option linter.all false
namespace Go.Eng.R13
open Go Go.RowKit Go.Eng Geo
def mxt (n : Nat) (f : FF) (i : Nat) : Int:=((pt f i).1 + (pt f (nx n i)).1) * aterm n f i
def myt (n : Nat) (f : FF) (i : Nat) : Int:=((pt f i).2 + (pt f (nx n i)).2) * aterm n f i
theorem mt_bd {n : Nat} {f : FF} (h0 : 3 ≤ n) (hA : AllNr n f) {i : Nat} (hi : i < n) : (-140737488355328 ≤ mxt n f i ∧ mxt n f i ≤ 140737488355328) ∧ (-140737488355328 ≤ myt n f i ∧ myt n f i ≤ 140737488355328):=by
 have h1 := hA i hi
 have h2 := hA _ (nx_lt (i := i) h0)
 have h3 := aterm_bd h0 hA hi
 unfold nr at h1 h2
 have k1 := mul_bd (x := CV.int (f i 0) + CV.int (f (nx n i) 0)) (y := aterm n f i) (A := 65536) (B := 2147483648) (by omega) (by omega) (by omega) (by omega)
 have k2 := mul_bd (x := CV.int (f i 1) + CV.int (f (nx n i) 1)) (y := aterm n f i) (A := 65536) (B := 2147483648) (by omega) (by omega) (by omega) (by omega)
 unfold mxt myt
 dsimp only [pt]
 omega
theorem ms_bd {n : Nat} {f : FF} (h0 : 3 ≤ n) (hA : AllNr n f) : ∀ i,i ≤ n → (-140737488355328 * (i : Int) ≤ sm i (mxt n f) ∧ sm i (mxt n f) ≤ 140737488355328 * (i : Int)) ∧ (-140737488355328 * (i : Int) ≤ sm i (myt n f) ∧ sm i (myt n f) ≤ 140737488355328 * (i : Int))
 | 0,_ => by simp [sm]
 | i + 1,h => by
  have h1 := ms_bd h0 hA i (by omega)
  have h2 := mt_bd h0 hA (i := i) (by omega)
  rw [sm,sm]
  omega
theorem mom43 {ρ : Type} (n : Nat) (f : FF) (hn : n ≤ 32) (h0 : 3 ≤ n) (hA : AllNr n f) (k0 : Int → Int → Option ρ) : ∀ (m i : Nat),n < m + i → i ≤ n →
  L43v1 100 n f (Int.ofNat n) m (sm i (mxt n f)) (sm i (myt n f)) (Int.ofNat i) k0 = k0 (sm n (mxt n f)) (sm n (myt n f)):=by
 intro m
 induction m with
 | zero => intro i h1 h2;omega
 | succ m ih =>
  intro i h1 h2
  unfold L43v1
  rw [lt_nat,inb_nat,toNat_nat]
  by_cases h : i < n
  ·have hx : nx n i < n := nx_lt h0
   have e1 : (i + 1) % n = nx n i := rfl
   have b1 := term_bd (hA i h) (hA _ hx)
   have b2 := ms_bd h0 hA i h2
   have b3 := ms_bd h0 hA (i + 1) (by omega)
   have b4 := aterm_bd h0 hA h
   have b5 := mt_bd h0 hA h
   have n1 := hA i h
   have n2 := hA _ hx
   unfold nr at n1 n2
   have ea : (CV.int (f i 0)) * (CV.int (f (nx n i) 1)) - (CV.int (f (nx n i) 0)) * (CV.int (f i 1)) = aterm n f i := rfl
   have ex : (CV.int (f i 0) + CV.int (f (nx n i) 0)) * aterm n f i = mxt n f i := rfl
   have ey : (CV.int (f i 1) + CV.int (f (nx n i) 1)) * aterm n f i = myt n f i := rfl
   have e2 : sm (i + 1) (mxt n f) = sm i (mxt n f) + mxt n f i := rfl
   have e3 : sm (i + 1) (myt n f) = sm i (myt n f) + myt n f i := rfl
   rw [bif_t (by simpa using h),bif_t (by simpa using h),bif_f (ofNat_ne0 (by omega)),w64_succ (by omega),tmod_nat,inb_nat,toNat_nat,e1,bif_t (by simpa using hx)]
   rw [w64_of (n := CV.int (f i 0) * CV.int (f (nx n i) 1)) (by omega) (by omega),w64_of (n := CV.int (f (nx n i) 0) * CV.int (f i 1)) (by omega) (by omega),ea,w64_of (n := aterm n f i) (by omega) (by omega)]
   rw [w64_of (n := CV.int (f i 0) + CV.int (f (nx n i) 0)) (by omega) (by omega),w64_of (n := CV.int (f i 1) + CV.int (f (nx n i) 1)) (by omega) (by omega),ex,ey,w64_of (n := mxt n f i) (by omega) (by omega),w64_of (n := myt n f i) (by omega) (by omega)]
   rw [w64_of (n := sm i (mxt n f) + mxt n f i) (by omega) (by omega),w64_of (n := sm i (myt n f) + myt n f i) (by omega) (by omega),← e2,← e3]
   exact ih (i + 1) (by omega) (by omega)
  ·rw [bif_f (by simpa using h)]
   have : i = n:=by omega
   rw [this]
theorem moment_law {n : Nat} {f : FF} (V : Valid n f) : F43 100 n f = some (sm n (mxt n f),sm n (myt n f)):=by
 unfold F43
 obtain ⟨c,h1,_,h3⟩ := check_law n f
 have hc := h3.2 V
 subst hc
 have hs := V.small
 rw [h1,ob_some,bif_f (by rfl)]
 exact mom43 n f V.small V.big V.near (fun x15 x16 => some (x15,x16)) 100 0 (by omega) (by omega)
theorem valid_code {n : Nat} {f : FF} (V : Valid n f) : F33 100 n f = some 0 ∧ F37 100 n f = some 0:=by
 obtain ⟨c,h1,h2,h3⟩ := check_law n f
 have hc := h3.2 V
 subst hc
 exact ⟨h1,h2⟩
theorem area34 {n : Nat} {f : FF} (V : Valid n f) : F34 100 n f = some (area n (pt f)):=by
 obtain ⟨a,h1,_,h2⟩ := area_law n f
 rw [h1,h2 V]
def cr (n : Nat) (p : Nat → Pt) (i : Nat) : Int := cross (p i) (p (nx n i)) (p (nx n (nx n i)))
end Go.Eng.R13
/-
 A polygon that is moved.
-/
set_option linter.all false
set_option maxRecDepth 100000
namespace Go.Eng.R13
open Go Go.RowKit Go.Eng Geo
theorem range_code {n : Nat} {f : FF} (h0 : 3 ≤ n) (hs : n ≤ 32) (h : ¬ AllNr n f) : F37 100 n f = some 9:=by
 unfold F37
 obtain ⟨b,h1,h2⟩ := near66 n f (by omega)
 have hb : b = false:=by
  cases b with
  | false => rfl
  | true => exact absurd (h2.1 rfl) h
 subst hb
 rw [bif_f (by simp;omega),bif_f (by simp;omega),h1,ob_some]
 rfl
theorem mx_moved (dx dy : Int) {n : Nat} {p q : Nat → Pt} (h0 : 0 < n) (h : ∀ i,i < n → q i = ((p i).1 + dx,(p i).2 + dy)) :
  sm n (fun i => ((q i).1 + (q (nx n i)).1) * ((q i).1 * (q (nx n i)).2 - (q (nx n i)).1 * (q i).2)) = sm n (fun i => ((p i).1 + (p (nx n i)).1) * ((p i).1 * (p (nx n i)).2 - (p (nx n i)).1 * (p i).2)) + 3 * dx * area n p:=by
 have e : sm n (fun i => ((q i).1 + (q (nx n i)).1) * ((q i).1 * (q (nx n i)).2 - (q (nx n i)).1 * (q i).2)) =
   sm n (fun i => (((p i).1 + (p (nx n i)).1) * ((p i).1 * (p (nx n i)).2 - (p (nx n i)).1 * (p i).2) + 3 * dx * ((p i).1 * (p (nx n i)).2 - (p (nx n i)).1 * (p i).2)) + ((fun j => - dy * (p j).1 * (p j).1 + dx * (p j).1 * (p j).2 - 2 * dx * dy * (p j).1 + 2 * dx * dx * (p j).2) (nx n i) - (fun j => - dy * (p j).1 * (p j).1 + dx * (p j).1 * (p j).2 - 2 * dx * dy * (p j).1 + 2 * dx * dx * (p j).2) i)):=by
  refine sm_congr fun i hi => ?_
  have hx : nx n i < n := Nat.mod_lt _ h0
  rw [h i hi,h _ hx]
  dsimp only
  grind
 rw [e,sm_add,sm_add,sm_mul]
 have := sm_cycle n (fun j => - dy * (p j).1 * (p j).1 + dx * (p j).1 * (p j).2 - 2 * dx * dy * (p j).1 + 2 * dx * dx * (p j).2)
 have e2 : sm n (fun i => (fun j => - dy * (p j).1 * (p j).1 + dx * (p j).1 * (p j).2 - 2 * dx * dy * (p j).1 + 2 * dx * dx * (p j).2) (nx n i) - (fun j => - dy * (p j).1 * (p j).1 + dx * (p j).1 * (p j).2 - 2 * dx * dy * (p j).1 + 2 * dx * dx * (p j).2) i) = 0 := this
 rw [e2,Int.add_zero]
 rfl
theorem my_moved (dx dy : Int) {n : Nat} {p q : Nat → Pt} (h0 : 0 < n) (h : ∀ i,i < n → q i = ((p i).1 + dx,(p i).2 + dy)) :
  sm n (fun i => ((q i).2 + (q (nx n i)).2) * ((q i).1 * (q (nx n i)).2 - (q (nx n i)).1 * (q i).2)) = sm n (fun i => ((p i).2 + (p (nx n i)).2) * ((p i).1 * (p (nx n i)).2 - (p (nx n i)).1 * (p i).2)) + 3 * dy * area n p:=by
 have e : sm n (fun i => ((q i).2 + (q (nx n i)).2) * ((q i).1 * (q (nx n i)).2 - (q (nx n i)).1 * (q i).2)) =
   sm n (fun i => (((p i).2 + (p (nx n i)).2) * ((p i).1 * (p (nx n i)).2 - (p (nx n i)).1 * (p i).2) + 3 * dy * ((p i).1 * (p (nx n i)).2 - (p (nx n i)).1 * (p i).2)) + ((fun j => dx * (p j).2 * (p j).2 - dy * (p j).1 * (p j).2 + 2 * dx * dy * (p j).2 - 2 * dy * dy * (p j).1) (nx n i) - (fun j => dx * (p j).2 * (p j).2 - dy * (p j).1 * (p j).2 + 2 * dx * dy * (p j).2 - 2 * dy * dy * (p j).1) i)):=by
  refine sm_congr fun i hi => ?_
  have hx : nx n i < n := Nat.mod_lt _ h0
  rw [h i hi,h _ hx]
  dsimp only
  grind
 rw [e,sm_add,sm_add,sm_mul]
 have e2 : sm n (fun i => (fun j => dx * (p j).2 * (p j).2 - dy * (p j).1 * (p j).2 + 2 * dx * dy * (p j).2 - 2 * dy * dy * (p j).1) (nx n i) - (fun j => dx * (p j).2 * (p j).2 - dy * (p j).1 * (p j).2 + 2 * dx * dy * (p j).2 - 2 * dy * dy * (p j).1) i) = 0 := sm_cycle n (fun j => dx * (p j).2 * (p j).2 - dy * (p j).1 * (p j).2 + 2 * dx * dy * (p j).2 - 2 * dy * dy * (p j).1)
 rw [e2,Int.add_zero]
 rfl
theorem loop218 {ρ : Type} (n : Nat) (f : FF) (dx dy x y : Int) (hA : AllNr n f) (hx : -32768 ≤ dx ∧ dx ≤ 32767) (hy : -32768 ≤ dy ∧ dy ≤ 32767) (hn : n ≤ 32) (k0 : Nat → FF → Option ρ) : ∀ (m j : Nat) (g : FF),n < m + j → j ≤ n → Are (fun a => ((pt f a).1 + dx,(pt f a).2 + dy)) g j →
  ∃ g',L218v1 100 n f dx dy x y m j (Int.ofNat j) g k0 = k0 n g' ∧ Are (fun a => ((pt f a).1 + dx,(pt f a).2 + dy)) g' n:=by
 intro m
 induction m with
 | zero => intro j g h1 h2;omega
 | succ m ih =>
  intro j g h1 h2 hg
  unfold L218v1
  rw [lt_nat,inb_nat,toNat_nat]
  by_cases h : j < n
  ·have hj := hA j h
   unfold nr at hj
   rw [bif_t (decide_eq_true h),bif_t (decide_eq_true h),bif_t (decide_eq_true h),bif_t (ble_ok (by omega)),w64_succ (by omega),w64_of (n := CV.int (f j 0) + dx) (by omega) (by omega),w64_of (n := CV.int (f j 1) + dy) (by omega) (by omega)]
   exact ih (j + 1) _ (by omega) (by omega) (hg.snoc (P:=fun a => ((pt f a).1 + dx,(pt f a).2 + dy)) rfl)
  ·have : j = n:=by omega
   subst this
   rw [bif_f (by simp)]
   exact ⟨g,rfl,hg⟩
theorem loop218r {ρ : Type} (n : Nat) (f : FF) (dx dy x y : Int) (hA : AllNr n f) (hx : -32768 ≤ dx ∧ dx ≤ 32767) (hy : -32768 ≤ dy ∧ dy ≤ 32767) (hn : n ≤ 32) (k0 : Nat → FF → Option ρ) (r : Option ρ)
  (h : ∀ g,Are (fun a => ((pt f a).1 + dx,(pt f a).2 + dy)) g n → k0 n g = r) : L218v1 100 n f dx dy x y 100 0 0 (fun _ _ => .any) k0 = r:=by
 obtain ⟨g,h1,h2⟩ := loop218 n f dx dy x y hA hx hy hn k0 100 0 (fun _ _ => .any) (by omega) (by omega) (fun j hj => by omega)
 rw [show (0 : Int) = Int.ofNat 0 from rfl,h1]
 exact h g h2
theorem Are.at_ {P : Nat → Int × Int} {g : FF} {n : Nat} (h : Are P g n) {i : Nat} (hi : i < n) : pt g i = P i:=by
 obtain ⟨h1,h2⟩ := h i hi
 show (CV.int (g i 0),CV.int (g i 1)) = P i
 rw [h1,h2];rfl
theorem moves_plain12 (n : Nat) (f : FF) (dx dy x y : Int) (hx : -32768 ≤ dx ∧ dx ≤ 32767) (hy : -32768 ≤ dy ∧ dy ≤ 32767) (hqx : -32768 ≤ x ∧ x ≤ 32767) (hqy : -32768 ≤ y ∧ y ≤ 32767) : F218 100 n f dx dy x y = some true:=by
 unfold F218
 rw [awake_law]
 obtain ⟨c,_,h2,h3⟩ := check_law n f
 rw [h2,ob_some]
 by_cases hc : c = 0
 ·have V := h3.1 hc
  have hb := V.big
  have hs := V.small
  rw [bif_f (by simp [hc])]
  simp only [w64_of (n := dx) (by omega) (by omega),w64_of (n := dy) (by omega) (by omega),w64_of (n := x) (by omega) (by omega),w64_of (n := y) (by omega) (by omega)]
  refine loop218r n f dx dy x y V.near hx hy hs _ _ fun g hg => ?_
  have hp : ∀ i,i < n → pt g i = tr (dx,dy) (pt f i):=fun i hi => hg.at_ hi
  obtain ⟨c',hc1,hc2,hc3⟩ := check_law n g
  by_cases hA : AllNr n g
  ·have R := rigid_tr (dx,dy)
   have W : Valid n g := ⟨hb,hs,hA,simple_congr (fun i hi => (hp i hi).symm) (R.simple.2 V.simple)⟩
   have hmx : sm n (mxt n g) = sm n (mxt n f) + 3 * dx * area n (pt f) := mx_moved dx dy (by omega) hp
   have hmy : sm n (myt n g) = sm n (myt n f) + 3 * dy * area n (pt f) := my_moved dx dy (by omega) hp
   have har : area n (pt g) = area n (pt f):=by rw [area_congr (by omega) hp,R.area,Int.one_mul]
   have bm := ms_bd V.big V.near n (Nat.le_refl _)
   have ba := asum_bd V.big V.near n (Nat.le_refl _)
   have bg := ms_bd W.big W.near n (Nat.le_refl _)
   have ba' : sm n (aterm n f) = area n (pt f) := rfl
   rw [ba'] at ba
   have k1 := mul_bd (x := 3 * dx) (y := area n (pt f)) (A := 98304) (B := 68719476736) (by omega) (by omega) (by omega) (by omega)
   have k2 := mul_bd (x := 3 * dy) (y := area n (pt f)) (A := 98304) (B := 68719476736) (by omega) (by omega) (by omega) (by omega)
   have ex : w64 (sm n (mxt n f) + w64 (w64 (3 * dx) * area n (pt f))) = sm n (mxt n g):=by
    rw [w64_of (n := 3 * dx) (by omega) (by omega),w64_of (n := 3 * dx * area n (pt f)) (by omega) (by omega),hmx,w64_of (by omega) (by omega)]
   have ey : w64 (sm n (myt n f) + w64 (w64 (3 * dy) * area n (pt f))) = sm n (myt n g):=by
    rw [w64_of (n := 3 * dy) (by omega) (by omega),w64_of (n := 3 * dy * area n (pt f)) (by omega) (by omega),hmy,w64_of (by omega) (by omega)]
   have tx : w64 (x + dx) = x + dx := w64_of (by omega) (by omega)
   have ty : w64 (y + dy) = y + dy := w64_of (by omega) (by omega)
   obtain ⟨b,hb1,hb2⟩ := near69 (x + dx) (y + dy)
   obtain ⟨w,hw,_,hw'⟩ := where_law n f x y
   obtain ⟨z,hz,_,hz'⟩ := where_law n g (x + dx) (y + dy)
   have a1 := area34 W
   rw [har] at a1
   simp only [(valid_code W).1,(valid_code W).2,moment_law V,moment_law W,area34 V,a1,hw,hz,hb1,tx,ty,ob_some,ex,ey]
   cases b with
   | false => simp
   | true =>
    have hq := hb2.1 rfl
    have hq0 : nr x y:=by unfold nr;omega
    have e : z = w:=by
     obtain ⟨u1,u2⟩ := hw'.1 ⟨V,hq0⟩
     obtain ⟨v1,v2⟩ := hz'.1 ⟨W,hq⟩
     have ho : OnC n (pt g) (x + dx,y + dy) 0 ↔ OnC n (pt f) (x,y) 0:=by
      have k1 := onK_congr (n := n) (by omega) hp (x + dx,y + dy)
      have k2 := R.onK n (pt f) (x,y)
      exact ⟨fun ⟨j,_,h,h'⟩ => by
       obtain ⟨i,hi,h''⟩ := k2.1 (k1.1 ⟨j,h,h'⟩)
       exact ⟨i,Nat.zero_le _,hi,h''⟩,fun ⟨j,_,h,h'⟩ => by
       obtain ⟨i,hi,h''⟩ := k1.2 (k2.2 ⟨j,h,h'⟩)
       exact ⟨i,Nat.zero_le _,hi,h''⟩⟩
     by_cases hh : OnC n (pt f) (x,y) 0
     ·rw [u1 hh,v1 (ho.2 hh)]
     ·have hk : ¬ OnK n (pt f) (x,y):=fun ⟨j,h,h'⟩ => hh ⟨j,Nat.zero_le _,h,h'⟩
      have hpar : par n (pt g) (x + dx,y + dy) = par n (pt f) (x,y):=by
       rw [par_congr (by omega) hp]
       exact R.par n (pt f) (x,y) hk
      rw [u2 hh,v2 (fun h => hh (ho.1 h)),hpar]
    subst e
    simp
  ·have h9 := range_code hb hs hA
   rw [h9] at hc2
   cases hc2
   simp only [h9,hc1,ob_some]
   rfl
 ·rw [bif_t (by simpa using hc)]
  rfl
theorem moves12 (n0c0 : Nat) (f0c0 : Nat → Nat → CV) (h0c0 : SlIn (.pr (.int .i64) (.pr (.int .i64) .nil)) n0c0 f0c0) (a1c0 : Int) (a1c1 : Int) (h1c0 : (Lit.int .i16 a1c0).wf = true) (h1c1 : (Lit.int .i16 a1c1).wf = true) (a2c0 : Int) (a2c1 : Int) (h2c0 : (Lit.int .i16 a2c0).wf = true) (h2c1 : (Lit.int .i16 a2c1).wf = true) : F218 100 n0c0 f0c0 a1c0 a1c1 a2c0 a2c1 = some true:=by
 have e1 : IntKind.i16.min = -32768 := rfl
 have e2 : IntKind.i16.max = 32767 := rfl
 exact moves_plain12 _ _ _ _ _ _ (by simpa [Lit.wf,e1,e2] using h1c0) (by simpa [Lit.wf,e1,e2] using h1c1) (by simpa [Lit.wf,e1,e2] using h2c0) (by simpa [Lit.wf,e1,e2] using h2c1)
end Go.Eng.R13
