/-
 RegionChecks: the plain law;what a shape that is accepted looks like.
-/
import Derived.Test.YtmpnfnngjeojlaaPlWhere
set_option linter.all false
namespace Go.Eng.R13
open Go Go.RowKit Go.Eng Geo
theorem in73 (n n' : Nat) (f g : Nat → Nat → CV) (hn : n ≤ 32) (V : Valid n f) (W : Valid n' g) : ∀ (m i : Nat),n < m + i → i ≤ n →
  ∃ z,L73bv1 100 n f (listF [(.ro false (.pr (.int .i64) (.pr (.int .i64) .nil)) n' g)]) (Int.ofNat n) m (Int.ofNat i) (fun x => some x) (some (-1)) = some z ∧ (z < 0 ↔ ∀ j,i ≤ j → j < n → InC n' g (pt f j)):=by
 intro m
 induction m with
 | zero => intro i h1 h2;omega
 | succ m ih =>
  intro i h1 h2
  unfold L73bv1
  rw [lt_nat,inb_nat,toNat_nat]
  by_cases h : i < n
  ·obtain ⟨w,hw1,_,hw3⟩ := where_law n' g (CV.int (f i 0)) (CV.int (f i 1))
   have e64 : F64 100 (CV.int (f i 0)) (CV.int (f i 1)) (listF [(.ro false (.pr (.int .i64) (.pr (.int .i64) .nil)) n' g)]) = some (w != 1):=by
    unfold F64
    show ob (F65 100 n' g (CV.int (f i 0)) (CV.int (f i 1))) _ = _
    rw [hw1,ob_some]
   rw [bif_t (by simpa using h),bif_t (by simpa using h),w64_succ (by omega),e64,ob_some]
   have hin := hw3.one W (V.near i h)
   by_cases hw : w = 1
   ·rw [bif_f (by simpa using hw),all_step (Q:=fun j => InC n' g (pt f j)) (hin.1 hw)]
    exact ih (i + 1) (by omega) (by omega)
   ·rw [bif_t (by simpa using hw)]
    refine ⟨_,rfl,fun hh => ?_,fun hh => absurd (hin.2 (hh i (Nat.le_refl i) h)) hw⟩
    have := Int.natCast_nonneg i
    simp at hh;omega
  ·rw [bif_f (by simpa using h)]
   exact ⟨-1,rfl,fun _ j a b => by omega,fun _ => by decide⟩
theorem within35 (n n' : Nat) (f g : Nat → Nat → CV) (V : Valid n f) (W : Valid n' g) : ∃ r,F35 100 n f n' g = some r ∧ (r = true ↔ ¬ Touch n (pt f) n' (pt g) ∧ ∀ i,i < n → InC n' g (pt f i)):=by
 have vs := V.small
 unfold F35
 obtain ⟨t,h1,h2⟩ := touch58 n n' f g V W
 rw [h1,ob_some]
 cases t with
 | true =>
  rw [bif_f (by rfl)]
  exact ⟨false,rfl,fun hh => (by cases hh),fun hh => absurd (h2.1 rfl) hh.1⟩
 | false =>
  rw [bif_t (by rfl)]
  obtain ⟨z,h3,h4⟩ := in73 n n' f g V.small V W 100 0 (by omega) (by omega)
  unfold F50b F73b
  rw [show (0 : Int) = Int.ofNat 0 from rfl,h3,ob_some,ob_some]
  refine ⟨_,rfl,?_⟩
  have hT : ¬ Touch n (pt f) n' (pt g):=fun hh => by have := h2.2 hh;cases this
  have e : ((!decide (z ≥ Int.ofNat 0)) = true) ↔ z < 0:=by simp
  rw [e,h4]
  exact ⟨fun hh => ⟨hT,fun i hi => hh i (by omega) hi⟩,fun hh j _ hj => hh.2 j hj⟩
theorem apart36 (n n' : Nat) (f g : Nat → Nat → CV) (V : Valid n f) (W : Valid n' g) : ∃ r,F36 100 n f n' g = some r ∧ (r = true ↔ ¬ Touch n (pt f) n' (pt g) ∧ OutC n f (pt g 0) ∧ OutC n' g (pt f 0)):=by
 have vs := V.big
 have ws := W.big
 unfold F36
 obtain ⟨t,h1,h2⟩ := touch58 n n' f g V W
 rw [h1,ob_some]
 cases t with
 | true =>
  rw [bif_f (by rfl)]
  exact ⟨false,rfl,fun hh => (by cases hh),fun hh => absurd (h2.1 rfl) hh.1⟩
 | false =>
  have hT : ¬ Touch n (pt f) n' (pt g):=fun hh => by have := h2.2 hh;cases this
  obtain ⟨w,hw1,_,hw3⟩ := where_law n f (CV.int (g 0 0)) (CV.int (g 0 1))
  obtain ⟨u,hu1,_,hu3⟩ := where_law n' g (CV.int (f 0 0)) (CV.int (f 0 1))
  have hw := hw3.out V (W.near 0 (by omega))
  have hu := hu3.out W (V.near 0 (by omega))
  rw [bif_t (by rfl),bif_t (inb_true (by omega) (by omega)),hw1,ob_some]
  by_cases c1 : w < 0
  ·rw [bif_t (by simpa using c1),bif_t (inb_true (by omega) (by omega)),hu1,ob_some]
   refine ⟨_,rfl,?_⟩
   rw [decide_eq_true_iff,hu]
   exact ⟨fun hh => ⟨hT,hw.1 c1,hh⟩,fun hh => hh.2.2⟩
  ·rw [bif_f (by simpa using c1)]
   exact ⟨false,rfl,fun hh => (by cases hh),fun hh => absurd (hw.2 hh.2.1) c1⟩
def ApartAt (f2 : Nat → Nat → CV) (i j : Nat) : Prop :=
 ¬ Touch (CV.len (f2 i 0)) (pt (CV.el (f2 i 0))) (CV.len (f2 j 0)) (pt (CV.el (f2 j 0))) ∧ OutC (CV.len (f2 i 0)) (CV.el (f2 i 0)) (pt (CV.el (f2 j 0)) 0) ∧ OutC (CV.len (f2 j 0)) (CV.el (f2 j 0)) (pt (CV.el (f2 i 0)) 0)
structure HoleAt (n1 : Nat) (f1 : Nat → Nat → CV) (f2 : Nat → Nat → CV) (i : Nat) : Prop where
 valid : Valid (CV.len (f2 i 0)) (CV.el (f2 i 0))
 neg : area (CV.len (f2 i 0)) (pt (CV.el (f2 i 0))) < 0
 free : ¬ Touch (CV.len (f2 i 0)) (pt (CV.el (f2 i 0))) n1 (pt f1)
 inside : ∀ c,c < CV.len (f2 i 0) → InC n1 f1 (pt (CV.el (f2 i 0)) c)
structure VShape (n1 : Nat) (f1 : Nat → Nat → CV) (n2 : Nat) (f2 : Nat → Nat → CV) : Prop where
 few : n2 ≤ 8
 outer : Valid n1 f1
 pos : 0 < area n1 (pt f1)
 hole : ∀ i,i < n2 → HoleAt n1 f1 f2 i
 apart : ∀ i,i < n2 → ∀ j,j < i → ApartAt f2 i j
theorem apart_loop {ρ : Type} (n1 n2 i : Nat) (f1 f2 : Nat → Nat → CV) (hn : n2 ≤ 8) (hi : i < n2) (V : Valid (CV.len (f2 i 0)) (CV.el (f2 i 0))) (hV : ∀ j,j < i → Valid (CV.len (f2 j 0)) (CV.el (f2 j 0))) (k0 k1 : Option ρ) : ∀ (m j : Nat),i < m + j → j ≤ i →
  ((∀ j',j ≤ j' → j' < i → ApartAt f2 i j') → L13v2 100 (CV.len (f2 i 0)) (CV.el (f2 i 0)) n2 f2 (Int.ofNat n2) (Int.ofNat i) i (Int.ofNat i) n1 f1 m (Int.ofNat j) k0 k1 = k1 ∧ L14v2 100 (Int.ofNat i) (CV.len (f2 i 0)) (CV.el (f2 i 0)) n1 f1 n2 f2 m (Int.ofNat j) k0 k1 = k1) ∧
  (¬ (∀ j',j ≤ j' → j' < i → ApartAt f2 i j') → L13v2 100 (CV.len (f2 i 0)) (CV.el (f2 i 0)) n2 f2 (Int.ofNat n2) (Int.ofNat i) i (Int.ofNat i) n1 f1 m (Int.ofNat j) k0 k1 = k0 ∧ L14v2 100 (Int.ofNat i) (CV.len (f2 i 0)) (CV.el (f2 i 0)) n1 f1 n2 f2 m (Int.ofNat j) k0 k1 = k0):=by
 intro m
 induction m with
 | zero => intro j h1 h2;omega
 | succ m ih =>
  intro j h1 h2
  unfold L13v2 L14v2
  rw [lt_nat,inb_nat,inb_nat,toNat_nat]
  by_cases h : j < i
  ·have hj : j < n2:=by omega
   have Vj := hV j h
   have vb := V.big
   have vjb := Vj.big
   rw [bif_t (decide_eq_true h),bif_t (decide_eq_true h),bif_t (decide_eq_true h),bif_t (decide_eq_true hj),w64_succ (by omega)]
   obtain ⟨r,hr1,hr2⟩ := apart36 (CV.len (f2 i 0)) (CV.len (f2 j 0)) (CV.el (f2 i 0)) (CV.el (f2 j 0)) V Vj
   obtain ⟨t,ht1,ht2⟩ := touch39 (CV.len (f2 i 0)) (CV.len (f2 j 0)) (CV.el (f2 i 0)) (CV.el (f2 j 0)) V Vj
   obtain ⟨w,_,hw2,hw3⟩ := where_law (CV.len (f2 i 0)) (CV.el (f2 i 0)) (CV.int ((CV.el (f2 j 0)) 0 0)) (CV.int ((CV.el (f2 j 0)) 0 1))
   obtain ⟨u,_,hu2,hu3⟩ := where_law (CV.len (f2 j 0)) (CV.el (f2 j 0)) (CV.int ((CV.el (f2 i 0)) 0 0)) (CV.int ((CV.el (f2 i 0)) 0 1))
   have hw := hw3.out V (Vj.near 0 (by omega))
   have hu := hu3.out Vj (V.near 0 (by omega))
   have rw1 := hw3.range
   have ru1 := hu3.range
   rw [hr1,ht1,ob_some,ob_some]
   by_cases hA : ApartAt f2 i j
   ·have er : r = true := hr2.2 hA
    have et : t = false:=by
     cases t with
     | false => rfl
     | true => exact absurd (ht2.1 rfl) hA.1
    have ew : w = -1:=by have := hw.2 hA.2.1;omega
    have eu : u = -1:=by have := hu.2 hA.2.2;omega
    subst er;subst et;subst ew;subst eu
    rw [bif_f (show (!true) = false from rfl),bif_t (show (false == false) = true from rfl),bif_t (decide_eq_true hj),bif_t (inb_true (by omega) (by omega)),hw2,ob_some,bif_t (by rfl),bif_t (decide_eq_true hj),bif_t (inb_true (by omega) (by omega)),hu2,ob_some,bif_f (by rfl)]
    rw [all_step (Q:=fun j' => ApartAt f2 i j') hA]
    exact ih (j + 1) (by omega) (by omega)
   ·have er : r = false:=by
     cases r with
     | false => rfl
     | true => exact absurd (hr2.1 rfl) hA
    subst er
    rw [bif_t (show (!false) = true from rfl)]
    refine ⟨fun hh => absurd (hh j (Nat.le_refl j) h) hA,fun _ => ⟨rfl,?_⟩⟩
    cases t with
    | true => rw [bif_f (by rfl)]
    | false =>
     have hT : ¬ Touch (CV.len (f2 i 0)) (pt (CV.el (f2 i 0))) (CV.len (f2 j 0)) (pt (CV.el (f2 j 0))):=fun hh => by have := ht2.2 hh;cases this
     rw [bif_t (show (false == false) = true from rfl),bif_t (decide_eq_true hj),bif_t (inb_true (by omega) (by omega)),hw2,ob_some]
     by_cases cw : w = -1
     ·rw [bif_t (by simpa using cw),bif_t (decide_eq_true hj),bif_t (inb_true (by omega) (by omega)),hu2,ob_some]
      by_cases cu : u = -1
      ·exact absurd ⟨hT,hw.1 (by omega),hu.1 (by omega)⟩ hA
      ·rw [bif_t (by simpa using cu)]
     ·rw [bif_f (by simpa using cw)]
  ·rw [bif_f (by simpa using h),bif_f (by simpa using h)]
   exact ⟨fun _ => ⟨rfl,rfl⟩,fun hh => absurd (fun j' a b => by omega) hh⟩
theorem holes_loop (n1 n2 : Nat) (f1 f2 : Nat → Nat → CV) (hn : n2 ≤ 8) (V : Valid n1 f1) : ∀ (m i : Nat),n2 < m + i → i ≤ n2 → (∀ j,j < i → HoleAt n1 f1 f2 j) →
  ∃ c,L13v3 100 n2 f2 (Int.ofNat n2) n1 f1 m (Int.ofNat i) (fun x => some x) (some 0) = some c ∧ L14v3 100 n1 f1 n2 f2 m (Int.ofNat i) (fun x => some x) (some 0) = some c ∧
   (c = 0 ↔ ∀ j,i ≤ j → j < n2 → HoleAt n1 f1 f2 j ∧ ∀ j',j' < j → ApartAt f2 j j'):=by
 intro m
 induction m with
 | zero => intro i h1 h2;omega
 | succ m ih =>
  intro i h1 h2 hp
  unfold L13v3 L14v3
  rw [lt_nat,inb_nat,toNat_nat]
  by_cases h : i < n2
  ·rw [bif_t (decide_eq_true h),bif_t (decide_eq_true h),bif_t (decide_eq_true h),bif_t (decide_eq_true h),w64_succ (by omega)]
   have no : ∀ c : Int,c ≠ 0 → ¬ (HoleAt n1 f1 f2 i ∧ ∀ j',j' < i → ApartAt f2 i j') → (c = 0 ↔ ∀ j,i ≤ j → j < n2 → HoleAt n1 f1 f2 j ∧ ∀ j',j' < j → ApartAt f2 j j') :=
    fun c hc hh => ⟨fun h' => absurd h' hc,fun h' => absurd (h' i (Nat.le_refl i) h) hh⟩
   obtain ⟨c,hc1,hc2,hc3⟩ := check_law (CV.len (f2 i 0)) (CV.el (f2 i 0))
   rw [hc1,hc2,ob_some,ob_some]
   by_cases c0 : c = 0
   ·subst c0
    have W := hc3.1 rfl
    obtain ⟨a,ha1,ha2,ha3⟩ := area_law (CV.len (f2 i 0)) (CV.el (f2 i 0))
    have ea := ha3 W
    have wb := W.big
    rw [bif_f (show ((0 : Int) != 0) = false from rfl),bif_f (show ((0 : Int) != 0) = false from rfl),ha1,ha2,ob_some,ob_some]
    by_cases an : a < 0
    ·have da : (decide (a ≥ 0) == false) = true:=by simp;omega
     rw [bif_t da,bif_t da]
     obtain ⟨r,hr1,hr2⟩ := within35 (CV.len (f2 i 0)) n1 (CV.el (f2 i 0)) f1 W V
     obtain ⟨t,ht1,ht2⟩ := touch39 n1 (CV.len (f2 i 0)) f1 (CV.el (f2 i 0)) V W
     obtain ⟨w,_,hw2,hw3⟩ := where_law n1 f1 (CV.int ((CV.el (f2 i 0)) 0 0)) (CV.int ((CV.el (f2 i 0)) 0 1))
     have hw := hw3.one V (W.near 0 (by omega))
     rw [hr1,ht1,ob_some,ob_some]
     have tt : Touch n1 (pt f1) (CV.len (f2 i 0)) (pt (CV.el (f2 i 0))) ↔ Touch (CV.len (f2 i 0)) (pt (CV.el (f2 i 0))) n1 (pt f1) := ⟨Touch.symm,Touch.symm⟩
     by_cases hT : Touch (CV.len (f2 i 0)) (pt (CV.el (f2 i 0))) n1 (pt f1)
     ·have er : r = false:=by
       cases r with
       | false => rfl
       | true => exact absurd hT (hr2.1 rfl).1
      have et : t = true := ht2.2 (tt.2 hT)
      subst er;subst et
      rw [bif_t (show (!false) = true from rfl),bif_f (show (true == false) = false from rfl)]
      exact ⟨17,rfl,rfl,no 17 (by decide) fun hh => hh.1.free hT⟩
     ·have et : t = false:=by
       cases t with
       | false => rfl
       | true => exact absurd (tt.1 (ht2.1 rfl)) hT
      subst et
      have hall := all_corners W.big hT
      rw [bif_t (show (false == false) = true from rfl),bif_t (inb_true (by omega) (by omega)),hw2,ob_some]
      by_cases hin : InC n1 f1 (pt (CV.el (f2 i 0)) 0)
      ·have er : r = true := hr2.2 ⟨hT,fun j hj => ⟨(hall j hj).1,(hall j hj).2.trans hin.2⟩⟩
       have ew : w = 1 := hw.2 hin
       subst er;subst ew
       rw [bif_f (show (!true) = false from rfl),bif_f (show ((1 : Int) != 1) = false from rfl),bif_t (inbe_true (i := Int.ofNat i) (n := n2) (by simp) (by simp;omega))]
       have Hi : HoleAt n1 f1 f2 i := ⟨W,by rw [← ea];exact an,hT,(hr2.1 rfl).2⟩
       obtain ⟨cc,e1,e2,e3⟩ := ih (i + 1) (by omega) (by omega) (fun j hj => by
        by_cases e : j = i
        ·rw [e];exact Hi
        ·exact hp j (by omega))
       have ap:=fun (k0 k1 : Option Int) => apart_loop n1 n2 i f1 f2 hn h W (fun j hj => (hp j hj).valid) k0 k1 100 0 (by omega) (by omega)
       have es : i - 0 = i := rfl
       rw [es,show (0 : Int) = Int.ofNat 0 from rfl]
       by_cases hap : ∀ j',0 ≤ j' → j' < i → ApartAt f2 i j'
       ·rw [((ap _ _).1 hap).1,((ap _ _).1 hap).2]
        refine ⟨cc,e1,e2,e3.trans ?_⟩
        rw [all_step (Q:=fun j => HoleAt n1 f1 f2 j ∧ ∀ j',j' < j → ApartAt f2 j j') ⟨Hi,fun j' hj' => hap j' (by omega) hj'⟩]
       ·rw [((ap _ _).2 hap).1,((ap _ _).2 hap).2]
        exact ⟨17,rfl,rfl,no 17 (by decide) fun hh => hap fun j' _ hj' => hh.2 j' hj'⟩
      ·have er : r = false:=by
        cases r with
        | false => rfl
        | true => exact absurd ((hr2.1 rfl).2 0 (by omega)) hin
       have ew : w ≠ 1:=fun hh => hin (hw.1 hh)
       subst er
       rw [bif_t (show (!false) = true from rfl),bif_t (by simpa using ew)]
       exact ⟨17,rfl,rfl,no 17 (by decide) fun hh => hin (hh.1.inside 0 (by omega))⟩
    ·have da : (decide (a ≥ 0) == false) = false:=by simp;omega
     rw [bif_f da,bif_f da]
     exact ⟨17,rfl,rfl,no 17 (by decide) fun hh => by have := hh.1.neg;omega⟩
   ·have dc : (c != 0) = true:=by simpa using c0
    rw [bif_t dc,bif_t dc]
    exact ⟨c,rfl,rfl,no c c0 fun hh => c0 (hc3.2 hh.1.valid)⟩
  ·rw [bif_f (by simpa using h),bif_f (by simpa using h)]
   exact ⟨0,rfl,rfl,fun _ j a b => by omega,fun _ => rfl⟩
theorem shape_law (n1 n2 : Nat) (f1 f2 : Nat → Nat → CV) : ∃ c,F13 100 n1 f1 n2 f2 = some c ∧ F14 100 n1 f1 n2 f2 = some c ∧ (c = 0 ↔ VShape n1 f1 n2 f2):=by
 unfold F13 F14
 by_cases h1 : n2 ≤ 8
 ·have d1 : decide (Int.ofNat n2 > 8) = false:=by simp;omega
  rw [bif_f d1,bif_f d1]
  obtain ⟨c,hc1,hc2,hc3⟩ := check_law n1 f1
  rw [hc1,hc2,ob_some,ob_some]
  by_cases c0 : c = 0
  ·subst c0
   have V := hc3.1 rfl
   obtain ⟨a,ha1,ha2,ha3⟩ := area_law n1 f1
   have ea := ha3 V
   rw [bif_f (by rfl),bif_f (by rfl),ha1,ha2,ob_some,ob_some]
   by_cases ap : a ≤ 0
   ·rw [bif_t (by simpa using ap),bif_t (by simpa using ap)]
    exact ⟨17,rfl,rfl,fun hh => (by cases hh),fun hh => by have := hh.pos;omega⟩
   ·rw [bif_f (by simpa using ap),bif_f (by simpa using ap)]
    obtain ⟨cc,e1,e2,e3⟩ := holes_loop n1 n2 f1 f2 h1 V 100 0 (by omega) (by omega) (fun j hj => by omega)
    refine ⟨cc,e1,e2,e3.trans ⟨fun hh => ⟨h1,V,by omega,fun i hi => (hh i (by omega) hi).1,fun i hi => (hh i (by omega) hi).2⟩,fun hh j _ hj => ⟨hh.hole j hj,hh.apart j hj⟩⟩⟩
  ·rw [bif_t (by simpa using c0),bif_t (by simpa using c0)]
   exact ⟨c,rfl,rfl,fun hh => absurd hh c0,fun hh => absurd (hc3.2 hh.outer) c0⟩
 ·have d1 : decide (Int.ofNat n2 > 8) = true:=by simp;omega
  rw [bif_t d1,bif_t d1]
  exact ⟨12,rfl,rfl,fun hh => (by cases hh),fun hh => absurd hh.few h1⟩
end Go.Eng.R13
