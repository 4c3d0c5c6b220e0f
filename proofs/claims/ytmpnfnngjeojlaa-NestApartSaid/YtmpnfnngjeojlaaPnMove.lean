/-
 Several texts in one.
-/
import Derived.Test.YtmpnfnngjeojlaaEngV
import Derived.Test.YtmpnfnngjeojlaaGeo6
import Derived.Test.YtmpnfnngjeojlaaPlApart
/-
 Nest: a part at a spot,as the program and as the reference move it;shapes of equal points.
-/
set_option linter.all false
namespace Go.Eng.R13
open Go Go.RowKit Go.Eng Geo
structure Mv (T : Pt → Pt) (n1 : Nat) (f1 : Nat → Nat → CV) (n2 : Nat) (f2 g1 g2 : Nat → Nat → CV) : Prop where
 fit : Rigid 1 T
 outer : ∀ j,j < n1 → pt g1 j = T (pt f1 j)
 len : ∀ j,j < n2 → CV.len (g2 j 0) = CV.len (f2 j 0)
 hole : ∀ j,j < n2 → ∀ i,i < CV.len (f2 j 0) → pt (CV.el (g2 j 0)) i = T (pt (CV.el (f2 j 0)) i)
def Small (n1 : Nat) (n2 : Nat) (f2 : Nat → Nat → CV) : Prop := n1 ≤ 40 ∧ n2 ≤ 12 ∧ ∀ j,j < n2 → CV.len (f2 j 0) ≤ 40
structure MovedTo (s : ByteArray) (tx ty : Int) (turn : Int) (fl : Bool) (n1 : Nat) (f1 : Nat → Nat → CV) (n2 : Nat) (f2 : Nat → Nat → CV) (a : Nat) (c : Nat → Nat → CV) (b : Nat) (d : Nat → Nat → CV) : Prop where
 small : Small a b d
 size : a ≤ n1 ∧ b ≤ n2
 all : ∀ t : Nat,turn = Int.ofNat t → t ≤ 3 → ¬ (farB tx ty = true ∨ FarC (1 + n2) (cfh n1 f1 f2) 0) → a = n1 ∧ b = n2 ∧ Are (cq fl t tx ty n1 f1) c n1 ∧ Holes fl t tx ty f2 d n2
 none : (turn < 0 ∨ 3 < turn ∨ farB tx ty = true ∨ FarC (1 + n2) (cfh n1 f1 f2) 0) → a = 0 ∧ b = 0
theorem are_are {P : Nat → Int × Int} {f g : Nat → Nat → CV} {n : Nat} (h : Are P f n) (h' : Are P g n) : ∀ j,j < n → pt g j = pt f j:=fun j hj => (are_pt h' j hj).trans (are_pt h j hj).symm
theorem move_eq (n1 n2 : Nat) (f1 f2 : Nat → Nat → CV) (s : ByteArray) (tx ty turn : Int) (fl : Bool) (S : Small n1 n2 f2) : ∃ a c b d c' d',
  F25 100 n1 f1 n2 f2 s tx ty turn fl = some (a,c,b,d) ∧ F26 100 n1 f1 n2 f2 s tx ty turn fl = some (a,c',b,d') ∧ Mv (fun p => p) a c b d c' d' ∧ MovedTo s tx ty turn fl n1 f1 n2 f2 a c b d:=by
 obtain ⟨hn1,hn2,hh⟩ := S
 have nothing : ∀ c d : Nat → Nat → CV,Mv (fun p => p) 0 c 0 d (fun _ _ => .any) (fun _ _ => .any):=fun c d => ⟨rigid_id,fun j hj => by omega,fun j hj => by omega,fun j hj => by omega⟩
 have hN : 1 + n2 ≤ 13:=by omega
 have hl : ∀ j,j < 1 + n2 → CV.len (joinF 1 (rowsF 1 [(.ro false (.pr (.int .i64) (.pr (.int .i64) .nil)) n1 f1)]) f2 j 0) ≤ 40:=by
  intro j hj
  by_cases e : j < 1
  ·have : j = 0:=by omega
   subst this
   rw [joinF_old _ _ _ _ _ (by omega)]
   exact hn1
  ·rw [joinF_new _ _ _ _ _ (by omega)]
   exact hh _ (by omega)
 have c42 : F42 100 n1 f1 n2 f2 = some (1 + n2,joinF 1 (rowsF 1 [(.ro false (.pr (.int .i64) (.pr (.int .i64) .nil)) n1 f1)]) f2):=by
  unfold F42
  rw [bif_t (ble_ok (by omega))]
 have c44 : F44 100 n1 f1 n2 f2 = some (1 + n2,joinF 1 (rowsF 1 [(.ro false (.pr (.int .i64) (.pr (.int .i64) .nil)) n1 f1)]) f2) := c42
 have hcf : cfh n1 f1 f2 = joinF 1 (rowsF 1 [(.ro false (.pr (.int .i64) (.pr (.int .i64) .nil)) n1 f1)]) f2 := rfl
 have nomove : (turn < 0 ∨ 3 < turn ∨ farB tx ty = true ∨ FarC (1 + n2) (cfh n1 f1 f2) 0) → ∀ c d,MovedTo s tx ty turn fl n1 f1 n2 f2 0 c 0 d:=fun h c d =>
  ⟨⟨by omega,by omega,fun j hj => by omega⟩,⟨by omega,by omega⟩,fun t e1 e2 e3 => by
   rcases h with k | k | k
   ·rw [e1] at k;simp at k;omega
   ·rw [e1] at k;simp at k;omega
   ·exact absurd k e3,fun _ => ⟨rfl,rfl⟩⟩
 rw [hcf] at nomove
 generalize hF : joinF 1 (rowsF 1 [(.ro false (.pr (.int .i64) (.pr (.int .i64) .nil)) n1 f1)]) f2 = F at hl c42 c44 nomove hcf
 generalize hNN : 1 + n2 = N at hN hl c42 c44 nomove
 by_cases ht1 : turn < 0
 ·refine ⟨0,(fun _ _ => .any),0,(fun _ _ => .any),_,_,?_,?_,nothing _ _,nomove (.inl ht1) _ _⟩
  ·unfold F25 FT25
   rw [bif_f (by simpa using ht1)];rfl
  ·unfold F26 FT26
   rw [c44,ob_some,bif_f (by simpa using ht1),show (0 : Int) = Int.ofNat 0 from rfl,idle_outer N n1 n2 F f1 f2 s tx ty turn fl hN hl _ 100 0 (by omega) (by omega)];rfl
 ·by_cases ht2 : turn > 3
  ·refine ⟨0,(fun _ _ => .any),0,(fun _ _ => .any),_,_,?_,?_,nothing _ _,nomove (.inr (.inl ht2)) _ _⟩
   ·unfold F25 FT25
    rw [bif_t (by simpa using ht1),bif_f (by simpa using ht2)];rfl
   ·unfold F26 FT26
    rw [c44,ob_some,bif_t (by simpa using ht1),bif_f (by simpa using ht2),show (0 : Int) = Int.ofNat 0 from rfl,idle_outer N n1 n2 F f1 f2 s tx ty turn fl hN hl _ 100 0 (by omega) (by omega)];rfl
  ·obtain ⟨t,rfl⟩ : ∃ t : Nat,turn = Int.ofNat t := ⟨turn.toNat,(Int.toNat_of_nonneg (by omega)).symm⟩
   have ht : t ≤ 3:=by simp at ht2;omega
   have e25 : (farB tx ty = true ∨ FarC N F 0) → F25 100 n1 f1 n2 f2 s tx ty (Int.ofNat t) fl = some (0,(fun _ _ => .any),0,(fun _ _ => .any)):=by
    intro hb
    unfold F25 FT25
    rw [bif_t (by simpa using ht1),bif_t (by simpa using ht2),far49,ob_some]
    cases hq : farB tx ty with
    | true => rw [bif_t rfl];rfl
    | false =>
     rw [bif_f rfl,c42,ob_some,show (0 : Int) = Int.ofNat 0 from rfl]
     have hc : FarC N F 0 := hb.resolve_left (by rw [hq];simp)
     rw [(farC_loop N n1 n2 F f1 f2 s tx ty (Int.ofNat t) fl hN hl _ _ 100 0 (by omega) (by omega)).1 hc];rfl
   obtain ⟨r,h3,h4⟩ := bad_outer N n1 n2 F f1 f2 s tx ty (Int.ofNat t) fl hN hl (fun x98 => (bif x98 then (some (true,0,(fun _ _ => CV.any),0,(fun _ _ => CV.any))) else (ob (F54 100 n1 f1 s tx ty (Int.ofNat t) fl) fun x99 => (L26v4 100 n1 f1 n2 f2 s tx ty (Int.ofNat t) fl x99.1 x99.2 100 0 0 (fun _ _ => .any)
 (fun x129 x130 => (some (false,x99.1,x99.2,x129,x130))))))) 100 0 (farB tx ty) (by omega) (by omega)
   by_cases hb : farB tx ty = true ∨ FarC N F 0
   ·refine ⟨0,_,0,_,_,_,e25 hb,?_,nothing _ _,nomove (.inr (.inr hb)) _ _⟩
    unfold F26 FT26
    rw [c44,ob_some,bif_t (by simpa using ht1),bif_t (by simpa using ht2),far53,ob_some]
    refine (congrArg (fun z => ob z _) h3).trans ?_
    rw [h4.2 hb,bif_t rfl];rfl
   ·obtain ⟨g,hg1,hg2⟩ := moved_law s n1 t fl tx ty f1 hn1 ht
    obtain ⟨g',hg3,hg4⟩ := contour_law s n1 t fl tx ty f1 hn1 ht
    have hr : r = false:=by
     cases r with
     | false => rfl
     | true => exact absurd (h4.1 rfl) hb
    have hq : farB tx ty = false:=by
     cases hq : farB tx ty with
     | false => rfl
     | true => exact absurd (.inl hq) hb
    obtain ⟨x,hx1,hx2⟩ := holes25 s n2 t fl tx ty f2 n1 n1 f1 g hn2 hh ht (fun x71 x72 => (some (false,n1,g,x71,x72))) 100 0 (fun _ _ => .any) (by omega) (by omega) (fun j hj => by omega)
    obtain ⟨x',hx3,hx4⟩ := holes26 s n2 t fl tx ty f2 n1 n1 f1 g' hn2 hh ht (fun x129 x130 => (some (false,n1,g',x129,x130))) 100 0 (fun _ _ => .any) (by omega) (by omega) (fun j hj => by omega)
    refine ⟨n1,g,n2,x,g',x',?_,?_,⟨rigid_id,are_are hg2 hg4,fun j hj => ?_,fun j hj => ?_⟩,⟨⟨hn1,hn2,fun j hj => ?_⟩,⟨by omega,by omega⟩,fun t' e1 e2 e3 => ?_,fun h => ?_⟩⟩
    ·unfold F25 FT25
     rw [bif_t (by simpa using ht1),bif_t (by simpa using ht2),far49,ob_some,hq,bif_f rfl,c42,ob_some]
     rw [show (0 : Int) = Int.ofNat 0 from rfl]
     rw [(farC_loop N n1 n2 F f1 f2 s tx ty (Int.ofNat t) fl hN hl _ _ 100 0 (by omega) (by omega)).2 (fun hc => hb (.inr hc)),hg1,ob_some]
     rw [hx1];rfl
    ·unfold F26 FT26
     rw [c44,ob_some,bif_t (by simpa using ht1),bif_t (by simpa using ht2),far53,ob_some]
     refine (congrArg (fun z => ob z _) h3).trans ?_
     rw [hr,bif_f rfl,hg3,ob_some]
     refine (congrArg (fun z => ob z _) hx3).trans ?_
     rfl
    ·exact (hx4 j hj).1.trans (hx2 j hj).1.symm
    ·obtain ⟨a1,a2⟩ := hx2 j hj
     obtain ⟨b1,b2⟩ := hx4 j hj
     rw [a1]
     exact are_are a2 b2
    ·rw [(hx2 j hj).1];exact hh j hj
    ·have : t' = t:=by have := e1;simp at this;omega
     subst this
     exact ⟨rfl,rfl,hg2,hx2⟩
    ·rw [hcf,hNN] at h
     rcases h with k | k | k
     ·exact absurd k (by simp)
     ·exact absurd k ht2
     ·exact absurd k hb
theorem Mv.ts {T : Pt → Pt} {n1 n2 : Nat} {f1 f2 g1 g2 : Nat → Nat → CV} (h : Mv T n1 f1 n2 f2 g1 g2) (a1 : AllNr n1 f1) (a2 : AllNr n1 g1) (a3 : ∀ j,j < n2 → AllNr (CV.len (f2 j 0)) (CV.el (f2 j 0))) (a4 : ∀ j,j < n2 → AllNr (CV.len (f2 j 0)) (CV.el (g2 j 0))) : TShape T false n1 f1 n2 f2 g1 g2 :=
 ⟨h.fit,h.outer,h.len,h.hole,a1,a2,a3,a4⟩
theorem VShape.all {n1 n2 : Nat} {f1 f2 : Nat → Nat → CV} (S : VShape n1 f1 n2 f2) : AllNr n1 f1 ∧ ∀ j,j < n2 → AllNr (CV.len (f2 j 0)) (CV.el (f2 j 0)) := ⟨S.outer.near,fun j hj => (S.hole j hj).valid.near⟩
theorem Mv.ts' {T : Pt → Pt} {n1 n2 : Nat} {f1 f2 g1 g2 : Nat → Nat → CV} (h : Mv T n1 f1 n2 f2 g1 g2) (S : VShape n1 f1 n2 f2) (a2 : AllNr n1 g1) (a4 : ∀ j,j < n2 → AllNr (CV.len (f2 j 0)) (CV.el (g2 j 0))) : TShape T false n1 f1 n2 f2 g1 g2 := h.ts S.all.1 a2 S.all.2 a4
theorem TShape.valid {T : Pt → Pt} {b : Bool} {n1 n2 : Nat} {f1 f2 g1 g2 : Nat → Nat → CV} (h : TShape T b n1 f1 n2 f2 g1 g2) (S : VShape n1 f1 n2 f2) : VShape n1 g1 n2 g2:=by
 obtain ⟨c,c1,_,c3⟩ := shape_law n1 n2 f1 f2
 obtain ⟨d,d1,_,d3⟩ := shape_law n1 n2 g1 g2
 have := t13 h
 rw [c1,d1] at this
 have e := Option.some.inj this
 exact d3.1 (e.trans (c3.2 S))
theorem dot_map {T : Pt → Pt} (h : ∀ p q,dot (T p) (T q) (T p) = dot p q p) (a b c : Pt) : dot (T a) (T b) (T c) = dot a b c:=by
 have h1 := h a b
 have h2 := h c b
 have h3 := h a c
 unfold dot at *
 grind
structure Iso (T : Pt → Pt) : Prop where
 rigid : Rigid 1 T
 len : ∀ p q,dot (T p) (T q) (T p) = dot p q p
theorem iso_id : Iso (fun p => p) := ⟨rigid_id,fun _ _ => rfl⟩
theorem Iso.near {T : Pt → Pt} (h : Iso T) {x p q : Pt} {g : Int} : Near (T x) (T p) (T q) g ↔ Near x p q g:=by
 unfold Near
 rw [dot_map h.len,dot_map h.len,dot_map h.len,dot_map h.len,h.rigid.cr]
 simp only [Int.one_mul]
theorem Iso.close {T : Pt → Pt} (h : Iso T) {a b c d : Pt} {g : Int} : Close g (T a) (T b) (T c) (T d) ↔ Close g a b c d:=by
 unfold Close
 rw [h.near,h.near,h.near,h.near,h.rigid.meet]
theorem Mv.cl {T : Pt → Pt} {n1 n2 : Nat} {f1 f2 g1 g2 : Nat → Nat → CV} (h : Mv T n1 f1 n2 f2 g1 g2) {i : Nat} (hi : i < 1 + n2) : cl (cf n1 g1 g2) i = cl (cf n1 f1 f2) i ∧ ∀ j,j < cl (cf n1 f1 f2) i → pt (ce (cf n1 g1 g2) i) j = T (pt (ce (cf n1 f1 f2) i) j):=by
 cases i with
 | zero => exact ⟨rfl,h.outer⟩
 | succ i =>
  obtain ⟨e1,e2⟩ := cf_succ n1 f1 f2 i
  obtain ⟨d1,d2⟩ := cf_succ n1 g1 g2 i
  rw [e1,e2,d1,d2]
  exact ⟨h.len i (by omega),h.hole i (by omega)⟩
theorem closeC_map {T : Pt → Pt} (h : Iso T) {gap : Int} {n n' : Nat} {f g f' g' : Nat → Nat → CV} (h0 : 0 < n) (h0' : 0 < n') (h1 : ∀ j,j < n → pt g j = T (pt f j)) (h2 : ∀ j,j < n' → pt g' j = T (pt f' j)) : CloseC gap n n' g g' ↔ CloseC gap n n' f f':=by
 constructor
 ·rintro ⟨i,hi,k,hk,hc⟩
  rw [h1 i hi,h1 _ (nx_lt' h0),h2 k hk,h2 _ (nx_lt' h0')] at hc
  exact ⟨i,hi,k,hk,h.close.1 hc⟩
 ·rintro ⟨i,hi,k,hk,hc⟩
  refine ⟨i,hi,k,hk,?_⟩
  rw [h1 i hi,h1 _ (nx_lt' h0),h2 k hk,h2 _ (nx_lt' h0')]
  exact h.close.2 hc
theorem f22_valid {n1 n2 : Nat} {f1 f2 : Nat → Nat → CV} (S : VShape n1 f1 n2 f2) (x y : Int) : F22 100 n1 f1 n2 f2 x y = F47 100 n1 f1 n2 f2 x y:=by
 obtain ⟨c,c1,_,c3⟩ := shape_law n1 n2 f1 f2
 have hc := c3.2 S
 subst hc
 obtain ⟨z,z1,_⟩ := place47_eq S x y
 unfold F22
 rw [c1,ob_some,bif_f (by rfl),z1,ob_some]
theorem Mv.off {T : Pt → Pt} {n1 n2 : Nat} {f1 f2 g1 g2 : Nat → Nat → CV} (h : TShape T false n1 f1 n2 f2 g1 g2) (S : VShape n1 f1 n2 f2) (S' : VShape n1 g1 n2 g2) {q : Pt} (hq : nr q.1 q.2) (ho : Off n1 f1 n2 f2 q) : Off n1 g1 n2 g2 (T q):=by
 obtain ⟨z,z1,z2⟩ := ho
 obtain ⟨w,w1,w2⟩ := t22 h hq
 rw [f22_valid S] at w2
 rw [f22_valid S'] at w1
 rw [w2] at z1
 cases z1
 exact ⟨_,w1,z2⟩
theorem Mv.clr {T : Pt → Pt} (hT : Iso T) {gap : Int} {n1 n2 m1 m2 : Nat} {f1 f2 g1 g2 h1 h2 k1 k2 : Nat → Nat → CV} (a : Mv T n1 f1 n2 f2 g1 g2) (b : Mv T m1 h1 m2 h2 k1 k2) (a1 : AllNr n1 g1) (a2 : ∀ j,j < n2 → AllNr (CV.len (f2 j 0)) (CV.el (g2 j 0))) (b1 : AllNr m1 k1) (b2 : ∀ j,j < m2 → AllNr (CV.len (h2 j 0)) (CV.el (k2 j 0)))
  (C : Clr gap n1 f1 n2 f2 m1 h1 m2 h2) : Clr gap n1 g1 n2 g2 m1 k1 m2 k2:=by
 have A := a.ts' C.left a1 a2
 have B := b.ts' C.right b1 b2
 have vb := C.left.outer.big
 have wb := C.right.outer.big
 have hA := A.valid C.left
 have hB := B.valid C.right
 refine ⟨C.lo,C.hi,hA,hB,?_,?_,fun i hi k hk hc => C.cl i hi k hk ?_⟩
 ·rw [b.outer 0 (by omega)]
  exact Mv.off A C.left hA (C.right.outer.near 0 (by omega)) C.off
 ·rw [a.outer 0 (by omega)]
  exact Mv.off B C.right hB (C.left.outer.near 0 (by omega)) C.off'
 ·obtain ⟨e1,e2⟩ := a.cl hi
  obtain ⟨d1,d2⟩ := b.cl hk
  rw [e1,d1] at hc
  have v1:=(cf_valid C.left hi).big
  have v2:=(cf_valid C.right hk).big
  exact (closeC_map hT (by unfold R13.cl;omega) (by unfold R13.cl;omega) e2 d2).1 hc
theorem nr_of {a b : Pt} (h : a = b) (hb : nr b.1 b.2) : nr a.1 a.2:=by rw [h];exact hb
theorem Mv.clr_id {gap : Int} {n1 n2 m1 m2 : Nat} {f1 f2 g1 g2 h1 h2 k1 k2 : Nat → Nat → CV} (a : Mv (fun p => p) n1 f1 n2 f2 g1 g2) (b : Mv (fun p => p) m1 h1 m2 h2 k1 k2) (C : Clr gap n1 f1 n2 f2 m1 h1 m2 h2) : Clr gap n1 g1 n2 g2 m1 k1 m2 k2:=by
 refine Mv.clr iso_id a b (fun i hi => ?_) (fun j hj i hi => ?_) (fun i hi => ?_) (fun j hj i hi => ?_) C
 ·exact nr_of (a.outer i hi) (C.left.outer.near i hi)
 ·exact nr_of (a.hole j hj i hi) ((C.left.hole j hj).valid.near i hi)
 ·exact nr_of (b.outer i hi) (C.right.outer.near i hi)
 ·exact nr_of (b.hole j hj i hi) ((C.right.hole j hj).valid.near i hi)
theorem Mv.back {n1 n2 : Nat} {f1 f2 g1 g2 : Nat → Nat → CV} (a : Mv (fun p => p) n1 f1 n2 f2 g1 g2) : Mv (fun p => p) n1 g1 n2 g2 f1 f2 :=
 ⟨rigid_id,fun j hj => (a.outer j hj).symm,fun j hj => (a.len j hj).symm,fun j hj i hi => (a.hole j hj i (by rw [← a.len j hj];exact hi)).symm⟩
theorem inB_map {lo hx hy : Int} {n : Nat} {f g : Nat → Nat → CV} (h : ∀ j,j < n → pt g j = pt f j) : InB lo hx hy n g 0 ↔ InB lo hx hy n f 0:=by
 have e1 : ∀ j,j < n → CV.int (g j 0) = CV.int (f j 0):=fun j hj => congrArg Prod.fst (h j hj)
 have e2 : ∀ j,j < n → CV.int (g j 1) = CV.int (f j 1):=fun j hj => congrArg Prod.snd (h j hj)
 constructor
 ·intro k j h1 h2;have := k j h1 h2;rw [e1 j h2,e2 j h2] at this;exact this
 ·intro k j h1 h2;rw [e1 j h2,e2 j h2];exact k j h1 h2
theorem within_both {n a b : Nat} {f g : Nat → Nat → CV} {d d' : Nat → Nat → CV} {l w lo : Int} (hn : n ≤ 40) (h : ∀ j,j < n → pt g j = pt f j) : ∃ r,F29 100 n f a d l w lo = some r ∧ F30 100 n g b d' l w lo = some r ∧ (r = true ↔ Fine n l w lo ∧ InB lo (w64 (l - lo)) (w64 (w - lo)) n f 0):=by
 obtain ⟨r,r1,r2⟩ := within_law n a f d l w lo hn
 obtain ⟨s,s1,s2⟩ := within_ref n b g d' l w lo hn
 rw [inB_map h] at s2
 have e : s = r := bool_eq s2 r2 Iff.rfl
 subst e
 exact ⟨s,r1,s1,r2⟩
theorem clear_both {gap : Int} {n1 n2 m1 m2 : Nat} {f1 f2 g1 g2 h1 h2 k1 k2 : Nat → Nat → CV} (a : Mv (fun p => p) n1 f1 n2 f2 g1 g2) (b : Mv (fun p => p) m1 h1 m2 h2 k1 k2) :
  ∃ r,F27 100 n1 f1 n2 f2 m1 h1 m2 h2 gap = some r ∧ F28 100 m1 k1 m2 k2 n1 g1 n2 g2 gap = some r ∧ (r = true ↔ Clr gap n1 f1 n2 f2 m1 h1 m2 h2):=by
 obtain ⟨r,r1,r2⟩ := clear27 n1 f1 n2 f2 m1 h1 m2 h2 gap
 obtain ⟨s,s1,s2⟩ := clear_eq m1 k1 m2 k2 n1 g1 n2 g2 gap
 obtain ⟨t,t1,t2⟩ := clear27 m1 k1 m2 k2 n1 g1 n2 g2 gap
 rw [s1] at t1
 cases t1
 have e : s = r := bool_eq t2 r2 ⟨fun C => (b.back.clr_id a.back C).symm,fun C => (a.clr_id b C).symm⟩
 subst e
 exact ⟨s,r1,s2,r2⟩
end Go.Eng.R13
/-
 Nest: Check,program and reference.
-/
set_option linter.all false
namespace Go.Eng.R13
open Go Go.RowKit Go.Eng Geo
abbrev FF' := Nat → Nat → CV
abbrev Sp := ByteArray × Int × Int × Int × Bool
abbrev Sh := Nat × (Nat → Nat → CV) × Nat × (Nat → Nat → CV)
def sp (S : FF') (j : Nat) : Sp:=(CV.str (S j 0),CV.int (S j 1),CV.int (S j 2),CV.int (S j 3),CV.bool (S j 4))
def sh (G : FF') (j : Nat) : Sh:=(CV.len (G j 0),CV.el (G j 0),CV.len (G j 1),CV.el (G j 1))
def eqS (a b : ByteArray) : Bool := ByteArray.toList a == ByteArray.toList b
theorem eqS_symm (a b : ByteArray) : eqS a b = eqS b a:=by unfold eqS;exact BEq.comm
def fdGo (PF : FF') (s : ByteArray) : Nat → Nat → Int
 | 0,_ => -1
 | m + 1,i => bif eqS (CV.str (PF i 0)) s then Int.ofNat i else fdGo PF s m (i + 1)
def fd (P : Nat) (PF : FF') (s : ByteArray) : Int := fdGo PF s P 0
theorem fdGo_cases (PF : FF') (s : ByteArray) : ∀ m i,fdGo PF s m i = -1 ∨ ∃ k : Nat,i ≤ k ∧ k < i + m ∧ fdGo PF s m i = Int.ofNat k ∧ eqS (CV.str (PF k 0)) s = true
 | 0,i => .inl rfl
 | m + 1,i => by
  unfold fdGo
  cases h : eqS (CV.str (PF i 0)) s with
  | true => exact .inr ⟨i,Nat.le_refl i,by omega,rfl,h⟩
  | false =>
   rcases fdGo_cases PF s m (i + 1) with h1 | ⟨k,k1,k2,k3,k4⟩
   ·exact .inl h1
   ·exact .inr ⟨k,by omega,by omega,k3,k4⟩
theorem fd_cases (P : Nat) (PF : FF') (s : ByteArray) : fd P PF s = -1 ∨ ∃ k : Nat,k < P ∧ fd P PF s = Int.ofNat k ∧ eqS (CV.str (PF k 0)) s = true:=by
 rcases fdGo_cases PF s P 0 with h | ⟨k,k1,k2,k3,k4⟩
 ·exact .inl h
 ·exact .inr ⟨k,by omega,k3,k4⟩
theorem find176_loop (P : Nat) (PF : FF') (s : ByteArray) (hP : P ≤ 90) : ∀ (m i : Nat),P < m + i → i ≤ P → L176v1 100 P PF s m (Int.ofNat i) (fun x => some x) (some (-1)) = some (fdGo PF s (P - i) i):=by
 intro m
 induction m with
 | zero => intro i h1 h2;omega
 | succ m ih =>
  intro i h1 h2
  unfold L176v1
  rw [lt_nat,inb_nat,toNat_nat]
  by_cases h : i < P
  ·rw [bif_t (decide_eq_true h),bif_t (decide_eq_true h),show P - i = (P - (i + 1)) + 1 from by omega,fdGo]
   unfold eqS
   cases hq : (ByteArray.toList (CV.str (PF i 0)) == ByteArray.toList s) with
   | true => rfl
   | false => rw [bif_f rfl,bif_f rfl,w64_succ (by omega)];exact ih (i + 1) (by omega) (by omega)
  ·rw [bif_f (decide_eq_false h),show P - i = 0 from by omega];rfl
theorem find176 (P : Nat) (PF : FF') (s : ByteArray) (hP : P ≤ 90) : F176 100 P PF s = some (fd P PF s) := find176_loop P PF s hP 100 0 (by omega) (by omega)
theorem find171_loop (P : Nat) (PF : FF') (s : ByteArray) (hP : P ≤ 90) : ∀ (m i : Nat),P < m + i → i ≤ P → L171v1 100 P PF (listF [.s s]) (Int.ofNat P) m (Int.ofNat i) (fun x => some x) (some (-1)) = some (fdGo PF s (P - i) i):=by
 intro m
 induction m with
 | zero => intro i h1 h2;omega
 | succ m ih =>
  intro i h1 h2
  unfold L171v1
  rw [lt_nat,inb_nat,toNat_nat]
  by_cases h : i < P
  ·have e : F170 100 (listF (pj kR1 (PF i))) (listF [.s s]) = some (eqS (CV.str (PF i 0)) s) := rfl
   rw [bif_t (decide_eq_true h),bif_t (decide_eq_true h),e,ob_some,show P - i = (P - (i + 1)) + 1 from by omega,fdGo]
   cases hq : eqS (CV.str (PF i 0)) s with
   | true => rfl
   | false => rw [bif_f rfl,bif_f rfl,w64_succ (by omega)];exact ih (i + 1) (by omega) (by omega)
  ·rw [bif_f (decide_eq_false h),show P - i = 0 from by omega];rfl
theorem find171 (P : Nat) (PF : FF') (s : ByteArray) (hP : P ≤ 90) : F171 100 P PF (listF [.s s]) = some (fd P PF s) := find171_loop P PF s hP 100 0 (by omega) (by omega)
theorem find172_no {P : Nat} {PF : FF'} {s : ByteArray} (hP : P ≤ 90) (h : fd P PF s = -1) : F172 100 P PF s = some (ByteArray.empty,0,0,ByteArray.empty,ByteArray.empty,0,0,(fun _ _ => .any),0,(fun _ _ => .any),ByteArray.empty,0,0,0,0,0,0,0,0,0,false):=by
 unfold F172 FT172
 rw [find171 P PF s hP,ob_some,h,bif_t (by rfl)]
 rfl
theorem find172_yes {P : Nat} {PF : FF'} {s : ByteArray} {k : Nat} (hP : P ≤ 90) (hk : k < P) (h : fd P PF s = Int.ofNat k) : F172 100 P PF s = some (CV.str (PF k 0),CV.int (PF k 1),CV.int (PF k 2),CV.str (PF k 3),CV.str (PF k 4),CV.int (PF k 5),CV.len (PF k 6),CV.el (PF k 6),CV.len (PF k 7),CV.el (PF k 7),CV.str (PF k 8),CV.int (PF k 9),CV.int (PF k 10),CV.int (PF k 11),CV.int (PF k 12),CV.int (PF k 13),CV.int (PF k 14),CV.int (PF k 15),CV.int (PF k 16),CV.int (PF k 17),true):=by
 unfold F172 FT172
 rw [find171 P PF s hP,ob_some,h,bif_f (decide_eq_false (by simp)),inb_nat,bif_t (decide_eq_true hk),toNat_nat]
 rfl
structure FewP (P : Nat) (PF : FF') : Prop where
 parts : P ≤ 20
 outer : ∀ j,j < P → CV.len (PF j 6) ≤ 12
 holes : ∀ j,j < P → CV.len (PF j 7) ≤ 4
 hole : ∀ j,j < P → ∀ i,i < CV.len (PF j 7) → CV.len (CV.el (PF j 7) i 0) ≤ 12
theorem FewP.small {P : Nat} {PF : FF'} (h : FewP P PF) {j : Nat} (hj : j < P) : Small (CV.len (PF j 6)) (CV.len (PF j 7)) (CV.el (PF j 7)) :=
 ⟨by have := h.outer j hj;omega,by have := h.holes j hj;omega,fun i hi => by have := h.hole j hj i hi;omega⟩
theorem few167v2 {ρ : Type} (a : Nat) (b : FF') (c : Int) (d : ByteArray) (e : Int) (f : Nat) (g : FF') (h : Nat) (i : FF') (n : Nat) (F : FF') (hn : n ≤ 4) (k0 k1 : Option ρ) : ∀ (m j : Nat),n < m + j → j ≤ n →
  (L167v2 100 a b c d e f g h i n F m (Int.ofNat j) k0 k1 = k0) ∨ (L167v2 100 a b c d e f g h i n F m (Int.ofNat j) k0 k1 = k1 ∧ ∀ t,j ≤ t → t < n → CV.len (F t 0) ≤ 12):=by
 intro m
 induction m with
 | zero => intro j h1 h2;omega
 | succ m ih =>
  intro j h1 h2
  unfold L167v2
  rw [lt_nat,inb_nat,toNat_nat]
  by_cases hj : j < n
  ·rw [bif_t (decide_eq_true hj),bif_t (decide_eq_true hj)]
   by_cases h3 : CV.len (F j 0) ≤ 12
   ·rw [bif_f (decide_eq_false (by simp;omega)),w64_succ (by omega)]
    rcases ih (j + 1) (by omega) (by omega) with h4 | ⟨h4,h5⟩
    ·exact .inl h4
    ·refine .inr ⟨h4,fun t h6 h7 => ?_⟩
     by_cases e : t = j
     ·rw [e];exact h3
     ·exact h5 t (by omega) h7
   ·rw [bif_t (decide_eq_true (by simp;omega))]
    exact .inl rfl
  ·rw [bif_f (decide_eq_false hj)]
   exact .inr ⟨rfl,fun t h6 h7 => by omega⟩
theorem few167v3 {ρ : Type} (P : Nat) (PF : FF') (s : ByteArray) (g : Int) (n : Nat) (S : FF') (k0 k1 : Option ρ) : ∀ (m j : Nat),21 < m + j → j ≤ 21 → j ≤ P →
  (L167v3 100 P PF s g n S m (Int.ofNat j) k0 k1 = k0) ∨ (L167v3 100 P PF s g n S m (Int.ofNat j) k0 k1 = k1 ∧ ∀ t,j ≤ t → t < P → t < 21 → CV.len (PF t 6) ≤ 12 ∧ CV.len (PF t 7) ≤ 4 ∧ ∀ i,i < CV.len (PF t 7) → CV.len (CV.el (PF t 7) i 0) ≤ 12):=by
 intro m
 induction m with
 | zero => intro j h1 h2;omega
 | succ m ih =>
  intro j h1 h2 h0
  unfold L167v3
  rw [lt_nat,inb_nat,toNat_nat]
  by_cases hj : j < P
  ·rw [decide_eq_true hj,bif_t (by rfl)]
   by_cases h21 : j < 21
   ·rw [bif_t (decide_eq_true (by simp;omega)),bif_t (by rfl)]
    by_cases h3 : CV.len (PF j 6) ≤ 12
    ·rw [bif_t (by rw [decide_eq_false (by simp;omega)];rfl)]
     by_cases h4 : CV.len (PF j 7) ≤ 4
     ·rw [bif_f (decide_eq_false (by simp;omega)),show (0 : Int) = Int.ofNat 0 from rfl,w64_succ (by omega)]
      rcases few167v2 P PF (Int.ofNat j) s g n S (CV.len (PF j 6)) (CV.el (PF j 6)) (CV.len (PF j 7)) (CV.el (PF j 7)) h4 k0 (L167v3 100 P PF s g n S m (Int.ofNat (j + 1)) k0 k1) 100 0 (by omega) (by omega) with q | ⟨q,q2⟩
      ·rw [q];exact .inl rfl
      ·rw [q]
       rcases ih (j + 1) (by omega) (by omega) (by omega) with h5 | ⟨h5,h6⟩
       ·exact .inl h5
       ·refine .inr ⟨h5,fun t t1 t2 t3 => ?_⟩
        by_cases e : t = j
        ·rw [e];exact ⟨h3,h4,fun i hi => q2 i (by omega) hi⟩
        ·exact h6 t (by omega) t2 t3
     ·rw [bif_t (decide_eq_true (by simp;omega))]
      exact .inl rfl
    ·rw [bif_f (by rw [decide_eq_true (by simp;omega)];rfl)]
     exact .inl rfl
   ·rw [bif_f (decide_eq_false (by simp;omega))]
    exact .inr ⟨rfl,fun t t1 t2 t3 => by omega⟩
  ·rw [decide_eq_false hj,bif_f (by rfl)]
   exact .inr ⟨rfl,fun t t1 t2 t3 => by omega⟩
theorem few_law (s : ByteArray) (g : Int) (n : Nat) (S : FF') (P : Nat) (PF : FF') : ∃ r,F167 100 s g n S P PF = some r ∧ (r = true → n ≤ 40 ∧ FewP P PF):=by
 unfold F167
 rw [show (0 : Int) = Int.ofNat 0 from rfl]
 rcases few167v3 P PF s g n S (some false) (bif ((decide ((Int.ofNat n) ≤ 40)) == true) then (some (decide ((Int.ofNat P) ≤ 20))) else (some false)) 100 0 (by omega) (by omega) (by omega) with h | ⟨h,h2⟩
 ·exact ⟨false,h,fun h => by cases h⟩
 ·by_cases hn : n ≤ 40
  ·by_cases hP : P ≤ 20
   ·refine ⟨true,h.trans ?_,fun _ => ⟨hn,hP,fun j hj => (h2 j (by omega) hj (by omega)).1,fun j hj => (h2 j (by omega) hj (by omega)).2.1,fun j hj => (h2 j (by omega) hj (by omega)).2.2⟩⟩
    rw [decide_eq_true (by simp;omega),decide_eq_true (by simp;omega)];rfl
   ·refine ⟨false,h.trans ?_,fun h => by cases h⟩
    rw [decide_eq_true (by simp;omega),decide_eq_false (by simp;omega)];rfl
  ·refine ⟨false,h.trans ?_,fun h => by cases h⟩
   rw [decide_eq_false (by simp;omega)];rfl
def small (n : Int) : Bool := decide (n ≥ -32768) && decide (n ≤ 32768)
def placed (s : Sp) : Bool := decide (s.2.2.2.1 ≥ 0) && (decide (s.2.2.2.1 ≤ 3) && (small s.2.1 && small s.2.2.1))
theorem small173 (n : Int) : F173 100 n = some (small n):=by
 unfold F173 small
 cases decide (n ≥ -32768) <;> rfl
theorem placed174 (s : ByteArray) (x y t : Int) (f : Bool) : F174 100 s x y t f = some (placed (s,x,y,t,f)):=by
 unfold F174 placed
 rw [small173,small173]
 simp only [ob_some]
 cases decide (t ≥ 0) <;> cases decide (t ≤ 3) <;> cases small x <;> rfl
theorem placed178 (s : ByteArray) (x y t : Int) (f : Bool) : F178 100 s x y t f = some (placed (s,x,y,t,f)) := placed174 s x y t f
def mvt (PF : FF') (k : Nat) (s : Sp) : Sh:=(F25 100 (CV.len (PF k 6)) (CV.el (PF k 6)) (CV.len (PF k 7)) (CV.el (PF k 7)) s.1 s.2.1 s.2.2.1 s.2.2.2.1 s.2.2.2.2).getD (0,(fun _ _ => .any),0,(fun _ _ => .any))
def mvr (PF : FF') (k : Nat) (s : Sp) : Sh:=(F26 100 (CV.len (PF k 6)) (CV.el (PF k 6)) (CV.len (PF k 7)) (CV.el (PF k 7)) s.1 s.2.1 s.2.2.1 s.2.2.2.1 s.2.2.2.2).getD (0,(fun _ _ => .any),0,(fun _ _ => .any))
def pk (P : Nat) (PF : FF') (s : Sp) : Nat:=(fd P PF s.1).toNat
def mv (P : Nat) (PF : FF') (s : Sp) : Sh := mvt PF (pk P PF s) s
theorem mvt_law {P : Nat} {PF : FF'} (hP : FewP P PF) {k : Nat} (hk : k < P) (s : Sp) :
  F25 100 (CV.len (PF k 6)) (CV.el (PF k 6)) (CV.len (PF k 7)) (CV.el (PF k 7)) s.1 s.2.1 s.2.2.1 s.2.2.2.1 s.2.2.2.2 = some (mvt PF k s) ∧
  F26 100 (CV.len (PF k 6)) (CV.el (PF k 6)) (CV.len (PF k 7)) (CV.el (PF k 7)) s.1 s.2.1 s.2.2.1 s.2.2.2.1 s.2.2.2.2 = some (mvr PF k s) ∧
  (mvr PF k s).1 = (mvt PF k s).1 ∧ (mvr PF k s).2.2.1 = (mvt PF k s).2.2.1 ∧
  Mv (fun p => p) (mvt PF k s).1 (mvt PF k s).2.1 (mvt PF k s).2.2.1 (mvt PF k s).2.2.2 (mvr PF k s).2.1 (mvr PF k s).2.2.2 ∧
  MovedTo s.1 s.2.1 s.2.2.1 s.2.2.2.1 s.2.2.2.2 (CV.len (PF k 6)) (CV.el (PF k 6)) (CV.len (PF k 7)) (CV.el (PF k 7)) (mvt PF k s).1 (mvt PF k s).2.1 (mvt PF k s).2.2.1 (mvt PF k s).2.2.2:=by
 obtain ⟨a,c,b,d,c',d',e1,e2,e3,e4⟩ := move_eq (CV.len (PF k 6)) (CV.len (PF k 7)) (CV.el (PF k 6)) (CV.el (PF k 7)) s.1 s.2.1 s.2.2.1 s.2.2.2.1 s.2.2.2.2 (hP.small hk)
 have q1 : mvt PF k s = (a,c,b,d):=by unfold mvt;rw [e1];rfl
 have q2 : mvr PF k s = (a,c',b,d'):=by unfold mvr;rw [e2];rfl
 rw [q1,q2,e1,e2]
 exact ⟨rfl,rfl,rfl,rfl,e3,e4⟩
def withinB (a : Sh) (L W gap : Int) : Bool:=(F29 100 a.1 a.2.1 a.2.2.1 a.2.2.2 L W gap).getD false
def clearB (gap : Int) (a b : Sh) : Bool:=(F27 100 a.1 a.2.1 a.2.2.1 a.2.2.2 b.1 b.2.1 b.2.2.1 b.2.2.2 gap).getD false
def shapeC (PF : FF') (k : Nat) : Int:=(F13 100 (CV.len (PF k 6)) (CV.el (PF k 6)) (CV.len (PF k 7)) (CV.el (PF k 7))).getD 0
theorem clearB_law (gap : Int) (a b : Sh) : F27 100 a.1 a.2.1 a.2.2.1 a.2.2.2 b.1 b.2.1 b.2.2.1 b.2.2.2 gap = some (clearB gap a b):=by
 obtain ⟨r,r1,_⟩ := clear27 a.1 a.2.1 a.2.2.1 a.2.2.2 b.1 b.2.1 b.2.2.1 b.2.2.2 gap
 unfold clearB
 rw [r1];rfl
theorem shapeC_law (PF : FF') (k : Nat) : F13 100 (CV.len (PF k 6)) (CV.el (PF k 6)) (CV.len (PF k 7)) (CV.el (PF k 7)) = some (shapeC PF k) ∧ F14 100 (CV.len (PF k 6)) (CV.el (PF k 6)) (CV.len (PF k 7)) (CV.el (PF k 7)) = some (shapeC PF k) ∧ (shapeC PF k = 0 ↔ VShape (CV.len (PF k 6)) (CV.el (PF k 6)) (CV.len (PF k 7)) (CV.el (PF k 7))):=by
 obtain ⟨c,c1,c2,c3⟩ := shape_law (CV.len (PF k 6)) (CV.len (PF k 7)) (CV.el (PF k 6)) (CV.el (PF k 7))
 have : shapeC PF k = c:=by unfold shapeC;rw [c1];rfl
 rw [this]
 exact ⟨c1,c2,c3⟩
def rest (P : Nat) (PF : FF') (gr : ByteArray) (th L W gap : Int) (s : Sp) : Int :=
 bif CV.int (PF (pk P PF s) 2) != 1 then 10 else
 bif !(eqS (CV.str (PF (pk P PF s) 4)) gr) then 23 else
 bif CV.int (PF (pk P PF s) 5) != th then 23 else
 bif shapeC PF (pk P PF s) != 0 then 17 else
 bif !(placed s) then 9 else
 bif !(withinB (mv P PF s) L W gap) then 18 else 0
def anyF (f : Nat → Bool) : Nat → Nat → Bool
 | 0,_ => false
 | m + 1,i => f i || anyF f m (i + 1)
theorem anyF_iff {f : Nat → Bool} : ∀ {m i : Nat},anyF f m i = true ↔ ∃ t,i ≤ t ∧ t < i + m ∧ f t = true
 | 0,i => ⟨fun h => (by cases h),fun ⟨t,a,b,_⟩ => (by omega)⟩
 | m + 1,i => by
  unfold anyF
  rw [Bool.or_eq_true,anyF_iff]
  constructor
  ·rintro (h | ⟨t,a,b,c⟩)
   ·exact ⟨i,by omega,by omega,h⟩
   ·exact ⟨t,by omega,by omega,c⟩
  ·rintro ⟨t,a,b,c⟩
   by_cases e : t = i
   ·subst e;exact .inl c
   ·exact .inr ⟨t,by omega,by omega,c⟩
theorem anyF_no {f : Nat → Bool} {m : Nat} : anyF f m 0 = false ↔ ∀ t,t < m → f t = false:=by
 constructor
 ·intro h t ht
  cases hq : f t with
  | false => rfl
  | true =>
   have := anyF_iff (f := f) (m := m) (i := 0) |>.2 ⟨t,by omega,by omega,hq⟩
   rw [h] at this;cases this
 ·intro h
  cases hq : anyF f m 0 with
  | false => rfl
  | true =>
   obtain ⟨t,_,b,c⟩ := anyF_iff.1 hq
   rw [h t (by omega)] at c;cases c
section
variable (P : Nat) (PF S : FF') (gr : ByteArray) (th L W gap : Int)
def code (j : Nat) : Int :=
 bif decide (fd P PF (CV.str (S j 0)) < 0) then 8 else
 bif anyF (fun t => eqS (CV.str (S t 0)) (CV.str (S j 0))) j 0 then 7 else
 bif rest P PF gr th L W gap (sp S j) != 0 then rest P PF gr th L W gap (sp S j) else
 bif anyF (fun t => !(clearB gap (mv P PF (sp S j)) (mv P PF (sp S t)))) j 0 then 19 else 0
def scan (c : Nat → Int) : Nat → Nat → Int
 | 0,_ => 0
 | m + 1,j => bif c j != 0 then c j else scan c m (j + 1)
def chk (n : Nat) : Int :=
 bif decide (gap < 0) then 9 else bif decide (gap > 500) then 9 else bif Int.ofNat n == 0 then 3 else bif decide (Int.ofNat n > 32) then 4 else scan (code P PF S gr th L W gap) n 0
end
theorem dup182 {ρ : Type} (a1 : Nat) (a2 : FF') (a3 a4 : Nat) (S : FF') (a6 a7 : Int) (N : Nat) (b1 : ByteArray) (b2 : Int) (b3 b4 : ByteArray) (b5 b6 b7 : Int) (b8 : ByteArray) (b9 : FF') (s : ByteArray) (c1 c2 c3 : Int) (c4 : Bool) (c5 : ByteArray) (c6 c7 : Int) (c8 c9 : ByteArray) (d1 : Int) (d2 : Nat) (d3 : FF') (d4 : Nat) (d5 : FF') (d6 : ByteArray) (e1 e2 e3 e4 e5 e6 e7 e8 e9 : Int) (hN : N ≤ 90) (k0 k1 : Option ρ) : ∀ (m i : Nat),N < m + i → i ≤ N →
  L182v3 100 a1 a2 a3 a4 S a6 a7 N (Int.ofNat N) b1 b2 b3 b4 b5 b6 b7 b8 b9 s c1 c2 c3 c4 c5 c6 c7 c8 c9 d1 d2 d3 d4 d5 d6 e1 e2 e3 e4 e5 e6 e7 e8 e9 m (Int.ofNat i) k0 k1 = bif anyF (fun t => eqS (CV.str (S t 0)) s) (N - i) i then k0 else k1:=by
 intro m
 induction m with
 | zero => intro i h1 h2;omega
 | succ m ih =>
  intro i h1 h2
  unfold L182v3
  rw [lt_nat,inb_nat,toNat_nat]
  by_cases h : i < N
  ·rw [bif_t (decide_eq_true h),bif_t (decide_eq_true h),show N - i = (N - (i + 1)) + 1 from by omega,anyF]
   show (bif eqS (CV.str (S i 0)) s then k0 else _) = _
   cases hq : eqS (CV.str (S i 0)) s with
   | true => rfl
   | false => rw [bif_f rfl,Bool.false_or,w64_succ (by omega)];exact ih (i + 1) (by omega) (by omega)
  ·rw [bif_f (decide_eq_false h),show N - i = 0 from by omega];rfl
theorem clr182 {ρ : Type} (a1 : Nat) (a2 : FF') (N a4 : Nat) (a5 : FF') (a6 a7 : Int) (b1 : ByteArray) (gap : Int) (b3 b4 : ByteArray) (b5 b6 b7 : Int) (b8 : ByteArray) (G : FF') (a : Sh) (hN : N ≤ 90) (k0 k1 : Option ρ) : ∀ (m i : Nat),N < m + i → i ≤ N →
  L182v4 100 a1 a2 N a4 a5 a6 a7 (Int.ofNat N) b1 gap b3 b4 b5 b6 b7 b8 G a.1 a.2.1 a.2.2.1 a.2.2.2 m (Int.ofNat i) k0 k1 = bif anyF (fun t => !(clearB gap a (sh G t))) (N - i) i then k0 else k1:=by
 intro m
 induction m with
 | zero => intro i h1 h2;omega
 | succ m ih =>
  intro i h1 h2
  unfold L182v4
  rw [lt_nat,inb_nat,toNat_nat,Nat.zero_add]
  by_cases h : i < N
  ·rw [bif_t (decide_eq_true h),bif_t (decide_eq_true h),show N - i = (N - (i + 1)) + 1 from by omega,anyF]
   rw [show F27 100 a.1 a.2.1 a.2.2.1 a.2.2.2 (CV.len (G i 0)) (CV.el (G i 0)) (CV.len (G i 1)) (CV.el (G i 1)) gap = some (clearB gap a (sh G i)) from clearB_law gap a (sh G i),ob_some]
   cases hq : clearB gap a (sh G i) with
   | true => rw [bif_f (by rfl),show (!true || anyF (fun t => !clearB gap a (sh G t)) (N - (i + 1)) (i + 1)) = anyF (fun t => !clearB gap a (sh G t)) (N - (i + 1)) (i + 1) from rfl,w64_succ (by omega)];exact ih (i + 1) (by omega) (by omega)
   | false => rfl
  ·rw [bif_f (decide_eq_false h),show N - i = 0 from by omega];rfl
theorem dup182z {ρ : Type} (a1 : Nat) (a2 : FF') (a3 a4 : Nat) (S : FF') (a6 a7 : Int) (N : Nat) (b1 : ByteArray) (b2 : Int) (b3 b4 : ByteArray) (b5 b6 b7 : Int) (b8 : ByteArray) (b9 : FF') (s : ByteArray) (c1 c2 c3 : Int) (c4 : Bool) (c5 : ByteArray) (c6 c7 : Int) (c8 c9 : ByteArray) (d1 : Int) (d2 : Nat) (d3 : FF') (d4 : Nat) (d5 : FF') (d6 : ByteArray) (e1 e2 e3 e4 e5 e6 e7 e8 e9 : Int) (hN : N ≤ 90) (k0 k1 : Option ρ) :
  L182v3 100 a1 a2 a3 a4 S a6 a7 N (Int.ofNat N) b1 b2 b3 b4 b5 b6 b7 b8 b9 s c1 c2 c3 c4 c5 c6 c7 c8 c9 d1 d2 d3 d4 d5 d6 e1 e2 e3 e4 e5 e6 e7 e8 e9 100 0 k0 k1 = bif anyF (fun t => eqS (CV.str (S t 0)) s) N 0 then k0 else k1 :=
 dup182 a1 a2 a3 a4 S a6 a7 N b1 b2 b3 b4 b5 b6 b7 b8 b9 s c1 c2 c3 c4 c5 c6 c7 c8 c9 d1 d2 d3 d4 d5 d6 e1 e2 e3 e4 e5 e6 e7 e8 e9 hN k0 k1 100 0 (by omega) (by omega)
theorem clr182z {ρ : Type} (a1 : Nat) (a2 : FF') (N a4 : Nat) (a5 : FF') (a6 a7 : Int) (b1 : ByteArray) (gap : Int) (b3 b4 : ByteArray) (b5 b6 b7 : Int) (b8 : ByteArray) (G : FF') (a : Sh) (hN : N ≤ 90) (k0 k1 : Option ρ) :
  L182v4 100 a1 a2 N a4 a5 a6 a7 (Int.ofNat N) b1 gap b3 b4 b5 b6 b7 b8 G a.1 a.2.1 a.2.2.1 a.2.2.2 100 0 k0 k1 = bif anyF (fun t => !(clearB gap a (sh G t))) N 0 then k0 else k1 :=
 clr182 a1 a2 N a4 a5 a6 a7 b1 gap b3 b4 b5 b6 b7 b8 G a hN k0 k1 100 0 (by omega) (by omega)
theorem anyF_congr {f g : Nat → Bool} : ∀ {m i : Nat},(∀ t,i ≤ t → t < i + m → f t = g t) → anyF f m i = anyF g m i
 | 0,_,_ => rfl
 | m + 1,i,h => by
  unfold anyF
  rw [h i (by omega) (by omega),anyF_congr fun t a b => h t (by omega) (by omega)]
theorem main182 (P n : Nat) (PF S : FF') (gr : ByteArray) (th L W gap : Int) (a1 a2 a3 : ByteArray) (hP : FewP P PF) (hn : n ≤ 32) : ∀ (m j : Nat) (G : FF'),n < m + j → j ≤ n → (∀ t,t < j → sh G t = mv P PF (sp S t)) →
  L182v5 100 P PF n S (Int.ofNat n) a1 gap a2 gr th L W a3 m j (Int.ofNat j) G (some 8) (some 7) (fun x => some x) (some 19) (some 0) = some (scan (code P PF S gr th L W gap) (n - j) j):=by
 have hP' := hP.parts
 intro m
 induction m with
 | zero => intro j G h1 h2;omega
 | succ m ih =>
  intro j G h1 h2 hG
  unfold L182v5
  rw [lt_nat,inb_nat,toNat_nat]
  by_cases h : j < n
  ·rw [bif_t (decide_eq_true h),bif_t (decide_eq_true h),show n - j = (n - (j + 1)) + 1 from by omega,scan]
   rcases fd_cases P PF (CV.str (S j 0)) with hf | ⟨k,hk,hf,_⟩
   ·rw [find172_no (by omega) hf,ob_some,bif_t (by rfl)]
    have : code P PF S gr th L W gap j = 8:=by unfold code;rw [hf];rfl
    rw [this];rfl
   ·have hpk : pk P PF (sp S j) = k:=by unfold pk sp;rw [hf];rfl
    rw [find172_yes (by omega) hk hf,ob_some]
    dsimp only
    rw [bif_f (by rfl),bif_t (inbe_true (by simp) (by simp;omega)),Nat.sub_zero]
    rw [dup182z _ _ _ _ _ _ _ j _ _ _ _ _ _ _ _ _ _ _ _ _ _ _ _ _ _ _ _ _ _ _ _ _ _ _ _ _ _ _ _ _ _ (by omega) _ _]
    have hc0 : code P PF S gr th L W gap j = bif anyF (fun t => eqS (CV.str (S t 0)) (CV.str (S j 0))) j 0 then 7 else bif rest P PF gr th L W gap (sp S j) != 0 then rest P PF gr th L W gap (sp S j) else bif anyF (fun t => !(clearB gap (mv P PF (sp S j)) (mv P PF (sp S t)))) j 0 then 19 else 0:=by
     unfold code;rw [hf,bif_f (decide_eq_false (by simp))]
    cases hd : anyF (fun t => eqS (CV.str (S t 0)) (CV.str (S j 0))) j 0 with
    | true => rw [hd] at hc0;rw [hc0];rfl
    | false =>
     rw [hd,bif_f rfl] at hc0
     rw [bif_f rfl]
     obtain ⟨mE,_,_,_,_,mM⟩ := mvt_law hP hk (sp S j)
     rw [show mvt PF k (sp S j) = mv P PF (sp S j) from by unfold mv;rw [hpk]] at mE mM
     have mE' : F25 100 (CV.len (PF k 6)) (CV.el (PF k 6)) (CV.len (PF k 7)) (CV.el (PF k 7)) (CV.str (S j 0)) (CV.int (S j 1)) (CV.int (S j 2)) (CV.int (S j 3)) (CV.bool (S j 4)) = some (mv P PF (sp S j)) := mE
     rw [mE',ob_some]
     obtain ⟨sE,_,_⟩ := shapeC_law PF k
     have hr : rest P PF gr th L W gap (sp S j) = bif CV.int (PF k 2) != 1 then 10 else bif !(eqS (CV.str (PF k 4)) gr) then 23 else bif CV.int (PF k 5) != th then 23 else bif shapeC PF k != 0 then 17 else bif !(placed (sp S j)) then 9 else bif !(withinB (mv P PF (sp S j)) L W gap) then 18 else 0:=by
      unfold rest;rw [hpk]
     have stop : ∀ c : Int,c ≠ 0 → rest P PF gr th L W gap (sp S j) = c → (bif code P PF S gr th L W gap j != 0 then code P PF S gr th L W gap j else scan (code P PF S gr th L W gap) (n - (j + 1)) (j + 1)) = c:=by
      intro c hc e
      rw [e,bif_t (by simpa using hc)] at hc0
      rw [hc0,bif_t (by simpa using hc)]
     by_cases c1 : (CV.int (PF k 2) != 1) = true
     ·rw [bif_t c1];exact congrArg some (stop 10 (by decide) (by rw [hr,bif_t c1])).symm
     ·rw [Bool.not_eq_true] at c1
      rw [bif_f c1]
      rw [bif_f c1] at hr
      show (bif (!(eqS (CV.str (PF k 4)) gr)) == false then _ else _) = _
      cases c2 : eqS (CV.str (PF k 4)) gr with
      | false =>
       rw [c2] at hr
       rw [bif_f (by rfl)];exact congrArg some (stop 23 (by decide) (by rw [hr];rfl)).symm
      | true =>
       rw [c2,bif_f (by rfl)] at hr
       rw [bif_t (by rfl)]
       by_cases c3 : (CV.int (PF k 5) != th) = true
       ·rw [bif_t c3];exact congrArg some (stop 23 (by decide) (by rw [hr,bif_t c3])).symm
       ·rw [Bool.not_eq_true] at c3
        rw [bif_f c3]
        rw [bif_f c3] at hr
        rw [sE,ob_some]
        by_cases c4 : (shapeC PF k != 0) = true
        ·rw [bif_t c4];exact congrArg some (stop 17 (by decide) (by rw [hr,bif_t c4])).symm
        ·rw [Bool.not_eq_true] at c4
         rw [bif_f c4]
         rw [bif_f c4] at hr
         rw [placed174,ob_some]
         rw [show (CV.str (S j 0),CV.int (S j 1),CV.int (S j 2),CV.int (S j 3),CV.bool (S j 4)) = sp S j from rfl]
         cases c5 : placed (sp S j) with
         | false =>
          rw [c5] at hr
          rw [bif_t (by rfl)];exact congrArg some (stop 9 (by decide) (by rw [hr];rfl)).symm
         | true =>
          rw [c5,bif_f (by rfl)] at hr
          rw [bif_f (by rfl)]
          obtain ⟨r,r1,_⟩ := within_law (mv P PF (sp S j)).1 (mv P PF (sp S j)).2.2.1 (mv P PF (sp S j)).2.1 (mv P PF (sp S j)).2.2.2 L W gap mM.small.1
          have hw : withinB (mv P PF (sp S j)) L W gap = r:=by unfold withinB;rw [r1];rfl
          rw [r1,ob_some]
          rw [hw] at hr
          cases r with
          | false => rw [bif_t (by rfl)];exact congrArg some (stop 18 (by decide) (by rw [hr];rfl)).symm
          | true =>
           rw [bif_f (by rfl)] at hr
           rw [hr,bif_f (by rfl)] at hc0
           rw [bif_f (by rfl)]
           rw [clr182z P PF j n S _ _ a1 gap a2 gr th L W a3 G (mv P PF (sp S j)) (by omega) _ _]
           have he : anyF (fun t => !(clearB gap (mv P PF (sp S j)) (sh G t))) j 0 = anyF (fun t => !(clearB gap (mv P PF (sp S j)) (mv P PF (sp S t)))) j 0:=by
            exact anyF_congr fun t _ ht => by rw [hG t (by omega)]
           rw [he]
           cases hq : anyF (fun t => !(clearB gap (mv P PF (sp S j)) (mv P PF (sp S t)))) j 0 with
           | true => rw [hq] at hc0;rw [hc0];rfl
           | false =>
            rw [hq] at hc0
            rw [hc0,bif_f rfl,bif_t (ble_ok (by omega)),w64_succ (by omega)]
            refine (ih (j + 1) _ (by omega) (by omega) fun t ht => ?_).trans rfl
            by_cases e : t = j
            ·subst e
             unfold sh
             rw [joinF_new _ _ _ _ _ (Nat.le_refl t),joinF_new _ _ _ _ _ (Nat.le_refl t),Nat.sub_self]
             rfl
            ·have := hG t (by omega)
             unfold sh at this ⊢
             rw [joinF_old _ _ _ _ _ (by omega),joinF_old _ _ _ _ _ (by omega)]
             exact this
  ·rw [bif_f (decide_eq_false h),show n - j = 0 from by omega];rfl
end Go.Eng.R13
/-
 Nest: Check of the reference;what an accepted plan is.
-/
set_option linter.all false
namespace Go.Eng.R13
open Go Go.RowKit Go.Eng Geo
theorem dup179 {ρ : Type} (a1 : Nat) (a2 : FF') (N : Nat) (a4 : Int) (b1 : ByteArray) (b2 : Int) (n : Nat) (S : FF') (b3 b4 : ByteArray) (b5 b6 b7 : Int) (b8 s : ByteArray) (c1 c2 c3 : Int) (c4 : Bool) (hN : N ≤ 90) (hn : N ≤ n) (k0 k1 : Option ρ) : ∀ (m i : Nat),N < m + i → i ≤ N →
  L179v1 100 a1 a2 (Int.ofNat N) a4 b1 b2 n S b3 b4 b5 b6 b7 b8 s c1 c2 c3 c4 m (Int.ofNat i) k0 k1 = bif anyF (fun t => eqS (CV.str (S t 0)) s) (N - i) i then k0 else k1:=by
 intro m
 induction m with
 | zero => intro i h1 h2;omega
 | succ m ih =>
  intro i h1 h2
  unfold L179v1
  rw [lt_nat,inb_nat,toNat_nat]
  by_cases h : i < N
  ·rw [bif_t (decide_eq_true h),bif_t (decide_eq_true (show i < n by omega)),show N - i = (N - (i + 1)) + 1 from by omega,anyF]
   show (bif eqS (CV.str (S i 0)) s then k0 else _) = _
   cases hq : eqS (CV.str (S i 0)) s with
   | true => rfl
   | false => rw [bif_f rfl,Bool.false_or,w64_succ (by omega)];exact ih (i + 1) (by omega) (by omega)
  ·rw [bif_f (decide_eq_false h),show N - i = 0 from by omega];rfl
theorem dup179z {ρ : Type} (a1 : Nat) (a2 : FF') (N : Nat) (a4 : Int) (b1 : ByteArray) (b2 : Int) (n : Nat) (S : FF') (b3 b4 : ByteArray) (b5 b6 b7 : Int) (b8 s : ByteArray) (c1 c2 c3 : Int) (c4 : Bool) (hN : N ≤ 90) (hn : N ≤ n) (k0 k1 : Option ρ) :
  L179v1 100 a1 a2 (Int.ofNat N) a4 b1 b2 n S b3 b4 b5 b6 b7 b8 s c1 c2 c3 c4 100 0 k0 k1 = bif anyF (fun t => eqS (CV.str (S t 0)) s) N 0 then k0 else k1 :=
 dup179 a1 a2 N a4 b1 b2 n S b3 b4 b5 b6 b7 b8 s c1 c2 c3 c4 hN hn k0 k1 100 0 (by omega) (by omega)
theorem clear_mv {P : Nat} {PF : FF'} (hP : FewP P PF) (gap : Int) {k l : Nat} (hk : k < P) (hl : l < P) (s t : Sp) :
  F28 100 (mvr PF l t).1 (mvr PF l t).2.1 (mvr PF l t).2.2.1 (mvr PF l t).2.2.2 (mvr PF k s).1 (mvr PF k s).2.1 (mvr PF k s).2.2.1 (mvr PF k s).2.2.2 gap = some (clearB gap (mvt PF k s) (mvt PF l t)) ∧
  (clearB gap (mvt PF k s) (mvt PF l t) = true ↔ Clr gap (mvt PF k s).1 (mvt PF k s).2.1 (mvt PF k s).2.2.1 (mvt PF k s).2.2.2 (mvt PF l t).1 (mvt PF l t).2.1 (mvt PF l t).2.2.1 (mvt PF l t).2.2.2):=by
 obtain ⟨_,_,a1,a2,a3,_⟩ := mvt_law hP hk s
 obtain ⟨_,_,b1,b2,b3,_⟩ := mvt_law hP hl t
 obtain ⟨r,r1,r2,r3⟩ := clear_both (gap := gap) a3 b3
 rw [a1,a2,b1,b2,r2]
 have := clearB_law gap (mvt PF k s) (mvt PF l t)
 rw [r1] at this
 have e := Option.some.inj this
 rw [← e]
 exact ⟨rfl,r3⟩
theorem clr179 {ρ : Type} {P : Nat} {PF : FF'} (hP : FewP P PF) (N n : Nat) (S : FF') (b1 : ByteArray) (gap : Int) {k : Nat} (hk : k < P) (s : Sp) (hN : N ≤ 90) (hn : N ≤ n) (hf : ∀ t,t < N → 0 ≤ fd P PF (CV.str (S t 0))) (k0 k1 : Option ρ) : ∀ (m i : Nat),N < m + i → i ≤ N →
  L179v2 100 P PF (Int.ofNat N) b1 gap n S (mvr PF k s).1 (mvr PF k s).2.1 (mvr PF k s).2.2.1 (mvr PF k s).2.2.2 m (Int.ofNat i) k0 k1 = bif anyF (fun t => !(clearB gap (mvt PF k s) (mv P PF (sp S t)))) (N - i) i then k0 else k1:=by
 have hP' := hP.parts
 intro m
 induction m with
 | zero => intro i h1 h2;omega
 | succ m ih =>
  intro i h1 h2
  unfold L179v2
  rw [lt_nat,inb_nat,toNat_nat]
  by_cases h : i < N
  ·rw [bif_t (decide_eq_true h),bif_t (decide_eq_true (show i < n by omega)),find176 P PF _ (by omega),ob_some]
   have hf' := hf i h
   rcases fd_cases P PF (CV.str (S i 0)) with q | ⟨l,hl,q,_⟩
   ·rw [q] at hf';omega
   ·have hpk : pk P PF (sp S i) = l:=by unfold pk sp;rw [q];rfl
    obtain ⟨_,e2,_,_,_,_⟩ := mvt_law hP hl (sp S i)
    have e2' : F26 100 (CV.len (PF l 6)) (CV.el (PF l 6)) (CV.len (PF l 7)) (CV.el (PF l 7)) (CV.str (S i 0)) (CV.int (S i 1)) (CV.int (S i 2)) (CV.int (S i 3)) (CV.bool (S i 4)) = some (mvr PF l (sp S i)) := e2
    rw [q,inb_nat,toNat_nat,bif_t (decide_eq_true hl),bif_t (decide_eq_true (show i < n by omega)),e2',ob_some,(clear_mv hP gap hk hl s (sp S i)).1,ob_some,show N - i = (N - (i + 1)) + 1 from by omega,anyF]
    have hm : mv P PF (sp S i) = mvt PF l (sp S i):=by unfold mv;rw [hpk]
    rw [hm]
    cases hq : clearB gap (mvt PF k s) (mvt PF l (sp S i)) with
    | true => rw [bif_f (by rfl),w64_succ (by omega)];exact ih (i + 1) (by omega) (by omega)
    | false => rfl
  ·rw [bif_f (decide_eq_false h),show N - i = 0 from by omega];rfl
theorem spot179 (P n : Nat) (PF S : FF') (gr : ByteArray) (th L W gap : Int) (a1 a2 a3 : ByteArray) (hP : FewP P PF) (hn : n ≤ 32) (j : Nat) (hj : j < n) (hf : ∀ t,t < j → 0 ≤ fd P PF (CV.str (S t 0))) :
  F179 100 a1 gap n S a2 gr th L W a3 P PF (Int.ofNat j) = some (code P PF S gr th L W gap j):=by
 have hP' := hP.parts
 unfold F179
 rw [inb_nat,toNat_nat,bif_t (decide_eq_true hj),find176 P PF _ (by omega),ob_some]
 rcases fd_cases P PF (CV.str (S j 0)) with q | ⟨k,hk,q,_⟩
 ·have : code P PF S gr th L W gap j = 8:=by unfold code;rw [q];rfl
  rw [this,q];rfl
 ·have hpk : pk P PF (sp S j) = k:=by unfold pk sp;rw [q];rfl
  rw [q,bif_f (decide_eq_false (by simp)),dup179z _ _ j _ _ _ n S _ _ _ _ _ _ _ _ _ _ _ (by omega) (by omega)]
  unfold code
  rw [q,bif_f (decide_eq_false (by simp))]
  cases hd : anyF (fun t => eqS (CV.str (S t 0)) (CV.str (S j 0))) j 0 with
  | true => rfl
  | false =>
   rw [bif_f rfl,bif_f rfl,inb_nat,toNat_nat,bif_t (decide_eq_true hk)]
   obtain ⟨_,e2,e3,e4,e5,eM⟩ := mvt_law hP hk (sp S j)
   have e2' : F26 100 (CV.len (PF k 6)) (CV.el (PF k 6)) (CV.len (PF k 7)) (CV.el (PF k 7)) (CV.str (S j 0)) (CV.int (S j 1)) (CV.int (S j 2)) (CV.int (S j 3)) (CV.bool (S j 4)) = some (mvr PF k (sp S j)) := e2
   have hm : mv P PF (sp S j) = mvt PF k (sp S j):=by unfold mv;rw [hpk]
   obtain ⟨_,sE,_⟩ := shapeC_law PF k
   have hr : rest P PF gr th L W gap (sp S j) = bif CV.int (PF k 2) != 1 then 10 else bif !(eqS (CV.str (PF k 4)) gr) then 23 else bif CV.int (PF k 5) != th then 23 else bif shapeC PF k != 0 then 17 else bif !(placed (sp S j)) then 9 else bif !(withinB (mv P PF (sp S j)) L W gap) then 18 else 0:=by
    unfold rest;rw [hpk]
   by_cases c1 : (CV.int (PF k 2) != 1) = true
   ·rw [bif_t c1] at hr
    rw [bif_t c1,hr];rfl
   ·rw [Bool.not_eq_true] at c1
    rw [bif_f c1] at hr
    rw [bif_f c1]
    show (bif (!(eqS (CV.str (PF k 4)) gr)) == false then _ else _) = _
    cases c2 : eqS (CV.str (PF k 4)) gr with
    | false =>
     rw [c2] at hr
     rw [bif_f (by rfl),hr];rfl
    | true =>
     rw [c2,bif_f (by rfl)] at hr
     rw [bif_t (by rfl)]
     by_cases c3 : (CV.int (PF k 5) != th) = true
     ·rw [bif_t c3] at hr
      rw [bif_t c3,hr];rfl
     ·rw [Bool.not_eq_true] at c3
      rw [bif_f c3] at hr
      rw [bif_f c3,sE,ob_some]
      by_cases c4 : (shapeC PF k != 0) = true
      ·rw [bif_t c4] at hr
       rw [bif_t c4,hr];rfl
      ·rw [Bool.not_eq_true] at c4
       rw [bif_f c4] at hr
       rw [bif_f c4,placed178,ob_some,show (CV.str (S j 0),CV.int (S j 1),CV.int (S j 2),CV.int (S j 3),CV.bool (S j 4)) = sp S j from rfl]
       cases c5 : placed (sp S j) with
       | false =>
        rw [c5] at hr
        rw [bif_t (by rfl),hr];rfl
       | true =>
        rw [c5,bif_f (by rfl)] at hr
        rw [bif_f (by rfl),e2',ob_some]
        obtain ⟨r,r1,r2,_⟩ := within_both (l := L) (w := W) (lo := gap) (a:=(mvt PF k (sp S j)).2.2.1) (b:=(mvr PF k (sp S j)).2.2.1) (d:=(mvt PF k (sp S j)).2.2.2) (d':=(mvr PF k (sp S j)).2.2.2) eM.small.1 e5.outer
        have hw : withinB (mv P PF (sp S j)) L W gap = r:=by unfold withinB;rw [hm,r1];rfl
        rw [hw] at hr
        rw [← e3] at r2
        rw [r2,ob_some]
        cases r with
        | false =>
         rw [bif_t (by rfl)] at hr
         rw [bif_t (by rfl),hr];rfl
        | true =>
         rw [bif_f (by rfl)] at hr
         rw [bif_f (by rfl),hr,bif_f (show ((0 : Int) != 0) = false from rfl)]
         have hl := clr179 hP j n S a1 gap hk (sp S j) (by omega) (by omega) hf (some (19 : Int)) (some 0) 100 0 (by omega) (by omega)
         refine Eq.trans hl ?_
         rw [hm,Nat.sub_zero]
         cases anyF (fun t => !(clearB gap (mvt PF k (sp S j)) (mv P PF (sp S t)))) j 0 <;> rfl
theorem code_fd {P : Nat} {PF S : FF'} {gr : ByteArray} {th L W gap : Int} {j : Nat} (h : code P PF S gr th L W gap j = 0) : 0 ≤ fd P PF (CV.str (S j 0)):=by
 unfold code at h
 by_cases hc : fd P PF (CV.str (S j 0)) < 0
 ·rw [bif_t (decide_eq_true hc)] at h;exact absurd h (by decide)
 ·omega
theorem main180 (P n : Nat) (PF S : FF') (gr : ByteArray) (th L W gap : Int) (a1 a2 a3 : ByteArray) (hP : FewP P PF) (hn : n ≤ 32) : ∀ (m j : Nat),n < m + j → j ≤ n → (∀ t,t < j → 0 ≤ fd P PF (CV.str (S t 0))) →
  L180v1 100 P PF a1 gap n S a2 gr th L W a3 m (Int.ofNat j) (fun x => some x) (some 0) = some (scan (code P PF S gr th L W gap) (n - j) j):=by
 intro m
 induction m with
 | zero => intro j h1 h2;omega
 | succ m ih =>
  intro j h1 h2 hf
  unfold L180v1
  rw [lt_nat]
  by_cases h : j < n
  ·rw [bif_t (decide_eq_true h),spot179 P n PF S gr th L W gap a1 a2 a3 hP hn j h hf,ob_some,show n - j = (n - (j + 1)) + 1 from by omega,scan]
   by_cases hc : (code P PF S gr th L W gap j != 0) = true
   ·rw [bif_t hc,bif_t hc]
   ·rw [Bool.not_eq_true] at hc
    rw [bif_f hc,bif_f hc,w64_succ (by omega)]
    refine ih (j + 1) (by omega) (by omega) fun t ht => ?_
    by_cases e : t = j
    ·subst e;exact code_fd (by simpa using hc)
    ·exact hf t (by omega)
  ·rw [bif_f (decide_eq_false h),show n - j = 0 from by omega];rfl
theorem check_both (P n : Nat) (PF S : FF') (gr : ByteArray) (th L W gap : Int) (a1 a2 a3 : ByteArray) (hP : FewP P PF) :
  F182 100 a1 gap n S a2 gr th L W a3 P PF = some (chk P PF S gr th L W gap n) ∧ F180 100 a1 gap n S a2 gr th L W a3 P PF = some (chk P PF S gr th L W gap n):=by
 unfold F182 F180 chk
 by_cases h1 : gap < 0
 ·rw [decide_eq_true h1];exact ⟨rfl,rfl⟩
 ·rw [decide_eq_false h1]
  by_cases h2 : gap > 500
  ·rw [decide_eq_true h2];exact ⟨rfl,rfl⟩
  ·rw [decide_eq_false h2]
   by_cases h3 : n = 0
   ·subst h3;exact ⟨rfl,rfl⟩
   ·have e3 : (Int.ofNat n == 0) = false:=by simp;omega
    rw [e3]
    by_cases h4 : n ≤ 32
    ·have e4 : decide (Int.ofNat n > 32) = false := decide_eq_false (by simp;omega)
     rw [e4]
     exact ⟨main182 P n PF S gr th L W gap a1 a2 a3 hP h4 100 0 _ (by omega) (by omega) (fun t ht => by omega),main180 P n PF S gr th L W gap a1 a2 a3 hP h4 100 0 (by omega) (by omega) (fun t ht => by omega)⟩
    ·have e4 : decide (Int.ofNat n > 32) = true := decide_eq_true (by simp;omega)
     rw [e4];exact ⟨rfl,rfl⟩
theorem scan_zero {c : Nat → Int} : ∀ {m j : Nat},scan c m j = 0 ↔ ∀ t,j ≤ t → t < j + m → c t = 0
 | 0,j => ⟨fun _ t a b => by omega,fun _ => rfl⟩
 | m + 1,j => by
  unfold scan
  by_cases h : c j = 0
  ·rw [bif_f (by simpa using h),scan_zero]
   constructor
   ·intro k t a b
    by_cases e : t = j
    ·rw [e];exact h
    ·exact k t (by omega) (by omega)
   ·intro k t a b;exact k t (by omega) (by omega)
  ·rw [bif_t (by simpa using h)]
   exact ⟨fun k => absurd k h,fun k => absurd (k j (Nat.le_refl j) (by omega)) h⟩
structure Own (P : Nat) (PF : FF') (gr : ByteArray) (th L W gap : Int) (s : Sp) : Prop where
 found : 0 ≤ fd P PF s.1
 kind : CV.int (PF (pk P PF s) 2) = 1
 grade : eqS (CV.str (PF (pk P PF s) 4)) gr = true
 thick : CV.int (PF (pk P PF s) 5) = th
 shape : VShape (CV.len (PF (pk P PF s) 6)) (CV.el (PF (pk P PF s) 6)) (CV.len (PF (pk P PF s) 7)) (CV.el (PF (pk P PF s) 7))
 spot : placed s = true
 fits : withinB (mv P PF s) L W gap = true
structure Pair (P : Nat) (PF : FF') (gap : Int) (s t : Sp) : Prop where
 fresh : eqS s.1 t.1 = false
 clear : clearB gap (mv P PF t) (mv P PF s) = true
theorem rest_zero {P : Nat} {PF : FF'} {gr : ByteArray} {th L W gap : Int} {s : Sp} (h : 0 ≤ fd P PF s.1) : rest P PF gr th L W gap s = 0 ↔ Own P PF gr th L W gap s:=by
 obtain ⟨_,_,s3⟩ := shapeC_law PF (pk P PF s)
 unfold rest
 constructor
 ·intro hr
  by_cases c1 : CV.int (PF (pk P PF s) 2) = 1
  ·rw [bif_f (by simpa using c1)] at hr
   cases c2 : eqS (CV.str (PF (pk P PF s) 4)) gr with
   | false => rw [c2,bif_t (by rfl)] at hr;exact absurd hr (by decide)
   | true =>
    rw [c2,bif_f (by rfl)] at hr
    by_cases c3 : CV.int (PF (pk P PF s) 5) = th
    ·rw [bif_f (by simpa using c3)] at hr
     by_cases c4 : shapeC PF (pk P PF s) = 0
     ·rw [bif_f (by simpa using c4)] at hr
      cases c5 : placed s with
      | false => rw [c5,bif_t (by rfl)] at hr;exact absurd hr (by decide)
      | true =>
       rw [c5,bif_f (by rfl)] at hr
       cases c6 : withinB (mv P PF s) L W gap with
       | false => rw [c6,bif_t (by rfl)] at hr;exact absurd hr (by decide)
       | true => exact ⟨h,c1,c2,c3,s3.1 c4,c5,c6⟩
     ·rw [bif_t (by simpa using c4)] at hr;exact absurd hr (by decide)
    ·rw [bif_t (by simpa using c3)] at hr;exact absurd hr (by decide)
  ·rw [bif_t (by simpa using c1)] at hr;exact absurd hr (by decide)
 ·intro o
  rw [bif_f (by simpa using o.kind),o.grade,bif_f (by rfl),bif_f (by simpa using o.thick),bif_f (by simpa using s3.2 o.shape),o.spot,bif_f (by rfl),o.fits];rfl
theorem code_zero {P : Nat} {PF S : FF'} {gr : ByteArray} {th L W gap : Int} {j : Nat} : code P PF S gr th L W gap j = 0 ↔ Own P PF gr th L W gap (sp S j) ∧ ∀ t,t < j → Pair P PF gap (sp S t) (sp S j):=by
 constructor
 ·intro h
  have hf := code_fd h
  unfold code at h
  rw [bif_f (decide_eq_false (by omega))] at h
  cases h2 : anyF (fun t => eqS (CV.str (S t 0)) (CV.str (S j 0))) j 0 with
  | true => rw [h2,bif_t rfl] at h;exact absurd h (by decide)
  | false =>
   rw [h2,bif_f rfl] at h
   by_cases hr : rest P PF gr th L W gap (sp S j) = 0
   ·rw [bif_f (by simpa using hr)] at h
    refine ⟨(rest_zero hf).1 hr,fun t ht => ?_⟩
    cases h3 : anyF (fun t => !(clearB gap (mv P PF (sp S j)) (mv P PF (sp S t)))) j 0 with
    | true => rw [h3,bif_t rfl] at h;exact absurd h (by decide)
    | false =>
     have a := anyF_no.1 h2 t ht
     have b := anyF_no.1 h3 t ht
     exact ⟨a,by simpa using b⟩
   ·rw [bif_t (by simpa using hr)] at h;exact absurd h hr
 ·rintro ⟨o,p⟩
  unfold code
  rw [bif_f (decide_eq_false (by have := o.found;show ¬ fd P PF (sp S j).1 < 0;omega)),show anyF (fun t => eqS (CV.str (S t 0)) (CV.str (S j 0))) j 0 = false from anyF_no.2 fun t ht => (p t ht).fresh,bif_f rfl,(rest_zero o.found).2 o,bif_f (show ((0 : Int) != 0) = false from rfl),anyF_no.2 fun t ht => by rw [(p t ht).clear];rfl]
  rfl
structure Acc (P : Nat) (PF : FF') (S : FF') (gr : ByteArray) (th L W gap : Int) (n : Nat) : Prop where
 gap0 : 0 ≤ gap
 gap5 : gap ≤ 500
 some : 0 < n
 few : n ≤ 32
 own : ∀ j,j < n → Own P PF gr th L W gap (sp S j)
 pair : ∀ j,j < n → ∀ t,t < j → Pair P PF gap (sp S t) (sp S j)
theorem chk_zero {P : Nat} {PF S : FF'} {gr : ByteArray} {th L W gap : Int} {n : Nat} : chk P PF S gr th L W gap n = 0 ↔ Acc P PF S gr th L W gap n:=by
 unfold chk
 by_cases h1 : gap < 0
 ·rw [bif_t (decide_eq_true h1)]
  exact ⟨fun h => absurd h (by decide),fun h => absurd h.gap0 (by omega)⟩
 ·rw [bif_f (decide_eq_false h1)]
  by_cases h2 : gap > 500
  ·rw [bif_t (decide_eq_true h2)]
   exact ⟨fun h => absurd h (by decide),fun h => absurd h.gap5 (by omega)⟩
  ·rw [bif_f (decide_eq_false h2)]
   by_cases h3 : n = 0
   ·subst h3
    rw [bif_t (by rfl)]
    exact ⟨fun h => absurd h (by decide),fun h => absurd h.some (by omega)⟩
   ·rw [bif_f (by simp;omega)]
    by_cases h4 : n ≤ 32
    ·rw [bif_f (decide_eq_false (by simp;omega)),scan_zero]
     constructor
     ·intro k
      exact ⟨by omega,by omega,by omega,h4,fun j hj => (code_zero.1 (k j (by omega) (by omega))).1,fun j hj => (code_zero.1 (k j (by omega) (by omega))).2⟩
     ·intro A t _ ht
      exact code_zero.2 ⟨A.own t (by omega),A.pair t (by omega)⟩
    ·rw [bif_t (decide_eq_true (by simp;omega))]
     exact ⟨fun h => absurd h (by decide),fun h => absurd h.few (by omega)⟩
theorem Pair.symm {P : Nat} {PF : FF'} {gap : Int} {s t : Sp} (h : Pair P PF gap s t) : Pair P PF gap t s:=by
 refine ⟨(eqS_symm _ _).trans h.fresh,?_⟩
 have := h.clear
 obtain ⟨r,r1,r2⟩ := clear27 (mv P PF t).1 (mv P PF t).2.1 (mv P PF t).2.2.1 (mv P PF t).2.2.2 (mv P PF s).1 (mv P PF s).2.1 (mv P PF s).2.2.1 (mv P PF s).2.2.2 gap
 obtain ⟨q,q1,q2⟩ := clear27 (mv P PF s).1 (mv P PF s).2.1 (mv P PF s).2.2.1 (mv P PF s).2.2.2 (mv P PF t).1 (mv P PF t).2.1 (mv P PF t).2.2.1 (mv P PF t).2.2.2 gap
 have e1 : clearB gap (mv P PF t) (mv P PF s) = r:=by unfold clearB;rw [r1];rfl
 have e2 : clearB gap (mv P PF s) (mv P PF t) = q:=by unfold clearB;rw [q1];rfl
 rw [e1] at this
 rw [e2]
 exact q2.2 (r2.1 this).symm
theorem clearB_iff {gap : Int} {a b : Sh} : clearB gap a b = true ↔ Clr gap a.1 a.2.1 a.2.2.1 a.2.2.2 b.1 b.2.1 b.2.2.1 b.2.2.2:=by
 obtain ⟨r,r1,r2⟩ := clear27 a.1 a.2.1 a.2.2.1 a.2.2.2 b.1 b.2.1 b.2.2.1 b.2.2.2 gap
 have e1 : clearB gap a b = r:=by unfold clearB;rw [r1];rfl
 rw [e1]
 exact r2
def law23 (g : Nat → CV) : Prop := CV.len (g 2) ≤ 40 ∧ FewP (CV.len (g 9)) (CV.el (g 9))
theorem few168 (g : Nat → CV) : ∃ r,F168 100 (listF (pj kR0 g)) = some r ∧ (r = true → law23 g):=by
 obtain ⟨r,r1,r2⟩ := few_law (CV.str (g 0)) (CV.int (g 1)) (CV.len (g 2)) (CV.el (g 2)) (CV.len (g 9)) (CV.el (g 9))
 have e : F168 100 (listF (pj kR0 g)) = ob (F167 100 (CV.str (g 0)) (CV.int (g 1)) (CV.len (g 2)) (CV.el (g 2)) (CV.len (g 9)) (CV.el (g 9))) fun x => some x := rfl
 rw [e,r1]
 exact ⟨r,rfl,r2⟩
def GAcc (g : Nat → CV) : Prop := Acc (CV.len (g 9)) (CV.el (g 9)) (CV.el (g 2)) (CV.str (g 4)) (CV.int (g 5)) (CV.int (g 6)) (CV.int (g 7)) (CV.int (g 1)) (CV.len (g 2))
theorem right181 (g : Nat → CV) : ∃ r,F181 100 (listF (pj kR0 g)) = some r ∧ (r = true → law23 g ∧ GAcc g):=by
 have e : F181 100 (listF (pj kR0 g)) = ob (F168 100 (listF (pj kR0 g))) fun x2 => (bif (x2 == true) then (ob (F180 100 (CV.str (g 0)) (CV.int (g 1)) (CV.len (g 2)) (CV.el (g 2)) (CV.str (g 3)) (CV.str (g 4)) (CV.int (g 5)) (CV.int (g 6)) (CV.int (g 7)) (CV.str (g 8)) (CV.len (g 9)) (CV.el (g 9))) fun x3 => (some (x3 == 0))) else (some false)) := rfl
 obtain ⟨r,r1,r2⟩ := few168 g
 rw [e,r1,ob_some]
 cases r with
 | false => exact ⟨false,rfl,fun h => by cases h⟩
 | true =>
  obtain ⟨c1,c2⟩ := check_both (CV.len (g 9)) (CV.len (g 2)) (CV.el (g 9)) (CV.el (g 2)) (CV.str (g 4)) (CV.int (g 5)) (CV.int (g 6)) (CV.int (g 7)) (CV.int (g 1)) (CV.str (g 0)) (CV.str (g 3)) (CV.str (g 8)) (r2 rfl).2
  rw [bif_t (by rfl),c2,ob_some]
  refine ⟨_,rfl,fun h => ⟨r2 rfl,chk_zero.1 ?_⟩⟩
  simpa using h
theorem awake23 : F187 100 = some true:=by kernel_rfl
end Go.Eng.R13
/-
 Nest: Fewer,Adds,Errors.
-/
set_option linter.all false
namespace Go.Eng.R13
open Go Go.RowKit Go.Eng Geo
theorem Own.pk_lt {P : Nat} {PF : FF'} {s : Sp} (h : 0 ≤ fd P PF s.1) : pk P PF s < P ∧ fd P PF s.1 = Int.ofNat (pk P PF s):=by
 rcases fd_cases P PF s.1 with q | ⟨k,hk,q,_⟩
 ·rw [q] at h;exact absurd h (by decide)
 ·have : pk P PF s = k:=by unfold pk;rw [q];rfl
  rw [this];exact ⟨hk,q⟩
theorem fits_iff {P : Nat} {PF : FF'} (hP : FewP P PF) {s : Sp} (h : 0 ≤ fd P PF s.1) {L W gap : Int} : withinB (mv P PF s) L W gap = true ↔ Fine (mv P PF s).1 L W gap ∧ InB gap (w64 (L - gap)) (w64 (W - gap)) (mv P PF s).1 (mv P PF s).2.1 0:=by
 obtain ⟨_,_,_,_,_,mM⟩ := mvt_law hP (Own.pk_lt h).1 s
 obtain ⟨r,r1,r2⟩ := within_law (mv P PF s).1 (mv P PF s).2.2.1 (mv P PF s).2.1 (mv P PF s).2.2.2 L W gap mM.small.1
 have hw : withinB (mv P PF s) L W gap = r:=by unfold withinB;rw [r1];rfl
 rw [hw];exact r2
theorem Own.mono {P : Nat} {PF : FF'} (hP : FewP P PF) {gr : ByteArray} {th L W gap L' W' gap' : Int} {s : Sp} (o : Own P PF gr th L W gap s) (g0 : 0 ≤ gap') (g1 : gap' ≤ gap) (hL : L ≤ L') (hL' : L' ≤ 32768) (hW : W ≤ W') (hW' : W' ≤ 32768) : Own P PF gr th L' W' gap' s:=by
 refine ⟨o.found,o.kind,o.grade,o.thick,o.shape,o.spot,(fits_iff hP o.found).2 ?_⟩
 obtain ⟨⟨f1,f2,f3,f4⟩,b⟩:=(fits_iff hP o.found).1 o.fits
 refine ⟨⟨f1,by omega,by omega,by omega⟩,fun j h1 h2 => ?_⟩
 have := b j h1 h2
 rw [w64_of (by omega) (by omega),w64_of (by omega) (by omega)] at this
 rw [w64_of (by omega) (by omega),w64_of (by omega) (by omega)]
 omega
theorem Pair.mono {P : Nat} {PF : FF'} {gap gap' : Int} {s t : Sp} (p : Pair P PF gap s t) (g0 : 0 ≤ gap') (g1 : gap' ≤ gap) : Pair P PF gap' s t :=
 ⟨p.fresh,clearB_iff.2 ((clearB_iff.1 p.clear).mono g0 g1)⟩
theorem Acc.sub {P : Nat} {PF S S' : FF'} (hP : FewP P PF) {gr : ByteArray} {th L W gap L' W' gap' : Int} {n n' : Nat} (A : Acc P PF S gr th L W gap n) (g0 : 0 ≤ gap') (g1 : gap' ≤ gap) (hL : L ≤ L') (hL' : L' ≤ 32768) (hW : W ≤ W') (hW' : W' ≤ 32768)
  (hn : 0 < n') (hn' : n' ≤ 32) (σ : Nat → Nat) (h1 : ∀ j,j < n' → σ j < n ∧ sp S' j = sp S (σ j)) (h2 : ∀ j,j < n' → ∀ i,i < j → σ i ≠ σ j) : Acc P PF S' gr th L' W' gap' n':=by
 have a5 := A.gap5
 refine ⟨g0,by omega,hn,hn',fun j hj => ?_,fun j hj t ht => ?_⟩
 ·rw [(h1 j hj).2]
  exact (A.own _ (h1 j hj).1).mono hP g0 g1 hL hL' hW hW'
 ·rw [(h1 j hj).2,(h1 t (by omega)).2]
  have ne := h2 j hj t ht
  rcases Nat.lt_or_ge (σ t) (σ j) with k | k
  ·exact (A.pair _ (h1 j hj).1 _ k).mono g0 g1
  ·exact (A.pair _ (h1 t (by omega)).1 (σ j) (by omega)).symm.mono g0 g1
theorem Acc.sides {P : Nat} {PF S : FF'} (hP : FewP P PF) {gr : ByteArray} {th L W gap : Int} {n : Nat} (A : Acc P PF S gr th L W gap n) : 0 ≤ L ∧ L ≤ 32768 ∧ 0 ≤ W ∧ W ≤ 32768:=by
 have o := A.own 0 A.some
 obtain ⟨⟨f1,f2,f3,f4⟩,_⟩:=(fits_iff hP o.found).1 o.fits
 omega
end Go.Eng.R13
/-
 Nest: Used2,program and reference;what lies inside of a contour lies within its bounds.
-/
set_option linter.all false
namespace Go.Eng.R13
open Go Go.RowKit Go.Eng Geo
def area2P (PF : FF') (k : Nat) : Int:=(F18 100 (CV.len (PF k 6)) (CV.el (PF k 6)) (CV.len (PF k 7)) (CV.el (PF k 7))).getD 0
theorem area2P_law {P : Nat} {PF : FF'} (hP : FewP P PF) {k : Nat} (hk : k < P) : F18 100 (CV.len (PF k 6)) (CV.el (PF k 6)) (CV.len (PF k 7)) (CV.el (PF k 7)) = some (area2P PF k) ∧ F19 100 (CV.len (PF k 6)) (CV.el (PF k 6)) (CV.len (PF k 7)) (CV.el (PF k 7)) = some (area2P PF k):=by
 obtain ⟨x,hx⟩ := f18_some (CV.len (PF k 6)) (CV.el (PF k 6)) (CV.len (PF k 7)) (CV.el (PF k 7)) (by have := hP.holes k hk;omega)
 have : area2P PF k = x:=by unfold area2P;rw [hx];rfl
 rw [this]
 exact ⟨hx,(f18v19 _ _ _ _).symm.trans hx⟩
def ua (P : Nat) (PF S : FF') : Int → Nat → Nat → Int
 | acc,0,_ => acc
 | acc,m + 1,j => ua P PF S (bif decide (fd P PF (CV.str (S j 0)) < 0) then acc else w64 (acc + area2P PF (pk P PF (sp S j)))) m (j + 1)
theorem used183_loop {ρ : Type} (P n : Nat) (PF S : FF') (hP : FewP P PF) (hn : n ≤ 90) (k0 : Int → Option ρ) : ∀ (m j : Nat) (acc : Int),n < m + j → j ≤ n → L183v1 100 P PF n S (Int.ofNat n) m acc (Int.ofNat j) k0 = k0 (ua P PF S acc (n - j) j):=by
 have hP' := hP.parts
 intro m
 induction m with
 | zero => intro j acc h1 h2;omega
 | succ m ih =>
  intro j acc h1 h2
  unfold L183v1
  rw [lt_nat,inb_nat,toNat_nat]
  by_cases h : j < n
  ·rw [bif_t (decide_eq_true h),bif_t (decide_eq_true h),w64_succ (by omega),show n - j = (n - (j + 1)) + 1 from by omega,ua]
   rcases fd_cases P PF (CV.str (S j 0)) with hf | ⟨k,hk,hf,_⟩
   ·rw [find172_no (by omega) hf,ob_some,bif_f (by rfl),hf,ih (j + 1) acc (by omega) (by omega)];rfl
   ·have hpk : pk P PF (sp S j) = k:=by unfold pk sp;rw [hf];rfl
    rw [find172_yes (by omega) hk hf,ob_some]
    dsimp only
    rw [bif_t rfl,(area2P_law hP hk).1,ob_some,hf,hpk,ih (j + 1) _ (by omega) (by omega),bif_f (decide_eq_false (by simp))]
  ·rw [bif_f (decide_eq_false h),show n - j = 0 from by omega];rfl
theorem used192_loop {ρ : Type} (P n : Nat) (PF S : FF') (hP : FewP P PF) (hn : n ≤ 90) (a : ByteArray) (b : Int) (k0 : Int → Option ρ) : ∀ (m j : Nat) (acc : Int),n < m + j → j ≤ n → L192v1 100 P PF a b n S m acc (Int.ofNat j) k0 = k0 (ua P PF S acc (n - j) j):=by
 have hP' := hP.parts
 intro m
 induction m with
 | zero => intro j acc h1 h2;omega
 | succ m ih =>
  intro j acc h1 h2
  unfold L192v1
  rw [lt_nat,inb_nat,toNat_nat]
  by_cases h : j < n
  ·rw [bif_t (decide_eq_true h),bif_t (decide_eq_true h),w64_succ (by omega),show n - j = (n - (j + 1)) + 1 from by omega,ua,find176 _ _ _ (by omega),ob_some]
   rcases fd_cases P PF (CV.str (S j 0)) with hf | ⟨k,hk,hf,_⟩
   ·rw [hf,bif_f (by rfl),ih (j + 1) acc (by omega) (by omega)];rfl
   ·have hpk : pk P PF (sp S j) = k:=by unfold pk sp;rw [hf];rfl
    have h0 : (0 : Int) ≤ Int.ofNat k := Int.natCast_nonneg k
    rw [hf,bif_t (decide_eq_true h0),inb_nat,toNat_nat,bif_t (decide_eq_true hk),(area2P_law hP hk).2,ob_some,hpk,ih (j + 1) _ (by omega) (by omega),bif_f (decide_eq_false (by simp))]
  ·rw [bif_f (decide_eq_false h),show n - j = 0 from by omega];rfl
def used (P : Nat) (PF S : FF') (n : Nat) : Int := bif decide (Int.ofNat n > 32) then 0 else ua P PF S 0 n 0
theorem used_both (P n : Nat) (PF S : FF') (hP : FewP P PF) (a : ByteArray) (b : Int) : F183 100 a b n S P PF = some (used P PF S n) ∧ F192 100 a b n S P PF = some (used P PF S n):=by
 unfold F183 F192 used
 by_cases h : n ≤ 32
 ·have e : decide (Int.ofNat n > 32) = false := decide_eq_false (by simp;omega)
  rw [e,bif_f rfl,bif_f rfl,bif_f rfl]
  exact ⟨used183_loop P n PF S hP (by omega) _ 100 0 0 (by omega) (by omega),used192_loop P n PF S hP (by omega) a b _ 100 0 0 (by omega) (by omega)⟩
 ·have e : decide (Int.ofNat n > 32) = true := decide_eq_true (by simp;omega)
  rw [e,bif_t rfl,bif_t rfl,bif_t rfl];exact ⟨rfl,rfl⟩
theorem par_box_y {n : Nat} {p : Nat → Pt} {q : Pt} {lo hi : Int} (h : ∀ i,i < n → lo ≤ (p i).2 ∧ (p i).2 ≤ hi) (hp : par n p q = true) : lo ≤ q.2 ∧ q.2 ≤ hi:=by
 constructor
 ·rcases Int.lt_or_le q.2 lo with k | k
  ·rw [par_out (.inr fun i hi => by have := h i hi;omega)] at hp;cases hp
  ·exact k
 ·rcases Int.lt_or_le hi q.2 with k | k
  ·rw [par_out (.inl fun i hi => by have := h i hi;omega)] at hp;cases hp
  ·exact k
theorem in_box {n : Nat} {f : Nat → Nat → CV} {q : Pt} {lx hx ly hy : Int} (h : ∀ i,i < n → (lx ≤ CV.int (f i 0) ∧ CV.int (f i 0) ≤ hx) ∧ (ly ≤ CV.int (f i 1) ∧ CV.int (f i 1) ≤ hy)) (hq : InC n f q) : (lx ≤ q.1 ∧ q.1 ≤ hx) ∧ (ly ≤ q.2 ∧ q.2 ≤ hy):=by
 obtain ⟨h1,h2⟩ := hq
 refine ⟨?_,par_box_y (fun i hi => (h i hi).2) h2⟩
 have h3 := rigid_qt.par n (pt f) q (fun k => h1 (onK_C.2 k))
 rw [h2] at h3
 exact par_box_y (p:=fun i => qt (pt f i)) (q := qt q) (lo := lx) (hi := hx) (fun i hi => (h i hi).1) h3
end Go.Eng.R13
/-
 NestAdds: the plain law;what Shapes returns.
-/
set_option linter.all false
namespace Go.Eng.R13
open Go Go.RowKit Go.Eng Geo
def scode (P : Nat) (PF S : FF') (j : Nat) : Int := bif decide (fd P PF (CV.str (S j 0)) < 0) then 8 else bif !(placed (sp S j)) then 9 else 0
theorem scode_cases {P : Nat} {PF S : FF'} {j : Nat} : scode P PF S j = 0 ↔ 0 ≤ fd P PF (CV.str (S j 0)) ∧ placed (sp S j) = true:=by
 unfold scode
 by_cases h : fd P PF (CV.str (S j 0)) < 0
 ·rw [bif_t (decide_eq_true h)]
  exact ⟨fun h => absurd h (by decide),fun k => absurd k.1 (by omega)⟩
 ·rw [bif_f (decide_eq_false h)]
  cases hp : placed (sp S j) with
  | true => exact ⟨fun _ => ⟨by omega,rfl⟩,fun _ => rfl⟩
  | false => exact ⟨fun h => absurd h (by decide),fun k => by cases k.2⟩
theorem shapes175_loop {ρ : Type} (P n : Nat) (PF S : FF') (hP : FewP P PF) (hn : n ≤ 90) (k0 : Int → Option ρ) (k1 : Nat → FF' → Option ρ) : ∀ (m j : Nat) (G : FF'),n < m + j → j ≤ n → (∀ t,t < j → sh G t = mv P PF (sp S t)) →
  (scan (scode P PF S) (n - j) j ≠ 0 ∧ L175v1 100 P PF n S (Int.ofNat n) m j (Int.ofNat j) G k0 k1 = k0 (scan (scode P PF S) (n - j) j)) ∨
  (scan (scode P PF S) (n - j) j = 0 ∧ ∃ G',L175v1 100 P PF n S (Int.ofNat n) m j (Int.ofNat j) G k0 k1 = k1 n G' ∧ ∀ t,t < n → sh G' t = mv P PF (sp S t)):=by
 have hP' := hP.parts
 intro m
 induction m with
 | zero => intro j G h1 h2;omega
 | succ m ih =>
  intro j G h1 h2 hG
  unfold L175v1
  rw [lt_nat,inb_nat,toNat_nat]
  by_cases h : j < n
  ·have hsc : scan (scode P PF S) (n - j) j = bif scode P PF S j != 0 then scode P PF S j else scan (scode P PF S) (n - (j + 1)) (j + 1):=by
    rw [show n - j = (n - (j + 1)) + 1 from by omega];rfl
   generalize hz : scan (scode P PF S) (n - j) j = z at *
   rw [bif_t (decide_eq_true h),bif_t (decide_eq_true h)]
   rcases fd_cases P PF (CV.str (S j 0)) with hf | ⟨k,hk,hf,_⟩
   ·rw [find172_no (by omega) hf,ob_some,bif_t (by rfl)]
    have : scode P PF S j = 8:=by unfold scode;rw [hf];rfl
    rw [this,bif_t (by rfl)] at hsc
    subst hsc
    exact .inl ⟨by decide,rfl⟩
   ·have hpk : pk P PF (sp S j) = k:=by unfold pk sp;rw [hf];rfl
    rw [find172_yes (by omega) hk hf,ob_some]
    dsimp only
    rw [bif_f (by rfl),placed174,ob_some,show (CV.str (S j 0),CV.int (S j 1),CV.int (S j 2),CV.int (S j 3),CV.bool (S j 4)) = sp S j from rfl]
    have hc : scode P PF S j = bif !(placed (sp S j)) then 9 else 0:=by unfold scode;rw [hf,bif_f (decide_eq_false (by simp))]
    cases hp : placed (sp S j) with
    | false =>
     rw [hp] at hc
     rw [hc,bif_t (by rfl)] at hsc
     have hsc : z = 9 := hsc
     subst hsc
     rw [bif_t (by rfl)]
     exact .inl ⟨by decide,rfl⟩
    | true =>
     rw [hp] at hc
     obtain ⟨mE,_,_,_,_,_⟩ := mvt_law hP hk (sp S j)
     have mE' : F25 100 (CV.len (PF k 6)) (CV.el (PF k 6)) (CV.len (PF k 7)) (CV.el (PF k 7)) (CV.str (S j 0)) (CV.int (S j 1)) (CV.int (S j 2)) (CV.int (S j 3)) (CV.bool (S j 4)) = some (mv P PF (sp S j)):=by
      rw [show mv P PF (sp S j) = mvt PF k (sp S j) from by unfold mv;rw [hpk]];exact mE
     rw [hc,bif_f (by rfl)] at hsc
     subst hsc
     rw [bif_f (by rfl),mE',ob_some,bif_t (ble_ok (by omega)),w64_succ (by omega)]
     refine ih (j + 1) _ (by omega) (by omega) fun t ht => ?_
     by_cases e : t = j
     ·subst e
      unfold sh
      rw [joinF_new _ _ _ _ _ (Nat.le_refl t),joinF_new _ _ _ _ _ (Nat.le_refl t),Nat.sub_self]
      rfl
     ·have := hG t (by omega)
      unfold sh at this ⊢
      rw [joinF_old _ _ _ _ _ (by omega),joinF_old _ _ _ _ _ (by omega)]
      exact this
  ·rw [bif_f (decide_eq_false h),show n - j = 0 from by omega]
   have : j = n:=by omega
   subst this
   exact .inr ⟨rfl,G,rfl,hG⟩
theorem shapes175 (P n : Nat) (PF S : FF') (hP : FewP P PF) (hn : n ≤ 90) (a : ByteArray) (b : Int) : ∃ N G e,F175 100 a b n S P PF = some (N,G,e) ∧ e = scan (scode P PF S) n 0 ∧ (e ≠ 0 → N = 0) ∧ (e = 0 → N = n ∧ ∀ t,t < n → sh G t = mv P PF (sp S t)):=by
 unfold F175 FT175
 rcases shapes175_loop P n PF S hP hn (fun x29 => (some (true,0,(fun _ _ => .any),x29))) (fun x30 x31 => (some (false,x30,x31,0))) 100 0 (fun _ _ => .any) (by omega) (by omega) (fun t ht => by omega) with ⟨h1,h2⟩ | ⟨h1,G,h2,h3⟩
 ·rw [show L175v1 100 P PF n S (Int.ofNat n) 100 0 0 (fun _ _ => .any) _ _ = _ from h2,ob_some]
  exact ⟨0,_,_,rfl,rfl,fun _ => rfl,fun h => absurd h h1⟩
 ·rw [show L175v1 100 P PF n S (Int.ofNat n) 100 0 0 (fun _ _ => .any) _ _ = _ from h2,ob_some]
  exact ⟨n,G,0,rfl,h1.symm,fun h => absurd rfl h,fun _ => ⟨rfl,h3⟩⟩
end Go.Eng.R13
/-
 Nest: the areas of valid shapes.
-/
set_option linter.all false
namespace Go.Eng.R13
open Go Go.RowKit Go.Eng Geo
def toShp (n1 : Nat) (f1 : FF') (n2 : Nat) (f2 : FF') : Shp := ⟨⟨n1,pt f1⟩,n2,fun j => ⟨CV.len (f2 j 0),pt (CV.el (f2 j 0))⟩⟩
theorem VShape.ok {n1 n2 : Nat} {f1 f2 : FF'} (S : VShape n1 f1 n2 f2) : (toShp n1 f1 n2 f2).Ok ∧ (toShp n1 f1 n2 f2).Sgn:=by
 refine ⟨⟨S.outer.simple,fun j hj => (S.hole j hj).valid.simple,fun j hj => noTouch (S.hole j hj).valid S.outer (S.hole j hj).free,fun j hj => ?_,fun i hi j hj hne => ?_⟩,S.pos,fun j hj => (S.hole j hj).neg⟩
 ·have hb:=(S.hole j hj).valid.big
  exact ((S.hole j hj).inside 0 (by omega)).2
 ·have key : ∀ i,i < n2 → ∀ j,j < i → NoTouch (CV.len (f2 i 0)) (pt (CV.el (f2 i 0))) (CV.len (f2 j 0)) (pt (CV.el (f2 j 0))):=fun i hi j hj => noTouch (S.hole i hi).valid (S.hole j (by omega)).valid (S.apart i hi j hj).1
  rcases Nat.lt_or_gt_of_ne hne with k | k
  ·exact ⟨(key j hj i k).symm,(S.apart j hj i k).2.1.2⟩
  ·exact ⟨key i hi j k,(S.apart i hi j k).2.2.2⟩
theorem Clr.apt {gap : Int} {n1 : Nat} {f1 : FF'} {n2 : Nat} {f2 : FF'} {m1 : Nat} {g1 : FF'} {m2 : Nat} {g2 : FF'} (C : Clr gap n1 f1 n2 f2 m1 g1 m2 g2) : (toShp n1 f1 n2 f2).Apt (toShp m1 g1 m2 g2):=by
 have A := C.left
 have B := C.right
 have b1 := A.outer.big
 have b2 := B.outer.big
 refine ⟨noTouch A.outer B.outer ?_,fun j hj => noTouch A.outer (B.hole j hj).valid ?_,fun j hj => noTouch B.outer (A.hole j hj).valid ?_,?_,?_⟩
 ·exact C.cl.free (i := 0) (k := 0) (by omega) (by omega)
 ·have := C.cl.free (i := 0) (k := j + 1) (by omega) (by have : j < m2 := hj;omega)
  rw [(cf_succ m1 g1 g2 j).1,(cf_succ m1 g1 g2 j).2] at this
  exact this
 ·have := C.cl.free (i := j + 1) (k := 0) (by have : j < n2 := hj;omega) (by omega)
  rw [(cf_succ n1 f1 f2 j).1,(cf_succ n1 f1 f2 j).2] at this
  exact fun h => this h.symm
 ·exact Off.cases A (B.outer.near 0 (by omega)) C.off
 ·exact Off.cases B (A.outer.near 0 (by omega)) C.off'
theorem area2P_val {PF : FF'} {k : Nat} (S : VShape (CV.len (PF k 6)) (CV.el (PF k 6)) (CV.len (PF k 7)) (CV.el (PF k 7))) : area2P PF k = (toShp (CV.len (PF k 6)) (CV.el (PF k 6)) (CV.len (PF k 7)) (CV.el (PF k 7))).area:=by
 unfold area2P
 rw [area18 S]
 rfl
theorem sm_le_zero {n : Nat} {f : Nat → Int} (h : ∀ i,i < n → f i ≤ 0) : sm n f ≤ 0:=by
 have := sm_nonneg (n := n) (f:=fun i => 0 - f i) fun i hi => by have := h i hi;omega
 rw [sm_sub,sm_zero] at this
 omega
theorem area2P_bd {P : Nat} {PF : FF'} (hP : FewP P PF) {k : Nat} (hk : k < P) : 0 ≤ area2P PF k ∧ area2P PF k ≤ 68719476736:=by
 obtain ⟨e1,_,e3⟩ := shapeC_law PF k
 by_cases h : shapeC PF k = 0
 ·have S := e3.1 h
  obtain ⟨o,g⟩ := S.ok
  rw [area2P_val S]
  refine ⟨Shp.area_nonneg o g,?_⟩
  have h1 := area_bd S.outer
  have h2 : sm (CV.len (PF k 7)) (fun j => area (CV.len (CV.el (PF k 7) j 0)) (pt (CV.el (CV.el (PF k 7) j 0)))) ≤ 0 := sm_le_zero fun j hj => by have:=(S.hole j hj).neg;omega
  show area (CV.len (PF k 6)) (pt (CV.el (PF k 6))) + sm (CV.len (PF k 7)) (fun j => area (CV.len (CV.el (PF k 7) j 0)) (pt (CV.el (CV.el (PF k 7) j 0)))) ≤ _
  omega
 ·have : area2P PF k = 0:=by
   unfold area2P F18
   rw [e1,ob_some,bif_t (by simpa using h)];rfl
  omega
def uterm (P : Nat) (PF S : FF') (j : Nat) : Int := bif decide (fd P PF (CV.str (S j 0)) < 0) then 0 else area2P PF (pk P PF (sp S j))
theorem uterm_bd {P : Nat} {PF S : FF'} (hP : FewP P PF) (j : Nat) : 0 ≤ uterm P PF S j ∧ uterm P PF S j ≤ 68719476736:=by
 unfold uterm
 by_cases h : fd P PF (CV.str (S j 0)) < 0
 ·rw [bif_t (decide_eq_true h)];omega
 ·rw [bif_f (decide_eq_false h)]
  exact area2P_bd hP (Own.pk_lt (s := sp S j) (show 0 ≤ fd P PF (CV.str (S j 0)) by omega)).1
theorem sm_tail (n : Nat) (f : Nat → Int) : sm (n + 1) f = f 0 + sm n fun i => f (i + 1):=by
 have := sm_shift n f
 rw [sm];omega
theorem ua_sum {P : Nat} {PF S : FF'} (hP : FewP P PF) : ∀ (m j : Nat) (acc : Int),m ≤ 40 → 0 ≤ acc → acc ≤ 68719476736 * (40 - (m : Int)) → ua P PF S acc m j = acc + sm m fun i => uterm P PF S (j + i)
 | 0,j,acc,_,_,_ => by show acc = acc + 0;omega
 | m + 1,j,acc,hm,h0,h1 => by
  have b := uterm_bd (S := S) hP j
  have hstep : (bif decide (fd P PF (CV.str (S j 0)) < 0) then acc else w64 (acc + area2P PF (pk P PF (sp S j)))) = acc + uterm P PF S j:=by
   unfold uterm at b ⊢
   by_cases h : fd P PF (CV.str (S j 0)) < 0
   ·rw [bif_t (decide_eq_true h),bif_t (decide_eq_true h)];omega
   ·rw [bif_f (decide_eq_false h)] at b
    rw [bif_f (decide_eq_false h),bif_f (decide_eq_false h),w64_of (by omega) (by omega)]
  unfold ua
  rw [hstep,ua_sum hP m (j + 1) _ (by omega) (by omega) (by omega),sm_tail m fun i => uterm P PF S (j + i)]
  have : sm m (fun i => uterm P PF S (j + 1 + i)) = sm m fun i => uterm P PF S (j + (i + 1)) := sm_congr fun i _ => by rw [show j + 1 + i = j + (i + 1) from by omega]
  rw [this]
  show _ = acc + (uterm P PF S (j + 0) + _)
  rw [Nat.add_zero];omega
theorem used_sum {P n : Nat} {PF S : FF'} (hP : FewP P PF) (hn : n ≤ 32) : used P PF S n = sm n (uterm P PF S):=by
 unfold used
 rw [bif_f (decide_eq_false (by simp;omega)),ua_sum hP n 0 0 (by omega) (by omega) (by omega),Int.zero_add]
 exact sm_congr fun i _ => by rw [Nat.zero_add]
theorem sm_bound {n : Nat} {f : Nat → Int} {B : Int} (h : ∀ i,i < n → f i ≤ B) : sm n f ≤ B * n:=by
 induction n with
 | zero => simp [sm]
 | succ n ih =>
  have := ih fun i hi => h i (by omega)
  have := h n (by omega)
  rw [sm]
  have e : B * ((n + 1 : Nat) : Int) = B * n + B:=by rw [Int.natCast_add];grind
  omega
theorem used_bd {P n : Nat} {PF S : FF'} (hP : FewP P PF) : 0 ≤ used P PF S n ∧ used P PF S n ≤ 2199023255552:=by
 by_cases hn : n ≤ 32
 ·rw [used_sum hP hn]
  refine ⟨sm_nonneg fun i _ => (uterm_bd hP i).1,?_⟩
  have := sm_bound (n := n) fun i _ => (uterm_bd (S := S) hP i).2
  omega
 ·unfold used
  rw [bif_t (decide_eq_true (by simp;omega))];omega
def yld (P : Nat) (PF S : FF') (L W : Int) (n : Nat) : Int := if 1 ≤ L ∧ L ≤ 32768 ∧ 1 ≤ W ∧ W ≤ 32768 then Int.tdiv (used P PF S n * 1000) (2 * L * W) else 0
theorem yield_both {P n : Nat} {PF S : FF'} (hP : FewP P PF) (a a1 a2 a3 : ByteArray) (gap th L W : Int) : F186 100 a gap n S a1 a2 th L W a3 P PF = some (yld P PF S L W n) ∧ F193 100 a gap n S a1 a2 th L W a3 P PF = some (yld P PF S L W n):=by
 unfold F186 F193 yld
 by_cases h1 : L < 1
 ·rw [decide_eq_true h1,if_neg (by omega)];exact ⟨rfl,rfl⟩
 ·by_cases h2 : L > 32768
  ·rw [decide_eq_false h1,decide_eq_true h2,if_neg (by omega)];exact ⟨rfl,rfl⟩
  ·by_cases h3 : W < 1
   ·rw [decide_eq_false h1,decide_eq_false h2,decide_eq_true h3,if_neg (by omega)];exact ⟨rfl,rfl⟩
   ·by_cases h4 : W > 32768
    ·rw [decide_eq_false h1,decide_eq_false h2,decide_eq_false h3,decide_eq_true h4,if_neg (by omega)];exact ⟨rfl,rfl⟩
    ·rw [decide_eq_false h1,decide_eq_false h2,decide_eq_false h3,decide_eq_false h4,if_pos (by omega)]
     obtain ⟨u1,u2⟩ := used_both P n PF S hP a gap
     obtain ⟨b1,b2⟩ := used_bd (n := n) (S := S) hP
     have hLW : 0 < L * W := Int.mul_pos (by omega) (by omega)
     have hLW2 : L * W ≤ 1073741824:=by
      have h5 := Int.mul_le_mul_of_nonneg_right (show L ≤ 32768 by omega) (show 0 ≤ W by omega)
      omega
     have e1 : w64 (2 * L) = 2 * L := w64_of (by omega) (by omega)
     have e2 : w64 (2 * L * W) = 2 * L * W:=by rw [Int.mul_assoc];exact w64_of (by omega) (by omega)
     have e3 : w64 (used P PF S n * 1000) = used P PF S n * 1000 := w64_of (by omega) (by omega)
     have e0 : 0 < 2 * L * W:=by rw [Int.mul_assoc];omega
     have ez : (2 * L * W == 0) = false:=by simp;omega
     have hq0 : 0 ≤ Int.tdiv (used P PF S n * 1000) (2 * L * W) := Int.tdiv_nonneg (by omega) (by omega)
     have hq1 : Int.tdiv (used P PF S n * 1000) (2 * L * W) ≤ used P PF S n * 1000 := Int.tdiv_le_self _ (by omega)
     have e4 : w64 (Int.tdiv (used P PF S n * 1000) (2 * L * W)) = Int.tdiv (used P PF S n * 1000) (2 * L * W) := w64_of (by omega) (by omega)
     have hr0 : 0 ≤ Int.tmod (used P PF S n * 1000) (2 * L * W) := Int.tmod_nonneg _ (by omega)
     have tf : (false == false) = true := rfl
     rw [tf,bif_t rfl,bif_t rfl,bif_t rfl,bif_f rfl,bif_t rfl,bif_t rfl,bif_t rfl,bif_f rfl,u1,u2,ob_some,ob_some,e1,e2,e3,ez,bif_f rfl,e4]
     refine ⟨?_,rfl⟩
     unfold F185 F184
     rw [ez,bif_f rfl,bif_f (show ((used P PF S n * 1000 == -9223372036854775808) == true) = false by simp;omega),bif_f rfl,bif_f rfl,ob_some,e4]
     dsimp only
     rw [decide_eq_false (show ¬ Int.tmod (used P PF S n * 1000) (2 * L * W) < 0 by omega),decide_eq_false (show ¬ 2 * L * W < 0 by omega)]
     cases ((Int.tmod (used P PF S n * 1000) (2 * L * W) != 0) == true) <;> rfl
end Go.Eng.R13
/-
 NestTurned: the plain law.
-/
set_option linter.all false
namespace Go.Eng.R13
open Go Go.RowKit Go.Eng Geo
def hT (L W : Int) (q : Pt) : Pt := tr (L,W) (qts 2 q)
theorem small_iff {n : Int} : small n = true ↔ -32768 ≤ n ∧ n ≤ 32768:=by
 unfold small
 rw [Bool.and_eq_true,decide_eq_true_iff,decide_eq_true_iff]
theorem placed_iff {s : Sp} : placed s = true ↔ (0 ≤ s.2.2.2.1 ∧ s.2.2.2.1 ≤ 3) ∧ nr s.2.1 s.2.2.1:=by
 unfold placed
 rw [Bool.and_eq_true,Bool.and_eq_true,Bool.and_eq_true,decide_eq_true_iff,decide_eq_true_iff,small_iff,small_iff]
 unfold nr
 constructor
 ·rintro ⟨a,b,c,d⟩;exact ⟨⟨a,b⟩,c.1,c.2,d.1,d.2⟩
 ·rintro ⟨⟨a,b⟩,c1,c2,d1,d2⟩;exact ⟨a,b,⟨c1,c2⟩,⟨d1,d2⟩⟩
theorem turn_nat {z : Int} (h0 : 0 ≤ z) (h3 : z ≤ 3) : ∃ t : Nat,t ≤ 3 ∧ z = Int.ofNat t ∧ Int.tmod (w64 (z + 2)) 4 = Int.ofNat ((t + 2) % 4):=by
 obtain ⟨t,rfl⟩ : ∃ t : Nat,z = Int.ofNat t := ⟨z.toNat,(Int.toNat_of_nonneg h0).symm⟩
 have ht : t ≤ 3:=by simp at h3;omega
 refine ⟨t,ht,rfl,?_⟩
 match t,ht with
 | 0,_ => rfl
 | 1,_ => rfl
 | 2,_ => rfl
 | 3,_ => rfl
theorem moved_all {P : Nat} {PF : FF'} (hP : FewP P PF) {s : Sp} (hf : 0 ≤ fd P PF s.1) (hS : VShape (CV.len (PF (pk P PF s) 6)) (CV.el (PF (pk P PF s) 6)) (CV.len (PF (pk P PF s) 7)) (CV.el (PF (pk P PF s) 7))) (hp : placed s = true) {t : Nat} (ht : s.2.2.2.1 = Int.ofNat t) :
  (mv P PF s).1 = CV.len (PF (pk P PF s) 6) ∧ (mv P PF s).2.2.1 = CV.len (PF (pk P PF s) 7) ∧
  (∀ j,j < CV.len (PF (pk P PF s) 6) → pt (mv P PF s).2.1 j = tmap s.2.2.2.2 t s.2.1 s.2.2.1 (pt (CV.el (PF (pk P PF s) 6)) (bif s.2.2.2.2 then CV.len (PF (pk P PF s) 6) - 1 - j else j))) ∧
  (∀ i,i < CV.len (PF (pk P PF s) 7) → CV.len ((mv P PF s).2.2.2 i 0) = CV.len (CV.el (PF (pk P PF s) 7) i 0) ∧
   ∀ j,j < CV.len (CV.el (PF (pk P PF s) 7) i 0) → pt (CV.el ((mv P PF s).2.2.2 i 0)) j = tmap s.2.2.2.2 t s.2.1 s.2.2.1 (pt (CV.el (CV.el (PF (pk P PF s) 7) i 0)) (bif s.2.2.2.2 then CV.len (CV.el (PF (pk P PF s) 7) i 0) - 1 - j else j))):=by
 obtain ⟨_,_,_,_,_,mM⟩ := mvt_law hP (Own.pk_lt hf).1 s
 obtain ⟨⟨p1,p2⟩,p3⟩ := placed_iff.1 hp
 have hfar := near_far p3
 have hno : ¬ (farB s.2.1 s.2.2.1 = true ∨ FarC (1 + CV.len (PF (pk P PF s) 7)) (cfh (CV.len (PF (pk P PF s) 6)) (CV.el (PF (pk P PF s) 6)) (CV.el (PF (pk P PF s) 7))) 0):=by
  rintro (k | k)
  ·rw [hfar] at k;cases k
  ·exact not_farC hS.all.1 hS.all.2 k
 obtain ⟨e1,e2,e3,e4⟩ := mM.all t ht (by rw [ht] at p2;simp at p2;omega) hno
 refine ⟨e1,e2,fun j hj => ?_,fun i hi => ⟨(e4 i hi).1,fun j hj => ?_⟩⟩
 ·have := turned_of hS.all.1 hfar e3 j hj
  exact this
 ·exact turned_of (hS.all.2 i hi) hfar (e4 i hi).2 j hj
theorem own_in {P : Nat} {PF : FF'} (hP : FewP P PF) {gr : ByteArray} {th L W gap : Int} {s : Sp} (o : Own P PF gr th L W gap s) : ∀ j,j < (mv P PF s).1 → (gap ≤ CV.int ((mv P PF s).2.1 j 0) ∧ CV.int ((mv P PF s).2.1 j 0) ≤ L - gap) ∧ (gap ≤ CV.int ((mv P PF s).2.1 j 1) ∧ CV.int ((mv P PF s).2.1 j 1) ≤ W - gap):=by
 obtain ⟨⟨f1,f2,f3,f4⟩,b⟩:=(fits_iff hP o.found).1 o.fits
 intro j hj
 have := b j (Nat.zero_le j) hj
 rw [w64_of (by omega) (by omega),w64_of (by omega) (by omega)] at this
 exact this
end Go.Eng.R13
/-
 NestApart: the plain law.
-/
set_option linter.all false
namespace Go.Eng.R13
open Go Go.RowKit Go.Eng Geo
def whr (a : Sh) (x y : Int) : Int:=(F22 100 a.1 a.2.1 a.2.2.1 a.2.2.2 x y).getD 0
theorem whr_law (a : Sh) (x y : Int) : F22 100 a.1 a.2.1 a.2.2.1 a.2.2.2 x y = some (whr a x y) ∧ (VShape a.1 a.2.1 a.2.2.1 a.2.2.2 → IsPlace a.1 a.2.1 a.2.2.1 a.2.2.2 (x,y) (whr a x y)):=by
 obtain ⟨z,z1,_,z3⟩ := place_full a.1 a.2.1 a.2.2.1 a.2.2.2 x y
 have : whr a x y = z:=by unfold whr;rw [z1];rfl
 rw [this]
 exact ⟨z1,z3⟩
def ar2 (a : Sh) : Int:=(F18 100 a.1 a.2.1 a.2.2.1 a.2.2.2).getD 0
def cnt (G : FF') (x y : Int) : Nat → Nat → Int
 | 0,_ => 0
 | m + 1,j => (if whr (sh G j) x y ≥ 0 then 1 else 0) + cnt G x y m (j + 1)
theorem cnt_zero {G : FF'} {x y : Int} : ∀ {m j},(∀ t,j ≤ t → t < j + m → whr (sh G t) x y < 0) → cnt G x y m j = 0
 | 0,_,_ => rfl
 | m + 1,j,h => by
  unfold cnt
  rw [if_neg (by have := h j (Nat.le_refl j) (by omega);omega),cnt_zero fun t a b => h t (by omega) (by omega)];rfl
theorem cnt_one {G : FF'} {x y : Int} : ∀ {m j i},j ≤ i → i < j + m → whr (sh G i) x y ≥ 0 → (∀ t,j ≤ t → t < j + m → t ≠ i → whr (sh G t) x y < 0) → cnt G x y m j = 1
 | 0,j,i,h1,h2,_,_ => by omega
 | m + 1,j,i,h1,h2,h3,h4 => by
  unfold cnt
  by_cases e : j = i
  ·subst e
   rw [if_pos h3,cnt_zero fun t a b => h4 t (by omega) (by omega) (by omega)];rfl
  ·rw [if_neg (by have := h4 j (Nat.le_refl j) (by omega) e;omega),cnt_one (by omega) (by omega) h3 fun t a b => h4 t (by omega) (by omega)];rfl
theorem apart_loop198 {ρ : Type} (g : Nat → CV) (x y : Int) (n : Nat) (G : FF') (hn : n ≤ 40) (ha : ∀ t,t < n → F18 100 (sh G t).1 (sh G t).2.1 (sh G t).2.2.1 (sh G t).2.2.2 = some (ar2 (sh G t)) ∧ 0 ≤ ar2 (sh G t) ∧ ar2 (sh G t) ≤ 68719476736) (k0 : Int → Int → Option ρ) : ∀ (m j : Nat) (c s : Int),n < m + j → j ≤ n → 0 ≤ c → c ≤ j → 0 ≤ s → s ≤ 68719476736 * (j : Int) →
  L198v1 100 n G g x y m c s (Int.ofNat j) k0 = k0 (c + cnt G x y (n - j) j) (s + sm (n - j) fun i => ar2 (sh G (j + i))):=by
 intro m
 induction m with
 | zero => intro j c s h1 h2;omega
 | succ m ih =>
  intro j c s h1 h2 c0 c1 s0 s1
  unfold L198v1
  rw [lt_nat,inb_nat,toNat_nat]
  by_cases h : j < n
  ·obtain ⟨a1,a2,a3⟩ := ha j h
   have a1' : F18 100 (CV.len (G j 0)) (CV.el (G j 0)) (CV.len (G j 1)) (CV.el (G j 1)) = some (ar2 (sh G j)) := a1
   have w1 : F22 100 (CV.len (G j 0)) (CV.el (G j 0)) (CV.len (G j 1)) (CV.el (G j 1)) x y = some (whr (sh G j) x y):=(whr_law (sh G j) x y).1
   have es : w64 (s + ar2 (sh G j)) = s + ar2 (sh G j) := w64_of (by omega) (by omega)
   have ec : w64 (c + 1) = c + 1 := w64_of (by omega) (by omega)
   rw [bif_t (decide_eq_true h),bif_t (decide_eq_true h),w1,ob_some,bif_t (decide_eq_true h),bif_t (decide_eq_true h),a1',ob_some,ob_some,es,ec,w64_succ (by omega),show n - j = (n - (j + 1)) + 1 from by omega,cnt]
   have e : sm (n - (j + 1)) (fun i => ar2 (sh G (j + 1 + i))) = sm (n - (j + 1)) fun i => ar2 (sh G (j + (i + 1))) := sm_congr fun i _ => by rw [show j + 1 + i = j + (i + 1) from by omega]
   have st : sm (n - (j + 1) + 1) (fun i => ar2 (sh G (j + i))) = ar2 (sh G j) + sm (n - (j + 1)) fun i => ar2 (sh G (j + 1 + i)):=(sm_tail _ _).trans (by rw [e];rfl)
   rw [st]
   by_cases hw : whr (sh G j) x y ≥ 0
   ·rw [bif_t (decide_eq_true hw),ih (j + 1) _ _ (by omega) (by omega) (by omega) (by omega) (by omega) (by omega),if_pos hw]
    congr 1 <;> omega
   ·rw [bif_f (decide_eq_false hw),ih (j + 1) _ _ (by omega) (by omega) (by omega) (by omega) (by omega) (by omega),if_neg hw]
    congr 1 <;> omega
  ·rw [bif_f (decide_eq_false h),show n - j = 0 from by omega]
   show k0 c s = k0 (c + 0) (s + 0)
   rw [Int.add_zero,Int.add_zero]
theorem own_valid {P : Nat} {PF : FF'} (hP : FewP P PF) {gr : ByteArray} {th L W gap : Int} {s : Sp} (o : Own P PF gr th L W gap s) :
  VShape (mv P PF s).1 (mv P PF s).2.1 (mv P PF s).2.2.1 (mv P PF s).2.2.2 ∧ F18 100 (mv P PF s).1 (mv P PF s).2.1 (mv P PF s).2.2.1 (mv P PF s).2.2.2 = some (area2P PF (pk P PF s)):=by
 obtain ⟨⟨p1,p2⟩,p3⟩ := placed_iff.1 o.spot
 obtain ⟨t,ht,e1,_⟩ := turn_nat p1 p2
 obtain ⟨a1,a2,a3,a4⟩ := moved_all hP o.found o.shape o.spot e1
 obtain ⟨⟨f1,f2,f3,f4⟩,_⟩:=(fits_iff hP o.found).1 o.fits
 have hb := own_in hP o
 have hS := o.shape
 have ho : Turned (tmap s.2.2.2.2 t s.2.1 s.2.2.1) s.2.2.2.2 (CV.len (PF (pk P PF s) 6)) (CV.el (PF (pk P PF s) 6)) (mv P PF s).2.1 := a3
 have hh : ∀ i,i < CV.len (PF (pk P PF s) 7) → Turned (tmap s.2.2.2.2 t s.2.1 s.2.2.1) s.2.2.2.2 (CV.len (CV.el (PF (pk P PF s) 7) i 0)) (CV.el (CV.el (PF (pk P PF s) 7) i 0)) (CV.el ((mv P PF s).2.2.2 i 0)):=fun i hi => (a4 i hi).2
 have R := tmap_fit s.2.2.2.2 t s.2.1 s.2.2.1
 have nb := hS.outer.big
 have key : ∀ q : Pt,(gap ≤ q.1 ∧ q.1 ≤ L - gap) ∧ (gap ≤ q.2 ∧ q.2 ≤ W - gap) → nr q.1 q.2:=fun q h => by unfold nr;omega
 have n1 : AllNr (CV.len (PF (pk P PF s) 6)) (mv P PF s).2.1:=fun i hi => key (CV.int ((mv P PF s).2.1 i 0),CV.int ((mv P PF s).2.1 i 1)) (hb i (by rw [a1];exact hi))
 have ts : TShape (tmap s.2.2.2.2 t s.2.1 s.2.2.1) s.2.2.2.2 (CV.len (PF (pk P PF s) 6)) (CV.el (PF (pk P PF s) 6)) (CV.len (PF (pk P PF s) 7)) (CV.el (PF (pk P PF s) 7)) (mv P PF s).2.1 (mv P PF s).2.2.2:=by
  refine ⟨R,ho,fun j hj => (a4 j hj).1,hh,hS.all.1,n1,hS.all.2,fun j hj i hi => ?_⟩
  have hi' : (bif s.2.2.2.2 then CV.len (CV.el (PF (pk P PF s) 7) j 0) - 1 - i else i) < CV.len (CV.el (PF (pk P PF s) 7) j 0):=by cases s.2.2.2.2 <;> simp <;> omega
  have hin:=(t_in (by omega) R ho _).2 ((hS.hole j hj).inside _ hi')
  rw [← hh j hj i hi] at hin
  exact key _ (in_box (n := CV.len (PF (pk P PF s) 6)) (f:=(mv P PF s).2.1) (fun k hk => hb k (by rw [a1];exact hk)) hin)
 have V := ts.valid hS
 obtain ⟨z,z1,z2⟩ := t18 ts
 rw [(area2P_law hP (Own.pk_lt o.found).1).1] at z2
 rw [a1,a2]
 exact ⟨V,z1.trans z2.symm⟩
theorem closed_box {n : Nat} {f : Nat → Nat → CV} {q : Pt} {lx hx ly hy : Int} (h0 : 0 < n) (h : ∀ i,i < n → (lx ≤ CV.int (f i 0) ∧ CV.int (f i 0) ≤ hx) ∧ (ly ≤ CV.int (f i 1) ∧ CV.int (f i 1) ≤ hy)) (hq : ClosedC n f q) : (lx ≤ q.1 ∧ q.1 ≤ hx) ∧ (ly ≤ q.2 ∧ q.2 ≤ hy):=by
 by_cases ho : OnK n (pt f) q
 ·obtain ⟨j,hj,_,k1,k2⟩ := ho
  have a := h j hj
  have b := h _ (nx_lt' (i := j) h0)
  have k1 : btw (CV.int (f j 0)) (CV.int (f (nx n j) 0)) q.1 := k1
  have k2 : btw (CV.int (f j 1)) (CV.int (f (nx n j) 1)) q.2 := k2
  unfold btw at k1 k2
  omega
 ·refine in_box h ⟨fun k => ho (onK_C.1 k),hq.resolve_right ho⟩
theorem max1 (a : Int) : (if a > 1 then a else 1) = max 1 a:=by
 by_cases h : a > 1
 ·rw [if_pos h];omega
 ·rw [if_neg h];omega
theorem tdiv_le {a b c : Int} (ha : 0 ≤ a) (hb : 0 < b) (h : a ≤ c * b) : Int.tdiv a b ≤ c:=by
 rw [Int.tdiv_eq_ediv_of_nonneg ha]
 exact Int.ediv_le_of_le_mul hb h
theorem acc_area {P n : Nat} {PF S : FF'} (hP : FewP P PF) {gr : ByteArray} {th L W gap : Int} (A : Acc P PF S gr th L W gap n) : sm n (fun i => area2P PF (pk P PF (sp S i))) = used P PF S n ∧ used P PF S n ≤ 2 * (L * W):=by
 have sides := A.sides hP
 have hu : used P PF S n = sm n (fun i => area2P PF (pk P PF (sp S i))):=by
  rw [used_sum hP A.few]
  refine sm_congr fun i hi => ?_
  unfold uterm
  rw [bif_f (decide_eq_false (by have:=(A.own i hi).found;show ¬ fd P PF (sp S i).1 < 0;omega))]
 refine ⟨hu.symm,?_⟩
 rw [hu]
 have V:=fun i hi => own_valid hP (A.own i hi)
 have h := pack (L := L) (W := W) sides.1 sides.2.2.1 (m := n) (S:=fun i => toShp (mv P PF (sp S i)).1 (mv P PF (sp S i)).2.1 (mv P PF (sp S i)).2.2.1 (mv P PF (sp S i)).2.2.2) (fun i hi => (V i hi).1.ok.1) (fun i hi => (V i hi).1.ok.2) (fun i hi j hj hne => by
  rcases Nat.lt_or_gt_of_ne hne with k | k
  ·exact (clearB_iff.1 (A.pair j hj i k).symm.clear).apt
  ·exact (clearB_iff.1 (A.pair i hi j k).clear).apt) (fun i hi k hk => by
  have g0 := A.gap0
  have hb := own_in hP (A.own i hi) k hk
  show (0 ≤ CV.int ((mv P PF (sp S i)).2.1 k 0) ∧ CV.int ((mv P PF (sp S i)).2.1 k 0) ≤ L) ∧ (0 ≤ CV.int ((mv P PF (sp S i)).2.1 k 1) ∧ CV.int ((mv P PF (sp S i)).2.1 k 1) ≤ W)
  omega)
 rw [sm_congr (g:=fun i => area2P PF (pk P PF (sp S i))) fun i hi => ?_] at h
 ·exact h
 ·have e:=(V i hi).2
  rw [area18 (V i hi).1] at e
  exact Option.some.inj e
theorem apart23 (g : Nat → CV) (_ : RowIn kR0 g) (qx qy : Int) (_ : I64 qx) (_ : I64 qy) : F198 100 g qx qy = some true:=by
 unfold F198
 obtain ⟨r,r1,r2⟩ := right181 g
 rw [r1,ob_some]
 cases r with
 | false => rw [bif_t (by rfl),awake23,ob_some]
 | true =>
  rw [bif_f (by rfl)]
  obtain ⟨⟨h40,hP⟩,A⟩ := r2 rfl
  have A : Acc (CV.len (g 9)) (CV.el (g 9)) (CV.el (g 2)) (CV.str (g 4)) (CV.int (g 5)) (CV.int (g 6)) (CV.int (g 7)) (CV.int (g 1)) (CV.len (g 2)) := A
  have sides := A.sides hP
  have a0 := A.gap0
  have a5 := A.gap5
  obtain ⟨N,G,e,s1,s2,s3,s4⟩ := shapes175 (CV.len (g 9)) (CV.len (g 2)) (CV.el (g 9)) (CV.el (g 2)) hP (by omega) (CV.str (g 0)) (CV.int (g 1))
  have he : e = 0 := s2.trans (scan_zero.2 fun t _ ht => scode_cases.2 ⟨(A.own t (by omega)).found,(A.own t (by omega)).spot⟩)
  subst he
  obtain ⟨hN,hG⟩ := s4 rfl
  subst hN
  have U:=(used_both (CV.len (g 9)) (CV.len (g 2)) (CV.el (g 9)) (CV.el (g 2)) hP (CV.str (g 0)) (CV.int (g 1))).1
  have Y:=(yield_both (n := CV.len (g 2)) (S := CV.el (g 2)) hP (CV.str (g 0)) (CV.str (g 3)) (CV.str (g 4)) (CV.str (g 8)) (CV.int (g 1)) (CV.int (g 5)) (CV.int (g 6)) (CV.int (g 7))).1
  have V:=fun i hi => own_valid hP (A.own i hi)
  have har : ∀ t,t < CV.len (g 2) → ar2 (sh G t) = area2P (CV.el (g 9)) (pk (CV.len (g 9)) (CV.el (g 9)) (sp (CV.el (g 2)) t)):=fun t ht => by unfold ar2;rw [hG t ht,(V t ht).2];rfl
  obtain ⟨q1,q2⟩ := acc_area hP A
  obtain ⟨b1,b2⟩ := used_bd (n := CV.len (g 2)) (S := CV.el (g 2)) hP
  rw [s1,ob_some]
  dsimp only
  rw [bif_t (by rfl),bif_f (by simp)]
  simp only [U,Y,ob_some,awake23]
  rw [show (0 : Int) = Int.ofNat 0 from rfl]
  refine (apart_loop198 g qx qy (CV.len (g 2)) G h40 (fun t ht => by
   rw [har t ht,hG t ht]
   have o:=(A.own t ht).found
   exact ⟨(V t ht).2,area2P_bd hP (Own.pk_lt o).1⟩) _ 100 0 (Int.ofNat 0) (Int.ofNat 0) (by omega) (by omega) (by simp) (by simp) (by simp) (by simp)).trans ?_
  have hsum : Int.ofNat 0 + sm (CV.len (g 2) - 0) (fun i => ar2 (sh G (0 + i))) = used (CV.len (g 9)) (CV.el (g 9)) (CV.el (g 2)) (CV.len (g 2)):=by
   rw [Nat.sub_zero,sm_congr (g:=fun i => area2P (CV.el (g 9)) (pk (CV.len (g 9)) (CV.el (g 9)) (sp (CV.el (g 2)) i))) fun i hi => (by rw [Nat.zero_add];exact har i hi),q1]
   simp
  rw [hsum,show Int.ofNat 0 + cnt G qx qy (CV.len (g 2) - 0) 0 = cnt G qx qy (CV.len (g 2)) 0 from by rw [Nat.sub_zero];simp]
  -- the point
  have hc : cnt G qx qy (CV.len (g 2)) 0 = 0 ∨ (cnt G qx qy (CV.len (g 2)) 0 = 1 ∧ (CV.int (g 1) ≤ qx ∧ qx ≤ CV.int (g 6) - CV.int (g 1)) ∧ (CV.int (g 1) ≤ qy ∧ qy ≤ CV.int (g 7) - CV.int (g 1))):=by
   by_cases hex : ∃ i,i < CV.len (g 2) ∧ whr (sh G i) qx qy ≥ 0
   ·obtain ⟨i,hi,hw⟩ := hex
    have pl:=fun t (ht : t < CV.len (g 2)) => (whr_law (mv (CV.len (g 9)) (CV.el (g 9)) (sp (CV.el (g 2)) t)) qx qy).2 (V t ht).1
    refine .inr ⟨cnt_one (Nat.zero_le i) (by omega) hw fun t _ ht hne => ?_,?_⟩
    ·rw [hG i hi] at hw
     rw [hG t (by omega)]
     have hp : Pair (CV.len (g 9)) (CV.el (g 9)) (CV.int (g 1)) (sp (CV.el (g 2)) t) (sp (CV.el (g 2)) i):=by
      rcases Nat.lt_or_gt_of_ne hne with k | k
      ·exact A.pair i hi t k
      ·exact (A.pair t (by omega) i k).symm
     exact no_common (clearB_iff.1 hp.clear) (pl i hi) (pl t (by omega)) hw
    ·rw [hG i hi] at hw
     obtain ⟨w,Wf,i1,_,i3,_,_⟩ := pl i hi
     obtain ⟨_,cc⟩ := i1.nonneg (V i hi).1.outer (by omega)
     have vb:=(V i hi).1.outer.big
     exact closed_box (by omega) (own_in hP (A.own i hi)) cc
   ·exact .inl (cnt_zero fun t _ ht => by
     rcases Int.lt_or_le (whr (sh G t) qx qy) 0 with k | k
     ·exact k
     ·exact absurd ⟨t,by omega,k⟩ hex)
  generalize cnt G qx qy (CV.len (g 2)) 0 = c at *
  -- the yield
  have wL : w64 (CV.int (g 6) - CV.int (g 1)) = CV.int (g 6) - CV.int (g 1) := w64_of (by omega) (by omega)
  have wW : w64 (CV.int (g 7) - CV.int (g 1)) = CV.int (g 7) - CV.int (g 1) := w64_of (by omega) (by omega)
  have hm1 : 1 ≤ max 1 (CV.int (g 6)):=by omega
  have hm2 : 1 ≤ max 1 (CV.int (g 7)):=by omega
  have hm3 : max 1 (CV.int (g 6)) ≤ 32768:=by omega
  have hm4 : max 1 (CV.int (g 7)) ≤ 32768:=by omega
  have hp0 : 0 < max 1 (CV.int (g 6)) * max 1 (CV.int (g 7)) := Int.mul_pos (by omega) (by omega)
  have hp1 : max 1 (CV.int (g 6)) * max 1 (CV.int (g 7)) ≤ 1073741824:=by
   have h5 := Int.mul_le_mul_of_nonneg_right hm3 (show 0 ≤ max 1 (CV.int (g 7)) by omega)
   omega
  have e1 : w64 (2 * max 1 (CV.int (g 6))) = 2 * max 1 (CV.int (g 6)) := w64_of (by omega) (by omega)
  have e2 : w64 (2 * max 1 (CV.int (g 6)) * max 1 (CV.int (g 7))) = 2 * max 1 (CV.int (g 6)) * max 1 (CV.int (g 7)):=by rw [Int.mul_assoc];exact w64_of (by omega) (by omega)
  have e0 : 0 < 2 * max 1 (CV.int (g 6)) * max 1 (CV.int (g 7)):=by rw [Int.mul_assoc];omega
  generalize hu : used (CV.len (g 9)) (CV.el (g 9)) (CV.el (g 2)) (CV.len (g 2)) = u at *
  have e3 : w64 (u * 1000) = u * 1000 := w64_of (by omega) (by omega)
  have hq0 : 0 ≤ Int.tdiv (u * 1000) (2 * max 1 (CV.int (g 6)) * max 1 (CV.int (g 7))) := Int.tdiv_nonneg (by omega) (by omega)
  have hq1 : Int.tdiv (u * 1000) (2 * max 1 (CV.int (g 6)) * max 1 (CV.int (g 7))) ≤ u * 1000 := Int.tdiv_le_self _ (by omega)
  have e4 : w64 (Int.tdiv (u * 1000) (2 * max 1 (CV.int (g 6)) * max 1 (CV.int (g 7)))) = Int.tdiv (u * 1000) (2 * max 1 (CV.int (g 6)) * max 1 (CV.int (g 7))) := w64_of (by omega) (by omega)
  have hy : yld (CV.len (g 9)) (CV.el (g 9)) (CV.el (g 2)) (CV.int (g 6)) (CV.int (g 7)) (CV.len (g 2)) = Int.tdiv (u * 1000) (2 * max 1 (CV.int (g 6)) * max 1 (CV.int (g 7))) ∧ Int.tdiv (u * 1000) (2 * max 1 (CV.int (g 6)) * max 1 (CV.int (g 7))) ≤ 1000:=by
   unfold yld
   rw [hu]
   by_cases h1 : 1 ≤ CV.int (g 6) ∧ 1 ≤ CV.int (g 7)
   ·rw [if_pos (by omega),show max 1 (CV.int (g 6)) = CV.int (g 6) by omega,show max 1 (CV.int (g 7)) = CV.int (g 7) by omega]
    rw [show max 1 (CV.int (g 6)) = CV.int (g 6) by omega,show max 1 (CV.int (g 7)) = CV.int (g 7) by omega] at e0
    refine ⟨rfl,tdiv_le (by omega) e0 ?_⟩
    rw [Int.mul_assoc] at *
    omega
   ·have hz : CV.int (g 6) * CV.int (g 7) = 0:=by
     have : CV.int (g 6) = 0 ∨ CV.int (g 7) = 0:=by omega
     rcases this with k | k <;> rw [k] <;> simp
    have hu0 : u = 0:=by omega
    rw [if_neg (by omega),hu0]
    simp
  rw [hy.1]
  simp only [max1,wL,wW,e1,e2,e3,e4]
  have hy2 := hy.2
  generalize Int.tdiv (u * 1000) (2 * max 1 (CV.int (g 6)) * max 1 (CV.int (g 7))) = y at *
  have d1 : decide (y ≥ Int.ofNat 0) = true := decide_eq_true hq0
  have d2 : decide (y ≤ 1000) = true := decide_eq_true hy2
  have d3 : (2 * max 1 (CV.int (g 6)) * max 1 (CV.int (g 7)) == Int.ofNat 0) = false:=by simp;omega
  simp only [d1,d2,d3,beq_self_eq_true,cond_true,cond_false]
  rcases hc with k | ⟨k,⟨k1,k2⟩,k3,k4⟩
  ·have d4 : ((c == Int.ofNat 0) == false) = false:=by rw [k];rfl
   simp only [d4,cond_false]
   cases (decide (qx ≥ CV.int (g 1)) == true) <;> cases (decide (qy ≥ CV.int (g 1)) == true) <;> cases (decide (qx ≤ CV.int (g 6) - CV.int (g 1)) == true) <;> rfl
  ·have d4 : ((c == Int.ofNat 0) == false) = true:=by rw [k];rfl
   have d5 : ((c == 1) == true) = true:=by rw [k];rfl
   have c1 : (decide (qx ≥ CV.int (g 1)) == true) = true:=by rw [decide_eq_true k1];rfl
   have c2 : (decide (qy ≥ CV.int (g 1)) == true) = true:=by rw [decide_eq_true k3];rfl
   have c3 : (decide (qx ≤ CV.int (g 6) - CV.int (g 1)) == true) = true:=by rw [decide_eq_true k2];rfl
   have c4 : (decide (qy ≤ CV.int (g 7) - CV.int (g 1)) == true) = true:=by rw [decide_eq_true k4];rfl
   simp only [d4,d5,c1,c2,c3,c4,cond_true]
end Go.Eng.R13
