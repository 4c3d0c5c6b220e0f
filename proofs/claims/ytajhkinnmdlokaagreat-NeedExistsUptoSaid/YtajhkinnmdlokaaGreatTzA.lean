/-
 Check comes to an end: printed by tot.py.
-/
import Derived.Test.YtajhkinnmdlokaaGreatTzBase
set_option linter.all false
namespace Go.Eng.R13
open Go Go.RowKit Go.Eng
variable {ρ : Type} {P : ρ → Prop}
theorem T268v1 (u:Nat) (hu:4000000≤u) (p0:Int) (p1:ByteArray) (p2:Nat) (p3:FF) (p4:Nat) (p5:FF) (p6:Nat) (p7:FF) (p8:Nat) (p9:FF) (p10:Nat) (p11:FF) (g0:p8≤2000000) (k0:Option ρ) (hk0:Tot P (k0)) (k1:Option ρ) (hk1:(∀ j:Nat,j<p8→((CV.len (p9 j 4):Nat):Int)≤p0)→Tot P (k1)):∀ (t:Nat) (v0:Int),(0≤v0)→(∀ j:Nat,(j:Int)<v0→((CV.len (p9 j 4):Nat):Int)≤p0)→(((p8:Nat):Int)-v0).toNat<t→Tot P (L268v1 u p0 p1 p2 p3 p4 p5 p6 p7 p8 p9 p10 p11 t v0 k0 k1)
 | 0,_,_,_,h=>absurd h (Nat.not_lt_zero _)
 | t+1,v0,e0,e1,hm=>by
  unfold L268v1
  refine tD (fun h=>?_) (fun h=>?_)
  ·simp only [Int.ofNat_eq_natCast] at h
   refine tN ?_
   refine tDf (fun h=>?_) (fun h=>?_)
   ·simp only [Int.ofNat_eq_natCast] at h
    refine tN ?_
    refine tD (fun h=>?_) (fun h=>?_)
    ·simp only [Int.ofNat_eq_natCast] at h
     exact hk0
    ·simp only [Int.ofNat_eq_natCast] at h
     have hw0:w64 (v0+1)=v0+1:=w64_of (by omega) (by omega)
     exact T268v1 u hu p0 p1 p2 p3 p4 p5 p6 p7 p8 p9 p10 p11 g0 k0 hk0 k1 hk1 t _ (by omega) (by (intro j hj;exact (Nat.lt_or_ge j (Int.toNat v0)).elim (fun q=>e1 j (by omega)) (fun q=>by rw [show j=Int.toNat v0 by omega];omega))) (by omega)
   ·simp only [Int.ofNat_eq_natCast] at h
    exact hk0
  ·simp only [Int.ofNat_eq_natCast] at h
   exact hk1 (fun j hj=>e1 j (by omega))
theorem TF268 (u:Nat) (hu:4000000≤u) (x1:ByteArray) (x2:Nat) (x3:FF) (x4:Nat) (x5:FF) (x6:Nat) (x7:FF) (x8:Nat) (x9:FF) (x10:Nat) (x11:FF) (x12:Int) (g0:x2≤2000000) (g1:x4≤2000000) (g2:x6≤2000000) (g3:x8≤2000000) (g4:x10≤2000000):Tot (fun r=>r=true→((x2:Nat):Int)≤x12∧((x4:Nat):Int)≤x12∧((x6:Nat):Int)≤x12∧((x8:Nat):Int)≤x12∧((x10:Nat):Int)≤x12∧∀ j,j<x8→((CV.len (x9 j 4):Nat):Int)≤x12) (F268 u x1 x2 x3 x4 x5 x6 x7 x8 x9 x10 x11 x12):=by
 unfold F268
 refine tDf (fun h=>?_) (fun h=>?_)
 ·simp only [Int.ofNat_eq_natCast] at h
  refine tDf (fun h=>?_) (fun h=>?_)
  ·simp only [Int.ofNat_eq_natCast] at h
   refine tDf (fun h=>?_) (fun h=>?_)
   ·simp only [Int.ofNat_eq_natCast] at h
    refine tDf (fun h=>?_) (fun h=>?_)
    ·simp only [Int.ofNat_eq_natCast] at h
     refine tD (fun h=>?_) (fun h=>?_)
     ·simp only [Int.ofNat_eq_natCast] at h
      exact ⟨_,rfl,(by (intro h;cases h;done))⟩
     ·simp only [Int.ofNat_eq_natCast] at h
      refine T268v1 u hu _ _ _ _ _ _ _ _ _ _ _ _ (by assumption) _ ?_ _ ?_ u _ (by omega) (by omega) (by omega)
      ·exact ⟨_,rfl,(by (intro h;cases h;done))⟩
      ·intro q0
       exact ⟨_,rfl,(by exact fun _=>⟨by omega,by omega,by omega,by omega,by omega,q0⟩)⟩
    ·simp only [Int.ofNat_eq_natCast] at h
     exact ⟨_,rfl,(by (intro h;cases h;done))⟩
   ·simp only [Int.ofNat_eq_natCast] at h
    exact ⟨_,rfl,(by (intro h;cases h;done))⟩
  ·simp only [Int.ofNat_eq_natCast] at h
   exact ⟨_,rfl,(by (intro h;cases h;done))⟩
 ·simp only [Int.ofNat_eq_natCast] at h
  exact ⟨_,rfl,(by (intro h;cases h;done))⟩
theorem TF283 (u:Nat) (hu:4000000≤u) (x1:Int):Tot (fun _=>True) (F283 u x1):=by
 unfold F283
 refine tDt (fun h=>?_) (fun h=>?_)
 ·refine tDf (fun h=>?_) (fun h=>?_)
  ·refine tDt (fun h=>?_) (fun h=>?_)
   ·exact ⟨_,rfl,trivial⟩
   ·exact ⟨_,rfl,trivial⟩
  ·exact ⟨_,rfl,trivial⟩
 ·refine tDt (fun h=>?_) (fun h=>?_)
  ·exact ⟨_,rfl,trivial⟩
  ·exact ⟨_,rfl,trivial⟩
theorem TF284 (u:Nat) (hu:4000000≤u) (x1:Int):Tot (fun _=>True) (F284 u x1):=by
 unfold F284
 refine tDt (fun h=>?_) (fun h=>?_)
 ·exact ⟨_,rfl,trivial⟩
 ·exact ⟨_,rfl,trivial⟩
theorem T285v1 (u:Nat) (hu:4000000≤u) (p0:ByteArray) (g0:p0.size≤1048575) (k0:Option ρ) (hk0:Tot P (k0)) (k1:Option ρ) (hk1:Tot P (k1)):∀ (t:Nat) (v0:Int),(0≤v0)→(((((ByteArray.size p0)):Nat):Int)-v0).toNat<t→Tot P (L285v1 u p0 t v0 k0 k1)
 | 0,_,_,h=>absurd h (Nat.not_lt_zero _)
 | t+1,v0,e0,hm=>by
  unfold L285v1
  refine tD (fun h=>?_) (fun h=>?_)
  ·simp only [Int.ofNat_eq_natCast] at h
   refine tN ?_
   refine tO (TF283 u hu _) (fun x8 hx8 fx8=>?_)
   refine tI (fun h=>?_) (fun h=>?_)
   ·refine tN ?_
    refine tO (TF284 u hu _) (fun x9 hx9 fx9=>?_)
    refine tI (fun h=>?_) (fun h=>?_)
    ·refine tN ?_
     refine tI (fun h=>?_) (fun h=>?_)
     ·refine tN ?_
      refine tI (fun h=>?_) (fun h=>?_)
      ·exact hk0
      ·have hw0:w64 (v0+1)=v0+1:=w64_of (by omega) (by omega)
       exact T285v1 u hu p0 g0 k0 hk0 k1 hk1 t _ (by omega) (by omega)
     ·have hw0:w64 (v0+1)=v0+1:=w64_of (by omega) (by omega)
      exact T285v1 u hu p0 g0 k0 hk0 k1 hk1 t _ (by omega) (by omega)
    ·have hw0:w64 (v0+1)=v0+1:=w64_of (by omega) (by omega)
     exact T285v1 u hu p0 g0 k0 hk0 k1 hk1 t _ (by omega) (by omega)
   ·have hw0:w64 (v0+1)=v0+1:=w64_of (by omega) (by omega)
    exact T285v1 u hu p0 g0 k0 hk0 k1 hk1 t _ (by omega) (by omega)
  ·simp only [Int.ofNat_eq_natCast] at h
   exact hk1
theorem TF285 (u:Nat) (hu:4000000≤u) (x1:ByteArray) (g0:x1.size≤1048575):Tot (fun _=>True) (F285 u x1):=by
 unfold F285
 refine tQf (fun h=>?_) (fun h=>?_)
 ·refine tDf (fun h=>?_) (fun h=>?_)
  ·simp only [Int.ofNat_eq_natCast] at h
   refine tN ?_
   refine tO (TF283 u hu _) (fun x2 hx2 fx2=>?_)
   refine tI (fun h=>?_) (fun h=>?_)
   ·exact ⟨_,rfl,trivial⟩
   ·refine T285v1 u hu _ (by assumption) _ ?_ _ ?_ u _ (by omega) (by omega)
    ·exact ⟨_,rfl,trivial⟩
    ·exact ⟨_,rfl,trivial⟩
  ·simp only [Int.ofNat_eq_natCast] at h
   exact ⟨_,rfl,trivial⟩
 ·exact ⟨_,rfl,trivial⟩
theorem TF286 (u:Nat) (hu:4000000≤u) (x1 x2 x3:Int):Tot (fun _=>True) (F286 u x1 x2 x3):=by
 unfold F286
 refine tDt (fun h=>?_) (fun h=>?_)
 ·exact ⟨_,rfl,trivial⟩
 ·exact ⟨_,rfl,trivial⟩
theorem T287v1 (u:Nat) (hu:4000000≤u) (p0:Nat) (p1:FF) (g0:p0≤2000000) (k0:Int→Option ρ) (hk0:∀ a0,Tot P (k0 a0)) (k1:Option ρ) (hk1:Tot P (k1)):∀ (t:Nat) (v0:Int),(0≤v0)→(((p0:Nat):Int)-v0).toNat<t→Tot P (L287v1 u p0 p1 t v0 k0 k1)
 | 0,_,_,h=>absurd h (Nat.not_lt_zero _)
 | t+1,v0,e0,hm=>by
  unfold L287v1
  refine tD (fun h=>?_) (fun h=>?_)
  ·simp only [Int.ofNat_eq_natCast] at h
   refine tN ?_
   refine tO (TF286 u hu _ _ _) (fun x9 hx9 fx9=>?_)
   refine tI (fun h=>?_) (fun h=>?_)
   ·exact hk0 _
   ·refine tDt (fun h=>?_) (fun h=>?_)
    ·refine tN ?_
     have hw0:w64 (v0-1)=v0-1:=w64_of (by omega) (by omega)
     refine tN ?_
     refine tD (fun h=>?_) (fun h=>?_)
     ·exact hk0 _
     ·have hw0:w64 (v0+1)=v0+1:=w64_of (by omega) (by omega)
      exact T287v1 u hu p0 p1 g0 k0 hk0 k1 hk1 t _ (by omega) (by omega)
    ·have hw0:w64 (v0+1)=v0+1:=w64_of (by omega) (by omega)
     exact T287v1 u hu p0 p1 g0 k0 hk0 k1 hk1 t _ (by omega) (by omega)
  ·simp only [Int.ofNat_eq_natCast] at h
   exact hk1
theorem TF287 (u:Nat) (hu:4000000≤u) (x1:Nat) (x2:FF) (g0:x1≤2000000):Tot (fun _=>True) (F287 u x1 x2):=by
 unfold F287
 refine tEq (fun h=>?_) (fun h=>?_)
 ·simp only [Int.ofNat_eq_natCast] at h
  exact ⟨_,rfl,trivial⟩
 ·simp only [Int.ofNat_eq_natCast] at h
  refine tD (fun h=>?_) (fun h=>?_)
  ·simp only [Int.ofNat_eq_natCast] at h
   exact ⟨_,rfl,trivial⟩
  ·simp only [Int.ofNat_eq_natCast] at h
   refine T287v1 u hu _ _ (by assumption) _ ?_ _ ?_ u _ (by omega) (by omega)
   ·intro x11
    exact ⟨_,rfl,trivial⟩
   ·exact ⟨_,rfl,trivial⟩
theorem T288v1 (u:Nat) (hu:4000000≤u) (p0:Nat) (p1:FF) (g0:SlU kGU p0 p1) (k0:Int→Option ρ) (hk0:∀ a0,Tot P (k0 a0)) (k1:Option ρ) (hk1:Tot P (k1)):∀ (t:Nat) (v0:Int),(0≤v0)→(((p0:Nat):Int)-v0).toNat<t→Tot P (L288v1 u p0 p1 t v0 k0 k1)
 | 0,_,_,h=>absurd h (Nat.not_lt_zero _)
 | t+1,v0,e0,hm=>by
  have z0:=g0.1
  unfold L288v1
  refine tD (fun h=>?_) (fun h=>?_)
  ·simp only [Int.ofNat_eq_natCast] at h
   refine tN ?_
   refine tO (TF285 u hu _ (by exact SlU.str (by assumption) (by omega) (by decide) (by rfl))) (fun x12 hx12 fx12=>?_)
   refine tI (fun h=>?_) (fun h=>?_)
   ·exact hk0 _
   ·refine tN ?_
    refine tO (TF286 u hu _ _ _) (fun x13 hx13 fx13=>?_)
    refine tI (fun h=>?_) (fun h=>?_)
    ·refine tN ?_
     refine tO (TF286 u hu _ _ _) (fun x14 hx14 fx14=>?_)
     refine tI (fun h=>?_) (fun h=>?_)
     ·exact hk0 _
     ·refine tN ?_
      refine tO (TF287 u hu _ _ (by exact Nat.le_trans (SlU.sl (by assumption) (by omega) (by decide) (by rfl)).1 (by omega))) (fun x15 hx15 fx15=>?_)
      refine tNe (fun h=>?_) (fun h=>?_)
      ·exact hk0 _
      ·refine tDt (fun h=>?_) (fun h=>?_)
       ·refine tN ?_
        have hw0:w64 (v0-1)=v0-1:=w64_of (by omega) (by omega)
        refine tN ?_
        refine tI (fun h=>?_) (fun h=>?_)
        ·exact hk0 _
        ·have hw0:w64 (v0+1)=v0+1:=w64_of (by omega) (by omega)
         exact T288v1 u hu p0 p1 g0 k0 hk0 k1 hk1 t _ (by omega) (by omega)
       ·have hw0:w64 (v0+1)=v0+1:=w64_of (by omega) (by omega)
        exact T288v1 u hu p0 p1 g0 k0 hk0 k1 hk1 t _ (by omega) (by omega)
    ·exact hk0 _
  ·simp only [Int.ofNat_eq_natCast] at h
   exact hk1
theorem TF288 (u:Nat) (hu:4000000≤u) (x1:Nat) (x2:FF) (g0:SlU kGU x1 x2):Tot (fun _=>True) (F288 u x1 x2):=by
 unfold F288
 have z0:=g0.1
 refine T288v1 u hu _ _ (by assumption) _ ?_ _ ?_ u _ (by omega) (by omega)
 ·intro x17
  exact ⟨_,rfl,trivial⟩
 ·exact ⟨_,rfl,trivial⟩
theorem T289v1 (u:Nat) (hu:4000000≤u) (p0:Nat) (p1:FF) (p2:Nat) (p3:FF) (g0:SlU kGU p0 p1) (g1:SlU kHU p2 p3) (k0:Int→ByteArray→Int→Int→Int→Option ρ) (hk0:∀ a0 a1 a2 a3 a4,Tot P (k0 a0 a1 a2 a3 a4)) (k1:Option ρ) (hk1:Tot P (k1)):∀ (t:Nat) (v0:Int),(0≤v0)→(((p2:Nat):Int)-v0).toNat<t→Tot P (L289v1 u p0 p1 p2 p3 t v0 k0 k1)
 | 0,_,_,h=>absurd h (Nat.not_lt_zero _)
 | t+1,v0,e0,hm=>by
  have z0:=g0.1
  have z1:=g1.1
  unfold L289v1
  refine tD (fun h=>?_) (fun h=>?_)
  ·simp only [Int.ofNat_eq_natCast] at h
   refine tN ?_
   refine tO (TF285 u hu _ (by exact SlU.str (by assumption) (by omega) (by decide) (by rfl))) (fun x19 hx19 fx19=>?_)
   refine tI (fun h=>?_) (fun h=>?_)
   ·exact hk0 _ _ _ _ _
   ·refine tO (TF286 u hu _ _ _) (fun x20 hx20 fx20=>?_)
    refine tI (fun h=>?_) (fun h=>?_)
    ·refine tO (TF286 u hu _ _ _) (fun x21 hx21 fx21=>?_)
     refine tI (fun h=>?_) (fun h=>?_)
     ·refine tO (TF286 u hu _ _ _) (fun x22 hx22 fx22=>?_)
      refine tI (fun h=>?_) (fun h=>?_)
      ·exact hk0 _ _ _ _ _
      ·refine tDt (fun h=>?_) (fun h=>?_)
       ·have hw0:w64 (v0-1)=v0-1:=w64_of (by omega) (by omega)
        refine tN ?_
        refine tI (fun h=>?_) (fun h=>?_)
        ·exact hk0 _ _ _ _ _
        ·have hw0:w64 (v0+1)=v0+1:=w64_of (by omega) (by omega)
         exact T289v1 u hu p0 p1 p2 p3 g0 g1 k0 hk0 k1 hk1 t _ (by omega) (by omega)
       ·have hw0:w64 (v0+1)=v0+1:=w64_of (by omega) (by omega)
        exact T289v1 u hu p0 p1 p2 p3 g0 g1 k0 hk0 k1 hk1 t _ (by omega) (by omega)
     ·exact hk0 _ _ _ _ _
    ·exact hk0 _ _ _ _ _
  ·simp only [Int.ofNat_eq_natCast] at h
   exact hk1
theorem TF289 (u:Nat) (hu:4000000≤u) (x1:Nat) (x2:FF) (x3:Nat) (x4:FF) (g0:SlU kGU x1 x2) (g1:SlU kHU x3 x4):Tot (fun _=>True) (F289 u x1 x2 x3 x4):=by
 unfold F289
 have z0:=g0.1
 have z1:=g1.1
 refine tDf (fun h=>?_) (fun h=>?_)
 ·simp only [Int.ofNat_eq_natCast] at h
  refine tD (fun h=>?_) (fun h=>?_)
  ·simp only [Int.ofNat_eq_natCast] at h
   exact ⟨_,rfl,trivial⟩
  ·simp only [Int.ofNat_eq_natCast] at h
   refine tO (TF288 u hu _ _ (by assumption)) (fun x5 hx5 fx5=>?_)
   refine tNe (fun h=>?_) (fun h=>?_)
   ·exact ⟨_,rfl,trivial⟩
   ·refine T289v1 u hu _ _ _ _ (by assumption) (by assumption) _ ?_ _ ?_ u _ (by omega) (by omega)
    ·intro x28 x29 x30 x31 x32
     exact ⟨_,rfl,trivial⟩
    ·exact ⟨_,rfl,trivial⟩
 ·simp only [Int.ofNat_eq_natCast] at h
  exact ⟨_,rfl,trivial⟩
theorem T291v1 (u:Nat) (hu:4000000≤u) (p0:Nat) (p1:FF) (g0:p0≤2000000) (k0:Option ρ) (hk0:Tot P (k0)) (k1:Option ρ) (hk1:(AscS p0 p1)→Tot P (k1)):∀ (t:Nat) (v0:Int),(1≤v0)→(∀ j:Nat,1≤j→(j:Int)<v0→Op.bytesLess (ByteArray.toList (CV.str (p1 (j-1) 0))) (ByteArray.toList (CV.str (p1 j 0)))=true)→(((p0:Nat):Int)-v0).toNat<t→Tot P (L291v1 u p0 p1 t v0 k0 k1)
 | 0,_,_,_,h=>absurd h (Nat.not_lt_zero _)
 | t+1,v0,e0,e1,hm=>by
  unfold L291v1
  refine tD (fun h=>?_) (fun h=>?_)
  ·simp only [Int.ofNat_eq_natCast] at h
   have hw0:w64 (v0-1)=v0-1:=w64_of (by omega) (by omega)
   refine tN ?_
   refine tN ?_
   refine tI (fun h=>?_) (fun h=>?_)
   ·exact hk0
   ·have hw0:w64 (v0+1)=v0+1:=w64_of (by omega) (by omega)
    exact T291v1 u hu p0 p1 g0 k0 hk0 k1 hk1 t _ (by omega) (by (intro j j1 hj;exact (Nat.lt_or_ge j (Int.toNat v0)).elim (fun q=>e1 j j1 (by omega)) (fun q=>by have e:j=Int.toNat v0:=(by omega);have e2:j-1=Int.toNat (w64 (v0-1)):=(by omega);rw [e2,e];simpa using h))) (by omega)
  ·simp only [Int.ofNat_eq_natCast] at h
   exact hk1 (fun j j1 hj=>e1 j j1 (by omega))
theorem TF291 (u:Nat) (hu:4000000≤u) (x1:Nat) (x2:FF) (g0:x1≤2000000):Tot (fun r=>r=true→AscS x1 x2) (F291 u x1 x2):=by
 unfold F291
 refine T291v1 u hu _ _ (by assumption) _ ?_ _ ?_ u _ (by omega) (by omega) (by omega)
 ·exact ⟨_,rfl,(by (intro h;cases h))⟩
 ·intro q0
  exact ⟨_,rfl,(by exact fun _=>q0)⟩
theorem TF292 (u:Nat) (hu:4000000≤u) (x1:Int) (x2 x3:ByteArray) (x4:Int) (x5 x6:ByteArray):Tot (fun _=>True) (F292 u x1 x2 x3 x4 x5 x6):=by
 unfold F292
 refine tI (fun h=>?_) (fun h=>?_)
 ·exact ⟨_,rfl,trivial⟩
 ·refine tI (fun h=>?_) (fun h=>?_)
  ·exact ⟨_,rfl,trivial⟩
  ·exact ⟨_,rfl,trivial⟩
theorem T264v1 (u:Nat) (hu:4000000≤u) (p0:Nat) (p1:FF) (p2:ByteArray) (g0:p0≤2000000) (k0:Option ρ) (hk0:Tot P (k0)) (k1:Option ρ) (hk1:Tot P (k1)):∀ (t:Nat) (v0:Int),(0≤v0)→(((p0:Nat):Int)-v0).toNat<t→Tot P (L264v1 u p0 p1 p2 t v0 k0 k1)
 | 0,_,_,h=>absurd h (Nat.not_lt_zero _)
 | t+1,v0,e0,hm=>by
  unfold L264v1
  refine tD (fun h=>?_) (fun h=>?_)
  ·simp only [Int.ofNat_eq_natCast] at h
   refine tN ?_
   refine tSq (fun h=>?_) (fun h=>?_)
   ·exact hk0
   ·have hw0:w64 (v0+1)=v0+1:=w64_of (by omega) (by omega)
    exact T264v1 u hu p0 p1 p2 g0 k0 hk0 k1 hk1 t _ (by omega) (by omega)
  ·simp only [Int.ofNat_eq_natCast] at h
   exact hk1
theorem TF264 (u:Nat) (hu:4000000≤u) (x1:Nat) (x2:FF) (x3:ByteArray) (g0:x1≤2000000):Tot (fun _=>True) (F264 u x1 x2 x3):=by
 unfold F264
 refine T264v1 u hu _ _ _ (by assumption) _ ?_ _ ?_ u _ (by omega) (by omega)
 ·exact ⟨_,rfl,trivial⟩
 ·exact ⟨_,rfl,trivial⟩
theorem T293v1 (u:Nat) (hu:4000000≤u) (p0:ByteArray) (p1:Nat) (p2:FF) (p3:Nat) (p4:FF) (p5:Nat) (p6:FF) (p7:Nat) (p8:FF) (p9:Nat) (p10:FF) (p11:FF) (g0:LA p11) (k0:Option ρ) (hk0:Tot P (k0)) (k1:Option ρ) (hk1:(∀ q:Nat,q<4→AscS (CV.len (p11 0 q)) (CV.el (p11 0 q)))→Tot P (k1)):∀ (t:Nat) (v0:Int),(0≤v0)→(∀ q:Nat,(q:Int)<v0→q<4→AscS (CV.len (p11 0 q)) (CV.el (p11 0 q)))→((4:Int)-v0).toNat<t→Tot P (L293v1 u p0 p1 p2 p3 p4 p5 p6 p7 p8 p9 p10 p11 t v0 k0 k1)
 | 0,_,_,_,h=>absurd h (Nat.not_lt_zero _)
 | t+1,v0,e0,e1,hm=>by
  unfold L293v1
  refine tD (fun h=>?_) (fun h=>?_)
  ·refine tN ?_
   refine tL (by omega) ?_
   refine tO (TF291 u hu _ _ (by exact LA.at (by assumption) (by omega))) (fun x40 hx40 fx40=>?_)
   refine tI (fun h=>?_) (fun h=>?_)
   ·exact hk0
   ·have hw0:w64 (v0+1)=v0+1:=w64_of (by omega) (by omega)
    exact T293v1 u hu p0 p1 p2 p3 p4 p5 p6 p7 p8 p9 p10 p11 g0 k0 hk0 k1 hk1 t _ (by omega) (by (intro q hq q4;exact (Nat.lt_or_ge q (Int.toNat v0)).elim (fun z=>e1 q (by omega) q4) (fun z=>by rw [show q=0+(Int.toNat v0)*1 by omega];exact hx40 (by simpa using h)))) (by omega)
  ·exact hk1 (fun q hq=>e1 q (by omega) hq)
theorem T293v2 (u:Nat) (hu:4000000≤u) (p0:ByteArray) (p1:Nat) (p2:FF) (p3:Nat) (p4:FF) (p5:Nat) (p6:FF) (p7:Nat) (p8:FF) (p9:Nat) (p10:FF) (p11:FF) (g0:p9≤2000000) (k0:Option ρ) (hk0:Tot P (k0)) (k1:Option ρ) (hk1:Tot P (k1)):∀ (t:Nat) (v0:Int),(1≤v0)→(((p9:Nat):Int)-v0).toNat<t→Tot P (L293v2 u p0 p1 p2 p3 p4 p5 p6 p7 p8 p9 p10 p11 t v0 k0 k1)
 | 0,_,_,h=>absurd h (Nat.not_lt_zero _)
 | t+1,v0,e0,hm=>by
  unfold L293v2
  refine tD (fun h=>?_) (fun h=>?_)
  ·simp only [Int.ofNat_eq_natCast] at h
   have hw0:w64 (v0-1)=v0-1:=w64_of (by omega) (by omega)
   refine tN ?_
   refine tN ?_
   refine tO (TF292 u hu _ _ _ _ _ _) (fun x68 hx68 fx68=>?_)
   refine tI (fun h=>?_) (fun h=>?_)
   ·exact hk0
   ·have hw0:w64 (v0+1)=v0+1:=w64_of (by omega) (by omega)
    exact T293v2 u hu p0 p1 p2 p3 p4 p5 p6 p7 p8 p9 p10 p11 g0 k0 hk0 k1 hk1 t _ (by omega) (by omega)
  ·simp only [Int.ofNat_eq_natCast] at h
   exact hk1
theorem T293v5 (u:Nat) (hu:4000000≤u) (p0:Int) (p1:Int) (p2:ByteArray) (p3:Nat) (p4:FF) (p5:Nat) (p6:FF) (p7:Nat) (p8:FF) (p9:Nat) (p10:FF) (p11:Nat) (p12:FF) (p13:FF) (g0:0≤p0∧p0<4) (g1:0≤p1∧p1<4) (g2:LA p13) (k0:Option ρ) (hk0:Tot P (k0)) (k1:Option ρ) (hk1:Tot P (k1)):∀ (t:Nat) (v0:Int),(0≤v0)→(((CV.len (p13 0 (0+(Int.toNat p0)*1)):Nat):Int)-v0).toNat<t→Tot P (L293v5 u p0 p1 p2 p3 p4 p5 p6 p7 p8 p9 p10 p11 p12 p13 t v0 k0 k1)
 | 0,_,_,h=>absurd h (Nat.not_lt_zero _)
 | t+1,v0,e0,hm=>by
  have zz:=LA.at (f:=p13) (q:=0+(Int.toNat p0)*1) (by assumption) (by omega)
  unfold L293v5
  refine tN ?_
  refine tL (by omega) ?_
  refine tD (fun h=>?_) (fun h=>?_)
  ·simp only [Int.ofNat_eq_natCast] at h
   refine tN ?_
   refine tL (by omega) ?_
   refine tN ?_
   refine tL (by omega) ?_
   refine tN ?_
   refine tO (TF264 u hu _ _ _ (by exact LA.at (by assumption) (by omega))) (fun x193 hx193 fx193=>?_)
   refine tI (fun h=>?_) (fun h=>?_)
   ·exact hk0
   ·have hw0:w64 (v0+1)=v0+1:=w64_of (by omega) (by omega)
    exact T293v5 u hu p0 p1 p2 p3 p4 p5 p6 p7 p8 p9 p10 p11 p12 p13 g0 g1 g2 k0 hk0 k1 hk1 t _ (by omega) (by omega)
  ·simp only [Int.ofNat_eq_natCast] at h
   exact hk1
theorem T293v6 (u:Nat) (hu:4000000≤u) (p0:Int) (p1:ByteArray) (p2:Nat) (p3:FF) (p4:Nat) (p5:FF) (p6:Nat) (p7:FF) (p8:Nat) (p9:FF) (p10:Nat) (p11:FF) (p12:FF) (g0:0≤p0∧p0<4) (g1:LA p12) (k0:Option ρ) (hk0:Tot P (k0)) (k1:Option ρ) (hk1:Tot P (k1)):∀ (t:Nat) (v0:Int),(0≤v0)→((p0:Int)-v0).toNat<t→Tot P (L293v6 u p0 p1 p2 p3 p4 p5 p6 p7 p8 p9 p10 p11 p12 t v0 k0 k1)
 | 0,_,_,h=>absurd h (Nat.not_lt_zero _)
 | t+1,v0,e0,hm=>by
  unfold L293v6
  refine tD (fun h=>?_) (fun h=>?_)
  ·refine T293v5 u hu _ _ _ _ _ _ _ _ _ _ _ _ _ _ (by assumption) (by omega) (by assumption) _ ?_ _ ?_ u _ (by omega) (by (have:=LA.at (f:=p12) (q:=0+(Int.toNat p0)*1) (by assumption) (by omega);omega))
   ·exact hk0
   ·have hw0:w64 (v0+1)=v0+1:=w64_of (by omega) (by omega)
    exact T293v6 u hu p0 p1 p2 p3 p4 p5 p6 p7 p8 p9 p10 p11 p12 g0 g1 k0 hk0 k1 hk1 t _ (by omega) (by omega)
  ·exact hk1
theorem T293v7 (u:Nat) (hu:4000000≤u) (p0:ByteArray) (p1:Nat) (p2:FF) (p3:Nat) (p4:FF) (p5:Nat) (p6:FF) (p7:Nat) (p8:FF) (p9:Nat) (p10:FF) (p11:FF) (g0:LA p11) (k0:Option ρ) (hk0:Tot P (k0)) (k1:Option ρ) (hk1:Tot P (k1)):∀ (t:Nat) (v0:Int),(0≤v0)→((4:Int)-v0).toNat<t→Tot P (L293v7 u p0 p1 p2 p3 p4 p5 p6 p7 p8 p9 p10 p11 t v0 k0 k1)
 | 0,_,_,h=>absurd h (Nat.not_lt_zero _)
 | t+1,v0,e0,hm=>by
  unfold L293v7
  refine tD (fun h=>?_) (fun h=>?_)
  ·refine T293v6 u hu _ _ _ _ _ _ _ _ _ _ _ _ _ (by omega) (by assumption) _ ?_ _ ?_ u _ (by omega) (by omega)
   ·exact hk0
   ·have hw0:w64 (v0+1)=v0+1:=w64_of (by omega) (by omega)
    exact T293v7 u hu p0 p1 p2 p3 p4 p5 p6 p7 p8 p9 p10 p11 g0 k0 hk0 k1 hk1 t _ (by omega) (by omega)
  ·exact hk1
theorem TF293 (u:Nat) (hu:4000000≤u) (x1:ByteArray) (x2:Nat) (x3:FF) (x4:Nat) (x5:FF) (x6:Nat) (x7:FF) (x8:Nat) (x9:FF) (x10:Nat) (x11:FF) (g0:SlU kNU x2 x3) (g1:SlU kR0 x4 x5) (g2:SlU kSU x6 x7) (g3:SlU kKU x8 x9) (g4:SlU kEU x10 x11) (g5:x1.size≤1048575):Tot (fun r=>r=0→AscS x2 x3) (F293 u x1 x2 x3 x4 x5 x6 x7 x8 x9 x10 x11):=by
 unfold F293
 have z0:=g0.1
 have z1:=g1.1
 have z2:=g2.1
 have z3:=g3.1
 have z4:=g4.1
 refine tO (TF285 u hu _ (by assumption)) (fun x12 hx12 fx12=>?_)
 refine tI (fun h=>?_) (fun h=>?_)
 ·exact ⟨_,rfl,(by (intro hh;omega))⟩
 ·refine tDf (fun h=>?_) (fun h=>?_)
  ·simp only [Int.ofNat_eq_natCast] at h
   refine tDf (fun h=>?_) (fun h=>?_)
   ·simp only [Int.ofNat_eq_natCast] at h
    refine tDf (fun h=>?_) (fun h=>?_)
    ·simp only [Int.ofNat_eq_natCast] at h
     refine tDf (fun h=>?_) (fun h=>?_)
     ·simp only [Int.ofNat_eq_natCast] at h
      refine tD (fun h=>?_) (fun h=>?_)
      ·simp only [Int.ofNat_eq_natCast] at h
       exact ⟨_,rfl,(by (intro hh;omega))⟩
      ·simp only [Int.ofNat_eq_natCast] at h
       refine tO (TF290 u hu _ _ _ _ _ _ _ _ _ _ _ (by assumption) (by assumption) (by assumption) (by assumption)) (fun x13 hx13 fx13=>?_)
       obtain ⟨w1,w2,w3,w4,w5⟩:=hx13
       refine T293v1 u hu _ _ _ _ _ _ _ _ _ _ _ _ (by exact LA.mk (by omega) (by omega) (by omega) (by omega)) _ ?_ _ ?_ u _ (by omega) (by omega) (by omega)
       ·exact ⟨_,rfl,(by (intro hh;omega))⟩
       ·intro q0
        refine T293v2 u hu _ _ _ _ _ _ _ _ _ _ _ _ (by omega) _ ?_ _ ?_ u _ (by omega) (by omega)
        ·exact ⟨_,rfl,(by (intro hh;omega))⟩
        ·refine T293v7 u hu _ _ _ _ _ _ _ _ _ _ _ _ (by exact LA.mk (by omega) (by omega) (by omega) (by omega)) _ ?_ _ ?_ u _ (by omega) (by omega)
         ·exact ⟨_,rfl,(by (intro hh;omega))⟩
         ·exact ⟨_,rfl,(by exact fun _=>ascS_of (q0 0 (by omega)) w1 w5)⟩
     ·simp only [Int.ofNat_eq_natCast] at h
      exact ⟨_,rfl,(by (intro hh;omega))⟩
    ·simp only [Int.ofNat_eq_natCast] at h
     exact ⟨_,rfl,(by (intro hh;omega))⟩
   ·simp only [Int.ofNat_eq_natCast] at h
    exact ⟨_,rfl,(by (intro hh;omega))⟩
  ·simp only [Int.ofNat_eq_natCast] at h
   exact ⟨_,rfl,(by (intro hh;omega))⟩
theorem T294v1 (u:Nat) (hu:4000000≤u) (p0:ByteArray) (p1:ByteArray) (p2:Nat) (p3:FF) (p4:Nat) (p5:FF) (p6:Nat) (p7:FF) (p8:Nat) (p9:FF) (p10:Nat) (p11:FF) (g0:SlU kNU p2 p3) (g1:SlU kR0 p4 p5) (g2:SlU kSU p6 p7) (g3:SlU kKU p8 p9) (g4:SlU kEU p10 p11) (k0:ByteArray→Int→ByteArray→Option ρ) (hk0:∀ a0 a1 a2,(∃ j,j<p2∧CV.str (p3 j 0)=p0∧a1=CV.int (p3 j 1))→Tot P (k0 a0 a1 a2)) (k1:Option ρ) (hk1:Tot P (k1)):∀ (t:Nat) (v0:Int),(0≤v0)→(((p2:Nat):Int)-v0).toNat<t→Tot P (L294v1 u p0 p1 p2 p3 p4 p5 p6 p7 p8 p9 p10 p11 t v0 k0 k1)
 | 0,_,_,h=>absurd h (Nat.not_lt_zero _)
 | t+1,v0,e0,hm=>by
  have z0:=g0.1
  have z1:=g1.1
  have z2:=g2.1
  have z3:=g3.1
  have z4:=g4.1
  unfold L294v1
  refine tD (fun h=>?_) (fun h=>?_)
  ·simp only [Int.ofNat_eq_natCast] at h
   refine tN ?_
   refine tSq (fun h=>?_) (fun h=>?_)
   ·refine tN ?_
    exact hk0 _ _ _ ⟨Int.toNat v0,by omega,by assumption,rfl⟩
   ·have hw0:w64 (v0+1)=v0+1:=w64_of (by omega) (by omega)
    exact T294v1 u hu p0 p1 p2 p3 p4 p5 p6 p7 p8 p9 p10 p11 g0 g1 g2 g3 g4 k0 hk0 k1 hk1 t _ (by omega) (by omega)
  ·simp only [Int.ofNat_eq_natCast] at h
   exact hk1
theorem TF294 (u:Nat) (hu:4000000≤u) (x1:ByteArray) (x2:Nat) (x3:FF) (x4:Nat) (x5:FF) (x6:Nat) (x7:FF) (x8:Nat) (x9:FF) (x10:Nat) (x11:FF) (x12:ByteArray) (g0:SlU kNU x2 x3) (g1:SlU kR0 x4 x5) (g2:SlU kSU x6 x7) (g3:SlU kKU x8 x9) (g4:SlU kEU x10 x11):Tot (fun r=>r.2.2.2=true→∃ j,j<x2∧CV.str (x3 j 0)=x12∧r.2.1=CV.int (x3 j 1)) (F294 u x1 x2 x3 x4 x5 x6 x7 x8 x9 x10 x11 x12):=by
 unfold F294
 have z0:=g0.1
 have z1:=g1.1
 have z2:=g2.1
 have z3:=g3.1
 have z4:=g4.1
 refine T294v1 u hu _ _ _ _ _ _ _ _ _ _ _ _ (by assumption) (by assumption) (by assumption) (by assumption) (by assumption) _ ?_ _ ?_ u _ (by omega) (by omega)
 ·intro x41 x42 x43 q0
  exact ⟨_,rfl,(by exact fun _=>q0)⟩
 ·exact ⟨_,rfl,(by (intro h;cases h))⟩
theorem T300v1 (u:Nat) (hu:4000000≤u) (p0:ByteArray) (g0:p0.size≤1048575) (k0:Nat→FF→Option ρ) (hk0:∀ a0 a1,(SlU (.pr .str .nil) a0 a1)→Tot P (k0 a0 a1)):∀ (t:Nat) (v0:Nat) (v1:Int) (v2:Int) (v3:FF),(((v0:Nat):Int)≤v2)→(0≤v1)→(v1≤v2)→(0≤v2)→(v2≤((p0.size:Nat):Int)+1)→(SlU (.pr .str .nil) v0 v3)→(((((ByteArray.size p0)):Nat):Int)+1-v2).toNat<t→Tot P (L300v1 u p0 t v0 v1 v2 v3 k0)
 | 0,_,_,_,_,_,_,_,_,_,_,h=>absurd h (Nat.not_lt_zero _)
 | t+1,v0,v1,v2,v3,e0,e1,e2,e3,e4,e5,hm=>by
  unfold L300v1
  refine tD (fun h=>?_) (fun h=>?_)
  ·simp only [Int.ofNat_eq_natCast] at h
   refine tEqf (fun h=>?_) (fun h=>?_)
   ·simp only [Int.ofNat_eq_natCast] at h
    refine tN ?_
    refine tI (fun h=>?_) (fun h=>?_)
    ·refine tE (by omega) (by omega) ?_
     refine tE (by omega) (by omega) ?_
     refine tB (by omega) ?_
     have hw0:w64 (v2+1)=v2+1:=w64_of (by omega) (by omega)
     exact T300v1 u hu p0 g0 k0 hk0 t _ _ _ _ (by omega) (by omega) (by omega) (by omega) (by omega) (by exact SlU.push (by assumption) (by omega) (Nat.le_trans (ext_size ..) (by omega))) (by omega)
    ·have hw0:w64 (v2+1)=v2+1:=w64_of (by omega) (by omega)
     exact T300v1 u hu p0 g0 k0 hk0 t _ _ _ _ (by omega) (by assumption) (by omega) (by omega) (by omega) (by assumption) (by omega)
   ·simp only [Int.ofNat_eq_natCast] at h
    refine tE (by omega) (by omega) ?_
    refine tE (by omega) (by omega) ?_
    refine tB (by omega) ?_
    have hw0:w64 (v2+1)=v2+1:=w64_of (by omega) (by omega)
    exact T300v1 u hu p0 g0 k0 hk0 t _ _ _ _ (by omega) (by omega) (by omega) (by omega) (by omega) (by exact SlU.push (by assumption) (by omega) (Nat.le_trans (ext_size ..) (by omega))) (by omega)
  ·simp only [Int.ofNat_eq_natCast] at h
   exact hk0 _ _ (by assumption)
theorem TF300 (u:Nat) (hu:4000000≤u) (x1:ByteArray) (g0:x1.size≤1048575):Tot (fun r=>SlU (.pr .str .nil) r.1 r.2) (F300 u x1):=by
 unfold F300
 refine T300v1 u hu _ (by assumption) _ ?_ u _ _ _ _ (by omega) (by omega) (by omega) (by omega) (by omega) (by exact SlU.nil) (by omega)
 ·intro x10 x11 q0
  exact ⟨_,rfl,q0⟩
theorem T301v1 (u:Nat) (hu:4000000≤u) (p0:Nat) (p1:FF) (g0:SlU (.pr .str .nil) p0 p1) (k0:Option ρ) (hk0:Tot P (k0)) (k1:Option ρ) (hk1:Tot P (k1)):∀ (t:Nat) (v0:Int),(0≤v0)→(((p0:Nat):Int)-v0).toNat<t→Tot P (L301v1 u p0 p1 t v0 k0 k1)
 | 0,_,_,h=>absurd h (Nat.not_lt_zero _)
 | t+1,v0,e0,hm=>by
  have z0:=g0.1
  unfold L301v1
  refine tD (fun h=>?_) (fun h=>?_)
  ·simp only [Int.ofNat_eq_natCast] at h
   refine tN ?_
   refine tO (TF285 u hu _ (by exact SlU.str (by assumption) (by omega) (by decide) (by rfl))) (fun x9 hx9 fx9=>?_)
   refine tI (fun h=>?_) (fun h=>?_)
   ·exact hk0
   ·have hw0:w64 (v0+1)=v0+1:=w64_of (by omega) (by omega)
    exact T301v1 u hu p0 p1 g0 k0 hk0 k1 hk1 t _ (by omega) (by omega)
  ·simp only [Int.ofNat_eq_natCast] at h
   exact hk1
theorem TF301 (u:Nat) (hu:4000000≤u) (x1:ByteArray) (g0:x1.size≤1048575):Tot (fun _=>True) (F301 u x1):=by
 unfold F301
 refine tO (TF300 u hu _ (by assumption)) (fun x2 hx2 fx2=>?_)
 refine tDf (fun h=>?_) (fun h=>?_)
 ·simp only [Int.ofNat_eq_natCast] at h
  refine tD (fun h=>?_) (fun h=>?_)
  ·simp only [Int.ofNat_eq_natCast] at h
   exact ⟨_,rfl,trivial⟩
  ·simp only [Int.ofNat_eq_natCast] at h
   refine T301v1 u hu _ _ (by assumption) _ ?_ _ ?_ u _ (by omega) (by omega)
   ·exact ⟨_,rfl,trivial⟩
   ·exact ⟨_,rfl,trivial⟩
 ·simp only [Int.ofNat_eq_natCast] at h
  exact ⟨_,rfl,trivial⟩
theorem T302v1 (u:Nat) (hu:4000000≤u) (p0:ByteArray) (p1:Nat) (p2:FF) (p3:Nat) (p4:FF) (p5:Nat) (p6:FF) (p7:Nat) (p8:FF) (p9:Nat) (p10:FF) (g0:SlU kNU p1 p2) (g1:SlU kR0 p3 p4) (g2:SlU kSU p5 p6) (g3:SlU kKU p7 p8) (g4:SlU kEU p9 p10) (k0:Nat→FF→ByteArray→Int→ByteArray→Option ρ) (hk0:∀ a0 a1 a2 a3 a4,a0≤2000000→Tot P (k0 a0 a1 a2 a3 a4)) (k1:Nat→FF→ByteArray→Int→ByteArray→FF→Option ρ) (hk1:∀ a0 a1 a2 a3 a4 a5,(0<a0)→(a0≤2000000)→Tot P (k1 a0 a1 a2 a3 a4 a5)) (k2:Nat→FF→Option ρ) (hk2:∀ a0 a1,a0≤2000000→Tot P (k2 a0 a1)):∀ (t:Nat) (v0:ByteArray) (v1:Nat) (v2:Int) (v3:FF),(0≤v2)→(((v1:Nat):Int)≤v2)→(v2≤65)→((64:Int)+1-v2).toNat<t→Tot P (L302v1 u p0 p1 p2 p3 p4 p5 p6 p7 p8 p9 p10 t v0 v1 v2 v3 k0 k1 k2)
 | 0,_,_,_,_,_,_,_,h=>absurd h (Nat.not_lt_zero _)
 | t+1,v0,v1,v2,v3,e0,e1,e2,hm=>by
  have z0:=g0.1
  have z1:=g1.1
  have z2:=g2.1
  have z3:=g3.1
  have z4:=g4.1
  unfold L302v1
  refine tD (fun h=>?_) (fun h=>?_)
  ·refine tO (TF294 u hu _ _ _ _ _ _ _ _ _ _ _ _ (by assumption) (by assumption) (by assumption) (by assumption) (by assumption)) (fun x41 hx41 fx41=>?_)
   refine tI (fun h=>?_) (fun h=>?_)
   ·exact hk0 _ _ _ _ _ (by omega)
   ·refine tB (by omega) ?_
    refine tEq (fun h=>?_) (fun h=>?_)
    ·exact hk1 _ _ _ _ _ _ (by omega) (by omega)
    ·have hw0:w64 (v2+1)=v2+1:=w64_of (by omega) (by omega)
     exact T302v1 u hu p0 p1 p2 p3 p4 p5 p6 p7 p8 p9 p10 g0 g1 g2 g3 g4 k0 hk0 k1 hk1 k2 hk2 t _ _ _ _ (by omega) (by omega) (by omega) (by omega)
  ·exact hk2 _ _ (by omega)
theorem TF302 (u:Nat) (hu:4000000≤u) (x1:ByteArray) (x2:Nat) (x3:FF) (x4:Nat) (x5:FF) (x6:Nat) (x7:FF) (x8:Nat) (x9:FF) (x10:Nat) (x11:FF) (x12:ByteArray) (g0:SlU kNU x2 x3) (g1:SlU kR0 x4 x5) (g2:SlU kSU x6 x7) (g3:SlU kKU x8 x9) (g4:SlU kEU x10 x11):Tot (fun r=>r.1≤2000000∧(r.2.2=true→0<r.1)) (F302 u x1 x2 x3 x4 x5 x6 x7 x8 x9 x10 x11 x12):=by
 unfold F302 FT302
 refine tO (R:=fun t=>t.2.1≤2000000∧(t.1=false→0<t.2.1)) ?_ fun r hr _=>⟨_,rfl,by cases hb:r.1 with | true=>exact ⟨Nat.zero_le _,fun h=>by cases h⟩ | false=>exact ⟨hr.1,fun _=>hr.2 hb⟩⟩
 have z0:=g0.1
 have z1:=g1.1
 have z2:=g2.1
 have z3:=g3.1
 have z4:=g4.1
 refine T302v1 u hu _ _ _ _ _ _ _ _ _ _ _ (by assumption) (by assumption) (by assumption) (by assumption) (by assumption) _ ?_ _ ?_ _ ?_ u _ _ _ _ (by omega) (by omega) (by omega) (by omega)
 ·intro x55 x56 x57 x58 x59 q0
  exact ⟨_,rfl,(by dsimp only;constructor<;>first | omega | (intro h;first | omega | cases h))⟩
 ·intro x60 x61 x62 x63 x64 x65 q0 q1
  exact ⟨_,rfl,(by dsimp only;constructor<;>first | omega | (intro h;first | omega | cases h))⟩
 ·intro x66 x67 q0
  exact ⟨_,rfl,(by dsimp only;constructor<;>first | omega | (intro h;first | omega | cases h))⟩
theorem T303v1 (u:Nat) (hu:4000000≤u) (p0:ByteArray) (p1:ByteArray) (p2:Nat) (p3:FF) (p4:Nat) (p5:FF) (p6:Nat) (p7:FF) (p8:Nat) (p9:FF) (p10:Nat) (p11:FF) (g0:SlU kNU p2 p3) (g1:SlU kR0 p4 p5) (g2:SlU kSU p6 p7) (g3:SlU kKU p8 p9) (g4:SlU kEU p10 p11) (k0:ByteArray→Int→Int→ByteArray→ByteArray→Int→Nat→FF→Nat→FF→ByteArray→Int→Int→Int→Int→Int→Int→Int→Int→Int→Option ρ) (hk0:∀ a0 a1 a2 a3 a4 a5 a6 a7 a8 a9 a10 a11 a12 a13 a14 a15 a16 a17 a18 a19,a6≤2000000→a8≤2000000→Tot P (k0 a0 a1 a2 a3 a4 a5 a6 a7 a8 a9 a10 a11 a12 a13 a14 a15 a16 a17 a18 a19)) (k1:Option ρ) (hk1:Tot P (k1)):∀ (t:Nat) (v0:Int),(0≤v0)→(((p4:Nat):Int)-v0).toNat<t→Tot P (L303v1 u p0 p1 p2 p3 p4 p5 p6 p7 p8 p9 p10 p11 t v0 k0 k1)
 | 0,_,_,h=>absurd h (Nat.not_lt_zero _)
 | t+1,v0,e0,hm=>by
  have z0:=g0.1
  have z1:=g1.1
  have z2:=g2.1
  have z3:=g3.1
  have z4:=g4.1
  unfold L303v1
  refine tD (fun h=>?_) (fun h=>?_)
  ·simp only [Int.ofNat_eq_natCast] at h
   refine tN ?_
   refine tSq (fun h=>?_) (fun h=>?_)
   ·refine tN ?_
    exact hk0 _ _ _ _ _ _ _ _ _ _ _ _ _ _ _ _ _ _ _ _ (by exact Nat.le_trans (SlU.sl (by assumption) (by omega) (by decide) (by rfl)).1 (by omega)) (by exact Nat.le_trans (SlU.sl (by assumption) (by omega) (by decide) (by rfl)).1 (by omega))
   ·have hw0:w64 (v0+1)=v0+1:=w64_of (by omega) (by omega)
    exact T303v1 u hu p0 p1 p2 p3 p4 p5 p6 p7 p8 p9 p10 p11 g0 g1 g2 g3 g4 k0 hk0 k1 hk1 t _ (by omega) (by omega)
  ·simp only [Int.ofNat_eq_natCast] at h
   exact hk1
theorem TF303 (u:Nat) (hu:4000000≤u) (x1:ByteArray) (x2:Nat) (x3:FF) (x4:Nat) (x5:FF) (x6:Nat) (x7:FF) (x8:Nat) (x9:FF) (x10:Nat) (x11:FF) (x12:ByteArray) (g0:SlU kNU x2 x3) (g1:SlU kR0 x4 x5) (g2:SlU kSU x6 x7) (g3:SlU kKU x8 x9) (g4:SlU kEU x10 x11):Tot (fun _=>True) (F303 u x1 x2 x3 x4 x5 x6 x7 x8 x9 x10 x11 x12):=by
 unfold F303 FT303
 refine tO (R:=fun _=>True) ?_ fun r hr _=>⟨_,rfl,trivial⟩
 have z0:=g0.1
 have z1:=g1.1
 have z2:=g2.1
 have z3:=g3.1
 have z4:=g4.1
 refine T303v1 u hu _ _ _ _ _ _ _ _ _ _ _ _ (by assumption) (by assumption) (by assumption) (by assumption) (by assumption) _ ?_ _ ?_ u _ (by omega) (by omega)
 ·intro x58 x59 x60 x61 x62 x63 x64 x65 x66 x67 x68 x69 x70 x71 x72 x73 x74 x75 x76 x77 q0 q1
  exact ⟨_,rfl,trivial⟩
 ·exact ⟨_,rfl,trivial⟩
theorem T304v1 (u:Nat) (hu:4000000≤u) (p0:Nat) (p1:FF) (p2:ByteArray) (p3:Nat) (p4:FF) (p5:Nat) (p6:FF) (p7:Nat) (p8:FF) (p9:Nat) (p10:FF) (p11:Nat) (p12:FF) (p13:ByteArray) (p14:Int) (p15:ByteArray) (p16:ByteArray) (p17:Int) (p18:Int) (p19:ByteArray) (p20:ByteArray) (p21:Int) (p22:Nat) (p23:FF) (p24:Nat) (p25:FF) (p26:ByteArray) (p27:Int) (p28:Int) (p29:Int) (p30:Int) (p31:Int) (p32:Int) (p33:Int) (p34:Int) (p35:Int) (g0:p0≤2000000) (k0:Nat→FF→Option ρ) (hk0:∀ a0 a1,a0≤2000000→Tot P (k0 a0 a1)):∀ (t:Nat) (v0:Nat) (v1:Int) (v2:FF),(v1<((p0:Nat):Int))→(-1≤v1)→(((v0:Nat):Int)+v1<((p0:Nat):Int))→(v1+1).toNat<t→Tot P (L304v1 u p0 p1 p2 p3 p4 p5 p6 p7 p8 p9 p10 p11 p12 p13 p14 p15 p16 p17 p18 p19 p20 p21 p22 p23 p24 p25 p26 p27 p28 p29 p30 p31 p32 p33 p34 p35 t v0 v1 v2 k0)
 | 0,_,_,_,_,_,_,h=>absurd h (Nat.not_lt_zero _)
 | t+1,v0,v1,v2,e0,e1,e2,hm=>by
  unfold L304v1
  refine tD (fun h=>?_) (fun h=>?_)
  ·refine tN ?_
   refine tB (by omega) ?_
   have hw0:w64 (v1-1)=v1-1:=w64_of (by omega) (by omega)
   exact T304v1 u hu p0 p1 p2 p3 p4 p5 p6 p7 p8 p9 p10 p11 p12 p13 p14 p15 p16 p17 p18 p19 p20 p21 p22 p23 p24 p25 p26 p27 p28 p29 p30 p31 p32 p33 p34 p35 g0 k0 hk0 t _ _ _ (by omega) (by omega) (by omega) (by omega)
  ·exact hk0 _ _ (by omega)
theorem T304v2 (u:Nat) (hu:4000000≤u) (p0:Nat) (p1:FF) (p2:ByteArray) (p3:Nat) (p4:FF) (p5:Nat) (p6:FF) (p7:Nat) (p8:FF) (p9:Nat) (p10:FF) (p11:Nat) (p12:FF) (p13:ByteArray) (p14:Int) (p15:ByteArray) (g0:p0≤2000000) (k0:Nat→FF→Option ρ) (hk0:∀ a0 a1,a0≤2000000→Tot P (k0 a0 a1)):∀ (t:Nat) (v0:Nat) (v1:Int) (v2:FF),(v1<((p0:Nat):Int))→(-1≤v1)→(((v0:Nat):Int)+v1<((p0:Nat):Int))→(v1+1).toNat<t→Tot P (L304v2 u p0 p1 p2 p3 p4 p5 p6 p7 p8 p9 p10 p11 p12 p13 p14 p15 t v0 v1 v2 k0)
 | 0,_,_,_,_,_,_,h=>absurd h (Nat.not_lt_zero _)
 | t+1,v0,v1,v2,e0,e1,e2,hm=>by
  unfold L304v2
  refine tD (fun h=>?_) (fun h=>?_)
  ·refine tN ?_
   refine tB (by omega) ?_
   have hw0:w64 (v1-1)=v1-1:=w64_of (by omega) (by omega)
   exact T304v2 u hu p0 p1 p2 p3 p4 p5 p6 p7 p8 p9 p10 p11 p12 p13 p14 p15 g0 k0 hk0 t _ _ _ (by omega) (by omega) (by omega) (by omega)
  ·exact hk0 _ _ (by omega)
theorem TF304 (u:Nat) (hu:4000000≤u) (x1:ByteArray) (x2:Nat) (x3:FF) (x4:Nat) (x5:FF) (x6:Nat) (x7:FF) (x8:Nat) (x9:FF) (x10:Nat) (x11:FF) (x12:ByteArray) (g0:SlU kNU x2 x3) (g1:SlU kR0 x4 x5) (g2:SlU kSU x6 x7) (g3:SlU kKU x8 x9) (g4:SlU kEU x10 x11):Tot (fun _=>True) (F304 u x1 x2 x3 x4 x5 x6 x7 x8 x9 x10 x11 x12):=by
 unfold F304 FT304
 refine tO (R:=fun _=>True) ?_ fun r hr _=>⟨_,rfl,trivial⟩
 have z0:=g0.1
 have z1:=g1.1
 have z2:=g2.1
 have z3:=g3.1
 have z4:=g4.1
 refine tO (TF294 u hu _ _ _ _ _ _ _ _ _ _ _ _ (by assumption) (by assumption) (by assumption) (by assumption) (by assumption)) (fun x13 hx13 fx13=>?_)
 refine tI (fun h=>?_) (fun h=>?_)
 ·refine tO (TF303 u hu _ _ _ _ _ _ _ _ _ _ _ _ (by assumption) (by assumption) (by assumption) (by assumption) (by assumption)) (fun x14 hx14 fx14=>?_)
  refine tI (fun h=>?_) (fun h=>?_)
  ·exact ⟨_,rfl,trivial⟩
  ·refine tO (TF302 u hu _ _ _ _ _ _ _ _ _ _ _ _ (by assumption) (by assumption) (by assumption) (by assumption) (by assumption)) (fun x15 hx15 fx15=>?_)
   obtain ⟨mx15,nx15⟩:=hx15
   have hw0:w64 (((x15.1:Nat):Int)-1)=((x15.1:Nat):Int)-1:=w64_of (by omega) (by omega)
   refine T304v1 u hu _ _ _ _ _ _ _ _ _ _ _ _ _ _ _ _ _ _ _ _ _ _ _ _ _ _ _ _ _ _ _ _ _ _ _ _ (by assumption) _ ?_ u _ _ _ (by (simp only [Int.ofNat_eq_natCast];omega)) (by (simp only [Int.ofNat_eq_natCast];omega)) (by (simp only [Int.ofNat_eq_natCast];omega)) (by (simp only [Int.ofNat_eq_natCast];omega))
   ·intro x94 x95 q0
    exact ⟨_,rfl,trivial⟩
 ·refine tO (TF302 u hu _ _ _ _ _ _ _ _ _ _ _ _ (by assumption) (by assumption) (by assumption) (by assumption) (by assumption)) (fun x96 hx96 fx96=>?_)
  obtain ⟨mx96,nx96⟩:=hx96
  have hw0:w64 (((x96.1:Nat):Int)-1)=((x96.1:Nat):Int)-1:=w64_of (by omega) (by omega)
  refine T304v2 u hu _ _ _ _ _ _ _ _ _ _ _ _ _ _ _ _ (by assumption) _ ?_ u _ _ _ (by (simp only [Int.ofNat_eq_natCast];omega)) (by (simp only [Int.ofNat_eq_natCast];omega)) (by (simp only [Int.ofNat_eq_natCast];omega)) (by (simp only [Int.ofNat_eq_natCast];omega))
  ·intro x135 x136 q0
   exact ⟨_,rfl,trivial⟩
theorem T305v1 (u:Nat) (hu:4000000≤u) (p0:ByteArray) (p1:Nat) (p2:FF) (p3:Nat) (p4:FF) (p5:Nat) (p6:FF) (p7:Nat) (p8:FF) (p9:Nat) (p10:FF) (g0:SlU kNU p1 p2) (g1:SlU kR0 p3 p4) (g2:SlU kSU p5 p6) (g3:SlU kKU p7 p8) (g4:SlU kEU p9 p10) (k0:Int→ByteArray→Int→ByteArray→ByteArray→Int→ByteArray→Option ρ) (hk0:∀ a0 a1 a2 a3 a4 a5 a6,a0≠0→Tot P (k0 a0 a1 a2 a3 a4 a5 a6)) (k1:Option ρ) (hk1:(∀ j:Nat,j<p1→F301 u (CV.str (p2 j 0))=some true)→Tot P (k1)):∀ (t:Nat) (v0:Int),(0≤v0)→(∀ j:Nat,(j:Int)<v0→F301 u (CV.str (p2 j 0))=some true)→(((p1:Nat):Int)-v0).toNat<t→Tot P (L305v1 u p0 p1 p2 p3 p4 p5 p6 p7 p8 p9 p10 t v0 k0 k1)
 | 0,_,_,_,h=>absurd h (Nat.not_lt_zero _)
 | t+1,v0,e0,e1,hm=>by
  have z0:=g0.1
  have z1:=g1.1
  have z2:=g2.1
  have z3:=g3.1
  have z4:=g4.1
  unfold L305v1
  refine tD (fun h=>?_) (fun h=>?_)
  ·simp only [Int.ofNat_eq_natCast] at h
   refine tN ?_
   refine tO (TF294 u hu _ _ _ _ _ _ _ _ _ _ _ _ (by assumption) (by assumption) (by assumption) (by assumption) (by assumption)) (fun x37 hx37 fx37=>?_)
   refine tO (TF301 u hu _ (by exact SlU.str (by assumption) (by omega) (by decide) (by rfl))) (fun x38 hx38 fx38=>?_)
   refine tI (fun h=>?_) (fun h=>?_)
   ·exact hk0 _ _ _ _ _ _ _ (by decide)
   ·have e2:∀ j:Nat,(j:Int)<v0+1→F301 u (CV.str (p2 j 0))=some true:=fun j hj=>(Nat.lt_or_ge j (Int.toNat v0)).elim (fun q=>e1 j (by omega)) (fun q=>by rw [show j=Int.toNat v0 by omega,fx38];simpa using h)
    refine tNet (fun h=>?_) (fun h=>?_)
    ·refine tNe (fun h=>?_) (fun h=>?_)
     ·exact hk0 _ _ _ _ _ _ _ (by decide)
     ·refine tEqt (fun h=>?_) (fun h=>?_)
      ·refine tI (fun h=>?_) (fun h=>?_)
       ·exact hk0 _ _ _ _ _ _ _ (by decide)
       ·refine tEqt (fun h=>?_) (fun h=>?_)
        ·refine tI (fun h=>?_) (fun h=>?_)
         ·exact hk0 _ _ _ _ _ _ _ (by decide)
         ·have hw0:w64 (v0+1)=v0+1:=w64_of (by omega) (by omega)
          exact T305v1 u hu p0 p1 p2 p3 p4 p5 p6 p7 p8 p9 p10 g0 g1 g2 g3 g4 k0 hk0 k1 hk1 t _ (by omega) (by rw [hw0];exact e2) (by omega)
        ·have hw0:w64 (v0+1)=v0+1:=w64_of (by omega) (by omega)
         exact T305v1 u hu p0 p1 p2 p3 p4 p5 p6 p7 p8 p9 p10 g0 g1 g2 g3 g4 k0 hk0 k1 hk1 t _ (by omega) (by rw [hw0];exact e2) (by omega)
      ·refine tEqt (fun h=>?_) (fun h=>?_)
       ·refine tI (fun h=>?_) (fun h=>?_)
        ·exact hk0 _ _ _ _ _ _ _ (by decide)
        ·have hw0:w64 (v0+1)=v0+1:=w64_of (by omega) (by omega)
         exact T305v1 u hu p0 p1 p2 p3 p4 p5 p6 p7 p8 p9 p10 g0 g1 g2 g3 g4 k0 hk0 k1 hk1 t _ (by omega) (by rw [hw0];exact e2) (by omega)
       ·have hw0:w64 (v0+1)=v0+1:=w64_of (by omega) (by omega)
        exact T305v1 u hu p0 p1 p2 p3 p4 p5 p6 p7 p8 p9 p10 g0 g1 g2 g3 g4 k0 hk0 k1 hk1 t _ (by omega) (by rw [hw0];exact e2) (by omega)
    ·refine tEqt (fun h=>?_) (fun h=>?_)
     ·refine tI (fun h=>?_) (fun h=>?_)
      ·exact hk0 _ _ _ _ _ _ _ (by decide)
      ·refine tEqt (fun h=>?_) (fun h=>?_)
       ·refine tI (fun h=>?_) (fun h=>?_)
        ·exact hk0 _ _ _ _ _ _ _ (by decide)
        ·have hw0:w64 (v0+1)=v0+1:=w64_of (by omega) (by omega)
         exact T305v1 u hu p0 p1 p2 p3 p4 p5 p6 p7 p8 p9 p10 g0 g1 g2 g3 g4 k0 hk0 k1 hk1 t _ (by omega) (by rw [hw0];exact e2) (by omega)
       ·have hw0:w64 (v0+1)=v0+1:=w64_of (by omega) (by omega)
        exact T305v1 u hu p0 p1 p2 p3 p4 p5 p6 p7 p8 p9 p10 g0 g1 g2 g3 g4 k0 hk0 k1 hk1 t _ (by omega) (by rw [hw0];exact e2) (by omega)
     ·refine tEqt (fun h=>?_) (fun h=>?_)
      ·refine tI (fun h=>?_) (fun h=>?_)
       ·exact hk0 _ _ _ _ _ _ _ (by decide)
       ·have hw0:w64 (v0+1)=v0+1:=w64_of (by omega) (by omega)
        exact T305v1 u hu p0 p1 p2 p3 p4 p5 p6 p7 p8 p9 p10 g0 g1 g2 g3 g4 k0 hk0 k1 hk1 t _ (by omega) (by rw [hw0];exact e2) (by omega)
      ·have hw0:w64 (v0+1)=v0+1:=w64_of (by omega) (by omega)
       exact T305v1 u hu p0 p1 p2 p3 p4 p5 p6 p7 p8 p9 p10 g0 g1 g2 g3 g4 k0 hk0 k1 hk1 t _ (by omega) (by rw [hw0];exact e2) (by omega)
  ·simp only [Int.ofNat_eq_natCast] at h
   exact hk1 fun j hj=>e1 j (by omega)
theorem T305v2 (u:Nat) (hu:4000000≤u) (p0:ByteArray) (p1:Nat) (p2:FF) (p3:Nat) (p4:FF) (p5:Nat) (p6:FF) (p7:Nat) (p8:FF) (p9:Nat) (p10:FF) (g0:SlU kNU p1 p2) (g1:SlU kR0 p3 p4) (g2:SlU kSU p5 p6) (g3:SlU kKU p7 p8) (g4:SlU kEU p9 p10) (k0:Option ρ) (hk0:Tot P (k0)) (k1:Option ρ) (hk1:Tot P (k1)):∀ (t:Nat) (v0:Int),(0≤v0)→(((p1:Nat):Int)-v0).toNat<t→Tot P (L305v2 u p0 p1 p2 p3 p4 p5 p6 p7 p8 p9 p10 t v0 k0 k1)
 | 0,_,_,h=>absurd h (Nat.not_lt_zero _)
 | t+1,v0,e0,hm=>by
  have z0:=g0.1
  have z1:=g1.1
  have z2:=g2.1
  have z3:=g3.1
  have z4:=g4.1
  unfold L305v2
  refine tD (fun h=>?_) (fun h=>?_)
  ·simp only [Int.ofNat_eq_natCast] at h
   refine tN ?_
   refine tO (TF302 u hu _ _ _ _ _ _ _ _ _ _ _ _ (by assumption) (by assumption) (by assumption) (by assumption) (by assumption)) (fun x78 hx78 fx78=>?_)
   obtain ⟨mx78,nx78⟩:=hx78
   refine tI (fun h=>?_) (fun h=>?_)
   ·exact hk0
   ·have hw0:w64 (v0+1)=v0+1:=w64_of (by omega) (by omega)
    exact T305v2 u hu p0 p1 p2 p3 p4 p5 p6 p7 p8 p9 p10 g0 g1 g2 g3 g4 k0 hk0 k1 hk1 t _ (by omega) (by omega)
  ·simp only [Int.ofNat_eq_natCast] at h
   exact hk1
theorem T305v3 (u:Nat) (hu:4000000≤u) (p0:ByteArray) (p1:Nat) (p2:FF) (p3:Nat) (p4:FF) (p5:Nat) (p6:FF) (p7:Nat) (p8:FF) (p9:Nat) (p10:FF) (g0:SlU kNU p1 p2) (g1:SlU kR0 p3 p4) (g2:SlU kSU p5 p6) (g3:SlU kKU p7 p8) (g4:SlU kEU p9 p10) (k0:Option ρ) (hk0:Tot P (k0)) (k1:Option ρ) (hk1:Tot P (k1)):∀ (t:Nat) (v0:Int),(0≤v0)→(((p1:Nat):Int)-v0).toNat<t→Tot P (L305v3 u p0 p1 p2 p3 p4 p5 p6 p7 p8 p9 p10 t v0 k0 k1)
 | 0,_,_,h=>absurd h (Nat.not_lt_zero _)
 | t+1,v0,e0,hm=>by
  have z0:=g0.1
  have z1:=g1.1
  have z2:=g2.1
  have z3:=g3.1
  have z4:=g4.1
  unfold L305v3
  refine tD (fun h=>?_) (fun h=>?_)
  ·simp only [Int.ofNat_eq_natCast] at h
   refine tN ?_
   refine tO (TF304 u hu _ _ _ _ _ _ _ _ _ _ _ _ (by assumption) (by assumption) (by assumption) (by assumption) (by assumption)) (fun x104 hx104 fx104=>?_)
   refine tD (fun h=>?_) (fun h=>?_)
   ·simp only [Int.ofNat_eq_natCast] at h
    exact hk0
   ·simp only [Int.ofNat_eq_natCast] at h
    have hw0:w64 (v0+1)=v0+1:=w64_of (by omega) (by omega)
    exact T305v3 u hu p0 p1 p2 p3 p4 p5 p6 p7 p8 p9 p10 g0 g1 g2 g3 g4 k0 hk0 k1 hk1 t _ (by omega) (by omega)
  ·simp only [Int.ofNat_eq_natCast] at h
   exact hk1
theorem TF305 (u:Nat) (hu:4000000≤u) (x1:ByteArray) (x2:Nat) (x3:FF) (x4:Nat) (x5:FF) (x6:Nat) (x7:FF) (x8:Nat) (x9:FF) (x10:Nat) (x11:FF) (g0:SlU kNU x2 x3) (g1:SlU kR0 x4 x5) (g2:SlU kSU x6 x7) (g3:SlU kKU x8 x9) (g4:SlU kEU x10 x11):Tot (fun r=>r=0→∀ j,j<x2→F301 u (CV.str (x3 j 0))=some true) (F305 u x1 x2 x3 x4 x5 x6 x7 x8 x9 x10 x11):=by
 unfold F305
 have z0:=g0.1
 have z1:=g1.1
 have z2:=g2.1
 have z3:=g3.1
 have z4:=g4.1
 refine T305v1 u hu _ _ _ _ _ _ _ _ _ _ _ (by assumption) (by assumption) (by assumption) (by assumption) (by assumption) _ ?_ _ ?_ u _ (by omega) (fun j hj=>absurd hj (by omega)) (by omega)
 ·intro x46 x47 x48 x49 x50 x51 x52 q0
  exact ⟨_,rfl,fun h=>absurd h q0⟩
 ·intro q1
  refine T305v2 u hu _ _ _ _ _ _ _ _ _ _ _ (by assumption) (by assumption) (by assumption) (by assumption) (by assumption) _ ?_ _ ?_ u _ (by omega) (by omega)
  ·exact ⟨_,rfl,fun h=>absurd h (by decide)⟩
  ·refine T305v3 u hu _ _ _ _ _ _ _ _ _ _ _ (by assumption) (by assumption) (by assumption) (by assumption) (by assumption) _ ?_ _ ?_ u _ (by omega) (by omega)
   ·exact ⟨_,rfl,fun h=>absurd h (by decide)⟩
   ·exact ⟨_,rfl,fun _=>q1⟩
theorem TF306 (u:Nat) (hu:4000000≤u) (x1:Nat) (x2:FF) (x3:Nat) (x4:FF):Tot (fun _=>True) (F306 u x1 x2 x3 x4):=by
 unfold F306
 refine tEqt (fun h=>?_) (fun h=>?_)
 ·simp only [Int.ofNat_eq_natCast] at h
  exact ⟨_,rfl,trivial⟩
 ·simp only [Int.ofNat_eq_natCast] at h
  exact ⟨_,rfl,trivial⟩
theorem TF307 (u:Nat) (hu:4000000≤u) (x1:Nat→CV):Tot (fun _=>True) (F307 u x1):=by
 unfold F307
 refine tNef (fun h=>?_) (fun h=>?_)
 ·refine tO (TF306 u hu _ _ _ _) (fun x2 hx2 fx2=>?_)
  refine tI (fun h=>?_) (fun h=>?_)
  ·refine tNef (fun h=>?_) (fun h=>?_)
   ·refine tEq (fun h=>?_) (fun h=>?_)
    ·refine tNef (fun h=>?_) (fun h=>?_)
     ·exact ⟨_,rfl,trivial⟩
     ·exact ⟨_,rfl,trivial⟩
    ·refine tEq (fun h=>?_) (fun h=>?_)
     ·refine tI (fun h=>?_) (fun h=>?_)
      ·refine tNef (fun h=>?_) (fun h=>?_)
       ·exact ⟨_,rfl,trivial⟩
       ·exact ⟨_,rfl,trivial⟩
      ·exact ⟨_,rfl,trivial⟩
     ·refine tI (fun h=>?_) (fun h=>?_)
      ·exact ⟨_,rfl,trivial⟩
      ·exact ⟨_,rfl,trivial⟩
   ·refine tEq (fun h=>?_) (fun h=>?_)
    ·refine tNef (fun h=>?_) (fun h=>?_)
     ·exact ⟨_,rfl,trivial⟩
     ·exact ⟨_,rfl,trivial⟩
    ·refine tEq (fun h=>?_) (fun h=>?_)
     ·refine tI (fun h=>?_) (fun h=>?_)
      ·refine tNef (fun h=>?_) (fun h=>?_)
       ·exact ⟨_,rfl,trivial⟩
       ·exact ⟨_,rfl,trivial⟩
      ·exact ⟨_,rfl,trivial⟩
     ·refine tI (fun h=>?_) (fun h=>?_)
      ·exact ⟨_,rfl,trivial⟩
      ·exact ⟨_,rfl,trivial⟩
  ·refine tNef (fun h=>?_) (fun h=>?_)
   ·refine tEq (fun h=>?_) (fun h=>?_)
    ·exact ⟨_,rfl,trivial⟩
    ·refine tEq (fun h=>?_) (fun h=>?_)
     ·refine tI (fun h=>?_) (fun h=>?_)
      ·exact ⟨_,rfl,trivial⟩
      ·exact ⟨_,rfl,trivial⟩
     ·refine tI (fun h=>?_) (fun h=>?_)
      ·exact ⟨_,rfl,trivial⟩
      ·exact ⟨_,rfl,trivial⟩
   ·refine tEq (fun h=>?_) (fun h=>?_)
    ·exact ⟨_,rfl,trivial⟩
    ·refine tEq (fun h=>?_) (fun h=>?_)
     ·refine tI (fun h=>?_) (fun h=>?_)
      ·exact ⟨_,rfl,trivial⟩
      ·exact ⟨_,rfl,trivial⟩
     ·refine tI (fun h=>?_) (fun h=>?_)
      ·exact ⟨_,rfl,trivial⟩
      ·exact ⟨_,rfl,trivial⟩
 ·refine tI (fun h=>?_) (fun h=>?_)
  ·refine tNef (fun h=>?_) (fun h=>?_)
   ·refine tEq (fun h=>?_) (fun h=>?_)
    ·refine tNef (fun h=>?_) (fun h=>?_)
     ·exact ⟨_,rfl,trivial⟩
     ·exact ⟨_,rfl,trivial⟩
    ·refine tEq (fun h=>?_) (fun h=>?_)
     ·exact ⟨_,rfl,trivial⟩
     ·exact ⟨_,rfl,trivial⟩
   ·refine tEq (fun h=>?_) (fun h=>?_)
    ·refine tNef (fun h=>?_) (fun h=>?_)
     ·exact ⟨_,rfl,trivial⟩
     ·exact ⟨_,rfl,trivial⟩
    ·refine tEq (fun h=>?_) (fun h=>?_)
     ·exact ⟨_,rfl,trivial⟩
     ·exact ⟨_,rfl,trivial⟩
  ·refine tNef (fun h=>?_) (fun h=>?_)
   ·refine tEq (fun h=>?_) (fun h=>?_)
    ·exact ⟨_,rfl,trivial⟩
    ·refine tEq (fun h=>?_) (fun h=>?_)
     ·exact ⟨_,rfl,trivial⟩
     ·exact ⟨_,rfl,trivial⟩
   ·refine tEq (fun h=>?_) (fun h=>?_)
    ·exact ⟨_,rfl,trivial⟩
    ·refine tEq (fun h=>?_) (fun h=>?_)
     ·exact ⟨_,rfl,trivial⟩
     ·exact ⟨_,rfl,trivial⟩
theorem T308v1 (u:Nat) (hu:4000000≤u) (p0:ByteArray) (p1:Nat) (p2:FF) (p3:Nat) (p4:FF) (g0:SlU kGU p1 p2) (g1:SlU kHU p3 p4) (k0:ByteArray→Int→Int→Nat→FF→Option ρ) (hk0:∀ a0 a1 a2 a3 a4,a3≤2000000→Tot P (k0 a0 a1 a2 a3 a4)) (k1:Option ρ) (hk1:Tot P (k1)):∀ (t:Nat) (v0:Int),(0≤v0)→(((p1:Nat):Int)-v0).toNat<t→Tot P (L308v1 u p0 p1 p2 p3 p4 t v0 k0 k1)
 | 0,_,_,h=>absurd h (Nat.not_lt_zero _)
 | t+1,v0,e0,hm=>by
  have z0:=g0.1
  have z1:=g1.1
  unfold L308v1
  refine tD (fun h=>?_) (fun h=>?_)
  ·simp only [Int.ofNat_eq_natCast] at h
   refine tN ?_
   refine tSq (fun h=>?_) (fun h=>?_)
   ·refine tN ?_
    refine tB (by (rw [Nat.zero_add];exact Nat.le_trans (SlU.sl (by assumption) (by omega) (by decide) (by rfl)).1 (by omega))) ?_
    exact hk0 _ _ _ _ _ (by (rw [Nat.zero_add];exact Nat.le_trans (SlU.sl (by assumption) (by omega) (by decide) (by rfl)).1 (by omega)))
   ·have hw0:w64 (v0+1)=v0+1:=w64_of (by omega) (by omega)
    exact T308v1 u hu p0 p1 p2 p3 p4 g0 g1 k0 hk0 k1 hk1 t _ (by omega) (by omega)
  ·simp only [Int.ofNat_eq_natCast] at h
   exact hk1
theorem TF308 (u:Nat) (hu:4000000≤u) (x1:Nat) (x2:FF) (x3:Nat) (x4:FF) (x5:ByteArray) (g0:SlU kGU x1 x2) (g1:SlU kHU x3 x4):Tot (fun r=>r.2.2.2.1≤2000000) (F308 u x1 x2 x3 x4 x5):=by
 unfold F308 FT308
 refine tO (R:=fun t=>t.2.2.2.2.1≤2000000) ?_ fun r hr _=>⟨_,rfl,by cases hb:r.1 with | true=>exact hr | false=>exact Nat.zero_le _⟩
 have z0:=g0.1
 have z1:=g1.1
 refine T308v1 u hu _ _ _ _ _ (by assumption) (by assumption) _ ?_ _ ?_ u _ (by omega) (by omega)
 ·intro x22 x23 x24 x25 x26 q0
  exact ⟨_,rfl,(by dsimp only;first | assumption | omega)⟩
 ·exact ⟨_,rfl,(by dsimp only;first | assumption | omega)⟩
theorem T309v1 (u:Nat) (hu:4000000≤u) (p0:Int) (p1:Nat) (p2:FF) (p3:Nat) (p4:FF) (p5:ByteArray) (p6:Int) (p7:Int) (p8:Nat) (p9:FF) (g0:SlU kGU p1 p2) (g1:SlU kHU p3 p4) (g2:p8≤2000000) (k0:Option ρ) (hk0:Tot P (k0)) (k1:Option ρ) (hk1:Tot P (k1)):∀ (t:Nat) (v0:Int),(0≤v0)→(((p8:Nat):Int)-v0).toNat<t→Tot P (L309v1 u p0 p1 p2 p3 p4 p5 p6 p7 p8 p9 t v0 k0 k1)
 | 0,_,_,h=>absurd h (Nat.not_lt_zero _)
 | t+1,v0,e0,hm=>by
  have z0:=g0.1
  have z1:=g1.1
  unfold L309v1
  refine tD (fun h=>?_) (fun h=>?_)
  ·simp only [Int.ofNat_eq_natCast] at h
   refine tN ?_
   refine tEq (fun h=>?_) (fun h=>?_)
   ·exact hk0
   ·have hw0:w64 (v0+1)=v0+1:=w64_of (by omega) (by omega)
    exact T309v1 u hu p0 p1 p2 p3 p4 p5 p6 p7 p8 p9 g0 g1 g2 k0 hk0 k1 hk1 t _ (by omega) (by omega)
  ·simp only [Int.ofNat_eq_natCast] at h
   exact hk1
theorem TF309 (u:Nat) (hu:4000000≤u) (x1:Nat) (x2:FF) (x3:Nat) (x4:FF) (x5:ByteArray) (x6:Int) (g0:SlU kGU x1 x2) (g1:SlU kHU x3 x4):Tot (fun _=>True) (F309 u x1 x2 x3 x4 x5 x6):=by
 unfold F309
 have z0:=g0.1
 have z1:=g1.1
 refine tO (TF308 u hu _ _ _ _ _ (by assumption) (by assumption)) (fun x7 hx7 fx7=>?_)
 refine T309v1 u hu _ _ _ _ _ _ _ _ _ _ (by assumption) (by assumption) (by assumption) _ ?_ _ ?_ u _ (by omega) (by omega)
 ·exact ⟨_,rfl,trivial⟩
 ·exact ⟨_,rfl,trivial⟩
theorem T310v1 (u:Nat) (hu:4000000≤u) (p0:ByteArray) (p1:Nat) (p2:FF) (p3:Nat) (p4:FF) (g0:SlU kGU p1 p2) (g1:SlU kHU p3 p4) (k0:ByteArray→Int→Int→Int→Option ρ) (hk0:∀ a0 a1 a2 a3,Tot P (k0 a0 a1 a2 a3)) (k1:Option ρ) (hk1:Tot P (k1)):∀ (t:Nat) (v0:Int),(0≤v0)→(((p3:Nat):Int)-v0).toNat<t→Tot P (L310v1 u p0 p1 p2 p3 p4 t v0 k0 k1)
 | 0,_,_,h=>absurd h (Nat.not_lt_zero _)
 | t+1,v0,e0,hm=>by
  have z0:=g0.1
  have z1:=g1.1
  unfold L310v1
  refine tD (fun h=>?_) (fun h=>?_)
  ·simp only [Int.ofNat_eq_natCast] at h
   refine tN ?_
   refine tSq (fun h=>?_) (fun h=>?_)
   ·refine tN ?_
    exact hk0 _ _ _ _
   ·have hw0:w64 (v0+1)=v0+1:=w64_of (by omega) (by omega)
    exact T310v1 u hu p0 p1 p2 p3 p4 g0 g1 k0 hk0 k1 hk1 t _ (by omega) (by omega)
  ·simp only [Int.ofNat_eq_natCast] at h
   exact hk1
theorem TF310 (u:Nat) (hu:4000000≤u) (x1:Nat) (x2:FF) (x3:Nat) (x4:FF) (x5:ByteArray) (g0:SlU kGU x1 x2) (g1:SlU kHU x3 x4):Tot (fun _=>True) (F310 u x1 x2 x3 x4 x5):=by
 unfold F310
 have z0:=g0.1
 have z1:=g1.1
 refine T310v1 u hu _ _ _ _ _ (by assumption) (by assumption) _ ?_ _ ?_ u _ (by omega) (by omega)
 ·intro x21 x22 x23 x24
  exact ⟨_,rfl,trivial⟩
 ·exact ⟨_,rfl,trivial⟩
theorem TF311 (u:Nat) (hu:4000000≤u) (x1:Nat→CV) (x2:Nat) (x3:FF) (x4:Nat) (x5:FF) (g0:SlU kGU x2 x3) (g1:SlU kHU x4 x5):Tot (fun _=>True) (F311 u x1 x2 x3 x4 x5):=by
 unfold F311
 have z0:=g0.1
 have z1:=g1.1
 refine tEq (fun h=>?_) (fun h=>?_)
 ·exact ⟨_,rfl,trivial⟩
 ·refine tO (TF308 u hu _ _ _ _ _ (by assumption) (by assumption)) (fun x6 hx6 fx6=>?_)
  refine tI (fun h=>?_) (fun h=>?_)
  ·refine tDf (fun h=>?_) (fun h=>?_)
   ·refine tD (fun h=>?_) (fun h=>?_)
    ·exact ⟨_,rfl,trivial⟩
    ·refine tEq (fun h=>?_) (fun h=>?_)
     ·refine tDt (fun h=>?_) (fun h=>?_)
      ·refine tDt (fun h=>?_) (fun h=>?_)
       ·refine tO (TF309 u hu _ _ _ _ _ _ (by assumption) (by assumption)) (fun x7 hx7 fx7=>?_)
        exact ⟨_,rfl,trivial⟩
       ·exact ⟨_,rfl,trivial⟩
      ·exact ⟨_,rfl,trivial⟩
     ·refine tO (TF310 u hu _ _ _ _ _ (by assumption) (by assumption)) (fun x8 hx8 fx8=>?_)
      refine tI (fun h=>?_) (fun h=>?_)
      ·refine tDt (fun h=>?_) (fun h=>?_)
       ·refine tDt (fun h=>?_) (fun h=>?_)
        ·refine tDt (fun h=>?_) (fun h=>?_)
         ·exact ⟨_,rfl,trivial⟩
         ·exact ⟨_,rfl,trivial⟩
        ·exact ⟨_,rfl,trivial⟩
       ·exact ⟨_,rfl,trivial⟩
      ·exact ⟨_,rfl,trivial⟩
   ·exact ⟨_,rfl,trivial⟩
  ·exact ⟨_,rfl,trivial⟩
theorem TF69 (u:Nat) (hu:4000000≤u) (x1 x2:Int):Tot (fun _=>True) (F69 u x1 x2):=by
 unfold F69
 refine tDt (fun h=>?_) (fun h=>?_)
 ·refine tDt (fun h=>?_) (fun h=>?_)
  ·refine tDt (fun h=>?_) (fun h=>?_)
   ·exact ⟨_,rfl,trivial⟩
   ·exact ⟨_,rfl,trivial⟩
  ·exact ⟨_,rfl,trivial⟩
 ·exact ⟨_,rfl,trivial⟩
theorem T66v1 (u:Nat) (hu:4000000≤u) (p0:Nat) (p1:FF) (g0:p0≤2000000) (k0:Option ρ) (hk0:Tot P (k0)) (k1:Option ρ) (hk1:Tot P (k1)):∀ (t:Nat) (v0:Int),(0≤v0)→(((p0:Nat):Int)-v0).toNat<t→Tot P (L66v1 u p0 p1 t v0 k0 k1)
 | 0,_,_,h=>absurd h (Nat.not_lt_zero _)
 | t+1,v0,e0,hm=>by
  unfold L66v1
  refine tD (fun h=>?_) (fun h=>?_)
  ·simp only [Int.ofNat_eq_natCast] at h
   refine tN ?_
   refine tO (TF69 u hu _ _) (fun x9 hx9 fx9=>?_)
   refine tI (fun h=>?_) (fun h=>?_)
   ·exact hk0
   ·have hw0:w64 (v0+1)=v0+1:=w64_of (by omega) (by omega)
    exact T66v1 u hu p0 p1 g0 k0 hk0 k1 hk1 t _ (by omega) (by omega)
  ·simp only [Int.ofNat_eq_natCast] at h
   exact hk1
theorem TF66 (u:Nat) (hu:4000000≤u) (x1:Nat) (x2:FF) (g0:x1≤2000000):Tot (fun _=>True) (F66 u x1 x2):=by
 unfold F66
 refine T66v1 u hu _ _ (by assumption) _ ?_ _ ?_ u _ (by omega) (by omega)
 ·exact ⟨_,rfl,trivial⟩
 ·exact ⟨_,rfl,trivial⟩
theorem TF71 (u:Nat) (hu:4000000≤u) (x1 x2 x3 x4 x5 x6:Int):Tot (fun _=>True) (F71 u x1 x2 x3 x4 x5 x6):=by
 unfold F71
 exact ⟨_,rfl,trivial⟩
theorem TF70 (u:Nat) (hu:4000000≤u) (x1 x2 x3 x4 x5 x6:Int):Tot (fun _=>True) (F70 u x1 x2 x3 x4 x5 x6):=by
 unfold F70
 refine tO (TF71 u hu _ _ _ _ _ _) (fun x7 hx7 fx7=>?_)
 refine tEqt (fun h=>?_) (fun h=>?_)
 ·refine tDt (fun h=>?_) (fun h=>?_)
  ·refine tDt (fun h=>?_) (fun h=>?_)
   ·refine tDt (fun h=>?_) (fun h=>?_)
    ·exact ⟨_,rfl,trivial⟩
    ·exact ⟨_,rfl,trivial⟩
   ·exact ⟨_,rfl,trivial⟩
  ·exact ⟨_,rfl,trivial⟩
 ·exact ⟨_,rfl,trivial⟩
theorem TF88 (u:Nat) (hu:4000000≤u) (x1:Int):Tot (fun _=>True) (F88 u x1):=by
 unfold F88
 refine tD (fun h=>?_) (fun h=>?_)
 ·exact ⟨_,rfl,trivial⟩
 ·refine tD (fun h=>?_) (fun h=>?_)
  ·exact ⟨_,rfl,trivial⟩
  ·exact ⟨_,rfl,trivial⟩
theorem TF82 (u:Nat) (hu:4000000≤u) (x1 x2 x3 x4 x5 x6 x7 x8:Int):Tot (fun _=>True) (F82 u x1 x2 x3 x4 x5 x6 x7 x8):=by
 unfold F82
 refine tO (TF70 u hu _ _ _ _ _ _) (fun x9 hx9 fx9=>?_)
 refine tI (fun h=>?_) (fun h=>?_)
 ·refine tO (TF70 u hu _ _ _ _ _ _) (fun x10 hx10 fx10=>?_)
  refine tI (fun h=>?_) (fun h=>?_)
  ·refine tO (TF70 u hu _ _ _ _ _ _) (fun x11 hx11 fx11=>?_)
   refine tI (fun h=>?_) (fun h=>?_)
   ·refine tO (TF70 u hu _ _ _ _ _ _) (fun x12 hx12 fx12=>?_)
    refine tI (fun h=>?_) (fun h=>?_)
    ·exact ⟨_,rfl,trivial⟩
    ·refine tO (TF71 u hu _ _ _ _ _ _) (fun x21 hx21 fx21=>?_)
     refine tO (TF88 u hu _) (fun x22 hx22 fx22=>?_)
     refine tO (TF71 u hu _ _ _ _ _ _) (fun x23 hx23 fx23=>?_)
     refine tO (TF88 u hu _) (fun x24 hx24 fx24=>?_)
     refine tDt (fun h=>?_) (fun h=>?_)
     ·refine tO (TF71 u hu _ _ _ _ _ _) (fun x25 hx25 fx25=>?_)
      refine tO (TF88 u hu _) (fun x26 hx26 fx26=>?_)
      refine tO (TF71 u hu _ _ _ _ _ _) (fun x27 hx27 fx27=>?_)
      refine tO (TF88 u hu _) (fun x28 hx28 fx28=>?_)
      exact ⟨_,rfl,trivial⟩
     ·exact ⟨_,rfl,trivial⟩
   ·exact ⟨_,rfl,trivial⟩
  ·exact ⟨_,rfl,trivial⟩
 ·exact ⟨_,rfl,trivial⟩
theorem T67v2 (u:Nat) (hu:4000000≤u) (p0:Nat) (p1:FF) (p2:Int) (p3:Int) (g0:0≤p3∧p3<((p0:Nat):Int)) (g1:p0≤32) (k0:Option ρ) (hk0:Tot P (k0)) (k1:Option ρ) (hk1:Tot P (k1)):∀ (t:Nat) (v0:Int),(0≤v0)→((p3:Int)-v0).toNat<t→Tot P (L67v2 u p0 p1 p2 p3 t v0 k0 k1)
 | 0,_,_,h=>absurd h (Nat.not_lt_zero _)
 | t+1,v0,e0,hm=>by
  unfold L67v2
  refine tD (fun h=>?_) (fun h=>?_)
  ·refine tN ?_
   refine tN ?_
   refine tI (fun h=>?_) (fun h=>?_)
   ·exact hk0
   ·have hw0:w64 (v0+1)=v0+1:=w64_of (by omega) (by omega)
    exact T67v2 u hu p0 p1 p2 p3 g0 g1 k0 hk0 k1 hk1 t _ (by omega) (by omega)
  ·exact hk1
theorem T67v3 (u:Nat) (hu:4000000≤u) (p0:Nat) (p1:FF) (p2:Int) (g0:p2=((p0:Nat):Int)) (g1:p0≤32) (k0:Option ρ) (hk0:Tot P (k0)) (k1:Option ρ) (hk1:Tot P (k1)):∀ (t:Nat) (v0:Int),(0≤v0)→((p2:Int)-v0).toNat<t→Tot P (L67v3 u p0 p1 p2 t v0 k0 k1)
 | 0,_,_,h=>absurd h (Nat.not_lt_zero _)
 | t+1,v0,e0,hm=>by
  unfold L67v3
  refine tD (fun h=>?_) (fun h=>?_)
  ·refine T67v2 u hu _ _ _ _ (by omega) (by assumption) _ ?_ _ ?_ u _ (by omega) (by omega)
   ·exact hk0
   ·have hw0:w64 (v0+1)=v0+1:=w64_of (by omega) (by omega)
    exact T67v3 u hu p0 p1 p2 g0 g1 k0 hk0 k1 hk1 t _ (by omega) (by omega)
  ·exact hk1
theorem T67v5 (u:Nat) (hu:4000000≤u) (p0:Nat) (p1:FF) (p2:Int) (p3:Int) (p4:Int) (p5:Int) (p6:Int) (p7:Int) (p8:Int) (p9:Int) (g0:p2=((p0:Nat):Int)) (g1:p0≤32) (k0:Option ρ) (hk0:Tot P (k0)) (k1:Option ρ) (hk1:Tot P (k1)):∀ (t:Nat) (v0:Int),(0≤v0)→((p2:Int)-v0).toNat<t→Tot P (L67v5 u p0 p1 p2 p3 p4 p5 p6 p7 p8 p9 t v0 k0 k1)
 | 0,_,_,h=>absurd h (Nat.not_lt_zero _)
 | t+1,v0,e0,hm=>by
  unfold L67v5
  refine tD (fun h=>?_) (fun h=>?_)
  ·refine tZ (by omega) ?_
   refine tI (fun h=>?_) (fun h=>?_)
   ·refine tN ?_
    refine tZ (by omega) ?_
    have hw0:w64 (v0+1)=v0+1:=w64_of (by omega) (by omega)
    have ht1:=tmodR (a:=(w64 (v0+1))) (b:=p2) (by omega) (by omega)
    refine tN ?_
    refine tO (TF82 u hu _ _ _ _ _ _ _ _) (fun x78 hx78 fx78=>?_)
    refine tI (fun h=>?_) (fun h=>?_)
    ·exact hk0
    ·have hw0:w64 (v0+1)=v0+1:=w64_of (by omega) (by omega)
     exact T67v5 u hu p0 p1 p2 p3 p4 p5 p6 p7 p8 p9 g0 g1 k0 hk0 k1 hk1 t _ (by omega) (by omega)
   ·have hw0:w64 (v0+1)=v0+1:=w64_of (by omega) (by omega)
    exact T67v5 u hu p0 p1 p2 p3 p4 p5 p6 p7 p8 p9 g0 g1 k0 hk0 k1 hk1 t _ (by omega) (by omega)
  ·exact hk1
theorem T67v6 (u:Nat) (hu:4000000≤u) (p0:Nat) (p1:FF) (p2:Int) (g0:p2=((p0:Nat):Int)) (g1:p0≤32) (k0:Int→Int→Int→Int→Int→Int→Option ρ) (hk0:∀ a0 a1 a2 a3 a4 a5,Tot P (k0 a0 a1 a2 a3 a4 a5)) (k1:Option ρ) (hk1:Tot P (k1)):∀ (t:Nat) (v0:Int),(0≤v0)→((p2:Int)-v0).toNat<t→Tot P (L67v6 u p0 p1 p2 t v0 k0 k1)
 | 0,_,_,h=>absurd h (Nat.not_lt_zero _)
 | t+1,v0,e0,hm=>by
  unfold L67v6
  refine tD (fun h=>?_) (fun h=>?_)
  ·refine tN ?_
   refine tZ (by omega) ?_
   have hw0:w64 (v0+1)=v0+1:=w64_of (by omega) (by omega)
   have ht1:=tmodR (a:=(w64 (v0+1))) (b:=p2) (by omega) (by omega)
   refine tN ?_
   refine tZ (by omega) ?_
   have hw0:w64 (v0+2)=v0+2:=w64_of (by omega) (by omega)
   have ht1:=tmodR (a:=(w64 (v0+2))) (b:=p2) (by omega) (by omega)
   refine tN ?_
   refine tO (TF70 u hu _ _ _ _ _ _) (fun x53 hx53 fx53=>?_)
   refine tI (fun h=>?_) (fun h=>?_)
   ·refine tO (TF70 u hu _ _ _ _ _ _) (fun x54 hx54 fx54=>?_)
    refine tI (fun h=>?_) (fun h=>?_)
    ·exact hk0 _ _ _ _ _ _
    ·have hw0:w64 (v0+2)=v0+2:=w64_of (by omega) (by omega)
     refine T67v5 u hu _ _ _ _ _ _ _ _ _ _ (by omega) (by assumption) _ ?_ _ ?_ u _ (by omega) (by omega)
     ·exact hk0 _ _ _ _ _ _
     ·have hw0:w64 (v0+1)=v0+1:=w64_of (by omega) (by omega)
      exact T67v6 u hu p0 p1 p2 g0 g1 k0 hk0 k1 hk1 t _ (by omega) (by omega)
   ·exact hk0 _ _ _ _ _ _
  ·exact hk1
theorem TF67 (u:Nat) (hu:4000000≤u) (x1:Nat) (x2:FF) (g0:x1≤32):Tot (fun _=>True) (F67 u x1 x2):=by
 unfold F67
 refine T67v3 u hu _ _ _ (by rfl) (by assumption) _ ?_ _ ?_ u _ (by omega) (by (simp only [Int.ofNat_eq_natCast];omega))
 ·exact ⟨_,rfl,trivial⟩
 ·refine T67v6 u hu _ _ _ (by rfl) (by assumption) _ ?_ _ ?_ u _ (by omega) (by (simp only [Int.ofNat_eq_natCast];omega))
  ·intro x85 x86 x87 x88 x89 x90
   exact ⟨_,rfl,trivial⟩
  ·exact ⟨_,rfl,trivial⟩
theorem TF37 (u:Nat) (hu:4000000≤u) (x1:Nat) (x2:FF):Tot (fun r=>r≠0∨(3≤x1∧x1≤32)) (F37 u x1 x2):=by
 unfold F37
 refine tD (fun h=>?_) (fun h=>?_)
 ·simp only [Int.ofNat_eq_natCast] at h
  exact ⟨_,rfl,(by omega)⟩
 ·simp only [Int.ofNat_eq_natCast] at h
  refine tD (fun h=>?_) (fun h=>?_)
  ·simp only [Int.ofNat_eq_natCast] at h
   exact ⟨_,rfl,(by omega)⟩
  ·simp only [Int.ofNat_eq_natCast] at h
   refine tO (TF66 u hu _ _ (by omega)) (fun x3 hx3 fx3=>?_)
   refine tI (fun h=>?_) (fun h=>?_)
   ·exact ⟨_,rfl,(by omega)⟩
   ·refine tO (TF67 u hu _ _ (by omega)) (fun x4 hx4 fx4=>?_)
    refine tI (fun h=>?_) (fun h=>?_)
    ·exact ⟨_,rfl,(by omega)⟩
    ·exact ⟨_,rfl,(by omega)⟩
theorem T38v1 (u:Nat) (hu:4000000≤u) (p0:Nat) (p1:FF) (g0:p0≤2000000) (k0:Int→Option ρ) (hk0:∀ a0,Tot P (k0 a0)):∀ (t:Nat) (v0:Int) (v1:Int),(0≤v1)→(((p0:Nat):Int)-v1).toNat<t→Tot P (L38v1 u p0 p1 t v0 v1 k0)
 | 0,_,_,_,h=>absurd h (Nat.not_lt_zero _)
 | t+1,v0,v1,e0,hm=>by
  unfold L38v1
  refine tD (fun h=>?_) (fun h=>?_)
  ·simp only [Int.ofNat_eq_natCast] at h
   refine tN ?_
   refine tZ (by simp only [Int.ofNat_eq_natCast];omega) ?_
   have hw0:w64 (v1+1)=v1+1:=w64_of (by omega) (by omega)
   have ht1:=tmodR (a:=(w64 (v1+1))) (b:=((p0:Nat):Int)) (by omega) (by omega)
   refine tN ?_ (by simp only [Int.ofNat_eq_natCast];omega) (by simp only [Int.ofNat_eq_natCast];omega)
   have hw0:w64 (v1+1)=v1+1:=w64_of (by omega) (by omega)
   exact T38v1 u hu p0 p1 g0 k0 hk0 t _ _ (by omega) (by omega)
  ·simp only [Int.ofNat_eq_natCast] at h
   exact hk0 _
theorem TF38 (u:Nat) (hu:4000000≤u) (x1:Nat) (x2:FF):Tot (fun _=>True) (F38 u x1 x2):=by
 unfold F38
 refine tO (TF37 u hu _ _) (fun x3 hx3 fx3=>?_)
 refine tNe (fun h=>?_) (fun h=>?_)
 ·exact ⟨_,rfl,trivial⟩
 ·refine T38v1 u hu _ _ (by omega) _ ?_ u _ _ (by omega) (by omega)
  ·intro x11
   exact ⟨_,rfl,trivial⟩
theorem TF84 (u:Nat) (hu:4000000≤u) (x1 x2 x3 x4 x5 x6:Int):Tot (fun _=>True) (F84 u x1 x2 x3 x4 x5 x6):=by
 unfold F84
 refine tD (fun h=>?_) (fun h=>?_)
 ·exact ⟨_,rfl,trivial⟩
 ·refine tD (fun h=>?_) (fun h=>?_)
  ·exact ⟨_,rfl,trivial⟩
  ·exact ⟨_,rfl,trivial⟩
theorem TF83 (u:Nat) (hu:4000000≤u) (x1 x2 x3 x4 x5 x6:Int):Tot (fun _=>True) (F83 u x1 x2 x3 x4 x5 x6):=by
 unfold F83
 refine tO (TF84 u hu _ _ _ _ _ _) (fun x7 hx7 fx7=>?_)
 refine tEqt (fun h=>?_) (fun h=>?_)
 ·refine tDt (fun h=>?_) (fun h=>?_)
  ·refine tDt (fun h=>?_) (fun h=>?_)
   ·refine tDt (fun h=>?_) (fun h=>?_)
    ·exact ⟨_,rfl,trivial⟩
    ·exact ⟨_,rfl,trivial⟩
   ·exact ⟨_,rfl,trivial⟩
  ·exact ⟨_,rfl,trivial⟩
 ·exact ⟨_,rfl,trivial⟩
theorem TF68 (u:Nat) (hu:4000000≤u) (x1 x2 x3 x4 x5 x6 x7 x8:Int):Tot (fun _=>True) (F68 u x1 x2 x3 x4 x5 x6 x7 x8):=by
 unfold F68
 refine tO (TF83 u hu _ _ _ _ _ _) (fun x9 hx9 fx9=>?_)
 refine tI (fun h=>?_) (fun h=>?_)
 ·refine tO (TF83 u hu _ _ _ _ _ _) (fun x10 hx10 fx10=>?_)
  refine tI (fun h=>?_) (fun h=>?_)
  ·refine tO (TF83 u hu _ _ _ _ _ _) (fun x11 hx11 fx11=>?_)
   refine tI (fun h=>?_) (fun h=>?_)
   ·refine tO (TF83 u hu _ _ _ _ _ _) (fun x12 hx12 fx12=>?_)
    refine tI (fun h=>?_) (fun h=>?_)
    ·exact ⟨_,rfl,trivial⟩
    ·refine tO (TF84 u hu _ _ _ _ _ _) (fun x17 hx17 fx17=>?_)
     refine tO (TF84 u hu _ _ _ _ _ _) (fun x18 hx18 fx18=>?_)
     refine tDt (fun h=>?_) (fun h=>?_)
     ·refine tO (TF84 u hu _ _ _ _ _ _) (fun x19 hx19 fx19=>?_)
      refine tO (TF84 u hu _ _ _ _ _ _) (fun x20 hx20 fx20=>?_)
      exact ⟨_,rfl,trivial⟩
     ·exact ⟨_,rfl,trivial⟩
   ·exact ⟨_,rfl,trivial⟩
  ·exact ⟨_,rfl,trivial⟩
 ·exact ⟨_,rfl,trivial⟩
theorem T39v2 (u:Nat) (hu:4000000≤u) (p0:Nat) (p1:FF) (p2:Nat) (p3:FF) (p4:Int) (g0:0≤p4∧p4<((p0:Nat):Int)) (g1:p0≤2000000) (g2:p2≤2000000) (k0:Option ρ) (hk0:Tot P (k0)) (k1:Option ρ) (hk1:Tot P (k1)):∀ (t:Nat) (v0:Int),(0≤v0)→(((p2:Nat):Int)-v0).toNat<t→Tot P (L39v2 u p0 p1 p2 p3 p4 t v0 k0 k1)
 | 0,_,_,h=>absurd h (Nat.not_lt_zero _)
 | t+1,v0,e0,hm=>by
  unfold L39v2
  refine tD (fun h=>?_) (fun h=>?_)
  ·simp only [Int.ofNat_eq_natCast] at h
   refine tN ?_
   refine tZ (by simp only [Int.ofNat_eq_natCast];omega) ?_
   have hw0:w64 (p4+1)=p4+1:=w64_of (by omega) (by omega)
   have ht1:=tmodR (a:=(w64 (p4+1))) (b:=((p0:Nat):Int)) (by omega) (by omega)
   refine tN ?_ (by simp only [Int.ofNat_eq_natCast];omega) (by simp only [Int.ofNat_eq_natCast];omega)
   refine tN ?_
   refine tZ (by simp only [Int.ofNat_eq_natCast];omega) ?_
   have hw0:w64 (v0+1)=v0+1:=w64_of (by omega) (by omega)
   have ht1:=tmodR (a:=(w64 (v0+1))) (b:=((p2:Nat):Int)) (by omega) (by omega)
   refine tN ?_ (by simp only [Int.ofNat_eq_natCast];omega) (by simp only [Int.ofNat_eq_natCast];omega)
   refine tO (TF68 u hu _ _ _ _ _ _ _ _) (fun x38 hx38 fx38=>?_)
   refine tI (fun h=>?_) (fun h=>?_)
   ·exact hk0
   ·have hw0:w64 (v0+1)=v0+1:=w64_of (by omega) (by omega)
    exact T39v2 u hu p0 p1 p2 p3 p4 g0 g1 g2 k0 hk0 k1 hk1 t _ (by omega) (by omega)
  ·simp only [Int.ofNat_eq_natCast] at h
   exact hk1
theorem T39v3 (u:Nat) (hu:4000000≤u) (p0:Nat) (p1:FF) (p2:Nat) (p3:FF) (g0:p0≤2000000) (g1:p2≤2000000) (k0:Option ρ) (hk0:Tot P (k0)) (k1:Option ρ) (hk1:Tot P (k1)):∀ (t:Nat) (v0:Int),(0≤v0)→(((p0:Nat):Int)-v0).toNat<t→Tot P (L39v3 u p0 p1 p2 p3 t v0 k0 k1)
 | 0,_,_,h=>absurd h (Nat.not_lt_zero _)
 | t+1,v0,e0,hm=>by
  unfold L39v3
  refine tD (fun h=>?_) (fun h=>?_)
  ·simp only [Int.ofNat_eq_natCast] at h
   refine T39v2 u hu _ _ _ _ _ (by omega) (by assumption) (by assumption) _ ?_ _ ?_ u _ (by omega) (by omega)
   ·exact hk0
   ·have hw0:w64 (v0+1)=v0+1:=w64_of (by omega) (by omega)
    exact T39v3 u hu p0 p1 p2 p3 g0 g1 k0 hk0 k1 hk1 t _ (by omega) (by omega)
  ·simp only [Int.ofNat_eq_natCast] at h
   exact hk1
theorem TF39 (u:Nat) (hu:4000000≤u) (x1:Nat) (x2:FF) (x3:Nat) (x4:FF) (g0:x1≤2000000) (g1:x3≤2000000):Tot (fun _=>True) (F39 u x1 x2 x3 x4):=by
 unfold F39
 refine T39v3 u hu _ _ _ _ (by assumption) (by assumption) _ ?_ _ ?_ u _ (by omega) (by omega)
 ·exact ⟨_,rfl,trivial⟩
 ·exact ⟨_,rfl,trivial⟩
theorem T40v1 (u:Nat) (hu:4000000≤u) (p0:Nat) (p1:FF) (p2:Int) (p3:Int) (g0:p0≤2000000) (k0:Int→Int→Int→Int→Option ρ) (hk0:∀ a0 a1 a2 a3,Tot P (k0 a0 a1 a2 a3)) (k1:Bool→Option ρ) (hk1:∀ a0,Tot P (k1 a0)):∀ (t:Nat) (v0:Bool) (v1:Int),(0≤v1)→(((p0:Nat):Int)-v1).toNat<t→Tot P (L40v1 u p0 p1 p2 p3 t v0 v1 k0 k1)
 | 0,_,_,_,h=>absurd h (Nat.not_lt_zero _)
 | t+1,v0,v1,e0,hm=>by
  unfold L40v1
  refine tD (fun h=>?_) (fun h=>?_)
  ·simp only [Int.ofNat_eq_natCast] at h
   refine tN ?_
   refine tZ (by simp only [Int.ofNat_eq_natCast];omega) ?_
   have hw0:w64 (v1+1)=v1+1:=w64_of (by omega) (by omega)
   have ht1:=tmodR (a:=(w64 (v1+1))) (b:=((p0:Nat):Int)) (by omega) (by omega)
   refine tN ?_ (by simp only [Int.ofNat_eq_natCast];omega) (by simp only [Int.ofNat_eq_natCast];omega)
   refine tO (TF70 u hu _ _ _ _ _ _) (fun x22 hx22 fx22=>?_)
   refine tI (fun h=>?_) (fun h=>?_)
   ·exact hk0 _ _ _ _
   ·refine tDt (fun h=>?_) (fun h=>?_)
    ·refine tDt (fun h=>?_) (fun h=>?_)
     ·simp only [Int.ofNat_eq_natCast] at h
      refine tO (TF71 u hu _ _ _ _ _ _) (fun x23 hx23 fx23=>?_)
      refine tDt (fun h=>?_) (fun h=>?_)
      ·simp only [Int.ofNat_eq_natCast] at h
       refine tDt (fun h=>?_) (fun h=>?_)
       ·refine tO (TF71 u hu _ _ _ _ _ _) (fun x24 hx24 fx24=>?_)
        refine tDf (fun h=>?_) (fun h=>?_)
        ·refine tD (fun h=>?_) (fun h=>?_)
         ·have hw0:w64 (v1+1)=v1+1:=w64_of (by omega) (by omega)
          exact T40v1 u hu p0 p1 p2 p3 g0 k0 hk0 k1 hk1 t _ _ (by omega) (by omega)
         ·have hw0:w64 (v1+1)=v1+1:=w64_of (by omega) (by omega)
          exact T40v1 u hu p0 p1 p2 p3 g0 k0 hk0 k1 hk1 t _ _ (by omega) (by omega)
        ·have hw0:w64 (v1+1)=v1+1:=w64_of (by omega) (by omega)
         exact T40v1 u hu p0 p1 p2 p3 g0 k0 hk0 k1 hk1 t _ _ (by omega) (by omega)
       ·refine tDf (fun h=>?_) (fun h=>?_)
        ·have hw0:w64 (v1+1)=v1+1:=w64_of (by omega) (by omega)
         exact T40v1 u hu p0 p1 p2 p3 g0 k0 hk0 k1 hk1 t _ _ (by omega) (by omega)
        ·have hw0:w64 (v1+1)=v1+1:=w64_of (by omega) (by omega)
         exact T40v1 u hu p0 p1 p2 p3 g0 k0 hk0 k1 hk1 t _ _ (by omega) (by omega)
      ·simp only [Int.ofNat_eq_natCast] at h
       refine tDf (fun h=>?_) (fun h=>?_)
       ·have hw0:w64 (v1+1)=v1+1:=w64_of (by omega) (by omega)
        exact T40v1 u hu p0 p1 p2 p3 g0 k0 hk0 k1 hk1 t _ _ (by omega) (by omega)
       ·have hw0:w64 (v1+1)=v1+1:=w64_of (by omega) (by omega)
        exact T40v1 u hu p0 p1 p2 p3 g0 k0 hk0 k1 hk1 t _ _ (by omega) (by omega)
     ·simp only [Int.ofNat_eq_natCast] at h
      refine tDt (fun h=>?_) (fun h=>?_)
      ·simp only [Int.ofNat_eq_natCast] at h
       refine tDt (fun h=>?_) (fun h=>?_)
       ·refine tO (TF71 u hu _ _ _ _ _ _) (fun x25 hx25 fx25=>?_)
        refine tD (fun h=>?_) (fun h=>?_)
        ·have hw0:w64 (v1+1)=v1+1:=w64_of (by omega) (by omega)
         exact T40v1 u hu p0 p1 p2 p3 g0 k0 hk0 k1 hk1 t _ _ (by omega) (by omega)
        ·have hw0:w64 (v1+1)=v1+1:=w64_of (by omega) (by omega)
         exact T40v1 u hu p0 p1 p2 p3 g0 k0 hk0 k1 hk1 t _ _ (by omega) (by omega)
       ·have hw0:w64 (v1+1)=v1+1:=w64_of (by omega) (by omega)
        exact T40v1 u hu p0 p1 p2 p3 g0 k0 hk0 k1 hk1 t _ _ (by omega) (by omega)
      ·simp only [Int.ofNat_eq_natCast] at h
       have hw0:w64 (v1+1)=v1+1:=w64_of (by omega) (by omega)
       exact T40v1 u hu p0 p1 p2 p3 g0 k0 hk0 k1 hk1 t _ _ (by omega) (by omega)
    ·refine tDt (fun h=>?_) (fun h=>?_)
     ·simp only [Int.ofNat_eq_natCast] at h
      refine tDt (fun h=>?_) (fun h=>?_)
      ·refine tO (TF71 u hu _ _ _ _ _ _) (fun x26 hx26 fx26=>?_)
       refine tD (fun h=>?_) (fun h=>?_)
       ·have hw0:w64 (v1+1)=v1+1:=w64_of (by omega) (by omega)
        exact T40v1 u hu p0 p1 p2 p3 g0 k0 hk0 k1 hk1 t _ _ (by omega) (by omega)
       ·have hw0:w64 (v1+1)=v1+1:=w64_of (by omega) (by omega)
        exact T40v1 u hu p0 p1 p2 p3 g0 k0 hk0 k1 hk1 t _ _ (by omega) (by omega)
      ·have hw0:w64 (v1+1)=v1+1:=w64_of (by omega) (by omega)
       exact T40v1 u hu p0 p1 p2 p3 g0 k0 hk0 k1 hk1 t _ _ (by omega) (by omega)
     ·simp only [Int.ofNat_eq_natCast] at h
      have hw0:w64 (v1+1)=v1+1:=w64_of (by omega) (by omega)
      exact T40v1 u hu p0 p1 p2 p3 g0 k0 hk0 k1 hk1 t _ _ (by omega) (by omega)
  ·simp only [Int.ofNat_eq_natCast] at h
   exact hk1 _
theorem TF40 (u:Nat) (hu:4000000≤u) (x1:Nat) (x2:FF) (x3 x4:Int) (g0:x1≤2000000):Tot (fun _=>True) (F40 u x1 x2 x3 x4):=by
 unfold F40
 refine tO (TF37 u hu _ _) (fun x5 hx5 fx5=>?_)
 refine tNef (fun h=>?_) (fun h=>?_)
 ·refine tO (TF69 u hu _ _) (fun x6 hx6 fx6=>?_)
  refine tI (fun h=>?_) (fun h=>?_)
  ·exact ⟨_,rfl,trivial⟩
  ·refine T40v1 u hu _ _ _ _ (by assumption) _ ?_ _ ?_ u _ _ (by omega) (by omega)
   ·intro x32 x33 x34 x35
    exact ⟨_,rfl,trivial⟩
   ·intro x36
    refine tI (fun h=>?_) (fun h=>?_)
    ·exact ⟨_,rfl,trivial⟩
    ·exact ⟨_,rfl,trivial⟩
 ·exact ⟨_,rfl,trivial⟩
theorem T14v2 (u:Nat) (hu:4000000≤u) (p0:Int) (p1:Nat) (p2:FF) (p3:Nat) (p4:FF) (p5:Nat) (p6:FF) (g0:p0≤((p5:Nat):Int)) (g1:p1≤2000000∧0<p1) (g2:SlU (.pr (.sl (.pr (.int .i64) (.pr (.int .i64) .nil))) .nil) p5 p6) (g3:∀ j:Nat,(j:Int)<p0→0<CV.len (p6 j 0)) (k0:Option ρ) (hk0:Tot P (k0)) (k1:Option ρ) (hk1:Tot P (k1)):∀ (t:Nat) (v0:Int),(0≤v0)→((p0:Int)-v0).toNat<t→Tot P (L14v2 u p0 p1 p2 p3 p4 p5 p6 t v0 k0 k1)
 | 0,_,_,h=>absurd h (Nat.not_lt_zero _)
 | t+1,v0,e0,hm=>by
  have z0:=g2.1
  have zz:0≤v0∧v0<p0→0<CV.len (p6 (Int.toNat v0) 0):=fun h=>g3 (Int.toNat v0) (by omega)
  unfold L14v2
  refine tD (fun h=>?_) (fun h=>?_)
  ·refine tN ?_
   refine tO (TF39 u hu _ _ _ _ (by omega) (by exact Nat.le_trans (SlU.sl (by assumption) (by omega) (by decide) (by rfl)).1 (by omega))) (fun x54 hx54 fx54=>?_)
   refine tI (fun h=>?_) (fun h=>?_)
   ·refine tN ?_
    refine tN ?_
    refine tO (TF40 u hu _ _ _ _ (by omega)) (fun x55 hx55 fx55=>?_)
    refine tNef (fun h=>?_) (fun h=>?_)
    ·refine tN ?_
     refine tN ?_
     refine tO (TF40 u hu _ _ _ _ (by exact Nat.le_trans (SlU.sl (by assumption) (by omega) (by decide) (by rfl)).1 (by omega))) (fun x56 hx56 fx56=>?_)
     refine tNe (fun h=>?_) (fun h=>?_)
     ·exact hk0
     ·have hw0:w64 (v0+1)=v0+1:=w64_of (by omega) (by omega)
      exact T14v2 u hu p0 p1 p2 p3 p4 p5 p6 g0 g1 g2 g3 k0 hk0 k1 hk1 t _ (by omega) (by omega)
    ·exact hk0
   ·exact hk0
  ·exact hk1
theorem T14v3 (u:Nat) (hu:4000000≤u) (p0:Nat) (p1:FF) (p2:Nat) (p3:FF) (g0:SlU (.pr (.int .i64) (.pr (.int .i64) .nil)) p0 p1) (g1:SlU (.pr (.sl (.pr (.int .i64) (.pr (.int .i64) .nil))) .nil) p2 p3) (k0:Int→Option ρ) (hk0:∀ a0,Tot P (k0 a0)) (k1:Option ρ) (hk1:Tot P (k1)):∀ (t:Nat) (v0:Int),(0≤v0)→(∀ j:Nat,(j:Int)<v0→0<CV.len (p3 j 0))→(((p2:Nat):Int)-v0).toNat<t→Tot P (L14v3 u p0 p1 p2 p3 t v0 k0 k1)
 | 0,_,_,_,h=>absurd h (Nat.not_lt_zero _)
 | t+1,v0,e0,e1,hm=>by
  have z0:=g0.1
  have z1:=g1.1
  unfold L14v3
  refine tD (fun h=>?_) (fun h=>?_)
  ·simp only [Int.ofNat_eq_natCast] at h
   refine tN ?_
   refine tO (TF37 u hu _ _) (fun x29 hx29 fx29=>?_)
   refine tNe (fun h=>?_) (fun h=>?_)
   ·exact hk0 _
   ·refine tO (TF38 u hu _ _) (fun x30 hx30 fx30=>?_)
    refine tDf (fun h=>?_) (fun h=>?_)
    ·refine tO (TF39 u hu _ _ _ _ (by omega) (by omega)) (fun x31 hx31 fx31=>?_)
     refine tI (fun h=>?_) (fun h=>?_)
     ·refine tN ?_
      refine tO (TF40 u hu _ _ _ _ (by omega)) (fun x32 hx32 fx32=>?_)
      refine tNe (fun h=>?_) (fun h=>?_)
      ·exact hk0 _
      ·refine T14v2 u hu _ _ _ _ _ _ _ (by omega) (by omega) (by assumption) (by assumption) _ ?_ _ ?_ u _ (by omega) (by omega)
       ·exact hk0 _
       ·have hw0:w64 (v0+1)=v0+1:=w64_of (by omega) (by omega)
        exact T14v3 u hu p0 p1 p2 p3 g0 g1 k0 hk0 k1 hk1 t _ (by omega) (by (intro j hj;exact (Nat.lt_or_ge j (Int.toNat v0)).elim (fun q=>e1 j (by omega)) (fun q=>by rw [show j=Int.toNat v0 by omega];omega))) (by omega)
     ·exact hk0 _
    ·exact hk0 _
  ·simp only [Int.ofNat_eq_natCast] at h
   exact hk1
theorem TF14 (u:Nat) (hu:4000000≤u) (x1:Nat) (x2:FF) (x3:Nat) (x4:FF) (g0:SlU (.pr (.int .i64) (.pr (.int .i64) .nil)) x1 x2) (g1:SlU (.pr (.sl (.pr (.int .i64) (.pr (.int .i64) .nil))) .nil) x3 x4):Tot (fun _=>True) (F14 u x1 x2 x3 x4):=by
 unfold F14
 have z0:=g0.1
 have z1:=g1.1
 refine tD (fun h=>?_) (fun h=>?_)
 ·simp only [Int.ofNat_eq_natCast] at h
  exact ⟨_,rfl,trivial⟩
 ·simp only [Int.ofNat_eq_natCast] at h
  refine tO (TF37 u hu _ _) (fun x5 hx5 fx5=>?_)
  refine tNe (fun h=>?_) (fun h=>?_)
  ·exact ⟨_,rfl,trivial⟩
  ·refine tO (TF38 u hu _ _) (fun x6 hx6 fx6=>?_)
   refine tD (fun h=>?_) (fun h=>?_)
   ·exact ⟨_,rfl,trivial⟩
   ·refine T14v3 u hu _ _ _ _ (by assumption) (by assumption) _ ?_ _ ?_ u _ (by omega) (by omega) (by omega)
    ·intro x58
     exact ⟨_,rfl,trivial⟩
    ·exact ⟨_,rfl,trivial⟩
theorem TF133 (u:Nat) (hu:4000000≤u) (x1 x2 x3 x4:Int):Tot (fun _=>True) (F133 u x1 x2 x3 x4):=by
 unfold F133
 refine tDt (fun h=>?_) (fun h=>?_)
 ·refine tDt (fun h=>?_) (fun h=>?_)
  ·refine tDt (fun h=>?_) (fun h=>?_)
   ·refine tDt (fun h=>?_) (fun h=>?_)
    ·refine tDt (fun h=>?_) (fun h=>?_)
     ·refine tDt (fun h=>?_) (fun h=>?_)
      ·refine tDt (fun h=>?_) (fun h=>?_)
       ·exact ⟨_,rfl,trivial⟩
       ·exact ⟨_,rfl,trivial⟩
      ·exact ⟨_,rfl,trivial⟩
     ·exact ⟨_,rfl,trivial⟩
    ·exact ⟨_,rfl,trivial⟩
   ·exact ⟨_,rfl,trivial⟩
  ·exact ⟨_,rfl,trivial⟩
 ·exact ⟨_,rfl,trivial⟩
theorem TF312 (u:Nat) (hu:4000000≤u) (x1 x2 x3:Int):Tot (fun _=>True) (F312 u x1 x2 x3):=by
 unfold F312
 refine tDf (fun h=>?_) (fun h=>?_)
 ·refine tDf (fun h=>?_) (fun h=>?_)
  ·refine tDf (fun h=>?_) (fun h=>?_)
   ·refine tDf (fun h=>?_) (fun h=>?_)
    ·refine tDf (fun h=>?_) (fun h=>?_)
     ·exact ⟨_,rfl,trivial⟩
     ·exact ⟨_,rfl,trivial⟩
    ·exact ⟨_,rfl,trivial⟩
   ·exact ⟨_,rfl,trivial⟩
  ·exact ⟨_,rfl,trivial⟩
 ·exact ⟨_,rfl,trivial⟩
theorem TF313 (u:Nat) (hu:4000000≤u) (x1:Nat→CV) (x2:Nat) (x3:FF) (x4:Nat) (x5:FF) (g0:SlU kGU x2 x3) (g1:SlU kHU x4 x5) (g2:RowU x1):Tot (fun _=>True) (F313 u x1 x2 x3 x4 x5):=by
 unfold F313
 have z0:=g0.1
 have z1:=g1.1
 obtain ⟨r1,r2,r3,r4⟩:=id g2
 refine tO (TF301 u hu _ (by assumption)) (fun x6 hx6 fx6=>?_)
 refine tI (fun h=>?_) (fun h=>?_)
 ·refine tO (TF301 u hu _ (by assumption)) (fun x7 hx7 fx7=>?_)
  refine tI (fun h=>?_) (fun h=>?_)
  ·exact ⟨_,rfl,trivial⟩
  ·refine tDf (fun h=>?_) (fun h=>?_)
   ·refine tD (fun h=>?_) (fun h=>?_)
    ·exact ⟨_,rfl,trivial⟩
    ·refine tDf (fun h=>?_) (fun h=>?_)
     ·refine tD (fun h=>?_) (fun h=>?_)
      ·exact ⟨_,rfl,trivial⟩
      ·refine tO (TF307 u hu _) (fun x8 hx8 fx8=>?_)
       refine tI (fun h=>?_) (fun h=>?_)
       ·exact ⟨_,rfl,trivial⟩
       ·refine tO (TF311 u hu _ _ _ _ _ (by assumption) (by assumption)) (fun x9 hx9 fx9=>?_)
        refine tI (fun h=>?_) (fun h=>?_)
        ·exact ⟨_,rfl,trivial⟩
        ·refine tEq (fun h=>?_) (fun h=>?_)
         ·refine tO (TF14 u hu _ _ _ _ (by assumption) (by assumption)) (fun x10 hx10 fx10=>?_)
          refine tNe (fun h=>?_) (fun h=>?_)
          ·exact ⟨_,rfl,trivial⟩
          ·refine tO (TF133 u hu _ _ _ _) (fun x11 hx11 fx11=>?_)
           refine tI (fun h=>?_) (fun h=>?_)
           ·exact ⟨_,rfl,trivial⟩
           ·exact ⟨_,rfl,trivial⟩
         ·refine tEq (fun h=>?_) (fun h=>?_)
          ·refine tDf (fun h=>?_) (fun h=>?_)
           ·refine tDf (fun h=>?_) (fun h=>?_)
            ·refine tO (TF312 u hu _ _ _) (fun x12 hx12 fx12=>?_)
             refine tI (fun h=>?_) (fun h=>?_)
             ·exact ⟨_,rfl,trivial⟩
             ·refine tO (TF133 u hu _ _ _ _) (fun x13 hx13 fx13=>?_)
              refine tI (fun h=>?_) (fun h=>?_)
              ·exact ⟨_,rfl,trivial⟩
              ·exact ⟨_,rfl,trivial⟩
            ·exact ⟨_,rfl,trivial⟩
           ·exact ⟨_,rfl,trivial⟩
          ·refine tDf (fun h=>?_) (fun h=>?_)
           ·refine tD (fun h=>?_) (fun h=>?_)
            ·exact ⟨_,rfl,trivial⟩
            ·refine tO (TF133 u hu _ _ _ _) (fun x14 hx14 fx14=>?_)
             refine tI (fun h=>?_) (fun h=>?_)
             ·exact ⟨_,rfl,trivial⟩
             ·exact ⟨_,rfl,trivial⟩
           ·exact ⟨_,rfl,trivial⟩
     ·exact ⟨_,rfl,trivial⟩
   ·exact ⟨_,rfl,trivial⟩
 ·exact ⟨_,rfl,trivial⟩
theorem TF44 (u:Nat) (hu:4000000≤u) (x1:Nat) (x2:FF) (x3:Nat) (x4:FF) (g0:x3≤1048576):Tot (fun r=>r.1≤2000000) (F44 u x1 x2 x3 x4):=by
 unfold F44
 refine tB (by omega) ?_
 exact ⟨_,rfl,(by dsimp only;omega)⟩
theorem T19v1 (u:Nat) (hu:4000000≤u) (p0:Nat) (p1:FF) (p2:Nat) (p3:FF) (p4:Nat) (p5:FF) (g0:p0≤2000000) (k0:Int→Option ρ) (hk0:∀ a0,Tot P (k0 a0)):∀ (t:Nat) (v0:Int) (v1:Int),(0≤v1)→(((p0:Nat):Int)-v1).toNat<t→Tot P (L19v1 u p0 p1 p2 p3 p4 p5 t v0 v1 k0)
 | 0,_,_,_,h=>absurd h (Nat.not_lt_zero _)
 | t+1,v0,v1,e0,hm=>by
  unfold L19v1
  refine tD (fun h=>?_) (fun h=>?_)
  ·simp only [Int.ofNat_eq_natCast] at h
   refine tN ?_
   refine tO (TF38 u hu _ _) (fun x22 hx22 fx22=>?_)
   have hw0:w64 (v1+1)=v1+1:=w64_of (by omega) (by omega)
   exact T19v1 u hu p0 p1 p2 p3 p4 p5 g0 k0 hk0 t _ _ (by omega) (by omega)
  ·simp only [Int.ofNat_eq_natCast] at h
   exact hk0 _
theorem TF19 (u:Nat) (hu:4000000≤u) (x1:Nat) (x2:FF) (x3:Nat) (x4:FF) (g0:SlU (.pr (.int .i64) (.pr (.int .i64) .nil)) x1 x2) (g1:SlU (.pr (.sl (.pr (.int .i64) (.pr (.int .i64) .nil))) .nil) x3 x4):Tot (fun _=>True) (F19 u x1 x2 x3 x4):=by
 unfold F19
 have z0:=g0.1
 have z1:=g1.1
 refine tO (TF14 u hu _ _ _ _ (by assumption) (by assumption)) (fun x5 hx5 fx5=>?_)
 refine tNe (fun h=>?_) (fun h=>?_)
 ·exact ⟨_,rfl,trivial⟩
 ·refine tO (TF44 u hu _ _ _ _ (by assumption)) (fun x6 hx6 fx6=>?_)
  refine T19v1 u hu _ _ _ _ _ _ (by assumption) _ ?_ u _ _ (by omega) (by omega)
  ·intro x24
   exact ⟨_,rfl,trivial⟩
theorem TF314 (u:Nat) (hu:4000000≤u) (x1:Nat→CV) (x2:Nat) (x3:FF) (x4:Nat) (x5:FF) (g0:SlU kGU x2 x3) (g1:SlU kHU x4 x5) (g2:RowU x1):Tot (fun _=>True) (F314 u x1 x2 x3 x4 x5):=by
 unfold F314
 have z0:=g0.1
 have z1:=g1.1
 obtain ⟨r1,r2,r3,r4⟩:=id g2
 refine tO (TF313 u hu _ _ _ _ _ (by assumption) (by assumption) (by assumption)) (fun x6 hx6 fx6=>?_)
 refine tNe (fun h=>?_) (fun h=>?_)
 ·exact ⟨_,rfl,trivial⟩
 ·refine tO (TF308 u hu _ _ _ _ _ (by assumption) (by assumption)) (fun x7 hx7 fx7=>?_)
  refine tO (TF310 u hu _ _ _ _ _ (by assumption) (by assumption)) (fun x8 hx8 fx8=>?_)
  refine tEq (fun h=>?_) (fun h=>?_)
  ·refine tO (TF19 u hu _ _ _ _ (by assumption) (by assumption)) (fun x10 hx10 fx10=>?_)
   exact ⟨_,rfl,trivial⟩
  ·refine tEq (fun h=>?_) (fun h=>?_)
   ·exact ⟨_,rfl,trivial⟩
   ·exact ⟨_,rfl,trivial⟩
theorem T315v1 (u:Nat) (hu:4000000≤u) (p0:ByteArray) (p1:Nat) (p2:FF) (p3:Nat) (p4:FF) (p5:Nat) (p6:FF) (p7:Nat) (p8:FF) (p9:Nat) (p10:FF) (p11:Nat) (p12:FF) (p13:Nat) (p14:FF) (g0:SlU kNU p1 p2) (g1:SlU kR0 p3 p4) (g2:SlU kSU p5 p6) (g3:SlU kKU p7 p8) (g4:SlU kEU p9 p10) (g5:SlU kGU p11 p12) (g6:SlU kHU p13 p14) (k0:Int→Option ρ) (hk0:∀ a0,Tot P (k0 a0)) (k1:ByteArray→Int→ByteArray→Option ρ) (hk1:∀ a0 a1 a2,Tot P (k1 a0 a1 a2)) (k2:Option ρ) (hk2:Tot P (k2)):∀ (t:Nat) (v0:Int),(0≤v0)→(((p3:Nat):Int)-v0).toNat<t→Tot P (L315v1 u p0 p1 p2 p3 p4 p5 p6 p7 p8 p9 p10 p11 p12 p13 p14 t v0 k0 k1 k2)
 | 0,_,_,h=>absurd h (Nat.not_lt_zero _)
 | t+1,v0,e0,hm=>by
  have z0:=g0.1
  have z1:=g1.1
  have z2:=g2.1
  have z3:=g3.1
  have z4:=g4.1
  have z5:=g5.1
  have z6:=g6.1
  unfold L315v1
  refine tD (fun h=>?_) (fun h=>?_)
  ·simp only [Int.ofNat_eq_natCast] at h
   refine tN ?_
   refine tO (TF313 u hu _ _ _ _ _ (by assumption) (by assumption) (by exact rowU (by assumption) (by omega))) (fun x51 hx51 fx51=>?_)
   refine tNe (fun h=>?_) (fun h=>?_)
   ·exact hk0 _
   ·refine tN ?_
    refine tO (TF294 u hu _ _ _ _ _ _ _ _ _ _ _ _ (by assumption) (by assumption) (by assumption) (by assumption) (by assumption)) (fun x52 hx52 fx52=>?_)
    refine tI (fun h=>?_) (fun h=>?_)
    ·exact hk1 _ _ _
    ·have hw0:w64 (v0+1)=v0+1:=w64_of (by omega) (by omega)
     exact T315v1 u hu p0 p1 p2 p3 p4 p5 p6 p7 p8 p9 p10 p11 p12 p13 p14 g0 g1 g2 g3 g4 g5 g6 k0 hk0 k1 hk1 k2 hk2 t _ (by omega) (by omega)
  ·simp only [Int.ofNat_eq_natCast] at h
   exact hk2
theorem T315v2 (u:Nat) (hu:4000000≤u) (p0:ByteArray) (p1:Nat) (p2:FF) (p3:Nat) (p4:FF) (p5:Nat) (p6:FF) (p7:Nat) (p8:FF) (p9:Nat) (p10:FF) (p11:Nat) (p12:FF) (p13:Nat) (p14:FF) (g0:SlU kNU p1 p2) (g1:SlU kR0 p3 p4) (g2:SlU kSU p5 p6) (g3:SlU kKU p7 p8) (g4:SlU kEU p9 p10) (g5:SlU kGU p11 p12) (g6:SlU kHU p13 p14) (k0:Int→Option ρ) (hk0:∀ a0,Tot P (k0 a0)):∀ (t:Nat) (v0:Int) (v1:Int),(0≤v1)→(((p3:Nat):Int)-v1).toNat<t→Tot P (L315v2 u p0 p1 p2 p3 p4 p5 p6 p7 p8 p9 p10 p11 p12 p13 p14 t v0 v1 k0)
 | 0,_,_,_,h=>absurd h (Nat.not_lt_zero _)
 | t+1,v0,v1,e0,hm=>by
  have z0:=g0.1
  have z1:=g1.1
  have z2:=g2.1
  have z3:=g3.1
  have z4:=g4.1
  have z5:=g5.1
  have z6:=g6.1
  unfold L315v2
  refine tD (fun h=>?_) (fun h=>?_)
  ·simp only [Int.ofNat_eq_natCast] at h
   refine tN ?_
   refine tO (TF314 u hu _ _ _ _ _ (by assumption) (by assumption) (by exact rowU (by assumption) (by omega))) (fun x95 hx95 fx95=>?_)
   have hw0:w64 (v1+1)=v1+1:=w64_of (by omega) (by omega)
   exact T315v2 u hu p0 p1 p2 p3 p4 p5 p6 p7 p8 p9 p10 p11 p12 p13 p14 g0 g1 g2 g3 g4 g5 g6 k0 hk0 t _ _ (by omega) (by omega)
  ·simp only [Int.ofNat_eq_natCast] at h
   exact hk0 _
theorem TF315 (u:Nat) (hu:4000000≤u) (x1:ByteArray) (x2:Nat) (x3:FF) (x4:Nat) (x5:FF) (x6:Nat) (x7:FF) (x8:Nat) (x9:FF) (x10:Nat) (x11:FF) (x12:Nat) (x13:FF) (x14:Nat) (x15:FF) (g0:SlU kNU x2 x3) (g1:SlU kR0 x4 x5) (g2:SlU kSU x6 x7) (g3:SlU kKU x8 x9) (g4:SlU kEU x10 x11) (g5:SlU kGU x12 x13) (g6:SlU kHU x14 x15):Tot (fun _=>True) (F315 u x1 x2 x3 x4 x5 x6 x7 x8 x9 x10 x11 x12 x13 x14 x15):=by
 unfold F315
 have z0:=g0.1
 have z1:=g1.1
 have z2:=g2.1
 have z3:=g3.1
 have z4:=g4.1
 have z5:=g5.1
 have z6:=g6.1
 refine T315v1 u hu _ _ _ _ _ _ _ _ _ _ _ _ _ _ _ (by assumption) (by assumption) (by assumption) (by assumption) (by assumption) (by assumption) (by assumption) _ ?_ _ ?_ _ ?_ u _ (by omega) (by omega)
 ·intro x57
  exact ⟨_,rfl,trivial⟩
 ·intro x58 x59 x60
  exact ⟨_,rfl,trivial⟩
 ·refine T315v2 u hu _ _ _ _ _ _ _ _ _ _ _ _ _ _ _ (by assumption) (by assumption) (by assumption) (by assumption) (by assumption) (by assumption) (by assumption) _ ?_ u _ _ (by omega) (by omega)
  ·intro x97
   refine tD (fun h=>?_) (fun h=>?_)
   ·exact ⟨_,rfl,trivial⟩
   ·exact ⟨_,rfl,trivial⟩
theorem TF316 (u:Nat) (hu:4000000≤u) (x1 x2 x3:ByteArray) (x4 x5 x6:Int) (g0:x1.size≤1048575) (g1:x2.size≤1048575) (g2:x3.size≤1048575):Tot (fun _=>True) (F316 u x1 x2 x3 x4 x5 x6):=by
 unfold F316
 refine tO (TF301 u hu _ (by assumption)) (fun x7 hx7 fx7=>?_)
 refine tI (fun h=>?_) (fun h=>?_)
 ·refine tO (TF301 u hu _ (by assumption)) (fun x8 hx8 fx8=>?_)
  refine tI (fun h=>?_) (fun h=>?_)
  ·refine tO (TF301 u hu _ (by assumption)) (fun x9 hx9 fx9=>?_)
   refine tI (fun h=>?_) (fun h=>?_)
   ·exact ⟨_,rfl,trivial⟩
   ·refine tSq (fun h=>?_) (fun h=>?_)
    ·exact ⟨_,rfl,trivial⟩
    ·refine tNet (fun h=>?_) (fun h=>?_)
     ·refine tNe (fun h=>?_) (fun h=>?_)
      ·exact ⟨_,rfl,trivial⟩
      ·refine tDf (fun h=>?_) (fun h=>?_)
       ·refine tDf (fun h=>?_) (fun h=>?_)
        ·refine tDf (fun h=>?_) (fun h=>?_)
         ·refine tD (fun h=>?_) (fun h=>?_)
          ·exact ⟨_,rfl,trivial⟩
          ·exact ⟨_,rfl,trivial⟩
         ·exact ⟨_,rfl,trivial⟩
        ·exact ⟨_,rfl,trivial⟩
       ·exact ⟨_,rfl,trivial⟩
     ·refine tDf (fun h=>?_) (fun h=>?_)
      ·refine tDf (fun h=>?_) (fun h=>?_)
       ·refine tDf (fun h=>?_) (fun h=>?_)
        ·refine tD (fun h=>?_) (fun h=>?_)
         ·exact ⟨_,rfl,trivial⟩
         ·exact ⟨_,rfl,trivial⟩
        ·exact ⟨_,rfl,trivial⟩
       ·exact ⟨_,rfl,trivial⟩
      ·exact ⟨_,rfl,trivial⟩
  ·exact ⟨_,rfl,trivial⟩
 ·exact ⟨_,rfl,trivial⟩
theorem T317v1 (u:Nat) (hu:4000000≤u) (p0:ByteArray) (p1:Nat) (p2:FF) (p3:Nat) (p4:FF) (p5:Nat) (p6:FF) (p7:Nat) (p8:FF) (p9:Nat) (p10:FF) (g0:SlU kNU p1 p2) (g1:SlU kR0 p3 p4) (g2:SlU kSU p5 p6) (g3:SlU kKU p7 p8) (g4:SlU kEU p9 p10) (k0:Int→Option ρ) (hk0:∀ a0,Tot P (k0 a0)) (k1:ByteArray→Int→Int→ByteArray→ByteArray→Int→Nat→FF→Nat→FF→ByteArray→Int→Int→Int→Int→Int→Int→Int→Int→Int→ByteArray→Int→Int→ByteArray→ByteArray→Int→Nat→FF→Nat→FF→ByteArray→Int→Int→Int→Int→Int→Int→Int→Int→Int→Option ρ) (hk1:∀ a0 a1 a2 a3 a4 a5 a6 a7 a8 a9 a10 a11 a12 a13 a14 a15 a16 a17 a18 a19 a20 a21 a22 a23 a24 a25 a26 a27 a28 a29 a30 a31 a32 a33 a34 a35 a36 a37 a38 a39,Tot P (k1 a0 a1 a2 a3 a4 a5 a6 a7 a8 a9 a10 a11 a12 a13 a14 a15 a16 a17 a18 a19 a20 a21 a22 a23 a24 a25 a26 a27 a28 a29 a30 a31 a32 a33 a34 a35 a36 a37 a38 a39)) (k2:Option ρ) (hk2:Tot P (k2)):∀ (t:Nat) (v0:Int),(0≤v0)→(((p5:Nat):Int)-v0).toNat<t→Tot P (L317v1 u p0 p1 p2 p3 p4 p5 p6 p7 p8 p9 p10 t v0 k0 k1 k2)
 | 0,_,_,h=>absurd h (Nat.not_lt_zero _)
 | t+1,v0,e0,hm=>by
  have z0:=g0.1
  have z1:=g1.1
  have z2:=g2.1
  have z3:=g3.1
  have z4:=g4.1
  unfold L317v1
  refine tD (fun h=>?_) (fun h=>?_)
  ·simp only [Int.ofNat_eq_natCast] at h
   refine tN ?_
   refine tO (TF316 u hu _ _ _ _ _ _ (by exact SlU.str (by assumption) (by omega) (by decide) (by rfl)) (by exact SlU.str (by assumption) (by omega) (by decide) (by rfl)) (by exact SlU.str (by assumption) (by omega) (by decide) (by rfl))) (fun x40 hx40 fx40=>?_)
   refine tNe (fun h=>?_) (fun h=>?_)
   ·exact hk0 _
   ·refine tN ?_
    refine tO (TF303 u hu _ _ _ _ _ _ _ _ _ _ _ _ (by assumption) (by assumption) (by assumption) (by assumption) (by assumption)) (fun x41 hx41 fx41=>?_)
    refine tN ?_
    refine tO (TF303 u hu _ _ _ _ _ _ _ _ _ _ _ _ (by assumption) (by assumption) (by assumption) (by assumption) (by assumption)) (fun x42 hx42 fx42=>?_)
    refine tI (fun h=>?_) (fun h=>?_)
    ·refine tI (fun h=>?_) (fun h=>?_)
     ·exact hk1 _ _ _ _ _ _ _ _ _ _ _ _ _ _ _ _ _ _ _ _ _ _ _ _ _ _ _ _ _ _ _ _ _ _ _ _ _ _ _ _
     ·have hw0:w64 (v0+1)=v0+1:=w64_of (by omega) (by omega)
      exact T317v1 u hu p0 p1 p2 p3 p4 p5 p6 p7 p8 p9 p10 g0 g1 g2 g3 g4 k0 hk0 k1 hk1 k2 hk2 t _ (by omega) (by omega)
    ·exact hk1 _ _ _ _ _ _ _ _ _ _ _ _ _ _ _ _ _ _ _ _ _ _ _ _ _ _ _ _ _ _ _ _ _ _ _ _ _ _ _ _
  ·simp only [Int.ofNat_eq_natCast] at h
   exact hk2
theorem TF317 (u:Nat) (hu:4000000≤u) (x1:ByteArray) (x2:Nat) (x3:FF) (x4:Nat) (x5:FF) (x6:Nat) (x7:FF) (x8:Nat) (x9:FF) (x10:Nat) (x11:FF) (g0:SlU kNU x2 x3) (g1:SlU kR0 x4 x5) (g2:SlU kSU x6 x7) (g3:SlU kKU x8 x9) (g4:SlU kEU x10 x11):Tot (fun _=>True) (F317 u x1 x2 x3 x4 x5 x6 x7 x8 x9 x10 x11):=by
 unfold F317
 have z0:=g0.1
 have z1:=g1.1
 have z2:=g2.1
 have z3:=g3.1
 have z4:=g4.1
 refine T317v1 u hu _ _ _ _ _ _ _ _ _ _ _ (by assumption) (by assumption) (by assumption) (by assumption) (by assumption) _ ?_ _ ?_ _ ?_ u _ (by omega) (by omega)
 ·intro x84
  exact ⟨_,rfl,trivial⟩
 ·intro x85 x86 x87 x88 x89 x90 x91 x92 x93 x94 x95 x96 x97 x98 x99 x100 x101 x102 x103 x104 x105 x106 x107 x108 x109 x110 x111 x112 x113 x114 x115 x116 x117 x118 x119 x120 x121 x122 x123 x124
  exact ⟨_,rfl,trivial⟩
 ·exact ⟨_,rfl,trivial⟩
theorem TF318 (u:Nat) (hu:4000000≤u) (x1:ByteArray) (x2:Nat) (x3:FF) (x4:Nat) (x5:FF) (x6:Nat) (x7:FF) (x8:Nat) (x9:FF) (x10:Nat) (x11:FF) (x12:ByteArray) (g0:SlU kNU x2 x3) (g1:SlU kR0 x4 x5) (g2:SlU kSU x6 x7) (g3:SlU kKU x8 x9) (g4:SlU kEU x10 x11):Tot (fun r=>r=true→IsBl x2 x3 x12) (F318 u x1 x2 x3 x4 x5 x6 x7 x8 x9 x10 x11 x12):=by
 unfold F318
 have z0:=g0.1
 have z1:=g1.1
 have z2:=g2.1
 have z3:=g3.1
 have z4:=g4.1
 refine tO (TF294 u hu _ _ _ _ _ _ _ _ _ _ _ _ (by assumption) (by assumption) (by assumption) (by assumption) (by assumption)) (fun x13 hx13 fx13=>?_)
 refine tI (fun h=>?_) (fun h=>?_)
 ·exact ⟨_,rfl,(by (intro hh;obtain ⟨j,j1,j2,j3⟩:=hx13 (by simpa using h);exact ⟨j,j1,j2,by rw [← j3];simpa using hh⟩))⟩
 ·exact ⟨_,rfl,(by (intro hh;cases hh;done))⟩
theorem T319v1 (u:Nat) (hu:4000000≤u) (p0:ByteArray) (p1:ByteArray) (p2:Nat) (p3:FF) (p4:Nat) (p5:FF) (p6:Nat) (p7:FF) (p8:Nat) (p9:FF) (p10:Nat) (p11:FF) (g0:SlU kNU p2 p3) (g1:SlU kR0 p4 p5) (g2:SlU kSU p6 p7) (g3:SlU kKU p8 p9) (g4:SlU kEU p10 p11) (k0:ByteArray→ByteArray→Nat→FF→Int→Nat→FF→Option ρ) (hk0:∀ a0 a1 a2 a3 a4 a5 a6,(∃ j,j<p8∧CV.str (p9 j 0)=p0)→Tot P (k0 a0 a1 a2 a3 a4 a5 a6)) (k1:Option ρ) (hk1:Tot P (k1)):∀ (t:Nat) (v0:Int),(0≤v0)→(((p8:Nat):Int)-v0).toNat<t→Tot P (L319v1 u p0 p1 p2 p3 p4 p5 p6 p7 p8 p9 p10 p11 t v0 k0 k1)
 | 0,_,_,h=>absurd h (Nat.not_lt_zero _)
 | t+1,v0,e0,hm=>by
  have z0:=g0.1
  have z1:=g1.1
  have z2:=g2.1
  have z3:=g3.1
  have z4:=g4.1
  unfold L319v1
  refine tD (fun h=>?_) (fun h=>?_)
  ·simp only [Int.ofNat_eq_natCast] at h
   refine tN ?_
   refine tSq (fun h=>?_) (fun h=>?_)
   ·refine tN ?_
    exact hk0 _ _ _ _ _ _ _ ⟨Int.toNat v0,by omega,by assumption⟩
   ·have hw0:w64 (v0+1)=v0+1:=w64_of (by omega) (by omega)
    exact T319v1 u hu p0 p1 p2 p3 p4 p5 p6 p7 p8 p9 p10 p11 g0 g1 g2 g3 g4 k0 hk0 k1 hk1 t _ (by omega) (by omega)
  ·simp only [Int.ofNat_eq_natCast] at h
   exact hk1
theorem TF319 (u:Nat) (hu:4000000≤u) (x1:ByteArray) (x2:Nat) (x3:FF) (x4:Nat) (x5:FF) (x6:Nat) (x7:FF) (x8:Nat) (x9:FF) (x10:Nat) (x11:FF) (x12:ByteArray) (g0:SlU kNU x2 x3) (g1:SlU kR0 x4 x5) (g2:SlU kSU x6 x7) (g3:SlU kKU x8 x9) (g4:SlU kEU x10 x11):Tot (fun r=>r.2.2.2.2.2.2.2=true→IsPk x8 x9 x12) (F319 u x1 x2 x3 x4 x5 x6 x7 x8 x9 x10 x11 x12):=by
 unfold F319 FT319
 refine tO (R:=fun t=>t.1=true→IsPk x8 x9 x12) ?_ fun r hr _=>⟨_,rfl,by cases hb:r.1 with | true=>exact fun _=>hr hb | false=>exact fun h=>by cases h⟩
 have z0:=g0.1
 have z1:=g1.1
 have z2:=g2.1
 have z3:=g3.1
 have z4:=g4.1
 refine T319v1 u hu _ _ _ _ _ _ _ _ _ _ _ _ (by assumption) (by assumption) (by assumption) (by assumption) (by assumption) _ ?_ _ ?_ u _ (by omega) (by omega)
 ·intro x45 x46 x47 x48 x49 x50 x51 q0
  exact ⟨_,rfl,(by exact fun _=>q0)⟩
 ·exact ⟨_,rfl,(by (intro h;cases h))⟩
theorem TF320 (u:Nat) (hu:4000000≤u) (x1:ByteArray) (x2:Nat) (x3:FF) (x4:Nat) (x5:FF) (x6:Nat) (x7:FF) (x8:Nat) (x9:FF) (x10:Nat) (x11:FF) (x12:ByteArray) (g0:SlU kNU x2 x3) (g1:SlU kR0 x4 x5) (g2:SlU kSU x6 x7) (g3:SlU kKU x8 x9) (g4:SlU kEU x10 x11):Tot (fun _=>True) (F320 u x1 x2 x3 x4 x5 x6 x7 x8 x9 x10 x11 x12):=by
 unfold F320
 have z0:=g0.1
 have z1:=g1.1
 have z2:=g2.1
 have z3:=g3.1
 have z4:=g4.1
 refine tO (TF294 u hu _ _ _ _ _ _ _ _ _ _ _ _ (by assumption) (by assumption) (by assumption) (by assumption) (by assumption)) (fun x13 hx13 fx13=>?_)
 refine tI (fun h=>?_) (fun h=>?_)
 ·refine tO (TF303 u hu _ _ _ _ _ _ _ _ _ _ _ _ (by assumption) (by assumption) (by assumption) (by assumption) (by assumption)) (fun x14 hx14 fx14=>?_)
  refine tI (fun h=>?_) (fun h=>?_)
  ·refine tO (TF302 u hu _ _ _ _ _ _ _ _ _ _ _ _ (by assumption) (by assumption) (by assumption) (by assumption) (by assumption)) (fun x15 hx15 fx15=>?_)
   obtain ⟨mx15,nx15⟩:=hx15
   refine tI (fun h=>?_) (fun h=>?_)
   ·exact ⟨_,rfl,trivial⟩
   ·have qx15:=nx15 (by simpa using h)
    have hw0:w64 (((x15.1:Nat):Int)-1)=((x15.1:Nat):Int)-1:=w64_of (by omega) (by omega)
    refine tN ?_ (by simp only [Int.ofNat_eq_natCast];omega) (by simp only [Int.ofNat_eq_natCast];omega)
    exact ⟨_,rfl,trivial⟩
  ·refine tO (TF319 u hu _ _ _ _ _ _ _ _ _ _ _ _ (by assumption) (by assumption) (by assumption) (by assumption) (by assumption)) (fun x16 hx16 fx16=>?_)
   refine tI (fun h=>?_) (fun h=>?_)
   ·refine tO (TF294 u hu _ _ _ _ _ _ _ _ _ _ _ _ (by assumption) (by assumption) (by assumption) (by assumption) (by assumption)) (fun x17 hx17 fx17=>?_)
    refine tI (fun h=>?_) (fun h=>?_)
    ·refine tNe (fun h=>?_) (fun h=>?_)
     ·exact ⟨_,rfl,trivial⟩
     ·exact ⟨_,rfl,trivial⟩
    ·exact ⟨_,rfl,trivial⟩
   ·exact ⟨_,rfl,trivial⟩
 ·refine tO (TF302 u hu _ _ _ _ _ _ _ _ _ _ _ _ (by assumption) (by assumption) (by assumption) (by assumption) (by assumption)) (fun x18 hx18 fx18=>?_)
  obtain ⟨mx18,nx18⟩:=hx18
  refine tI (fun h=>?_) (fun h=>?_)
  ·exact ⟨_,rfl,trivial⟩
  ·have qx18:=nx18 (by simpa using h)
   have hw0:w64 (((x18.1:Nat):Int)-1)=((x18.1:Nat):Int)-1:=w64_of (by omega) (by omega)
   refine tN ?_ (by simp only [Int.ofNat_eq_natCast];omega) (by simp only [Int.ofNat_eq_natCast];omega)
   exact ⟨_,rfl,trivial⟩
theorem T321v2 (u:Nat) (hu:4000000≤u) (p0:Int) (p1:Int) (p2:ByteArray) (p3:Nat) (p4:FF) (p5:Nat) (p6:FF) (p7:Nat) (p8:FF) (p9:Nat) (p10:FF) (p11:Nat) (p12:FF) (p13:ByteArray) (p14:ByteArray) (p15:Nat) (p16:FF) (p17:Int) (p18:Nat) (p19:FF) (p20:ByteArray) (p21:Int) (p22:Int) (p23:ByteArray) (p24:ByteArray) (p25:Int) (p26:Nat) (p27:FF) (p28:Nat) (p29:FF) (p30:ByteArray) (p31:Int) (p32:Int) (p33:Int) (p34:Int) (p35:Int) (p36:Int) (p37:Int) (p38:Int) (p39:Int) (g0:SlU kNU p3 p4) (g1:SlU kR0 p5 p6) (g2:SlU kSU p7 p8) (g3:SlU kKU p9 p10) (g4:SlU kEU p11 p12) (g5:p0≤((p9:Nat):Int)) (k0:Option ρ) (hk0:Tot P (k0)) (k1:Option ρ) (hk1:Tot P (k1)):∀ (t:Nat) (v0:Int),(0≤v0)→((p0:Int)-v0).toNat<t→Tot P (L321v2 u p0 p1 p2 p3 p4 p5 p6 p7 p8 p9 p10 p11 p12 p13 p14 p15 p16 p17 p18 p19 p20 p21 p22 p23 p24 p25 p26 p27 p28 p29 p30 p31 p32 p33 p34 p35 p36 p37 p38 p39 t v0 k0 k1)
 | 0,_,_,h=>absurd h (Nat.not_lt_zero _)
 | t+1,v0,e0,hm=>by
  have z0:=g0.1
  have z1:=g1.1
  have z2:=g2.1
  have z3:=g3.1
  have z4:=g4.1
  unfold L321v2
  refine tD (fun h=>?_) (fun h=>?_)
  ·refine tN ?_
   refine tO (TF264 u hu _ _ _ (by exact Nat.le_trans (SlU.sl (by assumption) (by omega) (by decide) (by rfl)).1 (by omega))) (fun x222 hx222 fx222=>?_)
   refine tI (fun h=>?_) (fun h=>?_)
   ·exact hk0
   ·have hw0:w64 (v0+1)=v0+1:=w64_of (by omega) (by omega)
    exact T321v2 u hu p0 p1 p2 p3 p4 p5 p6 p7 p8 p9 p10 p11 p12 p13 p14 p15 p16 p17 p18 p19 p20 p21 p22 p23 p24 p25 p26 p27 p28 p29 p30 p31 p32 p33 p34 p35 p36 p37 p38 p39 g0 g1 g2 g3 g4 g5 k0 hk0 k1 hk1 t _ (by omega) (by omega)
  ·exact hk1
theorem T321v3 (u:Nat) (hu:4000000≤u) (p0:Int) (p1:ByteArray) (p2:Nat) (p3:FF) (p4:Nat) (p5:FF) (p6:Nat) (p7:FF) (p8:Nat) (p9:FF) (p10:Nat) (p11:FF) (p12:ByteArray) (p13:ByteArray) (p14:Nat) (p15:FF) (p16:Int) (p17:Nat) (p18:FF) (g0:SlU kNU p2 p3) (g1:SlU kR0 p4 p5) (g2:SlU kSU p6 p7) (g3:SlU kKU p8 p9) (g4:SlU kEU p10 p11) (g5:p14≤2000000) (g6:0≤p0∧p0<((p8:Nat):Int)) (k0:Int→ByteArray→Int→Int→ByteArray→ByteArray→Int→Nat→FF→Nat→FF→ByteArray→Int→Int→Int→Int→Int→Int→Int→Int→Int→Option ρ) (hk0:∀ a0 a1 a2 a3 a4 a5 a6 a7 a8 a9 a10 a11 a12 a13 a14 a15 a16 a17 a18 a19 a20,Tot P (k0 a0 a1 a2 a3 a4 a5 a6 a7 a8 a9 a10 a11 a12 a13 a14 a15 a16 a17 a18 a19 a20)) (k1:Option ρ) (hk1:Tot P (k1)):∀ (t:Nat) (v0:Int),(0≤v0)→(((p14:Nat):Int)-v0).toNat<t→Tot P (L321v3 u p0 p1 p2 p3 p4 p5 p6 p7 p8 p9 p10 p11 p12 p13 p14 p15 p16 p17 p18 t v0 k0 k1)
 | 0,_,_,h=>absurd h (Nat.not_lt_zero _)
 | t+1,v0,e0,hm=>by
  have z0:=g0.1
  have z1:=g1.1
  have z2:=g2.1
  have z3:=g3.1
  have z4:=g4.1
  unfold L321v3
  refine tD (fun h=>?_) (fun h=>?_)
  ·simp only [Int.ofNat_eq_natCast] at h
   refine tN ?_
   refine tO (TF303 u hu _ _ _ _ _ _ _ _ _ _ _ _ (by assumption) (by assumption) (by assumption) (by assumption) (by assumption)) (fun x138 hx138 fx138=>?_)
   refine tI (fun h=>?_) (fun h=>?_)
   ·exact hk0 _ _ _ _ _ _ _ _ _ _ _ _ _ _ _ _ _ _ _ _ _
   ·refine tNet (fun h=>?_) (fun h=>?_)
    ·refine tNe (fun h=>?_) (fun h=>?_)
     ·exact hk0 _ _ _ _ _ _ _ _ _ _ _ _ _ _ _ _ _ _ _ _ _
     ·refine tO (TF320 u hu _ _ _ _ _ _ _ _ _ _ _ _ (by assumption) (by assumption) (by assumption) (by assumption) (by assumption)) (fun x139 hx139 fx139=>?_)
      refine tI (fun h=>?_) (fun h=>?_)
      ·exact hk0 _ _ _ _ _ _ _ _ _ _ _ _ _ _ _ _ _ _ _ _ _
      ·refine T321v2 u hu _ _ _ _ _ _ _ _ _ _ _ _ _ _ _ _ _ _ _ _ _ _ _ _ _ _ _ _ _ _ _ _ _ _ _ _ _ _ _ _ (by assumption) (by assumption) (by assumption) (by assumption) (by assumption) (by omega) _ ?_ _ ?_ u _ (by omega) (by omega)
       ·exact hk0 _ _ _ _ _ _ _ _ _ _ _ _ _ _ _ _ _ _ _ _ _
       ·have hw0:w64 (v0+1)=v0+1:=w64_of (by omega) (by omega)
        exact T321v3 u hu p0 p1 p2 p3 p4 p5 p6 p7 p8 p9 p10 p11 p12 p13 p14 p15 p16 p17 p18 g0 g1 g2 g3 g4 g5 g6 k0 hk0 k1 hk1 t _ (by omega) (by omega)
    ·refine tO (TF320 u hu _ _ _ _ _ _ _ _ _ _ _ _ (by assumption) (by assumption) (by assumption) (by assumption) (by assumption)) (fun x223 hx223 fx223=>?_)
     refine tI (fun h=>?_) (fun h=>?_)
     ·exact hk0 _ _ _ _ _ _ _ _ _ _ _ _ _ _ _ _ _ _ _ _ _
     ·refine T321v2 u hu _ _ _ _ _ _ _ _ _ _ _ _ _ _ _ _ _ _ _ _ _ _ _ _ _ _ _ _ _ _ _ _ _ _ _ _ _ _ _ _ (by assumption) (by assumption) (by assumption) (by assumption) (by assumption) (by omega) _ ?_ _ ?_ u _ (by omega) (by omega)
      ·exact hk0 _ _ _ _ _ _ _ _ _ _ _ _ _ _ _ _ _ _ _ _ _
      ·have hw0:w64 (v0+1)=v0+1:=w64_of (by omega) (by omega)
       exact T321v3 u hu p0 p1 p2 p3 p4 p5 p6 p7 p8 p9 p10 p11 p12 p13 p14 p15 p16 p17 p18 g0 g1 g2 g3 g4 g5 g6 k0 hk0 k1 hk1 t _ (by omega) (by omega)
  ·simp only [Int.ofNat_eq_natCast] at h
   exact hk1
theorem TF321 (u:Nat) (hu:4000000≤u) (x1:ByteArray) (x2:Nat) (x3:FF) (x4:Nat) (x5:FF) (x6:Nat) (x7:FF) (x8:Nat) (x9:FF) (x10:Nat) (x11:FF) (x12:Int) (g0:SlU kNU x2 x3) (g1:SlU kR0 x4 x5) (g2:SlU kSU x6 x7) (g3:SlU kKU x8 x9) (g4:SlU kEU x10 x11) (g5:0≤x12∧x12<((x8:Nat):Int)):Tot (fun _=>True) (F321 u x1 x2 x3 x4 x5 x6 x7 x8 x9 x10 x11 x12):=by
 unfold F321
 have z0:=g0.1
 have z1:=g1.1
 have z2:=g2.1
 have z3:=g3.1
 have z4:=g4.1
 have zl:=(SlU.sl g3 (i:=Int.toNat x12) (j:=2) (by omega) (by decide) (by rfl)).1
 refine tN ?_
 refine T321v3 u hu _ _ _ _ _ _ _ _ _ _ _ _ _ _ _ _ _ _ _ (by assumption) (by assumption) (by assumption) (by assumption) (by assumption) (by omega) (by assumption) _ ?_ _ ?_ u _ (by omega) (by omega)
 ·intro x245 x246 x247 x248 x249 x250 x251 x252 x253 x254 x255 x256 x257 x258 x259 x260 x261 x262 x263 x264 x265
  exact ⟨_,rfl,trivial⟩
 ·exact ⟨_,rfl,trivial⟩
theorem TF229 (u:Nat) (hu:4000000≤u) (x1:Int) (x2:Nat) (x3:FF) (h:x2≤1000000):Tot (fun _=>True) (F229 u x1 x2 x3):=by
 obtain ⟨k,g,c,e,_⟩:=order229 u x1 x2 x3 h (by omega) (by omega)
 exact ⟨_,e,trivial⟩
theorem T322v5 (u:Nat) (hu:4000000≤u) (p0:Nat) (p1:FF) (p2:Int) (p3:Int) (p4:ByteArray) (p5:Nat) (p6:FF) (p7:Nat) (p8:FF) (p9:Nat) (p10:FF) (p11:Nat) (p12:FF) (p13:Nat) (p14:FF) (p15:ByteArray) (p16:ByteArray) (p17:Nat) (p18:FF) (p19:Int) (p20:Nat) (p21:FF) (g0:0≤p2∧p2≤64) (g1:0≤p3∧p3<((p20:Nat):Int)) (g2:p0≤64) (g3:p20≤64) (k0:Nat→FF→Option ρ) (hk0:∀ a0 a1,(((a0:Nat):Int)≤p2*4096+p3*64+64)→Tot P (k0 a0 a1)):∀ (t:Nat) (v0:Nat) (v1:Int) (v2:FF),(0≤v1)→(v1≤((p0:Nat):Int))→(((v0:Nat):Int)≤p2*4096+p3*64+v1)→(((p0:Nat):Int)-v1).toNat<t→Tot P (L322v5 u p0 p1 p2 p3 p4 p5 p6 p7 p8 p9 p10 p11 p12 p13 p14 p15 p16 p17 p18 p19 p20 p21 t v0 v1 v2 k0)
 | 0,_,_,_,_,_,_,h=>absurd h (Nat.not_lt_zero _)
 | t+1,v0,v1,v2,e0,e1,e2,hm=>by
  unfold L322v5
  refine tD (fun h=>?_) (fun h=>?_)
  ·simp only [Int.ofNat_eq_natCast] at h
   refine tN ?_
   refine tN ?_
   refine tSq (fun h=>?_) (fun h=>?_)
   ·refine tB (by omega) ?_
    have hw0:w64 (v1+1)=v1+1:=w64_of (by omega) (by omega)
    exact T322v5 u hu p0 p1 p2 p3 p4 p5 p6 p7 p8 p9 p10 p11 p12 p13 p14 p15 p16 p17 p18 p19 p20 p21 g0 g1 g2 g3 k0 hk0 t _ _ _ (by omega) (by omega) (by omega) (by omega)
   ·have hw0:w64 (v1+1)=v1+1:=w64_of (by omega) (by omega)
    exact T322v5 u hu p0 p1 p2 p3 p4 p5 p6 p7 p8 p9 p10 p11 p12 p13 p14 p15 p16 p17 p18 p19 p20 p21 g0 g1 g2 g3 k0 hk0 t _ _ _ (by omega) (by omega) (by omega) (by omega)
  ·simp only [Int.ofNat_eq_natCast] at h
   exact hk0 _ _ (by omega)
theorem T322v6 (u:Nat) (hu:4000000≤u) (p0:Nat) (p1:FF) (p2:Int) (p3:ByteArray) (p4:Nat) (p5:FF) (p6:Nat) (p7:FF) (p8:Nat) (p9:FF) (p10:Nat) (p11:FF) (p12:Nat) (p13:FF) (p14:ByteArray) (p15:ByteArray) (p16:Nat) (p17:FF) (p18:Int) (p19:Nat) (p20:FF) (g0:0≤p2∧p2≤64) (g1:p0≤64) (g2:p19≤64) (k0:Int→Nat→FF→Option ρ) (hk0:∀ a0 a1 a2,Tot P (k0 a0 a1 a2)) (k1:Nat→FF→Option ρ) (hk1:∀ a0 a1,(((a0:Nat):Int)≤p2*4096+4096)→Tot P (k1 a0 a1)):∀ (t:Nat) (v0:Nat) (v1:Int) (v2:FF),(0≤v1)→(v1≤((p19:Nat):Int))→(((v0:Nat):Int)≤p2*4096+v1*64)→(((p19:Nat):Int)-v1).toNat<t→Tot P (L322v6 u p0 p1 p2 p3 p4 p5 p6 p7 p8 p9 p10 p11 p12 p13 p14 p15 p16 p17 p18 p19 p20 t v0 v1 v2 k0 k1)
 | 0,_,_,_,_,_,_,h=>absurd h (Nat.not_lt_zero _)
 | t+1,v0,v1,v2,e0,e1,e2,hm=>by
  unfold L322v6
  refine tD (fun h=>?_) (fun h=>?_)
  ·simp only [Int.ofNat_eq_natCast] at h
   refine tN ?_
   refine tSq (fun h=>?_) (fun h=>?_)
   ·exact hk0 _ _ _
   ·refine tN ?_
    refine tO (TF264 u hu _ _ _ (by omega)) (fun x304 hx304 fx304=>?_)
    refine tI (fun h=>?_) (fun h=>?_)
    ·exact hk0 _ _ _
    ·refine T322v5 u hu _ _ _ _ _ _ _ _ _ _ _ _ _ _ _ _ _ _ _ _ _ _ (by assumption) (by omega) (by assumption) (by assumption) _ ?_ u _ _ _ (by omega) (by omega) (by omega) (by omega)
     ·intro x356 x357 q0
      have hw0:w64 (v1+1)=v1+1:=w64_of (by omega) (by omega)
      exact T322v6 u hu p0 p1 p2 p3 p4 p5 p6 p7 p8 p9 p10 p11 p12 p13 p14 p15 p16 p17 p18 p19 p20 g0 g1 g2 k0 hk0 k1 hk1 t _ _ _ (by omega) (by omega) (by omega) (by omega)
  ·simp only [Int.ofNat_eq_natCast] at h
   exact hk1 _ _ (by omega)
theorem T322v7 (u:Nat) (hu:4000000≤u) (p0:Nat) (p1:FF) (p2:ByteArray) (p3:Nat) (p4:FF) (p5:Nat) (p6:FF) (p7:Nat) (p8:FF) (p9:Nat) (p10:FF) (p11:Nat) (p12:FF) (g0:SlU kNU p3 p4) (g1:SlU kR0 p5 p6) (g2:SlU kSU p7 p8) (g3:SlU kKU p9 p10) (g4:SlU kEU p11 p12) (g5:p0≤64) (g6:p9≤64) (g7:∀ i,i<p9→CV.len (p10 i 4)≤64) (k0:Int→Nat→FF→ByteArray→ByteArray→Nat→FF→Int→Nat→FF→Option ρ) (hk0:∀ a0 a1 a2 a3 a4 a5 a6 a7 a8 a9,Tot P (k0 a0 a1 a2 a3 a4 a5 a6 a7 a8 a9)) (k1:Nat→FF→Option ρ) (hk1:∀ a0 a1,a0≤1000000→Tot P (k1 a0 a1)):∀ (t:Nat) (v0:Nat) (v1:Int) (v2:FF),(0≤v1)→(v1≤((p9:Nat):Int))→(((v0:Nat):Int)≤v1*4096)→(((p9:Nat):Int)-v1).toNat<t→Tot P (L322v7 u p0 p1 p2 p3 p4 p5 p6 p7 p8 p9 p10 p11 p12 t v0 v1 v2 k0 k1)
 | 0,_,_,_,_,_,_,h=>absurd h (Nat.not_lt_zero _)
 | t+1,v0,v1,v2,e0,e1,e2,hm=>by
  have z0:=g0.1
  have z1:=g1.1
  have z2:=g2.1
  have z3:=g3.1
  have z4:=g4.1
  have zz:0≤v1∧v1<((p9:Nat):Int)→CV.len (p10 (Int.toNat v1) 4)≤64:=fun h=>g7 (Int.toNat v1) (by omega)
  unfold L322v7
  refine tD (fun h=>?_) (fun h=>?_)
  ·simp only [Int.ofNat_eq_natCast] at h
   refine tN ?_
   refine tO (TF301 u hu _ (by exact SlU.str (by assumption) (by omega) (by decide) (by rfl))) (fun x200 hx200 fx200=>?_)
   refine tI (fun h=>?_) (fun h=>?_)
   ·exact hk0 _ _ _ _ _ _ _ _ _ _
   ·refine tO (TF318 u hu _ _ _ _ _ _ _ _ _ _ _ _ (by assumption) (by assumption) (by assumption) (by assumption) (by assumption)) (fun x201 hx201 fx201=>?_)
    refine tI (fun h=>?_) (fun h=>?_)
    ·exact hk0 _ _ _ _ _ _ _ _ _ _
    ·refine tDf (fun h=>?_) (fun h=>?_)
     ·refine tD (fun h=>?_) (fun h=>?_)
      ·exact hk0 _ _ _ _ _ _ _ _ _ _
      ·refine tO (TF291 u hu _ _ (by exact Nat.le_trans (SlU.sl (by assumption) (by omega) (by decide) (by rfl)).1 (by omega))) (fun x202 hx202 fx202=>?_)
       refine tI (fun h=>?_) (fun h=>?_)
       ·refine tO (TF291 u hu _ _ (by omega)) (fun x203 hx203 fx203=>?_)
        refine tI (fun h=>?_) (fun h=>?_)
        ·exact hk0 _ _ _ _ _ _ _ _ _ _
        ·refine tO (TF321 u hu _ _ _ _ _ _ _ _ _ _ _ _ (by assumption) (by assumption) (by assumption) (by assumption) (by assumption) (by omega)) (fun x204 hx204 fx204=>?_)
         refine tNe (fun h=>?_) (fun h=>?_)
         ·exact hk0 _ _ _ _ _ _ _ _ _ _
         ·refine T322v6 u hu _ _ _ _ _ _ _ _ _ _ _ _ _ _ _ _ _ _ _ _ _ (by omega) (by assumption) (by omega) _ ?_ _ ?_ u _ _ _ (by omega) (by omega) (by omega) (by omega)
          ·intro x363 x364 x365
           exact hk0 _ _ _ _ _ _ _ _ _ _
          ·intro x366 x367 q0
           have hw0:w64 (v1+1)=v1+1:=w64_of (by omega) (by omega)
           exact T322v7 u hu p0 p1 p2 p3 p4 p5 p6 p7 p8 p9 p10 p11 p12 g0 g1 g2 g3 g4 g5 g6 g7 k0 hk0 k1 hk1 t _ _ _ (by omega) (by omega) (by omega) (by omega)
       ·exact hk0 _ _ _ _ _ _ _ _ _ _
     ·exact hk0 _ _ _ _ _ _ _ _ _ _
  ·simp only [Int.ofNat_eq_natCast] at h
   exact hk1 _ _ (by omega)
theorem TF322 (u:Nat) (hu:4000000≤u) (x1:ByteArray) (x2:Nat) (x3:FF) (x4:Nat) (x5:FF) (x6:Nat) (x7:FF) (x8:Nat) (x9:FF) (x10:Nat) (x11:FF) (g0:SlU kNU x2 x3) (g1:SlU kR0 x4 x5) (g2:SlU kSU x6 x7) (g3:SlU kKU x8 x9) (g4:SlU kEU x10 x11) (g5:x8≤64) (g6:∀ i,i<x8→CV.len (x9 i 4)≤64):Tot (fun _=>True) (F322 u x1 x2 x3 x4 x5 x6 x7 x8 x9 x10 x11):=by
 unfold F322
 have z0:=g0.1
 have z1:=g1.1
 have z2:=g2.1
 have z3:=g3.1
 have z4:=g4.1
 refine tO (TF290 u hu _ _ _ _ _ _ _ _ _ _ _ (by assumption) (by assumption) (by assumption) (by assumption)) (fun x12 hx12 fx12=>?_)
 obtain ⟨w1,w2,w3,w4,w5⟩:=hx12
 refine T322v7 u hu _ _ _ _ _ _ _ _ _ _ _ _ _ (by assumption) (by assumption) (by assumption) (by assumption) (by assumption) (by omega) (by assumption) (by assumption) _ ?_ _ ?_ u _ _ _ (by omega) (by omega) (by omega) (by omega)
 ·intro x380 x381 x382 x383 x384 x385 x386 x387 x388 x389
  exact ⟨_,rfl,trivial⟩
 ·intro x390 x391 q0
  refine tO (TF229 u hu _ _ _ (by assumption)) (fun x392 hx392 fx392=>?_)
  exact ⟨_,rfl,trivial⟩
theorem T323v1 (u:Nat) (hu:4000000≤u) (p0:ByteArray) (p1:Nat) (p2:FF) (p3:Nat) (p4:FF) (p5:Nat) (p6:FF) (p7:Nat) (p8:FF) (p9:Nat) (p10:FF) (g0:SlU kNU p1 p2) (g1:SlU kR0 p3 p4) (g2:SlU kSU p5 p6) (g3:SlU kKU p7 p8) (g4:SlU kEU p9 p10) (k0:Int→Int→ByteArray→ByteArray→Option ρ) (hk0:∀ a0 a1 a2 a3,(a0≠0)→Tot P (k0 a0 a1 a2 a3)) (k1:Int→ByteArray→ByteArray→ByteArray→ByteArray→Nat→FF→Int→Nat→FF→Option ρ) (hk1:∀ a0 a1 a2 a3 a4 a5 a6 a7 a8 a9,Tot P (k1 a0 a1 a2 a3 a4 a5 a6 a7 a8 a9)) (k2:Option ρ) (hk2:(∀ j:Nat,j<p9→NdOk p1 p2 p7 p8 p10 j)→Tot P (k2)):∀ (t:Nat) (v0:Int),(0≤v0)→(∀ j:Nat,(j:Int)<v0→NdOk p1 p2 p7 p8 p10 j)→(((p9:Nat):Int)-v0).toNat<t→Tot P (L323v1 u p0 p1 p2 p3 p4 p5 p6 p7 p8 p9 p10 t v0 k0 k1 k2)
 | 0,_,_,_,h=>absurd h (Nat.not_lt_zero _)
 | t+1,v0,e0,e1,hm=>by
  have z0:=g0.1
  have z1:=g1.1
  have z2:=g2.1
  have z3:=g3.1
  have z4:=g4.1
  unfold L323v1
  refine tD (fun h=>?_) (fun h=>?_)
  ·simp only [Int.ofNat_eq_natCast] at h
   refine tN ?_
   refine tDf (fun h=>?_) (fun h=>?_)
   ·refine tD (fun h=>?_) (fun h=>?_)
    ·exact hk0 _ _ _ _ (by decide)
    ·refine tSq (fun h=>?_) (fun h=>?_)
     ·exact hk0 _ _ _ _ (by decide)
     ·refine tO (TF319 u hu _ _ _ _ _ _ _ _ _ _ _ _ (by assumption) (by assumption) (by assumption) (by assumption) (by assumption)) (fun x51 hx51 fx51=>?_)
      refine tEqt (fun h=>?_) (fun h=>?_)
      ·refine tSqf (fun h=>?_) (fun h=>?_)
       ·refine tO (TF318 u hu _ _ _ _ _ _ _ _ _ _ _ _ (by assumption) (by assumption) (by assumption) (by assumption) (by assumption)) (fun x52 hx52 fx52=>?_)
        refine tI (fun h=>?_) (fun h=>?_)
        ·refine tEqt (fun h=>?_) (fun h=>?_)
         ·refine tO (TF318 u hu _ _ _ _ _ _ _ _ _ _ _ _ (by assumption) (by assumption) (by assumption) (by assumption) (by assumption)) (fun x53 hx53 fx53=>?_)
          refine tI (fun h=>?_) (fun h=>?_)
          ·refine tEqt (fun h=>?_) (fun h=>?_)
           ·refine tO (TF318 u hu _ _ _ _ _ _ _ _ _ _ _ _ (by assumption) (by assumption) (by assumption) (by assumption) (by assumption)) (fun x54 hx54 fx54=>?_)
            refine tI (fun h=>?_) (fun h=>?_)
            ·refine tI (fun h=>?_) (fun h=>?_)
             ·exact hk1 _ _ _ _ _ _ _ _ _ _
             ·have hw0:w64 (v0+1)=v0+1:=w64_of (by omega) (by omega)
              exact T323v1 u hu p0 p1 p2 p3 p4 p5 p6 p7 p8 p9 p10 g0 g1 g2 g3 g4 k0 hk0 k1 hk1 k2 hk2 t _ (by omega) (by omega) (by omega)
            ·exact hk1 _ _ _ _ _ _ _ _ _ _
           ·refine tO (TF318 u hu _ _ _ _ _ _ _ _ _ _ _ _ (by assumption) (by assumption) (by assumption) (by assumption) (by assumption)) (fun x55 hx55 fx55=>?_)
            refine tI (fun h=>?_) (fun h=>?_)
            ·exact hk1 _ _ _ _ _ _ _ _ _ _
            ·exact hk1 _ _ _ _ _ _ _ _ _ _
          ·refine tO (TF318 u hu _ _ _ _ _ _ _ _ _ _ _ _ (by assumption) (by assumption) (by assumption) (by assumption) (by assumption)) (fun x56 hx56 fx56=>?_)
           refine tI (fun h=>?_) (fun h=>?_)
           ·have hw0:w64 (v0+1)=v0+1:=w64_of (by omega) (by omega)
            exact T323v1 u hu p0 p1 p2 p3 p4 p5 p6 p7 p8 p9 p10 g0 g1 g2 g3 g4 k0 hk0 k1 hk1 k2 hk2 t _ (by omega) (by omega) (by omega)
           ·exact hk1 _ _ _ _ _ _ _ _ _ _
         ·refine tEqt (fun h=>?_) (fun h=>?_)
          ·refine tO (TF318 u hu _ _ _ _ _ _ _ _ _ _ _ _ (by assumption) (by assumption) (by assumption) (by assumption) (by assumption)) (fun x57 hx57 fx57=>?_)
           refine tI (fun h=>?_) (fun h=>?_)
           ·refine tI (fun h=>?_) (fun h=>?_)
            ·exact hk1 _ _ _ _ _ _ _ _ _ _
            ·have hw0:w64 (v0+1)=v0+1:=w64_of (by omega) (by omega)
             exact T323v1 u hu p0 p1 p2 p3 p4 p5 p6 p7 p8 p9 p10 g0 g1 g2 g3 g4 k0 hk0 k1 hk1 k2 hk2 t _ (by omega) (by omega) (by omega)
           ·exact hk1 _ _ _ _ _ _ _ _ _ _
          ·refine tO (TF318 u hu _ _ _ _ _ _ _ _ _ _ _ _ (by assumption) (by assumption) (by assumption) (by assumption) (by assumption)) (fun x58 hx58 fx58=>?_)
           refine tI (fun h=>?_) (fun h=>?_)
           ·exact hk1 _ _ _ _ _ _ _ _ _ _
           ·exact hk1 _ _ _ _ _ _ _ _ _ _
        ·refine tO (TF318 u hu _ _ _ _ _ _ _ _ _ _ _ _ (by assumption) (by assumption) (by assumption) (by assumption) (by assumption)) (fun x59 hx59 fx59=>?_)
         refine tI (fun h=>?_) (fun h=>?_)
         ·have hw0:w64 (v0+1)=v0+1:=w64_of (by omega) (by omega)
          exact T323v1 u hu p0 p1 p2 p3 p4 p5 p6 p7 p8 p9 p10 g0 g1 g2 g3 g4 k0 hk0 k1 hk1 k2 hk2 t _ (by omega) (by (intro j hj;exact (Nat.lt_or_ge j (Int.toNat v0)).elim (fun q=>e1 j (by omega)) (fun q=>by rw [show j=Int.toNat v0 by omega];unfold NdOk;grind))) (by omega)
         ·exact hk1 _ _ _ _ _ _ _ _ _ _
       ·refine tO (TF318 u hu _ _ _ _ _ _ _ _ _ _ _ _ (by assumption) (by assumption) (by assumption) (by assumption) (by assumption)) (fun x60 hx60 fx60=>?_)
        refine tI (fun h=>?_) (fun h=>?_)
        ·have hw0:w64 (v0+1)=v0+1:=w64_of (by omega) (by omega)
         exact T323v1 u hu p0 p1 p2 p3 p4 p5 p6 p7 p8 p9 p10 g0 g1 g2 g3 g4 k0 hk0 k1 hk1 k2 hk2 t _ (by omega) (by (intro j hj;exact (Nat.lt_or_ge j (Int.toNat v0)).elim (fun q=>e1 j (by omega)) (fun q=>by rw [show j=Int.toNat v0 by omega];unfold NdOk;grind))) (by omega)
        ·exact hk1 _ _ _ _ _ _ _ _ _ _
      ·refine tEqt (fun h=>?_) (fun h=>?_)
       ·refine tO (TF318 u hu _ _ _ _ _ _ _ _ _ _ _ _ (by assumption) (by assumption) (by assumption) (by assumption) (by assumption)) (fun x61 hx61 fx61=>?_)
        refine tI (fun h=>?_) (fun h=>?_)
        ·refine tEqt (fun h=>?_) (fun h=>?_)
         ·refine tO (TF318 u hu _ _ _ _ _ _ _ _ _ _ _ _ (by assumption) (by assumption) (by assumption) (by assumption) (by assumption)) (fun x62 hx62 fx62=>?_)
          refine tI (fun h=>?_) (fun h=>?_)
          ·refine tI (fun h=>?_) (fun h=>?_)
           ·exact hk1 _ _ _ _ _ _ _ _ _ _
           ·have hw0:w64 (v0+1)=v0+1:=w64_of (by omega) (by omega)
            exact T323v1 u hu p0 p1 p2 p3 p4 p5 p6 p7 p8 p9 p10 g0 g1 g2 g3 g4 k0 hk0 k1 hk1 k2 hk2 t _ (by omega) (by omega) (by omega)
          ·exact hk1 _ _ _ _ _ _ _ _ _ _
         ·refine tO (TF318 u hu _ _ _ _ _ _ _ _ _ _ _ _ (by assumption) (by assumption) (by assumption) (by assumption) (by assumption)) (fun x63 hx63 fx63=>?_)
          refine tI (fun h=>?_) (fun h=>?_)
          ·exact hk1 _ _ _ _ _ _ _ _ _ _
          ·exact hk1 _ _ _ _ _ _ _ _ _ _
        ·refine tO (TF318 u hu _ _ _ _ _ _ _ _ _ _ _ _ (by assumption) (by assumption) (by assumption) (by assumption) (by assumption)) (fun x64 hx64 fx64=>?_)
         refine tI (fun h=>?_) (fun h=>?_)
         ·have hw0:w64 (v0+1)=v0+1:=w64_of (by omega) (by omega)
          exact T323v1 u hu p0 p1 p2 p3 p4 p5 p6 p7 p8 p9 p10 g0 g1 g2 g3 g4 k0 hk0 k1 hk1 k2 hk2 t _ (by omega) (by (intro j hj;exact (Nat.lt_or_ge j (Int.toNat v0)).elim (fun q=>e1 j (by omega)) (fun q=>by rw [show j=Int.toNat v0 by omega];unfold NdOk;grind))) (by omega)
         ·exact hk1 _ _ _ _ _ _ _ _ _ _
       ·refine tEqt (fun h=>?_) (fun h=>?_)
        ·refine tO (TF318 u hu _ _ _ _ _ _ _ _ _ _ _ _ (by assumption) (by assumption) (by assumption) (by assumption) (by assumption)) (fun x65 hx65 fx65=>?_)
         refine tI (fun h=>?_) (fun h=>?_)
         ·refine tI (fun h=>?_) (fun h=>?_)
          ·exact hk1 _ _ _ _ _ _ _ _ _ _
          ·have hw0:w64 (v0+1)=v0+1:=w64_of (by omega) (by omega)
           exact T323v1 u hu p0 p1 p2 p3 p4 p5 p6 p7 p8 p9 p10 g0 g1 g2 g3 g4 k0 hk0 k1 hk1 k2 hk2 t _ (by omega) (by (intro j hj;exact (Nat.lt_or_ge j (Int.toNat v0)).elim (fun q=>e1 j (by omega)) (fun q=>by rw [show j=Int.toNat v0 by omega];unfold NdOk;grind))) (by omega)
         ·exact hk1 _ _ _ _ _ _ _ _ _ _
        ·refine tO (TF318 u hu _ _ _ _ _ _ _ _ _ _ _ _ (by assumption) (by assumption) (by assumption) (by assumption) (by assumption)) (fun x66 hx66 fx66=>?_)
         refine tI (fun h=>?_) (fun h=>?_)
         ·exact hk1 _ _ _ _ _ _ _ _ _ _
         ·exact hk1 _ _ _ _ _ _ _ _ _ _
   ·exact hk0 _ _ _ _ (by decide)
  ·simp only [Int.ofNat_eq_natCast] at h
   exact hk2 (fun j hj=>e1 j (by omega))
theorem TF323 (u:Nat) (hu:4000000≤u) (x1:ByteArray) (x2:Nat) (x3:FF) (x4:Nat) (x5:FF) (x6:Nat) (x7:FF) (x8:Nat) (x9:FF) (x10:Nat) (x11:FF) (g0:SlU kNU x2 x3) (g1:SlU kR0 x4 x5) (g2:SlU kSU x6 x7) (g3:SlU kKU x8 x9) (g4:SlU kEU x10 x11):Tot (fun r=>r=0→∀ j,j<x10→NdOk x2 x3 x8 x9 x11 j) (F323 u x1 x2 x3 x4 x5 x6 x7 x8 x9 x10 x11):=by
 unfold F323
 have z0:=g0.1
 have z1:=g1.1
 have z2:=g2.1
 have z3:=g3.1
 have z4:=g4.1
 refine T323v1 u hu _ _ _ _ _ _ _ _ _ _ _ (by assumption) (by assumption) (by assumption) (by assumption) (by assumption) _ ?_ _ ?_ _ ?_ u _ (by omega) (by omega) (by omega)
 ·intro x81 x82 x83 x84 q0
  exact ⟨_,rfl,(by exact fun h=>absurd h q0)⟩
 ·intro x85 x86 x87 x88 x89 x90 x91 x92 x93 x94
  exact ⟨_,rfl,(by (intro h;omega))⟩
 ·intro q0
  exact ⟨_,rfl,(by exact fun _=>q0)⟩
theorem TF324 (u:Nat) (hu:4000000≤u) (x1:ByteArray) (x2:Nat) (x3:FF) (x4:Nat) (x5:FF) (x6:Nat) (x7:FF) (x8:Nat) (x9:FF) (x10:Nat) (x11:FF) (x12:Nat) (x13:FF) (x14:Nat) (x15:FF) (g0:SlU kNU x2 x3) (g1:SlU kR0 x4 x5) (g2:SlU kSU x6 x7) (g3:SlU kKU x8 x9) (g4:SlU kEU x10 x11) (g5:SlU kGU x12 x13) (g6:SlU kHU x14 x15) (g7:x8≤64) (g8:∀ i,i<x8→CV.len (x9 i 4)≤64) (g9:x1.size≤1048575):Tot (fun r=>r=0→(∀ j,j<x2→F301 u (CV.str (x3 j 0))=some true)∧AscS x2 x3∧∀ j,j<x10→NdOk x2 x3 x8 x9 x11 j) (F324 u x1 x2 x3 x4 x5 x6 x7 x8 x9 x10 x11 x12 x13 x14 x15):=by
 unfold F324
 have z0:=g0.1
 have z1:=g1.1
 have z2:=g2.1
 have z3:=g3.1
 have z4:=g4.1
 have z5:=g5.1
 have z6:=g6.1
 refine tO (TF289 u hu _ _ _ _ (by assumption) (by assumption)) (fun x16 hx16 fx16=>?_)
 refine tNe (fun h=>?_) (fun h=>?_)
 ·exact ⟨_,rfl,(by (intro hh;omega))⟩
 ·refine tO (TF293 u hu _ _ _ _ _ _ _ _ _ _ _ (by assumption) (by assumption) (by assumption) (by assumption) (by assumption) (by assumption)) (fun x17 hx17 fx17=>?_)
  refine tNe (fun h=>?_) (fun h=>?_)
  ·exact ⟨_,rfl,(by (intro hh;omega))⟩
  ·refine tO (TF305 u hu _ _ _ _ _ _ _ _ _ _ _ (by assumption) (by assumption) (by assumption) (by assumption) (by assumption)) (fun x18 hx18 fx18=>?_)
   refine tNe (fun h=>?_) (fun h=>?_)
   ·exact ⟨_,rfl,(by (intro hh;omega))⟩
   ·refine tO (TF315 u hu _ _ _ _ _ _ _ _ _ _ _ _ _ _ _ (by assumption) (by assumption) (by assumption) (by assumption) (by assumption) (by assumption) (by assumption)) (fun x19 hx19 fx19=>?_)
    refine tNe (fun h=>?_) (fun h=>?_)
    ·exact ⟨_,rfl,(by (intro hh;omega))⟩
    ·refine tO (TF317 u hu _ _ _ _ _ _ _ _ _ _ _ (by assumption) (by assumption) (by assumption) (by assumption) (by assumption)) (fun x20 hx20 fx20=>?_)
     refine tNe (fun h=>?_) (fun h=>?_)
     ·exact ⟨_,rfl,(by (intro hh;omega))⟩
     ·refine tO (TF322 u hu _ _ _ _ _ _ _ _ _ _ _ (by assumption) (by assumption) (by assumption) (by assumption) (by assumption) (by assumption) (by assumption)) (fun x21 hx21 fx21=>?_)
      refine tNe (fun h=>?_) (fun h=>?_)
      ·exact ⟨_,rfl,(by (intro hh;omega))⟩
      ·refine tO (TF323 u hu _ _ _ _ _ _ _ _ _ _ _ (by assumption) (by assumption) (by assumption) (by assumption) (by assumption)) (fun x22 hx22 fx22=>?_)
       exact ⟨_,rfl,(by exact fun hh=>⟨hx18 (by assumption),hx17 (by assumption),hx22 hh⟩)⟩
end Go.Eng.R13
