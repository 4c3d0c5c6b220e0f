/-
 Several texts in one.
-/
import Derived.Test.YtajhkinnmdlokaaGreatEngS2
import Derived.Test.YtajhkinnmdlokaaGreatNdBase
/-
 Words for "it comes to an end": the branches of a printed form, one by one.
-/
set_option linter.all false
namespace Go.Eng.R13
open Go Go.RowKit Go.Eng
def Tot {α:Type} (P:α→Prop) (o:Option α):Prop:=∃ r,o=some r∧P r
section
variable {α β : Type} {P : α → Prop} {a b : Option α}
theorem tS {c:Bool} (h:c=true) (h2:Tot P a):Tot P (bif c then a else none):=by rw [h];exact h2
theorem tI {c:Bool} (h1:c=true→Tot P a) (h2:c=false→Tot P b):Tot P (bif c then a else b):=by
 cases c with
 | true=>exact h1 rfl
 | false=>exact h2 rfl
theorem tD {p:Prop} [Decidable p] (h1:p→Tot P a) (h2:¬ p→Tot P b):Tot P (bif decide p then a else b) :=
 tI (fun h=>h1 (of_decide_eq_true h)) fun h=>h2 (of_decide_eq_false h)
theorem tDt {p:Prop} [Decidable p] (h1:p→Tot P a) (h2:¬ p→Tot P b):Tot P (bif (decide p==true) then a else b) :=
 tI (fun h=>h1 (by simpa using h)) fun h=>h2 (by simpa using h)
theorem tDf {p:Prop} [Decidable p] (h1:¬ p→Tot P a) (h2:p→Tot P b):Tot P (bif (decide p==false) then a else b) :=
 tI (fun h=>h1 (by simpa using h)) fun h=>h2 (by simpa using h)
theorem tEq {x y:Int} (h1:x=y→Tot P a) (h2:x≠y→Tot P b):Tot P (bif (x==y) then a else b) :=
 tI (fun h=>h1 (by simpa using h)) fun h=>h2 (by simpa using h)
theorem tEqt {x y:Int} (h1:x=y→Tot P a) (h2:x≠y→Tot P b):Tot P (bif ((x==y)==true) then a else b) :=
 tI (fun h=>h1 (by simpa using h)) fun h=>h2 (by simpa using h)
theorem tEqf {x y:Int} (h1:x≠y→Tot P a) (h2:x=y→Tot P b):Tot P (bif ((x==y)==false) then a else b) :=
 tI (fun h=>h1 (by simpa using h)) fun h=>h2 (by simpa using h)
theorem tNe {x y:Int} (h1:x≠y→Tot P a) (h2:x=y→Tot P b):Tot P (bif (x != y) then a else b) :=
 tI (fun h=>h1 (by simpa using h)) fun h=>h2 (by simpa using h)
theorem tNet {x y:Int} (h1:x≠y→Tot P a) (h2:x=y→Tot P b):Tot P (bif ((x != y)==true) then a else b) :=
 tI (fun h=>h1 (by simpa using h)) fun h=>h2 (by simpa using h)
theorem tNef {x y:Int} (h1:x=y→Tot P a) (h2:x≠y→Tot P b):Tot P (bif ((x != y)==false) then a else b) :=
 tI (fun h=>h1 (by simpa using h)) fun h=>h2 (by simpa using h)
theorem tN {i:Int} {n:Nat} (h:Tot P a) (h0:0≤i:=by omega) (h1:i<(n:Int):=by omega):Tot P (bif inb i n then a else none):=tS (inb_true h0 h1) h
theorem tE {i:Int} {n:Nat} (h0:0≤i) (h1:i≤(n:Int)) (h:Tot P a):Tot P (bif inbe i n then a else none):=tS (by unfold inbe;simp;omega) h
theorem tB {x y:Nat} (h0:x≤y) (h:Tot P a):Tot P (bif Nat.ble x y then a else none):=tS (by rw [Nat.ble_eq];exact h0) h
theorem tL {x y:Nat} (h0:x<y) (h:Tot P a):Tot P (bif Nat.blt x y then a else none):=tS (by rw [Nat.blt_eq];exact h0) h
theorem tZ {x:Int} (h0:x≠0) (h:Tot P a):Tot P (bif (x==0) then none else a):=tI (fun e=>absurd (by simpa using e) h0) fun _=>h
theorem tO {R:β→Prop} {o:Option β} {f:β→Option α} (h:Tot R o) (h2:∀ x,R x→o=some x→Tot P (f x)):Tot P (ob o f):=by
 obtain ⟨x,rfl,hx⟩:=h
 exact h2 x hx rfl
theorem tSq {x y:ByteArray} (h1:x=y→Tot P a) (h2:x≠y→Tot P b):Tot P (bif (ByteArray.toList x==ByteArray.toList y) then a else b):=by
 rw [tl_eq];exact tD h1 h2
theorem tSqf {x y:ByteArray} (h1:x≠y→Tot P a) (h2:x=y→Tot P b):Tot P (bif ((ByteArray.toList x==ByteArray.toList y)==false) then a else b):=by
 rw [tl_eq];exact tDf h1 h2
theorem tQf {x:ByteArray} (h1:0<x.size→Tot P a) (h2:True→Tot P b):Tot P (bif ((ByteArray.toList x==ByteArray.toList ByteArray.empty)==false) then a else b):=by
 by_cases h:0<x.size
 ·exact tI (fun _=>h1 h) fun _=>h2 trivial
 ·have e:x=ByteArray.empty:=by
   rw [← ByteArray.size_eq_zero_iff];omega
  subst e
  have q:(ByteArray.toList ByteArray.empty==ByteArray.toList ByteArray.empty)=true:=beq_self_eq_true _
  rw [q]
  exact h2 trivial
end
theorem tmodR {a b:Int} (ha:0≤a) (hb:0<b):0≤Int.tmod a b∧Int.tmod a b<b:=⟨Int.tmod_nonneg _ ha,Int.tmod_lt_of_pos _ hb⟩
abbrev kNU:Kd:=(.pr .str (.pr (.int .i64) (.pr .str .nil)))
abbrev kSU:Kd:=(.pr .str (.pr .str (.pr .str (.pr (.int .i64) (.pr (.int .i64) (.pr (.int .i64) .nil))))))
abbrev kKU:Kd:=(.pr .str (.pr .str (.pr (.sl (.pr .str .nil)) (.pr (.int .i64) (.pr (.sl (.pr .str .nil)) .nil)))))
abbrev kEU:Kd:=(.pr (.int .i64) (.pr .str (.pr .str .nil)))
abbrev kGU:Kd:=(.pr .str (.pr (.int .i64) (.pr (.int .i64) (.pr (.sl (.pr (.int .i64) .nil)) .nil))))
abbrev kHU:Kd:=(.pr .str (.pr (.int .i64) (.pr (.int .i64) (.pr (.int .i64) .nil))))
def SlU (r:Kd) (n:Nat) (f:FF):Prop:=n≤1048576∧∀ i j,i<n→j<r.len→(r.nth j).okP (f i j)∧CU 1048576 (f i j)
theorem SlU.str {r:Kd} {n:Nat} {f:FF} (h:SlU r n f) {i j:Nat} (hi:i<n) (hj:j<r.len) (hk:r.nth j=.str):(CV.str (f i j)).size≤1048575:=by
 obtain ⟨h1,h2⟩:=h.2 i j hi hj
 rw [hk] at h1
 obtain ⟨x,hx⟩:=h1
 rw [hx] at h2 ⊢
 exact Nat.le_of_succ_le_succ h2
theorem SlU.sl {r:Kd} {n:Nat} {f:FF} (h:SlU r n f) {i j:Nat} (hi:i<n) (hj:j<r.len) {r' : Kd} (hk:r.nth j=.sl r'):SlU r' (CV.len (f i j)) (CV.el (f i j)):=by
 obtain ⟨h1,h2⟩:=h.2 i j hi hj
 rw [hk] at h1
 obtain ⟨fl,n',f',hx⟩:=h1
 rw [hx] at h2 ⊢
 exact h2
theorem SlU.nil {r:Kd} {f:FF}:SlU r 0 f:=⟨Nat.zero_le _,fun i j hi=>absurd hi (Nat.not_lt_zero i)⟩
theorem SlU.push {k:Nat} {g:FF} {x:ByteArray} (h:SlU (.pr .str .nil) k g) (hk:k+1≤1048576) (hx:x.size≤1048575):SlU (.pr .str .nil) (k+1) (joinF k g (rowsF 1 [.s x])):=by
 refine ⟨hk,fun i j hi hj=>?_⟩
 have hj0:j=0:=by simp [Kd.len] at hj;omega
 subst hj0
 unfold joinF
 by_cases e:i=k
 ·subst e
  have:Nat.blt i i=false:=by
   cases h:Nat.blt i i with
   | false=>rfl
   | true=>rw [Nat.blt_eq] at h;omega
  rw [this,cond_false,Nat.sub_self]
  exact ⟨⟨x,rfl⟩,Nat.succ_le_succ hx⟩
 ·have:Nat.blt i k=true:=by rw [Nat.blt_eq];omega
  rw [this,cond_true]
  exact h.2 i 0 (by omega) hj
theorem ext_size (x:ByteArray) (a b:Nat):(ByteArray.extract x a b).size≤x.size:=by
 rw [ByteArray.size_extract];omega
def RowU (g:Nat→CV):Prop:=(CV.str (g 0)).size≤1048575∧(CV.str (g 3)).size≤1048575∧SlU (.pr (.int .i64) (.pr (.int .i64) .nil)) (CV.len (g 6)) (CV.el (g 6))∧SlU (.pr (.sl (.pr (.int .i64) (.pr (.int .i64) .nil))) .nil) (CV.len (g 7)) (CV.el (g 7))
theorem rowU {n:Nat} {f:FF} (h:SlU kR0 n f) {i:Nat} (hi:i<n):RowU (listF (pj kR0 (f i))) :=
 ⟨h.str hi (j:=0) (by decide) rfl,h.str hi (j:=3) (by decide) rfl,h.sl hi (j:=6) (by decide) rfl,h.sl hi (j:=7) (by decide) rfl⟩
def LA (f:FF):Prop:=∀ q,q<4→CV.len (f 0 q)≤2000000
theorem LA.at {f:FF} (h:LA f) {q:Nat} (hq:q<4):CV.len (f 0 q)≤2000000:=h q hq
theorem setF_row (z:FF) (c1 c2 c3 c4:CV) (q:Nat) (hq:q<4):setF z 0 0 4 (listF [c1,c2,c3,c4]) 0 q=listF [c1,c2,c3,c4] q:=by
 unfold setF
 have e2:Nat.ble 0 q=true:=by rw [Nat.ble_eq];omega
 have e3:Nat.blt q (0+4)=true:=by rw [Nat.blt_eq];omega
 rw [Nat.beq_refl,e2,e3]
 rfl
theorem LA.mk {z:FF} {r1 r2 r3 r4:Kd} {n1 n2 n3 n4:Nat} {f1 f2 f3 f4:FF} (h1:n1≤2000000) (h2:n2≤2000000) (h3:n3≤2000000) (h4:n4≤2000000) :
  LA (setF z 0 0 4 (listF [.ro false r1 n1 f1,.ro false r2 n2 f2,.ro false r3 n3 f3,.ro false r4 n4 f4])):=fun q hq=>by
 rw [setF_row _ _ _ _ _ q hq]
 match q,hq with
 | 0,_=>exact h1
 | 1,_=>exact h2
 | 2,_=>exact h3
 | 3,_=>exact h4
def IsBl (n:Nat) (f:FF) (s:ByteArray):Prop:=∃ j,j<n∧CV.str (f j 0)=s∧CV.int (f j 1)=1
def IsPk (n:Nat) (f:FF) (s:ByteArray):Prop:=∃ j,j<n∧CV.str (f j 0)=s
def NdOk (nN:Nat) (fN:FF) (nK:Nat) (fK:FF) (f:FF) (j:Nat):Prop :=
 CV.str (f j 2)≠CV.str (f j 1)∧(CV.int (f j 0)=1→CV.str (f j 2)=ByteArray.empty∨IsBl nN fN (CV.str (f j 2)))∧(CV.int (f j 0)=3→IsPk nK fK (CV.str (f j 2)))
def AscS (n:Nat) (f:FF):Prop:=∀ j,1≤j→j<n→Op.bytesLess (ByteArray.toList (CV.str (f (j-1) 0))) (ByteArray.toList (CV.str (f j 0)))=true
theorem ascS_of {z:FF} {r1:Kd} {n1 n:Nat} {f1 f:FF} {c2 c3 c4:CV} (h:AscS (CV.len (setF z 0 0 4 (listF [.ro false r1 n1 f1,c2,c3,c4]) 0 0)) (CV.el (setF z 0 0 4 (listF [.ro false r1 n1 f1,c2,c3,c4]) 0 0)))
  (hn:n1=n) (hf:∀ j,j<n→CV.str (f1 j 0)=CV.str (f j 0)):AscS n f:=by
 rw [setF_row _ _ _ _ _ 0 (by omega)] at h
 subst hn
 intro j h1 h2
 have:=h j h1 h2
 rw [← hf j h2,← hf (j-1) (by omega)]
 exact this
end Go.Eng.R13
/-
 The lists of names: what lists computes.
-/
set_option linter.all false
namespace Go.Eng.R13
open Go Go.RowKit Go.Eng
section
variable {ρ : Type}
theorem joinS (k:Nat) (g:FF) (x:ByteArray) (j:Nat) (h:j≤k):CV.str (joinF k g (rowsF 1 [.s x]) j 0)=if j=k then x else CV.str (g j 0):=by
 unfold joinF
 by_cases hk:j=k
 ·subst hk
  have:Nat.blt j j=false:=by
   cases h:Nat.blt j j with
   | false=>rfl
   | true=>rw [Nat.blt_eq] at h;omega
  simp [this,rowsF,listF,CV.str]
 ·have:Nat.blt j k=true:=by rw [Nat.blt_eq];omega
  simp [this,hk]
theorem l290v1 (u:Nat) (x24:ByteArray) (x25:Nat) (x26:FF) (x27:Nat) (x28:FF) (x29:Nat) (x30:FF) (x31:Nat) (x32:FF) (x33:Nat) (x34:FF) (hn:x25≤1048576) (k0:Nat→FF→Option ρ):∀ (d i t:Nat) (g:FF),i+d=x25→d<t→(∀ j,j<i→CV.str (g j 0)=CV.str (x26 j 0)) →
  ∃ g',(∀ j,j<x25→CV.str (g' j 0)=CV.str (x26 j 0))∧L290v1 u x24 x25 x26 x27 x28 x29 x30 x31 x32 x33 x34 t (i:Int) i g k0=k0 x25 g'
 | 0,i,t+1,g,hi,ht,hg=>by
  refine ⟨g,fun j hj=>hg j (by omega),?_⟩
  unfold L290v1
  rw [decide_eq_false (by simp only [Int.ofNat_eq_natCast];omega),cond_false,show x25=i by omega]
 | d+1,i,t+1,g,hi,ht,hg=>by
  have hx1:w64 ((i:Int)+1)=((i+1:Nat):Int):=by rw [w64_of (by omega) (by omega)];omega
  obtain ⟨g',h1,h2⟩:=l290v1 u x24 x25 x26 x27 x28 x29 x30 x31 x32 x33 x34 hn k0 d (i+1) t (joinF i g (rowsF 1 [(.s (CV.str (x26 (Int.toNat (i:Int)) 0)))])) (by omega) (by omega) (fun j hj=>by
   rw [joinS _ _ _ _ (by omega)]
   split
   ·rename_i e;subst e;rfl
   ·exact hg j (by omega))
  refine ⟨g',h1,?_⟩
  rw [← h2]
  conv=>lhs;unfold L290v1
  rw [decide_eq_true (by simp only [Int.ofNat_eq_natCast];omega),cond_true,inb_true (by omega) (by omega),cond_true,show Nat.ble (i+1) 1073741824=true by rw [Nat.ble_eq];omega,cond_true,hx1]
theorem l290v2 (u:Nat) (x55:ByteArray) (x56:Nat) (x57:FF) (x58:Nat) (x59:FF) (x60:Nat) (x61:FF) (x62:Nat) (x63:FF) (x64:Nat) (x65:FF) (x66:Nat) (x68:FF) (hn:x58≤1048576) (k0:Nat→FF→Option ρ):∀ (d i t:Nat) (g:FF),i+d=x58→d<t→(∀ j,j<i→CV.str (g j 0)=CV.str (x59 j 0)) →
  ∃ g',(∀ j,j<x58→CV.str (g' j 0)=CV.str (x59 j 0))∧L290v2 u x55 x56 x57 x58 x59 x60 x61 x62 x63 x64 x65 x66 x68 t (i:Int) i g k0=k0 x58 g'
 | 0,i,t+1,g,hi,ht,hg=>by
  refine ⟨g,fun j hj=>hg j (by omega),?_⟩
  unfold L290v2
  rw [decide_eq_false (by simp only [Int.ofNat_eq_natCast];omega),cond_false,show x58=i by omega]
 | d+1,i,t+1,g,hi,ht,hg=>by
  have hx1:w64 ((i:Int)+1)=((i+1:Nat):Int):=by rw [w64_of (by omega) (by omega)];omega
  obtain ⟨g',h1,h2⟩:=l290v2 u x55 x56 x57 x58 x59 x60 x61 x62 x63 x64 x65 x66 x68 hn k0 d (i+1) t (joinF i g (rowsF 1 [(.s (CV.str (x59 (Int.toNat (i:Int)) 0)))])) (by omega) (by omega) (fun j hj=>by
   rw [joinS _ _ _ _ (by omega)]
   split
   ·rename_i e;subst e;rfl
   ·exact hg j (by omega))
  refine ⟨g',h1,?_⟩
  rw [← h2]
  conv=>lhs;unfold L290v2
  rw [decide_eq_true (by simp only [Int.ofNat_eq_natCast];omega),cond_true,inb_true (by omega) (by omega),cond_true,show Nat.ble (i+1) 1073741824=true by rw [Nat.ble_eq];omega,cond_true,hx1]
theorem l290v3 (u:Nat) (x90:ByteArray) (x91:Nat) (x92:FF) (x93:Nat) (x94:FF) (x95:Nat) (x96:FF) (x97:Nat) (x98:FF) (x99:Nat) (x100:FF) (x101:Nat) (x102:Nat) (x104:FF) (x105:FF) (hn:x95≤1048576) (k0:Nat→FF→Option ρ):∀ (d i t:Nat) (g:FF),i+d=x95→d<t→(∀ j,j<i→CV.str (g j 0)=CV.str (x96 j 0)) →
  ∃ g',(∀ j,j<x95→CV.str (g' j 0)=CV.str (x96 j 0))∧L290v3 u x90 x91 x92 x93 x94 x95 x96 x97 x98 x99 x100 x101 x102 x104 x105 t (i:Int) i g k0=k0 x95 g'
 | 0,i,t+1,g,hi,ht,hg=>by
  refine ⟨g,fun j hj=>hg j (by omega),?_⟩
  unfold L290v3
  rw [decide_eq_false (by simp only [Int.ofNat_eq_natCast];omega),cond_false,show x95=i by omega]
 | d+1,i,t+1,g,hi,ht,hg=>by
  have hx1:w64 ((i:Int)+1)=((i+1:Nat):Int):=by rw [w64_of (by omega) (by omega)];omega
  obtain ⟨g',h1,h2⟩:=l290v3 u x90 x91 x92 x93 x94 x95 x96 x97 x98 x99 x100 x101 x102 x104 x105 hn k0 d (i+1) t (joinF i g (rowsF 1 [(.s (CV.str (x96 (Int.toNat (i:Int)) 0)))])) (by omega) (by omega) (fun j hj=>by
   rw [joinS _ _ _ _ (by omega)]
   split
   ·rename_i e;subst e;rfl
   ·exact hg j (by omega))
  refine ⟨g',h1,?_⟩
  rw [← h2]
  conv=>lhs;unfold L290v3
  rw [decide_eq_true (by simp only [Int.ofNat_eq_natCast];omega),cond_true,inb_true (by omega) (by omega),cond_true,show Nat.ble (i+1) 1073741824=true by rw [Nat.ble_eq];omega,cond_true,hx1]
theorem l290v4 (u:Nat) (x129:ByteArray) (x130:Nat) (x131:FF) (x132:Nat) (x133:FF) (x134:Nat) (x135:FF) (x136:Nat) (x137:FF) (x138:Nat) (x139:FF) (x140:Nat) (x141:Nat) (x142:Nat) (x144:FF) (x145:FF) (x146:FF) (hn:x136≤1048576) (k0:Nat→FF→Option ρ):∀ (d i t:Nat) (g:FF),i+d=x136→d<t→(∀ j,j<i→CV.str (g j 0)=CV.str (x137 j 0)) →
  ∃ g',(∀ j,j<x136→CV.str (g' j 0)=CV.str (x137 j 0))∧L290v4 u x129 x130 x131 x132 x133 x134 x135 x136 x137 x138 x139 x140 x141 x142 x144 x145 x146 t (i:Int) i g k0=k0 x136 g'
 | 0,i,t+1,g,hi,ht,hg=>by
  refine ⟨g,fun j hj=>hg j (by omega),?_⟩
  unfold L290v4
  rw [decide_eq_false (by simp only [Int.ofNat_eq_natCast];omega),cond_false,show x136=i by omega]
 | d+1,i,t+1,g,hi,ht,hg=>by
  have hx1:w64 ((i:Int)+1)=((i+1:Nat):Int):=by rw [w64_of (by omega) (by omega)];omega
  obtain ⟨g',h1,h2⟩:=l290v4 u x129 x130 x131 x132 x133 x134 x135 x136 x137 x138 x139 x140 x141 x142 x144 x145 x146 hn k0 d (i+1) t (joinF i g (rowsF 1 [(.s (CV.str (x137 (Int.toNat (i:Int)) 0)))])) (by omega) (by omega) (fun j hj=>by
   rw [joinS _ _ _ _ (by omega)]
   split
   ·rename_i e;subst e;rfl
   ·exact hg j (by omega))
  refine ⟨g',h1,?_⟩
  rw [← h2]
  conv=>lhs;unfold L290v4
  rw [decide_eq_true (by simp only [Int.ofNat_eq_natCast];omega),cond_true,inb_true (by omega) (by omega),cond_true,show Nat.ble (i+1) 1073741824=true by rw [Nat.ble_eq];omega,cond_true,hx1]
theorem lists290 (u:Nat) (hu:4000000≤u) (x1:ByteArray) (x2:Nat) (x3:FF) (x4:Nat) (x5:FF) (x6:Nat) (x7:FF) (x8:Nat) (x9:FF) (x10:Nat) (x11:FF) (h2:x2≤1048576) (h4:x4≤1048576) (h6:x6≤1048576) (h8:x8≤1048576) :
  ∃ g1 g2 g3 g4,F290 u x1 x2 x3 x4 x5 x6 x7 x8 x9 x10 x11=some (x2,g1,x4,g2,x6,g3,x8,g4)∧(∀ j,j<x2→CV.str (g1 j 0)=CV.str (x3 j 0))∧(∀ j,j<x4→CV.str (g2 j 0)=CV.str (x5 j 0)) ∧
   (∀ j,j<x6→CV.str (g3 j 0)=CV.str (x7 j 0))∧∀ j,j<x8→CV.str (g4 j 0)=CV.str (x9 j 0):=by
 unfold F290
 obtain ⟨g1,a1,b1⟩:=l290v1 u x1 x2 x3 x4 x5 x6 x7 x8 x9 x10 x11 h2 (fun x39 x40=>(L290v2 u x1 x2 x3 x4 x5 x6 x7 x8 x9 x10 x11 x39 x40 u 0 0 (fun _ _=>.any)
  (fun x72 x73=>(L290v3 u x1 x2 x3 x4 x5 x6 x7 x8 x9 x10 x11 x39 x72 x40 x73 u 0 0 (fun _ _=>.any)
  (fun x109 x110=>(L290v4 u x1 x2 x3 x4 x5 x6 x7 x8 x9 x10 x11 x39 x72 x109 x40 x73 x110 u 0 0 (fun _ _=>.any)
  (fun x150 x151=>(some (x39,x40,x72,x73,x109,x110,x150,x151)))))))) ) x2 0 u (fun _ _=>.any) (by omega) (by omega) (fun j h=>absurd h (Nat.not_lt_zero j))
 obtain ⟨g2,a2,b2⟩:=l290v2 u x1 x2 x3 x4 x5 x6 x7 x8 x9 x10 x11 x2 g1 h4 (fun x72 x73=>(L290v3 u x1 x2 x3 x4 x5 x6 x7 x8 x9 x10 x11 x2 x72 g1 x73 u 0 0 (fun _ _=>.any)
  (fun x109 x110=>(L290v4 u x1 x2 x3 x4 x5 x6 x7 x8 x9 x10 x11 x2 x72 x109 g1 x73 x110 u 0 0 (fun _ _=>.any)
  (fun x150 x151=>(some (x2,g1,x72,x73,x109,x110,x150,x151)))))) ) x4 0 u (fun _ _=>.any) (by omega) (by omega) (fun j h=>absurd h (Nat.not_lt_zero j))
 obtain ⟨g3,a3,b3⟩:=l290v3 u x1 x2 x3 x4 x5 x6 x7 x8 x9 x10 x11 x2 x4 g1 g2 h6 (fun x109 x110=>(L290v4 u x1 x2 x3 x4 x5 x6 x7 x8 x9 x10 x11 x2 x4 x109 g1 g2 x110 u 0 0 (fun _ _=>.any)
  (fun x150 x151=>(some (x2,g1,x4,g2,x109,x110,x150,x151)))) ) x6 0 u (fun _ _=>.any) (by omega) (by omega) (fun j h=>absurd h (Nat.not_lt_zero j))
 obtain ⟨g4,a4,b4⟩:=l290v4 u x1 x2 x3 x4 x5 x6 x7 x8 x9 x10 x11 x2 x4 x6 g1 g2 g3 h8 (fun x150 x151=>(some (x2,g1,x4,g2,x6,g3,x150,x151))) x8 0 u (fun _ _=>.any) (by omega) (by omega) (fun j h=>absurd h (Nat.not_lt_zero j))
 exact ⟨g1,g2,g3,g4,b1.trans (b2.trans (b3.trans b4)),a1,a2,a3,a4⟩
theorem TF290 (u:Nat) (hu:4000000≤u) (x1:ByteArray) (x2:Nat) (x3:FF) (x4:Nat) (x5:FF) (x6:Nat) (x7:FF) (x8:Nat) (x9:FF) (x10:Nat) (x11:FF) (h2:x2≤1048576) (h4:x4≤1048576) (h6:x6≤1048576) (h8:x8≤1048576):Tot (fun r=>r.1=x2∧r.2.2.1=x4∧r.2.2.2.2.1=x6∧r.2.2.2.2.2.2.1=x8∧∀ j,j<x2→CV.str (r.2.1 j 0)=CV.str (x3 j 0)) (F290 u x1 x2 x3 x4 x5 x6 x7 x8 x9 x10 x11):=by
 obtain ⟨g1,g2,g3,g4,h,q,_⟩:=lists290 u hu x1 x2 x3 x4 x5 x6 x7 x8 x9 x10 x11 h2 h4 h6 h8
 exact ⟨_,h,rfl,rfl,rfl,rfl,q⟩
end
end Go.Eng.R13
