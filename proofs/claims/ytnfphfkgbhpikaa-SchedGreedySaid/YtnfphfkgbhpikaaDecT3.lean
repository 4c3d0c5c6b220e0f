/-
 The functions of the program,run on symbols;printed by decomp.py.
-/
import Derived.Test.YtnfphfkgbhpikaaDecT2
set_option linter.all false
set_option maxRecDepth 1000000
set_option maxHeartbeats 4000000
namespace Go.Eng.R13
open Go Go.RowKit Go.Eng
variable {ρ σ : Type} (u m : Nat) (k : Ex → St → Option ρ) (ng : ρ → Option σ) (n0 n1 n2 n3 n4 n5 n6 n7 n8 n9 nA : Nat) (f0 f1 f2 f3 f4 f5 f6 f7 f8 f9 fA : FF) (i0 i1 i2 i3 i4 i5 i6 i7 : Int) (b0 b1 b2 : Bool) (w0 w1 w2 : ByteArray) (g0 g1 g2 : Nat → CV) (u0 u1 : Nat → Nat)
def A21v1:AC:=(.region 14 [mv 45 14,o1 46 (bk .add 3 45 1),o1 14 (sg 46)] 0 none)
def A21v2:AC:=(.seq (.block 3
 (.seq (.region 15 [mv 47 1,mv 48 12,o1 49 (.indexAddr 29 53 3 (tm 47) (tm 48)),o1 50 (fa 53 49 2 2),o1 51 (lo 51 50),o1 52 (.len 51 false (tm 51)),o1 53 (bk .eql 3 52 1),mv 54 53,og 55 (.move (tm 1)) 54 true,og 56 (.move (tm 14)) 54 true,og 57 (.indexAddr 29 53 3 (tm 55) (tm 56)) 54 true,og 58 (fa 53 57 2 2) 54 true,og 59 (lo 51 58) 54 true,og 60 (.len 51 false (tm 59)) 54 true,og 61 (bk .eql 3 60 1) 54 true,o1 62 (po 54 61),mv 63 62,og 64 (.move (tm 1)) 63 true,og 65 (.move (tm 12)) 63 true,og 66 (.indexAddr 29 53 3 (tm 64) (tm 65)) 63 true,og 67 (fa 53 66 2 2) 63 true,og 68 (lo 51 67) 63 true,og 69 (.indexAddr 51 9 1 (tm 68) (ic 0)) 63 true,og 70 (lo 9 69) 63 true,og 71 (.move (tm 1)) 63 true,og 72 (.move (tm 14)) 63 true,og 73 (.indexAddr 29 53 3 (tm 71) (tm 72)) 63 true,og 74 (fa 53 73 2 2) 63 true,og 75 (lo 51 74) 63 true,og 76 (.indexAddr 51 9 1 (tm 75) (ic 0)) 63 true,og 77 (lo 9 76) 63 true,og 78 (bt .eql 9 70 77) 63 true,o1 79 (po 63 78)] 0 (some [[],[],[0,1],[0,1,2],(rl 0 4 []),(rl 0 5 []),(rl 0 6 []),(rl 0 7 []),(rl 0 8 []),(rl 0 8 []),(rl 0 10 []),(rl 0 11 []),(rl 0 12 []),(rl 0 13 []),(rl 0 14 []),(rl 0 15 []),(rl 0 16 []),(rl 0 17 []),(rl 0 17 []),(rl 0 19 []),(rl 0 20 []),(rl 0 21 []),(rl 0 22 []),(rl 0 23 []),(rl 0 17 []),(rl 0 17 []),(rl 0 17 [24,25]),(rl 0 17 [24,25,26]),(rl 0 17 (rl 24 4 [])),(rl 0 17 (rl 24 5 [])),(rl 0 17 (rl 24 6 [])),(rl 0 31 []),(rl 0 32 [])])) []
  (.cond (tm 79)
  (.region 16 [mv 80 13,mv 81 1,mv 82 14,o1 83 (.indexAddr 29 53 3 (tm 81) (tm 82)),o1 84 (fa 53 83 1 1),o1 85 (lo 3 84),o1 86 (bt .add 3 80 85),o1 13 (sg 86)] 0 none)
  .skip))) (rl 47 40 [])
 A21v1)
def A21v3:AC:=(.seq (.seq (.region 13 [mv 41 14,mv 42 1,o1 43 (.len 29 false (tm 42)),o1 44 (bt .lss 3 41 43)] 0 none) []
 (.cond (tm 44)
 .skip
 (.exit 2 (0 :: (rl 3 6 (rl 14 79 [])))))) (rl 41 4 [])
 A21v2)
def A21v4:AC:=(.region 17 [mv 87 11,mv 88 13,o1 89 (.mm true [(tm 87),(tm 88)] [3,3]),o1 11 (sg 89)] 0 none)
def A21v5:AC:=(.region 9 [mv 32 12,o1 33 (bk .add 3 32 1),o1 12 (sg 33)] 0 none)
def A21v6:AC:=(.seq (.block 1
 (.seq (.region 10 [mv 34 11,mv 35 1,mv 36 9,mv 37 10,mv 38 12,o1 39 (.callL (.func 49) [(tm 35),(tm 36),(tm 37),(tm 38)] [29,72,73,3] [1] 2),o1 40 (.mm true [(tm 34),(tm 39)] [3,3]),o1 11 (sg 40)] 0 none) []
  (.seq (.region 11 [o1 13 (sk 0)] 0 none) []
  (.seq (.seq (.region 12 [o1 14 (sk 0)] 0 none) []
  (.block 2
  (.loop [] (0 :: (rl 3 6 (rl 15 78 [])))
   A21v3))) (14 :: (rl 41 46 []))
  A21v4)))) (13 :: 14 :: (rl 34 56 []))
 A21v5)
def A21v7:AC:=(.seq (.seq (.region 8 [mv 28 12,mv 29 1,o1 30 (.len 29 false (tm 29)),o1 31 (bt .lss 3 28 30)] 0 none) []
 (.cond (tm 31)
 .skip
 (.exit 0 (0 :: 1 :: (rl 3 8 (rl 12 81 [])))))) (rl 28 4 [])
 A21v6)
def A21v8:AC:=(.seq (.region 18 [mv 90 2,mv 91 11,o1 92 (bt .add 3 90 91),o1 6 (sg 92),o1 7 (sk 0)] 0 none) []
 (.ret (rl 0 6 (rl 8 85 []))))
def A21v9:AC:=(.seq (.region 4 [o1 22 (ln 28 6 3),mv 23 1,o1 24 (cf 40 [22,23] [28,29]),o1 9 (sg 24)] 0 none) []
 (.seq (.region 5 [mv 25 1,o1 26 (.len 29 false (tm 25)),o1 27 (.makeSlice 0 73 3 kM 8 [(vi 0)] (tm 26) (tm 26)),o1 10 (sg 27)] 1 none) []
 (.seq (.region 6 [o1 11 (sk 0)] 0 none) []
 (.seq (.seq (.region 7 [o1 12 (sk 0)] 0 none) []
 (.block 0
 (.loop [] (0 :: (rl 3 6 (rl 13 80 [])))
  A21v7))) (12 :: 13 :: 14 :: (rl 28 62 []))
 A21v8))))
def A21:AF:=⟨93,[.tmp 6,.tmp 7],
 (.seq (.region 0 [o1 3 (bx 0 28 0),o1 6 (sk 0),o1 7 (sk 0)] 1 none) []
 (.seq (.seq (.region 1 [o1 15 (ln 28 6 3),mv 16 1,mv 17 2,o1 18 (cs 38 [15,16,17] [28,29,3]),o1 8 (sg 18)] 0 none) []
 (.seq (.region 2 [mv 19 8,o1 20 (bk .neq 35 19 0)] 0 none) []
 (.cond (tm 20)
 (.seq (.region 3 [mv 21 8,o1 6 (sk 0),o1 7 (sg 21)] 0 none) []
  (.ret (rl 0 6 (rl 8 85 []))))
 .skip))) (6 :: 7 :: 8 :: (rl 15 7 []))
 A21v9))⟩
def N375v2:St→Option St:=nN 2 (0 :: (rl 3 6 (rl 15 78 [])))
def s375v0:St:=⟨(.u :: .x (.c (ro kE n0 f0)) :: vxi i0 :: (us 6 (.x (.c (ro kJ n1 f1)) :: .x (.own 1 0 n2) :: vxi i1 :: vxi i2 :: vxi i3 :: vxi i4 :: (us 78 [])))),[.box [(vcs w0),(.c (ro kF n3 f2)),(.c (ro kB n4 f3)),(.c (ro kI n5 f4)),(.c (ro kD n6 f5)),(.c (ro kG n7 f6))],.arr kM n2 f7]⟩
def s375v1:St:=⟨(.u :: .x (.c (ro kE n0 f0)) :: vxi i0 :: (us 6 (.x (.c (ro kJ n1 f1)) :: .x (.own 1 0 n2) :: vxi i1 :: vxi i2 :: vxi i3 :: (us 79 [])))),[.box [(vcs w0),(.c (ro kF n3 f2)),(.c (ro kB n4 f3)),(.c (ro kI n5 f4)),(.c (ro kD n6 f5)),(.c (ro kG n7 f6))],.arr kM n2 f7]⟩
def L375v2 {ρ:Type} (u:Nat) (x0:Nat) (x1:FF) (x2:Int) (x3:Nat) (x4:FF) (x5:Nat) (x6 x7:Int) (x8:ByteArray) (x9:Nat) (xA:FF) (xB:Nat) (xC:FF) (xD:Nat) (xE:FF) (xF:Nat) (xG:FF) (xH:Nat) (xI xJ:FF):Nat→Int→Int→(Int→Option ρ)→Option ρ
 | 0,_,_,_=>none
 | m+1,xK,xL,k0 =>
  (bif (decide (xL<(Int.ofNat x0))) then (bif (inb x7 x0) then (bif (((Int.ofNat (x1 x7.toNat 2).len)==1)==true) then (bif (inb xL x0) then (bif (((Int.ofNat (x1 xL.toNat 2).len)==1)==true) then (bif (inb x7 x0) then (bif (inb 0 (x1 x7.toNat 2).len) then (bif (inb xL x0) then (bif (inb 0 (x1 xL.toNat 2).len) then (bif (ByteArray.toList ((x1 x7.toNat 2).el 0 0).str==ByteArray.toList ((x1 xL.toNat 2).el 0 0).str) then (bif (inb xL x0) then (L375v2 u x0 x1 x2 x3 x4 x5 x6 x7 x8 x9 xA xB xC xD xE xF xG xH xI xJ m (w64 (xK+(x1 xL.toNat 1).int)) (w64 (xL+1)) k0) else none) else (L375v2 u x0 x1 x2 x3 x4 x5 x6 x7 x8 x9 xA xB xC xD xE xF xG xH xI xJ m xK (w64 (xL+1)) k0)) else none) else none) else none) else none) else (L375v2 u x0 x1 x2 x3 x4 x5 x6 x7 x8 x9 xA xB xC xD xE xF xG xH xI xJ m xK (w64 (xL+1)) k0)) else none) else (L375v2 u x0 x1 x2 x3 x4 x5 x6 x7 x8 x9 xA xB xC xD xE xF xG xH xI xJ m xK (w64 (xL+1)) k0)) else none) else (k0 xK))
theorem nl375v2:∀ (m:Nat) (x0 x1:Int) (k0:Int→Option ρ),ob (L375v2 u n0 f0 i0 n1 f1 n2 i1 i2 w0 n3 f2 n4 f3 n5 f4 n6 f5 n7 f6 f7 m x0 x1 k0) ng=L375v2 u n0 f0 i0 n1 f1 n2 i1 i2 w0 n3 f2 n4 f3 n5 f4 n6 f5 n7 f6 f7 m x0 x1 (fun x2=>ob (k0 x2) ng)
 | 0,_,_,_=>rfl
 | m+1,x0,x1,k0=>by
  simp only [L375v2,ob_bif,ob_ob,ob_none,nl375v2 m]
theorem q375v2:∀ (m:Nat) (x0 x1:Int),
  loopH (eB A21v3 (C66 u) u) N375v2 m (s375v0 n0 n1 n2 n3 n4 n5 n6 n7 f0 f1 f2 f3 f4 f5 f6 f7 i0 i1 i2 x0 x1 w0) k=L375v2 u n0 f0 i0 n1 f1 n2 i1 i2 w0 n3 f2 n4 f3 n5 f4 n6 f5 n7 f6 f7 m x0 x1 (fun x2=>k (.exit 2) (s375v1 n0 n1 n2 n3 n4 n5 n6 n7 f0 f1 f2 f3 f4 f5 f6 f7 i0 i1 i2 x2 w0))
 | 0,_,_=>rfl
 | m+1,x0,x1=>by
  simp only [L375v2,← q375v2 m]
  kernel_rfl
def N375v3:St→Option St:=nN 2 (0 :: (rl 3 6 (rl 13 80 [])))
def s375v2:St:=⟨(.u :: .x (.c (ro kE n0 f0)) :: vxi i0 :: (us 6 (.x (.c (ro kJ n1 f1)) :: .x (.own 1 0 n2) :: vxi i1 :: vxi i2 :: (us 80 [])))),[.box [(vcs w0),(.c (ro kF n3 f2)),(.c (ro kB n4 f3)),(.c (ro kI n5 f4)),(.c (ro kD n6 f5)),(.c (ro kG n7 f6))],.arr kM n2 f7]⟩
def s375v3:St:=⟨(.u :: .u :: vxi i0 :: (us 8 (vxi i1 :: (us 81 [])))),[.box [(vcs w0),(.c (ro kF n0 f0)),(.c (ro kB n1 f1)),(.c (ro kI n2 f2)),(.c (ro kD n3 f3)),(.c (ro kG n4 f4))],.arr kM n5 f5]⟩
def L375v3 {ρ:Type} (u:Nat) (x0:Nat) (x1:FF) (x2:Int) (x3:Nat) (x4:FF) (x5:Nat) (x6:ByteArray) (x7:Nat) (x8:FF) (x9:Nat) (xA:FF) (xB:Nat) (xC:FF) (xD:Nat) (xE:FF) (xF:Nat) (xG:FF):Nat→Int→Int→FF→(Int→FF→Option ρ)→Option ρ
 | 0,_,_,_,_=>none
 | m+1,xH,xI,xJ,k0 =>
  (bif (decide (xI<(Int.ofNat x0))) then (bif ((Nat.blt 0 x5&&true)&&true) then (ob (F374 u x0 x1 x3 x4 x5 xI x5 xJ) fun xK=>(L375v2 u x0 x1 x2 x3 x4 x5 (if xK.1>xH then xK.1 else xH) xI x6 x7 x8 x9 xA xB xC xD xE xF xG xK.2 u 0 0
  (fun xL=>(L375v3 u x0 x1 x2 x3 x4 x5 x6 x7 x8 x9 xA xB xC xD xE xF xG m (if xL>(if xK.1>xH then xK.1 else xH) then xL else (if xK.1>xH then xK.1 else xH)) (w64 (xI+1)) xK.2 k0)))) else none) else (k0 xH xJ))
theorem nl375v3:∀ (m:Nat) (x0 x1:Int) (x2:FF) (k0:Int→FF→Option ρ),ob (L375v3 u n0 f0 i0 n1 f1 n2 w0 n3 f2 n4 f3 n5 f4 n6 f5 n7 f6 m x0 x1 x2 k0) ng=L375v3 u n0 f0 i0 n1 f1 n2 w0 n3 f2 n4 f3 n5 f4 n6 f5 n7 f6 m x0 x1 x2 (fun x3 x4=>ob (k0 x3 x4) ng)
 | 0,_,_,_,_=>rfl
 | m+1,x0,x1,x2,k0=>by
  simp only [L375v3,ob_bif,ob_ob,ob_none,nl375v3 m,nl375v2]
def s375v4 (x0:Int × FF):St:=⟨(.u :: .x (.c (ro kE n0 f0)) :: vxi i0 :: (us 6 (.x (.c (ro kJ n1 f1)) :: .x (.own 1 0 n2) :: vxi (if x0.1>i1 then x0.1 else i1) :: vxi i2 :: vxi 0 :: vxi 0 :: (us 19 (vxi i1 :: .x (.c (ro kE n0 f0)) :: .x (.c (ro kJ n1 f1)) :: .x (.own 1 0 n2) :: vxi i2 :: vxi x0.1 :: vxi (if x0.1>i1 then x0.1 else i1) :: (us 52 [])))))),[.box [(vcs w0),(.c (ro kF n3 f2)),(.c (ro kB n4 f3)),(.c (ro kI n5 f4)),(.c (ro kD n6 f5)),(.c (ro kG n7 f6))],.arr kM n2 x0.2]⟩
theorem r375v3 :
  loopH (eB A21v7 (C66 u) u) N375v3 (m+1) (s375v2 n0 n1 n2 n3 n4 n5 n6 n7 f0 f1 f2 f3 f4 f5 f6 f7 i0 i1 i2 w0) k =
  (bif (decide (i2<(Int.ofNat n0))) then (bif ((Nat.blt 0 n2&&true)&&true) then (ob (F374 u n0 f0 n1 f1 n2 i2 n2 f7) fun x0=>(loopN (eB A21v3 (C66 u) u) N375v2 u (s375v4 n0 n1 n2 n3 n4 n5 n6 n7 f0 f1 f2 f3 f4 f5 f6 i0 i1 i2 w0 x0) (kBlk 2 (kSeq (C66 u) u (14 :: (rl 41 46 [])) A21v4 (kBlk 1 (kSeq (C66 u) u (13 :: 14 :: (rl 34 56 [])) A21v5 (kLoop (eB A21v7 (C66 u) u) N375v3 m k))))))) else none) else (k (.exit 0) (s375v3 n3 n4 n5 n6 n7 n2 f2 f3 f4 f5 f6 f7 i0 i1 w0))):=by kernel_rfl
theorem t375v1 (x0:Int × FF) :
  loopN (eB A21v3 (C66 u) u) N375v2 u (s375v4 n0 n1 n2 n3 n4 n5 n6 n7 f0 f1 f2 f3 f4 f5 f6 i0 i1 i2 w0 x0) k =
  L375v2 u n0 f0 i0 n1 f1 n2 (if x0.1>i1 then x0.1 else i1) i2 w0 n3 f2 n4 f3 n5 f4 n6 f5 n7 f6 x0.2 u 0 0 (fun x1=>k (.exit 2) (s375v1 n0 n1 n2 n3 n4 n5 n6 n7 f0 f1 f2 f3 f4 f5 f6 x0.2 i0 (if x0.1>i1 then x0.1 else i1) i2 x1 w0)) :=
 Eq.trans (loopN_at (by kernel_rfl)) (q375v2 ..)
theorem g375v2 (x0:Int × FF) :
  (kBlk 2 (kSeq (C66 u) u (14 :: (rl 41 46 [])) A21v4 (kBlk 1 (kSeq (C66 u) u (13 :: 14 :: (rl 34 56 [])) A21v5 (kLoop (eB A21v7 (C66 u) u) N375v3 m k))))) (.exit 2) (s375v1 n0 n1 n2 n3 n4 n5 n6 n7 f0 f1 f2 f3 f4 f5 f6 x0.2 i0 (if x0.1>i1 then x0.1 else i1) i2 i3 w0) =
  (loopH (eB A21v7 (C66 u) u) N375v3 m (s375v2 n0 n1 n2 n3 n4 n5 n6 n7 f0 f1 f2 f3 f4 f5 f6 x0.2 i0 (if i3>(if x0.1>i1 then x0.1 else i1) then i3 else (if x0.1>i1 then x0.1 else i1)) (w64 (i2+1)) w0) k):=by kernel_rfl
theorem q375v3:∀ (m:Nat) (x0 x1:Int) (x2:FF),
  loopH (eB A21v7 (C66 u) u) N375v3 m (s375v2 n0 n1 n2 n3 n4 n5 n6 n7 f0 f1 f2 f3 f4 f5 f6 x2 i0 x0 x1 w0) k=L375v3 u n0 f0 i0 n1 f1 n2 w0 n3 f2 n4 f3 n5 f4 n6 f5 n7 f6 m x0 x1 x2 (fun x3 x4=>k (.exit 0) (s375v3 n3 n4 n5 n6 n7 n2 f2 f3 f4 f5 f6 x4 i0 x3 w0))
 | 0,_,_,_=>rfl
 | m+1,x0,x1,x2=>by
  rw [r375v3]
  simp only [L375v3,q375v3 m,t375v1,g375v2]
def F375 (x0:ByteArray) (x1:Nat) (x2:FF) (x3:Nat) (x4:FF) (x5:Nat) (x6:FF) (x7:Nat) (x8:FF) (x9:Nat) (xA:FF) (xB:Nat) (xC:FF) (xD:Int):Option (Int × Int) :=
 (ob (F363 u x0 x1 x2 x3 x4 x5 x6 x7 x8 x9 xA xB xC xD) fun xE=>(bif (xE != 0) then (some (0,xE)) else (ob (F366 u x0 x1 x2 x3 x4 x5 x6 x7 x8 x9 xA xB xC) fun xF=>(bif (decide (0≤(Int.ofNat xB))&&decide ((Int.ofNat xB)≤(Int.ofNat xB))&&decide ((Int.ofNat xB)≤1073741824)&&true) then (L375v3 u xB xC xD xF.1 xF.2 (Int.toNat (Int.ofNat xB)) x0 x1 x2 x3 x4 x5 x6 x7 x8 x9 xA u 0 0 (fun _ j=>listF [(.i .i64 0)] j)
  (fun xG xH=>(some ((w64 (xD+xG)),0)))) else none))))
def s375v5 (x0:Nat × FF):St:=⟨(.agg [(vcs w0),(.c (ro kF n0 f0)),(.c (ro kB n1 f1)),(.c (ro kI n2 f2)),(.c (ro kD n3 f3)),(.c (ro kG n4 f4))] :: .x (.c (ro kE n5 f5)) :: vxi i0 :: .x (.ptr 0 0) :: uu :: uu :: (us 3 (.x (.c (ro kJ x0.1 x0.2)) :: .x (.own 1 0 (Int.toNat (Int.ofNat n5))) :: vxi 0 :: vxi 0 :: uu :: uu :: (us 7 [.agg [(vcs w0),(.c (ro kF n0 f0)),(.c (ro kB n1 f1)),(.c (ro kI n2 f2)),(.c (ro kD n3 f3)),(.c (ro kG n4 f4))],.x (.c (ro kE n5 f5)),.x (.c (ro kJ x0.1 x0.2)),.x (.c (ro kE n5 f5)),vxi (Int.ofNat n5),.x (.own 1 0 (Int.toNat (Int.ofNat n5))),uu,uu,uu,uu,uu,uu,uu,uu,uu,uu,uu,uu,uu,uu,uu,uu,uu,uu,uu,uu,uu,uu,uu,uu,uu,uu,uu,uu,uu,uu,uu,uu,uu,uu,uu,uu,uu,uu,uu,uu,uu,uu,uu,uu,uu,uu,uu,uu,uu,uu,uu,uu,uu,uu,uu,uu,uu,uu,uu,uu,uu,uu,uu,uu,uu])))),[.box [(vcs w0),(.c (ro kF n0 f0)),(.c (ro kB n1 f1)),(.c (ro kI n2 f2)),(.c (ro kD n3 f3)),(.c (ro kG n4 f4))],.arr kM (Int.toNat (Int.ofNat n5)) (fun _ j=>listF [(vi 0)] j)]⟩
theorem t375v3 (x0:Nat × FF) :
  loopN (eB A21v7 (C66 u) u) N375v3 u (s375v5 n0 n1 n2 n3 n4 n5 f0 f1 f2 f3 f4 f5 i0 w0 x0) k =
  L375v3 u n5 f5 i0 x0.1 x0.2 (Int.toNat (Int.ofNat n5)) w0 n0 f0 n1 f1 n2 f2 n3 f3 n4 f4 u 0 0 (fun _ j=>listF [(vi 0)] j) (fun x1 x2=>k (.exit 0) (s375v3 n0 n1 n2 n3 n4 (Int.toNat (Int.ofNat n5)) f0 f1 f2 f3 f4 x2 i0 x1 w0)) :=
 Eq.trans (loopN_at (by kernel_rfl)) (q375v3 ..)
theorem g375v4 :
  (kBlk 0 (kSeq (C66 u) u (12 :: 13 :: 14 :: (rl 28 62 [])) A21v8 (finish A21))) (.exit 0) (s375v3 n0 n1 n2 n3 n4 (Int.toNat (Int.ofNat n5)) f0 f1 f2 f3 f4 f5 i0 i1 w0) =
  (some [.v (vi (w64 (i0+i1))),.v (vi 0)]):=by kernel_rfl
theorem e375:evalF (C66 u) u A21 [.agg [(.s w0),(ro kF n0 f0),(ro kB n1 f1),(ro kI n2 f2),(ro kD n3 f3),(ro kG n4 f4)],.v (ro kE n5 f5),.v (vi i0)]=ob (F375 u w0 n0 f0 n1 f1 n2 f2 n3 f3 n4 f4 n5 f5 i0) fun t=>some [.v (vi t.1),.v (vi t.2)]:=Eq.trans (b:=(ob (F363 u w0 n0 f0 n1 f1 n2 f2 n3 f3 n4 f4 n5 f5 i0) fun x0=>(bif (x0 != 0) then (some [.v (vi 0),.v (vi x0)]) else (ob (F366 u w0 n0 f0 n1 f1 n2 f2 n3 f3 n4 f4 n5 f5) fun x1=>(bif (decide (0≤(Int.ofNat n5))&&decide ((Int.ofNat n5)≤(Int.ofNat n5))&&decide ((Int.ofNat n5)≤1073741824)&&true) then (loopN (eB A21v7 (C66 u) u) N375v3 u (s375v5 n0 n1 n2 n3 n4 n5 f0 f1 f2 f3 f4 f5 i0 w0 x1) (kBlk 0 (kSeq (C66 u) u (12 :: 13 :: 14 :: (rl 28 62 [])) A21v8 (finish A21)))) else none))))) (by kernel_rfl) (by
 simp only [F375,ob_bif,ob_ob,ob_none,ob_some,nl375v3,t375v3,g375v4])
def O375:Ora:=mkO (qc (ag (tc cS (tc (cL kF) (tc (cL kB) (tc (cL kI) (tc (cL kD) (t1 (cL kG)))))))) (qc (av (cL kE)) (q1 (av ci)))) (fun x=>F375 u x.1.1 x.1.2.1.1 x.1.2.1.2 x.1.2.2.1.1 x.1.2.2.1.2 x.1.2.2.2.1.1 x.1.2.2.2.1.2 x.1.2.2.2.2.1.1 x.1.2.2.2.2.1.2 x.1.2.2.2.2.2.1 x.1.2.2.2.2.2.2 x.2.1.1 x.2.1.2 x.2.2) fun t=>[.v (vi t.1),.v (vi t.2)]
theorem d375:DO (O375 u) (C66 u) 21 A21:=dO u (fun x=>by exact e375 u x.1.2.1.1 x.1.2.2.1.1 x.1.2.2.2.1.1 x.1.2.2.2.2.1.1 x.1.2.2.2.2.2.1 x.2.1.1 x.1.2.1.2 x.1.2.2.1.2 x.1.2.2.2.1.2 x.1.2.2.2.2.1.2 x.1.2.2.2.2.2.2 x.2.1.2 x.2.2 x.1.1)
def C67:Oracle:=(C66 u).add 21 (fun _=>true) (O375 u)
def A4v1:AC:=(.seq (.region 3 [o1 21 (ln 28 6 3),mv 22 1,mv 23 2,o1 24 (cf 18 [21,22,23] [28,29,3]),mv 20 24,o1 25 (.extract (tm 20) 0),o1 26 (.extract (tm 20) 1),o1 7 (sg 25),o1 8 (sg 26)] 0 none) []
 (.seq (.region 4 [o1 28 (ln 28 6 3),mv 29 1,mv 30 2,o1 31 (cf 19 [28,29,30] [28,29,3]),mv 27 31,o1 32 (.extract (tm 27) 0),o1 33 (.extract (tm 27) 1),o1 9 (sg 32),o1 10 (sg 33)] 0 none) []
 (.seq (.region 5 [o1 35 (ln 28 6 3),mv 36 1,mv 37 2,o1 38 (cs 20 [35,36,37] [28,29,3]),mv 34 38,o1 39 (.extract (tm 34) 0),o1 40 (.extract (tm 34) 1),o1 11 (sg 39),o1 12 (sg 40)] 0 none) []
 (.seq (.region 6 [o1 42 (ln 28 6 3),mv 43 1,mv 44 2,o1 45 (cs 21 [42,43,44] [28,29,3]),mv 41 45,o1 46 (.extract (tm 41) 0),o1 47 (.extract (tm 41) 1),o1 13 (sg 46),o1 14 (sg 47)] 0 none) []
 (.seq (.region 7 [mv 48 7,mv 49 9,o1 50 (cs 22 [48,49] [30,30]),mv 51 50,og 52 (.move (tm 8)) 51 true,og 53 (.move (tm 10)) 51 true,og 54 (bt .eql 35 52 53) 51 true,o1 55 (po 51 54),mv 56 55,og 57 (.move (tm 11)) 56 true,og 58 (.move (tm 13)) 56 true,og 59 (bt .eql 3 57 58) 56 true,o1 60 (po 56 59),mv 61 60,og 62 (.move (tm 12)) 61 true,og 63 (.move (tm 14)) 61 true,og 64 (bt .eql 35 62 63) 61 true,o1 65 (po 61 64),mv 66 65,og 67 (cs 11 [] []) 66 true,o1 68 (po 66 67),o1 6 (sg 68)] 0 none) []
 (.ghost [0] (.ret (rl 0 6 (rl 7 62 [])))))))))
def A4:AF:=⟨69,[.tmp 6],
 (.seq (.region 0 [o1 3 (bx 0 28 0),o1 6 (sb false)] 1 none) []
 (.seq (.seq (.region 1 [o1 15 (ln 28 6 3),mv 16 1,o1 17 (cs 10 [15,16] [28,29]),o1 18 (.unOp .not 4 (tm 17))] 0 none) []
 (.cond (tm 18)
 (.seq (.region 2 [o1 19 (cs 11 [] []),o1 6 (sg 19)] 0 none) []
  (.ghost [0] (.ret (rl 0 6 (rl 7 62 [])))))
 .skip)) (6 :: (rl 15 5 []))
 A4v1))⟩
def F376 (x0:ByteArray) (x1:Nat) (x2:FF) (x3:Nat) (x4:FF) (x5:Nat) (x6:FF) (x7:Nat) (x8:FF) (x9:Nat) (xA:FF) (xB:Nat) (xC:FF) (xD:Int):Option (Bool) :=
 (ob (F330 u x0 x1 x2 x3 x4 x5 x6 x7 x8 x9 xA xB xC) fun xE=>(bif (!xE) then (ob (F360 u) fun xF=>(some xF)) else (ob (F345 u x0 x1 x2 x3 x4 x5 x6 x7 x8 x9 xA xB xC xD) fun xG=>(ob (F373 u x0 x1 x2 x3 x4 x5 x6 x7 x8 x9 xA xB xC xD) fun xH=>(ob (F354 u x0 x1 x2 x3 x4 x5 x6 x7 x8 x9 xA xB xC xD) fun xI=>(ob (F375 u x0 x1 x2 x3 x4 x5 x6 x7 x8 x9 xA xB xC xD) fun xJ=>(ob (F355 u xG.1 xG.2.1 xH.1 xH.2.1) fun xK=>(bif (xK==true) then (bif ((xG.2.2==xH.2.2)==true) then (bif ((xI.1==xJ.1)==true) then (bif ((xI.2==xJ.2)==true) then (ob (F360 u) fun xL=>(some xL)) else (some false)) else (some false)) else (some false)) else (some false)))))))))
theorem e376:evalF (C67 u) u A4 [.agg [(.s w0),(ro kF n0 f0),(ro kB n1 f1),(ro kI n2 f2),(ro kD n3 f3),(ro kG n4 f4)],.v (ro kE n5 f5),.v (vi i0)]=ob (F376 u w0 n0 f0 n1 f1 n2 f2 n3 f3 n4 f4 n5 f5 i0) fun t=>some [.v (.b t)]:=by
 simp only [F376,ob_bif,ob_ob,ob_none,ob_some]
 kernel_rfl
def O376:Ora:=mkO (qc (ag (tc cS (tc (cL kF) (tc (cL kB) (tc (cL kI) (tc (cL kD) (t1 (cL kG)))))))) (qc (av (cL kE)) (q1 (av ci)))) (fun x=>F376 u x.1.1 x.1.2.1.1 x.1.2.1.2 x.1.2.2.1.1 x.1.2.2.1.2 x.1.2.2.2.1.1 x.1.2.2.2.1.2 x.1.2.2.2.2.1.1 x.1.2.2.2.2.1.2 x.1.2.2.2.2.2.1 x.1.2.2.2.2.2.2 x.2.1.1 x.2.1.2 x.2.2) fun t=>[.v (.b t)]
theorem d376:DO (O376 u) (C67 u) 4 A4:=dO u (fun x=>by exact e376 u x.1.2.1.1 x.1.2.2.1.1 x.1.2.2.2.1.1 x.1.2.2.2.2.1.1 x.1.2.2.2.2.2.1 x.2.1.1 x.1.2.1.2 x.1.2.2.1.2 x.1.2.2.2.1.2 x.1.2.2.2.2.1.2 x.1.2.2.2.2.2.2 x.2.1.2 x.2.2 x.1.1)
/- Functions that the plain texts alone name. -/
end Go.Eng.R13
