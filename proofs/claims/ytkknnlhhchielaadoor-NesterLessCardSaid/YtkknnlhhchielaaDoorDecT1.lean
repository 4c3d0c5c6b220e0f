/-
 The functions of the program,run on symbols;printed by decomp.py.
-/
import Derived.Test.YtkknnlhhchielaaDoorDecT0
set_option linter.all false
set_option maxRecDepth 1000000
set_option maxHeartbeats 4000000
namespace Go.Eng.R13
open Go Go.RowKit Go.Eng
variable {ρ σ : Type} (u m : Nat) (k : Ex → St → Option ρ) (ng : ρ → Option σ) (n0 n1 n2 n3 n4 n5 : Nat) (f0 f1 f2 f3 f4 f5 : FF) (i0 i1 i2 i3 i4 i5 i6 i7 i8 i9 iA iB iC iD iE iF iG iH iI iJ iK iL : Int) (b0 : Bool) (w0 w1 w2 w3 w4 w5 w6 : ByteArray) (g0 g1 : Nat → CV)
def A29v1:AC:=(.seq (.block 1
 (.seq (.region 4 [o1 33 (.indexAddr 32 65 4 (tm 29) (tm 31)),o1 34 (ln 65 4 33),o1 15 (.alloc 0 65 [vci 0,vci 0,vci 0,vci 0]),o0 (.store 65 4 (tm 15) (tm 34))] 1 none) []
  (.seq (.region 5 [mv 35 12,o1 36 (fa 65 15 1 2),o1 37 (fa 34 36 0 0),o1 38 (lo 3 37),mv 39 4,o1 40 (.mm true [(tm 39),(ic 1)] [3,3]),o1 41 (bt .add 3 38 40),o1 42 (.buildSlice 0 75 3 kD 1 [vci 0] [(0,(tm 41))]),o1 43 (.append 1 75 3 kD 8 (tm 35) (tm 42)),o1 12 (sg 43)] 2 none) []
  (.region 6 [mv 44 13,o1 45 (fa 65 15 1 2),o1 46 (fa 34 45 1 1),o1 47 (lo 3 46),mv 48 4,o1 49 (.mm true [(tm 48),(ic 1)] [3,3]),o1 50 (bt .add 3 47 49),o1 51 (.buildSlice 0 75 3 kD 1 [vci 0] [(0,(tm 50))]),o1 52 (.append 1 75 3 kD 8 (tm 44) (tm 51)),o1 13 (sg 52)] 2 none)))) []
 (.region 7 [o1 53 (bk .add 3 31 1),mv 31 53] 0 none))
def A29v2:AC:=(.seq (.region 3 [o1 32 (bt .lss 3 31 30)] 0 none) []
 (.seq (.cond (tm 32)
 .skip
 (.exit 0 (0 :: 2 :: 6 :: 8 :: 9 :: 11 :: (rl 14 89 [])))) []
 A29v1))
def A29v3:AC:=(.region 21 [o1 100 (bk .add 3 72 1),mv 72 100] 0 none)
def A29v4:AC:=(.seq (.block 5
 (.seq (.region 16 [o1 74 (.indexAddr 75 3 1 (tm 70) (tm 72)),o1 75 (lo 3 74),o1 21 (sg 75)] 0 none) []
  (.seq (.region 17 [mv 76 21,mv 77 19,o1 78 (.build 34 [vci 0,vci 0] [(0,1),(1,1)] 0 [(0,(tm 76)),(1,(tm 77))]),o1 22 (.alloc 0 34 [vci 0,vci 0]),o0 (.store 34 2 (tm 22) (tm 78))] 1 none) []
  (.seq (.region 18 [o1 80 (ln 31 18 7),mv 81 3,o1 82 (ln 34 2 22),o1 83 (cs 30 [80,81,82] [31,3,34]),mv 79 83,o1 84 (.extract (tm 79) 0),o1 85 (.extract (tm 79) 1),o1 23 (.alloc 0 63 [vcs ByteArray.empty,vci 0,vci 0,vci 0,vcb false]),o0 (.store 63 5 (tm 23) (tm 84)),o1 24 (sg 85)] 1 none) []
  (.seq (.region 19 [mv 86 24,mv 87 86,og 88 (fa 44 5 3 3) 87 true,og 89 (lo 3 88) 87 true,og 90 (fa 44 5 4 4) 87 true,og 91 (lo 3 90) 87 true,og 92 (.move (tm 1)) 87 true,og 93 (ln 34 2 22) 87 true,og 94 (.move (tm 16)) 87 true,og 95 (.move (tm 17)) 87 true,og 96 (.move (tm 4)) 87 true,og 97 (cs 9 [89,91,92,93,94,95,96] [3,3,32,34,3,3,3]) 87 true,o1 98 (po 87 97)] 0 none) []
  (.cond (tm 98)
  (.seq (.region 20 [o1 99 (ln 34 2 22),o0 (.store 34 2 (tm 10) (tm 99)),o1 11 (sb true)] 0 none) []
   (.ghost (0 :: 1 :: (rl 3 4 [])) (.ret (rl 0 10 (rl 12 91 [])))))
  .skip)))))) (11 :: (rl 21 4 (rl 74 26 [])))
 A29v3)
def A29v5:AC:=(.seq (.region 15 [o1 73 (bt .lss 3 72 71)] 0 none) []
 (.seq (.cond (tm 73)
 .skip
 (.exit 4 (0 :: 2 :: 6 :: 8 :: 9 :: 11 :: 13 :: 14 :: 15 :: (rl 18 46 (rl 67 36 []))))) []
 A29v4))
def A29v6:AC:=(.region 22 [o1 101 (bk .add 3 66 1),mv 66 101] 0 none)
def A29v7:AC:=(.seq (.block 3
 (.seq (.region 13 [o1 68 (.indexAddr 75 3 1 (tm 64) (tm 66)),o1 69 (lo 3 68),o1 19 (sg 69)] 0 none) []
  (.seq (.region 14 [mv 70 12,o1 71 (.len 75 false (tm 70)),o1 72 (.move (ic 0))] 0 none) []
  (.block 4
  (.loop [] (0 :: 2 :: 6 :: 8 :: 9 :: 11 :: 13 :: 14 :: 15 :: 18 :: (rl 20 44 (67 :: 68 :: 69 :: (rl 73 30 []))))
   A29v5))))) (11 :: 19 :: (rl 21 4 (rl 68 33 [])))
 A29v6)
def A29v8:AC:=(.seq (.region 12 [o1 67 (bt .lss 3 66 65)] 0 none) []
 (.seq (.cond (tm 67)
 .skip
 (.ghost [0,1,3,4] (.exit 2 (rl 0 10 (rl 11 92 []))))) []
 A29v7))
def A29v9:AC:=(.seq (.region 23 [o1 102 (.build 34 [vci 0,vci 0] [(0,1),(1,1)] 0 []),o0 (.store 34 2 (tm 10) (tm 102)),o1 11 (sb false)] 0 none) []
 (.ghost [0,1,3,4] (.ret (rl 0 10 (rl 12 91 [])))))
def A29v10:AC:=(.seq (.region 8 [mv 54 12,o1 55 (.turn 44 (tm 54) [] [75])] 0 none) []
 (.seq (.region 9 [mv 56 13,o1 57 (.turn 44 (tm 56) [] [75])] 0 none) []
 (.seq (.region 10 [o1 59 (ln 31 18 7),mv 60 3,o1 61 (cs 7 [59,60] [31,3]),mv 58 61,o1 62 (.extract (tm 58) 0),o1 63 (.extract (tm 58) 1),o1 16 (sg 62),o1 17 (sg 63)] 0 none) []
 (.seq (.seq (.region 11 [mv 64 13,o1 65 (.len 75 false (tm 64)),o1 66 (.move (ic 0))] 0 none) []
 (.block 2
 (.loop [] (0 :: 2 :: 6 :: 8 :: 9 :: 11 :: 13 :: 14 :: 15 :: (rl 18 46 (rl 67 36 [])))
  A29v8))) (11 :: 19 :: (rl 21 4 (rl 64 38 [])))
 A29v9))))
def A29:AF:=⟨103,[.cell 10 34 (some 2),.tmp 11],
 (.seq (.region 0 [o1 5 (bx 0 44 0),o1 7 (bx 1 31 2),o1 10 (.alloc 2 34 [vci 0,vci 0]),o1 11 (sb false)] 3 none) []
 (.seq (.region 1 [mv 25 4,o1 26 (.buildSlice 0 75 3 kD 1 [vci 0] [(0,(tm 25))]),mv 27 4,o1 28 (.buildSlice 1 75 3 kD 1 [vci 0] [(0,(tm 27))]),o1 12 (sg 26),o1 13 (sg 28)] 2 none) []
 (.seq (.seq (.region 2 [mv 29 1,o1 30 (.len 32 false (tm 29)),o1 31 (.move (ic 0))] 0 none) []
 (.block 0
 (.loop [.slot 12 kD,.slot 13 kD] (0 :: 2 :: 6 :: 8 :: 9 :: 11 :: (rl 14 15 (rl 32 71 [])))
  A29v2))) (15 :: (rl 29 25 []))
 A29v10)))⟩
def N396v1:St→Option St:=nN 5 (0 :: 2 :: 6 :: 8 :: 9 :: 11 :: (rl 14 15 (rl 32 71 [])))
def s396v0:St:=⟨(.u :: .x (.c (ro kE n0 f0)) :: .u :: vxi i0 :: vxi i1 :: .x (.ptr 0 0) :: .u :: .x (.ptr 1 0) :: .u :: .u :: .x (.ptr 2 0) :: .u :: .x (.own 3 0 n1) :: .x (.own 4 0 n1) :: (us 15 (.x (.c (ro kE n0 f0)) :: vxi i2 :: vxi i3 :: (us 71 [])))),[.box [(vcs w0),(vcs w1),(vci i4),(vci i5),(vci i6),(vcs w2)],.box (pjc kR0 g0),.box [(vci 0),(vci 0)],.arr kD n1 f1,.arr kD n1 f2]⟩
def s396v1:St:=⟨(.u :: .x (.c (ro kE n0 f0)) :: .u :: vxi i0 :: vxi i1 :: .x (.ptr 0 0) :: .u :: .x (.ptr 1 0) :: .u :: .u :: .x (.ptr 2 0) :: .u :: .x (.own 3 0 n1) :: .x (.own 4 0 n1) :: (us 89 [])),[.box [(vcs w0),(vcs w1),(vci i2),(vci i3),(vci i4),(vcs w2)],.box (pjc kR0 g0),.box [(vci 0),(vci 0)],.arr kD n1 f1,.arr kD n1 f2]⟩
def L396v1 {ρ:Type} (u:Nat) (x0:Nat) (x1:FF) (x2 x3 x4:Int) (x5 x6:ByteArray) (x7 x8 x9:Int) (xA:ByteArray) (xB:Nat→CV):Nat→Nat→Int→FF→FF→(Nat→FF→FF→Option ρ)→Option ρ
 | 0,_,_,_,_,_=>none
 | m+1,xC,xD,xE,xF,k0 =>
  (bif (decide (xD<x4)) then (bif (inb xD x0) then (bif (Nat.ble (xC+1) 1073741824) then (bif (Nat.ble (xC+1) 1073741824) then (L396v1 u x0 x1 x2 x3 x4 x5 x6 x7 x8 x9 xA xB m (xC+1) (w64 (xD+1)) (joinF xC xE (rowsF 1 [(.i .i64 (w64 ((x1 xD.toNat 2).int+(if 1>x3 then 1 else x3))))])) (joinF xC xF (rowsF 1 [(.i .i64 (w64 ((x1 xD.toNat 3).int+(if 1>x3 then 1 else x3))))])) k0) else none) else none) else none) else (k0 xC xE xF))
theorem nl396v1:∀ (m:Nat) (x0:Nat) (x1:Int) (x2 x3:FF) (k0:Nat→FF→FF→Option ρ),ob (L396v1 u n0 f0 i0 i1 i2 w0 w1 i3 i4 i5 w2 g0 m x0 x1 x2 x3 k0) ng=L396v1 u n0 f0 i0 i1 i2 w0 w1 i3 i4 i5 w2 g0 m x0 x1 x2 x3 (fun x4 x5 x6=>ob (k0 x4 x5 x6) ng)
 | 0,_,_,_,_,_=>rfl
 | m+1,x0,x1,x2,x3,k0=>by
  simp only [L396v1,ob_bif,ob_ob,ob_none,nl396v1 m]
theorem q396v1:∀ (m:Nat) (x0:Nat) (x1:Int) (x2 x3:FF),
  loopH (eB A29v2 (C44 u) u) N396v1 m (s396v0 n0 x0 f0 x2 x3 i0 i1 i2 x1 i3 i4 i5 w0 w1 w2 g0) k=L396v1 u n0 f0 i0 i1 i2 w0 w1 i3 i4 i5 w2 g0 m x0 x1 x2 x3 (fun x4 x5 x6=>k (.exit 0) (s396v1 n0 x4 f0 x5 x6 i0 i1 i3 i4 i5 w0 w1 w2 g0))
 | 0,_,_,_,_=>rfl
 | m+1,x0,x1,x2,x3=>by
  simp only [L396v1,← q396v1 m]
  kernel_rfl
def N396v3:St→Option St:=nN 5 (0 :: 2 :: 6 :: 8 :: 9 :: 11 :: 13 :: 14 :: 15 :: 18 :: (rl 20 44 (67 :: 68 :: 69 :: (rl 73 30 []))))
def s396v2:St:=⟨(.u :: .x (.c (ro kE n0 f0)) :: .u :: vxi i0 :: vxi i1 :: .x (.ptr 0 0) :: .u :: .x (.ptr 1 0) :: .u :: .u :: .x (.ptr 2 0) :: .u :: .x (.own 3 0 n1) :: (us 3 (vxi i2 :: vxi i3 :: .u :: vxi i4 :: (us 44 (.x (.own 4 0 n1) :: vxi i5 :: vxi i6 :: (us 3 (.x (.own 3 0 n1) :: vxi i7 :: vxi i8 :: (us 30 [])))))))),[.box [(vcs w0),(vcs w1),(vci i9),(vci iA),(vci iB),(vcs w2)],.box (pjc kR0 g0),.box [(vci 0),(vci 0)],.arr kD n1 f1,.arr kD n1 f2]⟩
def s396v3:St:=⟨(us 10 (.x (.ptr 2 0) :: vxb true :: (us 91 []))),[.dead,.dead,.box [(vci i0),(vci i1)],.dead,.dead,.dead,.dead]⟩
def s396v4:St:=⟨(.u :: .x (.c (ro kE n0 f0)) :: .u :: vxi i0 :: vxi i1 :: .x (.ptr 0 0) :: .u :: .x (.ptr 1 0) :: .u :: .u :: .x (.ptr 2 0) :: .u :: .x (.own 3 0 n1) :: (us 3 (vxi i2 :: vxi i3 :: (us 46 (.x (.own 4 0 n1) :: vxi i4 :: vxi i5 :: (us 36 [])))))),[.box [(vcs w0),(vcs w1),(vci i6),(vci i7),(vci i8),(vcs w2)],.box (pjc kR0 g0),.box [(vci 0),(vci 0)],.arr kD n1 f1,.arr kD n1 f2]⟩
def L396v3 {ρ:Type} (u:Nat) (x0:Nat) (x1:FF) (x2 x3:Int) (x4:Nat) (x5 x6 x7 x8 x9 xA:Int) (xB xC:ByteArray) (xD xE xF:Int) (xG:ByteArray) (xH:Nat→CV) (xI xJ:FF):Nat→Int→(Int→Option ρ)→(Option ρ)→Option ρ
 | 0,_,_,_=>none
 | m+1,xK,k0,k1 =>
  (bif (decide (xK<xA)) then (bif (inb xK x4) then (ob (F394 u (listF (pj kR0 xH)) x2 (xI (0+xK.toNat) 0).int x7) fun xL=>(bif (xL.2.2.2.2.2==true) then (ob (F395 u xE xF x0 x1 (xI (0+xK.toNat) 0).int x7 x5 x6 x3) fun xM=>(bif xM then (k0 (xI (0+xK.toNat) 0).int) else (L396v3 u x0 x1 x2 x3 x4 x5 x6 x7 x8 x9 xA xB xC xD xE xF xG xH xI xJ m (w64 (xK+1)) k0 k1))) else (L396v3 u x0 x1 x2 x3 x4 x5 x6 x7 x8 x9 xA xB xC xD xE xF xG xH xI xJ m (w64 (xK+1)) k0 k1))) else none) else k1)
theorem nl396v3:∀ (m:Nat) (x0:Int) (k0:Int→Option ρ) (k1:Option ρ),ob (L396v3 u n0 f0 i0 i1 n1 i2 i3 i4 i5 i6 i7 w0 w1 i8 i9 iA w2 g0 f1 f2 m x0 k0 k1) ng=L396v3 u n0 f0 i0 i1 n1 i2 i3 i4 i5 i6 i7 w0 w1 i8 i9 iA w2 g0 f1 f2 m x0 (fun x1=>ob (k0 x1) ng) (ob k1 ng)
 | 0,_,_,_=>rfl
 | m+1,x0,k0,k1=>by
  simp only [L396v3,ob_bif,ob_ob,ob_none,nl396v3 m]
theorem q396v3:∀ (m:Nat) (x0:Int),
  loopH (eB A29v5 (C44 u) u) N396v3 m (s396v2 n0 n1 f0 f1 f2 i0 i1 i2 i3 i4 i5 i6 i7 x0 i8 i9 iA w0 w1 w2 g0) k=L396v3 u n0 f0 i0 i1 n1 i2 i3 i4 i5 i6 i7 w0 w1 i8 i9 iA w2 g0 f1 f2 m x0 (fun x1=>k .ret (s396v3 x1 i4)) (k (.exit 4) (s396v4 n0 n1 f0 f1 f2 i0 i1 i2 i3 i5 i6 i8 i9 iA w0 w1 w2 g0))
 | 0,_=>rfl
 | m+1,x0=>by
  simp only [L396v3,← q396v3 m]
  kernel_rfl
def N396v4:St→Option St:=nN 5 (0 :: 2 :: 6 :: 8 :: 9 :: 11 :: 13 :: 14 :: 15 :: (rl 18 46 (rl 67 36 [])))
def s396v5:St:=⟨(.u :: .x (.c (ro kE n0 f0)) :: .u :: vxi i0 :: vxi i1 :: .x (.ptr 0 0) :: .u :: .x (.ptr 1 0) :: .u :: .u :: .x (.ptr 2 0) :: .u :: .x (.own 3 0 n1) :: (us 3 (vxi i2 :: vxi i3 :: (us 46 (.x (.own 4 0 n1) :: vxi i4 :: vxi i5 :: (us 36 [])))))),[.box [(vcs w0),(vcs w1),(vci i6),(vci i7),(vci i8),(vcs w2)],.box (pjc kR0 g0),.box [(vci 0),(vci 0)],.arr kD n1 f1,.arr kD n1 f2]⟩
def s396v6:St:=⟨(us 10 (.x (.ptr 2 0) :: vxb true :: (us 91 []))),[.dead,.dead,.box [(vci i0),(vci i1)],.dead,.dead,.dead,.dead]⟩
def s396v7:St:=⟨(us 10 (.x (.ptr 2 0) :: (us 92 []))),[.dead,.dead,.box [(vci 0),(vci 0)],.dead,.dead]⟩
def L396v4 {ρ:Type} (u:Nat) (x0:Nat) (x1:FF) (x2 x3:Int) (x4:Nat) (x5 x6 x7:Int) (x8 x9:ByteArray) (xA xB xC:Int) (xD:ByteArray) (xE:Nat→CV) (xF xG:FF):Nat→Int→(Int→Int→Option ρ)→(Option ρ)→Option ρ
 | 0,_,_,_=>none
 | m+1,xH,k0,k1 =>
  (bif (decide (xH<x7)) then (bif (inb xH x4) then (L396v3 u x0 x1 x2 x3 x4 x5 x6 (xG (0+xH.toNat) 0).int x7 xH (Int.ofNat x4) x8 x9 xA xB xC xD xE xF xG u 0
  (fun xI=>(k0 xI (xG (0+xH.toNat) 0).int))
  (L396v4 u x0 x1 x2 x3 x4 x5 x6 x7 x8 x9 xA xB xC xD xE xF xG m (w64 (xH+1)) k0 k1)) else none) else k1)
theorem nl396v4:∀ (m:Nat) (x0:Int) (k0:Int→Int→Option ρ) (k1:Option ρ),ob (L396v4 u n0 f0 i0 i1 n1 i2 i3 i4 w0 w1 i5 i6 i7 w2 g0 f1 f2 m x0 k0 k1) ng=L396v4 u n0 f0 i0 i1 n1 i2 i3 i4 w0 w1 i5 i6 i7 w2 g0 f1 f2 m x0 (fun x1 x2=>ob (k0 x1 x2) ng) (ob k1 ng)
 | 0,_,_,_=>rfl
 | m+1,x0,k0,k1=>by
  simp only [L396v4,ob_bif,ob_ob,ob_none,nl396v4 m,nl396v3]
def s396v8:St:=⟨(.u :: .x (.c (ro kE n0 f0)) :: .u :: vxi i0 :: vxi i1 :: .x (.ptr 0 0) :: .u :: .x (.ptr 1 0) :: .u :: .u :: .x (.ptr 2 0) :: .u :: .x (.own 3 0 n1) :: (us 3 (vxi i2 :: vxi i3 :: .u :: vxi (f1 (0+i4.toNat) 0).int :: (us 44 (.x (.own 4 0 n1) :: vxi i5 :: vxi i4 :: vxb true :: .x (.aptr 4 (0+i4.toNat) 0) :: vxi (f1 (0+i4.toNat) 0).int :: .x (.own 3 0 n1) :: vxi (Int.ofNat n1) :: vxi 0 :: (us 30 [])))))),[.box [(vcs w0),(vcs w1),(vci i6),(vci i7),(vci i8),(vcs w2)],.box (pjc kR0 g0),.box [(vci 0),(vci 0)],.arr kD n1 f2,.arr kD n1 f1]⟩
theorem r396v4 :
  loopH (eB A29v8 (C44 u) u) N396v4 (m+1) (s396v5 n0 n1 f0 f1 f2 i0 i1 i2 i3 i4 i8 i5 i6 i7 w0 w1 w2 g0) k =
  (bif (decide (i8<i4)) then (bif (inb i8 n1) then (loopN (eB A29v5 (C44 u) u) N396v3 u (s396v8 n0 n1 f0 f2 f1 i0 i1 i2 i3 i8 i4 i5 i6 i7 w0 w1 w2 g0) (kBlk 4 (kBlk 3 (kSeq (C44 u) u (11 :: 19 :: (rl 21 4 (rl 68 33 []))) A29v6 (kLoop (eB A29v8 (C44 u) u) N396v4 m k))))) else none) else (k (.exit 2) s396v7)):=by kernel_rfl
theorem t396v1 :
  loopN (eB A29v5 (C44 u) u) N396v3 u (s396v8 n0 n1 f0 f1 f2 i0 i1 i2 i3 i4 i5 i6 i7 i8 w0 w1 w2 g0) k =
  L396v3 u n0 f0 i0 i1 n1 i2 i3 (f1 (0+i4.toNat) 0).int i5 i4 (Int.ofNat n1) w0 w1 i6 i7 i8 w2 g0 f2 f1 u 0 (fun x0=>k .ret (s396v3 x0 (f1 (0+i4.toNat) 0).int)) (k (.exit 4) (s396v4 n0 n1 f0 f2 f1 i0 i1 i2 i3 i5 i4 i6 i7 i8 w0 w1 w2 g0)) :=
 Eq.trans (loopN_at (by kernel_rfl)) (q396v3 ..)
theorem g396v2 :
  (kBlk 4 (kBlk 3 (kSeq (C44 u) u (11 :: 19 :: (rl 21 4 (rl 68 33 []))) A29v6 (kLoop (eB A29v8 (C44 u) u) N396v4 m k)))) .ret (s396v3 i0 (f0 (0+i1.toNat) 0).int) =
  (k .ret (s396v6 i0 (f0 (0+i1.toNat) 0).int)):=by kernel_rfl
theorem g396v3 :
  (kBlk 4 (kBlk 3 (kSeq (C44 u) u (11 :: 19 :: (rl 21 4 (rl 68 33 []))) A29v6 (kLoop (eB A29v8 (C44 u) u) N396v4 m k)))) (.exit 4) (s396v4 n0 n1 f0 f1 f2 i0 i1 i2 i3 i4 i5 i6 i7 i8 w0 w1 w2 g0) =
  (loopH (eB A29v8 (C44 u) u) N396v4 m (s396v5 n0 n1 f0 f1 f2 i0 i1 i2 i3 i4 (w64 (i5+1)) i6 i7 i8 w0 w1 w2 g0) k):=by kernel_rfl
theorem q396v4:∀ (m:Nat) (x0:Int),
  loopH (eB A29v8 (C44 u) u) N396v4 m (s396v5 n0 n1 f0 f1 f2 i0 i1 i2 i3 i4 x0 i5 i6 i7 w0 w1 w2 g0) k=L396v4 u n0 f0 i0 i1 n1 i2 i3 i4 w0 w1 i5 i6 i7 w2 g0 f1 f2 m x0 (fun x1 x2=>k .ret (s396v6 x1 x2)) (k (.exit 2) s396v7)
 | 0,_=>rfl
 | m+1,x0=>by
  rw [r396v4]
  simp only [L396v4,q396v4 m,t396v1,g396v2,g396v3]
def F396 (x0 x1:ByteArray) (x2 x3 x4:Int) (x5:ByteArray) (x6:Nat) (x7:FF) (x8:Nat→CV) (x9 xA:Int):Option (Int × Int × Bool) :=
 (L396v1 u x6 x7 x9 xA (Int.ofNat x6) x0 x1 x2 x3 x4 x5 x8 u 1 0 (rowsF 1 [(.i .i64 xA)]) (rowsF 1 [(.i .i64 xA)])
  (fun xB xC xD=>(ob (F392 u xB xC) fun xE=>(bif (Nat.beq xB xB) then (bif (Nat.beq xB 0) then (ob (F392 u xB xD) fun xF=>(bif (Nat.beq xB xB) then (bif (Nat.beq xB 0) then (ob (F393 u (listF (pj kR0 x8)) x9) fun xG=>(L396v4 u x6 x7 x9 xA xB xG.1 xG.2 (Int.ofNat xB) x0 x1 x2 x3 x4 x5 x8 xC xD u 0
  (fun xH xI=>(some (xH,xI,true)))
  (some (0,0,false)))) else (ob (F393 u (listF (pj kR0 x8)) x9) fun xJ=>(L396v4 u x6 x7 x9 xA xB xJ.1 xJ.2 (Int.ofNat xB) x0 x1 x2 x3 x4 x5 x8 xC xF u 0
  (fun xK xL=>(some (xK,xL,true)))
  (some (0,0,false))))) else none)) else (ob (F392 u xB xD) fun xM=>(bif (Nat.beq xB xB) then (bif (Nat.beq xB 0) then (ob (F393 u (listF (pj kR0 x8)) x9) fun xN=>(L396v4 u x6 x7 x9 xA xB xN.1 xN.2 (Int.ofNat xB) x0 x1 x2 x3 x4 x5 x8 xE xD u 0
  (fun xO xP=>(some (xO,xP,true)))
  (some (0,0,false)))) else (ob (F393 u (listF (pj kR0 x8)) x9) fun xQ=>(L396v4 u x6 x7 x9 xA xB xQ.1 xQ.2 (Int.ofNat xB) x0 x1 x2 x3 x4 x5 x8 xE xM u 0
  (fun xR xS=>(some (xR,xS,true)))
  (some (0,0,false))))) else none))) else none))))
def s396v9:St:=⟨[.agg [(vcs w0),(vcs w1),(vci i0),(vci i1),(vci i2),(vcs w2)],.x (.c (ro kE n0 f0)),.agg (pjc kR0 g0),vxi i3,vxi i4,.x (.ptr 0 0),uu,.x (.ptr 1 0),uu,uu,.x (.ptr 2 0),vxb false,.x (.own 3 0 1),.x (.own 4 0 1),uu,uu,uu,uu,uu,uu,uu,uu,uu,uu,uu,vxi i4,.x (.own 3 0 1),vxi i4,.x (.own 4 0 1),.x (.c (ro kE n0 f0)),vxi (Int.ofNat n0),vxi 0,uu,uu,uu,uu,uu,uu,uu,uu,uu,uu,uu,uu,uu,uu,uu,uu,uu,uu,uu,uu,uu,uu,uu,uu,uu,uu,uu,uu,uu,uu,uu,uu,uu,uu,uu,uu,uu,uu,uu,uu,uu,uu,uu,uu,uu,uu,uu,uu,uu,uu,uu,uu,uu,uu,uu,uu,uu,uu,uu,uu,uu,uu,uu,uu,uu,uu,uu,uu,uu,uu,uu],[.box [(vcs w0),(vcs w1),(vci i0),(vci i1),(vci i2),(vcs w2)],.box (pjc kR0 g0),.box [(vci 0),(vci 0)],.arr kD 1 (rowsF 1 [(vi i4)]),.arr kD 1 (rowsF 1 [(vi i4)])]⟩
theorem t396v4 :
  loopN (eB A29v2 (C44 u) u) N396v1 u (s396v9 n0 f0 i0 i1 i2 i3 i4 w0 w1 w2 g0) k =
  L396v1 u n0 f0 i3 i4 (Int.ofNat n0) w0 w1 i0 i1 i2 w2 g0 u 1 0 (rowsF 1 [(vi i4)]) (rowsF 1 [(vi i4)]) (fun x0 x1 x2=>k (.exit 0) (s396v1 n0 x0 f0 x1 x2 i3 i4 i0 i1 i2 w0 w1 w2 g0)) :=
 Eq.trans (loopN_at (by kernel_rfl)) (q396v1 ..)
def s396v10 (x0:Int × Int):St:=⟨(.u :: .x (.c (ro kE n0 f0)) :: .u :: vxi i0 :: vxi i1 :: .x (.ptr 0 0) :: .u :: .x (.ptr 1 0) :: .u :: .u :: .x (.ptr 2 0) :: .u :: .x (.own 3 0 n1) :: .x (.own 4 0 n1) :: .u :: .u :: vxi x0.1 :: vxi x0.2 :: (us 36 (.x (.own 3 0 n1) :: .u :: .x (.own 4 0 n1) :: .u :: .tup [.v (vi x0.1),.v (vi x0.2)] :: .agg (pjc kR0 g0) :: vxi i0 :: .tup [.v (vi x0.1),.v (vi x0.2)] :: vxi x0.1 :: vxi x0.2 :: .x (.own 4 0 n1) :: vxi (Int.ofNat n1) :: vxi 0 :: (us 36 [])))),[.box [(vcs w0),(vcs w1),(vci i2),(vci i3),(vci i4),(vcs w2)],.box (pjc kR0 g0),.box [(vci 0),(vci 0)],.arr kD n1 f1,.arr kD n1 f2]⟩
def s396v11 (x0:Int × Int):St:=⟨(.u :: .x (.c (ro kE n0 f0)) :: .u :: vxi i0 :: vxi i1 :: .x (.ptr 0 0) :: .u :: .x (.ptr 1 0) :: .u :: .u :: .x (.ptr 2 0) :: .u :: .x (.own 3 0 n1) :: .x (.own 4 0 n1) :: .u :: .u :: vxi x0.1 :: vxi x0.2 :: (us 36 (.x (.own 3 0 n1) :: .u :: .x (.own 4 0 n1) :: .u :: .tup [.v (vi x0.1),.v (vi x0.2)] :: .agg (pjc kR0 g0) :: vxi i0 :: .tup [.v (vi x0.1),.v (vi x0.2)] :: vxi x0.1 :: vxi x0.2 :: .x (.own 4 0 n1) :: vxi (Int.ofNat n1) :: vxi 0 :: (us 36 [])))),[.box [(vcs w0),(vcs w1),(vci i2),(vci i3),(vci i4),(vcs w2)],.box (pjc kR0 g0),.box [(vci 0),(vci 0)],.arr kD n1 f1,.arr kD n1 f2]⟩
def s396v12 (x0:Int × Int):St:=⟨(.u :: .x (.c (ro kE n0 f0)) :: .u :: vxi i0 :: vxi i1 :: .x (.ptr 0 0) :: .u :: .x (.ptr 1 0) :: .u :: .u :: .x (.ptr 2 0) :: .u :: .x (.own 3 0 n1) :: .x (.own 4 0 n1) :: .u :: .u :: vxi x0.1 :: vxi x0.2 :: (us 36 (.x (.own 3 0 n1) :: .u :: .x (.own 4 0 n1) :: .u :: .tup [.v (vi x0.1),.v (vi x0.2)] :: .agg (pjc kR0 g0) :: vxi i0 :: .tup [.v (vi x0.1),.v (vi x0.2)] :: vxi x0.1 :: vxi x0.2 :: .x (.own 4 0 n1) :: vxi (Int.ofNat n1) :: vxi 0 :: (us 36 [])))),[.box [(vcs w0),(vcs w1),(vci i2),(vci i3),(vci i4),(vcs w2)],.box (pjc kR0 g0),.box [(vci 0),(vci 0)],.arr kD n1 f1,.arr kD n1 f2]⟩
def s396v13 (x0:Int × Int):St:=⟨(.u :: .x (.c (ro kE n0 f0)) :: .u :: vxi i0 :: vxi i1 :: .x (.ptr 0 0) :: .u :: .x (.ptr 1 0) :: .u :: .u :: .x (.ptr 2 0) :: .u :: .x (.own 3 0 n1) :: .x (.own 4 0 n1) :: .u :: .u :: vxi x0.1 :: vxi x0.2 :: (us 36 (.x (.own 3 0 n1) :: .u :: .x (.own 4 0 n1) :: .u :: .tup [.v (vi x0.1),.v (vi x0.2)] :: .agg (pjc kR0 g0) :: vxi i0 :: .tup [.v (vi x0.1),.v (vi x0.2)] :: vxi x0.1 :: vxi x0.2 :: .x (.own 4 0 n1) :: vxi (Int.ofNat n1) :: vxi 0 :: (us 36 [])))),[.box [(vcs w0),(vcs w1),(vci i2),(vci i3),(vci i4),(vcs w2)],.box (pjc kR0 g0),.box [(vci 0),(vci 0)],.arr kD n1 f1,.arr kD n1 f2]⟩
theorem g396v5 :
  (kBlk 0 (kSeq (C44 u) u (15 :: (rl 29 25 [])) A29v10 (finish A29))) (.exit 0) (s396v1 n0 n1 f0 f1 f2 i0 i1 i2 i3 i4 w0 w1 w2 g0) =
  (ob (F392 u n1 f1) fun x0=>(bif (Nat.beq n1 n1) then (bif (Nat.beq n1 0) then (ob (F392 u n1 f2) fun x1=>(bif (Nat.beq n1 n1) then (bif (Nat.beq n1 0) then (ob (F393 u (listF (pj kR0 g0)) i0) fun x2=>(loopN (eB A29v8 (C44 u) u) N396v4 u (s396v10 n0 n1 f0 f1 f2 i0 i1 i2 i3 i4 w0 w1 w2 g0 x2) (kBlk 2 (kSeq (C44 u) u (11 :: 19 :: (rl 21 4 (rl 64 38 []))) A29v9 (finish A29))))) else (ob (F393 u (listF (pj kR0 g0)) i0) fun x3=>(loopN (eB A29v8 (C44 u) u) N396v4 u (s396v11 n0 n1 f0 f1 x1 i0 i1 i2 i3 i4 w0 w1 w2 g0 x3) (kBlk 2 (kSeq (C44 u) u (11 :: 19 :: (rl 21 4 (rl 64 38 []))) A29v9 (finish A29)))))) else none)) else (ob (F392 u n1 f2) fun x4=>(bif (Nat.beq n1 n1) then (bif (Nat.beq n1 0) then (ob (F393 u (listF (pj kR0 g0)) i0) fun x5=>(loopN (eB A29v8 (C44 u) u) N396v4 u (s396v12 n0 n1 f0 x0 f2 i0 i1 i2 i3 i4 w0 w1 w2 g0 x5) (kBlk 2 (kSeq (C44 u) u (11 :: 19 :: (rl 21 4 (rl 64 38 []))) A29v9 (finish A29))))) else (ob (F393 u (listF (pj kR0 g0)) i0) fun x6=>(loopN (eB A29v8 (C44 u) u) N396v4 u (s396v13 n0 n1 f0 x0 x4 i0 i1 i2 i3 i4 w0 w1 w2 g0 x6) (kBlk 2 (kSeq (C44 u) u (11 :: 19 :: (rl 21 4 (rl 64 38 []))) A29v9 (finish A29)))))) else none))) else none)):=by kernel_rfl
theorem t396v6 (x0:Int × Int) :
  loopN (eB A29v8 (C44 u) u) N396v4 u (s396v10 n0 n1 f0 f1 f2 i0 i1 i2 i3 i4 w0 w1 w2 g0 x0) k =
  L396v4 u n0 f0 i0 i1 n1 x0.1 x0.2 (Int.ofNat n1) w0 w1 i2 i3 i4 w2 g0 f1 f2 u 0 (fun x1 x2=>k .ret (s396v6 x1 x2)) (k (.exit 2) s396v7) :=
 Eq.trans (loopN_at (by kernel_rfl)) (q396v4 ..)
theorem g396v7 :
  (kBlk 2 (kSeq (C44 u) u (11 :: 19 :: (rl 21 4 (rl 64 38 []))) A29v9 (finish A29))) .ret (s396v6 i0 i1) =
  (some [.agg [(vi i0),(vi i1)],.v (.b true)]):=by kernel_rfl
theorem g396v8 :
  (kBlk 2 (kSeq (C44 u) u (11 :: 19 :: (rl 21 4 (rl 64 38 []))) A29v9 (finish A29))) (.exit 2) s396v7 =
  (some [.agg [(vi 0),(vi 0)],.v (.b false)]):=by kernel_rfl
theorem t396v9 (x0:Int × Int) :
  loopN (eB A29v8 (C44 u) u) N396v4 u (s396v11 n0 n1 f0 f1 f2 i0 i1 i2 i3 i4 w0 w1 w2 g0 x0) k =
  L396v4 u n0 f0 i0 i1 n1 x0.1 x0.2 (Int.ofNat n1) w0 w1 i2 i3 i4 w2 g0 f1 f2 u 0 (fun x1 x2=>k .ret (s396v6 x1 x2)) (k (.exit 2) s396v7) :=
 Eq.trans (loopN_at (by kernel_rfl)) (q396v4 ..)
theorem g396v10 :
  (kBlk 2 (kSeq (C44 u) u (11 :: 19 :: (rl 21 4 (rl 64 38 []))) A29v9 (finish A29))) .ret (s396v6 i0 i1) =
  (some [.agg [(vi i0),(vi i1)],.v (.b true)]):=by kernel_rfl
theorem g396v11 :
  (kBlk 2 (kSeq (C44 u) u (11 :: 19 :: (rl 21 4 (rl 64 38 []))) A29v9 (finish A29))) (.exit 2) s396v7 =
  (some [.agg [(vi 0),(vi 0)],.v (.b false)]):=by kernel_rfl
theorem t396v12 (x0:Int × Int) :
  loopN (eB A29v8 (C44 u) u) N396v4 u (s396v12 n0 n1 f0 f1 f2 i0 i1 i2 i3 i4 w0 w1 w2 g0 x0) k =
  L396v4 u n0 f0 i0 i1 n1 x0.1 x0.2 (Int.ofNat n1) w0 w1 i2 i3 i4 w2 g0 f1 f2 u 0 (fun x1 x2=>k .ret (s396v6 x1 x2)) (k (.exit 2) s396v7) :=
 Eq.trans (loopN_at (by kernel_rfl)) (q396v4 ..)
theorem g396v13 :
  (kBlk 2 (kSeq (C44 u) u (11 :: 19 :: (rl 21 4 (rl 64 38 []))) A29v9 (finish A29))) .ret (s396v6 i0 i1) =
  (some [.agg [(vi i0),(vi i1)],.v (.b true)]):=by kernel_rfl
theorem g396v14 :
  (kBlk 2 (kSeq (C44 u) u (11 :: 19 :: (rl 21 4 (rl 64 38 []))) A29v9 (finish A29))) (.exit 2) s396v7 =
  (some [.agg [(vi 0),(vi 0)],.v (.b false)]):=by kernel_rfl
theorem t396v15 (x0:Int × Int) :
  loopN (eB A29v8 (C44 u) u) N396v4 u (s396v13 n0 n1 f0 f1 f2 i0 i1 i2 i3 i4 w0 w1 w2 g0 x0) k =
  L396v4 u n0 f0 i0 i1 n1 x0.1 x0.2 (Int.ofNat n1) w0 w1 i2 i3 i4 w2 g0 f1 f2 u 0 (fun x1 x2=>k .ret (s396v6 x1 x2)) (k (.exit 2) s396v7) :=
 Eq.trans (loopN_at (by kernel_rfl)) (q396v4 ..)
theorem g396v16 :
  (kBlk 2 (kSeq (C44 u) u (11 :: 19 :: (rl 21 4 (rl 64 38 []))) A29v9 (finish A29))) .ret (s396v6 i0 i1) =
  (some [.agg [(vi i0),(vi i1)],.v (.b true)]):=by kernel_rfl
theorem g396v17 :
  (kBlk 2 (kSeq (C44 u) u (11 :: 19 :: (rl 21 4 (rl 64 38 []))) A29v9 (finish A29))) (.exit 2) s396v7 =
  (some [.agg [(vi 0),(vi 0)],.v (.b false)]):=by kernel_rfl
theorem e396:evalF (C44 u) u A29 [.agg [(.s w0),(.s w1),(vi i0),(vi i1),(vi i2),(.s w2)],.v (ro kE n0 f0),.agg (pj kR0 g0),.v (vi i3),.v (vi i4)]=ob (F396 u w0 w1 i0 i1 i2 w2 n0 f0 g0 i3 i4) fun t=>some [.agg [(vi t.1),(vi t.2.1)],.v (.b t.2.2)]:=Eq.trans (b:=(loopN (eB A29v2 (C44 u) u) N396v1 u (s396v9 n0 f0 i0 i1 i2 i3 i4 w0 w1 w2 g0) (kBlk 0 (kSeq (C44 u) u (15 :: (rl 29 25 [])) A29v10 (finish A29))))) (by kernel_rfl) (by
 simp only [F396,ob_bif,ob_ob,ob_none,ob_some,nl396v1,nl396v4,t396v4,g396v5,t396v6,g396v7,g396v8,t396v9,g396v10,g396v11,t396v12,g396v13,g396v14,t396v15,g396v16,g396v17])
def O396:Ora:=mkO (qc (ag (tc cS (tc cS (tc ci (tc ci (tc ci (t1 cS))))))) (qc (av (cL kE)) (qc (ar kR0) (qc (av ci) (q1 (av ci)))))) (fun x=>F396 u x.1.1 x.1.2.1 x.1.2.2.1 x.1.2.2.2.1 x.1.2.2.2.2.1 x.1.2.2.2.2.2 x.2.1.1 x.2.1.2 x.2.2.1 x.2.2.2.1 x.2.2.2.2) fun t=>[.agg [(vi t.1),(vi t.2.1)],.v (.b t.2.2)]
theorem d396:DO (O396 u) (C44 u) 29 A29:=dO u (fun x=>by exact e396 u x.2.1.1 x.2.1.2 x.1.2.2.1 x.1.2.2.2.1 x.1.2.2.2.2.1 x.2.2.2.1 x.2.2.2.2 x.1.1 x.1.2.1 x.1.2.2.2.2.2 x.2.2.1)
def C45:Oracle:=(C44 u).add 29 (fun _=>true) (O396 u)
def A31:AF:=⟨26,[.cell 6 65 (some 4)],
 (.seq (.region 0 [o1 3 (bx 0 31 0),o1 5 (bx 1 34 2),o1 6 (.alloc 2 65 [vci 0,vci 0,vci 0,vci 0])] 3 none) []
 (.seq (.region 1 [o1 10 (ln 31 18 3),mv 11 1,o1 12 (cs 7 [10,11] [31,3]),mv 9 12,o1 13 (.extract (tm 9) 0),o1 14 (.extract (tm 9) 1),o1 7 (sg 13),o1 8 (sg 14)] 0 none) []
 (.seq (.region 2 [o1 15 (ln 34 2 5),o1 16 (fa 34 5 0 0),o1 17 (lo 3 16),mv 18 7,o1 19 (bt .add 3 17 18),o1 20 (fa 34 5 1 1),o1 21 (lo 3 20),mv 22 8,o1 23 (bt .add 3 21 22),o1 24 (.build 34 [vci 0,vci 0] [(0,1),(1,1)] 0 [(0,(tm 19)),(1,(tm 23))]),o1 25 (.build 65 [vci 0,vci 0,vci 0,vci 0] [(0,2),(2,2)] 0 [(0,(tm 15)),(1,(tm 24))]),o0 (.store 65 4 (tm 6) (tm 25))] 0 none) []
 (.ghost [0,1] (.ret (rl 0 6 (rl 7 19 [])))))))⟩
def F397 (x0:Nat→CV) (x1 x2 x3:Int):Option (Int × Int × Int × Int) :=
 (ob (F393 u (listF (pj kR0 x0)) x1) fun x4=>(some (x2,x3,(w64 (x2+x4.1)),(w64 (x3+x4.2)))))
theorem e397:evalF (C45 u) u A31 [.agg (pj kR0 g0),.v (vi i0),.agg [(vi i1),(vi i2)]]=ob (F397 u g0 i0 i1 i2) fun t=>some [.agg [(vi t.1),(vi t.2.1),(vi t.2.2.1),(vi t.2.2.2)]]:=by
 simp only [F397,ob_bif,ob_ob,ob_none,ob_some]
 kernel_rfl
def O397:Ora:=mkO (qc (ar kR0) (qc (av ci) (q1 (ag (tc ci (t1 ci)))))) (fun x=>F397 u x.1 x.2.1 x.2.2.1 x.2.2.2) fun t=>[.agg [(vi t.1),(vi t.2.1),(vi t.2.2.1),(vi t.2.2.2)]]
theorem d397:DO (O397 u) (C45 u) 31 A31:=dO u (fun x=>by exact e397 u x.2.1 x.2.2.1 x.2.2.2 x.1)
def C46:Oracle:=(C45 u).add 31 (fun _=>true) (O397 u)
def A14v1:AC:=(.region 16 [o1 80 (bk .add 3 40 1),mv 40 80] 0 none)
def A14v2:AC:=(.seq (.block 3
 (.seq (.region 12 [mv 42 40,o1 14 (sg 42)] 0 none) []
  (.seq (.region 13 [o1 44 (ln 44 6 3),mv 45 8,o1 46 (ln 31 18 10),mv 47 14,mv 48 2,o1 49 (cs 29 [44,45,46,47,48] [44,32,31,3,3]),mv 43 49,o1 50 (.extract (tm 43) 0),o1 51 (.extract (tm 43) 1),o1 15 (.alloc 0 34 [vci 0,vci 0]),o0 (.store 34 2 (tm 15) (tm 50)),o1 16 (sg 51)] 1 none) []
  (.seq (.region 14 [mv 52 16,mv 53 52,og 54 (.move (tm 13)) 53 true,og 55 (.unOp .not 4 (tm 54)) 53 true,og 56 (.move (tm 55)) 53 true,og 57 (fa 34 15 1 1) 56 false,og 58 (lo 3 57) 56 false,og 59 (fa 34 12 1 1) 56 false,og 60 (lo 3 59) 56 false,og 61 (bt .lss 3 58 60) 56 false,og 62 (pa 56 61) 53 true,og 63 (.move (tm 62)) 53 true,og 64 (fa 34 15 1 1) 63 false,og 65 (lo 3 64) 63 false,og 66 (fa 34 12 1 1) 63 false,og 67 (lo 3 66) 63 false,og 68 (bt .eql 3 65 67) 63 false,og 69 (.move (tm 68)) 63 false,og 70 (fa 34 15 0 0) 69 true,og 71 (lo 3 70) 69 true,og 72 (fa 34 12 0 0) 69 true,og 73 (lo 3 72) 69 true,og 74 (bt .lss 3 71 73) 69 true,og 75 (po 69 74) 63 false,og 76 (pa 63 75) 53 true,o1 77 (po 53 76)] 0 none) []
  (.cond (tm 77)
  (.region 15 [mv 78 14,o1 79 (ln 34 2 15),o1 11 (sg 78),o0 (.store 34 2 (tm 12) (tm 79)),o1 13 (sb true)] 0 (some [[],[],[0],[0,1,2],(rl 0 4 [])]))
  .skip))))) (14 :: 15 :: 16 :: (rl 42 38 []))
 A14v1)
def A14v3:AC:=(.seq (.region 11 [o1 41 (bk .lss 3 40 2)] 0 none) []
 (.seq (.cond (tm 41)
 .skip
 (.exit 2 (0 :: 1 :: 4 :: 5 :: 9 :: (rl 14 15 (rl 32 72 []))))) []
 A14v2))
def A14v4:AC:=(.seq (.region 17 [mv 81 13] 0 none) []
 (.cond (tm 81)
 (.seq (.region 18 [o1 83 (ln 31 18 10),mv 84 11,o1 85 (ln 34 2 12),o1 86 (cs 30 [83,84,85] [31,3,34]),mv 82 86,o1 87 (.extract (tm 82) 0),o1 88 (.extract (tm 82) 1),o1 17 (.alloc 0 63 [vcs ByteArray.empty,vci 0,vci 0,vci 0,vcb false]),o0 (.store 63 5 (tm 17) (tm 87)),o1 18 (sg 88)] 1 none) []
  (.seq (.region 19 [o1 89 (fa 52 7 2 2),o1 90 (lo 50 89),o1 91 (ln 63 5 17),o1 92 (.buildSlice 0 50 63 kB 1 [vcs ByteArray.empty,vci 0,vci 0,vci 0,vcb false] [(0,(tm 91))]),o1 93 (.append 1 50 63 kB 48 (tm 90) (tm 92)),o1 94 (fa 52 7 2 2),o0 (.store 50 1 (tm 94) (tm 93))] 2 none) []
  (.region 20 [mv 95 8,o1 96 (ln 31 18 10),mv 97 11,o1 98 (ln 34 2 12),o1 99 (cs 31 [96,97,98] [31,3,34]),o1 100 (.buildSlice 0 32 65 kE 1 [vci 0,vci 0,vci 0,vci 0] [(0,(tm 99))]),o1 101 (.append 1 32 65 kE 32 (tm 95) (tm 100)),o1 8 (sg 101)] 2 none)))
 .skip))
def A14v5:AC:=(.seq (.region 9 [o1 39 (.build 34 [vci 0,vci 0] [(0,1),(1,1)] 0 []),o1 12 (.alloc 0 34 [vci 0,vci 0]),o1 11 (sk 0),o0 (.store 34 2 (tm 12) (tm 39)),o1 13 (sb false)] 1 none) []
 (.seq (.seq (.region 10 [o1 40 (.move (ic 0))] 0 none) []
 (.block 2
 (.loop [] (0 :: 1 :: 4 :: 5 :: 9 :: (rl 14 15 (rl 32 8 (rl 41 63 []))))
  A14v3))) (14 :: 15 :: 16 :: (rl 40 41 []))
 A14v4))
def A14v6:AC:=(.region 21 [o1 102 (bk .add 3 31 1),mv 31 102] 0 none)
def A14v7:AC:=(.seq (.block 1
 (.seq (.region 7 [o1 33 (.indexAddr 45 31 18 (tm 29) (tm 31)),o1 34 (ln 31 18 33),o1 10 (.alloc 0 31 [vcs ByteArray.empty,vci 0,vci 0,vcs ByteArray.empty,vcs ByteArray.empty,vci 0,vcn,vcn,vcs ByteArray.empty,vci 0,vci 0,vci 0,vci 0,vci 0,vci 0,vci 0,vci 0,vci 0]),o0 (.store 31 18 (tm 10) (tm 34))] 1 none) []
  (.seq (.seq (.region 8 [o1 35 (fa 52 7 2 2),o1 36 (lo 50 35),o1 37 (.len 50 false (tm 36)),o1 38 (bk .eql 3 37 32)] 0 none) []
  (.cond (tm 38)
  (.ghost [0,4,5] (.exit 0 (rl 0 6 (rl 8 96 []))))
  .skip)) (rl 35 4 [])
  A14v5))) (rl 10 9 (rl 33 69 []))
 A14v6)
def A14v8:AC:=(.seq (.region 6 [o1 32 (bt .lss 3 31 30)] 0 none) []
 (.seq (.cond (tm 32)
 .skip
 (.ghost [0,4] (.exit 0 (rl 0 6 (rl 8 96 []))))) []
 A14v7))
def A14v9:AC:=(.seq (.region 22 [o1 103 (ln 52 3 7),o0 (.store 52 3 (tm 6) (tm 103))] 0 none) []
 (.ghost [0,2,4,5] (.ret (rl 0 6 (rl 7 97 [])))))
def A14v10:AC:=(.seq (.region 4 [o1 8 (.assign (.const (.slice none 0 0)))] 0 none) []
 (.seq (.seq (.region 5 [o1 27 (ln 44 6 3),mv 28 1,o1 29 (cf 22 [27,28] [44,45]),o1 30 (.len 45 false (tm 29)),o1 31 (.move (ic 0))] 0 none) []
 (.block 0
 (.loop [.cell 7 2 kB,.slot 8 kE] (0 :: 1 :: 4 :: 5 :: (rl 9 20 (rl 32 72 [])))
  A14v8))) (8 :: (rl 10 9 (rl 27 76 [])))
 A14v9))
def A14:AF:=⟨104,[.cell 6 52 (some 3)],
 (.seq (.region 0 [o1 3 (bx 0 44 0),o1 6 (.alloc 1 52 [vcs ByteArray.empty,vci 0,vcn])] 2 none) []
 (.seq (.region 1 [o1 19 (fa 44 3 0 0),o1 20 (lo 9 19),mv 21 2,o1 22 (.build 52 [vcs ByteArray.empty,vci 0,.c (.ro true kB 0 nilF)] [(0,1),(1,1),(2,1)] 0 [(0,(tm 20)),(1,(tm 21))]),o1 7 (.alloc 0 52 [vcs ByteArray.empty,vci 0,vcn]),o0 (.store 52 3 (tm 7) (tm 22))] 1 none) []
 (.seq (.seq (.region 2 [mv 23 2,o1 24 (.call 19 [(tm 23),(ic 0),(ic 500)] [3,3,3] .snap),o1 25 (.unOp .not 4 (tm 24))] 0 none) []
 (.cond (tm 25)
 (.seq (.region 3 [o1 26 (ln 52 3 7),o0 (.store 52 3 (tm 6) (tm 26))] 0 none) []
  (.ghost [0,2] (.ret (rl 0 6 (rl 7 97 [])))))
 .skip)) (rl 23 4 [])
 A14v10)))⟩
def N398v2:St→Option St:=nN 7 (0 :: 1 :: 4 :: 5 :: 9 :: (rl 14 15 (rl 32 8 (rl 41 63 []))))
def s398v0:St:=⟨(.u :: .u :: vxi i0 :: .x (.ptr 0 0) :: .u :: .u :: .x (.ptr 1 0) :: .x (.ptr 2 0) :: .x (.own 4 0 n0) :: .u :: .x (.ptr 5 0) :: vxi i1 :: .x (.ptr 6 0) :: vxb b0 :: (us 15 (.x (.c (ro kA n1 f0)) :: vxi i2 :: vxi i3 :: (us 8 (vxi i4 :: (us 63 [])))))),[.box [(vcs w0),(vcs w1),(vci i5),(vci i6),(vci i7),(vcs w2)],.box [(vcs ByteArray.empty),(vci 0),(vcn)],.box [(vcs w0),(vci i0),(.own 3 0 n0)],.arr kB n0 f1,.arr kE n0 f2,.box [(vcs w3),(vci i8),(vci i9),(vcs w4),(vcs w5),(vci iA),(.c (ro kP n2 f3)),(.c (ro kF n3 f4)),(vcs w6),(vci iB),(vci iC),(vci iD),(vci iE),(vci iF),(vci iG),(vci iH),(vci iI),(vci iJ)],.box [(vci iK),(vci iL)]]⟩
def s398v1:St:=⟨(.u :: .u :: vxi i0 :: .x (.ptr 0 0) :: .u :: .u :: .x (.ptr 1 0) :: .x (.ptr 2 0) :: .x (.own 4 0 n0) :: .u :: .x (.ptr 5 0) :: vxi i1 :: .x (.ptr 6 0) :: vxb b0 :: (us 15 (.x (.c (ro kA n1 f0)) :: vxi i2 :: vxi i3 :: (us 72 [])))),[.box [(vcs w0),(vcs w1),(vci i4),(vci i5),(vci i6),(vcs w2)],.box [(vcs ByteArray.empty),(vci 0),(vcn)],.box [(vcs w0),(vci i0),(.own 3 0 n0)],.arr kB n0 f1,.arr kE n0 f2,.box [(vcs w3),(vci i7),(vci i8),(vcs w4),(vcs w5),(vci i9),(.c (ro kP n2 f3)),(.c (ro kF n3 f4)),(vcs w6),(vci iA),(vci iB),(vci iC),(vci iD),(vci iE),(vci iF),(vci iG),(vci iH),(vci iI)],.box [(vci iJ),(vci iK)]]⟩
def L398v2 {ρ:Type} (u:Nat) (x0:Int) (x1 x2:Nat) (x3:FF) (x4 x5:Int) (x6 x7:ByteArray) (x8 x9 xA:Int) (xB:ByteArray) (xC xD:FF) (xE:ByteArray) (xF xG:Int) (xH xI:ByteArray) (xJ:Int) (xK:Nat) (xL:FF) (xM:Nat) (xN:FF) (xO:ByteArray) (xP xQ xR xS xT xU xV xW xX:Int):Nat→Int→Bool→Int→Int→Int→(Int→Bool→Int→Int→Option ρ)→Option ρ
 | 0,_,_,_,_,_,_=>none
 | m+1,xY,xZ,xa,xb,xc,k0 =>
  (bif (decide (xa<2)) then (ob (F396 u x6 x7 x8 x9 xA xB x1 xD (listF [(.s xE),(.i .i64 xF),(.i .i64 xG),(.s xH),(.s xI),(.i .i64 xJ),(.ro false (.pr (.int .i64) (.pr (.int .i64) .nil)) xK xL),(.ro false (.pr (.sl (.pr (.int .i64) (.pr (.int .i64) .nil))) .nil) xM xN),(.s xO),(.i .i64 xP),(.i .i64 xQ),(.i .i64 xR),(.i .i64 xS),(.i .i64 xT),(.i .i64 xU),(.i .i64 xV),(.i .i64 xW),(.i .i64 xX)]) xa x0) fun xd=>(bif (xd.2.2==true) then (bif ((!xZ)==false) then (bif ((decide (xd.2.1<xc))==false) then (bif ((xd.2.1==xc)==true) then (bif (decide (xd.1<xb)) then (L398v2 u x0 x1 x2 x3 x4 x5 x6 x7 x8 x9 xA xB xC xD xE xF xG xH xI xJ xK xL xM xN xO xP xQ xR xS xT xU xV xW xX m xa true (w64 (xa+1)) xd.1 xd.2.1 k0) else (L398v2 u x0 x1 x2 x3 x4 x5 x6 x7 x8 x9 xA xB xC xD xE xF xG xH xI xJ xK xL xM xN xO xP xQ xR xS xT xU xV xW xX m xY xZ (w64 (xa+1)) xb xc k0)) else (L398v2 u x0 x1 x2 x3 x4 x5 x6 x7 x8 x9 xA xB xC xD xE xF xG xH xI xJ xK xL xM xN xO xP xQ xR xS xT xU xV xW xX m xY xZ (w64 (xa+1)) xb xc k0)) else (L398v2 u x0 x1 x2 x3 x4 x5 x6 x7 x8 x9 xA xB xC xD xE xF xG xH xI xJ xK xL xM xN xO xP xQ xR xS xT xU xV xW xX m xa true (w64 (xa+1)) xd.1 xd.2.1 k0)) else (L398v2 u x0 x1 x2 x3 x4 x5 x6 x7 x8 x9 xA xB xC xD xE xF xG xH xI xJ xK xL xM xN xO xP xQ xR xS xT xU xV xW xX m xa true (w64 (xa+1)) xd.1 xd.2.1 k0)) else (L398v2 u x0 x1 x2 x3 x4 x5 x6 x7 x8 x9 xA xB xC xD xE xF xG xH xI xJ xK xL xM xN xO xP xQ xR xS xT xU xV xW xX m xY xZ (w64 (xa+1)) xb xc k0))) else (k0 xY xZ xb xc))
theorem nl398v2:∀ (m:Nat) (x0:Int) (x1:Bool) (x2 x3 x4:Int) (k0:Int→Bool→Int→Int→Option ρ),ob (L398v2 u i0 n0 n1 f0 i1 i2 w0 w1 i3 i4 i5 w2 f1 f2 w3 i6 i7 w4 w5 i8 n2 f3 n3 f4 w6 i9 iA iB iC iD iE iF iG iH m x0 x1 x2 x3 x4 k0) ng=L398v2 u i0 n0 n1 f0 i1 i2 w0 w1 i3 i4 i5 w2 f1 f2 w3 i6 i7 w4 w5 i8 n2 f3 n3 f4 w6 i9 iA iB iC iD iE iF iG iH m x0 x1 x2 x3 x4 (fun x5 x6 x7 x8=>ob (k0 x5 x6 x7 x8) ng)
 | 0,_,_,_,_,_,_=>rfl
 | m+1,x0,x1,x2,x3,x4,k0=>by
  simp only [L398v2,ob_bif,ob_ob,ob_none,nl398v2 m]
theorem q398v2:∀ (m:Nat) (x0:Int) (x1:Bool) (x2 x3 x4:Int),
  loopH (eB A14v3 (C46 u) u) N398v2 m (s398v0 n0 n1 n2 n3 f0 f1 f2 f3 f4 i0 x0 i1 i2 x2 i3 i4 i5 i6 i7 i8 i9 iA iB iC iD iE iF iG iH x3 x4 x1 w0 w1 w2 w3 w4 w5 w6) k=L398v2 u i0 n0 n1 f0 i1 i2 w0 w1 i3 i4 i5 w2 f1 f2 w3 i6 i7 w4 w5 i8 n2 f3 n3 f4 w6 i9 iA iB iC iD iE iF iG iH m x0 x1 x2 x3 x4 (fun x5 x6 x7 x8=>k (.exit 2) (s398v1 n0 n1 n2 n3 f0 f1 f2 f3 f4 i0 x5 i1 i2 i3 i4 i5 i6 i7 i8 i9 iA iB iC iD iE iF iG iH x7 x8 x6 w0 w1 w2 w3 w4 w5 w6))
 | 0,_,_,_,_,_=>rfl
 | m+1,x0,x1,x2,x3,x4=>by
  simp only [L398v2,← q398v2 m]
  kernel_rfl
def N398v3:St→Option St:=nN 5 (0 :: 1 :: 4 :: 5 :: (rl 9 20 (rl 32 72 [])))
def s398v2:St:=⟨(.u :: .u :: vxi i0 :: .x (.ptr 0 0) :: .u :: .u :: .x (.ptr 1 0) :: .x (.ptr 2 0) :: .x (.own 4 0 n0) :: (us 20 (.x (.c (ro kA n1 f0)) :: vxi i1 :: vxi i2 :: (us 72 [])))),[.box [(vcs w0),(vcs w1),(vci i3),(vci i4),(vci i5),(vcs w2)],.box [(vcs ByteArray.empty),(vci 0),(vcn)],.box [(vcs w0),(vci i0),(.own 3 0 n0)],.arr kB n0 f1,.arr kE n0 f2]⟩
def s398v3:St:=⟨(us 6 (.x (.ptr 1 0) :: .x (.ptr 2 0) :: (us 96 []))),[.dead,.box [(vcs ByteArray.empty),(vci 0),(vcn)],.box [(vcs w0),(vci i0),(.own 3 0 n0)],.arr kB n0 f0,.dead,.dead]⟩
def s398v4:St:=⟨(us 6 (.x (.ptr 1 0) :: .x (.ptr 2 0) :: (us 96 []))),[.dead,.box [(vcs ByteArray.empty),(vci 0),(vcn)],.box [(vcs w0),(vci i0),(.own 3 0 n0)],.arr kB n0 f0,.dead]⟩
def L398v3 {ρ:Type} (u:Nat) (x0:Int) (x1:Nat) (x2:FF) (x3:Int) (x4 x5:ByteArray) (x6 x7 x8:Int) (x9:ByteArray):Nat→Nat→Int→FF→FF→(Nat→FF→Option ρ)→(Nat→FF→Option ρ)→Option ρ
 | 0,_,_,_,_,_,_=>none
 | m+1,xA,xB,xC,xD,k0,k1 =>
  (bif (decide (xB<x3)) then (bif (inb xB x1) then (bif ((Int.ofNat xA)==32) then (k0 xA xC) else (L398v2 u x0 xA x1 x2 x3 xB x4 x5 x6 x7 x8 x9 xC xD (x2 xB.toNat 0).str (x2 xB.toNat 1).int (x2 xB.toNat 2).int (x2 xB.toNat 3).str (x2 xB.toNat 4).str (x2 xB.toNat 5).int (x2 xB.toNat 6).len (x2 xB.toNat 6).el (x2 xB.toNat 7).len (x2 xB.toNat 7).el (x2 xB.toNat 8).str (x2 xB.toNat 9).int (x2 xB.toNat 10).int (x2 xB.toNat 11).int (x2 xB.toNat 12).int (x2 xB.toNat 13).int (x2 xB.toNat 14).int (x2 xB.toNat 15).int (x2 xB.toNat 16).int (x2 xB.toNat 17).int u 0 false 0 0 0
  (fun xE xF xG xH=>(bif xF then (ob (F394 u (listF (pj kR0 (x2 xB.toNat))) xE xG xH) fun xI=>(bif (Nat.ble (xA+1) 1073741824) then (ob (F397 u (listF (pj kR0 (x2 xB.toNat))) xE xG xH) fun xJ=>(bif (Nat.ble (xA+1) 1073741824) then (L398v3 u x0 x1 x2 x3 x4 x5 x6 x7 x8 x9 m (xA+1) (w64 (xB+1)) (joinF xA xC (rowsF 5 [(.s xI.1),(.i .i64 xI.2.1),(.i .i64 xI.2.2.1),(.i .i64 xI.2.2.2.1),(.b xI.2.2.2.2.1)])) (joinF xA xD (rowsF 4 [(.i .i64 xJ.1),(.i .i64 xJ.2.1),(.i .i64 xJ.2.2.1),(.i .i64 xJ.2.2.2)])) k0 k1) else none)) else none)) else (L398v3 u x0 x1 x2 x3 x4 x5 x6 x7 x8 x9 m xA (w64 (xB+1)) xC xD k0 k1))))) else none) else (k1 xA xC))
theorem nl398v3:∀ (m:Nat) (x0:Nat) (x1:Int) (x2 x3:FF) (k0:Nat→FF→Option ρ) (k1:Nat→FF→Option ρ),ob (L398v3 u i0 n0 f0 i1 w0 w1 i2 i3 i4 w2 m x0 x1 x2 x3 k0 k1) ng=L398v3 u i0 n0 f0 i1 w0 w1 i2 i3 i4 w2 m x0 x1 x2 x3 (fun x4 x5=>ob (k0 x4 x5) ng) (fun x6 x7=>ob (k1 x6 x7) ng)
 | 0,_,_,_,_,_,_=>rfl
 | m+1,x0,x1,x2,x3,k0,k1=>by
  simp only [L398v3,ob_bif,ob_ob,ob_none,nl398v3 m,nl398v2]
def s398v5:St:=⟨(.u :: .u :: vxi i0 :: .x (.ptr 0 0) :: .u :: .u :: .x (.ptr 1 0) :: .x (.ptr 2 0) :: .x (.own 4 0 n0) :: .u :: .x (.ptr 5 0) :: vxi 0 :: .x (.ptr 6 0) :: vxb false :: (us 15 (.x (.c (ro kA n1 f0)) :: vxi i1 :: vxi i2 :: vxb true :: .x (.c (.rp kA (f0 i2.toNat))) :: .agg (pjc kR0 (f0 i2.toNat)) :: (us 4 (.agg [(vci 0),(vci 0)] :: vxi 0 :: (us 63 [])))))),[.box [(vcs w0),(vcs w1),(vci i3),(vci i4),(vci i5),(vcs w2)],.box [(vcs ByteArray.empty),(vci 0),(vcn)],.box [(vcs w0),(vci i0),(.own 3 0 n0)],.arr kB n0 f1,.arr kE n0 f2,.box (pjc kR0 (f0 i2.toNat)),.box [(vci 0),(vci 0)]]⟩
theorem r398v3 :
  loopH (eB A14v8 (C46 u) u) N398v3 (m+1) (s398v2 n1 n0 f0 f1 f2 i0 i1 i5 i2 i3 i4 w0 w1 w2) k =
  (bif (decide (i5<i1)) then (bif (inb i5 n0) then (bif ((Int.ofNat n1)==32) then (k (.exit 0) (s398v3 n1 f1 i0 w0)) else (loopN (eB A14v3 (C46 u) u) N398v2 u (s398v5 n1 n0 f0 f1 f2 i0 i1 i5 i2 i3 i4 w0 w1 w2) (kBlk 2 (kSeq (C46 u) u (14 :: 15 :: 16 :: (rl 40 41 [])) A14v4 (kBlk 1 (kSeq (C46 u) u (rl 10 9 (rl 33 69 [])) A14v6 (kLoop (eB A14v8 (C46 u) u) N398v3 m k))))))) else none) else (k (.exit 0) (s398v4 n1 f1 i0 w0))):=by kernel_rfl
theorem t398v1 :
  loopN (eB A14v3 (C46 u) u) N398v2 u (s398v5 n0 n1 f0 f1 f2 i0 i1 i2 i3 i4 i5 w0 w1 w2) k =
  L398v2 u i0 n0 n1 f0 i1 i2 w0 w1 i3 i4 i5 w2 f1 f2 (f0 i2.toNat 0).str (f0 i2.toNat 1).int (f0 i2.toNat 2).int (f0 i2.toNat 3).str (f0 i2.toNat 4).str (f0 i2.toNat 5).int (f0 i2.toNat 6).len (f0 i2.toNat 6).el (f0 i2.toNat 7).len (f0 i2.toNat 7).el (f0 i2.toNat 8).str (f0 i2.toNat 9).int (f0 i2.toNat 10).int (f0 i2.toNat 11).int (f0 i2.toNat 12).int (f0 i2.toNat 13).int (f0 i2.toNat 14).int (f0 i2.toNat 15).int (f0 i2.toNat 16).int (f0 i2.toNat 17).int u 0 false 0 0 0 (fun x0 x1 x2 x3=>k (.exit 2) (s398v1 n0 n1 (f0 i2.toNat 6).len (f0 i2.toNat 7).len f0 f1 f2 (f0 i2.toNat 6).el (f0 i2.toNat 7).el i0 x0 i1 i2 i3 i4 i5 (f0 i2.toNat 1).int (f0 i2.toNat 2).int (f0 i2.toNat 5).int (f0 i2.toNat 9).int (f0 i2.toNat 10).int (f0 i2.toNat 11).int (f0 i2.toNat 12).int (f0 i2.toNat 13).int (f0 i2.toNat 14).int (f0 i2.toNat 15).int (f0 i2.toNat 16).int (f0 i2.toNat 17).int x2 x3 x1 w0 w1 w2 (f0 i2.toNat 0).str (f0 i2.toNat 3).str (f0 i2.toNat 4).str (f0 i2.toNat 8).str)) :=
 Eq.trans (loopN_at (by kernel_rfl)) (q398v2 ..)
theorem g398v2 :
  (kBlk 2 (kSeq (C46 u) u (14 :: 15 :: 16 :: (rl 40 41 [])) A14v4 (kBlk 1 (kSeq (C46 u) u (rl 10 9 (rl 33 69 [])) A14v6 (kLoop (eB A14v8 (C46 u) u) N398v3 m k))))) (.exit 2) (s398v1 n0 n1 (f0 i3.toNat 6).len (f0 i3.toNat 7).len f0 f1 f2 (f0 i3.toNat 6).el (f0 i3.toNat 7).el i0 i1 i2 i3 i4 i5 i6 (f0 i3.toNat 1).int (f0 i3.toNat 2).int (f0 i3.toNat 5).int (f0 i3.toNat 9).int (f0 i3.toNat 10).int (f0 i3.toNat 11).int (f0 i3.toNat 12).int (f0 i3.toNat 13).int (f0 i3.toNat 14).int (f0 i3.toNat 15).int (f0 i3.toNat 16).int (f0 i3.toNat 17).int i7 i8 b0 w0 w1 w2 (f0 i3.toNat 0).str (f0 i3.toNat 3).str (f0 i3.toNat 4).str (f0 i3.toNat 8).str) =
  (bif b0 then (ob (F394 u (listF (pj kR0 (f0 i3.toNat))) i1 i7 i8) fun x0=>(bif (Nat.ble (n0+1) 1073741824) then (ob (F397 u (listF (pj kR0 (f0 i3.toNat))) i1 i7 i8) fun x1=>(bif (Nat.ble (n0+1) 1073741824) then (loopH (eB A14v8 (C46 u) u) N398v3 m (s398v2 (n0+1) n1 f0 (joinF n0 f1 (rowsF 5 [(.s x0.1),(vi x0.2.1),(vi x0.2.2.1),(vi x0.2.2.2.1),(.b x0.2.2.2.2.1)])) (joinF n0 f2 (rowsF 4 [(vi x1.1),(vi x1.2.1),(vi x1.2.2.1),(vi x1.2.2.2)])) i0 i2 (w64 (i3+1)) i4 i5 i6 w0 w1 w2) k) else none)) else none)) else (loopH (eB A14v8 (C46 u) u) N398v3 m (s398v2 n0 n1 f0 f1 f2 i0 i2 (w64 (i3+1)) i4 i5 i6 w0 w1 w2) k)):=by kernel_rfl
theorem q398v3:∀ (m:Nat) (x0:Nat) (x1:Int) (x2 x3:FF),
  loopH (eB A14v8 (C46 u) u) N398v3 m (s398v2 x0 n0 f0 x2 x3 i0 i1 x1 i2 i3 i4 w0 w1 w2) k=L398v3 u i0 n0 f0 i1 w0 w1 i2 i3 i4 w2 m x0 x1 x2 x3 (fun x4 x5=>k (.exit 0) (s398v3 x4 x5 i0 w0)) (fun x6 x7=>k (.exit 0) (s398v4 x6 x7 i0 w0))
 | 0,_,_,_,_=>rfl
 | m+1,x0,x1,x2,x3=>by
  rw [r398v3]
  simp only [L398v3,q398v3 m,t398v1,g398v2]
def FT398 (x0 x1:ByteArray) (x2 x3 x4:Int) (x5:ByteArray) (x6:Nat) (x7:FF) (x8:Int):Option (Bool × ByteArray × Int × Nat × FF) :=
 (ob (F389 u x8 0 500) fun x9=>(bif (!x9) then (some (true,x0,x8,0,(fun _ _=>.any))) else (ob (F391 u x0 x1 x2 x3 x4 x5 x6 x7) fun xA=>(L398v3 u x8 xA.1 xA.2 (Int.ofNat xA.1) x0 x1 x2 x3 x4 x5 u 0 0 (fun _ _=>.any) (fun _ _=>.any)
  (fun xB xC=>(some (false,x0,x8,xB,xC)))
  (fun xD xE=>(some (false,x0,x8,xD,xE)))))))
def s398v6 (x0:Nat × FF):St:=⟨(.agg [(vcs w0),(vcs w1),(vci i0),(vci i1),(vci i2),(vcs w2)] :: .x (.c (ro kA n0 f0)) :: vxi i3 :: .x (.ptr 0 0) :: uu :: uu :: .x (.ptr 1 0) :: .x (.ptr 2 0) :: .x (.own 4 0 0) :: uu :: uu :: uu :: uu :: uu :: uu :: uu :: uu :: uu :: uu :: .x (.ptr 0 0) :: vxs w0 :: vxi i3 :: .agg [(vcs w0),(vci i3),(.c (.ro true kB 0 nilF))] :: (us 4 [.agg [(vcs w0),(vcs w1),(vci i0),(vci i1),(vci i2),(vcs w2)],.x (.c (ro kA n0 f0)),.x (.c (ro kA x0.1 x0.2)),vxi (Int.ofNat x0.1),vxi 0,uu,uu,uu,uu,uu,uu,uu,uu,uu,uu,uu,uu,uu,uu,uu,uu,uu,uu,uu,uu,uu,uu,uu,uu,uu,uu,uu,uu,uu,uu,uu,uu,uu,uu,uu,uu,uu,uu,uu,uu,uu,uu,uu,uu,uu,uu,uu,uu,uu,uu,uu,uu,uu,uu,uu,uu,uu,uu,uu,uu,uu,uu,uu,uu,uu,uu,uu,uu,uu,uu,uu,uu])),[.box [(vcs w0),(vcs w1),(vci i0),(vci i1),(vci i2),(vcs w2)],.box [(vcs ByteArray.empty),(vci 0),(vcn)],.box [(vcs w0),(vci i3),(.own 3 0 0)],.arr kB 0 nilF,.arr kE 0 nilF]⟩
theorem t398v3 (x0:Nat × FF) :
  loopN (eB A14v8 (C46 u) u) N398v3 u (s398v6 n0 f0 i0 i1 i2 i3 w0 w1 w2 x0) k =
  L398v3 u i3 x0.1 x0.2 (Int.ofNat x0.1) w0 w1 i0 i1 i2 w2 u 0 0 nilF nilF (fun x1 x2=>k (.exit 0) (s398v3 x1 x2 i3 w0)) (fun x3 x4=>k (.exit 0) (s398v4 x3 x4 i3 w0)) :=
 Eq.trans (loopN_at (by kernel_rfl)) (q398v3 ..)
theorem g398v4 :
  (kBlk 0 (kSeq (C46 u) u (8 :: (rl 10 9 (rl 27 76 []))) A14v9 (finish A14))) (.exit 0) (s398v3 n0 f0 i0 w0) =
  (some [.agg [(.s w0),(vi i0),(ro kB n0 f0)]]):=by kernel_rfl
theorem g398v5 :
  (kBlk 0 (kSeq (C46 u) u (8 :: (rl 10 9 (rl 27 76 []))) A14v9 (finish A14))) (.exit 0) (s398v4 n0 f0 i0 w0) =
  (some [.agg [(.s w0),(vi i0),(ro kB n0 f0)]]):=by kernel_rfl
theorem e398:evalF (C46 u) u A14 [.agg [(.s w0),(.s w1),(vi i0),(vi i1),(vi i2),(.s w2)],.v (ro kA n0 f0),.v (vi i3)]=ob (FT398 u w0 w1 i0 i1 i2 w2 n0 f0 i3) fun t=>some (bif t.1 then [.agg [(.s t.2.1),(vi t.2.2.1),(.ro true kB 0 nilF)]] else [.agg [(.s t.2.1),(vi t.2.2.1),(ro kB t.2.2.2.1 t.2.2.2.2)]]):=Eq.trans (b:=(ob (F389 u i3 0 500) fun x0=>(bif (!x0) then (some [.agg [(.s w0),(vi i3),(.ro true kB 0 nilF)]]) else (ob (F391 u w0 w1 i0 i1 i2 w2 n0 f0) fun x1=>(loopN (eB A14v8 (C46 u) u) N398v3 u (s398v6 n0 f0 i0 i1 i2 i3 w0 w1 w2 x1) (kBlk 0 (kSeq (C46 u) u (8 :: (rl 10 9 (rl 27 76 []))) A14v9 (finish A14)))))))) (by kernel_rfl) (by
 simp only [FT398,ob_bif,ob_ob,ob_none,ob_some,nl398v3,t398v3,g398v4,g398v5,cond_true,cond_false])
def F398 (x0 x1:ByteArray) (x2 x3 x4:Int) (x5:ByteArray) (x6:Nat) (x7:FF) (x8:Int):Option (ByteArray × Int × Nat × FF):=ob (FT398 u x0 x1 x2 x3 x4 x5 x6 x7 x8) fun t=>some (bif t.1 then (t.2.1,t.2.2.1,0,(fun _ _=>.any)) else (t.2.1,t.2.2.1,t.2.2.2.1,t.2.2.2.2))
def O398:Ora:=mkO (qc (ag (tc cS (tc cS (tc ci (tc ci (tc ci (t1 cS))))))) (qc (av (cL kA)) (q1 (av ci)))) (fun x=>F398 u x.1.1 x.1.2.1 x.1.2.2.1 x.1.2.2.2.1 x.1.2.2.2.2.1 x.1.2.2.2.2.2 x.2.1.1 x.2.1.2 x.2.2) fun t=>[.agg [(.s t.1),(vi t.2.1),(ro kB t.2.2.1 t.2.2.2)]]
theorem d398:DO (O398 u) (C46 u) 14 A14:=dW u (fun x=>by exact e398 u x.2.1.1 x.2.1.2 x.1.2.2.1 x.1.2.2.2.1 x.1.2.2.2.2.1 x.2.2 x.1.1 x.1.2.1 x.1.2.2.2.2.2) (fun _=>rfl) fun t=>by
 obtain ⟨b,t⟩:=t
 cases b with
 | true=>exact (.cons (WkA.agg (.cons (Wk.refl _) (.cons (Wk.refl _) (.cons (Wk.ro (by rfl)) .nil)))) .nil)
 | false =>
  exact (.cons (WkA.agg (.cons (Wk.refl _) (.cons (Wk.refl _) (.cons (Wk.refl _) .nil)))) .nil)
def C47:Oracle:=(C46 u).add 14 (fun _=>true) (O398 u)
def A39v1:AC:=(.region 6 [o1 18 (bk .add 3 8 1),mv 8 18] 0 none)
def A39v2:AC:=(.seq (.block 1
 (.seq (.region 3 [mv 10 8,o1 5 (sg 10)] 0 none) []
  (.seq (.region 4 [mv 11 1,mv 12 0,mv 13 5,o1 14 (.indexAddr 75 3 1 (tm 12) (tm 13)),o1 15 (lo 3 14),o1 16 (bt .eql 3 11 15)] 0 none) []
  (.cond (tm 16)
  (.seq (.region 5 [mv 17 5,o1 4 (sg 17)] 0 none) []
   (.ret (rl 0 4 (rl 5 14 []))))
  .skip)))) (4 :: 5 :: (rl 10 8 []))
 A39v1)
def A39v3:AC:=(.seq (.region 2 [o1 9 (bt .lss 3 8 7)] 0 none) []
 (.seq (.cond (tm 9)
 .skip
 (.exit 0 (rl 0 19 []))) []
 A39v2))
def A39v4:AC:=(.seq (.region 7 [o1 4 (sk (-1))] 0 none) []
 (.ret (rl 0 4 (rl 5 14 []))))
def A39:AF:=⟨19,[.tmp 4],
 (.seq (.region 0 [o1 4 (sk 0)] 0 none) []
 (.seq (.seq (.region 1 [mv 6 0,o1 7 (.len 75 false (tm 6)),o1 8 (.move (ic 0))] 0 none) []
 (.block 0
 (.loop [] (rl 2 5 (rl 9 10 []))
  A39v3))) (rl 4 15 [])
 A39v4))⟩
def N338v1:St→Option St:=nN 0 (rl 2 5 (rl 9 10 []))
def s338v0:St:=⟨(.x (.c (ro kD n0 f0)) :: vxi i0 :: (us 5 (vxi i1 :: vxi i2 :: (us 10 [])))),[]⟩
def s338v1:St:=⟨(us 4 (vxi i0 :: (us 14 []))),[]⟩
def s338v2:St:=⟨(us 19 []),[]⟩
def L338v1 {ρ:Type} (u:Nat) (x0:Nat) (x1:FF) (x2 x3:Int):Nat→Int→(Int→Option ρ)→(Option ρ)→Option ρ
 | 0,_,_,_=>none
 | m+1,x4,k0,k1 =>
  (bif (decide (x4<x3)) then (bif (inb x4 x0) then (bif (x2==(x1 x4.toNat 0).int) then (k0 x4) else (L338v1 u x0 x1 x2 x3 m (w64 (x4+1)) k0 k1)) else none) else k1)
theorem nl338v1:∀ (m:Nat) (x0:Int) (k0:Int→Option ρ) (k1:Option ρ),ob (L338v1 u n0 f0 i0 i1 m x0 k0 k1) ng=L338v1 u n0 f0 i0 i1 m x0 (fun x1=>ob (k0 x1) ng) (ob k1 ng)
 | 0,_,_,_=>rfl
 | m+1,x0,k0,k1=>by
  simp only [L338v1,ob_bif,ob_ob,ob_none,nl338v1 m]
theorem q338v1:∀ (m:Nat) (x0:Int),
  loopH (eB A39v3 (C47 u) u) N338v1 m (s338v0 n0 f0 i0 i1 x0) k=L338v1 u n0 f0 i0 i1 m x0 (fun x1=>k .ret (s338v1 x1)) (k (.exit 0) s338v2)
 | 0,_=>rfl
 | m+1,x0=>by
  simp only [L338v1,← q338v1 m]
  kernel_rfl
def F338 (x0:Nat) (x1:FF) (x2:Int):Option (Int) :=
 (L338v1 u x0 x1 x2 (Int.ofNat x0) u 0
  (fun x3=>(some x3))
  (some (-1)))
def s338v3:St:=⟨[.x (.c (ro kD n0 f0)),vxi i0,uu,uu,vxi 0,uu,.x (.c (ro kD n0 f0)),vxi (Int.ofNat n0),vxi 0,uu,uu,uu,uu,uu,uu,uu,uu,uu,uu],[]⟩
theorem t338v1 :
  loopN (eB A39v3 (C47 u) u) N338v1 u (s338v3 n0 f0 i0) k =
  L338v1 u n0 f0 i0 (Int.ofNat n0) u 0 (fun x0=>k .ret (s338v1 x0)) (k (.exit 0) s338v2) :=
 Eq.trans (loopN_at (by kernel_rfl)) (q338v1 ..)
theorem g338v2 :
  (kBlk 0 (kSeq (C47 u) u (rl 4 15 []) A39v4 (finish A39))) .ret (s338v1 i0) =
  (some [.v (vi i0)]):=by kernel_rfl
theorem g338v3 :
  (kBlk 0 (kSeq (C47 u) u (rl 4 15 []) A39v4 (finish A39))) (.exit 0) s338v2 =
  (some [.v (vi (-1))]):=by kernel_rfl
theorem e338:evalF (C47 u) u A39 [.v (ro kD n0 f0),.v (vi i0)]=ob (F338 u n0 f0 i0) fun t=>some [.v (vi t)]:=Eq.trans (b:=(loopN (eB A39v3 (C47 u) u) N338v1 u (s338v3 n0 f0 i0) (kBlk 0 (kSeq (C47 u) u (rl 4 15 []) A39v4 (finish A39))))) (by kernel_rfl) (by
 simp only [F338,ob_bif,ob_ob,ob_none,ob_some,nl338v1,t338v1,g338v2,g338v3])
def O338:Ora:=mkO (qc (av (cL kD)) (q1 (av ci))) (fun x=>F338 u x.1.1 x.1.2 x.2) fun t=>[.v (vi t)]
theorem d338:DO (O338 u) (C47 u) 39 A39:=dO u (fun x=>by exact e338 u x.1.1 x.1.2 x.2)
def C48:Oracle:=(C47 u).add 39 (fun _=>true) (O338 u)
def A26v1:AC:=(.region 13 [o1 72 (bk .add 3 37 1),mv 37 72] 0 none)
def A26v2:AC:=(.seq (.block 3
 (.seq (.region 9 [o1 39 (.indexAddr 75 3 1 (tm 35) (tm 37)),o1 40 (lo 3 39),o1 17 (sg 40)] 0 none) []
  (.seq (.region 10 [mv 41 2,mv 42 17,o1 43 (cs 39 [41,42] [75,3]),mv 44 2,mv 45 14,o1 46 (cs 39 [44,45] [75,3]),o1 47 (bt .lss 3 43 46)] 0 none) []
  (.cond (tm 47)
  (.region 11 [o1 48 (fa 34 15 0 0),o1 49 (lo 3 48),mv 50 11,mv 51 17,o1 52 (.indexAddr 32 65 4 (tm 50) (tm 51)),o1 53 (fa 65 52 1 2),o1 54 (fa 34 53 0 0),o1 55 (lo 3 54),mv 56 12,o1 57 (bt .add 3 55 56),o1 58 (.mm true [(tm 49),(tm 57)] [3,3]),o1 59 (fa 34 15 0 0),o0 (.store 3 1 (tm 59) (tm 58))] 0 (some [[],[0],[],[],[2,3],[2,3,4],(rl 2 4 []),(rl 2 5 []),[],(rl 2 7 []),(rl 0 10 []),(rl 0 11 []),(rl 0 12 [])]))
  (.region 12 [o1 60 (fa 34 15 1 1),o1 61 (lo 3 60),mv 62 11,mv 63 17,o1 64 (.indexAddr 32 65 4 (tm 62) (tm 63)),o1 65 (fa 65 64 1 2),o1 66 (fa 34 65 1 1),o1 67 (lo 3 66),mv 68 12,o1 69 (bt .add 3 67 68),o1 70 (.mm true [(tm 61),(tm 69)] [3,3]),o1 71 (fa 34 15 1 1),o0 (.store 3 1 (tm 71) (tm 70))] 0 (some [[],[0],[],[],[2,3],[2,3,4],(rl 2 4 []),(rl 2 5 []),[],(rl 2 7 []),(rl 0 10 []),(rl 0 11 []),(rl 0 12 [])])))))) (17 :: (rl 39 33 []))
 A26v1)
def A26v3:AC:=(.seq (.region 8 [o1 38 (bt .lss 3 37 36)] 0 none) []
 (.seq (.cond (tm 38)
 .skip
 (.exit 2 (rl 5 6 (13 :: (rl 16 7 (rl 26 62 [])))))) []
 A26v2))
def A26v4:AC:=(.region 14 [mv 73 11,mv 74 14,mv 75 0,mv 76 14,o1 77 (.indexAddr 45 31 18 (tm 75) (tm 76)),o1 78 (ln 31 18 77),mv 79 1,mv 80 14,o1 81 (.indexAddr 75 3 1 (tm 79) (tm 80)),o1 82 (lo 3 81),o1 83 (ln 34 2 15),o1 84 (cs 31 [78,82,83] [31,3,34]),o1 85 (.indexAddr 32 65 4 (tm 73) (tm 74)),o0 (.store 65 4 (tm 85) (tm 84))] 0 (some [[],[],[],[],[2,3],[2,3,4],[],[],[6,7],[6,7,8],[],(rl 2 9 []),(rl 0 12 []),(rl 0 13 [])]))
def A26v5:AC:=(.region 15 [o1 86 (bk .add 3 25 1),mv 25 86] 0 none)
def A26v6:AC:=(.seq (.block 1
 (.seq (.region 5 [mv 27 25,o1 28 (.indexAddr 75 3 1 (tm 23) (tm 25)),o1 29 (lo 3 28),o1 13 (sg 27),o1 14 (sg 29)] 0 none) []
  (.seq (.region 6 [mv 30 4,mv 31 4,o1 32 (.build 34 [vci 0,vci 0] [(0,1),(1,1)] 0 [(0,(tm 30)),(1,(tm 31))]),o1 15 (.alloc 0 34 [vci 0,vci 0]),o0 (.store 34 2 (tm 15) (tm 32))] 1 none) []
  (.seq (.seq (.region 7 [mv 33 3,mv 34 13,o1 35 (.slice 75 3 1 (tm 33) none (some (tm 34)) none),o1 36 (.len 75 false (tm 35)),o1 37 (.move (ic 0))] 0 none) []
  (.block 2
  (.loop [] (rl 5 6 (13 :: (rl 16 7 (rl 26 9 (rl 38 50 [])))))
   A26v3))) (17 :: (rl 33 40 []))
  A26v4)))) (13 :: 14 :: 15 :: 17 :: (rl 27 59 []))
 A26v5)
def A26v7:AC:=(.seq (.region 4 [o1 26 (bt .lss 3 25 24)] 0 none) []
 (.seq (.cond (tm 26)
 .skip
 (.exit 0 (rl 0 11 (rl 12 76 [])))) []
 A26v6))
def A26v8:AC:=(.seq (.region 16 [mv 87 11,o1 10 (sg 87)] 0 none) []
 (.ret (rl 0 10 (rl 11 77 []))))
def A26:AF:=⟨88,[.tmp 10],
 (.seq (.region 0 [o1 10 (.assign (.const (.slice none 0 0)))] 0 none) []
 (.seq (.region 1 [mv 18 0,o1 19 (.len 45 false (tm 18)),o1 20 (.makeSlice 0 32 65 kE 32 [(vi 0),(vi 0),(vi 0),(vi 0)] (tm 19) (tm 19)),o1 11 (sg 20)] 1 none) []
 (.seq (.region 2 [mv 21 4,o1 22 (.mm true [(tm 21),(ic 1)] [3,3]),o1 12 (sg 22)] 0 none) []
 (.seq (.seq (.region 3 [mv 23 3,o1 24 (.len 75 false (tm 23)),o1 25 (.move (ic 0))] 0 none) []
 (.block 0
 (.loop [] (rl 5 6 (rl 13 10 (rl 26 62 [])))
  A26v7))) (13 :: 14 :: 15 :: 17 :: (rl 23 64 []))
 A26v8))))⟩
def N399v2:St→Option St:=nN 2 (rl 5 6 (13 :: (rl 16 7 (rl 26 9 (rl 38 50 [])))))
def s399v0:St:=⟨(.x (.c (ro kA n0 f0)) :: .x (.c (ro kD n1 f1)) :: .x (.c (ro kD n2 f2)) :: .x (.c (ro kD n3 f3)) :: vxi i0 :: (us 6 (.x (.own 0 0 n4) :: vxi i1 :: .u :: vxi i2 :: .x (.ptr 1 0) :: (us 7 (.x (.c (ro kD n3 f3)) :: vxi i3 :: vxi i4 :: (us 9 (.x (.c (ro kD n5 f3)) :: vxi i5 :: vxi i6 :: (us 50 [])))))))),[.arr kE n4 f4,.box [(vci i7),(vci i8)]]⟩
def s399v1:St:=⟨(.x (.c (ro kA n0 f0)) :: .x (.c (ro kD n1 f1)) :: .x (.c (ro kD n2 f2)) :: .x (.c (ro kD n3 f3)) :: vxi i0 :: (us 6 (.x (.own 0 0 n4) :: vxi i1 :: .u :: vxi i2 :: .x (.ptr 1 0) :: (us 7 (.x (.c (ro kD n3 f3)) :: vxi i3 :: vxi i4 :: (us 62 [])))))),[.arr kE n4 f4,.box [(vci i5),(vci i6)]]⟩
def L399v2 {ρ:Type} (u:Nat) (x0:Nat) (x1:FF) (x2:Nat) (x3:FF) (x4:Nat) (x5:FF) (x6:Nat) (x7:FF) (x8:Int) (x9:Nat) (xA xB xC xD:Int) (xE:Nat) (xF:Int) (xG:FF):Nat→Int→Int→Int→(Int→Int→Option ρ)→Option ρ
 | 0,_,_,_,_=>none
 | m+1,xH,xI,xJ,k0 =>
  (bif (decide (xH<xF)) then (bif (inb xH xE) then (ob (F338 u x4 x5 (x7 xH.toNat 0).int) fun xK=>(ob (F338 u x4 x5 xB) fun xL=>(bif (decide (xK<xL)) then (bif (inb (x7 xH.toNat 0).int x9) then (L399v2 u x0 x1 x2 x3 x4 x5 x6 x7 x8 x9 xA xB xC xD xE xF xG m (w64 (xH+1)) (if (w64 ((CV.int (xG (0+(Int.toNat (x7 xH.toNat 0).int)) 2))+xA))>xI then (w64 ((CV.int (xG (0+(Int.toNat (x7 xH.toNat 0).int)) 2))+xA)) else xI) xJ k0) else none) else (bif (inb (x7 xH.toNat 0).int x9) then (L399v2 u x0 x1 x2 x3 x4 x5 x6 x7 x8 x9 xA xB xC xD xE xF xG m (w64 (xH+1)) xI (if (w64 ((CV.int (xG (0+(Int.toNat (x7 xH.toNat 0).int)) 3))+xA))>xJ then (w64 ((CV.int (xG (0+(Int.toNat (x7 xH.toNat 0).int)) 3))+xA)) else xJ) k0) else none)))) else none) else (k0 xI xJ))
theorem nl399v2:∀ (m:Nat) (x0 x1 x2:Int) (k0:Int→Int→Option ρ),ob (L399v2 u n0 f0 n1 f1 n2 f2 n3 f3 i0 n4 i1 i2 i3 i4 n5 i5 f4 m x0 x1 x2 k0) ng=L399v2 u n0 f0 n1 f1 n2 f2 n3 f3 i0 n4 i1 i2 i3 i4 n5 i5 f4 m x0 x1 x2 (fun x3 x4=>ob (k0 x3 x4) ng)
 | 0,_,_,_,_=>rfl
 | m+1,x0,x1,x2,k0=>by
  simp only [L399v2,ob_bif,ob_ob,ob_none,nl399v2 m]
theorem q399v2:∀ (m:Nat) (x0 x1 x2:Int),
  loopH (eB A26v3 (C48 u) u) N399v2 m (s399v0 n0 n1 n2 n3 n4 n5 f0 f1 f2 f3 f4 i0 i1 i2 i3 i4 i5 x0 x1 x2) k=L399v2 u n0 f0 n1 f1 n2 f2 n3 f3 i0 n4 i1 i2 i3 i4 n5 i5 f4 m x0 x1 x2 (fun x3 x4=>k (.exit 2) (s399v1 n0 n1 n2 n3 n4 f0 f1 f2 f3 f4 i0 i1 i2 i3 i4 x3 x4))
 | 0,_,_,_=>rfl
 | m+1,x0,x1,x2=>by
  simp only [L399v2,← q399v2 m]
  kernel_rfl
def N399v3:St→Option St:=nN 1 (rl 5 6 (rl 13 10 (rl 26 62 [])))
def s399v2:St:=⟨(.x (.c (ro kA n0 f0)) :: .x (.c (ro kD n1 f1)) :: .x (.c (ro kD n2 f2)) :: .x (.c (ro kD n3 f3)) :: vxi i0 :: (us 6 (.x (.own 0 0 n4) :: vxi i1 :: (us 10 (.x (.c (ro kD n3 f3)) :: vxi i2 :: vxi i3 :: (us 62 [])))))),[.arr kE n4 f4]⟩
def s399v3:St:=⟨(us 11 (.x (.own 0 0 n0) :: (us 76 []))),[.arr kE n0 f0]⟩
def L399v3 {ρ:Type} (u:Nat) (x0:Nat) (x1:FF) (x2:Nat) (x3:FF) (x4:Nat) (x5:FF) (x6:Nat) (x7:FF) (x8:Int) (x9:Nat) (xA xB:Int):Nat→Int→FF→(FF→Option ρ)→Option ρ
 | 0,_,_,_=>none
 | m+1,xC,xD,k0 =>
  (bif (decide (xC<xB)) then (bif (inb xC x6) then (bif (inbe xC x6) then (L399v2 u x0 x1 x2 x3 x4 x5 x6 x7 x8 x9 xA (x7 xC.toNat 0).int xB xC (xC.toNat-0) (Int.ofNat (xC.toNat-0)) xD u 0 x8 x8
  (fun xE xF=>(bif (inb (x7 xC.toNat 0).int x0) then (bif (inb (x7 xC.toNat 0).int x2) then (ob (F397 u (listF [(.s (CV.str (x1 (Int.toNat (x7 xC.toNat 0).int) 0))),(.i .i64 (CV.int (x1 (Int.toNat (x7 xC.toNat 0).int) 1))),(.i .i64 (CV.int (x1 (Int.toNat (x7 xC.toNat 0).int) 2))),(.s (CV.str (x1 (Int.toNat (x7 xC.toNat 0).int) 3))),(.s (CV.str (x1 (Int.toNat (x7 xC.toNat 0).int) 4))),(.i .i64 (CV.int (x1 (Int.toNat (x7 xC.toNat 0).int) 5))),(.ro false (.pr (.int .i64) (.pr (.int .i64) .nil)) (CV.len (x1 (Int.toNat (x7 xC.toNat 0).int) 6)) (CV.el (x1 (Int.toNat (x7 xC.toNat 0).int) 6))),(.ro false (.pr (.sl (.pr (.int .i64) (.pr (.int .i64) .nil))) .nil) (CV.len (x1 (Int.toNat (x7 xC.toNat 0).int) 7)) (CV.el (x1 (Int.toNat (x7 xC.toNat 0).int) 7))),(.s (CV.str (x1 (Int.toNat (x7 xC.toNat 0).int) 8))),(.i .i64 (CV.int (x1 (Int.toNat (x7 xC.toNat 0).int) 9))),(.i .i64 (CV.int (x1 (Int.toNat (x7 xC.toNat 0).int) 10))),(.i .i64 (CV.int (x1 (Int.toNat (x7 xC.toNat 0).int) 11))),(.i .i64 (CV.int (x1 (Int.toNat (x7 xC.toNat 0).int) 12))),(.i .i64 (CV.int (x1 (Int.toNat (x7 xC.toNat 0).int) 13))),(.i .i64 (CV.int (x1 (Int.toNat (x7 xC.toNat 0).int) 14))),(.i .i64 (CV.int (x1 (Int.toNat (x7 xC.toNat 0).int) 15))),(.i .i64 (CV.int (x1 (Int.toNat (x7 xC.toNat 0).int) 16))),(.i .i64 (CV.int (x1 (Int.toNat (x7 xC.toNat 0).int) 17)))]) (CV.int (x3 (Int.toNat (x7 xC.toNat 0).int) 0)) xE xF) fun xG=>(bif (inb (x7 xC.toNat 0).int x9) then (L399v3 u x0 x1 x2 x3 x4 x5 x6 x7 x8 x9 xA xB m (w64 (xC+1)) (setF xD (0+(Int.toNat (x7 xC.toNat 0).int)) 0 4 (listF [(.i .i64 xG.1),(.i .i64 xG.2.1),(.i .i64 xG.2.2.1),(.i .i64 xG.2.2.2)])) k0) else none)) else none) else none))) else none) else none) else (k0 xD))
theorem nl399v3:∀ (m:Nat) (x0:Int) (x1:FF) (k0:FF→Option ρ),ob (L399v3 u n0 f0 n1 f1 n2 f2 n3 f3 i0 n4 i1 i2 m x0 x1 k0) ng=L399v3 u n0 f0 n1 f1 n2 f2 n3 f3 i0 n4 i1 i2 m x0 x1 (fun x2=>ob (k0 x2) ng)
 | 0,_,_,_=>rfl
 | m+1,x0,x1,k0=>by
  simp only [L399v3,ob_bif,ob_ob,ob_none,nl399v3 m,nl399v2]
def s399v4:St:=⟨(.x (.c (ro kA n0 f0)) :: .x (.c (ro kD n1 f1)) :: .x (.c (ro kD n2 f2)) :: .x (.c (ro kD n3 f3)) :: vxi i0 :: (us 6 (.x (.own 0 0 n4) :: vxi i1 :: vxi i2 :: vxi (f3 i2.toNat 0).int :: .x (.ptr 1 0) :: (us 7 (.x (.c (ro kD n3 f3)) :: vxi i3 :: vxi i2 :: vxb true :: vxi i2 :: .x (.c (.rp kD (f3 i2.toNat))) :: vxi (f3 i2.toNat 0).int :: vxi i0 :: vxi i0 :: .agg [(vci i0),(vci i0)] :: .x (.c (ro kD n3 f3)) :: vxi i2 :: .x (.c (ro kD (i2.toNat-0) f3)) :: vxi (Int.ofNat (i2.toNat-0)) :: vxi 0 :: (us 50 [])))))),[.arr kE n4 f4,.box [(vci i0),(vci i0)]]⟩
theorem r399v3 :
  loopH (eB A26v7 (C48 u) u) N399v3 (m+1) (s399v2 n0 n1 n2 n3 n4 f0 f1 f2 f3 f4 i0 i1 i2 i3) k =
  (bif (decide (i3<i2)) then (bif (inb i3 n3) then (bif (inbe i3 n3) then (loopN (eB A26v3 (C48 u) u) N399v2 u (s399v4 n0 n1 n2 n3 n4 f0 f1 f2 f3 f4 i0 i1 i3 i2) (kBlk 2 (kSeq (C48 u) u (17 :: (rl 33 40 [])) A26v4 (kBlk 1 (kSeq (C48 u) u (13 :: 14 :: 15 :: 17 :: (rl 27 59 [])) A26v5 (kLoop (eB A26v7 (C48 u) u) N399v3 m k)))))) else none) else none) else (k (.exit 0) (s399v3 n4 f4))):=by kernel_rfl
theorem t399v1 :
  loopN (eB A26v3 (C48 u) u) N399v2 u (s399v4 n0 n1 n2 n3 n4 f0 f1 f2 f3 f4 i0 i1 i2 i3) k =
  L399v2 u n0 f0 n1 f1 n2 f2 n3 f3 i0 n4 i1 (f3 i2.toNat 0).int i3 i2 (i2.toNat-0) (Int.ofNat (i2.toNat-0)) f4 u 0 i0 i0 (fun x0 x1=>k (.exit 2) (s399v1 n0 n1 n2 n3 n4 f0 f1 f2 f3 f4 i0 i1 (f3 i2.toNat 0).int i3 i2 x0 x1)) :=
 Eq.trans (loopN_at (by kernel_rfl)) (q399v2 ..)
theorem g399v2 :
  (kBlk 2 (kSeq (C48 u) u (17 :: (rl 33 40 [])) A26v4 (kBlk 1 (kSeq (C48 u) u (13 :: 14 :: 15 :: 17 :: (rl 27 59 [])) A26v5 (kLoop (eB A26v7 (C48 u) u) N399v3 m k))))) (.exit 2) (s399v1 n0 n1 n2 n3 n4 f0 f1 f2 f3 f4 i0 i1 (f3 i2.toNat 0).int i3 i2 i4 i5) =
  (bif (inb (f3 i2.toNat 0).int n0) then (bif (inb (f3 i2.toNat 0).int n1) then (ob (F397 u (listF [(.s (CV.str (f0 (Int.toNat (f3 i2.toNat 0).int) 0))),(vi (CV.int (f0 (Int.toNat (f3 i2.toNat 0).int) 1))),(vi (CV.int (f0 (Int.toNat (f3 i2.toNat 0).int) 2))),(.s (CV.str (f0 (Int.toNat (f3 i2.toNat 0).int) 3))),(.s (CV.str (f0 (Int.toNat (f3 i2.toNat 0).int) 4))),(vi (CV.int (f0 (Int.toNat (f3 i2.toNat 0).int) 5))),(ro kP (CV.len (f0 (Int.toNat (f3 i2.toNat 0).int) 6)) (CV.el (f0 (Int.toNat (f3 i2.toNat 0).int) 6))),(ro kF (CV.len (f0 (Int.toNat (f3 i2.toNat 0).int) 7)) (CV.el (f0 (Int.toNat (f3 i2.toNat 0).int) 7))),(.s (CV.str (f0 (Int.toNat (f3 i2.toNat 0).int) 8))),(vi (CV.int (f0 (Int.toNat (f3 i2.toNat 0).int) 9))),(vi (CV.int (f0 (Int.toNat (f3 i2.toNat 0).int) 10))),(vi (CV.int (f0 (Int.toNat (f3 i2.toNat 0).int) 11))),(vi (CV.int (f0 (Int.toNat (f3 i2.toNat 0).int) 12))),(vi (CV.int (f0 (Int.toNat (f3 i2.toNat 0).int) 13))),(vi (CV.int (f0 (Int.toNat (f3 i2.toNat 0).int) 14))),(vi (CV.int (f0 (Int.toNat (f3 i2.toNat 0).int) 15))),(vi (CV.int (f0 (Int.toNat (f3 i2.toNat 0).int) 16))),(vi (CV.int (f0 (Int.toNat (f3 i2.toNat 0).int) 17)))]) (CV.int (f1 (Int.toNat (f3 i2.toNat 0).int) 0)) i4 i5) fun x0=>(bif (inb (f3 i2.toNat 0).int n4) then (loopH (eB A26v7 (C48 u) u) N399v3 m (s399v2 n0 n1 n2 n3 n4 f0 f1 f2 f3 (setF f4 (0+(Int.toNat (f3 i2.toNat 0).int)) 0 4 (listF [(vi x0.1),(vi x0.2.1),(vi x0.2.2.1),(vi x0.2.2.2)])) i0 i1 i3 (w64 (i2+1))) k) else none)) else none) else none):=by kernel_rfl
theorem q399v3:∀ (m:Nat) (x0:Int) (x1:FF),
  loopH (eB A26v7 (C48 u) u) N399v3 m (s399v2 n0 n1 n2 n3 n4 f0 f1 f2 f3 x1 i0 i1 i2 x0) k=L399v3 u n0 f0 n1 f1 n2 f2 n3 f3 i0 n4 i1 i2 m x0 x1 (fun x2=>k (.exit 0) (s399v3 n4 x2))
 | 0,_,_=>rfl
 | m+1,x0,x1=>by
  rw [r399v3]
  simp only [L399v3,q399v3 m,t399v1,g399v2]
def F399 (x0:Nat) (x1:FF) (x2:Nat) (x3:FF) (x4:Nat) (x5:FF) (x6:Nat) (x7:FF) (x8:Int):Option (Nat × FF) :=
 (bif (decide (0≤(Int.ofNat x0))&&decide ((Int.ofNat x0)≤(Int.ofNat x0))&&decide ((Int.ofNat x0)≤1073741824)&&true) then (L399v3 u x0 x1 x2 x3 x4 x5 x6 x7 x8 (Int.toNat (Int.ofNat x0)) (if 1>x8 then 1 else x8) (Int.ofNat x6) u 0 (fun _ j=>listF [(.i .i64 0),(.i .i64 0),(.i .i64 0),(.i .i64 0)] j)
  (fun x9=>(some ((Int.toNat (Int.ofNat x0)),x9)))) else none)
def s399v5:St:=⟨[.x (.c (ro kA n0 f0)),.x (.c (ro kD n1 f1)),.x (.c (ro kD n2 f2)),.x (.c (ro kD n3 f3)),vxi i0,uu,uu,uu,uu,uu,.x (vcn),.x (.own 0 0 (Int.toNat (Int.ofNat n0))),vxi (if 1>i0 then 1 else i0),uu,uu,uu,uu,uu,.x (.c (ro kA n0 f0)),vxi (Int.ofNat n0),.x (.own 0 0 (Int.toNat (Int.ofNat n0))),vxi i0,vxi (if 1>i0 then 1 else i0),.x (.c (ro kD n3 f3)),vxi (Int.ofNat n3),vxi 0,uu,uu,uu,uu,uu,uu,uu,uu,uu,uu,uu,uu,uu,uu,uu,uu,uu,uu,uu,uu,uu,uu,uu,uu,uu,uu,uu,uu,uu,uu,uu,uu,uu,uu,uu,uu,uu,uu,uu,uu,uu,uu,uu,uu,uu,uu,uu,uu,uu,uu,uu,uu,uu,uu,uu,uu,uu,uu,uu,uu,uu,uu],[.arr kE (Int.toNat (Int.ofNat n0)) (fun _ j=>listF [(vi 0),(vi 0),(vi 0),(vi 0)] j)]⟩
theorem t399v3 :
  loopN (eB A26v7 (C48 u) u) N399v3 u (s399v5 n0 n1 n2 n3 f0 f1 f2 f3 i0) k =
  L399v3 u n0 f0 n1 f1 n2 f2 n3 f3 i0 (Int.toNat (Int.ofNat n0)) (if 1>i0 then 1 else i0) (Int.ofNat n3) u 0 (fun _ j=>listF [(vi 0),(vi 0),(vi 0),(vi 0)] j) (fun x0=>k (.exit 0) (s399v3 (Int.toNat (Int.ofNat n0)) x0)) :=
 Eq.trans (loopN_at (by kernel_rfl)) (q399v3 ..)
theorem g399v4 :
  (kBlk 0 (kSeq (C48 u) u (13 :: 14 :: 15 :: 17 :: (rl 23 64 [])) A26v8 (finish A26))) (.exit 0) (s399v3 (Int.toNat (Int.ofNat n0)) f0) =
  (some [.v (ro kE (Int.toNat (Int.ofNat n0)) f0)]):=by kernel_rfl
theorem e399:evalF (C48 u) u A26 [.v (ro kA n0 f0),.v (ro kD n1 f1),.v (ro kD n2 f2),.v (ro kD n3 f3),.v (vi i0)]=ob (F399 u n0 f0 n1 f1 n2 f2 n3 f3 i0) fun t=>some [.v (ro kE t.1 t.2)]:=Eq.trans (b:=(bif (decide (0≤(Int.ofNat n0))&&decide ((Int.ofNat n0)≤(Int.ofNat n0))&&decide ((Int.ofNat n0)≤1073741824)&&true) then (loopN (eB A26v7 (C48 u) u) N399v3 u (s399v5 n0 n1 n2 n3 f0 f1 f2 f3 i0) (kBlk 0 (kSeq (C48 u) u (13 :: 14 :: 15 :: 17 :: (rl 23 64 [])) A26v8 (finish A26)))) else none)) (by kernel_rfl) (by
 simp only [F399,ob_bif,ob_ob,ob_none,ob_some,nl399v3,t399v3,g399v4])
def O399:Ora:=mkO (qc (av (cL kA)) (qc (av (cL kD)) (qc (av (cL kD)) (qc (av (cL kD)) (q1 (av ci)))))) (fun x=>F399 u x.1.1 x.1.2 x.2.1.1 x.2.1.2 x.2.2.1.1 x.2.2.1.2 x.2.2.2.1.1 x.2.2.2.1.2 x.2.2.2.2) fun t=>[.v (ro kE t.1 t.2)]
theorem d399:DO (O399 u) (C48 u) 26 A26:=dO u (fun x=>by exact e399 u x.1.1 x.2.1.1 x.2.2.1.1 x.2.2.2.1.1 x.1.2 x.2.1.2 x.2.2.1.2 x.2.2.2.1.2 x.2.2.2.2)
def C49:Oracle:=(C48 u).add 26 (fun _=>true) (O399 u)
def A25v1:AC:=(.seq (.region 9 [o1 91 (fa 52 14 2 2),o1 92 (lo 50 91),o1 93 (ln 63 5 18),o1 94 (.buildSlice 0 50 63 kB 1 [vcs ByteArray.empty,vci 0,vci 0,vci 0,vcb false] [(0,(tm 93))]),o1 95 (.append 1 50 63 kB 48 (tm 92) (tm 94)),o1 96 (fa 52 14 2 2),o0 (.store 50 1 (tm 96) (tm 95))] 2 none) []
 (.region 10 [mv 97 15,mv 98 4,mv 99 17,o1 100 (.indexAddr 32 65 4 (tm 98) (tm 99)),o1 101 (ln 65 4 100),o1 102 (.buildSlice 0 32 65 kE 1 [vci 0,vci 0,vci 0,vci 0] [(0,(tm 101))]),o1 103 (.append 1 32 65 kE 32 (tm 97) (tm 102)),o1 15 (sg 103)] 2 none))
def A25v2:AC:=(.region 11 [o1 104 (bk .add 3 26 1),mv 26 104] 0 none)
def A25v3:AC:=(.seq (.block 1
 (.seq (.region 5 [o1 28 (.indexAddr 75 3 1 (tm 24) (tm 26)),o1 29 (lo 3 28),o1 17 (sg 29)] 0 none) []
  (.seq (.region 6 [mv 31 1,mv 32 17,o1 33 (.indexAddr 45 31 18 (tm 31) (tm 32)),o1 34 (ln 31 18 33),mv 35 2,mv 36 17,o1 37 (.indexAddr 75 3 1 (tm 35) (tm 36)),o1 38 (lo 3 37),mv 39 4,mv 40 17,o1 41 (.indexAddr 32 65 4 (tm 39) (tm 40)),o1 42 (fa 65 41 0 0),o1 43 (ln 34 2 42),o1 44 (cs 30 [34,38,43] [31,3,34]),mv 30 44,o1 45 (.extract (tm 30) 0),o1 46 (.extract (tm 30) 1),o1 18 (.alloc 0 63 [vcs ByteArray.empty,vci 0,vci 0,vci 0,vcb false]),o0 (.store 63 5 (tm 18) (tm 45)),o1 19 (sg 46)] 1 (some [[],[],[0,1],[0,1,2],[],[],[4,5],[4,5,6],[],[],[8,9],[8,9,10],(rl 8 4 []),(rl 0 13 []),(rl 0 14 []),(rl 0 15 []),(rl 0 15 []),[],(rl 0 16 [17]),(rl 0 19 [])])) []
  (.seq (.seq (.region 7 [mv 47 19,o1 48 (.unOp .not 4 (tm 47)),mv 49 48,og 50 (fa 44 6 3 3) 49 false,og 51 (lo 3 50) 49 false,og 52 (fa 44 6 4 4) 49 false,og 53 (lo 3 52) 49 false,og 54 (.move (tm 15)) 49 false,og 55 (.move (tm 4)) 49 false,og 56 (.move (tm 17)) 49 false,og 57 (.indexAddr 32 65 4 (tm 55) (tm 56)) 49 false,og 58 (fa 65 57 0 0) 49 false,og 59 (ln 34 2 58) 49 false,og 60 (.move (tm 4)) 49 false,og 61 (.move (tm 17)) 49 false,og 62 (.indexAddr 32 65 4 (tm 60) (tm 61)) 49 false,og 63 (fa 65 62 1 2) 49 false,og 64 (fa 34 63 0 0) 49 false,og 65 (lo 3 64) 49 false,og 66 (.move (tm 4)) 49 false,og 67 (.move (tm 17)) 49 false,og 68 (.indexAddr 32 65 4 (tm 66) (tm 67)) 49 false,og 69 (fa 65 68 0 0) 49 false,og 70 (fa 34 69 0 0) 49 false,og 71 (lo 3 70) 49 false,og 72 (bt .sub 3 65 71) 49 false,og 73 (.move (tm 4)) 49 false,og 74 (.move (tm 17)) 49 false,og 75 (.indexAddr 32 65 4 (tm 73) (tm 74)) 49 false,og 76 (fa 65 75 1 2) 49 false,og 77 (fa 34 76 1 1) 49 false,og 78 (lo 3 77) 49 false,og 79 (.move (tm 4)) 49 false,og 80 (.move (tm 17)) 49 false,og 81 (.indexAddr 32 65 4 (tm 79) (tm 80)) 49 false,og 82 (fa 65 81 0 0) 49 false,og 83 (fa 34 82 1 1) 49 false,og 84 (lo 3 83) 49 false,og 85 (bt .sub 3 78 84) 49 false,og 86 (.move (tm 5)) 49 false,og 87 (cs 9 [51,53,54,59,72,85,86] [3,3,32,34,3,3,3]) 49 false,og 88 (.unOp .not 4 (tm 87)) 49 false,o1 89 (pa 49 88)] 0 (some [[],[0],[0,1],[0,1,2],(rl 0 4 []),[0,1,2],[0,1,2,5],[0,1,2],[0,1,2],[0,1,2],[0,1,2,8,9],[0,1,2,8,9,10],(0 :: 1 :: 2 :: (rl 8 4 [])),[0,1,2],[0,1,2],[0,1,2,13,14],[0,1,2,13,14,15],(0 :: 1 :: 2 :: (rl 13 4 [])),(0 :: 1 :: 2 :: (rl 13 5 [])),[0,1,2],[0,1,2],[0,1,2,19,20],[0,1,2,19,20,21],(0 :: 1 :: 2 :: (rl 19 4 [])),(0 :: 1 :: 2 :: (rl 19 5 [])),(0 :: 1 :: 2 :: (rl 13 12 [])),[0,1,2],[0,1,2],[0,1,2,26,27],[0,1,2,26,27,28],(0 :: 1 :: 2 :: (rl 26 4 [])),(0 :: 1 :: 2 :: (rl 26 5 [])),[0,1,2],[0,1,2],[0,1,2,32,33],[0,1,2,32,33,34],(0 :: 1 :: 2 :: (rl 32 4 [])),(0 :: 1 :: 2 :: (rl 32 5 [])),(0 :: 1 :: 2 :: (rl 26 12 [])),[0,1,2],(rl 0 40 []),(rl 0 41 []),(rl 0 42 [])])) []
  (.cond (tm 89)
  (.seq (.region 8 [o1 90 (.build 52 [vcs ByteArray.empty,vci 0,.c (.ro true kB 0 nilF)] [(0,1),(1,1),(2,1)] 0 []),o0 (.store 52 3 (tm 12) (tm 90)),o1 13 (sb false)] 0 none) []
   (.ghost (0 :: (rl 2 4 [])) (.ret (rl 0 12 (rl 14 92 [])))))
  .skip)) (13 :: (rl 47 44 []))
  A25v1)))) (13 :: 17 :: 18 :: 19 :: (rl 28 76 []))
 A25v2)
def A25v4:AC:=(.seq (.region 4 [o1 27 (bt .lss 3 26 25)] 0 none) []
 (.seq (.cond (tm 27)
 .skip
 (.ghost [0,4] (.exit 0 (rl 0 12 (13 :: (rl 15 91 [])))))) []
 A25v3))
def A25v5:AC:=(.seq (.region 12 [o1 105 (ln 52 3 14),o0 (.store 52 3 (tm 12) (tm 105)),o1 13 (sb true)] 0 none) []
 (.ghost [0,2,4] (.ret (rl 0 12 (rl 14 92 [])))))
def A25:AF:=⟨106,[.cell 12 52 (some 3),.tmp 13],
 (.seq (.region 0 [o1 6 (bx 0 44 0),o1 12 (.alloc 1 52 [vcs ByteArray.empty,vci 0,vcn]),o1 13 (sb false)] 2 none) []
 (.seq (.region 1 [o1 20 (fa 44 6 0 0),o1 21 (lo 9 20),mv 22 5,o1 23 (.build 52 [vcs ByteArray.empty,vci 0,.c (.ro true kB 0 nilF)] [(0,1),(1,1),(2,1)] 0 [(0,(tm 21)),(1,(tm 22))]),o1 14 (.alloc 0 52 [vcs ByteArray.empty,vci 0,vcn]),o0 (.store 52 3 (tm 14) (tm 23))] 1 none) []
 (.seq (.region 2 [o1 15 (.assign (.const (.slice none 0 0)))] 0 none) []
 (.seq (.seq (.region 3 [mv 24 3,o1 25 (.len 75 false (tm 24)),o1 26 (.move (ic 0))] 0 none) []
 (.block 0
 (.loop [.cell 14 2 kB,.slot 15 kE] (0 :: 3 :: (rl 7 5 (13 :: (rl 16 8 (rl 27 79 [])))))
  A25v4))) (13 :: 15 :: 17 :: 18 :: 19 :: (rl 24 81 []))
 A25v5))))⟩
def N400v1:St→Option St:=nN 5 (0 :: 3 :: (rl 7 5 (13 :: (rl 16 8 (rl 27 79 [])))))
def s400v0:St:=⟨(.u :: .x (.c (ro kA n0 f0)) :: .x (.c (ro kD n1 f1)) :: .u :: .x (.c (ro kE n2 f2)) :: vxi i0 :: .x (.ptr 0 0) :: (us 5 (.x (.ptr 1 0) :: .u :: .x (.ptr 2 0) :: .x (.own 4 0 n3) :: (us 8 (.x (.c (ro kD n4 f3)) :: vxi i1 :: vxi i2 :: (us 79 [])))))),[.box [(vcs w0),(vcs w1),(vci i3),(vci i4),(vci i5),(vcs w2)],.box [(vcs ByteArray.empty),(vci 0),(vcn)],.box [(vcs w0),(vci i0),(.own 3 0 n3)],.arr kB n3 f4,.arr kE n3 f5]⟩
def s400v1:St:=⟨(us 12 (.x (.ptr 1 0) :: vxb false :: (us 92 []))),[.dead,.box [(vcs ByteArray.empty),(vci 0),(.c (.ro true kB 0 nilF))],.dead,.dead,.dead,.dead]⟩
def s400v2:St:=⟨(us 12 (.x (.ptr 1 0) :: .u :: .x (.ptr 2 0) :: (us 91 []))),[.dead,.box [(vcs ByteArray.empty),(vci 0),(vcn)],.box [(vcs w0),(vci i0),(.own 3 0 n0)],.arr kB n0 f0,.dead]⟩
def L400v1 {ρ:Type} (u:Nat) (x0:Nat) (x1:FF) (x2:Nat) (x3:FF) (x4:Nat) (x5:FF) (x6:Int) (x7:Nat) (x8:FF) (x9:Int) (xA xB:ByteArray) (xC xD xE:Int) (xF:ByteArray):Nat→Nat→Int→FF→FF→(Option ρ)→(Nat→FF→Option ρ)→Option ρ
 | 0,_,_,_,_,_,_=>none
 | m+1,xG,xH,xI,xJ,k0,k1 =>
  (bif (decide (xH<x9)) then (bif (inb xH x7) then (bif (inb (x8 xH.toNat 0).int x0) then (bif (inb (x8 xH.toNat 0).int x2) then (bif (inb (x8 xH.toNat 0).int x4) then (ob (F394 u (listF [(.s (CV.str (x1 (Int.toNat (x8 xH.toNat 0).int) 0))),(.i .i64 (CV.int (x1 (Int.toNat (x8 xH.toNat 0).int) 1))),(.i .i64 (CV.int (x1 (Int.toNat (x8 xH.toNat 0).int) 2))),(.s (CV.str (x1 (Int.toNat (x8 xH.toNat 0).int) 3))),(.s (CV.str (x1 (Int.toNat (x8 xH.toNat 0).int) 4))),(.i .i64 (CV.int (x1 (Int.toNat (x8 xH.toNat 0).int) 5))),(.ro false (.pr (.int .i64) (.pr (.int .i64) .nil)) (CV.len (x1 (Int.toNat (x8 xH.toNat 0).int) 6)) (CV.el (x1 (Int.toNat (x8 xH.toNat 0).int) 6))),(.ro false (.pr (.sl (.pr (.int .i64) (.pr (.int .i64) .nil))) .nil) (CV.len (x1 (Int.toNat (x8 xH.toNat 0).int) 7)) (CV.el (x1 (Int.toNat (x8 xH.toNat 0).int) 7))),(.s (CV.str (x1 (Int.toNat (x8 xH.toNat 0).int) 8))),(.i .i64 (CV.int (x1 (Int.toNat (x8 xH.toNat 0).int) 9))),(.i .i64 (CV.int (x1 (Int.toNat (x8 xH.toNat 0).int) 10))),(.i .i64 (CV.int (x1 (Int.toNat (x8 xH.toNat 0).int) 11))),(.i .i64 (CV.int (x1 (Int.toNat (x8 xH.toNat 0).int) 12))),(.i .i64 (CV.int (x1 (Int.toNat (x8 xH.toNat 0).int) 13))),(.i .i64 (CV.int (x1 (Int.toNat (x8 xH.toNat 0).int) 14))),(.i .i64 (CV.int (x1 (Int.toNat (x8 xH.toNat 0).int) 15))),(.i .i64 (CV.int (x1 (Int.toNat (x8 xH.toNat 0).int) 16))),(.i .i64 (CV.int (x1 (Int.toNat (x8 xH.toNat 0).int) 17)))]) (CV.int (x3 (Int.toNat (x8 xH.toNat 0).int) 0)) (CV.int (x5 (Int.toNat (x8 xH.toNat 0).int) 0)) (CV.int (x5 (Int.toNat (x8 xH.toNat 0).int) 1))) fun xK=>(bif ((!xK.2.2.2.2.2)==false) then (bif (inb (x8 xH.toNat 0).int x4) then (bif (inb (x8 xH.toNat 0).int x4) then (bif (inb (x8 xH.toNat 0).int x4) then (bif (inb (x8 xH.toNat 0).int x4) then (bif (inb (x8 xH.toNat 0).int x4) then (ob (F395 u xD xE xG xJ (CV.int (x5 (Int.toNat (x8 xH.toNat 0).int) 0)) (CV.int (x5 (Int.toNat (x8 xH.toNat 0).int) 1)) (w64 ((CV.int (x5 (Int.toNat (x8 xH.toNat 0).int) 2))-(CV.int (x5 (Int.toNat (x8 xH.toNat 0).int) 0)))) (w64 ((CV.int (x5 (Int.toNat (x8 xH.toNat 0).int) 3))-(CV.int (x5 (Int.toNat (x8 xH.toNat 0).int) 1)))) x6) fun xL=>(bif (!xL) then k0 else (bif (Nat.ble (xG+1) 1073741824) then (bif (inb (x8 xH.toNat 0).int x4) then (bif (Nat.ble (xG+1) 1073741824) then (L400v1 u x0 x1 x2 x3 x4 x5 x6 x7 x8 x9 xA xB xC xD xE xF m (xG+1) (w64 (xH+1)) (joinF xG xI (rowsF 5 [(.s xK.1),(.i .i64 xK.2.1),(.i .i64 xK.2.2.1),(.i .i64 xK.2.2.2.1),(.b xK.2.2.2.2.1)])) (joinF xG xJ (rowsF 4 [(.i .i64 (CV.int (x5 (Int.toNat (x8 xH.toNat 0).int) 0))),(.i .i64 (CV.int (x5 (Int.toNat (x8 xH.toNat 0).int) 1))),(.i .i64 (CV.int (x5 (Int.toNat (x8 xH.toNat 0).int) 2))),(.i .i64 (CV.int (x5 (Int.toNat (x8 xH.toNat 0).int) 3)))])) k0 k1) else none) else none) else none))) else none) else none) else none) else none) else none) else k0)) else none) else none) else none) else none) else (k1 xG xI))
theorem nl400v1:∀ (m:Nat) (x0:Nat) (x1:Int) (x2 x3:FF) (k0:Option ρ) (k1:Nat→FF→Option ρ),ob (L400v1 u n0 f0 n1 f1 n2 f2 i0 n3 f3 i1 w0 w1 i2 i3 i4 w2 m x0 x1 x2 x3 k0 k1) ng=L400v1 u n0 f0 n1 f1 n2 f2 i0 n3 f3 i1 w0 w1 i2 i3 i4 w2 m x0 x1 x2 x3 (ob k0 ng) (fun x4 x5=>ob (k1 x4 x5) ng)
 | 0,_,_,_,_,_,_=>rfl
 | m+1,x0,x1,x2,x3,k0,k1=>by
  simp only [L400v1,ob_bif,ob_ob,ob_none,nl400v1 m]
theorem q400v1:∀ (m:Nat) (x0:Nat) (x1:Int) (x2 x3:FF),
  loopH (eB A25v4 (C49 u) u) N400v1 m (s400v0 n0 n1 n2 x0 n3 f0 f1 f2 f3 x2 x3 i0 i1 x1 i2 i3 i4 w0 w1 w2) k=L400v1 u n0 f0 n1 f1 n2 f2 i0 n3 f3 i1 w0 w1 i2 i3 i4 w2 m x0 x1 x2 x3 (k .ret s400v1) (fun x4 x5=>k (.exit 0) (s400v2 x4 x5 i0 w0))
 | 0,_,_,_,_=>rfl
 | m+1,x0,x1,x2,x3=>by
  simp only [L400v1,← q400v1 m]
  kernel_rfl
def FT400 (x0 x1:ByteArray) (x2 x3 x4:Int) (x5:ByteArray) (x6:Nat) (x7:FF) (x8:Nat) (x9:FF) (xA:Nat) (xB:FF) (xC:Nat) (xD:FF) (xE:Int):Option (Bool × ByteArray × Int × Nat × FF × Bool) :=
 (L400v1 u x6 x7 x8 x9 xC xD xE xA xB (Int.ofNat xA) x0 x1 x2 x3 x4 x5 u 0 0 (fun _ _=>.any) (fun _ _=>.any)
  (some (true,ByteArray.empty,0,0,(fun _ _=>.any),false))
  (fun xF xG=>(some (false,x0,xE,xF,xG,true))))
def s400v3:St:=⟨[.agg [(vcs w0),(vcs w1),(vci i0),(vci i1),(vci i2),(vcs w2)],.x (.c (ro kA n0 f0)),.x (.c (ro kD n1 f1)),.x (.c (ro kD n2 f2)),.x (.c (ro kE n3 f3)),vxi i3,.x (.ptr 0 0),uu,uu,uu,uu,uu,.x (.ptr 1 0),vxb false,.x (.ptr 2 0),.x (.own 4 0 0),uu,uu,uu,uu,.x (.ptr 0 0),vxs w0,vxi i3,.agg [(vcs w0),(vci i3),(.c (.ro true kB 0 nilF))],.x (.c (ro kD n2 f2)),vxi (Int.ofNat n2),vxi 0,uu,uu,uu,uu,uu,uu,uu,uu,uu,uu,uu,uu,uu,uu,uu,uu,uu,uu,uu,uu,uu,uu,uu,uu,uu,uu,uu,uu,uu,uu,uu,uu,uu,uu,uu,uu,uu,uu,uu,uu,uu,uu,uu,uu,uu,uu,uu,uu,uu,uu,uu,uu,uu,uu,uu,uu,uu,uu,uu,uu,uu,uu,uu,uu,uu,uu,uu,uu,uu,uu,uu,uu,uu,uu,uu,uu,uu,uu,uu],[.box [(vcs w0),(vcs w1),(vci i0),(vci i1),(vci i2),(vcs w2)],.box [(vcs ByteArray.empty),(vci 0),(vcn)],.box [(vcs w0),(vci i3),(.own 3 0 0)],.arr kB 0 nilF,.arr kE 0 nilF]⟩
theorem t400v1 :
  loopN (eB A25v4 (C49 u) u) N400v1 u (s400v3 n0 n1 n2 n3 f0 f1 f2 f3 i0 i1 i2 i3 w0 w1 w2) k =
  L400v1 u n0 f0 n1 f1 n3 f3 i3 n2 f2 (Int.ofNat n2) w0 w1 i0 i1 i2 w2 u 0 0 nilF nilF (k .ret s400v1) (fun x0 x1=>k (.exit 0) (s400v2 x0 x1 i3 w0)) :=
 Eq.trans (loopN_at (by kernel_rfl)) (q400v1 ..)
theorem g400v2 :
  (kBlk 0 (kSeq (C49 u) u (13 :: 15 :: 17 :: 18 :: 19 :: (rl 24 81 [])) A25v5 (finish A25))) .ret s400v1 =
  (some [.agg [(.s ByteArray.empty),(vi 0),(.ro true kB 0 nilF)],.v (.b false)]):=by kernel_rfl
theorem g400v3 :
  (kBlk 0 (kSeq (C49 u) u (13 :: 15 :: 17 :: 18 :: 19 :: (rl 24 81 [])) A25v5 (finish A25))) (.exit 0) (s400v2 n0 f0 i0 w0) =
  (some [.agg [(.s w0),(vi i0),(ro kB n0 f0)],.v (.b true)]):=by kernel_rfl
theorem e400:evalF (C49 u) u A25 [.agg [(.s w0),(.s w1),(vi i0),(vi i1),(vi i2),(.s w2)],.v (ro kA n0 f0),.v (ro kD n1 f1),.v (ro kD n2 f2),.v (ro kE n3 f3),.v (vi i3)]=ob (FT400 u w0 w1 i0 i1 i2 w2 n0 f0 n1 f1 n2 f2 n3 f3 i3) fun t=>some (bif t.1 then [.agg [(.s ByteArray.empty),(vi 0),(.ro true kB 0 nilF)],.v (.b false)] else [.agg [(.s t.2.1),(vi t.2.2.1),(ro kB t.2.2.2.1 t.2.2.2.2.1)],.v (.b true)]):=Eq.trans (b:=(loopN (eB A25v4 (C49 u) u) N400v1 u (s400v3 n0 n1 n2 n3 f0 f1 f2 f3 i0 i1 i2 i3 w0 w1 w2) (kBlk 0 (kSeq (C49 u) u (13 :: 15 :: 17 :: 18 :: 19 :: (rl 24 81 [])) A25v5 (finish A25))))) (by kernel_rfl) (by
 simp only [FT400,ob_bif,ob_ob,ob_none,ob_some,nl400v1,t400v1,g400v2,g400v3,cond_true,cond_false])
def F400 (x0 x1:ByteArray) (x2 x3 x4:Int) (x5:ByteArray) (x6:Nat) (x7:FF) (x8:Nat) (x9:FF) (xA:Nat) (xB:FF) (xC:Nat) (xD:FF) (xE:Int):Option (ByteArray × Int × Nat × FF × Bool):=ob (FT400 u x0 x1 x2 x3 x4 x5 x6 x7 x8 x9 xA xB xC xD xE) fun t=>some (bif t.1 then (ByteArray.empty,0,0,(fun _ _=>.any),false) else (t.2.1,t.2.2.1,t.2.2.2.1,t.2.2.2.2.1,true))
def O400:Ora:=mkO (qc (ag (tc cS (tc cS (tc ci (tc ci (tc ci (t1 cS))))))) (qc (av (cL kA)) (qc (av (cL kD)) (qc (av (cL kD)) (qc (av (cL kE)) (q1 (av ci))))))) (fun x=>F400 u x.1.1 x.1.2.1 x.1.2.2.1 x.1.2.2.2.1 x.1.2.2.2.2.1 x.1.2.2.2.2.2 x.2.1.1 x.2.1.2 x.2.2.1.1 x.2.2.1.2 x.2.2.2.1.1 x.2.2.2.1.2 x.2.2.2.2.1.1 x.2.2.2.2.1.2 x.2.2.2.2.2) fun t=>[.agg [(.s t.1),(vi t.2.1),(ro kB t.2.2.1 t.2.2.2.1)],.v (.b t.2.2.2.2)]
theorem d400:DO (O400 u) (C49 u) 25 A25:=dW u (fun x=>by exact e400 u x.2.1.1 x.2.2.1.1 x.2.2.2.1.1 x.2.2.2.2.1.1 x.2.1.2 x.2.2.1.2 x.2.2.2.1.2 x.2.2.2.2.1.2 x.1.2.2.1 x.1.2.2.2.1 x.1.2.2.2.2.1 x.2.2.2.2.2 x.1.1 x.1.2.1 x.1.2.2.2.2.2) (fun _=>rfl) fun t=>by
 obtain ⟨b,t⟩:=t
 cases b with
 | true=>exact (.cons (WkA.agg (.cons (Wk.refl _) (.cons (Wk.refl _) (.cons (Wk.ro (by rfl)) .nil)))) (.cons (WkA.v (Wk.refl _)) .nil))
 | false =>
  exact (.cons (WkA.agg (.cons (Wk.refl _) (.cons (Wk.refl _) (.cons (Wk.refl _) .nil)))) (.cons (WkA.v (Wk.refl _)) .nil))
def C50:Oracle:=(C49 u).add 25 (fun _=>true) (O400 u)
def A41:AF:=⟨8,[.tmp 3],
 (.seq (.region 0 [o1 2 (bx 0 31 0),o1 3 (sb false)] 1 none) []
 (.seq (.region 1 [o1 4 (fa 31 2 0 0),o1 5 (lo 9 4),o1 6 (lo 9 1),o1 7 (bt .eql 9 5 6),o1 3 (sg 7)] 0 none) []
 (.ret (0 :: 1 :: 2 :: (rl 4 4 [])))))⟩
def F170 (u:Nat) (x0 x1:Nat→CV):Option (Bool) :=
 (some (ByteArray.toList (x0 0).str==ByteArray.toList (x1 0).str))
theorem e170:evalF (C50 u) u A41 [.agg (pj kR0 g0),.v (.rp kG g1)]=ob (F170 u g0 g1) fun t=>some [.v (.b t)]:=by
 simp only [F170,ob_bif,ob_ob,ob_none,ob_some]
 kernel_rfl
def O170:Ora:=mkO (qc (ar kR0) (q1 (av (cP kG)))) (fun x=>F170 u x.1 x.2) fun t=>[.v (.b t)]
theorem d170:DO (O170 u) (C50 u) 41 A41:=dO u (fun x=>by exact e170 u x.1 x.2)
def C51:Oracle:=(C50 u).add 41 (fun _=>true) (O170 u)
def A40v1:AC:=(.region 6 [o1 18 (bk .add 3 8 1),mv 8 18] 0 none)
def A40v2:AC:=(.seq (.block 1
 (.seq (.region 3 [mv 10 8,o1 5 (sg 10)] 0 none) []
  (.seq (.region 4 [mv 11 1,mv 12 0,mv 13 5,o1 14 (.indexAddr 45 31 18 (tm 12) (tm 13)),o1 15 (ln 31 18 14),o1 16 (.callv (tm 11) [(tm 15)] [31] .snap)] 0 none) []
  (.cond (tm 16)
  (.seq (.region 5 [mv 17 5,o1 4 (sg 17)] 0 none) []
   (.ret (rl 0 4 (rl 5 14 []))))
  .skip)))) (4 :: 5 :: (rl 10 8 []))
 A40v1)
def A40v3:AC:=(.seq (.region 2 [o1 9 (bt .lss 3 8 7)] 0 none) []
 (.seq (.cond (tm 9)
 .skip
 (.exit 0 (rl 0 19 []))) []
 A40v2))
def A40v4:AC:=(.seq (.region 7 [o1 4 (sk (-1))] 0 none) []
 (.ret (rl 0 4 (rl 5 14 []))))
def A40:AF:=⟨19,[.tmp 4],
 (.seq (.region 0 [o1 4 (sk 0)] 0 none) []
 (.seq (.seq (.region 1 [mv 6 0,o1 7 (.len 45 false (tm 6)),o1 8 (.move (ic 0))] 0 none) []
 (.block 0
 (.loop [] (rl 2 5 (rl 9 10 []))
  A40v3))) (rl 4 15 [])
 A40v4))⟩
def N171v1:St→Option St:=nN 0 (rl 2 5 (rl 9 10 []))
def s171v0:St:=⟨(.x (.c (ro kA n0 f0)) :: .x (.c (.fn 41 1 (listF [(.rp kG g0)]))) :: (us 5 (vxi i0 :: vxi i1 :: (us 10 [])))),[]⟩
def s171v1:St:=⟨(us 4 (vxi i0 :: (us 14 []))),[]⟩
def s171v2:St:=⟨(us 19 []),[]⟩
def L171v1 {ρ:Type} (u:Nat) (x0:Nat) (x1:FF) (x2:Nat→CV) (x3:Int):Nat→Int→(Int→Option ρ)→(Option ρ)→Option ρ
 | 0,_,_,_=>none
 | m+1,x4,k0,k1 =>
  (bif (decide (x4<x3)) then (bif (inb x4 x0) then (ob (F170 u (listF (pj kR0 (x1 x4.toNat))) x2) fun x5=>(bif x5 then (k0 x4) else (L171v1 u x0 x1 x2 x3 m (w64 (x4+1)) k0 k1))) else none) else k1)
theorem nl171v1:∀ (m:Nat) (x0:Int) (k0:Int→Option ρ) (k1:Option ρ),ob (L171v1 u n0 f0 g0 i0 m x0 k0 k1) ng=L171v1 u n0 f0 g0 i0 m x0 (fun x1=>ob (k0 x1) ng) (ob k1 ng)
 | 0,_,_,_=>rfl
 | m+1,x0,k0,k1=>by
  simp only [L171v1,ob_bif,ob_ob,ob_none,nl171v1 m]
theorem q171v1:∀ (m:Nat) (x0:Int),
  loopH (eB A40v3 (C51 u) u) N171v1 m (s171v0 n0 f0 i0 x0 g0) k=L171v1 u n0 f0 g0 i0 m x0 (fun x1=>k .ret (s171v1 x1)) (k (.exit 0) s171v2)
 | 0,_=>rfl
 | m+1,x0=>by
  simp only [L171v1,← q171v1 m]
  kernel_rfl
def F171 (x0:Nat) (x1:FF) (x2:Nat→CV):Option (Int) :=
 (L171v1 u x0 x1 x2 (Int.ofNat x0) u 0
  (fun x3=>(some x3))
  (some (-1)))
def s171v3:St:=⟨[.x (.c (ro kA n0 f0)),.x (.c (.fn 41 1 (listF [(.rp kG g0)]))),uu,uu,vxi 0,uu,.x (.c (ro kA n0 f0)),vxi (Int.ofNat n0),vxi 0,uu,uu,uu,uu,uu,uu,uu,uu,uu,uu],[]⟩
theorem t171v1 :
  loopN (eB A40v3 (C51 u) u) N171v1 u (s171v3 n0 f0 g0) k =
  L171v1 u n0 f0 g0 (Int.ofNat n0) u 0 (fun x0=>k .ret (s171v1 x0)) (k (.exit 0) s171v2) :=
 Eq.trans (loopN_at (by kernel_rfl)) (q171v1 ..)
theorem g171v2 :
  (kBlk 0 (kSeq (C51 u) u (rl 4 15 []) A40v4 (finish A40))) .ret (s171v1 i0) =
  (some [.v (vi i0)]):=by kernel_rfl
theorem g171v3 :
  (kBlk 0 (kSeq (C51 u) u (rl 4 15 []) A40v4 (finish A40))) (.exit 0) s171v2 =
  (some [.v (vi (-1))]):=by kernel_rfl
theorem e171:evalF (C51 u) u A40 [.v (ro kA n0 f0),.v (.fn 41 1 (listF [(.rp kG g0)]))]=ob (F171 u n0 f0 g0) fun t=>some [.v (vi t)]:=Eq.trans (b:=(loopN (eB A40v3 (C51 u) u) N171v1 u (s171v3 n0 f0 g0) (kBlk 0 (kSeq (C51 u) u (rl 4 15 []) A40v4 (finish A40))))) (by kernel_rfl) (by
 simp only [F171,ob_bif,ob_ob,ob_none,ob_some,nl171v1,t171v1,g171v2,g171v3])
def O171:Ora:=mkO (qc (av (cL kA)) (q1 (av (cF 41 1 (t1 (cP kG)))))) (fun x=>F171 u x.1.1 x.1.2 x.2) fun t=>[.v (vi t)]
theorem d171:DO (O171 u) (C51 u) 40 A40:=dO u (fun x=>by exact e171 u x.1.1 x.1.2 x.2)
def C52:Oracle:=(C51 u).add 40 (fun l=>isFn 41 l 1) (O171 u)
def A27v1:AC:=(.seq (.region 4 [mv 13 0,mv 14 6,o1 15 (.indexAddr 45 31 18 (tm 13) (tm 14)),o1 16 (ln 31 18 15),o0 (.store 31 18 (tm 4) (tm 16)),o1 5 (sb true)] 0 none) []
 (.ret (rl 0 4 (rl 6 11 []))))
def A27:AF:=⟨17,[.cell 4 31 (some 18),.tmp 5],
 (.seq (.region 0 [o1 3 (bx 0 9 1),o1 4 (.alloc 1 31 [vcs ByteArray.empty,vci 0,vci 0,vcs ByteArray.empty,vcs ByteArray.empty,vci 0,vcn,vcn,vcs ByteArray.empty,vci 0,vci 0,vci 0,vci 0,vci 0,vci 0,vci 0,vci 0,vci 0]),o1 5 (sb false)] 2 none) []
 (.seq (.region 1 [mv 7 0,o1 8 (.mkfn 41 [(tm 3)]),o1 9 (cs 40 [7,8] [45,37]),o1 6 (sg 9)] 0 none) []
 (.seq (.seq (.region 2 [mv 10 6,o1 11 (bk .lss 3 10 0)] 0 none) []
 (.cond (tm 11)
 (.seq (.region 3 [o1 12 (.build 31 [vcs ByteArray.empty,vci 0,vci 0,vcs ByteArray.empty,vcs ByteArray.empty,vci 0,.c (.ro true kP 0 nilF),.c (.ro true kF 0 nilF),vcs ByteArray.empty,vci 0,vci 0,vci 0,vci 0,vci 0,vci 0,vci 0,vci 0,vci 0] [(0,1),(1,1),(2,1),(3,1),(4,1),(5,1),(6,2),(8,1),(9,1),(10,1),(11,3),(14,4)] 0 []),o0 (.store 31 18 (tm 4) (tm 12)),o1 5 (sb false)] 0 none) []
  (.ret (rl 0 4 (rl 6 11 []))))
 .skip)) [5,10,11,12]
 A27v1)))⟩
def FT172 (x0:Nat) (x1:FF) (x2:ByteArray):Option (Bool × ByteArray × Int × Int × ByteArray × ByteArray × Int × Nat × FF × Nat × FF × ByteArray × Int × Int × Int × Int × Int × Int × Int × Int × Int × Bool) :=
 (ob (F171 u x0 x1 (listF [(.s x2)])) fun x3=>(bif (decide (x3<0)) then (some (true,ByteArray.empty,0,0,ByteArray.empty,ByteArray.empty,0,0,(fun _ _=>.any),0,(fun _ _=>.any),ByteArray.empty,0,0,0,0,0,0,0,0,0,false)) else (bif (inb x3 x0) then (some (false,(x1 x3.toNat 0).str,(x1 x3.toNat 1).int,(x1 x3.toNat 2).int,(x1 x3.toNat 3).str,(x1 x3.toNat 4).str,(x1 x3.toNat 5).int,(x1 x3.toNat 6).len,(x1 x3.toNat 6).el,(x1 x3.toNat 7).len,(x1 x3.toNat 7).el,(x1 x3.toNat 8).str,(x1 x3.toNat 9).int,(x1 x3.toNat 10).int,(x1 x3.toNat 11).int,(x1 x3.toNat 12).int,(x1 x3.toNat 13).int,(x1 x3.toNat 14).int,(x1 x3.toNat 15).int,(x1 x3.toNat 16).int,(x1 x3.toNat 17).int,true)) else none)))
theorem e172:evalF (C52 u) u A27 [.v (ro kA n0 f0),.v (.s w0)]=ob (FT172 u n0 f0 w0) fun t=>some (bif t.1 then [.agg [(.s ByteArray.empty),(vi 0),(vi 0),(.s ByteArray.empty),(.s ByteArray.empty),(vi 0),(.ro true kP 0 nilF),(.ro true kF 0 nilF),(.s ByteArray.empty),(vi 0),(vi 0),(vi 0),(vi 0),(vi 0),(vi 0),(vi 0),(vi 0),(vi 0)],.v (.b false)] else [.agg [(.s t.2.1),(vi t.2.2.1),(vi t.2.2.2.1),(.s t.2.2.2.2.1),(.s t.2.2.2.2.2.1),(vi t.2.2.2.2.2.2.1),(ro kP t.2.2.2.2.2.2.2.1 (p8 t).1),(ro kF (p8 t).2.1 (p8 t).2.2.1),(.s (p8 t).2.2.2.1),(vi (p8 t).2.2.2.2.1),(vi (p8 t).2.2.2.2.2.1),(vi (p8 t).2.2.2.2.2.2.1),(vi (p8 t).2.2.2.2.2.2.2.1),(vi (pG t).1),(vi (pG t).2.1),(vi (pG t).2.2.1),(vi (pG t).2.2.2.1),(vi (pG t).2.2.2.2.1)],.v (.b true)]):=by
 simp only [FT172,ob_bif,ob_ob,ob_none,ob_some,cond_true,cond_false]
 kernel_rfl
def F172 (x0:Nat) (x1:FF) (x2:ByteArray):Option (ByteArray × Int × Int × ByteArray × ByteArray × Int × Nat × FF × Nat × FF × ByteArray × Int × Int × Int × Int × Int × Int × Int × Int × Int × Bool):=ob (FT172 u x0 x1 x2) fun t=>some (bif t.1 then (ByteArray.empty,0,0,ByteArray.empty,ByteArray.empty,0,0,(fun _ _=>.any),0,(fun _ _=>.any),ByteArray.empty,0,0,0,0,0,0,0,0,0,false) else (t.2.1,t.2.2.1,t.2.2.2.1,t.2.2.2.2.1,t.2.2.2.2.2.1,t.2.2.2.2.2.2.1,t.2.2.2.2.2.2.2.1,(p8 t).1,(p8 t).2.1,(p8 t).2.2.1,(p8 t).2.2.2.1,(p8 t).2.2.2.2.1,(p8 t).2.2.2.2.2.1,(p8 t).2.2.2.2.2.2.1,(p8 t).2.2.2.2.2.2.2.1,(pG t).1,(pG t).2.1,(pG t).2.2.1,(pG t).2.2.2.1,(pG t).2.2.2.2.1,true))
def O172:Ora:=mkO (qc (av (cL kA)) (q1 (av cS))) (fun x=>F172 u x.1.1 x.1.2 x.2) fun t=>[.agg [(.s t.1),(vi t.2.1),(vi t.2.2.1),(.s t.2.2.2.1),(.s t.2.2.2.2.1),(vi t.2.2.2.2.2.1),(ro kP t.2.2.2.2.2.2.1 t.2.2.2.2.2.2.2.1),(ro kF (p8 t).1 (p8 t).2.1),(.s (p8 t).2.2.1),(vi (p8 t).2.2.2.1),(vi (p8 t).2.2.2.2.1),(vi (p8 t).2.2.2.2.2.1),(vi (p8 t).2.2.2.2.2.2.1),(vi (p8 t).2.2.2.2.2.2.2.1),(vi (pG t).1),(vi (pG t).2.1),(vi (pG t).2.2.1),(vi (pG t).2.2.2.1)],.v (.b (pG t).2.2.2.2)]
theorem d172:DO (O172 u) (C52 u) 27 A27:=dW u (fun x=>by exact e172 u x.1.1 x.1.2 x.2) (fun _=>rfl) fun t=>by
 obtain ⟨b,t⟩:=t
 cases b with
 | true=>exact (.cons (WkA.agg (.cons (Wk.refl _) (.cons (Wk.refl _) (.cons (Wk.refl _) (.cons (Wk.refl _) (.cons (Wk.refl _) (.cons (Wk.refl _) (.cons (Wk.ro (by rfl)) (.cons (Wk.ro (by rfl)) (.cons (Wk.refl _) (.cons (Wk.refl _) (.cons (Wk.refl _) (.cons (Wk.refl _) (.cons (Wk.refl _) (.cons (Wk.refl _) (.cons (Wk.refl _) (.cons (Wk.refl _) (.cons (Wk.refl _) (.cons (Wk.refl _) .nil))))))))))))))))))) (.cons (WkA.v (Wk.refl _)) .nil))
 | false =>
  exact (.cons (WkA.agg (.cons (Wk.refl _) (.cons (Wk.refl _) (.cons (Wk.refl _) (.cons (Wk.refl _) (.cons (Wk.refl _) (.cons (Wk.refl _) (.cons (Wk.refl _) (.cons (Wk.refl _) (.cons (Wk.refl _) (.cons (Wk.refl _) (.cons (Wk.refl _) (.cons (Wk.refl _) (.cons (Wk.refl _) (.cons (Wk.refl _) (.cons (Wk.refl _) (.cons (Wk.refl _) (.cons (Wk.refl _) (.cons (Wk.refl _) .nil))))))))))))))))))) (.cons (WkA.v (Wk.refl _)) .nil))
def C53:Oracle:=(C52 u).add 27 (fun _=>true) (O172 u)
def A28v1:AC:=(.seq (.block 1
 (.seq (.region 6 [o1 14 (.indexAddr 23 22 1 (tm 10) (tm 12)),o1 15 (lo 22 14),o1 5 (sg 15)] 0 none) []
  (.region 7 [mv 16 3,mv 17 5,o1 18 (cs 43 [17] [22]),o1 19 (bt .add 3 16 18),o1 3 (sg 19)] 0 none))) []
 (.region 8 [o1 20 (bk .add 3 12 1),mv 12 20] 0 none))
def A28v2:AC:=(.seq (.region 5 [o1 13 (bt .lss 3 12 11)] 0 none) []
 (.seq (.cond (tm 13)
 .skip
 (.exit 0 (0 :: 1 :: 2 :: (rl 4 18 [])))) []
 A28v1))
def A28v3:AC:=(.seq (.region 9 [mv 21 3,o1 2 (sg 21)] 0 none) []
 (.ret (0 :: 1 :: (rl 3 19 []))))
def A28v4:AC:=(.seq (.region 3 [o1 3 (sk 0)] 0 none) []
 (.seq (.seq (.region 4 [o1 9 (ln 25 2 1),o1 10 (cf 42 [9] [25]),o1 11 (.len 23 false (tm 10)),o1 12 (.move (ic 0))] 0 none) []
 (.block 0
 (.loop [] (0 :: 1 :: 2 :: (rl 4 6 (rl 13 9 [])))
  A28v2))) (5 :: (rl 9 12 []))
 A28v3))
def A28:AF:=⟨22,[.tmp 2],
 (.seq (.region 0 [o1 1 (bx 0 25 0),o1 2 (sk 0)] 1 none) []
 (.seq (.seq (.region 1 [o1 6 (ln 25 2 1),o1 7 (cs 33 [6] [25]),o1 8 (bk .neq 53 7 0)] 0 none) []
 (.cond (tm 8)
 (.seq (.region 2 [o1 2 (sk 0)] 0 none) []
  (.ret (0 :: 1 :: (rl 3 19 []))))
 .skip)) [2,6,7,8]
 A28v4))⟩
def N18v1:St→Option St:=nN 1 (0 :: 1 :: 2 :: (rl 4 6 (rl 13 9 [])))
def s18v0:St:=⟨(us 3 (vxi i0 :: (us 6 (.x (.c (ro kF n0 f0)) :: vxi i1 :: vxi i2 :: (us 9 []))))),[.box [(.c (ro kP n1 f1)),(.c (ro kF n2 f2))]]⟩
def s18v1:St:=⟨(us 3 (vxi i0 :: (us 18 []))),[.box [(.c (ro kP n0 f0)),(.c (ro kF n1 f1))]]⟩
def L18v1 {ρ:Type} (u:Nat) (x0:Nat) (x1:FF) (x2:Int) (x3:Nat) (x4:FF) (x5:Nat) (x6:FF):Nat→Int→Int→(Int→Option ρ)→Option ρ
 | 0,_,_,_=>none
 | m+1,x7,x8,k0 =>
  (bif (decide (x8<x2)) then (bif (inb x8 x0) then (ob (F34 u (x1 x8.toNat 0).len (x1 x8.toNat 0).el) fun x9=>(L18v1 u x0 x1 x2 x3 x4 x5 x6 m (w64 (x7+x9)) (w64 (x8+1)) k0)) else none) else (k0 x7))
theorem nl18v1:∀ (m:Nat) (x0 x1:Int) (k0:Int→Option ρ),ob (L18v1 u n0 f0 i0 n1 f1 n2 f2 m x0 x1 k0) ng=L18v1 u n0 f0 i0 n1 f1 n2 f2 m x0 x1 (fun x2=>ob (k0 x2) ng)
 | 0,_,_,_=>rfl
 | m+1,x0,x1,k0=>by
  simp only [L18v1,ob_bif,ob_ob,ob_none,nl18v1 m]
theorem q18v1:∀ (m:Nat) (x0 x1:Int),
  loopH (eB A28v2 (C53 u) u) N18v1 m (s18v0 n0 n1 n2 f0 f1 f2 x0 i0 x1) k=L18v1 u n0 f0 i0 n1 f1 n2 f2 m x0 x1 (fun x2=>k (.exit 0) (s18v1 n1 n2 f1 f2 x2))
 | 0,_,_=>rfl
 | m+1,x0,x1=>by
  simp only [L18v1,← q18v1 m]
  kernel_rfl
def F18 (x0:Nat) (x1:FF) (x2:Nat) (x3:FF):Option (Int) :=
 (ob (F13 u x0 x1 x2 x3) fun x4=>(bif (x4 != 0) then (some 0) else (ob (F42 u x0 x1 x2 x3) fun x5=>(L18v1 u x5.1 x5.2 (Int.ofNat x5.1) x0 x1 x2 x3 u 0 0
  (fun x6=>(some x6))))))
def s18v2 (x0:Nat × FF):St:=⟨(.agg [(.c (ro kP n0 f0)),(.c (ro kF n1 f1))] :: .x (.ptr 0 0) :: .u :: vxi 0 :: uu :: uu :: (us 3 [.agg [(.c (ro kP n0 f0)),(.c (ro kF n1 f1))],.x (.c (ro kF x0.1 x0.2)),vxi (Int.ofNat x0.1),vxi 0,uu,uu,uu,uu,uu,uu,uu,uu,uu])),[.box [(.c (ro kP n0 f0)),(.c (ro kF n1 f1))]]⟩
theorem t18v1 (x0:Nat × FF) :
  loopN (eB A28v2 (C53 u) u) N18v1 u (s18v2 n0 n1 f0 f1 x0) k =
  L18v1 u x0.1 x0.2 (Int.ofNat x0.1) n0 f0 n1 f1 u 0 0 (fun x1=>k (.exit 0) (s18v1 n0 n1 f0 f1 x1)) :=
 Eq.trans (loopN_at (by kernel_rfl)) (q18v1 ..)
theorem g18v2 :
  (kBlk 0 (kSeq (C53 u) u (5 :: (rl 9 12 [])) A28v3 (finish A28))) (.exit 0) (s18v1 n0 n1 f0 f1 i0) =
  (some [.v (vi i0)]):=by kernel_rfl
theorem e18:evalF (C53 u) u A28 [.agg [(ro kP n0 f0),(ro kF n1 f1)]]=ob (F18 u n0 f0 n1 f1) fun t=>some [.v (vi t)]:=Eq.trans (b:=(ob (F13 u n0 f0 n1 f1) fun x0=>(bif (x0 != 0) then (some [.v (vi 0)]) else (ob (F42 u n0 f0 n1 f1) fun x1=>(loopN (eB A28v2 (C53 u) u) N18v1 u (s18v2 n0 n1 f0 f1 x1) (kBlk 0 (kSeq (C53 u) u (5 :: (rl 9 12 [])) A28v3 (finish A28)))))))) (by kernel_rfl) (by
 simp only [F18,ob_bif,ob_ob,ob_none,ob_some,nl18v1,t18v1,g18v2])
def O18:Ora:=mkO (q1 (ag (tc (cL kP) (t1 (cL kF))))) (fun x=>F18 u x.1.1 x.1.2 x.2.1 x.2.2) fun t=>[.v (vi t)]
theorem d18:DO (O18 u) (C53 u) 28 A28:=dO u (fun x=>by exact e18 u x.1.1 x.2.1 x.1.2 x.2.2)
def C54:Oracle:=(C53 u).add 28 (fun _=>true) (O18 u)
def A13v1:AC:=(.region 9 [o1 33 (bk .add 3 16 1),mv 16 33] 0 none)
def A13v2:AC:=(.seq (.block 1
 (.seq (.region 5 [o1 18 (.indexAddr 50 63 5 (tm 14) (tm 16)),o1 19 (ln 63 5 18),o1 6 (.alloc 0 63 [vcs ByteArray.empty,vci 0,vci 0,vci 0,vcb false]),o0 (.store 63 5 (tm 6) (tm 19))] 1 none) []
  (.seq (.region 6 [mv 21 1,o1 22 (fa 63 6 0 0),o1 23 (lo 9 22),o1 24 (cf 27 [21,23] [45,9]),mv 20 24,o1 25 (.extract (tm 20) 0),o1 26 (.extract (tm 20) 1),o1 7 (.alloc 0 31 [vcs ByteArray.empty,vci 0,vci 0,vcs ByteArray.empty,vcs ByteArray.empty,vci 0,vcn,vcn,vcs ByteArray.empty,vci 0,vci 0,vci 0,vci 0,vci 0,vci 0,vci 0,vci 0,vci 0]),o0 (.store 31 18 (tm 7) (tm 25)),o1 8 (sg 26)] 1 none) []
  (.seq (.region 7 [mv 27 8] 0 none) []
  (.cond (tm 27)
  (.region 8 [mv 28 4,o1 29 (fa 31 7 6 6),o1 30 (ln 25 2 29),o1 31 (cs 28 [30] [25]),o1 32 (bt .add 3 28 31),o1 4 (sg 32)] 0 none)
  .skip))))) (6 :: 7 :: 8 :: (rl 18 15 []))
 A13v1)
def A13v3:AC:=(.seq (.region 4 [o1 17 (bt .lss 3 16 15)] 0 none) []
 (.seq (.cond (tm 17)
 .skip
 (.exit 0 (rl 0 4 (rl 5 30 [])))) []
 A13v2))
def A13v4:AC:=(.seq (.region 10 [mv 34 4,o1 4 (sg 34)] 0 none) []
 (.ret (rl 0 4 (rl 5 30 []))))
def A13v5:AC:=(.seq (.seq (.region 3 [o1 13 (fa 52 2 2 2),o1 14 (lo 50 13),o1 15 (.len 50 false (tm 14)),o1 16 (.move (ic 0))] 0 none) []
 (.block 0
 (.loop [] (0 :: 2 :: 3 :: (rl 5 9 (rl 17 18 [])))
  A13v3))) (6 :: 7 :: 8 :: (rl 13 21 []))
 A13v4)
def A13:AF:=⟨35,[.tmp 4],
 (.seq (.region 0 [o1 2 (bx 0 52 0),o1 4 (sk 0)] 1 none) []
 (.seq (.seq (.region 1 [o1 9 (fa 52 2 2 2),o1 10 (lo 50 9),o1 11 (.len 50 false (tm 10)),o1 12 (bk .gtr 3 11 32)] 0 none) []
 (.cond (tm 12)
 (.seq (.region 2 [o1 4 (sk 0)] 0 none) []
  (.ret (rl 0 4 (rl 5 30 []))))
 .skip)) (rl 9 4 [])
 A13v5))⟩
def N183v1:St→Option St:=nN 1 (0 :: 2 :: 3 :: (rl 5 9 (rl 17 18 [])))
def s183v0:St:=⟨(.u :: .x (.c (ro kA n0 f0)) :: .u :: .u :: vxi i0 :: (us 9 (.x (.c (ro kB n1 f1)) :: vxi i1 :: vxi i2 :: (us 18 [])))),[.box [(vcs w0),(vci i3),(.c (ro kB n1 f1))]]⟩
def s183v1:St:=⟨(us 4 (vxi i0 :: (us 30 []))),[.box [(vcs w0),(vci i1),(.c (ro kB n0 f0))]]⟩
def L183v1 {ρ:Type} (u:Nat) (x0:Nat) (x1:FF) (x2:Nat) (x3:FF) (x4:Int) (x5:ByteArray) (x6:Int):Nat→Int→Int→(Int→Option ρ)→Option ρ
 | 0,_,_,_=>none
 | m+1,x7,x8,k0 =>
  (bif (decide (x8<x4)) then (bif (inb x8 x2) then (ob (F172 u x0 x1 (x3 x8.toNat 0).str) fun x9=>(bif (pG x9).2.2.2.2 then (ob (F18 u x9.2.2.2.2.2.2.1 x9.2.2.2.2.2.2.2.1 (p8 x9).1 (p8 x9).2.1) fun xA=>(L183v1 u x0 x1 x2 x3 x4 x5 x6 m (w64 (x7+xA)) (w64 (x8+1)) k0)) else (L183v1 u x0 x1 x2 x3 x4 x5 x6 m x7 (w64 (x8+1)) k0))) else none) else (k0 x7))
theorem nl183v1:∀ (m:Nat) (x0 x1:Int) (k0:Int→Option ρ),ob (L183v1 u n0 f0 n1 f1 i0 w0 i1 m x0 x1 k0) ng=L183v1 u n0 f0 n1 f1 i0 w0 i1 m x0 x1 (fun x2=>ob (k0 x2) ng)
 | 0,_,_,_=>rfl
 | m+1,x0,x1,k0=>by
  simp only [L183v1,ob_bif,ob_ob,ob_none,nl183v1 m]
theorem q183v1:∀ (m:Nat) (x0 x1:Int),
  loopH (eB A13v3 (C54 u) u) N183v1 m (s183v0 n0 n1 f0 f1 x0 i0 x1 i1 w0) k=L183v1 u n0 f0 n1 f1 i0 w0 i1 m x0 x1 (fun x2=>k (.exit 0) (s183v1 n1 f1 x2 i1 w0))
 | 0,_,_=>rfl
 | m+1,x0,x1=>by
  simp only [L183v1,← q183v1 m]
  kernel_rfl
def F183 (x0:ByteArray) (x1:Int) (x2:Nat) (x3:FF) (x4:Nat) (x5:FF):Option (Int) :=
 (bif (decide ((Int.ofNat x2)>32)) then (some 0) else (L183v1 u x4 x5 x2 x3 (Int.ofNat x2) x0 x1 u 0 0
  (fun x6=>(some x6))))
def s183v2:St:=⟨(.agg [(vcs w0),(vci i0),(.c (ro kB n0 f0))] :: .x (.c (ro kA n1 f1)) :: .x (.ptr 0 0) :: uu :: vxi 0 :: uu :: uu :: uu :: uu :: (us 4 [.x (.ptr 0 2),.x (.c (ro kB n0 f0)),vxi (Int.ofNat n0),vxi 0,uu,uu,uu,uu,uu,uu,uu,uu,uu,uu,uu,uu,uu,uu,uu,uu,uu,uu])),[.box [(vcs w0),(vci i0),(.c (ro kB n0 f0))]]⟩
theorem t183v1 :
  loopN (eB A13v3 (C54 u) u) N183v1 u (s183v2 n0 n1 f0 f1 i0 w0) k =
  L183v1 u n1 f1 n0 f0 (Int.ofNat n0) w0 i0 u 0 0 (fun x0=>k (.exit 0) (s183v1 n0 f0 x0 i0 w0)) :=
 Eq.trans (loopN_at (by kernel_rfl)) (q183v1 ..)
theorem g183v2 :
  (kBlk 0 (kSeq (C54 u) u (6 :: 7 :: 8 :: (rl 13 21 [])) A13v4 (finish A13))) (.exit 0) (s183v1 n0 f0 i0 i1 w0) =
  (some [.v (vi i0)]):=by kernel_rfl
theorem e183:evalF (C54 u) u A13 [.agg [(.s w0),(vi i0),(ro kB n0 f0)],.v (ro kA n1 f1)]=ob (F183 u w0 i0 n0 f0 n1 f1) fun t=>some [.v (vi t)]:=Eq.trans (b:=(bif (decide ((Int.ofNat n0)>32)) then (some [.v (vi 0)]) else (loopN (eB A13v3 (C54 u) u) N183v1 u (s183v2 n0 n1 f0 f1 i0 w0) (kBlk 0 (kSeq (C54 u) u (6 :: 7 :: 8 :: (rl 13 21 [])) A13v4 (finish A13)))))) (by kernel_rfl) (by
 simp only [F183,ob_bif,ob_ob,ob_none,ob_some,nl183v1,t183v1,g183v2])
def O183:Ora:=mkO (qc (ag (tc cS (tc ci (t1 (cL kB))))) (q1 (av (cL kA)))) (fun x=>F183 u x.1.1 x.1.2.1 x.1.2.2.1 x.1.2.2.2 x.2.1 x.2.2) fun t=>[.v (vi t)]
theorem d183:DO (O183 u) (C54 u) 13 A13:=dO u (fun x=>by exact e183 u x.1.2.2.1 x.2.1 x.1.2.2.2 x.2.2 x.1.2.1 x.1.1)
def C55:Oracle:=(C54 u).add 13 (fun _=>true) (O183 u)
def A12v1:AC:=(.region 17 [o1 61 (bk .add 3 50 1),mv 50 61] 0 none)
def A12v2:AC:=(.seq (.block 3
 (.seq (.region 14 [mv 52 50,o1 53 (.indexAddr 75 3 1 (tm 48) (tm 50)),o1 54 (lo 3 53),o1 15 (sg 52),o1 16 (sg 54)] 0 none) []
  (.seq (.region 15 [mv 55 16,o1 56 (bk .geq 3 55 0)] 0 none) []
  (.cond (tm 56)
  (.region 16 [o1 57 (lo 75 14),mv 58 15,o1 59 (.buildSlice 0 75 3 kD 1 [vci 0] [(0,(tm 58))]),o1 60 (.append 1 75 3 kD 8 (tm 57) (tm 59)),o0 (.store 75 1 (tm 14) (tm 60))] 2 none)
  .skip)))) (15 :: 16 :: (rl 52 9 []))
 A12v1)
def A12v3:AC:=(.seq (.region 13 [o1 51 (bt .lss 3 50 49)] 0 none) []
 (.seq (.cond (tm 51)
 .skip
 (.exit 2 (rl 0 4 (7 :: 9 :: (rl 15 80 []))))) []
 A12v2))
def A12v4:AC:=(.seq (.region 22 [o1 69 (ln 44 6 4),o1 70 (lo 45 10),o1 71 (lo 75 13),o1 72 (lo 75 14),o1 73 (lo 45 10),o1 74 (lo 75 13),o1 75 (lo 75 17),mv 76 18,o1 77 (lo 3 6),o1 78 (cf 26 [73,74,75,76,77] [45,75,75,75,3]),o1 79 (lo 3 6),o1 80 (cf 25 [69,70,71,72,78,79] [44,45,75,75,32,3]),mv 68 80,o1 81 (.extract (tm 68) 0),o1 82 (.extract (tm 68) 1),o1 19 (.alloc 0 52 [vcs ByteArray.empty,vci 0,vcn]),o0 (.store 52 3 (tm 19) (tm 81)),o1 20 (sg 82)] 1 (some [[],[],[],[],[],[],[],[],[],(rl 4 5 []),[],(rl 0 11 []),(rl 0 12 []),(rl 0 13 []),(rl 0 13 []),[],(rl 0 14 [15]),(rl 0 17 [])])) []
 (.seq (.region 23 [o1 83 (ln 52 3 19),o1 84 (lo 45 5),o1 85 (cs 13 [83,84] [52,45]),o1 21 (sg 85)] 0 none) []
 (.seq (.region 24 [mv 86 20,mv 87 86,og 88 (.move (tm 21)) 87 true,og 89 (lo 3 12) 87 true,og 90 (bt .gtr 3 88 89) 87 true,o1 91 (po 87 90)] 0 none) []
 (.cond (tm 91)
 (.region 25 [o1 92 (ln 52 3 19),mv 93 21,o0 (.store 52 3 (tm 11) (tm 92)),o0 (.store 3 1 (tm 12) (tm 93))] 0 none)
 .skip))))
def A12v5:AC:=(.iter [o1 65 (lo 75 14)] [(4,0,0),(5,1,0),(6,2,0),(8,3,0),(10,4,0),(11,5,0),(12,6,0),(13,7,0),(14,8,0),(17,10,0)] (rl 0 4 (7 :: 9 :: 15 :: 16 :: (rl 18 47 (rl 67 28 [])))) 65 66 67 24 75 itP 7
 (.region 21 [o1 18 (sg 67)] 0 none)
 A12v4)
def A12v6:AC:=(.ghost [9] (.iter [o1 62 (lo 75 14)] [(4,0,0),(5,1,0),(6,2,0),(8,3,0),(10,4,0),(11,5,0),(12,6,0),(13,7,0),(14,8,0)] (rl 0 4 (7 :: 9 :: (rl 15 47 (rl 64 31 [])))) 62 63 64 24 75 itP 5
 (.region 19 [o1 17 (.alloc 0 75 [vcn]),o0 (.store 75 1 (tm 17) (tm 64))] 1 none)
 A12v5))
def A12v7:AC:=(.seq (.region 11 [o1 14 (.alloc 0 75 [vcn])] 1 none) []
 (.seq (.seq (.region 12 [o1 48 (lo 75 13),o1 49 (.len 75 false (tm 48)),o1 50 (.move (ic 0))] 0 none) []
 (.block 2
 (.loop [.cell 14 0 kD] (rl 0 4 (7 :: 9 :: (rl 15 33 (rl 51 44 []))))
  A12v3))) (15 :: 16 :: (rl 48 14 []))
 A12v6))
def A12v8:AC:=(.seq (.region 26 [o1 94 (ln 52 3 11),o0 (.store 52 3 (tm 8) (tm 94)),o1 9 (sk 0)] 0 none) []
 (.ghost [0,1,2,4,5,6] (.ret (rl 0 8 (rl 10 85 [])))))
def A12v9:AC:=(.seq (.region 8 [o1 40 (fa 44 4 0 0),o1 41 (lo 9 40),o1 42 (lo 3 6),o1 43 (.build 52 [vcs ByteArray.empty,vci 0,.c (ro kB 0 nilF)] [(0,1),(1,1),(2,1)] 0 [(0,(tm 41)),(1,(tm 42))]),o1 11 (.alloc 0 52 [vcs ByteArray.empty,vci 0,vcn]),o1 12 (.alloc 1 3 [vci 0]),o0 (.store 52 3 (tm 11) (tm 43)),o0 (.store 3 1 (tm 12) (ic 0))] 2 none) []
 (.seq (.iter [o1 44 (lo 45 10),o1 45 (.len 45 false (tm 44))] [(4,0,0),(5,1,0),(6,2,0),(8,3,0),(10,4,0),(11,5,0),(12,6,0)] (rl 0 4 (7 :: 9 :: (rl 13 32 (rl 47 48 [])))) 45 46 47 23 3 itT 1
 (.region 10 [o1 13 (.alloc 0 75 [vcn]),o0 (.store 75 1 (tm 13) (tm 47))] 1 none)
 A12v7) (rl 13 9 (44 :: 45 :: 46 :: (rl 48 16 (65 :: 66 :: (rl 68 26 [])))))
 A12v8))
def A12v10:AC:=(.seq (.seq (.region 6 [mv 33 3,o1 34 (lo 45 10),o1 35 (.len 45 false (tm 34)),o1 36 (.indexAddrA 71 3 5 1 (.global 0) (tm 35)),o1 37 (lo 3 36),o1 38 (bt .lss 3 33 37)] 0 none) []
 (.cond (tm 38)
 (.seq (.region 7 [o1 39 (.build 52 [vcs ByteArray.empty,vci 0,.c (ro kB 0 nilF)] [(0,1),(1,1),(2,1)] 0 []),o0 (.store 52 3 (tm 8) (tm 39)),o1 9 (sk 29)] 0 none) []
  (.ghost [0,1,2,4] (.ret (rl 0 8 (rl 10 85 [])))))
 .skip)) (9 :: (rl 33 7 []))
 A12v9)
def A12v11:AC:=(.seq (.region 3 [o1 26 (ln 44 6 4),o1 27 (lo 45 5),o1 28 (cf 22 [26,27] [44,45]),o1 10 (.alloc 0 45 [vcn]),o0 (.store 45 1 (tm 10) (tm 28))] 1 none) []
 (.seq (.seq (.region 4 [o1 29 (lo 45 10),o1 30 (.len 45 false (tm 29)),o1 31 (bk .gtr 3 30 4)] 0 none) []
 (.cond (tm 31)
 (.seq (.region 5 [o1 32 (.build 52 [vcs ByteArray.empty,vci 0,.c (ro kB 0 nilF)] [(0,1),(1,1),(2,1)] 0 []),o0 (.store 52 3 (tm 8) (tm 32)),o1 9 (sk 4)] 0 none) []
  (.ghost [0,1,2,4] (.ret (rl 0 8 (rl 10 85 [])))))
 .skip)) (9 :: (rl 29 4 []))
 A12v10))
def A12:AF:=⟨95,[.cell 8 52 (some 3),.tmp 9],
 (.seq (.region 0 [o1 4 (bx 0 44 0),o1 5 (bx 1 45 1),o1 6 (bx 2 3 2),o1 8 (.alloc 3 52 [vcs ByteArray.empty,vci 0,vcn]),o1 9 (sk 0)] 4 none) []
 (.seq (.seq (.region 1 [o1 22 (lo 3 6),o1 23 (.call 19 [(tm 22),(ic 0),(ic 500)] [3,3,3] .snap),o1 24 (.unOp .not 4 (tm 23))] 0 none) []
 (.cond (tm 24)
 (.seq (.region 2 [o1 25 (.build 52 [vcs ByteArray.empty,vci 0,.c (ro kB 0 nilF)] [(0,1),(1,1),(2,1)] 0 []),o0 (.store 52 3 (tm 8) (tm 25)),o1 9 (sk 9)] 0 none) []
  (.ghost [0,1,2] (.ret (rl 0 8 (rl 10 85 [])))))
 .skip)) (9 :: (rl 22 4 []))
 A12v11))⟩
def N401v5:St→Option St:=nN 10 (rl 0 4 (7 :: 9 :: (rl 15 33 (rl 51 44 []))))
def s401v0:St:=⟨(us 4 (.x (.ptr 0 0) :: .x (.ptr 1 0) :: .x (.ptr 2 0) :: .u :: .x (.ptr 3 0) :: .u :: .x (.ptr 4 0) :: .x (.ptr 5 0) :: .x (.ptr 6 0) :: .x (.ptr 7 0) :: .x (.ptr 8 0) :: (us 33 (.x (.c (ro kD n0 f0)) :: vxi i0 :: vxi i1 :: (us 44 []))))),[.box [(vcs w0),(vcs w1),(vci i2),(vci i3),(vci i4),(vcs w2)],.box [(.c (ro kA n1 f1))],.box [(vci i5)],.box [(vcs ByteArray.empty),(vci 0),(vcn)],.box [(.c (ro kA n2 f2))],.box [(vcs w3),(vci i6),(.c (ro kB n3 f3))],.box [(vci i7)],.box [(.c (ro kD n0 f0))],.box [(.own 9 0 n4)],.arr kD n4 f4]⟩
def s401v1:St:=⟨(us 4 (.x (.ptr 0 0) :: .x (.ptr 1 0) :: .x (.ptr 2 0) :: .u :: .x (.ptr 3 0) :: .u :: .x (.ptr 4 0) :: .x (.ptr 5 0) :: .x (.ptr 6 0) :: .x (.ptr 7 0) :: .x (.ptr 8 0) :: (us 80 []))),[.box [(vcs w0),(vcs w1),(vci i0),(vci i1),(vci i2),(vcs w2)],.box [(.c (ro kA n0 f0))],.box [(vci i3)],.box [(vcs ByteArray.empty),(vci 0),(vcn)],.box [(.c (ro kA n1 f1))],.box [(vcs w3),(vci i4),(.c (ro kB n2 f2))],.box [(vci i5)],.box [(.c (ro kD n3 f3))],.box [(.own 9 0 n4)],.arr kD n4 f4]⟩
def L401v5 {ρ:Type} (u:Nat) (x0:Nat) (x1:FF) (x2:Int) (x3 x4:ByteArray) (x5 x6 x7:Int) (x8:ByteArray) (x9:Nat) (xA:FF) (xB:Int) (xC:Nat) (xD:FF) (xE:ByteArray) (xF:Int) (xG:Nat) (xH:FF) (xI:Int):Nat→Int→Nat→FF→(Nat→FF→Option ρ)→Option ρ
 | 0,_,_,_,_=>none
 | m+1,xJ,xK,xL,k0 =>
  (bif (decide (xJ<x2)) then (bif (inb xJ x0) then (bif (decide ((x1 xJ.toNat 0).int≥0)) then (bif (Nat.ble (xK+1) 1073741824) then (L401v5 u x0 x1 x2 x3 x4 x5 x6 x7 x8 x9 xA xB xC xD xE xF xG xH xI m (w64 (xJ+1)) (xK+1) (joinF xK xL (rowsF 1 [(.i .i64 xJ)])) k0) else none) else (L401v5 u x0 x1 x2 x3 x4 x5 x6 x7 x8 x9 xA xB xC xD xE xF xG xH xI m (w64 (xJ+1)) xK xL k0)) else none) else (k0 xK xL))
theorem nl401v5:∀ (m:Nat) (x0:Int) (x1:Nat) (x2:FF) (k0:Nat→FF→Option ρ),ob (L401v5 u n0 f0 i0 w0 w1 i1 i2 i3 w2 n1 f1 i4 n2 f2 w3 i5 n3 f3 i6 m x0 x1 x2 k0) ng=L401v5 u n0 f0 i0 w0 w1 i1 i2 i3 w2 n1 f1 i4 n2 f2 w3 i5 n3 f3 i6 m x0 x1 x2 (fun x3 x4=>ob (k0 x3 x4) ng)
 | 0,_,_,_,_=>rfl
 | m+1,x0,x1,x2,k0=>by
  simp only [L401v5,ob_bif,ob_ob,ob_none,nl401v5 m]
theorem q401v5:∀ (m:Nat) (x0:Int) (x1:Nat) (x2:FF),
  loopH (eB A12v3 (C55 u) u) N401v5 m (s401v0 n0 n1 n2 n3 x1 f0 f1 f2 f3 x2 i0 x0 i1 i2 i3 i4 i5 i6 w0 w1 w2 w3) k=L401v5 u n0 f0 i0 w0 w1 i1 i2 i3 w2 n1 f1 i4 n2 f2 w3 i5 n3 f3 i6 m x0 x1 x2 (fun x3 x4=>k (.exit 2) (s401v1 n1 n2 n3 n0 x3 f1 f2 f3 f0 x4 i1 i2 i3 i4 i5 i6 w0 w1 w2 w3))
 | 0,_,_,_=>rfl
 | m+1,x0,x1,x2=>by
  simp only [L401v5,← q401v5 m]
  kernel_rfl
def N401v3:St→Option St:=nN 11 (rl 0 4 (7 :: 9 :: 15 :: 16 :: (rl 18 47 (rl 67 28 []))))
def s401v2:St:=⟨(us 4 (.x (.ptr 0 0) :: .x (.ptr 1 0) :: .x (.ptr 2 0) :: .u :: .x (.ptr 3 0) :: .u :: .x (.ptr 4 0) :: .x (.ptr 5 0) :: .x (.ptr 6 0) :: .x (.ptr 7 0) :: .x (.ptr 8 0) :: .u :: .u :: .x (.ptr 10 0) :: (us 47 (.x (.c (ro kD n0 f0)) :: vxi i0 :: (us 28 []))))),[.box [(vcs w0),(vcs w1),(vci i1),(vci i2),(vci i3),(vcs w2)],.box [(.c (ro kA n1 f1))],.box [(vci i4)],.box [(vcs ByteArray.empty),(vci 0),(vcn)],.box [(.c (ro kA n2 f2))],.box [(vcs w3),(vci i5),(.c (ro kB n3 f3))],.box [(vci i6)],.box [(.c (ro kD n4 f4))],.box [(.c (ro kD n0 f0))],.dead,.box [(.c (ro kD n5 f5))]]⟩
def s401v3:St:=⟨(us 4 (.x (.ptr 0 0) :: .x (.ptr 1 0) :: .x (.ptr 2 0) :: .u :: .x (.ptr 3 0) :: .u :: .x (.ptr 4 0) :: .x (.ptr 5 0) :: .x (.ptr 6 0) :: .x (.ptr 7 0) :: .x (.ptr 8 0) :: .u :: .u :: .x (.ptr 10 0) :: (us 77 []))),[.box [(vcs w0),(vcs w1),(vci i0),(vci i1),(vci i2),(vcs w2)],.box [(.c (ro kA n0 f0))],.box [(vci i3)],.box [(vcs ByteArray.empty),(vci 0),(vcn)],.box [(.c (ro kA n1 f1))],.box [(vcs w3),(vci i4),(.c (ro kB n2 f2))],.box [(vci i5)],.box [(.c (ro kD n3 f3))],.box [(.c (ro kD n4 f4))],.dead,.box [(.c (ro kD n5 f5))]]⟩
def L401v3 {ρ:Type} (u:Nat) (x0:Nat) (x1:FF) (x2 x3:ByteArray) (x4 x5 x6:Int) (x7:ByteArray) (x8:Nat) (x9:FF) (xA:Int) (xB:Nat) (xC:FF) (xD:Nat) (xE:FF) (xF:Nat) (xG:FF):Nat→Int→ByteArray→Int→Nat→FF→Int→(ByteArray→Int→Nat→FF→Int→Option ρ)→Option ρ
 | 0,_,_,_,_,_,_,_=>none
 | m+1,xH,xI,xJ,xK,xL,xM,k0 =>
  (bif ((Nat.ble x0 4)&&true) then (bif (decide (xH<Int.ofNat (List.length (permsL (liL x0 x1))))) then (ob (F399 u xB xC xD xE xF xG (List.length (List.getD (permsL (liL x0 x1)) xH.toNat [])) (fL (List.getD (permsL (liL x0 x1)) xH.toNat [])) xA) fun xN=>(ob (F400 u x2 x3 x4 x5 x6 x7 xB xC xD xE x0 x1 xN.1 xN.2 xA) fun xO=>(ob (F183 u xO.1 xO.2.1 xO.2.2.1 xO.2.2.2.1 x8 x9) fun xP=>(bif (xO.2.2.2.2==true) then (bif (decide (xP>xM)) then (L401v3 u x0 x1 x2 x3 x4 x5 x6 x7 x8 x9 xA xB xC xD xE xF xG m (xH+1) xO.1 xO.2.1 xO.2.2.1 xO.2.2.2.1 xP k0) else (L401v3 u x0 x1 x2 x3 x4 x5 x6 x7 x8 x9 xA xB xC xD xE xF xG m (xH+1) xI xJ xK xL xM k0)) else (L401v3 u x0 x1 x2 x3 x4 x5 x6 x7 x8 x9 xA xB xC xD xE xF xG m (xH+1) xI xJ xK xL xM k0))))) else (k0 xI xJ xK xL xM)) else none)
theorem nl401v3:∀ (m:Nat) (x0:Int) (x1:ByteArray) (x2:Int) (x3:Nat) (x4:FF) (x5:Int) (k0:ByteArray→Int→Nat→FF→Int→Option ρ),ob (L401v3 u n0 f0 w0 w1 i0 i1 i2 w2 n1 f1 i3 n2 f2 n3 f3 n4 f4 m x0 x1 x2 x3 x4 x5 k0) ng=L401v3 u n0 f0 w0 w1 i0 i1 i2 w2 n1 f1 i3 n2 f2 n3 f3 n4 f4 m x0 x1 x2 x3 x4 x5 (fun x6 x7 x8 x9 xA=>ob (k0 x6 x7 x8 x9 xA) ng)
 | 0,_,_,_,_,_,_,_=>rfl
 | m+1,x0,x1,x2,x3,x4,x5,k0=>by
  simp only [L401v3,ob_bif,ob_ob,ob_none,nl401v3 m]
theorem q401v3:∀ (m:Nat) (x0:Int) (x1:ByteArray) (x2:Int) (x3:Nat) (x4:FF) (x5:Int),
  loopH (eI itP [(4,0,0),(5,1,0),(6,2,0),(8,3,0),(10,4,0),(11,5,0),(12,6,0),(13,7,0),(14,8,0),(17,10,0)] 65 66 95 67 7 ((.region 21 [o1 18 (sg 67)] 0 none)) A12v4 (C55 u) u) N401v3 m (s401v2 n0 n1 n2 x3 n3 n4 f0 f1 f2 x4 f3 f4 x0 i0 i1 i2 i3 x2 x5 w0 w1 w2 x1) k=L401v3 u n0 f0 w0 w1 i0 i1 i2 w2 n1 f1 i3 n2 f2 n3 f3 n4 f4 m x0 x1 x2 x3 x4 x5 (fun x6 x7 x8 x9 xA=>k (.exit 999999) (s401v3 n1 n2 x8 n3 n0 n4 f1 f2 x9 f3 f0 f4 i0 i1 i2 i3 x7 xA w0 w1 w2 x6))
 | 0,_,_,_,_,_,_=>rfl
 | m+1,x0,x1,x2,x3,x4,x5=>by
  simp only [L401v3,← q401v3 m]
  kernel_rfl
def N401v6:St→Option St:=nN 10 (rl 0 4 (7 :: 9 :: (rl 15 47 (rl 64 31 []))))
def s401v4:St:=⟨(us 4 (.x (.ptr 0 0) :: .x (.ptr 1 0) :: .x (.ptr 2 0) :: .u :: .x (.ptr 3 0) :: .u :: .x (.ptr 4 0) :: .x (.ptr 5 0) :: .x (.ptr 6 0) :: .x (.ptr 7 0) :: .x (.ptr 8 0) :: (us 47 (.x (.c (ro kD n0 f0)) :: vxi i0 :: (us 31 []))))),[.box [(vcs w0),(vcs w1),(vci i1),(vci i2),(vci i3),(vcs w2)],.box [(.c (ro kA n1 f1))],.box [(vci i4)],.box [(vcs ByteArray.empty),(vci 0),(vcn)],.box [(.c (ro kA n2 f2))],.box [(vcs w3),(vci i5),(.c (ro kB n3 f3))],.box [(vci i6)],.box [(.c (ro kD n4 f4))],.box [(.c (ro kD n0 f0))],.dead]⟩
def s401v5:St:=⟨(us 4 (.x (.ptr 0 0) :: .x (.ptr 1 0) :: .x (.ptr 2 0) :: .u :: .x (.ptr 3 0) :: .u :: .x (.ptr 4 0) :: .x (.ptr 5 0) :: .x (.ptr 6 0) :: .x (.ptr 7 0) :: .x (.ptr 8 0) :: (us 80 []))),[.box [(vcs w0),(vcs w1),(vci i0),(vci i1),(vci i2),(vcs w2)],.box [(.c (ro kA n0 f0))],.box [(vci i3)],.box [(vcs ByteArray.empty),(vci 0),(vcn)],.box [(.c (ro kA n1 f1))],.box [(vcs w3),(vci i4),(.c (ro kB n2 f2))],.box [(vci i5)],.box [(.c (ro kD n3 f3))],.box [(.c (ro kD n4 f4))],.dead]⟩
def L401v6 {ρ:Type} (u:Nat) (x0:Nat) (x1:FF) (x2 x3:ByteArray) (x4 x5 x6:Int) (x7:ByteArray) (x8:Nat) (x9:FF) (xA:Int) (xB:Nat) (xC:FF) (xD:Nat) (xE:FF):Nat→Int→ByteArray→Int→Nat→FF→Int→(ByteArray→Int→Nat→FF→Int→Option ρ)→Option ρ
 | 0,_,_,_,_,_,_,_=>none
 | m+1,xF,xG,xH,xI,xJ,xK,k0 =>
  (bif ((Nat.ble x0 4)&&true) then (bif (decide (xF<Int.ofNat (List.length (permsL (liL x0 x1))))) then (L401v3 u x0 x1 x2 x3 x4 x5 x6 x7 x8 x9 xA xB xC xD xE (List.length (List.getD (permsL (liL x0 x1)) xF.toNat [])) (fL (List.getD (permsL (liL x0 x1)) xF.toNat [])) u 0 xG xH xI xJ xK
  (fun xL xM xN xO xP=>(L401v6 u x0 x1 x2 x3 x4 x5 x6 x7 x8 x9 xA xB xC xD xE m (xF+1) xL xM xN xO xP k0))) else (k0 xG xH xI xJ xK)) else none)
theorem nl401v6:∀ (m:Nat) (x0:Int) (x1:ByteArray) (x2:Int) (x3:Nat) (x4:FF) (x5:Int) (k0:ByteArray→Int→Nat→FF→Int→Option ρ),ob (L401v6 u n0 f0 w0 w1 i0 i1 i2 w2 n1 f1 i3 n2 f2 n3 f3 m x0 x1 x2 x3 x4 x5 k0) ng=L401v6 u n0 f0 w0 w1 i0 i1 i2 w2 n1 f1 i3 n2 f2 n3 f3 m x0 x1 x2 x3 x4 x5 (fun x6 x7 x8 x9 xA=>ob (k0 x6 x7 x8 x9 xA) ng)
 | 0,_,_,_,_,_,_,_=>rfl
 | m+1,x0,x1,x2,x3,x4,x5,k0=>by
  simp only [L401v6,ob_bif,ob_ob,ob_none,nl401v6 m,nl401v3]
def s401v6:St:=⟨(us 4 (.x (.ptr 0 0) :: .x (.ptr 1 0) :: .x (.ptr 2 0) :: .u :: .x (.ptr 3 0) :: .u :: .x (.ptr 4 0) :: .x (.ptr 5 0) :: .x (.ptr 6 0) :: .x (.ptr 7 0) :: .x (.ptr 8 0) :: .u :: .u :: .x (.ptr 10 0) :: (us 46 (.x (.c (ro kD (List.length (List.getD (permsL (liL n0 f0)) i0.toNat [])) (fL (List.getD (permsL (liL n0 f0)) i0.toNat [])))) :: .x (.c (ro kD n0 f0)) :: vxi 0 :: (us 28 []))))),[.box [(vcs w0),(vcs w1),(vci i1),(vci i2),(vci i3),(vcs w2)],.box [(.c (ro kA n1 f1))],.box [(vci i4)],.box [(vcs ByteArray.empty),(vci 0),(vcn)],.box [(.c (ro kA n2 f2))],.box [(vcs w3),(vci i5),(.c (ro kB n3 f3))],.box [(vci i6)],.box [(.c (ro kD n4 f4))],.box [(.c (ro kD n0 f0))],.dead,.box [(.c (ro kD (List.length (List.getD (permsL (liL n0 f0)) i0.toNat [])) (fL (List.getD (permsL (liL n0 f0)) i0.toNat []))))]]⟩
theorem r401v6 :
  loopH (eI itP [(4,0,0),(5,1,0),(6,2,0),(8,3,0),(10,4,0),(11,5,0),(12,6,0),(13,7,0),(14,8,0)] 62 63 95 64 5 ((.region 19 [o1 17 (.alloc 0 75 [vcn]),o0 (.store 75 1 (tm 17) (tm 64))] 1 none)) A12v5 (C55 u) u) N401v6 (m+1) (s401v4 n0 n1 n2 n4 n3 f0 f1 f2 f4 f3 i4 i0 i1 i2 i3 i5 i6 w0 w1 w2 w3) k =
  (bif ((Nat.ble n0 4)&&true) then (bif (decide (i4<Int.ofNat (List.length (permsL (liL n0 f0))))) then (loopN (eI itP [(4,0,0),(5,1,0),(6,2,0),(8,3,0),(10,4,0),(11,5,0),(12,6,0),(13,7,0),(14,8,0),(17,10,0)] 65 66 95 67 7 ((.region 21 [o1 18 (sg 67)] 0 none)) A12v4 (C55 u) u) N401v3 u (s401v6 n0 n1 n2 n4 n3 f0 f1 f2 f4 f3 i4 i0 i1 i2 i3 i5 i6 w0 w1 w2 w3) (kFin (kIt 5 (kItr 63 62 (i4+1) (ro kD n0 f0) (kLoop (eI itP [(4,0,0),(5,1,0),(6,2,0),(8,3,0),(10,4,0),(11,5,0),(12,6,0),(13,7,0),(14,8,0)] 62 63 95 64 5 ((.region 19 [o1 17 (.alloc 0 75 [vcn]),o0 (.store 75 1 (tm 17) (tm 64))] 1 none)) A12v5 (C55 u) u) N401v6 m k))))) else (k (.exit 999999) (s401v5 n1 n2 n4 n3 n0 f1 f2 f4 f3 f0 i0 i1 i2 i3 i5 i6 w0 w1 w2 w3))) else none):=by kernel_rfl
theorem t401v1 :
  loopN (eI itP [(4,0,0),(5,1,0),(6,2,0),(8,3,0),(10,4,0),(11,5,0),(12,6,0),(13,7,0),(14,8,0),(17,10,0)] 65 66 95 67 7 ((.region 21 [o1 18 (sg 67)] 0 none)) A12v4 (C55 u) u) N401v3 u (s401v6 n0 n1 n2 n3 n4 f0 f1 f2 f3 f4 i0 i1 i2 i3 i4 i5 i6 w0 w1 w2 w3) k =
  L401v3 u n0 f0 w0 w1 i1 i2 i3 w2 n1 f1 i4 n2 f2 n4 f4 (List.length (List.getD (permsL (liL n0 f0)) i0.toNat [])) (fL (List.getD (permsL (liL n0 f0)) i0.toNat [])) u 0 w3 i5 n3 f3 i6 (fun x0 x1 x2 x3 x4=>k (.exit 999999) (s401v3 n1 n2 x2 n4 n0 (List.length (List.getD (permsL (liL n0 f0)) i0.toNat [])) f1 f2 x3 f4 f0 (fL (List.getD (permsL (liL n0 f0)) i0.toNat [])) i1 i2 i3 i4 x1 x4 w0 w1 w2 x0)) :=
 Eq.trans (loopN_at (by kernel_rfl)) (q401v3 ..)
theorem g401v2 :
  (kFin (kIt 5 (kItr 63 62 (i0+1) (ro kD n0 f0) (kLoop (eI itP [(4,0,0),(5,1,0),(6,2,0),(8,3,0),(10,4,0),(11,5,0),(12,6,0),(13,7,0),(14,8,0)] 62 63 95 64 5 ((.region 19 [o1 17 (.alloc 0 75 [vcn]),o0 (.store 75 1 (tm 17) (tm 64))] 1 none)) A12v5 (C55 u) u) N401v6 m k)))) (.exit 999999) (s401v3 n1 n2 n3 n4 n0 (List.length (List.getD (permsL (liL n0 f0)) i0.toNat [])) f1 f2 f3 f4 f0 (fL (List.getD (permsL (liL n0 f0)) i0.toNat [])) i1 i2 i3 i4 i5 i6 w0 w1 w2 w3) =
  (loopH (eI itP [(4,0,0),(5,1,0),(6,2,0),(8,3,0),(10,4,0),(11,5,0),(12,6,0),(13,7,0),(14,8,0)] 62 63 95 64 5 ((.region 19 [o1 17 (.alloc 0 75 [vcn]),o0 (.store 75 1 (tm 17) (tm 64))] 1 none)) A12v5 (C55 u) u) N401v6 m (s401v4 n0 n1 n2 n3 n4 f0 f1 f2 f3 f4 (i0+1) i1 i2 i3 i4 i5 i6 w0 w1 w2 w3) k):=by kernel_rfl
theorem q401v6:∀ (m:Nat) (x0:Int) (x1:ByteArray) (x2:Int) (x3:Nat) (x4:FF) (x5:Int),
  loopH (eI itP [(4,0,0),(5,1,0),(6,2,0),(8,3,0),(10,4,0),(11,5,0),(12,6,0),(13,7,0),(14,8,0)] 62 63 95 64 5 ((.region 19 [o1 17 (.alloc 0 75 [vcn]),o0 (.store 75 1 (tm 17) (tm 64))] 1 none)) A12v5 (C55 u) u) N401v6 m (s401v4 n0 n1 n2 x3 n3 f0 f1 f2 x4 f3 x0 i0 i1 i2 i3 x2 x5 w0 w1 w2 x1) k=L401v6 u n0 f0 w0 w1 i0 i1 i2 w2 n1 f1 i3 n2 f2 n3 f3 m x0 x1 x2 x3 x4 x5 (fun x6 x7 x8 x9 xA=>k (.exit 999999) (s401v5 n1 n2 x8 n3 n0 f1 f2 x9 f3 f0 i0 i1 i2 i3 x7 xA w0 w1 w2 x6))
 | 0,_,_,_,_,_,_=>rfl
 | m+1,x0,x1,x2,x3,x4,x5=>by
  rw [r401v6]
  simp only [L401v6,q401v6 m,t401v1,g401v2]
def N401v7:St→Option St:=nN 7 (rl 0 4 (7 :: 9 :: (rl 13 32 (rl 47 48 []))))
def s401v7:St:=⟨(us 4 (.x (.ptr 0 0) :: .x (.ptr 1 0) :: .x (.ptr 2 0) :: .u :: .x (.ptr 3 0) :: .u :: .x (.ptr 4 0) :: .x (.ptr 5 0) :: .x (.ptr 6 0) :: (us 32 (vxi i0 :: vxi i1 :: (us 48 []))))),[.box [(vcs w0),(vcs w1),(vci i2),(vci i3),(vci i4),(vcs w2)],.box [(.c (ro kA n0 f0))],.box [(vci i5)],.box [(vcs ByteArray.empty),(vci 0),(vcn)],.box [(.c (ro kA n1 f1))],.box [(vcs w3),(vci i6),(.c (ro kB n2 f2))],.box [(vci i7)]]⟩
def s401v8:St:=⟨(us 4 (.x (.ptr 0 0) :: .x (.ptr 1 0) :: .x (.ptr 2 0) :: .u :: .x (.ptr 3 0) :: .u :: .x (.ptr 4 0) :: .x (.ptr 5 0) :: .x (.ptr 6 0) :: (us 82 []))),[.box [(vcs w0),(vcs w1),(vci i0),(vci i1),(vci i2),(vcs w2)],.box [(.c (ro kA n0 f0))],.box [(vci i3)],.box [(vcs ByteArray.empty),(vci 0),(vcn)],.box [(.c (ro kA n1 f1))],.box [(vcs w3),(vci i4),(.c (ro kB n2 f2))],.box [(vci i5)]]⟩
def L401v7 {ρ:Type} (u:Nat) (x0:Int) (x1 x2:ByteArray) (x3 x4 x5:Int) (x6:ByteArray) (x7:Nat) (x8:FF) (x9:Int) (xA:Nat) (xB:FF):Nat→Int→ByteArray→Int→Nat→FF→Int→(ByteArray→Int→Nat→FF→Int→Option ρ)→Option ρ
 | 0,_,_,_,_,_,_,_=>none
 | m+1,xC,xD,xE,xF,xG,xH,k0 =>
  (bif ((decide (0≤x0)&&decide (x0≤4))&&true) then (bif (decide (xC<Int.ofNat (turnN x0.toNat))) then (L401v5 u (List.length (turnL x0.toNat xC.toNat)) (fL (turnL x0.toNat xC.toNat)) (Int.ofNat (List.length (turnL x0.toNat xC.toNat))) x1 x2 x3 x4 x5 x6 x7 x8 x9 xA xB xD xE xF xG xH u 0 0 (fun _ _=>.any)
  (fun xI xJ=>(L401v6 u xI xJ x1 x2 x3 x4 x5 x6 x7 x8 x9 xA xB (List.length (turnL x0.toNat xC.toNat)) (fL (turnL x0.toNat xC.toNat)) u 0 xD xE xF xG xH
  (fun xK xL xM xN xO=>(L401v7 u x0 x1 x2 x3 x4 x5 x6 x7 x8 x9 xA xB m (xC+1) xK xL xM xN xO k0))))) else (k0 xD xE xF xG xH)) else none)
theorem nl401v7:∀ (m:Nat) (x0:Int) (x1:ByteArray) (x2:Int) (x3:Nat) (x4:FF) (x5:Int) (k0:ByteArray→Int→Nat→FF→Int→Option ρ),ob (L401v7 u i0 w0 w1 i1 i2 i3 w2 n0 f0 i4 n1 f1 m x0 x1 x2 x3 x4 x5 k0) ng=L401v7 u i0 w0 w1 i1 i2 i3 w2 n0 f0 i4 n1 f1 m x0 x1 x2 x3 x4 x5 (fun x6 x7 x8 x9 xA=>ob (k0 x6 x7 x8 x9 xA) ng)
 | 0,_,_,_,_,_,_,_=>rfl
 | m+1,x0,x1,x2,x3,x4,x5,k0=>by
  simp only [L401v7,ob_bif,ob_ob,ob_none,nl401v7 m,nl401v5,nl401v6]
def s401v9:St:=⟨(us 4 (.x (.ptr 0 0) :: .x (.ptr 1 0) :: .x (.ptr 2 0) :: .u :: .x (.ptr 3 0) :: .u :: .x (.ptr 4 0) :: .x (.ptr 5 0) :: .x (.ptr 6 0) :: .x (.ptr 7 0) :: .x (.ptr 8 0) :: (us 32 (.x (.c (ro kD (List.length (turnL i0.toNat i1.toNat)) (fL (turnL i0.toNat i1.toNat)))) :: .x (.c (ro kD (List.length (turnL i0.toNat i1.toNat)) (fL (turnL i0.toNat i1.toNat)))) :: vxi (Int.ofNat (List.length (turnL i0.toNat i1.toNat))) :: vxi 0 :: (us 44 []))))),[.box [(vcs w0),(vcs w1),(vci i2),(vci i3),(vci i4),(vcs w2)],.box [(.c (ro kA n0 f0))],.box [(vci i5)],.box [(vcs ByteArray.empty),(vci 0),(vcn)],.box [(.c (ro kA n1 f1))],.box [(vcs w3),(vci i6),(.c (ro kB n2 f2))],.box [(vci i7)],.box [(.c (ro kD (List.length (turnL i0.toNat i1.toNat)) (fL (turnL i0.toNat i1.toNat))))],.box [(.own 9 0 0)],.arr kD 0 nilF]⟩
theorem r401v7 :
  loopH (eI itT [(4,0,0),(5,1,0),(6,2,0),(8,3,0),(10,4,0),(11,5,0),(12,6,0)] 45 46 95 47 1 ((.region 10 [o1 13 (.alloc 0 75 [vcn]),o0 (.store 75 1 (tm 13) (tm 47))] 1 none)) A12v7 (C55 u) u) N401v7 (m+1) (s401v7 n0 n1 n2 f0 f1 f2 i0 i5 i1 i2 i3 i4 i6 i7 w0 w1 w2 w3) k =
  (bif ((decide (0≤i0)&&decide (i0≤4))&&true) then (bif (decide (i5<Int.ofNat (turnN i0.toNat))) then (loopN (eB A12v3 (C55 u) u) N401v5 u (s401v9 n0 n1 n2 f0 f1 f2 i0 i5 i1 i2 i3 i4 i6 i7 w0 w1 w2 w3) (kBlk 2 (kSeq (C55 u) u (15 :: 16 :: (rl 48 14 [])) A12v6 (kIt 1 (kItr 46 45 (i5+1) (vi i0) (kLoop (eI itT [(4,0,0),(5,1,0),(6,2,0),(8,3,0),(10,4,0),(11,5,0),(12,6,0)] 45 46 95 47 1 ((.region 10 [o1 13 (.alloc 0 75 [vcn]),o0 (.store 75 1 (tm 13) (tm 47))] 1 none)) A12v7 (C55 u) u) N401v7 m k)))))) else (k (.exit 999999) (s401v8 n0 n1 n2 f0 f1 f2 i1 i2 i3 i4 i6 i7 w0 w1 w2 w3))) else none):=by kernel_rfl
theorem t401v3 :
  loopN (eB A12v3 (C55 u) u) N401v5 u (s401v9 n0 n1 n2 f0 f1 f2 i0 i1 i2 i3 i4 i5 i6 i7 w0 w1 w2 w3) k =
  L401v5 u (List.length (turnL i0.toNat i1.toNat)) (fL (turnL i0.toNat i1.toNat)) (Int.ofNat (List.length (turnL i0.toNat i1.toNat))) w0 w1 i2 i3 i4 w2 n0 f0 i5 n1 f1 w3 i6 n2 f2 i7 u 0 0 nilF (fun x0 x1=>k (.exit 2) (s401v1 n0 n1 n2 (List.length (turnL i0.toNat i1.toNat)) x0 f0 f1 f2 (fL (turnL i0.toNat i1.toNat)) x1 i2 i3 i4 i5 i6 i7 w0 w1 w2 w3)) :=
 Eq.trans (loopN_at (by kernel_rfl)) (q401v5 ..)
def s401v10:St:=⟨(us 4 (.x (.ptr 0 0) :: .x (.ptr 1 0) :: .x (.ptr 2 0) :: .u :: .x (.ptr 3 0) :: .u :: .x (.ptr 4 0) :: .x (.ptr 5 0) :: .x (.ptr 6 0) :: .x (.ptr 7 0) :: .x (.ptr 8 0) :: (us 47 (.x (.c (ro kD n0 f0)) :: vxi 0 :: (us 31 []))))),[.box [(vcs w0),(vcs w1),(vci i0),(vci i1),(vci i2),(vcs w2)],.box [(.c (ro kA n1 f1))],.box [(vci i3)],.box [(vcs ByteArray.empty),(vci 0),(vcn)],.box [(.c (ro kA n2 f2))],.box [(vcs w3),(vci i4),(.c (ro kB n3 f3))],.box [(vci i5)],.box [(.c (ro kD (List.length (turnL i6.toNat i7.toNat)) (fL (turnL i6.toNat i7.toNat))))],.box [(.c (ro kD n0 f0))],.dead]⟩
theorem g401v4 :
  (kBlk 2 (kSeq (C55 u) u (15 :: 16 :: (rl 48 14 [])) A12v6 (kIt 1 (kItr 46 45 (i0+1) (vi i1) (kLoop (eI itT [(4,0,0),(5,1,0),(6,2,0),(8,3,0),(10,4,0),(11,5,0),(12,6,0)] 45 46 95 47 1 ((.region 10 [o1 13 (.alloc 0 75 [vcn]),o0 (.store 75 1 (tm 13) (tm 47))] 1 none)) A12v7 (C55 u) u) N401v7 m k))))) (.exit 2) (s401v1 n0 n1 n2 (List.length (turnL i1.toNat i0.toNat)) n3 f0 f1 f2 (fL (turnL i1.toNat i0.toNat)) f3 i2 i3 i4 i5 i6 i7 w0 w1 w2 w3) =
  (loopN (eI itP [(4,0,0),(5,1,0),(6,2,0),(8,3,0),(10,4,0),(11,5,0),(12,6,0),(13,7,0),(14,8,0)] 62 63 95 64 5 ((.region 19 [o1 17 (.alloc 0 75 [vcn]),o0 (.store 75 1 (tm 17) (tm 64))] 1 none)) A12v5 (C55 u) u) N401v6 u (s401v10 n3 n0 n1 n2 f3 f0 f1 f2 i2 i3 i4 i5 i6 i7 i1 i0 w0 w1 w2 w3) (kFin (kIt 1 (kItr 46 45 (i0+1) (vi i1) (kLoop (eI itT [(4,0,0),(5,1,0),(6,2,0),(8,3,0),(10,4,0),(11,5,0),(12,6,0)] 45 46 95 47 1 ((.region 10 [o1 13 (.alloc 0 75 [vcn]),o0 (.store 75 1 (tm 13) (tm 47))] 1 none)) A12v7 (C55 u) u) N401v7 m k))))):=by kernel_rfl
theorem t401v5 :
  loopN (eI itP [(4,0,0),(5,1,0),(6,2,0),(8,3,0),(10,4,0),(11,5,0),(12,6,0),(13,7,0),(14,8,0)] 62 63 95 64 5 ((.region 19 [o1 17 (.alloc 0 75 [vcn]),o0 (.store 75 1 (tm 17) (tm 64))] 1 none)) A12v5 (C55 u) u) N401v6 u (s401v10 n0 n1 n2 n3 f0 f1 f2 f3 i0 i1 i2 i3 i4 i5 i6 i7 w0 w1 w2 w3) k =
  L401v6 u n0 f0 w0 w1 i0 i1 i2 w2 n1 f1 i3 n2 f2 (List.length (turnL i6.toNat i7.toNat)) (fL (turnL i6.toNat i7.toNat)) u 0 w3 i4 n3 f3 i5 (fun x0 x1 x2 x3 x4=>k (.exit 999999) (s401v5 n1 n2 x2 (List.length (turnL i6.toNat i7.toNat)) n0 f1 f2 x3 (fL (turnL i6.toNat i7.toNat)) f0 i0 i1 i2 i3 x1 x4 w0 w1 w2 x0)) :=
 Eq.trans (loopN_at (by kernel_rfl)) (q401v6 ..)
theorem g401v6 :
  (kFin (kIt 1 (kItr 46 45 (i0+1) (vi i1) (kLoop (eI itT [(4,0,0),(5,1,0),(6,2,0),(8,3,0),(10,4,0),(11,5,0),(12,6,0)] 45 46 95 47 1 ((.region 10 [o1 13 (.alloc 0 75 [vcn]),o0 (.store 75 1 (tm 13) (tm 47))] 1 none)) A12v7 (C55 u) u) N401v7 m k)))) (.exit 999999) (s401v5 n0 n1 n2 (List.length (turnL i1.toNat i0.toNat)) n3 f0 f1 f2 (fL (turnL i1.toNat i0.toNat)) f3 i2 i3 i4 i5 i6 i7 w0 w1 w2 w3) =
  (loopH (eI itT [(4,0,0),(5,1,0),(6,2,0),(8,3,0),(10,4,0),(11,5,0),(12,6,0)] 45 46 95 47 1 ((.region 10 [o1 13 (.alloc 0 75 [vcn]),o0 (.store 75 1 (tm 13) (tm 47))] 1 none)) A12v7 (C55 u) u) N401v7 m (s401v7 n0 n1 n2 f0 f1 f2 i1 (i0+1) i2 i3 i4 i5 i6 i7 w0 w1 w2 w3) k):=by kernel_rfl
theorem q401v7:∀ (m:Nat) (x0:Int) (x1:ByteArray) (x2:Int) (x3:Nat) (x4:FF) (x5:Int),
  loopH (eI itT [(4,0,0),(5,1,0),(6,2,0),(8,3,0),(10,4,0),(11,5,0),(12,6,0)] 45 46 95 47 1 ((.region 10 [o1 13 (.alloc 0 75 [vcn]),o0 (.store 75 1 (tm 13) (tm 47))] 1 none)) A12v7 (C55 u) u) N401v7 m (s401v7 n0 n1 x3 f0 f1 x4 i0 x0 i1 i2 i3 i4 x2 x5 w0 w1 w2 x1) k=L401v7 u i0 w0 w1 i1 i2 i3 w2 n0 f0 i4 n1 f1 m x0 x1 x2 x3 x4 x5 (fun x6 x7 x8 x9 xA=>k (.exit 999999) (s401v8 n0 n1 x8 f0 f1 x9 i1 i2 i3 i4 x7 xA w0 w1 w2 x6))
 | 0,_,_,_,_,_,_=>rfl
 | m+1,x0,x1,x2,x3,x4,x5=>by
  rw [r401v7]
  simp only [L401v7,q401v7 m,t401v3,g401v4,t401v5,g401v6]
def F401 (x0 x1:ByteArray) (x2 x3 x4:Int) (x5:ByteArray) (x6:Nat) (x7:FF) (x8 x9:Int):Option (ByteArray × Int × Nat × FF × Int) :=
 (ob (F389 u x8 0 500) fun xA=>(bif (!xA) then (some (ByteArray.empty,0,0,(fun _ _=>.any),9)) else (ob (F391 u x0 x1 x2 x3 x4 x5 x6 x7) fun xB=>(bif (decide ((Int.ofNat xB.1)>4)) then (some (ByteArray.empty,0,0,(fun _ _=>.any),4)) else (bif ((Int.ofNat xB.1)==0) then (bif (decide (x9<1)) then (some (ByteArray.empty,0,0,(fun _ _=>.any),29)) else (L401v7 u (Int.ofNat xB.1) x0 x1 x2 x3 x4 x5 x6 x7 x8 xB.1 xB.2 u 0 x0 x8 0 (fun _ _=>.any) 0
  (fun xC xD xE xF xG=>(some (xC,xD,xE,xF,0))))) else (bif ((Int.ofNat xB.1)==1) then (bif (decide (x9<3)) then (some (ByteArray.empty,0,0,(fun _ _=>.any),29)) else (L401v7 u (Int.ofNat xB.1) x0 x1 x2 x3 x4 x5 x6 x7 x8 xB.1 xB.2 u 0 x0 x8 0 (fun _ _=>.any) 0
  (fun xH xI xJ xK xL=>(some (xH,xI,xJ,xK,0))))) else (bif ((Int.ofNat xB.1)==2) then (bif (decide (x9<21)) then (some (ByteArray.empty,0,0,(fun _ _=>.any),29)) else (L401v7 u (Int.ofNat xB.1) x0 x1 x2 x3 x4 x5 x6 x7 x8 xB.1 xB.2 u 0 x0 x8 0 (fun _ _=>.any) 0
  (fun xM xN xO xP xQ=>(some (xM,xN,xO,xP,0))))) else (bif ((Int.ofNat xB.1)==3) then (bif (decide (x9<343)) then (some (ByteArray.empty,0,0,(fun _ _=>.any),29)) else (L401v7 u (Int.ofNat xB.1) x0 x1 x2 x3 x4 x5 x6 x7 x8 xB.1 xB.2 u 0 x0 x8 0 (fun _ _=>.any) 0
  (fun xR xS xT xU xV=>(some (xR,xS,xT,xU,0))))) else (bif ((Int.ofNat xB.1)==4) then (bif (decide (x9<10473)) then (some (ByteArray.empty,0,0,(fun _ _=>.any),29)) else (L401v7 u (Int.ofNat xB.1) x0 x1 x2 x3 x4 x5 x6 x7 x8 xB.1 xB.2 u 0 x0 x8 0 (fun _ _=>.any) 0
  (fun xW xX xY xZ xa=>(some (xW,xX,xY,xZ,0))))) else none)))))))))
def s401v11 (x0:Nat × FF):St:=⟨(.agg [(vcs w0),(vcs w1),(vci i0),(vci i1),(vci i2),(vcs w2)] :: .x (.c (ro kA n0 f0)) :: vxi i3 :: vxi i4 :: .x (.ptr 0 0) :: .x (.ptr 1 0) :: .x (.ptr 2 0) :: uu :: .x (.ptr 3 0) :: .u :: .x (.ptr 4 0) :: .x (.ptr 5 0) :: .x (.ptr 6 0) :: uu :: uu :: uu :: uu :: uu :: uu :: uu :: uu :: uu :: (us 4 (.agg [(vcs w0),(vcs w1),(vci i0),(vci i1),(vci i2),(vcs w2)] :: .x (.c (ro kA n0 f0)) :: .x (.c (ro kA x0.1 x0.2)) :: (us 11 [.x (.ptr 0 0),vxs w0,vxi i3,.agg [(vcs w0),(vci i3),(.c (ro kB 0 nilF))],.x (.c (ro kA x0.1 x0.2)),vxi (Int.ofNat x0.1),vxi 0,uu,uu,uu,uu,uu,uu,uu,uu,uu,uu,uu,uu,uu,uu,uu,uu,uu,uu,uu,uu,uu,uu,uu,uu,uu,uu,uu,uu,uu,uu,uu,uu,uu,uu,uu,uu,uu,uu,uu,uu,uu,uu,uu,uu,uu,uu,uu,uu])))),[.box [(vcs w0),(vcs w1),(vci i0),(vci i1),(vci i2),(vcs w2)],.box [(.c (ro kA n0 f0))],.box [(vci i3)],.box [(vcs ByteArray.empty),(vci 0),(vcn)],.box [(.c (ro kA x0.1 x0.2))],.box [(vcs w0),(vci i3),(.c (ro kB 0 nilF))],.box [(vci 0)]]⟩
theorem t401v7 (x0:Nat × FF) :
  loopN (eI itT [(4,0,0),(5,1,0),(6,2,0),(8,3,0),(10,4,0),(11,5,0),(12,6,0)] 45 46 95 47 1 ((.region 10 [o1 13 (.alloc 0 75 [vcn]),o0 (.store 75 1 (tm 13) (tm 47))] 1 none)) A12v7 (C55 u) u) N401v7 u (s401v11 n0 f0 i0 i1 i2 i3 i4 w0 w1 w2 x0) k =
  L401v7 u (Int.ofNat x0.1) w0 w1 i0 i1 i2 w2 n0 f0 i3 x0.1 x0.2 u 0 w0 i3 0 nilF 0 (fun x1 x2 x3 x4 x5=>k (.exit 999999) (s401v8 n0 x0.1 x3 f0 x0.2 x4 i0 i1 i2 i3 x2 x5 w0 w1 w2 x1)) :=
 Eq.trans (loopN_at (by kernel_rfl)) (q401v7 ..)
theorem g401v8 (x0:Nat × FF) :
  (kFin (kSeq (C55 u) u (rl 13 9 (44 :: 45 :: 46 :: (rl 48 16 (65 :: 66 :: (rl 68 26 []))))) A12v8 (finish A12))) (.exit 999999) (s401v8 n0 x0.1 n1 f0 x0.2 f1 i0 i1 i2 i3 i4 i5 w0 w1 w2 w3) =
  (some [.agg [(.s w3),(vi i4),(ro kB n1 f1)],.v (vi 0)]):=by kernel_rfl
theorem t401v9 (x0:Nat × FF) :
  loopN (eI itT [(4,0,0),(5,1,0),(6,2,0),(8,3,0),(10,4,0),(11,5,0),(12,6,0)] 45 46 95 47 1 ((.region 10 [o1 13 (.alloc 0 75 [vcn]),o0 (.store 75 1 (tm 13) (tm 47))] 1 none)) A12v7 (C55 u) u) N401v7 u (s401v11 n0 f0 i0 i1 i2 i3 i4 w0 w1 w2 x0) k =
  L401v7 u (Int.ofNat x0.1) w0 w1 i0 i1 i2 w2 n0 f0 i3 x0.1 x0.2 u 0 w0 i3 0 nilF 0 (fun x1 x2 x3 x4 x5=>k (.exit 999999) (s401v8 n0 x0.1 x3 f0 x0.2 x4 i0 i1 i2 i3 x2 x5 w0 w1 w2 x1)) :=
 Eq.trans (loopN_at (by kernel_rfl)) (q401v7 ..)
theorem g401v10 (x0:Nat × FF) :
  (kFin (kSeq (C55 u) u (rl 13 9 (44 :: 45 :: 46 :: (rl 48 16 (65 :: 66 :: (rl 68 26 []))))) A12v8 (finish A12))) (.exit 999999) (s401v8 n0 x0.1 n1 f0 x0.2 f1 i0 i1 i2 i3 i4 i5 w0 w1 w2 w3) =
  (some [.agg [(.s w3),(vi i4),(ro kB n1 f1)],.v (vi 0)]):=by kernel_rfl
theorem t401v11 (x0:Nat × FF) :
  loopN (eI itT [(4,0,0),(5,1,0),(6,2,0),(8,3,0),(10,4,0),(11,5,0),(12,6,0)] 45 46 95 47 1 ((.region 10 [o1 13 (.alloc 0 75 [vcn]),o0 (.store 75 1 (tm 13) (tm 47))] 1 none)) A12v7 (C55 u) u) N401v7 u (s401v11 n0 f0 i0 i1 i2 i3 i4 w0 w1 w2 x0) k =
  L401v7 u (Int.ofNat x0.1) w0 w1 i0 i1 i2 w2 n0 f0 i3 x0.1 x0.2 u 0 w0 i3 0 nilF 0 (fun x1 x2 x3 x4 x5=>k (.exit 999999) (s401v8 n0 x0.1 x3 f0 x0.2 x4 i0 i1 i2 i3 x2 x5 w0 w1 w2 x1)) :=
 Eq.trans (loopN_at (by kernel_rfl)) (q401v7 ..)
theorem g401v12 (x0:Nat × FF) :
  (kFin (kSeq (C55 u) u (rl 13 9 (44 :: 45 :: 46 :: (rl 48 16 (65 :: 66 :: (rl 68 26 []))))) A12v8 (finish A12))) (.exit 999999) (s401v8 n0 x0.1 n1 f0 x0.2 f1 i0 i1 i2 i3 i4 i5 w0 w1 w2 w3) =
  (some [.agg [(.s w3),(vi i4),(ro kB n1 f1)],.v (vi 0)]):=by kernel_rfl
theorem t401v13 (x0:Nat × FF) :
  loopN (eI itT [(4,0,0),(5,1,0),(6,2,0),(8,3,0),(10,4,0),(11,5,0),(12,6,0)] 45 46 95 47 1 ((.region 10 [o1 13 (.alloc 0 75 [vcn]),o0 (.store 75 1 (tm 13) (tm 47))] 1 none)) A12v7 (C55 u) u) N401v7 u (s401v11 n0 f0 i0 i1 i2 i3 i4 w0 w1 w2 x0) k =
  L401v7 u (Int.ofNat x0.1) w0 w1 i0 i1 i2 w2 n0 f0 i3 x0.1 x0.2 u 0 w0 i3 0 nilF 0 (fun x1 x2 x3 x4 x5=>k (.exit 999999) (s401v8 n0 x0.1 x3 f0 x0.2 x4 i0 i1 i2 i3 x2 x5 w0 w1 w2 x1)) :=
 Eq.trans (loopN_at (by kernel_rfl)) (q401v7 ..)
theorem g401v14 (x0:Nat × FF) :
  (kFin (kSeq (C55 u) u (rl 13 9 (44 :: 45 :: 46 :: (rl 48 16 (65 :: 66 :: (rl 68 26 []))))) A12v8 (finish A12))) (.exit 999999) (s401v8 n0 x0.1 n1 f0 x0.2 f1 i0 i1 i2 i3 i4 i5 w0 w1 w2 w3) =
  (some [.agg [(.s w3),(vi i4),(ro kB n1 f1)],.v (vi 0)]):=by kernel_rfl
theorem t401v15 (x0:Nat × FF) :
  loopN (eI itT [(4,0,0),(5,1,0),(6,2,0),(8,3,0),(10,4,0),(11,5,0),(12,6,0)] 45 46 95 47 1 ((.region 10 [o1 13 (.alloc 0 75 [vcn]),o0 (.store 75 1 (tm 13) (tm 47))] 1 none)) A12v7 (C55 u) u) N401v7 u (s401v11 n0 f0 i0 i1 i2 i3 i4 w0 w1 w2 x0) k =
  L401v7 u (Int.ofNat x0.1) w0 w1 i0 i1 i2 w2 n0 f0 i3 x0.1 x0.2 u 0 w0 i3 0 nilF 0 (fun x1 x2 x3 x4 x5=>k (.exit 999999) (s401v8 n0 x0.1 x3 f0 x0.2 x4 i0 i1 i2 i3 x2 x5 w0 w1 w2 x1)) :=
 Eq.trans (loopN_at (by kernel_rfl)) (q401v7 ..)
theorem g401v16 (x0:Nat × FF) :
  (kFin (kSeq (C55 u) u (rl 13 9 (44 :: 45 :: 46 :: (rl 48 16 (65 :: 66 :: (rl 68 26 []))))) A12v8 (finish A12))) (.exit 999999) (s401v8 n0 x0.1 n1 f0 x0.2 f1 i0 i1 i2 i3 i4 i5 w0 w1 w2 w3) =
  (some [.agg [(.s w3),(vi i4),(ro kB n1 f1)],.v (vi 0)]):=by kernel_rfl
theorem e401:evalF (C55 u) u A12 [.agg [(.s w0),(.s w1),(vi i0),(vi i1),(vi i2),(.s w2)],.v (ro kA n0 f0),.v (vi i3),.v (vi i4)]=ob (F401 u w0 w1 i0 i1 i2 w2 n0 f0 i3 i4) fun t=>some [.agg [(.s t.1),(vi t.2.1),(ro kB t.2.2.1 t.2.2.2.1)],.v (vi t.2.2.2.2)]:=Eq.trans (b:=(ob (F389 u i3 0 500) fun x0=>(bif (!x0) then (some [.agg [(.s ByteArray.empty),(vi 0),(ro kB 0 nilF)],.v (vi 9)]) else (ob (F391 u w0 w1 i0 i1 i2 w2 n0 f0) fun x1=>(bif (decide ((Int.ofNat x1.1)>4)) then (some [.agg [(.s ByteArray.empty),(vi 0),(ro kB 0 nilF)],.v (vi 4)]) else (bif ((Int.ofNat x1.1)==0) then (bif (decide (i4<1)) then (some [.agg [(.s ByteArray.empty),(vi 0),(ro kB 0 nilF)],.v (vi 29)]) else (loopN (eI itT [(4,0,0),(5,1,0),(6,2,0),(8,3,0),(10,4,0),(11,5,0),(12,6,0)] 45 46 95 47 1 ((.region 10 [o1 13 (.alloc 0 75 [vcn]),o0 (.store 75 1 (tm 13) (tm 47))] 1 none)) A12v7 (C55 u) u) N401v7 u (s401v11 n0 f0 i0 i1 i2 i3 i4 w0 w1 w2 x1) (kFin (kSeq (C55 u) u (rl 13 9 (44 :: 45 :: 46 :: (rl 48 16 (65 :: 66 :: (rl 68 26 []))))) A12v8 (finish A12))))) else (bif ((Int.ofNat x1.1)==1) then (bif (decide (i4<3)) then (some [.agg [(.s ByteArray.empty),(vi 0),(ro kB 0 nilF)],.v (vi 29)]) else (loopN (eI itT [(4,0,0),(5,1,0),(6,2,0),(8,3,0),(10,4,0),(11,5,0),(12,6,0)] 45 46 95 47 1 ((.region 10 [o1 13 (.alloc 0 75 [vcn]),o0 (.store 75 1 (tm 13) (tm 47))] 1 none)) A12v7 (C55 u) u) N401v7 u (s401v11 n0 f0 i0 i1 i2 i3 i4 w0 w1 w2 x1) (kFin (kSeq (C55 u) u (rl 13 9 (44 :: 45 :: 46 :: (rl 48 16 (65 :: 66 :: (rl 68 26 []))))) A12v8 (finish A12))))) else (bif ((Int.ofNat x1.1)==2) then (bif (decide (i4<21)) then (some [.agg [(.s ByteArray.empty),(vi 0),(ro kB 0 nilF)],.v (vi 29)]) else (loopN (eI itT [(4,0,0),(5,1,0),(6,2,0),(8,3,0),(10,4,0),(11,5,0),(12,6,0)] 45 46 95 47 1 ((.region 10 [o1 13 (.alloc 0 75 [vcn]),o0 (.store 75 1 (tm 13) (tm 47))] 1 none)) A12v7 (C55 u) u) N401v7 u (s401v11 n0 f0 i0 i1 i2 i3 i4 w0 w1 w2 x1) (kFin (kSeq (C55 u) u (rl 13 9 (44 :: 45 :: 46 :: (rl 48 16 (65 :: 66 :: (rl 68 26 []))))) A12v8 (finish A12))))) else (bif ((Int.ofNat x1.1)==3) then (bif (decide (i4<343)) then (some [.agg [(.s ByteArray.empty),(vi 0),(ro kB 0 nilF)],.v (vi 29)]) else (loopN (eI itT [(4,0,0),(5,1,0),(6,2,0),(8,3,0),(10,4,0),(11,5,0),(12,6,0)] 45 46 95 47 1 ((.region 10 [o1 13 (.alloc 0 75 [vcn]),o0 (.store 75 1 (tm 13) (tm 47))] 1 none)) A12v7 (C55 u) u) N401v7 u (s401v11 n0 f0 i0 i1 i2 i3 i4 w0 w1 w2 x1) (kFin (kSeq (C55 u) u (rl 13 9 (44 :: 45 :: 46 :: (rl 48 16 (65 :: 66 :: (rl 68 26 []))))) A12v8 (finish A12))))) else (bif ((Int.ofNat x1.1)==4) then (bif (decide (i4<10473)) then (some [.agg [(.s ByteArray.empty),(vi 0),(ro kB 0 nilF)],.v (vi 29)]) else (loopN (eI itT [(4,0,0),(5,1,0),(6,2,0),(8,3,0),(10,4,0),(11,5,0),(12,6,0)] 45 46 95 47 1 ((.region 10 [o1 13 (.alloc 0 75 [vcn]),o0 (.store 75 1 (tm 13) (tm 47))] 1 none)) A12v7 (C55 u) u) N401v7 u (s401v11 n0 f0 i0 i1 i2 i3 i4 w0 w1 w2 x1) (kFin (kSeq (C55 u) u (rl 13 9 (44 :: 45 :: 46 :: (rl 48 16 (65 :: 66 :: (rl 68 26 []))))) A12v8 (finish A12))))) else none)))))))))) (by kernel_rfl) (by
 simp only [F401,ob_bif,ob_ob,ob_none,ob_some,nl401v7,t401v7,g401v8,t401v9,g401v10,t401v11,g401v12,t401v13,g401v14,t401v15,g401v16])
def O401:Ora:=mkO (qc (ag (tc cS (tc cS (tc ci (tc ci (tc ci (t1 cS))))))) (qc (av (cL kA)) (qc (av ci) (q1 (av ci))))) (fun x=>F401 u x.1.1 x.1.2.1 x.1.2.2.1 x.1.2.2.2.1 x.1.2.2.2.2.1 x.1.2.2.2.2.2 x.2.1.1 x.2.1.2 x.2.2.1 x.2.2.2) fun t=>[.agg [(.s t.1),(vi t.2.1),(ro kB t.2.2.1 t.2.2.2.1)],.v (vi t.2.2.2.2)]
theorem d401:DOI (O401 u) (C55 u) 12 A12:=dOI u (fun x=>by exact e401 u x.2.1.1 x.2.1.2 x.1.2.2.1 x.1.2.2.2.1 x.1.2.2.2.2.1 x.2.2.1 x.2.2.2 x.1.1 x.1.2.1 x.1.2.2.2.2.2)
def C56:Oracle:=(C55 u).add 12 (fun _=>true) (O401 u)
def A17v1:AC:=(.region 5 [mv 32 5,o1 33 (bk .add 3 32 1),o1 5 (sg 33)] 0 none)
def A17v2:AC:=(.seq (.block 1
 (.seq (.region 6 [o1 34 (fa 52 2 2 2),o1 35 (lo 50 34),mv 36 5,o1 37 (.indexAddr 50 63 5 (tm 35) (tm 36)),o1 38 (ln 63 5 37),o1 39 (fa 52 3 2 2),o1 40 (lo 50 39),mv 41 5,o1 42 (.indexAddr 50 63 5 (tm 40) (tm 41)),o1 43 (ln 63 5 42),o1 44 (.eqA true kB 63 (tm 38) (tm 43) 63)] 0 (some [[],[0],[],[0,1,2],(rl 0 4 []),[],[5],[],[5,6,7],(rl 5 4 []),(rl 0 10 [])])) []
  (.cond (tm 44)
  (.seq (.region 7 [o1 4 (sb false)] 0 none) []
   (.ghost [0,1] (.ret (rl 0 4 (rl 5 40 [])))))
  .skip))) (4 :: (rl 34 11 []))
 A17v1)
def A17v3:AC:=(.seq (.seq (.region 4 [mv 27 5,o1 28 (fa 52 2 2 2),o1 29 (lo 50 28),o1 30 (.len 50 false (tm 29)),o1 31 (bt .lss 3 27 30)] 0 none) []
 (.cond (tm 31)
 .skip
 (.ghost [0,1] (.exit 0 (rl 0 45 []))))) (rl 27 5 [])
 A17v2)
def A17v4:AC:=(.seq (.region 8 [o1 4 (sb true)] 0 none) []
 (.ghost [0,1] (.ret (rl 0 4 (rl 5 40 [])))))
def A17v5:AC:=(.seq (.seq (.region 3 [o1 5 (sk 0)] 0 none) []
 (.block 0
 (.loop [] (0 :: 1 :: 4 :: (rl 6 39 []))
  A17v3))) (4 :: 5 :: (rl 27 18 []))
 A17v4)
def A17:AF:=⟨45,[.tmp 4],
 (.seq (.region 0 [o1 2 (bx 0 52 0),o1 3 (bx 1 52 1),o1 4 (sb false)] 2 none) []
 (.seq (.seq (.region 1 [o1 6 (fa 52 2 0 0),o1 7 (lo 9 6),o1 8 (fa 52 3 0 0),o1 9 (lo 9 8),o1 10 (bt .neq 9 7 9),mv 11 10,og 12 (fa 52 2 1 1) 11 false,og 13 (lo 3 12) 11 false,og 14 (fa 52 3 1 1) 11 false,og 15 (lo 3 14) 11 false,og 16 (bt .neq 3 13 15) 11 false,o1 17 (pa 11 16),mv 18 17,og 19 (fa 52 2 2 2) 18 false,og 20 (lo 50 19) 18 false,og 21 (.len 50 false (tm 20)) 18 false,og 22 (fa 52 3 2 2) 18 false,og 23 (lo 50 22) 18 false,og 24 (.len 50 false (tm 23)) 18 false,og 25 (bt .neq 3 21 24) 18 false,o1 26 (pa 18 25)] 0 none) []
 (.cond (tm 26)
 (.seq (.region 2 [o1 4 (sb false)] 0 none) []
  (.ghost [0,1] (.ret (rl 0 4 (rl 5 40 [])))))
 .skip)) (4 :: (rl 6 21 []))
 A17v5))⟩
def N402v1:St→Option St:=nN 2 (0 :: 1 :: 4 :: (rl 6 39 []))
def s402v0:St:=⟨(.u :: .u :: .x (.ptr 0 0) :: .x (.ptr 1 0) :: .u :: vxi i0 :: (us 39 [])),[.box [(vcs w0),(vci i1),(.c (ro kB n0 f0))],.box [(vcs w1),(vci i2),(.c (ro kB n1 f1))]]⟩
def s402v1:St:=⟨(us 4 (vxb false :: (us 40 []))),[.dead,.dead]⟩
def s402v2:St:=⟨(us 45 []),[.dead,.dead]⟩
def L402v1 {ρ:Type} (u:Nat) (x0:ByteArray) (x1:Int) (x2:Nat) (x3:FF) (x4:ByteArray) (x5:Int) (x6:Nat) (x7:FF):Nat→Int→(Option ρ)→(Option ρ)→Option ρ
 | 0,_,_,_=>none
 | m+1,x8,k0,k1 =>
  (bif (decide (x8<(Int.ofNat x2))) then (bif (inb x8 x2) then (bif (inb x8 x6) then (bif (!((ByteArray.toList (x3 x8.toNat 0).str==ByteArray.toList (x7 x8.toNat 0).str)&&(((x3 x8.toNat 1).int==(x7 x8.toNat 1).int)&&(((x3 x8.toNat 2).int==(x7 x8.toNat 2).int)&&(((x3 x8.toNat 3).int==(x7 x8.toNat 3).int)&&(((x3 x8.toNat 4).bool==(x7 x8.toNat 4).bool)&&true)))))) then k0 else (L402v1 u x0 x1 x2 x3 x4 x5 x6 x7 m (w64 (x8+1)) k0 k1)) else none) else none) else k1)
theorem nl402v1:∀ (m:Nat) (x0:Int) (k0:Option ρ) (k1:Option ρ),ob (L402v1 u w0 i0 n0 f0 w1 i1 n1 f1 m x0 k0 k1) ng=L402v1 u w0 i0 n0 f0 w1 i1 n1 f1 m x0 (ob k0 ng) (ob k1 ng)
 | 0,_,_,_=>rfl
 | m+1,x0,k0,k1=>by
  simp only [L402v1,ob_bif,ob_ob,ob_none,nl402v1 m]
theorem q402v1:∀ (m:Nat) (x0:Int),
  loopH (eB A17v3 (C56 u) u) N402v1 m (s402v0 n0 n1 f0 f1 x0 i0 i1 w0 w1) k=L402v1 u w0 i0 n0 f0 w1 i1 n1 f1 m x0 (k .ret s402v1) (k (.exit 0) s402v2)
 | 0,_=>rfl
 | m+1,x0=>by
  simp only [L402v1,← q402v1 m]
  kernel_rfl
def F402 (x0:ByteArray) (x1:Int) (x2:Nat) (x3:FF) (x4:ByteArray) (x5:Int) (x6:Nat) (x7:FF):Option (Bool) :=
 (bif ((!(ByteArray.toList x0==ByteArray.toList x4))==false) then (bif ((x1 != x5)==false) then (bif ((Int.ofNat x2) != (Int.ofNat x6)) then (some false) else (L402v1 u x0 x1 x2 x3 x4 x5 x6 x7 u 0
  (some false)
  (some true))) else (some false)) else (some false))
def s402v3:St:=⟨(.agg [(vcs w0),(vci i0),(.c (ro kB n0 f0))] :: .agg [(vcs w1),(vci i1),(.c (ro kB n1 f1))] :: .x (.ptr 0 0) :: .x (.ptr 1 0) :: .u :: vxi 0 :: (us 21 [uu,uu,uu,uu,uu,uu,uu,uu,uu,uu,uu,uu,uu,uu,uu,uu,uu,uu])),[.box [(vcs w0),(vci i0),(.c (ro kB n0 f0))],.box [(vcs w1),(vci i1),(.c (ro kB n1 f1))]]⟩
theorem t402v1 :
  loopN (eB A17v3 (C56 u) u) N402v1 u (s402v3 n0 n1 f0 f1 i0 i1 w0 w1) k =
  L402v1 u w0 i0 n0 f0 w1 i1 n1 f1 u 0 (k .ret s402v1) (k (.exit 0) s402v2) :=
 Eq.trans (loopN_at (by kernel_rfl)) (q402v1 ..)
theorem g402v2 :
  (kBlk 0 (kSeq (C56 u) u (4 :: 5 :: (rl 27 18 [])) A17v4 (finish A17))) .ret s402v1 =
  (some [.v (.b false)]):=by kernel_rfl
theorem g402v3 :
  (kBlk 0 (kSeq (C56 u) u (4 :: 5 :: (rl 27 18 [])) A17v4 (finish A17))) (.exit 0) s402v2 =
  (some [.v (.b true)]):=by kernel_rfl
theorem e402:evalF (C56 u) u A17 [.agg [(.s w0),(vi i0),(ro kB n0 f0)],.agg [(.s w1),(vi i1),(ro kB n1 f1)]]=ob (F402 u w0 i0 n0 f0 w1 i1 n1 f1) fun t=>some [.v (.b t)]:=Eq.trans (b:=(bif ((!(ByteArray.toList w0==ByteArray.toList w1))==false) then (bif ((i0 != i1)==false) then (bif ((Int.ofNat n0) != (Int.ofNat n1)) then (some [.v (.b false)]) else (loopN (eB A17v3 (C56 u) u) N402v1 u (s402v3 n0 n1 f0 f1 i0 i1 w0 w1) (kBlk 0 (kSeq (C56 u) u (4 :: 5 :: (rl 27 18 [])) A17v4 (finish A17))))) else (some [.v (.b false)])) else (some [.v (.b false)]))) (by kernel_rfl) (by
 simp only [F402,ob_bif,ob_ob,ob_none,ob_some,nl402v1,t402v1,g402v2,g402v3])
def O402:Ora:=mkO (qc (ag (tc cS (tc ci (t1 (cL kB))))) (q1 (ag (tc cS (tc ci (t1 (cL kB))))))) (fun x=>F402 u x.1.1 x.1.2.1 x.1.2.2.1 x.1.2.2.2 x.2.1 x.2.2.1 x.2.2.2.1 x.2.2.2.2) fun t=>[.v (.b t)]
theorem d402:DO (O402 u) (C56 u) 17 A17:=dO u (fun x=>by exact e402 u x.1.2.2.1 x.2.2.2.1 x.1.2.2.2 x.2.2.2.2 x.1.2.1 x.2.2.1 x.1.1 x.2.1)
def C57:Oracle:=(C56 u).add 17 (fun _=>true) (O402 u)
def A6v1:AC:=(.seq (.region 9 [mv 64 5,o1 65 (bk .eql 53 64 0),mv 66 65,og 67 (ln 52 3 4) 66 true,og 68 (.move (tm 3)) 66 true,og 69 (cs 13 [67,68] [52,45]) 66 true,og 70 (bk .eql 3 69 1942) 66 true,o1 71 (po 66 70),mv 72 71,og 73 (.move (tm 7)) 72 true,og 74 (bk .eql 53 73 29) 72 true,o1 75 (po 72 74),mv 76 75,og 77 (.move (tm 8)) 76 true,og 78 (bk .eql 3 77 10) 76 true,o1 79 (po 76 78),mv 80 79,og 81 (.move (tm 9)) 80 true,og 82 (bk .eql 3 81 30) 80 true,o1 83 (po 80 82),mv 84 83,og 85 (.build 34 [vci 0,vci 0] [(0,1),(1,1)] 0 [(0,(ic 5)),(1,(ic 5))]) 84 true,og 86 (.call 9 [(ic 20),(ic 20),(.const (.slice none 0 0)),(tm 85),(ic 10),(ic 10),(ic 5)] [3,3,32,34,3,3,3] .snap) 84 true,o1 87 (po 84 86),mv 88 87,og 89 (.build 34 [vci 0,vci 0] [(0,1),(1,1)] 0 [(0,(ic 6)),(1,(ic 5))]) 88 true,og 90 (.call 9 [(ic 20),(ic 20),(.const (.slice none 0 0)),(tm 89),(ic 10),(ic 10),(ic 5)] [3,3,32,34,3,3,3] .snap) 88 true,og 91 (.unOp .not 4 (tm 90)) 88 true,o1 92 (po 88 91),o1 0 (sg 92)] 0 none) []
 (.ghost [1,3,5,6,7] (.ret (rl 1 92 []))))
def A6:AF:=⟨93,[.tmp 0],
 (.seq (.region 0 [o1 0 (sb false)] 0 none) []
 (.seq (.region 1 [o1 10 (.call 15 [(ic 100),(ic 50)] [3,3] .snap),o1 11 (.call 16 [(.const (.string (ByteArray.mk #[97]))),(ic 30),(ic 10)] [9,3,3] .freeze),o1 12 (.call 16 [(.const (.string (ByteArray.mk #[98]))),(ic 30),(ic 10)] [9,3,3] .freeze),o1 13 (.buildSlice 0 45 31 kA 2 [vcs ByteArray.empty,vci 0,vci 0,vcs ByteArray.empty,vcs ByteArray.empty,vci 0,.c (.ro true kP 0 nilF),.c (.ro true kF 0 nilF),vcs ByteArray.empty,vci 0,vci 0,vci 0,vci 0,vci 0,vci 0,vci 0,vci 0,vci 0] [(0,(tm 11)),(1,(tm 12))]),o1 14 (.call 14 [(tm 10),(tm 13),(ic 5)] [44,45,3] .freeze),o1 1 (.alloc 1 52 [vcs ByteArray.empty,vci 0,vcn]),o0 (.store 52 3 (tm 1) (tm 14))] 2 none) []
 (.seq (.region 2 [o1 15 (.call 15 [(ic 20),(ic 40)] [3,3] .snap),o1 16 (.call 16 [(.const (.string (ByteArray.mk #[97]))),(ic 30),(ic 10)] [9,3,3] .freeze),o1 17 (.buildSlice 0 45 31 kA 1 [vcs ByteArray.empty,vci 0,vci 0,vcs ByteArray.empty,vcs ByteArray.empty,vci 0,.c (.ro true kP 0 nilF),.c (.ro true kF 0 nilF),vcs ByteArray.empty,vci 0,vci 0,vci 0,vci 0,vci 0,vci 0,vci 0,vci 0,vci 0] [(0,(tm 16))]),o1 18 (.call 14 [(tm 15),(tm 17),(ic 5)] [44,45,3] .freeze),o1 2 (.alloc 1 52 [vcs ByteArray.empty,vci 0,vcn]),o0 (.store 52 3 (tm 2) (tm 18))] 2 none) []
 (.seq (.region 3 [o1 19 (.call 16 [(.const (.string (ByteArray.mk #[97]))),(ic 20),(ic 10)] [9,3,3] .freeze),o1 20 (.call 16 [(.const (.string (ByteArray.mk #[98]))),(ic 40),(ic 20)] [9,3,3] .freeze),o1 21 (.call 16 [(.const (.string (ByteArray.mk #[99]))),(ic 19),(ic 9)] [9,3,3] .freeze),o1 22 (.buildSlice 0 45 31 kA 3 [vcs ByteArray.empty,vci 0,vci 0,vcs ByteArray.empty,vcs ByteArray.empty,vci 0,.c (.ro true kP 0 nilF),.c (.ro true kF 0 nilF),vcs ByteArray.empty,vci 0,vci 0,vci 0,vci 0,vci 0,vci 0,vci 0,vci 0,vci 0] [(0,(tm 19)),(1,(tm 20)),(2,(tm 21))]),o1 3 (sg 22)] 1 none) []
 (.seq (.region 4 [o1 24 (.call 15 [(ic 42),(ic 32)] [3,3] .snap),mv 25 3,o1 26 (.call 12 [(tm 24),(tm 25),(ic 1),(ic 343)] [44,45,3,3] .freeze),mv 23 26,o1 27 (.extract (tm 23) 0),o1 28 (.extract (tm 23) 1),o1 4 (.alloc 0 52 [vcs ByteArray.empty,vci 0,vcn]),o0 (.store 52 3 (tm 4) (tm 27)),o1 5 (sg 28)] 1 none) []
 (.seq (.region 5 [o1 30 (.call 15 [(ic 42),(ic 32)] [3,3] .snap),mv 31 3,o1 32 (.call 12 [(tm 30),(tm 31),(ic 1),(ic 342)] [44,45,3,3] .freeze),mv 29 32,o1 33 (.extract (tm 29) 0),o1 34 (.extract (tm 29) 1),o1 6 (.alloc 0 52 [vcs ByteArray.empty,vci 0,vcn]),o0 (.store 52 3 (tm 6) (tm 33)),o1 7 (sg 34)] 1 none) []
 (.seq (.region 6 [o1 36 (.call 16 [(.const (.string (ByteArray.mk #[97]))),(ic 30),(ic 10)] [9,3,3] .freeze),o1 37 (.call 7 [(tm 36),(ic 1)] [31,3] .snap),mv 35 37,o1 38 (.extract (tm 35) 0),o1 39 (.extract (tm 35) 1),o1 8 (sg 38),o1 9 (sg 39)] 0 none) []
 (.seq (.seq (.region 7 [o1 40 (ln 52 3 1),o1 41 (.build 34 [vci 0,vci 0] [(0,1),(1,1)] 0 [(0,(ic 5)),(1,(ic 5))]),o1 42 (.build 63 [vcs ByteArray.empty,vci 0,vci 0,vci 0,vcb false] [(0,1),(1,2),(3,1),(4,1)] 0 [(0,(.const (.string (ByteArray.mk #[97])))),(1,(tm 41))]),o1 43 (.build 34 [vci 0,vci 0] [(0,1),(1,1)] 0 [(0,(ic 40)),(1,(ic 5))]),o1 44 (.build 63 [vcs ByteArray.empty,vci 0,vci 0,vci 0,vcb false] [(0,1),(1,2),(3,1),(4,1)] 0 [(0,(.const (.string (ByteArray.mk #[98])))),(1,(tm 43))]),o1 45 (.buildSlice 0 50 63 kB 2 [vcs ByteArray.empty,vci 0,vci 0,vci 0,vcb false] [(0,(tm 42)),(1,(tm 44))]),o1 46 (.build 52 [vcs ByteArray.empty,vci 0,.c (.ro true kB 0 nilF)] [(0,1),(1,1),(2,1)] 0 [(0,(.const (.string (ByteArray.mk #[83,49])))),(1,(ic 5)),(2,(tm 45))]),o1 47 (cs 17 [40,46] [52,52]),o1 48 (.unOp .not 4 (tm 47)),mv 49 48,og 50 (fa 52 2 2 2) 49 false,og 51 (lo 50 50) 49 false,og 52 (.len 50 false (tm 51)) 49 false,og 53 (bk .neq 3 52 1) 49 false,o1 54 (pa 49 53),mv 55 54,og 56 (fa 52 2 2 2) 55 false,og 57 (lo 50 56) 55 false,og 58 (.indexAddr 50 63 5 (tm 57) (ic 0)) 55 false,og 59 (ln 63 5 58) 55 false,og 60 (.build 34 [vci 0,vci 0] [(0,1),(1,1)] 0 [(0,(ic 15)),(1,(ic 5))]) 55 false,og 61 (.build 63 [vcs ByteArray.empty,vci 0,vci 0,vci 0,vcb false] [(0,1),(1,2),(3,1),(4,1)] 0 [(0,(.const (.string (ByteArray.mk #[97])))),(1,(tm 60)),(2,(ic 1))]) 55 false,og 62 (.eqA true kB 63 (tm 59) (tm 61) 63) 55 false,o1 63 (pa 55 62)] 1 none) []
 (.cond (tm 63)
 (.seq (.region 8 [o1 0 (sb false)] 0 none) []
  (.ghost [1,3,5,6,7] (.ret (rl 1 92 []))))
 .skip)) (0 :: (rl 40 24 []))
 A6v1))))))))⟩
def F403:Option (Bool) :=
 (ob (F387 u 100 50) fun x0=>(ob (F388 u (ByteArray.mk #[97]) 30 10) fun x1=>(ob (F388 u (ByteArray.mk #[98]) 30 10) fun x2=>(ob (F398 u x0.1 x0.2.1 x0.2.2.1 x0.2.2.2.1 x0.2.2.2.2.1 x0.2.2.2.2.2 2 (rowsF 18 [(.s x1.1),(.i .i64 x1.2.1),(.i .i64 x1.2.2.1),(.s x1.2.2.2.1),(.s x1.2.2.2.2.1),(.i .i64 x1.2.2.2.2.2.1),(.ro false (.pr (.int .i64) (.pr (.int .i64) .nil)) x1.2.2.2.2.2.2.1 x1.2.2.2.2.2.2.2.1),(.ro false (.pr (.sl (.pr (.int .i64) (.pr (.int .i64) .nil))) .nil) (p8 x1).1 (p8 x1).2.1),(.s (p8 x1).2.2.1),(.i .i64 (p8 x1).2.2.2.1),(.i .i64 (p8 x1).2.2.2.2.1),(.i .i64 (p8 x1).2.2.2.2.2.1),(.i .i64 (p8 x1).2.2.2.2.2.2.1),(.i .i64 (p8 x1).2.2.2.2.2.2.2.1),(.i .i64 (pG x1).1),(.i .i64 (pG x1).2.1),(.i .i64 (pG x1).2.2.1),(.i .i64 (pG x1).2.2.2),(.s x2.1),(.i .i64 x2.2.1),(.i .i64 x2.2.2.1),(.s x2.2.2.2.1),(.s x2.2.2.2.2.1),(.i .i64 x2.2.2.2.2.2.1),(.ro false (.pr (.int .i64) (.pr (.int .i64) .nil)) x2.2.2.2.2.2.2.1 x2.2.2.2.2.2.2.2.1),(.ro false (.pr (.sl (.pr (.int .i64) (.pr (.int .i64) .nil))) .nil) (p8 x2).1 (p8 x2).2.1),(.s (p8 x2).2.2.1),(.i .i64 (p8 x2).2.2.2.1),(.i .i64 (p8 x2).2.2.2.2.1),(.i .i64 (p8 x2).2.2.2.2.2.1),(.i .i64 (p8 x2).2.2.2.2.2.2.1),(.i .i64 (p8 x2).2.2.2.2.2.2.2.1),(.i .i64 (pG x2).1),(.i .i64 (pG x2).2.1),(.i .i64 (pG x2).2.2.1),(.i .i64 (pG x2).2.2.2)]) 5) fun x3=>(ob (F387 u 20 40) fun x4=>(ob (F388 u (ByteArray.mk #[97]) 30 10) fun x5=>(ob (F398 u x4.1 x4.2.1 x4.2.2.1 x4.2.2.2.1 x4.2.2.2.2.1 x4.2.2.2.2.2 1 (rowsF 18 [(.s x5.1),(.i .i64 x5.2.1),(.i .i64 x5.2.2.1),(.s x5.2.2.2.1),(.s x5.2.2.2.2.1),(.i .i64 x5.2.2.2.2.2.1),(.ro false (.pr (.int .i64) (.pr (.int .i64) .nil)) x5.2.2.2.2.2.2.1 x5.2.2.2.2.2.2.2.1),(.ro false (.pr (.sl (.pr (.int .i64) (.pr (.int .i64) .nil))) .nil) (p8 x5).1 (p8 x5).2.1),(.s (p8 x5).2.2.1),(.i .i64 (p8 x5).2.2.2.1),(.i .i64 (p8 x5).2.2.2.2.1),(.i .i64 (p8 x5).2.2.2.2.2.1),(.i .i64 (p8 x5).2.2.2.2.2.2.1),(.i .i64 (p8 x5).2.2.2.2.2.2.2.1),(.i .i64 (pG x5).1),(.i .i64 (pG x5).2.1),(.i .i64 (pG x5).2.2.1),(.i .i64 (pG x5).2.2.2)]) 5) fun x6=>(ob (F388 u (ByteArray.mk #[97]) 20 10) fun x7=>(ob (F388 u (ByteArray.mk #[98]) 40 20) fun x8=>(ob (F388 u (ByteArray.mk #[99]) 19 9) fun x9=>(ob (F387 u 42 32) fun xA=>(ob (F401 u xA.1 xA.2.1 xA.2.2.1 xA.2.2.2.1 xA.2.2.2.2.1 xA.2.2.2.2.2 3 (rowsF 18 [(.s x7.1),(.i .i64 x7.2.1),(.i .i64 x7.2.2.1),(.s x7.2.2.2.1),(.s x7.2.2.2.2.1),(.i .i64 x7.2.2.2.2.2.1),(.ro false (.pr (.int .i64) (.pr (.int .i64) .nil)) x7.2.2.2.2.2.2.1 x7.2.2.2.2.2.2.2.1),(.ro false (.pr (.sl (.pr (.int .i64) (.pr (.int .i64) .nil))) .nil) (p8 x7).1 (p8 x7).2.1),(.s (p8 x7).2.2.1),(.i .i64 (p8 x7).2.2.2.1),(.i .i64 (p8 x7).2.2.2.2.1),(.i .i64 (p8 x7).2.2.2.2.2.1),(.i .i64 (p8 x7).2.2.2.2.2.2.1),(.i .i64 (p8 x7).2.2.2.2.2.2.2.1),(.i .i64 (pG x7).1),(.i .i64 (pG x7).2.1),(.i .i64 (pG x7).2.2.1),(.i .i64 (pG x7).2.2.2),(.s x8.1),(.i .i64 x8.2.1),(.i .i64 x8.2.2.1),(.s x8.2.2.2.1),(.s x8.2.2.2.2.1),(.i .i64 x8.2.2.2.2.2.1),(.ro false (.pr (.int .i64) (.pr (.int .i64) .nil)) x8.2.2.2.2.2.2.1 x8.2.2.2.2.2.2.2.1),(.ro false (.pr (.sl (.pr (.int .i64) (.pr (.int .i64) .nil))) .nil) (p8 x8).1 (p8 x8).2.1),(.s (p8 x8).2.2.1),(.i .i64 (p8 x8).2.2.2.1),(.i .i64 (p8 x8).2.2.2.2.1),(.i .i64 (p8 x8).2.2.2.2.2.1),(.i .i64 (p8 x8).2.2.2.2.2.2.1),(.i .i64 (p8 x8).2.2.2.2.2.2.2.1),(.i .i64 (pG x8).1),(.i .i64 (pG x8).2.1),(.i .i64 (pG x8).2.2.1),(.i .i64 (pG x8).2.2.2),(.s x9.1),(.i .i64 x9.2.1),(.i .i64 x9.2.2.1),(.s x9.2.2.2.1),(.s x9.2.2.2.2.1),(.i .i64 x9.2.2.2.2.2.1),(.ro false (.pr (.int .i64) (.pr (.int .i64) .nil)) x9.2.2.2.2.2.2.1 x9.2.2.2.2.2.2.2.1),(.ro false (.pr (.sl (.pr (.int .i64) (.pr (.int .i64) .nil))) .nil) (p8 x9).1 (p8 x9).2.1),(.s (p8 x9).2.2.1),(.i .i64 (p8 x9).2.2.2.1),(.i .i64 (p8 x9).2.2.2.2.1),(.i .i64 (p8 x9).2.2.2.2.2.1),(.i .i64 (p8 x9).2.2.2.2.2.2.1),(.i .i64 (p8 x9).2.2.2.2.2.2.2.1),(.i .i64 (pG x9).1),(.i .i64 (pG x9).2.1),(.i .i64 (pG x9).2.2.1),(.i .i64 (pG x9).2.2.2)]) 1 343) fun xB=>(ob (F387 u 42 32) fun xC=>(ob (F401 u xC.1 xC.2.1 xC.2.2.1 xC.2.2.2.1 xC.2.2.2.2.1 xC.2.2.2.2.2 3 (rowsF 18 [(.s x7.1),(.i .i64 x7.2.1),(.i .i64 x7.2.2.1),(.s x7.2.2.2.1),(.s x7.2.2.2.2.1),(.i .i64 x7.2.2.2.2.2.1),(.ro false (.pr (.int .i64) (.pr (.int .i64) .nil)) x7.2.2.2.2.2.2.1 x7.2.2.2.2.2.2.2.1),(.ro false (.pr (.sl (.pr (.int .i64) (.pr (.int .i64) .nil))) .nil) (p8 x7).1 (p8 x7).2.1),(.s (p8 x7).2.2.1),(.i .i64 (p8 x7).2.2.2.1),(.i .i64 (p8 x7).2.2.2.2.1),(.i .i64 (p8 x7).2.2.2.2.2.1),(.i .i64 (p8 x7).2.2.2.2.2.2.1),(.i .i64 (p8 x7).2.2.2.2.2.2.2.1),(.i .i64 (pG x7).1),(.i .i64 (pG x7).2.1),(.i .i64 (pG x7).2.2.1),(.i .i64 (pG x7).2.2.2),(.s x8.1),(.i .i64 x8.2.1),(.i .i64 x8.2.2.1),(.s x8.2.2.2.1),(.s x8.2.2.2.2.1),(.i .i64 x8.2.2.2.2.2.1),(.ro false (.pr (.int .i64) (.pr (.int .i64) .nil)) x8.2.2.2.2.2.2.1 x8.2.2.2.2.2.2.2.1),(.ro false (.pr (.sl (.pr (.int .i64) (.pr (.int .i64) .nil))) .nil) (p8 x8).1 (p8 x8).2.1),(.s (p8 x8).2.2.1),(.i .i64 (p8 x8).2.2.2.1),(.i .i64 (p8 x8).2.2.2.2.1),(.i .i64 (p8 x8).2.2.2.2.2.1),(.i .i64 (p8 x8).2.2.2.2.2.2.1),(.i .i64 (p8 x8).2.2.2.2.2.2.2.1),(.i .i64 (pG x8).1),(.i .i64 (pG x8).2.1),(.i .i64 (pG x8).2.2.1),(.i .i64 (pG x8).2.2.2),(.s x9.1),(.i .i64 x9.2.1),(.i .i64 x9.2.2.1),(.s x9.2.2.2.1),(.s x9.2.2.2.2.1),(.i .i64 x9.2.2.2.2.2.1),(.ro false (.pr (.int .i64) (.pr (.int .i64) .nil)) x9.2.2.2.2.2.2.1 x9.2.2.2.2.2.2.2.1),(.ro false (.pr (.sl (.pr (.int .i64) (.pr (.int .i64) .nil))) .nil) (p8 x9).1 (p8 x9).2.1),(.s (p8 x9).2.2.1),(.i .i64 (p8 x9).2.2.2.1),(.i .i64 (p8 x9).2.2.2.2.1),(.i .i64 (p8 x9).2.2.2.2.2.1),(.i .i64 (p8 x9).2.2.2.2.2.2.1),(.i .i64 (p8 x9).2.2.2.2.2.2.2.1),(.i .i64 (pG x9).1),(.i .i64 (pG x9).2.1),(.i .i64 (pG x9).2.2.1),(.i .i64 (pG x9).2.2.2)]) 1 342) fun xD=>(ob (F388 u (ByteArray.mk #[97]) 30 10) fun xE=>(ob (F393 u (listF [(.s xE.1),(.i .i64 xE.2.1),(.i .i64 xE.2.2.1),(.s xE.2.2.2.1),(.s xE.2.2.2.2.1),(.i .i64 xE.2.2.2.2.2.1),(.ro false (.pr (.int .i64) (.pr (.int .i64) .nil)) xE.2.2.2.2.2.2.1 xE.2.2.2.2.2.2.2.1),(.ro false (.pr (.sl (.pr (.int .i64) (.pr (.int .i64) .nil))) .nil) (p8 xE).1 (p8 xE).2.1),(.s (p8 xE).2.2.1),(.i .i64 (p8 xE).2.2.2.1),(.i .i64 (p8 xE).2.2.2.2.1),(.i .i64 (p8 xE).2.2.2.2.2.1),(.i .i64 (p8 xE).2.2.2.2.2.2.1),(.i .i64 (p8 xE).2.2.2.2.2.2.2.1),(.i .i64 (pG xE).1),(.i .i64 (pG xE).2.1),(.i .i64 (pG xE).2.2.1),(.i .i64 (pG xE).2.2.2)]) 1) fun xF=>(ob (F402 u x3.1 x3.2.1 x3.2.2.1 x3.2.2.2 (ByteArray.mk #[83,49]) 5 2 (rowsF 5 [(.s (ByteArray.mk #[97])),(.i .i64 5),(.i .i64 5),(.i .i64 0),(.b false),(.s (ByteArray.mk #[98])),(.i .i64 40),(.i .i64 5),(.i .i64 0),(.b false)])) fun xG=>(bif ((!xG)==false) then (bif (((Int.ofNat x6.2.2.1) != 1)==false) then (bif (inb 0 x6.2.2.1) then (bif (!((ByteArray.toList (x6.2.2.2 0 0).str==ByteArray.toList (ByteArray.mk #[97]))&&(((x6.2.2.2 0 1).int==15)&&(((x6.2.2.2 0 2).int==5)&&(((x6.2.2.2 0 3).int==1)&&(((x6.2.2.2 0 4).bool==false)&&true)))))) then (some false) else (bif ((xB.2.2.2.2==0)==true) then (ob (F183 u xB.1 xB.2.1 xB.2.2.1 xB.2.2.2.1 3 (rowsF 18 [(.s x7.1),(.i .i64 x7.2.1),(.i .i64 x7.2.2.1),(.s x7.2.2.2.1),(.s x7.2.2.2.2.1),(.i .i64 x7.2.2.2.2.2.1),(.ro false (.pr (.int .i64) (.pr (.int .i64) .nil)) x7.2.2.2.2.2.2.1 x7.2.2.2.2.2.2.2.1),(.ro false (.pr (.sl (.pr (.int .i64) (.pr (.int .i64) .nil))) .nil) (p8 x7).1 (p8 x7).2.1),(.s (p8 x7).2.2.1),(.i .i64 (p8 x7).2.2.2.1),(.i .i64 (p8 x7).2.2.2.2.1),(.i .i64 (p8 x7).2.2.2.2.2.1),(.i .i64 (p8 x7).2.2.2.2.2.2.1),(.i .i64 (p8 x7).2.2.2.2.2.2.2.1),(.i .i64 (pG x7).1),(.i .i64 (pG x7).2.1),(.i .i64 (pG x7).2.2.1),(.i .i64 (pG x7).2.2.2),(.s x8.1),(.i .i64 x8.2.1),(.i .i64 x8.2.2.1),(.s x8.2.2.2.1),(.s x8.2.2.2.2.1),(.i .i64 x8.2.2.2.2.2.1),(.ro false (.pr (.int .i64) (.pr (.int .i64) .nil)) x8.2.2.2.2.2.2.1 x8.2.2.2.2.2.2.2.1),(.ro false (.pr (.sl (.pr (.int .i64) (.pr (.int .i64) .nil))) .nil) (p8 x8).1 (p8 x8).2.1),(.s (p8 x8).2.2.1),(.i .i64 (p8 x8).2.2.2.1),(.i .i64 (p8 x8).2.2.2.2.1),(.i .i64 (p8 x8).2.2.2.2.2.1),(.i .i64 (p8 x8).2.2.2.2.2.2.1),(.i .i64 (p8 x8).2.2.2.2.2.2.2.1),(.i .i64 (pG x8).1),(.i .i64 (pG x8).2.1),(.i .i64 (pG x8).2.2.1),(.i .i64 (pG x8).2.2.2),(.s x9.1),(.i .i64 x9.2.1),(.i .i64 x9.2.2.1),(.s x9.2.2.2.1),(.s x9.2.2.2.2.1),(.i .i64 x9.2.2.2.2.2.1),(.ro false (.pr (.int .i64) (.pr (.int .i64) .nil)) x9.2.2.2.2.2.2.1 x9.2.2.2.2.2.2.2.1),(.ro false (.pr (.sl (.pr (.int .i64) (.pr (.int .i64) .nil))) .nil) (p8 x9).1 (p8 x9).2.1),(.s (p8 x9).2.2.1),(.i .i64 (p8 x9).2.2.2.1),(.i .i64 (p8 x9).2.2.2.2.1),(.i .i64 (p8 x9).2.2.2.2.2.1),(.i .i64 (p8 x9).2.2.2.2.2.2.1),(.i .i64 (p8 x9).2.2.2.2.2.2.2.1),(.i .i64 (pG x9).1),(.i .i64 (pG x9).2.1),(.i .i64 (pG x9).2.2.1),(.i .i64 (pG x9).2.2.2)])) fun xH=>(bif ((xH==1942)==true) then (bif ((xD.2.2.2.2==29)==true) then (bif ((xF.1==10)==true) then (bif ((xF.2==30)==true) then (ob (F395 u 20 20 0 (fun _ _=>.any) 5 5 10 10 5) fun xI=>(bif (xI==true) then (ob (F395 u 20 20 0 (fun _ _=>.any) 6 5 10 10 5) fun xJ=>(some (!xJ))) else (some false))) else (some false)) else (some false)) else (some false)) else (some false))) else (some false))) else none) else (some false)) else (some false)))))))))))))))))))
theorem e403:evalF (C57 u) u A6 []=ob (F403 u) fun t=>some [.v (.b t)]:=by
 simp only [F403,ob_bif,ob_ob,ob_none,ob_some]
 kernel_rfl
def O403:Ora:=mkO q0 (fun x=>F403 u) fun t=>[.v (.b t)]
theorem d403:DO (O403 u) (C57 u) 6 A6:=dO u (fun x=>by exact e403 u)
def C58:Oracle:=(C57 u).add 6 (fun _=>true) (O403 u)
def A11v1:AC:=(.region 10 [mv 52 6,o1 53 (bk .add 3 52 1),o1 6 (sg 53)] 0 none)
def A11v2:AC:=(.seq (.block 3
 (.seq (.region 11 [mv 54 0,mv 55 5,o1 56 (.indexAddr 45 31 18 (tm 54) (tm 55)),o1 57 (fa 31 56 6 6),o1 58 (fa 25 57 1 1),o1 59 (lo 23 58),mv 60 6,o1 61 (.indexAddr 23 22 1 (tm 59) (tm 60)),o1 62 (lo 22 61),o1 63 (.len 22 false (tm 62)),o1 64 (bk .gtr 3 63 12)] 0 none) []
  (.cond (tm 64)
  (.seq (.region 12 [o1 4 (sb false)] 0 none) []
   (.ret (rl 0 4 (rl 5 60 []))))
  .skip))) (4 :: (rl 54 11 []))
 A11v1)
def A11v3:AC:=(.seq (.seq (.region 9 [mv 43 6,mv 44 0,mv 45 5,o1 46 (.indexAddr 45 31 18 (tm 44) (tm 45)),o1 47 (fa 31 46 6 6),o1 48 (fa 25 47 1 1),o1 49 (lo 23 48),o1 50 (.len 23 false (tm 49)),o1 51 (bt .lss 3 43 50)] 0 none) []
 (.cond (tm 51)
 .skip
 (.exit 2 (rl 1 4 (rl 6 59 []))))) (rl 43 9 [])
 A11v2)
def A11v4:AC:=(.seq (.region 8 [o1 6 (sk 0)] 0 none) []
 (.block 2
 (.loop [] (rl 1 4 (rl 7 58 []))
  A11v3)))
def A11v5:AC:=(.region 5 [mv 15 5,o1 16 (bk .add 3 15 1),o1 5 (sg 16)] 0 none)
def A11v6:AC:=(.seq (.block 1
 (.seq (.seq (.region 6 [mv 17 0,mv 18 5,o1 19 (.indexAddr 45 31 18 (tm 17) (tm 18)),o1 20 (ln 31 18 19),o1 21 (cs 5 [20] [31]),o1 22 (.unOp .not 4 (tm 21)),mv 23 22,og 24 (.move (tm 0)) 23 false,og 25 (.move (tm 5)) 23 false,og 26 (.indexAddr 45 31 18 (tm 24) (tm 25)) 23 false,og 27 (fa 31 26 6 6) 23 false,og 28 (fa 25 27 0 0) 23 false,og 29 (lo 22 28) 23 false,og 30 (.len 22 false (tm 29)) 23 false,og 31 (bk .gtr 3 30 12) 23 false,o1 32 (pa 23 31),mv 33 32,og 34 (.move (tm 0)) 33 false,og 35 (.move (tm 5)) 33 false,og 36 (.indexAddr 45 31 18 (tm 34) (tm 35)) 33 false,og 37 (fa 31 36 6 6) 33 false,og 38 (fa 25 37 1 1) 33 false,og 39 (lo 23 38) 33 false,og 40 (.len 23 false (tm 39)) 33 false,og 41 (bk .gtr 3 40 4) 33 false,o1 42 (pa 33 41)] 0 none) []
  (.cond (tm 42)
  (.seq (.region 7 [o1 4 (sb false)] 0 none) []
   (.ret (rl 0 4 (rl 5 60 []))))
  .skip)) (4 :: (rl 17 26 []))
  A11v4)) (4 :: 6 :: (rl 17 48 []))
 A11v5)
def A11v7:AC:=(.seq (.seq (.region 4 [mv 11 5,mv 12 0,o1 13 (.len 45 false (tm 12)),o1 14 (bt .lss 3 11 13)] 0 none) []
 (.cond (tm 14)
 .skip
 (.exit 0 (rl 0 65 [])))) (rl 11 4 [])
 A11v6)
def A11v8:AC:=(.seq (.region 13 [o1 4 (sb true)] 0 none) []
 (.ret (rl 0 4 (rl 5 60 []))))
def A11v9:AC:=(.seq (.seq (.region 3 [o1 5 (sk 0)] 0 none) []
 (.block 0
 (.loop [] (rl 1 4 (rl 6 59 []))
  A11v7))) (4 :: 5 :: 6 :: (rl 11 54 []))
 A11v8)
def A11:AF:=⟨65,[.tmp 4],
 (.seq (.region 0 [o1 4 (sb false)] 0 none) []
 (.seq (.seq (.region 1 [mv 7 0,o1 8 (.len 45 false (tm 7)),mv 9 1,o1 10 (bt .gtr 3 8 9)] 0 none) []
 (.cond (tm 10)
 (.seq (.region 2 [o1 4 (sb false)] 0 none) []
  (.ret (rl 0 4 (rl 5 60 []))))
 .skip)) (4 :: (rl 7 4 []))
 A11v9))⟩
def N390v2:St→Option St:=nN 0 (rl 1 4 (rl 7 58 []))
def s390v0:St:=⟨(.x (.c (ro kA n0 f0)) :: (us 4 (vxi i0 :: vxi i1 :: (us 58 [])))),[]⟩
def s390v1:St:=⟨(us 4 (vxb false :: (us 60 []))),[]⟩
def s390v2:St:=⟨(.x (.c (ro kA n0 f0)) :: (us 4 (vxi i0 :: (us 59 [])))),[]⟩
def L390v2 {ρ:Type} (u:Nat) (x0:Nat) (x1:FF) (x2:Int):Nat→Int→(Option ρ)→(Option ρ)→Option ρ
 | 0,_,_,_=>none
 | m+1,x3,k0,k1 =>
  (bif (inb x2 x0) then (bif (decide (x3<(Int.ofNat (x1 x2.toNat 7).len))) then (bif (inb x2 x0) then (bif (inb x3 (x1 x2.toNat 7).len) then (bif (decide ((Int.ofNat ((x1 x2.toNat 7).el x3.toNat 0).len)>12)) then k0 else (L390v2 u x0 x1 x2 m (w64 (x3+1)) k0 k1)) else none) else none) else k1) else none)
theorem nl390v2:∀ (m:Nat) (x0:Int) (k0:Option ρ) (k1:Option ρ),ob (L390v2 u n0 f0 i0 m x0 k0 k1) ng=L390v2 u n0 f0 i0 m x0 (ob k0 ng) (ob k1 ng)
 | 0,_,_,_=>rfl
 | m+1,x0,k0,k1=>by
  simp only [L390v2,ob_bif,ob_ob,ob_none,nl390v2 m]
theorem q390v2:∀ (m:Nat) (x0:Int),
  loopH (eB A11v3 (C58 u) u) N390v2 m (s390v0 n0 f0 i0 x0) k=L390v2 u n0 f0 i0 m x0 (k .ret s390v1) (k (.exit 2) (s390v2 n0 f0 i0))
 | 0,_=>rfl
 | m+1,x0=>by
  simp only [L390v2,← q390v2 m]
  kernel_rfl
def N390v3:St→Option St:=nN 0 (rl 1 4 (rl 6 59 []))
def s390v3:St:=⟨(.x (.c (ro kA n0 f0)) :: (us 4 (vxi i0 :: (us 59 [])))),[]⟩
def s390v4:St:=⟨(us 65 []),[]⟩
def L390v3 {ρ:Type} (u:Nat) (x0:Nat) (x1:FF):Nat→Int→(Option ρ)→(Option ρ)→Option ρ
 | 0,_,_,_=>none
 | m+1,x2,k0,k1 =>
  (bif (decide (x2<(Int.ofNat x0))) then (bif (inb x2 x0) then (ob (F386 u (listF (pj kR0 (x1 x2.toNat)))) fun x3=>(bif ((!x3)==false) then (bif (inb x2 x0) then (bif ((decide ((Int.ofNat (x1 x2.toNat 6).len)>12))==false) then (bif (inb x2 x0) then (bif (decide ((Int.ofNat (x1 x2.toNat 7).len)>4)) then k0 else (L390v2 u x0 x1 x2 u 0
  k0
  (L390v3 u x0 x1 m (w64 (x2+1)) k0 k1))) else none) else k0) else none) else k0)) else none) else k1)
theorem nl390v3:∀ (m:Nat) (x0:Int) (k0:Option ρ) (k1:Option ρ),ob (L390v3 u n0 f0 m x0 k0 k1) ng=L390v3 u n0 f0 m x0 (ob k0 ng) (ob k1 ng)
 | 0,_,_,_=>rfl
 | m+1,x0,k0,k1=>by
  simp only [L390v3,ob_bif,ob_ob,ob_none,nl390v3 m,nl390v2]
def s390v5:St:=⟨(.x (.c (ro kA n0 f0)) :: (us 4 (vxi i0 :: vxi 0 :: (us 58 [])))),[]⟩
theorem r390v3 :
  loopH (eB A11v7 (C58 u) u) N390v3 (m+1) (s390v3 n0 f0 i0) k =
  (bif (decide (i0<(Int.ofNat n0))) then (bif (inb i0 n0) then (ob (F386 u (listF (pj kR0 (f0 i0.toNat)))) fun x0=>(bif ((!x0)==false) then (bif (inb i0 n0) then (bif ((decide ((Int.ofNat (f0 i0.toNat 6).len)>12))==false) then (bif (inb i0 n0) then (bif (decide ((Int.ofNat (f0 i0.toNat 7).len)>4)) then (k .ret s390v1) else (loopN (eB A11v3 (C58 u) u) N390v2 u (s390v5 n0 f0 i0) (kBlk 2 (kBlk 1 (kSeq (C58 u) u (4 :: 6 :: (rl 17 48 [])) A11v5 (kLoop (eB A11v7 (C58 u) u) N390v3 m k)))))) else none) else (k .ret s390v1)) else none) else (k .ret s390v1))) else none) else (k (.exit 0) s390v4)):=by kernel_rfl
theorem t390v1 :
  loopN (eB A11v3 (C58 u) u) N390v2 u (s390v5 n0 f0 i0) k =
  L390v2 u n0 f0 i0 u 0 (k .ret s390v1) (k (.exit 2) (s390v2 n0 f0 i0)) :=
 Eq.trans (loopN_at (by kernel_rfl)) (q390v2 ..)
theorem g390v2 :
  (kBlk 2 (kBlk 1 (kSeq (C58 u) u (4 :: 6 :: (rl 17 48 [])) A11v5 (kLoop (eB A11v7 (C58 u) u) N390v3 m k)))) .ret s390v1 =
  (k .ret s390v1):=by kernel_rfl
theorem g390v3 :
  (kBlk 2 (kBlk 1 (kSeq (C58 u) u (4 :: 6 :: (rl 17 48 [])) A11v5 (kLoop (eB A11v7 (C58 u) u) N390v3 m k)))) (.exit 2) (s390v2 n0 f0 i0) =
  (loopH (eB A11v7 (C58 u) u) N390v3 m (s390v3 n0 f0 (w64 (i0+1))) k):=by kernel_rfl
theorem q390v3:∀ (m:Nat) (x0:Int),
  loopH (eB A11v7 (C58 u) u) N390v3 m (s390v3 n0 f0 x0) k=L390v3 u n0 f0 m x0 (k .ret s390v1) (k (.exit 0) s390v4)
 | 0,_=>rfl
 | m+1,x0=>by
  rw [r390v3]
  simp only [L390v3,q390v3 m,t390v1,g390v2,g390v3]
def F390 (x0:Nat) (x1:FF) (x2:Int):Option (Bool) :=
 (bif (decide ((Int.ofNat x0)>x2)) then (some false) else (L390v3 u x0 x1 u 0
  (some false)
  (some true)))
def s390v6:St:=⟨(.x (.c (ro kA n0 f0)) :: vxi i0 :: uu :: uu :: .u :: vxi 0 :: uu :: (us 4 [uu,uu,uu,uu,uu,uu,uu,uu,uu,uu,uu,uu,uu,uu,uu,uu,uu,uu,uu,uu,uu,uu,uu,uu,uu,uu,uu,uu,uu,uu,uu,uu,uu,uu,uu,uu,uu,uu,uu,uu,uu,uu,uu,uu,uu,uu,uu,uu,uu,uu,uu,uu,uu,uu])),[]⟩
theorem t390v4 :
  loopN (eB A11v7 (C58 u) u) N390v3 u (s390v6 n0 f0 i0) k =
  L390v3 u n0 f0 u 0 (k .ret s390v1) (k (.exit 0) s390v4) :=
 Eq.trans (loopN_at (by kernel_rfl)) (q390v3 ..)
theorem g390v5 :
  (kBlk 0 (kSeq (C58 u) u (4 :: 5 :: 6 :: (rl 11 54 [])) A11v8 (finish A11))) .ret s390v1 =
  (some [.v (.b false)]):=by kernel_rfl
theorem g390v6 :
  (kBlk 0 (kSeq (C58 u) u (4 :: 5 :: 6 :: (rl 11 54 [])) A11v8 (finish A11))) (.exit 0) s390v4 =
  (some [.v (.b true)]):=by kernel_rfl
theorem e390:evalF (C58 u) u A11 [.v (ro kA n0 f0),.v (vi i0)]=ob (F390 u n0 f0 i0) fun t=>some [.v (.b t)]:=Eq.trans (b:=(bif (decide ((Int.ofNat n0)>i0)) then (some [.v (.b false)]) else (loopN (eB A11v7 (C58 u) u) N390v3 u (s390v6 n0 f0 i0) (kBlk 0 (kSeq (C58 u) u (4 :: 5 :: 6 :: (rl 11 54 [])) A11v8 (finish A11)))))) (by kernel_rfl) (by
 simp only [F390,ob_bif,ob_ob,ob_none,ob_some,nl390v3,t390v4,g390v5,g390v6])
def O390:Ora:=mkO (qc (av (cL kA)) (q1 (av ci))) (fun x=>F390 u x.1.1 x.1.2 x.2) fun t=>[.v (.b t)]
theorem d390:DO (O390 u) (C58 u) 11 A11:=dO u (fun x=>by exact e390 u x.1.1 x.1.2 x.2)
def C59:Oracle:=(C58 u).add 11 (fun _=>true) (O390 u)
end Go.Eng.R13
