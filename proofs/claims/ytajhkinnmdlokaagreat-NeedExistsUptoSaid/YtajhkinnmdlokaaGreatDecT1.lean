/-
 The functions of the program,run on symbols;printed by decomp.py.
-/
import Derived.Test.YtajhkinnmdlokaaGreatDecT0
set_option linter.all false
set_option maxRecDepth 1000000
set_option maxHeartbeats 4000000
namespace Go.Eng.R13
open Go Go.RowKit Go.Eng
variable {ρ σ : Type} (u m : Nat) (k : Ex → St → Option ρ) (ng : ρ → Option σ) (n0 n1 n2 n3 n4 n5 n6 n7 n8 : Nat) (f0 f1 f2 f3 f4 f5 f6 f7 f8 : FF) (i0 i1 i2 i3 i4 i5 i6 i7 i8 i9 iA iB iC iD iE iF iG iH iI iJ iK iL iM iN : Int) (b0 : Bool) (w0 w1 w2 w3 w4 w5 w6 w7 w8 : ByteArray) (g0 g1 : Nat → CV)
def A16v1:AC:=(.region 3 [mv 16 3,o1 17 (bk .add 3 16 1),o1 3 (sg 17)] 0 none)
def A16v2:AC:=(.seq (.block 1
 (.seq (.region 4 [o1 18 (fa 28 1 1 1),o1 19 (lo 22 18),mv 20 3,o1 21 (.indexAddr 22 60 3 (tm 19) (tm 20)),o1 22 (ln 60 3 21),o1 4 (.alloc 0 60 [vcs ByteArray.empty,vci 0,vcs ByteArray.empty]),o0 (.store 60 3 (tm 4) (tm 22))] 1 none) []
  (.seq (.region 5 [o1 24 (ln 28 6 1),o1 25 (fa 60 4 2 2),o1 26 (lo 9 25),o1 27 (cs 39 [24,26] [28,9]),mv 23 27,o1 28 (.extract (tm 23) 0),o1 29 (.extract (tm 23) 1),o1 5 (.alloc 0 60 [vcs ByteArray.empty,vci 0,vcs ByteArray.empty]),o0 (.store 60 3 (tm 5) (tm 28)),o1 6 (sg 29)] 1 none) []
  (.block 2
  (.seq (.region 6 [o1 31 (fa 60 4 0 0),o1 32 (lo 9 31),o1 33 (cs 40 [32] [9]),o1 34 (.unOp .not 4 (tm 33)),o1 30 (sg 34)] 0 none) []
   (.cond (tm 30)
   (.seq (.region 7 [o1 2 (sk 6)] 0 none) []
    (.ret (0 :: 1 :: (rl 3 95 []))))
   (.seq (.region 8 [o1 36 (fa 60 4 1 1),o1 37 (lo 3 36),o1 38 (bk .neq 3 37 1),mv 39 38,og 40 (fa 60 4 1 1) 39 true,og 41 (lo 3 40) 39 true,og 42 (bk .neq 3 41 2) 39 true,o1 43 (po 39 42),o1 35 (sg 43)] 0 none) []
    (.cond (tm 35)
    (.seq (.region 9 [o1 2 (sk 10)] 0 none) []
     (.ret (0 :: 1 :: (rl 3 95 []))))
    (.seq (.region 10 [o1 45 (fa 60 4 1 1),o1 46 (lo 3 45),o1 47 (bk .eql 3 46 1),mv 48 47,og 49 (fa 60 4 2 2) 48 true,og 50 (lo 9 49) 48 true,og 51 (.binOp .neq 9 (tm 50) (.const (.string ByteArray.empty)) 9) 48 true,o1 52 (po 48 51),o1 44 (sg 52)] 0 none) []
     (.cond (tm 44)
     (.seq (.region 11 [o1 2 (sk 2)] 0 none) []
      (.ret (0 :: 1 :: (rl 3 95 []))))
     (.seq (.region 12 [o1 54 (fa 60 4 1 1),o1 55 (lo 3 54),o1 56 (bk .eql 3 55 2),mv 57 56,og 58 (.move (tm 6)) 57 true,og 59 (.unOp .not 4 (tm 58)) 57 true,o1 60 (po 57 59),o1 53 (sg 60)] 0 none) []
      (.cond (tm 53)
      (.seq (.region 13 [o1 2 (sk 8)] 0 none) []
       (.ret (0 :: 1 :: (rl 3 95 []))))
      .skip)))))))))))) (2 :: 4 :: 5 :: 6 :: (rl 18 43 []))
 A16v1)
def A16v3:AC:=(.seq (.seq (.region 2 [mv 11 3,o1 12 (fa 28 1 1 1),o1 13 (lo 22 12),o1 14 (.len 22 false (tm 13)),o1 15 (bt .lss 3 11 14)] 0 none) []
 (.cond (tm 15)
 .skip
 (.exit 0 (0 :: (rl 2 96 []))))) (rl 11 5 [])
 A16v2)
def A16v4:AC:=(.region 16 [mv 66 7,o1 67 (bk .add 3 66 1),o1 7 (sg 67)] 0 none)
def A16v5:AC:=(.seq (.block 4
 (.seq (.region 17 [o1 69 (ln 28 6 1),o1 70 (fa 28 1 1 1),o1 71 (lo 22 70),mv 72 7,o1 73 (.indexAddr 22 60 3 (tm 71) (tm 72)),o1 74 (fa 60 73 0 0),o1 75 (lo 9 74),o1 76 (cf 41 [69,75] [28,9]),mv 68 76,o1 77 (.extract (tm 68) 0),o1 78 (.extract (tm 68) 1),o1 8 (sg 77),o1 9 (sg 78)] 0 (some [[],[],[1],[],[1,2,3],(rl 1 4 []),(rl 1 5 []),(rl 0 7 []),(rl 0 8 []),(rl 0 9 []),(rl 0 9 []),(rl 0 10 []),(rl 0 12 [])])) []
  (.seq (.region 18 [mv 79 9,o1 80 (.unOp .not 4 (tm 79))] 0 none) []
  (.cond (tm 80)
  (.seq (.region 19 [o1 2 (sk 20)] 0 none) []
   (.ret (0 :: 1 :: (rl 3 95 []))))
  .skip)))) (2 :: 8 :: 9 :: (rl 68 13 []))
 A16v4)
def A16v6:AC:=(.seq (.seq (.region 15 [mv 61 7,o1 62 (fa 28 1 1 1),o1 63 (lo 22 62),o1 64 (.len 22 false (tm 63)),o1 65 (bt .lss 3 61 64)] 0 none) []
 (.cond (tm 65)
 .skip
 (.exit 3 (0 :: (rl 2 96 []))))) (rl 61 5 [])
 A16v5)
def A16v7:AC:=(.region 22 [mv 86 10,o1 87 (bk .add 3 86 1),o1 10 (sg 87)] 0 none)
def A16v8:AC:=(.seq (.block 6
 (.seq (.region 23 [o1 88 (ln 28 6 1),o1 89 (fa 28 1 1 1),o1 90 (lo 22 89),mv 91 10,o1 92 (.indexAddr 22 60 3 (tm 90) (tm 91)),o1 93 (fa 60 92 0 0),o1 94 (lo 9 93),o1 95 (cf 42 [88,94] [28,9]),o1 96 (.len 37 false (tm 95)),o1 97 (bk .gtr 3 96 8)] 0 (some [[],[],[1],[],[1,2,3],(rl 1 4 []),(rl 1 5 []),(rl 0 7 []),(rl 0 8 []),(rl 0 9 [])])) []
  (.cond (tm 97)
  (.seq (.region 24 [o1 2 (sk 13)] 0 none) []
   (.ret (0 :: 1 :: (rl 3 95 []))))
  .skip))) (2 :: (rl 88 10 []))
 A16v7)
def A16v9:AC:=(.seq (.seq (.region 21 [mv 81 10,o1 82 (fa 28 1 1 1),o1 83 (lo 22 82),o1 84 (.len 22 false (tm 83)),o1 85 (bt .lss 3 81 84)] 0 none) []
 (.cond (tm 85)
 .skip
 (.exit 5 (rl 0 98 [])))) (rl 81 5 [])
 A16v8)
def A16v10:AC:=(.seq (.region 25 [o1 2 (sk 0)] 0 none) []
 (.ret (0 :: 1 :: (rl 3 95 []))))
def A16v11:AC:=(.seq (.seq (.region 20 [o1 10 (sk 0)] 0 none) []
 (.block 5
 (.loop [] (0 :: (rl 2 8 (rl 11 87 [])))
  A16v9))) (2 :: 10 :: (rl 81 17 []))
 A16v10)
def A16v12:AC:=(.seq (.seq (.region 14 [o1 7 (sk 0)] 0 none) []
 (.block 3
 (.loop [] (0 :: (rl 2 5 (rl 8 90 [])))
  A16v6))) (2 :: 7 :: 8 :: 9 :: (rl 61 20 []))
 A16v11)
def A16:AF:=⟨98,[.tmp 2],
 (.seq (.region 0 [o1 1 (bx 0 28 0),o1 2 (sk 0)] 1 none) []
 (.seq (.seq (.region 1 [o1 3 (sk 0)] 0 none) []
 (.block 0
 (.loop [] (0 :: 2 :: (rl 4 94 []))
  A16v3))) (rl 2 5 (rl 11 50 []))
 A16v12))⟩
def N305v1:St→Option St:=nN 1 (0 :: 2 :: (rl 4 94 []))
def s305v0:St:=⟨(.u :: .x (.ptr 0 0) :: .u :: vxi i0 :: (us 94 [])),[.box [(vcs w0),(.c (ro kE n0 f0)),(.c (ro kA n1 f1)),(.c (ro kG n2 f2)),(.c (ro kC n3 f3)),(.c (ro kF n4 f4))]]⟩
def s305v1:St:=⟨(.u :: .u :: vxi i0 :: (us 95 [])),[.box [(vcs w0),(.c (ro kE n0 f0)),(.c (ro kA n1 f1)),(.c (ro kG n2 f2)),(.c (ro kC n3 f3)),(.c (ro kF n4 f4))],.box [(vcs w1),(vci i1),(vcs w2)],.box [(vcs w3),(vci i2),(vcs w4)]]⟩
def s305v2:St:=⟨(.u :: .x (.ptr 0 0) :: (us 96 [])),[.box [(vcs w0),(.c (ro kE n0 f0)),(.c (ro kA n1 f1)),(.c (ro kG n2 f2)),(.c (ro kC n3 f3)),(.c (ro kF n4 f4))]]⟩
def L305v1 {ρ:Type} (u:Nat) (x0:ByteArray) (x1:Nat) (x2:FF) (x3:Nat) (x4:FF) (x5:Nat) (x6:FF) (x7:Nat) (x8:FF) (x9:Nat) (xA:FF):Nat→Int→(Int→ByteArray→Int→ByteArray→ByteArray→Int→ByteArray→Option ρ)→(Option ρ)→Option ρ
 | 0,_,_,_=>none
 | m+1,xB,k0,k1 =>
  (bif (decide (xB<(Int.ofNat x1))) then (bif (inb xB x1) then (ob (F294 u x0 x1 x2 x3 x4 x5 x6 x7 x8 x9 xA (x2 xB.toNat 2).str) fun xC=>(ob (F301 u (x2 xB.toNat 0).str) fun xD=>(bif (!xD) then (k0 6 (x2 xB.toNat 0).str (x2 xB.toNat 1).int (x2 xB.toNat 2).str xC.1 xC.2.1 xC.2.2.1) else (bif (((x2 xB.toNat 1).int != 1)==true) then (bif ((x2 xB.toNat 1).int != 2) then (k0 10 (x2 xB.toNat 0).str (x2 xB.toNat 1).int (x2 xB.toNat 2).str xC.1 xC.2.1 xC.2.2.1) else (bif (((x2 xB.toNat 1).int==1)==true) then (bif (!(ByteArray.toList (x2 xB.toNat 2).str==ByteArray.toList ByteArray.empty)) then (k0 2 (x2 xB.toNat 0).str (x2 xB.toNat 1).int (x2 xB.toNat 2).str xC.1 xC.2.1 xC.2.2.1) else (bif (((x2 xB.toNat 1).int==2)==true) then (bif (!xC.2.2.2) then (k0 8 (x2 xB.toNat 0).str (x2 xB.toNat 1).int (x2 xB.toNat 2).str xC.1 xC.2.1 xC.2.2.1) else (L305v1 u x0 x1 x2 x3 x4 x5 x6 x7 x8 x9 xA m (w64 (xB+1)) k0 k1)) else (L305v1 u x0 x1 x2 x3 x4 x5 x6 x7 x8 x9 xA m (w64 (xB+1)) k0 k1))) else (bif (((x2 xB.toNat 1).int==2)==true) then (bif (!xC.2.2.2) then (k0 8 (x2 xB.toNat 0).str (x2 xB.toNat 1).int (x2 xB.toNat 2).str xC.1 xC.2.1 xC.2.2.1) else (L305v1 u x0 x1 x2 x3 x4 x5 x6 x7 x8 x9 xA m (w64 (xB+1)) k0 k1)) else (L305v1 u x0 x1 x2 x3 x4 x5 x6 x7 x8 x9 xA m (w64 (xB+1)) k0 k1)))) else (bif (((x2 xB.toNat 1).int==1)==true) then (bif (!(ByteArray.toList (x2 xB.toNat 2).str==ByteArray.toList ByteArray.empty)) then (k0 2 (x2 xB.toNat 0).str (x2 xB.toNat 1).int (x2 xB.toNat 2).str xC.1 xC.2.1 xC.2.2.1) else (bif (((x2 xB.toNat 1).int==2)==true) then (bif (!xC.2.2.2) then (k0 8 (x2 xB.toNat 0).str (x2 xB.toNat 1).int (x2 xB.toNat 2).str xC.1 xC.2.1 xC.2.2.1) else (L305v1 u x0 x1 x2 x3 x4 x5 x6 x7 x8 x9 xA m (w64 (xB+1)) k0 k1)) else (L305v1 u x0 x1 x2 x3 x4 x5 x6 x7 x8 x9 xA m (w64 (xB+1)) k0 k1))) else (bif (((x2 xB.toNat 1).int==2)==true) then (bif (!xC.2.2.2) then (k0 8 (x2 xB.toNat 0).str (x2 xB.toNat 1).int (x2 xB.toNat 2).str xC.1 xC.2.1 xC.2.2.1) else (L305v1 u x0 x1 x2 x3 x4 x5 x6 x7 x8 x9 xA m (w64 (xB+1)) k0 k1)) else (L305v1 u x0 x1 x2 x3 x4 x5 x6 x7 x8 x9 xA m (w64 (xB+1)) k0 k1))))))) else none) else k1)
theorem nl305v1:∀ (m:Nat) (x0:Int) (k0:Int→ByteArray→Int→ByteArray→ByteArray→Int→ByteArray→Option ρ) (k1:Option ρ),ob (L305v1 u w0 n0 f0 n1 f1 n2 f2 n3 f3 n4 f4 m x0 k0 k1) ng=L305v1 u w0 n0 f0 n1 f1 n2 f2 n3 f3 n4 f4 m x0 (fun x1 x2 x3 x4 x5 x6 x7=>ob (k0 x1 x2 x3 x4 x5 x6 x7) ng) (ob k1 ng)
 | 0,_,_,_=>rfl
 | m+1,x0,k0,k1=>by
  simp only [L305v1,ob_bif,ob_ob,ob_none,nl305v1 m]
theorem q305v1:∀ (m:Nat) (x0:Int),
  loopH (eB A16v3 (C19 u) u) N305v1 m (s305v0 n0 n1 n2 n3 n4 f0 f1 f2 f3 f4 x0 w0) k=L305v1 u w0 n0 f0 n1 f1 n2 f2 n3 f3 n4 f4 m x0 (fun x1 x2 x3 x4 x5 x6 x7=>k .ret (s305v1 n0 n1 n2 n3 n4 f0 f1 f2 f3 f4 x1 x3 x6 w0 x2 x4 x5 x7)) (k (.exit 0) (s305v2 n0 n1 n2 n3 n4 f0 f1 f2 f3 f4 w0))
 | 0,_=>rfl
 | m+1,x0=>by
  simp only [L305v1,← q305v1 m]
  kernel_rfl
def N305v2:St→Option St:=nN 1 (0 :: (rl 2 5 (rl 8 90 [])))
def s305v3:St:=⟨(.u :: .x (.ptr 0 0) :: (us 5 (vxi i0 :: (us 90 [])))),[.box [(vcs w0),(.c (ro kE n0 f0)),(.c (ro kA n1 f1)),(.c (ro kG n2 f2)),(.c (ro kC n3 f3)),(.c (ro kF n4 f4))]]⟩
def s305v4:St:=⟨(.u :: .u :: vxi 20 :: (us 95 [])),[.box [(vcs w0),(.c (ro kE n0 f0)),(.c (ro kA n1 f1)),(.c (ro kG n2 f2)),(.c (ro kC n3 f3)),(.c (ro kF n4 f4))]]⟩
def s305v5:St:=⟨(.u :: .x (.ptr 0 0) :: (us 96 [])),[.box [(vcs w0),(.c (ro kE n0 f0)),(.c (ro kA n1 f1)),(.c (ro kG n2 f2)),(.c (ro kC n3 f3)),(.c (ro kF n4 f4))]]⟩
def L305v2 {ρ:Type} (u:Nat) (x0:ByteArray) (x1:Nat) (x2:FF) (x3:Nat) (x4:FF) (x5:Nat) (x6:FF) (x7:Nat) (x8:FF) (x9:Nat) (xA:FF):Nat→Int→(Option ρ)→(Option ρ)→Option ρ
 | 0,_,_,_=>none
 | m+1,xB,k0,k1 =>
  (bif (decide (xB<(Int.ofNat x1))) then (bif (inb xB x1) then (ob (F302 u x0 x1 x2 x3 x4 x5 x6 x7 x8 x9 xA (x2 xB.toNat 0).str) fun xC=>(bif (!xC.2.2) then k0 else (L305v2 u x0 x1 x2 x3 x4 x5 x6 x7 x8 x9 xA m (w64 (xB+1)) k0 k1))) else none) else k1)
theorem nl305v2:∀ (m:Nat) (x0:Int) (k0:Option ρ) (k1:Option ρ),ob (L305v2 u w0 n0 f0 n1 f1 n2 f2 n3 f3 n4 f4 m x0 k0 k1) ng=L305v2 u w0 n0 f0 n1 f1 n2 f2 n3 f3 n4 f4 m x0 (ob k0 ng) (ob k1 ng)
 | 0,_,_,_=>rfl
 | m+1,x0,k0,k1=>by
  simp only [L305v2,ob_bif,ob_ob,ob_none,nl305v2 m]
theorem q305v2:∀ (m:Nat) (x0:Int),
  loopH (eB A16v6 (C19 u) u) N305v2 m (s305v3 n0 n1 n2 n3 n4 f0 f1 f2 f3 f4 x0 w0) k=L305v2 u w0 n0 f0 n1 f1 n2 f2 n3 f3 n4 f4 m x0 (k .ret (s305v4 n0 n1 n2 n3 n4 f0 f1 f2 f3 f4 w0)) (k (.exit 3) (s305v5 n0 n1 n2 n3 n4 f0 f1 f2 f3 f4 w0))
 | 0,_=>rfl
 | m+1,x0=>by
  simp only [L305v2,← q305v2 m]
  kernel_rfl
def N305v3:St→Option St:=nN 1 (0 :: (rl 2 8 (rl 11 87 [])))
def s305v6:St:=⟨(.u :: .x (.ptr 0 0) :: (us 8 (vxi i0 :: (us 87 [])))),[.box [(vcs w0),(.c (ro kE n0 f0)),(.c (ro kA n1 f1)),(.c (ro kG n2 f2)),(.c (ro kC n3 f3)),(.c (ro kF n4 f4))]]⟩
def s305v7:St:=⟨(.u :: .u :: vxi 13 :: (us 95 [])),[.box [(vcs w0),(.c (ro kE n0 f0)),(.c (ro kA n1 f1)),(.c (ro kG n2 f2)),(.c (ro kC n3 f3)),(.c (ro kF n4 f4))]]⟩
def s305v8:St:=⟨(us 98 []),[.box [(vcs w0),(.c (ro kE n0 f0)),(.c (ro kA n1 f1)),(.c (ro kG n2 f2)),(.c (ro kC n3 f3)),(.c (ro kF n4 f4))]]⟩
def L305v3 {ρ:Type} (u:Nat) (x0:ByteArray) (x1:Nat) (x2:FF) (x3:Nat) (x4:FF) (x5:Nat) (x6:FF) (x7:Nat) (x8:FF) (x9:Nat) (xA:FF):Nat→Int→(Option ρ)→(Option ρ)→Option ρ
 | 0,_,_,_=>none
 | m+1,xB,k0,k1 =>
  (bif (decide (xB<(Int.ofNat x1))) then (bif (inb xB x1) then (ob (F304 u x0 x1 x2 x3 x4 x5 x6 x7 x8 x9 xA (x2 xB.toNat 0).str) fun xC=>(bif (decide ((Int.ofNat xC.1)>8)) then k0 else (L305v3 u x0 x1 x2 x3 x4 x5 x6 x7 x8 x9 xA m (w64 (xB+1)) k0 k1))) else none) else k1)
theorem nl305v3:∀ (m:Nat) (x0:Int) (k0:Option ρ) (k1:Option ρ),ob (L305v3 u w0 n0 f0 n1 f1 n2 f2 n3 f3 n4 f4 m x0 k0 k1) ng=L305v3 u w0 n0 f0 n1 f1 n2 f2 n3 f3 n4 f4 m x0 (ob k0 ng) (ob k1 ng)
 | 0,_,_,_=>rfl
 | m+1,x0,k0,k1=>by
  simp only [L305v3,ob_bif,ob_ob,ob_none,nl305v3 m]
theorem q305v3:∀ (m:Nat) (x0:Int),
  loopH (eB A16v9 (C19 u) u) N305v3 m (s305v6 n0 n1 n2 n3 n4 f0 f1 f2 f3 f4 x0 w0) k=L305v3 u w0 n0 f0 n1 f1 n2 f2 n3 f3 n4 f4 m x0 (k .ret (s305v7 n0 n1 n2 n3 n4 f0 f1 f2 f3 f4 w0)) (k (.exit 5) (s305v8 n0 n1 n2 n3 n4 f0 f1 f2 f3 f4 w0))
 | 0,_=>rfl
 | m+1,x0=>by
  simp only [L305v3,← q305v3 m]
  kernel_rfl
def F305 (x0:ByteArray) (x1:Nat) (x2:FF) (x3:Nat) (x4:FF) (x5:Nat) (x6:FF) (x7:Nat) (x8:FF) (x9:Nat) (xA:FF):Option (Int) :=
 (L305v1 u x0 x1 x2 x3 x4 x5 x6 x7 x8 x9 xA u 0
  (fun xB xC xD xE xF xG xH=>(some xB))
  (L305v2 u x0 x1 x2 x3 x4 x5 x6 x7 x8 x9 xA u 0
  (some 20)
  (L305v3 u x0 x1 x2 x3 x4 x5 x6 x7 x8 x9 xA u 0
  (some 13)
  (some 0))))
def s305v9:St:=⟨[.agg [(vcs w0),(.c (ro kE n0 f0)),(.c (ro kA n1 f1)),(.c (ro kG n2 f2)),(.c (ro kC n3 f3)),(.c (ro kF n4 f4))],.x (.ptr 0 0),vxi 0,vxi 0,uu,uu,uu,uu,uu,uu,uu,uu,uu,uu,uu,uu,uu,uu,uu,uu,uu,uu,uu,uu,uu,uu,uu,uu,uu,uu,uu,uu,uu,uu,uu,uu,uu,uu,uu,uu,uu,uu,uu,uu,uu,uu,uu,uu,uu,uu,uu,uu,uu,uu,uu,uu,uu,uu,uu,uu,uu,uu,uu,uu,uu,uu,uu,uu,uu,uu,uu,uu,uu,uu,uu,uu,uu,uu,uu,uu,uu,uu,uu,uu,uu,uu,uu,uu,uu,uu,uu,uu,uu,uu,uu,uu,uu,uu],[.box [(vcs w0),(.c (ro kE n0 f0)),(.c (ro kA n1 f1)),(.c (ro kG n2 f2)),(.c (ro kC n3 f3)),(.c (ro kF n4 f4))]]⟩
theorem t305v1 :
  loopN (eB A16v3 (C19 u) u) N305v1 u (s305v9 n0 n1 n2 n3 n4 f0 f1 f2 f3 f4 w0) k =
  L305v1 u w0 n0 f0 n1 f1 n2 f2 n3 f3 n4 f4 u 0 (fun x0 x1 x2 x3 x4 x5 x6=>k .ret (s305v1 n0 n1 n2 n3 n4 f0 f1 f2 f3 f4 x0 x2 x5 w0 x1 x3 x4 x6)) (k (.exit 0) (s305v2 n0 n1 n2 n3 n4 f0 f1 f2 f3 f4 w0)) :=
 Eq.trans (loopN_at (by kernel_rfl)) (q305v1 ..)
theorem g305v2 :
  (kBlk 0 (kSeq (C19 u) u (rl 2 5 (rl 11 50 [])) A16v12 (finish A16))) .ret (s305v1 n0 n1 n2 n3 n4 f0 f1 f2 f3 f4 i0 i1 i2 w0 w1 w2 w3 w4) =
  (some [.v (vi i0)]):=by kernel_rfl
def s305v10:St:=⟨(.u :: .x (.ptr 0 0) :: (us 5 (vxi 0 :: (us 90 [])))),[.box [(vcs w0),(.c (ro kE n0 f0)),(.c (ro kA n1 f1)),(.c (ro kG n2 f2)),(.c (ro kC n3 f3)),(.c (ro kF n4 f4))]]⟩
theorem g305v3 :
  (kBlk 0 (kSeq (C19 u) u (rl 2 5 (rl 11 50 [])) A16v12 (finish A16))) (.exit 0) (s305v2 n0 n1 n2 n3 n4 f0 f1 f2 f3 f4 w0) =
  (loopN (eB A16v6 (C19 u) u) N305v2 u (s305v10 n0 n1 n2 n3 n4 f0 f1 f2 f3 f4 w0) (kBlk 3 (kSeq (C19 u) u (2 :: 7 :: 8 :: 9 :: (rl 61 20 [])) A16v11 (finish A16)))):=by kernel_rfl
theorem t305v4 :
  loopN (eB A16v6 (C19 u) u) N305v2 u (s305v10 n0 n1 n2 n3 n4 f0 f1 f2 f3 f4 w0) k =
  L305v2 u w0 n0 f0 n1 f1 n2 f2 n3 f3 n4 f4 u 0 (k .ret (s305v4 n0 n1 n2 n3 n4 f0 f1 f2 f3 f4 w0)) (k (.exit 3) (s305v5 n0 n1 n2 n3 n4 f0 f1 f2 f3 f4 w0)) :=
 Eq.trans (loopN_at (by kernel_rfl)) (q305v2 ..)
theorem g305v5 :
  (kBlk 3 (kSeq (C19 u) u (2 :: 7 :: 8 :: 9 :: (rl 61 20 [])) A16v11 (finish A16))) .ret (s305v4 n0 n1 n2 n3 n4 f0 f1 f2 f3 f4 w0) =
  (some [.v (vi 20)]):=by kernel_rfl
def s305v11:St:=⟨(.u :: .x (.ptr 0 0) :: (us 8 (vxi 0 :: (us 87 [])))),[.box [(vcs w0),(.c (ro kE n0 f0)),(.c (ro kA n1 f1)),(.c (ro kG n2 f2)),(.c (ro kC n3 f3)),(.c (ro kF n4 f4))]]⟩
theorem g305v6 :
  (kBlk 3 (kSeq (C19 u) u (2 :: 7 :: 8 :: 9 :: (rl 61 20 [])) A16v11 (finish A16))) (.exit 3) (s305v5 n0 n1 n2 n3 n4 f0 f1 f2 f3 f4 w0) =
  (loopN (eB A16v9 (C19 u) u) N305v3 u (s305v11 n0 n1 n2 n3 n4 f0 f1 f2 f3 f4 w0) (kBlk 5 (kSeq (C19 u) u (2 :: 10 :: (rl 81 17 [])) A16v10 (finish A16)))):=by kernel_rfl
theorem t305v7 :
  loopN (eB A16v9 (C19 u) u) N305v3 u (s305v11 n0 n1 n2 n3 n4 f0 f1 f2 f3 f4 w0) k =
  L305v3 u w0 n0 f0 n1 f1 n2 f2 n3 f3 n4 f4 u 0 (k .ret (s305v7 n0 n1 n2 n3 n4 f0 f1 f2 f3 f4 w0)) (k (.exit 5) (s305v8 n0 n1 n2 n3 n4 f0 f1 f2 f3 f4 w0)) :=
 Eq.trans (loopN_at (by kernel_rfl)) (q305v3 ..)
theorem g305v8 :
  (kBlk 5 (kSeq (C19 u) u (2 :: 10 :: (rl 81 17 [])) A16v10 (finish A16))) .ret (s305v7 n0 n1 n2 n3 n4 f0 f1 f2 f3 f4 w0) =
  (some [.v (vi 13)]):=by kernel_rfl
theorem g305v9 :
  (kBlk 5 (kSeq (C19 u) u (2 :: 10 :: (rl 81 17 [])) A16v10 (finish A16))) (.exit 5) (s305v8 n0 n1 n2 n3 n4 f0 f1 f2 f3 f4 w0) =
  (some [.v (vi 0)]):=by kernel_rfl
theorem e305:evalF (C19 u) u A16 [.agg [(.s w0),(ro kE n0 f0),(ro kA n1 f1),(ro kG n2 f2),(ro kC n3 f3),(ro kF n4 f4)]]=ob (F305 u w0 n0 f0 n1 f1 n2 f2 n3 f3 n4 f4) fun t=>some [.v (vi t)]:=Eq.trans (b:=(loopN (eB A16v3 (C19 u) u) N305v1 u (s305v9 n0 n1 n2 n3 n4 f0 f1 f2 f3 f4 w0) (kBlk 0 (kSeq (C19 u) u (rl 2 5 (rl 11 50 [])) A16v12 (finish A16))))) (by kernel_rfl) (by
 simp only [F305,ob_bif,ob_ob,ob_none,ob_some,nl305v1,nl305v2,nl305v3,t305v1,g305v2,g305v3,t305v4,g305v5,g305v6,t305v7,g305v8,g305v9])
def O305:Ora:=mkO (q1 (ag (tc cS (tc (cL kE) (tc (cL kA) (tc (cL kG) (tc (cL kC) (t1 (cL kF))))))))) (fun x=>F305 u x.1 x.2.1.1 x.2.1.2 x.2.2.1.1 x.2.2.1.2 x.2.2.2.1.1 x.2.2.2.1.2 x.2.2.2.2.1.1 x.2.2.2.2.1.2 x.2.2.2.2.2.1 x.2.2.2.2.2.2) fun t=>[.v (vi t)]
theorem d305:DO (O305 u) (C19 u) 16 A16:=dO u (fun x=>by exact e305 u x.2.1.1 x.2.2.1.1 x.2.2.2.1.1 x.2.2.2.2.1.1 x.2.2.2.2.2.1 x.2.1.2 x.2.2.1.2 x.2.2.2.1.2 x.2.2.2.2.1.2 x.2.2.2.2.2.2 x.1)
def C20:Oracle:=(C19 u).add 16 (fun _=>true) (O305 u)
def A77:AF:=⟨13,[.tmp 2],
 (.seq (.region 0 [o1 1 (bx 0 86 0),o1 2 (sb false)] 1 none) []
 (.seq (.region 1 [o1 3 (fa 86 1 0 0),o1 4 (lo 83 3),o1 5 (.len 83 false (tm 4)),o1 6 (bk .eql 3 5 0),mv 7 6,og 8 (fa 86 1 1 1) 7 true,og 9 (lo 84 8) 7 true,og 10 (.len 84 false (tm 9)) 7 true,og 11 (bk .eql 3 10 0) 7 true,o1 12 (po 7 11),o1 2 (sg 12)] 0 none) []
 (.ret (0 :: 1 :: (rl 3 10 [])))))⟩
def F306 (u:Nat) (x0:Nat) (x1:FF) (x2:Nat) (x3:FF):Option (Bool) :=
 (bif (((Int.ofNat x0)==0)==true) then (some ((Int.ofNat x2)==0)) else (some false))
theorem e306:evalF (C20 u) u A77 [.agg [(ro kP n0 f0),(ro (.pr (.sl kP) .nil) n1 f1)]]=ob (F306 u n0 f0 n1 f1) fun t=>some [.v (.b t)]:=by
 simp only [F306,ob_bif,ob_ob,ob_none,ob_some]
 kernel_rfl
def O306:Ora:=mkO (q1 (ag (tc (cL kP) (t1 (cL (.pr (.sl kP) .nil)))))) (fun x=>F306 u x.1.1 x.1.2 x.2.1 x.2.2) fun t=>[.v (.b t)]
theorem d306:DO (O306 u) (C20 u) 77 A77:=dO u (fun x=>by exact e306 u x.1.1 x.2.1 x.1.2 x.2.2)
def C21:Oracle:=(C20 u).add 77 (fun _=>true) (O306 u)
def A64v1:AC:=(.seq (.region 9 [mv 51 3,mv 52 51,og 53 (.move (tm 5)) 52 false,o1 54 (pa 52 53),o1 2 (sg 54)] 0 none) []
 (.ret (0 :: 1 :: (rl 3 52 []))))
def A64:AF:=⟨55,[.tmp 2],
 (.seq (.region 0 [o1 1 (bx 0 92 0),o1 2 (sb false)] 1 none) []
 (.seq (.region 1 [o1 6 (fa 92 1 5 5),o1 7 (lo 3 6),o1 8 (bk .neq 3 7 0),mv 9 8,og 10 (fa 92 1 6 6) 9 false,og 11 (ln 86 2 10) 9 false,og 12 (cs 77 [11] [86]) 9 false,og 13 (.unOp .not 4 (tm 12)) 9 false,o1 14 (pa 9 13),o1 3 (sg 14)] 0 none) []
 (.seq (.region 2 [o1 15 (fa 92 1 7 8),o1 16 (lo 9 15),o1 17 (.binOp .neq 9 (tm 16) (.const (.string ByteArray.empty)) 9),mv 18 17,og 19 (fa 92 1 8 9) 18 false,og 20 (lo 3 19) 18 false,og 21 (bk .neq 3 20 0) 18 false,o1 22 (pa 18 21),o1 4 (sg 22)] 0 none) []
 (.seq (.region 3 [o1 23 (fa 92 1 9 10),o1 24 (lo 3 23),o1 25 (bk .neq 3 24 0),mv 26 25,og 27 (fa 92 1 10 11) 26 false,og 28 (ln 88 3 27) 26 false,og 29 (.build 88 [vci 0,vci 0,vci 0] [(0,1),(1,1),(2,1)] 0 []) 26 false,og 30 (.eqA true kV 88 (tm 28) (tm 29) 88) 26 false,o1 31 (pa 26 30),o1 5 (sg 31)] 0 none) []
 (.seq (.seq (.region 4 [o1 32 (fa 92 1 2 2),o1 33 (lo 3 32)] 0 none) []
 (.block 0
 (.seq (.region 5 [o1 35 (bk .eql 3 33 1),o1 34 (sg 35)] 0 none) []
  (.cond (tm 34)
  (.seq (.region 6 [mv 36 4,mv 37 36,og 38 (.move (tm 5)) 37 false,o1 39 (pa 37 38),o1 2 (sg 39)] 0 none) []
   (.ret (0 :: 1 :: (rl 3 52 []))))
  (.seq (.region 7 [o1 41 (bk .eql 3 33 4),o1 40 (sg 41)] 0 none) []
   (.cond (tm 40)
   (.seq (.region 8 [mv 42 3,mv 43 42,og 44 (.move (tm 4)) 43 false,o1 45 (pa 43 44),mv 46 45,og 47 (fa 92 1 4 4) 46 false,og 48 (lo 9 47) 46 false,og 49 (.binOp .neq 9 (tm 48) (.const (.string ByteArray.empty)) 9) 46 false,o1 50 (pa 46 49),o1 2 (sg 50)] 0 none) []
    (.ret (0 :: 1 :: (rl 3 52 []))))
   .skip)))))) (2 :: (rl 32 19 []))
 A64v1)))))⟩
def F307 (x0:Nat→CV):Option (Bool) :=
 (bif (((x0 5).int != 0)==false) then (ob (F306 u (x0 6).len (x0 6).el (x0 7).len (x0 7).el) fun x1=>(bif ((!(ByteArray.toList (x0 8).str==ByteArray.toList ByteArray.empty))==false) then (bif (((x0 10).int != 0)==false) then (bif ((x0 2).int==1) then (bif (((x0 9).int != 0)==false) then (some (!(((x0 11).int==0)&&(((x0 12).int==0)&&(((x0 13).int==0)&&true))))) else (some true)) else (bif ((x0 2).int==4) then (bif ((!x1)==false) then (bif (((x0 9).int != 0)==false) then (some (!(ByteArray.toList (x0 4).str==ByteArray.toList ByteArray.empty))) else (some true)) else (some true)) else (bif ((!x1)==false) then (some (!(((x0 11).int==0)&&(((x0 12).int==0)&&(((x0 13).int==0)&&true))))) else (some true)))) else (bif ((x0 2).int==1) then (bif (((x0 9).int != 0)==false) then (some true) else (some true)) else (bif ((x0 2).int==4) then (bif ((!x1)==false) then (bif (((x0 9).int != 0)==false) then (some (!(ByteArray.toList (x0 4).str==ByteArray.toList ByteArray.empty))) else (some true)) else (some true)) else (bif ((!x1)==false) then (some true) else (some true))))) else (bif (((x0 10).int != 0)==false) then (bif ((x0 2).int==1) then (some true) else (bif ((x0 2).int==4) then (bif ((!x1)==false) then (some true) else (some true)) else (bif ((!x1)==false) then (some (!(((x0 11).int==0)&&(((x0 12).int==0)&&(((x0 13).int==0)&&true))))) else (some true)))) else (bif ((x0 2).int==1) then (some true) else (bif ((x0 2).int==4) then (bif ((!x1)==false) then (some true) else (some true)) else (bif ((!x1)==false) then (some true) else (some true))))))) else (bif ((!(ByteArray.toList (x0 8).str==ByteArray.toList ByteArray.empty))==false) then (bif (((x0 10).int != 0)==false) then (bif ((x0 2).int==1) then (bif (((x0 9).int != 0)==false) then (some (!(((x0 11).int==0)&&(((x0 12).int==0)&&(((x0 13).int==0)&&true))))) else (some true)) else (bif ((x0 2).int==4) then (some true) else (some true))) else (bif ((x0 2).int==1) then (bif (((x0 9).int != 0)==false) then (some true) else (some true)) else (bif ((x0 2).int==4) then (some true) else (some true)))) else (bif (((x0 10).int != 0)==false) then (bif ((x0 2).int==1) then (some true) else (bif ((x0 2).int==4) then (some true) else (some true))) else (bif ((x0 2).int==1) then (some true) else (bif ((x0 2).int==4) then (some true) else (some true))))))
theorem e307:evalF (C21 u) u A64 [.agg (pj kR0 g0)]=ob (F307 u g0) fun t=>some [.v (.b t)]:=by
 simp only [F307,ob_bif,ob_ob,ob_none,ob_some]
 kernel_rfl
def O307:Ora:=mkO (q1 (ar kR0)) (fun x=>F307 u x) fun t=>[.v (.b t)]
theorem d307:DO (O307 u) (C21 u) 64 A64:=dO u (fun x=>by exact e307 u x)
def C22:Oracle:=(C21 u).add 64 (fun _=>true) (O307 u)
def A69v1:AC:=(.region 3 [mv 13 6,o1 14 (bk .add 3 13 1),o1 6 (sg 14)] 0 none)
def A69v2:AC:=(.seq (.block 1
 (.seq (.region 4 [o1 15 (fa 32 2 0 0),o1 16 (lo 29 15),mv 17 6,o1 18 (.indexAddr 29 117 4 (tm 16) (tm 17)),o1 19 (fa 117 18 0 0),o1 20 (lo 9 19),mv 21 1,o1 22 (bt .eql 9 20 21)] 0 none) []
  (.cond (tm 22)
  (.seq (.region 5 [o1 23 (fa 32 2 0 0),o1 24 (lo 29 23),mv 25 6,o1 26 (.indexAddr 29 117 4 (tm 24) (tm 25)),o1 27 (ln 117 4 26),o1 7 (.alloc 0 117 [vcs ByteArray.empty,vci 0,vci 0,vcn]),o0 (.store 117 4 (tm 7) (tm 27))] 1 none) []
   (.seq (.region 6 [o1 28 (.buildSlice 0 56 3 (.pr (.int .i64) .nil) 0 [vci 0] []),o1 29 (fa 117 7 3 3),o1 30 (lo 56 29),o1 31 (.append 1 56 3 (.pr (.int .i64) .nil) 8 (tm 28) (tm 30)),o1 32 (fa 117 7 3 3),o0 (.store 56 1 (tm 32) (tm 31))] 2 none) []
   (.seq (.region 7 [o1 33 (ln 117 4 7),o0 (.store 117 4 (tm 4) (tm 33)),o1 5 (sb true)] 0 none) []
   (.ret (rl 0 4 (rl 6 29 []))))))
  .skip))) (5 :: 7 :: (rl 15 19 []))
 A69v1)
def A69v3:AC:=(.seq (.seq (.region 2 [mv 8 6,o1 9 (fa 32 2 0 0),o1 10 (lo 29 9),o1 11 (.len 29 false (tm 10)),o1 12 (bt .lss 3 8 11)] 0 none) []
 (.cond (tm 12)
 .skip
 (.exit 0 (rl 0 4 (rl 5 30 []))))) (rl 8 5 [])
 A69v2)
def A69v4:AC:=(.seq (.region 8 [o1 34 (.build 117 [vcs ByteArray.empty,vci 0,vci 0,vcn] [(0,1),(1,1),(2,1),(3,1)] 0 []),o0 (.store 117 4 (tm 4) (tm 34)),o1 5 (sb false)] 0 none) []
 (.ret (rl 0 4 (rl 6 29 []))))
def A69:AF:=⟨35,[.cell 4 117 (some 4),.tmp 5],
 (.seq (.region 0 [o1 2 (bx 0 32 0),o1 4 (.alloc 1 117 [vcs ByteArray.empty,vci 0,vci 0,vcn]),o1 5 (sb false)] 2 none) []
 (.seq (.seq (.region 1 [o1 6 (sk 0)] 0 none) []
 (.block 0
 (.loop [] (0 :: 3 :: 5 :: (rl 7 28 []))
  A69v3))) (rl 5 29 [])
 A69v4))⟩
def N308v1:St→Option St:=nN 2 (0 :: 3 :: 5 :: (rl 7 28 []))
def s308v0:St:=⟨(.u :: vxs w0 :: .x (.ptr 0 0) :: .u :: .x (.ptr 1 0) :: .u :: vxi i0 :: (us 28 [])),[.box [(.c (ro kD n0 f0)),(.c (ro (.pr .str kV) n1 f1))],.box [(vcs ByteArray.empty),(vci 0),(vci 0),(vcn)]]⟩
def s308v1:St:=⟨(us 4 (.x (.ptr 1 0) :: vxb true :: (us 29 []))),[.box [(.c (ro kD n0 f0)),(.c (ro (.pr .str kV) n1 f1))],.box [(vcs w0),(vci i0),(vci i1),(.own 3 0 n2)],.box [(vcs w0),(vci i0),(vci i1),(.own 3 0 n2)],.arr (.pr (.int .i64) .nil) n2 f2,.rsv]⟩
def s308v2:St:=⟨(us 4 (.x (.ptr 1 0) :: (us 30 []))),[.box [(.c (ro kD n0 f0)),(.c (ro (.pr .str kV) n1 f1))],.box [(vcs ByteArray.empty),(vci 0),(vci 0),(vcn)]]⟩
def L308v1 {ρ:Type} (u:Nat) (x0:ByteArray) (x1:Nat) (x2:FF) (x3:Nat) (x4:FF):Nat→Int→(ByteArray→Int→Int→Nat→FF→Option ρ)→(Option ρ)→Option ρ
 | 0,_,_,_=>none
 | m+1,x5,k0,k1 =>
  (bif (decide (x5<(Int.ofNat x1))) then (bif (inb x5 x1) then (bif (ByteArray.toList (x2 x5.toNat 0).str==ByteArray.toList x0) then (bif (inb x5 x1) then (bif (Nat.ble (0+(x2 x5.toNat 3).len) 1073741824) then (k0 (x2 x5.toNat 0).str (x2 x5.toNat 1).int (x2 x5.toNat 2).int (0+(x2 x5.toNat 3).len) (joinF 0 (rowsF 1 []) (x2 x5.toNat 3).el)) else none) else none) else (L308v1 u x0 x1 x2 x3 x4 m (w64 (x5+1)) k0 k1)) else none) else k1)
theorem nl308v1:∀ (m:Nat) (x0:Int) (k0:ByteArray→Int→Int→Nat→FF→Option ρ) (k1:Option ρ),ob (L308v1 u w0 n0 f0 n1 f1 m x0 k0 k1) ng=L308v1 u w0 n0 f0 n1 f1 m x0 (fun x1 x2 x3 x4 x5=>ob (k0 x1 x2 x3 x4 x5) ng) (ob k1 ng)
 | 0,_,_,_=>rfl
 | m+1,x0,k0,k1=>by
  simp only [L308v1,ob_bif,ob_ob,ob_none,nl308v1 m]
theorem q308v1:∀ (m:Nat) (x0:Int),
  loopH (eB A69v3 (C22 u) u) N308v1 m (s308v0 n0 n1 f0 f1 x0 w0) k=L308v1 u w0 n0 f0 n1 f1 m x0 (fun x1 x2 x3 x4 x5=>k .ret (s308v1 n0 n1 x4 f0 f1 x5 x2 x3 x1)) (k (.exit 0) (s308v2 n0 n1 f0 f1))
 | 0,_=>rfl
 | m+1,x0=>by
  simp only [L308v1,← q308v1 m]
  kernel_rfl
def FT308 (x0:Nat) (x1:FF) (x2:Nat) (x3:FF) (x4:ByteArray):Option (Bool × ByteArray × Int × Int × Nat × FF × Bool) :=
 (L308v1 u x4 x0 x1 x2 x3 u 0
  (fun x5 x6 x7 x8 x9=>(some (true,x5,x6,x7,x8,x9,true)))
  (some (false,ByteArray.empty,0,0,0,(fun _ _=>.any),false)))
def s308v3:St:=⟨[.agg [(.c (ro kD n0 f0)),(.c (ro (.pr .str kV) n1 f1))],vxs w0,.x (.ptr 0 0),uu,.x (.ptr 1 0),vxb false,vxi 0,uu,uu,uu,uu,uu,uu,uu,uu,uu,uu,uu,uu,uu,uu,uu,uu,uu,uu,uu,uu,uu,uu,uu,uu,uu,uu,uu,uu],[.box [(.c (ro kD n0 f0)),(.c (ro (.pr .str kV) n1 f1))],.box [(vcs ByteArray.empty),(vci 0),(vci 0),(vcn)]]⟩
theorem t308v1 :
  loopN (eB A69v3 (C22 u) u) N308v1 u (s308v3 n0 n1 f0 f1 w0) k =
  L308v1 u w0 n0 f0 n1 f1 u 0 (fun x0 x1 x2 x3 x4=>k .ret (s308v1 n0 n1 x3 f0 f1 x4 x1 x2 x0)) (k (.exit 0) (s308v2 n0 n1 f0 f1)) :=
 Eq.trans (loopN_at (by kernel_rfl)) (q308v1 ..)
theorem g308v2 :
  (kBlk 0 (kSeq (C22 u) u (rl 5 29 []) A69v4 (finish A69))) .ret (s308v1 n0 n1 n2 f0 f1 f2 i0 i1 w0) =
  (some [.agg [(.s w0),(vi i0),(vi i1),(ro (.pr (.int .i64) .nil) n2 f2)],.v (.b true)]):=by kernel_rfl
theorem g308v3 :
  (kBlk 0 (kSeq (C22 u) u (rl 5 29 []) A69v4 (finish A69))) (.exit 0) (s308v2 n0 n1 f0 f1) =
  (some [.agg [(.s ByteArray.empty),(vi 0),(vi 0),(.ro true .nil 0 nilF)],.v (.b false)]):=by kernel_rfl
theorem e308:evalF (C22 u) u A69 [.agg [(ro kD n0 f0),(ro (.pr .str kV) n1 f1)],.v (.s w0)]=ob (FT308 u n0 f0 n1 f1 w0) fun t=>some (bif t.1 then [.agg [(.s t.2.1),(vi t.2.2.1),(vi t.2.2.2.1),(ro (.pr (.int .i64) .nil) t.2.2.2.2.1 t.2.2.2.2.2.1)],.v (.b true)] else [.agg [(.s ByteArray.empty),(vi 0),(vi 0),(.ro true .nil 0 nilF)],.v (.b false)]):=Eq.trans (b:=(loopN (eB A69v3 (C22 u) u) N308v1 u (s308v3 n0 n1 f0 f1 w0) (kBlk 0 (kSeq (C22 u) u (rl 5 29 []) A69v4 (finish A69))))) (by kernel_rfl) (by
 simp only [FT308,ob_bif,ob_ob,ob_none,ob_some,nl308v1,t308v1,g308v2,g308v3,cond_true,cond_false])
def F308 (x0:Nat) (x1:FF) (x2:Nat) (x3:FF) (x4:ByteArray):Option (ByteArray × Int × Int × Nat × FF × Bool):=ob (FT308 u x0 x1 x2 x3 x4) fun t=>some (bif t.1 then (t.2.1,t.2.2.1,t.2.2.2.1,t.2.2.2.2.1,t.2.2.2.2.2.1,true) else (ByteArray.empty,0,0,0,(fun _ _=>.any),false))
def O308:Ora:=mkO (qc (ag (tc (cL kD) (t1 (cL (.pr .str kV))))) (q1 (av cS))) (fun x=>F308 u x.1.1.1 x.1.1.2 x.1.2.1 x.1.2.2 x.2) fun t=>[.agg [(.s t.1),(vi t.2.1),(vi t.2.2.1),(ro (.pr (.int .i64) .nil) t.2.2.2.1 t.2.2.2.2.1)],.v (.b t.2.2.2.2.2)]
theorem d308:DO (O308 u) (C22 u) 69 A69:=dW u (fun x=>by exact e308 u x.1.1.1 x.1.2.1 x.1.1.2 x.1.2.2 x.2) (fun _=>rfl) fun t=>by
 obtain ⟨b,t⟩:=t
 cases b with
 | true=>exact (.cons (WkA.agg (.cons (Wk.refl _) (.cons (Wk.refl _) (.cons (Wk.refl _) (.cons (Wk.refl _) .nil))))) (.cons (WkA.v (Wk.refl _)) .nil))
 | false =>
  exact (.cons (WkA.agg (.cons (Wk.refl _) (.cons (Wk.refl _) (.cons (Wk.refl _) (.cons (Wk.ro (by rfl)) .nil))))) (.cons (WkA.v (Wk.refl _)) .nil))
def C23:Oracle:=(C22 u).add 69 (fun _=>true) (O308 u)
def A78v1:AC:=(.region 4 [mv 21 9,o1 22 (bk .add 3 21 1),o1 9 (sg 22)] 0 none)
def A78v2:AC:=(.seq (.block 1
 (.seq (.region 5 [o1 23 (fa 117 7 3 3),o1 24 (lo 56 23),mv 25 9,o1 26 (.indexAddr 56 3 1 (tm 24) (tm 25)),o1 27 (lo 3 26),mv 28 2,o1 29 (bt .eql 3 27 28)] 0 none) []
  (.cond (tm 29)
  (.seq (.region 6 [o1 6 (sb true)] 0 none) []
   (.ret (rl 0 6 (rl 7 23 []))))
  .skip))) (6 :: (rl 23 7 []))
 A78v1)
def A78v3:AC:=(.seq (.seq (.region 3 [mv 16 9,o1 17 (fa 117 7 3 3),o1 18 (lo 56 17),o1 19 (.len 56 false (tm 18)),o1 20 (bt .lss 3 16 19)] 0 none) []
 (.cond (tm 20)
 .skip
 (.exit 0 (rl 0 30 [])))) (rl 16 5 [])
 A78v2)
def A78v4:AC:=(.seq (.region 7 [o1 6 (sb false)] 0 none) []
 (.ret (rl 0 6 (rl 7 23 []))))
def A78:AF:=⟨30,[.tmp 6],
 (.seq (.region 0 [o1 3 (bx 0 32 0),o1 6 (sb false)] 1 none) []
 (.seq (.region 1 [o1 11 (ln 32 2 3),mv 12 1,o1 13 (cf 69 [11,12] [32,9]),mv 10 13,o1 14 (.extract (tm 10) 0),o1 15 (.extract (tm 10) 1),o1 7 (.alloc 0 117 [vcs ByteArray.empty,vci 0,vci 0,vcn]),o0 (.store 117 4 (tm 7) (tm 14)),o1 8 (sg 15)] 1 none) []
 (.seq (.seq (.region 2 [o1 9 (sk 0)] 0 none) []
 (.block 0
 (.loop [] (0 :: 1 :: (rl 3 4 (8 :: (rl 10 20 []))))
  A78v3))) (6 :: 9 :: (rl 16 14 []))
 A78v4)))⟩
def N309v1:St→Option St:=nN 2 (0 :: 1 :: (rl 3 4 (8 :: (rl 10 20 []))))
def s309v0:St:=⟨(.u :: .u :: vxi i0 :: (us 4 (.x (.ptr 1 0) :: .u :: vxi i1 :: (us 20 [])))),[.box [(.c (ro kD n0 f0)),(.c (ro (.pr .str kV) n1 f1))],.box [(vcs w0),(vci i2),(vci i3),(.c (ro (.pr (.int .i64) .nil) n2 f2))]]⟩
def s309v1:St:=⟨(us 6 (vxb true :: (us 23 []))),[.box [(.c (ro kD n0 f0)),(.c (ro (.pr .str kV) n1 f1))],.box [(vcs w0),(vci i0),(vci i1),(.c (ro (.pr (.int .i64) .nil) n2 f2))]]⟩
def s309v2:St:=⟨(us 30 []),[.box [(.c (ro kD n0 f0)),(.c (ro (.pr .str kV) n1 f1))],.box [(vcs w0),(vci i0),(vci i1),(.c (ro (.pr (.int .i64) .nil) n2 f2))]]⟩
def L309v1 {ρ:Type} (u:Nat) (x0:Int) (x1:Nat) (x2:FF) (x3:Nat) (x4:FF) (x5:ByteArray) (x6 x7:Int) (x8:Nat) (x9:FF):Nat→Int→(Option ρ)→(Option ρ)→Option ρ
 | 0,_,_,_=>none
 | m+1,xA,k0,k1 =>
  (bif (decide (xA<(Int.ofNat x8))) then (bif (inb xA x8) then (bif ((x9 xA.toNat 0).int==x0) then k0 else (L309v1 u x0 x1 x2 x3 x4 x5 x6 x7 x8 x9 m (w64 (xA+1)) k0 k1)) else none) else k1)
theorem nl309v1:∀ (m:Nat) (x0:Int) (k0:Option ρ) (k1:Option ρ),ob (L309v1 u i0 n0 f0 n1 f1 w0 i1 i2 n2 f2 m x0 k0 k1) ng=L309v1 u i0 n0 f0 n1 f1 w0 i1 i2 n2 f2 m x0 (ob k0 ng) (ob k1 ng)
 | 0,_,_,_=>rfl
 | m+1,x0,k0,k1=>by
  simp only [L309v1,ob_bif,ob_ob,ob_none,nl309v1 m]
theorem q309v1:∀ (m:Nat) (x0:Int),
  loopH (eB A78v3 (C23 u) u) N309v1 m (s309v0 n0 n1 n2 f0 f1 f2 i0 x0 i1 i2 w0) k=L309v1 u i0 n0 f0 n1 f1 w0 i1 i2 n2 f2 m x0 (k .ret (s309v1 n0 n1 n2 f0 f1 f2 i1 i2 w0)) (k (.exit 0) (s309v2 n0 n1 n2 f0 f1 f2 i1 i2 w0))
 | 0,_=>rfl
 | m+1,x0=>by
  simp only [L309v1,← q309v1 m]
  kernel_rfl
def F309 (x0:Nat) (x1:FF) (x2:Nat) (x3:FF) (x4:ByteArray) (x5:Int):Option (Bool) :=
 (ob (F308 u x0 x1 x2 x3 x4) fun x6=>(L309v1 u x5 x0 x1 x2 x3 x6.1 x6.2.1 x6.2.2.1 x6.2.2.2.1 x6.2.2.2.2.1 u 0
  (some true)
  (some false)))
def s309v3 (x0:ByteArray × Int × Int × Nat × FF × Bool):St:=⟨[.agg [(.c (ro kD n0 f0)),(.c (ro (.pr .str kV) n1 f1))],vxs w0,vxi i0,.x (.ptr 0 0),uu,uu,vxb false,.x (.ptr 1 0),vxb x0.2.2.2.2.2,vxi 0,.tup [.agg [(.s x0.1),(vi x0.2.1),(vi x0.2.2.1),(ro (.pr (.int .i64) .nil) x0.2.2.2.1 x0.2.2.2.2.1)],.v (.b x0.2.2.2.2.2)],.agg [(.c (ro kD n0 f0)),(.c (ro (.pr .str kV) n1 f1))],vxs w0,.tup [.agg [(.s x0.1),(vi x0.2.1),(vi x0.2.2.1),(ro (.pr (.int .i64) .nil) x0.2.2.2.1 x0.2.2.2.2.1)],.v (.b x0.2.2.2.2.2)],.agg [(vcs x0.1),(vci x0.2.1),(vci x0.2.2.1),(.c (ro (.pr (.int .i64) .nil) x0.2.2.2.1 x0.2.2.2.2.1))],vxb x0.2.2.2.2.2,uu,uu,uu,uu,uu,uu,uu,uu,uu,uu,uu,uu,uu,uu],[.box [(.c (ro kD n0 f0)),(.c (ro (.pr .str kV) n1 f1))],.box [(vcs x0.1),(vci x0.2.1),(vci x0.2.2.1),(.c (ro (.pr (.int .i64) .nil) x0.2.2.2.1 x0.2.2.2.2.1))]]⟩
theorem t309v1 (x0:ByteArray × Int × Int × Nat × FF × Bool) :
  loopN (eB A78v3 (C23 u) u) N309v1 u (s309v3 n0 n1 f0 f1 i0 w0 x0) k =
  L309v1 u i0 n0 f0 n1 f1 x0.1 x0.2.1 x0.2.2.1 x0.2.2.2.1 x0.2.2.2.2.1 u 0 (k .ret (s309v1 n0 n1 x0.2.2.2.1 f0 f1 x0.2.2.2.2.1 x0.2.1 x0.2.2.1 x0.1)) (k (.exit 0) (s309v2 n0 n1 x0.2.2.2.1 f0 f1 x0.2.2.2.2.1 x0.2.1 x0.2.2.1 x0.1)) :=
 Eq.trans (loopN_at (by kernel_rfl)) (q309v1 ..)
theorem g309v2 (x0:ByteArray × Int × Int × Nat × FF × Bool) :
  (kBlk 0 (kSeq (C23 u) u (6 :: 9 :: (rl 16 14 [])) A78v4 (finish A78))) .ret (s309v1 n0 n1 x0.2.2.2.1 f0 f1 x0.2.2.2.2.1 x0.2.1 x0.2.2.1 x0.1) =
  (some [.v (.b true)]):=by kernel_rfl
theorem g309v3 (x0:ByteArray × Int × Int × Nat × FF × Bool) :
  (kBlk 0 (kSeq (C23 u) u (6 :: 9 :: (rl 16 14 [])) A78v4 (finish A78))) (.exit 0) (s309v2 n0 n1 x0.2.2.2.1 f0 f1 x0.2.2.2.2.1 x0.2.1 x0.2.2.1 x0.1) =
  (some [.v (.b false)]):=by kernel_rfl
theorem e309:evalF (C23 u) u A78 [.agg [(ro kD n0 f0),(ro (.pr .str kV) n1 f1)],.v (.s w0),.v (vi i0)]=ob (F309 u n0 f0 n1 f1 w0 i0) fun t=>some [.v (.b t)]:=Eq.trans (b:=(ob (F308 u n0 f0 n1 f1 w0) fun x0=>(loopN (eB A78v3 (C23 u) u) N309v1 u (s309v3 n0 n1 f0 f1 i0 w0 x0) (kBlk 0 (kSeq (C23 u) u (6 :: 9 :: (rl 16 14 [])) A78v4 (finish A78)))))) (by kernel_rfl) (by
 simp only [F309,ob_bif,ob_ob,ob_none,ob_some,nl309v1,t309v1,g309v2,g309v3])
def O309:Ora:=mkO (qc (ag (tc (cL kD) (t1 (cL (.pr .str kV))))) (qc (av cS) (q1 (av ci)))) (fun x=>F309 u x.1.1.1 x.1.1.2 x.1.2.1 x.1.2.2 x.2.1 x.2.2) fun t=>[.v (.b t)]
theorem d309:DO (O309 u) (C23 u) 78 A78:=dO u (fun x=>by exact e309 u x.1.1.1 x.1.2.1 x.1.1.2 x.1.2.2 x.2.2 x.2.1)
def C24:Oracle:=(C23 u).add 78 (fun _=>true) (O309 u)
def A70v1:AC:=(.region 3 [mv 12 6,o1 13 (bk .add 3 12 1),o1 6 (sg 13)] 0 none)
def A70v2:AC:=(.seq (.block 1
 (.seq (.region 4 [o1 14 (fa 32 2 1 1),o1 15 (lo 30 14),mv 16 6,o1 17 (.indexAddr 30 70 4 (tm 15) (tm 16)),o1 18 (fa 70 17 0 0),o1 19 (lo 9 18),mv 20 1,o1 21 (bt .eql 9 19 20)] 0 none) []
  (.cond (tm 21)
  (.seq (.region 5 [o1 22 (fa 32 2 1 1),o1 23 (lo 30 22),mv 24 6,o1 25 (.indexAddr 30 70 4 (tm 23) (tm 24)),o1 26 (ln 70 4 25),o0 (.store 70 4 (tm 4) (tm 26)),o1 5 (sb true)] 0 none) []
   (.ret (rl 0 4 (rl 6 22 []))))
  .skip))) (5 :: (rl 14 13 []))
 A70v1)
def A70v3:AC:=(.seq (.seq (.region 2 [mv 7 6,o1 8 (fa 32 2 1 1),o1 9 (lo 30 8),o1 10 (.len 30 false (tm 9)),o1 11 (bt .lss 3 7 10)] 0 none) []
 (.cond (tm 11)
 .skip
 (.exit 0 (rl 0 4 (rl 5 23 []))))) (rl 7 5 [])
 A70v2)
def A70v4:AC:=(.seq (.region 6 [o1 27 (.build 70 [vcs ByteArray.empty,vci 0,vci 0,vci 0] [(0,1),(1,1),(2,1),(3,1)] 0 []),o0 (.store 70 4 (tm 4) (tm 27)),o1 5 (sb false)] 0 none) []
 (.ret (rl 0 4 (rl 6 22 []))))
def A70:AF:=⟨28,[.cell 4 70 (some 4),.tmp 5],
 (.seq (.region 0 [o1 2 (bx 0 32 0),o1 4 (.alloc 1 70 [vcs ByteArray.empty,vci 0,vci 0,vci 0]),o1 5 (sb false)] 2 none) []
 (.seq (.seq (.region 1 [o1 6 (sk 0)] 0 none) []
 (.block 0
 (.loop [] (0 :: 3 :: 5 :: (rl 7 21 []))
  A70v3))) (rl 5 22 [])
 A70v4))⟩
def N310v1:St→Option St:=nN 2 (0 :: 3 :: 5 :: (rl 7 21 []))
def s310v0:St:=⟨(.u :: vxs w0 :: .x (.ptr 0 0) :: .u :: .x (.ptr 1 0) :: .u :: vxi i0 :: (us 21 [])),[.box [(.c (ro kD n0 f0)),(.c (ro (.pr .str kV) n1 f1))],.box [(vcs ByteArray.empty),(vci 0),(vci 0),(vci 0)]]⟩
def s310v1:St:=⟨(us 4 (.x (.ptr 1 0) :: vxb true :: (us 22 []))),[.box [(.c (ro kD n0 f0)),(.c (ro (.pr .str kV) n1 f1))],.box [(vcs w0),(vci i0),(vci i1),(vci i2)]]⟩
def s310v2:St:=⟨(us 4 (.x (.ptr 1 0) :: (us 23 []))),[.box [(.c (ro kD n0 f0)),(.c (ro (.pr .str kV) n1 f1))],.box [(vcs ByteArray.empty),(vci 0),(vci 0),(vci 0)]]⟩
def L310v1 {ρ:Type} (u:Nat) (x0:ByteArray) (x1:Nat) (x2:FF) (x3:Nat) (x4:FF):Nat→Int→(ByteArray→Int→Int→Int→Option ρ)→(Option ρ)→Option ρ
 | 0,_,_,_=>none
 | m+1,x5,k0,k1 =>
  (bif (decide (x5<(Int.ofNat x3))) then (bif (inb x5 x3) then (bif (ByteArray.toList (x4 x5.toNat 0).str==ByteArray.toList x0) then (bif (inb x5 x3) then (k0 (x4 x5.toNat 0).str (x4 x5.toNat 1).int (x4 x5.toNat 2).int (x4 x5.toNat 3).int) else none) else (L310v1 u x0 x1 x2 x3 x4 m (w64 (x5+1)) k0 k1)) else none) else k1)
theorem nl310v1:∀ (m:Nat) (x0:Int) (k0:ByteArray→Int→Int→Int→Option ρ) (k1:Option ρ),ob (L310v1 u w0 n0 f0 n1 f1 m x0 k0 k1) ng=L310v1 u w0 n0 f0 n1 f1 m x0 (fun x1 x2 x3 x4=>ob (k0 x1 x2 x3 x4) ng) (ob k1 ng)
 | 0,_,_,_=>rfl
 | m+1,x0,k0,k1=>by
  simp only [L310v1,ob_bif,ob_ob,ob_none,nl310v1 m]
theorem q310v1:∀ (m:Nat) (x0:Int),
  loopH (eB A70v3 (C24 u) u) N310v1 m (s310v0 n0 n1 f0 f1 x0 w0) k=L310v1 u w0 n0 f0 n1 f1 m x0 (fun x1 x2 x3 x4=>k .ret (s310v1 n0 n1 f0 f1 x2 x3 x4 x1)) (k (.exit 0) (s310v2 n0 n1 f0 f1))
 | 0,_=>rfl
 | m+1,x0=>by
  simp only [L310v1,← q310v1 m]
  kernel_rfl
def F310 (x0:Nat) (x1:FF) (x2:Nat) (x3:FF) (x4:ByteArray):Option (ByteArray × Int × Int × Int × Bool) :=
 (L310v1 u x4 x0 x1 x2 x3 u 0
  (fun x5 x6 x7 x8=>(some (x5,x6,x7,x8,true)))
  (some (ByteArray.empty,0,0,0,false)))
def s310v3:St:=⟨[.agg [(.c (ro kD n0 f0)),(.c (ro (.pr .str kV) n1 f1))],vxs w0,.x (.ptr 0 0),uu,.x (.ptr 1 0),vxb false,vxi 0,uu,uu,uu,uu,uu,uu,uu,uu,uu,uu,uu,uu,uu,uu,uu,uu,uu,uu,uu,uu,uu],[.box [(.c (ro kD n0 f0)),(.c (ro (.pr .str kV) n1 f1))],.box [(vcs ByteArray.empty),(vci 0),(vci 0),(vci 0)]]⟩
theorem t310v1 :
  loopN (eB A70v3 (C24 u) u) N310v1 u (s310v3 n0 n1 f0 f1 w0) k =
  L310v1 u w0 n0 f0 n1 f1 u 0 (fun x0 x1 x2 x3=>k .ret (s310v1 n0 n1 f0 f1 x1 x2 x3 x0)) (k (.exit 0) (s310v2 n0 n1 f0 f1)) :=
 Eq.trans (loopN_at (by kernel_rfl)) (q310v1 ..)
theorem g310v2 :
  (kBlk 0 (kSeq (C24 u) u (rl 5 22 []) A70v4 (finish A70))) .ret (s310v1 n0 n1 f0 f1 i0 i1 i2 w0) =
  (some [.agg [(.s w0),(vi i0),(vi i1),(vi i2)],.v (.b true)]):=by kernel_rfl
theorem g310v3 :
  (kBlk 0 (kSeq (C24 u) u (rl 5 22 []) A70v4 (finish A70))) (.exit 0) (s310v2 n0 n1 f0 f1) =
  (some [.agg [(.s ByteArray.empty),(vi 0),(vi 0),(vi 0)],.v (.b false)]):=by kernel_rfl
theorem e310:evalF (C24 u) u A70 [.agg [(ro kD n0 f0),(ro (.pr .str kV) n1 f1)],.v (.s w0)]=ob (F310 u n0 f0 n1 f1 w0) fun t=>some [.agg [(.s t.1),(vi t.2.1),(vi t.2.2.1),(vi t.2.2.2.1)],.v (.b t.2.2.2.2)]:=Eq.trans (b:=(loopN (eB A70v3 (C24 u) u) N310v1 u (s310v3 n0 n1 f0 f1 w0) (kBlk 0 (kSeq (C24 u) u (rl 5 22 []) A70v4 (finish A70))))) (by kernel_rfl) (by
 simp only [F310,ob_bif,ob_ob,ob_none,ob_some,nl310v1,t310v1,g310v2,g310v3])
def O310:Ora:=mkO (qc (ag (tc (cL kD) (t1 (cL (.pr .str kV))))) (q1 (av cS))) (fun x=>F310 u x.1.1.1 x.1.1.2 x.1.2.1 x.1.2.2 x.2) fun t=>[.agg [(.s t.1),(vi t.2.1),(vi t.2.2.1),(vi t.2.2.2.1)],.v (.b t.2.2.2.2)]
theorem d310:DO (O310 u) (C24 u) 70 A70:=dO u (fun x=>by exact e310 u x.1.1.1 x.1.2.1 x.1.1.2 x.1.2.2 x.2)
def C25:Oracle:=(C24 u).add 70 (fun _=>true) (O310 u)
def A65v1:AC:=(.seq (.region 8 [o1 50 (ln 32 2 3),o1 51 (fa 92 2 7 8),o1 52 (lo 9 51),o1 53 (cs 70 [50,52] [32,9]),mv 49 53,o1 54 (.extract (tm 49) 0),o1 55 (.extract (tm 49) 1),o1 7 (.alloc 0 70 [vcs ByteArray.empty,vci 0,vci 0,vci 0]),o0 (.store 70 4 (tm 7) (tm 54)),o1 6 (sg 55)] 1 none) []
 (.seq (.region 9 [mv 56 6,mv 57 56,og 58 (fa 70 7 1 1) 57 true,og 59 (lo 3 58) 57 true,og 60 (bk .geq 3 59 1) 57 true,o1 61 (po 57 60),mv 62 61,og 63 (fa 70 7 1 1) 62 true,og 64 (lo 3 63) 62 true,og 65 (bk .leq 3 64 1000000) 62 true,o1 66 (po 62 65),mv 67 66,og 68 (fa 70 7 2 2) 67 true,og 69 (lo 3 68) 67 true,og 70 (bk .geq 3 69 1) 67 true,o1 71 (po 67 70),mv 72 71,og 73 (fa 70 7 2 2) 72 true,og 74 (lo 3 73) 72 true,og 75 (bk .leq 3 74 2000) 72 true,o1 76 (po 72 75),o1 4 (sg 76)] 0 none) []
 (.ret (rl 0 4 (rl 5 72 [])))))
def A65v2:AC:=(.seq (.seq (.region 6 [o1 30 (fa 92 2 2 2),o1 31 (lo 3 30),o1 32 (bk .eql 3 31 1)] 0 none) []
 (.cond (tm 32)
 (.seq (.region 7 [o1 33 (fa 92 2 5 5),o1 34 (lo 3 33),o1 35 (bk .geq 3 34 1),mv 36 35,og 37 (fa 92 2 5 5) 36 true,og 38 (lo 3 37) 36 true,og 39 (bk .leq 3 38 120) 36 true,o1 40 (po 36 39),mv 41 40,og 42 (ln 32 2 3) 41 true,og 43 (fa 92 2 4 4) 41 true,og 44 (lo 9 43) 41 true,og 45 (fa 92 2 5 5) 41 true,og 46 (lo 3 45) 41 true,og 47 (cs 78 [42,44,46] [32,9,3]) 41 true,o1 48 (po 41 47),o1 4 (sg 48)] 0 none) []
  (.ret (rl 0 4 (rl 5 72 []))))
 .skip)) (4 :: (rl 30 19 []))
 A65v1)
def A65v3:AC:=(.seq (.region 3 [o1 12 (ln 32 2 3),o1 13 (fa 92 2 4 4),o1 14 (lo 9 13),o1 15 (cf 69 [12,14] [32,9]),mv 11 15,o1 16 (.extract (tm 11) 0),o1 17 (.extract (tm 11) 1),o1 5 (.alloc 0 117 [vcs ByteArray.empty,vci 0,vci 0,vcn]),o0 (.store 117 4 (tm 5) (tm 16)),o1 6 (sg 17)] 1 none) []
 (.seq (.seq (.region 4 [mv 18 6,o1 19 (.unOp .not 4 (tm 18)),mv 20 19,og 21 (fa 117 5 1 1) 20 false,og 22 (lo 3 21) 20 false,og 23 (bk .lss 3 22 1000) 20 false,o1 24 (pa 20 23),mv 25 24,og 26 (fa 117 5 1 1) 25 false,og 27 (lo 3 26) 25 false,og 28 (bk .gtr 3 27 20000) 25 false,o1 29 (pa 25 28)] 0 none) []
 (.cond (tm 29)
 (.seq (.region 5 [o1 4 (sb false)] 0 none) []
  (.ret (rl 0 4 (rl 5 72 []))))
 .skip)) (4 :: (rl 18 12 []))
 A65v2))
def A65:AF:=⟨77,[.tmp 4],
 (.seq (.region 0 [o1 2 (bx 0 92 0),o1 3 (bx 1 32 1),o1 4 (sb false)] 2 none) []
 (.seq (.seq (.region 1 [o1 8 (fa 92 2 2 2),o1 9 (lo 3 8),o1 10 (bk .eql 3 9 4)] 0 none) []
 (.cond (tm 10)
 (.seq (.region 2 [o1 4 (sb true)] 0 none) []
  (.ret (rl 0 4 (rl 5 72 []))))
 .skip)) [4,8,9,10]
 A65v3))⟩
def F311 (x0:Nat→CV) (x1:Nat) (x2:FF) (x3:Nat) (x4:FF):Option (Bool) :=
 (bif ((x0 2).int==4) then (some true) else (ob (F308 u x1 x2 x3 x4 (x0 4).str) fun x5=>(bif ((!x5.2.2.2.2.2)==false) then (bif ((decide (x5.2.1<1000))==false) then (bif (decide (x5.2.1>20000)) then (some false) else (bif ((x0 2).int==1) then (bif ((decide ((x0 5).int≥1))==true) then (bif ((decide ((x0 5).int≤120))==true) then (ob (F309 u x1 x2 x3 x4 (x0 4).str (x0 5).int) fun x6=>(some x6)) else (some false)) else (some false)) else (ob (F310 u x1 x2 x3 x4 (x0 8).str) fun x7=>(bif (x7.2.2.2.2==true) then (bif ((decide (x7.2.1≥1))==true) then (bif ((decide (x7.2.1≤1000000))==true) then (bif ((decide (x7.2.2.1≥1))==true) then (some (decide (x7.2.2.1≤2000))) else (some false)) else (some false)) else (some false)) else (some false))))) else (some false)) else (some false))))
theorem e311:evalF (C25 u) u A65 [.agg (pj kR0 g0),.agg [(ro kD n0 f0),(ro (.pr .str kV) n1 f1)]]=ob (F311 u g0 n0 f0 n1 f1) fun t=>some [.v (.b t)]:=by
 simp only [F311,ob_bif,ob_ob,ob_none,ob_some]
 kernel_rfl
def O311:Ora:=mkO (qc (ar kR0) (q1 (ag (tc (cL kD) (t1 (cL (.pr .str kV))))))) (fun x=>F311 u x.1 x.2.1.1 x.2.1.2 x.2.2.1 x.2.2.2) fun t=>[.v (.b t)]
theorem d311:DO (O311 u) (C25 u) 65 A65:=dO u (fun x=>by exact e311 u x.2.1.1 x.2.2.1 x.2.1.2 x.2.2.2 x.1)
def C26:Oracle:=(C25 u).add 65 (fun _=>true) (O311 u)
def A97:AF:=⟨21,[.tmp 2],
 (.seq (.region 0 [o1 1 (bx 0 144 0),o1 2 (sb false)] 1 none) []
 (.seq (.region 1 [o1 3 (fa 144 1 0 0),o1 4 (lo 3 3),o1 5 (bk .geq 3 4 (-32768)),mv 6 5,og 7 (fa 144 1 0 0) 6 true,og 8 (lo 3 7) 6 true,og 9 (bk .leq 3 8 32768) 6 true,o1 10 (po 6 9),mv 11 10,og 12 (fa 144 1 1 1) 11 true,og 13 (lo 3 12) 11 true,og 14 (bk .geq 3 13 (-32768)) 11 true,o1 15 (po 11 14),mv 16 15,og 17 (fa 144 1 1 1) 16 true,og 18 (lo 3 17) 16 true,og 19 (bk .leq 3 18 32768) 16 true,o1 20 (po 16 19),o1 2 (sg 20)] 0 none) []
 (.ret (0 :: 1 :: (rl 3 18 [])))))⟩
def F69 (u:Nat) (x0 x1:Int):Option (Bool) :=
 (bif ((decide (x0≥(-32768)))==true) then (bif ((decide (x0≤32768))==true) then (bif ((decide (x1≥(-32768)))==true) then (some (decide (x1≤32768))) else (some false)) else (some false)) else (some false))
theorem e69:evalF (C26 u) u A97 [.agg [(vi i0),(vi i1)]]=ob (F69 u i0 i1) fun t=>some [.v (.b t)]:=by
 simp only [F69,ob_bif,ob_ob,ob_none,ob_some]
 kernel_rfl
def O69:Ora:=mkO (q1 (ag (tc ci (t1 ci)))) (fun x=>F69 u x.1 x.2) fun t=>[.v (.b t)]
theorem d69:DO (O69 u) (C26 u) 97 A97:=dO u (fun x=>by exact e69 u x.1 x.2)
def C27:Oracle:=(C26 u).add 97 (fun _=>true) (O69 u)
def A94v1:AC:=(.region 3 [mv 8 3,o1 9 (bk .add 3 8 1),o1 3 (sg 9)] 0 none)
def A94v2:AC:=(.seq (.block 1
 (.seq (.region 4 [mv 10 0,mv 11 3,o1 12 (.indexAddr 83 144 2 (tm 10) (tm 11)),o1 13 (ln 144 2 12),o1 14 (cs 97 [13] [144]),o1 15 (.unOp .not 4 (tm 14))] 0 none) []
  (.cond (tm 15)
  (.seq (.region 5 [o1 2 (sb false)] 0 none) []
   (.ret (0 :: 1 :: (rl 3 13 []))))
  .skip))) (2 :: (rl 10 6 []))
 A94v1)
def A94v3:AC:=(.seq (.seq (.region 2 [mv 4 3,mv 5 0,o1 6 (.len 83 false (tm 5)),o1 7 (bt .lss 3 4 6)] 0 none) []
 (.cond (tm 7)
 .skip
 (.exit 0 (rl 0 16 [])))) (rl 4 4 [])
 A94v2)
def A94v4:AC:=(.seq (.region 6 [o1 2 (sb true)] 0 none) []
 (.ret (0 :: 1 :: (rl 3 13 []))))
def A94:AF:=⟨16,[.tmp 2],
 (.seq (.region 0 [o1 2 (sb false)] 0 none) []
 (.seq (.seq (.region 1 [o1 3 (sk 0)] 0 none) []
 (.block 0
 (.loop [] (1 :: 2 :: (rl 4 12 []))
  A94v3))) (rl 2 14 [])
 A94v4))⟩
def N66v1:St→Option St:=nN 0 (1 :: 2 :: (rl 4 12 []))
def s66v0:St:=⟨(.x (.c (ro kP n0 f0)) :: .u :: .u :: vxi i0 :: (us 12 [])),[]⟩
def s66v1:St:=⟨(.u :: .u :: vxb false :: (us 13 [])),[]⟩
def s66v2:St:=⟨(us 16 []),[]⟩
def L66v1 {ρ:Type} (u:Nat) (x0:Nat) (x1:FF):Nat→Int→(Option ρ)→(Option ρ)→Option ρ
 | 0,_,_,_=>none
 | m+1,x2,k0,k1 =>
  (bif (decide (x2<(Int.ofNat x0))) then (bif (inb x2 x0) then (ob (F69 u (x1 x2.toNat 0).int (x1 x2.toNat 1).int) fun x3=>(bif (!x3) then k0 else (L66v1 u x0 x1 m (w64 (x2+1)) k0 k1))) else none) else k1)
theorem nl66v1:∀ (m:Nat) (x0:Int) (k0:Option ρ) (k1:Option ρ),ob (L66v1 u n0 f0 m x0 k0 k1) ng=L66v1 u n0 f0 m x0 (ob k0 ng) (ob k1 ng)
 | 0,_,_,_=>rfl
 | m+1,x0,k0,k1=>by
  simp only [L66v1,ob_bif,ob_ob,ob_none,nl66v1 m]
theorem q66v1:∀ (m:Nat) (x0:Int),
  loopH (eB A94v3 (C27 u) u) N66v1 m (s66v0 n0 f0 x0) k=L66v1 u n0 f0 m x0 (k .ret s66v1) (k (.exit 0) s66v2)
 | 0,_=>rfl
 | m+1,x0=>by
  simp only [L66v1,← q66v1 m]
  kernel_rfl
def F66 (x0:Nat) (x1:FF):Option (Bool) :=
 (L66v1 u x0 x1 u 0
  (some false)
  (some true))
def s66v3:St:=⟨[.x (.c (ro kP n0 f0)),uu,vxb false,vxi 0,uu,uu,uu,uu,uu,uu,uu,uu,uu,uu,uu,uu],[]⟩
theorem t66v1 :
  loopN (eB A94v3 (C27 u) u) N66v1 u (s66v3 n0 f0) k =
  L66v1 u n0 f0 u 0 (k .ret s66v1) (k (.exit 0) s66v2) :=
 Eq.trans (loopN_at (by kernel_rfl)) (q66v1 ..)
theorem g66v2 :
  (kBlk 0 (kSeq (C27 u) u (rl 2 14 []) A94v4 (finish A94))) .ret s66v1 =
  (some [.v (.b false)]):=by kernel_rfl
theorem g66v3 :
  (kBlk 0 (kSeq (C27 u) u (rl 2 14 []) A94v4 (finish A94))) (.exit 0) s66v2 =
  (some [.v (.b true)]):=by kernel_rfl
theorem e66:evalF (C27 u) u A94 [.v (ro kP n0 f0)]=ob (F66 u n0 f0) fun t=>some [.v (.b t)]:=Eq.trans (b:=(loopN (eB A94v3 (C27 u) u) N66v1 u (s66v3 n0 f0) (kBlk 0 (kSeq (C27 u) u (rl 2 14 []) A94v4 (finish A94))))) (by kernel_rfl) (by
 simp only [F66,ob_bif,ob_ob,ob_none,ob_some,nl66v1,t66v1,g66v2,g66v3])
def O66:Ora:=mkO (q1 (av (cL kP))) (fun x=>F66 u x.1 x.2) fun t=>[.v (.b t)]
theorem d66:DO (O66 u) (C27 u) 94 A94:=dO u (fun x=>by exact e66 u x.1 x.2)
def C28:Oracle:=(C27 u).add 94 (fun _=>true) (O66 u)
def A99:AF:=⟨30,[.tmp 6],
 (.seq (.region 0 [o1 3 (bx 0 144 0),o1 4 (bx 1 144 1),o1 5 (bx 2 144 2),o1 6 (sk 0)] 3 none) []
 (.seq (.region 1 [o1 7 (fa 144 4 0 0),o1 8 (lo 3 7),o1 9 (fa 144 3 0 0),o1 10 (lo 3 9),o1 11 (bt .sub 3 8 10),o1 12 (fa 144 5 1 1),o1 13 (lo 3 12),o1 14 (fa 144 3 1 1),o1 15 (lo 3 14),o1 16 (bt .sub 3 13 15),o1 17 (bt .mul 3 11 16),o1 18 (fa 144 4 1 1),o1 19 (lo 3 18),o1 20 (fa 144 3 1 1),o1 21 (lo 3 20),o1 22 (bt .sub 3 19 21),o1 23 (fa 144 5 0 0),o1 24 (lo 3 23),o1 25 (fa 144 3 0 0),o1 26 (lo 3 25),o1 27 (bt .sub 3 24 26),o1 28 (bt .mul 3 22 27),o1 29 (bt .sub 3 17 28),o1 6 (sg 29)] 0 none) []
 (.ret (rl 0 6 (rl 7 23 [])))))⟩
def F71 (u:Nat) (x0 x1 x2 x3 x4 x5:Int):Option (Int) :=
 (some (w64 ((w64 ((w64 (x2-x0))*(w64 (x5-x1))))-(w64 ((w64 (x3-x1))*(w64 (x4-x0)))))))
theorem e71:evalF (C28 u) u A99 [.agg [(vi i0),(vi i1)],.agg [(vi i2),(vi i3)],.agg [(vi i4),(vi i5)]]=ob (F71 u i0 i1 i2 i3 i4 i5) fun t=>some [.v (vi t)]:=by
 simp only [F71,ob_bif,ob_ob,ob_none,ob_some]
 kernel_rfl
def O71:Ora:=mkO (qc (ag (tc ci (t1 ci))) (qc (ag (tc ci (t1 ci))) (q1 (ag (tc ci (t1 ci)))))) (fun x=>F71 u x.1.1 x.1.2 x.2.1.1 x.2.1.2 x.2.2.1 x.2.2.2) fun t=>[.v (vi t)]
theorem d71:DO (O71 u) (C28 u) 99 A99:=dO u (fun x=>by exact e71 u x.1.1 x.1.2 x.2.1.1 x.2.1.2 x.2.2.1 x.2.2.2)
def C29:Oracle:=(C28 u).add 99 (fun _=>true) (O71 u)
def A98:AF:=⟨52,[.tmp 6],
 (.seq (.region 0 [o1 3 (bx 0 144 0),o1 4 (bx 1 144 1),o1 5 (bx 2 144 2),o1 6 (sb false)] 3 none) []
 (.seq (.region 1 [o1 7 (ln 144 2 4),o1 8 (ln 144 2 5),o1 9 (ln 144 2 3),o1 10 (cs 99 [7,8,9] [144,144,144]),o1 11 (bk .eql 3 10 0),mv 12 11,og 13 (fa 144 4 0 0) 12 true,og 14 (lo 3 13) 12 true,og 15 (fa 144 5 0 0) 12 true,og 16 (lo 3 15) 12 true,og 17 (.mm false [(tm 14),(tm 16)] [3,3]) 12 true,og 18 (fa 144 3 0 0) 12 true,og 19 (lo 3 18) 12 true,og 20 (bt .leq 3 17 19) 12 true,o1 21 (po 12 20),mv 22 21,og 23 (fa 144 3 0 0) 22 true,og 24 (lo 3 23) 22 true,og 25 (fa 144 4 0 0) 22 true,og 26 (lo 3 25) 22 true,og 27 (fa 144 5 0 0) 22 true,og 28 (lo 3 27) 22 true,og 29 (.mm true [(tm 26),(tm 28)] [3,3]) 22 true,og 30 (bt .leq 3 24 29) 22 true,o1 31 (po 22 30),mv 32 31,og 33 (fa 144 4 1 1) 32 true,og 34 (lo 3 33) 32 true,og 35 (fa 144 5 1 1) 32 true,og 36 (lo 3 35) 32 true,og 37 (.mm false [(tm 34),(tm 36)] [3,3]) 32 true,og 38 (fa 144 3 1 1) 32 true,og 39 (lo 3 38) 32 true,og 40 (bt .leq 3 37 39) 32 true,o1 41 (po 32 40),mv 42 41,og 43 (fa 144 3 1 1) 42 true,og 44 (lo 3 43) 42 true,og 45 (fa 144 4 1 1) 42 true,og 46 (lo 3 45) 42 true,og 47 (fa 144 5 1 1) 42 true,og 48 (lo 3 47) 42 true,og 49 (.mm true [(tm 46),(tm 48)] [3,3]) 42 true,og 50 (bt .leq 3 44 49) 42 true,o1 51 (po 42 50),o1 6 (sg 51)] 0 none) []
 (.ret (rl 0 6 (rl 7 45 [])))))⟩
def F70 (x0 x1 x2 x3 x4 x5:Int):Option (Bool) :=
 (ob (F71 u x2 x3 x4 x5 x0 x1) fun x6=>(bif ((x6==0)==true) then (bif ((decide ((if x4<x2 then x4 else x2)≤x0))==true) then (bif ((decide (x0≤(if x4>x2 then x4 else x2)))==true) then (bif ((decide ((if x5<x3 then x5 else x3)≤x1))==true) then (some (decide (x1≤(if x5>x3 then x5 else x3)))) else (some false)) else (some false)) else (some false)) else (some false)))
theorem e70:evalF (C29 u) u A98 [.agg [(vi i0),(vi i1)],.agg [(vi i2),(vi i3)],.agg [(vi i4),(vi i5)]]=ob (F70 u i0 i1 i2 i3 i4 i5) fun t=>some [.v (.b t)]:=by
 simp only [F70,ob_bif,ob_ob,ob_none,ob_some]
 kernel_rfl
def O70:Ora:=mkO (qc (ag (tc ci (t1 ci))) (qc (ag (tc ci (t1 ci))) (q1 (ag (tc ci (t1 ci)))))) (fun x=>F70 u x.1.1 x.1.2 x.2.1.1 x.2.1.2 x.2.2.1 x.2.2.2) fun t=>[.v (.b t)]
theorem d70:DO (O70 u) (C29 u) 98 A98:=dO u (fun x=>by exact e70 u x.1.1 x.1.2 x.2.1.1 x.2.1.2 x.2.2.1 x.2.2.2)
def C30:Oracle:=(C29 u).add 98 (fun _=>true) (O70 u)
def A109v1:AC:=(.seq (.region 5 [o1 2 (sk 0)] 0 none) []
 (.ret (0 :: 1 :: (rl 3 6 []))))
def A109:AF:=⟨9,[.tmp 2],
 (.seq (.region 0 [o1 2 (sk 0)] 0 none) []
 (.seq (.block 0
 (.seq (.region 1 [mv 4 0,o1 5 (bk .lss 3 4 0),o1 3 (sg 5)] 0 none) []
  (.cond (tm 3)
  (.seq (.region 2 [o1 2 (sk (-1))] 0 none) []
   (.ret (0 :: 1 :: (rl 3 6 []))))
  (.seq (.region 3 [mv 7 0,o1 8 (bk .gtr 3 7 0),o1 6 (sg 8)] 0 none) []
   (.cond (tm 6)
   (.seq (.region 4 [o1 2 (sk 1)] 0 none) []
    (.ret (0 :: 1 :: (rl 3 6 []))))
   .skip))))) (rl 2 7 [])
 A109v1))⟩
def F88 (u:Nat) (x0:Int):Option (Int) :=
 (bif (decide (x0<0)) then (some (-1)) else (bif (decide (x0>0)) then (some 1) else (some 0)))
theorem e88:evalF (C30 u) u A109 [.v (vi i0)]=ob (F88 u i0) fun t=>some [.v (vi t)]:=by
 simp only [F88,ob_bif,ob_ob,ob_none,ob_some]
 kernel_rfl
def O88:Ora:=mkO (q1 (av ci)) (fun x=>F88 u x) fun t=>[.v (vi t)]
theorem d88:DO (O88 u) (C30 u) 109 A109:=dO u (fun x=>by exact e88 u x)
def C31:Oracle:=(C30 u).add 109 (fun _=>true) (O88 u)
def A105v1:AC:=(.seq (.region 3 [o1 31 (ln 144 2 4),o1 32 (ln 144 2 5),o1 33 (ln 144 2 6),o1 34 (cs 99 [31,32,33] [144,144,144]),o1 35 (cs 109 [34] [3]),o1 36 (ln 144 2 4),o1 37 (ln 144 2 5),o1 38 (ln 144 2 7),o1 39 (cs 99 [36,37,38] [144,144,144]),o1 40 (cs 109 [39] [3]),o1 41 (bt .mul 3 35 40),o1 42 (bk .lss 3 41 0),mv 43 42,og 44 (ln 144 2 6) 43 true,og 45 (ln 144 2 7) 43 true,og 46 (ln 144 2 4) 43 true,og 47 (cs 99 [44,45,46] [144,144,144]) 43 true,og 48 (cs 109 [47] [3]) 43 true,og 49 (ln 144 2 6) 43 true,og 50 (ln 144 2 7) 43 true,og 51 (ln 144 2 5) 43 true,og 52 (cs 99 [49,50,51] [144,144,144]) 43 true,og 53 (cs 109 [52] [3]) 43 true,og 54 (bt .mul 3 48 53) 43 true,og 55 (bk .lss 3 54 0) 43 true,o1 56 (po 43 55),o1 8 (sg 56)] 0 (some [[],[],[],[0,1,2],(rl 0 4 []),[],[],[],(rl 0 8 []),(rl 0 9 []),(rl 0 10 []),(rl 0 11 []),(rl 0 12 []),(rl 0 13 []),(rl 0 13 []),(rl 0 13 []),(rl 0 16 []),(rl 0 17 []),(rl 0 13 []),(rl 0 13 []),(rl 0 13 []),(rl 0 21 []),(rl 0 22 []),(rl 0 23 []),(rl 0 24 []),(rl 0 25 []),(rl 0 26 [])])) []
 (.ret (rl 0 8 (rl 9 48 []))))
def A105:AF:=⟨57,[.tmp 8],
 (.seq (.region 0 [o1 4 (bx 0 144 0),o1 5 (bx 1 144 1),o1 6 (bx 2 144 2),o1 7 (bx 3 144 3),o1 8 (sb false)] 4 none) []
 (.seq (.seq (.region 1 [o1 9 (ln 144 2 4),o1 10 (ln 144 2 6),o1 11 (ln 144 2 7),o1 12 (cs 98 [9,10,11] [144,144,144]),mv 13 12,og 14 (ln 144 2 5) 13 false,og 15 (ln 144 2 6) 13 false,og 16 (ln 144 2 7) 13 false,og 17 (cs 98 [14,15,16] [144,144,144]) 13 false,o1 18 (pa 13 17),mv 19 18,og 20 (ln 144 2 6) 19 false,og 21 (ln 144 2 4) 19 false,og 22 (ln 144 2 5) 19 false,og 23 (cs 98 [20,21,22] [144,144,144]) 19 false,o1 24 (pa 19 23),mv 25 24,og 26 (ln 144 2 7) 25 false,og 27 (ln 144 2 4) 25 false,og 28 (ln 144 2 5) 25 false,og 29 (cs 98 [26,27,28] [144,144,144]) 25 false,o1 30 (pa 25 29)] 0 none) []
 (.cond (tm 30)
 (.seq (.region 2 [o1 8 (sb true)] 0 none) []
  (.ret (rl 0 8 (rl 9 48 []))))
 .skip)) (rl 8 23 [])
 A105v1))⟩
def F82 (x0 x1 x2 x3 x4 x5 x6 x7:Int):Option (Bool) :=
 (ob (F70 u x0 x1 x4 x5 x6 x7) fun x8=>(bif (x8==false) then (ob (F70 u x2 x3 x4 x5 x6 x7) fun x9=>(bif (x9==false) then (ob (F70 u x4 x5 x0 x1 x2 x3) fun xA=>(bif (xA==false) then (ob (F70 u x6 x7 x0 x1 x2 x3) fun xB=>(bif xB then (some true) else (ob (F71 u x0 x1 x2 x3 x4 x5) fun xC=>(ob (F88 u xC) fun xD=>(ob (F71 u x0 x1 x2 x3 x6 x7) fun xE=>(ob (F88 u xE) fun xF=>(bif ((decide ((w64 (xD*xF))<0))==true) then (ob (F71 u x4 x5 x6 x7 x0 x1) fun xG=>(ob (F88 u xG) fun xH=>(ob (F71 u x4 x5 x6 x7 x2 x3) fun xI=>(ob (F88 u xI) fun xJ=>(some (decide ((w64 (xH*xJ))<0))))))) else (some false)))))))) else (some true))) else (some true))) else (some true)))
theorem e82:evalF (C31 u) u A105 [.agg [(vi i0),(vi i1)],.agg [(vi i2),(vi i3)],.agg [(vi i4),(vi i5)],.agg [(vi i6),(vi i7)]]=ob (F82 u i0 i1 i2 i3 i4 i5 i6 i7) fun t=>some [.v (.b t)]:=by
 simp only [F82,ob_bif,ob_ob,ob_none,ob_some]
 kernel_rfl
def O82:Ora:=mkO (qc (ag (tc ci (t1 ci))) (qc (ag (tc ci (t1 ci))) (qc (ag (tc ci (t1 ci))) (q1 (ag (tc ci (t1 ci))))))) (fun x=>F82 u x.1.1 x.1.2 x.2.1.1 x.2.1.2 x.2.2.1.1 x.2.2.1.2 x.2.2.2.1 x.2.2.2.2) fun t=>[.v (.b t)]
theorem d82:DO (O82 u) (C31 u) 105 A105:=dO u (fun x=>by exact e82 u x.1.1 x.1.2 x.2.1.1 x.2.1.2 x.2.2.1.1 x.2.2.1.2 x.2.2.2.1 x.2.2.2.2)
def C32:Oracle:=(C31 u).add 105 (fun _=>true) (O82 u)
def A95v1:AC:=(.region 7 [mv 21 5,o1 22 (bk .add 3 21 1),o1 5 (sg 22)] 0 none)
def A95v2:AC:=(.seq (.block 3
 (.seq (.region 8 [mv 23 0,mv 24 4,o1 25 (.indexAddr 83 144 2 (tm 23) (tm 24)),o1 26 (ln 144 2 25),mv 27 0,mv 28 5,o1 29 (.indexAddr 83 144 2 (tm 27) (tm 28)),o1 30 (ln 144 2 29),o1 31 (.eqA false kP 144 (tm 26) (tm 30) 144)] 0 (some [[],[],[0,1],[0,1,2],[],[],[4,5],[4,5,6],(rl 0 8 [])])) []
  (.cond (tm 31)
  (.seq (.region 9 [o1 2 (sb false)] 0 none) []
   (.ret (0 :: 1 :: (rl 3 91 []))))
  .skip))) (2 :: (rl 23 9 []))
 A95v1)
def A95v3:AC:=(.seq (.seq (.region 6 [mv 18 5,mv 19 4,o1 20 (bt .lss 3 18 19)] 0 none) []
 (.cond (tm 20)
 .skip
 (.exit 2 (1 :: 2 :: (rl 5 89 []))))) [18,19,20]
 A95v2)
def A95v4:AC:=(.region 4 [mv 16 4,o1 17 (bk .add 3 16 1),o1 4 (sg 17)] 0 none)
def A95v5:AC:=(.seq (.block 1
 (.seq (.region 5 [o1 5 (sk 0)] 0 none) []
  (.block 2
  (.loop [] (1 :: 2 :: (rl 6 88 []))
   A95v3)))) (2 :: 5 :: (rl 18 14 []))
 A95v4)
def A95v6:AC:=(.seq (.seq (.region 3 [mv 13 4,mv 14 3,o1 15 (bt .lss 3 13 14)] 0 none) []
 (.cond (tm 15)
 .skip
 (.exit 0 (1 :: 2 :: (rl 4 90 []))))) [13,14,15]
 A95v5)
def A95v7:AC:=(.region 18 [mv 70 10,o1 71 (bk .add 3 70 1),o1 10 (sg 71)] 0 none)
def A95v8:AC:=(.seq (.block 7
 (.seq (.region 19 [mv 72 10,o1 73 (bk .add 3 72 1),mv 74 3,o1 75 (bt .rem 3 73 74),mv 76 6,o1 77 (bt .neq 3 75 76),mv 78 77,og 79 (ln 144 2 7) 78 true,og 80 (ln 144 2 8) 78 true,og 81 (.move (tm 0)) 78 true,og 82 (.move (tm 10)) 78 true,og 83 (.indexAddr 83 144 2 (tm 81) (tm 82)) 78 true,og 84 (ln 144 2 83) 78 true,og 85 (.move (tm 0)) 78 true,og 86 (.move (tm 10)) 78 true,og 87 (bk .add 3 86 1) 78 true,og 88 (.move (tm 3)) 78 true,og 89 (bt .rem 3 87 88) 78 true,og 90 (.indexAddr 83 144 2 (tm 85) (tm 89)) 78 true,og 91 (ln 144 2 90) 78 true,og 92 (cs 105 [79,80,84,91] [144,144,144,144]) 78 true,o1 93 (po 78 92)] 0 (some [[],[0],[],[0,1,2],[],(rl 0 5 []),(rl 0 6 []),(rl 0 7 []),(rl 0 7 []),(rl 0 7 []),(rl 0 7 []),(rl 0 7 [9,10]),(rl 0 7 [9,10,11]),(rl 0 7 []),(rl 0 7 []),(rl 0 7 [14]),(rl 0 7 []),(rl 0 7 [14,15,16]),(rl 0 7 (rl 13 5 [])),(rl 0 7 (rl 13 6 [])),(rl 0 20 []),(rl 0 21 [])])) []
  (.cond (tm 93)
  (.seq (.region 20 [o1 2 (sb false)] 0 none) []
   (.ret (0 :: 1 :: (rl 3 91 []))))
  .skip))) (2 :: (rl 72 22 []))
 A95v7)
def A95v9:AC:=(.seq (.seq (.region 17 [mv 67 10,mv 68 3,o1 69 (bt .lss 3 67 68)] 0 none) []
 (.cond (tm 69)
 .skip
 (.exit 6 (1 :: 2 :: 4 :: 5 :: (rl 7 87 []))))) [67,68,69]
 A95v8)
def A95v10:AC:=(.seq (.region 16 [mv 65 6,o1 66 (bk .add 3 65 2),o1 10 (sg 66)] 0 none) []
 (.block 6
 (.loop [] (1 :: 2 :: 4 :: 5 :: 9 :: (rl 11 83 []))
  A95v9)))
def A95v11:AC:=(.region 12 [mv 35 6,o1 36 (bk .add 3 35 1),o1 6 (sg 36)] 0 none)
def A95v12:AC:=(.seq (.block 5
 (.seq (.region 13 [mv 37 0,mv 38 6,o1 39 (.indexAddr 83 144 2 (tm 37) (tm 38)),o1 40 (ln 144 2 39),mv 41 0,mv 42 6,o1 43 (bk .add 3 42 1),mv 44 3,o1 45 (bt .rem 3 43 44),o1 46 (.indexAddr 83 144 2 (tm 41) (tm 45)),o1 47 (ln 144 2 46),mv 48 0,mv 49 6,o1 50 (bk .add 3 49 2),mv 51 3,o1 52 (bt .rem 3 50 51),o1 53 (.indexAddr 83 144 2 (tm 48) (tm 52)),o1 54 (ln 144 2 53),o1 7 (.alloc 0 144 [vci 0,vci 0]),o1 8 (.alloc 1 144 [vci 0,vci 0]),o1 9 (.alloc 2 144 [vci 0,vci 0]),o0 (.store 144 2 (tm 7) (tm 40)),o0 (.store 144 2 (tm 8) (tm 47)),o0 (.store 144 2 (tm 9) (tm 54))] 3 (some [[],[],[0,1],[0,1,2],[],[],[5],[],[5,6,7],(rl 4 5 []),(rl 4 6 []),[],[],[12],[],[12,13,14],(rl 11 5 []),(rl 11 6 []),[],[],[],(rl 0 4 [18,19,20]),(rl 0 11 (rl 18 4 [])),(rl 0 23 [])])) []
  (.seq (.seq (.region 14 [o1 55 (ln 144 2 7),o1 56 (ln 144 2 8),o1 57 (ln 144 2 9),o1 58 (cs 98 [55,56,57] [144,144,144]),mv 59 58,og 60 (ln 144 2 9) 59 false,og 61 (ln 144 2 7) 59 false,og 62 (ln 144 2 8) 59 false,og 63 (cs 98 [60,61,62] [144,144,144]) 59 false,o1 64 (pa 59 63)] 0 none) []
  (.cond (tm 64)
  (.seq (.region 15 [o1 2 (sb false)] 0 none) []
   (.ret (0 :: 1 :: (rl 3 91 []))))
  .skip)) (2 :: (rl 55 10 []))
  A95v10))) (2 :: (rl 7 4 (rl 37 57 [])))
 A95v11)
def A95v13:AC:=(.seq (.seq (.region 11 [mv 32 6,mv 33 3,o1 34 (bt .lss 3 32 33)] 0 none) []
 (.cond (tm 34)
 .skip
 (.exit 4 (rl 0 94 [])))) [32,33,34]
 A95v12)
def A95v14:AC:=(.seq (.region 21 [o1 2 (sb true)] 0 none) []
 (.ret (0 :: 1 :: (rl 3 91 []))))
def A95v15:AC:=(.seq (.seq (.region 10 [o1 6 (sk 0)] 0 none) []
 (.block 4
 (.loop [] (1 :: 2 :: 4 :: 5 :: (rl 7 87 []))
  A95v13))) (2 :: (rl 6 5 (rl 32 62 [])))
 A95v14)
def A95:AF:=⟨94,[.tmp 2],
 (.seq (.region 0 [o1 2 (sb false)] 0 none) []
 (.seq (.region 1 [mv 11 0,o1 12 (.len 83 false (tm 11)),o1 3 (sg 12)] 0 none) []
 (.seq (.seq (.region 2 [o1 4 (sk 0)] 0 none) []
 (.block 0
 (.loop [] (1 :: 2 :: (rl 5 89 []))
  A95v6))) (2 :: 4 :: 5 :: (rl 13 19 []))
 A95v15)))⟩
def N67v2:St→Option St:=nN 0 (1 :: 2 :: (rl 6 88 []))
def s67v0:St:=⟨(.x (.c (ro kP n0 f0)) :: .u :: .u :: vxi i0 :: vxi i1 :: vxi i2 :: (us 88 [])),[]⟩
def s67v1:St:=⟨(.u :: .u :: vxb false :: (us 91 [])),[]⟩
def s67v2:St:=⟨(.x (.c (ro kP n0 f0)) :: .u :: .u :: vxi i0 :: vxi i1 :: (us 89 [])),[]⟩
def L67v2 {ρ:Type} (u:Nat) (x0:Nat) (x1:FF) (x2 x3:Int):Nat→Int→(Option ρ)→(Option ρ)→Option ρ
 | 0,_,_,_=>none
 | m+1,x4,k0,k1 =>
  (bif (decide (x4<x3)) then (bif (inb x3 x0) then (bif (inb x4 x0) then (bif (((x1 x3.toNat 0).int==(x1 x4.toNat 0).int)&&(((x1 x3.toNat 1).int==(x1 x4.toNat 1).int)&&true)) then k0 else (L67v2 u x0 x1 x2 x3 m (w64 (x4+1)) k0 k1)) else none) else none) else k1)
theorem nl67v2:∀ (m:Nat) (x0:Int) (k0:Option ρ) (k1:Option ρ),ob (L67v2 u n0 f0 i0 i1 m x0 k0 k1) ng=L67v2 u n0 f0 i0 i1 m x0 (ob k0 ng) (ob k1 ng)
 | 0,_,_,_=>rfl
 | m+1,x0,k0,k1=>by
  simp only [L67v2,ob_bif,ob_ob,ob_none,nl67v2 m]
theorem q67v2:∀ (m:Nat) (x0:Int),
  loopH (eB A95v3 (C32 u) u) N67v2 m (s67v0 n0 f0 i0 i1 x0) k=L67v2 u n0 f0 i0 i1 m x0 (k .ret s67v1) (k (.exit 2) (s67v2 n0 f0 i0 i1))
 | 0,_=>rfl
 | m+1,x0=>by
  simp only [L67v2,← q67v2 m]
  kernel_rfl
def N67v3:St→Option St:=nN 0 (1 :: 2 :: (rl 5 89 []))
def s67v3:St:=⟨(.x (.c (ro kP n0 f0)) :: .u :: .u :: vxi i0 :: vxi i1 :: (us 89 [])),[]⟩
def s67v4:St:=⟨(.x (.c (ro kP n0 f0)) :: .u :: .u :: vxi i0 :: (us 90 [])),[]⟩
def L67v3 {ρ:Type} (u:Nat) (x0:Nat) (x1:FF) (x2:Int):Nat→Int→(Option ρ)→(Option ρ)→Option ρ
 | 0,_,_,_=>none
 | m+1,x3,k0,k1 =>
  (bif (decide (x3<x2)) then (L67v2 u x0 x1 x2 x3 u 0
  k0
  (L67v3 u x0 x1 x2 m (w64 (x3+1)) k0 k1)) else k1)
theorem nl67v3:∀ (m:Nat) (x0:Int) (k0:Option ρ) (k1:Option ρ),ob (L67v3 u n0 f0 i0 m x0 k0 k1) ng=L67v3 u n0 f0 i0 m x0 (ob k0 ng) (ob k1 ng)
 | 0,_,_,_=>rfl
 | m+1,x0,k0,k1=>by
  simp only [L67v3,ob_bif,ob_ob,ob_none,nl67v3 m,nl67v2]
def s67v5:St:=⟨(.x (.c (ro kP n0 f0)) :: .u :: .u :: vxi i0 :: vxi i1 :: vxi 0 :: (us 88 [])),[]⟩
theorem r67v3 :
  loopH (eB A95v6 (C32 u) u) N67v3 (m+1) (s67v3 n0 f0 i0 i1) k =
  (bif (decide (i1<i0)) then (loopN (eB A95v3 (C32 u) u) N67v2 u (s67v5 n0 f0 i0 i1) (kBlk 2 (kBlk 1 (kSeq (C32 u) u (2 :: 5 :: (rl 18 14 [])) A95v4 (kLoop (eB A95v6 (C32 u) u) N67v3 m k))))) else (k (.exit 0) (s67v4 n0 f0 i0))):=by kernel_rfl
theorem t67v1 :
  loopN (eB A95v3 (C32 u) u) N67v2 u (s67v5 n0 f0 i0 i1) k =
  L67v2 u n0 f0 i0 i1 u 0 (k .ret s67v1) (k (.exit 2) (s67v2 n0 f0 i0 i1)) :=
 Eq.trans (loopN_at (by kernel_rfl)) (q67v2 ..)
theorem g67v2 :
  (kBlk 2 (kBlk 1 (kSeq (C32 u) u (2 :: 5 :: (rl 18 14 [])) A95v4 (kLoop (eB A95v6 (C32 u) u) N67v3 m k)))) .ret s67v1 =
  (k .ret s67v1):=by kernel_rfl
theorem g67v3 :
  (kBlk 2 (kBlk 1 (kSeq (C32 u) u (2 :: 5 :: (rl 18 14 [])) A95v4 (kLoop (eB A95v6 (C32 u) u) N67v3 m k)))) (.exit 2) (s67v2 n0 f0 i0 i1) =
  (loopH (eB A95v6 (C32 u) u) N67v3 m (s67v3 n0 f0 i0 (w64 (i1+1))) k):=by kernel_rfl
theorem q67v3:∀ (m:Nat) (x0:Int),
  loopH (eB A95v6 (C32 u) u) N67v3 m (s67v3 n0 f0 i0 x0) k=L67v3 u n0 f0 i0 m x0 (k .ret s67v1) (k (.exit 0) (s67v4 n0 f0 i0))
 | 0,_=>rfl
 | m+1,x0=>by
  rw [r67v3]
  simp only [L67v3,q67v3 m,t67v1,g67v2,g67v3]
def N67v5:St→Option St:=nN 3 (1 :: 2 :: 4 :: 5 :: 9 :: (rl 11 83 []))
def s67v6:St:=⟨(.x (.c (ro kP n0 f0)) :: .u :: .u :: vxi i0 :: .u :: .u :: vxi i1 :: .x (.ptr 0 0) :: .x (.ptr 1 0) :: .u :: vxi i2 :: (us 83 [])),[.box [(vci i3),(vci i4)],.box [(vci i5),(vci i6)],.box [(vci i7),(vci i8)]]⟩
def s67v7:St:=⟨(.u :: .u :: vxb false :: (us 91 [])),[.box [(vci i0),(vci i1)],.box [(vci i2),(vci i3)],.box [(vci i4),(vci i5)]]⟩
def s67v8:St:=⟨(.x (.c (ro kP n0 f0)) :: .u :: .u :: vxi i0 :: .u :: .u :: vxi i1 :: (us 87 [])),[.box [(vci i2),(vci i3)],.box [(vci i4),(vci i5)],.box [(vci i6),(vci i7)]]⟩
def L67v5 {ρ:Type} (u:Nat) (x0:Nat) (x1:FF) (x2 x3 x4 x5 x6 x7 x8 x9:Int):Nat→Int→(Option ρ)→(Option ρ)→Option ρ
 | 0,_,_,_=>none
 | m+1,xA,k0,k1 =>
  (bif (decide (xA<x2)) then (bif (x2==0) then none else (bif (((Int.tmod (w64 (xA+1)) x2) != x3)==true) then (bif (inb xA x0) then (bif (x2==0) then none else (bif (inb (Int.tmod (w64 (xA+1)) x2) x0) then (ob (F82 u x4 x5 x6 x7 (x1 xA.toNat 0).int (x1 xA.toNat 1).int (CV.int (x1 (Int.toNat (Int.tmod (w64 (xA+1)) x2)) 0)) (CV.int (x1 (Int.toNat (Int.tmod (w64 (xA+1)) x2)) 1))) fun xB=>(bif xB then k0 else (L67v5 u x0 x1 x2 x3 x4 x5 x6 x7 x8 x9 m (w64 (xA+1)) k0 k1))) else none)) else none) else (L67v5 u x0 x1 x2 x3 x4 x5 x6 x7 x8 x9 m (w64 (xA+1)) k0 k1))) else k1)
theorem nl67v5:∀ (m:Nat) (x0:Int) (k0:Option ρ) (k1:Option ρ),ob (L67v5 u n0 f0 i0 i1 i2 i3 i4 i5 i6 i7 m x0 k0 k1) ng=L67v5 u n0 f0 i0 i1 i2 i3 i4 i5 i6 i7 m x0 (ob k0 ng) (ob k1 ng)
 | 0,_,_,_=>rfl
 | m+1,x0,k0,k1=>by
  simp only [L67v5,ob_bif,ob_ob,ob_none,nl67v5 m]
theorem q67v5:∀ (m:Nat) (x0:Int),
  loopH (eB A95v9 (C32 u) u) N67v5 m (s67v6 n0 f0 i0 i1 x0 i2 i3 i4 i5 i6 i7) k=L67v5 u n0 f0 i0 i1 i2 i3 i4 i5 i6 i7 m x0 (k .ret (s67v7 i2 i3 i4 i5 i6 i7)) (k (.exit 6) (s67v8 n0 f0 i0 i1 i2 i3 i4 i5 i6 i7))
 | 0,_=>rfl
 | m+1,x0=>by
  simp only [L67v5,← q67v5 m]
  kernel_rfl
def N67v6:St→Option St:=nN 0 (1 :: 2 :: 4 :: 5 :: (rl 7 87 []))
def s67v9:St:=⟨(.x (.c (ro kP n0 f0)) :: .u :: .u :: vxi i0 :: .u :: .u :: vxi i1 :: (us 87 [])),[]⟩
def s67v10:St:=⟨(.u :: .u :: vxb false :: (us 91 [])),[.box [(vci i0),(vci i1)],.box [(vci i2),(vci i3)],.box [(vci i4),(vci i5)]]⟩
def s67v11:St:=⟨(us 94 []),[]⟩
def L67v6 {ρ:Type} (u:Nat) (x0:Nat) (x1:FF) (x2:Int):Nat→Int→(Int→Int→Int→Int→Int→Int→Option ρ)→(Option ρ)→Option ρ
 | 0,_,_,_=>none
 | m+1,x3,k0,k1 =>
  (bif (decide (x3<x2)) then (bif (inb x3 x0) then (bif (x2==0) then none else (bif (inb (Int.tmod (w64 (x3+1)) x2) x0) then (bif (x2==0) then none else (bif (inb (Int.tmod (w64 (x3+2)) x2) x0) then (ob (F70 u (x1 x3.toNat 0).int (x1 x3.toNat 1).int (CV.int (x1 (Int.toNat (Int.tmod (w64 (x3+1)) x2)) 0)) (CV.int (x1 (Int.toNat (Int.tmod (w64 (x3+1)) x2)) 1)) (CV.int (x1 (Int.toNat (Int.tmod (w64 (x3+2)) x2)) 0)) (CV.int (x1 (Int.toNat (Int.tmod (w64 (x3+2)) x2)) 1))) fun x4=>(bif (x4==false) then (ob (F70 u (CV.int (x1 (Int.toNat (Int.tmod (w64 (x3+2)) x2)) 0)) (CV.int (x1 (Int.toNat (Int.tmod (w64 (x3+2)) x2)) 1)) (x1 x3.toNat 0).int (x1 x3.toNat 1).int (CV.int (x1 (Int.toNat (Int.tmod (w64 (x3+1)) x2)) 0)) (CV.int (x1 (Int.toNat (Int.tmod (w64 (x3+1)) x2)) 1))) fun x5=>(bif x5 then (k0 (x1 x3.toNat 0).int (x1 x3.toNat 1).int (CV.int (x1 (Int.toNat (Int.tmod (w64 (x3+1)) x2)) 0)) (CV.int (x1 (Int.toNat (Int.tmod (w64 (x3+1)) x2)) 1)) (CV.int (x1 (Int.toNat (Int.tmod (w64 (x3+2)) x2)) 0)) (CV.int (x1 (Int.toNat (Int.tmod (w64 (x3+2)) x2)) 1))) else (L67v5 u x0 x1 x2 x3 (x1 x3.toNat 0).int (x1 x3.toNat 1).int (CV.int (x1 (Int.toNat (Int.tmod (w64 (x3+1)) x2)) 0)) (CV.int (x1 (Int.toNat (Int.tmod (w64 (x3+1)) x2)) 1)) (CV.int (x1 (Int.toNat (Int.tmod (w64 (x3+2)) x2)) 0)) (CV.int (x1 (Int.toNat (Int.tmod (w64 (x3+2)) x2)) 1)) u (w64 (x3+2))
  (k0 (x1 x3.toNat 0).int (x1 x3.toNat 1).int (CV.int (x1 (Int.toNat (Int.tmod (w64 (x3+1)) x2)) 0)) (CV.int (x1 (Int.toNat (Int.tmod (w64 (x3+1)) x2)) 1)) (CV.int (x1 (Int.toNat (Int.tmod (w64 (x3+2)) x2)) 0)) (CV.int (x1 (Int.toNat (Int.tmod (w64 (x3+2)) x2)) 1)))
  (L67v6 u x0 x1 x2 m (w64 (x3+1)) k0 k1)))) else (k0 (x1 x3.toNat 0).int (x1 x3.toNat 1).int (CV.int (x1 (Int.toNat (Int.tmod (w64 (x3+1)) x2)) 0)) (CV.int (x1 (Int.toNat (Int.tmod (w64 (x3+1)) x2)) 1)) (CV.int (x1 (Int.toNat (Int.tmod (w64 (x3+2)) x2)) 0)) (CV.int (x1 (Int.toNat (Int.tmod (w64 (x3+2)) x2)) 1))))) else none)) else none)) else none) else k1)
theorem nl67v6:∀ (m:Nat) (x0:Int) (k0:Int→Int→Int→Int→Int→Int→Option ρ) (k1:Option ρ),ob (L67v6 u n0 f0 i0 m x0 k0 k1) ng=L67v6 u n0 f0 i0 m x0 (fun x1 x2 x3 x4 x5 x6=>ob (k0 x1 x2 x3 x4 x5 x6) ng) (ob k1 ng)
 | 0,_,_,_=>rfl
 | m+1,x0,k0,k1=>by
  simp only [L67v6,ob_bif,ob_ob,ob_none,nl67v6 m,nl67v5]
def s67v12:St:=⟨(.x (.c (ro kP n0 f0)) :: .u :: .u :: vxi i0 :: .u :: .u :: vxi i1 :: .x (.ptr 0 0) :: .x (.ptr 1 0) :: .x (.ptr 2 0) :: vxi (w64 (i1+2)) :: (us 26 (.x (.c (ro kP n0 f0)) :: vxi i1 :: .x (.c (.rp kP (f0 i1.toNat))) :: .agg [(vci (f0 i1.toNat 0).int),(vci (f0 i1.toNat 1).int)] :: .x (.c (ro kP n0 f0)) :: vxi i1 :: vxi (w64 (i1+1)) :: vxi i0 :: vxi (Int.tmod (w64 (i1+1)) i0) :: .x (.c (.rp kP (f0 (Int.toNat (Int.tmod (w64 (i1+1)) i0))))) :: .agg [(vci (CV.int (f0 (Int.toNat (Int.tmod (w64 (i1+1)) i0)) 0))),(vci (CV.int (f0 (Int.toNat (Int.tmod (w64 (i1+1)) i0)) 1)))] :: .x (.c (ro kP n0 f0)) :: vxi i1 :: vxi (w64 (i1+2)) :: vxi i0 :: vxi (Int.tmod (w64 (i1+2)) i0) :: .x (.c (.rp kP (f0 (Int.toNat (Int.tmod (w64 (i1+2)) i0))))) :: .agg [(vci (CV.int (f0 (Int.toNat (Int.tmod (w64 (i1+2)) i0)) 0))),(vci (CV.int (f0 (Int.toNat (Int.tmod (w64 (i1+2)) i0)) 1)))] :: (us 10 (vxi i1 :: vxi (w64 (i1+2)) :: (us 27 [])))))),[.box [(vci (f0 i1.toNat 0).int),(vci (f0 i1.toNat 1).int)],.box [(vci (CV.int (f0 (Int.toNat (Int.tmod (w64 (i1+1)) i0)) 0))),(vci (CV.int (f0 (Int.toNat (Int.tmod (w64 (i1+1)) i0)) 1)))],.box [(vci (CV.int (f0 (Int.toNat (Int.tmod (w64 (i1+2)) i0)) 0))),(vci (CV.int (f0 (Int.toNat (Int.tmod (w64 (i1+2)) i0)) 1)))]]⟩
theorem r67v6 :
  loopH (eB A95v13 (C32 u) u) N67v6 (m+1) (s67v9 n0 f0 i0 i1) k =
  (bif (decide (i1<i0)) then (bif (inb i1 n0) then (bif (i0==0) then none else (bif (inb (Int.tmod (w64 (i1+1)) i0) n0) then (bif (i0==0) then none else (bif (inb (Int.tmod (w64 (i1+2)) i0) n0) then (ob (F70 u (f0 i1.toNat 0).int (f0 i1.toNat 1).int (CV.int (f0 (Int.toNat (Int.tmod (w64 (i1+1)) i0)) 0)) (CV.int (f0 (Int.toNat (Int.tmod (w64 (i1+1)) i0)) 1)) (CV.int (f0 (Int.toNat (Int.tmod (w64 (i1+2)) i0)) 0)) (CV.int (f0 (Int.toNat (Int.tmod (w64 (i1+2)) i0)) 1))) fun x0=>(bif (x0==false) then (ob (F70 u (CV.int (f0 (Int.toNat (Int.tmod (w64 (i1+2)) i0)) 0)) (CV.int (f0 (Int.toNat (Int.tmod (w64 (i1+2)) i0)) 1)) (f0 i1.toNat 0).int (f0 i1.toNat 1).int (CV.int (f0 (Int.toNat (Int.tmod (w64 (i1+1)) i0)) 0)) (CV.int (f0 (Int.toNat (Int.tmod (w64 (i1+1)) i0)) 1))) fun x1=>(bif x1 then (k .ret (s67v10 (f0 i1.toNat 0).int (f0 i1.toNat 1).int (CV.int (f0 (Int.toNat (Int.tmod (w64 (i1+1)) i0)) 0)) (CV.int (f0 (Int.toNat (Int.tmod (w64 (i1+1)) i0)) 1)) (CV.int (f0 (Int.toNat (Int.tmod (w64 (i1+2)) i0)) 0)) (CV.int (f0 (Int.toNat (Int.tmod (w64 (i1+2)) i0)) 1)))) else (loopN (eB A95v9 (C32 u) u) N67v5 u (s67v12 n0 f0 i0 i1) (kBlk 6 (kBlk 5 (kSeq (C32 u) u (2 :: (rl 7 4 (rl 37 57 []))) A95v11 (kLoop (eB A95v13 (C32 u) u) N67v6 m k))))))) else (k .ret (s67v10 (f0 i1.toNat 0).int (f0 i1.toNat 1).int (CV.int (f0 (Int.toNat (Int.tmod (w64 (i1+1)) i0)) 0)) (CV.int (f0 (Int.toNat (Int.tmod (w64 (i1+1)) i0)) 1)) (CV.int (f0 (Int.toNat (Int.tmod (w64 (i1+2)) i0)) 0)) (CV.int (f0 (Int.toNat (Int.tmod (w64 (i1+2)) i0)) 1)))))) else none)) else none)) else none) else (k (.exit 4) s67v11)):=by kernel_rfl
theorem t67v4 :
  loopN (eB A95v9 (C32 u) u) N67v5 u (s67v12 n0 f0 i0 i1) k =
  L67v5 u n0 f0 i0 i1 (f0 i1.toNat 0).int (f0 i1.toNat 1).int (CV.int (f0 (Int.toNat (Int.tmod (w64 (i1+1)) i0)) 0)) (CV.int (f0 (Int.toNat (Int.tmod (w64 (i1+1)) i0)) 1)) (CV.int (f0 (Int.toNat (Int.tmod (w64 (i1+2)) i0)) 0)) (CV.int (f0 (Int.toNat (Int.tmod (w64 (i1+2)) i0)) 1)) u (w64 (i1+2)) (k .ret (s67v7 (f0 i1.toNat 0).int (f0 i1.toNat 1).int (CV.int (f0 (Int.toNat (Int.tmod (w64 (i1+1)) i0)) 0)) (CV.int (f0 (Int.toNat (Int.tmod (w64 (i1+1)) i0)) 1)) (CV.int (f0 (Int.toNat (Int.tmod (w64 (i1+2)) i0)) 0)) (CV.int (f0 (Int.toNat (Int.tmod (w64 (i1+2)) i0)) 1)))) (k (.exit 6) (s67v8 n0 f0 i0 i1 (f0 i1.toNat 0).int (f0 i1.toNat 1).int (CV.int (f0 (Int.toNat (Int.tmod (w64 (i1+1)) i0)) 0)) (CV.int (f0 (Int.toNat (Int.tmod (w64 (i1+1)) i0)) 1)) (CV.int (f0 (Int.toNat (Int.tmod (w64 (i1+2)) i0)) 0)) (CV.int (f0 (Int.toNat (Int.tmod (w64 (i1+2)) i0)) 1)))) :=
 Eq.trans (loopN_at (by kernel_rfl)) (q67v5 ..)
theorem g67v5 :
  (kBlk 6 (kBlk 5 (kSeq (C32 u) u (2 :: (rl 7 4 (rl 37 57 []))) A95v11 (kLoop (eB A95v13 (C32 u) u) N67v6 m k)))) .ret (s67v7 (f0 i0.toNat 0).int (f0 i0.toNat 1).int (CV.int (f0 (Int.toNat (Int.tmod (w64 (i0+1)) i1)) 0)) (CV.int (f0 (Int.toNat (Int.tmod (w64 (i0+1)) i1)) 1)) (CV.int (f0 (Int.toNat (Int.tmod (w64 (i0+2)) i1)) 0)) (CV.int (f0 (Int.toNat (Int.tmod (w64 (i0+2)) i1)) 1))) =
  (k .ret (s67v10 (f0 i0.toNat 0).int (f0 i0.toNat 1).int (CV.int (f0 (Int.toNat (Int.tmod (w64 (i0+1)) i1)) 0)) (CV.int (f0 (Int.toNat (Int.tmod (w64 (i0+1)) i1)) 1)) (CV.int (f0 (Int.toNat (Int.tmod (w64 (i0+2)) i1)) 0)) (CV.int (f0 (Int.toNat (Int.tmod (w64 (i0+2)) i1)) 1)))):=by kernel_rfl
theorem g67v6 :
  (kBlk 6 (kBlk 5 (kSeq (C32 u) u (2 :: (rl 7 4 (rl 37 57 []))) A95v11 (kLoop (eB A95v13 (C32 u) u) N67v6 m k)))) (.exit 6) (s67v8 n0 f0 i0 i1 (f0 i1.toNat 0).int (f0 i1.toNat 1).int (CV.int (f0 (Int.toNat (Int.tmod (w64 (i1+1)) i0)) 0)) (CV.int (f0 (Int.toNat (Int.tmod (w64 (i1+1)) i0)) 1)) (CV.int (f0 (Int.toNat (Int.tmod (w64 (i1+2)) i0)) 0)) (CV.int (f0 (Int.toNat (Int.tmod (w64 (i1+2)) i0)) 1))) =
  (loopH (eB A95v13 (C32 u) u) N67v6 m (s67v9 n0 f0 i0 (w64 (i1+1))) k):=by kernel_rfl
theorem q67v6:∀ (m:Nat) (x0:Int),
  loopH (eB A95v13 (C32 u) u) N67v6 m (s67v9 n0 f0 i0 x0) k=L67v6 u n0 f0 i0 m x0 (fun x1 x2 x3 x4 x5 x6=>k .ret (s67v10 x1 x2 x3 x4 x5 x6)) (k (.exit 4) s67v11)
 | 0,_=>rfl
 | m+1,x0=>by
  rw [r67v6]
  simp only [L67v6,q67v6 m,t67v4,g67v5,g67v6]
def F67 (x0:Nat) (x1:FF):Option (Bool) :=
 (L67v3 u x0 x1 (Int.ofNat x0) u 0
  (some false)
  (L67v6 u x0 x1 (Int.ofNat x0) u 0
  (fun x2 x3 x4 x5 x6 x7=>(some false))
  (some true)))
def s67v13:St:=⟨[.x (.c (ro kP n0 f0)),uu,vxb false,vxi (Int.ofNat n0),vxi 0,uu,uu,uu,uu,uu,uu,.x (.c (ro kP n0 f0)),vxi (Int.ofNat n0),uu,uu,uu,uu,uu,uu,uu,uu,uu,uu,uu,uu,uu,uu,uu,uu,uu,uu,uu,uu,uu,uu,uu,uu,uu,uu,uu,uu,uu,uu,uu,uu,uu,uu,uu,uu,uu,uu,uu,uu,uu,uu,uu,uu,uu,uu,uu,uu,uu,uu,uu,uu,uu,uu,uu,uu,uu,uu,uu,uu,uu,uu,uu,uu,uu,uu,uu,uu,uu,uu,uu,uu,uu,uu,uu,uu,uu,uu,uu,uu,uu],[]⟩
theorem t67v7 :
  loopN (eB A95v6 (C32 u) u) N67v3 u (s67v13 n0 f0) k =
  L67v3 u n0 f0 (Int.ofNat n0) u 0 (k .ret s67v1) (k (.exit 0) (s67v4 n0 f0 (Int.ofNat n0))) :=
 Eq.trans (loopN_at (by kernel_rfl)) (q67v3 ..)
theorem g67v8 :
  (kBlk 0 (kSeq (C32 u) u (2 :: 4 :: 5 :: (rl 13 19 [])) A95v15 (finish A95))) .ret s67v1 =
  (some [.v (.b false)]):=by kernel_rfl
def s67v14:St:=⟨(.x (.c (ro kP n0 f0)) :: .u :: .u :: vxi (Int.ofNat n0) :: .u :: .u :: vxi 0 :: (us 87 [])),[]⟩
theorem g67v9 :
  (kBlk 0 (kSeq (C32 u) u (2 :: 4 :: 5 :: (rl 13 19 [])) A95v15 (finish A95))) (.exit 0) (s67v4 n0 f0 (Int.ofNat n0)) =
  (loopN (eB A95v13 (C32 u) u) N67v6 u (s67v14 n0 f0) (kBlk 4 (kSeq (C32 u) u (2 :: (rl 6 5 (rl 32 62 []))) A95v14 (finish A95)))):=by kernel_rfl
theorem t67v10 :
  loopN (eB A95v13 (C32 u) u) N67v6 u (s67v14 n0 f0) k =
  L67v6 u n0 f0 (Int.ofNat n0) u 0 (fun x0 x1 x2 x3 x4 x5=>k .ret (s67v10 x0 x1 x2 x3 x4 x5)) (k (.exit 4) s67v11) :=
 Eq.trans (loopN_at (by kernel_rfl)) (q67v6 ..)
theorem g67v11 :
  (kBlk 4 (kSeq (C32 u) u (2 :: (rl 6 5 (rl 32 62 []))) A95v14 (finish A95))) .ret (s67v10 i0 i1 i2 i3 i4 i5) =
  (some [.v (.b false)]):=by kernel_rfl
theorem g67v12 :
  (kBlk 4 (kSeq (C32 u) u (2 :: (rl 6 5 (rl 32 62 []))) A95v14 (finish A95))) (.exit 4) s67v11 =
  (some [.v (.b true)]):=by kernel_rfl
theorem e67:evalF (C32 u) u A95 [.v (ro kP n0 f0)]=ob (F67 u n0 f0) fun t=>some [.v (.b t)]:=Eq.trans (b:=(loopN (eB A95v6 (C32 u) u) N67v3 u (s67v13 n0 f0) (kBlk 0 (kSeq (C32 u) u (2 :: 4 :: 5 :: (rl 13 19 [])) A95v15 (finish A95))))) (by kernel_rfl) (by
 simp only [F67,ob_bif,ob_ob,ob_none,ob_some,nl67v3,nl67v6,t67v7,g67v8,g67v9,t67v10,g67v11,g67v12])
def O67:Ora:=mkO (q1 (av (cL kP))) (fun x=>F67 u x.1 x.2) fun t=>[.v (.b t)]
theorem d67:DO (O67 u) (C32 u) 95 A95:=dO u (fun x=>by exact e67 u x.1 x.2)
def C33:Oracle:=(C32 u).add 95 (fun _=>true) (O67 u)
def A79v1:AC:=(.seq (.region 9 [o1 2 (sk 0)] 0 none) []
 (.ret (0 :: 1 :: (rl 3 12 []))))
def A79v2:AC:=(.seq (.seq (.region 7 [mv 12 0,o1 13 (cs 95 [12] [83]),o1 14 (.unOp .not 4 (tm 13))] 0 none) []
 (.cond (tm 14)
 (.seq (.region 8 [o1 2 (sk 17)] 0 none) []
  (.ret (0 :: 1 :: (rl 3 12 []))))
 .skip)) [2,12,13,14]
 A79v1)
def A79v3:AC:=(.seq (.seq (.region 5 [mv 9 0,o1 10 (cs 94 [9] [83]),o1 11 (.unOp .not 4 (tm 10))] 0 none) []
 (.cond (tm 11)
 (.seq (.region 6 [o1 2 (sk 9)] 0 none) []
  (.ret (0 :: 1 :: (rl 3 12 []))))
 .skip)) [2,9,10,11]
 A79v2)
def A79v4:AC:=(.seq (.seq (.region 3 [mv 6 0,o1 7 (.len 83 false (tm 6)),o1 8 (bk .gtr 3 7 32)] 0 none) []
 (.cond (tm 8)
 (.seq (.region 4 [o1 2 (sk 4)] 0 none) []
  (.ret (0 :: 1 :: (rl 3 12 []))))
 .skip)) [2,6,7,8]
 A79v3)
def A79:AF:=⟨15,[.tmp 2],
 (.seq (.region 0 [o1 2 (sk 0)] 0 none) []
 (.seq (.seq (.region 1 [mv 3 0,o1 4 (.len 83 false (tm 3)),o1 5 (bk .lss 3 4 3)] 0 none) []
 (.cond (tm 5)
 (.seq (.region 2 [o1 2 (sk 3)] 0 none) []
  (.ret (0 :: 1 :: (rl 3 12 []))))
 .skip)) (rl 2 4 [])
 A79v4))⟩
def F37 (x0:Nat) (x1:FF):Option (Int) :=
 (bif (decide ((Int.ofNat x0)<3)) then (some 3) else (bif (decide ((Int.ofNat x0)>32)) then (some 4) else (ob (F66 u x0 x1) fun x2=>(bif (!x2) then (some 9) else (ob (F67 u x0 x1) fun x3=>(bif (!x3) then (some 17) else (some 0)))))))
theorem e37:evalF (C33 u) u A79 [.v (ro kP n0 f0)]=ob (F37 u n0 f0) fun t=>some [.v (vi t)]:=by
 simp only [F37,ob_bif,ob_ob,ob_none,ob_some]
 kernel_rfl
def O37:Ora:=mkO (q1 (av (cL kP))) (fun x=>F37 u x.1 x.2) fun t=>[.v (vi t)]
theorem d37:DO (O37 u) (C33 u) 79 A79:=dO u (fun x=>by exact e37 u x.1 x.2)
def C34:Oracle:=(C33 u).add 79 (fun _=>true) (O37 u)
def A80v1:AC:=(.seq (.block 1
 (.seq (.region 7 [mv 16 0,mv 17 4,o1 18 (.indexAddr 83 144 2 (tm 16) (tm 17)),o1 19 (ln 144 2 18),mv 20 0,mv 21 4,o1 22 (bk .add 3 21 1),mv 23 0,o1 24 (.len 83 false (tm 23)),o1 25 (bt .rem 3 22 24),o1 26 (.indexAddr 83 144 2 (tm 20) (tm 25)),o1 27 (ln 144 2 26),o1 5 (.alloc 0 144 [vci 0,vci 0]),o1 6 (.alloc 1 144 [vci 0,vci 0]),o0 (.store 144 2 (tm 5) (tm 19)),o0 (.store 144 2 (tm 6) (tm 27))] 2 (some [[],[],[0,1],[0,1,2],[],[],[5],[],[7],(rl 5 4 []),(rl 4 6 []),(rl 4 7 []),[],[],(rl 0 4 [12,13]),(rl 0 15 [])])) []
  (.region 8 [mv 28 3,o1 29 (fa 144 5 0 0),o1 30 (lo 3 29),o1 31 (fa 144 6 1 1),o1 32 (lo 3 31),o1 33 (bt .mul 3 30 32),o1 34 (bt .add 3 28 33),o1 35 (fa 144 5 1 1),o1 36 (lo 3 35),o1 37 (fa 144 6 0 0),o1 38 (lo 3 37),o1 39 (bt .mul 3 36 38),o1 40 (bt .sub 3 34 39),o1 3 (sg 40)] 0 none))) []
 (.region 6 [mv 14 4,o1 15 (bk .add 3 14 1),o1 4 (sg 15)] 0 none))
def A80v2:AC:=(.seq (.seq (.region 5 [mv 10 4,mv 11 0,o1 12 (.len 83 false (tm 11)),o1 13 (bt .lss 3 10 12)] 0 none) []
 (.cond (tm 13)
 .skip
 (.exit 0 (0 :: 1 :: 2 :: (rl 4 38 []))))) (rl 10 4 [])
 A80v1)
def A80v3:AC:=(.seq (.region 9 [mv 41 3,o1 2 (sg 41)] 0 none) []
 (.ret (0 :: 1 :: (rl 3 39 []))))
def A80v4:AC:=(.seq (.region 3 [o1 3 (sk 0)] 0 none) []
 (.seq (.seq (.region 4 [o1 4 (sk 0)] 0 none) []
 (.block 0
 (.loop [] (1 :: 2 :: (rl 5 37 []))
  A80v2))) (4 :: 5 :: 6 :: (rl 10 31 []))
 A80v3))
def A80:AF:=⟨42,[.tmp 2],
 (.seq (.region 0 [o1 2 (sk 0)] 0 none) []
 (.seq (.seq (.region 1 [mv 7 0,o1 8 (cs 79 [7] [83]),o1 9 (bk .neq 34 8 0)] 0 none) []
 (.cond (tm 9)
 (.seq (.region 2 [o1 2 (sk 0)] 0 none) []
  (.ret (0 :: 1 :: (rl 3 39 []))))
 .skip)) [2,7,8,9]
 A80v4))⟩
def N38v1:St→Option St:=nN 0 (1 :: 2 :: (rl 5 37 []))
def s38v0:St:=⟨(.x (.c (ro kP n0 f0)) :: .u :: .u :: vxi i0 :: vxi i1 :: (us 37 [])),[]⟩
def s38v1:St:=⟨(us 3 (vxi i0 :: (us 38 []))),[]⟩
def L38v1 {ρ:Type} (u:Nat) (x0:Nat) (x1:FF):Nat→Int→Int→(Int→Option ρ)→Option ρ
 | 0,_,_,_=>none
 | m+1,x2,x3,k0 =>
  (bif (decide (x3<(Int.ofNat x0))) then (bif (inb x3 x0) then (bif ((Int.ofNat x0)==0) then none else (bif (inb (Int.tmod (w64 (x3+1)) (Int.ofNat x0)) x0) then (L38v1 u x0 x1 m (w64 ((w64 (x2+(w64 ((x1 x3.toNat 0).int*(CV.int (x1 (Int.toNat (Int.tmod (w64 (x3+1)) (Int.ofNat x0))) 1))))))-(w64 ((x1 x3.toNat 1).int*(CV.int (x1 (Int.toNat (Int.tmod (w64 (x3+1)) (Int.ofNat x0))) 0)))))) (w64 (x3+1)) k0) else none)) else none) else (k0 x2))
theorem nl38v1:∀ (m:Nat) (x0 x1:Int) (k0:Int→Option ρ),ob (L38v1 u n0 f0 m x0 x1 k0) ng=L38v1 u n0 f0 m x0 x1 (fun x2=>ob (k0 x2) ng)
 | 0,_,_,_=>rfl
 | m+1,x0,x1,k0=>by
  simp only [L38v1,ob_bif,ob_ob,ob_none,nl38v1 m]
theorem q38v1:∀ (m:Nat) (x0 x1:Int),
  loopH (eB A80v2 (C34 u) u) N38v1 m (s38v0 n0 f0 x0 x1) k=L38v1 u n0 f0 m x0 x1 (fun x2=>k (.exit 0) (s38v1 x2))
 | 0,_,_=>rfl
 | m+1,x0,x1=>by
  simp only [L38v1,← q38v1 m]
  kernel_rfl
def F38 (x0:Nat) (x1:FF):Option (Int) :=
 (ob (F37 u x0 x1) fun x2=>(bif (x2 != 0) then (some 0) else (L38v1 u x0 x1 u 0 0
  (fun x3=>(some x3)))))
def s38v2:St:=⟨(.x (.c (ro kP n0 f0)) :: uu :: .u :: vxi 0 :: vxi 0 :: uu :: uu :: (us 3 [uu,uu,uu,uu,uu,uu,uu,uu,uu,uu,uu,uu,uu,uu,uu,uu,uu,uu,uu,uu,uu,uu,uu,uu,uu,uu,uu,uu,uu,uu,uu,uu])),[]⟩
theorem t38v1 :
  loopN (eB A80v2 (C34 u) u) N38v1 u (s38v2 n0 f0) k =
  L38v1 u n0 f0 u 0 0 (fun x0=>k (.exit 0) (s38v1 x0)) :=
 Eq.trans (loopN_at (by kernel_rfl)) (q38v1 ..)
theorem g38v2 :
  (kBlk 0 (kSeq (C34 u) u (4 :: 5 :: 6 :: (rl 10 31 [])) A80v3 (finish A80))) (.exit 0) (s38v1 i0) =
  (some [.v (vi i0)]):=by kernel_rfl
theorem e38:evalF (C34 u) u A80 [.v (ro kP n0 f0)]=ob (F38 u n0 f0) fun t=>some [.v (vi t)]:=Eq.trans (b:=(ob (F37 u n0 f0) fun x0=>(bif (x0 != 0) then (some [.v (vi 0)]) else (loopN (eB A80v2 (C34 u) u) N38v1 u (s38v2 n0 f0) (kBlk 0 (kSeq (C34 u) u (4 :: 5 :: 6 :: (rl 10 31 [])) A80v3 (finish A80))))))) (by kernel_rfl) (by
 simp only [F38,ob_bif,ob_ob,ob_none,ob_some,nl38v1,t38v1,g38v2])
def O38:Ora:=mkO (q1 (av (cL kP))) (fun x=>F38 u x.1 x.2) fun t=>[.v (vi t)]
theorem d38:DO (O38 u) (C34 u) 80 A80:=dO u (fun x=>by exact e38 u x.1 x.2)
def C35:Oracle:=(C34 u).add 80 (fun _=>true) (O38 u)
def A107v1:AC:=(.seq (.region 6 [o1 6 (sk 0)] 0 none) []
 (.ret (rl 0 6 (rl 7 28 []))))
def A107v2:AC:=(.seq (.seq (.region 4 [mv 33 7,o1 34 (bk .lss 3 33 0)] 0 none) []
 (.cond (tm 34)
 (.seq (.region 5 [o1 6 (sk (-1))] 0 none) []
  (.ret (rl 0 6 (rl 7 28 []))))
 .skip)) [6,33,34]
 A107v1)
def A107:AF:=⟨35,[.tmp 6],
 (.seq (.region 0 [o1 3 (bx 0 144 0),o1 4 (bx 1 144 1),o1 5 (bx 2 144 2),o1 6 (sk 0)] 3 none) []
 (.seq (.region 1 [o1 8 (fa 144 4 0 0),o1 9 (lo 3 8),o1 10 (fa 144 3 0 0),o1 11 (lo 3 10),o1 12 (bt .sub 3 9 11),o1 13 (fa 144 5 1 1),o1 14 (lo 3 13),o1 15 (fa 144 3 1 1),o1 16 (lo 3 15),o1 17 (bt .sub 3 14 16),o1 18 (bt .mul 3 12 17),o1 19 (fa 144 4 1 1),o1 20 (lo 3 19),o1 21 (fa 144 3 1 1),o1 22 (lo 3 21),o1 23 (bt .sub 3 20 22),o1 24 (fa 144 5 0 0),o1 25 (lo 3 24),o1 26 (fa 144 3 0 0),o1 27 (lo 3 26),o1 28 (bt .sub 3 25 27),o1 29 (bt .mul 3 23 28),o1 30 (bt .sub 3 18 29),o1 7 (sg 30)] 0 none) []
 (.seq (.seq (.region 2 [mv 31 7,o1 32 (bk .gtr 3 31 0)] 0 none) []
 (.cond (tm 32)
 (.seq (.region 3 [o1 6 (sk 1)] 0 none) []
  (.ret (rl 0 6 (rl 7 28 []))))
 .skip)) [6,31,32]
 A107v2)))⟩
def F84 (u:Nat) (x0 x1 x2 x3 x4 x5:Int):Option (Int) :=
 (bif (decide ((w64 ((w64 ((w64 (x2-x0))*(w64 (x5-x1))))-(w64 ((w64 (x3-x1))*(w64 (x4-x0))))))>0)) then (some 1) else (bif (decide ((w64 ((w64 ((w64 (x2-x0))*(w64 (x5-x1))))-(w64 ((w64 (x3-x1))*(w64 (x4-x0))))))<0)) then (some (-1)) else (some 0)))
theorem e84:evalF (C35 u) u A107 [.agg [(vi i0),(vi i1)],.agg [(vi i2),(vi i3)],.agg [(vi i4),(vi i5)]]=ob (F84 u i0 i1 i2 i3 i4 i5) fun t=>some [.v (vi t)]:=by
 simp only [F84,ob_bif,ob_ob,ob_none,ob_some]
 kernel_rfl
def O84:Ora:=mkO (qc (ag (tc ci (t1 ci))) (qc (ag (tc ci (t1 ci))) (q1 (ag (tc ci (t1 ci)))))) (fun x=>F84 u x.1.1 x.1.2 x.2.1.1 x.2.1.2 x.2.2.1 x.2.2.2) fun t=>[.v (vi t)]
theorem d84:DO (O84 u) (C35 u) 107 A107:=dO u (fun x=>by exact e84 u x.1.1 x.1.2 x.2.1.1 x.2.1.2 x.2.2.1 x.2.2.2)
def C36:Oracle:=(C35 u).add 107 (fun _=>true) (O84 u)
def A106:AF:=⟨52,[.tmp 6],
 (.seq (.region 0 [o1 3 (bx 0 144 0),o1 4 (bx 1 144 1),o1 5 (bx 2 144 2),o1 6 (sb false)] 3 none) []
 (.seq (.region 1 [o1 7 (ln 144 2 3),o1 8 (ln 144 2 4),o1 9 (ln 144 2 5),o1 10 (cs 107 [7,8,9] [144,144,144]),o1 11 (bk .eql 3 10 0),mv 12 11,og 13 (fa 144 5 0 0) 12 true,og 14 (lo 3 13) 12 true,og 15 (fa 144 3 0 0) 12 true,og 16 (lo 3 15) 12 true,og 17 (fa 144 4 0 0) 12 true,og 18 (lo 3 17) 12 true,og 19 (.mm false [(tm 16),(tm 18)] [3,3]) 12 true,og 20 (bt .geq 3 14 19) 12 true,o1 21 (po 12 20),mv 22 21,og 23 (fa 144 5 0 0) 22 true,og 24 (lo 3 23) 22 true,og 25 (fa 144 3 0 0) 22 true,og 26 (lo 3 25) 22 true,og 27 (fa 144 4 0 0) 22 true,og 28 (lo 3 27) 22 true,og 29 (.mm true [(tm 26),(tm 28)] [3,3]) 22 true,og 30 (bt .leq 3 24 29) 22 true,o1 31 (po 22 30),mv 32 31,og 33 (fa 144 5 1 1) 32 true,og 34 (lo 3 33) 32 true,og 35 (fa 144 3 1 1) 32 true,og 36 (lo 3 35) 32 true,og 37 (fa 144 4 1 1) 32 true,og 38 (lo 3 37) 32 true,og 39 (.mm false [(tm 36),(tm 38)] [3,3]) 32 true,og 40 (bt .geq 3 34 39) 32 true,o1 41 (po 32 40),mv 42 41,og 43 (fa 144 5 1 1) 42 true,og 44 (lo 3 43) 42 true,og 45 (fa 144 3 1 1) 42 true,og 46 (lo 3 45) 42 true,og 47 (fa 144 4 1 1) 42 true,og 48 (lo 3 47) 42 true,og 49 (.mm true [(tm 46),(tm 48)] [3,3]) 42 true,og 50 (bt .leq 3 44 49) 42 true,o1 51 (po 42 50),o1 6 (sg 51)] 0 none) []
 (.ret (rl 0 6 (rl 7 45 [])))))⟩
def F83 (x0 x1 x2 x3 x4 x5:Int):Option (Bool) :=
 (ob (F84 u x0 x1 x2 x3 x4 x5) fun x6=>(bif ((x6==0)==true) then (bif ((decide (x4≥(if x2<x0 then x2 else x0)))==true) then (bif ((decide (x4≤(if x2>x0 then x2 else x0)))==true) then (bif ((decide (x5≥(if x3<x1 then x3 else x1)))==true) then (some (decide (x5≤(if x3>x1 then x3 else x1)))) else (some false)) else (some false)) else (some false)) else (some false)))
theorem e83:evalF (C36 u) u A106 [.agg [(vi i0),(vi i1)],.agg [(vi i2),(vi i3)],.agg [(vi i4),(vi i5)]]=ob (F83 u i0 i1 i2 i3 i4 i5) fun t=>some [.v (.b t)]:=by
 simp only [F83,ob_bif,ob_ob,ob_none,ob_some]
 kernel_rfl
def O83:Ora:=mkO (qc (ag (tc ci (t1 ci))) (qc (ag (tc ci (t1 ci))) (q1 (ag (tc ci (t1 ci)))))) (fun x=>F83 u x.1.1 x.1.2 x.2.1.1 x.2.1.2 x.2.2.1 x.2.2.2) fun t=>[.v (.b t)]
theorem d83:DO (O83 u) (C36 u) 106 A106:=dO u (fun x=>by exact e83 u x.1.1 x.1.2 x.2.1.1 x.2.1.2 x.2.2.1 x.2.2.2)
def C37:Oracle:=(C36 u).add 106 (fun _=>true) (O83 u)
def A96v1:AC:=(.seq (.region 3 [o1 31 (ln 144 2 4),o1 32 (ln 144 2 5),o1 33 (ln 144 2 6),o1 34 (cs 107 [31,32,33] [144,144,144]),o1 35 (ln 144 2 4),o1 36 (ln 144 2 5),o1 37 (ln 144 2 7),o1 38 (cs 107 [35,36,37] [144,144,144]),o1 39 (bt .mul 3 34 38),o1 40 (bk .lss 3 39 0),mv 41 40,og 42 (ln 144 2 6) 41 true,og 43 (ln 144 2 7) 41 true,og 44 (ln 144 2 4) 41 true,og 45 (cs 107 [42,43,44] [144,144,144]) 41 true,og 46 (ln 144 2 6) 41 true,og 47 (ln 144 2 7) 41 true,og 48 (ln 144 2 5) 41 true,og 49 (cs 107 [46,47,48] [144,144,144]) 41 true,og 50 (bt .mul 3 45 49) 41 true,og 51 (bk .lss 3 50 0) 41 true,o1 52 (po 41 51),o1 8 (sg 52)] 0 (some [[],[],[],[0,1,2],[],[],[],(rl 0 7 []),(rl 0 8 []),(rl 0 9 []),(rl 0 10 []),(rl 0 11 []),(rl 0 11 []),(rl 0 11 []),(rl 0 14 []),(rl 0 11 []),(rl 0 11 []),(rl 0 11 []),(rl 0 18 []),(rl 0 19 []),(rl 0 20 []),(rl 0 21 []),(rl 0 22 [])])) []
 (.ret (rl 0 8 (rl 9 44 []))))
def A96:AF:=⟨53,[.tmp 8],
 (.seq (.region 0 [o1 4 (bx 0 144 0),o1 5 (bx 1 144 1),o1 6 (bx 2 144 2),o1 7 (bx 3 144 3),o1 8 (sb false)] 4 none) []
 (.seq (.seq (.region 1 [o1 9 (ln 144 2 4),o1 10 (ln 144 2 5),o1 11 (ln 144 2 6),o1 12 (cs 106 [9,10,11] [144,144,144]),mv 13 12,og 14 (ln 144 2 4) 13 false,og 15 (ln 144 2 5) 13 false,og 16 (ln 144 2 7) 13 false,og 17 (cs 106 [14,15,16] [144,144,144]) 13 false,o1 18 (pa 13 17),mv 19 18,og 20 (ln 144 2 6) 19 false,og 21 (ln 144 2 7) 19 false,og 22 (ln 144 2 4) 19 false,og 23 (cs 106 [20,21,22] [144,144,144]) 19 false,o1 24 (pa 19 23),mv 25 24,og 26 (ln 144 2 6) 25 false,og 27 (ln 144 2 7) 25 false,og 28 (ln 144 2 5) 25 false,og 29 (cs 106 [26,27,28] [144,144,144]) 25 false,o1 30 (pa 25 29)] 0 none) []
 (.cond (tm 30)
 (.seq (.region 2 [o1 8 (sb true)] 0 none) []
  (.ret (rl 0 8 (rl 9 44 []))))
 .skip)) (rl 8 23 [])
 A96v1))⟩
def F68 (x0 x1 x2 x3 x4 x5 x6 x7:Int):Option (Bool) :=
 (ob (F83 u x0 x1 x2 x3 x4 x5) fun x8=>(bif (x8==false) then (ob (F83 u x0 x1 x2 x3 x6 x7) fun x9=>(bif (x9==false) then (ob (F83 u x4 x5 x6 x7 x0 x1) fun xA=>(bif (xA==false) then (ob (F83 u x4 x5 x6 x7 x2 x3) fun xB=>(bif xB then (some true) else (ob (F84 u x0 x1 x2 x3 x4 x5) fun xC=>(ob (F84 u x0 x1 x2 x3 x6 x7) fun xD=>(bif ((decide ((w64 (xC*xD))<0))==true) then (ob (F84 u x4 x5 x6 x7 x0 x1) fun xE=>(ob (F84 u x4 x5 x6 x7 x2 x3) fun xF=>(some (decide ((w64 (xE*xF))<0))))) else (some false)))))) else (some true))) else (some true))) else (some true)))
theorem e68:evalF (C37 u) u A96 [.agg [(vi i0),(vi i1)],.agg [(vi i2),(vi i3)],.agg [(vi i4),(vi i5)],.agg [(vi i6),(vi i7)]]=ob (F68 u i0 i1 i2 i3 i4 i5 i6 i7) fun t=>some [.v (.b t)]:=by
 simp only [F68,ob_bif,ob_ob,ob_none,ob_some]
 kernel_rfl
def O68:Ora:=mkO (qc (ag (tc ci (t1 ci))) (qc (ag (tc ci (t1 ci))) (qc (ag (tc ci (t1 ci))) (q1 (ag (tc ci (t1 ci))))))) (fun x=>F68 u x.1.1 x.1.2 x.2.1.1 x.2.1.2 x.2.2.1.1 x.2.2.1.2 x.2.2.2.1 x.2.2.2.2) fun t=>[.v (.b t)]
theorem d68:DO (O68 u) (C37 u) 96 A96:=dO u (fun x=>by exact e68 u x.1.1 x.1.2 x.2.1.1 x.2.1.2 x.2.2.1.1 x.2.2.1.2 x.2.2.2.1 x.2.2.2.2)
def C38:Oracle:=(C37 u).add 96 (fun _=>true) (O68 u)
def A81v1:AC:=(.region 6 [mv 17 6,o1 18 (bk .add 3 17 1),o1 6 (sg 18)] 0 none)
def A81v2:AC:=(.seq (.block 3
 (.seq (.region 7 [mv 19 0,mv 20 5,o1 21 (.indexAddr 83 144 2 (tm 19) (tm 20)),o1 22 (ln 144 2 21),mv 23 0,mv 24 5,o1 25 (bk .add 3 24 1),mv 26 0,o1 27 (.len 83 false (tm 26)),o1 28 (bt .rem 3 25 27),o1 29 (.indexAddr 83 144 2 (tm 23) (tm 28)),o1 30 (ln 144 2 29),mv 31 1,mv 32 6,o1 33 (.indexAddr 83 144 2 (tm 31) (tm 32)),o1 34 (ln 144 2 33),mv 35 1,mv 36 6,o1 37 (bk .add 3 36 1),mv 38 1,o1 39 (.len 83 false (tm 38)),o1 40 (bt .rem 3 37 39),o1 41 (.indexAddr 83 144 2 (tm 35) (tm 40)),o1 42 (ln 144 2 41),o1 43 (cs 96 [22,30,34,42] [144,144,144,144])] 0 (some [[],[],[0,1],[0,1,2],[],[],[5],[],[7],(rl 5 4 []),(rl 4 6 []),(rl 4 7 []),[],[],[12,13],[12,13,14],[],[],[17],[],[19],(rl 17 4 []),(rl 16 6 []),(rl 16 7 []),(rl 0 24 [])])) []
  (.cond (tm 43)
  (.seq (.region 8 [o1 4 (sb true)] 0 none) []
   (.ret (rl 0 4 (rl 5 39 []))))
  .skip))) (4 :: (rl 19 25 []))
 A81v1)
def A81v3:AC:=(.seq (.seq (.region 5 [mv 13 6,mv 14 1,o1 15 (.len 83 false (tm 14)),o1 16 (bt .lss 3 13 15)] 0 none) []
 (.cond (tm 16)
 .skip
 (.exit 2 (2 :: 3 :: 4 :: (rl 6 38 []))))) (rl 13 4 [])
 A81v2)
def A81v4:AC:=(.region 3 [mv 11 5,o1 12 (bk .add 3 11 1),o1 5 (sg 12)] 0 none)
def A81v5:AC:=(.seq (.block 1
 (.seq (.region 4 [o1 6 (sk 0)] 0 none) []
  (.block 2
  (.loop [] (2 :: 3 :: 4 :: (rl 7 37 []))
   A81v3)))) (4 :: 6 :: (rl 13 31 []))
 A81v4)
def A81v6:AC:=(.seq (.seq (.region 2 [mv 7 5,mv 8 0,o1 9 (.len 83 false (tm 8)),o1 10 (bt .lss 3 7 9)] 0 none) []
 (.cond (tm 10)
 .skip
 (.exit 0 (rl 0 44 [])))) (rl 7 4 [])
 A81v5)
def A81v7:AC:=(.seq (.region 9 [o1 4 (sb false)] 0 none) []
 (.ret (rl 0 4 (rl 5 39 []))))
def A81:AF:=⟨44,[.tmp 4],
 (.seq (.region 0 [o1 4 (sb false)] 0 none) []
 (.seq (.seq (.region 1 [o1 5 (sk 0)] 0 none) []
 (.block 0
 (.loop [] (2 :: 3 :: 4 :: (rl 6 38 []))
  A81v6))) (rl 4 40 [])
 A81v7))⟩
def N39v2:St→Option St:=nN 0 (2 :: 3 :: 4 :: (rl 7 37 []))
def s39v0:St:=⟨(.x (.c (ro kP n0 f0)) :: .x (.c (ro kP n1 f1)) :: (us 3 (vxi i0 :: vxi i1 :: (us 37 [])))),[]⟩
def s39v1:St:=⟨(us 4 (vxb true :: (us 39 []))),[]⟩
def s39v2:St:=⟨(.x (.c (ro kP n0 f0)) :: .x (.c (ro kP n1 f1)) :: (us 3 (vxi i0 :: (us 38 [])))),[]⟩
def L39v2 {ρ:Type} (u:Nat) (x0:Nat) (x1:FF) (x2:Nat) (x3:FF) (x4:Int):Nat→Int→(Option ρ)→(Option ρ)→Option ρ
 | 0,_,_,_=>none
 | m+1,x5,k0,k1 =>
  (bif (decide (x5<(Int.ofNat x2))) then (bif (inb x4 x0) then (bif ((Int.ofNat x0)==0) then none else (bif (inb (Int.tmod (w64 (x4+1)) (Int.ofNat x0)) x0) then (bif (inb x5 x2) then (bif ((Int.ofNat x2)==0) then none else (bif (inb (Int.tmod (w64 (x5+1)) (Int.ofNat x2)) x2) then (ob (F68 u (x1 x4.toNat 0).int (x1 x4.toNat 1).int (CV.int (x1 (Int.toNat (Int.tmod (w64 (x4+1)) (Int.ofNat x0))) 0)) (CV.int (x1 (Int.toNat (Int.tmod (w64 (x4+1)) (Int.ofNat x0))) 1)) (x3 x5.toNat 0).int (x3 x5.toNat 1).int (CV.int (x3 (Int.toNat (Int.tmod (w64 (x5+1)) (Int.ofNat x2))) 0)) (CV.int (x3 (Int.toNat (Int.tmod (w64 (x5+1)) (Int.ofNat x2))) 1))) fun x6=>(bif x6 then k0 else (L39v2 u x0 x1 x2 x3 x4 m (w64 (x5+1)) k0 k1))) else none)) else none) else none)) else none) else k1)
theorem nl39v2:∀ (m:Nat) (x0:Int) (k0:Option ρ) (k1:Option ρ),ob (L39v2 u n0 f0 n1 f1 i0 m x0 k0 k1) ng=L39v2 u n0 f0 n1 f1 i0 m x0 (ob k0 ng) (ob k1 ng)
 | 0,_,_,_=>rfl
 | m+1,x0,k0,k1=>by
  simp only [L39v2,ob_bif,ob_ob,ob_none,nl39v2 m]
theorem q39v2:∀ (m:Nat) (x0:Int),
  loopH (eB A81v3 (C38 u) u) N39v2 m (s39v0 n0 n1 f0 f1 i0 x0) k=L39v2 u n0 f0 n1 f1 i0 m x0 (k .ret s39v1) (k (.exit 2) (s39v2 n0 n1 f0 f1 i0))
 | 0,_=>rfl
 | m+1,x0=>by
  simp only [L39v2,← q39v2 m]
  kernel_rfl
def N39v3:St→Option St:=nN 0 (2 :: 3 :: 4 :: (rl 6 38 []))
def s39v3:St:=⟨(.x (.c (ro kP n0 f0)) :: .x (.c (ro kP n1 f1)) :: (us 3 (vxi i0 :: (us 38 [])))),[]⟩
def s39v4:St:=⟨(us 44 []),[]⟩
def L39v3 {ρ:Type} (u:Nat) (x0:Nat) (x1:FF) (x2:Nat) (x3:FF):Nat→Int→(Option ρ)→(Option ρ)→Option ρ
 | 0,_,_,_=>none
 | m+1,x4,k0,k1 =>
  (bif (decide (x4<(Int.ofNat x0))) then (L39v2 u x0 x1 x2 x3 x4 u 0
  k0
  (L39v3 u x0 x1 x2 x3 m (w64 (x4+1)) k0 k1)) else k1)
theorem nl39v3:∀ (m:Nat) (x0:Int) (k0:Option ρ) (k1:Option ρ),ob (L39v3 u n0 f0 n1 f1 m x0 k0 k1) ng=L39v3 u n0 f0 n1 f1 m x0 (ob k0 ng) (ob k1 ng)
 | 0,_,_,_=>rfl
 | m+1,x0,k0,k1=>by
  simp only [L39v3,ob_bif,ob_ob,ob_none,nl39v3 m,nl39v2]
def s39v5:St:=⟨(.x (.c (ro kP n0 f0)) :: .x (.c (ro kP n1 f1)) :: (us 3 (vxi i0 :: vxi 0 :: (us 37 [])))),[]⟩
theorem r39v3 :
  loopH (eB A81v6 (C38 u) u) N39v3 (m+1) (s39v3 n0 n1 f0 f1 i0) k =
  (bif (decide (i0<(Int.ofNat n0))) then (loopN (eB A81v3 (C38 u) u) N39v2 u (s39v5 n0 n1 f0 f1 i0) (kBlk 2 (kBlk 1 (kSeq (C38 u) u (4 :: 6 :: (rl 13 31 [])) A81v4 (kLoop (eB A81v6 (C38 u) u) N39v3 m k))))) else (k (.exit 0) s39v4)):=by kernel_rfl
theorem t39v1 :
  loopN (eB A81v3 (C38 u) u) N39v2 u (s39v5 n0 n1 f0 f1 i0) k =
  L39v2 u n0 f0 n1 f1 i0 u 0 (k .ret s39v1) (k (.exit 2) (s39v2 n0 n1 f0 f1 i0)) :=
 Eq.trans (loopN_at (by kernel_rfl)) (q39v2 ..)
theorem g39v2 :
  (kBlk 2 (kBlk 1 (kSeq (C38 u) u (4 :: 6 :: (rl 13 31 [])) A81v4 (kLoop (eB A81v6 (C38 u) u) N39v3 m k)))) .ret s39v1 =
  (k .ret s39v1):=by kernel_rfl
theorem g39v3 :
  (kBlk 2 (kBlk 1 (kSeq (C38 u) u (4 :: 6 :: (rl 13 31 [])) A81v4 (kLoop (eB A81v6 (C38 u) u) N39v3 m k)))) (.exit 2) (s39v2 n0 n1 f0 f1 i0) =
  (loopH (eB A81v6 (C38 u) u) N39v3 m (s39v3 n0 n1 f0 f1 (w64 (i0+1))) k):=by kernel_rfl
theorem q39v3:∀ (m:Nat) (x0:Int),
  loopH (eB A81v6 (C38 u) u) N39v3 m (s39v3 n0 n1 f0 f1 x0) k=L39v3 u n0 f0 n1 f1 m x0 (k .ret s39v1) (k (.exit 0) s39v4)
 | 0,_=>rfl
 | m+1,x0=>by
  rw [r39v3]
  simp only [L39v3,q39v3 m,t39v1,g39v2,g39v3]
def F39 (x0:Nat) (x1:FF) (x2:Nat) (x3:FF):Option (Bool) :=
 (L39v3 u x0 x1 x2 x3 u 0
  (some true)
  (some false))
def s39v6:St:=⟨[.x (.c (ro kP n0 f0)),.x (.c (ro kP n1 f1)),uu,uu,vxb false,vxi 0,uu,uu,uu,uu,uu,uu,uu,uu,uu,uu,uu,uu,uu,uu,uu,uu,uu,uu,uu,uu,uu,uu,uu,uu,uu,uu,uu,uu,uu,uu,uu,uu,uu,uu,uu,uu,uu,uu],[]⟩
theorem t39v4 :
  loopN (eB A81v6 (C38 u) u) N39v3 u (s39v6 n0 n1 f0 f1) k =
  L39v3 u n0 f0 n1 f1 u 0 (k .ret s39v1) (k (.exit 0) s39v4) :=
 Eq.trans (loopN_at (by kernel_rfl)) (q39v3 ..)
theorem g39v5 :
  (kBlk 0 (kSeq (C38 u) u (rl 4 40 []) A81v7 (finish A81))) .ret s39v1 =
  (some [.v (.b true)]):=by kernel_rfl
theorem g39v6 :
  (kBlk 0 (kSeq (C38 u) u (rl 4 40 []) A81v7 (finish A81))) (.exit 0) s39v4 =
  (some [.v (.b false)]):=by kernel_rfl
theorem e39:evalF (C38 u) u A81 [.v (ro kP n0 f0),.v (ro kP n1 f1)]=ob (F39 u n0 f0 n1 f1) fun t=>some [.v (.b t)]:=Eq.trans (b:=(loopN (eB A81v6 (C38 u) u) N39v3 u (s39v6 n0 n1 f0 f1) (kBlk 0 (kSeq (C38 u) u (rl 4 40 []) A81v7 (finish A81))))) (by kernel_rfl) (by
 simp only [F39,ob_bif,ob_ob,ob_none,ob_some,nl39v3,t39v4,g39v5,g39v6])
def O39:Ora:=mkO (qc (av (cL kP)) (q1 (av (cL kP)))) (fun x=>F39 u x.1.1 x.1.2 x.2.1 x.2.2) fun t=>[.v (.b t)]
theorem d39:DO (O39 u) (C38 u) 81 A81:=dO u (fun x=>by exact e39 u x.1.1 x.2.1 x.1.2 x.2.2)
def C39:Oracle:=(C38 u).add 81 (fun _=>true) (O39 u)
def A82v1:AC:=(.seq (.region 10 [o1 41 (fa 144 7 1 1),o1 42 (lo 3 41),o1 43 (fa 144 3 1 1),o1 44 (lo 3 43),o1 45 (bt .leq 3 42 44),mv 46 45,og 47 (fa 144 3 1 1) 46 true,og 48 (lo 3 47) 46 true,og 49 (fa 144 8 1 1) 46 true,og 50 (lo 3 49) 46 true,og 51 (bt .lss 3 48 50) 46 true,o1 52 (po 46 51),mv 53 52,og 54 (ln 144 2 7) 53 true,og 55 (ln 144 2 8) 53 true,og 56 (ln 144 2 3) 53 true,og 57 (cs 99 [54,55,56] [144,144,144]) 53 true,og 58 (bk .gtr 3 57 0) 53 true,o1 59 (po 53 58),o1 9 (sg 59)] 0 none) []
 (.seq (.region 11 [o1 60 (fa 144 8 1 1),o1 61 (lo 3 60),o1 62 (fa 144 3 1 1),o1 63 (lo 3 62),o1 64 (bt .leq 3 61 63),mv 65 64,og 66 (fa 144 3 1 1) 65 true,og 67 (lo 3 66) 65 true,og 68 (fa 144 7 1 1) 65 true,og 69 (lo 3 68) 65 true,og 70 (bt .lss 3 67 69) 65 true,o1 71 (po 65 70),mv 72 71,og 73 (ln 144 2 7) 72 true,og 74 (ln 144 2 8) 72 true,og 75 (ln 144 2 3) 72 true,og 76 (cs 99 [73,74,75] [144,144,144]) 72 true,og 77 (bk .lss 3 76 0) 72 true,o1 78 (po 72 77),o1 10 (sg 78)] 0 none) []
 (.seq (.region 12 [mv 79 9,mv 80 79,og 81 (.move (tm 10)) 80 false,o1 82 (pa 80 81)] 0 none) []
 (.cond (tm 82)
 (.region 13 [mv 83 5,o1 84 (.unOp .not 4 (tm 83)),o1 5 (sg 84)] 0 none)
 .skip))))
def A82v2:AC:=(.region 6 [mv 23 6,o1 24 (bk .add 3 23 1),o1 6 (sg 24)] 0 none)
def A82v3:AC:=(.seq (.block 1
 (.seq (.region 7 [mv 25 0,mv 26 6,o1 27 (.indexAddr 83 144 2 (tm 25) (tm 26)),o1 28 (ln 144 2 27),mv 29 0,mv 30 6,o1 31 (bk .add 3 30 1),mv 32 0,o1 33 (.len 83 false (tm 32)),o1 34 (bt .rem 3 31 33),o1 35 (.indexAddr 83 144 2 (tm 29) (tm 34)),o1 36 (ln 144 2 35),o1 7 (.alloc 0 144 [vci 0,vci 0]),o1 8 (.alloc 1 144 [vci 0,vci 0]),o0 (.store 144 2 (tm 7) (tm 28)),o0 (.store 144 2 (tm 8) (tm 36))] 2 (some [[],[],[0,1],[0,1,2],[],[],[5],[],[7],(rl 5 4 []),(rl 4 6 []),(rl 4 7 []),[],[],(rl 0 4 [12,13]),(rl 0 15 [])])) []
  (.seq (.seq (.region 8 [o1 37 (ln 144 2 3),o1 38 (ln 144 2 7),o1 39 (ln 144 2 8),o1 40 (cs 98 [37,38,39] [144,144,144])] 0 none) []
  (.cond (tm 40)
  (.seq (.region 9 [o1 4 (sk 0)] 0 none) []
   (.ret (rl 0 4 (rl 5 81 []))))
  .skip)) (4 :: (rl 37 4 []))
  A82v1))) (4 :: (rl 7 4 (rl 25 60 [])))
 A82v2)
def A82v4:AC:=(.seq (.seq (.region 5 [mv 19 6,mv 20 0,o1 21 (.len 83 false (tm 20)),o1 22 (bt .lss 3 19 21)] 0 none) []
 (.cond (tm 22)
 .skip
 (.exit 0 (rl 0 5 (rl 6 80 []))))) (rl 19 4 [])
 A82v3)
def A82v5:AC:=(.seq (.region 16 [o1 4 (sk (-1))] 0 none) []
 (.ret (rl 0 4 (rl 5 81 []))))
def A82v6:AC:=(.seq (.seq (.region 14 [mv 85 5] 0 none) []
 (.cond (tm 85)
 (.seq (.region 15 [o1 4 (sk 1)] 0 none) []
  (.ret (rl 0 4 (rl 5 81 []))))
 .skip)) [4,85]
 A82v5)
def A82v7:AC:=(.seq (.region 3 [o1 5 (sb false)] 0 none) []
 (.seq (.seq (.region 4 [o1 6 (sk 0)] 0 none) []
 (.block 0
 (.loop [] (1 :: 2 :: 4 :: (rl 7 79 []))
  A82v4))) (4 :: (rl 6 5 (rl 19 66 [])))
 A82v6))
def A82:AF:=⟨86,[.tmp 4],
 (.seq (.region 0 [o1 3 (bx 0 144 1),o1 4 (sk 0)] 1 none) []
 (.seq (.seq (.region 1 [mv 11 0,o1 12 (cs 79 [11] [83]),o1 13 (bk .neq 34 12 0),mv 14 13,og 15 (ln 144 2 3) 14 false,og 16 (cs 97 [15] [144]) 14 false,og 17 (.unOp .not 4 (tm 16)) 14 false,o1 18 (pa 14 17)] 0 none) []
 (.cond (tm 18)
 (.seq (.region 2 [o1 4 (sk (-1))] 0 none) []
  (.ret (rl 0 4 (rl 5 81 []))))
 .skip)) (4 :: (rl 11 8 []))
 A82v7))⟩
def N40v1:St→Option St:=nN 1 (1 :: 2 :: 4 :: (rl 7 79 []))
def s40v0:St:=⟨(.x (.c (ro kP n0 f0)) :: .u :: .u :: .x (.ptr 0 0) :: .u :: vxb b0 :: vxi i0 :: (us 79 [])),[.box [(vci i1),(vci i2)]]⟩
def s40v1:St:=⟨(us 4 (vxi 0 :: (us 81 []))),[.box [(vci i0),(vci i1)],.box [(vci i2),(vci i3)],.box [(vci i4),(vci i5)]]⟩
def s40v2:St:=⟨(us 5 (vxb b0 :: (us 80 []))),[.box [(vci i0),(vci i1)]]⟩
def L40v1 {ρ:Type} (u:Nat) (x0:Nat) (x1:FF) (x2 x3:Int):Nat→Bool→Int→(Int→Int→Int→Int→Option ρ)→(Bool→Option ρ)→Option ρ
 | 0,_,_,_,_=>none
 | m+1,x4,x5,k0,k1 =>
  (bif (decide (x5<(Int.ofNat x0))) then (bif (inb x5 x0) then (bif ((Int.ofNat x0)==0) then none else (bif (inb (Int.tmod (w64 (x5+1)) (Int.ofNat x0)) x0) then (ob (F70 u x2 x3 (x1 x5.toNat 0).int (x1 x5.toNat 1).int (CV.int (x1 (Int.toNat (Int.tmod (w64 (x5+1)) (Int.ofNat x0))) 0)) (CV.int (x1 (Int.toNat (Int.tmod (w64 (x5+1)) (Int.ofNat x0))) 1))) fun x6=>(bif x6 then (k0 (x1 x5.toNat 0).int (x1 x5.toNat 1).int (CV.int (x1 (Int.toNat (Int.tmod (w64 (x5+1)) (Int.ofNat x0))) 0)) (CV.int (x1 (Int.toNat (Int.tmod (w64 (x5+1)) (Int.ofNat x0))) 1))) else (bif ((decide ((x1 x5.toNat 1).int≤x3))==true) then (bif ((decide (x3<(CV.int (x1 (Int.toNat (Int.tmod (w64 (x5+1)) (Int.ofNat x0))) 1))))==true) then (ob (F71 u (x1 x5.toNat 0).int (x1 x5.toNat 1).int (CV.int (x1 (Int.toNat (Int.tmod (w64 (x5+1)) (Int.ofNat x0))) 0)) (CV.int (x1 (Int.toNat (Int.tmod (w64 (x5+1)) (Int.ofNat x0))) 1)) x2 x3) fun x7=>(bif ((decide ((CV.int (x1 (Int.toNat (Int.tmod (w64 (x5+1)) (Int.ofNat x0))) 1))≤x3))==true) then (bif ((decide (x3<(x1 x5.toNat 1).int))==true) then (ob (F71 u (x1 x5.toNat 0).int (x1 x5.toNat 1).int (CV.int (x1 (Int.toNat (Int.tmod (w64 (x5+1)) (Int.ofNat x0))) 0)) (CV.int (x1 (Int.toNat (Int.tmod (w64 (x5+1)) (Int.ofNat x0))) 1)) x2 x3) fun x8=>(bif ((decide (x7>0))==false) then (bif (decide (x8<0)) then (L40v1 u x0 x1 x2 x3 m (!x4) (w64 (x5+1)) k0 k1) else (L40v1 u x0 x1 x2 x3 m x4 (w64 (x5+1)) k0 k1)) else (L40v1 u x0 x1 x2 x3 m (!x4) (w64 (x5+1)) k0 k1))) else (bif ((decide (x7>0))==false) then (L40v1 u x0 x1 x2 x3 m x4 (w64 (x5+1)) k0 k1) else (L40v1 u x0 x1 x2 x3 m (!x4) (w64 (x5+1)) k0 k1))) else (bif ((decide (x7>0))==false) then (L40v1 u x0 x1 x2 x3 m x4 (w64 (x5+1)) k0 k1) else (L40v1 u x0 x1 x2 x3 m (!x4) (w64 (x5+1)) k0 k1)))) else (bif ((decide ((CV.int (x1 (Int.toNat (Int.tmod (w64 (x5+1)) (Int.ofNat x0))) 1))≤x3))==true) then (bif ((decide (x3<(x1 x5.toNat 1).int))==true) then (ob (F71 u (x1 x5.toNat 0).int (x1 x5.toNat 1).int (CV.int (x1 (Int.toNat (Int.tmod (w64 (x5+1)) (Int.ofNat x0))) 0)) (CV.int (x1 (Int.toNat (Int.tmod (w64 (x5+1)) (Int.ofNat x0))) 1)) x2 x3) fun x9=>(bif (decide (x9<0)) then (L40v1 u x0 x1 x2 x3 m (!x4) (w64 (x5+1)) k0 k1) else (L40v1 u x0 x1 x2 x3 m x4 (w64 (x5+1)) k0 k1))) else (L40v1 u x0 x1 x2 x3 m x4 (w64 (x5+1)) k0 k1)) else (L40v1 u x0 x1 x2 x3 m x4 (w64 (x5+1)) k0 k1))) else (bif ((decide ((CV.int (x1 (Int.toNat (Int.tmod (w64 (x5+1)) (Int.ofNat x0))) 1))≤x3))==true) then (bif ((decide (x3<(x1 x5.toNat 1).int))==true) then (ob (F71 u (x1 x5.toNat 0).int (x1 x5.toNat 1).int (CV.int (x1 (Int.toNat (Int.tmod (w64 (x5+1)) (Int.ofNat x0))) 0)) (CV.int (x1 (Int.toNat (Int.tmod (w64 (x5+1)) (Int.ofNat x0))) 1)) x2 x3) fun xA=>(bif (decide (xA<0)) then (L40v1 u x0 x1 x2 x3 m (!x4) (w64 (x5+1)) k0 k1) else (L40v1 u x0 x1 x2 x3 m x4 (w64 (x5+1)) k0 k1))) else (L40v1 u x0 x1 x2 x3 m x4 (w64 (x5+1)) k0 k1)) else (L40v1 u x0 x1 x2 x3 m x4 (w64 (x5+1)) k0 k1))))) else none)) else none) else (k1 x4))
theorem nl40v1:∀ (m:Nat) (x0:Bool) (x1:Int) (k0:Int→Int→Int→Int→Option ρ) (k1:Bool→Option ρ),ob (L40v1 u n0 f0 i0 i1 m x0 x1 k0 k1) ng=L40v1 u n0 f0 i0 i1 m x0 x1 (fun x2 x3 x4 x5=>ob (k0 x2 x3 x4 x5) ng) (fun x6=>ob (k1 x6) ng)
 | 0,_,_,_,_=>rfl
 | m+1,x0,x1,k0,k1=>by
  simp only [L40v1,ob_bif,ob_ob,ob_none,nl40v1 m]
theorem q40v1:∀ (m:Nat) (x0:Bool) (x1:Int),
  loopH (eB A82v4 (C39 u) u) N40v1 m (s40v0 n0 f0 x1 i0 i1 x0) k=L40v1 u n0 f0 i0 i1 m x0 x1 (fun x2 x3 x4 x5=>k .ret (s40v1 i0 i1 x2 x3 x4 x5)) (fun x6=>k (.exit 0) (s40v2 i0 i1 x6))
 | 0,_,_=>rfl
 | m+1,x0,x1=>by
  simp only [L40v1,← q40v1 m]
  kernel_rfl
def F40 (x0:Nat) (x1:FF) (x2 x3:Int):Option (Int) :=
 (ob (F37 u x0 x1) fun x4=>(bif ((x4 != 0)==false) then (ob (F69 u x2 x3) fun x5=>(bif (!x5) then (some (-1)) else (L40v1 u x0 x1 x2 x3 u false 0
  (fun x6 x7 x8 x9=>(some 0))
  (fun xA=>(bif xA then (some 1) else (some (-1))))))) else (some (-1))))
def s40v3:St:=⟨(.x (.c (ro kP n0 f0)) :: .agg [(vci i0),(vci i1)] :: uu :: .x (.ptr 0 0) :: .u :: vxb false :: vxi 0 :: uu :: uu :: uu :: uu :: (us 8 [uu,uu,uu,uu,uu,uu,uu,uu,uu,uu,uu,uu,uu,uu,uu,uu,uu,uu,uu,uu,uu,uu,uu,uu,uu,uu,uu,uu,uu,uu,uu,uu,uu,uu,uu,uu,uu,uu,uu,uu,uu,uu,uu,uu,uu,uu,uu,uu,uu,uu,uu,uu,uu,uu,uu,uu,uu,uu,uu,uu,uu,uu,uu,uu,uu,uu,uu])),[.box [(vci i0),(vci i1)]]⟩
theorem t40v1 :
  loopN (eB A82v4 (C39 u) u) N40v1 u (s40v3 n0 f0 i0 i1) k =
  L40v1 u n0 f0 i0 i1 u false 0 (fun x0 x1 x2 x3=>k .ret (s40v1 i0 i1 x0 x1 x2 x3)) (fun x4=>k (.exit 0) (s40v2 i0 i1 x4)) :=
 Eq.trans (loopN_at (by kernel_rfl)) (q40v1 ..)
theorem g40v2 :
  (kBlk 0 (kSeq (C39 u) u (4 :: (rl 6 5 (rl 19 66 []))) A82v6 (finish A82))) .ret (s40v1 i0 i1 i2 i3 i4 i5) =
  (some [.v (vi 0)]):=by kernel_rfl
theorem g40v3 :
  (kBlk 0 (kSeq (C39 u) u (4 :: (rl 6 5 (rl 19 66 []))) A82v6 (finish A82))) (.exit 0) (s40v2 i0 i1 b0) =
  (bif b0 then (some [.v (vi 1)]) else (some [.v (vi (-1))])):=by kernel_rfl
theorem e40:evalF (C39 u) u A82 [.v (ro kP n0 f0),.agg [(vi i0),(vi i1)]]=ob (F40 u n0 f0 i0 i1) fun t=>some [.v (vi t)]:=Eq.trans (b:=(ob (F37 u n0 f0) fun x0=>(bif ((x0 != 0)==false) then (ob (F69 u i0 i1) fun x1=>(bif (!x1) then (some [.v (vi (-1))]) else (loopN (eB A82v4 (C39 u) u) N40v1 u (s40v3 n0 f0 i0 i1) (kBlk 0 (kSeq (C39 u) u (4 :: (rl 6 5 (rl 19 66 []))) A82v6 (finish A82)))))) else (some [.v (vi (-1))])))) (by kernel_rfl) (by
 simp only [F40,ob_bif,ob_ob,ob_none,ob_some,nl40v1,t40v1,g40v2,g40v3])
def O40:Ora:=mkO (qc (av (cL kP)) (q1 (ag (tc ci (t1 ci))))) (fun x=>F40 u x.1.1 x.1.2 x.2.1 x.2.2) fun t=>[.v (vi t)]
theorem d40:DO (O40 u) (C39 u) 82 A82:=dO u (fun x=>by exact e40 u x.1.1 x.1.2 x.2.1 x.2.2)
def C40:Oracle:=(C39 u).add 82 (fun _=>true) (O40 u)
def A66v1:AC:=(.region 19 [mv 60 7,o1 61 (bk .add 3 60 1),o1 7 (sg 61)] 0 none)
def A66v2:AC:=(.seq (.block 3
 (.seq (.region 20 [mv 62 5,o1 63 (fa 86 1 1 1),o1 64 (lo 84 63),mv 65 7,o1 66 (.indexAddr 84 83 1 (tm 64) (tm 65)),o1 67 (lo 83 66),o1 68 (cs 81 [62,67] [83,83]),mv 69 68,og 70 (.move (tm 5)) 69 false,og 71 (fa 86 1 1 1) 69 false,og 72 (lo 84 71) 69 false,og 73 (.move (tm 7)) 69 false,og 74 (.indexAddr 84 83 1 (tm 72) (tm 73)) 69 false,og 75 (lo 83 74) 69 false,og 76 (.indexAddr 83 144 2 (tm 75) (ic 0)) 69 false,og 77 (ln 144 2 76) 69 false,og 78 (cs 82 [70,77] [83,144]) 69 false,og 79 (bk .neq 3 78 (-1)) 69 false,o1 80 (pa 69 79),mv 81 80,og 82 (fa 86 1 1 1) 81 false,og 83 (lo 84 82) 81 false,og 84 (.move (tm 7)) 81 false,og 85 (.indexAddr 84 83 1 (tm 83) (tm 84)) 81 false,og 86 (lo 83 85) 81 false,og 87 (.move (tm 5)) 81 false,og 88 (.indexAddr 83 144 2 (tm 87) (ic 0)) 81 false,og 89 (ln 144 2 88) 81 false,og 90 (cs 82 [86,89] [83,144]) 81 false,og 91 (bk .neq 3 90 (-1)) 81 false,o1 92 (pa 81 91)] 0 (some [[],[],[1],[],[1,2,3],(rl 1 4 []),(rl 0 6 []),(rl 0 7 []),(rl 0 8 []),(rl 0 8 []),(rl 0 8 [9]),(rl 0 8 []),(rl 0 8 [9,10,11]),(rl 0 8 (rl 9 4 [])),(rl 0 8 (rl 9 5 [])),(rl 0 8 (rl 9 6 [])),(rl 0 16 []),(rl 0 17 []),(rl 0 18 []),(rl 0 19 []),(rl 0 20 []),(rl 0 21 []),(rl 0 20 []),(rl 0 23 []),(rl 0 24 []),(rl 0 20 []),(rl 0 20 [25]),(rl 0 20 [25,26]),(rl 0 28 []),(rl 0 29 []),(rl 0 30 [])])) []
  (.cond (tm 92)
  (.seq (.region 21 [o1 2 (sk 17)] 0 none) []
   (.ret (0 :: 1 :: (rl 3 90 []))))
  .skip))) (2 :: (rl 62 31 []))
 A66v1)
def A66v3:AC:=(.seq (.seq (.region 18 [mv 57 7,mv 58 4,o1 59 (bt .lss 3 57 58)] 0 none) []
 (.cond (tm 59)
 .skip
 (.exit 2 (0 :: 2 :: 3 :: (rl 5 88 []))))) [57,58,59]
 A66v2)
def A66v4:AC:=(.seq (.region 17 [o1 7 (sk 0)] 0 none) []
 (.block 2
 (.loop [] (0 :: 2 :: 3 :: 6 :: (rl 8 85 []))
  A66v3)))
def A66v5:AC:=(.seq (.seq (.region 15 [mv 39 5,o1 40 (cs 80 [39] [83]),o1 41 (bk .geq 3 40 0),mv 42 41,og 43 (fa 86 1 0 0) 42 false,og 44 (lo 83 43) 42 false,og 45 (.move (tm 5)) 42 false,og 46 (cs 81 [44,45] [83,83]) 42 false,o1 47 (pa 42 46),mv 48 47,og 49 (fa 86 1 0 0) 48 false,og 50 (lo 83 49) 48 false,og 51 (.move (tm 5)) 48 false,og 52 (.indexAddr 83 144 2 (tm 51) (ic 0)) 48 false,og 53 (ln 144 2 52) 48 false,og 54 (cs 82 [50,53] [83,144]) 48 false,og 55 (bk .neq 3 54 1) 48 false,o1 56 (pa 48 55)] 0 (some [[],[0],[0,1],[0,1,2],(rl 0 4 []),(rl 0 5 []),(rl 0 4 []),(rl 0 7 []),(rl 0 8 []),(rl 0 9 []),(rl 0 10 []),(rl 0 11 []),(rl 0 10 []),(rl 0 10 [12]),(rl 0 10 [12,13]),(rl 0 15 []),(rl 0 16 []),(rl 0 17 [])])) []
 (.cond (tm 56)
 (.seq (.region 16 [o1 2 (sk 17)] 0 none) []
  (.ret (0 :: 1 :: (rl 3 90 []))))
 .skip)) (2 :: (rl 39 18 []))
 A66v4)
def A66v6:AC:=(.region 10 [mv 27 4,o1 28 (bk .add 3 27 1),o1 4 (sg 28)] 0 none)
def A66v7:AC:=(.seq (.block 1
 (.seq (.region 11 [o1 29 (fa 86 1 1 1),o1 30 (lo 84 29),mv 31 4,o1 32 (.indexAddr 84 83 1 (tm 30) (tm 31)),o1 33 (lo 83 32),o1 5 (sg 33)] 0 none) []
  (.seq (.seq (.region 12 [mv 34 5,o1 35 (cs 79 [34] [83]),o1 6 (sg 35)] 0 none) []
  (.seq (.region 13 [mv 36 6,o1 37 (bk .neq 34 36 0)] 0 none) []
  (.cond (tm 37)
  (.seq (.region 14 [mv 38 6,o1 2 (sg 38)] 0 none) []
   (.ret (0 :: 1 :: (rl 3 90 []))))
  .skip))) (2 :: 6 :: (rl 34 5 []))
  A66v5))) (2 :: 5 :: 6 :: 7 :: (rl 29 64 []))
 A66v6)
def A66v8:AC:=(.seq (.seq (.region 9 [mv 22 4,o1 23 (fa 86 1 1 1),o1 24 (lo 84 23),o1 25 (.len 84 false (tm 24)),o1 26 (bt .lss 3 22 25)] 0 none) []
 (.cond (tm 26)
 .skip
 (.exit 0 (rl 0 93 [])))) (rl 22 5 [])
 A66v7)
def A66v9:AC:=(.seq (.region 22 [o1 2 (sk 0)] 0 none) []
 (.ret (0 :: 1 :: (rl 3 90 []))))
def A66v10:AC:=(.seq (.seq (.region 8 [o1 4 (sk 0)] 0 none) []
 (.block 0
 (.loop [] (0 :: 2 :: 3 :: (rl 5 88 []))
  A66v8))) (2 :: (rl 4 4 (rl 22 71 [])))
 A66v9)
def A66v11:AC:=(.seq (.seq (.region 6 [o1 18 (fa 86 1 0 0),o1 19 (lo 83 18),o1 20 (cs 80 [19] [83]),o1 21 (bk .leq 3 20 0)] 0 none) []
 (.cond (tm 21)
 (.seq (.region 7 [o1 2 (sk 17)] 0 none) []
  (.ret (0 :: 1 :: (rl 3 90 []))))
 .skip)) (2 :: (rl 18 4 []))
 A66v10)
def A66v12:AC:=(.seq (.seq (.region 3 [o1 12 (fa 86 1 0 0),o1 13 (lo 83 12),o1 14 (cs 79 [13] [83]),o1 3 (sg 14)] 0 none) []
 (.seq (.region 4 [mv 15 3,o1 16 (bk .neq 34 15 0)] 0 none) []
 (.cond (tm 16)
 (.seq (.region 5 [mv 17 3,o1 2 (sg 17)] 0 none) []
  (.ret (0 :: 1 :: (rl 3 90 []))))
 .skip))) (2 :: 3 :: (rl 12 6 []))
 A66v11)
def A66:AF:=⟨93,[.tmp 2],
 (.seq (.region 0 [o1 1 (bx 0 86 0),o1 2 (sk 0)] 1 none) []
 (.seq (.seq (.region 1 [o1 8 (fa 86 1 1 1),o1 9 (lo 84 8),o1 10 (.len 84 false (tm 9)),o1 11 (bk .gtr 3 10 8)] 0 none) []
 (.cond (tm 11)
 (.seq (.region 2 [o1 2 (sk 12)] 0 none) []
  (.ret (0 :: 1 :: (rl 3 90 []))))
 .skip)) (2 :: (rl 8 4 []))
 A66v12))⟩
def N14v2:St→Option St:=nN 1 (0 :: 2 :: 3 :: 6 :: (rl 8 85 []))
def s14v0:St:=⟨(.u :: .x (.ptr 0 0) :: .u :: .u :: vxi i0 :: .x (.c (ro kP n0 f0)) :: .u :: vxi i1 :: (us 85 [])),[.box [(.c (ro kP n1 f1)),(.c (ro (.pr (.sl kP) .nil) n2 f2))]]⟩
def s14v1:St:=⟨(.u :: .u :: vxi 17 :: (us 90 [])),[.box [(.c (ro kP n0 f0)),(.c (ro (.pr (.sl kP) .nil) n1 f1))]]⟩
def s14v2:St:=⟨(.u :: .x (.ptr 0 0) :: .u :: .u :: vxi i0 :: (us 88 [])),[.box [(.c (ro kP n0 f0)),(.c (ro (.pr (.sl kP) .nil) n1 f1))]]⟩
def L14v2 {ρ:Type} (u:Nat) (x0:Int) (x1:Nat) (x2:FF) (x3:Nat) (x4:FF) (x5:Nat) (x6:FF):Nat→Int→(Option ρ)→(Option ρ)→Option ρ
 | 0,_,_,_=>none
 | m+1,x7,k0,k1 =>
  (bif (decide (x7<x0)) then (bif (inb x7 x5) then (ob (F39 u x1 x2 (x6 x7.toNat 0).len (x6 x7.toNat 0).el) fun x8=>(bif (x8==false) then (bif (inb x7 x5) then (bif (inb 0 (x6 x7.toNat 0).len) then (ob (F40 u x1 x2 ((x6 x7.toNat 0).el 0 0).int ((x6 x7.toNat 0).el 0 1).int) fun x9=>(bif ((x9 != (-1))==false) then (bif (inb x7 x5) then (bif (inb 0 x1) then (ob (F40 u (x6 x7.toNat 0).len (x6 x7.toNat 0).el (x2 0 0).int (x2 0 1).int) fun xA=>(bif (xA != (-1)) then k0 else (L14v2 u x0 x1 x2 x3 x4 x5 x6 m (w64 (x7+1)) k0 k1))) else none) else none) else k0)) else none) else none) else k0)) else none) else k1)
theorem nl14v2:∀ (m:Nat) (x0:Int) (k0:Option ρ) (k1:Option ρ),ob (L14v2 u i0 n0 f0 n1 f1 n2 f2 m x0 k0 k1) ng=L14v2 u i0 n0 f0 n1 f1 n2 f2 m x0 (ob k0 ng) (ob k1 ng)
 | 0,_,_,_=>rfl
 | m+1,x0,k0,k1=>by
  simp only [L14v2,ob_bif,ob_ob,ob_none,nl14v2 m]
theorem q14v2:∀ (m:Nat) (x0:Int),
  loopH (eB A66v3 (C40 u) u) N14v2 m (s14v0 n0 n1 n2 f0 f1 f2 i0 x0) k=L14v2 u i0 n0 f0 n1 f1 n2 f2 m x0 (k .ret (s14v1 n1 n2 f1 f2)) (k (.exit 2) (s14v2 n1 n2 f1 f2 i0))
 | 0,_=>rfl
 | m+1,x0=>by
  simp only [L14v2,← q14v2 m]
  kernel_rfl
def N14v3:St→Option St:=nN 1 (0 :: 2 :: 3 :: (rl 5 88 []))
def s14v3:St:=⟨(.u :: .x (.ptr 0 0) :: .u :: .u :: vxi i0 :: (us 88 [])),[.box [(.c (ro kP n0 f0)),(.c (ro (.pr (.sl kP) .nil) n1 f1))]]⟩
def s14v4:St:=⟨(.u :: .u :: vxi i0 :: (us 90 [])),[.box [(.c (ro kP n0 f0)),(.c (ro (.pr (.sl kP) .nil) n1 f1))]]⟩
def s14v5:St:=⟨(us 93 []),[.box [(.c (ro kP n0 f0)),(.c (ro (.pr (.sl kP) .nil) n1 f1))]]⟩
def L14v3 {ρ:Type} (u:Nat) (x0:Nat) (x1:FF) (x2:Nat) (x3:FF):Nat→Int→(Int→Option ρ)→(Option ρ)→Option ρ
 | 0,_,_,_=>none
 | m+1,x4,k0,k1 =>
  (bif (decide (x4<(Int.ofNat x2))) then (bif (inb x4 x2) then (ob (F37 u (x3 x4.toNat 0).len (x3 x4.toNat 0).el) fun x5=>(bif (x5 != 0) then (k0 x5) else (ob (F38 u (x3 x4.toNat 0).len (x3 x4.toNat 0).el) fun x6=>(bif ((decide (x6≥0))==false) then (ob (F39 u x0 x1 (x3 x4.toNat 0).len (x3 x4.toNat 0).el) fun x7=>(bif (x7==false) then (bif (inb 0 (x3 x4.toNat 0).len) then (ob (F40 u x0 x1 ((x3 x4.toNat 0).el 0 0).int ((x3 x4.toNat 0).el 0 1).int) fun x8=>(bif (x8 != 1) then (k0 17) else (L14v2 u x4 (x3 x4.toNat 0).len (x3 x4.toNat 0).el x0 x1 x2 x3 u 0
  (k0 17)
  (L14v3 u x0 x1 x2 x3 m (w64 (x4+1)) k0 k1)))) else none) else (k0 17))) else (k0 17))))) else none) else k1)
theorem nl14v3:∀ (m:Nat) (x0:Int) (k0:Int→Option ρ) (k1:Option ρ),ob (L14v3 u n0 f0 n1 f1 m x0 k0 k1) ng=L14v3 u n0 f0 n1 f1 m x0 (fun x1=>ob (k0 x1) ng) (ob k1 ng)
 | 0,_,_,_=>rfl
 | m+1,x0,k0,k1=>by
  simp only [L14v3,ob_bif,ob_ob,ob_none,nl14v3 m,nl14v2]
def s14v6:St:=⟨(.u :: .x (.ptr 0 0) :: .u :: .u :: vxi i0 :: .x (.c (ro kP (f0 i0.toNat 0).len (f0 i0.toNat 0).el)) :: .u :: vxi 0 :: (us 21 (.x (.ptr 0 1) :: .x (.c (ro (.pr (.sl kP) .nil) n0 f0)) :: vxi i0 :: .x (.c (.rp (.pr (.sl kP) .nil) (f0 i0.toNat))) :: .x (.c (ro kP (f0 i0.toNat 0).len (f0 i0.toNat 0).el)) :: (us 59 [])))),[.box [(.c (ro kP n1 f1)),(.c (ro (.pr (.sl kP) .nil) n0 f0))]]⟩
theorem r14v3 :
  loopH (eB A66v8 (C40 u) u) N14v3 (m+1) (s14v3 n0 n1 f0 f1 i0) k =
  (bif (decide (i0<(Int.ofNat n1))) then (bif (inb i0 n1) then (ob (F37 u (f1 i0.toNat 0).len (f1 i0.toNat 0).el) fun x0=>(bif (x0 != 0) then (k .ret (s14v4 n0 n1 f0 f1 x0)) else (ob (F38 u (f1 i0.toNat 0).len (f1 i0.toNat 0).el) fun x1=>(bif ((decide (x1≥0))==false) then (ob (F39 u n0 f0 (f1 i0.toNat 0).len (f1 i0.toNat 0).el) fun x2=>(bif (x2==false) then (bif (inb 0 (f1 i0.toNat 0).len) then (ob (F40 u n0 f0 ((f1 i0.toNat 0).el 0 0).int ((f1 i0.toNat 0).el 0 1).int) fun x3=>(bif (x3 != 1) then (k .ret (s14v4 n0 n1 f0 f1 17)) else (loopN (eB A66v3 (C40 u) u) N14v2 u (s14v6 n1 n0 f1 f0 i0) (kBlk 2 (kBlk 1 (kSeq (C40 u) u (2 :: 5 :: 6 :: 7 :: (rl 29 64 [])) A66v6 (kLoop (eB A66v8 (C40 u) u) N14v3 m k))))))) else none) else (k .ret (s14v4 n0 n1 f0 f1 17)))) else (k .ret (s14v4 n0 n1 f0 f1 17)))))) else none) else (k (.exit 0) (s14v5 n0 n1 f0 f1))):=by kernel_rfl
theorem t14v1 :
  loopN (eB A66v3 (C40 u) u) N14v2 u (s14v6 n0 n1 f0 f1 i0) k =
  L14v2 u i0 (f0 i0.toNat 0).len (f0 i0.toNat 0).el n1 f1 n0 f0 u 0 (k .ret (s14v1 n1 n0 f1 f0)) (k (.exit 2) (s14v2 n1 n0 f1 f0 i0)) :=
 Eq.trans (loopN_at (by kernel_rfl)) (q14v2 ..)
theorem g14v2 :
  (kBlk 2 (kBlk 1 (kSeq (C40 u) u (2 :: 5 :: 6 :: 7 :: (rl 29 64 [])) A66v6 (kLoop (eB A66v8 (C40 u) u) N14v3 m k)))) .ret (s14v1 n0 n1 f0 f1) =
  (k .ret (s14v4 n0 n1 f0 f1 17)):=by kernel_rfl
theorem g14v3 :
  (kBlk 2 (kBlk 1 (kSeq (C40 u) u (2 :: 5 :: 6 :: 7 :: (rl 29 64 [])) A66v6 (kLoop (eB A66v8 (C40 u) u) N14v3 m k)))) (.exit 2) (s14v2 n0 n1 f0 f1 i0) =
  (loopH (eB A66v8 (C40 u) u) N14v3 m (s14v3 n0 n1 f0 f1 (w64 (i0+1))) k):=by kernel_rfl
theorem q14v3:∀ (m:Nat) (x0:Int),
  loopH (eB A66v8 (C40 u) u) N14v3 m (s14v3 n0 n1 f0 f1 x0) k=L14v3 u n0 f0 n1 f1 m x0 (fun x1=>k .ret (s14v4 n0 n1 f0 f1 x1)) (k (.exit 0) (s14v5 n0 n1 f0 f1))
 | 0,_=>rfl
 | m+1,x0=>by
  rw [r14v3]
  simp only [L14v3,q14v3 m,t14v1,g14v2,g14v3]
def F14 (x0:Nat) (x1:FF) (x2:Nat) (x3:FF):Option (Int) :=
 (bif (decide ((Int.ofNat x2)>8)) then (some 12) else (ob (F37 u x0 x1) fun x4=>(bif (x4 != 0) then (some x4) else (ob (F38 u x0 x1) fun x5=>(bif (decide (x5≤0)) then (some 17) else (L14v3 u x0 x1 x2 x3 u 0
  (fun x6=>(some x6))
  (some 0)))))))
def s14v7:St:=⟨(.agg [(.c (ro kP n0 f0)),(.c (ro (.pr (.sl kP) .nil) n1 f1))] :: .x (.ptr 0 0) :: .u :: .u :: vxi 0 :: uu :: uu :: uu :: (us 14 [uu,uu,uu,uu,uu,uu,uu,uu,uu,uu,uu,uu,uu,uu,uu,uu,uu,uu,uu,uu,uu,uu,uu,uu,uu,uu,uu,uu,uu,uu,uu,uu,uu,uu,uu,uu,uu,uu,uu,uu,uu,uu,uu,uu,uu,uu,uu,uu,uu,uu,uu,uu,uu,uu,uu,uu,uu,uu,uu,uu,uu,uu,uu,uu,uu,uu,uu,uu,uu,uu,uu])),[.box [(.c (ro kP n0 f0)),(.c (ro (.pr (.sl kP) .nil) n1 f1))]]⟩
theorem t14v4 :
  loopN (eB A66v8 (C40 u) u) N14v3 u (s14v7 n0 n1 f0 f1) k =
  L14v3 u n0 f0 n1 f1 u 0 (fun x0=>k .ret (s14v4 n0 n1 f0 f1 x0)) (k (.exit 0) (s14v5 n0 n1 f0 f1)) :=
 Eq.trans (loopN_at (by kernel_rfl)) (q14v3 ..)
theorem g14v5 :
  (kBlk 0 (kSeq (C40 u) u (2 :: (rl 4 4 (rl 22 71 []))) A66v9 (finish A66))) .ret (s14v4 n0 n1 f0 f1 i0) =
  (some [.v (vi i0)]):=by kernel_rfl
theorem g14v6 :
  (kBlk 0 (kSeq (C40 u) u (2 :: (rl 4 4 (rl 22 71 []))) A66v9 (finish A66))) (.exit 0) (s14v5 n0 n1 f0 f1) =
  (some [.v (vi 0)]):=by kernel_rfl
theorem e14:evalF (C40 u) u A66 [.agg [(ro kP n0 f0),(ro (.pr (.sl kP) .nil) n1 f1)]]=ob (F14 u n0 f0 n1 f1) fun t=>some [.v (vi t)]:=Eq.trans (b:=(bif (decide ((Int.ofNat n1)>8)) then (some [.v (vi 12)]) else (ob (F37 u n0 f0) fun x0=>(bif (x0 != 0) then (some [.v (vi x0)]) else (ob (F38 u n0 f0) fun x1=>(bif (decide (x1≤0)) then (some [.v (vi 17)]) else (loopN (eB A66v8 (C40 u) u) N14v3 u (s14v7 n0 n1 f0 f1) (kBlk 0 (kSeq (C40 u) u (2 :: (rl 4 4 (rl 22 71 []))) A66v9 (finish A66)))))))))) (by kernel_rfl) (by
 simp only [F14,ob_bif,ob_ob,ob_none,ob_some,nl14v3,t14v4,g14v5,g14v6])
def O14:Ora:=mkO (q1 (ag (tc (cL kP) (t1 (cL (.pr (.sl kP) .nil)))))) (fun x=>F14 u x.1.1 x.1.2 x.2.1 x.2.2) fun t=>[.v (vi t)]
theorem d14:DO (O14 u) (C40 u) 66 A66:=dO u (fun x=>by exact e14 u x.1.1 x.2.1 x.1.2 x.2.2)
def C41:Oracle:=(C40 u).add 66 (fun _=>true) (O14 u)
def A68:AF:=⟨49,[.tmp 2],
 (.seq (.region 0 [o1 1 (bx 0 90 0),o1 2 (sb false)] 1 none) []
 (.seq (.region 1 [o1 4 (fa 90 1 0 0),o1 5 (fa 88 4 0 0),o1 6 (lo 3 5),o1 7 (bk .geq 3 6 (-524288)),mv 8 7,og 9 (fa 90 1 0 0) 8 true,og 10 (fa 88 9 0 0) 8 true,og 11 (lo 3 10) 8 true,og 12 (bk .leq 3 11 524288) 8 true,o1 13 (po 8 12),mv 14 13,og 15 (fa 90 1 0 0) 14 true,og 16 (fa 88 15 1 1) 14 true,og 17 (lo 3 16) 14 true,og 18 (bk .geq 3 17 (-524288)) 14 true,o1 19 (po 14 18),mv 20 19,og 21 (fa 90 1 0 0) 20 true,og 22 (fa 88 21 1 1) 20 true,og 23 (lo 3 22) 20 true,og 24 (bk .leq 3 23 524288) 20 true,o1 25 (po 20 24),mv 26 25,og 27 (fa 90 1 0 0) 26 true,og 28 (fa 88 27 2 2) 26 true,og 29 (lo 3 28) 26 true,og 30 (bk .geq 3 29 (-524288)) 26 true,o1 31 (po 26 30),mv 32 31,og 33 (fa 90 1 0 0) 32 true,og 34 (fa 88 33 2 2) 32 true,og 35 (lo 3 34) 32 true,og 36 (bk .leq 3 35 524288) 32 true,o1 37 (po 32 36),o1 3 (sg 37)] 0 none) []
 (.seq (.region 2 [mv 38 3,mv 39 38,og 40 (fa 90 1 1 3) 39 true,og 41 (lo 3 40) 39 true,og 42 (bk .geq 3 41 0) 39 true,o1 43 (po 39 42),mv 44 43,og 45 (fa 90 1 1 3) 44 true,og 46 (lo 3 45) 44 true,og 47 (bk .leq 3 46 23) 44 true,o1 48 (po 44 47),o1 2 (sg 48)] 0 none) []
 (.ret (0 :: 1 :: (rl 3 46 []))))))⟩
def F133 (u:Nat) (x0 x1 x2 x3:Int):Option (Bool) :=
 (bif ((decide (x0≥(-524288)))==true) then (bif ((decide (x0≤524288))==true) then (bif ((decide (x1≥(-524288)))==true) then (bif ((decide (x1≤524288))==true) then (bif ((decide (x2≥(-524288)))==true) then (bif ((decide (x2≤524288))==true) then (bif ((decide (x3≥0))==true) then (some (decide (x3≤23))) else (some false)) else (some false)) else (some false)) else (some false)) else (some false)) else (some false)) else (some false))
theorem e133:evalF (C41 u) u A68 [.agg [(vi i0),(vi i1),(vi i2),(vi i3)]]=ob (F133 u i0 i1 i2 i3) fun t=>some [.v (.b t)]:=by
 simp only [F133,ob_bif,ob_ob,ob_none,ob_some]
 kernel_rfl
def O133:Ora:=mkO (q1 (ag (tc ci (tc ci (tc ci (t1 ci)))))) (fun x=>F133 u x.1 x.2.1 x.2.2.1 x.2.2.2) fun t=>[.v (.b t)]
theorem d133:DO (O133 u) (C41 u) 68 A68:=dO u (fun x=>by exact e133 u x.1 x.2.1 x.2.2.1 x.2.2.2)
def C42:Oracle:=(C41 u).add 68 (fun _=>true) (O133 u)
def A67:AF:=⟨31,[.tmp 2],
 (.seq (.region 0 [o1 1 (bx 0 88 0),o1 2 (sb false)] 1 none) []
 (.seq (.region 1 [o1 3 (fa 88 1 0 0),o1 4 (lo 3 3),o1 5 (bk .lss 3 4 (-524288)),mv 6 5,og 7 (fa 88 1 0 0) 6 false,og 8 (lo 3 7) 6 false,og 9 (bk .gtr 3 8 524288) 6 false,o1 10 (pa 6 9),mv 11 10,og 12 (fa 88 1 1 1) 11 false,og 13 (lo 3 12) 11 false,og 14 (bk .lss 3 13 (-524288)) 11 false,o1 15 (pa 11 14),mv 16 15,og 17 (fa 88 1 1 1) 16 false,og 18 (lo 3 17) 16 false,og 19 (bk .gtr 3 18 524288) 16 false,o1 20 (pa 16 19),mv 21 20,og 22 (fa 88 1 2 2) 21 false,og 23 (lo 3 22) 21 false,og 24 (bk .lss 3 23 (-524288)) 21 false,o1 25 (pa 21 24),mv 26 25,og 27 (fa 88 1 2 2) 26 false,og 28 (lo 3 27) 26 false,og 29 (bk .gtr 3 28 524288) 26 false,o1 30 (pa 26 29),o1 2 (sg 30)] 0 none) []
 (.ret (0 :: 1 :: (rl 3 28 [])))))⟩
def F312 (u:Nat) (x0 x1 x2:Int):Option (Bool) :=
 (bif ((decide (x0<(-524288)))==false) then (bif ((decide (x0>524288))==false) then (bif ((decide (x1<(-524288)))==false) then (bif ((decide (x1>524288))==false) then (bif ((decide (x2<(-524288)))==false) then (some (decide (x2>524288))) else (some true)) else (some true)) else (some true)) else (some true)) else (some true))
theorem e312:evalF (C42 u) u A67 [.agg [(vi i0),(vi i1),(vi i2)]]=ob (F312 u i0 i1 i2) fun t=>some [.v (.b t)]:=by
 simp only [F312,ob_bif,ob_ob,ob_none,ob_some]
 kernel_rfl
def O312:Ora:=mkO (q1 (ag (tc ci (tc ci (t1 ci))))) (fun x=>F312 u x.1 x.2.1 x.2.2) fun t=>[.v (.b t)]
theorem d312:DO (O312 u) (C42 u) 67 A67:=dO u (fun x=>by exact e312 u x.1 x.2.1 x.2.2)
def C43:Oracle:=(C42 u).add 67 (fun _=>true) (O312 u)
def A43v1:AC:=(.seq (.region 22 [o1 4 (sk 0)] 0 none) []
 (.ret (rl 0 4 (rl 5 70 []))))
def A43v2:AC:=(.seq (.seq (.region 20 [o1 71 (fa 92 2 11 14),o1 72 (ln 90 4 71),o1 73 (cs 68 [72] [90]),o1 74 (.unOp .not 4 (tm 73))] 0 none) []
 (.cond (tm 74)
 (.seq (.region 21 [o1 4 (sk 9)] 0 none) []
  (.ret (rl 0 4 (rl 5 70 []))))
 .skip)) (4 :: (rl 71 4 []))
 A43v1)
def A43v3:AC:=(.seq (.seq (.region 11 [o1 38 (fa 92 2 2 2),o1 39 (lo 3 38),o1 40 (bk .eql 3 39 1)] 0 none) []
 (.cond (tm 40)
 (.seq (.region 12 [o1 41 (fa 92 2 6 6),o1 42 (ln 86 2 41),o1 43 (cs 66 [42] [86]),o1 5 (sg 43)] 0 none) []
  (.seq (.region 13 [mv 44 5,o1 45 (bk .neq 34 44 0)] 0 none) []
  (.cond (tm 45)
  (.seq (.region 14 [mv 46 5,o1 4 (sg 46)] 0 none) []
   (.ret (rl 0 4 (rl 5 70 []))))
  .skip)))
 (.seq (.region 15 [o1 47 (fa 92 2 2 2),o1 48 (lo 3 47),o1 49 (bk .eql 3 48 4)] 0 none) []
  (.cond (tm 49)
  (.seq (.region 16 [o1 50 (fa 92 2 9 10),o1 51 (lo 3 50),o1 52 (bk .lss 3 51 1),mv 53 52,og 54 (fa 92 2 9 10) 53 false,og 55 (lo 3 54) 53 false,og 56 (bk .gtr 3 55 1099511627776) 53 false,o1 57 (pa 53 56),mv 58 57,og 59 (fa 92 2 10 11) 58 false,og 60 (ln 88 3 59) 58 false,og 61 (cs 67 [60] [88]) 58 false,o1 62 (pa 58 61)] 0 none) []
   (.cond (tm 62)
   (.seq (.region 17 [o1 4 (sk 9)] 0 none) []
    (.ret (rl 0 4 (rl 5 70 []))))
   .skip))
  (.seq (.region 18 [o1 63 (fa 92 2 8 9),o1 64 (lo 3 63),o1 65 (bk .lss 3 64 1),mv 66 65,og 67 (fa 92 2 8 9) 66 false,og 68 (lo 3 67) 66 false,og 69 (bk .gtr 3 68 32768) 66 false,o1 70 (pa 66 69)] 0 none) []
   (.cond (tm 70)
   (.seq (.region 19 [o1 4 (sk 9)] 0 none) []
    (.ret (rl 0 4 (rl 5 70 []))))
   .skip)))))) (4 :: 5 :: (rl 38 33 []))
 A43v2)
def A43v4:AC:=(.seq (.seq (.region 9 [o1 34 (ln 92 18 2),o1 35 (ln 32 2 3),o1 36 (cs 65 [34,35] [92,32]),o1 37 (.unOp .not 4 (tm 36))] 0 none) []
 (.cond (tm 37)
 (.seq (.region 10 [o1 4 (sk 23)] 0 none) []
  (.ret (rl 0 4 (rl 5 70 []))))
 .skip)) (4 :: (rl 34 4 []))
 A43v3)
def A43v5:AC:=(.seq (.seq (.region 7 [o1 32 (ln 92 18 2),o1 33 (cs 64 [32] [92])] 0 none) []
 (.cond (tm 33)
 (.seq (.region 8 [o1 4 (sk 2)] 0 none) []
  (.ret (rl 0 4 (rl 5 70 []))))
 .skip)) [4,32,33]
 A43v4)
def A43v6:AC:=(.seq (.seq (.region 5 [o1 24 (fa 92 2 2 2),o1 25 (lo 3 24),o1 26 (bk .lss 3 25 1),mv 27 26,og 28 (fa 92 2 2 2) 27 false,og 29 (lo 3 28) 27 false,og 30 (bk .gtr 3 29 4) 27 false,o1 31 (pa 27 30)] 0 none) []
 (.cond (tm 31)
 (.seq (.region 6 [o1 4 (sk 10)] 0 none) []
  (.ret (rl 0 4 (rl 5 70 []))))
 .skip)) (4 :: (rl 24 8 []))
 A43v5)
def A43v7:AC:=(.seq (.seq (.region 3 [o1 16 (fa 92 2 1 1),o1 17 (lo 3 16),o1 18 (bk .lss 3 17 1),mv 19 18,og 20 (fa 92 2 1 1) 19 false,og 21 (lo 3 20) 19 false,og 22 (bk .gtr 3 21 1000) 19 false,o1 23 (pa 19 22)] 0 none) []
 (.cond (tm 23)
 (.seq (.region 4 [o1 4 (sk 9)] 0 none) []
  (.ret (rl 0 4 (rl 5 70 []))))
 .skip)) (4 :: (rl 16 8 []))
 A43v6)
def A43:AF:=⟨75,[.tmp 4],
 (.seq (.region 0 [o1 2 (bx 0 92 0),o1 3 (bx 1 32 1),o1 4 (sk 0)] 2 none) []
 (.seq (.seq (.region 1 [o1 6 (fa 92 2 0 0),o1 7 (lo 9 6),o1 8 (cs 40 [7] [9]),o1 9 (.unOp .not 4 (tm 8)),mv 10 9,og 11 (fa 92 2 3 3) 10 false,og 12 (lo 9 11) 10 false,og 13 (cs 40 [12] [9]) 10 false,og 14 (.unOp .not 4 (tm 13)) 10 false,o1 15 (pa 10 14)] 0 none) []
 (.cond (tm 15)
 (.seq (.region 2 [o1 4 (sk 6)] 0 none) []
  (.ret (rl 0 4 (rl 5 70 []))))
 .skip)) (4 :: (rl 6 10 []))
 A43v7))⟩
def F313 (x0:Nat→CV) (x1:Nat) (x2:FF) (x3:Nat) (x4:FF):Option (Int) :=
 (ob (F301 u (x0 0).str) fun x5=>(bif ((!x5)==false) then (ob (F301 u (x0 3).str) fun x6=>(bif (!x6) then (some 6) else (bif ((decide ((x0 1).int<1))==false) then (bif (decide ((x0 1).int>1000)) then (some 9) else (bif ((decide ((x0 2).int<1))==false) then (bif (decide ((x0 2).int>4)) then (some 10) else (ob (F307 u (listF (pj kR0 x0))) fun x7=>(bif x7 then (some 2) else (ob (F311 u (listF (pj kR0 x0)) x1 x2 x3 x4) fun x8=>(bif (!x8) then (some 23) else (bif ((x0 2).int==1) then (ob (F14 u (x0 6).len (x0 6).el (x0 7).len (x0 7).el) fun x9=>(bif (x9 != 0) then (some x9) else (ob (F133 u (x0 14).int (x0 15).int (x0 16).int (x0 17).int) fun xA=>(bif (!xA) then (some 9) else (some 0))))) else (bif ((x0 2).int==4) then (bif ((decide ((x0 10).int<1))==false) then (bif ((decide ((x0 10).int>1099511627776))==false) then (ob (F312 u (x0 11).int (x0 12).int (x0 13).int) fun xB=>(bif xB then (some 9) else (ob (F133 u (x0 14).int (x0 15).int (x0 16).int (x0 17).int) fun xC=>(bif (!xC) then (some 9) else (some 0))))) else (some 9)) else (some 9)) else (bif ((decide ((x0 9).int<1))==false) then (bif (decide ((x0 9).int>32768)) then (some 9) else (ob (F133 u (x0 14).int (x0 15).int (x0 16).int (x0 17).int) fun xD=>(bif (!xD) then (some 9) else (some 0)))) else (some 9))))))))) else (some 10))) else (some 9)))) else (some 6)))
theorem e313:evalF (C43 u) u A43 [.agg (pj kR0 g0),.agg [(ro kD n0 f0),(ro (.pr .str kV) n1 f1)]]=ob (F313 u g0 n0 f0 n1 f1) fun t=>some [.v (vi t)]:=by
 simp only [F313,ob_bif,ob_ob,ob_none,ob_some]
 kernel_rfl
def O313:Ora:=mkO (qc (ar kR0) (q1 (ag (tc (cL kD) (t1 (cL (.pr .str kV))))))) (fun x=>F313 u x.1 x.2.1.1 x.2.1.2 x.2.2.1 x.2.2.2) fun t=>[.v (vi t)]
theorem d313:DO (O313 u) (C43 u) 43 A43:=dO u (fun x=>by exact e313 u x.2.1.1 x.2.2.1 x.2.1.2 x.2.2.2 x.1)
def C44:Oracle:=(C43 u).add 43 (fun _=>true) (O313 u)
def A83:AF:=⟨9,[.tmp 2],
 (.seq (.region 0 [o1 1 (bx 0 86 0),o1 2 (.assign (.const (.slice none 0 0)))] 1 none) []
 (.seq (.region 1 [o1 3 (fa 86 1 0 0),o1 4 (lo 83 3),o1 5 (.buildSlice 0 84 83 (.pr (.sl kP) .nil) 1 [vcn] [(0,(tm 4))]),o1 6 (fa 86 1 1 1),o1 7 (lo 84 6),o1 8 (.append 1 84 83 (.pr (.sl kP) .nil) 24 (tm 5) (tm 7)),o1 2 (sg 8)] 2 none) []
 (.ret (0 :: 1 :: (rl 3 6 [])))))⟩
def F44 (u:Nat) (x0:Nat) (x1:FF) (x2:Nat) (x3:FF):Option (Nat × FF) :=
 (bif (Nat.ble (1+x2) 1073741824) then (some ((1+x2),(joinF 1 (rowsF 1 [(.ro false (.pr (.int .i64) (.pr (.int .i64) .nil)) x0 x1)]) x3))) else none)
theorem e44:evalF (C44 u) u A83 [.agg [(ro kP n0 f0),(ro (.pr (.sl kP) .nil) n1 f1)]]=ob (F44 u n0 f0 n1 f1) fun t=>some [.v (ro (.pr (.sl kP) .nil) t.1 t.2)]:=by
 simp only [F44,ob_bif,ob_ob,ob_none,ob_some]
 kernel_rfl
def O44:Ora:=mkO (q1 (ag (tc (cL kP) (t1 (cL (.pr (.sl kP) .nil)))))) (fun x=>F44 u x.1.1 x.1.2 x.2.1 x.2.2) fun t=>[.v (ro (.pr (.sl kP) .nil) t.1 t.2)]
theorem d44:DO (O44 u) (C44 u) 83 A83:=dO u (fun x=>by exact e44 u x.1.1 x.2.1 x.1.2 x.2.2)
def C45:Oracle:=(C44 u).add 83 (fun _=>true) (O44 u)
def A71v1:AC:=(.seq (.block 1
 (.region 8 [mv 17 3,mv 18 4,mv 19 5,o1 20 (.indexAddr 84 83 1 (tm 18) (tm 19)),o1 21 (lo 83 20),o1 22 (cs 80 [21] [83]),o1 23 (bt .add 3 17 22),o1 3 (sg 23)] 0 none)) []
 (.region 7 [mv 15 5,o1 16 (bk .add 3 15 1),o1 5 (sg 16)] 0 none))
def A71v2:AC:=(.seq (.seq (.region 6 [mv 11 5,mv 12 4,o1 13 (.len 84 false (tm 12)),o1 14 (bt .lss 3 11 13)] 0 none) []
 (.cond (tm 14)
 .skip
 (.exit 0 (0 :: 1 :: 2 :: (rl 4 21 []))))) (rl 11 4 [])
 A71v1)
def A71v3:AC:=(.seq (.region 9 [mv 24 3,o1 2 (sg 24)] 0 none) []
 (.ret (0 :: 1 :: (rl 3 22 []))))
def A71v4:AC:=(.seq (.region 3 [o1 3 (sk 0)] 0 none) []
 (.seq (.region 4 [o1 9 (ln 86 2 1),o1 10 (cf 83 [9] [86]),o1 4 (sg 10)] 0 none) []
 (.seq (.seq (.region 5 [o1 5 (sk 0)] 0 none) []
 (.block 0
 (.loop [] (0 :: 1 :: 2 :: (rl 6 19 []))
  A71v2))) (5 :: (rl 11 13 []))
 A71v3)))
def A71:AF:=⟨25,[.tmp 2],
 (.seq (.region 0 [o1 1 (bx 0 86 0),o1 2 (sk 0)] 1 none) []
 (.seq (.seq (.region 1 [o1 6 (ln 86 2 1),o1 7 (cs 66 [6] [86]),o1 8 (bk .neq 34 7 0)] 0 none) []
 (.cond (tm 8)
 (.seq (.region 2 [o1 2 (sk 0)] 0 none) []
  (.ret (0 :: 1 :: (rl 3 22 []))))
 .skip)) [2,6,7,8]
 A71v4))⟩
def N19v1:St→Option St:=nN 1 (0 :: 1 :: 2 :: (rl 6 19 []))
def s19v0:St:=⟨(us 3 (vxi i0 :: .x (.c (ro (.pr (.sl kP) .nil) n0 f0)) :: vxi i1 :: (us 19 []))),[.box [(.c (ro kP n1 f1)),(.c (ro (.pr (.sl kP) .nil) n2 f2))]]⟩
def s19v1:St:=⟨(us 3 (vxi i0 :: (us 21 []))),[.box [(.c (ro kP n0 f0)),(.c (ro (.pr (.sl kP) .nil) n1 f1))]]⟩
def L19v1 {ρ:Type} (u:Nat) (x0:Nat) (x1:FF) (x2:Nat) (x3:FF) (x4:Nat) (x5:FF):Nat→Int→Int→(Int→Option ρ)→Option ρ
 | 0,_,_,_=>none
 | m+1,x6,x7,k0 =>
  (bif (decide (x7<(Int.ofNat x0))) then (bif (inb x7 x0) then (ob (F38 u (x1 x7.toNat 0).len (x1 x7.toNat 0).el) fun x8=>(L19v1 u x0 x1 x2 x3 x4 x5 m (w64 (x6+x8)) (w64 (x7+1)) k0)) else none) else (k0 x6))
theorem nl19v1:∀ (m:Nat) (x0 x1:Int) (k0:Int→Option ρ),ob (L19v1 u n0 f0 n1 f1 n2 f2 m x0 x1 k0) ng=L19v1 u n0 f0 n1 f1 n2 f2 m x0 x1 (fun x2=>ob (k0 x2) ng)
 | 0,_,_,_=>rfl
 | m+1,x0,x1,k0=>by
  simp only [L19v1,ob_bif,ob_ob,ob_none,nl19v1 m]
theorem q19v1:∀ (m:Nat) (x0 x1:Int),
  loopH (eB A71v2 (C45 u) u) N19v1 m (s19v0 n0 n1 n2 f0 f1 f2 x0 x1) k=L19v1 u n0 f0 n1 f1 n2 f2 m x0 x1 (fun x2=>k (.exit 0) (s19v1 n1 n2 f1 f2 x2))
 | 0,_,_=>rfl
 | m+1,x0,x1=>by
  simp only [L19v1,← q19v1 m]
  kernel_rfl
def F19 (x0:Nat) (x1:FF) (x2:Nat) (x3:FF):Option (Int) :=
 (ob (F14 u x0 x1 x2 x3) fun x4=>(bif (x4 != 0) then (some 0) else (ob (F44 u x0 x1 x2 x3) fun x5=>(L19v1 u x5.1 x5.2 x0 x1 x2 x3 u 0 0
  (fun x6=>(some x6))))))
def s19v2 (x0:Nat × FF):St:=⟨(.agg [(.c (ro kP n0 f0)),(.c (ro (.pr (.sl kP) .nil) n1 f1))] :: .x (.ptr 0 0) :: .u :: vxi 0 :: .x (.c (ro (.pr (.sl kP) .nil) x0.1 x0.2)) :: vxi 0 :: (us 3 [.agg [(.c (ro kP n0 f0)),(.c (ro (.pr (.sl kP) .nil) n1 f1))],.x (.c (ro (.pr (.sl kP) .nil) x0.1 x0.2)),uu,uu,uu,uu,uu,uu,uu,uu,uu,uu,uu,uu,uu,uu])),[.box [(.c (ro kP n0 f0)),(.c (ro (.pr (.sl kP) .nil) n1 f1))]]⟩
theorem t19v1 (x0:Nat × FF) :
  loopN (eB A71v2 (C45 u) u) N19v1 u (s19v2 n0 n1 f0 f1 x0) k =
  L19v1 u x0.1 x0.2 n0 f0 n1 f1 u 0 0 (fun x1=>k (.exit 0) (s19v1 n0 n1 f0 f1 x1)) :=
 Eq.trans (loopN_at (by kernel_rfl)) (q19v1 ..)
theorem g19v2 :
  (kBlk 0 (kSeq (C45 u) u (5 :: (rl 11 13 [])) A71v3 (finish A71))) (.exit 0) (s19v1 n0 n1 f0 f1 i0) =
  (some [.v (vi i0)]):=by kernel_rfl
theorem e19:evalF (C45 u) u A71 [.agg [(ro kP n0 f0),(ro (.pr (.sl kP) .nil) n1 f1)]]=ob (F19 u n0 f0 n1 f1) fun t=>some [.v (vi t)]:=Eq.trans (b:=(ob (F14 u n0 f0 n1 f1) fun x0=>(bif (x0 != 0) then (some [.v (vi 0)]) else (ob (F44 u n0 f0 n1 f1) fun x1=>(loopN (eB A71v2 (C45 u) u) N19v1 u (s19v2 n0 n1 f0 f1 x1) (kBlk 0 (kSeq (C45 u) u (5 :: (rl 11 13 [])) A71v3 (finish A71)))))))) (by kernel_rfl) (by
 simp only [F19,ob_bif,ob_ob,ob_none,ob_some,nl19v1,t19v1,g19v2])
def O19:Ora:=mkO (q1 (ag (tc (cL kP) (t1 (cL (.pr (.sl kP) .nil)))))) (fun x=>F19 u x.1.1 x.1.2 x.2.1 x.2.2) fun t=>[.v (vi t)]
theorem d19:DO (O19 u) (C45 u) 71 A71:=dO u (fun x=>by exact e19 u x.1.1 x.2.1 x.1.2 x.2.2)
def C46:Oracle:=(C45 u).add 71 (fun _=>true) (O19 u)
def A44v1:AC:=(.seq (.region 11 [o1 49 (fa 70 9 1 1),o1 50 (lo 3 49),o1 51 (fa 92 2 8 9),o1 52 (lo 3 51),o1 53 (bt .mul 3 50 52),o1 54 (fa 117 7 1 1),o1 55 (lo 3 54),o1 56 (bt .mul 3 53 55),o1 57 (bk .quo 3 56 1000000),o1 4 (sg 57),o1 5 (sk 0)] 0 none) []
 (.ret (rl 0 4 (rl 6 52 []))))
def A44v2:AC:=(.seq (.region 4 [o1 18 (ln 32 2 3),o1 19 (fa 92 2 4 4),o1 20 (lo 9 19),o1 21 (cf 69 [18,20] [32,9]),mv 17 21,o1 22 (.extract (tm 17) 0),o1 23 (.extract (tm 17) 1),o1 7 (.alloc 0 117 [vcs ByteArray.empty,vci 0,vci 0,vcn]),o0 (.store 117 4 (tm 7) (tm 22)),o1 8 (sg 23)] 1 none) []
 (.seq (.region 5 [o1 25 (ln 32 2 3),o1 26 (fa 92 2 7 8),o1 27 (lo 9 26),o1 28 (cs 70 [25,27] [32,9]),mv 24 28,o1 29 (.extract (tm 24) 0),o1 30 (.extract (tm 24) 1),o1 9 (.alloc 0 70 [vcs ByteArray.empty,vci 0,vci 0,vci 0]),o0 (.store 70 4 (tm 9) (tm 29)),o1 10 (sg 30)] 1 none) []
 (.seq (.seq (.region 6 [o1 31 (fa 92 2 2 2),o1 32 (lo 3 31)] 0 none) []
 (.block 0
 (.seq (.region 7 [o1 34 (bk .eql 3 32 1),o1 33 (sg 34)] 0 none) []
  (.cond (tm 33)
  (.seq (.region 8 [o1 35 (fa 92 2 6 6),o1 36 (ln 86 2 35),o1 37 (cs 71 [36] [86]),o1 38 (fa 92 2 5 5),o1 39 (lo 3 38),o1 40 (bt .mul 3 37 39),o1 41 (fa 117 7 1 1),o1 42 (lo 3 41),o1 43 (bt .mul 3 40 42),o1 44 (bk .quo 3 43 2000000),o1 4 (sg 44),o1 5 (sk 0)] 0 (some [[],[0],[0,1],[],[3],(rl 0 5 []),[],[6],(rl 0 8 []),(rl 0 9 []),(rl 0 10 []),(rl 0 11 [])])) []
   (.ret (rl 0 4 (rl 6 52 []))))
  (.seq (.region 9 [o1 46 (bk .eql 3 32 4),o1 45 (sg 46)] 0 none) []
   (.cond (tm 45)
   (.seq (.region 10 [o1 47 (fa 92 2 9 10),o1 48 (lo 3 47),o1 4 (sg 48),o1 5 (sk 0)] 0 none) []
    (.ret (rl 0 4 (rl 6 52 []))))
   .skip)))))) (4 :: 5 :: (rl 31 18 []))
 A44v1)))
def A44:AF:=⟨58,[.tmp 4,.tmp 5],
 (.seq (.region 0 [o1 2 (bx 0 92 0),o1 3 (bx 1 32 1),o1 4 (sk 0),o1 5 (sk 0)] 2 none) []
 (.seq (.seq (.region 1 [o1 11 (ln 92 18 2),o1 12 (ln 32 2 3),o1 13 (cs 43 [11,12] [92,32]),o1 6 (sg 13)] 0 none) []
 (.seq (.region 2 [mv 14 6,o1 15 (bk .neq 34 14 0)] 0 none) []
 (.cond (tm 15)
 (.seq (.region 3 [mv 16 6,o1 4 (sk 0),o1 5 (sg 16)] 0 none) []
  (.ret (rl 0 4 (rl 6 52 []))))
 .skip))) (4 :: 5 :: 6 :: (rl 11 6 []))
 A44v2))⟩
def F314 (x0:Nat→CV) (x1:Nat) (x2:FF) (x3:Nat) (x4:FF):Option (Int × Int) :=
 (ob (F313 u (listF (pj kR0 x0)) x1 x2 x3 x4) fun x5=>(bif (x5 != 0) then (some (0,x5)) else (ob (F308 u x1 x2 x3 x4 (x0 4).str) fun x6=>(ob (F310 u x1 x2 x3 x4 (x0 8).str) fun x7=>(bif ((x0 2).int==1) then (ob (F19 u (x0 6).len (x0 6).el (x0 7).len (x0 7).el) fun x8=>(some ((w64 (Int.tdiv (w64 ((w64 (x8*(x0 5).int))*x6.2.1)) 2000000)),0))) else (bif ((x0 2).int==4) then (some ((x0 10).int,0)) else (some ((w64 (Int.tdiv (w64 ((w64 (x7.2.1*(x0 9).int))*x6.2.1)) 1000000)),0))))))))
theorem e314:evalF (C46 u) u A44 [.agg (pj kR0 g0),.agg [(ro kD n0 f0),(ro (.pr .str kV) n1 f1)]]=ob (F314 u g0 n0 f0 n1 f1) fun t=>some [.v (vi t.1),.v (vi t.2)]:=by
 simp only [F314,ob_bif,ob_ob,ob_none,ob_some]
 kernel_rfl
def O314:Ora:=mkO (qc (ar kR0) (q1 (ag (tc (cL kD) (t1 (cL (.pr .str kV))))))) (fun x=>F314 u x.1 x.2.1.1 x.2.1.2 x.2.2.1 x.2.2.2) fun t=>[.v (vi t.1),.v (vi t.2)]
theorem d314:DO (O314 u) (C46 u) 44 A44:=dO u (fun x=>by exact e314 u x.2.1.1 x.2.2.1 x.2.1.2 x.2.2.2 x.1)
def C47:Oracle:=(C46 u).add 44 (fun _=>true) (O314 u)
def A17v1:AC:=(.seq (.region 7 [o1 31 (ln 28 6 2),o1 32 (fa 28 2 2 2),o1 33 (lo 23 32),mv 34 5,o1 35 (.indexAddr 23 92 18 (tm 33) (tm 34)),o1 36 (fa 92 35 3 3),o1 37 (lo 9 36),o1 38 (cs 39 [31,37] [28,9]),mv 30 38,o1 39 (.extract (tm 30) 0),o1 40 (.extract (tm 30) 1),o1 7 (.alloc 0 60 [vcs ByteArray.empty,vci 0,vcs ByteArray.empty]),o0 (.store 60 3 (tm 7) (tm 39)),o1 8 (sg 40)] 1 (some [[],[],[1],[],[1,2,3],(rl 1 4 []),(rl 1 5 []),(rl 0 7 []),(rl 0 8 []),(rl 0 9 []),(rl 0 9 []),[],(rl 0 10 [11]),(rl 0 13 [])])) []
 (.seq (.region 8 [mv 41 8,o1 42 (.unOp .not 4 (tm 41))] 0 none) []
 (.cond (tm 42)
 (.seq (.region 9 [o1 4 (sk 8)] 0 none) []
  (.ret (rl 0 4 (rl 5 60 []))))
 .skip)))
def A17v2:AC:=(.region 3 [mv 18 5,o1 19 (bk .add 3 18 1),o1 5 (sg 19)] 0 none)
def A17v3:AC:=(.seq (.block 1
 (.seq (.seq (.region 4 [o1 20 (fa 28 2 2 2),o1 21 (lo 23 20),mv 22 5,o1 23 (.indexAddr 23 92 18 (tm 21) (tm 22)),o1 24 (ln 92 18 23),o1 25 (ln 32 2 3),o1 26 (cs 43 [24,25] [92,32]),o1 6 (sg 26)] 0 (some [[],[0],[],[0,1,2],(rl 0 4 []),[],(rl 0 6 []),(rl 0 7 [])])) []
  (.seq (.region 5 [mv 27 6,o1 28 (bk .neq 34 27 0)] 0 none) []
  (.cond (tm 28)
  (.seq (.region 6 [mv 29 6,o1 4 (sg 29)] 0 none) []
   (.ret (rl 0 4 (rl 5 60 []))))
  .skip))) (4 :: 6 :: (rl 20 10 []))
  A17v1)) (4 :: 6 :: 7 :: 8 :: (rl 20 23 []))
 A17v2)
def A17v4:AC:=(.seq (.seq (.region 2 [mv 13 5,o1 14 (fa 28 2 2 2),o1 15 (lo 23 14),o1 16 (.len 23 false (tm 15)),o1 17 (bt .lss 3 13 16)] 0 none) []
 (.cond (tm 17)
 .skip
 (.exit 0 (0 :: 1 :: (rl 4 61 []))))) (rl 13 5 [])
 A17v3)
def A17v5:AC:=(.seq (.block 3
 (.seq (.region 14 [o1 51 (fa 28 2 2 2),o1 52 (lo 23 51),mv 53 10,o1 54 (.indexAddr 23 92 18 (tm 52) (tm 53)),o1 55 (ln 92 18 54),o1 56 (ln 32 2 3),o1 57 (cs 44 [55,56] [92,32]),mv 50 57,o1 58 (.extract (tm 50) 0),o1 59 (.extract (tm 50) 1),o1 11 (sg 58),o1 12 (sg 59)] 0 (some [[],[0],[],[0,1,2],(rl 0 4 []),[],(rl 0 6 []),(rl 0 7 []),(rl 0 8 []),(rl 0 8 []),(rl 0 9 []),(rl 0 11 [])])) []
  (.region 15 [mv 60 9,mv 61 11,o1 62 (bt .add 3 60 61),o1 9 (sg 62)] 0 none))) []
 (.region 13 [mv 48 10,o1 49 (bk .add 3 48 1),o1 10 (sg 49)] 0 none))
def A17v6:AC:=(.seq (.seq (.region 12 [mv 43 10,o1 44 (fa 28 2 2 2),o1 45 (lo 23 44),o1 46 (.len 23 false (tm 45)),o1 47 (bt .lss 3 43 46)] 0 none) []
 (.cond (tm 47)
 .skip
 (.exit 2 (rl 0 9 (rl 10 55 []))))) (rl 43 5 [])
 A17v5)
def A17v7:AC:=(.seq (.region 18 [o1 4 (sk 0)] 0 none) []
 (.ret (rl 0 4 (rl 5 60 []))))
def A17v8:AC:=(.seq (.seq (.region 16 [mv 63 9,o1 64 (bk .gtr 3 63 1099511627776)] 0 none) []
 (.cond (tm 64)
 (.seq (.region 17 [o1 4 (sk 13)] 0 none) []
  (.ret (rl 0 4 (rl 5 60 []))))
 .skip)) [4,63,64]
 A17v7)
def A17v9:AC:=(.seq (.region 10 [o1 9 (sk 0)] 0 none) []
 (.seq (.seq (.region 11 [o1 10 (sk 0)] 0 none) []
 (.block 2
 (.loop [] (0 :: 1 :: (rl 4 5 (rl 11 54 [])))
  A17v6))) (10 :: 11 :: 12 :: (rl 43 20 []))
 A17v8))
def A17:AF:=⟨65,[.tmp 4],
 (.seq (.region 0 [o1 2 (bx 0 28 0),o1 3 (bx 1 32 1),o1 4 (sk 0)] 2 none) []
 (.seq (.seq (.region 1 [o1 5 (sk 0)] 0 none) []
 (.block 0
 (.loop [] (0 :: 1 :: 4 :: (rl 6 59 []))
  A17v4))) (rl 4 5 (rl 13 30 []))
 A17v9))⟩
def N315v1:St→Option St:=nN 2 (0 :: 1 :: 4 :: (rl 6 59 []))
def s315v0:St:=⟨(.u :: .u :: .x (.ptr 0 0) :: .x (.ptr 1 0) :: .u :: vxi i0 :: (us 59 [])),[.box [(vcs w0),(.c (ro kE n0 f0)),(.c (ro kA n1 f1)),(.c (ro kG n2 f2)),(.c (ro kC n3 f3)),(.c (ro kF n4 f4))],.box [(.c (ro kD n5 f5)),(.c (ro (.pr .str kV) n6 f6))]]⟩
def s315v1:St:=⟨(us 4 (vxi i0 :: (us 60 []))),[.box [(vcs w0),(.c (ro kE n0 f0)),(.c (ro kA n1 f1)),(.c (ro kG n2 f2)),(.c (ro kC n3 f3)),(.c (ro kF n4 f4))],.box [(.c (ro kD n5 f5)),(.c (ro (.pr .str kV) n6 f6))]]⟩
def s315v2:St:=⟨(us 4 (vxi 8 :: (us 60 []))),[.box [(vcs w0),(.c (ro kE n0 f0)),(.c (ro kA n1 f1)),(.c (ro kG n2 f2)),(.c (ro kC n3 f3)),(.c (ro kF n4 f4))],.box [(.c (ro kD n5 f5)),(.c (ro (.pr .str kV) n6 f6))],.box [(vcs w1),(vci i0),(vcs w2)]]⟩
def s315v3:St:=⟨(.u :: .u :: .x (.ptr 0 0) :: .x (.ptr 1 0) :: (us 61 [])),[.box [(vcs w0),(.c (ro kE n0 f0)),(.c (ro kA n1 f1)),(.c (ro kG n2 f2)),(.c (ro kC n3 f3)),(.c (ro kF n4 f4))],.box [(.c (ro kD n5 f5)),(.c (ro (.pr .str kV) n6 f6))]]⟩
def L315v1 {ρ:Type} (u:Nat) (x0:ByteArray) (x1:Nat) (x2:FF) (x3:Nat) (x4:FF) (x5:Nat) (x6:FF) (x7:Nat) (x8:FF) (x9:Nat) (xA:FF) (xB:Nat) (xC:FF) (xD:Nat) (xE:FF):Nat→Int→(Int→Option ρ)→(ByteArray→Int→ByteArray→Option ρ)→(Option ρ)→Option ρ
 | 0,_,_,_,_=>none
 | m+1,xF,k0,k1,k2 =>
  (bif (decide (xF<(Int.ofNat x3))) then (bif (inb xF x3) then (ob (F313 u (listF (pj kR0 (x4 xF.toNat))) xB xC xD xE) fun xG=>(bif (xG != 0) then (k0 xG) else (bif (inb xF x3) then (ob (F294 u x0 x1 x2 x3 x4 x5 x6 x7 x8 x9 xA (x4 xF.toNat 3).str) fun xH=>(bif (!xH.2.2.2) then (k1 xH.1 xH.2.1 xH.2.2.1) else (L315v1 u x0 x1 x2 x3 x4 x5 x6 x7 x8 x9 xA xB xC xD xE m (w64 (xF+1)) k0 k1 k2))) else none))) else none) else k2)
theorem nl315v1:∀ (m:Nat) (x0:Int) (k0:Int→Option ρ) (k1:ByteArray→Int→ByteArray→Option ρ) (k2:Option ρ),ob (L315v1 u w0 n0 f0 n1 f1 n2 f2 n3 f3 n4 f4 n5 f5 n6 f6 m x0 k0 k1 k2) ng=L315v1 u w0 n0 f0 n1 f1 n2 f2 n3 f3 n4 f4 n5 f5 n6 f6 m x0 (fun x1=>ob (k0 x1) ng) (fun x2 x3 x4=>ob (k1 x2 x3 x4) ng) (ob k2 ng)
 | 0,_,_,_,_=>rfl
 | m+1,x0,k0,k1,k2=>by
  simp only [L315v1,ob_bif,ob_ob,ob_none,nl315v1 m]
theorem q315v1:∀ (m:Nat) (x0:Int),
  loopH (eB A17v4 (C47 u) u) N315v1 m (s315v0 n0 n1 n2 n3 n4 n5 n6 f0 f1 f2 f3 f4 f5 f6 x0 w0) k=L315v1 u w0 n0 f0 n1 f1 n2 f2 n3 f3 n4 f4 n5 f5 n6 f6 m x0 (fun x1=>k .ret (s315v1 n0 n1 n2 n3 n4 n5 n6 f0 f1 f2 f3 f4 f5 f6 x1 w0)) (fun x2 x3 x4=>k .ret (s315v2 n0 n1 n2 n3 n4 n5 n6 f0 f1 f2 f3 f4 f5 f6 x3 w0 x2 x4)) (k (.exit 0) (s315v3 n0 n1 n2 n3 n4 n5 n6 f0 f1 f2 f3 f4 f5 f6 w0))
 | 0,_=>rfl
 | m+1,x0=>by
  simp only [L315v1,← q315v1 m]
  kernel_rfl
def N315v2:St→Option St:=nN 2 (0 :: 1 :: (rl 4 5 (rl 11 54 [])))
def s315v4:St:=⟨(.u :: .u :: .x (.ptr 0 0) :: .x (.ptr 1 0) :: (us 5 (vxi i0 :: vxi i1 :: (us 54 [])))),[.box [(vcs w0),(.c (ro kE n0 f0)),(.c (ro kA n1 f1)),(.c (ro kG n2 f2)),(.c (ro kC n3 f3)),(.c (ro kF n4 f4))],.box [(.c (ro kD n5 f5)),(.c (ro (.pr .str kV) n6 f6))]]⟩
def s315v5:St:=⟨(us 9 (vxi i0 :: (us 55 []))),[.box [(vcs w0),(.c (ro kE n0 f0)),(.c (ro kA n1 f1)),(.c (ro kG n2 f2)),(.c (ro kC n3 f3)),(.c (ro kF n4 f4))],.box [(.c (ro kD n5 f5)),(.c (ro (.pr .str kV) n6 f6))]]⟩
def L315v2 {ρ:Type} (u:Nat) (x0:ByteArray) (x1:Nat) (x2:FF) (x3:Nat) (x4:FF) (x5:Nat) (x6:FF) (x7:Nat) (x8:FF) (x9:Nat) (xA:FF) (xB:Nat) (xC:FF) (xD:Nat) (xE:FF):Nat→Int→Int→(Int→Option ρ)→Option ρ
 | 0,_,_,_=>none
 | m+1,xF,xG,k0 =>
  (bif (decide (xG<(Int.ofNat x3))) then (bif (inb xG x3) then (ob (F314 u (listF (pj kR0 (x4 xG.toNat))) xB xC xD xE) fun xH=>(L315v2 u x0 x1 x2 x3 x4 x5 x6 x7 x8 x9 xA xB xC xD xE m (w64 (xF+xH.1)) (w64 (xG+1)) k0)) else none) else (k0 xF))
theorem nl315v2:∀ (m:Nat) (x0 x1:Int) (k0:Int→Option ρ),ob (L315v2 u w0 n0 f0 n1 f1 n2 f2 n3 f3 n4 f4 n5 f5 n6 f6 m x0 x1 k0) ng=L315v2 u w0 n0 f0 n1 f1 n2 f2 n3 f3 n4 f4 n5 f5 n6 f6 m x0 x1 (fun x2=>ob (k0 x2) ng)
 | 0,_,_,_=>rfl
 | m+1,x0,x1,k0=>by
  simp only [L315v2,ob_bif,ob_ob,ob_none,nl315v2 m]
theorem q315v2:∀ (m:Nat) (x0 x1:Int),
  loopH (eB A17v6 (C47 u) u) N315v2 m (s315v4 n0 n1 n2 n3 n4 n5 n6 f0 f1 f2 f3 f4 f5 f6 x0 x1 w0) k=L315v2 u w0 n0 f0 n1 f1 n2 f2 n3 f3 n4 f4 n5 f5 n6 f6 m x0 x1 (fun x2=>k (.exit 2) (s315v5 n0 n1 n2 n3 n4 n5 n6 f0 f1 f2 f3 f4 f5 f6 x2 w0))
 | 0,_,_=>rfl
 | m+1,x0,x1=>by
  simp only [L315v2,← q315v2 m]
  kernel_rfl
def F315 (x0:ByteArray) (x1:Nat) (x2:FF) (x3:Nat) (x4:FF) (x5:Nat) (x6:FF) (x7:Nat) (x8:FF) (x9:Nat) (xA:FF) (xB:Nat) (xC:FF) (xD:Nat) (xE:FF):Option (Int) :=
 (L315v1 u x0 x1 x2 x3 x4 x5 x6 x7 x8 x9 xA xB xC xD xE u 0
  (fun xF=>(some xF))
  (fun xG xH xI=>(some 8))
  (L315v2 u x0 x1 x2 x3 x4 x5 x6 x7 x8 x9 xA xB xC xD xE u 0 0
  (fun xJ=>(bif (decide (xJ>1099511627776)) then (some 13) else (some 0)))))
def s315v6:St:=⟨[.agg [(vcs w0),(.c (ro kE n0 f0)),(.c (ro kA n1 f1)),(.c (ro kG n2 f2)),(.c (ro kC n3 f3)),(.c (ro kF n4 f4))],.agg [(.c (ro kD n5 f5)),(.c (ro (.pr .str kV) n6 f6))],.x (.ptr 0 0),.x (.ptr 1 0),vxi 0,vxi 0,uu,uu,uu,uu,uu,uu,uu,uu,uu,uu,uu,uu,uu,uu,uu,uu,uu,uu,uu,uu,uu,uu,uu,uu,uu,uu,uu,uu,uu,uu,uu,uu,uu,uu,uu,uu,uu,uu,uu,uu,uu,uu,uu,uu,uu,uu,uu,uu,uu,uu,uu,uu,uu,uu,uu,uu,uu,uu,uu],[.box [(vcs w0),(.c (ro kE n0 f0)),(.c (ro kA n1 f1)),(.c (ro kG n2 f2)),(.c (ro kC n3 f3)),(.c (ro kF n4 f4))],.box [(.c (ro kD n5 f5)),(.c (ro (.pr .str kV) n6 f6))]]⟩
theorem t315v1 :
  loopN (eB A17v4 (C47 u) u) N315v1 u (s315v6 n0 n1 n2 n3 n4 n5 n6 f0 f1 f2 f3 f4 f5 f6 w0) k =
  L315v1 u w0 n0 f0 n1 f1 n2 f2 n3 f3 n4 f4 n5 f5 n6 f6 u 0 (fun x0=>k .ret (s315v1 n0 n1 n2 n3 n4 n5 n6 f0 f1 f2 f3 f4 f5 f6 x0 w0)) (fun x1 x2 x3=>k .ret (s315v2 n0 n1 n2 n3 n4 n5 n6 f0 f1 f2 f3 f4 f5 f6 x2 w0 x1 x3)) (k (.exit 0) (s315v3 n0 n1 n2 n3 n4 n5 n6 f0 f1 f2 f3 f4 f5 f6 w0)) :=
 Eq.trans (loopN_at (by kernel_rfl)) (q315v1 ..)
theorem g315v2 :
  (kBlk 0 (kSeq (C47 u) u (rl 4 5 (rl 13 30 [])) A17v9 (finish A17))) .ret (s315v1 n0 n1 n2 n3 n4 n5 n6 f0 f1 f2 f3 f4 f5 f6 i0 w0) =
  (some [.v (vi i0)]):=by kernel_rfl
theorem g315v3 :
  (kBlk 0 (kSeq (C47 u) u (rl 4 5 (rl 13 30 [])) A17v9 (finish A17))) .ret (s315v2 n0 n1 n2 n3 n4 n5 n6 f0 f1 f2 f3 f4 f5 f6 i0 w0 w1 w2) =
  (some [.v (vi 8)]):=by kernel_rfl
def s315v7:St:=⟨(.u :: .u :: .x (.ptr 0 0) :: .x (.ptr 1 0) :: (us 5 (vxi 0 :: vxi 0 :: (us 54 [])))),[.box [(vcs w0),(.c (ro kE n0 f0)),(.c (ro kA n1 f1)),(.c (ro kG n2 f2)),(.c (ro kC n3 f3)),(.c (ro kF n4 f4))],.box [(.c (ro kD n5 f5)),(.c (ro (.pr .str kV) n6 f6))]]⟩
theorem g315v4 :
  (kBlk 0 (kSeq (C47 u) u (rl 4 5 (rl 13 30 [])) A17v9 (finish A17))) (.exit 0) (s315v3 n0 n1 n2 n3 n4 n5 n6 f0 f1 f2 f3 f4 f5 f6 w0) =
  (loopN (eB A17v6 (C47 u) u) N315v2 u (s315v7 n0 n1 n2 n3 n4 n5 n6 f0 f1 f2 f3 f4 f5 f6 w0) (kBlk 2 (kSeq (C47 u) u (10 :: 11 :: 12 :: (rl 43 20 [])) A17v8 (finish A17)))):=by kernel_rfl
theorem t315v5 :
  loopN (eB A17v6 (C47 u) u) N315v2 u (s315v7 n0 n1 n2 n3 n4 n5 n6 f0 f1 f2 f3 f4 f5 f6 w0) k =
  L315v2 u w0 n0 f0 n1 f1 n2 f2 n3 f3 n4 f4 n5 f5 n6 f6 u 0 0 (fun x0=>k (.exit 2) (s315v5 n0 n1 n2 n3 n4 n5 n6 f0 f1 f2 f3 f4 f5 f6 x0 w0)) :=
 Eq.trans (loopN_at (by kernel_rfl)) (q315v2 ..)
theorem g315v6 :
  (kBlk 2 (kSeq (C47 u) u (10 :: 11 :: 12 :: (rl 43 20 [])) A17v8 (finish A17))) (.exit 2) (s315v5 n0 n1 n2 n3 n4 n5 n6 f0 f1 f2 f3 f4 f5 f6 i0 w0) =
  (bif (decide (i0>1099511627776)) then (some [.v (vi 13)]) else (some [.v (vi 0)])):=by kernel_rfl
theorem e315:evalF (C47 u) u A17 [.agg [(.s w0),(ro kE n0 f0),(ro kA n1 f1),(ro kG n2 f2),(ro kC n3 f3),(ro kF n4 f4)],.agg [(ro kD n5 f5),(ro (.pr .str kV) n6 f6)]]=ob (F315 u w0 n0 f0 n1 f1 n2 f2 n3 f3 n4 f4 n5 f5 n6 f6) fun t=>some [.v (vi t)]:=Eq.trans (b:=(loopN (eB A17v4 (C47 u) u) N315v1 u (s315v6 n0 n1 n2 n3 n4 n5 n6 f0 f1 f2 f3 f4 f5 f6 w0) (kBlk 0 (kSeq (C47 u) u (rl 4 5 (rl 13 30 [])) A17v9 (finish A17))))) (by kernel_rfl) (by
 simp only [F315,ob_bif,ob_ob,ob_none,ob_some,nl315v1,nl315v2,t315v1,g315v2,g315v3,g315v4,t315v5,g315v6])
def O315:Ora:=mkO (qc (ag (tc cS (tc (cL kE) (tc (cL kA) (tc (cL kG) (tc (cL kC) (t1 (cL kF)))))))) (q1 (ag (tc (cL kD) (t1 (cL (.pr .str kV))))))) (fun x=>F315 u x.1.1 x.1.2.1.1 x.1.2.1.2 x.1.2.2.1.1 x.1.2.2.1.2 x.1.2.2.2.1.1 x.1.2.2.2.1.2 x.1.2.2.2.2.1.1 x.1.2.2.2.2.1.2 x.1.2.2.2.2.2.1 x.1.2.2.2.2.2.2 x.2.1.1 x.2.1.2 x.2.2.1 x.2.2.2) fun t=>[.v (vi t)]
theorem d315:DO (O315 u) (C47 u) 17 A17:=dO u (fun x=>by exact e315 u x.1.2.1.1 x.1.2.2.1.1 x.1.2.2.2.1.1 x.1.2.2.2.2.1.1 x.1.2.2.2.2.2.1 x.2.1.1 x.2.2.1 x.1.2.1.2 x.1.2.2.1.2 x.1.2.2.2.1.2 x.1.2.2.2.2.1.2 x.1.2.2.2.2.2.2 x.2.1.2 x.2.2.2 x.1.1)
def C48:Oracle:=(C47 u).add 17 (fun _=>true) (O315 u)
def A45v1:AC:=(.seq (.region 9 [o1 2 (sk 0)] 0 none) []
 (.ret (0 :: 1 :: (rl 3 51 []))))
def A45:AF:=⟨54,[.tmp 2],
 (.seq (.region 0 [o1 1 (bx 0 97 0),o1 2 (sk 0)] 1 none) []
 (.seq (.block 0
 (.seq (.region 1 [o1 4 (fa 97 1 0 0),o1 5 (lo 9 4),o1 6 (cs 40 [5] [9]),o1 7 (.unOp .not 4 (tm 6)),mv 8 7,og 9 (fa 97 1 1 1) 8 false,og 10 (lo 9 9) 8 false,og 11 (cs 40 [10] [9]) 8 false,og 12 (.unOp .not 4 (tm 11)) 8 false,o1 13 (pa 8 12),mv 14 13,og 15 (fa 97 1 2 2) 14 false,og 16 (lo 9 15) 14 false,og 17 (cs 40 [16] [9]) 14 false,og 18 (.unOp .not 4 (tm 17)) 14 false,o1 19 (pa 14 18),o1 3 (sg 19)] 0 none) []
  (.cond (tm 3)
  (.seq (.region 2 [o1 2 (sk 6)] 0 none) []
   (.ret (0 :: 1 :: (rl 3 51 []))))
  (.seq (.region 3 [o1 21 (fa 97 1 1 1),o1 22 (lo 9 21),o1 23 (fa 97 1 2 2),o1 24 (lo 9 23),o1 25 (bt .eql 9 22 24),o1 20 (sg 25)] 0 none) []
   (.cond (tm 20)
   (.seq (.region 4 [o1 2 (sk 2)] 0 none) []
    (.ret (0 :: 1 :: (rl 3 51 []))))
   (.seq (.region 5 [o1 27 (fa 97 1 3 3),o1 28 (lo 3 27),o1 29 (bk .neq 3 28 1),mv 30 29,og 31 (fa 97 1 3 3) 30 true,og 32 (lo 3 31) 30 true,og 33 (bk .neq 3 32 2) 30 true,o1 34 (po 30 33),o1 26 (sg 34)] 0 none) []
    (.cond (tm 26)
    (.seq (.region 6 [o1 2 (sk 10)] 0 none) []
     (.ret (0 :: 1 :: (rl 3 51 []))))
    (.seq (.region 7 [o1 36 (fa 97 1 4 4),o1 37 (lo 3 36),o1 38 (bk .lss 3 37 1),mv 39 38,og 40 (fa 97 1 4 4) 39 false,og 41 (lo 3 40) 39 false,og 42 (bk .gtr 3 41 32768) 39 false,o1 43 (pa 39 42),mv 44 43,og 45 (fa 97 1 5 5) 44 false,og 46 (lo 3 45) 44 false,og 47 (bk .lss 3 46 1) 44 false,o1 48 (pa 44 47),mv 49 48,og 50 (fa 97 1 5 5) 49 false,og 51 (lo 3 50) 49 false,og 52 (bk .gtr 3 51 3) 49 false,o1 53 (pa 49 52),o1 35 (sg 53)] 0 none) []
     (.cond (tm 35)
     (.seq (.region 8 [o1 2 (sk 9)] 0 none) []
      (.ret (0 :: 1 :: (rl 3 51 []))))
     .skip))))))))) (rl 2 52 [])
 A45v1))⟩
def F316 (x0 x1 x2:ByteArray) (x3 x4 x5:Int):Option (Int) :=
 (ob (F301 u x0) fun x6=>(bif ((!x6)==false) then (ob (F301 u x1) fun x7=>(bif ((!x7)==false) then (ob (F301 u x2) fun x8=>(bif (!x8) then (some 6) else (bif (ByteArray.toList x1==ByteArray.toList x2) then (some 2) else (bif ((x3 != 1)==true) then (bif (x3 != 2) then (some 10) else (bif ((decide (x4<1))==false) then (bif ((decide (x4>32768))==false) then (bif ((decide (x5<1))==false) then (bif (decide (x5>3)) then (some 9) else (some 0)) else (some 9)) else (some 9)) else (some 9))) else (bif ((decide (x4<1))==false) then (bif ((decide (x4>32768))==false) then (bif ((decide (x5<1))==false) then (bif (decide (x5>3)) then (some 9) else (some 0)) else (some 9)) else (some 9)) else (some 9)))))) else (some 6))) else (some 6)))
theorem e316:evalF (C48 u) u A45 [.agg [(.s w0),(.s w1),(.s w2),(vi i0),(vi i1),(vi i2)]]=ob (F316 u w0 w1 w2 i0 i1 i2) fun t=>some [.v (vi t)]:=by
 simp only [F316,ob_bif,ob_ob,ob_none,ob_some]
 kernel_rfl
def O316:Ora:=mkO (q1 (ag (tc cS (tc cS (tc cS (tc ci (tc ci (t1 ci)))))))) (fun x=>F316 u x.1 x.2.1 x.2.2.1 x.2.2.2.1 x.2.2.2.2.1 x.2.2.2.2.2) fun t=>[.v (vi t)]
theorem d316:DO (O316 u) (C48 u) 45 A45:=dO u (fun x=>by exact e316 u x.2.2.2.1 x.2.2.2.2.1 x.2.2.2.2.2 x.1 x.2.1 x.2.2.1)
def C49:Oracle:=(C48 u).add 45 (fun _=>true) (O316 u)
def A18v1:AC:=(.seq (.region 7 [o1 26 (ln 28 6 1),o1 27 (fa 28 1 3 3),o1 28 (lo 24 27),mv 29 3,o1 30 (.indexAddr 24 97 6 (tm 28) (tm 29)),o1 31 (fa 97 30 1 1),o1 32 (lo 9 31),o1 33 (cf 46 [26,32] [28,9]),mv 25 33,o1 34 (.extract (tm 25) 0),o1 35 (.extract (tm 25) 1),o1 5 (.alloc 0 92 [vcs ByteArray.empty,vci 0,vci 0,vcs ByteArray.empty,vcs ByteArray.empty,vci 0,vcn,vcn,vcs ByteArray.empty,vci 0,vci 0,vci 0,vci 0,vci 0,vci 0,vci 0,vci 0,vci 0]),o0 (.store 92 18 (tm 5) (tm 34)),o1 6 (sg 35)] 1 (some [[],[],[1],[],[1,2,3],(rl 1 4 []),(rl 1 5 []),(rl 0 7 []),(rl 0 8 []),(rl 0 9 []),(rl 0 9 []),[],(rl 0 10 [11]),(rl 0 13 [])])) []
 (.seq (.region 8 [o1 37 (ln 28 6 1),o1 38 (fa 28 1 3 3),o1 39 (lo 24 38),mv 40 3,o1 41 (.indexAddr 24 97 6 (tm 39) (tm 40)),o1 42 (fa 97 41 2 2),o1 43 (lo 9 42),o1 44 (cf 46 [37,43] [28,9]),mv 36 44,o1 45 (.extract (tm 36) 0),o1 46 (.extract (tm 36) 1),o1 7 (.alloc 0 92 [vcs ByteArray.empty,vci 0,vci 0,vcs ByteArray.empty,vcs ByteArray.empty,vci 0,vcn,vcn,vcs ByteArray.empty,vci 0,vci 0,vci 0,vci 0,vci 0,vci 0,vci 0,vci 0,vci 0]),o0 (.store 92 18 (tm 7) (tm 45)),o1 8 (sg 46)] 1 (some [[],[],[1],[],[1,2,3],(rl 1 4 []),(rl 1 5 []),(rl 0 7 []),(rl 0 8 []),(rl 0 9 []),(rl 0 9 []),[],(rl 0 10 [11]),(rl 0 13 [])])) []
 (.seq (.region 9 [mv 47 6,o1 48 (.unOp .not 4 (tm 47)),mv 49 48,og 50 (.move (tm 8)) 49 false,og 51 (.unOp .not 4 (tm 50)) 49 false,o1 52 (pa 49 51)] 0 none) []
 (.cond (tm 52)
 (.seq (.region 10 [o1 2 (sk 8)] 0 none) []
  (.ret (0 :: 1 :: (rl 3 50 []))))
 .skip))))
def A18v2:AC:=(.region 3 [mv 14 3,o1 15 (bk .add 3 14 1),o1 3 (sg 15)] 0 none)
def A18v3:AC:=(.seq (.block 1
 (.seq (.seq (.region 4 [o1 16 (fa 28 1 3 3),o1 17 (lo 24 16),mv 18 3,o1 19 (.indexAddr 24 97 6 (tm 17) (tm 18)),o1 20 (ln 97 6 19),o1 21 (cs 45 [20] [97]),o1 4 (sg 21)] 0 none) []
  (.seq (.region 5 [mv 22 4,o1 23 (bk .neq 34 22 0)] 0 none) []
  (.cond (tm 23)
  (.seq (.region 6 [mv 24 4,o1 2 (sg 24)] 0 none) []
   (.ret (0 :: 1 :: (rl 3 50 []))))
  .skip))) (2 :: 4 :: (rl 16 9 []))
  A18v1)) (2 :: (rl 4 5 (rl 16 37 [])))
 A18v2)
def A18v4:AC:=(.seq (.seq (.region 2 [mv 9 3,o1 10 (fa 28 1 3 3),o1 11 (lo 24 10),o1 12 (.len 24 false (tm 11)),o1 13 (bt .lss 3 9 12)] 0 none) []
 (.cond (tm 13)
 .skip
 (.exit 0 (rl 0 53 [])))) (rl 9 5 [])
 A18v3)
def A18v5:AC:=(.seq (.region 11 [o1 2 (sk 0)] 0 none) []
 (.ret (0 :: 1 :: (rl 3 50 []))))
def A18:AF:=⟨53,[.tmp 2],
 (.seq (.region 0 [o1 1 (bx 0 28 0),o1 2 (sk 0)] 1 none) []
 (.seq (.seq (.region 1 [o1 3 (sk 0)] 0 none) []
 (.block 0
 (.loop [] (0 :: 2 :: (rl 4 49 []))
  A18v4))) (rl 2 51 [])
 A18v5))⟩
def N317v1:St→Option St:=nN 1 (0 :: 2 :: (rl 4 49 []))
def s317v0:St:=⟨(.u :: .x (.ptr 0 0) :: .u :: vxi i0 :: (us 49 [])),[.box [(vcs w0),(.c (ro kE n0 f0)),(.c (ro kA n1 f1)),(.c (ro kG n2 f2)),(.c (ro kC n3 f3)),(.c (ro kF n4 f4))]]⟩
def s317v1:St:=⟨(.u :: .u :: vxi i0 :: (us 50 [])),[.box [(vcs w0),(.c (ro kE n0 f0)),(.c (ro kA n1 f1)),(.c (ro kG n2 f2)),(.c (ro kC n3 f3)),(.c (ro kF n4 f4))]]⟩
def s317v2:St:=⟨(.u :: .u :: vxi 8 :: (us 50 [])),[.box [(vcs w0),(.c (ro kE n0 f0)),(.c (ro kA n1 f1)),(.c (ro kG n2 f2)),(.c (ro kC n3 f3)),(.c (ro kF n4 f4))],.box [(vcs w1),(vci i0),(vci i1),(vcs w2),(vcs w3),(vci i2),(.c (ro kP n5 f5)),(.c (ro (.pr (.sl kP) .nil) n6 f6)),(vcs w4),(vci i3),(vci i4),(vci i5),(vci i6),(vci i7),(vci i8),(vci i9),(vci iA),(vci iB)],.box [(vcs w5),(vci iC),(vci iD),(vcs w6),(vcs w7),(vci iE),(.c (ro kP n7 f7)),(.c (ro (.pr (.sl kP) .nil) n8 f8)),(vcs w8),(vci iF),(vci iG),(vci iH),(vci iI),(vci iJ),(vci iK),(vci iL),(vci iM),(vci iN)]]⟩
def s317v3:St:=⟨(us 53 []),[.box [(vcs w0),(.c (ro kE n0 f0)),(.c (ro kA n1 f1)),(.c (ro kG n2 f2)),(.c (ro kC n3 f3)),(.c (ro kF n4 f4))]]⟩
def L317v1 {ρ:Type} (u:Nat) (x0:ByteArray) (x1:Nat) (x2:FF) (x3:Nat) (x4:FF) (x5:Nat) (x6:FF) (x7:Nat) (x8:FF) (x9:Nat) (xA:FF):Nat→Int→(Int→Option ρ)→(ByteArray→Int→Int→ByteArray→ByteArray→Int→Nat→FF→Nat→FF→ByteArray→Int→Int→Int→Int→Int→Int→Int→Int→Int→ByteArray→Int→Int→ByteArray→ByteArray→Int→Nat→FF→Nat→FF→ByteArray→Int→Int→Int→Int→Int→Int→Int→Int→Int→Option ρ)→(Option ρ)→Option ρ
 | 0,_,_,_,_=>none
 | m+1,xB,k0,k1,k2 =>
  (bif (decide (xB<(Int.ofNat x5))) then (bif (inb xB x5) then (ob (F316 u (x6 xB.toNat 0).str (x6 xB.toNat 1).str (x6 xB.toNat 2).str (x6 xB.toNat 3).int (x6 xB.toNat 4).int (x6 xB.toNat 5).int) fun xC=>(bif (xC != 0) then (k0 xC) else (bif (inb xB x5) then (ob (F303 u x0 x1 x2 x3 x4 x5 x6 x7 x8 x9 xA (x6 xB.toNat 1).str) fun xD=>(bif (inb xB x5) then (ob (F303 u x0 x1 x2 x3 x4 x5 x6 x7 x8 x9 xA (x6 xB.toNat 2).str) fun xE=>(bif ((!(pG xD).2.2.2.2)==false) then (bif (!(pG xE).2.2.2.2) then (k1 xD.1 xD.2.1 xD.2.2.1 xD.2.2.2.1 xD.2.2.2.2.1 xD.2.2.2.2.2.1 xD.2.2.2.2.2.2.1 xD.2.2.2.2.2.2.2.1 (p8 xD).1 (p8 xD).2.1 (p8 xD).2.2.1 (p8 xD).2.2.2.1 (p8 xD).2.2.2.2.1 (p8 xD).2.2.2.2.2.1 (p8 xD).2.2.2.2.2.2.1 (p8 xD).2.2.2.2.2.2.2.1 (pG xD).1 (pG xD).2.1 (pG xD).2.2.1 (pG xD).2.2.2.1 xE.1 xE.2.1 xE.2.2.1 xE.2.2.2.1 xE.2.2.2.2.1 xE.2.2.2.2.2.1 xE.2.2.2.2.2.2.1 xE.2.2.2.2.2.2.2.1 (p8 xE).1 (p8 xE).2.1 (p8 xE).2.2.1 (p8 xE).2.2.2.1 (p8 xE).2.2.2.2.1 (p8 xE).2.2.2.2.2.1 (p8 xE).2.2.2.2.2.2.1 (p8 xE).2.2.2.2.2.2.2.1 (pG xE).1 (pG xE).2.1 (pG xE).2.2.1 (pG xE).2.2.2.1) else (L317v1 u x0 x1 x2 x3 x4 x5 x6 x7 x8 x9 xA m (w64 (xB+1)) k0 k1 k2)) else (k1 xD.1 xD.2.1 xD.2.2.1 xD.2.2.2.1 xD.2.2.2.2.1 xD.2.2.2.2.2.1 xD.2.2.2.2.2.2.1 xD.2.2.2.2.2.2.2.1 (p8 xD).1 (p8 xD).2.1 (p8 xD).2.2.1 (p8 xD).2.2.2.1 (p8 xD).2.2.2.2.1 (p8 xD).2.2.2.2.2.1 (p8 xD).2.2.2.2.2.2.1 (p8 xD).2.2.2.2.2.2.2.1 (pG xD).1 (pG xD).2.1 (pG xD).2.2.1 (pG xD).2.2.2.1 xE.1 xE.2.1 xE.2.2.1 xE.2.2.2.1 xE.2.2.2.2.1 xE.2.2.2.2.2.1 xE.2.2.2.2.2.2.1 xE.2.2.2.2.2.2.2.1 (p8 xE).1 (p8 xE).2.1 (p8 xE).2.2.1 (p8 xE).2.2.2.1 (p8 xE).2.2.2.2.1 (p8 xE).2.2.2.2.2.1 (p8 xE).2.2.2.2.2.2.1 (p8 xE).2.2.2.2.2.2.2.1 (pG xE).1 (pG xE).2.1 (pG xE).2.2.1 (pG xE).2.2.2.1))) else none)) else none))) else none) else k2)
theorem nl317v1:∀ (m:Nat) (x0:Int) (k0:Int→Option ρ) (k1:ByteArray→Int→Int→ByteArray→ByteArray→Int→Nat→FF→Nat→FF→ByteArray→Int→Int→Int→Int→Int→Int→Int→Int→Int→ByteArray→Int→Int→ByteArray→ByteArray→Int→Nat→FF→Nat→FF→ByteArray→Int→Int→Int→Int→Int→Int→Int→Int→Int→Option ρ) (k2:Option ρ),ob (L317v1 u w0 n0 f0 n1 f1 n2 f2 n3 f3 n4 f4 m x0 k0 k1 k2) ng=L317v1 u w0 n0 f0 n1 f1 n2 f2 n3 f3 n4 f4 m x0 (fun x1=>ob (k0 x1) ng) (fun x2 x3 x4 x5 x6 x7 x8 x9 xA xB xC xD xE xF xG xH xI xJ xK xL xM xN xO xP xQ xR xS xT xU xV xW xX xY xZ xa xb xc xd xe xf=>ob (k1 x2 x3 x4 x5 x6 x7 x8 x9 xA xB xC xD xE xF xG xH xI xJ xK xL xM xN xO xP xQ xR xS xT xU xV xW xX xY xZ xa xb xc xd xe xf) ng) (ob k2 ng)
 | 0,_,_,_,_=>rfl
 | m+1,x0,k0,k1,k2=>by
  simp only [L317v1,ob_bif,ob_ob,ob_none,nl317v1 m]
theorem q317v1:∀ (m:Nat) (x0:Int),
  loopH (eB A18v4 (C49 u) u) N317v1 m (s317v0 n0 n1 n2 n3 n4 f0 f1 f2 f3 f4 x0 w0) k=L317v1 u w0 n0 f0 n1 f1 n2 f2 n3 f3 n4 f4 m x0 (fun x1=>k .ret (s317v1 n0 n1 n2 n3 n4 f0 f1 f2 f3 f4 x1 w0)) (fun x2 x3 x4 x5 x6 x7 x8 x9 xA xB xC xD xE xF xG xH xI xJ xK xL xM xN xO xP xQ xR xS xT xU xV xW xX xY xZ xa xb xc xd xe xf=>k .ret (s317v2 n0 n1 n2 n3 n4 x8 xA xS xU f0 f1 f2 f3 f4 x9 xB xT xV x3 x4 x7 xD xE xF xG xH xI xJ xK xL xN xO xR xX xY xZ xa xb xc xd xe xf w0 x2 x5 x6 xC xM xP xQ xW)) (k (.exit 0) (s317v3 n0 n1 n2 n3 n4 f0 f1 f2 f3 f4 w0))
 | 0,_=>rfl
 | m+1,x0=>by
  simp only [L317v1,← q317v1 m]
  kernel_rfl
def F317 (x0:ByteArray) (x1:Nat) (x2:FF) (x3:Nat) (x4:FF) (x5:Nat) (x6:FF) (x7:Nat) (x8:FF) (x9:Nat) (xA:FF):Option (Int) :=
 (L317v1 u x0 x1 x2 x3 x4 x5 x6 x7 x8 x9 xA u 0
  (fun xB=>(some xB))
  (fun xC xD xE xF xG xH xI xJ xK xL xM xN xO xP xQ xR xS xT xU xV xW xX xY xZ xa xb xc xd xe xf xg xh xi xj xk xl xm xn xo xp=>(some 8))
  (some 0))
def s317v4:St:=⟨[.agg [(vcs w0),(.c (ro kE n0 f0)),(.c (ro kA n1 f1)),(.c (ro kG n2 f2)),(.c (ro kC n3 f3)),(.c (ro kF n4 f4))],.x (.ptr 0 0),vxi 0,vxi 0,uu,uu,uu,uu,uu,uu,uu,uu,uu,uu,uu,uu,uu,uu,uu,uu,uu,uu,uu,uu,uu,uu,uu,uu,uu,uu,uu,uu,uu,uu,uu,uu,uu,uu,uu,uu,uu,uu,uu,uu,uu,uu,uu,uu,uu,uu,uu,uu,uu],[.box [(vcs w0),(.c (ro kE n0 f0)),(.c (ro kA n1 f1)),(.c (ro kG n2 f2)),(.c (ro kC n3 f3)),(.c (ro kF n4 f4))]]⟩
theorem t317v1 :
  loopN (eB A18v4 (C49 u) u) N317v1 u (s317v4 n0 n1 n2 n3 n4 f0 f1 f2 f3 f4 w0) k =
  L317v1 u w0 n0 f0 n1 f1 n2 f2 n3 f3 n4 f4 u 0 (fun x0=>k .ret (s317v1 n0 n1 n2 n3 n4 f0 f1 f2 f3 f4 x0 w0)) (fun x1 x2 x3 x4 x5 x6 x7 x8 x9 xA xB xC xD xE xF xG xH xI xJ xK xL xM xN xO xP xQ xR xS xT xU xV xW xX xY xZ xa xb xc xd xe=>k .ret (s317v2 n0 n1 n2 n3 n4 x7 x9 xR xT f0 f1 f2 f3 f4 x8 xA xS xU x2 x3 x6 xC xD xE xF xG xH xI xJ xK xM xN xQ xW xX xY xZ xa xb xc xd xe w0 x1 x4 x5 xB xL xO xP xV)) (k (.exit 0) (s317v3 n0 n1 n2 n3 n4 f0 f1 f2 f3 f4 w0)) :=
 Eq.trans (loopN_at (by kernel_rfl)) (q317v1 ..)
theorem g317v2 :
  (kBlk 0 (kSeq (C49 u) u (rl 2 51 []) A18v5 (finish A18))) .ret (s317v1 n0 n1 n2 n3 n4 f0 f1 f2 f3 f4 i0 w0) =
  (some [.v (vi i0)]):=by kernel_rfl
theorem g317v3 :
  (kBlk 0 (kSeq (C49 u) u (rl 2 51 []) A18v5 (finish A18))) .ret (s317v2 n0 n1 n2 n3 n4 n5 n6 n7 n8 f0 f1 f2 f3 f4 f5 f6 f7 f8 i0 i1 i2 i3 i4 i5 i6 i7 i8 i9 iA iB iC iD iE iF iG iH iI iJ iK iL iM iN w0 w1 w2 w3 w4 w5 w6 w7 w8) =
  (some [.v (vi 8)]):=by kernel_rfl
theorem g317v4 :
  (kBlk 0 (kSeq (C49 u) u (rl 2 51 []) A18v5 (finish A18))) (.exit 0) (s317v3 n0 n1 n2 n3 n4 f0 f1 f2 f3 f4 w0) =
  (some [.v (vi 0)]):=by kernel_rfl
theorem e317:evalF (C49 u) u A18 [.agg [(.s w0),(ro kE n0 f0),(ro kA n1 f1),(ro kG n2 f2),(ro kC n3 f3),(ro kF n4 f4)]]=ob (F317 u w0 n0 f0 n1 f1 n2 f2 n3 f3 n4 f4) fun t=>some [.v (vi t)]:=Eq.trans (b:=(loopN (eB A18v4 (C49 u) u) N317v1 u (s317v4 n0 n1 n2 n3 n4 f0 f1 f2 f3 f4 w0) (kBlk 0 (kSeq (C49 u) u (rl 2 51 []) A18v5 (finish A18))))) (by kernel_rfl) (by
 simp only [F317,ob_bif,ob_ob,ob_none,ob_some,nl317v1,t317v1,g317v2,g317v3,g317v4])
def O317:Ora:=mkO (q1 (ag (tc cS (tc (cL kE) (tc (cL kA) (tc (cL kG) (tc (cL kC) (t1 (cL kF))))))))) (fun x=>F317 u x.1 x.2.1.1 x.2.1.2 x.2.2.1.1 x.2.2.1.2 x.2.2.2.1.1 x.2.2.2.1.2 x.2.2.2.2.1.1 x.2.2.2.2.1.2 x.2.2.2.2.2.1 x.2.2.2.2.2.2) fun t=>[.v (vi t)]
theorem d317:DO (O317 u) (C49 u) 18 A18:=dO u (fun x=>by exact e317 u x.2.1.1 x.2.2.1.1 x.2.2.2.1.1 x.2.2.2.2.1.1 x.2.2.2.2.2.1 x.2.1.2 x.2.2.1.2 x.2.2.2.1.2 x.2.2.2.2.1.2 x.2.2.2.2.2.2 x.1)
def C50:Oracle:=(C49 u).add 18 (fun _=>true) (O317 u)
def A47:AF:=⟨19,[.tmp 4],
 (.seq (.region 0 [o1 2 (bx 0 28 0),o1 4 (sb false)] 1 none) []
 (.seq (.region 1 [o1 8 (ln 28 6 2),mv 9 1,o1 10 (cs 39 [8,9] [28,9]),mv 7 10,o1 11 (.extract (tm 7) 0),o1 12 (.extract (tm 7) 1),o1 5 (.alloc 0 60 [vcs ByteArray.empty,vci 0,vcs ByteArray.empty]),o0 (.store 60 3 (tm 5) (tm 11)),o1 6 (sg 12)] 1 none) []
 (.seq (.region 2 [mv 13 6,mv 14 13,og 15 (fa 60 5 1 1) 14 true,og 16 (lo 3 15) 14 true,og 17 (bk .eql 3 16 1) 14 true,o1 18 (po 14 17),o1 4 (sg 18)] 0 none) []
 (.ret (rl 0 4 (rl 5 14 []))))))⟩
def F318 (x0:ByteArray) (x1:Nat) (x2:FF) (x3:Nat) (x4:FF) (x5:Nat) (x6:FF) (x7:Nat) (x8:FF) (x9:Nat) (xA:FF) (xB:ByteArray):Option (Bool) :=
 (ob (F294 u x0 x1 x2 x3 x4 x5 x6 x7 x8 x9 xA xB) fun xC=>(bif (xC.2.2.2==true) then (some (xC.2.1==1)) else (some false)))
theorem e318:evalF (C50 u) u A47 [.agg [(.s w0),(ro kE n0 f0),(ro kA n1 f1),(ro kG n2 f2),(ro kC n3 f3),(ro kF n4 f4)],.v (.s w1)]=ob (F318 u w0 n0 f0 n1 f1 n2 f2 n3 f3 n4 f4 w1) fun t=>some [.v (.b t)]:=by
 simp only [F318,ob_bif,ob_ob,ob_none,ob_some]
 kernel_rfl
def O318:Ora:=mkO (qc (ag (tc cS (tc (cL kE) (tc (cL kA) (tc (cL kG) (tc (cL kC) (t1 (cL kF)))))))) (q1 (av cS))) (fun x=>F318 u x.1.1 x.1.2.1.1 x.1.2.1.2 x.1.2.2.1.1 x.1.2.2.1.2 x.1.2.2.2.1.1 x.1.2.2.2.1.2 x.1.2.2.2.2.1.1 x.1.2.2.2.2.1.2 x.1.2.2.2.2.2.1 x.1.2.2.2.2.2.2 x.2) fun t=>[.v (.b t)]
theorem d318:DO (O318 u) (C50 u) 47 A47:=dO u (fun x=>by exact e318 u x.1.2.1.1 x.1.2.2.1.1 x.1.2.2.2.1.1 x.1.2.2.2.2.1.1 x.1.2.2.2.2.2.1 x.1.2.1.2 x.1.2.2.1.2 x.1.2.2.2.1.2 x.1.2.2.2.2.1.2 x.1.2.2.2.2.2.2 x.1.1 x.2)
def C51:Oracle:=(C50 u).add 47 (fun _=>true) (O318 u)
end Go.Eng.R13
