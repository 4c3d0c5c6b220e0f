/-
 The functions of the program,run on symbols;printed by decomp.py.
-/
import Derived.Test.YtkknnlhhchielaaGreatDoorDecT0
import Derived.Test.YtkknnlhhchielaaGreatDoorEngAn
import Derived.Test.YtkknnlhhchielaaGreatDoorProg
set_option linter.all false
set_option maxRecDepth 1000000
set_option maxHeartbeats 4000000
namespace Go.Eng.R13
open Go Go.RowKit Go.Eng
open Go.Proofs
variable {ρ σ : Type} (u m : Nat) (k : Ex → St → Option ρ) (ng : ρ → Option σ) (n0 n1 n2 n3 n4 n5 n6 n7 : Nat) (f0 f1 f2 f3 f4 f5 f6 f7 : FF) (i0 i1 i2 i3 i4 i5 i6 i7 i8 i9 iA iB iC iD iE iF iG iH iI iJ iK iL iM : Int) (b0 b1 : Bool) (w0 w1 w2 w3 w4 w5 w6 w7 w8 w9 : ByteArray) (g0 g1 : Nat → CV)
def B44:An tT Tryz.f44 [.k [2,6,7,8],.k (0 :: 1 :: (rl 3 19 [])),.k (5 :: (rl 9 12 [])),.h [],.k (0 :: 1 :: 2 :: (rl 4 6 (rl 13 9 []))),.k [],.k (0 :: 1 :: 2 :: (rl 4 18 [])),.k (0 :: 1 :: (rl 3 19 []))]:=by
 apply Subtype.mk;cbv<;>exact rfl
def A44:AF:=B44.1
def A44v4:AC:=sA A44.body [1,1]
def A44v3:AC:=sA A44v4 [1,1]
def A44v2:AC:=sA A44v4 [1,0,1,0,0]
def N18v1:St→Option St:=nN 1 (0 :: 1 :: 2 :: (rl 4 6 (rl 13 9 [])))
def s18v0:St:=⟨(us 3 (vxi i0 :: (us 6 (.x (.c (ro kE n0 f0)) :: vxi i1 :: vxi i2 :: (us 9 []))))),[.box [(.c (ro kP n1 f1)),(.c (ro kE n2 f2))]]⟩
def s18v1:St:=⟨(us 3 (vxi i0 :: (us 18 []))),[.box [(.c (ro kP n0 f0)),(.c (ro kE n1 f1))]]⟩
def L18v1 {ρ:Type} (u:Nat) (x0:Nat) (x1:FF) (x2:Int) (x3:Nat) (x4:FF) (x5:Nat) (x6:FF):Nat→Int→Int→(Int→Option ρ)→Option ρ
 | 0,_,_,_=>none
 | m+1,x7,x8,k0 =>
  (bif (decide (x8<x2)) then (bif (inb x8 x0) then (ob (F34 u (x1 x8.toNat 0).len (x1 x8.toNat 0).el) fun x9=>(L18v1 u x0 x1 x2 x3 x4 x5 x6 m (w64 (x7+x9)) (w64 (x8+1)) k0)) else none) else (k0 x7))
theorem nl18v1:∀ (m:Nat) (x0 x1:Int) (k0:Int→Option ρ),ob (L18v1 u n0 f0 i0 n1 f1 n2 f2 m x0 x1 k0) ng=L18v1 u n0 f0 i0 n1 f1 n2 f2 m x0 x1 (fun x2=>ob (k0 x2) ng)
 | 0,_,_,_=>rfl
 | m+1,x0,x1,k0=>by
  simp only [L18v1,ob_bif,ob_ob,ob_none,nl18v1 m]
theorem q18v1:∀ (m:Nat) (x0 x1:Int),
  loopH (eB A44v2 (C54 u) u) N18v1 m (s18v0 n0 n1 n2 f0 f1 f2 x0 i0 x1) k=L18v1 u n0 f0 i0 n1 f1 n2 f2 m x0 x1 (fun x2=>k (.exit 0) (s18v1 n1 n2 f1 f2 x2))
 | 0,_,_=>rfl
 | m+1,x0,x1=>by
  simp only [L18v1,← q18v1 m]
  kernel_rfl
def F18 (x0:Nat) (x1:FF) (x2:Nat) (x3:FF):Option (Int) :=
 (ob (F13 u x0 x1 x2 x3) fun x4=>(bif (x4 != 0) then (some 0) else (ob (F42 u x0 x1 x2 x3) fun x5=>(L18v1 u x5.1 x5.2 (Int.ofNat x5.1) x0 x1 x2 x3 u 0 0
  (fun x6=>(some x6))))))
theorem e18:evalF (C54 u) u A44 [.agg [(ro kP n0 f0),(ro kE n1 f1)]]=ob (F18 u n0 f0 n1 f1) fun t=>some [.v (vi t)]:=Eq.trans (b:=(ob (F13 u n0 f0 n1 f1) fun x0=>(bif (x0 != 0) then (some [.v (vi 0)]) else (ob (F42 u n0 f0 n1 f1) fun x1=>(loopH (eB A44v2 (C54 u) u) N18v1 u (s18v0 x1.1 n0 n1 x1.2 f0 f1 0 (Int.ofNat x1.1) 0) (kBlk 0 (kSeq (C54 u) u (5 :: (rl 9 12 [])) A44v3 (finish A44)))))))) (by kernel_rfl) (by
 simp only [F18,ob_bif,ob_ob,ob_none,ob_some,nl18v1,q18v1]<;>kernel_rfl)
def O18:Ora:=mkO (q1 (ag (tc (cL kP) (t1 (cL kE))))) (fun x=>F18 u x.1.1 x.1.2 x.2.1 x.2.2) fun t=>[.v (vi t)]
theorem d18:DO (O18 u) (C54 u) 44 A44:=dO u (fun x=>by exact e18 u x.1.1 x.2.1 x.1.2 x.2.2)
def C55:Oracle:=(C54 u).add 44 (fun _=>true) (O18 u)
def B15:An tT Tryz.f15 [.k (rl 9 4 []),.k (rl 0 4 (rl 5 30 [])),.k (6 :: 7 :: 8 :: (rl 13 21 [])),.h [],.k (0 :: 2 :: 3 :: (rl 5 9 (rl 17 18 []))),.k [],.k (rl 0 4 (rl 5 30 [])),.k (6 :: 7 :: 8 :: (rl 18 15 [])),.k (rl 0 4 (rl 5 30 []))]:=by
 apply Subtype.mk;cbv<;>exact rfl
def A15:AF:=B15.1
def A15v5:AC:=sA A15.body [1,1]
def A15v4:AC:=sA A15v5 [1]
def A15v3:AC:=sA A15v5 [0,1,0,0]
def N183v1:St→Option St:=nN 1 (0 :: 2 :: 3 :: (rl 5 9 (rl 17 18 [])))
def s183v0:St:=⟨(.u :: .x (.c (ro kA n0 f0)) :: .u :: .u :: vxi i0 :: (us 9 (.x (.c (ro kB n1 f1)) :: vxi i1 :: vxi i2 :: (us 18 [])))),[.box [(vcs w0),(vci i3),(.c (ro kB n1 f1))]]⟩
def s183v1:St:=⟨(us 4 (vxi i0 :: (us 30 []))),[.box [(vcs w0),(vci i1),(.c (ro kB n0 f0))]]⟩
def L183v1 {ρ:Type} (u:Nat) (x0:Nat) (x1:FF) (x2:Nat) (x3:FF) (x4:Int) (x5:ByteArray) (x6:Int):Nat→Int→Int→(Int→Option ρ)→Option ρ
 | 0,_,_,_=>none
 | m+1,x7,x8,k0 =>
  (bif (decide (x8<x4)) then (bif (inb x8 x2) then (ob (F172 u x0 x1 (x3 x8.toNat 0).str) fun x9=>(bif (pG x9).2.2.2.2 then (ob (F18 u x9.2.2.2.2.2.2.1 x9.2.2.2.2.2.2.2.1 (p8 x9).1 (p8 x9).2.1) fun xA=>(L183v1 u x0 x1 x2 x3 x4 x5 x6 m (w64 (x7+xA)) (w64 (x8+1)) k0)) else (L183v1 u x0 x1 x2 x3 x4 x5 x6 m x7 (w64 (x8+1)) k0))) else none) else (k0 x7))
theorem nl183v1:∀ (m:Nat) (x0 x1:Int) (k0:Int→Option ρ),ob (L183v1 u n0 f0 n1 f1 i0 w0 i1 m x0 x1 k0) ng=L183v1 u n0 f0 n1 f1 i0 w0 i1 m x0 x1 (fun x2=>ob (k0 x2) ng)
 | 0,_,_,_=>rfl
 | m+1,x0,x1,k0=>by
  simp only [L183v1,ob_bif,ob_ob,ob_none,nl183v1 m]
theorem q183v1:∀ (m:Nat) (x0 x1:Int),
  loopH (eB A15v3 (C55 u) u) N183v1 m (s183v0 n0 n1 f0 f1 x0 i0 x1 i1 w0) k=L183v1 u n0 f0 n1 f1 i0 w0 i1 m x0 x1 (fun x2=>k (.exit 0) (s183v1 n1 f1 x2 i1 w0))
 | 0,_,_=>rfl
 | m+1,x0,x1=>by
  simp only [L183v1,← q183v1 m]
  kernel_rfl
def F183 (x0:ByteArray) (x1:Int) (x2:Nat) (x3:FF) (x4:Nat) (x5:FF):Option (Int) :=
 (bif (decide ((Int.ofNat x2)>32)) then (some 0) else (L183v1 u x4 x5 x2 x3 (Int.ofNat x2) x0 x1 u 0 0
  (fun x6=>(some x6))))
theorem e183:evalF (C55 u) u A15 [.agg [(.s w0),(vi i0),(ro kB n0 f0)],.v (ro kA n1 f1)]=ob (F183 u w0 i0 n0 f0 n1 f1) fun t=>some [.v (vi t)]:=Eq.trans (b:=(bif (decide ((Int.ofNat n0)>32)) then (some [.v (vi 0)]) else (loopH (eB A15v3 (C55 u) u) N183v1 u (s183v0 n1 n0 f1 f0 0 (Int.ofNat n0) 0 i0 w0) (kBlk 0 (kSeq (C55 u) u (6 :: 7 :: 8 :: (rl 13 21 [])) A15v4 (finish A15)))))) (by kernel_rfl) (by
 simp only [F183,ob_bif,ob_ob,ob_none,ob_some,nl183v1,q183v1]<;>kernel_rfl)
def O183:Ora:=mkO (qc (ag (tc cS (tc ci (t1 (cL kB))))) (q1 (av (cL kA)))) (fun x=>F183 u x.1.1 x.1.2.1 x.1.2.2.1 x.1.2.2.2 x.2.1 x.2.2) fun t=>[.v (vi t)]
theorem d183:DO (O183 u) (C55 u) 15 A15:=dO u (fun x=>by exact e183 u x.1.2.2.1 x.2.1 x.1.2.2.2 x.2.2 x.1.2.1 x.1.1)
def C56:Oracle:=(C55 u).add 15 (fun _=>true) (O183 u)
def A12v1:AC:=(.region 17 [o1 61 (bk .add 3 50 1),mv 50 61] 0 none)
def A12v2:AC:=(.seq (.block 3
 (.seq (.region 14 [mv 52 50,o1 53 (.indexAddr 79 3 1 (tm 48) (tm 50)),o1 54 (lo 3 53),o1 15 (sg 52),o1 16 (sg 54)] 0 none) []
  (.seq (.region 15 [mv 55 16,o1 56 (bk .geq 3 55 0)] 0 none) []
  (.cond (tm 56)
  (.region 16 [o1 57 (lo 79 14),mv 58 15,o1 59 (.buildSlice 0 79 3 kC 1 [vci 0] [(0,(tm 58))]),o1 60 (.append 1 79 3 kC 8 (tm 57) (tm 59)),o0 (.store 79 1 (tm 14) (tm 60))] 2 none)
  .skip)))) (15 :: 16 :: (rl 52 9 []))
 A12v1)
def A12v3:AC:=(.seq (.region 13 [o1 51 (bt .lss 3 50 49)] 0 none) []
 (.seq (.cond (tm 51)
 .skip
 (.exit 2 (rl 0 4 (7 :: 9 :: (rl 15 80 []))))) []
 A12v2))
def A12v4:AC:=(.seq (.region 22 [o1 69 (ln 23 6 4),o1 70 (lo 24 10),o1 71 (lo 79 13),o1 72 (lo 79 14),o1 73 (lo 24 10),o1 74 (lo 79 13),o1 75 (lo 79 17),mv 76 18,o1 77 (lo 3 6),o1 78 (cf 34 [73,74,75,76,77] [24,79,79,79,3]),o1 79 (lo 3 6),o1 80 (cf 33 [69,70,71,72,78,79] [23,24,79,79,65,3]),mv 68 80,o1 81 (.extract (tm 68) 0),o1 82 (.extract (tm 68) 1),o1 19 (.alloc 0 30 [vcs ByteArray.empty,vci 0,vcn]),o0 (.store 30 3 (tm 19) (tm 81)),o1 20 (sg 82)] 1 (some [[],[],[],[],[],[],[],[],[],(rl 4 5 []),[],(rl 0 11 []),(rl 0 12 []),(rl 0 13 []),(rl 0 13 []),[],(rl 0 14 [15]),(rl 0 17 [])])) []
 (.seq (.region 23 [o1 83 (ln 30 3 19),o1 84 (lo 24 5),o1 85 (cs 15 [83,84] [30,24]),o1 21 (sg 85)] 0 none) []
 (.seq (.region 24 [mv 86 20,mv 87 86,og 88 (.move (tm 21)) 87 true,og 89 (lo 3 12) 87 true,og 90 (bt .gtr 3 88 89) 87 true,o1 91 (po 87 90)] 0 none) []
 (.cond (tm 91)
 (.region 25 [o1 92 (ln 30 3 19),mv 93 21,o0 (.store 30 3 (tm 11) (tm 92)),o0 (.store 3 1 (tm 12) (tm 93))] 0 none)
 .skip))))
def A12v5:AC:=(.iter [o1 65 (lo 79 14)] [(4,0,0),(5,1,0),(6,2,0),(8,3,0),(10,4,0),(11,5,0),(12,6,0),(13,7,0),(14,8,0),(17,10,0)] (rl 0 4 (7 :: 9 :: 15 :: 16 :: (rl 18 47 (rl 67 28 [])))) 65 66 67 32 79 itP 7
 (.region 21 [o1 18 (sg 67)] 0 none)
 A12v4)
def A12v6:AC:=(.ghost [9] (.iter [o1 62 (lo 79 14)] [(4,0,0),(5,1,0),(6,2,0),(8,3,0),(10,4,0),(11,5,0),(12,6,0),(13,7,0),(14,8,0)] (rl 0 4 (7 :: 9 :: (rl 15 47 (rl 64 31 [])))) 62 63 64 32 79 itP 5
 (.region 19 [o1 17 (.alloc 0 79 [vcn]),o0 (.store 79 1 (tm 17) (tm 64))] 1 none)
 A12v5))
def A12v7:AC:=(.seq (.region 11 [o1 14 (.alloc 0 79 [vcn])] 1 none) []
 (.seq (.seq (.region 12 [o1 48 (lo 79 13),o1 49 (.len 79 false (tm 48)),o1 50 (.move (ic 0))] 0 none) []
 (.block 2
 (.loop [.cell 14 0 kC] (rl 0 4 (7 :: 9 :: (rl 15 33 (rl 51 44 []))))
  A12v3))) (15 :: 16 :: (rl 48 14 []))
 A12v6))
def A12v8:AC:=(.seq (.region 26 [o1 94 (ln 30 3 11),o0 (.store 30 3 (tm 8) (tm 94)),o1 9 (sk 0)] 0 none) []
 (.ghost [0,1,2,4,5,6] (.ret (rl 0 8 (rl 10 85 [])))))
def A12v9:AC:=(.seq (.region 8 [o1 40 (fa 23 4 0 0),o1 41 (lo 9 40),o1 42 (lo 3 6),o1 43 (.build 30 [vcs ByteArray.empty,vci 0,.c (ro kB 0 nilF)] [(0,1),(1,1),(2,1)] 0 [(0,(tm 41)),(1,(tm 42))]),o1 11 (.alloc 0 30 [vcs ByteArray.empty,vci 0,vcn]),o1 12 (.alloc 1 3 [vci 0]),o0 (.store 30 3 (tm 11) (tm 43)),o0 (.store 3 1 (tm 12) (ic 0))] 2 none) []
 (.seq (.iter [o1 44 (lo 24 10),o1 45 (.len 24 false (tm 44))] [(4,0,0),(5,1,0),(6,2,0),(8,3,0),(10,4,0),(11,5,0),(12,6,0)] (rl 0 4 (7 :: 9 :: (rl 13 32 (rl 47 48 [])))) 45 46 47 31 3 itT 1
 (.region 10 [o1 13 (.alloc 0 79 [vcn]),o0 (.store 79 1 (tm 13) (tm 47))] 1 none)
 A12v7) (rl 13 9 (44 :: 45 :: 46 :: (rl 48 16 (65 :: 66 :: (rl 68 26 [])))))
 A12v8))
def A12v10:AC:=(.seq (.seq (.region 6 [mv 33 3,o1 34 (lo 24 10),o1 35 (.len 24 false (tm 34)),o1 36 (.indexAddrA 75 3 5 1 (.global 0) (tm 35)),o1 37 (lo 3 36),o1 38 (bt .lss 3 33 37)] 0 none) []
 (.cond (tm 38)
 (.seq (.region 7 [o1 39 (.build 30 [vcs ByteArray.empty,vci 0,.c (ro kB 0 nilF)] [(0,1),(1,1),(2,1)] 0 []),o0 (.store 30 3 (tm 8) (tm 39)),o1 9 (sk 29)] 0 none) []
  (.ghost [0,1,2,4] (.ret (rl 0 8 (rl 10 85 [])))))
 .skip)) (9 :: (rl 33 7 []))
 A12v9)
def A12v11:AC:=(.seq (.region 3 [o1 26 (ln 23 6 4),o1 27 (lo 24 5),o1 28 (cf 23 [26,27] [23,24]),o1 10 (.alloc 0 24 [vcn]),o0 (.store 24 1 (tm 10) (tm 28))] 1 none) []
 (.seq (.seq (.region 4 [o1 29 (lo 24 10),o1 30 (.len 24 false (tm 29)),o1 31 (bk .gtr 3 30 4)] 0 none) []
 (.cond (tm 31)
 (.seq (.region 5 [o1 32 (.build 30 [vcs ByteArray.empty,vci 0,.c (ro kB 0 nilF)] [(0,1),(1,1),(2,1)] 0 []),o0 (.store 30 3 (tm 8) (tm 32)),o1 9 (sk 4)] 0 none) []
  (.ghost [0,1,2,4] (.ret (rl 0 8 (rl 10 85 [])))))
 .skip)) (9 :: (rl 29 4 []))
 A12v10))
def A12:AF:=⟨95,[.cell 8 30 (some 3),.tmp 9],
 (.seq (.region 0 [o1 4 (bx 0 23 0),o1 5 (bx 1 24 1),o1 6 (bx 2 3 2),o1 8 (.alloc 3 30 [vcs ByteArray.empty,vci 0,vcn]),o1 9 (sk 0)] 4 none) []
 (.seq (.seq (.region 1 [o1 22 (lo 3 6),o1 23 (.call 22 [(tm 22),(ic 0),(ic 500)] [3,3,3] .snap),o1 24 (.unOp .not 4 (tm 23))] 0 none) []
 (.cond (tm 24)
 (.seq (.region 2 [o1 25 (.build 30 [vcs ByteArray.empty,vci 0,.c (ro kB 0 nilF)] [(0,1),(1,1),(2,1)] 0 []),o0 (.store 30 3 (tm 8) (tm 25)),o1 9 (sk 9)] 0 none) []
  (.ghost [0,1,2] (.ret (rl 0 8 (rl 10 85 [])))))
 .skip)) (9 :: (rl 22 4 []))
 A12v11))⟩
def N401v5:St→Option St:=nN 10 (rl 0 4 (7 :: 9 :: (rl 15 33 (rl 51 44 []))))
def s401v0:St:=⟨(us 4 (.x (.ptr 0 0) :: .x (.ptr 1 0) :: .x (.ptr 2 0) :: .u :: .x (.ptr 3 0) :: .u :: .x (.ptr 4 0) :: .x (.ptr 5 0) :: .x (.ptr 6 0) :: .x (.ptr 7 0) :: .x (.ptr 8 0) :: (us 33 (.x (.c (ro kC n0 f0)) :: vxi i0 :: vxi i1 :: (us 44 []))))),[.box [(vcs w0),(vcs w1),(vci i2),(vci i3),(vci i4),(vcs w2)],.box [(.c (ro kA n1 f1))],.box [(vci i5)],.box [(vcs ByteArray.empty),(vci 0),(vcn)],.box [(.c (ro kA n2 f2))],.box [(vcs w3),(vci i6),(.c (ro kB n3 f3))],.box [(vci i7)],.box [(.c (ro kC n0 f0))],.box [(.own 9 0 n4)],.arr kC n4 f4]⟩
def s401v1:St:=⟨(us 4 (.x (.ptr 0 0) :: .x (.ptr 1 0) :: .x (.ptr 2 0) :: .u :: .x (.ptr 3 0) :: .u :: .x (.ptr 4 0) :: .x (.ptr 5 0) :: .x (.ptr 6 0) :: .x (.ptr 7 0) :: .x (.ptr 8 0) :: (us 80 []))),[.box [(vcs w0),(vcs w1),(vci i0),(vci i1),(vci i2),(vcs w2)],.box [(.c (ro kA n0 f0))],.box [(vci i3)],.box [(vcs ByteArray.empty),(vci 0),(vcn)],.box [(.c (ro kA n1 f1))],.box [(vcs w3),(vci i4),(.c (ro kB n2 f2))],.box [(vci i5)],.box [(.c (ro kC n3 f3))],.box [(.own 9 0 n4)],.arr kC n4 f4]⟩
def L401v5 {ρ:Type} (u:Nat) (x0:Nat) (x1:FF) (x2:Int) (x3 x4:ByteArray) (x5 x6 x7:Int) (x8:ByteArray) (x9:Nat) (xA:FF) (xB:Int) (xC:Nat) (xD:FF) (xE:ByteArray) (xF:Int) (xG:Nat) (xH:FF) (xI:Int):Nat→Int→Nat→FF→(Nat→FF→Option ρ)→Option ρ
 | 0,_,_,_,_=>none
 | m+1,xJ,xK,xL,k0 =>
  (bif (decide (xJ<x2)) then (bif (inb xJ x0) then (bif (decide ((x1 xJ.toNat 0).int≥0)) then (bif (Nat.ble (xK+1) 1073741824) then (L401v5 u x0 x1 x2 x3 x4 x5 x6 x7 x8 x9 xA xB xC xD xE xF xG xH xI m (w64 (xJ+1)) (xK+1) (joinF xK xL (rowsF 1 [(.i .i64 xJ)])) k0) else none) else (L401v5 u x0 x1 x2 x3 x4 x5 x6 x7 x8 x9 xA xB xC xD xE xF xG xH xI m (w64 (xJ+1)) xK xL k0)) else none) else (k0 xK xL))
theorem nl401v5:∀ (m:Nat) (x0:Int) (x1:Nat) (x2:FF) (k0:Nat→FF→Option ρ),ob (L401v5 u n0 f0 i0 w0 w1 i1 i2 i3 w2 n1 f1 i4 n2 f2 w3 i5 n3 f3 i6 m x0 x1 x2 k0) ng=L401v5 u n0 f0 i0 w0 w1 i1 i2 i3 w2 n1 f1 i4 n2 f2 w3 i5 n3 f3 i6 m x0 x1 x2 (fun x3 x4=>ob (k0 x3 x4) ng)
 | 0,_,_,_,_=>rfl
 | m+1,x0,x1,x2,k0=>by
  simp only [L401v5,ob_bif,ob_ob,ob_none,nl401v5 m]
theorem q401v5:∀ (m:Nat) (x0:Int) (x1:Nat) (x2:FF),
  loopH (eB A12v3 (C56 u) u) N401v5 m (s401v0 n0 n1 n2 n3 x1 f0 f1 f2 f3 x2 i0 x0 i1 i2 i3 i4 i5 i6 w0 w1 w2 w3) k=L401v5 u n0 f0 i0 w0 w1 i1 i2 i3 w2 n1 f1 i4 n2 f2 w3 i5 n3 f3 i6 m x0 x1 x2 (fun x3 x4=>k (.exit 2) (s401v1 n1 n2 n3 n0 x3 f1 f2 f3 f0 x4 i1 i2 i3 i4 i5 i6 w0 w1 w2 w3))
 | 0,_,_,_=>rfl
 | m+1,x0,x1,x2=>by
  simp only [L401v5,← q401v5 m]
  kernel_rfl
def N401v3:St→Option St:=nN 11 (rl 0 4 (7 :: 9 :: 15 :: 16 :: (rl 18 47 (rl 67 28 []))))
def s401v2:St:=⟨(us 4 (.x (.ptr 0 0) :: .x (.ptr 1 0) :: .x (.ptr 2 0) :: .u :: .x (.ptr 3 0) :: .u :: .x (.ptr 4 0) :: .x (.ptr 5 0) :: .x (.ptr 6 0) :: .x (.ptr 7 0) :: .x (.ptr 8 0) :: .u :: .u :: .x (.ptr 10 0) :: (us 47 (.x (.c (ro kC n0 f0)) :: vxi i0 :: (us 28 []))))),[.box [(vcs w0),(vcs w1),(vci i1),(vci i2),(vci i3),(vcs w2)],.box [(.c (ro kA n1 f1))],.box [(vci i4)],.box [(vcs ByteArray.empty),(vci 0),(vcn)],.box [(.c (ro kA n2 f2))],.box [(vcs w3),(vci i5),(.c (ro kB n3 f3))],.box [(vci i6)],.box [(.c (ro kC n4 f4))],.box [(.c (ro kC n0 f0))],.dead,.box [(.c (ro kC n5 f5))]]⟩
def s401v3:St:=⟨(us 4 (.x (.ptr 0 0) :: .x (.ptr 1 0) :: .x (.ptr 2 0) :: .u :: .x (.ptr 3 0) :: .u :: .x (.ptr 4 0) :: .x (.ptr 5 0) :: .x (.ptr 6 0) :: .x (.ptr 7 0) :: .x (.ptr 8 0) :: .u :: .u :: .x (.ptr 10 0) :: (us 77 []))),[.box [(vcs w0),(vcs w1),(vci i0),(vci i1),(vci i2),(vcs w2)],.box [(.c (ro kA n0 f0))],.box [(vci i3)],.box [(vcs ByteArray.empty),(vci 0),(vcn)],.box [(.c (ro kA n1 f1))],.box [(vcs w3),(vci i4),(.c (ro kB n2 f2))],.box [(vci i5)],.box [(.c (ro kC n3 f3))],.box [(.c (ro kC n4 f4))],.dead,.box [(.c (ro kC n5 f5))]]⟩
def L401v3 {ρ:Type} (u:Nat) (x0:Nat) (x1:FF) (x2 x3:ByteArray) (x4 x5 x6:Int) (x7:ByteArray) (x8:Nat) (x9:FF) (xA:Int) (xB:Nat) (xC:FF) (xD:Nat) (xE:FF) (xF:Nat) (xG:FF):Nat→Int→ByteArray→Int→Nat→FF→Int→(ByteArray→Int→Nat→FF→Int→Option ρ)→Option ρ
 | 0,_,_,_,_,_,_,_=>none
 | m+1,xH,xI,xJ,xK,xL,xM,k0 =>
  (bif ((Nat.ble x0 4)&&true) then (bif (decide (xH<Int.ofNat (List.length (permsL (liL x0 x1))))) then (ob (F399 u xB xC xD xE xF xG (List.length (List.getD (permsL (liL x0 x1)) xH.toNat [])) (fL (List.getD (permsL (liL x0 x1)) xH.toNat [])) xA) fun xN=>(ob (F400 u x2 x3 x4 x5 x6 x7 xB xC xD xE x0 x1 xN.1 xN.2 xA) fun xO=>(ob (F183 u xO.1 xO.2.1 xO.2.2.1 xO.2.2.2.1 x8 x9) fun xP=>(bif (xO.2.2.2.2==true) then (bif (decide (xP>xM)) then (L401v3 u x0 x1 x2 x3 x4 x5 x6 x7 x8 x9 xA xB xC xD xE xF xG m (xH+1) xO.1 xO.2.1 xO.2.2.1 xO.2.2.2.1 xP k0) else (L401v3 u x0 x1 x2 x3 x4 x5 x6 x7 x8 x9 xA xB xC xD xE xF xG m (xH+1) xI xJ xK xL xM k0)) else (L401v3 u x0 x1 x2 x3 x4 x5 x6 x7 x8 x9 xA xB xC xD xE xF xG m (xH+1) xI xJ xK xL xM k0))))) else (k0 xI xJ xK xL xM)) else none)
theorem nl401v3:∀ (m:Nat) (x0:Int) (x1:ByteArray) (x2:Int) (x3:Nat) (x4:FF) (x5:Int) (k0:ByteArray→Int→Nat→FF→Int→Option ρ),ob (L401v3 u n0 f0 w0 w1 i0 i1 i2 w2 n1 f1 i3 n2 f2 n3 f3 n4 f4 m x0 x1 x2 x3 x4 x5 k0) ng=L401v3 u n0 f0 w0 w1 i0 i1 i2 w2 n1 f1 i3 n2 f2 n3 f3 n4 f4 m x0 x1 x2 x3 x4 x5 (fun x6 x7 x8 x9 xA=>ob (k0 x6 x7 x8 x9 xA) ng)
 | 0,_,_,_,_,_,_,_=>rfl
 | m+1,x0,x1,x2,x3,x4,x5,k0=>by
  simp only [L401v3,ob_bif,ob_ob,ob_none,nl401v3 m]
theorem q401v3:∀ (m:Nat) (x0:Int) (x1:ByteArray) (x2:Int) (x3:Nat) (x4:FF) (x5:Int),
  loopH (eI itP [(4,0,0),(5,1,0),(6,2,0),(8,3,0),(10,4,0),(11,5,0),(12,6,0),(13,7,0),(14,8,0),(17,10,0)] 65 66 95 67 7 ((.region 21 [o1 18 (sg 67)] 0 none)) A12v4 (C56 u) u) N401v3 m (s401v2 n0 n1 n2 x3 n3 n4 f0 f1 f2 x4 f3 f4 x0 i0 i1 i2 i3 x2 x5 w0 w1 w2 x1) k=L401v3 u n0 f0 w0 w1 i0 i1 i2 w2 n1 f1 i3 n2 f2 n3 f3 n4 f4 m x0 x1 x2 x3 x4 x5 (fun x6 x7 x8 x9 xA=>k (.exit 999999) (s401v3 n1 n2 x8 n3 n0 n4 f1 f2 x9 f3 f0 f4 i0 i1 i2 i3 x7 xA w0 w1 w2 x6))
 | 0,_,_,_,_,_,_=>rfl
 | m+1,x0,x1,x2,x3,x4,x5=>by
  simp only [L401v3,← q401v3 m]
  kernel_rfl
def N401v6:St→Option St:=nN 10 (rl 0 4 (7 :: 9 :: (rl 15 47 (rl 64 31 []))))
def s401v4:St:=⟨(us 4 (.x (.ptr 0 0) :: .x (.ptr 1 0) :: .x (.ptr 2 0) :: .u :: .x (.ptr 3 0) :: .u :: .x (.ptr 4 0) :: .x (.ptr 5 0) :: .x (.ptr 6 0) :: .x (.ptr 7 0) :: .x (.ptr 8 0) :: (us 47 (.x (.c (ro kC n0 f0)) :: vxi i0 :: (us 31 []))))),[.box [(vcs w0),(vcs w1),(vci i1),(vci i2),(vci i3),(vcs w2)],.box [(.c (ro kA n1 f1))],.box [(vci i4)],.box [(vcs ByteArray.empty),(vci 0),(vcn)],.box [(.c (ro kA n2 f2))],.box [(vcs w3),(vci i5),(.c (ro kB n3 f3))],.box [(vci i6)],.box [(.c (ro kC n4 f4))],.box [(.c (ro kC n0 f0))],.dead]⟩
def s401v5:St:=⟨(us 4 (.x (.ptr 0 0) :: .x (.ptr 1 0) :: .x (.ptr 2 0) :: .u :: .x (.ptr 3 0) :: .u :: .x (.ptr 4 0) :: .x (.ptr 5 0) :: .x (.ptr 6 0) :: .x (.ptr 7 0) :: .x (.ptr 8 0) :: (us 80 []))),[.box [(vcs w0),(vcs w1),(vci i0),(vci i1),(vci i2),(vcs w2)],.box [(.c (ro kA n0 f0))],.box [(vci i3)],.box [(vcs ByteArray.empty),(vci 0),(vcn)],.box [(.c (ro kA n1 f1))],.box [(vcs w3),(vci i4),(.c (ro kB n2 f2))],.box [(vci i5)],.box [(.c (ro kC n3 f3))],.box [(.c (ro kC n4 f4))],.dead]⟩
def L401v6 {ρ:Type} (u:Nat) (x0:Nat) (x1:FF) (x2 x3:ByteArray) (x4 x5 x6:Int) (x7:ByteArray) (x8:Nat) (x9:FF) (xA:Int) (xB:Nat) (xC:FF) (xD:Nat) (xE:FF):Nat→Int→ByteArray→Int→Nat→FF→Int→(ByteArray→Int→Nat→FF→Int→Option ρ)→Option ρ
 | 0,_,_,_,_,_,_,_=>none
 | m+1,xF,xG,xH,xI,xJ,xK,k0 =>
  (bif ((Nat.ble x0 4)&&true) then (bif (decide (xF<Int.ofNat (List.length (permsL (liL x0 x1))))) then (L401v3 u x0 x1 x2 x3 x4 x5 x6 x7 x8 x9 xA xB xC xD xE (List.length (List.getD (permsL (liL x0 x1)) xF.toNat [])) (fL (List.getD (permsL (liL x0 x1)) xF.toNat [])) u 0 xG xH xI xJ xK
  (fun xL xM xN xO xP=>(L401v6 u x0 x1 x2 x3 x4 x5 x6 x7 x8 x9 xA xB xC xD xE m (xF+1) xL xM xN xO xP k0))) else (k0 xG xH xI xJ xK)) else none)
theorem nl401v6:∀ (m:Nat) (x0:Int) (x1:ByteArray) (x2:Int) (x3:Nat) (x4:FF) (x5:Int) (k0:ByteArray→Int→Nat→FF→Int→Option ρ),ob (L401v6 u n0 f0 w0 w1 i0 i1 i2 w2 n1 f1 i3 n2 f2 n3 f3 m x0 x1 x2 x3 x4 x5 k0) ng=L401v6 u n0 f0 w0 w1 i0 i1 i2 w2 n1 f1 i3 n2 f2 n3 f3 m x0 x1 x2 x3 x4 x5 (fun x6 x7 x8 x9 xA=>ob (k0 x6 x7 x8 x9 xA) ng)
 | 0,_,_,_,_,_,_,_=>rfl
 | m+1,x0,x1,x2,x3,x4,x5,k0=>by
  simp only [L401v6,ob_bif,ob_ob,ob_none,nl401v6 m,nl401v3]
def s401v6:St:=⟨(us 4 (.x (.ptr 0 0) :: .x (.ptr 1 0) :: .x (.ptr 2 0) :: .u :: .x (.ptr 3 0) :: .u :: .x (.ptr 4 0) :: .x (.ptr 5 0) :: .x (.ptr 6 0) :: .x (.ptr 7 0) :: .x (.ptr 8 0) :: .u :: .u :: .x (.ptr 10 0) :: (us 46 (.x (.c (ro kC (List.length (List.getD (permsL (liL n0 f0)) i0.toNat [])) (fL (List.getD (permsL (liL n0 f0)) i0.toNat [])))) :: .x (.c (ro kC n0 f0)) :: vxi 0 :: (us 28 []))))),[.box [(vcs w0),(vcs w1),(vci i1),(vci i2),(vci i3),(vcs w2)],.box [(.c (ro kA n1 f1))],.box [(vci i4)],.box [(vcs ByteArray.empty),(vci 0),(vcn)],.box [(.c (ro kA n2 f2))],.box [(vcs w3),(vci i5),(.c (ro kB n3 f3))],.box [(vci i6)],.box [(.c (ro kC n4 f4))],.box [(.c (ro kC n0 f0))],.dead,.box [(.c (ro kC (List.length (List.getD (permsL (liL n0 f0)) i0.toNat [])) (fL (List.getD (permsL (liL n0 f0)) i0.toNat []))))]]⟩
theorem r401v6 :
  loopH (eI itP [(4,0,0),(5,1,0),(6,2,0),(8,3,0),(10,4,0),(11,5,0),(12,6,0),(13,7,0),(14,8,0)] 62 63 95 64 5 ((.region 19 [o1 17 (.alloc 0 79 [vcn]),o0 (.store 79 1 (tm 17) (tm 64))] 1 none)) A12v5 (C56 u) u) N401v6 (m+1) (s401v4 n0 n1 n2 n4 n3 f0 f1 f2 f4 f3 i4 i0 i1 i2 i3 i5 i6 w0 w1 w2 w3) k =
  (bif ((Nat.ble n0 4)&&true) then (bif (decide (i4<Int.ofNat (List.length (permsL (liL n0 f0))))) then (loopN (eI itP [(4,0,0),(5,1,0),(6,2,0),(8,3,0),(10,4,0),(11,5,0),(12,6,0),(13,7,0),(14,8,0),(17,10,0)] 65 66 95 67 7 ((.region 21 [o1 18 (sg 67)] 0 none)) A12v4 (C56 u) u) N401v3 u (s401v6 n0 n1 n2 n4 n3 f0 f1 f2 f4 f3 i4 i0 i1 i2 i3 i5 i6 w0 w1 w2 w3) (kFin (kIt 5 (kItr 63 62 (i4+1) (ro kC n0 f0) (kLoop (eI itP [(4,0,0),(5,1,0),(6,2,0),(8,3,0),(10,4,0),(11,5,0),(12,6,0),(13,7,0),(14,8,0)] 62 63 95 64 5 ((.region 19 [o1 17 (.alloc 0 79 [vcn]),o0 (.store 79 1 (tm 17) (tm 64))] 1 none)) A12v5 (C56 u) u) N401v6 m k))))) else (k (.exit 999999) (s401v5 n1 n2 n4 n3 n0 f1 f2 f4 f3 f0 i0 i1 i2 i3 i5 i6 w0 w1 w2 w3))) else none):=by kernel_rfl
theorem t401v1 :
  loopN (eI itP [(4,0,0),(5,1,0),(6,2,0),(8,3,0),(10,4,0),(11,5,0),(12,6,0),(13,7,0),(14,8,0),(17,10,0)] 65 66 95 67 7 ((.region 21 [o1 18 (sg 67)] 0 none)) A12v4 (C56 u) u) N401v3 u (s401v6 n0 n1 n2 n3 n4 f0 f1 f2 f3 f4 i0 i1 i2 i3 i4 i5 i6 w0 w1 w2 w3) k =
  L401v3 u n0 f0 w0 w1 i1 i2 i3 w2 n1 f1 i4 n2 f2 n4 f4 (List.length (List.getD (permsL (liL n0 f0)) i0.toNat [])) (fL (List.getD (permsL (liL n0 f0)) i0.toNat [])) u 0 w3 i5 n3 f3 i6 (fun x0 x1 x2 x3 x4=>k (.exit 999999) (s401v3 n1 n2 x2 n4 n0 (List.length (List.getD (permsL (liL n0 f0)) i0.toNat [])) f1 f2 x3 f4 f0 (fL (List.getD (permsL (liL n0 f0)) i0.toNat [])) i1 i2 i3 i4 x1 x4 w0 w1 w2 x0)) :=
 Eq.trans (loopN_at (by kernel_rfl)) (q401v3 ..)
theorem g401v2 :
  (kFin (kIt 5 (kItr 63 62 (i0+1) (ro kC n0 f0) (kLoop (eI itP [(4,0,0),(5,1,0),(6,2,0),(8,3,0),(10,4,0),(11,5,0),(12,6,0),(13,7,0),(14,8,0)] 62 63 95 64 5 ((.region 19 [o1 17 (.alloc 0 79 [vcn]),o0 (.store 79 1 (tm 17) (tm 64))] 1 none)) A12v5 (C56 u) u) N401v6 m k)))) (.exit 999999) (s401v3 n1 n2 n3 n4 n0 (List.length (List.getD (permsL (liL n0 f0)) i0.toNat [])) f1 f2 f3 f4 f0 (fL (List.getD (permsL (liL n0 f0)) i0.toNat [])) i1 i2 i3 i4 i5 i6 w0 w1 w2 w3) =
  (loopH (eI itP [(4,0,0),(5,1,0),(6,2,0),(8,3,0),(10,4,0),(11,5,0),(12,6,0),(13,7,0),(14,8,0)] 62 63 95 64 5 ((.region 19 [o1 17 (.alloc 0 79 [vcn]),o0 (.store 79 1 (tm 17) (tm 64))] 1 none)) A12v5 (C56 u) u) N401v6 m (s401v4 n0 n1 n2 n3 n4 f0 f1 f2 f3 f4 (i0+1) i1 i2 i3 i4 i5 i6 w0 w1 w2 w3) k):=by kernel_rfl
theorem q401v6:∀ (m:Nat) (x0:Int) (x1:ByteArray) (x2:Int) (x3:Nat) (x4:FF) (x5:Int),
  loopH (eI itP [(4,0,0),(5,1,0),(6,2,0),(8,3,0),(10,4,0),(11,5,0),(12,6,0),(13,7,0),(14,8,0)] 62 63 95 64 5 ((.region 19 [o1 17 (.alloc 0 79 [vcn]),o0 (.store 79 1 (tm 17) (tm 64))] 1 none)) A12v5 (C56 u) u) N401v6 m (s401v4 n0 n1 n2 x3 n3 f0 f1 f2 x4 f3 x0 i0 i1 i2 i3 x2 x5 w0 w1 w2 x1) k=L401v6 u n0 f0 w0 w1 i0 i1 i2 w2 n1 f1 i3 n2 f2 n3 f3 m x0 x1 x2 x3 x4 x5 (fun x6 x7 x8 x9 xA=>k (.exit 999999) (s401v5 n1 n2 x8 n3 n0 f1 f2 x9 f3 f0 i0 i1 i2 i3 x7 xA w0 w1 w2 x6))
 | 0,_,_,_,_,_,_=>rfl
 | m+1,x0,x1,x2,x3,x4,x5=>by
  rw [r401v6]
  simp only [L401v6,q401v6 m,t401v1,g401v2]
def N401v7:St→Option St:=nN 7 (rl 0 4 (7 :: 9 :: (rl 13 32 (rl 47 48 []))))
def s401v7:St:=⟨(us 4 (.x (.ptr 0 0) :: .x (.ptr 1 0) :: .x (.ptr 2 0) :: .u :: .x (.ptr 3 0) :: .u :: .x (.ptr 4 0) :: .x (.ptr 5 0) :: .x (.ptr 6 0) :: (us 32 (vxi i0 :: vxi i1 :: (us 48 []))))),[.box [(vcs w0),(vcs w1),(vci i2),(vci i3),(vci i4),(vcs w2)],.box [(.c (ro kA n0 f0))],.box [(vci i5)],.box [(vcs ByteArray.empty),(vci 0),(vcn)],.box [(.c (ro kA n1 f1))],.box [(vcs w3),(vci i6),(.c (ro kB n2 f2))],.box [(vci i7)]]⟩
def s401v8:St:=⟨(us 4 (.x (.ptr 0 0) :: .x (.ptr 1 0) :: .x (.ptr 2 0) :: .u :: .x (.ptr 3 0) :: .u :: .x (.ptr 4 0) :: .x (.ptr 5 0) :: .x (.ptr 6 0) :: (us 82 []))),[.box [(vcs w0),(vcs w1),(vci i0),(vci i1),(vci i2),(vcs w2)],.box [(.c (ro kA n0 f0))],.box [(vci i3)],.box [(vcs ByteArray.empty),(vci 0),(vcn)],.box [(.c (ro kA n1 f1))],.box [(vcs w3),(vci i4),(.c (ro kB n2 f2))],.box [(vci i5)]]⟩
def L401v7 {ρ:Type} (u:Nat) (x0:Int) (x1 x2:ByteArray) (x3 x4 x5:Int) (x6:ByteArray) (x7:Nat) (x8:FF) (x9:Int) (xA:Nat) (xB:FF):Nat→Int→ByteArray→Int→Nat→FF→Int→(ByteArray→Int→Nat→FF→Int→Option ρ)→Option ρ
 | 0,_,_,_,_,_,_,_=>none
 | m+1,xC,xD,xE,xF,xG,xH,k0 =>
  (bif ((decide (0≤x0)&&decide (x0≤4))&&true) then (bif (decide (xC<Int.ofNat (turnN x0.toNat))) then (L401v5 u (List.length (turnL x0.toNat xC.toNat)) (fL (turnL x0.toNat xC.toNat)) (Int.ofNat (List.length (turnL x0.toNat xC.toNat))) x1 x2 x3 x4 x5 x6 x7 x8 x9 xA xB xD xE xF xG xH u 0 0 (fun _ _=>.any)
  (fun xI xJ=>(L401v6 u xI xJ x1 x2 x3 x4 x5 x6 x7 x8 x9 xA xB (List.length (turnL x0.toNat xC.toNat)) (fL (turnL x0.toNat xC.toNat)) u 0 xD xE xF xG xH
  (fun xK xL xM xN xO=>(L401v7 u x0 x1 x2 x3 x4 x5 x6 x7 x8 x9 xA xB m (xC+1) xK xL xM xN xO k0))))) else (k0 xD xE xF xG xH)) else none)
theorem nl401v7:∀ (m:Nat) (x0:Int) (x1:ByteArray) (x2:Int) (x3:Nat) (x4:FF) (x5:Int) (k0:ByteArray→Int→Nat→FF→Int→Option ρ),ob (L401v7 u i0 w0 w1 i1 i2 i3 w2 n0 f0 i4 n1 f1 m x0 x1 x2 x3 x4 x5 k0) ng=L401v7 u i0 w0 w1 i1 i2 i3 w2 n0 f0 i4 n1 f1 m x0 x1 x2 x3 x4 x5 (fun x6 x7 x8 x9 xA=>ob (k0 x6 x7 x8 x9 xA) ng)
 | 0,_,_,_,_,_,_,_=>rfl
 | m+1,x0,x1,x2,x3,x4,x5,k0=>by
  simp only [L401v7,ob_bif,ob_ob,ob_none,nl401v7 m,nl401v5,nl401v6]
theorem r401v7 :
  loopH (eI itT [(4,0,0),(5,1,0),(6,2,0),(8,3,0),(10,4,0),(11,5,0),(12,6,0)] 45 46 95 47 1 ((.region 10 [o1 13 (.alloc 0 79 [vcn]),o0 (.store 79 1 (tm 13) (tm 47))] 1 none)) A12v7 (C56 u) u) N401v7 (m+1) (s401v7 n0 n1 n2 f0 f1 f2 i0 i5 i1 i2 i3 i4 i6 i7 w0 w1 w2 w3) k =
  (bif ((decide (0≤i0)&&decide (i0≤4))&&true) then (bif (decide (i5<Int.ofNat (turnN i0.toNat))) then (loopH (eB A12v3 (C56 u) u) N401v5 u (s401v0 (List.length (turnL i0.toNat i5.toNat)) n0 n1 n2 0 (fL (turnL i0.toNat i5.toNat)) f0 f1 f2 nilF (Int.ofNat (List.length (turnL i0.toNat i5.toNat))) 0 i1 i2 i3 i4 i6 i7 w0 w1 w2 w3) (kBlk 2 (kSeq (C56 u) u (15 :: 16 :: (rl 48 14 [])) A12v6 (kIt 1 (kItr 46 45 (i5+1) (vi i0) (kLoop (eI itT [(4,0,0),(5,1,0),(6,2,0),(8,3,0),(10,4,0),(11,5,0),(12,6,0)] 45 46 95 47 1 ((.region 10 [o1 13 (.alloc 0 79 [vcn]),o0 (.store 79 1 (tm 13) (tm 47))] 1 none)) A12v7 (C56 u) u) N401v7 m k)))))) else (k (.exit 999999) (s401v8 n0 n1 n2 f0 f1 f2 i1 i2 i3 i4 i6 i7 w0 w1 w2 w3))) else none):=by kernel_rfl
def s401v9:St:=⟨(us 4 (.x (.ptr 0 0) :: .x (.ptr 1 0) :: .x (.ptr 2 0) :: .u :: .x (.ptr 3 0) :: .u :: .x (.ptr 4 0) :: .x (.ptr 5 0) :: .x (.ptr 6 0) :: .x (.ptr 7 0) :: .x (.ptr 8 0) :: (us 47 (.x (.c (ro kC n0 f0)) :: vxi 0 :: (us 31 []))))),[.box [(vcs w0),(vcs w1),(vci i0),(vci i1),(vci i2),(vcs w2)],.box [(.c (ro kA n1 f1))],.box [(vci i3)],.box [(vcs ByteArray.empty),(vci 0),(vcn)],.box [(.c (ro kA n2 f2))],.box [(vcs w3),(vci i4),(.c (ro kB n3 f3))],.box [(vci i5)],.box [(.c (ro kC (List.length (turnL i6.toNat i7.toNat)) (fL (turnL i6.toNat i7.toNat))))],.box [(.c (ro kC n0 f0))],.dead]⟩
theorem g401v3 :
  (kBlk 2 (kSeq (C56 u) u (15 :: 16 :: (rl 48 14 [])) A12v6 (kIt 1 (kItr 46 45 (i0+1) (vi i1) (kLoop (eI itT [(4,0,0),(5,1,0),(6,2,0),(8,3,0),(10,4,0),(11,5,0),(12,6,0)] 45 46 95 47 1 ((.region 10 [o1 13 (.alloc 0 79 [vcn]),o0 (.store 79 1 (tm 13) (tm 47))] 1 none)) A12v7 (C56 u) u) N401v7 m k))))) (.exit 2) (s401v1 n0 n1 n2 (List.length (turnL i1.toNat i0.toNat)) n3 f0 f1 f2 (fL (turnL i1.toNat i0.toNat)) f3 i2 i3 i4 i5 i6 i7 w0 w1 w2 w3) =
  (loopN (eI itP [(4,0,0),(5,1,0),(6,2,0),(8,3,0),(10,4,0),(11,5,0),(12,6,0),(13,7,0),(14,8,0)] 62 63 95 64 5 ((.region 19 [o1 17 (.alloc 0 79 [vcn]),o0 (.store 79 1 (tm 17) (tm 64))] 1 none)) A12v5 (C56 u) u) N401v6 u (s401v9 n3 n0 n1 n2 f3 f0 f1 f2 i2 i3 i4 i5 i6 i7 i1 i0 w0 w1 w2 w3) (kFin (kIt 1 (kItr 46 45 (i0+1) (vi i1) (kLoop (eI itT [(4,0,0),(5,1,0),(6,2,0),(8,3,0),(10,4,0),(11,5,0),(12,6,0)] 45 46 95 47 1 ((.region 10 [o1 13 (.alloc 0 79 [vcn]),o0 (.store 79 1 (tm 13) (tm 47))] 1 none)) A12v7 (C56 u) u) N401v7 m k))))):=by kernel_rfl
theorem t401v4 :
  loopN (eI itP [(4,0,0),(5,1,0),(6,2,0),(8,3,0),(10,4,0),(11,5,0),(12,6,0),(13,7,0),(14,8,0)] 62 63 95 64 5 ((.region 19 [o1 17 (.alloc 0 79 [vcn]),o0 (.store 79 1 (tm 17) (tm 64))] 1 none)) A12v5 (C56 u) u) N401v6 u (s401v9 n0 n1 n2 n3 f0 f1 f2 f3 i0 i1 i2 i3 i4 i5 i6 i7 w0 w1 w2 w3) k =
  L401v6 u n0 f0 w0 w1 i0 i1 i2 w2 n1 f1 i3 n2 f2 (List.length (turnL i6.toNat i7.toNat)) (fL (turnL i6.toNat i7.toNat)) u 0 w3 i4 n3 f3 i5 (fun x0 x1 x2 x3 x4=>k (.exit 999999) (s401v5 n1 n2 x2 (List.length (turnL i6.toNat i7.toNat)) n0 f1 f2 x3 (fL (turnL i6.toNat i7.toNat)) f0 i0 i1 i2 i3 x1 x4 w0 w1 w2 x0)) :=
 Eq.trans (loopN_at (by kernel_rfl)) (q401v6 ..)
theorem g401v5 :
  (kFin (kIt 1 (kItr 46 45 (i0+1) (vi i1) (kLoop (eI itT [(4,0,0),(5,1,0),(6,2,0),(8,3,0),(10,4,0),(11,5,0),(12,6,0)] 45 46 95 47 1 ((.region 10 [o1 13 (.alloc 0 79 [vcn]),o0 (.store 79 1 (tm 13) (tm 47))] 1 none)) A12v7 (C56 u) u) N401v7 m k)))) (.exit 999999) (s401v5 n0 n1 n2 (List.length (turnL i1.toNat i0.toNat)) n3 f0 f1 f2 (fL (turnL i1.toNat i0.toNat)) f3 i2 i3 i4 i5 i6 i7 w0 w1 w2 w3) =
  (loopH (eI itT [(4,0,0),(5,1,0),(6,2,0),(8,3,0),(10,4,0),(11,5,0),(12,6,0)] 45 46 95 47 1 ((.region 10 [o1 13 (.alloc 0 79 [vcn]),o0 (.store 79 1 (tm 13) (tm 47))] 1 none)) A12v7 (C56 u) u) N401v7 m (s401v7 n0 n1 n2 f0 f1 f2 i1 (i0+1) i2 i3 i4 i5 i6 i7 w0 w1 w2 w3) k):=by kernel_rfl
theorem q401v7:∀ (m:Nat) (x0:Int) (x1:ByteArray) (x2:Int) (x3:Nat) (x4:FF) (x5:Int),
  loopH (eI itT [(4,0,0),(5,1,0),(6,2,0),(8,3,0),(10,4,0),(11,5,0),(12,6,0)] 45 46 95 47 1 ((.region 10 [o1 13 (.alloc 0 79 [vcn]),o0 (.store 79 1 (tm 13) (tm 47))] 1 none)) A12v7 (C56 u) u) N401v7 m (s401v7 n0 n1 x3 f0 f1 x4 i0 x0 i1 i2 i3 i4 x2 x5 w0 w1 w2 x1) k=L401v7 u i0 w0 w1 i1 i2 i3 w2 n0 f0 i4 n1 f1 m x0 x1 x2 x3 x4 x5 (fun x6 x7 x8 x9 xA=>k (.exit 999999) (s401v8 n0 n1 x8 f0 f1 x9 i1 i2 i3 i4 x7 xA w0 w1 w2 x6))
 | 0,_,_,_,_,_,_=>rfl
 | m+1,x0,x1,x2,x3,x4,x5=>by
  rw [r401v7]
  simp only [L401v7,q401v7 m,q401v5,g401v3,t401v4,g401v5]
def F401 (x0 x1:ByteArray) (x2 x3 x4:Int) (x5:ByteArray) (x6:Nat) (x7:FF) (x8 x9:Int):Option (ByteArray × Int × Nat × FF × Int) :=
 (ob (F389 u x8 0 500) fun xA=>(bif (!xA) then (some (ByteArray.empty,0,0,(fun _ _=>.any),9)) else (ob (F391 u x0 x1 x2 x3 x4 x5 x6 x7) fun xB=>(bif (decide ((Int.ofNat xB.1)>4)) then (some (ByteArray.empty,0,0,(fun _ _=>.any),4)) else (bif ((Int.ofNat xB.1)==0) then (bif (decide (x9<1)) then (some (ByteArray.empty,0,0,(fun _ _=>.any),29)) else (L401v7 u (Int.ofNat xB.1) x0 x1 x2 x3 x4 x5 x6 x7 x8 xB.1 xB.2 u 0 x0 x8 0 (fun _ _=>.any) 0
  (fun xC xD xE xF xG=>(some (xC,xD,xE,xF,0))))) else (bif ((Int.ofNat xB.1)==1) then (bif (decide (x9<3)) then (some (ByteArray.empty,0,0,(fun _ _=>.any),29)) else (L401v7 u (Int.ofNat xB.1) x0 x1 x2 x3 x4 x5 x6 x7 x8 xB.1 xB.2 u 0 x0 x8 0 (fun _ _=>.any) 0
  (fun xH xI xJ xK xL=>(some (xH,xI,xJ,xK,0))))) else (bif ((Int.ofNat xB.1)==2) then (bif (decide (x9<21)) then (some (ByteArray.empty,0,0,(fun _ _=>.any),29)) else (L401v7 u (Int.ofNat xB.1) x0 x1 x2 x3 x4 x5 x6 x7 x8 xB.1 xB.2 u 0 x0 x8 0 (fun _ _=>.any) 0
  (fun xM xN xO xP xQ=>(some (xM,xN,xO,xP,0))))) else (bif ((Int.ofNat xB.1)==3) then (bif (decide (x9<343)) then (some (ByteArray.empty,0,0,(fun _ _=>.any),29)) else (L401v7 u (Int.ofNat xB.1) x0 x1 x2 x3 x4 x5 x6 x7 x8 xB.1 xB.2 u 0 x0 x8 0 (fun _ _=>.any) 0
  (fun xR xS xT xU xV=>(some (xR,xS,xT,xU,0))))) else (bif ((Int.ofNat xB.1)==4) then (bif (decide (x9<10473)) then (some (ByteArray.empty,0,0,(fun _ _=>.any),29)) else (L401v7 u (Int.ofNat xB.1) x0 x1 x2 x3 x4 x5 x6 x7 x8 xB.1 xB.2 u 0 x0 x8 0 (fun _ _=>.any) 0
  (fun xW xX xY xZ xa=>(some (xW,xX,xY,xZ,0))))) else none)))))))))
def s401v10 (x0:Nat × FF):St:=⟨(.agg [(vcs w0),(vcs w1),(vci i0),(vci i1),(vci i2),(vcs w2)] :: .x (.c (ro kA n0 f0)) :: vxi i3 :: vxi i4 :: .x (.ptr 0 0) :: .x (.ptr 1 0) :: .x (.ptr 2 0) :: uu :: .x (.ptr 3 0) :: .u :: .x (.ptr 4 0) :: .x (.ptr 5 0) :: .x (.ptr 6 0) :: uu :: uu :: uu :: uu :: uu :: uu :: uu :: uu :: uu :: (us 4 (.agg [(vcs w0),(vcs w1),(vci i0),(vci i1),(vci i2),(vcs w2)] :: .x (.c (ro kA n0 f0)) :: .x (.c (ro kA x0.1 x0.2)) :: (us 11 [.x (.ptr 0 0),vxs w0,vxi i3,.agg [(vcs w0),(vci i3),(.c (ro kB 0 nilF))],.x (.c (ro kA x0.1 x0.2)),vxi (Int.ofNat x0.1),vxi 0,uu,uu,uu,uu,uu,uu,uu,uu,uu,uu,uu,uu,uu,uu,uu,uu,uu,uu,uu,uu,uu,uu,uu,uu,uu,uu,uu,uu,uu,uu,uu,uu,uu,uu,uu,uu,uu,uu,uu,uu,uu,uu,uu,uu,uu,uu,uu,uu])))),[.box [(vcs w0),(vcs w1),(vci i0),(vci i1),(vci i2),(vcs w2)],.box [(.c (ro kA n0 f0))],.box [(vci i3)],.box [(vcs ByteArray.empty),(vci 0),(vcn)],.box [(.c (ro kA x0.1 x0.2))],.box [(vcs w0),(vci i3),(.c (ro kB 0 nilF))],.box [(vci 0)]]⟩
theorem t401v6 (x0:Nat × FF) :
  loopN (eI itT [(4,0,0),(5,1,0),(6,2,0),(8,3,0),(10,4,0),(11,5,0),(12,6,0)] 45 46 95 47 1 ((.region 10 [o1 13 (.alloc 0 79 [vcn]),o0 (.store 79 1 (tm 13) (tm 47))] 1 none)) A12v7 (C56 u) u) N401v7 u (s401v10 n0 f0 i0 i1 i2 i3 i4 w0 w1 w2 x0) k =
  L401v7 u (Int.ofNat x0.1) w0 w1 i0 i1 i2 w2 n0 f0 i3 x0.1 x0.2 u 0 w0 i3 0 nilF 0 (fun x1 x2 x3 x4 x5=>k (.exit 999999) (s401v8 n0 x0.1 x3 f0 x0.2 x4 i0 i1 i2 i3 x2 x5 w0 w1 w2 x1)) :=
 Eq.trans (loopN_at (by kernel_rfl)) (q401v7 ..)
theorem t401v7 (x0:Nat × FF) :
  loopN (eI itT [(4,0,0),(5,1,0),(6,2,0),(8,3,0),(10,4,0),(11,5,0),(12,6,0)] 45 46 95 47 1 ((.region 10 [o1 13 (.alloc 0 79 [vcn]),o0 (.store 79 1 (tm 13) (tm 47))] 1 none)) A12v7 (C56 u) u) N401v7 u (s401v10 n0 f0 i0 i1 i2 i3 i4 w0 w1 w2 x0) k =
  L401v7 u (Int.ofNat x0.1) w0 w1 i0 i1 i2 w2 n0 f0 i3 x0.1 x0.2 u 0 w0 i3 0 nilF 0 (fun x1 x2 x3 x4 x5=>k (.exit 999999) (s401v8 n0 x0.1 x3 f0 x0.2 x4 i0 i1 i2 i3 x2 x5 w0 w1 w2 x1)) :=
 Eq.trans (loopN_at (by kernel_rfl)) (q401v7 ..)
theorem t401v8 (x0:Nat × FF) :
  loopN (eI itT [(4,0,0),(5,1,0),(6,2,0),(8,3,0),(10,4,0),(11,5,0),(12,6,0)] 45 46 95 47 1 ((.region 10 [o1 13 (.alloc 0 79 [vcn]),o0 (.store 79 1 (tm 13) (tm 47))] 1 none)) A12v7 (C56 u) u) N401v7 u (s401v10 n0 f0 i0 i1 i2 i3 i4 w0 w1 w2 x0) k =
  L401v7 u (Int.ofNat x0.1) w0 w1 i0 i1 i2 w2 n0 f0 i3 x0.1 x0.2 u 0 w0 i3 0 nilF 0 (fun x1 x2 x3 x4 x5=>k (.exit 999999) (s401v8 n0 x0.1 x3 f0 x0.2 x4 i0 i1 i2 i3 x2 x5 w0 w1 w2 x1)) :=
 Eq.trans (loopN_at (by kernel_rfl)) (q401v7 ..)
theorem t401v9 (x0:Nat × FF) :
  loopN (eI itT [(4,0,0),(5,1,0),(6,2,0),(8,3,0),(10,4,0),(11,5,0),(12,6,0)] 45 46 95 47 1 ((.region 10 [o1 13 (.alloc 0 79 [vcn]),o0 (.store 79 1 (tm 13) (tm 47))] 1 none)) A12v7 (C56 u) u) N401v7 u (s401v10 n0 f0 i0 i1 i2 i3 i4 w0 w1 w2 x0) k =
  L401v7 u (Int.ofNat x0.1) w0 w1 i0 i1 i2 w2 n0 f0 i3 x0.1 x0.2 u 0 w0 i3 0 nilF 0 (fun x1 x2 x3 x4 x5=>k (.exit 999999) (s401v8 n0 x0.1 x3 f0 x0.2 x4 i0 i1 i2 i3 x2 x5 w0 w1 w2 x1)) :=
 Eq.trans (loopN_at (by kernel_rfl)) (q401v7 ..)
theorem t401v10 (x0:Nat × FF) :
  loopN (eI itT [(4,0,0),(5,1,0),(6,2,0),(8,3,0),(10,4,0),(11,5,0),(12,6,0)] 45 46 95 47 1 ((.region 10 [o1 13 (.alloc 0 79 [vcn]),o0 (.store 79 1 (tm 13) (tm 47))] 1 none)) A12v7 (C56 u) u) N401v7 u (s401v10 n0 f0 i0 i1 i2 i3 i4 w0 w1 w2 x0) k =
  L401v7 u (Int.ofNat x0.1) w0 w1 i0 i1 i2 w2 n0 f0 i3 x0.1 x0.2 u 0 w0 i3 0 nilF 0 (fun x1 x2 x3 x4 x5=>k (.exit 999999) (s401v8 n0 x0.1 x3 f0 x0.2 x4 i0 i1 i2 i3 x2 x5 w0 w1 w2 x1)) :=
 Eq.trans (loopN_at (by kernel_rfl)) (q401v7 ..)
theorem e401:evalF (C56 u) u A12 [.agg [(.s w0),(.s w1),(vi i0),(vi i1),(vi i2),(.s w2)],.v (ro kA n0 f0),.v (vi i3),.v (vi i4)]=ob (F401 u w0 w1 i0 i1 i2 w2 n0 f0 i3 i4) fun t=>some [.agg [(.s t.1),(vi t.2.1),(ro kB t.2.2.1 t.2.2.2.1)],.v (vi t.2.2.2.2)]:=Eq.trans (b:=(ob (F389 u i3 0 500) fun x0=>(bif (!x0) then (some [.agg [(.s ByteArray.empty),(vi 0),(ro kB 0 nilF)],.v (vi 9)]) else (ob (F391 u w0 w1 i0 i1 i2 w2 n0 f0) fun x1=>(bif (decide ((Int.ofNat x1.1)>4)) then (some [.agg [(.s ByteArray.empty),(vi 0),(ro kB 0 nilF)],.v (vi 4)]) else (bif ((Int.ofNat x1.1)==0) then (bif (decide (i4<1)) then (some [.agg [(.s ByteArray.empty),(vi 0),(ro kB 0 nilF)],.v (vi 29)]) else (loopN (eI itT [(4,0,0),(5,1,0),(6,2,0),(8,3,0),(10,4,0),(11,5,0),(12,6,0)] 45 46 95 47 1 ((.region 10 [o1 13 (.alloc 0 79 [vcn]),o0 (.store 79 1 (tm 13) (tm 47))] 1 none)) A12v7 (C56 u) u) N401v7 u (s401v10 n0 f0 i0 i1 i2 i3 i4 w0 w1 w2 x1) (kFin (kSeq (C56 u) u (rl 13 9 (44 :: 45 :: 46 :: (rl 48 16 (65 :: 66 :: (rl 68 26 []))))) A12v8 (finish A12))))) else (bif ((Int.ofNat x1.1)==1) then (bif (decide (i4<3)) then (some [.agg [(.s ByteArray.empty),(vi 0),(ro kB 0 nilF)],.v (vi 29)]) else (loopN (eI itT [(4,0,0),(5,1,0),(6,2,0),(8,3,0),(10,4,0),(11,5,0),(12,6,0)] 45 46 95 47 1 ((.region 10 [o1 13 (.alloc 0 79 [vcn]),o0 (.store 79 1 (tm 13) (tm 47))] 1 none)) A12v7 (C56 u) u) N401v7 u (s401v10 n0 f0 i0 i1 i2 i3 i4 w0 w1 w2 x1) (kFin (kSeq (C56 u) u (rl 13 9 (44 :: 45 :: 46 :: (rl 48 16 (65 :: 66 :: (rl 68 26 []))))) A12v8 (finish A12))))) else (bif ((Int.ofNat x1.1)==2) then (bif (decide (i4<21)) then (some [.agg [(.s ByteArray.empty),(vi 0),(ro kB 0 nilF)],.v (vi 29)]) else (loopN (eI itT [(4,0,0),(5,1,0),(6,2,0),(8,3,0),(10,4,0),(11,5,0),(12,6,0)] 45 46 95 47 1 ((.region 10 [o1 13 (.alloc 0 79 [vcn]),o0 (.store 79 1 (tm 13) (tm 47))] 1 none)) A12v7 (C56 u) u) N401v7 u (s401v10 n0 f0 i0 i1 i2 i3 i4 w0 w1 w2 x1) (kFin (kSeq (C56 u) u (rl 13 9 (44 :: 45 :: 46 :: (rl 48 16 (65 :: 66 :: (rl 68 26 []))))) A12v8 (finish A12))))) else (bif ((Int.ofNat x1.1)==3) then (bif (decide (i4<343)) then (some [.agg [(.s ByteArray.empty),(vi 0),(ro kB 0 nilF)],.v (vi 29)]) else (loopN (eI itT [(4,0,0),(5,1,0),(6,2,0),(8,3,0),(10,4,0),(11,5,0),(12,6,0)] 45 46 95 47 1 ((.region 10 [o1 13 (.alloc 0 79 [vcn]),o0 (.store 79 1 (tm 13) (tm 47))] 1 none)) A12v7 (C56 u) u) N401v7 u (s401v10 n0 f0 i0 i1 i2 i3 i4 w0 w1 w2 x1) (kFin (kSeq (C56 u) u (rl 13 9 (44 :: 45 :: 46 :: (rl 48 16 (65 :: 66 :: (rl 68 26 []))))) A12v8 (finish A12))))) else (bif ((Int.ofNat x1.1)==4) then (bif (decide (i4<10473)) then (some [.agg [(.s ByteArray.empty),(vi 0),(ro kB 0 nilF)],.v (vi 29)]) else (loopN (eI itT [(4,0,0),(5,1,0),(6,2,0),(8,3,0),(10,4,0),(11,5,0),(12,6,0)] 45 46 95 47 1 ((.region 10 [o1 13 (.alloc 0 79 [vcn]),o0 (.store 79 1 (tm 13) (tm 47))] 1 none)) A12v7 (C56 u) u) N401v7 u (s401v10 n0 f0 i0 i1 i2 i3 i4 w0 w1 w2 x1) (kFin (kSeq (C56 u) u (rl 13 9 (44 :: 45 :: 46 :: (rl 48 16 (65 :: 66 :: (rl 68 26 []))))) A12v8 (finish A12))))) else none)))))))))) (by kernel_rfl) (by
 simp only [F401,ob_bif,ob_ob,ob_none,ob_some,nl401v7,t401v6,t401v7,t401v8,t401v9,t401v10]<;>kernel_rfl)
def O401:Ora:=mkO (qc (ag (tc cS (tc cS (tc ci (tc ci (tc ci (t1 cS))))))) (qc (av (cL kA)) (qc (av ci) (q1 (av ci))))) (fun x=>F401 u x.1.1 x.1.2.1 x.1.2.2.1 x.1.2.2.2.1 x.1.2.2.2.2.1 x.1.2.2.2.2.2 x.2.1.1 x.2.1.2 x.2.2.1 x.2.2.2) fun t=>[.agg [(.s t.1),(vi t.2.1),(ro kB t.2.2.1 t.2.2.2.1)],.v (vi t.2.2.2.2)]
theorem d401:DOI (O401 u) (C56 u) 12 A12:=dOI u (fun x=>by exact e401 u x.2.1.1 x.2.1.2 x.1.2.2.1 x.1.2.2.2.1 x.1.2.2.2.2.1 x.2.2.1 x.2.2.2 x.1.1 x.1.2.1 x.1.2.2.2.2.2)
def C57:Oracle:=(C56 u).add 12 (fun _=>true) (O401 u)
def B9:An tT Tryz.f9 [.k (4 :: (rl 6 21 [])),.g [0,1],.k (rl 0 4 (rl 5 40 [])),.k (4 :: 5 :: (rl 27 18 [])),.h [],.k (0 :: 1 :: 4 :: (rl 6 39 [])),.k (rl 27 5 []),.g [0,1],.k (rl 0 45 []),.k (4 :: (rl 34 11 [])),.g [0,1],.k (rl 0 4 (rl 5 40 [])),.g [0,1],.k (rl 0 4 (rl 5 40 []))]:=by
 apply Subtype.mk;cbv<;>exact rfl
def A9:AF:=B9.1
def A9v5:AC:=sA A9.body [1,1]
def A9v4:AC:=sA A9v5 [1]
def A9v3:AC:=sA A9v5 [0,1,0,0]
def N402v1:St→Option St:=nN 2 (0 :: 1 :: 4 :: (rl 6 39 []))
def s402v0:St:=⟨(.u :: .u :: .x (.ptr 0 0) :: .x (.ptr 1 0) :: .u :: vxi i0 :: (us 39 [])),[.box [(vcs w0),(vci i1),(.c (ro kB n0 f0))],.box [(vcs w1),(vci i2),(.c (ro kB n1 f1))]]⟩
def s402v1:St:=⟨(us 4 (vxb false :: (us 40 []))),[.dead,.dead]⟩
def s402v2:St:=⟨(us 45 []),[.dead,.dead]⟩
def L402v1 {ρ:Type} (u:Nat) (x0:ByteArray) (x1:Int) (x2:Nat) (x3:FF) (x4:ByteArray) (x5:Int) (x6:Nat) (x7:FF):Nat→Int→(Option ρ)→(Option ρ)→Option ρ
 | 0,_,_,_=>none
 | m+1,x8,k0,k1 =>
  (bif (decide (x8<(Int.ofNat x2))) then (bif (inb x8 x2) then (bif (inb x8 x6) then (bif (!((ByteArray.toList (x3 x8.toNat 0).str==ByteArray.toList (x7 x8.toNat 0).str)&&(((x3 x8.toNat 1).int==(x7 x8.toNat 1).int)&&(((x3 x8.toNat 2).int==(x7 x8.toNat 2).int)&&(((x3 x8.toNat 3).int==(x7 x8.toNat 3).int)&&(((x3 x8.toNat 4).bool==(x7 x8.toNat 4).bool)&&true)))))) then k0 else (L402v1 u x0 x1 x2 x3 x4 x5 x6 x7 m (w64 (x8+1)) k0 k1)) else none) else none) else k1)
theorem nl402v1:∀ (m:Nat) (x0:Int) (k0:Option ρ) (k1:Option ρ),ob (L402v1 u w0 i0 n0 f0 w1 i1 n1 f1 m x0 k0 k1) ng=L402v1 u w0 i0 n0 f0 w1 i1 n1 f1 m x0 (ob k0 ng) (ob k1 ng)
 | 0,_,_,_=>rfl
 | m+1,x0,k0,k1=>by
  simp only [L402v1,ob_bif,ob_ob,ob_none,nl402v1 m]
theorem q402v1:∀ (m:Nat) (x0:Int),
  loopH (eB A9v3 (C57 u) u) N402v1 m (s402v0 n0 n1 f0 f1 x0 i0 i1 w0 w1) k=L402v1 u w0 i0 n0 f0 w1 i1 n1 f1 m x0 (k .ret s402v1) (k (.exit 0) s402v2)
 | 0,_=>rfl
 | m+1,x0=>by
  simp only [L402v1,← q402v1 m]
  kernel_rfl
def F402 (x0:ByteArray) (x1:Int) (x2:Nat) (x3:FF) (x4:ByteArray) (x5:Int) (x6:Nat) (x7:FF):Option (Bool) :=
 (bif ((!(ByteArray.toList x0==ByteArray.toList x4))==false) then (bif ((x1 != x5)==false) then (bif ((Int.ofNat x2) != (Int.ofNat x6)) then (some false) else (L402v1 u x0 x1 x2 x3 x4 x5 x6 x7 u 0
  (some false)
  (some true))) else (some false)) else (some false))
theorem e402:evalF (C57 u) u A9 [.agg [(.s w0),(vi i0),(ro kB n0 f0)],.agg [(.s w1),(vi i1),(ro kB n1 f1)]]=ob (F402 u w0 i0 n0 f0 w1 i1 n1 f1) fun t=>some [.v (.b t)]:=Eq.trans (b:=(bif ((!(ByteArray.toList w0==ByteArray.toList w1))==false) then (bif ((i0 != i1)==false) then (bif ((Int.ofNat n0) != (Int.ofNat n1)) then (some [.v (.b false)]) else (loopH (eB A9v3 (C57 u) u) N402v1 u (s402v0 n0 n1 f0 f1 0 i0 i1 w0 w1) (kBlk 0 (kSeq (C57 u) u (4 :: 5 :: (rl 27 18 [])) A9v4 (finish A9))))) else (some [.v (.b false)])) else (some [.v (.b false)]))) (by kernel_rfl) (by
 simp only [F402,ob_bif,ob_ob,ob_none,ob_some,nl402v1,q402v1]<;>kernel_rfl)
def O402:Ora:=mkO (qc (ag (tc cS (tc ci (t1 (cL kB))))) (q1 (ag (tc cS (tc ci (t1 (cL kB))))))) (fun x=>F402 u x.1.1 x.1.2.1 x.1.2.2.1 x.1.2.2.2 x.2.1 x.2.2.1 x.2.2.2.1 x.2.2.2.2) fun t=>[.v (.b t)]
theorem d402:DO (O402 u) (C57 u) 9 A9:=dO u (fun x=>by exact e402 u x.1.2.2.1 x.2.2.2.1 x.1.2.2.2 x.2.2.2.2 x.1.2.1 x.2.2.1 x.1.1 x.2.1)
def C58:Oracle:=(C57 u).add 9 (fun _=>true) (O402 u)
def B8:An tT Tryz.f8 [.k (0 :: (rl 40 24 [])),.g [1,3,5,6,7],.k (rl 1 92 []),.g [1,3,5,6,7],.k (rl 1 92 [])]:=by
 apply Subtype.mk;cbv<;>exact rfl
def A8:AF:=B8.1
def F403:Option (Bool) :=
 (ob (F387 u 100 50) fun x0=>(ob (F388 u (ByteArray.mk #[97]) 30 10) fun x1=>(ob (F388 u (ByteArray.mk #[98]) 30 10) fun x2=>(ob (F398 u x0.1 x0.2.1 x0.2.2.1 x0.2.2.2.1 x0.2.2.2.2.1 x0.2.2.2.2.2 2 (rowsF 18 [(.s x1.1),(.i .i64 x1.2.1),(.i .i64 x1.2.2.1),(.s x1.2.2.2.1),(.s x1.2.2.2.2.1),(.i .i64 x1.2.2.2.2.2.1),(.ro false (.pr (.int .i64) (.pr (.int .i64) .nil)) x1.2.2.2.2.2.2.1 x1.2.2.2.2.2.2.2.1),(.ro false (.pr (.sl (.pr (.int .i64) (.pr (.int .i64) .nil))) .nil) (p8 x1).1 (p8 x1).2.1),(.s (p8 x1).2.2.1),(.i .i64 (p8 x1).2.2.2.1),(.i .i64 (p8 x1).2.2.2.2.1),(.i .i64 (p8 x1).2.2.2.2.2.1),(.i .i64 (p8 x1).2.2.2.2.2.2.1),(.i .i64 (p8 x1).2.2.2.2.2.2.2.1),(.i .i64 (pG x1).1),(.i .i64 (pG x1).2.1),(.i .i64 (pG x1).2.2.1),(.i .i64 (pG x1).2.2.2),(.s x2.1),(.i .i64 x2.2.1),(.i .i64 x2.2.2.1),(.s x2.2.2.2.1),(.s x2.2.2.2.2.1),(.i .i64 x2.2.2.2.2.2.1),(.ro false (.pr (.int .i64) (.pr (.int .i64) .nil)) x2.2.2.2.2.2.2.1 x2.2.2.2.2.2.2.2.1),(.ro false (.pr (.sl (.pr (.int .i64) (.pr (.int .i64) .nil))) .nil) (p8 x2).1 (p8 x2).2.1),(.s (p8 x2).2.2.1),(.i .i64 (p8 x2).2.2.2.1),(.i .i64 (p8 x2).2.2.2.2.1),(.i .i64 (p8 x2).2.2.2.2.2.1),(.i .i64 (p8 x2).2.2.2.2.2.2.1),(.i .i64 (p8 x2).2.2.2.2.2.2.2.1),(.i .i64 (pG x2).1),(.i .i64 (pG x2).2.1),(.i .i64 (pG x2).2.2.1),(.i .i64 (pG x2).2.2.2)]) 5) fun x3=>(ob (F387 u 20 40) fun x4=>(ob (F388 u (ByteArray.mk #[97]) 30 10) fun x5=>(ob (F398 u x4.1 x4.2.1 x4.2.2.1 x4.2.2.2.1 x4.2.2.2.2.1 x4.2.2.2.2.2 1 (rowsF 18 [(.s x5.1),(.i .i64 x5.2.1),(.i .i64 x5.2.2.1),(.s x5.2.2.2.1),(.s x5.2.2.2.2.1),(.i .i64 x5.2.2.2.2.2.1),(.ro false (.pr (.int .i64) (.pr (.int .i64) .nil)) x5.2.2.2.2.2.2.1 x5.2.2.2.2.2.2.2.1),(.ro false (.pr (.sl (.pr (.int .i64) (.pr (.int .i64) .nil))) .nil) (p8 x5).1 (p8 x5).2.1),(.s (p8 x5).2.2.1),(.i .i64 (p8 x5).2.2.2.1),(.i .i64 (p8 x5).2.2.2.2.1),(.i .i64 (p8 x5).2.2.2.2.2.1),(.i .i64 (p8 x5).2.2.2.2.2.2.1),(.i .i64 (p8 x5).2.2.2.2.2.2.2.1),(.i .i64 (pG x5).1),(.i .i64 (pG x5).2.1),(.i .i64 (pG x5).2.2.1),(.i .i64 (pG x5).2.2.2)]) 5) fun x6=>(ob (F388 u (ByteArray.mk #[97]) 20 10) fun x7=>(ob (F388 u (ByteArray.mk #[98]) 40 20) fun x8=>(ob (F388 u (ByteArray.mk #[99]) 19 9) fun x9=>(ob (F387 u 42 32) fun xA=>(ob (F401 u xA.1 xA.2.1 xA.2.2.1 xA.2.2.2.1 xA.2.2.2.2.1 xA.2.2.2.2.2 3 (rowsF 18 [(.s x7.1),(.i .i64 x7.2.1),(.i .i64 x7.2.2.1),(.s x7.2.2.2.1),(.s x7.2.2.2.2.1),(.i .i64 x7.2.2.2.2.2.1),(.ro false (.pr (.int .i64) (.pr (.int .i64) .nil)) x7.2.2.2.2.2.2.1 x7.2.2.2.2.2.2.2.1),(.ro false (.pr (.sl (.pr (.int .i64) (.pr (.int .i64) .nil))) .nil) (p8 x7).1 (p8 x7).2.1),(.s (p8 x7).2.2.1),(.i .i64 (p8 x7).2.2.2.1),(.i .i64 (p8 x7).2.2.2.2.1),(.i .i64 (p8 x7).2.2.2.2.2.1),(.i .i64 (p8 x7).2.2.2.2.2.2.1),(.i .i64 (p8 x7).2.2.2.2.2.2.2.1),(.i .i64 (pG x7).1),(.i .i64 (pG x7).2.1),(.i .i64 (pG x7).2.2.1),(.i .i64 (pG x7).2.2.2),(.s x8.1),(.i .i64 x8.2.1),(.i .i64 x8.2.2.1),(.s x8.2.2.2.1),(.s x8.2.2.2.2.1),(.i .i64 x8.2.2.2.2.2.1),(.ro false (.pr (.int .i64) (.pr (.int .i64) .nil)) x8.2.2.2.2.2.2.1 x8.2.2.2.2.2.2.2.1),(.ro false (.pr (.sl (.pr (.int .i64) (.pr (.int .i64) .nil))) .nil) (p8 x8).1 (p8 x8).2.1),(.s (p8 x8).2.2.1),(.i .i64 (p8 x8).2.2.2.1),(.i .i64 (p8 x8).2.2.2.2.1),(.i .i64 (p8 x8).2.2.2.2.2.1),(.i .i64 (p8 x8).2.2.2.2.2.2.1),(.i .i64 (p8 x8).2.2.2.2.2.2.2.1),(.i .i64 (pG x8).1),(.i .i64 (pG x8).2.1),(.i .i64 (pG x8).2.2.1),(.i .i64 (pG x8).2.2.2),(.s x9.1),(.i .i64 x9.2.1),(.i .i64 x9.2.2.1),(.s x9.2.2.2.1),(.s x9.2.2.2.2.1),(.i .i64 x9.2.2.2.2.2.1),(.ro false (.pr (.int .i64) (.pr (.int .i64) .nil)) x9.2.2.2.2.2.2.1 x9.2.2.2.2.2.2.2.1),(.ro false (.pr (.sl (.pr (.int .i64) (.pr (.int .i64) .nil))) .nil) (p8 x9).1 (p8 x9).2.1),(.s (p8 x9).2.2.1),(.i .i64 (p8 x9).2.2.2.1),(.i .i64 (p8 x9).2.2.2.2.1),(.i .i64 (p8 x9).2.2.2.2.2.1),(.i .i64 (p8 x9).2.2.2.2.2.2.1),(.i .i64 (p8 x9).2.2.2.2.2.2.2.1),(.i .i64 (pG x9).1),(.i .i64 (pG x9).2.1),(.i .i64 (pG x9).2.2.1),(.i .i64 (pG x9).2.2.2)]) 1 343) fun xB=>(ob (F387 u 42 32) fun xC=>(ob (F401 u xC.1 xC.2.1 xC.2.2.1 xC.2.2.2.1 xC.2.2.2.2.1 xC.2.2.2.2.2 3 (rowsF 18 [(.s x7.1),(.i .i64 x7.2.1),(.i .i64 x7.2.2.1),(.s x7.2.2.2.1),(.s x7.2.2.2.2.1),(.i .i64 x7.2.2.2.2.2.1),(.ro false (.pr (.int .i64) (.pr (.int .i64) .nil)) x7.2.2.2.2.2.2.1 x7.2.2.2.2.2.2.2.1),(.ro false (.pr (.sl (.pr (.int .i64) (.pr (.int .i64) .nil))) .nil) (p8 x7).1 (p8 x7).2.1),(.s (p8 x7).2.2.1),(.i .i64 (p8 x7).2.2.2.1),(.i .i64 (p8 x7).2.2.2.2.1),(.i .i64 (p8 x7).2.2.2.2.2.1),(.i .i64 (p8 x7).2.2.2.2.2.2.1),(.i .i64 (p8 x7).2.2.2.2.2.2.2.1),(.i .i64 (pG x7).1),(.i .i64 (pG x7).2.1),(.i .i64 (pG x7).2.2.1),(.i .i64 (pG x7).2.2.2),(.s x8.1),(.i .i64 x8.2.1),(.i .i64 x8.2.2.1),(.s x8.2.2.2.1),(.s x8.2.2.2.2.1),(.i .i64 x8.2.2.2.2.2.1),(.ro false (.pr (.int .i64) (.pr (.int .i64) .nil)) x8.2.2.2.2.2.2.1 x8.2.2.2.2.2.2.2.1),(.ro false (.pr (.sl (.pr (.int .i64) (.pr (.int .i64) .nil))) .nil) (p8 x8).1 (p8 x8).2.1),(.s (p8 x8).2.2.1),(.i .i64 (p8 x8).2.2.2.1),(.i .i64 (p8 x8).2.2.2.2.1),(.i .i64 (p8 x8).2.2.2.2.2.1),(.i .i64 (p8 x8).2.2.2.2.2.2.1),(.i .i64 (p8 x8).2.2.2.2.2.2.2.1),(.i .i64 (pG x8).1),(.i .i64 (pG x8).2.1),(.i .i64 (pG x8).2.2.1),(.i .i64 (pG x8).2.2.2),(.s x9.1),(.i .i64 x9.2.1),(.i .i64 x9.2.2.1),(.s x9.2.2.2.1),(.s x9.2.2.2.2.1),(.i .i64 x9.2.2.2.2.2.1),(.ro false (.pr (.int .i64) (.pr (.int .i64) .nil)) x9.2.2.2.2.2.2.1 x9.2.2.2.2.2.2.2.1),(.ro false (.pr (.sl (.pr (.int .i64) (.pr (.int .i64) .nil))) .nil) (p8 x9).1 (p8 x9).2.1),(.s (p8 x9).2.2.1),(.i .i64 (p8 x9).2.2.2.1),(.i .i64 (p8 x9).2.2.2.2.1),(.i .i64 (p8 x9).2.2.2.2.2.1),(.i .i64 (p8 x9).2.2.2.2.2.2.1),(.i .i64 (p8 x9).2.2.2.2.2.2.2.1),(.i .i64 (pG x9).1),(.i .i64 (pG x9).2.1),(.i .i64 (pG x9).2.2.1),(.i .i64 (pG x9).2.2.2)]) 1 342) fun xD=>(ob (F388 u (ByteArray.mk #[97]) 30 10) fun xE=>(ob (F393 u (listF [(.s xE.1),(.i .i64 xE.2.1),(.i .i64 xE.2.2.1),(.s xE.2.2.2.1),(.s xE.2.2.2.2.1),(.i .i64 xE.2.2.2.2.2.1),(.ro false (.pr (.int .i64) (.pr (.int .i64) .nil)) xE.2.2.2.2.2.2.1 xE.2.2.2.2.2.2.2.1),(.ro false (.pr (.sl (.pr (.int .i64) (.pr (.int .i64) .nil))) .nil) (p8 xE).1 (p8 xE).2.1),(.s (p8 xE).2.2.1),(.i .i64 (p8 xE).2.2.2.1),(.i .i64 (p8 xE).2.2.2.2.1),(.i .i64 (p8 xE).2.2.2.2.2.1),(.i .i64 (p8 xE).2.2.2.2.2.2.1),(.i .i64 (p8 xE).2.2.2.2.2.2.2.1),(.i .i64 (pG xE).1),(.i .i64 (pG xE).2.1),(.i .i64 (pG xE).2.2.1),(.i .i64 (pG xE).2.2.2)]) 1) fun xF=>(ob (F402 u x3.1 x3.2.1 x3.2.2.1 x3.2.2.2 (ByteArray.mk #[83,49]) 5 2 (rowsF 5 [(.s (ByteArray.mk #[97])),(.i .i64 5),(.i .i64 5),(.i .i64 0),(.b false),(.s (ByteArray.mk #[98])),(.i .i64 40),(.i .i64 5),(.i .i64 0),(.b false)])) fun xG=>(bif ((!xG)==false) then (bif (((Int.ofNat x6.2.2.1) != 1)==false) then (bif (inb 0 x6.2.2.1) then (bif (!((ByteArray.toList (x6.2.2.2 0 0).str==ByteArray.toList (ByteArray.mk #[97]))&&(((x6.2.2.2 0 1).int==15)&&(((x6.2.2.2 0 2).int==5)&&(((x6.2.2.2 0 3).int==1)&&(((x6.2.2.2 0 4).bool==false)&&true)))))) then (some false) else (bif ((xB.2.2.2.2==0)==true) then (ob (F183 u xB.1 xB.2.1 xB.2.2.1 xB.2.2.2.1 3 (rowsF 18 [(.s x7.1),(.i .i64 x7.2.1),(.i .i64 x7.2.2.1),(.s x7.2.2.2.1),(.s x7.2.2.2.2.1),(.i .i64 x7.2.2.2.2.2.1),(.ro false (.pr (.int .i64) (.pr (.int .i64) .nil)) x7.2.2.2.2.2.2.1 x7.2.2.2.2.2.2.2.1),(.ro false (.pr (.sl (.pr (.int .i64) (.pr (.int .i64) .nil))) .nil) (p8 x7).1 (p8 x7).2.1),(.s (p8 x7).2.2.1),(.i .i64 (p8 x7).2.2.2.1),(.i .i64 (p8 x7).2.2.2.2.1),(.i .i64 (p8 x7).2.2.2.2.2.1),(.i .i64 (p8 x7).2.2.2.2.2.2.1),(.i .i64 (p8 x7).2.2.2.2.2.2.2.1),(.i .i64 (pG x7).1),(.i .i64 (pG x7).2.1),(.i .i64 (pG x7).2.2.1),(.i .i64 (pG x7).2.2.2),(.s x8.1),(.i .i64 x8.2.1),(.i .i64 x8.2.2.1),(.s x8.2.2.2.1),(.s x8.2.2.2.2.1),(.i .i64 x8.2.2.2.2.2.1),(.ro false (.pr (.int .i64) (.pr (.int .i64) .nil)) x8.2.2.2.2.2.2.1 x8.2.2.2.2.2.2.2.1),(.ro false (.pr (.sl (.pr (.int .i64) (.pr (.int .i64) .nil))) .nil) (p8 x8).1 (p8 x8).2.1),(.s (p8 x8).2.2.1),(.i .i64 (p8 x8).2.2.2.1),(.i .i64 (p8 x8).2.2.2.2.1),(.i .i64 (p8 x8).2.2.2.2.2.1),(.i .i64 (p8 x8).2.2.2.2.2.2.1),(.i .i64 (p8 x8).2.2.2.2.2.2.2.1),(.i .i64 (pG x8).1),(.i .i64 (pG x8).2.1),(.i .i64 (pG x8).2.2.1),(.i .i64 (pG x8).2.2.2),(.s x9.1),(.i .i64 x9.2.1),(.i .i64 x9.2.2.1),(.s x9.2.2.2.1),(.s x9.2.2.2.2.1),(.i .i64 x9.2.2.2.2.2.1),(.ro false (.pr (.int .i64) (.pr (.int .i64) .nil)) x9.2.2.2.2.2.2.1 x9.2.2.2.2.2.2.2.1),(.ro false (.pr (.sl (.pr (.int .i64) (.pr (.int .i64) .nil))) .nil) (p8 x9).1 (p8 x9).2.1),(.s (p8 x9).2.2.1),(.i .i64 (p8 x9).2.2.2.1),(.i .i64 (p8 x9).2.2.2.2.1),(.i .i64 (p8 x9).2.2.2.2.2.1),(.i .i64 (p8 x9).2.2.2.2.2.2.1),(.i .i64 (p8 x9).2.2.2.2.2.2.2.1),(.i .i64 (pG x9).1),(.i .i64 (pG x9).2.1),(.i .i64 (pG x9).2.2.1),(.i .i64 (pG x9).2.2.2)])) fun xH=>(bif ((xH==1942)==true) then (bif ((xD.2.2.2.2==29)==true) then (bif ((xF.1==10)==true) then (bif ((xF.2==30)==true) then (ob (F395 u 20 20 0 (fun _ _=>.any) 5 5 10 10 5) fun xI=>(bif (xI==true) then (ob (F395 u 20 20 0 (fun _ _=>.any) 6 5 10 10 5) fun xJ=>(some (!xJ))) else (some false))) else (some false)) else (some false)) else (some false)) else (some false))) else (some false))) else none) else (some false)) else (some false)))))))))))))))))))
theorem e403:evalF (C58 u) u A8 []=ob (F403 u) fun t=>some [.v (.b t)]:=by
 simp only [F403,ob_bif,ob_ob,ob_none,ob_some]
 kernel_rfl
def O403:Ora:=mkO q0 (fun x=>F403 u) fun t=>[.v (.b t)]
theorem d403:DO (O403 u) (C58 u) 8 A8:=dO u (fun x=>by exact e403 u)
def C59:Oracle:=(C58 u).add 8 (fun _=>true) (O403 u)
def B38:An tT Tryz.f38 [.k (rl 4 16 []),.h [],.k (2 :: 3 :: 4 :: (rl 6 14 [])),.k (rl 6 4 []),.k (rl 0 20 []),.k (4 :: (rl 12 8 [])),.k (rl 0 4 (rl 5 15 [])),.k (rl 0 4 (rl 5 15 []))]:=by
 apply Subtype.mk;cbv<;>exact rfl
def A38:AF:=B38.1
def A38v4:AC:=sA A38.body [1,1]
def A38v3:AC:=sA A38.body [1,0,1,0,0]
def N176v1:St→Option St:=nN 0 (2 :: 3 :: 4 :: (rl 6 14 []))
def s176v0:St:=⟨(.x (.c (ro kA n0 f0)) :: vxs w0 :: (us 3 (vxi i0 :: (us 14 [])))),[]⟩
def s176v1:St:=⟨(us 4 (vxi i0 :: (us 15 []))),[]⟩
def s176v2:St:=⟨(us 20 []),[]⟩
def L176v1 {ρ:Type} (u:Nat) (x0:Nat) (x1:FF) (x2:ByteArray):Nat→Int→(Int→Option ρ)→(Option ρ)→Option ρ
 | 0,_,_,_=>none
 | m+1,x3,k0,k1 =>
  (bif (decide (x3<(Int.ofNat x0))) then (bif (inb x3 x0) then (bif (ByteArray.toList (x1 x3.toNat 0).str==ByteArray.toList x2) then (k0 x3) else (L176v1 u x0 x1 x2 m (w64 (x3+1)) k0 k1)) else none) else k1)
theorem nl176v1:∀ (m:Nat) (x0:Int) (k0:Int→Option ρ) (k1:Option ρ),ob (L176v1 u n0 f0 w0 m x0 k0 k1) ng=L176v1 u n0 f0 w0 m x0 (fun x1=>ob (k0 x1) ng) (ob k1 ng)
 | 0,_,_,_=>rfl
 | m+1,x0,k0,k1=>by
  simp only [L176v1,ob_bif,ob_ob,ob_none,nl176v1 m]
theorem q176v1:∀ (m:Nat) (x0:Int),
  loopH (eB A38v3 (C59 u) u) N176v1 m (s176v0 n0 f0 x0 w0) k=L176v1 u n0 f0 w0 m x0 (fun x1=>k .ret (s176v1 x1)) (k (.exit 0) s176v2)
 | 0,_=>rfl
 | m+1,x0=>by
  simp only [L176v1,← q176v1 m]
  kernel_rfl
def F176 (x0:Nat) (x1:FF) (x2:ByteArray):Option (Int) :=
 (L176v1 u x0 x1 x2 u 0
  (fun x3=>(some x3))
  (some (-1)))
theorem e176:evalF (C59 u) u A38 [.v (ro kA n0 f0),.v (.s w0)]=ob (F176 u n0 f0 w0) fun t=>some [.v (vi t)]:=Eq.trans (b:=(loopH (eB A38v3 (C59 u) u) N176v1 u (s176v0 n0 f0 0 w0) (kBlk 0 (kSeq (C59 u) u (rl 4 16 []) A38v4 (finish A38))))) (by kernel_rfl) (by
 simp only [F176,ob_bif,ob_ob,ob_none,ob_some,nl176v1,q176v1]<;>kernel_rfl)
def O176:Ora:=mkO (qc (av (cL kA)) (q1 (av cS))) (fun x=>F176 u x.1.1 x.1.2 x.2) fun t=>[.v (vi t)]
theorem d176:DO (O176 u) (C59 u) 38 A38:=dO u (fun x=>by exact e176 u x.1.1 x.1.2 x.2)
def C60:Oracle:=(C59 u).add 38 (fun _=>true) (O176 u)
def B116:An tT Tryz.f116 [.k (0 :: 1 :: (rl 3 18 []))]:=by
 apply Subtype.mk;cbv<;>exact rfl
def A116:AF:=B116.1
def F69 (u:Nat) (x0 x1:Int):Option (Bool) :=
 (bif ((decide (x0≥(-32768)))==true) then (bif ((decide (x0≤32768))==true) then (bif ((decide (x1≥(-32768)))==true) then (some (decide (x1≤32768))) else (some false)) else (some false)) else (some false))
theorem e69:evalF (C60 u) u A116 [.agg [(vi i0),(vi i1)]]=ob (F69 u i0 i1) fun t=>some [.v (.b t)]:=by
 simp only [F69,ob_bif,ob_ob,ob_none,ob_some]
 kernel_rfl
def O69:Ora:=mkO (q1 (ag (tc ci (t1 ci)))) (fun x=>F69 u x.1 x.2) fun t=>[.v (.b t)]
theorem d69:DO (O69 u) (C60 u) 116 A116:=dO u (fun x=>by exact e69 u x.1 x.2)
def C61:Oracle:=(C60 u).add 116 (fun _=>true) (O69 u)
def B113:An tT Tryz.f113 [.k (rl 2 14 []),.h [],.k (1 :: 2 :: (rl 4 12 [])),.k (rl 4 4 []),.k (rl 0 16 []),.k (2 :: (rl 10 6 [])),.k (0 :: 1 :: (rl 3 13 [])),.k (0 :: 1 :: (rl 3 13 []))]:=by
 apply Subtype.mk;cbv<;>exact rfl
def A113:AF:=B113.1
def A113v4:AC:=sA A113.body [1,1]
def A113v3:AC:=sA A113.body [1,0,1,0,0]
def N66v1:St→Option St:=nN 0 (1 :: 2 :: (rl 4 12 []))
def s66v0:St:=⟨(.x (.c (ro kP n0 f0)) :: .u :: .u :: vxi i0 :: (us 12 [])),[]⟩
def s66v1:St:=⟨(.u :: .u :: vxb false :: (us 13 [])),[]⟩
def s66v2:St:=⟨(us 16 []),[]⟩
def L66v1 {ρ:Type} (u:Nat) (x0:Nat) (x1:FF):Nat→Int→(Option ρ)→(Option ρ)→Option ρ
 | 0,_,_,_=>none
 | m+1,x2,k0,k1 =>
  (bif (decide (x2<(Int.ofNat x0))) then (bif (inb x2 x0) then (ob (F69 u (x1 x2.toNat 0).int (x1 x2.toNat 1).int) fun x3=>(bif (!x3) then k0 else (L66v1 u x0 x1 m (w64 (x2+1)) k0 k1))) else none) else k1)
theorem nl66v1:∀ (m:Nat) (x0:Int) (k0:Option ρ) (k1:Option ρ),ob (L66v1 u n0 f0 m x0 k0 k1) ng=L66v1 u n0 f0 m x0 (ob k0 ng) (ob k1 ng)
 | 0,_,_,_=>rfl
 | m+1,x0,k0,k1=>by
  simp only [L66v1,ob_bif,ob_ob,ob_none,nl66v1 m]
theorem q66v1:∀ (m:Nat) (x0:Int),
  loopH (eB A113v3 (C61 u) u) N66v1 m (s66v0 n0 f0 x0) k=L66v1 u n0 f0 m x0 (k .ret s66v1) (k (.exit 0) s66v2)
 | 0,_=>rfl
 | m+1,x0=>by
  simp only [L66v1,← q66v1 m]
  kernel_rfl
def F66 (x0:Nat) (x1:FF):Option (Bool) :=
 (L66v1 u x0 x1 u 0
  (some false)
  (some true))
theorem e66:evalF (C61 u) u A113 [.v (ro kP n0 f0)]=ob (F66 u n0 f0) fun t=>some [.v (.b t)]:=Eq.trans (b:=(loopH (eB A113v3 (C61 u) u) N66v1 u (s66v0 n0 f0 0) (kBlk 0 (kSeq (C61 u) u (rl 2 14 []) A113v4 (finish A113))))) (by kernel_rfl) (by
 simp only [F66,ob_bif,ob_ob,ob_none,ob_some,nl66v1,q66v1]<;>kernel_rfl)
def O66:Ora:=mkO (q1 (av (cL kP))) (fun x=>F66 u x.1 x.2) fun t=>[.v (.b t)]
theorem d66:DO (O66 u) (C61 u) 113 A113:=dO u (fun x=>by exact e66 u x.1 x.2)
def C62:Oracle:=(C61 u).add 113 (fun _=>true) (O66 u)
def B118:An tT Tryz.f118 [.k (rl 0 6 (rl 7 23 []))]:=by
 apply Subtype.mk;cbv<;>exact rfl
def A118:AF:=B118.1
def F71 (u:Nat) (x0 x1 x2 x3 x4 x5:Int):Option (Int) :=
 (some (w64 ((w64 ((w64 (x2-x0))*(w64 (x5-x1))))-(w64 ((w64 (x3-x1))*(w64 (x4-x0)))))))
theorem e71:evalF (C62 u) u A118 [.agg [(vi i0),(vi i1)],.agg [(vi i2),(vi i3)],.agg [(vi i4),(vi i5)]]=ob (F71 u i0 i1 i2 i3 i4 i5) fun t=>some [.v (vi t)]:=by
 simp only [F71,ob_bif,ob_ob,ob_none,ob_some]
 kernel_rfl
def O71:Ora:=mkO (qc (ag (tc ci (t1 ci))) (qc (ag (tc ci (t1 ci))) (q1 (ag (tc ci (t1 ci)))))) (fun x=>F71 u x.1.1 x.1.2 x.2.1.1 x.2.1.2 x.2.2.1 x.2.2.2) fun t=>[.v (vi t)]
theorem d71:DO (O71 u) (C62 u) 118 A118:=dO u (fun x=>by exact e71 u x.1.1 x.1.2 x.2.1.1 x.2.1.2 x.2.2.1 x.2.2.2)
def C63:Oracle:=(C62 u).add 118 (fun _=>true) (O71 u)
def B117:An tT Tryz.f117 [.k (rl 0 6 (rl 7 45 []))]:=by
 apply Subtype.mk;cbv<;>exact rfl
def A117:AF:=B117.1
def F70 (x0 x1 x2 x3 x4 x5:Int):Option (Bool) :=
 (ob (F71 u x2 x3 x4 x5 x0 x1) fun x6=>(bif ((x6==0)==true) then (bif ((decide ((if x4<x2 then x4 else x2)≤x0))==true) then (bif ((decide (x0≤(if x4>x2 then x4 else x2)))==true) then (bif ((decide ((if x5<x3 then x5 else x3)≤x1))==true) then (some (decide (x1≤(if x5>x3 then x5 else x3)))) else (some false)) else (some false)) else (some false)) else (some false)))
theorem e70:evalF (C63 u) u A117 [.agg [(vi i0),(vi i1)],.agg [(vi i2),(vi i3)],.agg [(vi i4),(vi i5)]]=ob (F70 u i0 i1 i2 i3 i4 i5) fun t=>some [.v (.b t)]:=by
 simp only [F70,ob_bif,ob_ob,ob_none,ob_some]
 kernel_rfl
def O70:Ora:=mkO (qc (ag (tc ci (t1 ci))) (qc (ag (tc ci (t1 ci))) (q1 (ag (tc ci (t1 ci)))))) (fun x=>F70 u x.1.1 x.1.2 x.2.1.1 x.2.1.2 x.2.2.1 x.2.2.2) fun t=>[.v (.b t)]
theorem d70:DO (O70 u) (C63 u) 117 A117:=dO u (fun x=>by exact e70 u x.1.1 x.1.2 x.2.1.1 x.2.1.2 x.2.2.1 x.2.2.2)
def C64:Oracle:=(C63 u).add 117 (fun _=>true) (O70 u)
def B135:An tT Tryz.f135 [.k (rl 2 7 []),.k (0 :: 1 :: (rl 3 6 [])),.k (0 :: 1 :: (rl 3 6 [])),.k (0 :: 1 :: (rl 3 6 []))]:=by
 apply Subtype.mk;cbv<;>exact rfl
def A135:AF:=B135.1
def F88 (u:Nat) (x0:Int):Option (Int) :=
 (bif (decide (x0<0)) then (some (-1)) else (bif (decide (x0>0)) then (some 1) else (some 0)))
theorem e88:evalF (C64 u) u A135 [.v (vi i0)]=ob (F88 u i0) fun t=>some [.v (vi t)]:=by
 simp only [F88,ob_bif,ob_ob,ob_none,ob_some]
 kernel_rfl
def O88:Ora:=mkO (q1 (av ci)) (fun x=>F88 u x) fun t=>[.v (vi t)]
theorem d88:DO (O88 u) (C64 u) 135 A135:=dO u (fun x=>by exact e88 u x)
def C65:Oracle:=(C64 u).add 135 (fun _=>true) (O88 u)
def B129:An tT Tryz.f129 [.k (rl 8 23 []),.k (rl 0 8 (rl 9 48 [])),.k (rl 0 8 (rl 9 48 []))]:=by
 apply Subtype.mk;cbv<;>exact rfl
def A129:AF:=B129.1
def F82 (x0 x1 x2 x3 x4 x5 x6 x7:Int):Option (Bool) :=
 (ob (F70 u x0 x1 x4 x5 x6 x7) fun x8=>(bif (x8==false) then (ob (F70 u x2 x3 x4 x5 x6 x7) fun x9=>(bif (x9==false) then (ob (F70 u x4 x5 x0 x1 x2 x3) fun xA=>(bif (xA==false) then (ob (F70 u x6 x7 x0 x1 x2 x3) fun xB=>(bif xB then (some true) else (ob (F71 u x0 x1 x2 x3 x4 x5) fun xC=>(ob (F88 u xC) fun xD=>(ob (F71 u x0 x1 x2 x3 x6 x7) fun xE=>(ob (F88 u xE) fun xF=>(bif ((decide ((w64 (xD*xF))<0))==true) then (ob (F71 u x4 x5 x6 x7 x0 x1) fun xG=>(ob (F88 u xG) fun xH=>(ob (F71 u x4 x5 x6 x7 x2 x3) fun xI=>(ob (F88 u xI) fun xJ=>(some (decide ((w64 (xH*xJ))<0))))))) else (some false)))))))) else (some true))) else (some true))) else (some true)))
theorem e82:evalF (C65 u) u A129 [.agg [(vi i0),(vi i1)],.agg [(vi i2),(vi i3)],.agg [(vi i4),(vi i5)],.agg [(vi i6),(vi i7)]]=ob (F82 u i0 i1 i2 i3 i4 i5 i6 i7) fun t=>some [.v (.b t)]:=by
 simp only [F82,ob_bif,ob_ob,ob_none,ob_some]
 kernel_rfl
def O82:Ora:=mkO (qc (ag (tc ci (t1 ci))) (qc (ag (tc ci (t1 ci))) (qc (ag (tc ci (t1 ci))) (q1 (ag (tc ci (t1 ci))))))) (fun x=>F82 u x.1.1 x.1.2 x.2.1.1 x.2.1.2 x.2.2.1.1 x.2.2.1.2 x.2.2.2.1 x.2.2.2.2) fun t=>[.v (.b t)]
theorem d82:DO (O82 u) (C65 u) 129 A129:=dO u (fun x=>by exact e82 u x.1.1 x.1.2 x.2.1.1 x.2.1.2 x.2.2.1.1 x.2.2.1.2 x.2.2.2.1 x.2.2.2.2)
def C66:Oracle:=(C65 u).add 129 (fun _=>true) (O82 u)
def B114:An tT Tryz.f114 [.k (2 :: 4 :: 5 :: (rl 13 19 [])),.h [],.k (1 :: 2 :: (rl 5 89 [])),.k [13,14,15],.k (1 :: 2 :: (rl 4 90 [])),.k (2 :: 5 :: (rl 18 14 [])),.h [],.k (1 :: 2 :: (rl 6 88 [])),.k [18,19,20],.k (1 :: 2 :: (rl 5 89 [])),.k (2 :: (rl 23 9 [])),.k (0 :: 1 :: (rl 3 91 [])),.k (2 :: (rl 6 5 (rl 32 62 []))),.h [],.k (1 :: 2 :: 4 :: 5 :: (rl 7 87 [])),.k [32,33,34],.k (rl 0 94 []),.k (2 :: (rl 7 4 (rl 37 57 []))),.k (2 :: (rl 55 10 [])),.k (0 :: 1 :: (rl 3 91 [])),.h [],.k (1 :: 2 :: 4 :: 5 :: 9 :: (rl 11 83 [])),.k [67,68,69],.k (1 :: 2 :: 4 :: 5 :: (rl 7 87 [])),.k (2 :: (rl 72 22 [])),.k (0 :: 1 :: (rl 3 91 [])),.k (0 :: 1 :: (rl 3 91 []))]:=by
 apply Subtype.mk;cbv<;>exact rfl
def A114:AF:=B114.1
def A114v15:AC:=sA A114.body [1,1,1]
def A114v14:AC:=sA A114v15 [1]
def A114v13:AC:=sA A114v15 [0,1,0,0]
def A114v12:AC:=sA A114v13 [1]
def A114v11:AC:=sA A114v12 [1]
def A114v10:AC:=sA A114v12 [0,0,1,1]
def A114v9:AC:=sA A114v10 [1,0,0]
def A114v6:AC:=sA A114.body [1,1,0,1,0,0]
def A114v5:AC:=sA A114v6 [1]
def A114v4:AC:=sA A114v5 [1]
def A114v3:AC:=sA A114v5 [0,0,1,0,0]
def N67v2:St→Option St:=nN 0 (1 :: 2 :: (rl 6 88 []))
def s67v0:St:=⟨(.x (.c (ro kP n0 f0)) :: .u :: .u :: vxi i0 :: vxi i1 :: vxi i2 :: (us 88 [])),[]⟩
def s67v1:St:=⟨(.u :: .u :: vxb false :: (us 91 [])),[]⟩
def s67v2:St:=⟨(.x (.c (ro kP n0 f0)) :: .u :: .u :: vxi i0 :: vxi i1 :: (us 89 [])),[]⟩
def L67v2 {ρ:Type} (u:Nat) (x0:Nat) (x1:FF) (x2 x3:Int):Nat→Int→(Option ρ)→(Option ρ)→Option ρ
 | 0,_,_,_=>none
 | m+1,x4,k0,k1 =>
  (bif (decide (x4<x3)) then (bif (inb x3 x0) then (bif (inb x4 x0) then (bif (((x1 x3.toNat 0).int==(x1 x4.toNat 0).int)&&(((x1 x3.toNat 1).int==(x1 x4.toNat 1).int)&&true)) then k0 else (L67v2 u x0 x1 x2 x3 m (w64 (x4+1)) k0 k1)) else none) else none) else k1)
theorem nl67v2:∀ (m:Nat) (x0:Int) (k0:Option ρ) (k1:Option ρ),ob (L67v2 u n0 f0 i0 i1 m x0 k0 k1) ng=L67v2 u n0 f0 i0 i1 m x0 (ob k0 ng) (ob k1 ng)
 | 0,_,_,_=>rfl
 | m+1,x0,k0,k1=>by
  simp only [L67v2,ob_bif,ob_ob,ob_none,nl67v2 m]
theorem q67v2:∀ (m:Nat) (x0:Int),
  loopH (eB A114v3 (C66 u) u) N67v2 m (s67v0 n0 f0 i0 i1 x0) k=L67v2 u n0 f0 i0 i1 m x0 (k .ret s67v1) (k (.exit 2) (s67v2 n0 f0 i0 i1))
 | 0,_=>rfl
 | m+1,x0=>by
  simp only [L67v2,← q67v2 m]
  kernel_rfl
def N67v3:St→Option St:=nN 0 (1 :: 2 :: (rl 5 89 []))
def s67v3:St:=⟨(.x (.c (ro kP n0 f0)) :: .u :: .u :: vxi i0 :: vxi i1 :: (us 89 [])),[]⟩
def s67v4:St:=⟨(.x (.c (ro kP n0 f0)) :: .u :: .u :: vxi i0 :: (us 90 [])),[]⟩
def L67v3 {ρ:Type} (u:Nat) (x0:Nat) (x1:FF) (x2:Int):Nat→Int→(Option ρ)→(Option ρ)→Option ρ
 | 0,_,_,_=>none
 | m+1,x3,k0,k1 =>
  (bif (decide (x3<x2)) then (L67v2 u x0 x1 x2 x3 u 0
  k0
  (L67v3 u x0 x1 x2 m (w64 (x3+1)) k0 k1)) else k1)
theorem nl67v3:∀ (m:Nat) (x0:Int) (k0:Option ρ) (k1:Option ρ),ob (L67v3 u n0 f0 i0 m x0 k0 k1) ng=L67v3 u n0 f0 i0 m x0 (ob k0 ng) (ob k1 ng)
 | 0,_,_,_=>rfl
 | m+1,x0,k0,k1=>by
  simp only [L67v3,ob_bif,ob_ob,ob_none,nl67v3 m,nl67v2]
theorem r67v3 :
  loopH (eB A114v6 (C66 u) u) N67v3 (m+1) (s67v3 n0 f0 i0 i1) k =
  (bif (decide (i1<i0)) then (loopH (eB A114v3 (C66 u) u) N67v2 u (s67v0 n0 f0 i0 i1 0) (kBlk 2 (kBlk 1 (kSeq (C66 u) u (2 :: 5 :: (rl 18 14 [])) A114v4 (kLoop (eB A114v6 (C66 u) u) N67v3 m k))))) else (k (.exit 0) (s67v4 n0 f0 i0))):=by kernel_rfl
theorem g67v1 :
  (kBlk 2 (kBlk 1 (kSeq (C66 u) u (2 :: 5 :: (rl 18 14 [])) A114v4 (kLoop (eB A114v6 (C66 u) u) N67v3 m k)))) (.exit 2) (s67v2 n0 f0 i0 i1) =
  (loopH (eB A114v6 (C66 u) u) N67v3 m (s67v3 n0 f0 i0 (w64 (i1+1))) k):=by kernel_rfl
theorem q67v3:∀ (m:Nat) (x0:Int),
  loopH (eB A114v6 (C66 u) u) N67v3 m (s67v3 n0 f0 i0 x0) k=L67v3 u n0 f0 i0 m x0 (k .ret s67v1) (k (.exit 0) (s67v4 n0 f0 i0))
 | 0,_=>rfl
 | m+1,x0=>by
  rw [r67v3]
  simp only [L67v3,q67v3 m,q67v2,g67v1]<;>kernel_rfl
def N67v5:St→Option St:=nN 3 (1 :: 2 :: 4 :: 5 :: 9 :: (rl 11 83 []))
def s67v5:St:=⟨(.x (.c (ro kP n0 f0)) :: .u :: .u :: vxi i0 :: .u :: .u :: vxi i1 :: .x (.ptr 0 0) :: .x (.ptr 1 0) :: .u :: vxi i2 :: (us 83 [])),[.box [(vci i3),(vci i4)],.box [(vci i5),(vci i6)],.box [(vci i7),(vci i8)]]⟩
def s67v6:St:=⟨(.u :: .u :: vxb false :: (us 91 [])),[.box [(vci i0),(vci i1)],.box [(vci i2),(vci i3)],.box [(vci i4),(vci i5)]]⟩
def s67v7:St:=⟨(.x (.c (ro kP n0 f0)) :: .u :: .u :: vxi i0 :: .u :: .u :: vxi i1 :: (us 87 [])),[.box [(vci i2),(vci i3)],.box [(vci i4),(vci i5)],.box [(vci i6),(vci i7)]]⟩
def L67v5 {ρ:Type} (u:Nat) (x0:Nat) (x1:FF) (x2 x3 x4 x5 x6 x7 x8 x9:Int):Nat→Int→(Option ρ)→(Option ρ)→Option ρ
 | 0,_,_,_=>none
 | m+1,xA,k0,k1 =>
  (bif (decide (xA<x2)) then (bif (x2==0) then none else (bif (((Int.tmod (w64 (xA+1)) x2) != x3)==true) then (bif (inb xA x0) then (bif (x2==0) then none else (bif (inb (Int.tmod (w64 (xA+1)) x2) x0) then (ob (F82 u x4 x5 x6 x7 (x1 xA.toNat 0).int (x1 xA.toNat 1).int (CV.int (x1 (Int.toNat (Int.tmod (w64 (xA+1)) x2)) 0)) (CV.int (x1 (Int.toNat (Int.tmod (w64 (xA+1)) x2)) 1))) fun xB=>(bif xB then k0 else (L67v5 u x0 x1 x2 x3 x4 x5 x6 x7 x8 x9 m (w64 (xA+1)) k0 k1))) else none)) else none) else (L67v5 u x0 x1 x2 x3 x4 x5 x6 x7 x8 x9 m (w64 (xA+1)) k0 k1))) else k1)
theorem nl67v5:∀ (m:Nat) (x0:Int) (k0:Option ρ) (k1:Option ρ),ob (L67v5 u n0 f0 i0 i1 i2 i3 i4 i5 i6 i7 m x0 k0 k1) ng=L67v5 u n0 f0 i0 i1 i2 i3 i4 i5 i6 i7 m x0 (ob k0 ng) (ob k1 ng)
 | 0,_,_,_=>rfl
 | m+1,x0,k0,k1=>by
  simp only [L67v5,ob_bif,ob_ob,ob_none,nl67v5 m]
theorem q67v5:∀ (m:Nat) (x0:Int),
  loopH (eB A114v9 (C66 u) u) N67v5 m (s67v5 n0 f0 i0 i1 x0 i2 i3 i4 i5 i6 i7) k=L67v5 u n0 f0 i0 i1 i2 i3 i4 i5 i6 i7 m x0 (k .ret (s67v6 i2 i3 i4 i5 i6 i7)) (k (.exit 6) (s67v7 n0 f0 i0 i1 i2 i3 i4 i5 i6 i7))
 | 0,_=>rfl
 | m+1,x0=>by
  simp only [L67v5,← q67v5 m]
  kernel_rfl
def N67v6:St→Option St:=nN 0 (1 :: 2 :: 4 :: 5 :: (rl 7 87 []))
def s67v8:St:=⟨(.x (.c (ro kP n0 f0)) :: .u :: .u :: vxi i0 :: .u :: .u :: vxi i1 :: (us 87 [])),[]⟩
def s67v9:St:=⟨(.u :: .u :: vxb false :: (us 91 [])),[.box [(vci i0),(vci i1)],.box [(vci i2),(vci i3)],.box [(vci i4),(vci i5)]]⟩
def s67v10:St:=⟨(us 94 []),[]⟩
def L67v6 {ρ:Type} (u:Nat) (x0:Nat) (x1:FF) (x2:Int):Nat→Int→(Int→Int→Int→Int→Int→Int→Option ρ)→(Option ρ)→Option ρ
 | 0,_,_,_=>none
 | m+1,x3,k0,k1 =>
  (bif (decide (x3<x2)) then (bif (inb x3 x0) then (bif (x2==0) then none else (bif (inb (Int.tmod (w64 (x3+1)) x2) x0) then (bif (x2==0) then none else (bif (inb (Int.tmod (w64 (x3+2)) x2) x0) then (ob (F70 u (x1 x3.toNat 0).int (x1 x3.toNat 1).int (CV.int (x1 (Int.toNat (Int.tmod (w64 (x3+1)) x2)) 0)) (CV.int (x1 (Int.toNat (Int.tmod (w64 (x3+1)) x2)) 1)) (CV.int (x1 (Int.toNat (Int.tmod (w64 (x3+2)) x2)) 0)) (CV.int (x1 (Int.toNat (Int.tmod (w64 (x3+2)) x2)) 1))) fun x4=>(bif (x4==false) then (ob (F70 u (CV.int (x1 (Int.toNat (Int.tmod (w64 (x3+2)) x2)) 0)) (CV.int (x1 (Int.toNat (Int.tmod (w64 (x3+2)) x2)) 1)) (x1 x3.toNat 0).int (x1 x3.toNat 1).int (CV.int (x1 (Int.toNat (Int.tmod (w64 (x3+1)) x2)) 0)) (CV.int (x1 (Int.toNat (Int.tmod (w64 (x3+1)) x2)) 1))) fun x5=>(bif x5 then (k0 (x1 x3.toNat 0).int (x1 x3.toNat 1).int (CV.int (x1 (Int.toNat (Int.tmod (w64 (x3+1)) x2)) 0)) (CV.int (x1 (Int.toNat (Int.tmod (w64 (x3+1)) x2)) 1)) (CV.int (x1 (Int.toNat (Int.tmod (w64 (x3+2)) x2)) 0)) (CV.int (x1 (Int.toNat (Int.tmod (w64 (x3+2)) x2)) 1))) else (L67v5 u x0 x1 x2 x3 (x1 x3.toNat 0).int (x1 x3.toNat 1).int (CV.int (x1 (Int.toNat (Int.tmod (w64 (x3+1)) x2)) 0)) (CV.int (x1 (Int.toNat (Int.tmod (w64 (x3+1)) x2)) 1)) (CV.int (x1 (Int.toNat (Int.tmod (w64 (x3+2)) x2)) 0)) (CV.int (x1 (Int.toNat (Int.tmod (w64 (x3+2)) x2)) 1)) u (w64 (x3+2))
  (k0 (x1 x3.toNat 0).int (x1 x3.toNat 1).int (CV.int (x1 (Int.toNat (Int.tmod (w64 (x3+1)) x2)) 0)) (CV.int (x1 (Int.toNat (Int.tmod (w64 (x3+1)) x2)) 1)) (CV.int (x1 (Int.toNat (Int.tmod (w64 (x3+2)) x2)) 0)) (CV.int (x1 (Int.toNat (Int.tmod (w64 (x3+2)) x2)) 1)))
  (L67v6 u x0 x1 x2 m (w64 (x3+1)) k0 k1)))) else (k0 (x1 x3.toNat 0).int (x1 x3.toNat 1).int (CV.int (x1 (Int.toNat (Int.tmod (w64 (x3+1)) x2)) 0)) (CV.int (x1 (Int.toNat (Int.tmod (w64 (x3+1)) x2)) 1)) (CV.int (x1 (Int.toNat (Int.tmod (w64 (x3+2)) x2)) 0)) (CV.int (x1 (Int.toNat (Int.tmod (w64 (x3+2)) x2)) 1))))) else none)) else none)) else none) else k1)
theorem nl67v6:∀ (m:Nat) (x0:Int) (k0:Int→Int→Int→Int→Int→Int→Option ρ) (k1:Option ρ),ob (L67v6 u n0 f0 i0 m x0 k0 k1) ng=L67v6 u n0 f0 i0 m x0 (fun x1 x2 x3 x4 x5 x6=>ob (k0 x1 x2 x3 x4 x5 x6) ng) (ob k1 ng)
 | 0,_,_,_=>rfl
 | m+1,x0,k0,k1=>by
  simp only [L67v6,ob_bif,ob_ob,ob_none,nl67v6 m,nl67v5]
theorem r67v6 :
  loopH (eB A114v13 (C66 u) u) N67v6 (m+1) (s67v8 n0 f0 i0 i1) k =
  (bif (decide (i1<i0)) then (bif (inb i1 n0) then (bif (i0==0) then none else (bif (inb (Int.tmod (w64 (i1+1)) i0) n0) then (bif (i0==0) then none else (bif (inb (Int.tmod (w64 (i1+2)) i0) n0) then (ob (F70 u (f0 i1.toNat 0).int (f0 i1.toNat 1).int (CV.int (f0 (Int.toNat (Int.tmod (w64 (i1+1)) i0)) 0)) (CV.int (f0 (Int.toNat (Int.tmod (w64 (i1+1)) i0)) 1)) (CV.int (f0 (Int.toNat (Int.tmod (w64 (i1+2)) i0)) 0)) (CV.int (f0 (Int.toNat (Int.tmod (w64 (i1+2)) i0)) 1))) fun x0=>(bif (x0==false) then (ob (F70 u (CV.int (f0 (Int.toNat (Int.tmod (w64 (i1+2)) i0)) 0)) (CV.int (f0 (Int.toNat (Int.tmod (w64 (i1+2)) i0)) 1)) (f0 i1.toNat 0).int (f0 i1.toNat 1).int (CV.int (f0 (Int.toNat (Int.tmod (w64 (i1+1)) i0)) 0)) (CV.int (f0 (Int.toNat (Int.tmod (w64 (i1+1)) i0)) 1))) fun x1=>(bif x1 then (k .ret (s67v9 (f0 i1.toNat 0).int (f0 i1.toNat 1).int (CV.int (f0 (Int.toNat (Int.tmod (w64 (i1+1)) i0)) 0)) (CV.int (f0 (Int.toNat (Int.tmod (w64 (i1+1)) i0)) 1)) (CV.int (f0 (Int.toNat (Int.tmod (w64 (i1+2)) i0)) 0)) (CV.int (f0 (Int.toNat (Int.tmod (w64 (i1+2)) i0)) 1)))) else (loopH (eB A114v9 (C66 u) u) N67v5 u (s67v5 n0 f0 i0 i1 (w64 (i1+2)) (f0 i1.toNat 0).int (f0 i1.toNat 1).int (CV.int (f0 (Int.toNat (Int.tmod (w64 (i1+1)) i0)) 0)) (CV.int (f0 (Int.toNat (Int.tmod (w64 (i1+1)) i0)) 1)) (CV.int (f0 (Int.toNat (Int.tmod (w64 (i1+2)) i0)) 0)) (CV.int (f0 (Int.toNat (Int.tmod (w64 (i1+2)) i0)) 1))) (kBlk 6 (kBlk 5 (kSeq (C66 u) u (2 :: (rl 7 4 (rl 37 57 []))) A114v11 (kLoop (eB A114v13 (C66 u) u) N67v6 m k))))))) else (k .ret (s67v9 (f0 i1.toNat 0).int (f0 i1.toNat 1).int (CV.int (f0 (Int.toNat (Int.tmod (w64 (i1+1)) i0)) 0)) (CV.int (f0 (Int.toNat (Int.tmod (w64 (i1+1)) i0)) 1)) (CV.int (f0 (Int.toNat (Int.tmod (w64 (i1+2)) i0)) 0)) (CV.int (f0 (Int.toNat (Int.tmod (w64 (i1+2)) i0)) 1)))))) else none)) else none)) else none) else (k (.exit 4) s67v10)):=by kernel_rfl
theorem g67v2 :
  (kBlk 6 (kBlk 5 (kSeq (C66 u) u (2 :: (rl 7 4 (rl 37 57 []))) A114v11 (kLoop (eB A114v13 (C66 u) u) N67v6 m k)))) (.exit 6) (s67v7 n0 f0 i0 i1 (f0 i1.toNat 0).int (f0 i1.toNat 1).int (CV.int (f0 (Int.toNat (Int.tmod (w64 (i1+1)) i0)) 0)) (CV.int (f0 (Int.toNat (Int.tmod (w64 (i1+1)) i0)) 1)) (CV.int (f0 (Int.toNat (Int.tmod (w64 (i1+2)) i0)) 0)) (CV.int (f0 (Int.toNat (Int.tmod (w64 (i1+2)) i0)) 1))) =
  (loopH (eB A114v13 (C66 u) u) N67v6 m (s67v8 n0 f0 i0 (w64 (i1+1))) k):=by kernel_rfl
theorem q67v6:∀ (m:Nat) (x0:Int),
  loopH (eB A114v13 (C66 u) u) N67v6 m (s67v8 n0 f0 i0 x0) k=L67v6 u n0 f0 i0 m x0 (fun x1 x2 x3 x4 x5 x6=>k .ret (s67v9 x1 x2 x3 x4 x5 x6)) (k (.exit 4) s67v10)
 | 0,_=>rfl
 | m+1,x0=>by
  rw [r67v6]
  simp only [L67v6,q67v6 m,q67v5,g67v2]<;>kernel_rfl
def F67 (x0:Nat) (x1:FF):Option (Bool) :=
 (L67v3 u x0 x1 (Int.ofNat x0) u 0
  (some false)
  (L67v6 u x0 x1 (Int.ofNat x0) u 0
  (fun x2 x3 x4 x5 x6 x7=>(some false))
  (some true)))
theorem g67v3 :
  (kBlk 0 (kSeq (C66 u) u (2 :: 4 :: 5 :: (rl 13 19 [])) A114v15 (finish A114))) (.exit 0) (s67v4 n0 f0 (Int.ofNat n0)) =
  (loopH (eB A114v13 (C66 u) u) N67v6 u (s67v8 n0 f0 (Int.ofNat n0) 0) (kBlk 4 (kSeq (C66 u) u (2 :: (rl 6 5 (rl 32 62 []))) A114v14 (finish A114)))):=by kernel_rfl
theorem e67:evalF (C66 u) u A114 [.v (ro kP n0 f0)]=ob (F67 u n0 f0) fun t=>some [.v (.b t)]:=Eq.trans (b:=(loopH (eB A114v6 (C66 u) u) N67v3 u (s67v3 n0 f0 (Int.ofNat n0) 0) (kBlk 0 (kSeq (C66 u) u (2 :: 4 :: 5 :: (rl 13 19 [])) A114v15 (finish A114))))) (by kernel_rfl) (by
 simp only [F67,ob_bif,ob_ob,ob_none,ob_some,nl67v3,nl67v6,q67v3,g67v3,q67v6]<;>kernel_rfl)
def O67:Ora:=mkO (q1 (av (cL kP))) (fun x=>F67 u x.1 x.2) fun t=>[.v (.b t)]
theorem d67:DO (O67 u) (C66 u) 114 A114:=dO u (fun x=>by exact e67 u x.1 x.2)
def C67:Oracle:=(C66 u).add 114 (fun _=>true) (O67 u)
def B85:An tT Tryz.f85 [.k (rl 2 4 []),.k (0 :: 1 :: (rl 3 12 [])),.k [2,6,7,8],.k (0 :: 1 :: (rl 3 12 [])),.k [2,9,10,11],.k (0 :: 1 :: (rl 3 12 [])),.k [2,12,13,14],.k (0 :: 1 :: (rl 3 12 [])),.k (0 :: 1 :: (rl 3 12 []))]:=by
 apply Subtype.mk;cbv<;>exact rfl
def A85:AF:=B85.1
def F37 (x0:Nat) (x1:FF):Option (Int) :=
 (bif (decide ((Int.ofNat x0)<3)) then (some 3) else (bif (decide ((Int.ofNat x0)>32)) then (some 4) else (ob (F66 u x0 x1) fun x2=>(bif (!x2) then (some 9) else (ob (F67 u x0 x1) fun x3=>(bif (!x3) then (some 17) else (some 0)))))))
theorem e37:evalF (C67 u) u A85 [.v (ro kP n0 f0)]=ob (F37 u n0 f0) fun t=>some [.v (vi t)]:=by
 simp only [F37,ob_bif,ob_ob,ob_none,ob_some]
 kernel_rfl
def O37:Ora:=mkO (q1 (av (cL kP))) (fun x=>F37 u x.1 x.2) fun t=>[.v (vi t)]
theorem d37:DO (O37 u) (C67 u) 85 A85:=dO u (fun x=>by exact e37 u x.1 x.2)
def C68:Oracle:=(C67 u).add 85 (fun _=>true) (O37 u)
def B86:An tT Tryz.f86 [.k [2,7,8,9],.k (0 :: 1 :: (rl 3 39 [])),.k (4 :: 5 :: 6 :: (rl 10 31 [])),.h [],.k (1 :: 2 :: (rl 5 37 [])),.k (rl 10 4 []),.k (0 :: 1 :: 2 :: (rl 4 38 [])),.k (0 :: 1 :: (rl 3 39 []))]:=by
 apply Subtype.mk;cbv<;>exact rfl
def A86:AF:=B86.1
def A86v4:AC:=sA A86.body [1,1]
def A86v3:AC:=sA A86v4 [1,1]
def A86v2:AC:=sA A86v4 [1,0,1,0,0]
def N38v1:St→Option St:=nN 0 (1 :: 2 :: (rl 5 37 []))
def s38v0:St:=⟨(.x (.c (ro kP n0 f0)) :: .u :: .u :: vxi i0 :: vxi i1 :: (us 37 [])),[]⟩
def s38v1:St:=⟨(us 3 (vxi i0 :: (us 38 []))),[]⟩
def L38v1 {ρ:Type} (u:Nat) (x0:Nat) (x1:FF):Nat→Int→Int→(Int→Option ρ)→Option ρ
 | 0,_,_,_=>none
 | m+1,x2,x3,k0 =>
  (bif (decide (x3<(Int.ofNat x0))) then (bif (inb x3 x0) then (bif ((Int.ofNat x0)==0) then none else (bif (inb (Int.tmod (w64 (x3+1)) (Int.ofNat x0)) x0) then (L38v1 u x0 x1 m (w64 ((w64 (x2+(w64 ((x1 x3.toNat 0).int*(CV.int (x1 (Int.toNat (Int.tmod (w64 (x3+1)) (Int.ofNat x0))) 1))))))-(w64 ((x1 x3.toNat 1).int*(CV.int (x1 (Int.toNat (Int.tmod (w64 (x3+1)) (Int.ofNat x0))) 0)))))) (w64 (x3+1)) k0) else none)) else none) else (k0 x2))
theorem nl38v1:∀ (m:Nat) (x0 x1:Int) (k0:Int→Option ρ),ob (L38v1 u n0 f0 m x0 x1 k0) ng=L38v1 u n0 f0 m x0 x1 (fun x2=>ob (k0 x2) ng)
 | 0,_,_,_=>rfl
 | m+1,x0,x1,k0=>by
  simp only [L38v1,ob_bif,ob_ob,ob_none,nl38v1 m]
theorem q38v1:∀ (m:Nat) (x0 x1:Int),
  loopH (eB A86v2 (C68 u) u) N38v1 m (s38v0 n0 f0 x0 x1) k=L38v1 u n0 f0 m x0 x1 (fun x2=>k (.exit 0) (s38v1 x2))
 | 0,_,_=>rfl
 | m+1,x0,x1=>by
  simp only [L38v1,← q38v1 m]
  kernel_rfl
def F38 (x0:Nat) (x1:FF):Option (Int) :=
 (ob (F37 u x0 x1) fun x2=>(bif (x2 != 0) then (some 0) else (L38v1 u x0 x1 u 0 0
  (fun x3=>(some x3)))))
theorem e38:evalF (C68 u) u A86 [.v (ro kP n0 f0)]=ob (F38 u n0 f0) fun t=>some [.v (vi t)]:=Eq.trans (b:=(ob (F37 u n0 f0) fun x0=>(bif (x0 != 0) then (some [.v (vi 0)]) else (loopH (eB A86v2 (C68 u) u) N38v1 u (s38v0 n0 f0 0 0) (kBlk 0 (kSeq (C68 u) u (4 :: 5 :: 6 :: (rl 10 31 [])) A86v3 (finish A86))))))) (by kernel_rfl) (by
 simp only [F38,ob_bif,ob_ob,ob_none,ob_some,nl38v1,q38v1]<;>kernel_rfl)
def O38:Ora:=mkO (q1 (av (cL kP))) (fun x=>F38 u x.1 x.2) fun t=>[.v (vi t)]
theorem d38:DO (O38 u) (C68 u) 86 A86:=dO u (fun x=>by exact e38 u x.1 x.2)
def C69:Oracle:=(C68 u).add 86 (fun _=>true) (O38 u)
def B131:An tT Tryz.f131 [.k [6,31,32],.k (rl 0 6 (rl 7 28 [])),.k [6,33,34],.k (rl 0 6 (rl 7 28 [])),.k (rl 0 6 (rl 7 28 []))]:=by
 apply Subtype.mk;cbv<;>exact rfl
def A131:AF:=B131.1
def F84 (u:Nat) (x0 x1 x2 x3 x4 x5:Int):Option (Int) :=
 (bif (decide ((w64 ((w64 ((w64 (x2-x0))*(w64 (x5-x1))))-(w64 ((w64 (x3-x1))*(w64 (x4-x0))))))>0)) then (some 1) else (bif (decide ((w64 ((w64 ((w64 (x2-x0))*(w64 (x5-x1))))-(w64 ((w64 (x3-x1))*(w64 (x4-x0))))))<0)) then (some (-1)) else (some 0)))
theorem e84:evalF (C69 u) u A131 [.agg [(vi i0),(vi i1)],.agg [(vi i2),(vi i3)],.agg [(vi i4),(vi i5)]]=ob (F84 u i0 i1 i2 i3 i4 i5) fun t=>some [.v (vi t)]:=by
 simp only [F84,ob_bif,ob_ob,ob_none,ob_some]
 kernel_rfl
def O84:Ora:=mkO (qc (ag (tc ci (t1 ci))) (qc (ag (tc ci (t1 ci))) (q1 (ag (tc ci (t1 ci)))))) (fun x=>F84 u x.1.1 x.1.2 x.2.1.1 x.2.1.2 x.2.2.1 x.2.2.2) fun t=>[.v (vi t)]
theorem d84:DO (O84 u) (C69 u) 131 A131:=dO u (fun x=>by exact e84 u x.1.1 x.1.2 x.2.1.1 x.2.1.2 x.2.2.1 x.2.2.2)
def C70:Oracle:=(C69 u).add 131 (fun _=>true) (O84 u)
def B130:An tT Tryz.f130 [.k (rl 0 6 (rl 7 45 []))]:=by
 apply Subtype.mk;cbv<;>exact rfl
def A130:AF:=B130.1
def F83 (x0 x1 x2 x3 x4 x5:Int):Option (Bool) :=
 (ob (F84 u x0 x1 x2 x3 x4 x5) fun x6=>(bif ((x6==0)==true) then (bif ((decide (x4≥(if x2<x0 then x2 else x0)))==true) then (bif ((decide (x4≤(if x2>x0 then x2 else x0)))==true) then (bif ((decide (x5≥(if x3<x1 then x3 else x1)))==true) then (some (decide (x5≤(if x3>x1 then x3 else x1)))) else (some false)) else (some false)) else (some false)) else (some false)))
theorem e83:evalF (C70 u) u A130 [.agg [(vi i0),(vi i1)],.agg [(vi i2),(vi i3)],.agg [(vi i4),(vi i5)]]=ob (F83 u i0 i1 i2 i3 i4 i5) fun t=>some [.v (.b t)]:=by
 simp only [F83,ob_bif,ob_ob,ob_none,ob_some]
 kernel_rfl
def O83:Ora:=mkO (qc (ag (tc ci (t1 ci))) (qc (ag (tc ci (t1 ci))) (q1 (ag (tc ci (t1 ci)))))) (fun x=>F83 u x.1.1 x.1.2 x.2.1.1 x.2.1.2 x.2.2.1 x.2.2.2) fun t=>[.v (.b t)]
theorem d83:DO (O83 u) (C70 u) 130 A130:=dO u (fun x=>by exact e83 u x.1.1 x.1.2 x.2.1.1 x.2.1.2 x.2.2.1 x.2.2.2)
def C71:Oracle:=(C70 u).add 130 (fun _=>true) (O83 u)
def B115:An tT Tryz.f115 [.k (rl 8 23 []),.k (rl 0 8 (rl 9 44 [])),.k (rl 0 8 (rl 9 44 []))]:=by
 apply Subtype.mk;cbv<;>exact rfl
def A115:AF:=B115.1
def F68 (x0 x1 x2 x3 x4 x5 x6 x7:Int):Option (Bool) :=
 (ob (F83 u x0 x1 x2 x3 x4 x5) fun x8=>(bif (x8==false) then (ob (F83 u x0 x1 x2 x3 x6 x7) fun x9=>(bif (x9==false) then (ob (F83 u x4 x5 x6 x7 x0 x1) fun xA=>(bif (xA==false) then (ob (F83 u x4 x5 x6 x7 x2 x3) fun xB=>(bif xB then (some true) else (ob (F84 u x0 x1 x2 x3 x4 x5) fun xC=>(ob (F84 u x0 x1 x2 x3 x6 x7) fun xD=>(bif ((decide ((w64 (xC*xD))<0))==true) then (ob (F84 u x4 x5 x6 x7 x0 x1) fun xE=>(ob (F84 u x4 x5 x6 x7 x2 x3) fun xF=>(some (decide ((w64 (xE*xF))<0))))) else (some false)))))) else (some true))) else (some true))) else (some true)))
theorem e68:evalF (C71 u) u A115 [.agg [(vi i0),(vi i1)],.agg [(vi i2),(vi i3)],.agg [(vi i4),(vi i5)],.agg [(vi i6),(vi i7)]]=ob (F68 u i0 i1 i2 i3 i4 i5 i6 i7) fun t=>some [.v (.b t)]:=by
 simp only [F68,ob_bif,ob_ob,ob_none,ob_some]
 kernel_rfl
def O68:Ora:=mkO (qc (ag (tc ci (t1 ci))) (qc (ag (tc ci (t1 ci))) (qc (ag (tc ci (t1 ci))) (q1 (ag (tc ci (t1 ci))))))) (fun x=>F68 u x.1.1 x.1.2 x.2.1.1 x.2.1.2 x.2.2.1.1 x.2.2.1.2 x.2.2.2.1 x.2.2.2.2) fun t=>[.v (.b t)]
theorem d68:DO (O68 u) (C71 u) 115 A115:=dO u (fun x=>by exact e68 u x.1.1 x.1.2 x.2.1.1 x.2.1.2 x.2.2.1.1 x.2.2.1.2 x.2.2.2.1 x.2.2.2.2)
def C72:Oracle:=(C71 u).add 115 (fun _=>true) (O68 u)
def B87:An tT Tryz.f87 [.k (rl 4 40 []),.h [],.k (2 :: 3 :: 4 :: (rl 6 38 [])),.k (rl 7 4 []),.k (rl 0 44 []),.k (4 :: 6 :: (rl 13 31 [])),.h [],.k (2 :: 3 :: 4 :: (rl 7 37 [])),.k (rl 13 4 []),.k (2 :: 3 :: 4 :: (rl 6 38 [])),.k (4 :: (rl 19 25 [])),.k (rl 0 4 (rl 5 39 [])),.k (rl 0 4 (rl 5 39 []))]:=by
 apply Subtype.mk;cbv<;>exact rfl
def A87:AF:=B87.1
def A87v7:AC:=sA A87.body [1,1]
def A87v6:AC:=sA A87.body [1,0,1,0,0]
def A87v5:AC:=sA A87v6 [1]
def A87v4:AC:=sA A87v5 [1]
def A87v3:AC:=sA A87v5 [0,0,1,0,0]
def N39v2:St→Option St:=nN 0 (2 :: 3 :: 4 :: (rl 7 37 []))
def s39v0:St:=⟨(.x (.c (ro kP n0 f0)) :: .x (.c (ro kP n1 f1)) :: (us 3 (vxi i0 :: vxi i1 :: (us 37 [])))),[]⟩
def s39v1:St:=⟨(us 4 (vxb true :: (us 39 []))),[]⟩
def s39v2:St:=⟨(.x (.c (ro kP n0 f0)) :: .x (.c (ro kP n1 f1)) :: (us 3 (vxi i0 :: (us 38 [])))),[]⟩
def L39v2 {ρ:Type} (u:Nat) (x0:Nat) (x1:FF) (x2:Nat) (x3:FF) (x4:Int):Nat→Int→(Option ρ)→(Option ρ)→Option ρ
 | 0,_,_,_=>none
 | m+1,x5,k0,k1 =>
  (bif (decide (x5<(Int.ofNat x2))) then (bif (inb x4 x0) then (bif ((Int.ofNat x0)==0) then none else (bif (inb (Int.tmod (w64 (x4+1)) (Int.ofNat x0)) x0) then (bif (inb x5 x2) then (bif ((Int.ofNat x2)==0) then none else (bif (inb (Int.tmod (w64 (x5+1)) (Int.ofNat x2)) x2) then (ob (F68 u (x1 x4.toNat 0).int (x1 x4.toNat 1).int (CV.int (x1 (Int.toNat (Int.tmod (w64 (x4+1)) (Int.ofNat x0))) 0)) (CV.int (x1 (Int.toNat (Int.tmod (w64 (x4+1)) (Int.ofNat x0))) 1)) (x3 x5.toNat 0).int (x3 x5.toNat 1).int (CV.int (x3 (Int.toNat (Int.tmod (w64 (x5+1)) (Int.ofNat x2))) 0)) (CV.int (x3 (Int.toNat (Int.tmod (w64 (x5+1)) (Int.ofNat x2))) 1))) fun x6=>(bif x6 then k0 else (L39v2 u x0 x1 x2 x3 x4 m (w64 (x5+1)) k0 k1))) else none)) else none) else none)) else none) else k1)
theorem nl39v2:∀ (m:Nat) (x0:Int) (k0:Option ρ) (k1:Option ρ),ob (L39v2 u n0 f0 n1 f1 i0 m x0 k0 k1) ng=L39v2 u n0 f0 n1 f1 i0 m x0 (ob k0 ng) (ob k1 ng)
 | 0,_,_,_=>rfl
 | m+1,x0,k0,k1=>by
  simp only [L39v2,ob_bif,ob_ob,ob_none,nl39v2 m]
theorem q39v2:∀ (m:Nat) (x0:Int),
  loopH (eB A87v3 (C72 u) u) N39v2 m (s39v0 n0 n1 f0 f1 i0 x0) k=L39v2 u n0 f0 n1 f1 i0 m x0 (k .ret s39v1) (k (.exit 2) (s39v2 n0 n1 f0 f1 i0))
 | 0,_=>rfl
 | m+1,x0=>by
  simp only [L39v2,← q39v2 m]
  kernel_rfl
def N39v3:St→Option St:=nN 0 (2 :: 3 :: 4 :: (rl 6 38 []))
def s39v3:St:=⟨(.x (.c (ro kP n0 f0)) :: .x (.c (ro kP n1 f1)) :: (us 3 (vxi i0 :: (us 38 [])))),[]⟩
def s39v4:St:=⟨(us 44 []),[]⟩
def L39v3 {ρ:Type} (u:Nat) (x0:Nat) (x1:FF) (x2:Nat) (x3:FF):Nat→Int→(Option ρ)→(Option ρ)→Option ρ
 | 0,_,_,_=>none
 | m+1,x4,k0,k1 =>
  (bif (decide (x4<(Int.ofNat x0))) then (L39v2 u x0 x1 x2 x3 x4 u 0
  k0
  (L39v3 u x0 x1 x2 x3 m (w64 (x4+1)) k0 k1)) else k1)
theorem nl39v3:∀ (m:Nat) (x0:Int) (k0:Option ρ) (k1:Option ρ),ob (L39v3 u n0 f0 n1 f1 m x0 k0 k1) ng=L39v3 u n0 f0 n1 f1 m x0 (ob k0 ng) (ob k1 ng)
 | 0,_,_,_=>rfl
 | m+1,x0,k0,k1=>by
  simp only [L39v3,ob_bif,ob_ob,ob_none,nl39v3 m,nl39v2]
theorem r39v3 :
  loopH (eB A87v6 (C72 u) u) N39v3 (m+1) (s39v3 n0 n1 f0 f1 i0) k =
  (bif (decide (i0<(Int.ofNat n0))) then (loopH (eB A87v3 (C72 u) u) N39v2 u (s39v0 n0 n1 f0 f1 i0 0) (kBlk 2 (kBlk 1 (kSeq (C72 u) u (4 :: 6 :: (rl 13 31 [])) A87v4 (kLoop (eB A87v6 (C72 u) u) N39v3 m k))))) else (k (.exit 0) s39v4)):=by kernel_rfl
theorem g39v1 :
  (kBlk 2 (kBlk 1 (kSeq (C72 u) u (4 :: 6 :: (rl 13 31 [])) A87v4 (kLoop (eB A87v6 (C72 u) u) N39v3 m k)))) (.exit 2) (s39v2 n0 n1 f0 f1 i0) =
  (loopH (eB A87v6 (C72 u) u) N39v3 m (s39v3 n0 n1 f0 f1 (w64 (i0+1))) k):=by kernel_rfl
theorem q39v3:∀ (m:Nat) (x0:Int),
  loopH (eB A87v6 (C72 u) u) N39v3 m (s39v3 n0 n1 f0 f1 x0) k=L39v3 u n0 f0 n1 f1 m x0 (k .ret s39v1) (k (.exit 0) s39v4)
 | 0,_=>rfl
 | m+1,x0=>by
  rw [r39v3]
  simp only [L39v3,q39v3 m,q39v2,g39v1]<;>kernel_rfl
def F39 (x0:Nat) (x1:FF) (x2:Nat) (x3:FF):Option (Bool) :=
 (L39v3 u x0 x1 x2 x3 u 0
  (some true)
  (some false))
theorem e39:evalF (C72 u) u A87 [.v (ro kP n0 f0),.v (ro kP n1 f1)]=ob (F39 u n0 f0 n1 f1) fun t=>some [.v (.b t)]:=Eq.trans (b:=(loopH (eB A87v6 (C72 u) u) N39v3 u (s39v3 n0 n1 f0 f1 0) (kBlk 0 (kSeq (C72 u) u (rl 4 40 []) A87v7 (finish A87))))) (by kernel_rfl) (by
 simp only [F39,ob_bif,ob_ob,ob_none,ob_some,nl39v3,q39v3]<;>kernel_rfl)
def O39:Ora:=mkO (qc (av (cL kP)) (q1 (av (cL kP)))) (fun x=>F39 u x.1.1 x.1.2 x.2.1 x.2.2) fun t=>[.v (.b t)]
theorem d39:DO (O39 u) (C72 u) 87 A87:=dO u (fun x=>by exact e39 u x.1.1 x.2.1 x.1.2 x.2.2)
def C73:Oracle:=(C72 u).add 87 (fun _=>true) (O39 u)
def B88:An tT Tryz.f88 [.k (4 :: (rl 11 8 [])),.k (rl 0 4 (rl 5 81 [])),.k (4 :: (rl 6 5 (rl 19 66 []))),.h [],.k (1 :: 2 :: 4 :: (rl 7 79 [])),.k (rl 19 4 []),.k (rl 0 5 (rl 6 80 [])),.k (4 :: (rl 7 4 (rl 25 60 []))),.k (4 :: (rl 37 4 [])),.k (rl 0 4 (rl 5 81 [])),.k [4,85],.k (rl 0 4 (rl 5 81 [])),.k (rl 0 4 (rl 5 81 []))]:=by
 apply Subtype.mk;cbv<;>exact rfl
def A88:AF:=B88.1
def A88v7:AC:=sA A88.body [1,1]
def A88v6:AC:=sA A88v7 [1,1]
def A88v4:AC:=sA A88v7 [1,0,1,0,0]
def N40v1:St→Option St:=nN 1 (1 :: 2 :: 4 :: (rl 7 79 []))
def s40v0:St:=⟨(.x (.c (ro kP n0 f0)) :: .u :: .u :: .x (.ptr 0 0) :: .u :: vxb b0 :: vxi i0 :: (us 79 [])),[.box [(vci i1),(vci i2)]]⟩
def s40v1:St:=⟨(us 4 (vxi 0 :: (us 81 []))),[.box [(vci i0),(vci i1)],.box [(vci i2),(vci i3)],.box [(vci i4),(vci i5)]]⟩
def s40v2:St:=⟨(us 5 (vxb b0 :: (us 80 []))),[.box [(vci i0),(vci i1)]]⟩
def L40v1 {ρ:Type} (u:Nat) (x0:Nat) (x1:FF) (x2 x3:Int):Nat→Bool→Int→(Int→Int→Int→Int→Option ρ)→(Bool→Option ρ)→Option ρ
 | 0,_,_,_,_=>none
 | m+1,x4,x5,k0,k1 =>
  (bif (decide (x5<(Int.ofNat x0))) then (bif (inb x5 x0) then (bif ((Int.ofNat x0)==0) then none else (bif (inb (Int.tmod (w64 (x5+1)) (Int.ofNat x0)) x0) then (ob (F70 u x2 x3 (x1 x5.toNat 0).int (x1 x5.toNat 1).int (CV.int (x1 (Int.toNat (Int.tmod (w64 (x5+1)) (Int.ofNat x0))) 0)) (CV.int (x1 (Int.toNat (Int.tmod (w64 (x5+1)) (Int.ofNat x0))) 1))) fun x6=>(bif x6 then (k0 (x1 x5.toNat 0).int (x1 x5.toNat 1).int (CV.int (x1 (Int.toNat (Int.tmod (w64 (x5+1)) (Int.ofNat x0))) 0)) (CV.int (x1 (Int.toNat (Int.tmod (w64 (x5+1)) (Int.ofNat x0))) 1))) else (bif ((decide ((x1 x5.toNat 1).int≤x3))==true) then (bif ((decide (x3<(CV.int (x1 (Int.toNat (Int.tmod (w64 (x5+1)) (Int.ofNat x0))) 1))))==true) then (ob (F71 u (x1 x5.toNat 0).int (x1 x5.toNat 1).int (CV.int (x1 (Int.toNat (Int.tmod (w64 (x5+1)) (Int.ofNat x0))) 0)) (CV.int (x1 (Int.toNat (Int.tmod (w64 (x5+1)) (Int.ofNat x0))) 1)) x2 x3) fun x7=>(bif ((decide ((CV.int (x1 (Int.toNat (Int.tmod (w64 (x5+1)) (Int.ofNat x0))) 1))≤x3))==true) then (bif ((decide (x3<(x1 x5.toNat 1).int))==true) then (ob (F71 u (x1 x5.toNat 0).int (x1 x5.toNat 1).int (CV.int (x1 (Int.toNat (Int.tmod (w64 (x5+1)) (Int.ofNat x0))) 0)) (CV.int (x1 (Int.toNat (Int.tmod (w64 (x5+1)) (Int.ofNat x0))) 1)) x2 x3) fun x8=>(bif ((decide (x7>0))==false) then (bif (decide (x8<0)) then (L40v1 u x0 x1 x2 x3 m (!x4) (w64 (x5+1)) k0 k1) else (L40v1 u x0 x1 x2 x3 m x4 (w64 (x5+1)) k0 k1)) else (L40v1 u x0 x1 x2 x3 m (!x4) (w64 (x5+1)) k0 k1))) else (bif ((decide (x7>0))==false) then (L40v1 u x0 x1 x2 x3 m x4 (w64 (x5+1)) k0 k1) else (L40v1 u x0 x1 x2 x3 m (!x4) (w64 (x5+1)) k0 k1))) else (bif ((decide (x7>0))==false) then (L40v1 u x0 x1 x2 x3 m x4 (w64 (x5+1)) k0 k1) else (L40v1 u x0 x1 x2 x3 m (!x4) (w64 (x5+1)) k0 k1)))) else (bif ((decide ((CV.int (x1 (Int.toNat (Int.tmod (w64 (x5+1)) (Int.ofNat x0))) 1))≤x3))==true) then (bif ((decide (x3<(x1 x5.toNat 1).int))==true) then (ob (F71 u (x1 x5.toNat 0).int (x1 x5.toNat 1).int (CV.int (x1 (Int.toNat (Int.tmod (w64 (x5+1)) (Int.ofNat x0))) 0)) (CV.int (x1 (Int.toNat (Int.tmod (w64 (x5+1)) (Int.ofNat x0))) 1)) x2 x3) fun x9=>(bif (decide (x9<0)) then (L40v1 u x0 x1 x2 x3 m (!x4) (w64 (x5+1)) k0 k1) else (L40v1 u x0 x1 x2 x3 m x4 (w64 (x5+1)) k0 k1))) else (L40v1 u x0 x1 x2 x3 m x4 (w64 (x5+1)) k0 k1)) else (L40v1 u x0 x1 x2 x3 m x4 (w64 (x5+1)) k0 k1))) else (bif ((decide ((CV.int (x1 (Int.toNat (Int.tmod (w64 (x5+1)) (Int.ofNat x0))) 1))≤x3))==true) then (bif ((decide (x3<(x1 x5.toNat 1).int))==true) then (ob (F71 u (x1 x5.toNat 0).int (x1 x5.toNat 1).int (CV.int (x1 (Int.toNat (Int.tmod (w64 (x5+1)) (Int.ofNat x0))) 0)) (CV.int (x1 (Int.toNat (Int.tmod (w64 (x5+1)) (Int.ofNat x0))) 1)) x2 x3) fun xA=>(bif (decide (xA<0)) then (L40v1 u x0 x1 x2 x3 m (!x4) (w64 (x5+1)) k0 k1) else (L40v1 u x0 x1 x2 x3 m x4 (w64 (x5+1)) k0 k1))) else (L40v1 u x0 x1 x2 x3 m x4 (w64 (x5+1)) k0 k1)) else (L40v1 u x0 x1 x2 x3 m x4 (w64 (x5+1)) k0 k1))))) else none)) else none) else (k1 x4))
theorem nl40v1:∀ (m:Nat) (x0:Bool) (x1:Int) (k0:Int→Int→Int→Int→Option ρ) (k1:Bool→Option ρ),ob (L40v1 u n0 f0 i0 i1 m x0 x1 k0 k1) ng=L40v1 u n0 f0 i0 i1 m x0 x1 (fun x2 x3 x4 x5=>ob (k0 x2 x3 x4 x5) ng) (fun x6=>ob (k1 x6) ng)
 | 0,_,_,_,_=>rfl
 | m+1,x0,x1,k0,k1=>by
  simp only [L40v1,ob_bif,ob_ob,ob_none,nl40v1 m]
theorem q40v1:∀ (m:Nat) (x0:Bool) (x1:Int),
  loopH (eB A88v4 (C73 u) u) N40v1 m (s40v0 n0 f0 x1 i0 i1 x0) k=L40v1 u n0 f0 i0 i1 m x0 x1 (fun x2 x3 x4 x5=>k .ret (s40v1 i0 i1 x2 x3 x4 x5)) (fun x6=>k (.exit 0) (s40v2 i0 i1 x6))
 | 0,_,_=>rfl
 | m+1,x0,x1=>by
  simp only [L40v1,← q40v1 m]
  kernel_rfl
def F40 (x0:Nat) (x1:FF) (x2 x3:Int):Option (Int) :=
 (ob (F37 u x0 x1) fun x4=>(bif ((x4 != 0)==false) then (ob (F69 u x2 x3) fun x5=>(bif (!x5) then (some (-1)) else (L40v1 u x0 x1 x2 x3 u false 0
  (fun x6 x7 x8 x9=>(some 0))
  (fun xA=>(bif xA then (some 1) else (some (-1))))))) else (some (-1))))
theorem e40:evalF (C73 u) u A88 [.v (ro kP n0 f0),.agg [(vi i0),(vi i1)]]=ob (F40 u n0 f0 i0 i1) fun t=>some [.v (vi t)]:=Eq.trans (b:=(ob (F37 u n0 f0) fun x0=>(bif ((x0 != 0)==false) then (ob (F69 u i0 i1) fun x1=>(bif (!x1) then (some [.v (vi (-1))]) else (loopH (eB A88v4 (C73 u) u) N40v1 u (s40v0 n0 f0 0 i0 i1 false) (kBlk 0 (kSeq (C73 u) u (4 :: (rl 6 5 (rl 19 66 []))) A88v6 (finish A88)))))) else (some [.v (vi (-1))])))) (by kernel_rfl) (by
 simp only [F40,ob_bif,ob_ob,ob_none,ob_some,nl40v1,q40v1]<;>kernel_rfl)
def O40:Ora:=mkO (qc (av (cL kP)) (q1 (ag (tc ci (t1 ci))))) (fun x=>F40 u x.1.1 x.1.2 x.2.1 x.2.2) fun t=>[.v (vi t)]
theorem d40:DO (O40 u) (C73 u) 88 A88:=dO u (fun x=>by exact e40 u x.1.1 x.1.2 x.2.1 x.2.2)
def C74:Oracle:=(C73 u).add 88 (fun _=>true) (O40 u)
def B52:An tT Tryz.f52 [.k (2 :: (rl 8 4 [])),.k (0 :: 1 :: (rl 3 90 [])),.k (2 :: 3 :: (rl 12 6 [])),.k (0 :: 1 :: (rl 3 90 [])),.k (2 :: (rl 18 4 [])),.k (0 :: 1 :: (rl 3 90 [])),.k (2 :: (rl 4 4 (rl 22 71 []))),.h [],.k (0 :: 2 :: 3 :: (rl 5 88 [])),.k (rl 22 5 []),.k (rl 0 93 []),.k (2 :: 5 :: 6 :: 7 :: (rl 29 64 [])),.k (2 :: 6 :: (rl 34 5 [])),.k (0 :: 1 :: (rl 3 90 [])),.k (2 :: (rl 39 18 [])),.k (0 :: 1 :: (rl 3 90 [])),.h [],.k (0 :: 2 :: 3 :: 6 :: (rl 8 85 [])),.k [57,58,59],.k (0 :: 2 :: 3 :: (rl 5 88 [])),.k (2 :: (rl 62 31 [])),.k (0 :: 1 :: (rl 3 90 [])),.k (0 :: 1 :: (rl 3 90 []))]:=by
 apply Subtype.mk;cbv<;>exact rfl
def A52:AF:=B52.1
def A52v12:AC:=sA A52.body [1,1]
def A52v11:AC:=sA A52v12 [1]
def A52v10:AC:=sA A52v11 [1]
def A52v9:AC:=sA A52v10 [1]
def A52v8:AC:=sA A52v10 [0,1,0,0]
def A52v7:AC:=sA A52v8 [1]
def A52v6:AC:=sA A52v7 [1]
def A52v5:AC:=sA A52v7 [0,0,1,1]
def A52v4:AC:=sA A52v5 [1]
def A52v3:AC:=sA A52v4 [1,0,0]
def N14v2:St→Option St:=nN 1 (0 :: 2 :: 3 :: 6 :: (rl 8 85 []))
def s14v0:St:=⟨(.u :: .x (.ptr 0 0) :: .u :: .u :: vxi i0 :: .x (.c (ro kP n0 f0)) :: .u :: vxi i1 :: (us 85 [])),[.box [(.c (ro kP n1 f1)),(.c (ro kE n2 f2))]]⟩
def s14v1:St:=⟨(.u :: .u :: vxi 17 :: (us 90 [])),[.box [(.c (ro kP n0 f0)),(.c (ro kE n1 f1))]]⟩
def s14v2:St:=⟨(.u :: .x (.ptr 0 0) :: .u :: .u :: vxi i0 :: (us 88 [])),[.box [(.c (ro kP n0 f0)),(.c (ro kE n1 f1))]]⟩
def L14v2 {ρ:Type} (u:Nat) (x0:Int) (x1:Nat) (x2:FF) (x3:Nat) (x4:FF) (x5:Nat) (x6:FF):Nat→Int→(Option ρ)→(Option ρ)→Option ρ
 | 0,_,_,_=>none
 | m+1,x7,k0,k1 =>
  (bif (decide (x7<x0)) then (bif (inb x7 x5) then (ob (F39 u x1 x2 (x6 x7.toNat 0).len (x6 x7.toNat 0).el) fun x8=>(bif (x8==false) then (bif (inb x7 x5) then (bif (inb 0 (x6 x7.toNat 0).len) then (ob (F40 u x1 x2 ((x6 x7.toNat 0).el 0 0).int ((x6 x7.toNat 0).el 0 1).int) fun x9=>(bif ((x9 != (-1))==false) then (bif (inb x7 x5) then (bif (inb 0 x1) then (ob (F40 u (x6 x7.toNat 0).len (x6 x7.toNat 0).el (x2 0 0).int (x2 0 1).int) fun xA=>(bif (xA != (-1)) then k0 else (L14v2 u x0 x1 x2 x3 x4 x5 x6 m (w64 (x7+1)) k0 k1))) else none) else none) else k0)) else none) else none) else k0)) else none) else k1)
theorem nl14v2:∀ (m:Nat) (x0:Int) (k0:Option ρ) (k1:Option ρ),ob (L14v2 u i0 n0 f0 n1 f1 n2 f2 m x0 k0 k1) ng=L14v2 u i0 n0 f0 n1 f1 n2 f2 m x0 (ob k0 ng) (ob k1 ng)
 | 0,_,_,_=>rfl
 | m+1,x0,k0,k1=>by
  simp only [L14v2,ob_bif,ob_ob,ob_none,nl14v2 m]
theorem q14v2:∀ (m:Nat) (x0:Int),
  loopH (eB A52v3 (C74 u) u) N14v2 m (s14v0 n0 n1 n2 f0 f1 f2 i0 x0) k=L14v2 u i0 n0 f0 n1 f1 n2 f2 m x0 (k .ret (s14v1 n1 n2 f1 f2)) (k (.exit 2) (s14v2 n1 n2 f1 f2 i0))
 | 0,_=>rfl
 | m+1,x0=>by
  simp only [L14v2,← q14v2 m]
  kernel_rfl
def N14v3:St→Option St:=nN 1 (0 :: 2 :: 3 :: (rl 5 88 []))
def s14v3:St:=⟨(.u :: .x (.ptr 0 0) :: .u :: .u :: vxi i0 :: (us 88 [])),[.box [(.c (ro kP n0 f0)),(.c (ro kE n1 f1))]]⟩
def s14v4:St:=⟨(.u :: .u :: vxi i0 :: (us 90 [])),[.box [(.c (ro kP n0 f0)),(.c (ro kE n1 f1))]]⟩
def s14v5:St:=⟨(us 93 []),[.box [(.c (ro kP n0 f0)),(.c (ro kE n1 f1))]]⟩
def L14v3 {ρ:Type} (u:Nat) (x0:Nat) (x1:FF) (x2:Nat) (x3:FF):Nat→Int→(Int→Option ρ)→(Option ρ)→Option ρ
 | 0,_,_,_=>none
 | m+1,x4,k0,k1 =>
  (bif (decide (x4<(Int.ofNat x2))) then (bif (inb x4 x2) then (ob (F37 u (x3 x4.toNat 0).len (x3 x4.toNat 0).el) fun x5=>(bif (x5 != 0) then (k0 x5) else (ob (F38 u (x3 x4.toNat 0).len (x3 x4.toNat 0).el) fun x6=>(bif ((decide (x6≥0))==false) then (ob (F39 u x0 x1 (x3 x4.toNat 0).len (x3 x4.toNat 0).el) fun x7=>(bif (x7==false) then (bif (inb 0 (x3 x4.toNat 0).len) then (ob (F40 u x0 x1 ((x3 x4.toNat 0).el 0 0).int ((x3 x4.toNat 0).el 0 1).int) fun x8=>(bif (x8 != 1) then (k0 17) else (L14v2 u x4 (x3 x4.toNat 0).len (x3 x4.toNat 0).el x0 x1 x2 x3 u 0
  (k0 17)
  (L14v3 u x0 x1 x2 x3 m (w64 (x4+1)) k0 k1)))) else none) else (k0 17))) else (k0 17))))) else none) else k1)
theorem nl14v3:∀ (m:Nat) (x0:Int) (k0:Int→Option ρ) (k1:Option ρ),ob (L14v3 u n0 f0 n1 f1 m x0 k0 k1) ng=L14v3 u n0 f0 n1 f1 m x0 (fun x1=>ob (k0 x1) ng) (ob k1 ng)
 | 0,_,_,_=>rfl
 | m+1,x0,k0,k1=>by
  simp only [L14v3,ob_bif,ob_ob,ob_none,nl14v3 m,nl14v2]
theorem r14v3 :
  loopH (eB A52v8 (C74 u) u) N14v3 (m+1) (s14v3 n0 n1 f0 f1 i0) k =
  (bif (decide (i0<(Int.ofNat n1))) then (bif (inb i0 n1) then (ob (F37 u (f1 i0.toNat 0).len (f1 i0.toNat 0).el) fun x0=>(bif (x0 != 0) then (k .ret (s14v4 n0 n1 f0 f1 x0)) else (ob (F38 u (f1 i0.toNat 0).len (f1 i0.toNat 0).el) fun x1=>(bif ((decide (x1≥0))==false) then (ob (F39 u n0 f0 (f1 i0.toNat 0).len (f1 i0.toNat 0).el) fun x2=>(bif (x2==false) then (bif (inb 0 (f1 i0.toNat 0).len) then (ob (F40 u n0 f0 ((f1 i0.toNat 0).el 0 0).int ((f1 i0.toNat 0).el 0 1).int) fun x3=>(bif (x3 != 1) then (k .ret (s14v4 n0 n1 f0 f1 17)) else (loopH (eB A52v3 (C74 u) u) N14v2 u (s14v0 (f1 i0.toNat 0).len n0 n1 (f1 i0.toNat 0).el f0 f1 i0 0) (kBlk 2 (kBlk 1 (kSeq (C74 u) u (2 :: 5 :: 6 :: 7 :: (rl 29 64 [])) A52v6 (kLoop (eB A52v8 (C74 u) u) N14v3 m k))))))) else none) else (k .ret (s14v4 n0 n1 f0 f1 17)))) else (k .ret (s14v4 n0 n1 f0 f1 17)))))) else none) else (k (.exit 0) (s14v5 n0 n1 f0 f1))):=by kernel_rfl
theorem g14v1 :
  (kBlk 2 (kBlk 1 (kSeq (C74 u) u (2 :: 5 :: 6 :: 7 :: (rl 29 64 [])) A52v6 (kLoop (eB A52v8 (C74 u) u) N14v3 m k)))) (.exit 2) (s14v2 n0 n1 f0 f1 i0) =
  (loopH (eB A52v8 (C74 u) u) N14v3 m (s14v3 n0 n1 f0 f1 (w64 (i0+1))) k):=by kernel_rfl
theorem q14v3:∀ (m:Nat) (x0:Int),
  loopH (eB A52v8 (C74 u) u) N14v3 m (s14v3 n0 n1 f0 f1 x0) k=L14v3 u n0 f0 n1 f1 m x0 (fun x1=>k .ret (s14v4 n0 n1 f0 f1 x1)) (k (.exit 0) (s14v5 n0 n1 f0 f1))
 | 0,_=>rfl
 | m+1,x0=>by
  rw [r14v3]
  simp only [L14v3,q14v3 m,q14v2,g14v1]<;>kernel_rfl
def F14 (x0:Nat) (x1:FF) (x2:Nat) (x3:FF):Option (Int) :=
 (bif (decide ((Int.ofNat x2)>8)) then (some 12) else (ob (F37 u x0 x1) fun x4=>(bif (x4 != 0) then (some x4) else (ob (F38 u x0 x1) fun x5=>(bif (decide (x5≤0)) then (some 17) else (L14v3 u x0 x1 x2 x3 u 0
  (fun x6=>(some x6))
  (some 0)))))))
theorem e14:evalF (C74 u) u A52 [.agg [(ro kP n0 f0),(ro kE n1 f1)]]=ob (F14 u n0 f0 n1 f1) fun t=>some [.v (vi t)]:=Eq.trans (b:=(bif (decide ((Int.ofNat n1)>8)) then (some [.v (vi 12)]) else (ob (F37 u n0 f0) fun x0=>(bif (x0 != 0) then (some [.v (vi x0)]) else (ob (F38 u n0 f0) fun x1=>(bif (decide (x1≤0)) then (some [.v (vi 17)]) else (loopH (eB A52v8 (C74 u) u) N14v3 u (s14v3 n0 n1 f0 f1 0) (kBlk 0 (kSeq (C74 u) u (2 :: (rl 4 4 (rl 22 71 []))) A52v9 (finish A52)))))))))) (by kernel_rfl) (by
 simp only [F14,ob_bif,ob_ob,ob_none,ob_some,nl14v3,q14v3]<;>kernel_rfl)
def O14:Ora:=mkO (q1 (ag (tc (cL kP) (t1 (cL kE))))) (fun x=>F14 u x.1.1 x.1.2 x.2.1 x.2.2) fun t=>[.v (vi t)]
theorem d14:DO (O14 u) (C74 u) 52 A52:=dO u (fun x=>by exact e14 u x.1.1 x.2.1 x.1.2 x.2.2)
def C75:Oracle:=(C74 u).add 52 (fun _=>true) (O14 u)
def B27:An tT Tryz.f27 [.k (rl 6 47 []),.h [.slot 5 kA],.k (0 :: 3 :: 4 :: (rl 7 47 [])),.k (rl 8 4 []),.g [0],.k (rl 0 5 (rl 6 48 [])),.k (7 :: (rl 14 39 [])),.g [0],.k (rl 0 4 (rl 5 49 []))]:=by
 apply Subtype.mk;cbv<;>exact rfl
def A27:AF:=B27.1
def A27v4:AC:=sA A27.body [1,1,1]
def A27v3:AC:=sA A27.body [1,1,0,1,0,0]
def N409v1:St→Option St:=nN 2 (0 :: 3 :: 4 :: (rl 7 47 []))
def s409v0:St:=⟨(.u :: .x (.c (ro kA n0 f0)) :: .x (.ptr 0 0) :: .u :: .u :: .x (.own 1 0 n1) :: vxi i0 :: (us 47 [])),[.box [(vcs w0),(vcs w1),(vci i1),(vci i2),(vci i3),(vcs w2)],.arr kA n1 f1]⟩
def s409v1:St:=⟨(us 5 (.x (.own 1 0 n0) :: (us 48 []))),[.dead,.arr kA n0 f0]⟩
def L409v1 {ρ:Type} (u:Nat) (x0:Nat) (x1:FF) (x2 x3:ByteArray) (x4 x5 x6:Int) (x7:ByteArray):Nat→Nat→Int→FF→(Nat→FF→Option ρ)→Option ρ
 | 0,_,_,_,_=>none
 | m+1,x8,x9,xA,k0 =>
  (bif (decide (x9<(Int.ofNat x0))) then (bif (inb x9 x0) then (bif (((x1 x9.toNat 2).int==1)==true) then (bif ((ByteArray.toList (x1 x9.toNat 4).str==ByteArray.toList x3)==true) then (bif (((x1 x9.toNat 5).int==x4)==true) then (ob (F176 u x0 x1 (x1 x9.toNat 0).str) fun xB=>(bif ((xB==x9)==true) then (ob (F14 u (x1 x9.toNat 6).len (x1 x9.toNat 6).el (x1 x9.toNat 7).len (x1 x9.toNat 7).el) fun xC=>(bif (xC==0) then (bif (Nat.ble (x8+1) 1073741824) then (L409v1 u x0 x1 x2 x3 x4 x5 x6 x7 m (x8+1) (w64 (x9+1)) (joinF x8 xA (rowsF 18 [(.s (x1 x9.toNat 0).str),(.i .i64 (x1 x9.toNat 1).int),(.i .i64 (x1 x9.toNat 2).int),(.s (x1 x9.toNat 3).str),(.s (x1 x9.toNat 4).str),(.i .i64 (x1 x9.toNat 5).int),(.ro false (.pr (.int .i64) (.pr (.int .i64) .nil)) (x1 x9.toNat 6).len (x1 x9.toNat 6).el),(.ro false (.pr (.sl (.pr (.int .i64) (.pr (.int .i64) .nil))) .nil) (x1 x9.toNat 7).len (x1 x9.toNat 7).el),(.s (x1 x9.toNat 8).str),(.i .i64 (x1 x9.toNat 9).int),(.i .i64 (x1 x9.toNat 10).int),(.i .i64 (x1 x9.toNat 11).int),(.i .i64 (x1 x9.toNat 12).int),(.i .i64 (x1 x9.toNat 13).int),(.i .i64 (x1 x9.toNat 14).int),(.i .i64 (x1 x9.toNat 15).int),(.i .i64 (x1 x9.toNat 16).int),(.i .i64 (x1 x9.toNat 17).int)])) k0) else none) else (L409v1 u x0 x1 x2 x3 x4 x5 x6 x7 m x8 (w64 (x9+1)) xA k0))) else (L409v1 u x0 x1 x2 x3 x4 x5 x6 x7 m x8 (w64 (x9+1)) xA k0))) else (L409v1 u x0 x1 x2 x3 x4 x5 x6 x7 m x8 (w64 (x9+1)) xA k0)) else (L409v1 u x0 x1 x2 x3 x4 x5 x6 x7 m x8 (w64 (x9+1)) xA k0)) else (L409v1 u x0 x1 x2 x3 x4 x5 x6 x7 m x8 (w64 (x9+1)) xA k0)) else none) else (k0 x8 xA))
theorem nl409v1:∀ (m:Nat) (x0:Nat) (x1:Int) (x2:FF) (k0:Nat→FF→Option ρ),ob (L409v1 u n0 f0 w0 w1 i0 i1 i2 w2 m x0 x1 x2 k0) ng=L409v1 u n0 f0 w0 w1 i0 i1 i2 w2 m x0 x1 x2 (fun x3 x4=>ob (k0 x3 x4) ng)
 | 0,_,_,_,_=>rfl
 | m+1,x0,x1,x2,k0=>by
  simp only [L409v1,ob_bif,ob_ob,ob_none,nl409v1 m]
theorem q409v1:∀ (m:Nat) (x0:Nat) (x1:Int) (x2:FF),
  loopH (eB A27v3 (C75 u) u) N409v1 m (s409v0 n0 x0 f0 x2 x1 i0 i1 i2 w0 w1 w2) k=L409v1 u n0 f0 w0 w1 i0 i1 i2 w2 m x0 x1 x2 (fun x3 x4=>k (.exit 0) (s409v1 x3 x4))
 | 0,_,_,_=>rfl
 | m+1,x0,x1,x2=>by
  simp only [L409v1,← q409v1 m]
  kernel_rfl
def F409 (x0 x1:ByteArray) (x2 x3 x4:Int) (x5:ByteArray) (x6:Nat) (x7:FF):Option (Nat × FF) :=
 (L409v1 u x6 x7 x0 x1 x2 x3 x4 x5 u 0 0 (fun _ _=>.any)
  (fun x8 x9=>(some (x8,x9))))
theorem e409:evalF (C75 u) u A27 [.agg [(.s w0),(.s w1),(vi i0),(vi i1),(vi i2),(.s w2)],.v (ro kA n0 f0)]=ob (F409 u w0 w1 i0 i1 i2 w2 n0 f0) fun t=>some [.v (ro kA t.1 t.2)]:=Eq.trans (b:=(loopH (eB A27v3 (C75 u) u) N409v1 u (s409v0 n0 0 f0 nilF 0 i0 i1 i2 w0 w1 w2) (kBlk 0 (kSeq (C75 u) u (rl 6 47 []) A27v4 (finish A27))))) (by kernel_rfl) (by
 simp only [F409,ob_bif,ob_ob,ob_none,ob_some,nl409v1,q409v1]<;>kernel_rfl)
def O409:Ora:=mkO (qc (ag (tc cS (tc cS (tc ci (tc ci (tc ci (t1 cS))))))) (q1 (av (cL kA)))) (fun x=>F409 u x.1.1 x.1.2.1 x.1.2.2.1 x.1.2.2.2.1 x.1.2.2.2.2.1 x.1.2.2.2.2.2 x.2.1 x.2.2) fun t=>[.v (ro kA t.1 t.2)]
theorem d409:DO (O409 u) (C75 u) 27 A27:=dO u (fun x=>by exact e409 u x.2.1 x.2.2 x.1.2.2.1 x.1.2.2.2.1 x.1.2.2.2.2.1 x.1.1 x.1.2.1 x.1.2.2.2.2.2)
def C76:Oracle:=(C75 u).add 27 (fun _=>true) (O409 u)
def B40:An tT Tryz.f40 [.k (4 :: 5 :: (rl 7 45 [])),.h [],.k (0 :: (rl 5 48 [])),.k (rl 7 5 []),.k (0 :: 1 :: (rl 4 49 [])),.k (5 :: (rl 14 38 [])),.k (rl 19 5 []),.k (0 :: 1 :: (rl 3 50 []))]:=by
 apply Subtype.mk;cbv<;>exact rfl
def A40:AF:=B40.1
def A40v5:AC:=sA A40.body [1,1,1]
def A40v4:AC:=sA A40.body [1,1,0,1,0,0]
def N21v1:St→Option St:=nN 3 (0 :: (rl 5 48 []))
def s21v0:St:=⟨(.u :: .x (.ptr 0 0) :: .x (.ptr 1 0) :: .x (.ptr 2 0) :: vxi i0 :: (us 48 [])),[.box [(.c (ro kP n0 f0)),(.c (ro kE n1 f1))],.box [(vci 0),(vci 0),(vci 0),(vci 0)],.box [(vci i1),(vci i2),(vci i3),(vci i4)]]⟩
def s21v1:St:=⟨(.u :: .u :: .x (.ptr 1 0) :: .x (.ptr 2 0) :: (us 49 [])),[.box [(.c (ro kP n0 f0)),(.c (ro kE n1 f1))],.box [(vci 0),(vci 0),(vci 0),(vci 0)],.box [(vci i0),(vci i1),(vci i2),(vci i3)]]⟩
def L21v1 {ρ:Type} (u:Nat) (x0:Nat) (x1:FF) (x2:Nat) (x3:FF):Nat→Int→Int→Int→Int→Int→(Int→Int→Int→Int→Option ρ)→Option ρ
 | 0,_,_,_,_,_,_=>none
 | m+1,x4,x5,x6,x7,x8,k0 =>
  (bif (decide (x4<(Int.ofNat x0))) then (bif (inb x4 x0) then (bif (x4==0) then (L21v1 u x0 x1 x2 x3 m (w64 (x4+1)) (if (x1 x4.toNat 0).int<(x1 x4.toNat 0).int then (x1 x4.toNat 0).int else (x1 x4.toNat 0).int) (if (x1 x4.toNat 1).int<(x1 x4.toNat 1).int then (x1 x4.toNat 1).int else (x1 x4.toNat 1).int) (if (x1 x4.toNat 0).int>(x1 x4.toNat 0).int then (x1 x4.toNat 0).int else (x1 x4.toNat 0).int) (if (x1 x4.toNat 1).int>(x1 x4.toNat 1).int then (x1 x4.toNat 1).int else (x1 x4.toNat 1).int) k0) else (L21v1 u x0 x1 x2 x3 m (w64 (x4+1)) (if (x1 x4.toNat 0).int<x5 then (x1 x4.toNat 0).int else x5) (if (x1 x4.toNat 1).int<x6 then (x1 x4.toNat 1).int else x6) (if (x1 x4.toNat 0).int>x7 then (x1 x4.toNat 0).int else x7) (if (x1 x4.toNat 1).int>x8 then (x1 x4.toNat 1).int else x8) k0)) else none) else (k0 x5 x6 x7 x8))
theorem nl21v1:∀ (m:Nat) (x0 x1 x2 x3 x4:Int) (k0:Int→Int→Int→Int→Option ρ),ob (L21v1 u n0 f0 n1 f1 m x0 x1 x2 x3 x4 k0) ng=L21v1 u n0 f0 n1 f1 m x0 x1 x2 x3 x4 (fun x5 x6 x7 x8=>ob (k0 x5 x6 x7 x8) ng)
 | 0,_,_,_,_,_,_=>rfl
 | m+1,x0,x1,x2,x3,x4,k0=>by
  simp only [L21v1,ob_bif,ob_ob,ob_none,nl21v1 m]
theorem q21v1:∀ (m:Nat) (x0 x1 x2 x3 x4:Int),
  loopH (eB A40v4 (C76 u) u) N21v1 m (s21v0 n0 n1 f0 f1 x0 x1 x2 x3 x4) k=L21v1 u n0 f0 n1 f1 m x0 x1 x2 x3 x4 (fun x5 x6 x7 x8=>k (.exit 0) (s21v1 n0 n1 f0 f1 x5 x6 x7 x8))
 | 0,_,_,_,_,_=>rfl
 | m+1,x0,x1,x2,x3,x4=>by
  simp only [L21v1,← q21v1 m]
  kernel_rfl
def F21 (x0:Nat) (x1:FF) (x2:Nat) (x3:FF):Option (Int × Int × Int × Int) :=
 (L21v1 u x0 x1 x2 x3 u 0 0 0 0 0
  (fun x4 x5 x6 x7=>(some (x4,x5,x6,x7))))
theorem e21:evalF (C76 u) u A40 [.agg [(ro kP n0 f0),(ro kE n1 f1)]]=ob (F21 u n0 f0 n1 f1) fun t=>some [.agg [(vi t.1),(vi t.2.1),(vi t.2.2.1),(vi t.2.2.2)]]:=Eq.trans (b:=(loopH (eB A40v4 (C76 u) u) N21v1 u (s21v0 n0 n1 f0 f1 0 0 0 0 0) (kBlk 0 (kSeq (C76 u) u (4 :: 5 :: (rl 7 45 [])) A40v5 (finish A40))))) (by kernel_rfl) (by
 simp only [F21,ob_bif,ob_ob,ob_none,ob_some,nl21v1,q21v1]<;>kernel_rfl)
def O21:Ora:=mkO (q1 (ag (tc (cL kP) (t1 (cL kE))))) (fun x=>F21 u x.1.1 x.1.2 x.2.1 x.2.2) fun t=>[.agg [(vi t.1),(vi t.2.1),(vi t.2.2.1),(vi t.2.2.2)]]
theorem d21:DO (O21 u) (C76 u) 40 A40:=dO u (fun x=>by exact e21 u x.1.1 x.2.1 x.1.2 x.2.2)
def C77:Oracle:=(C76 u).add 40 (fun _=>true) (O21 u)
def B39:An tT Tryz.f39 [.g [0],.k (rl 0 4 (rl 5 24 []))]:=by
 apply Subtype.mk;cbv<;>exact rfl
def A39:AF:=B39.1
def F404 (u:Nat) (x0 x1 x2:Int):Option (Bool) :=
 (bif ((decide (x0≥(w64 (0-x2))))==true) then (bif ((decide (x0≤x2))==true) then (bif ((decide (x1≥(w64 (0-x2))))==true) then (some (decide (x1≤x2))) else (some false)) else (some false)) else (some false))
theorem e404:evalF (C77 u) u A39 [.agg [(vi i0),(vi i1)],.v (vi i2)]=ob (F404 u i0 i1 i2) fun t=>some [.v (.b t)]:=by
 simp only [F404,ob_bif,ob_ob,ob_none,ob_some]
 kernel_rfl
def O404:Ora:=mkO (qc (ag (tc ci (t1 ci))) (q1 (av ci))) (fun x=>F404 u x.1.1 x.1.2 x.2) fun t=>[.v (.b t)]
theorem d404:DO (O404 u) (C77 u) 39 A39:=dO u (fun x=>by exact e404 u x.1.1 x.1.2 x.2)
def C78:Oracle:=(C77 u).add 39 (fun _=>true) (O404 u)
def B29:An tT Tryz.f29 [.k (4 :: 5 :: (rl 10 10 [])),.g [0,1],.k (rl 0 4 (rl 6 45 [])),.k (4 :: 5 :: (rl 20 17 [])),.g [0,1],.k (rl 0 4 (rl 6 45 [])),.g [0,1],.k (rl 0 4 (rl 6 45 []))]:=by
 apply Subtype.mk;cbv<;>exact rfl
def A29:AF:=B29.1
def F405 (x0:Nat→CV) (x1:Int):Option (Int × Int) :=
 (ob (F21 u (x0 6).len (x0 6).el (x0 7).len (x0 7).el) fun x2=>(ob (F404 u x2.1 x2.2.1 1099511627776) fun x3=>(bif ((!x3)==false) then (ob (F404 u x2.2.2.1 x2.2.2.2 1099511627776) fun x4=>(bif (!x4) then (some (0,0)) else (bif ((Int.tmod x1 2) != 0) then (some ((w64 (x2.2.2.2-x2.2.1)),(w64 (x2.2.2.1-x2.1)))) else (some ((w64 (x2.2.2.1-x2.1)),(w64 (x2.2.2.2-x2.2.1))))))) else (some (0,0)))))
theorem e405:evalF (C78 u) u A29 [.agg (pj kR0 g0),.v (vi i0)]=ob (F405 u g0 i0) fun t=>some [.v (vi t.1),.v (vi t.2)]:=by
 simp only [F405,ob_bif,ob_ob,ob_none,ob_some]
 kernel_rfl
def O405:Ora:=mkO (qc (ar kR0) (q1 (av ci))) (fun x=>F405 u x.1 x.2) fun t=>[.v (vi t.1),.v (vi t.2)]
theorem d405:DO (O405 u) (C78 u) 29 A29:=dO u (fun x=>by exact e405 u x.2 x.1)
def C79:Oracle:=(C78 u).add 29 (fun _=>true) (O405 u)
def B61:An tT Tryz.f61 [.k (0 :: 1 :: (rl 3 6 []))]:=by
 apply Subtype.mk;cbv<;>exact rfl
def A61:AF:=B61.1
def F44 (u:Nat) (x0:Nat) (x1:FF) (x2:Nat) (x3:FF):Option (Nat × FF) :=
 (bif (Nat.ble (1+x2) 1073741824) then (some ((1+x2),(joinF 1 (rowsF 1 [(.ro false (.pr (.int .i64) (.pr (.int .i64) .nil)) x0 x1)]) x3))) else none)
theorem e44:evalF (C79 u) u A61 [.agg [(ro kP n0 f0),(ro kE n1 f1)]]=ob (F44 u n0 f0 n1 f1) fun t=>some [.v (ro kE t.1 t.2)]:=by
 simp only [F44,ob_bif,ob_ob,ob_none,ob_some]
 kernel_rfl
def O44:Ora:=mkO (q1 (ag (tc (cL kP) (t1 (cL kE))))) (fun x=>F44 u x.1.1 x.1.2 x.2.1 x.2.2) fun t=>[.v (ro kE t.1 t.2)]
theorem d44:DO (O44 u) (C79 u) 61 A61:=dO u (fun x=>by exact e44 u x.1.1 x.2.1 x.1.2 x.2.2)
def C80:Oracle:=(C79 u).add 61 (fun _=>true) (O44 u)
def B62:An tT Tryz.f62 [.k (0 :: 1 :: (rl 3 18 []))]:=by
 apply Subtype.mk;cbv<;>exact rfl
def A62:AF:=B62.1
def F53 (u:Nat) (x0 x1:Int):Option (Bool) :=
 (bif ((decide (x0<(-1099511627776)))==false) then (bif ((decide (x0>1099511627776))==false) then (bif ((decide (x1<(-1099511627776)))==false) then (some (decide (x1>1099511627776))) else (some true)) else (some true)) else (some true))
theorem e53:evalF (C80 u) u A62 [.agg [(vi i0),(vi i1)]]=ob (F53 u i0 i1) fun t=>some [.v (.b t)]:=by
 simp only [F53,ob_bif,ob_ob,ob_none,ob_some]
 kernel_rfl
def O53:Ora:=mkO (q1 (ag (tc ci (t1 ci)))) (fun x=>F53 u x.1 x.2) fun t=>[.v (.b t)]
theorem d53:DO (O53 u) (C80 u) 62 A62:=dO u (fun x=>by exact e53 u x.1 x.2)
def C81:Oracle:=(C80 u).add 62 (fun _=>true) (O53 u)
def B90:An tT Tryz.f90 [.k (rl 6 6 []),.k (5 :: (rl 12 12 [])),.h [],.k (0 :: 1 :: (rl 6 31 [])),.k (rl 12 4 []),.k (0 :: 1 :: (rl 5 32 [])),.k (rl 0 4 (rl 5 32 []))]:=by
 apply Subtype.mk;cbv<;>exact rfl
def A90:AF:=B90.1
def A90v4:AC:=sA A90.body [1,1]
def A90v3:AC:=sA A90v4 [1]
def A90v2:AC:=sA A90v4 [0,1,0,0]
def N32v1:St→Option St:=nN 3 (0 :: 1 :: (rl 6 31 []))
def s32v0:St:=⟨(.u :: .u :: .x (.ptr 0 0) :: .x (.ptr 1 0) :: .x (.ptr 2 0) :: vxi i0 :: (us 31 [])),[.box [(vci i1),(vci i2)],.box [(vcs w0),(vci i3),(vci i4),(vci i5),(vcb b0)],.box [(vci 0),(vci 0)]]⟩
def s32v1:St:=⟨(.u :: .u :: .x (.ptr 0 0) :: .x (.ptr 1 0) :: .x (.ptr 2 0) :: (us 32 [])),[.box [(vci i0),(vci i1)],.box [(vcs w0),(vci i2),(vci i3),(vci i4),(vcb b0)],.box [(vci 0),(vci 0)]]⟩
def L32v1 {ρ:Type} (u:Nat) (x0:ByteArray) (x1 x2 x3:Int) (x4:Bool):Nat→Int→Int→Int→(Int→Int→Option ρ)→Option ρ
 | 0,_,_,_,_=>none
 | m+1,x5,x6,x7,k0 =>
  (bif (decide (x5<x3)) then (L32v1 u x0 x1 x2 x3 x4 m (w64 (x5+1)) (w64 (0-x7)) x6 k0) else (k0 x6 x7))
theorem nl32v1:∀ (m:Nat) (x0 x1 x2:Int) (k0:Int→Int→Option ρ),ob (L32v1 u w0 i0 i1 i2 b0 m x0 x1 x2 k0) ng=L32v1 u w0 i0 i1 i2 b0 m x0 x1 x2 (fun x3 x4=>ob (k0 x3 x4) ng)
 | 0,_,_,_,_=>rfl
 | m+1,x0,x1,x2,k0=>by
  simp only [L32v1,ob_bif,ob_ob,ob_none,nl32v1 m]
theorem q32v1:∀ (m:Nat) (x0 x1 x2:Int),
  loopH (eB A90v2 (C81 u) u) N32v1 m (s32v0 x0 x1 x2 i0 i1 i2 b0 w0) k=L32v1 u w0 i0 i1 i2 b0 m x0 x1 x2 (fun x3 x4=>k (.exit 0) (s32v1 x3 x4 i0 i1 i2 b0 w0))
 | 0,_,_,_=>rfl
 | m+1,x0,x1,x2=>by
  simp only [L32v1,← q32v1 m]
  kernel_rfl
def F32 (x0 x1:Int) (x2:ByteArray) (x3 x4 x5:Int) (x6:Bool):Option (Int × Int) :=
 (bif x6 then (L32v1 u x2 x3 x4 x5 x6 u 0 (w64 (0-x0)) x1
  (fun x7 x8=>(some ((w64 (x7+x3)),(w64 (x8+x4)))))) else (L32v1 u x2 x3 x4 x5 x6 u 0 x0 x1
  (fun x9 xA=>(some ((w64 (x9+x3)),(w64 (xA+x4)))))))
theorem e32:evalF (C81 u) u A90 [.agg [(vi i0),(vi i1)],.agg [(.s w0),(vi i2),(vi i3),(vi i4),(.b b0)]]=ob (F32 u i0 i1 w0 i2 i3 i4 b0) fun t=>some [.agg [(vi t.1),(vi t.2)]]:=Eq.trans (b:=(bif b0 then (loopH (eB A90v2 (C81 u) u) N32v1 u (s32v0 0 (w64 (0-i0)) i1 i2 i3 i4 b0 w0) (kBlk 0 (kSeq (C81 u) u (5 :: (rl 12 12 [])) A90v3 (finish A90)))) else (loopH (eB A90v2 (C81 u) u) N32v1 u (s32v0 0 i0 i1 i2 i3 i4 b0 w0) (kBlk 0 (kSeq (C81 u) u (5 :: (rl 12 12 [])) A90v3 (finish A90)))))) (by kernel_rfl) (by
 simp only [F32,ob_bif,ob_ob,ob_none,ob_some,nl32v1,q32v1]<;>kernel_rfl)
def O32:Ora:=mkO (qc (ag (tc ci (t1 ci))) (q1 (ag (tc cS (tc ci (tc ci (tc ci (t1 cB)))))))) (fun x=>F32 u x.1.1 x.1.2 x.2.1 x.2.2.1 x.2.2.2.1 x.2.2.2.2.1 x.2.2.2.2.2) fun t=>[.agg [(vi t.1),(vi t.2)]]
theorem d32:DO (O32 u) (C81 u) 90 A90:=dO u (fun x=>by exact e32 u x.1.1 x.1.2 x.2.2.1 x.2.2.2.1 x.2.2.2.2.1 x.2.2.2.2.2 x.2.1)
def C82:Oracle:=(C81 u).add 90 (fun _=>true) (O32 u)
def B63:An tT Tryz.f63 [.k (rl 6 25 []),.h [.slot 5 kP],.k (1 :: 2 :: 4 :: (rl 7 25 [])),.k (rl 8 4 []),.k (rl 0 5 (rl 6 26 [])),.k (7 :: (rl 14 17 [])),.k (rl 15 7 []),.k (rl 0 4 (rl 5 27 []))]:=by
 apply Subtype.mk;cbv<;>exact rfl
def A63:AF:=B63.1
def A63v5:AC:=sA A63.body [1,1,1]
def A63v4:AC:=sA A63.body [1,1,0,1,0,0]
def N54v1:St→Option St:=nN 2 (1 :: 2 :: 4 :: (rl 7 25 []))
def s54v0:St:=⟨(.x (.c (ro kP n0 f0)) :: .u :: .u :: .x (.ptr 0 0) :: .u :: .x (.own 1 0 n1) :: vxi i0 :: (us 25 [])),[.box [(vcs w0),(vci i1),(vci i2),(vci i3),(vcb b0)],.arr kP n1 f1]⟩
def s54v1:St:=⟨(us 5 (.x (.own 1 0 n0) :: (us 26 []))),[.box [(vcs w0),(vci i0),(vci i1),(vci i2),(vcb b0)],.arr kP n0 f0]⟩
def L54v1 {ρ:Type} (u:Nat) (x0:Nat) (x1:FF) (x2:ByteArray) (x3 x4 x5:Int) (x6:Bool):Nat→Nat→Int→FF→(Nat→FF→Option ρ)→Option ρ
 | 0,_,_,_,_=>none
 | m+1,x7,x8,x9,k0 =>
  (bif (decide (x8<(Int.ofNat x0))) then (bif x6 then (bif (inb (w64 ((w64 ((Int.ofNat x0)-1))-x8)) x0) then (ob (F32 u (CV.int (x1 (Int.toNat (w64 ((w64 ((Int.ofNat x0)-1))-x8))) 0)) (CV.int (x1 (Int.toNat (w64 ((w64 ((Int.ofNat x0)-1))-x8))) 1)) x2 x3 x4 x5 x6) fun xA=>(bif (Nat.ble (x7+1) 1073741824) then (L54v1 u x0 x1 x2 x3 x4 x5 x6 m (x7+1) (w64 (x8+1)) (joinF x7 x9 (rowsF 2 [(.i .i64 xA.1),(.i .i64 xA.2)])) k0) else none)) else none) else (bif (inb x8 x0) then (ob (F32 u (x1 x8.toNat 0).int (x1 x8.toNat 1).int x2 x3 x4 x5 x6) fun xB=>(bif (Nat.ble (x7+1) 1073741824) then (L54v1 u x0 x1 x2 x3 x4 x5 x6 m (x7+1) (w64 (x8+1)) (joinF x7 x9 (rowsF 2 [(.i .i64 xB.1),(.i .i64 xB.2)])) k0) else none)) else none)) else (k0 x7 x9))
theorem nl54v1:∀ (m:Nat) (x0:Nat) (x1:Int) (x2:FF) (k0:Nat→FF→Option ρ),ob (L54v1 u n0 f0 w0 i0 i1 i2 b0 m x0 x1 x2 k0) ng=L54v1 u n0 f0 w0 i0 i1 i2 b0 m x0 x1 x2 (fun x3 x4=>ob (k0 x3 x4) ng)
 | 0,_,_,_,_=>rfl
 | m+1,x0,x1,x2,k0=>by
  simp only [L54v1,ob_bif,ob_ob,ob_none,nl54v1 m]
theorem q54v1:∀ (m:Nat) (x0:Nat) (x1:Int) (x2:FF),
  loopH (eB A63v4 (C82 u) u) N54v1 m (s54v0 n0 x0 f0 x2 x1 i0 i1 i2 b0 w0) k=L54v1 u n0 f0 w0 i0 i1 i2 b0 m x0 x1 x2 (fun x3 x4=>k (.exit 0) (s54v1 x3 x4 i0 i1 i2 b0 w0))
 | 0,_,_,_=>rfl
 | m+1,x0,x1,x2=>by
  simp only [L54v1,← q54v1 m]
  kernel_rfl
def F54 (x0:Nat) (x1:FF) (x2:ByteArray) (x3 x4 x5:Int) (x6:Bool):Option (Nat × FF) :=
 (L54v1 u x0 x1 x2 x3 x4 x5 x6 u 0 0 (fun _ _=>.any)
  (fun x7 x8=>(some (x7,x8))))
theorem e54:evalF (C82 u) u A63 [.v (ro kP n0 f0),.agg [(.s w0),(vi i0),(vi i1),(vi i2),(.b b0)]]=ob (F54 u n0 f0 w0 i0 i1 i2 b0) fun t=>some [.v (ro kP t.1 t.2)]:=Eq.trans (b:=(loopH (eB A63v4 (C82 u) u) N54v1 u (s54v0 n0 0 f0 nilF 0 i0 i1 i2 b0 w0) (kBlk 0 (kSeq (C82 u) u (rl 6 25 []) A63v5 (finish A63))))) (by kernel_rfl) (by
 simp only [F54,ob_bif,ob_ob,ob_none,ob_some,nl54v1,q54v1]<;>kernel_rfl)
def O54:Ora:=mkO (qc (av (cL kP)) (q1 (ag (tc cS (tc ci (tc ci (tc ci (t1 cB)))))))) (fun x=>F54 u x.1.1 x.1.2 x.2.1 x.2.2.1 x.2.2.2.1 x.2.2.2.2.1 x.2.2.2.2.2) fun t=>[.v (ro kP t.1 t.2)]
theorem d54:DO (O54 u) (C82 u) 63 A63:=dO u (fun x=>by exact e54 u x.1.1 x.1.2 x.2.2.1 x.2.2.2.1 x.2.2.2.2.1 x.2.2.2.2.2 x.2.1)
def C83:Oracle:=(C82 u).add 63 (fun _=>true) (O54 u)
def B41:An tT Tryz.f41 [.k (7 :: 8 :: (rl 26 26 [])),.h [],.k (0 :: 1 :: (rl 8 71 [])),.k (rl 26 4 []),.k (0 :: 1 :: 5 :: (rl 7 72 [])),.k (8 :: (rl 32 20 [])),.h [],.k (0 :: 1 :: (rl 9 70 [])),.k (rl 32 7 []),.k (0 :: 1 :: (rl 8 71 [])),.k [52,53],.k (rl 0 4 (rl 5 74 [])),.k (10 :: (rl 59 19 [])),.h [.cell 9 1 kE],.k (0 :: 1 :: (rl 5 4 (rl 11 68 []))),.k (rl 59 5 []),.k (rl 0 4 (rl 5 4 (rl 10 69 []))),.k (rl 0 4 (rl 5 74 []))]:=by
 apply Subtype.mk;cbv<;>exact rfl
def A41:AF:=B41.1
def A41v10:AC:=sA A41.body [1,1,1,1]
def A41v9:AC:=sA A41v10 [1]
def A41v8:AC:=sA A41v9 [1,1]
def A41v7:AC:=sA A41v9 [1,0,1,0,0]
def A41v5:AC:=sA A41.body [1,1,1,0,1,0,0]
def A41v4:AC:=sA A41v5 [1]
def A41v3:AC:=sA A41v4 [1]
def A41v2:AC:=sA A41v4 [0,0,1,0,0]
def N26v2:St→Option St:=nN 3 (0 :: 1 :: (rl 9 70 []))
def s26v0:St:=⟨(.u :: .u :: .x (.ptr 0 0) :: .x (.ptr 1 0) :: .x (.ptr 2 0) :: .x (.c (ro kE n0 f0)) :: vxb b0 :: vxi i0 :: vxi i1 :: (us 70 [])),[.box [(.c (ro kP n1 f1)),(.c (ro kE n2 f2))],.box [(vcs w0),(vci i2),(vci i3),(vci i4),(vcb b1)],.box [(vcn),(vcn)]]⟩
def s26v1:St:=⟨(.u :: .u :: .x (.ptr 0 0) :: .x (.ptr 1 0) :: .x (.ptr 2 0) :: .x (.c (ro kE n0 f0)) :: vxb b0 :: vxi i0 :: (us 71 [])),[.box [(.c (ro kP n1 f1)),(.c (ro kE n2 f2))],.box [(vcs w0),(vci i1),(vci i2),(vci i3),(vcb b1)],.box [(vcn),(vcn)]]⟩
def L26v2 {ρ:Type} (u:Nat) (x0:Nat) (x1:FF) (x2:Int) (x3:Nat) (x4:FF) (x5:Nat) (x6:FF) (x7:ByteArray) (x8 x9 xA:Int) (xB:Bool):Nat→Bool→Int→(Bool→Option ρ)→Option ρ
 | 0,_,_,_=>none
 | m+1,xC,xD,k0 =>
  (bif (inb x2 x0) then (bif (decide (xD<(Int.ofNat (x1 x2.toNat 0).len))) then (bif (xC==false) then (bif (inb x2 x0) then (bif (inb xD (x1 x2.toNat 0).len) then (ob (F53 u ((x1 x2.toNat 0).el xD.toNat 0).int ((x1 x2.toNat 0).el xD.toNat 1).int) fun xE=>(L26v2 u x0 x1 x2 x3 x4 x5 x6 x7 x8 x9 xA xB m xE (w64 (xD+1)) k0)) else none) else none) else (L26v2 u x0 x1 x2 x3 x4 x5 x6 x7 x8 x9 xA xB m true (w64 (xD+1)) k0)) else (k0 xC)) else none)
theorem nl26v2:∀ (m:Nat) (x0:Bool) (x1:Int) (k0:Bool→Option ρ),ob (L26v2 u n0 f0 i0 n1 f1 n2 f2 w0 i1 i2 i3 b0 m x0 x1 k0) ng=L26v2 u n0 f0 i0 n1 f1 n2 f2 w0 i1 i2 i3 b0 m x0 x1 (fun x2=>ob (k0 x2) ng)
 | 0,_,_,_=>rfl
 | m+1,x0,x1,k0=>by
  simp only [L26v2,ob_bif,ob_ob,ob_none,nl26v2 m]
theorem q26v2:∀ (m:Nat) (x0:Bool) (x1:Int),
  loopH (eB A41v2 (C83 u) u) N26v2 m (s26v0 n0 n1 n2 f0 f1 f2 i0 x1 i1 i2 i3 x0 b0 w0) k=L26v2 u n0 f0 i0 n1 f1 n2 f2 w0 i1 i2 i3 b0 m x0 x1 (fun x2=>k (.exit 2) (s26v1 n0 n1 n2 f0 f1 f2 i0 i1 i2 i3 x2 b0 w0))
 | 0,_,_=>rfl
 | m+1,x0,x1=>by
  simp only [L26v2,← q26v2 m]
  kernel_rfl
def N26v3:St→Option St:=nN 3 (0 :: 1 :: (rl 8 71 []))
def s26v2:St:=⟨(.u :: .u :: .x (.ptr 0 0) :: .x (.ptr 1 0) :: .x (.ptr 2 0) :: .x (.c (ro kE n0 f0)) :: vxb b0 :: vxi i0 :: (us 71 [])),[.box [(.c (ro kP n1 f1)),(.c (ro kE n2 f2))],.box [(vcs w0),(vci i1),(vci i2),(vci i3),(vcb b1)],.box [(vcn),(vcn)]]⟩
def s26v3:St:=⟨(.u :: .u :: .x (.ptr 0 0) :: .x (.ptr 1 0) :: .x (.ptr 2 0) :: .u :: vxb b0 :: (us 72 [])),[.box [(.c (ro kP n0 f0)),(.c (ro kE n1 f1))],.box [(vcs w0),(vci i0),(vci i1),(vci i2),(vcb b1)],.box [(vcn),(vcn)]]⟩
def L26v3 {ρ:Type} (u:Nat) (x0:Nat) (x1:FF) (x2:Nat) (x3:FF) (x4:Nat) (x5:FF) (x6:ByteArray) (x7 x8 x9:Int) (xA:Bool):Nat→Bool→Int→(Bool→Option ρ)→Option ρ
 | 0,_,_,_=>none
 | m+1,xB,xC,k0 =>
  (bif (decide (xC<(Int.ofNat x0))) then (L26v2 u x0 x1 xC x2 x3 x4 x5 x6 x7 x8 x9 xA u xB 0
  (fun xD=>(L26v3 u x0 x1 x2 x3 x4 x5 x6 x7 x8 x9 xA m xD (w64 (xC+1)) k0))) else (k0 xB))
theorem nl26v3:∀ (m:Nat) (x0:Bool) (x1:Int) (k0:Bool→Option ρ),ob (L26v3 u n0 f0 n1 f1 n2 f2 w0 i0 i1 i2 b0 m x0 x1 k0) ng=L26v3 u n0 f0 n1 f1 n2 f2 w0 i0 i1 i2 b0 m x0 x1 (fun x2=>ob (k0 x2) ng)
 | 0,_,_,_=>rfl
 | m+1,x0,x1,k0=>by
  simp only [L26v3,ob_bif,ob_ob,ob_none,nl26v3 m,nl26v2]
theorem r26v3 :
  loopH (eB A41v5 (C83 u) u) N26v3 (m+1) (s26v2 n0 n1 n2 f0 f1 f2 i3 i0 i1 i2 b1 b0 w0) k =
  (bif (decide (i3<(Int.ofNat n0))) then (loopH (eB A41v2 (C83 u) u) N26v2 u (s26v0 n0 n1 n2 f0 f1 f2 i3 0 i0 i1 i2 b1 b0 w0) (kBlk 2 (kBlk 1 (kSeq (C83 u) u (8 :: (rl 32 20 [])) A41v3 (kLoop (eB A41v5 (C83 u) u) N26v3 m k))))) else (k (.exit 0) (s26v3 n1 n2 f1 f2 i0 i1 i2 b1 b0 w0))):=by kernel_rfl
theorem g26v1 :
  (kBlk 2 (kBlk 1 (kSeq (C83 u) u (8 :: (rl 32 20 [])) A41v3 (kLoop (eB A41v5 (C83 u) u) N26v3 m k)))) (.exit 2) (s26v1 n0 n1 n2 f0 f1 f2 i0 i1 i2 i3 b0 b1 w0) =
  (loopH (eB A41v5 (C83 u) u) N26v3 m (s26v2 n0 n1 n2 f0 f1 f2 (w64 (i0+1)) i1 i2 i3 b0 b1 w0) k):=by kernel_rfl
theorem q26v3:∀ (m:Nat) (x0:Bool) (x1:Int),
  loopH (eB A41v5 (C83 u) u) N26v3 m (s26v2 n0 n1 n2 f0 f1 f2 x1 i0 i1 i2 x0 b0 w0) k=L26v3 u n0 f0 n1 f1 n2 f2 w0 i0 i1 i2 b0 m x0 x1 (fun x2=>k (.exit 0) (s26v3 n1 n2 f1 f2 i0 i1 i2 x2 b0 w0))
 | 0,_,_=>rfl
 | m+1,x0,x1=>by
  rw [r26v3]
  simp only [L26v3,q26v3 m,q26v2,g26v1]
def N26v4:St→Option St:=nN 5 (0 :: 1 :: (rl 5 4 (rl 11 68 [])))
def s26v4:St:=⟨(.u :: .u :: .x (.ptr 0 0) :: .x (.ptr 1 0) :: .x (.ptr 2 0) :: (us 4 (.x (.ptr 3 0) :: vxi i0 :: (us 68 [])))),[.box [(.c (ro kP n0 f0)),(.c (ro kE n1 f1))],.box [(vcs w0),(vci i1),(vci i2),(vci i3),(vcb b0)],.box [(vcn),(vcn)],.box [(.c (ro kP n2 f2)),(.own 4 0 n3)],.arr kE n3 f3]⟩
def s26v5:St:=⟨(us 4 (.x (.ptr 2 0) :: (us 4 (.x (.ptr 3 0) :: (us 69 []))))),[.box [(.c (ro kP n0 f0)),(.c (ro kE n1 f1))],.box [(vcs w0),(vci i0),(vci i1),(vci i2),(vcb b0)],.box [(vcn),(vcn)],.box [(.c (ro kP n2 f2)),(.own 4 0 n3)],.arr kE n3 f3]⟩
def L26v4 {ρ:Type} (u:Nat) (x0:Nat) (x1:FF) (x2:Nat) (x3:FF) (x4:ByteArray) (x5 x6 x7:Int) (x8:Bool) (x9:Nat) (xA:FF):Nat→Int→Nat→FF→(Nat→FF→Option ρ)→Option ρ
 | 0,_,_,_,_=>none
 | m+1,xB,xC,xD,k0 =>
  (bif (decide (xB<(Int.ofNat x2))) then (bif (inb xB x2) then (ob (F54 u (x3 xB.toNat 0).len (x3 xB.toNat 0).el x4 x5 x6 x7 x8) fun xE=>(bif (Nat.ble (xC+1) 1073741824) then (L26v4 u x0 x1 x2 x3 x4 x5 x6 x7 x8 x9 xA m (w64 (xB+1)) (xC+1) (joinF xC xD (rowsF 1 [(.ro false (.pr (.int .i64) (.pr (.int .i64) .nil)) xE.1 xE.2)])) k0) else none)) else none) else (k0 xC xD))
theorem nl26v4:∀ (m:Nat) (x0:Int) (x1:Nat) (x2:FF) (k0:Nat→FF→Option ρ),ob (L26v4 u n0 f0 n1 f1 w0 i0 i1 i2 b0 n2 f2 m x0 x1 x2 k0) ng=L26v4 u n0 f0 n1 f1 w0 i0 i1 i2 b0 n2 f2 m x0 x1 x2 (fun x3 x4=>ob (k0 x3 x4) ng)
 | 0,_,_,_,_=>rfl
 | m+1,x0,x1,x2,k0=>by
  simp only [L26v4,ob_bif,ob_ob,ob_none,nl26v4 m]
theorem q26v4:∀ (m:Nat) (x0:Int) (x1:Nat) (x2:FF),
  loopH (eB A41v7 (C83 u) u) N26v4 m (s26v4 n0 n1 n2 x1 f0 f1 f2 x2 x0 i0 i1 i2 b0 w0) k=L26v4 u n0 f0 n1 f1 w0 i0 i1 i2 b0 n2 f2 m x0 x1 x2 (fun x3 x4=>k (.exit 4) (s26v5 n0 n1 n2 x3 f0 f1 f2 x4 i0 i1 i2 b0 w0))
 | 0,_,_,_=>rfl
 | m+1,x0,x1,x2=>by
  simp only [L26v4,← q26v4 m]
  kernel_rfl
def N26v6:St→Option St:=nN 3 (0 :: 1 :: (rl 9 70 []))
def s26v6:St:=⟨(.u :: .u :: .x (.ptr 0 0) :: .x (.ptr 1 0) :: .x (.ptr 2 0) :: .x (.c (ro kE n0 f0)) :: vxb true :: vxi i0 :: vxi i1 :: (us 70 [])),[.box [(.c (ro kP n1 f1)),(.c (ro kE n2 f2))],.box [(vcs w0),(vci i2),(vci i3),(vci i4),(vcb b0)],.box [(vcn),(vcn)]]⟩
def s26v7:St:=⟨(.u :: .u :: .x (.ptr 0 0) :: .x (.ptr 1 0) :: .x (.ptr 2 0) :: .x (.c (ro kE n0 f0)) :: vxb true :: vxi i0 :: (us 71 [])),[.box [(.c (ro kP n1 f1)),(.c (ro kE n2 f2))],.box [(vcs w0),(vci i1),(vci i2),(vci i3),(vcb b0)],.box [(vcn),(vcn)]]⟩
def L26v6 {ρ:Type} (u:Nat) (x0:Nat) (x1:FF) (x2:Int) (x3:Nat) (x4:FF) (x5:Nat) (x6:FF) (x7:ByteArray) (x8 x9 xA:Int) (xB:Bool):Nat→Int→(Option ρ)→Option ρ
 | 0,_,_=>none
 | m+1,xC,k0 =>
  (bif (inb x2 x0) then (bif (decide (xC<(Int.ofNat (x1 x2.toNat 0).len))) then (L26v6 u x0 x1 x2 x3 x4 x5 x6 x7 x8 x9 xA xB m (w64 (xC+1)) k0) else k0) else none)
theorem nl26v6:∀ (m:Nat) (x0:Int) (k0:Option ρ),ob (L26v6 u n0 f0 i0 n1 f1 n2 f2 w0 i1 i2 i3 b0 m x0 k0) ng=L26v6 u n0 f0 i0 n1 f1 n2 f2 w0 i1 i2 i3 b0 m x0 (ob k0 ng)
 | 0,_,_=>rfl
 | m+1,x0,k0=>by
  simp only [L26v6,ob_bif,ob_ob,ob_none,nl26v6 m]
theorem q26v6:∀ (m:Nat) (x0:Int),
  loopH (eB A41v2 (C83 u) u) N26v6 m (s26v6 n0 n1 n2 f0 f1 f2 i0 x0 i1 i2 i3 b0 w0) k=L26v6 u n0 f0 i0 n1 f1 n2 f2 w0 i1 i2 i3 b0 m x0 (k (.exit 2) (s26v7 n0 n1 n2 f0 f1 f2 i0 i1 i2 i3 b0 w0))
 | 0,_=>rfl
 | m+1,x0=>by
  simp only [L26v6,← q26v6 m]
  kernel_rfl
def N26v7:St→Option St:=nN 3 (0 :: 1 :: (rl 8 71 []))
def s26v8:St:=⟨(.u :: .u :: .x (.ptr 0 0) :: .x (.ptr 1 0) :: .x (.ptr 2 0) :: .x (.c (ro kE n0 f0)) :: vxb true :: vxi i0 :: (us 71 [])),[.box [(.c (ro kP n1 f1)),(.c (ro kE n2 f2))],.box [(vcs w0),(vci i1),(vci i2),(vci i3),(vcb b0)],.box [(vcn),(vcn)]]⟩
def s26v9:St:=⟨(.u :: .u :: .x (.ptr 0 0) :: .x (.ptr 1 0) :: .x (.ptr 2 0) :: .u :: vxb true :: (us 72 [])),[.box [(.c (ro kP n0 f0)),(.c (ro kE n1 f1))],.box [(vcs w0),(vci i0),(vci i1),(vci i2),(vcb b0)],.box [(vcn),(vcn)]]⟩
def L26v7 {ρ:Type} (u:Nat) (x0:Nat) (x1:FF) (x2:Nat) (x3:FF) (x4:Nat) (x5:FF) (x6:ByteArray) (x7 x8 x9:Int) (xA:Bool):Nat→Int→(Option ρ)→Option ρ
 | 0,_,_=>none
 | m+1,xB,k0 =>
  (bif (decide (xB<(Int.ofNat x0))) then (L26v6 u x0 x1 xB x2 x3 x4 x5 x6 x7 x8 x9 xA u 0
  (L26v7 u x0 x1 x2 x3 x4 x5 x6 x7 x8 x9 xA m (w64 (xB+1)) k0)) else k0)
theorem nl26v7:∀ (m:Nat) (x0:Int) (k0:Option ρ),ob (L26v7 u n0 f0 n1 f1 n2 f2 w0 i0 i1 i2 b0 m x0 k0) ng=L26v7 u n0 f0 n1 f1 n2 f2 w0 i0 i1 i2 b0 m x0 (ob k0 ng)
 | 0,_,_=>rfl
 | m+1,x0,k0=>by
  simp only [L26v7,ob_bif,ob_ob,ob_none,nl26v7 m,nl26v6]
theorem r26v7 :
  loopH (eB A41v5 (C83 u) u) N26v7 (m+1) (s26v8 n0 n1 n2 f0 f1 f2 i3 i0 i1 i2 b0 w0) k =
  (bif (decide (i3<(Int.ofNat n0))) then (loopH (eB A41v2 (C83 u) u) N26v6 u (s26v6 n0 n1 n2 f0 f1 f2 i3 0 i0 i1 i2 b0 w0) (kBlk 2 (kBlk 1 (kSeq (C83 u) u (8 :: (rl 32 20 [])) A41v3 (kLoop (eB A41v5 (C83 u) u) N26v7 m k))))) else (k (.exit 0) (s26v9 n1 n2 f1 f2 i0 i1 i2 b0 w0))):=by kernel_rfl
theorem g26v2 :
  (kBlk 2 (kBlk 1 (kSeq (C83 u) u (8 :: (rl 32 20 [])) A41v3 (kLoop (eB A41v5 (C83 u) u) N26v7 m k)))) (.exit 2) (s26v7 n0 n1 n2 f0 f1 f2 i0 i1 i2 i3 b0 w0) =
  (loopH (eB A41v5 (C83 u) u) N26v7 m (s26v8 n0 n1 n2 f0 f1 f2 (w64 (i0+1)) i1 i2 i3 b0 w0) k):=by kernel_rfl
theorem q26v7:∀ (m:Nat) (x0:Int),
  loopH (eB A41v5 (C83 u) u) N26v7 m (s26v8 n0 n1 n2 f0 f1 f2 x0 i0 i1 i2 b0 w0) k=L26v7 u n0 f0 n1 f1 n2 f2 w0 i0 i1 i2 b0 m x0 (k (.exit 0) (s26v9 n1 n2 f1 f2 i0 i1 i2 b0 w0))
 | 0,_=>rfl
 | m+1,x0=>by
  rw [r26v7]
  simp only [L26v7,q26v7 m,q26v6,g26v2]
def FT26 (x0:Nat) (x1:FF) (x2:Nat) (x3:FF) (x4:ByteArray) (x5 x6 x7:Int) (x8:Bool):Option (Bool × Nat × FF × Nat × FF) :=
 (ob (F44 u x0 x1 x2 x3) fun x9=>(bif ((decide (x7<0))==false) then (bif ((decide (x7>3))==false) then (ob (F53 u x5 x6) fun xA=>(L26v3 u x9.1 x9.2 x0 x1 x2 x3 x4 x5 x6 x7 x8 u xA 0
  (fun xB=>(bif xB then (some (true,0,(fun _ _=>.any),0,(fun _ _=>.any))) else (ob (F54 u x0 x1 x4 x5 x6 x7 x8) fun xC=>(L26v4 u x0 x1 x2 x3 x4 x5 x6 x7 x8 xC.1 xC.2 u 0 0 (fun _ _=>.any)
  (fun xD xE=>(some (false,xC.1,xC.2,xD,xE))))))))) else (L26v7 u x9.1 x9.2 x0 x1 x2 x3 x4 x5 x6 x7 x8 u 0
  (some (true,0,(fun _ _=>.any),0,(fun _ _=>.any))))) else (L26v7 u x9.1 x9.2 x0 x1 x2 x3 x4 x5 x6 x7 x8 u 0
  (some (true,0,(fun _ _=>.any),0,(fun _ _=>.any))))))
theorem g26v3 :
  (kBlk 0 (kSeq (C83 u) u (7 :: 8 :: (rl 26 26 [])) A41v10 (finish A41))) (.exit 0) (s26v3 n0 n1 f0 f1 i0 i1 i2 b0 b1 w0) =
  (bif b0 then (some [.agg [(.ro true kP 0 nilF),(.ro true kE 0 nilF)]]) else (ob (F54 u n0 f0 w0 i0 i1 i2 b1) fun x0=>(loopH (eB A41v7 (C83 u) u) N26v4 u (s26v4 n0 n1 x0.1 0 f0 f1 x0.2 nilF 0 i0 i1 i2 b1 w0) (kBlk 4 (kSeq (C83 u) u (10 :: (rl 59 19 [])) A41v8 (finish A41)))))):=by kernel_rfl
theorem e26:evalF (C83 u) u A41 [.agg [(ro kP n0 f0),(ro kE n1 f1)],.agg [(.s w0),(vi i0),(vi i1),(vi i2),(.b b0)]]=ob (FT26 u n0 f0 n1 f1 w0 i0 i1 i2 b0) fun t=>some (bif t.1 then [.agg [(.ro true kP 0 nilF),(.ro true kE 0 nilF)]] else [.agg [(ro kP t.2.1 t.2.2.1),(ro kE t.2.2.2.1 t.2.2.2.2)]]):=Eq.trans (b:=(ob (F44 u n0 f0 n1 f1) fun x0=>(bif ((decide (i2<0))==false) then (bif ((decide (i2>3))==false) then (ob (F53 u i0 i1) fun x1=>(loopH (eB A41v5 (C83 u) u) N26v3 u (s26v2 x0.1 n0 n1 x0.2 f0 f1 0 i0 i1 i2 x1 b0 w0) (kBlk 0 (kSeq (C83 u) u (7 :: 8 :: (rl 26 26 [])) A41v10 (finish A41))))) else (loopH (eB A41v5 (C83 u) u) N26v7 u (s26v8 x0.1 n0 n1 x0.2 f0 f1 0 i0 i1 i2 b0 w0) (kBlk 0 (kSeq (C83 u) u (7 :: 8 :: (rl 26 26 [])) A41v10 (finish A41))))) else (loopH (eB A41v5 (C83 u) u) N26v7 u (s26v8 x0.1 n0 n1 x0.2 f0 f1 0 i0 i1 i2 b0 w0) (kBlk 0 (kSeq (C83 u) u (7 :: 8 :: (rl 26 26 [])) A41v10 (finish A41))))))) (by kernel_rfl) (by
 simp only [FT26,ob_bif,ob_ob,ob_none,ob_some,nl26v3,nl26v4,nl26v7,q26v3,g26v3,q26v4,q26v7,cond_true,cond_false]<;>kernel_rfl)
def F26 (x0:Nat) (x1:FF) (x2:Nat) (x3:FF) (x4:ByteArray) (x5 x6 x7:Int) (x8:Bool):Option (Nat × FF × Nat × FF):=ob (FT26 u x0 x1 x2 x3 x4 x5 x6 x7 x8) fun t=>some (bif t.1 then (0,(fun _ _=>.any),0,(fun _ _=>.any)) else (t.2.1,t.2.2.1,t.2.2.2.1,t.2.2.2.2))
def O26:Ora:=mkO (qc (ag (tc (cL kP) (t1 (cL kE)))) (q1 (ag (tc cS (tc ci (tc ci (tc ci (t1 cB)))))))) (fun x=>F26 u x.1.1.1 x.1.1.2 x.1.2.1 x.1.2.2 x.2.1 x.2.2.1 x.2.2.2.1 x.2.2.2.2.1 x.2.2.2.2.2) fun t=>[.agg [(ro kP t.1 t.2.1),(ro kE t.2.2.1 t.2.2.2)]]
theorem d26:DO (O26 u) (C83 u) 41 A41:=dW u (fun x=>by exact e26 u x.1.1.1 x.1.2.1 x.1.1.2 x.1.2.2 x.2.2.1 x.2.2.2.1 x.2.2.2.2.1 x.2.2.2.2.2 x.2.1) (fun _=>rfl) fun t=>by
 obtain ⟨b,t⟩:=t
 cases b with
 | true=>exact (.cons (WkA.agg (.cons (Wk.ro (by rfl)) (.cons (Wk.ro (by rfl)) .nil))) .nil)
 | false =>
  exact (.cons (WkA.agg (.cons (Wk.refl _) (.cons (Wk.refl _) .nil))) .nil)
def C84:Oracle:=(C83 u).add 41 (fun _=>true) (O26 u)
def B30:An tT Tryz.f30 [.g [0,1,3,4],.k (rl 0 6 (rl 8 28 []))]:=by
 apply Subtype.mk;cbv<;>exact rfl
def A30:AF:=B30.1
def F410 (x0:Nat→CV) (x1 x2 x3:Int):Option (ByteArray × Int × Int × Int × Bool × Bool) :=
 (ob (F26 u (x0 6).len (x0 6).el (x0 7).len (x0 7).el ByteArray.empty 0 0 x3 false) fun x4=>(ob (F21 u x4.1 x4.2.1 x4.2.2.1 x4.2.2.2) fun x5=>(ob (F404 u (w64 (x1-x5.1)) (w64 (x2-x5.2.1)) 32768) fun x6=>(some ((x0 0).str,(w64 (x1-x5.1)),(w64 (x2-x5.2.1)),x3,false,x6)))))
theorem e410:evalF (C84 u) u A30 [.agg (pj kR0 g0),.agg [(vi i0),(vi i1)],.v (vi i2)]=ob (F410 u g0 i0 i1 i2) fun t=>some [.agg [(.s t.1),(vi t.2.1),(vi t.2.2.1),(vi t.2.2.2.1),(.b t.2.2.2.2.1)],.v (.b t.2.2.2.2.2)]:=by
 simp only [F410,ob_bif,ob_ob,ob_none,ob_some]
 kernel_rfl
def O410:Ora:=mkO (qc (ar kR0) (qc (ag (tc ci (t1 ci))) (q1 (av ci)))) (fun x=>F410 u x.1 x.2.1.1 x.2.1.2 x.2.2) fun t=>[.agg [(.s t.1),(vi t.2.1),(vi t.2.2.1),(vi t.2.2.2.1),(.b t.2.2.2.2.1)],.v (.b t.2.2.2.2.2)]
theorem d410:DO (O410 u) (C84 u) 30 A30:=dO u (fun x=>by exact e410 u x.2.1.1 x.2.1.2 x.2.2 x.1)
def C85:Oracle:=(C84 u).add 30 (fun _=>true) (O410 u)
def B42:An tT Tryz.f42 [.k (14 :: (rl 18 32 [])),.g [0],.k (rl 0 14 (rl 15 129 [])),.k (14 :: (rl 50 30 [])),.g [0],.k (rl 0 14 (rl 15 129 [])),.k (14 :: 16 :: 17 :: (rl 82 62 [])),.h [],.k (0 :: 1 :: 3 :: (rl 6 4 (rl 11 4 (rl 17 127 [])))),.k (rl 82 4 []),.g [0],.k (rl 0 144 []),.k (14 :: 17 :: (rl 88 56 [])),.k (14 :: (rl 92 10 [])),.g [0,1],.k (rl 0 14 (rl 15 129 [])),.g [0,1],.k (rl 0 14 (rl 15 129 [])),.g [0],.k (rl 0 14 (rl 15 129 []))]:=by
 apply Subtype.mk;cbv<;>exact rfl
def A42:AF:=B42.1
def A42v7:AC:=sA A42.body [1,1]
def A42v6:AC:=sA A42v7 [1]
def A42v5:AC:=sA A42v6 [1,1]
def A42v4:AC:=sA A42v6 [1,0,1,0,0]
def N406v1:St→Option St:=nN 1 (0 :: 1 :: 3 :: (rl 6 4 (rl 11 4 (rl 17 127 []))))
def s406v0:St:=⟨(.u :: .u :: .x (.c (ro kD n0 f0)) :: .u :: vxi i0 :: vxi i1 :: (us 4 (.x (.ptr 0 0) :: (us 4 (vxi i2 :: vxi i3 :: (us 127 [])))))),[.box [(vci i4),(vci i5)]]⟩
def s406v1:St:=⟨(us 14 (vxb false :: (us 129 []))),[.dead,.dead]⟩
def s406v2:St:=⟨(us 144 []),[.dead]⟩
def L406v1 {ρ:Type} (u:Nat) (x0:Nat) (x1:FF) (x2 x3 x4 x5 x6:Int):Nat→Int→(Option ρ)→(Option ρ)→Option ρ
 | 0,_,_,_=>none
 | m+1,x7,k0,k1 =>
  (bif (decide (x7<(Int.ofNat x0))) then (bif (inb x7 x0) then (ob (F404 u (x1 x7.toNat 0).int (x1 x7.toNat 1).int 1099511627776) fun x8=>(bif ((!x8)==false) then (ob (F404 u (x1 x7.toNat 2).int (x1 x7.toNat 3).int 1099511627776) fun x9=>(bif (!x9) then k0 else (bif ((decide (x5<(w64 ((x1 x7.toNat 2).int+x4))))==true) then (bif ((decide ((w64 ((w64 (x5+x2))+x4))>(x1 x7.toNat 0).int))==true) then (bif ((decide (x6<(w64 ((x1 x7.toNat 3).int+x4))))==true) then (bif (decide ((w64 ((w64 (x6+x3))+x4))>(x1 x7.toNat 1).int)) then k0 else (L406v1 u x0 x1 x2 x3 x4 x5 x6 m (w64 (x7+1)) k0 k1)) else (L406v1 u x0 x1 x2 x3 x4 x5 x6 m (w64 (x7+1)) k0 k1)) else (L406v1 u x0 x1 x2 x3 x4 x5 x6 m (w64 (x7+1)) k0 k1)) else (L406v1 u x0 x1 x2 x3 x4 x5 x6 m (w64 (x7+1)) k0 k1)))) else k0)) else none) else k1)
theorem nl406v1:∀ (m:Nat) (x0:Int) (k0:Option ρ) (k1:Option ρ),ob (L406v1 u n0 f0 i0 i1 i2 i3 i4 m x0 k0 k1) ng=L406v1 u n0 f0 i0 i1 i2 i3 i4 m x0 (ob k0 ng) (ob k1 ng)
 | 0,_,_,_=>rfl
 | m+1,x0,k0,k1=>by
  simp only [L406v1,ob_bif,ob_ob,ob_none,nl406v1 m]
theorem q406v1:∀ (m:Nat) (x0:Int),
  loopH (eB A42v4 (C85 u) u) N406v1 m (s406v0 n0 f0 i0 i1 i2 x0 i3 i4) k=L406v1 u n0 f0 i0 i1 i2 i3 i4 m x0 (k .ret s406v1) (k (.exit 0) s406v2)
 | 0,_=>rfl
 | m+1,x0=>by
  simp only [L406v1,← q406v1 m]
  kernel_rfl
def F406 (x0 x1:Int) (x2:Nat) (x3:FF) (x4 x5 x6 x7 x8:Int):Option (Bool) :=
 (bif ((decide ((if x8<(if x1<x0 then x1 else x0) then x8 else (if x1<x0 then x1 else x0))<0))==false) then (bif ((decide ((if x1>x0 then x1 else x0)>32768))==false) then (bif ((decide (x8>500))==false) then (bif ((decide ((if x7<x6 then x7 else x6)<1))==false) then (bif ((decide ((if x7>x6 then x7 else x6)>32768))==false) then (ob (F404 u x4 x5 32768) fun x9=>(bif (!x9) then (some false) else (bif ((decide (x4<x8))==false) then (bif ((decide (x5<x8))==false) then (bif ((decide ((w64 (x4+x6))>(w64 (x0-x8))))==false) then (bif (decide ((w64 (x5+x7))>(w64 (x1-x8)))) then (some false) else (L406v1 u x2 x3 x6 x7 (if 1>x8 then 1 else x8) x4 x5 u 0
  (some false)
  (some true))) else (some false)) else (some false)) else (some false)))) else (some false)) else (some false)) else (some false)) else (some false)) else (some false))
theorem e406:evalF (C85 u) u A42 [.v (vi i0),.v (vi i1),.v (ro kD n0 f0),.agg [(vi i2),(vi i3)],.v (vi i4),.v (vi i5),.v (vi i6)]=ob (F406 u i0 i1 n0 f0 i2 i3 i4 i5 i6) fun t=>some [.v (.b t)]:=Eq.trans (b:=(bif ((decide ((if i6<(if i1<i0 then i1 else i0) then i6 else (if i1<i0 then i1 else i0))<0))==false) then (bif ((decide ((if i1>i0 then i1 else i0)>32768))==false) then (bif ((decide (i6>500))==false) then (bif ((decide ((if i5<i4 then i5 else i4)<1))==false) then (bif ((decide ((if i5>i4 then i5 else i4)>32768))==false) then (ob (F404 u i2 i3 32768) fun x0=>(bif (!x0) then (some [.v (.b false)]) else (bif ((decide (i2<i6))==false) then (bif ((decide (i3<i6))==false) then (bif ((decide ((w64 (i2+i4))>(w64 (i0-i6))))==false) then (bif (decide ((w64 (i3+i5))>(w64 (i1-i6)))) then (some [.v (.b false)]) else (loopH (eB A42v4 (C85 u) u) N406v1 u (s406v0 n0 f0 i4 i5 (if 1>i6 then 1 else i6) 0 i2 i3) (kBlk 0 (kSeq (C85 u) u (14 :: 16 :: 17 :: (rl 82 62 [])) A42v5 (finish A42))))) else (some [.v (.b false)])) else (some [.v (.b false)])) else (some [.v (.b false)])))) else (some [.v (.b false)])) else (some [.v (.b false)])) else (some [.v (.b false)])) else (some [.v (.b false)])) else (some [.v (.b false)]))) (by kernel_rfl) (by
 simp only [F406,ob_bif,ob_ob,ob_none,ob_some,nl406v1,q406v1]<;>kernel_rfl)
def O406:Ora:=mkO (qc (av ci) (qc (av ci) (qc (av (cL kD)) (qc (ag (tc ci (t1 ci))) (qc (av ci) (qc (av ci) (q1 (av ci)))))))) (fun x=>F406 u x.1 x.2.1 x.2.2.1.1 x.2.2.1.2 x.2.2.2.1.1 x.2.2.2.1.2 x.2.2.2.2.1 x.2.2.2.2.2.1 x.2.2.2.2.2.2) fun t=>[.v (.b t)]
theorem d406:DO (O406 u) (C85 u) 42 A42:=dO u (fun x=>by exact e406 u x.2.2.1.1 x.2.2.1.2 x.1 x.2.1 x.2.2.2.1.1 x.2.2.2.1.2 x.2.2.2.2.1 x.2.2.2.2.2.1 x.2.2.2.2.2.2)
def C86:Oracle:=(C85 u).add 42 (fun _=>true) (O406 u)
def B28:An tT Tryz.f28 [.k (rl 17 5 (rl 31 83 [])),.h [],.k (0 :: 2 :: 6 :: 8 :: 9 :: 11 :: (rl 18 98 [])),.k (rl 31 4 []),.g [0,1],.k (rl 0 10 (rl 11 4 (rl 17 99 []))),.k (rl 18 4 (rl 37 77 [])),.h [],.k (0 :: 2 :: 6 :: 8 :: 9 :: 11 :: (rl 19 97 [])),.k (rl 37 4 []),.k (0 :: 2 :: 6 :: 8 :: 9 :: 11 :: (rl 18 98 [])),.k (19 :: 20 :: 21 :: (rl 43 71 [])),.k (rl 46 11 []),.k (rl 57 11 []),.g [0,1,3],.k (rl 0 10 (rl 12 104 []))]:=by
 apply Subtype.mk;cbv<;>exact rfl
def A28:AF:=B28.1
def A28v9:AC:=sA A28.body [1,1,1,1,1]
def A28v8:AC:=sA A28.body [1,1,1,1,0,1,0,0]
def A28v7:AC:=sA A28v8 [1]
def A28v6:AC:=sA A28v7 [1]
def A28v5:AC:=sA A28v7 [0,0,1,0,0]
def N411v2:St→Option St:=nN 4 (0 :: 2 :: 6 :: 8 :: 9 :: 11 :: (rl 19 97 []))
def s411v0:St:=⟨(.u :: .x (.c (ro kD n0 f0)) :: .u :: vxi i0 :: vxi i1 :: .x (.ptr 0 0) :: .u :: .x (.ptr 1 0) :: .u :: .u :: .x (.ptr 2 0) :: .u :: vxi i2 :: vxi i3 :: vxi i4 :: .x (.ptr 3 0) :: vxb b0 :: vxi i5 :: vxi i6 :: (us 97 [])),[.box [(vcs w0),(vcs w1),(vci i7),(vci i8),(vci i9),(vcs w2)],.box (pjc kR0 g0),.box [(vci 0),(vci 0)],.box [(vci iA),(vci iB)]]⟩
def s411v1:St:=⟨(.u :: .x (.c (ro kD n0 f0)) :: .u :: vxi i0 :: vxi i1 :: .x (.ptr 0 0) :: .u :: .x (.ptr 1 0) :: .u :: .u :: .x (.ptr 2 0) :: .u :: vxi i2 :: vxi i3 :: vxi i4 :: .x (.ptr 3 0) :: vxb b0 :: vxi i5 :: (us 98 [])),[.box [(vcs w0),(vcs w1),(vci i6),(vci i7),(vci i8),(vcs w2)],.box (pjc kR0 g0),.box [(vci 0),(vci 0)],.box [(vci i9),(vci iA)]]⟩
def L411v2 {ρ:Type} (u:Nat) (x0:Nat) (x1:FF) (x2 x3 x4 x5 x6 x7:Int) (x8 x9:ByteArray) (xA xB xC:Int) (xD:ByteArray) (xE:Nat→CV):Nat→Bool→Int→Int→Int→(Bool→Int→Int→Option ρ)→Option ρ
 | 0,_,_,_,_,_=>none
 | m+1,xF,xG,xH,xI,k0 =>
  (bif (decide (xG<(Int.ofNat x0))) then (bif (decide (x7≥0)) then (bif (inb x7 x0) then (bif (decide (xG≥0)) then (bif (inb xG x0) then (ob (F410 u (listF (pj kR0 xE)) (w64 ((x1 xG.toNat 2).int+x6)) (w64 ((x1 x7.toNat 3).int+x6)) x2) fun xJ=>(bif (xJ.2.2.2.2.2==true) then (ob (F406 u xB xC x0 x1 (w64 ((x1 xG.toNat 2).int+x6)) (w64 ((x1 x7.toNat 3).int+x6)) x4 x5 x3) fun xK=>(bif (xK==true) then (bif ((!xF)==false) then (bif ((decide ((w64 ((x1 x7.toNat 3).int+x6))<xI))==false) then (bif (((w64 ((x1 x7.toNat 3).int+x6))==xI)==true) then (bif (decide ((w64 ((x1 xG.toNat 2).int+x6))<xH)) then (L411v2 u x0 x1 x2 x3 x4 x5 x6 x7 x8 x9 xA xB xC xD xE m true (w64 (xG+1)) (w64 ((x1 xG.toNat 2).int+x6)) (w64 ((x1 x7.toNat 3).int+x6)) k0) else (L411v2 u x0 x1 x2 x3 x4 x5 x6 x7 x8 x9 xA xB xC xD xE m xF (w64 (xG+1)) xH xI k0)) else (L411v2 u x0 x1 x2 x3 x4 x5 x6 x7 x8 x9 xA xB xC xD xE m xF (w64 (xG+1)) xH xI k0)) else (L411v2 u x0 x1 x2 x3 x4 x5 x6 x7 x8 x9 xA xB xC xD xE m true (w64 (xG+1)) (w64 ((x1 xG.toNat 2).int+x6)) (w64 ((x1 x7.toNat 3).int+x6)) k0)) else (L411v2 u x0 x1 x2 x3 x4 x5 x6 x7 x8 x9 xA xB xC xD xE m true (w64 (xG+1)) (w64 ((x1 xG.toNat 2).int+x6)) (w64 ((x1 x7.toNat 3).int+x6)) k0)) else (L411v2 u x0 x1 x2 x3 x4 x5 x6 x7 x8 x9 xA xB xC xD xE m xF (w64 (xG+1)) xH xI k0))) else (L411v2 u x0 x1 x2 x3 x4 x5 x6 x7 x8 x9 xA xB xC xD xE m xF (w64 (xG+1)) xH xI k0))) else none) else (ob (F410 u (listF (pj kR0 xE)) x3 (w64 ((x1 x7.toNat 3).int+x6)) x2) fun xL=>(bif (xL.2.2.2.2.2==true) then (ob (F406 u xB xC x0 x1 x3 (w64 ((x1 x7.toNat 3).int+x6)) x4 x5 x3) fun xM=>(bif (xM==true) then (bif ((!xF)==false) then (bif ((decide ((w64 ((x1 x7.toNat 3).int+x6))<xI))==false) then (bif (((w64 ((x1 x7.toNat 3).int+x6))==xI)==true) then (bif (decide (x3<xH)) then (L411v2 u x0 x1 x2 x3 x4 x5 x6 x7 x8 x9 xA xB xC xD xE m true (w64 (xG+1)) x3 (w64 ((x1 x7.toNat 3).int+x6)) k0) else (L411v2 u x0 x1 x2 x3 x4 x5 x6 x7 x8 x9 xA xB xC xD xE m xF (w64 (xG+1)) xH xI k0)) else (L411v2 u x0 x1 x2 x3 x4 x5 x6 x7 x8 x9 xA xB xC xD xE m xF (w64 (xG+1)) xH xI k0)) else (L411v2 u x0 x1 x2 x3 x4 x5 x6 x7 x8 x9 xA xB xC xD xE m true (w64 (xG+1)) x3 (w64 ((x1 x7.toNat 3).int+x6)) k0)) else (L411v2 u x0 x1 x2 x3 x4 x5 x6 x7 x8 x9 xA xB xC xD xE m true (w64 (xG+1)) x3 (w64 ((x1 x7.toNat 3).int+x6)) k0)) else (L411v2 u x0 x1 x2 x3 x4 x5 x6 x7 x8 x9 xA xB xC xD xE m xF (w64 (xG+1)) xH xI k0))) else (L411v2 u x0 x1 x2 x3 x4 x5 x6 x7 x8 x9 xA xB xC xD xE m xF (w64 (xG+1)) xH xI k0)))) else none) else (bif (decide (xG≥0)) then (bif (inb xG x0) then (ob (F410 u (listF (pj kR0 xE)) (w64 ((x1 xG.toNat 2).int+x6)) x3 x2) fun xN=>(bif (xN.2.2.2.2.2==true) then (ob (F406 u xB xC x0 x1 (w64 ((x1 xG.toNat 2).int+x6)) x3 x4 x5 x3) fun xO=>(bif (xO==true) then (bif ((!xF)==false) then (bif ((decide (x3<xI))==false) then (bif ((x3==xI)==true) then (bif (decide ((w64 ((x1 xG.toNat 2).int+x6))<xH)) then (L411v2 u x0 x1 x2 x3 x4 x5 x6 x7 x8 x9 xA xB xC xD xE m true (w64 (xG+1)) (w64 ((x1 xG.toNat 2).int+x6)) x3 k0) else (L411v2 u x0 x1 x2 x3 x4 x5 x6 x7 x8 x9 xA xB xC xD xE m xF (w64 (xG+1)) xH xI k0)) else (L411v2 u x0 x1 x2 x3 x4 x5 x6 x7 x8 x9 xA xB xC xD xE m xF (w64 (xG+1)) xH xI k0)) else (L411v2 u x0 x1 x2 x3 x4 x5 x6 x7 x8 x9 xA xB xC xD xE m true (w64 (xG+1)) (w64 ((x1 xG.toNat 2).int+x6)) x3 k0)) else (L411v2 u x0 x1 x2 x3 x4 x5 x6 x7 x8 x9 xA xB xC xD xE m true (w64 (xG+1)) (w64 ((x1 xG.toNat 2).int+x6)) x3 k0)) else (L411v2 u x0 x1 x2 x3 x4 x5 x6 x7 x8 x9 xA xB xC xD xE m xF (w64 (xG+1)) xH xI k0))) else (L411v2 u x0 x1 x2 x3 x4 x5 x6 x7 x8 x9 xA xB xC xD xE m xF (w64 (xG+1)) xH xI k0))) else none) else (ob (F410 u (listF (pj kR0 xE)) x3 x3 x2) fun xP=>(bif (xP.2.2.2.2.2==true) then (ob (F406 u xB xC x0 x1 x3 x3 x4 x5 x3) fun xQ=>(bif (xQ==true) then (bif ((!xF)==false) then (bif ((decide (x3<xI))==false) then (bif ((x3==xI)==true) then (bif (decide (x3<xH)) then (L411v2 u x0 x1 x2 x3 x4 x5 x6 x7 x8 x9 xA xB xC xD xE m true (w64 (xG+1)) x3 x3 k0) else (L411v2 u x0 x1 x2 x3 x4 x5 x6 x7 x8 x9 xA xB xC xD xE m xF (w64 (xG+1)) xH xI k0)) else (L411v2 u x0 x1 x2 x3 x4 x5 x6 x7 x8 x9 xA xB xC xD xE m xF (w64 (xG+1)) xH xI k0)) else (L411v2 u x0 x1 x2 x3 x4 x5 x6 x7 x8 x9 xA xB xC xD xE m true (w64 (xG+1)) x3 x3 k0)) else (L411v2 u x0 x1 x2 x3 x4 x5 x6 x7 x8 x9 xA xB xC xD xE m true (w64 (xG+1)) x3 x3 k0)) else (L411v2 u x0 x1 x2 x3 x4 x5 x6 x7 x8 x9 xA xB xC xD xE m xF (w64 (xG+1)) xH xI k0))) else (L411v2 u x0 x1 x2 x3 x4 x5 x6 x7 x8 x9 xA xB xC xD xE m xF (w64 (xG+1)) xH xI k0))))) else (k0 xF xH xI))
theorem nl411v2:∀ (m:Nat) (x0:Bool) (x1 x2 x3:Int) (k0:Bool→Int→Int→Option ρ),ob (L411v2 u n0 f0 i0 i1 i2 i3 i4 i5 w0 w1 i6 i7 i8 w2 g0 m x0 x1 x2 x3 k0) ng=L411v2 u n0 f0 i0 i1 i2 i3 i4 i5 w0 w1 i6 i7 i8 w2 g0 m x0 x1 x2 x3 (fun x4 x5 x6=>ob (k0 x4 x5 x6) ng)
 | 0,_,_,_,_,_=>rfl
 | m+1,x0,x1,x2,x3,k0=>by
  simp only [L411v2,ob_bif,ob_ob,ob_none,nl411v2 m]
theorem q411v2:∀ (m:Nat) (x0:Bool) (x1 x2 x3:Int),
  loopH (eB A28v5 (C86 u) u) N411v2 m (s411v0 n0 f0 i0 i1 i2 i3 i4 i5 x1 i6 i7 i8 x2 x3 x0 w0 w1 w2 g0) k=L411v2 u n0 f0 i0 i1 i2 i3 i4 i5 w0 w1 i6 i7 i8 w2 g0 m x0 x1 x2 x3 (fun x4 x5 x6=>k (.exit 2) (s411v1 n0 f0 i0 i1 i2 i3 i4 i5 i6 i7 i8 x5 x6 x4 w0 w1 w2 g0))
 | 0,_,_,_,_=>rfl
 | m+1,x0,x1,x2,x3=>by
  simp only [L411v2,← q411v2 m]
  kernel_rfl
def N411v3:St→Option St:=nN 4 (0 :: 2 :: 6 :: 8 :: 9 :: 11 :: (rl 18 98 []))
def s411v2:St:=⟨(.u :: .x (.c (ro kD n0 f0)) :: .u :: vxi i0 :: vxi i1 :: .x (.ptr 0 0) :: .u :: .x (.ptr 1 0) :: .u :: .u :: .x (.ptr 2 0) :: .u :: vxi i2 :: vxi i3 :: vxi i4 :: .x (.ptr 3 0) :: vxb b0 :: vxi i5 :: (us 98 [])),[.box [(vcs w0),(vcs w1),(vci i6),(vci i7),(vci i8),(vcs w2)],.box (pjc kR0 g0),.box [(vci 0),(vci 0)],.box [(vci i9),(vci iA)]]⟩
def s411v3:St:=⟨(us 10 (.x (.ptr 2 0) :: (us 4 (.x (.ptr 3 0) :: vxb b0 :: (us 99 []))))),[.dead,.dead,.box [(vci 0),(vci 0)],.box [(vci i0),(vci i1)]]⟩
def L411v3 {ρ:Type} (u:Nat) (x0:Nat) (x1:FF) (x2 x3 x4 x5 x6:Int) (x7 x8:ByteArray) (x9 xA xB:Int) (xC:ByteArray) (xD:Nat→CV):Nat→Bool→Int→Int→Int→(Bool→Int→Int→Option ρ)→Option ρ
 | 0,_,_,_,_,_=>none
 | m+1,xE,xF,xG,xH,k0 =>
  (bif (decide (xF<(Int.ofNat x0))) then (L411v2 u x0 x1 x2 x3 x4 x5 x6 xF x7 x8 x9 xA xB xC xD u xE (-1) xG xH
  (fun xI xJ xK=>(L411v3 u x0 x1 x2 x3 x4 x5 x6 x7 x8 x9 xA xB xC xD m xI (w64 (xF+1)) xJ xK k0))) else (k0 xE xG xH))
theorem nl411v3:∀ (m:Nat) (x0:Bool) (x1 x2 x3:Int) (k0:Bool→Int→Int→Option ρ),ob (L411v3 u n0 f0 i0 i1 i2 i3 i4 w0 w1 i5 i6 i7 w2 g0 m x0 x1 x2 x3 k0) ng=L411v3 u n0 f0 i0 i1 i2 i3 i4 w0 w1 i5 i6 i7 w2 g0 m x0 x1 x2 x3 (fun x4 x5 x6=>ob (k0 x4 x5 x6) ng)
 | 0,_,_,_,_,_=>rfl
 | m+1,x0,x1,x2,x3,k0=>by
  simp only [L411v3,ob_bif,ob_ob,ob_none,nl411v3 m,nl411v2]
theorem r411v3 :
  loopH (eB A28v8 (C86 u) u) N411v3 (m+1) (s411v2 n0 f0 i0 i1 i2 i3 i4 i8 i5 i6 i7 i9 iA b0 w0 w1 w2 g0) k =
  (bif (decide (i8<(Int.ofNat n0))) then (loopH (eB A28v5 (C86 u) u) N411v2 u (s411v0 n0 f0 i0 i1 i2 i3 i4 i8 (-1) i5 i6 i7 i9 iA b0 w0 w1 w2 g0) (kBlk 2 (kBlk 1 (kSeq (C86 u) u (rl 18 4 (rl 37 77 [])) A28v6 (kLoop (eB A28v8 (C86 u) u) N411v3 m k))))) else (k (.exit 0) (s411v3 i9 iA b0))):=by kernel_rfl
theorem g411v1 :
  (kBlk 2 (kBlk 1 (kSeq (C86 u) u (rl 18 4 (rl 37 77 [])) A28v6 (kLoop (eB A28v8 (C86 u) u) N411v3 m k)))) (.exit 2) (s411v1 n0 f0 i0 i1 i2 i3 i4 i5 i6 i7 i8 i9 iA b0 w0 w1 w2 g0) =
  (loopH (eB A28v8 (C86 u) u) N411v3 m (s411v2 n0 f0 i0 i1 i2 i3 i4 (w64 (i5+1)) i6 i7 i8 i9 iA b0 w0 w1 w2 g0) k):=by kernel_rfl
theorem q411v3:∀ (m:Nat) (x0:Bool) (x1 x2 x3:Int),
  loopH (eB A28v8 (C86 u) u) N411v3 m (s411v2 n0 f0 i0 i1 i2 i3 i4 x1 i5 i6 i7 x2 x3 x0 w0 w1 w2 g0) k=L411v3 u n0 f0 i0 i1 i2 i3 i4 w0 w1 i5 i6 i7 w2 g0 m x0 x1 x2 x3 (fun x4 x5 x6=>k (.exit 0) (s411v3 x5 x6 x4))
 | 0,_,_,_,_=>rfl
 | m+1,x0,x1,x2,x3=>by
  rw [r411v3]
  simp only [L411v3,q411v3 m,q411v2,g411v1]
def F411 (x0 x1:ByteArray) (x2 x3 x4:Int) (x5:ByteArray) (x6:Nat) (x7:FF) (x8:Nat→CV) (x9 xA:Int):Option (Int × Int × Bool) :=
 (ob (F405 u (listF (pj kR0 x8)) x9) fun xB=>(L411v3 u x6 x7 x9 xA xB.1 xB.2 (if 1>xA then 1 else xA) x0 x1 x2 x3 x4 x5 x8 u false (-1) 0 0
  (fun xC xD xE=>(some (xD,xE,xC)))))
theorem e411:evalF (C86 u) u A28 [.agg [(.s w0),(.s w1),(vi i0),(vi i1),(vi i2),(.s w2)],.v (ro kD n0 f0),.agg (pj kR0 g0),.v (vi i3),.v (vi i4)]=ob (F411 u w0 w1 i0 i1 i2 w2 n0 f0 g0 i3 i4) fun t=>some [.agg [(vi t.1),(vi t.2.1)],.v (.b t.2.2)]:=Eq.trans (b:=(ob (F405 u (listF (pj kR0 g0)) i3) fun x0=>(loopH (eB A28v8 (C86 u) u) N411v3 u (s411v2 n0 f0 i3 i4 x0.1 x0.2 (if 1>i4 then 1 else i4) (-1) i0 i1 i2 0 0 false w0 w1 w2 g0) (kBlk 0 (kSeq (C86 u) u (rl 17 5 (rl 31 83 [])) A28v9 (finish A28)))))) (by kernel_rfl) (by
 simp only [F411,ob_bif,ob_ob,ob_none,ob_some,nl411v3,q411v3]<;>kernel_rfl)
def O411:Ora:=mkO (qc (ag (tc cS (tc cS (tc ci (tc ci (tc ci (t1 cS))))))) (qc (av (cL kD)) (qc (ar kR0) (qc (av ci) (q1 (av ci)))))) (fun x=>F411 u x.1.1 x.1.2.1 x.1.2.2.1 x.1.2.2.2.1 x.1.2.2.2.2.1 x.1.2.2.2.2.2 x.2.1.1 x.2.1.2 x.2.2.1 x.2.2.2.1 x.2.2.2.2) fun t=>[.agg [(vi t.1),(vi t.2.1)],.v (.b t.2.2)]
theorem d411:DO (O411 u) (C86 u) 28 A28:=dO u (fun x=>by exact e411 u x.2.1.1 x.2.1.2 x.1.2.2.1 x.1.2.2.2.1 x.1.2.2.2.2.1 x.2.2.2.1 x.2.2.2.2 x.1.1 x.1.2.1 x.1.2.2.2.2.2 x.2.2.1)
def C87:Oracle:=(C86 u).add 28 (fun _=>true) (O411 u)
def B11:An tT Tryz.f11 [.k (rl 24 7 []),.g [0,2],.k (rl 0 6 (rl 7 134 [])),.k (8 :: (rl 10 10 (rl 34 106 []))),.h [.slot 8 kD,.cell 7 2 kB],.k (0 :: 1 :: 4 :: 5 :: (rl 11 130 [])),.k (rl 34 10 []),.g [0,3],.k (rl 0 6 (rl 8 133 [])),.k (rl 11 9 (rl 46 94 [])),.k (rl 68 6 []),.g [5,6],.k (0 :: 1 :: 4 :: 5 :: (rl 11 130 [])),.k (rl 74 27 []),.g [0,2,3],.k (rl 0 6 (rl 7 134 []))]:=by
 apply Subtype.mk;cbv<;>exact rfl
def A11:AF:=B11.1
def A11v7:AC:=sA A11.body [1,1,1]
def A11v6:AC:=sA A11v7 [1,1,1]
def A11v5:AC:=sA A11v7 [1,1,0,1,0,0]
def A11v4:AC:=sA A11v5 [1]
def A11v3:AC:=sA A11v4 [1]
def A11v2:AC:=sA A11v4 [0,0,1,1,1]
def A11v1:AC:=sA A11v2 [1,1]
def N412v1:St→Option St:=nN 5 (0 :: 1 :: 4 :: 5 :: (rl 11 130 []))
def s412v0:St:=⟨(.u :: .u :: vxi i0 :: .x (.ptr 0 0) :: .u :: .u :: .x (.ptr 1 0) :: .x (.ptr 2 0) :: .x (.own 3 0 n0) :: .x (.c (ro kA n1 f0)) :: vxi i1 :: (us 130 [])),[.box [(vcs w0),(vcs w1),(vci i2),(vci i3),(vci i4),(vcs w2)],.box [(vcs ByteArray.empty),(vci 0),(vcn)],.box [(vcs w0),(vci i0),(.own 4 0 n0)],.arr kD n0 f1,.arr kB n0 f2]⟩
def s412v1:St:=⟨(us 6 (.x (.ptr 1 0) :: .x (.ptr 2 0) :: (us 133 []))),[.dead,.box [(vcs ByteArray.empty),(vci 0),(vcn)],.box [(vcs w0),(vci i0),(.own 4 0 n0)],.dead,.arr kB n0 f0]⟩
def L412v1 {ρ:Type} (u:Nat) (x0:Int) (x1:Nat) (x2:FF) (x3 x4:ByteArray) (x5 x6 x7:Int) (x8:ByteArray):Nat→Nat→Int→FF→FF→(Nat→FF→Option ρ)→Option ρ
 | 0,_,_,_,_,_=>none
 | m+1,x9,xA,xB,xC,k0 =>
  (bif ((decide (xA<(Int.ofNat x1)))==true) then (bif (decide ((Int.ofNat x9)<32)) then (bif (inb xA x1) then (ob (F411 u x3 x4 x5 x6 x7 x8 x9 xB (listF (pj kR0 (x2 xA.toNat))) 0 x0) fun xD=>(bif (inb xA x1) then (ob (F411 u x3 x4 x5 x6 x7 x8 x9 xB (listF (pj kR0 (x2 xA.toNat))) 1 x0) fun xE=>(bif ((!xD.2.2)==true) then (bif (!xE.2.2) then (L412v1 u x0 x1 x2 x3 x4 x5 x6 x7 x8 m x9 (w64 (xA+1)) xB xC k0) else (bif ((!xD.2.2)==false) then (bif (xE.2.2==true) then (bif ((decide (xE.2.1<xD.2.1))==false) then (bif ((xE.2.1==xD.2.1)==true) then (bif (decide (xE.1<xD.1)) then (bif (inb xA x1) then (ob (F405 u (listF (pj kR0 (x2 xA.toNat))) 1) fun xF=>(bif (inb xA x1) then (ob (F410 u (listF (pj kR0 (x2 xA.toNat))) xE.1 xE.2.1 1) fun xG=>(bif (Nat.ble (x9+1) 1073741824) then (bif (Nat.ble (x9+1) 1073741824) then (L412v1 u x0 x1 x2 x3 x4 x5 x6 x7 x8 m (x9+1) (w64 (xA+1)) (joinF x9 xB (rowsF 4 [(.i .i64 xE.1),(.i .i64 xE.2.1),(.i .i64 (w64 (xE.1+xF.1))),(.i .i64 (w64 (xE.2.1+xF.2)))])) (joinF x9 xC (rowsF 5 [(.s xG.1),(.i .i64 xG.2.1),(.i .i64 xG.2.2.1),(.i .i64 xG.2.2.2.1),(.b xG.2.2.2.2.1)])) k0) else none) else none)) else none)) else none) else (bif (inb xA x1) then (ob (F405 u (listF (pj kR0 (x2 xA.toNat))) 0) fun xH=>(bif (inb xA x1) then (ob (F410 u (listF (pj kR0 (x2 xA.toNat))) xD.1 xD.2.1 0) fun xI=>(bif (Nat.ble (x9+1) 1073741824) then (bif (Nat.ble (x9+1) 1073741824) then (L412v1 u x0 x1 x2 x3 x4 x5 x6 x7 x8 m (x9+1) (w64 (xA+1)) (joinF x9 xB (rowsF 4 [(.i .i64 xD.1),(.i .i64 xD.2.1),(.i .i64 (w64 (xD.1+xH.1))),(.i .i64 (w64 (xD.2.1+xH.2)))])) (joinF x9 xC (rowsF 5 [(.s xI.1),(.i .i64 xI.2.1),(.i .i64 xI.2.2.1),(.i .i64 xI.2.2.2.1),(.b xI.2.2.2.2.1)])) k0) else none) else none)) else none)) else none)) else (bif (inb xA x1) then (ob (F405 u (listF (pj kR0 (x2 xA.toNat))) 0) fun xJ=>(bif (inb xA x1) then (ob (F410 u (listF (pj kR0 (x2 xA.toNat))) xD.1 xD.2.1 0) fun xK=>(bif (Nat.ble (x9+1) 1073741824) then (bif (Nat.ble (x9+1) 1073741824) then (L412v1 u x0 x1 x2 x3 x4 x5 x6 x7 x8 m (x9+1) (w64 (xA+1)) (joinF x9 xB (rowsF 4 [(.i .i64 xD.1),(.i .i64 xD.2.1),(.i .i64 (w64 (xD.1+xJ.1))),(.i .i64 (w64 (xD.2.1+xJ.2)))])) (joinF x9 xC (rowsF 5 [(.s xK.1),(.i .i64 xK.2.1),(.i .i64 xK.2.2.1),(.i .i64 xK.2.2.2.1),(.b xK.2.2.2.2.1)])) k0) else none) else none)) else none)) else none)) else (bif (inb xA x1) then (ob (F405 u (listF (pj kR0 (x2 xA.toNat))) 1) fun xL=>(bif (inb xA x1) then (ob (F410 u (listF (pj kR0 (x2 xA.toNat))) xE.1 xE.2.1 1) fun xM=>(bif (Nat.ble (x9+1) 1073741824) then (bif (Nat.ble (x9+1) 1073741824) then (L412v1 u x0 x1 x2 x3 x4 x5 x6 x7 x8 m (x9+1) (w64 (xA+1)) (joinF x9 xB (rowsF 4 [(.i .i64 xE.1),(.i .i64 xE.2.1),(.i .i64 (w64 (xE.1+xL.1))),(.i .i64 (w64 (xE.2.1+xL.2)))])) (joinF x9 xC (rowsF 5 [(.s xM.1),(.i .i64 xM.2.1),(.i .i64 xM.2.2.1),(.i .i64 xM.2.2.2.1),(.b xM.2.2.2.2.1)])) k0) else none) else none)) else none)) else none)) else (bif (inb xA x1) then (ob (F405 u (listF (pj kR0 (x2 xA.toNat))) 0) fun xN=>(bif (inb xA x1) then (ob (F410 u (listF (pj kR0 (x2 xA.toNat))) xD.1 xD.2.1 0) fun xO=>(bif (Nat.ble (x9+1) 1073741824) then (bif (Nat.ble (x9+1) 1073741824) then (L412v1 u x0 x1 x2 x3 x4 x5 x6 x7 x8 m (x9+1) (w64 (xA+1)) (joinF x9 xB (rowsF 4 [(.i .i64 xD.1),(.i .i64 xD.2.1),(.i .i64 (w64 (xD.1+xN.1))),(.i .i64 (w64 (xD.2.1+xN.2)))])) (joinF x9 xC (rowsF 5 [(.s xO.1),(.i .i64 xO.2.1),(.i .i64 xO.2.2.1),(.i .i64 xO.2.2.2.1),(.b xO.2.2.2.2.1)])) k0) else none) else none)) else none)) else none)) else (bif (inb xA x1) then (ob (F405 u (listF (pj kR0 (x2 xA.toNat))) 1) fun xP=>(bif (inb xA x1) then (ob (F410 u (listF (pj kR0 (x2 xA.toNat))) xE.1 xE.2.1 1) fun xQ=>(bif (Nat.ble (x9+1) 1073741824) then (bif (Nat.ble (x9+1) 1073741824) then (L412v1 u x0 x1 x2 x3 x4 x5 x6 x7 x8 m (x9+1) (w64 (xA+1)) (joinF x9 xB (rowsF 4 [(.i .i64 xE.1),(.i .i64 xE.2.1),(.i .i64 (w64 (xE.1+xP.1))),(.i .i64 (w64 (xE.2.1+xP.2)))])) (joinF x9 xC (rowsF 5 [(.s xQ.1),(.i .i64 xQ.2.1),(.i .i64 xQ.2.2.1),(.i .i64 xQ.2.2.2.1),(.b xQ.2.2.2.2.1)])) k0) else none) else none)) else none)) else none))) else (bif ((!xD.2.2)==false) then (bif (xE.2.2==true) then (bif ((decide (xE.2.1<xD.2.1))==false) then (bif ((xE.2.1==xD.2.1)==true) then (bif (decide (xE.1<xD.1)) then (bif (inb xA x1) then (ob (F405 u (listF (pj kR0 (x2 xA.toNat))) 1) fun xR=>(bif (inb xA x1) then (ob (F410 u (listF (pj kR0 (x2 xA.toNat))) xE.1 xE.2.1 1) fun xS=>(bif (Nat.ble (x9+1) 1073741824) then (bif (Nat.ble (x9+1) 1073741824) then (L412v1 u x0 x1 x2 x3 x4 x5 x6 x7 x8 m (x9+1) (w64 (xA+1)) (joinF x9 xB (rowsF 4 [(.i .i64 xE.1),(.i .i64 xE.2.1),(.i .i64 (w64 (xE.1+xR.1))),(.i .i64 (w64 (xE.2.1+xR.2)))])) (joinF x9 xC (rowsF 5 [(.s xS.1),(.i .i64 xS.2.1),(.i .i64 xS.2.2.1),(.i .i64 xS.2.2.2.1),(.b xS.2.2.2.2.1)])) k0) else none) else none)) else none)) else none) else (bif (inb xA x1) then (ob (F405 u (listF (pj kR0 (x2 xA.toNat))) 0) fun xT=>(bif (inb xA x1) then (ob (F410 u (listF (pj kR0 (x2 xA.toNat))) xD.1 xD.2.1 0) fun xU=>(bif (Nat.ble (x9+1) 1073741824) then (bif (Nat.ble (x9+1) 1073741824) then (L412v1 u x0 x1 x2 x3 x4 x5 x6 x7 x8 m (x9+1) (w64 (xA+1)) (joinF x9 xB (rowsF 4 [(.i .i64 xD.1),(.i .i64 xD.2.1),(.i .i64 (w64 (xD.1+xT.1))),(.i .i64 (w64 (xD.2.1+xT.2)))])) (joinF x9 xC (rowsF 5 [(.s xU.1),(.i .i64 xU.2.1),(.i .i64 xU.2.2.1),(.i .i64 xU.2.2.2.1),(.b xU.2.2.2.2.1)])) k0) else none) else none)) else none)) else none)) else (bif (inb xA x1) then (ob (F405 u (listF (pj kR0 (x2 xA.toNat))) 0) fun xV=>(bif (inb xA x1) then (ob (F410 u (listF (pj kR0 (x2 xA.toNat))) xD.1 xD.2.1 0) fun xW=>(bif (Nat.ble (x9+1) 1073741824) then (bif (Nat.ble (x9+1) 1073741824) then (L412v1 u x0 x1 x2 x3 x4 x5 x6 x7 x8 m (x9+1) (w64 (xA+1)) (joinF x9 xB (rowsF 4 [(.i .i64 xD.1),(.i .i64 xD.2.1),(.i .i64 (w64 (xD.1+xV.1))),(.i .i64 (w64 (xD.2.1+xV.2)))])) (joinF x9 xC (rowsF 5 [(.s xW.1),(.i .i64 xW.2.1),(.i .i64 xW.2.2.1),(.i .i64 xW.2.2.2.1),(.b xW.2.2.2.2.1)])) k0) else none) else none)) else none)) else none)) else (bif (inb xA x1) then (ob (F405 u (listF (pj kR0 (x2 xA.toNat))) 1) fun xX=>(bif (inb xA x1) then (ob (F410 u (listF (pj kR0 (x2 xA.toNat))) xE.1 xE.2.1 1) fun xY=>(bif (Nat.ble (x9+1) 1073741824) then (bif (Nat.ble (x9+1) 1073741824) then (L412v1 u x0 x1 x2 x3 x4 x5 x6 x7 x8 m (x9+1) (w64 (xA+1)) (joinF x9 xB (rowsF 4 [(.i .i64 xE.1),(.i .i64 xE.2.1),(.i .i64 (w64 (xE.1+xX.1))),(.i .i64 (w64 (xE.2.1+xX.2)))])) (joinF x9 xC (rowsF 5 [(.s xY.1),(.i .i64 xY.2.1),(.i .i64 xY.2.2.1),(.i .i64 xY.2.2.2.1),(.b xY.2.2.2.2.1)])) k0) else none) else none)) else none)) else none)) else (bif (inb xA x1) then (ob (F405 u (listF (pj kR0 (x2 xA.toNat))) 0) fun xZ=>(bif (inb xA x1) then (ob (F410 u (listF (pj kR0 (x2 xA.toNat))) xD.1 xD.2.1 0) fun xa=>(bif (Nat.ble (x9+1) 1073741824) then (bif (Nat.ble (x9+1) 1073741824) then (L412v1 u x0 x1 x2 x3 x4 x5 x6 x7 x8 m (x9+1) (w64 (xA+1)) (joinF x9 xB (rowsF 4 [(.i .i64 xD.1),(.i .i64 xD.2.1),(.i .i64 (w64 (xD.1+xZ.1))),(.i .i64 (w64 (xD.2.1+xZ.2)))])) (joinF x9 xC (rowsF 5 [(.s xa.1),(.i .i64 xa.2.1),(.i .i64 xa.2.2.1),(.i .i64 xa.2.2.2.1),(.b xa.2.2.2.2.1)])) k0) else none) else none)) else none)) else none)) else (bif (inb xA x1) then (ob (F405 u (listF (pj kR0 (x2 xA.toNat))) 1) fun xb=>(bif (inb xA x1) then (ob (F410 u (listF (pj kR0 (x2 xA.toNat))) xE.1 xE.2.1 1) fun xc=>(bif (Nat.ble (x9+1) 1073741824) then (bif (Nat.ble (x9+1) 1073741824) then (L412v1 u x0 x1 x2 x3 x4 x5 x6 x7 x8 m (x9+1) (w64 (xA+1)) (joinF x9 xB (rowsF 4 [(.i .i64 xE.1),(.i .i64 xE.2.1),(.i .i64 (w64 (xE.1+xb.1))),(.i .i64 (w64 (xE.2.1+xb.2)))])) (joinF x9 xC (rowsF 5 [(.s xc.1),(.i .i64 xc.2.1),(.i .i64 xc.2.2.1),(.i .i64 xc.2.2.2.1),(.b xc.2.2.2.2.1)])) k0) else none) else none)) else none)) else none)))) else none)) else none) else (k0 x9 xC)) else (k0 x9 xC))
theorem nl412v1:∀ (m:Nat) (x0:Nat) (x1:Int) (x2 x3:FF) (k0:Nat→FF→Option ρ),ob (L412v1 u i0 n0 f0 w0 w1 i1 i2 i3 w2 m x0 x1 x2 x3 k0) ng=L412v1 u i0 n0 f0 w0 w1 i1 i2 i3 w2 m x0 x1 x2 x3 (fun x4 x5=>ob (k0 x4 x5) ng)
 | 0,_,_,_,_,_=>rfl
 | m+1,x0,x1,x2,x3,k0=>by
  simp only [L412v1,ob_bif,ob_ob,ob_none,nl412v1 m]
def s412v2 (x0 x1:Int × Int × Bool):St:=⟨(.u :: .u :: vxi i0 :: .x (.ptr 0 0) :: .u :: .u :: .x (.ptr 1 0) :: .x (.ptr 2 0) :: .x (.own 3 0 n0) :: .x (.c (ro kA n1 f0)) :: vxi i1 :: .x (.ptr 5 0) :: vxb x0.2.2 :: .x (.ptr 6 0) :: vxb x1.2.2 :: vxi 1 :: (us 30 (.tup [.agg [(vi x0.1),(vi x0.2.1)],.v (.b x0.2.2)] :: .agg [(vcs w0),(vcs w1),(vci i2),(vci i3),(vci i4),(vcs w2)] :: .x (.own 3 0 n0) :: .x (.c (ro kA n1 f0)) :: vxi i1 :: .x (.c (.rp kA (f0 i1.toNat))) :: .agg (pjc kR0 (f0 i1.toNat)) :: vxi i0 :: .tup [.agg [(vi x0.1),(vi x0.2.1)],.v (.b x0.2.2)] :: .agg [(vci x0.1),(vci x0.2.1)] :: vxb x0.2.2 :: .tup [.agg [(vi x1.1),(vi x1.2.1)],.v (.b x1.2.2)] :: .agg [(vcs w0),(vcs w1),(vci i2),(vci i3),(vci i4),(vcs w2)] :: .x (.own 3 0 n0) :: .x (.c (ro kA n1 f0)) :: vxi i1 :: .x (.c (.rp kA (f0 i1.toNat))) :: .agg (pjc kR0 (f0 i1.toNat)) :: vxi i0 :: .tup [.agg [(vi x1.1),(vi x1.2.1)],.v (.b x1.2.2)] :: .agg [(vci x1.1),(vci x1.2.1)] :: vxb x1.2.2 :: (us 73 [])))),[.box [(vcs w0),(vcs w1),(vci i2),(vci i3),(vci i4),(vcs w2)],.box [(vcs ByteArray.empty),(vci 0),(vcn)],.box [(vcs w0),(vci i0),(.own 4 0 n0)],.arr kD n0 f1,.arr kB n0 f2,.box [(vci x1.1),(vci x1.2.1)],.box [(vci x1.1),(vci x1.2.1)]]⟩
def s412v3 (x0 x1:Int × Int × Bool):St:=⟨(.u :: .u :: vxi i0 :: .x (.ptr 0 0) :: .u :: .u :: .x (.ptr 1 0) :: .x (.ptr 2 0) :: .x (.own 3 0 n0) :: .x (.c (ro kA n1 f0)) :: vxi i1 :: .x (.ptr 5 0) :: vxb x0.2.2 :: .x (.ptr 6 0) :: vxb x1.2.2 :: vxi 0 :: (us 30 (.tup [.agg [(vi x0.1),(vi x0.2.1)],.v (.b x0.2.2)] :: .agg [(vcs w0),(vcs w1),(vci i2),(vci i3),(vci i4),(vcs w2)] :: .x (.own 3 0 n0) :: .x (.c (ro kA n1 f0)) :: vxi i1 :: .x (.c (.rp kA (f0 i1.toNat))) :: .agg (pjc kR0 (f0 i1.toNat)) :: vxi i0 :: .tup [.agg [(vi x0.1),(vi x0.2.1)],.v (.b x0.2.2)] :: .agg [(vci x0.1),(vci x0.2.1)] :: vxb x0.2.2 :: .tup [.agg [(vi x1.1),(vi x1.2.1)],.v (.b x1.2.2)] :: .agg [(vcs w0),(vcs w1),(vci i2),(vci i3),(vci i4),(vcs w2)] :: .x (.own 3 0 n0) :: .x (.c (ro kA n1 f0)) :: vxi i1 :: .x (.c (.rp kA (f0 i1.toNat))) :: .agg (pjc kR0 (f0 i1.toNat)) :: vxi i0 :: .tup [.agg [(vi x1.1),(vi x1.2.1)],.v (.b x1.2.2)] :: .agg [(vci x1.1),(vci x1.2.1)] :: vxb x1.2.2 :: (us 73 [])))),[.box [(vcs w0),(vcs w1),(vci i2),(vci i3),(vci i4),(vcs w2)],.box [(vcs ByteArray.empty),(vci 0),(vcn)],.box [(vcs w0),(vci i0),(.own 4 0 n0)],.arr kD n0 f1,.arr kB n0 f2,.box [(vci x0.1),(vci x0.2.1)],.box [(vci x1.1),(vci x1.2.1)]]⟩
theorem r412v1 (hT hB:AC) (he:hB=hole hT [1,0,0,1,1,1,1,1] A11v5) :
  loopH (eB hB (C87 u) u) N412v1 (m+1) (s412v0 n1 n0 f0 f1 f2 i0 i4 i1 i2 i3 w0 w1 w2) k =
  (bif ((decide (i4<(Int.ofNat n0)))==true) then (bif (decide ((Int.ofNat n1)<32)) then (bif (inb i4 n0) then (ob (F411 u w0 w1 i1 i2 i3 w2 n1 f1 (listF (pj kR0 (f0 i4.toNat))) 0 i0) fun x0=>(bif (inb i4 n0) then (ob (F411 u w0 w1 i1 i2 i3 w2 n1 f1 (listF (pj kR0 (f0 i4.toNat))) 1 i0) fun x1=>(bif ((!x0.2.2)==true) then (bif (!x1.2.2) then (loopH (eB hB (C87 u) u) N412v1 m (s412v0 n1 n0 f0 f1 f2 i0 (w64 (i4+1)) i1 i2 i3 w0 w1 w2) k) else (bif ((!x0.2.2)==false) then (bif (x1.2.2==true) then (bif ((decide (x1.2.1<x0.2.1))==false) then (bif ((x1.2.1==x0.2.1)==true) then (bif (decide (x1.1<x0.1)) then (evalC (C87 u) u hT (s412v2 n1 n0 f0 f1 f2 i0 i4 i1 i2 i3 w0 w1 w2 x0 x1) (kBlk 1 (kSeq (C87 u) u (rl 11 9 (rl 46 94 [])) A11v3 (kLoop (eB hB (C87 u) u) N412v1 m k)))) else (evalC (C87 u) u hT (s412v3 n1 n0 f0 f1 f2 i0 i4 i1 i2 i3 w0 w1 w2 x0 x1) (kBlk 1 (kSeq (C87 u) u (rl 11 9 (rl 46 94 [])) A11v3 (kLoop (eB hB (C87 u) u) N412v1 m k))))) else (evalC (C87 u) u hT (s412v3 n1 n0 f0 f1 f2 i0 i4 i1 i2 i3 w0 w1 w2 x0 x1) (kBlk 1 (kSeq (C87 u) u (rl 11 9 (rl 46 94 [])) A11v3 (kLoop (eB hB (C87 u) u) N412v1 m k))))) else (evalC (C87 u) u hT (s412v2 n1 n0 f0 f1 f2 i0 i4 i1 i2 i3 w0 w1 w2 x0 x1) (kBlk 1 (kSeq (C87 u) u (rl 11 9 (rl 46 94 [])) A11v3 (kLoop (eB hB (C87 u) u) N412v1 m k))))) else (evalC (C87 u) u hT (s412v3 n1 n0 f0 f1 f2 i0 i4 i1 i2 i3 w0 w1 w2 x0 x1) (kBlk 1 (kSeq (C87 u) u (rl 11 9 (rl 46 94 [])) A11v3 (kLoop (eB hB (C87 u) u) N412v1 m k))))) else (evalC (C87 u) u hT (s412v2 n1 n0 f0 f1 f2 i0 i4 i1 i2 i3 w0 w1 w2 x0 x1) (kBlk 1 (kSeq (C87 u) u (rl 11 9 (rl 46 94 [])) A11v3 (kLoop (eB hB (C87 u) u) N412v1 m k)))))) else (bif ((!x0.2.2)==false) then (bif (x1.2.2==true) then (bif ((decide (x1.2.1<x0.2.1))==false) then (bif ((x1.2.1==x0.2.1)==true) then (bif (decide (x1.1<x0.1)) then (evalC (C87 u) u hT (s412v2 n1 n0 f0 f1 f2 i0 i4 i1 i2 i3 w0 w1 w2 x0 x1) (kBlk 1 (kSeq (C87 u) u (rl 11 9 (rl 46 94 [])) A11v3 (kLoop (eB hB (C87 u) u) N412v1 m k)))) else (evalC (C87 u) u hT (s412v3 n1 n0 f0 f1 f2 i0 i4 i1 i2 i3 w0 w1 w2 x0 x1) (kBlk 1 (kSeq (C87 u) u (rl 11 9 (rl 46 94 [])) A11v3 (kLoop (eB hB (C87 u) u) N412v1 m k))))) else (evalC (C87 u) u hT (s412v3 n1 n0 f0 f1 f2 i0 i4 i1 i2 i3 w0 w1 w2 x0 x1) (kBlk 1 (kSeq (C87 u) u (rl 11 9 (rl 46 94 [])) A11v3 (kLoop (eB hB (C87 u) u) N412v1 m k))))) else (evalC (C87 u) u hT (s412v2 n1 n0 f0 f1 f2 i0 i4 i1 i2 i3 w0 w1 w2 x0 x1) (kBlk 1 (kSeq (C87 u) u (rl 11 9 (rl 46 94 [])) A11v3 (kLoop (eB hB (C87 u) u) N412v1 m k))))) else (evalC (C87 u) u hT (s412v3 n1 n0 f0 f1 f2 i0 i4 i1 i2 i3 w0 w1 w2 x0 x1) (kBlk 1 (kSeq (C87 u) u (rl 11 9 (rl 46 94 [])) A11v3 (kLoop (eB hB (C87 u) u) N412v1 m k))))) else (evalC (C87 u) u hT (s412v2 n1 n0 f0 f1 f2 i0 i4 i1 i2 i3 w0 w1 w2 x0 x1) (kBlk 1 (kSeq (C87 u) u (rl 11 9 (rl 46 94 [])) A11v3 (kLoop (eB hB (C87 u) u) N412v1 m k))))))) else none)) else none) else (k (.exit 0) (s412v1 n1 f2 i0 w0))) else (k (.exit 0) (s412v1 n1 f2 i0 w0))):=by
  subst he
  kernel_rfl
theorem g412v1 (x0 x1:Int × Int × Bool) :
  evalC (C87 u) u A11v1 (s412v2 n0 n1 f0 f1 f2 i0 i1 i2 i3 i4 w0 w1 w2 x0 x1) (kBlk 1 (kSeq (C87 u) u (rl 11 9 (rl 46 94 [])) A11v3 (kLoop (eB A11v5 (C87 u) u) N412v1 m k))) =
  (bif (inb i1 n1) then (ob (F405 u (listF (pj kR0 (f0 i1.toNat))) 1) fun x2=>(bif (inb i1 n1) then (ob (F410 u (listF (pj kR0 (f0 i1.toNat))) x1.1 x1.2.1 1) fun x3=>(bif (Nat.ble (n0+1) 1073741824) then (bif (Nat.ble (n0+1) 1073741824) then (loopH (eB A11v5 (C87 u) u) N412v1 m (s412v0 (n0+1) n1 f0 (joinF n0 f1 (rowsF 4 [(vi x1.1),(vi x1.2.1),(vi (w64 (x1.1+x2.1))),(vi (w64 (x1.2.1+x2.2)))])) (joinF n0 f2 (rowsF 5 [(.s x3.1),(vi x3.2.1),(vi x3.2.2.1),(vi x3.2.2.2.1),(.b x3.2.2.2.2.1)])) i0 (w64 (i1+1)) i2 i3 i4 w0 w1 w2) k) else none) else none)) else none)) else none):=by kernel_rfl
theorem g412v2 (x0 x1:Int × Int × Bool) :
  evalC (C87 u) u A11v1 (s412v3 n0 n1 f0 f1 f2 i0 i1 i2 i3 i4 w0 w1 w2 x0 x1) (kBlk 1 (kSeq (C87 u) u (rl 11 9 (rl 46 94 [])) A11v3 (kLoop (eB A11v5 (C87 u) u) N412v1 m k))) =
  (bif (inb i1 n1) then (ob (F405 u (listF (pj kR0 (f0 i1.toNat))) 0) fun x2=>(bif (inb i1 n1) then (ob (F410 u (listF (pj kR0 (f0 i1.toNat))) x0.1 x0.2.1 0) fun x3=>(bif (Nat.ble (n0+1) 1073741824) then (bif (Nat.ble (n0+1) 1073741824) then (loopH (eB A11v5 (C87 u) u) N412v1 m (s412v0 (n0+1) n1 f0 (joinF n0 f1 (rowsF 4 [(vi x0.1),(vi x0.2.1),(vi (w64 (x0.1+x2.1))),(vi (w64 (x0.2.1+x2.2)))])) (joinF n0 f2 (rowsF 5 [(.s x3.1),(vi x3.2.1),(vi x3.2.2.1),(vi x3.2.2.2.1),(.b x3.2.2.2.2.1)])) i0 (w64 (i1+1)) i2 i3 i4 w0 w1 w2) k) else none) else none)) else none)) else none):=by kernel_rfl
theorem q412v1:∀ (m:Nat) (x0:Nat) (x1:Int) (x2 x3:FF),
  loopH (eB A11v5 (C87 u) u) N412v1 m (s412v0 x0 n0 f0 x2 x3 i0 x1 i1 i2 i3 w0 w1 w2) k=L412v1 u i0 n0 f0 w0 w1 i1 i2 i3 w2 m x0 x1 x2 x3 (fun x4 x5=>k (.exit 0) (s412v1 x4 x5 i0 w0))
 | 0,_,_,_,_=>rfl
 | m+1,x0,x1,x2,x3=>by
  rw [r412v1 (he:=(by kernel_rfl:A11v5=hole A11v1 [1,0,0,1,1,1,1,1] A11v5))]
  simp only [L412v1,q412v1 m,g412v1,g412v2]
def FT412 (x0 x1:ByteArray) (x2 x3 x4:Int) (x5:ByteArray) (x6:Nat) (x7:FF) (x8:Int):Option (Bool × ByteArray × Int × Nat × FF) :=
 (bif ((decide (x8<0))==false) then (bif (decide (x8>500)) then (some (true,x0,x8,0,(fun _ _=>.any))) else (ob (F409 u x0 x1 x2 x3 x4 x5 x6 x7) fun x9=>(L412v1 u x8 x9.1 x9.2 x0 x1 x2 x3 x4 x5 u 0 0 (fun _ _=>.any) (fun _ _=>.any)
  (fun xA xB=>(some (false,x0,x8,xA,xB)))))) else (some (true,x0,x8,0,(fun _ _=>.any))))
theorem e412:evalF (C87 u) u A11 [.agg [(.s w0),(.s w1),(vi i0),(vi i1),(vi i2),(.s w2)],.v (ro kA n0 f0),.v (vi i3)]=ob (FT412 u w0 w1 i0 i1 i2 w2 n0 f0 i3) fun t=>some (bif t.1 then [.agg [(.s t.2.1),(vi t.2.2.1),(.ro true kB 0 nilF)]] else [.agg [(.s t.2.1),(vi t.2.2.1),(ro kB t.2.2.2.1 t.2.2.2.2)]]):=Eq.trans (b:=(bif ((decide (i3<0))==false) then (bif (decide (i3>500)) then (some [.agg [(.s w0),(vi i3),(.ro true kB 0 nilF)]]) else (ob (F409 u w0 w1 i0 i1 i2 w2 n0 f0) fun x0=>(loopH (eB A11v5 (C87 u) u) N412v1 u (s412v0 0 x0.1 x0.2 nilF nilF i3 0 i0 i1 i2 w0 w1 w2) (kBlk 0 (kSeq (C87 u) u (8 :: (rl 10 10 (rl 34 106 []))) A11v6 (finish A11)))))) else (some [.agg [(.s w0),(vi i3),(.ro true kB 0 nilF)]]))) (by kernel_rfl) (by
 simp only [FT412,ob_bif,ob_ob,ob_none,ob_some,nl412v1,q412v1,cond_true,cond_false]<;>kernel_rfl)
def F412 (x0 x1:ByteArray) (x2 x3 x4:Int) (x5:ByteArray) (x6:Nat) (x7:FF) (x8:Int):Option (ByteArray × Int × Nat × FF):=ob (FT412 u x0 x1 x2 x3 x4 x5 x6 x7 x8) fun t=>some (bif t.1 then (t.2.1,t.2.2.1,0,(fun _ _=>.any)) else (t.2.1,t.2.2.1,t.2.2.2.1,t.2.2.2.2))
def O412:Ora:=mkO (qc (ag (tc cS (tc cS (tc ci (tc ci (tc ci (t1 cS))))))) (qc (av (cL kA)) (q1 (av ci)))) (fun x=>F412 u x.1.1 x.1.2.1 x.1.2.2.1 x.1.2.2.2.1 x.1.2.2.2.2.1 x.1.2.2.2.2.2 x.2.1.1 x.2.1.2 x.2.2) fun t=>[.agg [(.s t.1),(vi t.2.1),(ro kB t.2.2.1 t.2.2.2)]]
theorem d412:DO (O412 u) (C87 u) 11 A11:=dW u (fun x=>by exact e412 u x.2.1.1 x.2.1.2 x.1.2.2.1 x.1.2.2.2.1 x.1.2.2.2.2.1 x.2.2 x.1.1 x.1.2.1 x.1.2.2.2.2.2) (fun _=>rfl) fun t=>by
 obtain ⟨b,t⟩:=t
 cases b with
 | true=>exact (.cons (WkA.agg (.cons (Wk.refl _) (.cons (Wk.refl _) (.cons (Wk.ro (by rfl)) .nil)))) .nil)
 | false =>
  exact (.cons (WkA.agg (.cons (Wk.refl _) (.cons (Wk.refl _) (.cons (Wk.refl _) .nil)))) .nil)
def C88:Oracle:=(C87 u).add 11 (fun _=>true) (O412 u)
def B3:An tT Tryz.f3 [.k (rl 6 5 []),.g [0],.k (rl 0 6 (rl 7 16 [])),.g [0],.k (rl 0 6 (rl 7 16 []))]:=by
 apply Subtype.mk;cbv<;>exact rfl
def A3:AF:=B3.1
def F413 (x0 x1:ByteArray) (x2 x3 x4:Int) (x5:ByteArray) (x6:Nat) (x7:FF) (x8:Int):Option (Bool) :=
 (ob (F390 u x6 x7 10) fun x9=>(bif (!x9) then (ob (F403 u) fun xA=>(some xA)) else (ob (F398 u x0 x1 x2 x3 x4 x5 x6 x7 x8) fun xB=>(ob (F412 u x0 x1 x2 x3 x4 x5 x6 x7 x8) fun xC=>(ob (F402 u xB.1 xB.2.1 xB.2.2.1 xB.2.2.2 xC.1 xC.2.1 xC.2.2.1 xC.2.2.2) fun xD=>(bif (xD==true) then (ob (F403 u) fun xE=>(some xE)) else (some false)))))))
theorem e413:evalF (C88 u) u A3 [.agg [(.s w0),(.s w1),(vi i0),(vi i1),(vi i2),(.s w2)],.v (ro kA n0 f0),.v (vi i3)]=ob (F413 u w0 w1 i0 i1 i2 w2 n0 f0 i3) fun t=>some [.v (.b t)]:=by
 simp only [F413,ob_bif,ob_ob,ob_none,ob_some]
 kernel_rfl
def O413:Ora:=mkO (qc (ag (tc cS (tc cS (tc ci (tc ci (tc ci (t1 cS))))))) (qc (av (cL kA)) (q1 (av ci)))) (fun x=>F413 u x.1.1 x.1.2.1 x.1.2.2.1 x.1.2.2.2.1 x.1.2.2.2.2.1 x.1.2.2.2.2.2 x.2.1.1 x.2.1.2 x.2.2) fun t=>[.v (.b t)]
theorem d413:DO (O413 u) (C88 u) 3 A3:=dO u (fun x=>by exact e413 u x.2.1.1 x.2.1.2 x.1.2.2.1 x.1.2.2.2.1 x.1.2.2.2.2.1 x.2.2 x.1.1 x.1.2.1 x.1.2.2.2.2.2)
end Go.Eng.R13
