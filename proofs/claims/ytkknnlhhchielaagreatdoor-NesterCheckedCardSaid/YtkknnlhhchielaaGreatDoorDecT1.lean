/-
 The functions of the program,run on symbols;printed by decomp.py.
-/
import Derived.Test.YtkknnlhhchielaaGreatDoorDecT0
import Derived.Test.YtkknnlhhchielaaGreatDoorEngAn
import Derived.Test.YtkknnlhhchielaaGreatDoorProg
set_option linter.all false
set_option maxRecDepth 1000000
set_option maxHeartbeats 4000000
namespace Go.Eng.R13
open Go Go.RowKit Go.Eng
open Go.Proofs
variable {ρ σ : Type} (u m : Nat) (k : Ex -> St -> Option ρ) (ng : ρ -> Option σ) (n0 n1 n2 n3 n4 n5 n6 : Nat) (f0 f1 f2 f3 f4 f5 f6 : FF) (i0 i1 i2 i3 i4 i5 i6 i7 i8 i9 iA iB iC iD iE iF iG iH iI iJ iK iL iM : Int) (b0 b1 : Bool) (w0 w1 w2 w3 w4 w5 w6 w7 w8 : ByteArray) (g0 g1 : Nat -> CV)
def B44:An tT Tryz.f44 [.k [2,6,7,8],.k (0::1::(rl 3 19 [])),.k (5::(rl 9 12 [])),.h [],.k (0::1::2::(rl 4 6 (rl 13 9 []))),.k [],.k (0::1::2::(rl 4 18 [])),.k (0::1::(rl 3 19 []))]:=by
 apply Subtype.mk;cbv<;>exact rfl
def A44:AF:=B44.1
def Uk:AC:=sA A44.body [1,1]
def aah:AC:=sA Uk [1,1]
def Ul:AC:=sA Uk [1,0,1,0,0]
def TH:St->Option St:=nN 1 (0::1::2::(rl 4 6 (rl 13 9 [])))
def R3:St:=⟨(us 3 (vxi i0::(us 6 (.x (.c (ro kF n0 f0))::vxi i1::vxi i2::(us 9 []))))),[.box [(.c (ro kP n1 f1)),(.c (ro kF n2 f2))]]⟩
def XU:St:=⟨(us 3 (vxi i0::(us 18 []))),[.box [(.c (ro kP n0 f0)),(.c (ro kF n1 f1))]]⟩
def vA {ρ:Type} (u:Nat) (x0:Nat) (x1:FF) (x2:Int) (x3:Nat) (x4:FF) (x5:Nat) (x6:FF):Nat->Int->Int->(Int->Option ρ)->Option ρ
 | 0,_,_,_=>none
 | m+1,x7,x8,k0 =>
  (bif (decide (x8<x2)) then (bif (inb x8 x0) then (ob (F34 u (x1 x8.toNat 0).len (x1 x8.toNat 0).el) fun x9=>(vA u x0 x1 x2 x3 x4 x5 x6 m (w64 (x7+x9)) (w64 (x8+1)) k0)) else none) else (k0 x7))
theorem Nx:∀ (m:Nat) (x0 x1:Int) (k0:Int->Option ρ),ob (vA u n0 f0 i0 n1 f1 n2 f2 m x0 x1 k0) ng=vA u n0 f0 i0 n1 f1 n2 f2 m x0 x1 (fun x2=>ob (k0 x2) ng)
 | 0,_,_,_=>rfl
 | m+1,x0,x1,k0=>by
  simp only [vA,ak,au,ai,Nx m]
theorem SS:∀ (m:Nat) (x0 x1:Int),
  aq (eB Ul (C54 u) u) TH m (R3 n0 n1 n2 f0 f1 f2 x0 i0 x1) k=vA u n0 f0 i0 n1 f1 n2 f2 m x0 x1 (fun x2=>k (.exit 0) (XU n1 n2 f1 f2 x2))
 | 0,_,_=>rfl
 | m+1,x0,x1=>by
  simp only [vA,<- SS m]
  kernel_rfl
def F18 (x0:Nat) (x1:FF) (x2:Nat) (x3:FF):Option (Int) :=
 (ob (F13 u x0 x1 x2 x3) fun x4=>(bif (x4 != 0) then (some 0) else (ob (F42 u x0 x1 x2 x3) fun x5=>(vA u x5.1 x5.2 (Int.ofNat x5.1) x0 x1 x2 x3 u 0 0
  (fun x6=>(some x6))))))
theorem e18:aB (C54 u) u A44 [.agg [(ro kP n0 f0),(ro kF n1 f1)]]=ob (F18 u n0 f0 n1 f1) fun t=>some [.v (vi t)]:=Eq.trans (b:=(ob (F13 u n0 f0 n1 f1) fun x0=>(bif (x0 != 0) then (some [.v (vi 0)]) else (ob (F42 u n0 f0 n1 f1) fun x1=>(aq (eB Ul (C54 u) u) TH u (R3 x1.1 n0 n1 x1.2 f0 f1 0 (Int.ofNat x1.1) 0) (aD 0 (aJ (C54 u) u (5::(rl 9 12 [])) aah (aG A44)))))))) (by kernel_rfl) (by
 simp only [F18,ak,au,ai,aa,Nx,SS]<;>kernel_rfl)
def O18:Ora:=mkO (q1 (ag (tc (cL kP) (t1 (cL kF))))) (fun x=>F18 u x.1.1 x.1.2 x.2.1 x.2.2) fun t=>[.v (vi t)]
theorem d18:DO (O18 u) (C54 u) 44 A44:=dO u (fun x=>by exact e18 u x.1.1 x.2.1 x.1.2 x.2.2)
def C55:am:=(C54 u).add 44 (fun _=>true) (O18 u)
def B15:An tT Tryz.f15 [.k (rl 9 4 []),.k (rl 0 4 (rl 5 30 [])),.k (6::7::8::(rl 13 21 [])),.h [],.k (0::2::3::(rl 5 9 (rl 17 18 []))),.k [],.k (rl 0 4 (rl 5 30 [])),.k (6::7::8::(rl 18 15 [])),.k (rl 0 4 (rl 5 30 []))]:=by
 apply Subtype.mk;cbv<;>exact rfl
def A15:AF:=B15.1
def UM:AC:=sA A15.body [1,1]
def aaw:AC:=sA UM [1]
def UN:AC:=sA UM [0,1,0,0]
def Pc:St->Option St:=nN 1 (0::2::3::(rl 5 9 (rl 17 18 [])))
def LE:St:=⟨(.u::.x (.c (ro kA n0 f0))::.u::.u::vxi i0::(us 9 (.x (.c (ro kB n1 f1))::vxi i1::vxi i2::(us 18 [])))),[.box [(vcs w0),(vci i3),(.c (ro kB n1 f1))]]⟩
def VG:St:=⟨(us 4 (vxi i0::(us 30 []))),[.box [(vcs w0),(vci i1),(.c (ro kB n0 f0))]]⟩
def mC {ρ:Type} (u:Nat) (x0:Nat) (x1:FF) (x2:Nat) (x3:FF) (x4:Int) (x5:ByteArray) (x6:Int):Nat->Int->Int->(Int->Option ρ)->Option ρ
 | 0,_,_,_=>none
 | m+1,x7,x8,k0 =>
  (bif (decide (x8<x4)) then (bif (inb x8 x2) then (ob (Za0 u x0 x1 (x3 x8.toNat 0).str) fun x9=>(bif (pG x9).2.2.2.2 then (ob (F18 u x9.2.2.2.2.2.2.1 x9.2.2.2.2.2.2.2.1 (p8 x9).1 (p8 x9).2.1) fun xA=>(mC u x0 x1 x2 x3 x4 x5 x6 m (w64 (x7+xA)) (w64 (x8+1)) k0)) else (mC u x0 x1 x2 x3 x4 x5 x6 m x7 (w64 (x8+1)) k0))) else none) else (k0 x7))
theorem Iq:∀ (m:Nat) (x0 x1:Int) (k0:Int->Option ρ),ob (mC u n0 f0 n1 f1 i0 w0 i1 m x0 x1 k0) ng=mC u n0 f0 n1 f1 i0 w0 i1 m x0 x1 (fun x2=>ob (k0 x2) ng)
 | 0,_,_,_=>rfl
 | m+1,x0,x1,k0=>by
  simp only [mC,ak,au,ai,Iq m]
theorem Mp:∀ (m:Nat) (x0 x1:Int),
  aq (eB UN (C55 u) u) Pc m (LE n0 n1 f0 f1 x0 i0 x1 i1 w0) k=mC u n0 f0 n1 f1 i0 w0 i1 m x0 x1 (fun x2=>k (.exit 0) (VG n1 f1 x2 i1 w0))
 | 0,_,_=>rfl
 | m+1,x0,x1=>by
  simp only [mC,<- Mp m]
  kernel_rfl
def lU (x0:ByteArray) (x1:Int) (x2:Nat) (x3:FF) (x4:Nat) (x5:FF):Option (Int) :=
 (bif (decide ((Int.ofNat x2)>32)) then (some 0) else (mC u x4 x5 x2 x3 (Int.ofNat x2) x0 x1 u 0 0
  (fun x6=>(some x6))))
theorem abt:aB (C55 u) u A15 [.agg [(.s w0),(vi i0),(ro kB n0 f0)],.v (ro kA n1 f1)]=ob (lU u w0 i0 n0 f0 n1 f1) fun t=>some [.v (vi t)]:=Eq.trans (b:=(bif (decide ((Int.ofNat n0)>32)) then (some [.v (vi 0)]) else (aq (eB UN (C55 u) u) Pc u (LE n1 n0 f1 f0 0 (Int.ofNat n0) 0 i0 w0) (aD 0 (aJ (C55 u) u (6::7::8::(rl 13 21 [])) aaw (aG A15)))))) (by kernel_rfl) (by
 simp only [lU,ak,au,ai,aa,Iq,Mp]<;>kernel_rfl)
def Zs:Ora:=mkO (qc (ag (tc cS (tc ci (t1 (cL kB))))) (q1 (av (cL kA)))) (fun x=>lU u x.1.1 x.1.2.1 x.1.2.2.1 x.1.2.2.2 x.2.1 x.2.2) fun t=>[.v (vi t)]
theorem ab4:DO (Zs u) (C55 u) 15 A15:=dO u (fun x=>by exact abt u x.1.2.2.1 x.2.1 x.1.2.2.2 x.2.2 x.1.2.1 x.1.1)
def C56:am:=(C55 u).add 15 (fun _=>true) (Zs u)
def aaF:AC:=(.region 17 [o1 61 (bk .add 3 50 1),mv 50 61] 0 none)
def aaE:AC:=(.seq (.block 3
 (.seq (.region 14 [mv 52 50,o1 53 (.indexAddr 79 3 1 (tm 48) (tm 50)),o1 54 (lo 3 53),o1 15 (sg 52),o1 16 (sg 54)] 0 none) []
  (.seq (.region 15 [mv 55 16,o1 56 (bk .geq 3 55 0)] 0 none) []
  (.cond (tm 56)
  (.region 16 [o1 57 (lo 79 14),mv 58 15,o1 59 (.buildSlice 0 79 3 kD 1 [vci 0] [(0,(tm 58))]),o1 60 (.append 1 79 3 kD 8 (tm 57) (tm 59)),o0 (.store 79 1 (tm 14) (tm 60))] 2 none)
  .skip)))) (15::16::(rl 52 9 []))
 aaF)
def PU:AC:=(.seq (.region 13 [o1 51 (bt .lss 3 50 49)] 0 none) []
 (.seq (.cond (tm 51)
 .skip
 (.exit 2 (rl 0 4 (7::9::(rl 15 80 []))))) []
 aaE))
def Ja:AC:=(.seq (.region 22 [o1 69 (ln 23 6 4),o1 70 (lo 24 10),o1 71 (lo 79 13),o1 72 (lo 79 14),o1 73 (lo 24 10),o1 74 (lo 79 13),o1 75 (lo 79 17),mv 76 18,o1 77 (lo 3 6),o1 78 (cf 34 [73,74,75,76,77] [24,79,79,79,3]),o1 79 (lo 3 6),o1 80 (cf 33 [69,70,71,72,78,79] [23,24,79,79,65,3]),mv 68 80,o1 81 (.extract (tm 68) 0),o1 82 (.extract (tm 68) 1),o1 19 (.alloc 0 30 [vcs ByteArray.empty,vci 0,vcn]),o0 (.store 30 3 (tm 19) (tm 81)),o1 20 (sg 82)] 1 (some [[],[],[],[],[],[],[],[],[],(rl 4 5 []),[],(rl 0 11 []),(rl 0 12 []),(rl 0 13 []),(rl 0 13 []),[],(rl 0 14 [15]),(rl 0 17 [])])) []
 (.seq (.region 23 [o1 83 (ln 30 3 19),o1 84 (lo 24 5),o1 85 (cs 15 [83,84] [30,24]),o1 21 (sg 85)] 0 none) []
 (.seq (.region 24 [mv 86 20,mv 87 86,og 88 (.move (tm 21)) 87 true,og 89 (lo 3 12) 87 true,og 90 (bt .gtr 3 88 89) 87 true,o1 91 (po 87 90)] 0 none) []
 (.cond (tm 91)
 (.region 25 [o1 92 (ln 30 3 19),mv 93 21,o0 (.store 30 3 (tm 11) (tm 92)),o0 (.store 3 1 (tm 12) (tm 93))] 0 none)
 .skip))))
def AB:AC:=(.iter [o1 65 (lo 79 14)] [(4,0,0),(5,1,0),(6,2,0),(8,3,0),(10,4,0),(11,5,0),(12,6,0),(13,7,0),(14,8,0),(17,10,0)] (rl 0 4 (7::9::15::16::(rl 18 47 (rl 67 28 [])))) 65 66 67 32 79 itP 7
 (.region 21 [o1 18 (sg 67)] 0 none)
 Ja)
def PT:AC:=(.ghost [9] (.iter [o1 62 (lo 79 14)] [(4,0,0),(5,1,0),(6,2,0),(8,3,0),(10,4,0),(11,5,0),(12,6,0),(13,7,0),(14,8,0)] (rl 0 4 (7::9::(rl 15 47 (rl 64 31 [])))) 62 63 64 32 79 itP 5
 (.region 19 [o1 17 (.alloc 0 79 [vcn]),o0 (.store 79 1 (tm 17) (tm 64))] 1 none)
 AB))
def jz:AC:=(.seq (.region 11 [o1 14 (.alloc 0 79 [vcn])] 1 none) []
 (.seq (.seq (.region 12 [o1 48 (lo 79 13),o1 49 (.len 79 false (tm 48)),o1 50 (.move (ic 0))] 0 none) []
 (.block 2
 (.loop [.cell 14 0 kD] (rl 0 4 (7::9::(rl 15 33 (rl 51 44 []))))
  PU))) (15::16::(rl 48 14 []))
 PT))
def Dp:AC:=(.seq (.region 26 [o1 94 (ln 30 3 11),o0 (.store 30 3 (tm 8) (tm 94)),o1 9 (sk 0)] 0 none) []
 (.ghost [0,1,2,4,5,6] (.ret (rl 0 8 (rl 10 85 [])))))
def aaD:AC:=(.seq (.region 8 [o1 40 (fa 23 4 0 0),o1 41 (lo 9 40),o1 42 (lo 3 6),o1 43 (.build 30 [vcs ByteArray.empty,vci 0,.c (ro kB 0 ca)] [(0,1),(1,1),(2,1)] 0 [(0,(tm 41)),(1,(tm 42))]),o1 11 (.alloc 0 30 [vcs ByteArray.empty,vci 0,vcn]),o1 12 (.alloc 1 3 [vci 0]),o0 (.store 30 3 (tm 11) (tm 43)),o0 (.store 3 1 (tm 12) (ic 0))] 2 none) []
 (.seq (.iter [o1 44 (lo 24 10),o1 45 (.len 24 false (tm 44))] [(4,0,0),(5,1,0),(6,2,0),(8,3,0),(10,4,0),(11,5,0),(12,6,0)] (rl 0 4 (7::9::(rl 13 32 (rl 47 48 [])))) 45 46 47 31 3 itT 1
 (.region 10 [o1 13 (.alloc 0 79 [vcn]),o0 (.store 79 1 (tm 13) (tm 47))] 1 none)
 jz) (rl 13 9 (44::45::46::(rl 48 16 (65::66::(rl 68 26 [])))))
 Dp))
def Xe:AC:=(.seq (.seq (.region 6 [mv 33 3,o1 34 (lo 24 10),o1 35 (.len 24 false (tm 34)),o1 36 (.indexAddrA 75 3 5 1 (.global 0) (tm 35)),o1 37 (lo 3 36),o1 38 (bt .lss 3 33 37)] 0 none) []
 (.cond (tm 38)
 (.seq (.region 7 [o1 39 (.build 30 [vcs ByteArray.empty,vci 0,.c (ro kB 0 ca)] [(0,1),(1,1),(2,1)] 0 []),o0 (.store 30 3 (tm 8) (tm 39)),o1 9 (sk 29)] 0 none) []
  (.ghost [0,1,2,4] (.ret (rl 0 8 (rl 10 85 [])))))
 .skip)) (9::(rl 33 7 []))
 aaD)
def Xd:AC:=(.seq (.region 3 [o1 26 (ln 23 6 4),o1 27 (lo 24 5),o1 28 (cf 23 [26,27] [23,24]),o1 10 (.alloc 0 24 [vcn]),o0 (.store 24 1 (tm 10) (tm 28))] 1 none) []
 (.seq (.seq (.region 4 [o1 29 (lo 24 10),o1 30 (.len 24 false (tm 29)),o1 31 (bk .gtr 3 30 4)] 0 none) []
 (.cond (tm 31)
 (.seq (.region 5 [o1 32 (.build 30 [vcs ByteArray.empty,vci 0,.c (ro kB 0 ca)] [(0,1),(1,1),(2,1)] 0 []),o0 (.store 30 3 (tm 8) (tm 32)),o1 9 (sk 4)] 0 none) []
  (.ghost [0,1,2,4] (.ret (rl 0 8 (rl 10 85 [])))))
 .skip)) (9::(rl 29 4 []))
 Xe))
def A12:AF:=⟨95,[.cell 8 30 (some 3),.tmp 9],
 (.seq (.region 0 [o1 4 (bx 0 23 0),o1 5 (bx 1 24 1),o1 6 (bx 2 3 2),o1 8 (.alloc 3 30 [vcs ByteArray.empty,vci 0,vcn]),o1 9 (sk 0)] 4 none) []
 (.seq (.seq (.region 1 [o1 22 (lo 3 6),o1 23 (.call 22 [(tm 22),(ic 0),(ic 500)] [3,3,3] .snap),o1 24 (.unOp .not 4 (tm 23))] 0 none) []
 (.cond (tm 24)
 (.seq (.region 2 [o1 25 (.build 30 [vcs ByteArray.empty,vci 0,.c (ro kB 0 ca)] [(0,1),(1,1),(2,1)] 0 []),o0 (.store 30 3 (tm 8) (tm 25)),o1 9 (sk 9)] 0 none) []
  (.ghost [0,1,2] (.ret (rl 0 8 (rl 10 85 [])))))
 .skip)) (9::(rl 22 4 []))
 Xd))⟩
def OY:St->Option St:=nN 10 (rl 0 4 (7::9::(rl 15 33 (rl 51 44 []))))
def Le:St:=⟨(us 4 (.x (.ptr 0 0)::.x (.ptr 1 0)::.x (.ptr 2 0)::.u::.x (.ptr 3 0)::.u::.x (.ptr 4 0)::.x (.ptr 5 0)::.x (.ptr 6 0)::.x (.ptr 7 0)::.x (.ptr 8 0)::(us 33 (.x (.c (ro kD n0 f0))::vxi i0::vxi i1::(us 44 []))))),[.box [(vcs w0),(vcs w1),(vci i2),(vci i3),(vci i4),(vcs w2)],.box [(.c (ro kA n1 f1))],.box [(vci i5)],.box [(vcs ByteArray.empty),(vci 0),(vcn)],.box [(.c (ro kA n2 f2))],.box [(vcs w3),(vci i6),(.c (ro kB n3 f3))],.box [(vci i7)],.box [(.c (ro kD n0 f0))],.box [(.own 9 0 n4)],.arr kD n4 f4]⟩
def Ld:St:=⟨(us 4 (.x (.ptr 0 0)::.x (.ptr 1 0)::.x (.ptr 2 0)::.u::.x (.ptr 3 0)::.u::.x (.ptr 4 0)::.x (.ptr 5 0)::.x (.ptr 6 0)::.x (.ptr 7 0)::.x (.ptr 8 0)::(us 80 []))),[.box [(vcs w0),(vcs w1),(vci i0),(vci i1),(vci i2),(vcs w2)],.box [(.c (ro kA n0 f0))],.box [(vci i3)],.box [(vcs ByteArray.empty),(vci 0),(vcn)],.box [(.c (ro kA n1 f1))],.box [(vcs w3),(vci i4),(.c (ro kB n2 f2))],.box [(vci i5)],.box [(.c (ro kD n3 f3))],.box [(.own 9 0 n4)],.arr kD n4 f4]⟩
def j5 {ρ:Type} (u:Nat) (x0:Nat) (x1:FF) (x2:Int) (x3 x4:ByteArray) (x5 x6 x7:Int) (x8:ByteArray) (x9:Nat) (xA:FF) (xB:Int) (xC:Nat) (xD:FF) (xE:ByteArray) (xF:Int) (xG:Nat) (xH:FF) (xI:Int):Nat->Int->Nat->FF->(Nat->FF->Option ρ)->Option ρ
 | 0,_,_,_,_=>none
 | m+1,xJ,xK,xL,k0 =>
  (bif (decide (xJ<x2)) then (bif (inb xJ x0) then (bif (decide ((x1 xJ.toNat 0).int>=0)) then (bif (Nat.ble (xK+1) 1073741824) then (j5 u x0 x1 x2 x3 x4 x5 x6 x7 x8 x9 xA xB xC xD xE xF xG xH xI m (w64 (xJ+1)) (xK+1) (aC xK xL (aL 1 [(.i .i64 xJ)])) k0) else none) else (j5 u x0 x1 x2 x3 x4 x5 x6 x7 x8 x9 xA xB xC xD xE xF xG xH xI m (w64 (xJ+1)) xK xL k0)) else none) else (k0 xK xL))
theorem H5:∀ (m:Nat) (x0:Int) (x1:Nat) (x2:FF) (k0:Nat->FF->Option ρ),ob (j5 u n0 f0 i0 w0 w1 i1 i2 i3 w2 n1 f1 i4 n2 f2 w3 i5 n3 f3 i6 m x0 x1 x2 k0) ng=j5 u n0 f0 i0 w0 w1 i1 i2 i3 w2 n1 f1 i4 n2 f2 w3 i5 n3 f3 i6 m x0 x1 x2 (fun x3 x4=>ob (k0 x3 x4) ng)
 | 0,_,_,_,_=>rfl
 | m+1,x0,x1,x2,k0=>by
  simp only [j5,ak,au,ai,H5 m]
theorem L6:∀ (m:Nat) (x0:Int) (x1:Nat) (x2:FF),
  aq (eB PU (C56 u) u) OY m (Le n0 n1 n2 n3 x1 f0 f1 f2 f3 x2 i0 x0 i1 i2 i3 i4 i5 i6 w0 w1 w2 w3) k=j5 u n0 f0 i0 w0 w1 i1 i2 i3 w2 n1 f1 i4 n2 f2 w3 i5 n3 f3 i6 m x0 x1 x2 (fun x3 x4=>k (.exit 2) (Ld n1 n2 n3 n0 x3 f1 f2 f3 f0 x4 i1 i2 i3 i4 i5 i6 w0 w1 w2 w3))
 | 0,_,_,_=>rfl
 | m+1,x0,x1,x2=>by
  simp only [j5,<- L6 m]
  kernel_rfl
def G1:St->Option St:=nN 11 (rl 0 4 (7::9::15::16::(rl 18 47 (rl 67 28 []))))
def Vt:St:=⟨(us 4 (.x (.ptr 0 0)::.x (.ptr 1 0)::.x (.ptr 2 0)::.u::.x (.ptr 3 0)::.u::.x (.ptr 4 0)::.x (.ptr 5 0)::.x (.ptr 6 0)::.x (.ptr 7 0)::.x (.ptr 8 0)::.u::.u::.x (.ptr 10 0)::(us 47 (.x (.c (ro kD n0 f0))::vxi i0::(us 28 []))))),[.box [(vcs w0),(vcs w1),(vci i1),(vci i2),(vci i3),(vcs w2)],.box [(.c (ro kA n1 f1))],.box [(vci i4)],.box [(vcs ByteArray.empty),(vci 0),(vcn)],.box [(.c (ro kA n2 f2))],.box [(vcs w3),(vci i5),(.c (ro kB n3 f3))],.box [(vci i6)],.box [(.c (ro kD n4 f4))],.box [(.c (ro kD n0 f0))],.dead,.box [(.c (ro kD n5 f5))]]⟩
def F9:St:=⟨(us 4 (.x (.ptr 0 0)::.x (.ptr 1 0)::.x (.ptr 2 0)::.u::.x (.ptr 3 0)::.u::.x (.ptr 4 0)::.x (.ptr 5 0)::.x (.ptr 6 0)::.x (.ptr 7 0)::.x (.ptr 8 0)::.u::.u::.x (.ptr 10 0)::(us 77 []))),[.box [(vcs w0),(vcs w1),(vci i0),(vci i1),(vci i2),(vcs w2)],.box [(.c (ro kA n0 f0))],.box [(vci i3)],.box [(vcs ByteArray.empty),(vci 0),(vcn)],.box [(.c (ro kA n1 f1))],.box [(vcs w3),(vci i4),(.c (ro kB n2 f2))],.box [(vci i5)],.box [(.c (ro kD n3 f3))],.box [(.c (ro kD n4 f4))],.dead,.box [(.c (ro kD n5 f5))]]⟩
def j6 {ρ:Type} (u:Nat) (x0:Nat) (x1:FF) (x2 x3:ByteArray) (x4 x5 x6:Int) (x7:ByteArray) (x8:Nat) (x9:FF) (xA:Int) (xB:Nat) (xC:FF) (xD:Nat) (xE:FF) (xF:Nat) (xG:FF):Nat->Int->ByteArray->Int->Nat->FF->Int->(ByteArray->Int->Nat->FF->Int->Option ρ)->Option ρ
 | 0,_,_,_,_,_,_,_=>none
 | m+1,xH,xI,xJ,xK,xL,xM,k0 =>
  (bif ((Nat.ble x0 4)&&true) then (bif (decide (xH<Int.ofNat (List.length (aI (liL x0 x1))))) then (ob (FQ u xB xC xD xE xF xG (List.length (List.getD (aI (liL x0 x1)) xH.toNat [])) (fL (List.getD (aI (liL x0 x1)) xH.toNat [])) xA) fun xN=>(ob (G5 u x2 x3 x4 x5 x6 x7 xB xC xD xE x0 x1 xN.1 xN.2 xA) fun xO=>(ob (lU u xO.1 xO.2.1 xO.2.2.1 xO.2.2.2.1 x8 x9) fun xP=>(bif (xO.2.2.2.2==true) then (bif (decide (xP>xM)) then (j6 u x0 x1 x2 x3 x4 x5 x6 x7 x8 x9 xA xB xC xD xE xF xG m (xH+1) xO.1 xO.2.1 xO.2.2.1 xO.2.2.2.1 xP k0) else (j6 u x0 x1 x2 x3 x4 x5 x6 x7 x8 x9 xA xB xC xD xE xF xG m (xH+1) xI xJ xK xL xM k0)) else (j6 u x0 x1 x2 x3 x4 x5 x6 x7 x8 x9 xA xB xC xD xE xF xG m (xH+1) xI xJ xK xL xM k0))))) else (k0 xI xJ xK xL xM)) else none)
theorem H6:∀ (m:Nat) (x0:Int) (x1:ByteArray) (x2:Int) (x3:Nat) (x4:FF) (x5:Int) (k0:ByteArray->Int->Nat->FF->Int->Option ρ),ob (j6 u n0 f0 w0 w1 i0 i1 i2 w2 n1 f1 i3 n2 f2 n3 f3 n4 f4 m x0 x1 x2 x3 x4 x5 k0) ng=j6 u n0 f0 w0 w1 i0 i1 i2 w2 n1 f1 i3 n2 f2 n3 f3 n4 f4 m x0 x1 x2 x3 x4 x5 (fun x6 x7 x8 x9 xA=>ob (k0 x6 x7 x8 x9 xA) ng)
 | 0,_,_,_,_,_,_,_=>rfl
 | m+1,x0,x1,x2,x3,x4,x5,k0=>by
  simp only [j6,ak,au,ai,H6 m]
theorem L7:∀ (m:Nat) (x0:Int) (x1:ByteArray) (x2:Int) (x3:Nat) (x4:FF) (x5:Int),
  aq (eI itP [(4,0,0),(5,1,0),(6,2,0),(8,3,0),(10,4,0),(11,5,0),(12,6,0),(13,7,0),(14,8,0),(17,10,0)] 65 66 95 67 7 ((.region 21 [o1 18 (sg 67)] 0 none)) Ja (C56 u) u) G1 m (Vt n0 n1 n2 x3 n3 n4 f0 f1 f2 x4 f3 f4 x0 i0 i1 i2 i3 x2 x5 w0 w1 w2 x1) k=j6 u n0 f0 w0 w1 i0 i1 i2 w2 n1 f1 i3 n2 f2 n3 f3 n4 f4 m x0 x1 x2 x3 x4 x5 (fun x6 x7 x8 x9 xA=>k (.exit 999999) (F9 n1 n2 x8 n3 n0 n4 f1 f2 x9 f3 f0 f4 i0 i1 i2 i3 x7 xA w0 w1 w2 x6))
 | 0,_,_,_,_,_,_=>rfl
 | m+1,x0,x1,x2,x3,x4,x5=>by
  simp only [j6,<- L7 m]
  kernel_rfl
def s8:St->Option St:=nN 10 (rl 0 4 (7::9::(rl 15 47 (rl 64 31 []))))
def F8:St:=⟨(us 4 (.x (.ptr 0 0)::.x (.ptr 1 0)::.x (.ptr 2 0)::.u::.x (.ptr 3 0)::.u::.x (.ptr 4 0)::.x (.ptr 5 0)::.x (.ptr 6 0)::.x (.ptr 7 0)::.x (.ptr 8 0)::(us 47 (.x (.c (ro kD n0 f0))::vxi i0::(us 31 []))))),[.box [(vcs w0),(vcs w1),(vci i1),(vci i2),(vci i3),(vcs w2)],.box [(.c (ro kA n1 f1))],.box [(vci i4)],.box [(vcs ByteArray.empty),(vci 0),(vcn)],.box [(.c (ro kA n2 f2))],.box [(vcs w3),(vci i5),(.c (ro kB n3 f3))],.box [(vci i6)],.box [(.c (ro kD n4 f4))],.box [(.c (ro kD n0 f0))],.dead]⟩
def DE:St:=⟨(us 4 (.x (.ptr 0 0)::.x (.ptr 1 0)::.x (.ptr 2 0)::.u::.x (.ptr 3 0)::.u::.x (.ptr 4 0)::.x (.ptr 5 0)::.x (.ptr 6 0)::.x (.ptr 7 0)::.x (.ptr 8 0)::(us 80 []))),[.box [(vcs w0),(vcs w1),(vci i0),(vci i1),(vci i2),(vcs w2)],.box [(.c (ro kA n0 f0))],.box [(vci i3)],.box [(vcs ByteArray.empty),(vci 0),(vcn)],.box [(.c (ro kA n1 f1))],.box [(vcs w3),(vci i4),(.c (ro kB n2 f2))],.box [(vci i5)],.box [(.c (ro kD n3 f3))],.box [(.c (ro kD n4 f4))],.dead]⟩
def mr {ρ:Type} (u:Nat) (x0:Nat) (x1:FF) (x2 x3:ByteArray) (x4 x5 x6:Int) (x7:ByteArray) (x8:Nat) (x9:FF) (xA:Int) (xB:Nat) (xC:FF) (xD:Nat) (xE:FF):Nat->Int->ByteArray->Int->Nat->FF->Int->(ByteArray->Int->Nat->FF->Int->Option ρ)->Option ρ
 | 0,_,_,_,_,_,_,_=>none
 | m+1,xF,xG,xH,xI,xJ,xK,k0 =>
  (bif ((Nat.ble x0 4)&&true) then (bif (decide (xF<Int.ofNat (List.length (aI (liL x0 x1))))) then (j6 u x0 x1 x2 x3 x4 x5 x6 x7 x8 x9 xA xB xC xD xE (List.length (List.getD (aI (liL x0 x1)) xF.toNat [])) (fL (List.getD (aI (liL x0 x1)) xF.toNat [])) u 0 xG xH xI xJ xK
  (fun xL xM xN xO xP=>(mr u x0 x1 x2 x3 x4 x5 x6 x7 x8 x9 xA xB xC xD xE m (xF+1) xL xM xN xO xP k0))) else (k0 xG xH xI xJ xK)) else none)
theorem H4:∀ (m:Nat) (x0:Int) (x1:ByteArray) (x2:Int) (x3:Nat) (x4:FF) (x5:Int) (k0:ByteArray->Int->Nat->FF->Int->Option ρ),ob (mr u n0 f0 w0 w1 i0 i1 i2 w2 n1 f1 i3 n2 f2 n3 f3 m x0 x1 x2 x3 x4 x5 k0) ng=mr u n0 f0 w0 w1 i0 i1 i2 w2 n1 f1 i3 n2 f2 n3 f3 m x0 x1 x2 x3 x4 x5 (fun x6 x7 x8 x9 xA=>ob (k0 x6 x7 x8 x9 xA) ng)
 | 0,_,_,_,_,_,_,_=>rfl
 | m+1,x0,x1,x2,x3,x4,x5,k0=>by
  simp only [mr,ak,au,ai,H4 m,H6]
def Lc:St:=⟨(us 4 (.x (.ptr 0 0)::.x (.ptr 1 0)::.x (.ptr 2 0)::.u::.x (.ptr 3 0)::.u::.x (.ptr 4 0)::.x (.ptr 5 0)::.x (.ptr 6 0)::.x (.ptr 7 0)::.x (.ptr 8 0)::.u::.u::.x (.ptr 10 0)::(us 46 (.x (.c (ro kD (List.length (List.getD (aI (liL n0 f0)) i0.toNat [])) (fL (List.getD (aI (liL n0 f0)) i0.toNat []))))::.x (.c (ro kD n0 f0))::vxi 0::(us 28 []))))),[.box [(vcs w0),(vcs w1),(vci i1),(vci i2),(vci i3),(vcs w2)],.box [(.c (ro kA n1 f1))],.box [(vci i4)],.box [(vcs ByteArray.empty),(vci 0),(vcn)],.box [(.c (ro kA n2 f2))],.box [(vcs w3),(vci i5),(.c (ro kB n3 f3))],.box [(vci i6)],.box [(.c (ro kD n4 f4))],.box [(.c (ro kD n0 f0))],.dead,.box [(.c (ro kD (List.length (List.getD (aI (liL n0 f0)) i0.toNat [])) (fL (List.getD (aI (liL n0 f0)) i0.toNat []))))]]⟩
theorem VT :
  aq (eI itP [(4,0,0),(5,1,0),(6,2,0),(8,3,0),(10,4,0),(11,5,0),(12,6,0),(13,7,0),(14,8,0)] 62 63 95 64 5 ((.region 19 [o1 17 (.alloc 0 79 [vcn]),o0 (.store 79 1 (tm 17) (tm 64))] 1 none)) AB (C56 u) u) s8 (m+1) (F8 n0 n1 n2 n4 n3 f0 f1 f2 f4 f3 i4 i0 i1 i2 i3 i5 i6 w0 w1 w2 w3) k =
  (bif ((Nat.ble n0 4)&&true) then (bif (decide (i4<Int.ofNat (List.length (aI (liL n0 f0))))) then (dz (eI itP [(4,0,0),(5,1,0),(6,2,0),(8,3,0),(10,4,0),(11,5,0),(12,6,0),(13,7,0),(14,8,0),(17,10,0)] 65 66 95 67 7 ((.region 21 [o1 18 (sg 67)] 0 none)) Ja (C56 u) u) G1 u (Lc n0 n1 n2 n4 n3 f0 f1 f2 f4 f3 i4 i0 i1 i2 i3 i5 i6 w0 w1 w2 w3) (vP (kIt 5 (JU 63 62 (i4+1) (ro kD n0 f0) (aS (eI itP [(4,0,0),(5,1,0),(6,2,0),(8,3,0),(10,4,0),(11,5,0),(12,6,0),(13,7,0),(14,8,0)] 62 63 95 64 5 ((.region 19 [o1 17 (.alloc 0 79 [vcn]),o0 (.store 79 1 (tm 17) (tm 64))] 1 none)) AB (C56 u) u) s8 m k))))) else (k (.exit 999999) (DE n1 n2 n4 n3 n0 f1 f2 f4 f3 f0 i0 i1 i2 i3 i5 i6 w0 w1 w2 w3))) else none):=by kernel_rfl
theorem U8 :
  dz (eI itP [(4,0,0),(5,1,0),(6,2,0),(8,3,0),(10,4,0),(11,5,0),(12,6,0),(13,7,0),(14,8,0),(17,10,0)] 65 66 95 67 7 ((.region 21 [o1 18 (sg 67)] 0 none)) Ja (C56 u) u) G1 u (Lc n0 n1 n2 n3 n4 f0 f1 f2 f3 f4 i0 i1 i2 i3 i4 i5 i6 w0 w1 w2 w3) k =
  j6 u n0 f0 w0 w1 i1 i2 i3 w2 n1 f1 i4 n2 f2 n4 f4 (List.length (List.getD (aI (liL n0 f0)) i0.toNat [])) (fL (List.getD (aI (liL n0 f0)) i0.toNat [])) u 0 w3 i5 n3 f3 i6 (fun x0 x1 x2 x3 x4=>k (.exit 999999) (F9 n1 n2 x2 n4 n0 (List.length (List.getD (aI (liL n0 f0)) i0.toNat [])) f1 f2 x3 f4 f0 (fL (List.getD (aI (liL n0 f0)) i0.toNat [])) i1 i2 i3 i4 x1 x4 w0 w1 w2 x0)) :=
 Eq.trans (lE (by kernel_rfl)) (L7 ..)
theorem WC :
  (vP (kIt 5 (JU 63 62 (i0+1) (ro kD n0 f0) (aS (eI itP [(4,0,0),(5,1,0),(6,2,0),(8,3,0),(10,4,0),(11,5,0),(12,6,0),(13,7,0),(14,8,0)] 62 63 95 64 5 ((.region 19 [o1 17 (.alloc 0 79 [vcn]),o0 (.store 79 1 (tm 17) (tm 64))] 1 none)) AB (C56 u) u) s8 m k)))) (.exit 999999) (F9 n1 n2 n3 n4 n0 (List.length (List.getD (aI (liL n0 f0)) i0.toNat [])) f1 f2 f3 f4 f0 (fL (List.getD (aI (liL n0 f0)) i0.toNat [])) i1 i2 i3 i4 i5 i6 w0 w1 w2 w3) =
  (aq (eI itP [(4,0,0),(5,1,0),(6,2,0),(8,3,0),(10,4,0),(11,5,0),(12,6,0),(13,7,0),(14,8,0)] 62 63 95 64 5 ((.region 19 [o1 17 (.alloc 0 79 [vcn]),o0 (.store 79 1 (tm 17) (tm 64))] 1 none)) AB (C56 u) u) s8 m (F8 n0 n1 n2 n3 n4 f0 f1 f2 f3 f4 (i0+1) i1 i2 i3 i4 i5 i6 w0 w1 w2 w3) k):=by kernel_rfl
theorem L5:∀ (m:Nat) (x0:Int) (x1:ByteArray) (x2:Int) (x3:Nat) (x4:FF) (x5:Int),
  aq (eI itP [(4,0,0),(5,1,0),(6,2,0),(8,3,0),(10,4,0),(11,5,0),(12,6,0),(13,7,0),(14,8,0)] 62 63 95 64 5 ((.region 19 [o1 17 (.alloc 0 79 [vcn]),o0 (.store 79 1 (tm 17) (tm 64))] 1 none)) AB (C56 u) u) s8 m (F8 n0 n1 n2 x3 n3 f0 f1 f2 x4 f3 x0 i0 i1 i2 i3 x2 x5 w0 w1 w2 x1) k=mr u n0 f0 w0 w1 i0 i1 i2 w2 n1 f1 i3 n2 f2 n3 f3 m x0 x1 x2 x3 x4 x5 (fun x6 x7 x8 x9 xA=>k (.exit 999999) (DE n1 n2 x8 n3 n0 f1 f2 x9 f3 f0 i0 i1 i2 i3 x7 xA w0 w1 w2 x6))
 | 0,_,_,_,_,_,_=>rfl
 | m+1,x0,x1,x2,x3,x4,x5=>by
  rw [VT]
  simp only [mr,L5 m,U8,WC]
def eA:St->Option St:=nN 7 (rl 0 4 (7::9::(rl 13 32 (rl 47 48 []))))
def F7:St:=⟨(us 4 (.x (.ptr 0 0)::.x (.ptr 1 0)::.x (.ptr 2 0)::.u::.x (.ptr 3 0)::.u::.x (.ptr 4 0)::.x (.ptr 5 0)::.x (.ptr 6 0)::(us 32 (vxi i0::vxi i1::(us 48 []))))),[.box [(vcs w0),(vcs w1),(vci i2),(vci i3),(vci i4),(vcs w2)],.box [(.c (ro kA n0 f0))],.box [(vci i5)],.box [(vcs ByteArray.empty),(vci 0),(vcn)],.box [(.c (ro kA n1 f1))],.box [(vcs w3),(vci i6),(.c (ro kB n2 f2))],.box [(vci i7)]]⟩
def sJ:St:=⟨(us 4 (.x (.ptr 0 0)::.x (.ptr 1 0)::.x (.ptr 2 0)::.u::.x (.ptr 3 0)::.u::.x (.ptr 4 0)::.x (.ptr 5 0)::.x (.ptr 6 0)::(us 82 []))),[.box [(vcs w0),(vcs w1),(vci i0),(vci i1),(vci i2),(vcs w2)],.box [(.c (ro kA n0 f0))],.box [(vci i3)],.box [(vcs ByteArray.empty),(vci 0),(vcn)],.box [(.c (ro kA n1 f1))],.box [(vcs w3),(vci i4),(.c (ro kB n2 f2))],.box [(vci i5)]]⟩
def dV {ρ:Type} (u:Nat) (x0:Int) (x1 x2:ByteArray) (x3 x4 x5:Int) (x6:ByteArray) (x7:Nat) (x8:FF) (x9:Int) (xA:Nat) (xB:FF):Nat->Int->ByteArray->Int->Nat->FF->Int->(ByteArray->Int->Nat->FF->Int->Option ρ)->Option ρ
 | 0,_,_,_,_,_,_,_=>none
 | m+1,xC,xD,xE,xF,xG,xH,k0 =>
  (bif ((decide (0<=x0)&&decide (x0<=4))&&true) then (bif (decide (xC<Int.ofNat (dp x0.toNat))) then (j5 u (List.length (aW x0.toNat xC.toNat)) (fL (aW x0.toNat xC.toNat)) (Int.ofNat (List.length (aW x0.toNat xC.toNat))) x1 x2 x3 x4 x5 x6 x7 x8 x9 xA xB xD xE xF xG xH u 0 0 (fun _ _=>.any)
  (fun xI xJ=>(mr u xI xJ x1 x2 x3 x4 x5 x6 x7 x8 x9 xA xB (List.length (aW x0.toNat xC.toNat)) (fL (aW x0.toNat xC.toNat)) u 0 xD xE xF xG xH
  (fun xK xL xM xN xO=>(dV u x0 x1 x2 x3 x4 x5 x6 x7 x8 x9 xA xB m (xC+1) xK xL xM xN xO k0))))) else (k0 xD xE xF xG xH)) else none)
theorem H3:∀ (m:Nat) (x0:Int) (x1:ByteArray) (x2:Int) (x3:Nat) (x4:FF) (x5:Int) (k0:ByteArray->Int->Nat->FF->Int->Option ρ),ob (dV u i0 w0 w1 i1 i2 i3 w2 n0 f0 i4 n1 f1 m x0 x1 x2 x3 x4 x5 k0) ng=dV u i0 w0 w1 i1 i2 i3 w2 n0 f0 i4 n1 f1 m x0 x1 x2 x3 x4 x5 (fun x6 x7 x8 x9 xA=>ob (k0 x6 x7 x8 x9 xA) ng)
 | 0,_,_,_,_,_,_,_=>rfl
 | m+1,x0,x1,x2,x3,x4,x5,k0=>by
  simp only [dV,ak,au,ai,H3 m,H5,H4]
theorem VS :
  aq (eI itT [(4,0,0),(5,1,0),(6,2,0),(8,3,0),(10,4,0),(11,5,0),(12,6,0)] 45 46 95 47 1 ((.region 10 [o1 13 (.alloc 0 79 [vcn]),o0 (.store 79 1 (tm 13) (tm 47))] 1 none)) jz (C56 u) u) eA (m+1) (F7 n0 n1 n2 f0 f1 f2 i0 i5 i1 i2 i3 i4 i6 i7 w0 w1 w2 w3) k =
  (bif ((decide (0<=i0)&&decide (i0<=4))&&true) then (bif (decide (i5<Int.ofNat (dp i0.toNat))) then (aq (eB PU (C56 u) u) OY u (Le (List.length (aW i0.toNat i5.toNat)) n0 n1 n2 0 (fL (aW i0.toNat i5.toNat)) f0 f1 f2 ca (Int.ofNat (List.length (aW i0.toNat i5.toNat))) 0 i1 i2 i3 i4 i6 i7 w0 w1 w2 w3) (aD 2 (aJ (C56 u) u (15::16::(rl 48 14 [])) PT (kIt 1 (JU 46 45 (i5+1) (vi i0) (aS (eI itT [(4,0,0),(5,1,0),(6,2,0),(8,3,0),(10,4,0),(11,5,0),(12,6,0)] 45 46 95 47 1 ((.region 10 [o1 13 (.alloc 0 79 [vcn]),o0 (.store 79 1 (tm 13) (tm 47))] 1 none)) jz (C56 u) u) eA m k)))))) else (k (.exit 999999) (sJ n0 n1 n2 f0 f1 f2 i1 i2 i3 i4 i6 i7 w0 w1 w2 w3))) else none):=by kernel_rfl
def Lb:St:=⟨(us 4 (.x (.ptr 0 0)::.x (.ptr 1 0)::.x (.ptr 2 0)::.u::.x (.ptr 3 0)::.u::.x (.ptr 4 0)::.x (.ptr 5 0)::.x (.ptr 6 0)::.x (.ptr 7 0)::.x (.ptr 8 0)::(us 47 (.x (.c (ro kD n0 f0))::vxi 0::(us 31 []))))),[.box [(vcs w0),(vcs w1),(vci i0),(vci i1),(vci i2),(vcs w2)],.box [(.c (ro kA n1 f1))],.box [(vci i3)],.box [(vcs ByteArray.empty),(vci 0),(vcn)],.box [(.c (ro kA n2 f2))],.box [(vcs w3),(vci i4),(.c (ro kB n3 f3))],.box [(vci i5)],.box [(.c (ro kD (List.length (aW i6.toNat i7.toNat)) (fL (aW i6.toNat i7.toNat))))],.box [(.c (ro kD n0 f0))],.dead]⟩
theorem WB :
  (aD 2 (aJ (C56 u) u (15::16::(rl 48 14 [])) PT (kIt 1 (JU 46 45 (i0+1) (vi i1) (aS (eI itT [(4,0,0),(5,1,0),(6,2,0),(8,3,0),(10,4,0),(11,5,0),(12,6,0)] 45 46 95 47 1 ((.region 10 [o1 13 (.alloc 0 79 [vcn]),o0 (.store 79 1 (tm 13) (tm 47))] 1 none)) jz (C56 u) u) eA m k))))) (.exit 2) (Ld n0 n1 n2 (List.length (aW i1.toNat i0.toNat)) n3 f0 f1 f2 (fL (aW i1.toNat i0.toNat)) f3 i2 i3 i4 i5 i6 i7 w0 w1 w2 w3) =
  (dz (eI itP [(4,0,0),(5,1,0),(6,2,0),(8,3,0),(10,4,0),(11,5,0),(12,6,0),(13,7,0),(14,8,0)] 62 63 95 64 5 ((.region 19 [o1 17 (.alloc 0 79 [vcn]),o0 (.store 79 1 (tm 17) (tm 64))] 1 none)) AB (C56 u) u) s8 u (Lb n3 n0 n1 n2 f3 f0 f1 f2 i2 i3 i4 i5 i6 i7 i1 i0 w0 w1 w2 w3) (vP (kIt 1 (JU 46 45 (i0+1) (vi i1) (aS (eI itT [(4,0,0),(5,1,0),(6,2,0),(8,3,0),(10,4,0),(11,5,0),(12,6,0)] 45 46 95 47 1 ((.region 10 [o1 13 (.alloc 0 79 [vcn]),o0 (.store 79 1 (tm 13) (tm 47))] 1 none)) jz (C56 u) u) eA m k))))):=by kernel_rfl
theorem U7 :
  dz (eI itP [(4,0,0),(5,1,0),(6,2,0),(8,3,0),(10,4,0),(11,5,0),(12,6,0),(13,7,0),(14,8,0)] 62 63 95 64 5 ((.region 19 [o1 17 (.alloc 0 79 [vcn]),o0 (.store 79 1 (tm 17) (tm 64))] 1 none)) AB (C56 u) u) s8 u (Lb n0 n1 n2 n3 f0 f1 f2 f3 i0 i1 i2 i3 i4 i5 i6 i7 w0 w1 w2 w3) k =
  mr u n0 f0 w0 w1 i0 i1 i2 w2 n1 f1 i3 n2 f2 (List.length (aW i6.toNat i7.toNat)) (fL (aW i6.toNat i7.toNat)) u 0 w3 i4 n3 f3 i5 (fun x0 x1 x2 x3 x4=>k (.exit 999999) (DE n1 n2 x2 (List.length (aW i6.toNat i7.toNat)) n0 f1 f2 x3 (fL (aW i6.toNat i7.toNat)) f0 i0 i1 i2 i3 x1 x4 w0 w1 w2 x0)) :=
 Eq.trans (lE (by kernel_rfl)) (L5 ..)
theorem WA :
  (vP (kIt 1 (JU 46 45 (i0+1) (vi i1) (aS (eI itT [(4,0,0),(5,1,0),(6,2,0),(8,3,0),(10,4,0),(11,5,0),(12,6,0)] 45 46 95 47 1 ((.region 10 [o1 13 (.alloc 0 79 [vcn]),o0 (.store 79 1 (tm 13) (tm 47))] 1 none)) jz (C56 u) u) eA m k)))) (.exit 999999) (DE n0 n1 n2 (List.length (aW i1.toNat i0.toNat)) n3 f0 f1 f2 (fL (aW i1.toNat i0.toNat)) f3 i2 i3 i4 i5 i6 i7 w0 w1 w2 w3) =
  (aq (eI itT [(4,0,0),(5,1,0),(6,2,0),(8,3,0),(10,4,0),(11,5,0),(12,6,0)] 45 46 95 47 1 ((.region 10 [o1 13 (.alloc 0 79 [vcn]),o0 (.store 79 1 (tm 13) (tm 47))] 1 none)) jz (C56 u) u) eA m (F7 n0 n1 n2 f0 f1 f2 i1 (i0+1) i2 i3 i4 i5 i6 i7 w0 w1 w2 w3) k):=by kernel_rfl
theorem vI:∀ (m:Nat) (x0:Int) (x1:ByteArray) (x2:Int) (x3:Nat) (x4:FF) (x5:Int),
  aq (eI itT [(4,0,0),(5,1,0),(6,2,0),(8,3,0),(10,4,0),(11,5,0),(12,6,0)] 45 46 95 47 1 ((.region 10 [o1 13 (.alloc 0 79 [vcn]),o0 (.store 79 1 (tm 13) (tm 47))] 1 none)) jz (C56 u) u) eA m (F7 n0 n1 x3 f0 f1 x4 i0 x0 i1 i2 i3 i4 x2 x5 w0 w1 w2 x1) k=dV u i0 w0 w1 i1 i2 i3 w2 n0 f0 i4 n1 f1 m x0 x1 x2 x3 x4 x5 (fun x6 x7 x8 x9 xA=>k (.exit 999999) (sJ n0 n1 x8 f0 f1 x9 i1 i2 i3 i4 x7 xA w0 w1 w2 x6))
 | 0,_,_,_,_,_,_=>rfl
 | m+1,x0,x1,x2,x3,x4,x5=>by
  rw [VS]
  simp only [dV,vI m,L6,WB,U7,WA]
def B1 (x0 x1:ByteArray) (x2 x3 x4:Int) (x5:ByteArray) (x6:Nat) (x7:FF) (x8 x9:Int):Option (ByteArray × Int × Nat × FF × Int) :=
 (ob (eh u x8 0 500) fun xA=>(bif (!xA) then (some (ByteArray.empty,0,0,(fun _ _=>.any),9)) else (ob (ru u x0 x1 x2 x3 x4 x5 x6 x7) fun xB=>(bif (decide ((Int.ofNat xB.1)>4)) then (some (ByteArray.empty,0,0,(fun _ _=>.any),4)) else (bif ((Int.ofNat xB.1)==0) then (bif (decide (x9<1)) then (some (ByteArray.empty,0,0,(fun _ _=>.any),29)) else (dV u (Int.ofNat xB.1) x0 x1 x2 x3 x4 x5 x6 x7 x8 xB.1 xB.2 u 0 x0 x8 0 (fun _ _=>.any) 0
  (fun xC xD xE xF xG=>(some (xC,xD,xE,xF,0))))) else (bif ((Int.ofNat xB.1)==1) then (bif (decide (x9<3)) then (some (ByteArray.empty,0,0,(fun _ _=>.any),29)) else (dV u (Int.ofNat xB.1) x0 x1 x2 x3 x4 x5 x6 x7 x8 xB.1 xB.2 u 0 x0 x8 0 (fun _ _=>.any) 0
  (fun xH xI xJ xK xL=>(some (xH,xI,xJ,xK,0))))) else (bif ((Int.ofNat xB.1)==2) then (bif (decide (x9<21)) then (some (ByteArray.empty,0,0,(fun _ _=>.any),29)) else (dV u (Int.ofNat xB.1) x0 x1 x2 x3 x4 x5 x6 x7 x8 xB.1 xB.2 u 0 x0 x8 0 (fun _ _=>.any) 0
  (fun xM xN xO xP xQ=>(some (xM,xN,xO,xP,0))))) else (bif ((Int.ofNat xB.1)==3) then (bif (decide (x9<343)) then (some (ByteArray.empty,0,0,(fun _ _=>.any),29)) else (dV u (Int.ofNat xB.1) x0 x1 x2 x3 x4 x5 x6 x7 x8 xB.1 xB.2 u 0 x0 x8 0 (fun _ _=>.any) 0
  (fun xR xS xT xU xV=>(some (xR,xS,xT,xU,0))))) else (bif ((Int.ofNat xB.1)==4) then (bif (decide (x9<10473)) then (some (ByteArray.empty,0,0,(fun _ _=>.any),29)) else (dV u (Int.ofNat xB.1) x0 x1 x2 x3 x4 x5 x6 x7 x8 xB.1 xB.2 u 0 x0 x8 0 (fun _ _=>.any) 0
  (fun xW xX xY xZ xa=>(some (xW,xX,xY,xZ,0))))) else none)))))))))
def jK (x0:Nat × FF):St:=⟨(.agg [(vcs w0),(vcs w1),(vci i0),(vci i1),(vci i2),(vcs w2)]::.x (.c (ro kA n0 f0))::vxi i3::vxi i4::.x (.ptr 0 0)::.x (.ptr 1 0)::.x (.ptr 2 0)::uu::.x (.ptr 3 0)::.u::.x (.ptr 4 0)::.x (.ptr 5 0)::.x (.ptr 6 0)::uu::uu::uu::uu::uu::uu::uu::uu::uu::(us 4 (.agg [(vcs w0),(vcs w1),(vci i0),(vci i1),(vci i2),(vcs w2)]::.x (.c (ro kA n0 f0))::.x (.c (ro kA x0.1 x0.2))::(us 11 [.x (.ptr 0 0),vxs w0,vxi i3,.agg [(vcs w0),(vci i3),(.c (ro kB 0 ca))],.x (.c (ro kA x0.1 x0.2)),vxi (Int.ofNat x0.1),vxi 0,uu,uu,uu,uu,uu,uu,uu,uu,uu,uu,uu,uu,uu,uu,uu,uu,uu,uu,uu,uu,uu,uu,uu,uu,uu,uu,uu,uu,uu,uu,uu,uu,uu,uu,uu,uu,uu,uu,uu,uu,uu,uu,uu,uu,uu,uu,uu,uu])))),[.box [(vcs w0),(vcs w1),(vci i0),(vci i1),(vci i2),(vcs w2)],.box [(.c (ro kA n0 f0))],.box [(vci i3)],.box [(vcs ByteArray.empty),(vci 0),(vcn)],.box [(.c (ro kA x0.1 x0.2))],.box [(vcs w0),(vci i3),(.c (ro kB 0 ca))],.box [(vci 0)]]⟩
theorem U6 (x0:Nat × FF) :
  dz (eI itT [(4,0,0),(5,1,0),(6,2,0),(8,3,0),(10,4,0),(11,5,0),(12,6,0)] 45 46 95 47 1 ((.region 10 [o1 13 (.alloc 0 79 [vcn]),o0 (.store 79 1 (tm 13) (tm 47))] 1 none)) jz (C56 u) u) eA u (jK n0 f0 i0 i1 i2 i3 i4 w0 w1 w2 x0) k =
  dV u (Int.ofNat x0.1) w0 w1 i0 i1 i2 w2 n0 f0 i3 x0.1 x0.2 u 0 w0 i3 0 ca 0 (fun x1 x2 x3 x4 x5=>k (.exit 999999) (sJ n0 x0.1 x3 f0 x0.2 x4 i0 i1 i2 i3 x2 x5 w0 w1 w2 x1)) :=
 Eq.trans (lE (by kernel_rfl)) (vI ..)
theorem U5 (x0:Nat × FF) :
  dz (eI itT [(4,0,0),(5,1,0),(6,2,0),(8,3,0),(10,4,0),(11,5,0),(12,6,0)] 45 46 95 47 1 ((.region 10 [o1 13 (.alloc 0 79 [vcn]),o0 (.store 79 1 (tm 13) (tm 47))] 1 none)) jz (C56 u) u) eA u (jK n0 f0 i0 i1 i2 i3 i4 w0 w1 w2 x0) k =
  dV u (Int.ofNat x0.1) w0 w1 i0 i1 i2 w2 n0 f0 i3 x0.1 x0.2 u 0 w0 i3 0 ca 0 (fun x1 x2 x3 x4 x5=>k (.exit 999999) (sJ n0 x0.1 x3 f0 x0.2 x4 i0 i1 i2 i3 x2 x5 w0 w1 w2 x1)) :=
 Eq.trans (lE (by kernel_rfl)) (vI ..)
theorem U4 (x0:Nat × FF) :
  dz (eI itT [(4,0,0),(5,1,0),(6,2,0),(8,3,0),(10,4,0),(11,5,0),(12,6,0)] 45 46 95 47 1 ((.region 10 [o1 13 (.alloc 0 79 [vcn]),o0 (.store 79 1 (tm 13) (tm 47))] 1 none)) jz (C56 u) u) eA u (jK n0 f0 i0 i1 i2 i3 i4 w0 w1 w2 x0) k =
  dV u (Int.ofNat x0.1) w0 w1 i0 i1 i2 w2 n0 f0 i3 x0.1 x0.2 u 0 w0 i3 0 ca 0 (fun x1 x2 x3 x4 x5=>k (.exit 999999) (sJ n0 x0.1 x3 f0 x0.2 x4 i0 i1 i2 i3 x2 x5 w0 w1 w2 x1)) :=
 Eq.trans (lE (by kernel_rfl)) (vI ..)
theorem U3 (x0:Nat × FF) :
  dz (eI itT [(4,0,0),(5,1,0),(6,2,0),(8,3,0),(10,4,0),(11,5,0),(12,6,0)] 45 46 95 47 1 ((.region 10 [o1 13 (.alloc 0 79 [vcn]),o0 (.store 79 1 (tm 13) (tm 47))] 1 none)) jz (C56 u) u) eA u (jK n0 f0 i0 i1 i2 i3 i4 w0 w1 w2 x0) k =
  dV u (Int.ofNat x0.1) w0 w1 i0 i1 i2 w2 n0 f0 i3 x0.1 x0.2 u 0 w0 i3 0 ca 0 (fun x1 x2 x3 x4 x5=>k (.exit 999999) (sJ n0 x0.1 x3 f0 x0.2 x4 i0 i1 i2 i3 x2 x5 w0 w1 w2 x1)) :=
 Eq.trans (lE (by kernel_rfl)) (vI ..)
theorem Qd (x0:Nat × FF) :
  dz (eI itT [(4,0,0),(5,1,0),(6,2,0),(8,3,0),(10,4,0),(11,5,0),(12,6,0)] 45 46 95 47 1 ((.region 10 [o1 13 (.alloc 0 79 [vcn]),o0 (.store 79 1 (tm 13) (tm 47))] 1 none)) jz (C56 u) u) eA u (jK n0 f0 i0 i1 i2 i3 i4 w0 w1 w2 x0) k =
  dV u (Int.ofNat x0.1) w0 w1 i0 i1 i2 w2 n0 f0 i3 x0.1 x0.2 u 0 w0 i3 0 ca 0 (fun x1 x2 x3 x4 x5=>k (.exit 999999) (sJ n0 x0.1 x3 f0 x0.2 x4 i0 i1 i2 i3 x2 x5 w0 w1 w2 x1)) :=
 Eq.trans (lE (by kernel_rfl)) (vI ..)
theorem abd:aB (C56 u) u A12 [.agg [(.s w0),(.s w1),(vi i0),(vi i1),(vi i2),(.s w2)],.v (ro kA n0 f0),.v (vi i3),.v (vi i4)]=ob (B1 u w0 w1 i0 i1 i2 w2 n0 f0 i3 i4) fun t=>some [.agg [(.s t.1),(vi t.2.1),(ro kB t.2.2.1 t.2.2.2.1)],.v (vi t.2.2.2.2)]:=Eq.trans (b:=(ob (eh u i3 0 500) fun x0=>(bif (!x0) then (some [.agg [(.s ByteArray.empty),(vi 0),(ro kB 0 ca)],.v (vi 9)]) else (ob (ru u w0 w1 i0 i1 i2 w2 n0 f0) fun x1=>(bif (decide ((Int.ofNat x1.1)>4)) then (some [.agg [(.s ByteArray.empty),(vi 0),(ro kB 0 ca)],.v (vi 4)]) else (bif ((Int.ofNat x1.1)==0) then (bif (decide (i4<1)) then (some [.agg [(.s ByteArray.empty),(vi 0),(ro kB 0 ca)],.v (vi 29)]) else (dz (eI itT [(4,0,0),(5,1,0),(6,2,0),(8,3,0),(10,4,0),(11,5,0),(12,6,0)] 45 46 95 47 1 ((.region 10 [o1 13 (.alloc 0 79 [vcn]),o0 (.store 79 1 (tm 13) (tm 47))] 1 none)) jz (C56 u) u) eA u (jK n0 f0 i0 i1 i2 i3 i4 w0 w1 w2 x1) (vP (aJ (C56 u) u (rl 13 9 (44::45::46::(rl 48 16 (65::66::(rl 68 26 []))))) Dp (aG A12))))) else (bif ((Int.ofNat x1.1)==1) then (bif (decide (i4<3)) then (some [.agg [(.s ByteArray.empty),(vi 0),(ro kB 0 ca)],.v (vi 29)]) else (dz (eI itT [(4,0,0),(5,1,0),(6,2,0),(8,3,0),(10,4,0),(11,5,0),(12,6,0)] 45 46 95 47 1 ((.region 10 [o1 13 (.alloc 0 79 [vcn]),o0 (.store 79 1 (tm 13) (tm 47))] 1 none)) jz (C56 u) u) eA u (jK n0 f0 i0 i1 i2 i3 i4 w0 w1 w2 x1) (vP (aJ (C56 u) u (rl 13 9 (44::45::46::(rl 48 16 (65::66::(rl 68 26 []))))) Dp (aG A12))))) else (bif ((Int.ofNat x1.1)==2) then (bif (decide (i4<21)) then (some [.agg [(.s ByteArray.empty),(vi 0),(ro kB 0 ca)],.v (vi 29)]) else (dz (eI itT [(4,0,0),(5,1,0),(6,2,0),(8,3,0),(10,4,0),(11,5,0),(12,6,0)] 45 46 95 47 1 ((.region 10 [o1 13 (.alloc 0 79 [vcn]),o0 (.store 79 1 (tm 13) (tm 47))] 1 none)) jz (C56 u) u) eA u (jK n0 f0 i0 i1 i2 i3 i4 w0 w1 w2 x1) (vP (aJ (C56 u) u (rl 13 9 (44::45::46::(rl 48 16 (65::66::(rl 68 26 []))))) Dp (aG A12))))) else (bif ((Int.ofNat x1.1)==3) then (bif (decide (i4<343)) then (some [.agg [(.s ByteArray.empty),(vi 0),(ro kB 0 ca)],.v (vi 29)]) else (dz (eI itT [(4,0,0),(5,1,0),(6,2,0),(8,3,0),(10,4,0),(11,5,0),(12,6,0)] 45 46 95 47 1 ((.region 10 [o1 13 (.alloc 0 79 [vcn]),o0 (.store 79 1 (tm 13) (tm 47))] 1 none)) jz (C56 u) u) eA u (jK n0 f0 i0 i1 i2 i3 i4 w0 w1 w2 x1) (vP (aJ (C56 u) u (rl 13 9 (44::45::46::(rl 48 16 (65::66::(rl 68 26 []))))) Dp (aG A12))))) else (bif ((Int.ofNat x1.1)==4) then (bif (decide (i4<10473)) then (some [.agg [(.s ByteArray.empty),(vi 0),(ro kB 0 ca)],.v (vi 29)]) else (dz (eI itT [(4,0,0),(5,1,0),(6,2,0),(8,3,0),(10,4,0),(11,5,0),(12,6,0)] 45 46 95 47 1 ((.region 10 [o1 13 (.alloc 0 79 [vcn]),o0 (.store 79 1 (tm 13) (tm 47))] 1 none)) jz (C56 u) u) eA u (jK n0 f0 i0 i1 i2 i3 i4 w0 w1 w2 x1) (vP (aJ (C56 u) u (rl 13 9 (44::45::46::(rl 48 16 (65::66::(rl 68 26 []))))) Dp (aG A12))))) else none)))))))))) (by kernel_rfl) (by
 simp only [B1,ak,au,ai,aa,H3,U6,U5,U4,U3,Qd]<;>kernel_rfl)
def Zc:Ora:=mkO (qc (ag (tc cS (tc cS (tc ci (tc ci (tc ci (t1 cS))))))) (qc (av (cL kA)) (qc (av ci) (q1 (av ci))))) (fun x=>B1 u x.1.1 x.1.2.1 x.1.2.2.1 x.1.2.2.2.1 x.1.2.2.2.2.1 x.1.2.2.2.2.2 x.2.1.1 x.2.1.2 x.2.2.1 x.2.2.2) fun t=>[.agg [(.s t.1),(vi t.2.1),(ro kB t.2.2.1 t.2.2.2.1)],.v (vi t.2.2.2.2)]
theorem abO:DOI (Zc u) (C56 u) 12 A12:=dOI u (fun x=>by exact abd u x.2.1.1 x.2.1.2 x.1.2.2.1 x.1.2.2.2.1 x.1.2.2.2.2.1 x.2.2.1 x.2.2.2 x.1.1 x.1.2.1 x.1.2.2.2.2.2)
def C57:am:=(C56 u).add 12 (fun _=>true) (Zc u)
def B9:An tT Tryz.f9 [.k (4::(rl 6 21 [])),.g [0,1],.k (rl 0 4 (rl 5 40 [])),.k (4::5::(rl 27 18 [])),.h [],.k (0::1::4::(rl 6 39 [])),.k (rl 27 5 []),.g [0,1],.k (rl 0 45 []),.k (4::(rl 34 11 [])),.g [0,1],.k (rl 0 4 (rl 5 40 [])),.g [0,1],.k (rl 0 4 (rl 5 40 []))]:=by
 apply Subtype.mk;cbv<;>exact rfl
def A9:AF:=B9.1
def ZB:AC:=sA A9.body [1,1]
def acC:AC:=sA ZB [1]
def ZC:AC:=sA ZB [0,1,0,0]
def OX:St->Option St:=nN 2 (0::1::4::(rl 6 39 []))
def La:St:=⟨(.u::.u::.x (.ptr 0 0)::.x (.ptr 1 0)::.u::vxi i0::(us 39 [])),[.box [(vcs w0),(vci i1),(.c (ro kB n0 f0))],.box [(vcs w1),(vci i2),(.c (ro kB n1 f1))]]⟩
def Vs:St:=⟨(us 4 (vxb false::(us 40 []))),[.dead,.dead]⟩
def Vr:St:=⟨(us 45 []),[.dead,.dead]⟩
def tj {ρ:Type} (u:Nat) (x0:ByteArray) (x1:Int) (x2:Nat) (x3:FF) (x4:ByteArray) (x5:Int) (x6:Nat) (x7:FF):Nat->Int->(Option ρ)->(Option ρ)->Option ρ
 | 0,_,_,_=>none
 | m+1,x8,k0,k1 =>
  (bif (decide (x8<(Int.ofNat x2))) then (bif (inb x8 x2) then (bif (inb x8 x6) then (bif (!((ByteArray.toList (x3 x8.toNat 0).str==ByteArray.toList (x7 x8.toNat 0).str)&&(((x3 x8.toNat 1).int==(x7 x8.toNat 1).int)&&(((x3 x8.toNat 2).int==(x7 x8.toNat 2).int)&&(((x3 x8.toNat 3).int==(x7 x8.toNat 3).int)&&(((x3 x8.toNat 4).bool==(x7 x8.toNat 4).bool)&&true)))))) then k0 else (tj u x0 x1 x2 x3 x4 x5 x6 x7 m (w64 (x8+1)) k0 k1)) else none) else none) else k1)
theorem H0:∀ (m:Nat) (x0:Int) (k0:Option ρ) (k1:Option ρ),ob (tj u w0 i0 n0 f0 w1 i1 n1 f1 m x0 k0 k1) ng=tj u w0 i0 n0 f0 w1 i1 n1 f1 m x0 (ob k0 ng) (ob k1 ng)
 | 0,_,_,_=>rfl
 | m+1,x0,k0,k1=>by
  simp only [tj,ak,au,ai,H0 m]
theorem L4:∀ (m:Nat) (x0:Int),
  aq (eB ZC (C57 u) u) OX m (La n0 n1 f0 f1 x0 i0 i1 w0 w1) k=tj u w0 i0 n0 f0 w1 i1 n1 f1 m x0 (k .ret Vs) (k (.exit 0) Vr)
 | 0,_=>rfl
 | m+1,x0=>by
  simp only [tj,<- L4 m]
  kernel_rfl
def Ra (x0:ByteArray) (x1:Int) (x2:Nat) (x3:FF) (x4:ByteArray) (x5:Int) (x6:Nat) (x7:FF):Option (Bool) :=
 (bif ((!(ByteArray.toList x0==ByteArray.toList x4))==false) then (bif ((x1 != x5)==false) then (bif ((Int.ofNat x2) != (Int.ofNat x6)) then (some false) else (tj u x0 x1 x2 x3 x4 x5 x6 x7 u 0
  (some false)
  (some true))) else (some false)) else (some false))
theorem abc:aB (C57 u) u A9 [.agg [(.s w0),(vi i0),(ro kB n0 f0)],.agg [(.s w1),(vi i1),(ro kB n1 f1)]]=ob (Ra u w0 i0 n0 f0 w1 i1 n1 f1) fun t=>some [.v (.b t)]:=Eq.trans (b:=(bif ((!(ByteArray.toList w0==ByteArray.toList w1))==false) then (bif ((i0 != i1)==false) then (bif ((Int.ofNat n0) != (Int.ofNat n1)) then (some [.v (.b false)]) else (aq (eB ZC (C57 u) u) OX u (La n0 n1 f0 f1 0 i0 i1 w0 w1) (aD 0 (aJ (C57 u) u (4::5::(rl 27 18 [])) acC (aG A9))))) else (some [.v (.b false)])) else (some [.v (.b false)]))) (by kernel_rfl) (by
 simp only [Ra,ak,au,ai,aa,H0,L4]<;>kernel_rfl)
def Zb:Ora:=mkO (qc (ag (tc cS (tc ci (t1 (cL kB))))) (q1 (ag (tc cS (tc ci (t1 (cL kB))))))) (fun x=>Ra u x.1.1 x.1.2.1 x.1.2.2.1 x.1.2.2.2 x.2.1 x.2.2.1 x.2.2.2.1 x.2.2.2.2) fun t=>[.v (.b t)]
theorem abN:DO (Zb u) (C57 u) 9 A9:=dO u (fun x=>by exact abc u x.1.2.2.1 x.2.2.2.1 x.1.2.2.2 x.2.2.2.2 x.1.2.1 x.2.2.1 x.1.1 x.2.1)
def C58:am:=(C57 u).add 9 (fun _=>true) (Zb u)
def B8:An tT Tryz.f8 [.k (0::(rl 40 24 [])),.g [1,3,5,6,7],.k (rl 1 92 []),.g [1,3,5,6,7],.k (rl 1 92 [])]:=by
 apply Subtype.mk;cbv<;>exact rfl
def A8:AF:=B8.1
def tw:Option (Bool) :=
 (ob (G7 u 100 50) fun x0=>(ob (Cs u (ByteArray.mk #[97]) 30 10) fun x1=>(ob (Cs u (ByteArray.mk #[98]) 30 10) fun x2=>(ob (FR u x0.1 x0.2.1 x0.2.2.1 x0.2.2.2.1 x0.2.2.2.2.1 x0.2.2.2.2.2 2 (aL 18 [(.s x1.1),(.i .i64 x1.2.1),(.i .i64 x1.2.2.1),(.s x1.2.2.2.1),(.s x1.2.2.2.2.1),(.i .i64 x1.2.2.2.2.2.1),(.ro false (.pr (.int .i64) (.pr (.int .i64) .nil)) x1.2.2.2.2.2.2.1 x1.2.2.2.2.2.2.2.1),(.ro false (.pr (.sl (.pr (.int .i64) (.pr (.int .i64) .nil))) .nil) (p8 x1).1 (p8 x1).2.1),(.s (p8 x1).2.2.1),(.i .i64 (p8 x1).2.2.2.1),(.i .i64 (p8 x1).2.2.2.2.1),(.i .i64 (p8 x1).2.2.2.2.2.1),(.i .i64 (p8 x1).2.2.2.2.2.2.1),(.i .i64 (p8 x1).2.2.2.2.2.2.2.1),(.i .i64 (pG x1).1),(.i .i64 (pG x1).2.1),(.i .i64 (pG x1).2.2.1),(.i .i64 (pG x1).2.2.2),(.s x2.1),(.i .i64 x2.2.1),(.i .i64 x2.2.2.1),(.s x2.2.2.2.1),(.s x2.2.2.2.2.1),(.i .i64 x2.2.2.2.2.2.1),(.ro false (.pr (.int .i64) (.pr (.int .i64) .nil)) x2.2.2.2.2.2.2.1 x2.2.2.2.2.2.2.2.1),(.ro false (.pr (.sl (.pr (.int .i64) (.pr (.int .i64) .nil))) .nil) (p8 x2).1 (p8 x2).2.1),(.s (p8 x2).2.2.1),(.i .i64 (p8 x2).2.2.2.1),(.i .i64 (p8 x2).2.2.2.2.1),(.i .i64 (p8 x2).2.2.2.2.2.1),(.i .i64 (p8 x2).2.2.2.2.2.2.1),(.i .i64 (p8 x2).2.2.2.2.2.2.2.1),(.i .i64 (pG x2).1),(.i .i64 (pG x2).2.1),(.i .i64 (pG x2).2.2.1),(.i .i64 (pG x2).2.2.2)]) 5) fun x3=>(ob (G7 u 20 40) fun x4=>(ob (Cs u (ByteArray.mk #[97]) 30 10) fun x5=>(ob (FR u x4.1 x4.2.1 x4.2.2.1 x4.2.2.2.1 x4.2.2.2.2.1 x4.2.2.2.2.2 1 (aL 18 [(.s x5.1),(.i .i64 x5.2.1),(.i .i64 x5.2.2.1),(.s x5.2.2.2.1),(.s x5.2.2.2.2.1),(.i .i64 x5.2.2.2.2.2.1),(.ro false (.pr (.int .i64) (.pr (.int .i64) .nil)) x5.2.2.2.2.2.2.1 x5.2.2.2.2.2.2.2.1),(.ro false (.pr (.sl (.pr (.int .i64) (.pr (.int .i64) .nil))) .nil) (p8 x5).1 (p8 x5).2.1),(.s (p8 x5).2.2.1),(.i .i64 (p8 x5).2.2.2.1),(.i .i64 (p8 x5).2.2.2.2.1),(.i .i64 (p8 x5).2.2.2.2.2.1),(.i .i64 (p8 x5).2.2.2.2.2.2.1),(.i .i64 (p8 x5).2.2.2.2.2.2.2.1),(.i .i64 (pG x5).1),(.i .i64 (pG x5).2.1),(.i .i64 (pG x5).2.2.1),(.i .i64 (pG x5).2.2.2)]) 5) fun x6=>(ob (Cs u (ByteArray.mk #[97]) 20 10) fun x7=>(ob (Cs u (ByteArray.mk #[98]) 40 20) fun x8=>(ob (Cs u (ByteArray.mk #[99]) 19 9) fun x9=>(ob (G7 u 42 32) fun xA=>(ob (B1 u xA.1 xA.2.1 xA.2.2.1 xA.2.2.2.1 xA.2.2.2.2.1 xA.2.2.2.2.2 3 (aL 18 [(.s x7.1),(.i .i64 x7.2.1),(.i .i64 x7.2.2.1),(.s x7.2.2.2.1),(.s x7.2.2.2.2.1),(.i .i64 x7.2.2.2.2.2.1),(.ro false (.pr (.int .i64) (.pr (.int .i64) .nil)) x7.2.2.2.2.2.2.1 x7.2.2.2.2.2.2.2.1),(.ro false (.pr (.sl (.pr (.int .i64) (.pr (.int .i64) .nil))) .nil) (p8 x7).1 (p8 x7).2.1),(.s (p8 x7).2.2.1),(.i .i64 (p8 x7).2.2.2.1),(.i .i64 (p8 x7).2.2.2.2.1),(.i .i64 (p8 x7).2.2.2.2.2.1),(.i .i64 (p8 x7).2.2.2.2.2.2.1),(.i .i64 (p8 x7).2.2.2.2.2.2.2.1),(.i .i64 (pG x7).1),(.i .i64 (pG x7).2.1),(.i .i64 (pG x7).2.2.1),(.i .i64 (pG x7).2.2.2),(.s x8.1),(.i .i64 x8.2.1),(.i .i64 x8.2.2.1),(.s x8.2.2.2.1),(.s x8.2.2.2.2.1),(.i .i64 x8.2.2.2.2.2.1),(.ro false (.pr (.int .i64) (.pr (.int .i64) .nil)) x8.2.2.2.2.2.2.1 x8.2.2.2.2.2.2.2.1),(.ro false (.pr (.sl (.pr (.int .i64) (.pr (.int .i64) .nil))) .nil) (p8 x8).1 (p8 x8).2.1),(.s (p8 x8).2.2.1),(.i .i64 (p8 x8).2.2.2.1),(.i .i64 (p8 x8).2.2.2.2.1),(.i .i64 (p8 x8).2.2.2.2.2.1),(.i .i64 (p8 x8).2.2.2.2.2.2.1),(.i .i64 (p8 x8).2.2.2.2.2.2.2.1),(.i .i64 (pG x8).1),(.i .i64 (pG x8).2.1),(.i .i64 (pG x8).2.2.1),(.i .i64 (pG x8).2.2.2),(.s x9.1),(.i .i64 x9.2.1),(.i .i64 x9.2.2.1),(.s x9.2.2.2.1),(.s x9.2.2.2.2.1),(.i .i64 x9.2.2.2.2.2.1),(.ro false (.pr (.int .i64) (.pr (.int .i64) .nil)) x9.2.2.2.2.2.2.1 x9.2.2.2.2.2.2.2.1),(.ro false (.pr (.sl (.pr (.int .i64) (.pr (.int .i64) .nil))) .nil) (p8 x9).1 (p8 x9).2.1),(.s (p8 x9).2.2.1),(.i .i64 (p8 x9).2.2.2.1),(.i .i64 (p8 x9).2.2.2.2.1),(.i .i64 (p8 x9).2.2.2.2.2.1),(.i .i64 (p8 x9).2.2.2.2.2.2.1),(.i .i64 (p8 x9).2.2.2.2.2.2.2.1),(.i .i64 (pG x9).1),(.i .i64 (pG x9).2.1),(.i .i64 (pG x9).2.2.1),(.i .i64 (pG x9).2.2.2)]) 1 343) fun xB=>(ob (G7 u 42 32) fun xC=>(ob (B1 u xC.1 xC.2.1 xC.2.2.1 xC.2.2.2.1 xC.2.2.2.2.1 xC.2.2.2.2.2 3 (aL 18 [(.s x7.1),(.i .i64 x7.2.1),(.i .i64 x7.2.2.1),(.s x7.2.2.2.1),(.s x7.2.2.2.2.1),(.i .i64 x7.2.2.2.2.2.1),(.ro false (.pr (.int .i64) (.pr (.int .i64) .nil)) x7.2.2.2.2.2.2.1 x7.2.2.2.2.2.2.2.1),(.ro false (.pr (.sl (.pr (.int .i64) (.pr (.int .i64) .nil))) .nil) (p8 x7).1 (p8 x7).2.1),(.s (p8 x7).2.2.1),(.i .i64 (p8 x7).2.2.2.1),(.i .i64 (p8 x7).2.2.2.2.1),(.i .i64 (p8 x7).2.2.2.2.2.1),(.i .i64 (p8 x7).2.2.2.2.2.2.1),(.i .i64 (p8 x7).2.2.2.2.2.2.2.1),(.i .i64 (pG x7).1),(.i .i64 (pG x7).2.1),(.i .i64 (pG x7).2.2.1),(.i .i64 (pG x7).2.2.2),(.s x8.1),(.i .i64 x8.2.1),(.i .i64 x8.2.2.1),(.s x8.2.2.2.1),(.s x8.2.2.2.2.1),(.i .i64 x8.2.2.2.2.2.1),(.ro false (.pr (.int .i64) (.pr (.int .i64) .nil)) x8.2.2.2.2.2.2.1 x8.2.2.2.2.2.2.2.1),(.ro false (.pr (.sl (.pr (.int .i64) (.pr (.int .i64) .nil))) .nil) (p8 x8).1 (p8 x8).2.1),(.s (p8 x8).2.2.1),(.i .i64 (p8 x8).2.2.2.1),(.i .i64 (p8 x8).2.2.2.2.1),(.i .i64 (p8 x8).2.2.2.2.2.1),(.i .i64 (p8 x8).2.2.2.2.2.2.1),(.i .i64 (p8 x8).2.2.2.2.2.2.2.1),(.i .i64 (pG x8).1),(.i .i64 (pG x8).2.1),(.i .i64 (pG x8).2.2.1),(.i .i64 (pG x8).2.2.2),(.s x9.1),(.i .i64 x9.2.1),(.i .i64 x9.2.2.1),(.s x9.2.2.2.1),(.s x9.2.2.2.2.1),(.i .i64 x9.2.2.2.2.2.1),(.ro false (.pr (.int .i64) (.pr (.int .i64) .nil)) x9.2.2.2.2.2.2.1 x9.2.2.2.2.2.2.2.1),(.ro false (.pr (.sl (.pr (.int .i64) (.pr (.int .i64) .nil))) .nil) (p8 x9).1 (p8 x9).2.1),(.s (p8 x9).2.2.1),(.i .i64 (p8 x9).2.2.2.1),(.i .i64 (p8 x9).2.2.2.2.1),(.i .i64 (p8 x9).2.2.2.2.2.1),(.i .i64 (p8 x9).2.2.2.2.2.2.1),(.i .i64 (p8 x9).2.2.2.2.2.2.2.1),(.i .i64 (pG x9).1),(.i .i64 (pG x9).2.1),(.i .i64 (pG x9).2.2.1),(.i .i64 (pG x9).2.2.2)]) 1 342) fun xD=>(ob (Cs u (ByteArray.mk #[97]) 30 10) fun xE=>(ob (lO u (aw [(.s xE.1),(.i .i64 xE.2.1),(.i .i64 xE.2.2.1),(.s xE.2.2.2.1),(.s xE.2.2.2.2.1),(.i .i64 xE.2.2.2.2.2.1),(.ro false (.pr (.int .i64) (.pr (.int .i64) .nil)) xE.2.2.2.2.2.2.1 xE.2.2.2.2.2.2.2.1),(.ro false (.pr (.sl (.pr (.int .i64) (.pr (.int .i64) .nil))) .nil) (p8 xE).1 (p8 xE).2.1),(.s (p8 xE).2.2.1),(.i .i64 (p8 xE).2.2.2.1),(.i .i64 (p8 xE).2.2.2.2.1),(.i .i64 (p8 xE).2.2.2.2.2.1),(.i .i64 (p8 xE).2.2.2.2.2.2.1),(.i .i64 (p8 xE).2.2.2.2.2.2.2.1),(.i .i64 (pG xE).1),(.i .i64 (pG xE).2.1),(.i .i64 (pG xE).2.2.1),(.i .i64 (pG xE).2.2.2)]) 1) fun xF=>(ob (Ra u x3.1 x3.2.1 x3.2.2.1 x3.2.2.2 (ByteArray.mk #[83,49]) 5 2 (aL 5 [(.s (ByteArray.mk #[97])),(.i .i64 5),(.i .i64 5),(.i .i64 0),(.b false),(.s (ByteArray.mk #[98])),(.i .i64 40),(.i .i64 5),(.i .i64 0),(.b false)])) fun xG=>(bif ((!xG)==false) then (bif (((Int.ofNat x6.2.2.1) != 1)==false) then (bif (inb 0 x6.2.2.1) then (bif (!((ByteArray.toList (x6.2.2.2 0 0).str==ByteArray.toList (ByteArray.mk #[97]))&&(((x6.2.2.2 0 1).int==15)&&(((x6.2.2.2 0 2).int==5)&&(((x6.2.2.2 0 3).int==1)&&(((x6.2.2.2 0 4).bool==false)&&true)))))) then (some false) else (bif ((xB.2.2.2.2==0)==true) then (ob (lU u xB.1 xB.2.1 xB.2.2.1 xB.2.2.2.1 3 (aL 18 [(.s x7.1),(.i .i64 x7.2.1),(.i .i64 x7.2.2.1),(.s x7.2.2.2.1),(.s x7.2.2.2.2.1),(.i .i64 x7.2.2.2.2.2.1),(.ro false (.pr (.int .i64) (.pr (.int .i64) .nil)) x7.2.2.2.2.2.2.1 x7.2.2.2.2.2.2.2.1),(.ro false (.pr (.sl (.pr (.int .i64) (.pr (.int .i64) .nil))) .nil) (p8 x7).1 (p8 x7).2.1),(.s (p8 x7).2.2.1),(.i .i64 (p8 x7).2.2.2.1),(.i .i64 (p8 x7).2.2.2.2.1),(.i .i64 (p8 x7).2.2.2.2.2.1),(.i .i64 (p8 x7).2.2.2.2.2.2.1),(.i .i64 (p8 x7).2.2.2.2.2.2.2.1),(.i .i64 (pG x7).1),(.i .i64 (pG x7).2.1),(.i .i64 (pG x7).2.2.1),(.i .i64 (pG x7).2.2.2),(.s x8.1),(.i .i64 x8.2.1),(.i .i64 x8.2.2.1),(.s x8.2.2.2.1),(.s x8.2.2.2.2.1),(.i .i64 x8.2.2.2.2.2.1),(.ro false (.pr (.int .i64) (.pr (.int .i64) .nil)) x8.2.2.2.2.2.2.1 x8.2.2.2.2.2.2.2.1),(.ro false (.pr (.sl (.pr (.int .i64) (.pr (.int .i64) .nil))) .nil) (p8 x8).1 (p8 x8).2.1),(.s (p8 x8).2.2.1),(.i .i64 (p8 x8).2.2.2.1),(.i .i64 (p8 x8).2.2.2.2.1),(.i .i64 (p8 x8).2.2.2.2.2.1),(.i .i64 (p8 x8).2.2.2.2.2.2.1),(.i .i64 (p8 x8).2.2.2.2.2.2.2.1),(.i .i64 (pG x8).1),(.i .i64 (pG x8).2.1),(.i .i64 (pG x8).2.2.1),(.i .i64 (pG x8).2.2.2),(.s x9.1),(.i .i64 x9.2.1),(.i .i64 x9.2.2.1),(.s x9.2.2.2.1),(.s x9.2.2.2.2.1),(.i .i64 x9.2.2.2.2.2.1),(.ro false (.pr (.int .i64) (.pr (.int .i64) .nil)) x9.2.2.2.2.2.2.1 x9.2.2.2.2.2.2.2.1),(.ro false (.pr (.sl (.pr (.int .i64) (.pr (.int .i64) .nil))) .nil) (p8 x9).1 (p8 x9).2.1),(.s (p8 x9).2.2.1),(.i .i64 (p8 x9).2.2.2.1),(.i .i64 (p8 x9).2.2.2.2.1),(.i .i64 (p8 x9).2.2.2.2.2.1),(.i .i64 (p8 x9).2.2.2.2.2.2.1),(.i .i64 (p8 x9).2.2.2.2.2.2.2.1),(.i .i64 (pG x9).1),(.i .i64 (pG x9).2.1),(.i .i64 (pG x9).2.2.1),(.i .i64 (pG x9).2.2.2)])) fun xH=>(bif ((xH==1942)==true) then (bif ((xD.2.2.2.2==29)==true) then (bif ((xF.1==10)==true) then (bif ((xF.2==30)==true) then (ob (Ej u 20 20 0 (fun _ _=>.any) 5 5 10 10 5) fun xI=>(bif (xI==true) then (ob (Ej u 20 20 0 (fun _ _=>.any) 6 5 10 10 5) fun xJ=>(some (!xJ))) else (some false))) else (some false)) else (some false)) else (some false)) else (some false))) else (some false))) else none) else (some false)) else (some false)))))))))))))))))))
theorem abb:aB (C58 u) u A8 []=ob (tw u) fun t=>some [.v (.b t)]:=by
 simp only [tw,ak,au,ai,aa]
 kernel_rfl
def Za:Ora:=mkO q0 (fun x=>tw u) fun t=>[.v (.b t)]
theorem abM:DO (Za u) (C58 u) 8 A8:=dO u (fun x=>by exact abb u)
def C59:am:=(C58 u).add 8 (fun _=>true) (Za u)
def B38:An tT Tryz.f38 [.k (rl 4 16 []),.h [],.k (2::3::4::(rl 6 14 [])),.k (rl 6 4 []),.k (rl 0 20 []),.k (4::(rl 12 8 [])),.k (rl 0 4 (rl 5 15 [])),.k (rl 0 4 (rl 5 15 []))]:=by
 apply Subtype.mk;cbv<;>exact rfl
def A38:AF:=B38.1
def aam:AC:=sA A38.body [1,1]
def Us:AC:=sA A38.body [1,0,1,0,0]
def Pf:St->Option St:=nN 0 (2::3::4::(rl 6 14 []))
def LN:St:=⟨(.x (.c (ro kA n0 f0))::vxs w0::(us 3 (vxi i0::(us 14 [])))),[]⟩
def VI:St:=⟨(us 4 (vxi i0::(us 15 []))),[]⟩
def VH:St:=⟨(us 20 []),[]⟩
def oo {ρ:Type} (u:Nat) (x0:Nat) (x1:FF) (x2:ByteArray):Nat->Int->(Int->Option ρ)->(Option ρ)->Option ρ
 | 0,_,_,_=>none
 | m+1,x3,k0,k1 =>
  (bif (decide (x3<(Int.ofNat x0))) then (bif (inb x3 x0) then (bif (ByteArray.toList (x1 x3.toNat 0).str==ByteArray.toList x2) then (k0 x3) else (oo u x0 x1 x2 m (w64 (x3+1)) k0 k1)) else none) else k1)
theorem Iu:∀ (m:Nat) (x0:Int) (k0:Int->Option ρ) (k1:Option ρ),ob (oo u n0 f0 w0 m x0 k0 k1) ng=oo u n0 f0 w0 m x0 (fun x1=>ob (k0 x1) ng) (ob k1 ng)
 | 0,_,_,_=>rfl
 | m+1,x0,k0,k1=>by
  simp only [oo,ak,au,ai,Iu m]
theorem Mt:∀ (m:Nat) (x0:Int),
  aq (eB Us (C59 u) u) Pf m (LN n0 f0 x0 w0) k=oo u n0 f0 w0 m x0 (fun x1=>k .ret (VI x1)) (k (.exit 0) VH)
 | 0,_=>rfl
 | m+1,x0=>by
  simp only [oo,<- Mt m]
  kernel_rfl
def G9 (x0:Nat) (x1:FF) (x2:ByteArray):Option (Int) :=
 (oo u x0 x1 x2 u 0
  (fun x3=>(some x3))
  (some (-1)))
theorem abv:aB (C59 u) u A38 [.v (ro kA n0 f0),.v (.s w0)]=ob (G9 u n0 f0 w0) fun t=>some [.v (vi t)]:=Eq.trans (b:=(aq (eB Us (C59 u) u) Pf u (LN n0 f0 0 w0) (aD 0 (aJ (C59 u) u (rl 4 16 []) aam (aG A38))))) (by kernel_rfl) (by
 simp only [G9,ak,au,ai,aa,Iu,Mt]<;>kernel_rfl)
def Zu:Ora:=mkO (qc (av (cL kA)) (q1 (av cS))) (fun x=>G9 u x.1.1 x.1.2 x.2) fun t=>[.v (vi t)]
theorem ab6:DO (Zu u) (C59 u) 38 A38:=dO u (fun x=>by exact abv u x.1.1 x.1.2 x.2)
def C60:am:=(C59 u).add 38 (fun _=>true) (Zu u)
def acw:An tT Tryz.f116 [.k (0::1::(rl 3 18 []))]:=by
 apply Subtype.mk;cbv<;>exact rfl
def aaN:AF:=acw.1
def F69 (u:Nat) (x0 x1:Int):Option (Bool) :=
 (bif ((decide (x0>=(-32768)))==true) then (bif ((decide (x0<=32768))==true) then (bif ((decide (x1>=(-32768)))==true) then (some (decide (x1<=32768))) else (some false)) else (some false)) else (some false))
theorem e69:aB (C60 u) u aaN [.agg [(vi i0),(vi i1)]]=ob (F69 u i0 i1) fun t=>some [.v (.b t)]:=by
 simp only [F69,ak,au,ai,aa]
 kernel_rfl
def O69:Ora:=mkO (q1 (ag (tc ci (t1 ci)))) (fun x=>F69 u x.1 x.2) fun t=>[.v (.b t)]
theorem d69:DO (O69 u) (C60 u) 116 aaN:=dO u (fun x=>by exact e69 u x.1 x.2)
def C61:am:=(C60 u).add 116 (fun _=>true) (O69 u)
def acz:An tT Tryz.f113 [.k (rl 2 14 []),.h [],.k (1::2::(rl 4 12 [])),.k (rl 4 4 []),.k (rl 0 16 []),.k (2::(rl 10 6 [])),.k (0::1::(rl 3 13 [])),.k (0::1::(rl 3 13 []))]:=by
 apply Subtype.mk;cbv<;>exact rfl
def P3:AF:=acz.1
def Xg:AC:=sA P3.body [1,1]
def P2:AC:=sA P3.body [1,0,1,0,0]
def To:St->Option St:=nN 0 (1::2::(rl 4 12 []))
def Rp:St:=⟨(.x (.c (ro kP n0 f0))::.u::.u::vxi i0::(us 12 [])),[]⟩
def Xw:St:=⟨(.u::.u::vxb false::(us 13 [])),[]⟩
def Xv:St:=⟨(us 16 []),[]⟩
def vq {ρ:Type} (u:Nat) (x0:Nat) (x1:FF):Nat->Int->(Option ρ)->(Option ρ)->Option ρ
 | 0,_,_,_=>none
 | m+1,x2,k0,k1 =>
  (bif (decide (x2<(Int.ofNat x0))) then (bif (inb x2 x0) then (ob (F69 u (x1 x2.toNat 0).int (x1 x2.toNat 1).int) fun x3=>(bif (!x3) then k0 else (vq u x0 x1 m (w64 (x2+1)) k0 k1))) else none) else k1)
theorem M2:∀ (m:Nat) (x0:Int) (k0:Option ρ) (k1:Option ρ),ob (vq u n0 f0 m x0 k0 k1) ng=vq u n0 f0 m x0 (ob k0 ng) (ob k1 ng)
 | 0,_,_,_=>rfl
 | m+1,x0,k0,k1=>by
  simp only [vq,ak,au,ai,M2 m]
theorem Sn:∀ (m:Nat) (x0:Int),
  aq (eB P2 (C61 u) u) To m (Rp n0 f0 x0) k=vq u n0 f0 m x0 (k .ret Xw) (k (.exit 0) Xv)
 | 0,_=>rfl
 | m+1,x0=>by
  simp only [vq,<- Sn m]
  kernel_rfl
def F66 (x0:Nat) (x1:FF):Option (Bool) :=
 (vq u x0 x1 u 0
  (some false)
  (some true))
theorem e66:aB (C61 u) u P3 [.v (ro kP n0 f0)]=ob (F66 u n0 f0) fun t=>some [.v (.b t)]:=Eq.trans (b:=(aq (eB P2 (C61 u) u) To u (Rp n0 f0 0) (aD 0 (aJ (C61 u) u (rl 2 14 []) Xg (aG P3))))) (by kernel_rfl) (by
 simp only [F66,ak,au,ai,aa,M2,Sn]<;>kernel_rfl)
def O66:Ora:=mkO (q1 (av (cL kP))) (fun x=>F66 u x.1 x.2) fun t=>[.v (.b t)]
theorem d66:DO (O66 u) (C61 u) 113 P3:=dO u (fun x=>by exact e66 u x.1 x.2)
def C62:am:=(C61 u).add 113 (fun _=>true) (O66 u)
def acu:An tT Tryz.f118 [.k (rl 0 6 (rl 7 23 []))]:=by
 apply Subtype.mk;cbv<;>exact rfl
def aaL:AF:=acu.1
def F71 (u:Nat) (x0 x1 x2 x3 x4 x5:Int):Option (Int) :=
 (some (w64 ((w64 ((w64 (x2-x0))*(w64 (x5-x1))))-(w64 ((w64 (x3-x1))*(w64 (x4-x0)))))))
theorem e71:aB (C62 u) u aaL [.agg [(vi i0),(vi i1)],.agg [(vi i2),(vi i3)],.agg [(vi i4),(vi i5)]]=ob (F71 u i0 i1 i2 i3 i4 i5) fun t=>some [.v (vi t)]:=by
 simp only [F71,ak,au,ai,aa]
 kernel_rfl
def O71:Ora:=mkO (qc (ag (tc ci (t1 ci))) (qc (ag (tc ci (t1 ci))) (q1 (ag (tc ci (t1 ci)))))) (fun x=>F71 u x.1.1 x.1.2 x.2.1.1 x.2.1.2 x.2.2.1 x.2.2.2) fun t=>[.v (vi t)]
theorem d71:DO (O71 u) (C62 u) 118 aaL:=dO u (fun x=>by exact e71 u x.1.1 x.1.2 x.2.1.1 x.2.1.2 x.2.2.1 x.2.2.2)
def C63:am:=(C62 u).add 118 (fun _=>true) (O71 u)
def acv:An tT Tryz.f117 [.k (rl 0 6 (rl 7 45 []))]:=by
 apply Subtype.mk;cbv<;>exact rfl
def aaM:AF:=acv.1
def F70 (x0 x1 x2 x3 x4 x5:Int):Option (Bool) :=
 (ob (F71 u x2 x3 x4 x5 x0 x1) fun x6=>(bif ((x6==0)==true) then (bif ((decide ((if x4<x2 then x4 else x2)<=x0))==true) then (bif ((decide (x0<=(if x4>x2 then x4 else x2)))==true) then (bif ((decide ((if x5<x3 then x5 else x3)<=x1))==true) then (some (decide (x1<=(if x5>x3 then x5 else x3)))) else (some false)) else (some false)) else (some false)) else (some false)))
theorem e70:aB (C63 u) u aaM [.agg [(vi i0),(vi i1)],.agg [(vi i2),(vi i3)],.agg [(vi i4),(vi i5)]]=ob (F70 u i0 i1 i2 i3 i4 i5) fun t=>some [.v (.b t)]:=by
 simp only [F70,ak,au,ai,aa]
 kernel_rfl
def O70:Ora:=mkO (qc (ag (tc ci (t1 ci))) (qc (ag (tc ci (t1 ci))) (q1 (ag (tc ci (t1 ci)))))) (fun x=>F70 u x.1.1 x.1.2 x.2.1.1 x.2.1.2 x.2.2.1 x.2.2.2) fun t=>[.v (.b t)]
theorem d70:DO (O70 u) (C63 u) 117 aaM:=dO u (fun x=>by exact e70 u x.1.1 x.1.2 x.2.1.1 x.2.1.2 x.2.2.1 x.2.2.2)
def C64:am:=(C63 u).add 117 (fun _=>true) (O70 u)
def acj:An tT Tryz.f135 [.k (rl 2 7 []),.k (0::1::(rl 3 6 [])),.k (0::1::(rl 3 6 [])),.k (0::1::(rl 3 6 []))]:=by
 apply Subtype.mk;cbv<;>exact rfl
def aay:AF:=acj.1
def F88 (u:Nat) (x0:Int):Option (Int) :=
 (bif (decide (x0<0)) then (some (-1)) else (bif (decide (x0>0)) then (some 1) else (some 0)))
theorem e88:aB (C64 u) u aay [.v (vi i0)]=ob (F88 u i0) fun t=>some [.v (vi t)]:=by
 simp only [F88,ak,au,ai,aa]
 kernel_rfl
def O88:Ora:=mkO (q1 (av ci)) (fun x=>F88 u x) fun t=>[.v (vi t)]
theorem d88:DO (O88 u) (C64 u) 135 aay:=dO u (fun x=>by exact e88 u x)
def C65:am:=(C64 u).add 135 (fun _=>true) (O88 u)
def aco:An tT Tryz.f129 [.k (rl 8 23 []),.k (rl 0 8 (rl 9 48 [])),.k (rl 0 8 (rl 9 48 []))]:=by
 apply Subtype.mk;cbv<;>exact rfl
def aaG:AF:=aco.1
def F82 (x0 x1 x2 x3 x4 x5 x6 x7:Int):Option (Bool) :=
 (ob (F70 u x0 x1 x4 x5 x6 x7) fun x8=>(bif (x8==false) then (ob (F70 u x2 x3 x4 x5 x6 x7) fun x9=>(bif (x9==false) then (ob (F70 u x4 x5 x0 x1 x2 x3) fun xA=>(bif (xA==false) then (ob (F70 u x6 x7 x0 x1 x2 x3) fun xB=>(bif xB then (some true) else (ob (F71 u x0 x1 x2 x3 x4 x5) fun xC=>(ob (F88 u xC) fun xD=>(ob (F71 u x0 x1 x2 x3 x6 x7) fun xE=>(ob (F88 u xE) fun xF=>(bif ((decide ((w64 (xD*xF))<0))==true) then (ob (F71 u x4 x5 x6 x7 x0 x1) fun xG=>(ob (F88 u xG) fun xH=>(ob (F71 u x4 x5 x6 x7 x2 x3) fun xI=>(ob (F88 u xI) fun xJ=>(some (decide ((w64 (xH*xJ))<0))))))) else (some false)))))))) else (some true))) else (some true))) else (some true)))
theorem e82:aB (C65 u) u aaG [.agg [(vi i0),(vi i1)],.agg [(vi i2),(vi i3)],.agg [(vi i4),(vi i5)],.agg [(vi i6),(vi i7)]]=ob (F82 u i0 i1 i2 i3 i4 i5 i6 i7) fun t=>some [.v (.b t)]:=by
 simp only [F82,ak,au,ai,aa]
 kernel_rfl
def O82:Ora:=mkO (qc (ag (tc ci (t1 ci))) (qc (ag (tc ci (t1 ci))) (qc (ag (tc ci (t1 ci))) (q1 (ag (tc ci (t1 ci))))))) (fun x=>F82 u x.1.1 x.1.2 x.2.1.1 x.2.1.2 x.2.2.1.1 x.2.2.1.2 x.2.2.2.1 x.2.2.2.2) fun t=>[.v (.b t)]
theorem d82:DO (O82 u) (C65 u) 129 aaG:=dO u (fun x=>by exact e82 u x.1.1 x.1.2 x.2.1.1 x.2.1.2 x.2.2.1.1 x.2.2.1.2 x.2.2.2.1 x.2.2.2.2)
def C66:am:=(C65 u).add 129 (fun _=>true) (O82 u)
def acy:An tT Tryz.f114 [.k (2::4::5::(rl 13 19 [])),.h [],.k (1::2::(rl 5 89 [])),.k [13,14,15],.k (1::2::(rl 4 90 [])),.k (2::5::(rl 18 14 [])),.h [],.k (1::2::(rl 6 88 [])),.k [18,19,20],.k (1::2::(rl 5 89 [])),.k (2::(rl 23 9 [])),.k (0::1::(rl 3 91 [])),.k (2::(rl 6 5 (rl 32 62 []))),.h [],.k (1::2::4::5::(rl 7 87 [])),.k [32,33,34],.k (rl 0 94 []),.k (2::(rl 7 4 (rl 37 57 []))),.k (2::(rl 55 10 [])),.k (0::1::(rl 3 91 [])),.h [],.k (1::2::4::5::9::(rl 11 83 [])),.k [67,68,69],.k (1::2::4::5::(rl 7 87 [])),.k (2::(rl 72 22 [])),.k (0::1::(rl 3 91 [])),.k (0::1::(rl 3 91 []))]:=by
 apply Subtype.mk;cbv<;>exact rfl
def Hg:AF:=acy.1
def A1:AC:=sA Hg.body [1,1,1]
def Rc:AC:=sA A1 [1]
def ov:AC:=sA A1 [0,1,0,0]
def Jb:AC:=sA ov [1]
def Jc:AC:=sA Jb [1]
def Rd:AC:=sA Jb [0,0,1,1]
def PX:AC:=sA Rd [1,0,0]
def tC:AC:=sA Hg.body [1,1,0,1,0,0]
def PY:AC:=sA tC [1]
def PZ:AC:=sA PY [1]
def P0:AC:=sA PY [0,0,1,0,0]
def Tn:St->Option St:=nN 0 (1::2::(rl 6 88 []))
def Ro:St:=⟨(.x (.c (ro kP n0 f0))::.u::.u::vxi i0::vxi i1::vxi i2::(us 88 [])),[]⟩
def Rn:St:=⟨(.u::.u::vxb false::(us 91 [])),[]⟩
def Rm:St:=⟨(.x (.c (ro kP n0 f0))::.u::.u::vxi i0::vxi i1::(us 89 [])),[]⟩
def rZ {ρ:Type} (u:Nat) (x0:Nat) (x1:FF) (x2 x3:Int):Nat->Int->(Option ρ)->(Option ρ)->Option ρ
 | 0,_,_,_=>none
 | m+1,x4,k0,k1 =>
  (bif (decide (x4<x3)) then (bif (inb x3 x0) then (bif (inb x4 x0) then (bif (((x1 x3.toNat 0).int==(x1 x4.toNat 0).int)&&(((x1 x3.toNat 1).int==(x1 x4.toNat 1).int)&&true)) then k0 else (rZ u x0 x1 x2 x3 m (w64 (x4+1)) k0 k1)) else none) else none) else k1)
theorem M0:∀ (m:Nat) (x0:Int) (k0:Option ρ) (k1:Option ρ),ob (rZ u n0 f0 i0 i1 m x0 k0 k1) ng=rZ u n0 f0 i0 i1 m x0 (ob k0 ng) (ob k1 ng)
 | 0,_,_,_=>rfl
 | m+1,x0,k0,k1=>by
  simp only [rZ,ak,au,ai,M0 m]
theorem Sm:∀ (m:Nat) (x0:Int),
  aq (eB P0 (C66 u) u) Tn m (Ro n0 f0 i0 i1 x0) k=rZ u n0 f0 i0 i1 m x0 (k .ret Rn) (k (.exit 2) (Rm n0 f0 i0 i1))
 | 0,_=>rfl
 | m+1,x0=>by
  simp only [rZ,<- Sm m]
  kernel_rfl
def Dg:St->Option St:=nN 0 (1::2::(rl 5 89 []))
def HA:St:=⟨(.x (.c (ro kP n0 f0))::.u::.u::vxi i0::vxi i1::(us 89 [])),[]⟩
def KV:St:=⟨(.x (.c (ro kP n0 f0))::.u::.u::vxi i0::(us 90 [])),[]⟩
def rn {ρ:Type} (u:Nat) (x0:Nat) (x1:FF) (x2:Int):Nat->Int->(Option ρ)->(Option ρ)->Option ρ
 | 0,_,_,_=>none
 | m+1,x3,k0,k1 =>
  (bif (decide (x3<x2)) then (rZ u x0 x1 x2 x3 u 0
  k0
  (rn u x0 x1 x2 m (w64 (x3+1)) k0 k1)) else k1)
theorem MZ:∀ (m:Nat) (x0:Int) (k0:Option ρ) (k1:Option ρ),ob (rn u n0 f0 i0 m x0 k0 k1) ng=rn u n0 f0 i0 m x0 (ob k0 ng) (ob k1 ng)
 | 0,_,_,_=>rfl
 | m+1,x0,k0,k1=>by
  simp only [rn,ak,au,ai,MZ m,M0]
theorem X5 :
  aq (eB tC (C66 u) u) Dg (m+1) (HA n0 f0 i0 i1) k =
  (bif (decide (i1<i0)) then (aq (eB P0 (C66 u) u) Tn u (Ro n0 f0 i0 i1 0) (aD 2 (aD 1 (aJ (C66 u) u (2::5::(rl 18 14 [])) PZ (aS (eB tC (C66 u) u) Dg m k))))) else (k (.exit 0) (KV n0 f0 i0))):=by kernel_rfl
theorem Yv :
  (aD 2 (aD 1 (aJ (C66 u) u (2::5::(rl 18 14 [])) PZ (aS (eB tC (C66 u) u) Dg m k)))) (.exit 2) (Rm n0 f0 i0 i1) =
  (aq (eB tC (C66 u) u) Dg m (HA n0 f0 i0 (w64 (i1+1))) k):=by kernel_rfl
theorem Sl:∀ (m:Nat) (x0:Int),
  aq (eB tC (C66 u) u) Dg m (HA n0 f0 i0 x0) k=rn u n0 f0 i0 m x0 (k .ret Rn) (k (.exit 0) (KV n0 f0 i0))
 | 0,_=>rfl
 | m+1,x0=>by
  rw [X5]
  simp only [rn,Sl m,Sm,Yv]<;>kernel_rfl
def Tm:St->Option St:=nN 3 (1::2::4::5::9::(rl 11 83 []))
def Rl:St:=⟨(.x (.c (ro kP n0 f0))::.u::.u::vxi i0::.u::.u::vxi i1::.x (.ptr 0 0)::.x (.ptr 1 0)::.u::vxi i2::(us 83 [])),[.box [(vci i3),(vci i4)],.box [(vci i5),(vci i6)],.box [(vci i7),(vci i8)]]⟩
def Xu:St:=⟨(.u::.u::vxb false::(us 91 [])),[.box [(vci i0),(vci i1)],.box [(vci i2),(vci i3)],.box [(vci i4),(vci i5)]]⟩
def Rk:St:=⟨(.x (.c (ro kP n0 f0))::.u::.u::vxi i0::.u::.u::vxi i1::(us 87 [])),[.box [(vci i2),(vci i3)],.box [(vci i4),(vci i5)],.box [(vci i6),(vci i7)]]⟩
def rm {ρ:Type} (u:Nat) (x0:Nat) (x1:FF) (x2 x3 x4 x5 x6 x7 x8 x9:Int):Nat->Int->(Option ρ)->(Option ρ)->Option ρ
 | 0,_,_,_=>none
 | m+1,xA,k0,k1 =>
  (bif (decide (xA<x2)) then (bif (x2==0) then none else (bif (((Int.tmod (w64 (xA+1)) x2) != x3)==true) then (bif (inb xA x0) then (bif (x2==0) then none else (bif (inb (Int.tmod (w64 (xA+1)) x2) x0) then (ob (F82 u x4 x5 x6 x7 (x1 xA.toNat 0).int (x1 xA.toNat 1).int ((x1 (Int.toNat (Int.tmod (w64 (xA+1)) x2)) 0).int) ((x1 (Int.toNat (Int.tmod (w64 (xA+1)) x2)) 1).int)) fun xB=>(bif xB then k0 else (rm u x0 x1 x2 x3 x4 x5 x6 x7 x8 x9 m (w64 (xA+1)) k0 k1))) else none)) else none) else (rm u x0 x1 x2 x3 x4 x5 x6 x7 x8 x9 m (w64 (xA+1)) k0 k1))) else k1)
theorem MY:∀ (m:Nat) (x0:Int) (k0:Option ρ) (k1:Option ρ),ob (rm u n0 f0 i0 i1 i2 i3 i4 i5 i6 i7 m x0 k0 k1) ng=rm u n0 f0 i0 i1 i2 i3 i4 i5 i6 i7 m x0 (ob k0 ng) (ob k1 ng)
 | 0,_,_,_=>rfl
 | m+1,x0,k0,k1=>by
  simp only [rm,ak,au,ai,MY m]
theorem Sk:∀ (m:Nat) (x0:Int),
  aq (eB PX (C66 u) u) Tm m (Rl n0 f0 i0 i1 x0 i2 i3 i4 i5 i6 i7) k=rm u n0 f0 i0 i1 i2 i3 i4 i5 i6 i7 m x0 (k .ret (Xu i2 i3 i4 i5 i6 i7)) (k (.exit 6) (Rk n0 f0 i0 i1 i2 i3 i4 i5 i6 i7))
 | 0,_=>rfl
 | m+1,x0=>by
  simp only [rm,<- Sk m]
  kernel_rfl
def Df:St->Option St:=nN 0 (1::2::4::5::(rl 7 87 []))
def Hz:St:=⟨(.x (.c (ro kP n0 f0))::.u::.u::vxi i0::.u::.u::vxi i1::(us 87 [])),[]⟩
def KU:St:=⟨(.u::.u::vxb false::(us 91 [])),[.box [(vci i0),(vci i1)],.box [(vci i2),(vci i3)],.box [(vci i4),(vci i5)]]⟩
def KW:St:=⟨(us 94 []),[]⟩
def rj {ρ:Type} (u:Nat) (x0:Nat) (x1:FF) (x2:Int):Nat->Int->(Int->Int->Int->Int->Int->Int->Option ρ)->(Option ρ)->Option ρ
 | 0,_,_,_=>none
 | m+1,x3,k0,k1 =>
  (bif (decide (x3<x2)) then (bif (inb x3 x0) then (bif (x2==0) then none else (bif (inb (Int.tmod (w64 (x3+1)) x2) x0) then (bif (x2==0) then none else (bif (inb (Int.tmod (w64 (x3+2)) x2) x0) then (ob (F70 u (x1 x3.toNat 0).int (x1 x3.toNat 1).int ((x1 (Int.toNat (Int.tmod (w64 (x3+1)) x2)) 0).int) ((x1 (Int.toNat (Int.tmod (w64 (x3+1)) x2)) 1).int) ((x1 (Int.toNat (Int.tmod (w64 (x3+2)) x2)) 0).int) ((x1 (Int.toNat (Int.tmod (w64 (x3+2)) x2)) 1).int)) fun x4=>(bif (x4==false) then (ob (F70 u ((x1 (Int.toNat (Int.tmod (w64 (x3+2)) x2)) 0).int) ((x1 (Int.toNat (Int.tmod (w64 (x3+2)) x2)) 1).int) (x1 x3.toNat 0).int (x1 x3.toNat 1).int ((x1 (Int.toNat (Int.tmod (w64 (x3+1)) x2)) 0).int) ((x1 (Int.toNat (Int.tmod (w64 (x3+1)) x2)) 1).int)) fun x5=>(bif x5 then (k0 (x1 x3.toNat 0).int (x1 x3.toNat 1).int ((x1 (Int.toNat (Int.tmod (w64 (x3+1)) x2)) 0).int) ((x1 (Int.toNat (Int.tmod (w64 (x3+1)) x2)) 1).int) ((x1 (Int.toNat (Int.tmod (w64 (x3+2)) x2)) 0).int) ((x1 (Int.toNat (Int.tmod (w64 (x3+2)) x2)) 1).int)) else (rm u x0 x1 x2 x3 (x1 x3.toNat 0).int (x1 x3.toNat 1).int ((x1 (Int.toNat (Int.tmod (w64 (x3+1)) x2)) 0).int) ((x1 (Int.toNat (Int.tmod (w64 (x3+1)) x2)) 1).int) ((x1 (Int.toNat (Int.tmod (w64 (x3+2)) x2)) 0).int) ((x1 (Int.toNat (Int.tmod (w64 (x3+2)) x2)) 1).int) u (w64 (x3+2))
  (k0 (x1 x3.toNat 0).int (x1 x3.toNat 1).int ((x1 (Int.toNat (Int.tmod (w64 (x3+1)) x2)) 0).int) ((x1 (Int.toNat (Int.tmod (w64 (x3+1)) x2)) 1).int) ((x1 (Int.toNat (Int.tmod (w64 (x3+2)) x2)) 0).int) ((x1 (Int.toNat (Int.tmod (w64 (x3+2)) x2)) 1).int))
  (rj u x0 x1 x2 m (w64 (x3+1)) k0 k1)))) else (k0 (x1 x3.toNat 0).int (x1 x3.toNat 1).int ((x1 (Int.toNat (Int.tmod (w64 (x3+1)) x2)) 0).int) ((x1 (Int.toNat (Int.tmod (w64 (x3+1)) x2)) 1).int) ((x1 (Int.toNat (Int.tmod (w64 (x3+2)) x2)) 0).int) ((x1 (Int.toNat (Int.tmod (w64 (x3+2)) x2)) 1).int)))) else none)) else none)) else none) else k1)
theorem MX:∀ (m:Nat) (x0:Int) (k0:Int->Int->Int->Int->Int->Int->Option ρ) (k1:Option ρ),ob (rj u n0 f0 i0 m x0 k0 k1) ng=rj u n0 f0 i0 m x0 (fun x1 x2 x3 x4 x5 x6=>ob (k0 x1 x2 x3 x4 x5 x6) ng) (ob k1 ng)
 | 0,_,_,_=>rfl
 | m+1,x0,k0,k1=>by
  simp only [rj,ak,au,ai,MX m,MY]
theorem X4 :
  aq (eB ov (C66 u) u) Df (m+1) (Hz n0 f0 i0 i1) k =
  (bif (decide (i1<i0)) then (bif (inb i1 n0) then (bif (i0==0) then none else (bif (inb (Int.tmod (w64 (i1+1)) i0) n0) then (bif (i0==0) then none else (bif (inb (Int.tmod (w64 (i1+2)) i0) n0) then (ob (F70 u (f0 i1.toNat 0).int (f0 i1.toNat 1).int ((f0 (Int.toNat (Int.tmod (w64 (i1+1)) i0)) 0).int) ((f0 (Int.toNat (Int.tmod (w64 (i1+1)) i0)) 1).int) ((f0 (Int.toNat (Int.tmod (w64 (i1+2)) i0)) 0).int) ((f0 (Int.toNat (Int.tmod (w64 (i1+2)) i0)) 1).int)) fun x0=>(bif (x0==false) then (ob (F70 u ((f0 (Int.toNat (Int.tmod (w64 (i1+2)) i0)) 0).int) ((f0 (Int.toNat (Int.tmod (w64 (i1+2)) i0)) 1).int) (f0 i1.toNat 0).int (f0 i1.toNat 1).int ((f0 (Int.toNat (Int.tmod (w64 (i1+1)) i0)) 0).int) ((f0 (Int.toNat (Int.tmod (w64 (i1+1)) i0)) 1).int)) fun x1=>(bif x1 then (k .ret (KU (f0 i1.toNat 0).int (f0 i1.toNat 1).int ((f0 (Int.toNat (Int.tmod (w64 (i1+1)) i0)) 0).int) ((f0 (Int.toNat (Int.tmod (w64 (i1+1)) i0)) 1).int) ((f0 (Int.toNat (Int.tmod (w64 (i1+2)) i0)) 0).int) ((f0 (Int.toNat (Int.tmod (w64 (i1+2)) i0)) 1).int))) else (aq (eB PX (C66 u) u) Tm u (Rl n0 f0 i0 i1 (w64 (i1+2)) (f0 i1.toNat 0).int (f0 i1.toNat 1).int ((f0 (Int.toNat (Int.tmod (w64 (i1+1)) i0)) 0).int) ((f0 (Int.toNat (Int.tmod (w64 (i1+1)) i0)) 1).int) ((f0 (Int.toNat (Int.tmod (w64 (i1+2)) i0)) 0).int) ((f0 (Int.toNat (Int.tmod (w64 (i1+2)) i0)) 1).int)) (aD 6 (aD 5 (aJ (C66 u) u (2::(rl 7 4 (rl 37 57 []))) Jc (aS (eB ov (C66 u) u) Df m k))))))) else (k .ret (KU (f0 i1.toNat 0).int (f0 i1.toNat 1).int ((f0 (Int.toNat (Int.tmod (w64 (i1+1)) i0)) 0).int) ((f0 (Int.toNat (Int.tmod (w64 (i1+1)) i0)) 1).int) ((f0 (Int.toNat (Int.tmod (w64 (i1+2)) i0)) 0).int) ((f0 (Int.toNat (Int.tmod (w64 (i1+2)) i0)) 1).int))))) else none)) else none)) else none) else (k (.exit 4) KW)):=by kernel_rfl
theorem Yu :
  (aD 6 (aD 5 (aJ (C66 u) u (2::(rl 7 4 (rl 37 57 []))) Jc (aS (eB ov (C66 u) u) Df m k)))) (.exit 6) (Rk n0 f0 i0 i1 (f0 i1.toNat 0).int (f0 i1.toNat 1).int ((f0 (Int.toNat (Int.tmod (w64 (i1+1)) i0)) 0).int) ((f0 (Int.toNat (Int.tmod (w64 (i1+1)) i0)) 1).int) ((f0 (Int.toNat (Int.tmod (w64 (i1+2)) i0)) 0).int) ((f0 (Int.toNat (Int.tmod (w64 (i1+2)) i0)) 1).int)) =
  (aq (eB ov (C66 u) u) Df m (Hz n0 f0 i0 (w64 (i1+1))) k):=by kernel_rfl
theorem Sj:∀ (m:Nat) (x0:Int),
  aq (eB ov (C66 u) u) Df m (Hz n0 f0 i0 x0) k=rj u n0 f0 i0 m x0 (fun x1 x2 x3 x4 x5 x6=>k .ret (KU x1 x2 x3 x4 x5 x6)) (k (.exit 4) KW)
 | 0,_=>rfl
 | m+1,x0=>by
  rw [X4]
  simp only [rj,Sj m,Sk,Yu]<;>kernel_rfl
def F67 (x0:Nat) (x1:FF):Option (Bool) :=
 (rn u x0 x1 (Int.ofNat x0) u 0
  (some false)
  (rj u x0 x1 (Int.ofNat x0) u 0
  (fun x2 x3 x4 x5 x6 x7=>(some false))
  (some true)))
theorem Yt :
  (aD 0 (aJ (C66 u) u (2::4::5::(rl 13 19 [])) A1 (aG Hg))) (.exit 0) (KV n0 f0 (Int.ofNat n0)) =
  (aq (eB ov (C66 u) u) Df u (Hz n0 f0 (Int.ofNat n0) 0) (aD 4 (aJ (C66 u) u (2::(rl 6 5 (rl 32 62 []))) Rc (aG Hg)))):=by kernel_rfl
theorem e67:aB (C66 u) u Hg [.v (ro kP n0 f0)]=ob (F67 u n0 f0) fun t=>some [.v (.b t)]:=Eq.trans (b:=(aq (eB tC (C66 u) u) Dg u (HA n0 f0 (Int.ofNat n0) 0) (aD 0 (aJ (C66 u) u (2::4::5::(rl 13 19 [])) A1 (aG Hg))))) (by kernel_rfl) (by
 simp only [F67,ak,au,ai,aa,MZ,MX,Sl,Yt,Sj]<;>kernel_rfl)
def O67:Ora:=mkO (q1 (av (cL kP))) (fun x=>F67 u x.1 x.2) fun t=>[.v (.b t)]
theorem d67:DO (O67 u) (C66 u) 114 Hg:=dO u (fun x=>by exact e67 u x.1 x.2)
def C67:am:=(C66 u).add 114 (fun _=>true) (O67 u)
def B85:An tT Tryz.f85 [.k (rl 2 4 []),.k (0::1::(rl 3 12 [])),.k [2,6,7,8],.k (0::1::(rl 3 12 [])),.k [2,9,10,11],.k (0::1::(rl 3 12 [])),.k [2,12,13,14],.k (0::1::(rl 3 12 [])),.k (0::1::(rl 3 12 []))]:=by
 apply Subtype.mk;cbv<;>exact rfl
def A85:AF:=B85.1
def F37 (x0:Nat) (x1:FF):Option (Int) :=
 (bif (decide ((Int.ofNat x0)<3)) then (some 3) else (bif (decide ((Int.ofNat x0)>32)) then (some 4) else (ob (F66 u x0 x1) fun x2=>(bif (!x2) then (some 9) else (ob (F67 u x0 x1) fun x3=>(bif (!x3) then (some 17) else (some 0)))))))
theorem e37:aB (C67 u) u A85 [.v (ro kP n0 f0)]=ob (F37 u n0 f0) fun t=>some [.v (vi t)]:=by
 simp only [F37,ak,au,ai,aa]
 kernel_rfl
def O37:Ora:=mkO (q1 (av (cL kP))) (fun x=>F37 u x.1 x.2) fun t=>[.v (vi t)]
theorem d37:DO (O37 u) (C67 u) 85 A85:=dO u (fun x=>by exact e37 u x.1 x.2)
def C68:am:=(C67 u).add 85 (fun _=>true) (O37 u)
def B86:An tT Tryz.f86 [.k [2,7,8,9],.k (0::1::(rl 3 39 [])),.k (4::5::6::(rl 10 31 [])),.h [],.k (1::2::(rl 5 37 [])),.k (rl 10 4 []),.k (0::1::2::(rl 4 38 [])),.k (0::1::(rl 3 39 []))]:=by
 apply Subtype.mk;cbv<;>exact rfl
def A86:AF:=B86.1
def TX:AC:=sA A86.body [1,1]
def ZM:AC:=sA TX [1,1]
def TY:AC:=sA TX [1,0,1,0,0]
def Ty:St->Option St:=nN 0 (1::2::(rl 5 37 []))
def RL:St:=⟨(.x (.c (ro kP n0 f0))::.u::.u::vxi i0::vxi i1::(us 37 [])),[]⟩
def XK:St:=⟨(us 3 (vxi i0::(us 38 []))),[]⟩
def vw {ρ:Type} (u:Nat) (x0:Nat) (x1:FF):Nat->Int->Int->(Int->Option ρ)->Option ρ
 | 0,_,_,_=>none
 | m+1,x2,x3,k0 =>
  (bif (decide (x3<(Int.ofNat x0))) then (bif (inb x3 x0) then (bif ((Int.ofNat x0)==0) then none else (bif (inb (Int.tmod (w64 (x3+1)) (Int.ofNat x0)) x0) then (vw u x0 x1 m (w64 ((w64 (x2+(w64 ((x1 x3.toNat 0).int*((x1 (Int.toNat (Int.tmod (w64 (x3+1)) (Int.ofNat x0))) 1).int)))))-(w64 ((x1 x3.toNat 1).int*((x1 (Int.toNat (Int.tmod (w64 (x3+1)) (Int.ofNat x0))) 0).int))))) (w64 (x3+1)) k0) else none)) else none) else (k0 x2))
theorem Nj:∀ (m:Nat) (x0 x1:Int) (k0:Int->Option ρ),ob (vw u n0 f0 m x0 x1 k0) ng=vw u n0 f0 m x0 x1 (fun x2=>ob (k0 x2) ng)
 | 0,_,_,_=>rfl
 | m+1,x0,x1,k0=>by
  simp only [vw,ak,au,ai,Nj m]
theorem SF:∀ (m:Nat) (x0 x1:Int),
  aq (eB TY (C68 u) u) Ty m (RL n0 f0 x0 x1) k=vw u n0 f0 m x0 x1 (fun x2=>k (.exit 0) (XK x2))
 | 0,_,_=>rfl
 | m+1,x0,x1=>by
  simp only [vw,<- SF m]
  kernel_rfl
def F38 (x0:Nat) (x1:FF):Option (Int) :=
 (ob (F37 u x0 x1) fun x2=>(bif (x2 != 0) then (some 0) else (vw u x0 x1 u 0 0
  (fun x3=>(some x3)))))
theorem e38:aB (C68 u) u A86 [.v (ro kP n0 f0)]=ob (F38 u n0 f0) fun t=>some [.v (vi t)]:=Eq.trans (b:=(ob (F37 u n0 f0) fun x0=>(bif (x0 != 0) then (some [.v (vi 0)]) else (aq (eB TY (C68 u) u) Ty u (RL n0 f0 0 0) (aD 0 (aJ (C68 u) u (4::5::6::(rl 10 31 [])) ZM (aG A86))))))) (by kernel_rfl) (by
 simp only [F38,ak,au,ai,aa,Nj,SF]<;>kernel_rfl)
def O38:Ora:=mkO (q1 (av (cL kP))) (fun x=>F38 u x.1 x.2) fun t=>[.v (vi t)]
theorem d38:DO (O38 u) (C68 u) 86 A86:=dO u (fun x=>by exact e38 u x.1 x.2)
def C69:am:=(C68 u).add 86 (fun _=>true) (O38 u)
def acm:An tT Tryz.f131 [.k [6,31,32],.k (rl 0 6 (rl 7 28 [])),.k [6,33,34],.k (rl 0 6 (rl 7 28 [])),.k (rl 0 6 (rl 7 28 []))]:=by
 apply Subtype.mk;cbv<;>exact rfl
def aaB:AF:=acm.1
def F84 (u:Nat) (x0 x1 x2 x3 x4 x5:Int):Option (Int) :=
 (bif (decide ((w64 ((w64 ((w64 (x2-x0))*(w64 (x5-x1))))-(w64 ((w64 (x3-x1))*(w64 (x4-x0))))))>0)) then (some 1) else (bif (decide ((w64 ((w64 ((w64 (x2-x0))*(w64 (x5-x1))))-(w64 ((w64 (x3-x1))*(w64 (x4-x0))))))<0)) then (some (-1)) else (some 0)))
theorem e84:aB (C69 u) u aaB [.agg [(vi i0),(vi i1)],.agg [(vi i2),(vi i3)],.agg [(vi i4),(vi i5)]]=ob (F84 u i0 i1 i2 i3 i4 i5) fun t=>some [.v (vi t)]:=by
 simp only [F84,ak,au,ai,aa]
 kernel_rfl
def O84:Ora:=mkO (qc (ag (tc ci (t1 ci))) (qc (ag (tc ci (t1 ci))) (q1 (ag (tc ci (t1 ci)))))) (fun x=>F84 u x.1.1 x.1.2 x.2.1.1 x.2.1.2 x.2.2.1 x.2.2.2) fun t=>[.v (vi t)]
theorem d84:DO (O84 u) (C69 u) 131 aaB:=dO u (fun x=>by exact e84 u x.1.1 x.1.2 x.2.1.1 x.2.1.2 x.2.2.1 x.2.2.2)
def C70:am:=(C69 u).add 131 (fun _=>true) (O84 u)
def acn:An tT Tryz.f130 [.k (rl 0 6 (rl 7 45 []))]:=by
 apply Subtype.mk;cbv<;>exact rfl
def aaC:AF:=acn.1
def F83 (x0 x1 x2 x3 x4 x5:Int):Option (Bool) :=
 (ob (F84 u x0 x1 x2 x3 x4 x5) fun x6=>(bif ((x6==0)==true) then (bif ((decide (x4>=(if x2<x0 then x2 else x0)))==true) then (bif ((decide (x4<=(if x2>x0 then x2 else x0)))==true) then (bif ((decide (x5>=(if x3<x1 then x3 else x1)))==true) then (some (decide (x5<=(if x3>x1 then x3 else x1)))) else (some false)) else (some false)) else (some false)) else (some false)))
theorem e83:aB (C70 u) u aaC [.agg [(vi i0),(vi i1)],.agg [(vi i2),(vi i3)],.agg [(vi i4),(vi i5)]]=ob (F83 u i0 i1 i2 i3 i4 i5) fun t=>some [.v (.b t)]:=by
 simp only [F83,ak,au,ai,aa]
 kernel_rfl
def O83:Ora:=mkO (qc (ag (tc ci (t1 ci))) (qc (ag (tc ci (t1 ci))) (q1 (ag (tc ci (t1 ci)))))) (fun x=>F83 u x.1.1 x.1.2 x.2.1.1 x.2.1.2 x.2.2.1 x.2.2.2) fun t=>[.v (.b t)]
theorem d83:DO (O83 u) (C70 u) 130 aaC:=dO u (fun x=>by exact e83 u x.1.1 x.1.2 x.2.1.1 x.2.1.2 x.2.2.1 x.2.2.2)
def C71:am:=(C70 u).add 130 (fun _=>true) (O83 u)
def acx:An tT Tryz.f115 [.k (rl 8 23 []),.k (rl 0 8 (rl 9 44 [])),.k (rl 0 8 (rl 9 44 []))]:=by
 apply Subtype.mk;cbv<;>exact rfl
def aaO:AF:=acx.1
def F68 (x0 x1 x2 x3 x4 x5 x6 x7:Int):Option (Bool) :=
 (ob (F83 u x0 x1 x2 x3 x4 x5) fun x8=>(bif (x8==false) then (ob (F83 u x0 x1 x2 x3 x6 x7) fun x9=>(bif (x9==false) then (ob (F83 u x4 x5 x6 x7 x0 x1) fun xA=>(bif (xA==false) then (ob (F83 u x4 x5 x6 x7 x2 x3) fun xB=>(bif xB then (some true) else (ob (F84 u x0 x1 x2 x3 x4 x5) fun xC=>(ob (F84 u x0 x1 x2 x3 x6 x7) fun xD=>(bif ((decide ((w64 (xC*xD))<0))==true) then (ob (F84 u x4 x5 x6 x7 x0 x1) fun xE=>(ob (F84 u x4 x5 x6 x7 x2 x3) fun xF=>(some (decide ((w64 (xE*xF))<0))))) else (some false)))))) else (some true))) else (some true))) else (some true)))
theorem e68:aB (C71 u) u aaO [.agg [(vi i0),(vi i1)],.agg [(vi i2),(vi i3)],.agg [(vi i4),(vi i5)],.agg [(vi i6),(vi i7)]]=ob (F68 u i0 i1 i2 i3 i4 i5 i6 i7) fun t=>some [.v (.b t)]:=by
 simp only [F68,ak,au,ai,aa]
 kernel_rfl
def O68:Ora:=mkO (qc (ag (tc ci (t1 ci))) (qc (ag (tc ci (t1 ci))) (qc (ag (tc ci (t1 ci))) (q1 (ag (tc ci (t1 ci))))))) (fun x=>F68 u x.1.1 x.1.2 x.2.1.1 x.2.1.2 x.2.2.1.1 x.2.2.1.2 x.2.2.2.1 x.2.2.2.2) fun t=>[.v (.b t)]
theorem d68:DO (O68 u) (C71 u) 115 aaO:=dO u (fun x=>by exact e68 u x.1.1 x.1.2 x.2.1.1 x.2.1.2 x.2.2.1.1 x.2.2.1.2 x.2.2.2.1 x.2.2.2.2)
def C72:am:=(C71 u).add 115 (fun _=>true) (O68 u)
def B87:An tT Tryz.f87 [.k (rl 4 40 []),.h [],.k (2::3::4::(rl 6 38 [])),.k (rl 7 4 []),.k (rl 0 44 []),.k (4::6::(rl 13 31 [])),.h [],.k (2::3::4::(rl 7 37 [])),.k (rl 13 4 []),.k (2::3::4::(rl 6 38 [])),.k (4::(rl 19 25 [])),.k (rl 0 4 (rl 5 39 [])),.k (rl 0 4 (rl 5 39 []))]:=by
 apply Subtype.mk;cbv<;>exact rfl
def A87:AF:=B87.1
def ZL:AC:=sA A87.body [1,1]
def B5:AC:=sA A87.body [1,0,1,0,0]
def TU:AC:=sA B5 [1]
def TV:AC:=sA TU [1]
def TW:AC:=sA TU [0,0,1,0,0]
def Tx:St->Option St:=nN 0 (2::3::4::(rl 7 37 []))
def RK:St:=⟨(.x (.c (ro kP n0 f0))::.x (.c (ro kP n1 f1))::(us 3 (vxi i0::vxi i1::(us 37 [])))),[]⟩
def RI:St:=⟨(us 4 (vxb true::(us 39 []))),[]⟩
def RH:St:=⟨(.x (.c (ro kP n0 f0))::.x (.c (ro kP n1 f1))::(us 3 (vxi i0::(us 38 [])))),[]⟩
def sf {ρ:Type} (u:Nat) (x0:Nat) (x1:FF) (x2:Nat) (x3:FF) (x4:Int):Nat->Int->(Option ρ)->(Option ρ)->Option ρ
 | 0,_,_,_=>none
 | m+1,x5,k0,k1 =>
  (bif (decide (x5<(Int.ofNat x2))) then (bif (inb x4 x0) then (bif ((Int.ofNat x0)==0) then none else (bif (inb (Int.tmod (w64 (x4+1)) (Int.ofNat x0)) x0) then (bif (inb x5 x2) then (bif ((Int.ofNat x2)==0) then none else (bif (inb (Int.tmod (w64 (x5+1)) (Int.ofNat x2)) x2) then (ob (F68 u (x1 x4.toNat 0).int (x1 x4.toNat 1).int ((x1 (Int.toNat (Int.tmod (w64 (x4+1)) (Int.ofNat x0))) 0).int) ((x1 (Int.toNat (Int.tmod (w64 (x4+1)) (Int.ofNat x0))) 1).int) (x3 x5.toNat 0).int (x3 x5.toNat 1).int ((x3 (Int.toNat (Int.tmod (w64 (x5+1)) (Int.ofNat x2))) 0).int) ((x3 (Int.toNat (Int.tmod (w64 (x5+1)) (Int.ofNat x2))) 1).int)) fun x6=>(bif x6 then k0 else (sf u x0 x1 x2 x3 x4 m (w64 (x5+1)) k0 k1))) else none)) else none) else none)) else none) else k1)
theorem Ni:∀ (m:Nat) (x0:Int) (k0:Option ρ) (k1:Option ρ),ob (sf u n0 f0 n1 f1 i0 m x0 k0 k1) ng=sf u n0 f0 n1 f1 i0 m x0 (ob k0 ng) (ob k1 ng)
 | 0,_,_,_=>rfl
 | m+1,x0,k0,k1=>by
  simp only [sf,ak,au,ai,Ni m]
theorem SE:∀ (m:Nat) (x0:Int),
  aq (eB TW (C72 u) u) Tx m (RK n0 n1 f0 f1 i0 x0) k=sf u n0 f0 n1 f1 i0 m x0 (k .ret RI) (k (.exit 2) (RH n0 n1 f0 f1 i0))
 | 0,_=>rfl
 | m+1,x0=>by
  simp only [sf,<- SE m]
  kernel_rfl
def Di:St->Option St:=nN 0 (2::3::4::(rl 6 38 []))
def HC:St:=⟨(.x (.c (ro kP n0 f0))::.x (.c (ro kP n1 f1))::(us 3 (vxi i0::(us 38 [])))),[]⟩
def RG:St:=⟨(us 44 []),[]⟩
def se {ρ:Type} (u:Nat) (x0:Nat) (x1:FF) (x2:Nat) (x3:FF):Nat->Int->(Option ρ)->(Option ρ)->Option ρ
 | 0,_,_,_=>none
 | m+1,x4,k0,k1 =>
  (bif (decide (x4<(Int.ofNat x0))) then (sf u x0 x1 x2 x3 x4 u 0
  k0
  (se u x0 x1 x2 x3 m (w64 (x4+1)) k0 k1)) else k1)
theorem Nh:∀ (m:Nat) (x0:Int) (k0:Option ρ) (k1:Option ρ),ob (se u n0 f0 n1 f1 m x0 k0 k1) ng=se u n0 f0 n1 f1 m x0 (ob k0 ng) (ob k1 ng)
 | 0,_,_,_=>rfl
 | m+1,x0,k0,k1=>by
  simp only [se,ak,au,ai,Nh m,Ni]
theorem X9 :
  aq (eB B5 (C72 u) u) Di (m+1) (HC n0 n1 f0 f1 i0) k =
  (bif (decide (i0<(Int.ofNat n0))) then (aq (eB TW (C72 u) u) Tx u (RK n0 n1 f0 f1 i0 0) (aD 2 (aD 1 (aJ (C72 u) u (4::6::(rl 13 31 [])) TV (aS (eB B5 (C72 u) u) Di m k))))) else (k (.exit 0) RG)):=by kernel_rfl
theorem YB :
  (aD 2 (aD 1 (aJ (C72 u) u (4::6::(rl 13 31 [])) TV (aS (eB B5 (C72 u) u) Di m k)))) (.exit 2) (RH n0 n1 f0 f1 i0) =
  (aq (eB B5 (C72 u) u) Di m (HC n0 n1 f0 f1 (w64 (i0+1))) k):=by kernel_rfl
theorem SD:∀ (m:Nat) (x0:Int),
  aq (eB B5 (C72 u) u) Di m (HC n0 n1 f0 f1 x0) k=se u n0 f0 n1 f1 m x0 (k .ret RI) (k (.exit 0) RG)
 | 0,_=>rfl
 | m+1,x0=>by
  rw [X9]
  simp only [se,SD m,SE,YB]<;>kernel_rfl
def F39 (x0:Nat) (x1:FF) (x2:Nat) (x3:FF):Option (Bool) :=
 (se u x0 x1 x2 x3 u 0
  (some true)
  (some false))
theorem e39:aB (C72 u) u A87 [.v (ro kP n0 f0),.v (ro kP n1 f1)]=ob (F39 u n0 f0 n1 f1) fun t=>some [.v (.b t)]:=Eq.trans (b:=(aq (eB B5 (C72 u) u) Di u (HC n0 n1 f0 f1 0) (aD 0 (aJ (C72 u) u (rl 4 40 []) ZL (aG A87))))) (by kernel_rfl) (by
 simp only [F39,ak,au,ai,aa,Nh,SD]<;>kernel_rfl)
def O39:Ora:=mkO (qc (av (cL kP)) (q1 (av (cL kP)))) (fun x=>F39 u x.1.1 x.1.2 x.2.1 x.2.2) fun t=>[.v (.b t)]
theorem d39:DO (O39 u) (C72 u) 87 A87:=dO u (fun x=>by exact e39 u x.1.1 x.2.1 x.1.2 x.2.2)
def C73:am:=(C72 u).add 87 (fun _=>true) (O39 u)
def B88:An tT Tryz.f88 [.k (4::(rl 11 8 [])),.k (rl 0 4 (rl 5 81 [])),.k (4::(rl 6 5 (rl 19 66 []))),.h [],.k (1::2::4::(rl 7 79 [])),.k (rl 19 4 []),.k (rl 0 5 (rl 6 80 [])),.k (4::(rl 7 4 (rl 25 60 []))),.k (4::(rl 37 4 [])),.k (rl 0 4 (rl 5 81 [])),.k [4,85],.k (rl 0 4 (rl 5 81 [])),.k (rl 0 4 (rl 5 81 []))]:=by
 apply Subtype.mk;cbv<;>exact rfl
def A88:AF:=B88.1
def TS:AC:=sA A88.body [1,1]
def ZK:AC:=sA TS [1,1]
def TT:AC:=sA TS [1,0,1,0,0]
def Tw:St->Option St:=nN 1 (1::2::4::(rl 7 79 []))
def RF:St:=⟨(.x (.c (ro kP n0 f0))::.u::.u::.x (.ptr 0 0)::.u::vxb b0::vxi i0::(us 79 [])),[.box [(vci i1),(vci i2)]]⟩
def XJ:St:=⟨(us 4 (vxi 0::(us 81 []))),[.box [(vci i0),(vci i1)],.box [(vci i2),(vci i3)],.box [(vci i4),(vci i5)]]⟩
def XI:St:=⟨(us 5 (vxb b0::(us 80 []))),[.box [(vci i0),(vci i1)]]⟩
def ef {ρ:Type} (u:Nat) (x0:Nat) (x1:FF) (x2 x3:Int):Nat->Bool->Int->(Int->Int->Int->Int->Option ρ)->(Bool->Option ρ)->Option ρ
 | 0,_,_,_,_=>none
 | m+1,x4,x5,k0,k1 =>
  (bif (decide (x5<(Int.ofNat x0))) then (bif (inb x5 x0) then (bif ((Int.ofNat x0)==0) then none else (bif (inb (Int.tmod (w64 (x5+1)) (Int.ofNat x0)) x0) then (ob (F70 u x2 x3 (x1 x5.toNat 0).int (x1 x5.toNat 1).int ((x1 (Int.toNat (Int.tmod (w64 (x5+1)) (Int.ofNat x0))) 0).int) ((x1 (Int.toNat (Int.tmod (w64 (x5+1)) (Int.ofNat x0))) 1).int)) fun x6=>(bif x6 then (k0 (x1 x5.toNat 0).int (x1 x5.toNat 1).int ((x1 (Int.toNat (Int.tmod (w64 (x5+1)) (Int.ofNat x0))) 0).int) ((x1 (Int.toNat (Int.tmod (w64 (x5+1)) (Int.ofNat x0))) 1).int)) else (bif ((decide ((x1 x5.toNat 1).int<=x3))==true) then (bif ((decide (x3<((x1 (Int.toNat (Int.tmod (w64 (x5+1)) (Int.ofNat x0))) 1).int)))==true) then (ob (F71 u (x1 x5.toNat 0).int (x1 x5.toNat 1).int ((x1 (Int.toNat (Int.tmod (w64 (x5+1)) (Int.ofNat x0))) 0).int) ((x1 (Int.toNat (Int.tmod (w64 (x5+1)) (Int.ofNat x0))) 1).int) x2 x3) fun x7=>(bif ((decide (((x1 (Int.toNat (Int.tmod (w64 (x5+1)) (Int.ofNat x0))) 1).int)<=x3))==true) then (bif ((decide (x3<(x1 x5.toNat 1).int))==true) then (ob (F71 u (x1 x5.toNat 0).int (x1 x5.toNat 1).int ((x1 (Int.toNat (Int.tmod (w64 (x5+1)) (Int.ofNat x0))) 0).int) ((x1 (Int.toNat (Int.tmod (w64 (x5+1)) (Int.ofNat x0))) 1).int) x2 x3) fun x8=>(bif ((decide (x7>0))==false) then (bif (decide (x8<0)) then (ef u x0 x1 x2 x3 m (!x4) (w64 (x5+1)) k0 k1) else (ef u x0 x1 x2 x3 m x4 (w64 (x5+1)) k0 k1)) else (ef u x0 x1 x2 x3 m (!x4) (w64 (x5+1)) k0 k1))) else (bif ((decide (x7>0))==false) then (ef u x0 x1 x2 x3 m x4 (w64 (x5+1)) k0 k1) else (ef u x0 x1 x2 x3 m (!x4) (w64 (x5+1)) k0 k1))) else (bif ((decide (x7>0))==false) then (ef u x0 x1 x2 x3 m x4 (w64 (x5+1)) k0 k1) else (ef u x0 x1 x2 x3 m (!x4) (w64 (x5+1)) k0 k1)))) else (bif ((decide (((x1 (Int.toNat (Int.tmod (w64 (x5+1)) (Int.ofNat x0))) 1).int)<=x3))==true) then (bif ((decide (x3<(x1 x5.toNat 1).int))==true) then (ob (F71 u (x1 x5.toNat 0).int (x1 x5.toNat 1).int ((x1 (Int.toNat (Int.tmod (w64 (x5+1)) (Int.ofNat x0))) 0).int) ((x1 (Int.toNat (Int.tmod (w64 (x5+1)) (Int.ofNat x0))) 1).int) x2 x3) fun x9=>(bif (decide (x9<0)) then (ef u x0 x1 x2 x3 m (!x4) (w64 (x5+1)) k0 k1) else (ef u x0 x1 x2 x3 m x4 (w64 (x5+1)) k0 k1))) else (ef u x0 x1 x2 x3 m x4 (w64 (x5+1)) k0 k1)) else (ef u x0 x1 x2 x3 m x4 (w64 (x5+1)) k0 k1))) else (bif ((decide (((x1 (Int.toNat (Int.tmod (w64 (x5+1)) (Int.ofNat x0))) 1).int)<=x3))==true) then (bif ((decide (x3<(x1 x5.toNat 1).int))==true) then (ob (F71 u (x1 x5.toNat 0).int (x1 x5.toNat 1).int ((x1 (Int.toNat (Int.tmod (w64 (x5+1)) (Int.ofNat x0))) 0).int) ((x1 (Int.toNat (Int.tmod (w64 (x5+1)) (Int.ofNat x0))) 1).int) x2 x3) fun xA=>(bif (decide (xA<0)) then (ef u x0 x1 x2 x3 m (!x4) (w64 (x5+1)) k0 k1) else (ef u x0 x1 x2 x3 m x4 (w64 (x5+1)) k0 k1))) else (ef u x0 x1 x2 x3 m x4 (w64 (x5+1)) k0 k1)) else (ef u x0 x1 x2 x3 m x4 (w64 (x5+1)) k0 k1))))) else none)) else none) else (k1 x4))
theorem Ng:∀ (m:Nat) (x0:Bool) (x1:Int) (k0:Int->Int->Int->Int->Option ρ) (k1:Bool->Option ρ),ob (ef u n0 f0 i0 i1 m x0 x1 k0 k1) ng=ef u n0 f0 i0 i1 m x0 x1 (fun x2 x3 x4 x5=>ob (k0 x2 x3 x4 x5) ng) (fun x6=>ob (k1 x6) ng)
 | 0,_,_,_,_=>rfl
 | m+1,x0,x1,k0,k1=>by
  simp only [ef,ak,au,ai,Ng m]
theorem SC:∀ (m:Nat) (x0:Bool) (x1:Int),
  aq (eB TT (C73 u) u) Tw m (RF n0 f0 x1 i0 i1 x0) k=ef u n0 f0 i0 i1 m x0 x1 (fun x2 x3 x4 x5=>k .ret (XJ i0 i1 x2 x3 x4 x5)) (fun x6=>k (.exit 0) (XI i0 i1 x6))
 | 0,_,_=>rfl
 | m+1,x0,x1=>by
  simp only [ef,<- SC m]
  kernel_rfl
def F40 (x0:Nat) (x1:FF) (x2 x3:Int):Option (Int) :=
 (ob (F37 u x0 x1) fun x4=>(bif ((x4 != 0)==false) then (ob (F69 u x2 x3) fun x5=>(bif (!x5) then (some (-1)) else (ef u x0 x1 x2 x3 u false 0
  (fun x6 x7 x8 x9=>(some 0))
  (fun xA=>(bif xA then (some 1) else (some (-1))))))) else (some (-1))))
theorem e40:aB (C73 u) u A88 [.v (ro kP n0 f0),.agg [(vi i0),(vi i1)]]=ob (F40 u n0 f0 i0 i1) fun t=>some [.v (vi t)]:=Eq.trans (b:=(ob (F37 u n0 f0) fun x0=>(bif ((x0 != 0)==false) then (ob (F69 u i0 i1) fun x1=>(bif (!x1) then (some [.v (vi (-1))]) else (aq (eB TT (C73 u) u) Tw u (RF n0 f0 0 i0 i1 false) (aD 0 (aJ (C73 u) u (4::(rl 6 5 (rl 19 66 []))) ZK (aG A88)))))) else (some [.v (vi (-1))])))) (by kernel_rfl) (by
 simp only [F40,ak,au,ai,aa,Ng,SC]<;>kernel_rfl)
def O40:Ora:=mkO (qc (av (cL kP)) (q1 (ag (tc ci (t1 ci))))) (fun x=>F40 u x.1.1 x.1.2 x.2.1 x.2.2) fun t=>[.v (vi t)]
theorem d40:DO (O40 u) (C73 u) 88 A88:=dO u (fun x=>by exact e40 u x.1.1 x.1.2 x.2.1 x.2.2)
def C74:am:=(C73 u).add 88 (fun _=>true) (O40 u)
def B52:An tT Tryz.f52 [.k (2::(rl 8 4 [])),.k (0::1::(rl 3 90 [])),.k (2::3::(rl 12 6 [])),.k (0::1::(rl 3 90 [])),.k (2::(rl 18 4 [])),.k (0::1::(rl 3 90 [])),.k (2::(rl 4 4 (rl 22 71 []))),.h [],.k (0::2::3::(rl 5 88 [])),.k (rl 22 5 []),.k (rl 0 93 []),.k (2::5::6::7::(rl 29 64 [])),.k (2::6::(rl 34 5 [])),.k (0::1::(rl 3 90 [])),.k (2::(rl 39 18 [])),.k (0::1::(rl 3 90 [])),.h [],.k (0::2::3::6::(rl 8 85 [])),.k [57,58,59],.k (0::2::3::(rl 5 88 [])),.k (2::(rl 62 31 [])),.k (0::1::(rl 3 90 [])),.k (0::1::(rl 3 90 []))]:=by
 apply Subtype.mk;cbv<;>exact rfl
def A52:AF:=B52.1
def W6:AC:=sA A52.body [1,1]
def W7:AC:=sA W6 [1]
def PA:AC:=sA W7 [1]
def Z2:AC:=sA PA [1]
def Ca:AC:=sA PA [0,1,0,0]
def T8:AC:=sA Ca [1]
def T9:AC:=sA T8 [1]
def Z3:AC:=sA T8 [0,0,1,1]
def Z4:AC:=sA Z3 [1]
def Ua:AC:=sA Z4 [1,0,0]
def TJ:St->Option St:=nN 1 (0::2::3::6::(rl 8 85 []))
def R6:St:=⟨(.u::.x (.ptr 0 0)::.u::.u::vxi i0::.x (.c (ro kP n0 f0))::.u::vxi i1::(us 85 [])),[.box [(.c (ro kP n1 f1)),(.c (ro kF n2 f2))]]⟩
def XV:St:=⟨(.u::.u::vxi 17::(us 90 [])),[.box [(.c (ro kP n0 f0)),(.c (ro kF n1 f1))]]⟩
def R5:St:=⟨(.u::.x (.ptr 0 0)::.u::.u::vxi i0::(us 88 [])),[.box [(.c (ro kP n0 f0)),(.c (ro kF n1 f1))]]⟩
def sx {ρ:Type} (u:Nat) (x0:Int) (x1:Nat) (x2:FF) (x3:Nat) (x4:FF) (x5:Nat) (x6:FF):Nat->Int->(Option ρ)->(Option ρ)->Option ρ
 | 0,_,_,_=>none
 | m+1,x7,k0,k1 =>
  (bif (decide (x7<x0)) then (bif (inb x7 x5) then (ob (F39 u x1 x2 (x6 x7.toNat 0).len (x6 x7.toNat 0).el) fun x8=>(bif (x8==false) then (bif (inb x7 x5) then (bif (inb 0 (x6 x7.toNat 0).len) then (ob (F40 u x1 x2 ((x6 x7.toNat 0).el 0 0).int ((x6 x7.toNat 0).el 0 1).int) fun x9=>(bif ((x9 != (-1))==false) then (bif (inb x7 x5) then (bif (inb 0 x1) then (ob (F40 u (x6 x7.toNat 0).len (x6 x7.toNat 0).el (x2 0 0).int (x2 0 1).int) fun xA=>(bif (xA != (-1)) then k0 else (sx u x0 x1 x2 x3 x4 x5 x6 m (w64 (x7+1)) k0 k1))) else none) else none) else k0)) else none) else none) else k0)) else none) else k1)
theorem Nz:∀ (m:Nat) (x0:Int) (k0:Option ρ) (k1:Option ρ),ob (sx u i0 n0 f0 n1 f1 n2 f2 m x0 k0 k1) ng=sx u i0 n0 f0 n1 f1 n2 f2 m x0 (ob k0 ng) (ob k1 ng)
 | 0,_,_,_=>rfl
 | m+1,x0,k0,k1=>by
  simp only [sx,ak,au,ai,Nz m]
theorem SU:∀ (m:Nat) (x0:Int),
  aq (eB Ua (C74 u) u) TJ m (R6 n0 n1 n2 f0 f1 f2 i0 x0) k=sx u i0 n0 f0 n1 f1 n2 f2 m x0 (k .ret (XV n1 n2 f1 f2)) (k (.exit 2) (R5 n1 n2 f1 f2 i0))
 | 0,_=>rfl
 | m+1,x0=>by
  simp only [sx,<- SU m]
  kernel_rfl
def Dl:St->Option St:=nN 1 (0::2::3::(rl 5 88 []))
def HF:St:=⟨(.u::.x (.ptr 0 0)::.u::.u::vxi i0::(us 88 [])),[.box [(.c (ro kP n0 f0)),(.c (ro kF n1 f1))]]⟩
def EL:St:=⟨(.u::.u::vxi i0::(us 90 [])),[.box [(.c (ro kP n0 f0)),(.c (ro kF n1 f1))]]⟩
def R4:St:=⟨(us 93 []),[.box [(.c (ro kP n0 f0)),(.c (ro kF n1 f1))]]⟩
def vB {ρ:Type} (u:Nat) (x0:Nat) (x1:FF) (x2:Nat) (x3:FF):Nat->Int->(Int->Option ρ)->(Option ρ)->Option ρ
 | 0,_,_,_=>none
 | m+1,x4,k0,k1 =>
  (bif (decide (x4<(Int.ofNat x2))) then (bif (inb x4 x2) then (ob (F37 u (x3 x4.toNat 0).len (x3 x4.toNat 0).el) fun x5=>(bif (x5 != 0) then (k0 x5) else (ob (F38 u (x3 x4.toNat 0).len (x3 x4.toNat 0).el) fun x6=>(bif ((decide (x6>=0))==false) then (ob (F39 u x0 x1 (x3 x4.toNat 0).len (x3 x4.toNat 0).el) fun x7=>(bif (x7==false) then (bif (inb 0 (x3 x4.toNat 0).len) then (ob (F40 u x0 x1 ((x3 x4.toNat 0).el 0 0).int ((x3 x4.toNat 0).el 0 1).int) fun x8=>(bif (x8 != 1) then (k0 17) else (sx u x4 (x3 x4.toNat 0).len (x3 x4.toNat 0).el x0 x1 x2 x3 u 0
  (k0 17)
  (vB u x0 x1 x2 x3 m (w64 (x4+1)) k0 k1)))) else none) else (k0 17))) else (k0 17))))) else none) else k1)
theorem Ny:∀ (m:Nat) (x0:Int) (k0:Int->Option ρ) (k1:Option ρ),ob (vB u n0 f0 n1 f1 m x0 k0 k1) ng=vB u n0 f0 n1 f1 m x0 (fun x1=>ob (k0 x1) ng) (ob k1 ng)
 | 0,_,_,_=>rfl
 | m+1,x0,k0,k1=>by
  simp only [vB,ak,au,ai,Ny m,Nz]
theorem Yd :
  aq (eB Ca (C74 u) u) Dl (m+1) (HF n0 n1 f0 f1 i0) k =
  (bif (decide (i0<(Int.ofNat n1))) then (bif (inb i0 n1) then (ob (F37 u (f1 i0.toNat 0).len (f1 i0.toNat 0).el) fun x0=>(bif (x0 != 0) then (k .ret (EL n0 n1 f0 f1 x0)) else (ob (F38 u (f1 i0.toNat 0).len (f1 i0.toNat 0).el) fun x1=>(bif ((decide (x1>=0))==false) then (ob (F39 u n0 f0 (f1 i0.toNat 0).len (f1 i0.toNat 0).el) fun x2=>(bif (x2==false) then (bif (inb 0 (f1 i0.toNat 0).len) then (ob (F40 u n0 f0 ((f1 i0.toNat 0).el 0 0).int ((f1 i0.toNat 0).el 0 1).int) fun x3=>(bif (x3 != 1) then (k .ret (EL n0 n1 f0 f1 17)) else (aq (eB Ua (C74 u) u) TJ u (R6 (f1 i0.toNat 0).len n0 n1 (f1 i0.toNat 0).el f0 f1 i0 0) (aD 2 (aD 1 (aJ (C74 u) u (2::5::6::7::(rl 29 64 [])) T9 (aS (eB Ca (C74 u) u) Dl m k))))))) else none) else (k .ret (EL n0 n1 f0 f1 17)))) else (k .ret (EL n0 n1 f0 f1 17)))))) else none) else (k (.exit 0) (R4 n0 n1 f0 f1))):=by kernel_rfl
theorem YH :
  (aD 2 (aD 1 (aJ (C74 u) u (2::5::6::7::(rl 29 64 [])) T9 (aS (eB Ca (C74 u) u) Dl m k)))) (.exit 2) (R5 n0 n1 f0 f1 i0) =
  (aq (eB Ca (C74 u) u) Dl m (HF n0 n1 f0 f1 (w64 (i0+1))) k):=by kernel_rfl
theorem ST:∀ (m:Nat) (x0:Int),
  aq (eB Ca (C74 u) u) Dl m (HF n0 n1 f0 f1 x0) k=vB u n0 f0 n1 f1 m x0 (fun x1=>k .ret (EL n0 n1 f0 f1 x1)) (k (.exit 0) (R4 n0 n1 f0 f1))
 | 0,_=>rfl
 | m+1,x0=>by
  rw [Yd]
  simp only [vB,ST m,SU,YH]<;>kernel_rfl
def F14 (x0:Nat) (x1:FF) (x2:Nat) (x3:FF):Option (Int) :=
 (bif (decide ((Int.ofNat x2)>8)) then (some 12) else (ob (F37 u x0 x1) fun x4=>(bif (x4 != 0) then (some x4) else (ob (F38 u x0 x1) fun x5=>(bif (decide (x5<=0)) then (some 17) else (vB u x0 x1 x2 x3 u 0
  (fun x6=>(some x6))
  (some 0)))))))
theorem e14:aB (C74 u) u A52 [.agg [(ro kP n0 f0),(ro kF n1 f1)]]=ob (F14 u n0 f0 n1 f1) fun t=>some [.v (vi t)]:=Eq.trans (b:=(bif (decide ((Int.ofNat n1)>8)) then (some [.v (vi 12)]) else (ob (F37 u n0 f0) fun x0=>(bif (x0 != 0) then (some [.v (vi x0)]) else (ob (F38 u n0 f0) fun x1=>(bif (decide (x1<=0)) then (some [.v (vi 17)]) else (aq (eB Ca (C74 u) u) Dl u (HF n0 n1 f0 f1 0) (aD 0 (aJ (C74 u) u (2::(rl 4 4 (rl 22 71 []))) Z2 (aG A52)))))))))) (by kernel_rfl) (by
 simp only [F14,ak,au,ai,aa,Ny,ST]<;>kernel_rfl)
def O14:Ora:=mkO (q1 (ag (tc (cL kP) (t1 (cL kF))))) (fun x=>F14 u x.1.1 x.1.2 x.2.1 x.2.2) fun t=>[.v (vi t)]
theorem d14:DO (O14 u) (C74 u) 52 A52:=dO u (fun x=>by exact e14 u x.1.1 x.2.1 x.1.2 x.2.2)
def C75:am:=(C74 u).add 52 (fun _=>true) (O14 u)
def B27:An tT Tryz.f27 [.k (rl 6 47 []),.h [.slot 5 kA],.k (0::3::4::(rl 7 47 [])),.k (rl 8 4 []),.g [0],.k (rl 0 5 (rl 6 48 [])),.k (7::(rl 14 39 [])),.g [0],.k (rl 0 4 (rl 5 49 []))]:=by
 apply Subtype.mk;cbv<;>exact rfl
def A27:AF:=B27.1
def aar:AC:=sA A27.body [1,1,1]
def Uv:AC:=sA A27.body [1,1,0,1,0,0]
def OV:St->Option St:=nN 2 (0::3::4::(rl 7 47 []))
def K8:St:=⟨(.u::.x (.c (ro kA n0 f0))::.x (.ptr 0 0)::.u::.u::.x (.own 1 0 n1)::vxi i0::(us 47 [])),[.box [(vcs w0),(vcs w1),(vci i1),(vci i2),(vci i3),(vcs w2)],.arr kA n1 f1]⟩
def Vo:St:=⟨(us 5 (.x (.own 1 0 n0)::(us 48 []))),[.dead,.arr kA n0 f0]⟩
def jw {ρ:Type} (u:Nat) (x0:Nat) (x1:FF) (x2 x3:ByteArray) (x4 x5 x6:Int) (x7:ByteArray):Nat->Nat->Int->FF->(Nat->FF->Option ρ)->Option ρ
 | 0,_,_,_,_=>none
 | m+1,x8,x9,xA,k0 =>
  (bif (decide (x9<(Int.ofNat x0))) then (bif (inb x9 x0) then (bif (((x1 x9.toNat 2).int==1)==true) then (bif ((ByteArray.toList (x1 x9.toNat 4).str==ByteArray.toList x3)==true) then (bif (((x1 x9.toNat 5).int==x4)==true) then (ob (G9 u x0 x1 (x1 x9.toNat 0).str) fun xB=>(bif ((xB==x9)==true) then (ob (F14 u (x1 x9.toNat 6).len (x1 x9.toNat 6).el (x1 x9.toNat 7).len (x1 x9.toNat 7).el) fun xC=>(bif (xC==0) then (bif (Nat.ble (x8+1) 1073741824) then (jw u x0 x1 x2 x3 x4 x5 x6 x7 m (x8+1) (w64 (x9+1)) (aC x8 xA (aL 18 [(.s (x1 x9.toNat 0).str),(.i .i64 (x1 x9.toNat 1).int),(.i .i64 (x1 x9.toNat 2).int),(.s (x1 x9.toNat 3).str),(.s (x1 x9.toNat 4).str),(.i .i64 (x1 x9.toNat 5).int),(.ro false (.pr (.int .i64) (.pr (.int .i64) .nil)) (x1 x9.toNat 6).len (x1 x9.toNat 6).el),(.ro false (.pr (.sl (.pr (.int .i64) (.pr (.int .i64) .nil))) .nil) (x1 x9.toNat 7).len (x1 x9.toNat 7).el),(.s (x1 x9.toNat 8).str),(.i .i64 (x1 x9.toNat 9).int),(.i .i64 (x1 x9.toNat 10).int),(.i .i64 (x1 x9.toNat 11).int),(.i .i64 (x1 x9.toNat 12).int),(.i .i64 (x1 x9.toNat 13).int),(.i .i64 (x1 x9.toNat 14).int),(.i .i64 (x1 x9.toNat 15).int),(.i .i64 (x1 x9.toNat 16).int),(.i .i64 (x1 x9.toNat 17).int)])) k0) else none) else (jw u x0 x1 x2 x3 x4 x5 x6 x7 m x8 (w64 (x9+1)) xA k0))) else (jw u x0 x1 x2 x3 x4 x5 x6 x7 m x8 (w64 (x9+1)) xA k0))) else (jw u x0 x1 x2 x3 x4 x5 x6 x7 m x8 (w64 (x9+1)) xA k0)) else (jw u x0 x1 x2 x3 x4 x5 x6 x7 m x8 (w64 (x9+1)) xA k0)) else (jw u x0 x1 x2 x3 x4 x5 x6 x7 m x8 (w64 (x9+1)) xA k0)) else none) else (k0 x8 xA))
theorem HY:∀ (m:Nat) (x0:Nat) (x1:Int) (x2:FF) (k0:Nat->FF->Option ρ),ob (jw u n0 f0 w0 w1 i0 i1 i2 w2 m x0 x1 x2 k0) ng=jw u n0 f0 w0 w1 i0 i1 i2 w2 m x0 x1 x2 (fun x3 x4=>ob (k0 x3 x4) ng)
 | 0,_,_,_,_=>rfl
 | m+1,x0,x1,x2,k0=>by
  simp only [jw,ak,au,ai,HY m]
theorem L2:∀ (m:Nat) (x0:Nat) (x1:Int) (x2:FF),
  aq (eB Uv (C75 u) u) OV m (K8 n0 x0 f0 x2 x1 i0 i1 i2 w0 w1 w2) k=jw u n0 f0 w0 w1 i0 i1 i2 w2 m x0 x1 x2 (fun x3 x4=>k (.exit 0) (Vo x3 x4))
 | 0,_,_,_=>rfl
 | m+1,x0,x1,x2=>by
  simp only [jw,<- L2 m]
  kernel_rfl
def G4 (x0 x1:ByteArray) (x2 x3 x4:Int) (x5:ByteArray) (x6:Nat) (x7:FF):Option (Nat × FF) :=
 (jw u x6 x7 x0 x1 x2 x3 x4 x5 u 0 0 (fun _ _=>.any)
  (fun x8 x9=>(some (x8,x9))))
theorem aa7:aB (C75 u) u A27 [.agg [(.s w0),(.s w1),(vi i0),(vi i1),(vi i2),(.s w2)],.v (ro kA n0 f0)]=ob (G4 u w0 w1 i0 i1 i2 w2 n0 f0) fun t=>some [.v (ro kA t.1 t.2)]:=Eq.trans (b:=(aq (eB Uv (C75 u) u) OV u (K8 n0 0 f0 ca 0 i0 i1 i2 w0 w1 w2) (aD 0 (aJ (C75 u) u (rl 6 47 []) aar (aG A27))))) (by kernel_rfl) (by
 simp only [G4,ak,au,ai,aa,HY,L2]<;>kernel_rfl)
def Y6:Ora:=mkO (qc (ag (tc cS (tc cS (tc ci (tc ci (tc ci (t1 cS))))))) (q1 (av (cL kA)))) (fun x=>G4 u x.1.1 x.1.2.1 x.1.2.2.1 x.1.2.2.2.1 x.1.2.2.2.2.1 x.1.2.2.2.2.2 x.2.1 x.2.2) fun t=>[.v (ro kA t.1 t.2)]
theorem abI:DO (Y6 u) (C75 u) 27 A27:=dO u (fun x=>by exact aa7 u x.2.1 x.2.2 x.1.2.2.1 x.1.2.2.2.1 x.1.2.2.2.2.1 x.1.1 x.1.2.1 x.1.2.2.2.2.2)
def C76:am:=(C75 u).add 27 (fun _=>true) (Y6 u)
def B40:An tT Tryz.f40 [.k (4::5::(rl 7 45 [])),.h [],.k (0::(rl 5 48 [])),.k (rl 7 5 []),.k (0::1::(rl 4 49 [])),.k (5::(rl 14 38 [])),.k (rl 19 5 []),.k (0::1::(rl 3 50 []))]:=by
 apply Subtype.mk;cbv<;>exact rfl
def A40:AF:=B40.1
def aal:AC:=sA A40.body [1,1,1]
def Ur:AC:=sA A40.body [1,1,0,1,0,0]
def TG:St->Option St:=nN 3 (0::(rl 5 48 []))
def R2:St:=⟨(.u::.x (.ptr 0 0)::.x (.ptr 1 0)::.x (.ptr 2 0)::vxi i0::(us 48 [])),[.box [(.c (ro kP n0 f0)),(.c (ro kF n1 f1))],.box [(vci 0),(vci 0),(vci 0),(vci 0)],.box [(vci i1),(vci i2),(vci i3),(vci i4)]]⟩
def XT:St:=⟨(.u::.u::.x (.ptr 1 0)::.x (.ptr 2 0)::(us 49 [])),[.box [(.c (ro kP n0 f0)),(.c (ro kF n1 f1))],.box [(vci 0),(vci 0),(vci 0),(vci 0)],.box [(vci i0),(vci i1),(vci i2),(vci i3)]]⟩
def sw {ρ:Type} (u:Nat) (x0:Nat) (x1:FF) (x2:Nat) (x3:FF):Nat->Int->Int->Int->Int->Int->(Int->Int->Int->Int->Option ρ)->Option ρ
 | 0,_,_,_,_,_,_=>none
 | m+1,x4,x5,x6,x7,x8,k0 =>
  (bif (decide (x4<(Int.ofNat x0))) then (bif (inb x4 x0) then (bif (x4==0) then (sw u x0 x1 x2 x3 m (w64 (x4+1)) (if (x1 x4.toNat 0).int<(x1 x4.toNat 0).int then (x1 x4.toNat 0).int else (x1 x4.toNat 0).int) (if (x1 x4.toNat 1).int<(x1 x4.toNat 1).int then (x1 x4.toNat 1).int else (x1 x4.toNat 1).int) (if (x1 x4.toNat 0).int>(x1 x4.toNat 0).int then (x1 x4.toNat 0).int else (x1 x4.toNat 0).int) (if (x1 x4.toNat 1).int>(x1 x4.toNat 1).int then (x1 x4.toNat 1).int else (x1 x4.toNat 1).int) k0) else (sw u x0 x1 x2 x3 m (w64 (x4+1)) (if (x1 x4.toNat 0).int<x5 then (x1 x4.toNat 0).int else x5) (if (x1 x4.toNat 1).int<x6 then (x1 x4.toNat 1).int else x6) (if (x1 x4.toNat 0).int>x7 then (x1 x4.toNat 0).int else x7) (if (x1 x4.toNat 1).int>x8 then (x1 x4.toNat 1).int else x8) k0)) else none) else (k0 x5 x6 x7 x8))
theorem Nw:∀ (m:Nat) (x0 x1 x2 x3 x4:Int) (k0:Int->Int->Int->Int->Option ρ),ob (sw u n0 f0 n1 f1 m x0 x1 x2 x3 x4 k0) ng=sw u n0 f0 n1 f1 m x0 x1 x2 x3 x4 (fun x5 x6 x7 x8=>ob (k0 x5 x6 x7 x8) ng)
 | 0,_,_,_,_,_,_=>rfl
 | m+1,x0,x1,x2,x3,x4,k0=>by
  simp only [sw,ak,au,ai,Nw m]
theorem SR:∀ (m:Nat) (x0 x1 x2 x3 x4:Int),
  aq (eB Ur (C76 u) u) TG m (R2 n0 n1 f0 f1 x0 x1 x2 x3 x4) k=sw u n0 f0 n1 f1 m x0 x1 x2 x3 x4 (fun x5 x6 x7 x8=>k (.exit 0) (XT n0 n1 f0 f1 x5 x6 x7 x8))
 | 0,_,_,_,_,_=>rfl
 | m+1,x0,x1,x2,x3,x4=>by
  simp only [sw,<- SR m]
  kernel_rfl
def F21 (x0:Nat) (x1:FF) (x2:Nat) (x3:FF):Option (Int × Int × Int × Int) :=
 (sw u x0 x1 x2 x3 u 0 0 0 0 0
  (fun x4 x5 x6 x7=>(some (x4,x5,x6,x7))))
theorem e21:aB (C76 u) u A40 [.agg [(ro kP n0 f0),(ro kF n1 f1)]]=ob (F21 u n0 f0 n1 f1) fun t=>some [.agg [(vi t.1),(vi t.2.1),(vi t.2.2.1),(vi t.2.2.2)]]:=Eq.trans (b:=(aq (eB Ur (C76 u) u) TG u (R2 n0 n1 f0 f1 0 0 0 0 0) (aD 0 (aJ (C76 u) u (4::5::(rl 7 45 [])) aal (aG A40))))) (by kernel_rfl) (by
 simp only [F21,ak,au,ai,aa,Nw,SR]<;>kernel_rfl)
def O21:Ora:=mkO (q1 (ag (tc (cL kP) (t1 (cL kF))))) (fun x=>F21 u x.1.1 x.1.2 x.2.1 x.2.2) fun t=>[.agg [(vi t.1),(vi t.2.1),(vi t.2.2.1),(vi t.2.2.2)]]
theorem d21:DO (O21 u) (C76 u) 40 A40:=dO u (fun x=>by exact e21 u x.1.1 x.2.1 x.1.2 x.2.2)
def C77:am:=(C76 u).add 40 (fun _=>true) (O21 u)
def B39:An tT Tryz.f39 [.g [0],.k (rl 0 4 (rl 5 24 []))]:=by
 apply Subtype.mk;cbv<;>exact rfl
def A39:AF:=B39.1
def tv (u:Nat) (x0 x1 x2:Int):Option (Bool) :=
 (bif ((decide (x0>=(w64 (0-x2))))==true) then (bif ((decide (x0<=x2))==true) then (bif ((decide (x1>=(w64 (0-x2))))==true) then (some (decide (x1<=x2))) else (some false)) else (some false)) else (some false))
theorem aba:aB (C77 u) u A39 [.agg [(vi i0),(vi i1)],.v (vi i2)]=ob (tv u i0 i1 i2) fun t=>some [.v (.b t)]:=by
 simp only [tv,ak,au,ai,aa]
 kernel_rfl
def Y9:Ora:=mkO (qc (ag (tc ci (t1 ci))) (q1 (av ci))) (fun x=>tv u x.1.1 x.1.2 x.2) fun t=>[.v (.b t)]
theorem abL:DO (Y9 u) (C77 u) 39 A39:=dO u (fun x=>by exact aba u x.1.1 x.1.2 x.2)
def C78:am:=(C77 u).add 39 (fun _=>true) (Y9 u)
def B29:An tT Tryz.f29 [.k (4::5::(rl 10 10 [])),.g [0,1],.k (rl 0 4 (rl 6 45 [])),.k (4::5::(rl 20 17 [])),.g [0,1],.k (rl 0 4 (rl 6 45 [])),.g [0,1],.k (rl 0 4 (rl 6 45 []))]:=by
 apply Subtype.mk;cbv<;>exact rfl
def A29:AF:=B29.1
def Cq (x0:Nat->CV) (x1:Int):Option (Int × Int) :=
 (ob (F21 u (x0 6).len (x0 6).el (x0 7).len (x0 7).el) fun x2=>(ob (tv u x2.1 x2.2.1 1099511627776) fun x3=>(bif ((!x3)==false) then (ob (tv u x2.2.2.1 x2.2.2.2 1099511627776) fun x4=>(bif (!x4) then (some (0,0)) else (bif ((Int.tmod x1 2) != 0) then (some ((w64 (x2.2.2.2-x2.2.1)),(w64 (x2.2.2.1-x2.1)))) else (some ((w64 (x2.2.2.1-x2.1)),(w64 (x2.2.2.2-x2.2.1))))))) else (some (0,0)))))
theorem aa9:aB (C78 u) u A29 [.agg (pj kR0 g0),.v (vi i0)]=ob (Cq u g0 i0) fun t=>some [.v (vi t.1),.v (vi t.2)]:=by
 simp only [Cq,ak,au,ai,aa]
 kernel_rfl
def Y8:Ora:=mkO (qc (ar kR0) (q1 (av ci))) (fun x=>Cq u x.1 x.2) fun t=>[.v (vi t.1),.v (vi t.2)]
theorem abK:DO (Y8 u) (C78 u) 29 A29:=dO u (fun x=>by exact aa9 u x.2 x.1)
def C79:am:=(C78 u).add 29 (fun _=>true) (Y8 u)
def B61:An tT Tryz.f61 [.k (0::1::(rl 3 6 []))]:=by
 apply Subtype.mk;cbv<;>exact rfl
def A61:AF:=B61.1
def F44 (u:Nat) (x0:Nat) (x1:FF) (x2:Nat) (x3:FF):Option (Nat × FF) :=
 (bif (Nat.ble (1+x2) 1073741824) then (some ((1+x2),(aC 1 (aL 1 [(.ro false (.pr (.int .i64) (.pr (.int .i64) .nil)) x0 x1)]) x3))) else none)
theorem e44:aB (C79 u) u A61 [.agg [(ro kP n0 f0),(ro kF n1 f1)]]=ob (F44 u n0 f0 n1 f1) fun t=>some [.v (ro kF t.1 t.2)]:=by
 simp only [F44,ak,au,ai,aa]
 kernel_rfl
def O44:Ora:=mkO (q1 (ag (tc (cL kP) (t1 (cL kF))))) (fun x=>F44 u x.1.1 x.1.2 x.2.1 x.2.2) fun t=>[.v (ro kF t.1 t.2)]
theorem d44:DO (O44 u) (C79 u) 61 A61:=dO u (fun x=>by exact e44 u x.1.1 x.2.1 x.1.2 x.2.2)
def C80:am:=(C79 u).add 61 (fun _=>true) (O44 u)
def B62:An tT Tryz.f62 [.k (0::1::(rl 3 18 []))]:=by
 apply Subtype.mk;cbv<;>exact rfl
def A62:AF:=B62.1
def F53 (u:Nat) (x0 x1:Int):Option (Bool) :=
 (bif ((decide (x0<(-1099511627776)))==false) then (bif ((decide (x0>1099511627776))==false) then (bif ((decide (x1<(-1099511627776)))==false) then (some (decide (x1>1099511627776))) else (some true)) else (some true)) else (some true))
theorem e53:aB (C80 u) u A62 [.agg [(vi i0),(vi i1)]]=ob (F53 u i0 i1) fun t=>some [.v (.b t)]:=by
 simp only [F53,ak,au,ai,aa]
 kernel_rfl
def O53:Ora:=mkO (q1 (ag (tc ci (t1 ci)))) (fun x=>F53 u x.1 x.2) fun t=>[.v (.b t)]
theorem d53:DO (O53 u) (C80 u) 62 A62:=dO u (fun x=>by exact e53 u x.1 x.2)
def C81:am:=(C80 u).add 62 (fun _=>true) (O53 u)
def B90:An tT Tryz.f90 [.k (rl 6 6 []),.k (5::(rl 12 12 [])),.h [],.k (0::1::(rl 6 31 [])),.k (rl 12 4 []),.k (0::1::(rl 5 32 [])),.k (rl 0 4 (rl 5 32 []))]:=by
 apply Subtype.mk;cbv<;>exact rfl
def A90:AF:=B90.1
def TQ:AC:=sA A90.body [1,1]
def TR:AC:=sA TQ [1]
def Pv:AC:=sA TQ [0,1,0,0]
def Pb:St->Option St:=nN 3 (0::1::(rl 6 31 []))
def LC:St:=⟨(.u::.u::.x (.ptr 0 0)::.x (.ptr 1 0)::.x (.ptr 2 0)::vxi i0::(us 31 [])),[.box [(vci i1),(vci i2)],.box [(vcs w0),(vci i3),(vci i4),(vci i5),(vcb b0)],.box [(vci 0),(vci 0)]]⟩
def XL:St:=⟨(.u::.u::.x (.ptr 0 0)::.x (.ptr 1 0)::.x (.ptr 2 0)::(us 32 [])),[.box [(vci i0),(vci i1)],.box [(vcs w0),(vci i2),(vci i3),(vci i4),(vcb b0)],.box [(vci 0),(vci 0)]]⟩
def si {ρ:Type} (u:Nat) (x0:ByteArray) (x1 x2 x3:Int) (x4:Bool):Nat->Int->Int->Int->(Int->Int->Option ρ)->Option ρ
 | 0,_,_,_,_=>none
 | m+1,x5,x6,x7,k0 =>
  (bif (decide (x5<x3)) then (si u x0 x1 x2 x3 x4 m (w64 (x5+1)) (w64 (0-x7)) x6 k0) else (k0 x6 x7))
theorem Nk:∀ (m:Nat) (x0 x1 x2:Int) (k0:Int->Int->Option ρ),ob (si u w0 i0 i1 i2 b0 m x0 x1 x2 k0) ng=si u w0 i0 i1 i2 b0 m x0 x1 x2 (fun x3 x4=>ob (k0 x3 x4) ng)
 | 0,_,_,_,_=>rfl
 | m+1,x0,x1,x2,k0=>by
  simp only [si,ak,au,ai,Nk m]
theorem SG:∀ (m:Nat) (x0 x1 x2:Int),
  aq (eB Pv (C81 u) u) Pb m (LC x0 x1 x2 i0 i1 i2 b0 w0) k=si u w0 i0 i1 i2 b0 m x0 x1 x2 (fun x3 x4=>k (.exit 0) (XL x3 x4 i0 i1 i2 b0 w0))
 | 0,_,_,_=>rfl
 | m+1,x0,x1,x2=>by
  simp only [si,<- SG m]
  kernel_rfl
def F32 (x0 x1:Int) (x2:ByteArray) (x3 x4 x5:Int) (x6:Bool):Option (Int × Int) :=
 (bif x6 then (si u x2 x3 x4 x5 x6 u 0 (w64 (0-x0)) x1
  (fun x7 x8=>(some ((w64 (x7+x3)),(w64 (x8+x4)))))) else (si u x2 x3 x4 x5 x6 u 0 x0 x1
  (fun x9 xA=>(some ((w64 (x9+x3)),(w64 (xA+x4)))))))
theorem e32:aB (C81 u) u A90 [.agg [(vi i0),(vi i1)],.agg [(.s w0),(vi i2),(vi i3),(vi i4),(.b b0)]]=ob (F32 u i0 i1 w0 i2 i3 i4 b0) fun t=>some [.agg [(vi t.1),(vi t.2)]]:=Eq.trans (b:=(bif b0 then (aq (eB Pv (C81 u) u) Pb u (LC 0 (w64 (0-i0)) i1 i2 i3 i4 b0 w0) (aD 0 (aJ (C81 u) u (5::(rl 12 12 [])) TR (aG A90)))) else (aq (eB Pv (C81 u) u) Pb u (LC 0 i0 i1 i2 i3 i4 b0 w0) (aD 0 (aJ (C81 u) u (5::(rl 12 12 [])) TR (aG A90)))))) (by kernel_rfl) (by
 simp only [F32,ak,au,ai,aa,Nk,SG]<;>kernel_rfl)
def O32:Ora:=mkO (qc (ag (tc ci (t1 ci))) (q1 (ag (tc cS (tc ci (tc ci (tc ci (t1 cB)))))))) (fun x=>F32 u x.1.1 x.1.2 x.2.1 x.2.2.1 x.2.2.2.1 x.2.2.2.2.1 x.2.2.2.2.2) fun t=>[.agg [(vi t.1),(vi t.2)]]
theorem d32:DO (O32 u) (C81 u) 90 A90:=dO u (fun x=>by exact e32 u x.1.1 x.1.2 x.2.2.1 x.2.2.2.1 x.2.2.2.2.1 x.2.2.2.2.2 x.2.1)
def C82:am:=(C81 u).add 90 (fun _=>true) (O32 u)
def B63:An tT Tryz.f63 [.k (rl 6 25 []),.h [.slot 5 kP],.k (1::2::4::(rl 7 25 [])),.k (rl 8 4 []),.k (rl 0 5 (rl 6 26 [])),.k (7::(rl 14 17 [])),.k (rl 15 7 []),.k (rl 0 4 (rl 5 27 []))]:=by
 apply Subtype.mk;cbv<;>exact rfl
def A63:AF:=B63.1
def Z0:AC:=sA A63.body [1,1,1]
def T6:AC:=sA A63.body [1,1,0,1,0,0]
def Ts:St->Option St:=nN 2 (1::2::4::(rl 7 25 []))
def Ry:St:=⟨(.x (.c (ro kP n0 f0))::.u::.u::.x (.ptr 0 0)::.u::.x (.own 1 0 n1)::vxi i0::(us 25 [])),[.box [(vcs w0),(vci i1),(vci i2),(vci i3),(vcb b0)],.arr kP n1 f1]⟩
def XD:St:=⟨(us 5 (.x (.own 1 0 n0)::(us 26 []))),[.box [(vcs w0),(vci i0),(vci i1),(vci i2),(vcb b0)],.arr kP n0 f0]⟩
def r9 {ρ:Type} (u:Nat) (x0:Nat) (x1:FF) (x2:ByteArray) (x3 x4 x5:Int) (x6:Bool):Nat->Nat->Int->FF->(Nat->FF->Option ρ)->Option ρ
 | 0,_,_,_,_=>none
 | m+1,x7,x8,x9,k0 =>
  (bif (decide (x8<(Int.ofNat x0))) then (bif x6 then (bif (inb (w64 ((w64 ((Int.ofNat x0)-1))-x8)) x0) then (ob (F32 u ((x1 (Int.toNat (w64 ((w64 ((Int.ofNat x0)-1))-x8))) 0).int) ((x1 (Int.toNat (w64 ((w64 ((Int.ofNat x0)-1))-x8))) 1).int) x2 x3 x4 x5 x6) fun xA=>(bif (Nat.ble (x7+1) 1073741824) then (r9 u x0 x1 x2 x3 x4 x5 x6 m (x7+1) (w64 (x8+1)) (aC x7 x9 (aL 2 [(.i .i64 xA.1),(.i .i64 xA.2)])) k0) else none)) else none) else (bif (inb x8 x0) then (ob (F32 u (x1 x8.toNat 0).int (x1 x8.toNat 1).int x2 x3 x4 x5 x6) fun xB=>(bif (Nat.ble (x7+1) 1073741824) then (r9 u x0 x1 x2 x3 x4 x5 x6 m (x7+1) (w64 (x8+1)) (aC x7 x9 (aL 2 [(.i .i64 xB.1),(.i .i64 xB.2)])) k0) else none)) else none)) else (k0 x7 x9))
theorem M9:∀ (m:Nat) (x0:Nat) (x1:Int) (x2:FF) (k0:Nat->FF->Option ρ),ob (r9 u n0 f0 w0 i0 i1 i2 b0 m x0 x1 x2 k0) ng=r9 u n0 f0 w0 i0 i1 i2 b0 m x0 x1 x2 (fun x3 x4=>ob (k0 x3 x4) ng)
 | 0,_,_,_,_=>rfl
 | m+1,x0,x1,x2,k0=>by
  simp only [r9,ak,au,ai,M9 m]
theorem Sw:∀ (m:Nat) (x0:Nat) (x1:Int) (x2:FF),
  aq (eB T6 (C82 u) u) Ts m (Ry n0 x0 f0 x2 x1 i0 i1 i2 b0 w0) k=r9 u n0 f0 w0 i0 i1 i2 b0 m x0 x1 x2 (fun x3 x4=>k (.exit 0) (XD x3 x4 i0 i1 i2 b0 w0))
 | 0,_,_,_=>rfl
 | m+1,x0,x1,x2=>by
  simp only [r9,<- Sw m]
  kernel_rfl
def F54 (x0:Nat) (x1:FF) (x2:ByteArray) (x3 x4 x5:Int) (x6:Bool):Option (Nat × FF) :=
 (r9 u x0 x1 x2 x3 x4 x5 x6 u 0 0 (fun _ _=>.any)
  (fun x7 x8=>(some (x7,x8))))
theorem e54:aB (C82 u) u A63 [.v (ro kP n0 f0),.agg [(.s w0),(vi i0),(vi i1),(vi i2),(.b b0)]]=ob (F54 u n0 f0 w0 i0 i1 i2 b0) fun t=>some [.v (ro kP t.1 t.2)]:=Eq.trans (b:=(aq (eB T6 (C82 u) u) Ts u (Ry n0 0 f0 ca 0 i0 i1 i2 b0 w0) (aD 0 (aJ (C82 u) u (rl 6 25 []) Z0 (aG A63))))) (by kernel_rfl) (by
 simp only [F54,ak,au,ai,aa,M9,Sw]<;>kernel_rfl)
def O54:Ora:=mkO (qc (av (cL kP)) (q1 (ag (tc cS (tc ci (tc ci (tc ci (t1 cB)))))))) (fun x=>F54 u x.1.1 x.1.2 x.2.1 x.2.2.1 x.2.2.2.1 x.2.2.2.2.1 x.2.2.2.2.2) fun t=>[.v (ro kP t.1 t.2)]
theorem d54:DO (O54 u) (C82 u) 63 A63:=dO u (fun x=>by exact e54 u x.1.1 x.1.2 x.2.2.1 x.2.2.2.1 x.2.2.2.2.1 x.2.2.2.2.2 x.2.1)
def C83:am:=(C82 u).add 63 (fun _=>true) (O54 u)
def B41:An tT Tryz.f41 [.k (7::8::(rl 26 26 [])),.h [],.k (0::1::(rl 8 71 [])),.k (rl 26 4 []),.k (0::1::5::(rl 7 72 [])),.k (8::(rl 32 20 [])),.h [],.k (0::1::(rl 9 70 [])),.k (rl 32 7 []),.k (0::1::(rl 8 71 [])),.k [52,53],.k (rl 0 4 (rl 5 74 [])),.k (10::(rl 59 19 [])),.h [.cell 9 1 kF],.k (0::1::(rl 5 4 (rl 11 68 []))),.k (rl 59 5 []),.k (rl 0 4 (rl 5 4 (rl 10 69 []))),.k (rl 0 4 (rl 5 74 []))]:=by
 apply Subtype.mk;cbv<;>exact rfl
def A41:AF:=B41.1
def Cd:AC:=sA A41.body [1,1,1,1]
def Uo:AC:=sA Cd [1]
def aak:AC:=sA Uo [1,1]
def Up:AC:=sA Uo [1,0,1,0,0]
def l9:AC:=sA A41.body [1,1,1,0,1,0,0]
def Uq:AC:=sA l9 [1]
def I7:AC:=sA Uq [1]
def I8:AC:=sA Uq [0,0,1,0,0]
def TD:St->Option St:=nN 3 (0::1::(rl 9 70 []))
def RW:St:=⟨(.u::.u::.x (.ptr 0 0)::.x (.ptr 1 0)::.x (.ptr 2 0)::.x (.c (ro kF n0 f0))::vxb b0::vxi i0::vxi i1::(us 70 [])),[.box [(.c (ro kP n1 f1)),(.c (ro kF n2 f2))],.box [(vcs w0),(vci i2),(vci i3),(vci i4),(vcb b1)],.box [(vcn),(vcn)]]⟩
def RV:St:=⟨(.u::.u::.x (.ptr 0 0)::.x (.ptr 1 0)::.x (.ptr 2 0)::.x (.c (ro kF n0 f0))::vxb b0::vxi i0::(us 71 [])),[.box [(.c (ro kP n1 f1)),(.c (ro kF n2 f2))],.box [(vcs w0),(vci i1),(vci i2),(vci i3),(vcb b1)],.box [(vcn),(vcn)]]⟩
def ss {ρ:Type} (u:Nat) (x0:Nat) (x1:FF) (x2:Int) (x3:Nat) (x4:FF) (x5:Nat) (x6:FF) (x7:ByteArray) (x8 x9 xA:Int) (xB:Bool):Nat->Bool->Int->(Bool->Option ρ)->Option ρ
 | 0,_,_,_=>none
 | m+1,xC,xD,k0 =>
  (bif (inb x2 x0) then (bif (decide (xD<(Int.ofNat (x1 x2.toNat 0).len))) then (bif (xC==false) then (bif (inb x2 x0) then (bif (inb xD (x1 x2.toNat 0).len) then (ob (F53 u ((x1 x2.toNat 0).el xD.toNat 0).int ((x1 x2.toNat 0).el xD.toNat 1).int) fun xE=>(ss u x0 x1 x2 x3 x4 x5 x6 x7 x8 x9 xA xB m xE (w64 (xD+1)) k0)) else none) else none) else (ss u x0 x1 x2 x3 x4 x5 x6 x7 x8 x9 xA xB m true (w64 (xD+1)) k0)) else (k0 xC)) else none)
theorem Nt:∀ (m:Nat) (x0:Bool) (x1:Int) (k0:Bool->Option ρ),ob (ss u n0 f0 i0 n1 f1 n2 f2 w0 i1 i2 i3 b0 m x0 x1 k0) ng=ss u n0 f0 i0 n1 f1 n2 f2 w0 i1 i2 i3 b0 m x0 x1 (fun x2=>ob (k0 x2) ng)
 | 0,_,_,_=>rfl
 | m+1,x0,x1,k0=>by
  simp only [ss,ak,au,ai,Nt m]
theorem SO:∀ (m:Nat) (x0:Bool) (x1:Int),
  aq (eB I8 (C83 u) u) TD m (RW n0 n1 n2 f0 f1 f2 i0 x1 i1 i2 i3 x0 b0 w0) k=ss u n0 f0 i0 n1 f1 n2 f2 w0 i1 i2 i3 b0 m x0 x1 (fun x2=>k (.exit 2) (RV n0 n1 n2 f0 f1 f2 i0 i1 i2 i3 x2 b0 w0))
 | 0,_,_=>rfl
 | m+1,x0,x1=>by
  simp only [ss,<- SO m]
  kernel_rfl
def Dk:St->Option St:=nN 3 (0::1::(rl 8 71 []))
def HE:St:=⟨(.u::.u::.x (.ptr 0 0)::.x (.ptr 1 0)::.x (.ptr 2 0)::.x (.c (ro kF n0 f0))::vxb b0::vxi i0::(us 71 [])),[.box [(.c (ro kP n1 f1)),(.c (ro kF n2 f2))],.box [(vcs w0),(vci i1),(vci i2),(vci i3),(vcb b1)],.box [(vcn),(vcn)]]⟩
def LD:St:=⟨(.u::.u::.x (.ptr 0 0)::.x (.ptr 1 0)::.x (.ptr 2 0)::.u::vxb b0::(us 72 [])),[.box [(.c (ro kP n0 f0)),(.c (ro kF n1 f1))],.box [(vcs w0),(vci i0),(vci i1),(vci i2),(vcb b1)],.box [(vcn),(vcn)]]⟩
def sr {ρ:Type} (u:Nat) (x0:Nat) (x1:FF) (x2:Nat) (x3:FF) (x4:Nat) (x5:FF) (x6:ByteArray) (x7 x8 x9:Int) (xA:Bool):Nat->Bool->Int->(Bool->Option ρ)->Option ρ
 | 0,_,_,_=>none
 | m+1,xB,xC,k0 =>
  (bif (decide (xC<(Int.ofNat x0))) then (ss u x0 x1 xC x2 x3 x4 x5 x6 x7 x8 x9 xA u xB 0
  (fun xD=>(sr u x0 x1 x2 x3 x4 x5 x6 x7 x8 x9 xA m xD (w64 (xC+1)) k0))) else (k0 xB))
theorem Ns:∀ (m:Nat) (x0:Bool) (x1:Int) (k0:Bool->Option ρ),ob (sr u n0 f0 n1 f1 n2 f2 w0 i0 i1 i2 b0 m x0 x1 k0) ng=sr u n0 f0 n1 f1 n2 f2 w0 i0 i1 i2 b0 m x0 x1 (fun x2=>ob (k0 x2) ng)
 | 0,_,_,_=>rfl
 | m+1,x0,x1,k0=>by
  simp only [sr,ak,au,ai,Ns m,Nt]
theorem Yc :
  aq (eB l9 (C83 u) u) Dk (m+1) (HE n0 n1 n2 f0 f1 f2 i3 i0 i1 i2 b1 b0 w0) k =
  (bif (decide (i3<(Int.ofNat n0))) then (aq (eB I8 (C83 u) u) TD u (RW n0 n1 n2 f0 f1 f2 i3 0 i0 i1 i2 b1 b0 w0) (aD 2 (aD 1 (aJ (C83 u) u (8::(rl 32 20 [])) I7 (aS (eB l9 (C83 u) u) Dk m k))))) else (k (.exit 0) (LD n1 n2 f1 f2 i0 i1 i2 b1 b0 w0))):=by kernel_rfl
theorem YF :
  (aD 2 (aD 1 (aJ (C83 u) u (8::(rl 32 20 [])) I7 (aS (eB l9 (C83 u) u) Dk m k)))) (.exit 2) (RV n0 n1 n2 f0 f1 f2 i0 i1 i2 i3 b0 b1 w0) =
  (aq (eB l9 (C83 u) u) Dk m (HE n0 n1 n2 f0 f1 f2 (w64 (i0+1)) i1 i2 i3 b0 b1 w0) k):=by kernel_rfl
theorem SN:∀ (m:Nat) (x0:Bool) (x1:Int),
  aq (eB l9 (C83 u) u) Dk m (HE n0 n1 n2 f0 f1 f2 x1 i0 i1 i2 x0 b0 w0) k=sr u n0 f0 n1 f1 n2 f2 w0 i0 i1 i2 b0 m x0 x1 (fun x2=>k (.exit 0) (LD n1 n2 f1 f2 i0 i1 i2 x2 b0 w0))
 | 0,_,_=>rfl
 | m+1,x0,x1=>by
  rw [Yc]
  simp only [sr,SN m,SO,YF]
def TC:St->Option St:=nN 5 (0::1::(rl 5 4 (rl 11 68 [])))
def RU:St:=⟨(.u::.u::.x (.ptr 0 0)::.x (.ptr 1 0)::.x (.ptr 2 0)::(us 4 (.x (.ptr 3 0)::vxi i0::(us 68 [])))),[.box [(.c (ro kP n0 f0)),(.c (ro kF n1 f1))],.box [(vcs w0),(vci i1),(vci i2),(vci i3),(vcb b0)],.box [(vcn),(vcn)],.box [(.c (ro kP n2 f2)),(.own 4 0 n3)],.arr kF n3 f3]⟩
def XQ:St:=⟨(us 4 (.x (.ptr 2 0)::(us 4 (.x (.ptr 3 0)::(us 69 []))))),[.box [(.c (ro kP n0 f0)),(.c (ro kF n1 f1))],.box [(vcs w0),(vci i0),(vci i1),(vci i2),(vcb b0)],.box [(vcn),(vcn)],.box [(.c (ro kP n2 f2)),(.own 4 0 n3)],.arr kF n3 f3]⟩
def sq {ρ:Type} (u:Nat) (x0:Nat) (x1:FF) (x2:Nat) (x3:FF) (x4:ByteArray) (x5 x6 x7:Int) (x8:Bool) (x9:Nat) (xA:FF):Nat->Int->Nat->FF->(Nat->FF->Option ρ)->Option ρ
 | 0,_,_,_,_=>none
 | m+1,xB,xC,xD,k0 =>
  (bif (decide (xB<(Int.ofNat x2))) then (bif (inb xB x2) then (ob (F54 u (x3 xB.toNat 0).len (x3 xB.toNat 0).el x4 x5 x6 x7 x8) fun xE=>(bif (Nat.ble (xC+1) 1073741824) then (sq u x0 x1 x2 x3 x4 x5 x6 x7 x8 x9 xA m (w64 (xB+1)) (xC+1) (aC xC xD (aL 1 [(.ro false (.pr (.int .i64) (.pr (.int .i64) .nil)) xE.1 xE.2)])) k0) else none)) else none) else (k0 xC xD))
theorem Nr:∀ (m:Nat) (x0:Int) (x1:Nat) (x2:FF) (k0:Nat->FF->Option ρ),ob (sq u n0 f0 n1 f1 w0 i0 i1 i2 b0 n2 f2 m x0 x1 x2 k0) ng=sq u n0 f0 n1 f1 w0 i0 i1 i2 b0 n2 f2 m x0 x1 x2 (fun x3 x4=>ob (k0 x3 x4) ng)
 | 0,_,_,_,_=>rfl
 | m+1,x0,x1,x2,k0=>by
  simp only [sq,ak,au,ai,Nr m]
theorem SM:∀ (m:Nat) (x0:Int) (x1:Nat) (x2:FF),
  aq (eB Up (C83 u) u) TC m (RU n0 n1 n2 x1 f0 f1 f2 x2 x0 i0 i1 i2 b0 w0) k=sq u n0 f0 n1 f1 w0 i0 i1 i2 b0 n2 f2 m x0 x1 x2 (fun x3 x4=>k (.exit 4) (XQ n0 n1 n2 x3 f0 f1 f2 x4 i0 i1 i2 b0 w0))
 | 0,_,_,_=>rfl
 | m+1,x0,x1,x2=>by
  simp only [sq,<- SM m]
  kernel_rfl
def TB:St->Option St:=nN 3 (0::1::(rl 9 70 []))
def RT:St:=⟨(.u::.u::.x (.ptr 0 0)::.x (.ptr 1 0)::.x (.ptr 2 0)::.x (.c (ro kF n0 f0))::vxb true::vxi i0::vxi i1::(us 70 [])),[.box [(.c (ro kP n1 f1)),(.c (ro kF n2 f2))],.box [(vcs w0),(vci i2),(vci i3),(vci i4),(vcb b0)],.box [(vcn),(vcn)]]⟩
def RR:St:=⟨(.u::.u::.x (.ptr 0 0)::.x (.ptr 1 0)::.x (.ptr 2 0)::.x (.c (ro kF n0 f0))::vxb true::vxi i0::(us 71 [])),[.box [(.c (ro kP n1 f1)),(.c (ro kF n2 f2))],.box [(vcs w0),(vci i1),(vci i2),(vci i3),(vcb b0)],.box [(vcn),(vcn)]]⟩
def vy {ρ:Type} (u:Nat) (x0:Nat) (x1:FF) (x2:Int) (x3:Nat) (x4:FF) (x5:Nat) (x6:FF) (x7:ByteArray) (x8 x9 xA:Int) (xB:Bool):Nat->Int->(Option ρ)->Option ρ
 | 0,_,_=>none
 | m+1,xC,k0 =>
  (bif (inb x2 x0) then (bif (decide (xC<(Int.ofNat (x1 x2.toNat 0).len))) then (vy u x0 x1 x2 x3 x4 x5 x6 x7 x8 x9 xA xB m (w64 (xC+1)) k0) else k0) else none)
theorem Nq:∀ (m:Nat) (x0:Int) (k0:Option ρ),ob (vy u n0 f0 i0 n1 f1 n2 f2 w0 i1 i2 i3 b0 m x0 k0) ng=vy u n0 f0 i0 n1 f1 n2 f2 w0 i1 i2 i3 b0 m x0 (ob k0 ng)
 | 0,_,_=>rfl
 | m+1,x0,k0=>by
  simp only [vy,ak,au,ai,Nq m]
theorem SL:∀ (m:Nat) (x0:Int),
  aq (eB I8 (C83 u) u) TB m (RT n0 n1 n2 f0 f1 f2 i0 x0 i1 i2 i3 b0 w0) k=vy u n0 f0 i0 n1 f1 n2 f2 w0 i1 i2 i3 b0 m x0 (k (.exit 2) (RR n0 n1 n2 f0 f1 f2 i0 i1 i2 i3 b0 w0))
 | 0,_=>rfl
 | m+1,x0=>by
  simp only [vy,<- SL m]
  kernel_rfl
def BX:St->Option St:=nN 3 (0::1::(rl 8 71 []))
def EK:St:=⟨(.u::.u::.x (.ptr 0 0)::.x (.ptr 1 0)::.x (.ptr 2 0)::.x (.c (ro kF n0 f0))::vxb true::vxi i0::(us 71 [])),[.box [(.c (ro kP n1 f1)),(.c (ro kF n2 f2))],.box [(vcs w0),(vci i1),(vci i2),(vci i3),(vcb b0)],.box [(vcn),(vcn)]]⟩
def RQ:St:=⟨(.u::.u::.x (.ptr 0 0)::.x (.ptr 1 0)::.x (.ptr 2 0)::.u::vxb true::(us 72 [])),[.box [(.c (ro kP n0 f0)),(.c (ro kF n1 f1))],.box [(vcs w0),(vci i0),(vci i1),(vci i2),(vcb b0)],.box [(vcn),(vcn)]]⟩
def so {ρ:Type} (u:Nat) (x0:Nat) (x1:FF) (x2:Nat) (x3:FF) (x4:Nat) (x5:FF) (x6:ByteArray) (x7 x8 x9:Int) (xA:Bool):Nat->Int->(Option ρ)->Option ρ
 | 0,_,_=>none
 | m+1,xB,k0 =>
  (bif (decide (xB<(Int.ofNat x0))) then (vy u x0 x1 xB x2 x3 x4 x5 x6 x7 x8 x9 xA u 0
  (so u x0 x1 x2 x3 x4 x5 x6 x7 x8 x9 xA m (w64 (xB+1)) k0)) else k0)
theorem Np:∀ (m:Nat) (x0:Int) (k0:Option ρ),ob (so u n0 f0 n1 f1 n2 f2 w0 i0 i1 i2 b0 m x0 k0) ng=so u n0 f0 n1 f1 n2 f2 w0 i0 i1 i2 b0 m x0 (ob k0 ng)
 | 0,_,_=>rfl
 | m+1,x0,k0=>by
  simp only [so,ak,au,ai,Np m,Nq]
theorem Yb :
  aq (eB l9 (C83 u) u) BX (m+1) (EK n0 n1 n2 f0 f1 f2 i3 i0 i1 i2 b0 w0) k =
  (bif (decide (i3<(Int.ofNat n0))) then (aq (eB I8 (C83 u) u) TB u (RT n0 n1 n2 f0 f1 f2 i3 0 i0 i1 i2 b0 w0) (aD 2 (aD 1 (aJ (C83 u) u (8::(rl 32 20 [])) I7 (aS (eB l9 (C83 u) u) BX m k))))) else (k (.exit 0) (RQ n1 n2 f1 f2 i0 i1 i2 b0 w0))):=by kernel_rfl
theorem YE :
  (aD 2 (aD 1 (aJ (C83 u) u (8::(rl 32 20 [])) I7 (aS (eB l9 (C83 u) u) BX m k)))) (.exit 2) (RR n0 n1 n2 f0 f1 f2 i0 i1 i2 i3 b0 w0) =
  (aq (eB l9 (C83 u) u) BX m (EK n0 n1 n2 f0 f1 f2 (w64 (i0+1)) i1 i2 i3 b0 w0) k):=by kernel_rfl
theorem SK:∀ (m:Nat) (x0:Int),
  aq (eB l9 (C83 u) u) BX m (EK n0 n1 n2 f0 f1 f2 x0 i0 i1 i2 b0 w0) k=so u n0 f0 n1 f1 n2 f2 w0 i0 i1 i2 b0 m x0 (k (.exit 0) (RQ n1 n2 f1 f2 i0 i1 i2 b0 w0))
 | 0,_=>rfl
 | m+1,x0=>by
  rw [Yb]
  simp only [so,SK m,SL,YE]
def G2 (x0:Nat) (x1:FF) (x2:Nat) (x3:FF) (x4:ByteArray) (x5 x6 x7:Int) (x8:Bool):Option (Bool × Nat × FF × Nat × FF) :=
 (ob (F44 u x0 x1 x2 x3) fun x9=>(bif ((decide (x7<0))==false) then (bif ((decide (x7>3))==false) then (ob (F53 u x5 x6) fun xA=>(sr u x9.1 x9.2 x0 x1 x2 x3 x4 x5 x6 x7 x8 u xA 0
  (fun xB=>(bif xB then (some (true,0,(fun _ _=>.any),0,(fun _ _=>.any))) else (ob (F54 u x0 x1 x4 x5 x6 x7 x8) fun xC=>(sq u x0 x1 x2 x3 x4 x5 x6 x7 x8 xC.1 xC.2 u 0 0 (fun _ _=>.any)
  (fun xD xE=>(some (false,xC.1,xC.2,xD,xE))))))))) else (so u x9.1 x9.2 x0 x1 x2 x3 x4 x5 x6 x7 x8 u 0
  (some (true,0,(fun _ _=>.any),0,(fun _ _=>.any))))) else (so u x9.1 x9.2 x0 x1 x2 x3 x4 x5 x6 x7 x8 u 0
  (some (true,0,(fun _ _=>.any),0,(fun _ _=>.any))))))
theorem YD :
  (aD 0 (aJ (C83 u) u (7::8::(rl 26 26 [])) Cd (aG A41))) (.exit 0) (LD n0 n1 f0 f1 i0 i1 i2 b0 b1 w0) =
  (bif b0 then (some [.agg [(.ro true kP 0 ca),(.ro true kF 0 ca)]]) else (ob (F54 u n0 f0 w0 i0 i1 i2 b1) fun x0=>(aq (eB Up (C83 u) u) TC u (RU n0 n1 x0.1 0 f0 f1 x0.2 ca 0 i0 i1 i2 b1 w0) (aD 4 (aJ (C83 u) u (10::(rl 59 19 [])) aak (aG A41)))))):=by kernel_rfl
theorem e26:aB (C83 u) u A41 [.agg [(ro kP n0 f0),(ro kF n1 f1)],.agg [(.s w0),(vi i0),(vi i1),(vi i2),(.b b0)]]=ob (G2 u n0 f0 n1 f1 w0 i0 i1 i2 b0) fun t=>some (bif t.1 then [.agg [(.ro true kP 0 ca),(.ro true kF 0 ca)]] else [.agg [(ro kP t.2.1 t.2.2.1),(ro kF t.2.2.2.1 t.2.2.2.2)]]):=Eq.trans (b:=(ob (F44 u n0 f0 n1 f1) fun x0=>(bif ((decide (i2<0))==false) then (bif ((decide (i2>3))==false) then (ob (F53 u i0 i1) fun x1=>(aq (eB l9 (C83 u) u) Dk u (HE x0.1 n0 n1 x0.2 f0 f1 0 i0 i1 i2 x1 b0 w0) (aD 0 (aJ (C83 u) u (7::8::(rl 26 26 [])) Cd (aG A41))))) else (aq (eB l9 (C83 u) u) BX u (EK x0.1 n0 n1 x0.2 f0 f1 0 i0 i1 i2 b0 w0) (aD 0 (aJ (C83 u) u (7::8::(rl 26 26 [])) Cd (aG A41))))) else (aq (eB l9 (C83 u) u) BX u (EK x0.1 n0 n1 x0.2 f0 f1 0 i0 i1 i2 b0 w0) (aD 0 (aJ (C83 u) u (7::8::(rl 26 26 [])) Cd (aG A41))))))) (by kernel_rfl) (by
 simp only [G2,ak,au,ai,aa,Ns,Nr,Np,SN,YD,SM,SK,cond_true,cond_false]<;>kernel_rfl)
def F26 (x0:Nat) (x1:FF) (x2:Nat) (x3:FF) (x4:ByteArray) (x5 x6 x7:Int) (x8:Bool):Option (Nat × FF × Nat × FF):=ob (G2 u x0 x1 x2 x3 x4 x5 x6 x7 x8) fun t=>some (bif t.1 then (0,(fun _ _=>.any),0,(fun _ _=>.any)) else (t.2.1,t.2.2.1,t.2.2.2.1,t.2.2.2.2))
def O26:Ora:=mkO (qc (ag (tc (cL kP) (t1 (cL kF)))) (q1 (ag (tc cS (tc ci (tc ci (tc ci (t1 cB)))))))) (fun x=>F26 u x.1.1.1 x.1.1.2 x.1.2.1 x.1.2.2 x.2.1 x.2.2.1 x.2.2.2.1 x.2.2.2.2.1 x.2.2.2.2.2) fun t=>[.agg [(ro kP t.1 t.2.1),(ro kF t.2.2.1 t.2.2.2)]]
theorem d26:DO (O26 u) (C83 u) 41 A41:=dW u (fun x=>by exact e26 u x.1.1.1 x.1.2.1 x.1.1.2 x.1.2.2 x.2.2.1 x.2.2.2.1 x.2.2.2.2.1 x.2.2.2.2.2 x.2.1) (fun _=>rfl) fun t=>by
 obtain ⟨b,t⟩:=t
 cases b with
 | true=>exact (.cons (WkA.agg (.cons (Wk.ro (by rfl)) (.cons (Wk.ro (by rfl)) .nil))) .nil)
 | false =>
  exact (.cons (WkA.agg (.cons (Wk.refl _) (.cons (Wk.refl _) .nil))) .nil)
def C84:am:=(C83 u).add 41 (fun _=>true) (O26 u)
def B42:An tT Tryz.f42 [.k (14::(rl 18 32 [])),.g [0],.k (rl 0 14 (rl 15 129 [])),.k (14::(rl 50 30 [])),.g [0],.k (rl 0 14 (rl 15 129 [])),.k (14::16::17::(rl 82 62 [])),.h [],.k (0::1::3::(rl 6 4 (rl 11 4 (rl 17 127 [])))),.k (rl 82 4 []),.g [0],.k (rl 0 144 []),.k (14::17::(rl 88 56 [])),.k (14::(rl 92 10 [])),.g [0,1],.k (rl 0 14 (rl 15 129 [])),.g [0,1],.k (rl 0 14 (rl 15 129 [])),.g [0],.k (rl 0 14 (rl 15 129 []))]:=by
 apply Subtype.mk;cbv<;>exact rfl
def A42:AF:=B42.1
def aai:AC:=sA A42.body [1,1]
def Um:AC:=sA aai [1]
def aaj:AC:=sA Um [1,1]
def Un:AC:=sA Um [1,0,1,0,0]
def OW:St->Option St:=nN 1 (0::1::3::(rl 6 4 (rl 11 4 (rl 17 127 []))))
def K9:St:=⟨(.u::.u::.x (.c (ro kE n0 f0))::.u::vxi i0::vxi i1::(us 4 (.x (.ptr 0 0)::(us 4 (vxi i2::vxi i3::(us 127 [])))))),[.box [(vci i4),(vci i5)]]⟩
def Vq:St:=⟨(us 14 (vxb false::(us 129 []))),[.dead,.dead]⟩
def Vp:St:=⟨(us 144 []),[.dead]⟩
def jb {ρ:Type} (u:Nat) (x0:Nat) (x1:FF) (x2 x3 x4 x5 x6:Int):Nat->Int->(Option ρ)->(Option ρ)->Option ρ
 | 0,_,_,_=>none
 | m+1,x7,k0,k1 =>
  (bif (decide (x7<(Int.ofNat x0))) then (bif (inb x7 x0) then (ob (tv u (x1 x7.toNat 0).int (x1 x7.toNat 1).int 1099511627776) fun x8=>(bif ((!x8)==false) then (ob (tv u (x1 x7.toNat 2).int (x1 x7.toNat 3).int 1099511627776) fun x9=>(bif (!x9) then k0 else (bif ((decide (x5<(w64 ((x1 x7.toNat 2).int+x4))))==true) then (bif ((decide ((w64 ((w64 (x5+x2))+x4))>(x1 x7.toNat 0).int))==true) then (bif ((decide (x6<(w64 ((x1 x7.toNat 3).int+x4))))==true) then (bif (decide ((w64 ((w64 (x6+x3))+x4))>(x1 x7.toNat 1).int)) then k0 else (jb u x0 x1 x2 x3 x4 x5 x6 m (w64 (x7+1)) k0 k1)) else (jb u x0 x1 x2 x3 x4 x5 x6 m (w64 (x7+1)) k0 k1)) else (jb u x0 x1 x2 x3 x4 x5 x6 m (w64 (x7+1)) k0 k1)) else (jb u x0 x1 x2 x3 x4 x5 x6 m (w64 (x7+1)) k0 k1)))) else k0)) else none) else k1)
theorem HZ:∀ (m:Nat) (x0:Int) (k0:Option ρ) (k1:Option ρ),ob (jb u n0 f0 i0 i1 i2 i3 i4 m x0 k0 k1) ng=jb u n0 f0 i0 i1 i2 i3 i4 m x0 (ob k0 ng) (ob k1 ng)
 | 0,_,_,_=>rfl
 | m+1,x0,k0,k1=>by
  simp only [jb,ak,au,ai,HZ m]
theorem L3:∀ (m:Nat) (x0:Int),
  aq (eB Un (C84 u) u) OW m (K9 n0 f0 i0 i1 i2 x0 i3 i4) k=jb u n0 f0 i0 i1 i2 i3 i4 m x0 (k .ret Vq) (k (.exit 0) Vp)
 | 0,_=>rfl
 | m+1,x0=>by
  simp only [jb,<- L3 m]
  kernel_rfl
def Eh (x0 x1:Int) (x2:Nat) (x3:FF) (x4 x5 x6 x7 x8:Int):Option (Bool) :=
 (bif ((decide ((if x8<(if x1<x0 then x1 else x0) then x8 else (if x1<x0 then x1 else x0))<0))==false) then (bif ((decide ((if x1>x0 then x1 else x0)>32768))==false) then (bif ((decide (x8>500))==false) then (bif ((decide ((if x7<x6 then x7 else x6)<1))==false) then (bif ((decide ((if x7>x6 then x7 else x6)>32768))==false) then (ob (tv u x4 x5 32768) fun x9=>(bif (!x9) then (some false) else (bif ((decide (x4<x8))==false) then (bif ((decide (x5<x8))==false) then (bif ((decide ((w64 (x4+x6))>(w64 (x0-x8))))==false) then (bif (decide ((w64 (x5+x7))>(w64 (x1-x8)))) then (some false) else (jb u x2 x3 x6 x7 (if 1>x8 then 1 else x8) x4 x5 u 0
  (some false)
  (some true))) else (some false)) else (some false)) else (some false)))) else (some false)) else (some false)) else (some false)) else (some false)) else (some false))
theorem aa8:aB (C84 u) u A42 [.v (vi i0),.v (vi i1),.v (ro kE n0 f0),.agg [(vi i2),(vi i3)],.v (vi i4),.v (vi i5),.v (vi i6)]=ob (Eh u i0 i1 n0 f0 i2 i3 i4 i5 i6) fun t=>some [.v (.b t)]:=Eq.trans (b:=(bif ((decide ((if i6<(if i1<i0 then i1 else i0) then i6 else (if i1<i0 then i1 else i0))<0))==false) then (bif ((decide ((if i1>i0 then i1 else i0)>32768))==false) then (bif ((decide (i6>500))==false) then (bif ((decide ((if i5<i4 then i5 else i4)<1))==false) then (bif ((decide ((if i5>i4 then i5 else i4)>32768))==false) then (ob (tv u i2 i3 32768) fun x0=>(bif (!x0) then (some [.v (.b false)]) else (bif ((decide (i2<i6))==false) then (bif ((decide (i3<i6))==false) then (bif ((decide ((w64 (i2+i4))>(w64 (i0-i6))))==false) then (bif (decide ((w64 (i3+i5))>(w64 (i1-i6)))) then (some [.v (.b false)]) else (aq (eB Un (C84 u) u) OW u (K9 n0 f0 i4 i5 (if 1>i6 then 1 else i6) 0 i2 i3) (aD 0 (aJ (C84 u) u (14::16::17::(rl 82 62 [])) aaj (aG A42))))) else (some [.v (.b false)])) else (some [.v (.b false)])) else (some [.v (.b false)])))) else (some [.v (.b false)])) else (some [.v (.b false)])) else (some [.v (.b false)])) else (some [.v (.b false)])) else (some [.v (.b false)]))) (by kernel_rfl) (by
 simp only [Eh,ak,au,ai,aa,HZ,L3]<;>kernel_rfl)
def Y7:Ora:=mkO (qc (av ci) (qc (av ci) (qc (av (cL kE)) (qc (ag (tc ci (t1 ci))) (qc (av ci) (qc (av ci) (q1 (av ci)))))))) (fun x=>Eh u x.1 x.2.1 x.2.2.1.1 x.2.2.1.2 x.2.2.2.1.1 x.2.2.2.1.2 x.2.2.2.2.1 x.2.2.2.2.2.1 x.2.2.2.2.2.2) fun t=>[.v (.b t)]
theorem abJ:DO (Y7 u) (C84 u) 42 A42:=dO u (fun x=>by exact aa8 u x.2.2.1.1 x.2.2.1.2 x.1 x.2.1 x.2.2.2.1.1 x.2.2.2.1.2 x.2.2.2.2.1 x.2.2.2.2.2.1 x.2.2.2.2.2.2)
def C85:am:=(C84 u).add 42 (fun _=>true) (Y7 u)
def B14:An tT Tryz.f14 [.k (6::(rl 8 8 (rl 19 87 []))),.h [.slot 8 kE],.k (0::1::2::5::6::(rl 10 96 [])),.k (rl 19 5 []),.g [0,1,2],.k (rl 0 106 []),.k (6::(rl 10 6 (rl 26 80 []))),.k (6::(rl 35 22 [])),.g (rl 0 4 []),.k (rl 0 6 (rl 7 99 [])),.k (6::12::(rl 57 14 [])),.h [],.k (0::1::2::5::6::(rl 13 93 [])),.k [57,58,59],.k (0::1::2::5::6::(rl 12 94 [])),.k (6::(rl 62 9 [])),.g (rl 0 4 []),.k (rl 0 6 (rl 7 99 [])),.k (6::(rl 89 13 [])),.g (rl 0 5 []),.k (rl 0 6 (rl 7 99 [])),.g [0,1,2],.k (rl 0 6 (rl 7 99 []))]:=by
 apply Subtype.mk;cbv<;>exact rfl
def A14:AF:=B14.1
def Xc:AC:=sA A14.body [1,1,1,1]
def Cg:AC:=sA A14.body [1,1,1,0,1,0,0]
def UO:AC:=sA Cg [1]
def UP:AC:=sA UO [1]
def UQ:AC:=sA UO [0,0,1,1,1]
def UR:AC:=sA UQ [1]
def US:AC:=sA UQ [0,1,0,0]
def OU:St->Option St:=nN 4 (0::1::2::5::6::(rl 13 93 []))
def K7:St:=⟨(us 3 (.x (.ptr 0 0)::.x (.ptr 1 0)::.u::.u::.x (.c (ro kA n0 f0))::.x (.own 2 0 n1)::vxi i0::.x (.ptr 3 0)::vxi i1::vxi i2::(us 93 []))),[.box [(vcs w0),(vci i3),(.c (ro kB n2 f1))],.box [(vcs w1),(vcs w2),(vci i4),(vci i5),(vci i6),(vcs w3)],.arr kE n1 f2,.box [(vcs w4),(vci i7),(vci i8),(vci i9),(vcb b0)]]⟩
def sI:St:=⟨(us 6 (vxb false::(us 99 []))),[.dead,.dead,.dead,.dead]⟩
def K6:St:=⟨(us 3 (.x (.ptr 0 0)::.x (.ptr 1 0)::.u::.u::.x (.c (ro kA n0 f0))::.x (.own 2 0 n1)::vxi i0::.x (.ptr 3 0)::vxi i1::(us 94 []))),[.box [(vcs w0),(vci i2),(.c (ro kB n2 f1))],.box [(vcs w1),(vcs w2),(vci i3),(vci i4),(vci i5),(vcs w3)],.arr kE n1 f2,.box [(vcs w4),(vci i6),(vci i7),(vci i8),(vcb b0)]]⟩
def mq {ρ:Type} (u:Nat) (x0:Nat) (x1:FF) (x2:Nat) (x3 x4:Int) (x5:ByteArray) (x6:Int) (x7:Nat) (x8:FF) (x9 xA:ByteArray) (xB xC xD:Int) (xE:ByteArray) (xF:FF) (xG:ByteArray) (xH xI xJ:Int) (xK:Bool):Nat->Int->(Option ρ)->(Option ρ)->Option ρ
 | 0,_,_,_=>none
 | m+1,xL,k0,k1 =>
  (bif (decide (xL<x3)) then (bif (inb xL x7) then (bif (ByteArray.toList (x8 xL.toNat 0).str==ByteArray.toList xG) then k0 else (mq u x0 x1 x2 x3 x4 x5 x6 x7 x8 x9 xA xB xC xD xE xF xG xH xI xJ xK m (w64 (xL+1)) k0 k1)) else none) else k1)
theorem HX:∀ (m:Nat) (x0:Int) (k0:Option ρ) (k1:Option ρ),ob (mq u n0 f0 n1 i0 i1 w0 i2 n2 f1 w1 w2 i3 i4 i5 w3 f2 w4 i6 i7 i8 b0 m x0 k0 k1) ng=mq u n0 f0 n1 i0 i1 w0 i2 n2 f1 w1 w2 i3 i4 i5 w3 f2 w4 i6 i7 i8 b0 m x0 (ob k0 ng) (ob k1 ng)
 | 0,_,_,_=>rfl
 | m+1,x0,k0,k1=>by
  simp only [mq,ak,au,ai,HX m]
theorem L1:∀ (m:Nat) (x0:Int),
  aq (eB US (C85 u) u) OU m (K7 n0 n1 n2 f0 f1 f2 i0 i1 x0 i2 i3 i4 i5 i6 i7 i8 b0 w0 w1 w2 w3 w4) k=mq u n0 f0 n1 i0 i1 w0 i2 n2 f1 w1 w2 i3 i4 i5 w3 f2 w4 i6 i7 i8 b0 m x0 (k .ret sI) (k (.exit 2) (K6 n0 n1 n2 f0 f1 f2 i0 i1 i2 i3 i4 i5 i6 i7 i8 b0 w0 w1 w2 w3 w4))
 | 0,_=>rfl
 | m+1,x0=>by
  simp only [mq,<- L1 m]
  kernel_rfl
def v7:St->Option St:=nN 3 (0::1::2::5::6::(rl 10 96 []))
def DD:St:=⟨(us 3 (.x (.ptr 0 0)::.x (.ptr 1 0)::.u::.u::.x (.c (ro kA n0 f0))::.x (.own 2 0 n1)::vxi i0::(us 96 []))),[.box [(vcs w0),(vci i1),(.c (ro kB n2 f1))],.box [(vcs w1),(vcs w2),(vci i2),(vci i3),(vci i4),(vcs w3)],.arr kE n1 f2]⟩
def K5:St:=⟨(us 6 (vxb false::(us 99 []))),[.dead,.dead,.dead,.dead,.dead]⟩
def K4:St:=⟨(us 106 []),[.dead,.dead,.dead]⟩
def jI {ρ:Type} (u:Nat) (x0:Nat) (x1:FF) (x2:ByteArray) (x3:Int) (x4:Nat) (x5:FF) (x6 x7:ByteArray) (x8 x9 xA:Int) (xB:ByteArray):Nat->Nat->Int->FF->(Option ρ)->(Option ρ)->(Option ρ)->Option ρ
 | 0,_,_,_,_,_,_=>none
 | m+1,xC,xD,xE,k0,k1,k2 =>
  (bif (decide (xD<(Int.ofNat x4))) then (bif (inb xD x4) then (ob (G9 u x0 x1 (x5 xD.toNat 0).str) fun xF=>(bif ((decide (xF<0))==false) then (bif ((x5 xD.toNat 4).bool==false) then (bif ((decide ((x5 xD.toNat 3).int<0))==false) then (bif ((decide ((x5 xD.toNat 3).int>1))==false) then (ob (tv u (x5 xD.toNat 1).int (x5 xD.toNat 2).int 32768) fun xG=>(bif (!xG) then k0 else (mq u x0 x1 xC xD xF x2 x3 x4 x5 x6 x7 x8 x9 xA xB xE (x5 xD.toNat 0).str (x5 xD.toNat 1).int (x5 xD.toNat 2).int (x5 xD.toNat 3).int (x5 xD.toNat 4).bool u 0
  k0
  (bif (inb xF x0) then (ob (F26 u (x1 xF.toNat 6).len (x1 xF.toNat 6).el (x1 xF.toNat 7).len (x1 xF.toNat 7).el (x5 xD.toNat 0).str (x5 xD.toNat 1).int (x5 xD.toNat 2).int (x5 xD.toNat 3).int (x5 xD.toNat 4).bool) fun xH=>(ob (F21 u xH.1 xH.2.1 xH.2.2.1 xH.2.2.2) fun xI=>(bif (inb xF x0) then (ob (Cq u (aw (pj kR0 (x1 xF.toNat))) (x5 xD.toNat 3).int) fun xJ=>(ob (Eh u x9 xA xC xE xI.1 xI.2.1 xJ.1 xJ.2 x3) fun xK=>(bif (!xK) then k1 else (bif (Nat.ble (xC+1) 1073741824) then (jI u x0 x1 x2 x3 x4 x5 x6 x7 x8 x9 xA xB m (xC+1) (w64 (xD+1)) (aC xC xE (aL 4 [(.i .i64 xI.1),(.i .i64 xI.2.1),(.i .i64 xI.2.2.1),(.i .i64 xI.2.2.2)])) k0 k1 k2) else none)))) else none))) else none)))) else k0) else k0) else k0) else k0)) else none) else k2)
theorem HW:∀ (m:Nat) (x0:Nat) (x1:Int) (x2:FF) (k0:Option ρ) (k1:Option ρ) (k2:Option ρ),ob (jI u n0 f0 w0 i0 n1 f1 w1 w2 i1 i2 i3 w3 m x0 x1 x2 k0 k1 k2) ng=jI u n0 f0 w0 i0 n1 f1 w1 w2 i1 i2 i3 w3 m x0 x1 x2 (ob k0 ng) (ob k1 ng) (ob k2 ng)
 | 0,_,_,_,_,_,_=>rfl
 | m+1,x0,x1,x2,k0,k1,k2=>by
  simp only [jI,ak,au,ai,HW m,HX]
theorem VQ :
  aq (eB Cg (C85 u) u) v7 (m+1) (DD n0 n2 n1 f0 f1 f2 i4 i0 i1 i2 i3 w0 w1 w2 w3) k =
  (bif (decide (i4<(Int.ofNat n1))) then (bif (inb i4 n1) then (ob (G9 u n0 f0 (f1 i4.toNat 0).str) fun x0=>(bif ((decide (x0<0))==false) then (bif ((f1 i4.toNat 4).bool==false) then (bif ((decide ((f1 i4.toNat 3).int<0))==false) then (bif ((decide ((f1 i4.toNat 3).int>1))==false) then (ob (tv u (f1 i4.toNat 1).int (f1 i4.toNat 2).int 32768) fun x1=>(bif (!x1) then (k .ret sI) else (aq (eB US (C85 u) u) OU u (K7 n0 n2 n1 f0 f1 f2 i4 x0 0 i0 i1 i2 i3 (f1 i4.toNat 1).int (f1 i4.toNat 2).int (f1 i4.toNat 3).int (f1 i4.toNat 4).bool w0 w1 w2 w3 (f1 i4.toNat 0).str) (aD 2 (aJ (C85 u) u (6::12::(rl 57 14 [])) UR (aD 1 (aJ (C85 u) u (6::(rl 10 6 (rl 26 80 []))) UP (aS (eB Cg (C85 u) u) v7 m k)))))))) else (k .ret sI)) else (k .ret sI)) else (k .ret sI)) else (k .ret sI))) else none) else (k (.exit 0) K4)):=by kernel_rfl
theorem Wz :
  (aD 2 (aJ (C85 u) u (6::12::(rl 57 14 [])) UR (aD 1 (aJ (C85 u) u (6::(rl 10 6 (rl 26 80 []))) UP (aS (eB Cg (C85 u) u) v7 m k))))) (.exit 2) (K6 n0 n1 n2 f0 f1 f2 i0 i1 i2 i3 i4 i5 (f1 i0.toNat 1).int (f1 i0.toNat 2).int (f1 i0.toNat 3).int (f1 i0.toNat 4).bool w0 w1 w2 w3 (f1 i0.toNat 0).str) =
  (bif (inb i1 n0) then (ob (F26 u (f0 i1.toNat 6).len (f0 i1.toNat 6).el (f0 i1.toNat 7).len (f0 i1.toNat 7).el (f1 i0.toNat 0).str (f1 i0.toNat 1).int (f1 i0.toNat 2).int (f1 i0.toNat 3).int (f1 i0.toNat 4).bool) fun x0=>(ob (F21 u x0.1 x0.2.1 x0.2.2.1 x0.2.2.2) fun x1=>(bif (inb i1 n0) then (ob (Cq u (aw (pj kR0 (f0 i1.toNat))) (f1 i0.toNat 3).int) fun x2=>(ob (Eh u i4 i5 n1 f2 x1.1 x1.2.1 x2.1 x2.2 i2) fun x3=>(bif (!x3) then (k .ret K5) else (bif (Nat.ble (n1+1) 1073741824) then (aq (eB Cg (C85 u) u) v7 m (DD n0 (n1+1) n2 f0 f1 (aC n1 f2 (aL 4 [(vi x1.1),(vi x1.2.1),(vi x1.2.2.1),(vi x1.2.2.2)])) (w64 (i0+1)) i2 i3 i4 i5 w0 w1 w2 w3) k) else none)))) else none))) else none):=by kernel_rfl
theorem LZ:∀ (m:Nat) (x0:Nat) (x1:Int) (x2:FF),
  aq (eB Cg (C85 u) u) v7 m (DD n0 x0 n1 f0 f1 x2 x1 i0 i1 i2 i3 w0 w1 w2 w3) k=jI u n0 f0 w0 i0 n1 f1 w1 w2 i1 i2 i3 w3 m x0 x1 x2 (k .ret sI) (k .ret K5) (k (.exit 0) K4)
 | 0,_,_,_=>rfl
 | m+1,x0,x1,x2=>by
  rw [VQ]
  simp only [jI,LZ m,L1,Wz]<;>kernel_rfl
def Cp (x0:ByteArray) (x1:Int) (x2:Nat) (x3:FF) (x4 x5:ByteArray) (x6 x7 x8:Int) (x9:ByteArray) (xA:Nat) (xB:FF):Option (Bool) :=
 (ob (G4 u x4 x5 x6 x7 x8 x9 xA xB) fun xC=>(jI u xC.1 xC.2 x0 x1 x2 x3 x4 x5 x6 x7 x8 x9 u 0 0 (fun _ _=>.any)
  (some false)
  (some false)
  (some true)))
theorem aa6:aB (C85 u) u A14 [.agg [(.s w0),(vi i0),(ro kB n0 f0)],.agg [(.s w1),(.s w2),(vi i1),(vi i2),(vi i3),(.s w3)],.v (ro kA n1 f1)]=ob (Cp u w0 i0 n0 f0 w1 w2 i1 i2 i3 w3 n1 f1) fun t=>some [.v (.b t)]:=Eq.trans (b:=(ob (G4 u w1 w2 i1 i2 i3 w3 n1 f1) fun x0=>(aq (eB Cg (C85 u) u) v7 u (DD x0.1 0 n0 x0.2 f0 ca 0 i0 i1 i2 i3 w0 w1 w2 w3) (aD 0 (aJ (C85 u) u (6::(rl 8 8 (rl 19 87 []))) Xc (aG A14)))))) (by kernel_rfl) (by
 simp only [Cp,ak,au,ai,aa,HW,LZ]<;>kernel_rfl)
def Y5:Ora:=mkO (qc (ag (tc cS (tc ci (t1 (cL kB))))) (qc (ag (tc cS (tc cS (tc ci (tc ci (tc ci (t1 cS))))))) (q1 (av (cL kA))))) (fun x=>Cp u x.1.1 x.1.2.1 x.1.2.2.1 x.1.2.2.2 x.2.1.1 x.2.1.2.1 x.2.1.2.2.1 x.2.1.2.2.2.1 x.2.1.2.2.2.2.1 x.2.1.2.2.2.2.2 x.2.2.1 x.2.2.2) fun t=>[.v (.b t)]
theorem abH:DO (Y5 u) (C85 u) 14 A14:=dO u (fun x=>by exact aa6 u x.1.2.2.1 x.2.2.1 x.1.2.2.2 x.2.2.2 x.1.2.1 x.2.1.2.2.1 x.2.1.2.2.2.1 x.2.1.2.2.2.2.1 x.1.1 x.2.1.1 x.2.1.2.1 x.2.1.2.2.2.2.2)
def C86:am:=(C85 u).add 14 (fun _=>true) (Y5 u)
def B75:An tT Tryz.f75 [.k (0::1::(rl 3 6 []))]:=by
 apply Subtype.mk;cbv<;>exact rfl
def A75:AF:=B75.1
def Hc (u:Nat) (x0:Int):Option (Bool) :=
 (bif ((decide (x0>=(-32768)))==true) then (some (decide (x0<=32768))) else (some false))
theorem abx:aB (C86 u) u A75 [.v (vi i0)]=ob (Hc u i0) fun t=>some [.v (.b t)]:=by
 simp only [Hc,ak,au,ai,aa]
 kernel_rfl
def Zw:Ora:=mkO (q1 (av ci)) (fun x=>Hc u x) fun t=>[.v (.b t)]
theorem ab8:DO (Zw u) (C86 u) 75 A75:=dO u (fun x=>by exact abx u x)
def C87:am:=(C86 u).add 75 (fun _=>true) (Zw u)
def A47:AF:=⟨26,[.tmp 2],
 (.seq (.region 0 [o1 1 (bx 0 44 0),o1 2 (sb false)] 1 none) []
 (.seq (.region 1 [o1 3 (.assign (.func 75))] 0 none) []
 (.seq (.region 2 [o1 4 (fa 44 1 2 3),o1 5 (lo 3 4),o1 6 (bk .geq 3 5 0),mv 7 6,og 8 (fa 44 1 2 3) 7 true,og 9 (lo 3 8) 7 true,og 10 (bk .leq 3 9 3) 7 true,o1 11 (po 7 10),mv 12 11,og 13 (.move (tm 3)) 12 true,og 14 (fa 44 1 1 1) 12 true,og 15 (fa 42 14 0 0) 12 true,og 16 (lo 3 15) 12 true,og 17 (.callv (tm 13) [(tm 16)] [3] .snap) 12 true,o1 18 (po 12 17),mv 19 18,og 20 (.move (tm 3)) 19 true,og 21 (fa 44 1 1 1) 19 true,og 22 (fa 42 21 1 1) 19 true,og 23 (lo 3 22) 19 true,og 24 (.callv (tm 20) [(tm 23)] [3] .snap) 19 true,o1 25 (po 19 24),o1 2 (sg 25)] 0 none) []
 (.ret (0::1::(rl 3 23 []))))))⟩
def Ha (x0:ByteArray) (x1 x2 x3:Int) (x4:Bool):Option (Bool) :=
 (bif ((decide (x3>=0))==true) then (bif ((decide (x3<=3))==true) then (ob (Hc u x1) fun x5=>(bif (x5==true) then (ob (Hc u x2) fun x6=>(some x6)) else (some false))) else (some false)) else (some false))
theorem abw:aB (C87 u) u A47 [.agg [(.s w0),(vi i0),(vi i1),(vi i2),(.b b0)]]=ob (Ha u w0 i0 i1 i2 b0) fun t=>some [.v (.b t)]:=by
 simp only [Ha,ak,au,ai,aa]
 kernel_rfl
def Zv:Ora:=mkO (q1 (ag (tc cS (tc ci (tc ci (tc ci (t1 cB))))))) (fun x=>Ha u x.1 x.2.1 x.2.2.1 x.2.2.2.1 x.2.2.2.2) fun t=>[.v (.b t)]
theorem ab7:DO (Zv u) (C87 u) 47 A47:=dO u (fun x=>by exact abw u x.2.1 x.2.2.1 x.2.2.2.1 x.2.2.2.2 x.1)
def C88:am:=(C87 u).add 47 (fun _=>true) (Zv u)
def B76:An tT Tryz.f76 [.k (rl 0 6 (rl 7 8 []))]:=by
 apply Subtype.mk;cbv<;>exact rfl
def A76:AF:=B76.1
def F60 (u:Nat) (x0 x1 x2:Int):Option (Bool) :=
 (bif ((decide (x0>=x1))==true) then (some (decide (x0<=x2))) else (some false))
theorem e60:aB (C88 u) u A76 [.v (vi i0),.v (vi i1),.v (vi i2)]=ob (F60 u i0 i1 i2) fun t=>some [.v (.b t)]:=by
 simp only [F60,ak,au,ai,aa]
 kernel_rfl
def O60:Ora:=mkO (qc (av ci) (qc (av ci) (q1 (av ci)))) (fun x=>F60 u x.1 x.2.1 x.2.2) fun t=>[.v (.b t)]
theorem d60:DO (O60 u) (C88 u) 76 A76:=dO u (fun x=>by exact e60 u x.1 x.2.1 x.2.2)
def C89:am:=(C88 u).add 76 (fun _=>true) (O60 u)
def Z9:AC:=(.region 9 [o1 61 (bk .add 3 37 1),mv 37 61] 0 none)
def Z8:AC:=(.seq (.block 1
 (.seq (.region 6 [o1 39 (.indexAddr 49 42 2 (tm 35) (tm 37)),o1 40 (ln 42 2 39),o1 11 (.alloc 0 42 [vci 0,vci 0]),o0 (.store 42 2 (tm 11) (tm 40))] 1 none) []
  (.seq (.region 7 [mv 41 9,o1 42 (fa 42 11 0 0),o1 43 (lo 3 42),mv 44 3,mv 45 1,mv 46 3,o1 47 (bt .sub 3 45 46),o1 48 (.callv (tm 41) [(tm 43),(tm 44),(tm 47)] [3,3,3] .snap),o1 49 (.unOp .not 4 (tm 48)),mv 50 49,og 51 (.move (tm 9)) 50 false,og 52 (fa 42 11 1 1) 50 false,og 53 (lo 3 52) 50 false,og 54 (.move (tm 3)) 50 false,og 55 (.move (tm 2)) 50 false,og 56 (.move (tm 3)) 50 false,og 57 (bt .sub 3 55 56) 50 false,og 58 (.callv (tm 51) [(tm 53),(tm 54),(tm 57)] [3,3,3] .snap) 50 false,og 59 (.unOp .not 4 (tm 58)) 50 false,o1 60 (pa 50 59)] 0 none) []
  (.cond (tm 60)
  (.seq (.region 8 [o1 8 (sb false)] 0 none) []
   (.ret (rl 0 8 (rl 9 53 []))))
  .skip)))) (8::11::(rl 39 22 []))
 Z9)
def PD:AC:=(.seq (.region 5 [o1 38 (bt .lss 3 37 36)] 0 none) []
 (.seq (.cond (tm 38)
 .skip
 (.exit 0 (rl 0 62 []))) []
 Z8))
def Uf:AC:=(.seq (.region 10 [o1 8 (sb true)] 0 none) []
 (.ret (rl 0 8 (rl 9 53 []))))
def Z7:AC:=(.seq (.seq (.region 4 [o1 34 (fa 52 4 0 0),o1 35 (lo 49 34),o1 36 (.len 49 false (tm 35)),o1 37 (.move (ic 0))] 0 none) []
 (.block 0
 (.loop [] (0::(rl 4 5 (rl 10 25 (rl 38 24 []))))
  PD))) (8::11::(rl 34 28 []))
 Uf)
def A48:AF:=⟨62,[.tmp 8],
 (.seq (.region 0 [o1 4 (bx 0 52 0),o1 8 (sb false)] 1 none) []
 (.seq (.region 1 [o1 9 (.assign (.func 76))] 0 none) []
 (.seq (.seq (.region 2 [o1 12 (fa 52 4 0 0),o1 13 (lo 49 12),o1 14 (.len 49 false (tm 13)),o1 15 (bk .eql 3 14 0),mv 16 15,og 17 (.move (tm 9)) 16 false,og 18 (.move (tm 1)) 16 false,og 19 (.callv (tm 17) [(tm 18),(ic 0),(ic 32768)] [3,3,3] .snap) 16 false,og 20 (.unOp .not 4 (tm 19)) 16 false,o1 21 (pa 16 20),mv 22 21,og 23 (.move (tm 9)) 22 false,og 24 (.move (tm 2)) 22 false,og 25 (.callv (tm 23) [(tm 24),(ic 0),(ic 32768)] [3,3,3] .snap) 22 false,og 26 (.unOp .not 4 (tm 25)) 22 false,o1 27 (pa 22 26),mv 28 27,og 29 (.move (tm 9)) 28 false,og 30 (.move (tm 3)) 28 false,og 31 (.callv (tm 29) [(tm 30),(ic 0),(ic 1000)] [3,3,3] .snap) 28 false,og 32 (.unOp .not 4 (tm 31)) 28 false,o1 33 (pa 28 32)] 0 none) []
 (.cond (tm 33)
 (.seq (.region 3 [o1 8 (sb false)] 0 none) []
  (.ret (rl 0 8 (rl 9 53 []))))
 .skip)) (8::(rl 12 22 []))
 Z7)))⟩
def Tz:St->Option St:=nN 1 (0::(rl 4 5 (rl 10 25 (rl 38 24 []))))
def RM:St:=⟨(.u::vxi i0::vxi i1::vxi i2::(us 5 (.x (.fn 76 [])::(us 25 (.x (.c (ro kP n0 f0))::vxi i3::vxi i4::(us 24 [])))))),[.box [(.c (ro kP n0 f0)),(.c (ro kF n1 f1))]]⟩
def XN:St:=⟨(us 8 (vxb false::(us 53 []))),[.box [(.c (ro kP n0 f0)),(.c (ro kF n1 f1))],.box [(vci i0),(vci i1)]]⟩
def XM:St:=⟨(us 62 []),[.box [(.c (ro kP n0 f0)),(.c (ro kF n1 f1))]]⟩
def vx {ρ:Type} (u:Nat) (x0 x1 x2:Int) (x3:Nat) (x4:FF) (x5:Int) (x6:Nat) (x7:FF):Nat->Int->(Int->Int->Option ρ)->(Option ρ)->Option ρ
 | 0,_,_,_=>none
 | m+1,x8,k0,k1 =>
  (bif (decide (x8<x5)) then (bif (inb x8 x3) then (ob (F60 u (x4 x8.toNat 0).int x2 (w64 (x0-x2))) fun x9=>(bif ((!x9)==false) then (ob (F60 u (x4 x8.toNat 1).int x2 (w64 (x1-x2))) fun xA=>(bif (!xA) then (k0 (x4 x8.toNat 0).int (x4 x8.toNat 1).int) else (vx u x0 x1 x2 x3 x4 x5 x6 x7 m (w64 (x8+1)) k0 k1))) else (k0 (x4 x8.toNat 0).int (x4 x8.toNat 1).int))) else none) else k1)
theorem Nl:∀ (m:Nat) (x0:Int) (k0:Int->Int->Option ρ) (k1:Option ρ),ob (vx u i0 i1 i2 n0 f0 i3 n1 f1 m x0 k0 k1) ng=vx u i0 i1 i2 n0 f0 i3 n1 f1 m x0 (fun x1 x2=>ob (k0 x1 x2) ng) (ob k1 ng)
 | 0,_,_,_=>rfl
 | m+1,x0,k0,k1=>by
  simp only [vx,ak,au,ai,Nl m]
theorem SH:∀ (m:Nat) (x0:Int),
  aq (eB PD (C89 u) u) Tz m (RM n0 n1 f0 f1 i0 i1 i2 i3 x0) k=vx u i0 i1 i2 n0 f0 i3 n1 f1 m x0 (fun x1 x2=>k .ret (XN n0 n1 f0 f1 x1 x2)) (k (.exit 0) (XM n0 n1 f0 f1))
 | 0,_=>rfl
 | m+1,x0=>by
  simp only [vx,<- SH m]
  kernel_rfl
def F29 (x0:Nat) (x1:FF) (x2:Nat) (x3:FF) (x4 x5 x6:Int):Option (Bool) :=
 (bif (((Int.ofNat x0)==0)==false) then (ob (F60 u x4 0 32768) fun x7=>(bif ((!x7)==false) then (ob (F60 u x5 0 32768) fun x8=>(bif ((!x8)==false) then (ob (F60 u x6 0 1000) fun x9=>(bif (!x9) then (some false) else (vx u x4 x5 x6 x0 x1 (Int.ofNat x0) x2 x3 u 0
  (fun xA xB=>(some false))
  (some true)))) else (some false))) else (some false))) else (some false))
theorem e29:aB (C89 u) u A48 [.agg [(ro kP n0 f0),(ro kF n1 f1)],.v (vi i0),.v (vi i1),.v (vi i2)]=ob (F29 u n0 f0 n1 f1 i0 i1 i2) fun t=>some [.v (.b t)]:=Eq.trans (b:=(bif (((Int.ofNat n0)==0)==false) then (ob (F60 u i0 0 32768) fun x0=>(bif ((!x0)==false) then (ob (F60 u i1 0 32768) fun x1=>(bif ((!x1)==false) then (ob (F60 u i2 0 1000) fun x2=>(bif (!x2) then (some [.v (.b false)]) else (aq (eB PD (C89 u) u) Tz u (RM n0 n1 f0 f1 i0 i1 i2 (Int.ofNat n0) 0) (aD 0 (aJ (C89 u) u (8::11::(rl 34 28 [])) Uf (aG A48)))))) else (some [.v (.b false)]))) else (some [.v (.b false)]))) else (some [.v (.b false)]))) (by kernel_rfl) (by
 simp only [F29,ak,au,ai,aa,Nl,SH]<;>kernel_rfl)
def O29:Ora:=mkO (qc (ag (tc (cL kP) (t1 (cL kF)))) (qc (av ci) (qc (av ci) (q1 (av ci))))) (fun x=>F29 u x.1.1.1 x.1.1.2 x.1.2.1 x.1.2.2 x.2.1 x.2.2.1 x.2.2.2) fun t=>[.v (.b t)]
theorem d29:DO (O29 u) (C89 u) 48 A48:=dO u (fun x=>by exact e29 u x.1.1.1 x.1.2.1 x.1.1.2 x.1.2.2 x.2.1 x.2.2.1 x.2.2.2)
def C90:am:=(C89 u).add 48 (fun _=>true) (O29 u)
def B77:An tT Tryz.f77 [.k (4::5::(rl 9 7 [])),.k (rl 0 4 (rl 5 26 [])),.k (4::7::8::(rl 16 15 [])),.h [],.k (0::1::2::(rl 4 13 (rl 20 11 []))),.k [],.k (rl 0 31 []),.k (4::7::8::(rl 21 9 [])),.k (rl 0 4 (rl 5 26 [])),.k (rl 0 4 (rl 5 26 []))]:=by
 apply Subtype.mk;cbv<;>exact rfl
def A77:AF:=B77.1
def T1:AC:=sA A77.body [1,1]
def ZV:AC:=sA T1 [1]
def T2:AC:=sA T1 [0,1,0,0]
def Tu:St->Option St:=nN 2 (0::1::2::(rl 4 13 (rl 20 11 [])))
def RD:St:=⟨(us 3 (.x (.ptr 1 0)::(us 13 (.x (.c (ro kF n0 f0))::vxi i0::vxi i1::(us 11 []))))),[.box [(.c (ro kP n1 f1)),(.c (ro kF n0 f0))],.box [(vci i2),(vci i3)]]⟩
def XG:St:=⟨(us 4 (vxi i0::(us 26 []))),[.box [(.c (ro kP n0 f0)),(.c (ro kF n1 f1))],.box [(vci i1),(vci i2)]]⟩
def XF:St:=⟨(us 31 []),[.box [(.c (ro kP n0 f0)),(.c (ro kF n1 f1))],.box [(vci i0),(vci i1)]]⟩
def BZ {ρ:Type} (u:Nat) (x0:Nat) (x1:FF) (x2:Int) (x3:Nat) (x4:FF) (x5 x6:Int):Nat->Int->(Int->Option ρ)->(Option ρ)->Option ρ
 | 0,_,_,_=>none
 | m+1,x7,k0,k1 =>
  (bif (decide (x7<x2)) then (bif (inb x7 x0) then (ob (F65 u (x1 x7.toNat 0).len (x1 x7.toNat 0).el x5 x6) fun x8=>(bif (decide (x8>=0)) then (k0 (w64 (0-x8))) else (BZ u x0 x1 x2 x3 x4 x5 x6 m (w64 (x7+1)) k0 k1))) else none) else k1)
theorem Nd:∀ (m:Nat) (x0:Int) (k0:Int->Option ρ) (k1:Option ρ),ob (BZ u n0 f0 i0 n1 f1 i1 i2 m x0 k0 k1) ng=BZ u n0 f0 i0 n1 f1 i1 i2 m x0 (fun x1=>ob (k0 x1) ng) (ob k1 ng)
 | 0,_,_,_=>rfl
 | m+1,x0,k0,k1=>by
  simp only [BZ,ak,au,ai,Nd m]
theorem SA:∀ (m:Nat) (x0:Int),
  aq (eB T2 (C90 u) u) Tu m (RD n0 n1 f0 f1 i0 x0 i1 i2) k=BZ u n0 f0 i0 n1 f1 i1 i2 m x0 (fun x1=>k .ret (XG n1 n0 f1 f0 x1 i1 i2)) (k (.exit 0) (XF n1 n0 f1 f0 i1 i2))
 | 0,_=>rfl
 | m+1,x0=>by
  simp only [BZ,<- SA m]
  kernel_rfl
def F47 (x0:Nat) (x1:FF) (x2:Nat) (x3:FF) (x4 x5:Int):Option (Int) :=
 (ob (F65 u x0 x1 x4 x5) fun x6=>(bif (decide (x6<=0)) then (some x6) else (BZ u x2 x3 (Int.ofNat x2) x0 x1 x4 x5 u 0
  (fun x7=>(some x7))
  (some 1))))
theorem e47:aB (C90 u) u A77 [.agg [(ro kP n0 f0),(ro kF n1 f1)],.agg [(vi i0),(vi i1)]]=ob (F47 u n0 f0 n1 f1 i0 i1) fun t=>some [.v (vi t)]:=Eq.trans (b:=(ob (F65 u n0 f0 i0 i1) fun x0=>(bif (decide (x0<=0)) then (some [.v (vi x0)]) else (aq (eB T2 (C90 u) u) Tu u (RD n1 n0 f1 f0 (Int.ofNat n1) 0 i0 i1) (aD 0 (aJ (C90 u) u (4::7::8::(rl 16 15 [])) ZV (aG A77))))))) (by kernel_rfl) (by
 simp only [F47,ak,au,ai,aa,Nd,SA]<;>kernel_rfl)
def O47:Ora:=mkO (qc (ag (tc (cL kP) (t1 (cL kF)))) (q1 (ag (tc ci (t1 ci))))) (fun x=>F47 u x.1.1.1 x.1.1.2 x.1.2.1 x.1.2.2 x.2.1 x.2.2) fun t=>[.v (vi t)]
theorem d47:DO (O47 u) (C90 u) 77 A77:=dO u (fun x=>by exact e47 u x.1.1.1 x.1.2.1 x.1.1.2 x.1.2.2 x.2.1 x.2.2)
def C91:am:=(C90 u).add 77 (fun _=>true) (O47 u)
def acq:An tT Tryz.f122 [.k [2,6,7],.k (0::1::(rl 3 21 [])),.k (4::5::(rl 8 15 [])),.h [],.k (1::2::(rl 4 4 (rl 9 15 []))),.k [],.k (0::1::2::(rl 4 20 [])),.k (4::5::(rl 10 12 [])),.k (0::1::(rl 3 21 []))]:=by
 apply Subtype.mk;cbv<;>exact rfl
def Rb:AF:=acq.1
def PV:AC:=sA Rb.body [1,1]
def Xf:AC:=sA PV [1,1]
def PW:AC:=sA PV [1,0,1,0,0]
def Tj:St->Option St:=nN 0 (1::2::(rl 4 4 (rl 9 15 [])))
def Rh:St:=⟨(vxi i0::.u::.u::vxi i1::(us 4 (vxi i2::(us 15 [])))),[]⟩
def Xq:St:=⟨(us 3 (vxi i0::(us 20 []))),[]⟩
def ri {ρ:Type} (u:Nat) (x0:Int):Nat->Int->Int->(Int->Option ρ)->Option ρ
 | 0,_,_,_=>none
 | m+1,x1,x2,k0 =>
  (bif (decide (x2<32)) then (bif (decide (0<=(w64 (31-x2)))&&decide ((w64 (31-x2))<=64)) then (bif ((bits .or .i64 x1 (w64 (1*2 ^ (Int.toNat (w64 (31-x2))))))==0) then none else (bif (decide ((bits .or .i64 x1 (w64 (1*2 ^ (Int.toNat (w64 (31-x2))))))<=(w64 (Int.tdiv x0 (bits .or .i64 x1 (w64 (1*2 ^ (Int.toNat (w64 (31-x2)))))))))) then (ri u x0 m (bits .or .i64 x1 (w64 (1*2 ^ (Int.toNat (w64 (31-x2)))))) (w64 (x2+1)) k0) else (ri u x0 m x1 (w64 (x2+1)) k0))) else none) else (k0 x1))
theorem MU:∀ (m:Nat) (x0 x1:Int) (k0:Int->Option ρ),ob (ri u i0 m x0 x1 k0) ng=ri u i0 m x0 x1 (fun x2=>ob (k0 x2) ng)
 | 0,_,_,_=>rfl
 | m+1,x0,x1,k0=>by
  simp only [ri,ak,au,ai,MU m]
theorem Sf:∀ (m:Nat) (x0 x1:Int),
  aq (eB PW (C91 u) u) Tj m (Rh i0 x0 x1) k=ri u i0 m x0 x1 (fun x2=>k (.exit 0) (Xq x2))
 | 0,_,_=>rfl
 | m+1,x0,x1=>by
  simp only [ri,<- Sf m]
  kernel_rfl
def F85 (x0:Int):Option (Int) :=
 (bif (decide (x0<0)) then (some 0) else (ri u x0 u 0 0
  (fun x1=>(some x1))))
theorem e85:aB (C91 u) u Rb [.v (vi i0)]=ob (F85 u i0) fun t=>some [.v (vi t)]:=Eq.trans (b:=(bif (decide (i0<0)) then (some [.v (vi 0)]) else (aq (eB PW (C91 u) u) Tj u (Rh i0 0 0) (aD 0 (aJ (C91 u) u (4::5::(rl 8 15 [])) Xf (aG Rb)))))) (by kernel_rfl) (by
 simp only [F85,ak,au,ai,aa,MU,Sf]<;>kernel_rfl)
def O85:Ora:=mkO (q1 (av ci)) (fun x=>F85 u x) fun t=>[.v (vi t)]
theorem d85:DO (O85 u) (C91 u) 122 Rb:=dO u (fun x=>by exact e85 u x)
def C92:am:=(C91 u).add 122 (fun _=>true) (O85 u)
def acB:An tT Tryz.f100 [.k (rl 6 7 []),.k (0::1::(rl 3 11 []))]:=by
 apply Subtype.mk;cbv<;>exact rfl
def aaQ:AF:=acB.1
def F77 (x0:Int):Option (Int) :=
 (ob (F85 u x0) fun x1=>(bif (decide ((w64 (x1*x1))<x0)) then (some (w64 (x1+1))) else (some x1)))
theorem e77:aB (C92 u) u aaQ [.v (vi i0)]=ob (F77 u i0) fun t=>some [.v (vi t)]:=by
 simp only [F77,ak,au,ai,aa]
 kernel_rfl
def O77:Ora:=mkO (q1 (av ci)) (fun x=>F77 u x) fun t=>[.v (vi t)]
theorem d77:DO (O77 u) (C92 u) 100 aaQ:=dO u (fun x=>by exact e77 u x)
def C93:am:=(C92 u).add 100 (fun _=>true) (O77 u)
def B80:An tT Tryz.f80 [.k (8::12::(rl 55 22 [])),.k (rl 0 8 (rl 9 93 [])),.k [78,79,80],.k (rl 0 8 (rl 9 93 []))]:=by
 apply Subtype.mk;cbv<;>exact rfl
def A80:AF:=B80.1
def F57 (x0 x1 x2 x3 x4 x5 x6:Int):Option (Bool) :=
 (bif ((decide ((w64 ((w64 ((w64 (x0-x2))*(w64 (x4-x2))))+(w64 ((w64 (x1-x3))*(w64 (x5-x3))))))>0))==true) then (bif (decide ((w64 ((w64 ((w64 (x0-x2))*(w64 (x4-x2))))+(w64 ((w64 (x1-x3))*(w64 (x5-x3))))))<(w64 ((w64 ((w64 (x4-x2))*(w64 (x4-x2))))+(w64 ((w64 (x5-x3))*(w64 (x5-x3)))))))) then (ob (F75 u x2 x3 x4 x5 x0 x1) fun x7=>(ob (F77 u (w64 ((w64 (x6*x6))*(w64 ((w64 ((w64 (x4-x2))*(w64 (x4-x2))))+(w64 ((w64 (x5-x3))*(w64 (x5-x3))))))))) fun x8=>(some (decide ((if (w64 (0-x7))>x7 then (w64 (0-x7)) else x7)<x8))))) else (bif (decide ((w64 ((w64 ((w64 (x0-x2))*(w64 (x4-x2))))+(w64 ((w64 (x1-x3))*(w64 (x5-x3))))))>0)) then (some (decide ((w64 ((w64 ((w64 (x0-x4))*(w64 (x0-x4))))+(w64 ((w64 (x1-x5))*(w64 (x1-x5))))))<(w64 (x6*x6))))) else (some (decide ((w64 ((w64 ((w64 (x0-x2))*(w64 (x0-x2))))+(w64 ((w64 (x1-x3))*(w64 (x1-x3))))))<(w64 (x6*x6))))))) else (bif (decide ((w64 ((w64 ((w64 (x0-x2))*(w64 (x4-x2))))+(w64 ((w64 (x1-x3))*(w64 (x5-x3))))))>0)) then (some (decide ((w64 ((w64 ((w64 (x0-x4))*(w64 (x0-x4))))+(w64 ((w64 (x1-x5))*(w64 (x1-x5))))))<(w64 (x6*x6))))) else (some (decide ((w64 ((w64 ((w64 (x0-x2))*(w64 (x0-x2))))+(w64 ((w64 (x1-x3))*(w64 (x1-x3))))))<(w64 (x6*x6)))))))
theorem e57:aB (C93 u) u A80 [.agg [(vi i0),(vi i1)],.agg [(vi i2),(vi i3)],.agg [(vi i4),(vi i5)],.v (vi i6)]=ob (F57 u i0 i1 i2 i3 i4 i5 i6) fun t=>some [.v (.b t)]:=by
 simp only [F57,ak,au,ai,aa]
 kernel_rfl
def O57:Ora:=mkO (qc (ag (tc ci (t1 ci))) (qc (ag (tc ci (t1 ci))) (qc (ag (tc ci (t1 ci))) (q1 (av ci))))) (fun x=>F57 u x.1.1 x.1.2 x.2.1.1 x.2.1.2 x.2.2.1.1 x.2.2.1.2 x.2.2.2) fun t=>[.v (.b t)]
theorem d57:DO (O57 u) (C93 u) 80 A80:=dO u (fun x=>by exact e57 u x.1.1 x.1.2 x.2.1.1 x.2.1.2 x.2.2.1.1 x.2.2.1.2 x.2.2.2)
def C94:am:=(C93 u).add 80 (fun _=>true) (O57 u)
def B78:An tT Tryz.f78 [.k (rl 0 9 (rl 10 33 []))]:=by
 apply Subtype.mk;cbv<;>exact rfl
def A78:AF:=B78.1
def F55 (x0 x1 x2 x3 x4 x5 x6 x7:Int) (x8:Nat->CV):Option (Bool) :=
 (ob (F56 u x0 x1 x2 x3 x4 x5 x6 x7) fun x9=>(bif (x9==false) then (ob (F57 u x0 x1 x4 x5 x6 x7 (x8 0).int) fun xA=>(bif (xA==false) then (ob (F57 u x2 x3 x4 x5 x6 x7 (x8 0).int) fun xB=>(bif (xB==false) then (ob (F57 u x4 x5 x0 x1 x2 x3 (x8 0).int) fun xC=>(bif (xC==false) then (ob (F57 u x6 x7 x0 x1 x2 x3 (x8 0).int) fun xD=>(some xD)) else (some true))) else (some true))) else (some true))) else (some true)))
theorem e55:aB (C94 u) u A78 [.agg [(vi i0),(vi i1)],.agg [(vi i2),(vi i3)],.agg [(vi i4),(vi i5)],.agg [(vi i6),(vi i7)],.v (.rp kD g0)]=ob (F55 u i0 i1 i2 i3 i4 i5 i6 i7 g0) fun t=>some [.v (.b t)]:=by
 simp only [F55,ak,au,ai,aa]
 kernel_rfl
def O55:Ora:=mkO (qc (ag (tc ci (t1 ci))) (qc (ag (tc ci (t1 ci))) (qc (ag (tc ci (t1 ci))) (qc (ag (tc ci (t1 ci))) (q1 (av (cP kD))))))) (fun x=>F55 u x.1.1 x.1.2 x.2.1.1 x.2.1.2 x.2.2.1.1 x.2.2.1.2 x.2.2.2.1.1 x.2.2.2.1.2 x.2.2.2.2) fun t=>[.v (.b t)]
theorem d55:DO (O55 u) (C94 u) 78 A78:=dO u (fun x=>by exact e55 u x.1.1 x.1.2 x.2.1.1 x.2.1.2 x.2.2.1.1 x.2.2.1.2 x.2.2.2.1.1 x.2.2.2.1.2 x.2.2.2.2)
def C95:am:=(C94 u).add 78 (fun _=>true) (O55 u)
def OR:St->Option St:=nN 1 (rl 3 4 (9::10::(rl 14 4 (rl 21 26 []))))
def K1:St:=⟨(.x (.c (ro kP n0 f0))::.x (.c (ro kP n1 f1))::.x (.c (.fn 78 1 (aw [(.rp kD g0)])))::(us 4 (vxi i0::.x (.ptr 0 0)::.u::.u::.x (.c (ro kP n0 f0))::vxi i1::vxi i0::(us 4 (.x (.c (ro kP n1 f1))::vxi i2::vxi i3::(us 26 [])))))),[.box [(vci i4),(vci i5)]]⟩
def Vn:St:=⟨(us 6 (vxb true::(us 40 []))),[.box [(vci i0),(vci i1)],.box [(vci i2),(vci i3)]]⟩
def K0:St:=⟨(.x (.c (ro kP n0 f0))::.x (.c (ro kP n1 f1))::.x (.c (.fn 78 1 (aw [(.rp kD g0)])))::(us 8 (.x (.c (ro kP n0 f0))::vxi i0::vxi i1::(us 33 [])))),[.box [(vci i2),(vci i3)]]⟩
def mo {ρ:Type} (u:Nat) (x0:Nat) (x1:FF) (x2:Nat) (x3:FF) (x4:Nat->CV) (x5 x6 x7 x8 x9:Int):Nat->Int->(Int->Int->Option ρ)->(Option ρ)->Option ρ
 | 0,_,_,_=>none
 | m+1,xA,k0,k1 =>
  (bif (decide (xA<x7)) then (bif (inb xA x2) then (bif ((Int.ofNat x0)==0) then none else (bif (inb (Int.tmod (w64 (x5+1)) (Int.ofNat x0)) x0) then (bif ((Int.ofNat x2)==0) then none else (bif (inb (Int.tmod (w64 (xA+1)) (Int.ofNat x2)) x2) then (ob (F55 u x8 x9 ((x1 (Int.toNat (Int.tmod (w64 (x5+1)) (Int.ofNat x0))) 0).int) ((x1 (Int.toNat (Int.tmod (w64 (x5+1)) (Int.ofNat x0))) 1).int) (x3 xA.toNat 0).int (x3 xA.toNat 1).int ((x3 (Int.toNat (Int.tmod (w64 (xA+1)) (Int.ofNat x2))) 0).int) ((x3 (Int.toNat (Int.tmod (w64 (xA+1)) (Int.ofNat x2))) 1).int) x4) fun xB=>(bif xB then (k0 (x3 xA.toNat 0).int (x3 xA.toNat 1).int) else (mo u x0 x1 x2 x3 x4 x5 x6 x7 x8 x9 m (w64 (xA+1)) k0 k1))) else none)) else none)) else none) else k1)
theorem HV:∀ (m:Nat) (x0:Int) (k0:Int->Int->Option ρ) (k1:Option ρ),ob (mo u n0 f0 n1 f1 g0 i0 i1 i2 i3 i4 m x0 k0 k1) ng=mo u n0 f0 n1 f1 g0 i0 i1 i2 i3 i4 m x0 (fun x1 x2=>ob (k0 x1 x2) ng) (ob k1 ng)
 | 0,_,_,_=>rfl
 | m+1,x0,k0,k1=>by
  simp only [mo,ak,au,ai,HV m]
theorem LY:∀ (m:Nat) (x0:Int),
  aq (eB FU (C95 u) u) OR m (K1 n0 n1 f0 f1 i0 i1 i2 x0 i3 i4 g0) k=mo u n0 f0 n1 f1 g0 i0 i1 i2 i3 i4 m x0 (fun x1 x2=>k .ret (Vn i3 i4 x1 x2)) (k (.exit 2) (K0 n0 n1 f0 f1 i1 i0 i3 i4 g0))
 | 0,_=>rfl
 | m+1,x0=>by
  simp only [mo,<- LY m]
  kernel_rfl
def v6:St->Option St:=nN 0 (rl 3 8 (rl 14 33 []))
def DC:St:=⟨(.x (.c (ro kP n0 f0))::.x (.c (ro kP n1 f1))::.x (.c (.fn 78 1 (aw [(.rp kD g0)])))::(us 8 (.x (.c (ro kP n0 f0))::vxi i0::vxi i1::(us 33 [])))),[]⟩
def Vm:St:=⟨(us 6 (vxb true::(us 40 []))),[.box [(vci i0),(vci i1)],.box [(vci i2),(vci i3)]]⟩
def KZ:St:=⟨(us 47 []),[]⟩
def mn {ρ:Type} (u:Nat) (x0:Nat) (x1:FF) (x2:Nat) (x3:FF) (x4:Nat->CV) (x5:Int):Nat->Int->(Int->Int->Int->Int->Option ρ)->(Option ρ)->Option ρ
 | 0,_,_,_=>none
 | m+1,x6,k0,k1 =>
  (bif (decide (x6<x5)) then (bif (inb x6 x0) then (mo u x0 x1 x2 x3 x4 x6 x5 (Int.ofNat x2) (x1 x6.toNat 0).int (x1 x6.toNat 1).int u 0
  (fun x7 x8=>(k0 (x1 x6.toNat 0).int (x1 x6.toNat 1).int x7 x8))
  (mn u x0 x1 x2 x3 x4 x5 m (w64 (x6+1)) k0 k1)) else none) else k1)
theorem HU:∀ (m:Nat) (x0:Int) (k0:Int->Int->Int->Int->Option ρ) (k1:Option ρ),ob (mn u n0 f0 n1 f1 g0 i0 m x0 k0 k1) ng=mn u n0 f0 n1 f1 g0 i0 m x0 (fun x1 x2 x3 x4=>ob (k0 x1 x2 x3 x4) ng) (ob k1 ng)
 | 0,_,_,_=>rfl
 | m+1,x0,k0,k1=>by
  simp only [mn,ak,au,ai,HU m,HV]
theorem VP :
  aq (eB mO (C95 u) u) v6 (m+1) (DC n0 n1 f0 f1 i0 i1 g0) k =
  (bif (decide (i1<i0)) then (bif (inb i1 n0) then (aq (eB FU (C95 u) u) OR u (K1 n0 n1 f0 f1 i1 i0 (Int.ofNat n1) 0 (f0 i1.toNat 0).int (f0 i1.toNat 1).int g0) (aD 2 (aD 1 (aJ (C95 u) u (rl 6 5 (rl 15 31 [])) FT (aS (eB mO (C95 u) u) v6 m k))))) else none) else (k (.exit 0) KZ)):=by kernel_rfl
theorem Wy :
  (aD 2 (aD 1 (aJ (C95 u) u (rl 6 5 (rl 15 31 [])) FT (aS (eB mO (C95 u) u) v6 m k)))) (.exit 2) (K0 n0 n1 f0 f1 i0 i1 (f0 i1.toNat 0).int (f0 i1.toNat 1).int g0) =
  (aq (eB mO (C95 u) u) v6 m (DC n0 n1 f0 f1 i0 (w64 (i1+1)) g0) k):=by kernel_rfl
theorem LX:∀ (m:Nat) (x0:Int),
  aq (eB mO (C95 u) u) v6 m (DC n0 n1 f0 f1 i0 x0 g0) k=mn u n0 f0 n1 f1 g0 i0 m x0 (fun x1 x2 x3 x4=>k .ret (Vm x1 x2 x3 x4)) (k (.exit 0) KZ)
 | 0,_=>rfl
 | m+1,x0=>by
  rw [VP]
  simp only [mn,LX m,LY,Wy]<;>kernel_rfl
def Kn (x0:Nat) (x1:FF) (x2:Nat) (x3:FF) (x4:Nat->CV):Option (Bool) :=
 (mn u x0 x1 x2 x3 x4 (Int.ofNat x0) u 0
  (fun x5 x6 x7 x8=>(some true))
  (some false))
theorem aa2:aB (C95 u) u A81 [.v (ro kP n0 f0),.v (ro kP n1 f1),.v (.fn 78 1 (aw [(.rp kD g0)]))]=ob (Kn u n0 f0 n1 f1 g0) fun t=>some [.v (.b t)]:=Eq.trans (b:=(aq (eB mO (C95 u) u) v6 u (DC n0 n1 f0 f1 (Int.ofNat n0) 0 g0) (aD 0 (aJ (C95 u) u (rl 6 41 []) Pw (aG A81))))) (by kernel_rfl) (by
 simp only [Kn,ak,au,ai,aa,HU,LX]<;>kernel_rfl)
def Y2:Ora:=mkO (qc (av (cL kP)) (qc (av (cL kP)) (q1 (av (cF 78 1 (t1 (cP kD))))))) (fun x=>Kn u x.1.1 x.1.2 x.2.1.1 x.2.1.2 x.2.2) fun t=>[.v (.b t)]
theorem abD:DO (Y2 u) (C95 u) 81 A81:=dO u (fun x=>by exact aa2 u x.1.1 x.2.1.1 x.1.2 x.2.1.2 x.2.2)
def C96:am:=(C95 u).add 81 (fun l=>D2 78 l 2) (Y2 u)
end Go.Eng.R13
