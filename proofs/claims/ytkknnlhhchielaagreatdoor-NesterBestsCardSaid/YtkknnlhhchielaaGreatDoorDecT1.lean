/-
 The functions of the program,run on symbols;printed by decomp.py.
-/
import Derived.Test.YtkknnlhhchielaaGreatDoorDecT0
import Derived.Test.YtkknnlhhchielaaGreatDoorEngAn
import Derived.Test.YtkknnlhhchielaaGreatDoorProg
set_option linter.all false
set_option maxRecDepth 1000000
set_option maxHeartbeats 4000000
namespace Go.Eng.R13
open Go Go.RowKit Go.Eng
open Go.Proofs
variable {ρ σ : Type} (u m : Nat) (k : Ex -> St -> Option ρ) (ng : ρ -> Option σ) (n0 n1 n2 n3 n4 n5 n6 n7 : Nat) (f0 f1 f2 f3 f4 f5 f6 f7 : FF) (i0 i1 i2 i3 i4 i5 i6 i7 i8 i9 iA iB iC iD iE iF iG iH iI iJ iK iL iM : Int) (b0 b1 : Bool) (w0 w1 w2 w3 w4 w5 w6 w7 w8 w9 : ByteArray) (g0 g1 : Nat -> CV)
def B44:An tT Tryz.f44 [.k [2,6,7,8],.k (0::1::(rl 3 19 [])),.k (5::(rl 9 12 [])),.h [],.k (0::1::2::(rl 4 6 (rl 13 9 []))),.k [],.k (0::1::2::(rl 4 18 [])),.k (0::1::(rl 3 19 []))]:=by
 apply Subtype.mk;cbv<;>exact rfl
def A44:AF:=B44.1
def Ul:AC:=sA A44.body [1,1]
def Z5:AC:=sA Ul [1,1]
def Um:AC:=sA Ul [1,0,1,0,0]
def TL:St->Option St:=nN 1 (0::1::2::(rl 4 6 (rl 13 9 [])))
def Se:St:=⟨(us 3 (vxi i0::(us 6 (.x (.c (ro kF n0 f0))::vxi i1::vxi i2::(us 9 []))))),[.box [(.c (ro kP n1 f1)),(.c (ro kF n2 f2))]]⟩
def XJ:St:=⟨(us 3 (vxi i0::(us 18 []))),[.box [(.c (ro kP n0 f0)),(.c (ro kF n1 f1))]]⟩
def oW {ρ:Type} (u:Nat) (x0:Nat) (x1:FF) (x2:Int) (x3:Nat) (x4:FF) (x5:Nat) (x6:FF):Nat->Int->Int->(Int->Option ρ)->Option ρ
 | 0,_,_,_=>none
 | m+1,x7,x8,k0 =>
  (bif (decide (x8<x2)) then (bif (inb x8 x0) then (ob (F34 u (x1 x8.toNat 0).len (x1 x8.toNat 0).el) fun x9=>(oW u x0 x1 x2 x3 x4 x5 x6 m (w64 (x7+x9)) (w64 (x8+1)) k0)) else none) else (k0 x7))
theorem NQ:∀ (m:Nat) (x0 x1:Int) (k0:Int->Option ρ),ob (oW u n0 f0 i0 n1 f1 n2 f2 m x0 x1 k0) ng=oW u n0 f0 i0 n1 f1 n2 f2 m x0 x1 (fun x2=>ob (k0 x2) ng)
 | 0,_,_,_=>rfl
 | m+1,x0,x1,k0=>by
  simp only [oW,ak,aw,af,NQ m]
theorem SX:∀ (m:Nat) (x0 x1:Int),
  am (eB Um (C54 u) u) TL m (Se n0 n1 n2 f0 f1 f2 x0 i0 x1) k=oW u n0 f0 i0 n1 f1 n2 f2 m x0 x1 (fun x2=>k (.exit 0) (XJ n1 n2 f1 f2 x2))
 | 0,_,_=>rfl
 | m+1,x0,x1=>by
  simp only [oW,<- SX m]
  kernel_rfl
def F18 (x0:Nat) (x1:FF) (x2:Nat) (x3:FF):Option (Int) :=
 (ob (F13 u x0 x1 x2 x3) fun x4=>(bif (x4 != 0) then (some 0) else (ob (F42 u x0 x1 x2 x3) fun x5=>(oW u x5.1 x5.2 (Int.ofNat x5.1) x0 x1 x2 x3 u 0 0
  (fun x6=>(some x6))))))
theorem e18:aD (C54 u) u A44 [.agg [(ro kP n0 f0),(ro kF n1 f1)]]=ob (F18 u n0 f0 n1 f1) fun t=>some [.v (vi t)]:=Eq.trans (b:=(ob (F13 u n0 f0 n1 f1) fun x0=>(bif (x0 != 0) then (some [.v (vi 0)]) else (ob (F42 u n0 f0 n1 f1) fun x1=>(am (eB Um (C54 u) u) TL u (Se x1.1 n0 n1 x1.2 f0 f1 0 (Int.ofNat x1.1) 0) (aA 0 (aI (C54 u) u (5::(rl 9 12 [])) Z5 (aH A44)))))))) (by kernel_rfl) (by
 simp only [F18,ak,aw,af,aa,NQ,SX]<;>kernel_rfl)
def O18:Ora:=mkO (q1 (ag (tc (cL kP) (t1 (cL kF))))) (fun x=>F18 u x.1.1 x.1.2 x.2.1 x.2.2) fun t=>[.v (vi t)]
theorem d18:DO (O18 u) (C54 u) 44 A44:=dO u (fun x=>by exact e18 u x.1.1 x.2.1 x.1.2 x.2.2)
def C55:ao:=(C54 u).add 44 (fun _=>true) (O18 u)
def B15:An tT Tryz.f15 [.k (rl 9 4 []),.k (rl 0 4 (rl 5 30 [])),.k (6::7::8::(rl 13 21 [])),.h [],.k (0::2::3::(rl 5 9 (rl 17 18 []))),.k [],.k (rl 0 4 (rl 5 30 [])),.k (6::7::8::(rl 18 15 [])),.k (rl 0 4 (rl 5 30 []))]:=by
 apply Subtype.mk;cbv<;>exact rfl
def A15:AF:=B15.1
def UN:AC:=sA A15.body [1,1]
def aao:AC:=sA UN [1]
def UO:AC:=sA UN [0,1,0,0]
def Pn:St->Option St:=nN 1 (0::2::3::(rl 5 9 (rl 17 18 [])))
def Md:St:=⟨(.u::.x (.c (ro kA n0 f0))::.u::.u::vxi i0::(us 9 (.x (.c (ro kB n1 f1))::vxi i1::vxi i2::(us 18 [])))),[.box [(vcs w0),(vci i3),(.c (ro kB n1 f1))]]⟩
def VE:St:=⟨(us 4 (vxi i0::(us 30 []))),[.box [(vcs w0),(vci i1),(.c (ro kB n0 f0))]]⟩
def mh {ρ:Type} (u:Nat) (x0:Nat) (x1:FF) (x2:Nat) (x3:FF) (x4:Int) (x5:ByteArray) (x6:Int):Nat->Int->Int->(Int->Option ρ)->Option ρ
 | 0,_,_,_=>none
 | m+1,x7,x8,k0 =>
  (bif (decide (x8<x4)) then (bif (inb x8 x2) then (ob (KP u x0 x1 (x3 x8.toNat 0).str) fun x9=>(bif (pG x9).2.2.2.2 then (ob (F18 u x9.2.2.2.2.2.2.1 x9.2.2.2.2.2.2.2.1 (p8 x9).1 (p8 x9).2.1) fun xA=>(mh u x0 x1 x2 x3 x4 x5 x6 m (w64 (x7+xA)) (w64 (x8+1)) k0)) else (mh u x0 x1 x2 x3 x4 x5 x6 m x7 (w64 (x8+1)) k0))) else none) else (k0 x7))
theorem IW:∀ (m:Nat) (x0 x1:Int) (k0:Int->Option ρ),ob (mh u n0 f0 n1 f1 i0 w0 i1 m x0 x1 k0) ng=mh u n0 f0 n1 f1 i0 w0 i1 m x0 x1 (fun x2=>ob (k0 x2) ng)
 | 0,_,_,_=>rfl
 | m+1,x0,x1,k0=>by
  simp only [mh,ak,aw,af,IW m]
theorem MQ:∀ (m:Nat) (x0 x1:Int),
  am (eB UO (C55 u) u) Pn m (Md n0 n1 f0 f1 x0 i0 x1 i1 w0) k=mh u n0 f0 n1 f1 i0 w0 i1 m x0 x1 (fun x2=>k (.exit 0) (VE n1 f1 x2 i1 w0))
 | 0,_,_=>rfl
 | m+1,x0,x1=>by
  simp only [mh,<- MQ m]
  kernel_rfl
def Ed (x0:ByteArray) (x1:Int) (x2:Nat) (x3:FF) (x4:Nat) (x5:FF):Option (Int) :=
 (bif (decide ((Int.ofNat x2)>32)) then (some 0) else (mh u x4 x5 x2 x3 (Int.ofNat x2) x0 x1 u 0 0
  (fun x6=>(some x6))))
theorem abu:aD (C55 u) u A15 [.agg [(.s w0),(vi i0),(ro kB n0 f0)],.v (ro kA n1 f1)]=ob (Ed u w0 i0 n0 f0 n1 f1) fun t=>some [.v (vi t)]:=Eq.trans (b:=(bif (decide ((Int.ofNat n0)>32)) then (some [.v (vi 0)]) else (am (eB UO (C55 u) u) Pn u (Md n1 n0 f1 f0 0 (Int.ofNat n0) 0 i0 w0) (aA 0 (aI (C55 u) u (6::7::8::(rl 13 21 [])) aao (aH A15)))))) (by kernel_rfl) (by
 simp only [Ed,ak,aw,af,aa,IW,MQ]<;>kernel_rfl)
def Zn:Ora:=mkO (qc (ag (tc cS (tc ci (t1 (cL kB))))) (q1 (av (cL kA)))) (fun x=>Ed u x.1.1 x.1.2.1 x.1.2.2.1 x.1.2.2.2 x.2.1 x.2.2) fun t=>[.v (vi t)]
theorem ab7:DO (Zn u) (C55 u) 15 A15:=dO u (fun x=>by exact abu u x.1.2.2.1 x.2.1 x.1.2.2.2 x.2.2 x.1.2.1 x.1.1)
def C56:ao:=(C55 u).add 15 (fun _=>true) (Zn u)
def aaC:AC:=(.region 17 [o1 61 (bk .add 3 50 1),mv 50 61] 0 none)
def aaB:AC:=(.seq (.block 3
 (.seq (.region 14 [mv 52 50,o1 53 (.indexAddr 79 3 1 (tm 48) (tm 50)),o1 54 (lo 3 53),o1 15 (sg 52),o1 16 (sg 54)] 0 none) []
  (.seq (.region 15 [mv 55 16,o1 56 (bk .geq 3 55 0)] 0 none) []
  (.cond (tm 56)
  (.region 16 [o1 57 (lo 79 14),mv 58 15,o1 59 (.buildSlice 0 79 3 kD 1 [vci 0] [(0,(tm 58))]),o1 60 (.append 1 79 3 kD 8 (tm 57) (tm 59)),o0 (.store 79 1 (tm 14) (tm 60))] 2 none)
  .skip)))) (15::16::(rl 52 9 []))
 aaC)
def P8:AC:=(.seq (.region 13 [o1 51 (bt .lss 3 50 49)] 0 none) []
 (.seq (.cond (tm 51)
 .skip
 (.exit 2 (rl 0 4 (7::9::(rl 15 80 []))))) []
 aaB))
def JE:AC:=(.seq (.region 22 [o1 69 (ln 23 6 4),o1 70 (lo 24 10),o1 71 (lo 79 13),o1 72 (lo 79 14),o1 73 (lo 24 10),o1 74 (lo 79 13),o1 75 (lo 79 17),mv 76 18,o1 77 (lo 3 6),o1 78 (cf 34 [73,74,75,76,77] [24,79,79,79,3]),o1 79 (lo 3 6),o1 80 (cf 33 [69,70,71,72,78,79] [23,24,79,79,65,3]),mv 68 80,o1 81 (.extract (tm 68) 0),o1 82 (.extract (tm 68) 1),o1 19 (.alloc 0 30 [vcs ByteArray.empty,vci 0,vcn]),o0 (.store 30 3 (tm 19) (tm 81)),o1 20 (sg 82)] 1 (some [[],[],[],[],[],[],[],[],[],(rl 4 5 []),[],(rl 0 11 []),(rl 0 12 []),(rl 0 13 []),(rl 0 13 []),[],(rl 0 14 [15]),(rl 0 17 [])])) []
 (.seq (.region 23 [o1 83 (ln 30 3 19),o1 84 (lo 24 5),o1 85 (cs 15 [83,84] [30,24]),o1 21 (sg 85)] 0 none) []
 (.seq (.region 24 [mv 86 20,mv 87 86,og 88 (.move (tm 21)) 87 true,og 89 (lo 3 12) 87 true,og 90 (bt .gtr 3 88 89) 87 true,o1 91 (po 87 90)] 0 none) []
 (.cond (tm 91)
 (.region 25 [o1 92 (ln 30 3 19),mv 93 21,o0 (.store 30 3 (tm 11) (tm 92)),o0 (.store 3 1 (tm 12) (tm 93))] 0 none)
 .skip))))
def Aw:AC:=(.iter [o1 65 (lo 79 14)] [(4,0,0),(5,1,0),(6,2,0),(8,3,0),(10,4,0),(11,5,0),(12,6,0),(13,7,0),(14,8,0),(17,10,0)] (rl 0 4 (7::9::15::16::(rl 18 47 (rl 67 28 [])))) 65 66 67 32 79 itP 7
 (.region 21 [o1 18 (sg 67)] 0 none)
 JE)
def P7:AC:=(.ghost [9] (.iter [o1 62 (lo 79 14)] [(4,0,0),(5,1,0),(6,2,0),(8,3,0),(10,4,0),(11,5,0),(12,6,0),(13,7,0),(14,8,0)] (rl 0 4 (7::9::(rl 15 47 (rl 64 31 [])))) 62 63 64 32 79 itP 5
 (.region 19 [o1 17 (.alloc 0 79 [vcn]),o0 (.store 79 1 (tm 17) (tm 64))] 1 none)
 Aw))
def jr:AC:=(.seq (.region 11 [o1 14 (.alloc 0 79 [vcn])] 1 none) []
 (.seq (.seq (.region 12 [o1 48 (lo 79 13),o1 49 (.len 79 false (tm 48)),o1 50 (.move (ic 0))] 0 none) []
 (.block 2
 (.loop [.cell 14 0 kD] (rl 0 4 (7::9::(rl 15 33 (rl 51 44 []))))
  P8))) (15::16::(rl 48 14 []))
 P7))
def Dk:AC:=(.seq (.region 26 [o1 94 (ln 30 3 11),o0 (.store 30 3 (tm 8) (tm 94)),o1 9 (sk 0)] 0 none) []
 (.ghost [0,1,2,4,5,6] (.ret (rl 0 8 (rl 10 85 [])))))
def aaA:AC:=(.seq (.region 8 [o1 40 (fa 23 4 0 0),o1 41 (lo 9 40),o1 42 (lo 3 6),o1 43 (.build 30 [vcs ByteArray.empty,vci 0,.c (ro kB 0 aR)] [(0,1),(1,1),(2,1)] 0 [(0,(tm 41)),(1,(tm 42))]),o1 11 (.alloc 0 30 [vcs ByteArray.empty,vci 0,vcn]),o1 12 (.alloc 1 3 [vci 0]),o0 (.store 30 3 (tm 11) (tm 43)),o0 (.store 3 1 (tm 12) (ic 0))] 2 none) []
 (.seq (.iter [o1 44 (lo 24 10),o1 45 (.len 24 false (tm 44))] [(4,0,0),(5,1,0),(6,2,0),(8,3,0),(10,4,0),(11,5,0),(12,6,0)] (rl 0 4 (7::9::(rl 13 32 (rl 47 48 [])))) 45 46 47 31 3 itT 1
 (.region 10 [o1 13 (.alloc 0 79 [vcn]),o0 (.store 79 1 (tm 13) (tm 47))] 1 none)
 jr) (rl 13 9 (44::45::46::(rl 48 16 (65::66::(rl 68 26 [])))))
 Dk))
def Xd:AC:=(.seq (.seq (.region 6 [mv 33 3,o1 34 (lo 24 10),o1 35 (.len 24 false (tm 34)),o1 36 (.indexAddrA 75 3 5 1 (.global 0) (tm 35)),o1 37 (lo 3 36),o1 38 (bt .lss 3 33 37)] 0 none) []
 (.cond (tm 38)
 (.seq (.region 7 [o1 39 (.build 30 [vcs ByteArray.empty,vci 0,.c (ro kB 0 aR)] [(0,1),(1,1),(2,1)] 0 []),o0 (.store 30 3 (tm 8) (tm 39)),o1 9 (sk 29)] 0 none) []
  (.ghost [0,1,2,4] (.ret (rl 0 8 (rl 10 85 [])))))
 .skip)) (9::(rl 33 7 []))
 aaA)
def Xc:AC:=(.seq (.region 3 [o1 26 (ln 23 6 4),o1 27 (lo 24 5),o1 28 (cf 23 [26,27] [23,24]),o1 10 (.alloc 0 24 [vcn]),o0 (.store 24 1 (tm 10) (tm 28))] 1 none) []
 (.seq (.seq (.region 4 [o1 29 (lo 24 10),o1 30 (.len 24 false (tm 29)),o1 31 (bk .gtr 3 30 4)] 0 none) []
 (.cond (tm 31)
 (.seq (.region 5 [o1 32 (.build 30 [vcs ByteArray.empty,vci 0,.c (ro kB 0 aR)] [(0,1),(1,1),(2,1)] 0 []),o0 (.store 30 3 (tm 8) (tm 32)),o1 9 (sk 4)] 0 none) []
  (.ghost [0,1,2,4] (.ret (rl 0 8 (rl 10 85 [])))))
 .skip)) (9::(rl 29 4 []))
 Xd))
def A12:AF:=⟨95,[.cell 8 30 (some 3),.tmp 9],
 (.seq (.region 0 [o1 4 (bx 0 23 0),o1 5 (bx 1 24 1),o1 6 (bx 2 3 2),o1 8 (.alloc 3 30 [vcs ByteArray.empty,vci 0,vcn]),o1 9 (sk 0)] 4 none) []
 (.seq (.seq (.region 1 [o1 22 (lo 3 6),o1 23 (.call 22 [(tm 22),(ic 0),(ic 500)] [3,3,3] .snap),o1 24 (.unOp .not 4 (tm 23))] 0 none) []
 (.cond (tm 24)
 (.seq (.region 2 [o1 25 (.build 30 [vcs ByteArray.empty,vci 0,.c (ro kB 0 aR)] [(0,1),(1,1),(2,1)] 0 []),o0 (.store 30 3 (tm 8) (tm 25)),o1 9 (sk 9)] 0 none) []
  (.ghost [0,1,2] (.ret (rl 0 8 (rl 10 85 [])))))
 .skip)) (9::(rl 22 4 []))
 Xc))⟩
def O6:St->Option St:=nN 10 (rl 0 4 (7::9::(rl 15 33 (rl 51 44 []))))
def LJ:St:=⟨(us 4 (.x (.ptr 0 0)::.x (.ptr 1 0)::.x (.ptr 2 0)::.u::.x (.ptr 3 0)::.u::.x (.ptr 4 0)::.x (.ptr 5 0)::.x (.ptr 6 0)::.x (.ptr 7 0)::.x (.ptr 8 0)::(us 33 (.x (.c (ro kD n0 f0))::vxi i0::vxi i1::(us 44 []))))),[.box [(vcs w0),(vcs w1),(vci i2),(vci i3),(vci i4),(vcs w2)],.box [(.c (ro kA n1 f1))],.box [(vci i5)],.box [(vcs ByteArray.empty),(vci 0),(vcn)],.box [(.c (ro kA n2 f2))],.box [(vcs w3),(vci i6),(.c (ro kB n3 f3))],.box [(vci i7)],.box [(.c (ro kD n0 f0))],.box [(.own 9 0 n4)],.arr kD n4 f4]⟩
def LI:St:=⟨(us 4 (.x (.ptr 0 0)::.x (.ptr 1 0)::.x (.ptr 2 0)::.u::.x (.ptr 3 0)::.u::.x (.ptr 4 0)::.x (.ptr 5 0)::.x (.ptr 6 0)::.x (.ptr 7 0)::.x (.ptr 8 0)::(us 80 []))),[.box [(vcs w0),(vcs w1),(vci i0),(vci i1),(vci i2),(vcs w2)],.box [(.c (ro kA n0 f0))],.box [(vci i3)],.box [(vcs ByteArray.empty),(vci 0),(vcn)],.box [(.c (ro kA n1 f1))],.box [(vcs w3),(vci i4),(.c (ro kB n2 f2))],.box [(vci i5)],.box [(.c (ro kD n3 f3))],.box [(.own 9 0 n4)],.arr kD n4 f4]⟩
def jR {ρ:Type} (u:Nat) (x0:Nat) (x1:FF) (x2:Int) (x3 x4:ByteArray) (x5 x6 x7:Int) (x8:ByteArray) (x9:Nat) (xA:FF) (xB:Int) (xC:Nat) (xD:FF) (xE:ByteArray) (xF:Int) (xG:Nat) (xH:FF) (xI:Int):Nat->Int->Nat->FF->(Nat->FF->Option ρ)->Option ρ
 | 0,_,_,_,_=>none
 | m+1,xJ,xK,xL,k0 =>
  (bif (decide (xJ<x2)) then (bif (inb xJ x0) then (bif (decide ((x1 xJ.toNat 0).int>=0)) then (bif (Nat.ble (xK+1) 1073741824) then (jR u x0 x1 x2 x3 x4 x5 x6 x7 x8 x9 xA xB xC xD xE xF xG xH xI m (w64 (xJ+1)) (xK+1) (aB xK xL (aG 1 [(.i .i64 xJ)])) k0) else none) else (jR u x0 x1 x2 x3 x4 x5 x6 x7 x8 x9 xA xB xC xD xE xF xG xH xI m (w64 (xJ+1)) xK xL k0)) else none) else (k0 xK xL))
theorem Ix:∀ (m:Nat) (x0:Int) (x1:Nat) (x2:FF) (k0:Nat->FF->Option ρ),ob (jR u n0 f0 i0 w0 w1 i1 i2 i3 w2 n1 f1 i4 n2 f2 w3 i5 n3 f3 i6 m x0 x1 x2 k0) ng=jR u n0 f0 i0 w0 w1 i1 i2 i3 w2 n1 f1 i4 n2 f2 w3 i5 n3 f3 i6 m x0 x1 x2 (fun x3 x4=>ob (k0 x3 x4) ng)
 | 0,_,_,_,_=>rfl
 | m+1,x0,x1,x2,k0=>by
  simp only [jR,ak,aw,af,Ix m]
theorem Mw:∀ (m:Nat) (x0:Int) (x1:Nat) (x2:FF),
  am (eB P8 (C56 u) u) O6 m (LJ n0 n1 n2 n3 x1 f0 f1 f2 f3 x2 i0 x0 i1 i2 i3 i4 i5 i6 w0 w1 w2 w3) k=jR u n0 f0 i0 w0 w1 i1 i2 i3 w2 n1 f1 i4 n2 f2 w3 i5 n3 f3 i6 m x0 x1 x2 (fun x3 x4=>k (.exit 2) (LI n1 n2 n3 n0 x3 f1 f2 f3 f0 x4 i1 i2 i3 i4 i5 i6 w0 w1 w2 w3))
 | 0,_,_,_=>rfl
 | m+1,x0,x1,x2=>by
  simp only [jR,<- Mw m]
  kernel_rfl
def G6:St->Option St:=nN 11 (rl 0 4 (7::9::15::16::(rl 18 47 (rl 67 28 []))))
def Vq:St:=⟨(us 4 (.x (.ptr 0 0)::.x (.ptr 1 0)::.x (.ptr 2 0)::.u::.x (.ptr 3 0)::.u::.x (.ptr 4 0)::.x (.ptr 5 0)::.x (.ptr 6 0)::.x (.ptr 7 0)::.x (.ptr 8 0)::.u::.u::.x (.ptr 10 0)::(us 47 (.x (.c (ro kD n0 f0))::vxi i0::(us 28 []))))),[.box [(vcs w0),(vcs w1),(vci i1),(vci i2),(vci i3),(vcs w2)],.box [(.c (ro kA n1 f1))],.box [(vci i4)],.box [(vcs ByteArray.empty),(vci 0),(vcn)],.box [(.c (ro kA n2 f2))],.box [(vcs w3),(vci i5),(.c (ro kB n3 f3))],.box [(vci i6)],.box [(.c (ro kD n4 f4))],.box [(.c (ro kD n0 f0))],.dead,.box [(.c (ro kD n5 f5))]]⟩
def Gg:St:=⟨(us 4 (.x (.ptr 0 0)::.x (.ptr 1 0)::.x (.ptr 2 0)::.u::.x (.ptr 3 0)::.u::.x (.ptr 4 0)::.x (.ptr 5 0)::.x (.ptr 6 0)::.x (.ptr 7 0)::.x (.ptr 8 0)::.u::.u::.x (.ptr 10 0)::(us 77 []))),[.box [(vcs w0),(vcs w1),(vci i0),(vci i1),(vci i2),(vcs w2)],.box [(.c (ro kA n0 f0))],.box [(vci i3)],.box [(vcs ByteArray.empty),(vci 0),(vcn)],.box [(.c (ro kA n1 f1))],.box [(vcs w3),(vci i4),(.c (ro kB n2 f2))],.box [(vci i5)],.box [(.c (ro kD n3 f3))],.box [(.c (ro kD n4 f4))],.dead,.box [(.c (ro kD n5 f5))]]⟩
def jS {ρ:Type} (u:Nat) (x0:Nat) (x1:FF) (x2 x3:ByteArray) (x4 x5 x6:Int) (x7:ByteArray) (x8:Nat) (x9:FF) (xA:Int) (xB:Nat) (xC:FF) (xD:Nat) (xE:FF) (xF:Nat) (xG:FF):Nat->Int->ByteArray->Int->Nat->FF->Int->(ByteArray->Int->Nat->FF->Int->Option ρ)->Option ρ
 | 0,_,_,_,_,_,_,_=>none
 | m+1,xH,xI,xJ,xK,xL,xM,k0 =>
  (bif ((Nat.ble x0 4)&&true) then (bif (decide (xH<Int.ofNat (List.length (aK (liL x0 x1))))) then (ob (FW u xB xC xD xE xF xG (List.length (List.getD (aK (liL x0 x1)) xH.toNat [])) (fL (List.getD (aK (liL x0 x1)) xH.toNat [])) xA) fun xN=>(ob (Hd u x2 x3 x4 x5 x6 x7 xB xC xD xE x0 x1 xN.1 xN.2 xA) fun xO=>(ob (Ed u xO.1 xO.2.1 xO.2.2.1 xO.2.2.2.1 x8 x9) fun xP=>(bif (xO.2.2.2.2==true) then (bif (decide (xP>xM)) then (jS u x0 x1 x2 x3 x4 x5 x6 x7 x8 x9 xA xB xC xD xE xF xG m (xH+1) xO.1 xO.2.1 xO.2.2.1 xO.2.2.2.1 xP k0) else (jS u x0 x1 x2 x3 x4 x5 x6 x7 x8 x9 xA xB xC xD xE xF xG m (xH+1) xI xJ xK xL xM k0)) else (jS u x0 x1 x2 x3 x4 x5 x6 x7 x8 x9 xA xB xC xD xE xF xG m (xH+1) xI xJ xK xL xM k0))))) else (k0 xI xJ xK xL xM)) else none)
theorem Iy:∀ (m:Nat) (x0:Int) (x1:ByteArray) (x2:Int) (x3:Nat) (x4:FF) (x5:Int) (k0:ByteArray->Int->Nat->FF->Int->Option ρ),ob (jS u n0 f0 w0 w1 i0 i1 i2 w2 n1 f1 i3 n2 f2 n3 f3 n4 f4 m x0 x1 x2 x3 x4 x5 k0) ng=jS u n0 f0 w0 w1 i0 i1 i2 w2 n1 f1 i3 n2 f2 n3 f3 n4 f4 m x0 x1 x2 x3 x4 x5 (fun x6 x7 x8 x9 xA=>ob (k0 x6 x7 x8 x9 xA) ng)
 | 0,_,_,_,_,_,_,_=>rfl
 | m+1,x0,x1,x2,x3,x4,x5,k0=>by
  simp only [jS,ak,aw,af,Iy m]
theorem Mx:∀ (m:Nat) (x0:Int) (x1:ByteArray) (x2:Int) (x3:Nat) (x4:FF) (x5:Int),
  am (eI itP [(4,0,0),(5,1,0),(6,2,0),(8,3,0),(10,4,0),(11,5,0),(12,6,0),(13,7,0),(14,8,0),(17,10,0)] 65 66 95 67 7 ((.region 21 [o1 18 (sg 67)] 0 none)) JE (C56 u) u) G6 m (Vq n0 n1 n2 x3 n3 n4 f0 f1 f2 x4 f3 f4 x0 i0 i1 i2 i3 x2 x5 w0 w1 w2 x1) k=jS u n0 f0 w0 w1 i0 i1 i2 w2 n1 f1 i3 n2 f2 n3 f3 n4 f4 m x0 x1 x2 x3 x4 x5 (fun x6 x7 x8 x9 xA=>k (.exit 999999) (Gg n1 n2 x8 n3 n0 n4 f1 f2 x9 f3 f0 f4 i0 i1 i2 i3 x7 xA w0 w1 w2 x6))
 | 0,_,_,_,_,_,_=>rfl
 | m+1,x0,x1,x2,x3,x4,x5=>by
  simp only [jS,<- Mx m]
  kernel_rfl
def sV:St->Option St:=nN 10 (rl 0 4 (7::9::(rl 15 47 (rl 64 31 []))))
def Gf:St:=⟨(us 4 (.x (.ptr 0 0)::.x (.ptr 1 0)::.x (.ptr 2 0)::.u::.x (.ptr 3 0)::.u::.x (.ptr 4 0)::.x (.ptr 5 0)::.x (.ptr 6 0)::.x (.ptr 7 0)::.x (.ptr 8 0)::(us 47 (.x (.c (ro kD n0 f0))::vxi i0::(us 31 []))))),[.box [(vcs w0),(vcs w1),(vci i1),(vci i2),(vci i3),(vcs w2)],.box [(.c (ro kA n1 f1))],.box [(vci i4)],.box [(vcs ByteArray.empty),(vci 0),(vcn)],.box [(.c (ro kA n2 f2))],.box [(vcs w3),(vci i5),(.c (ro kB n3 f3))],.box [(vci i6)],.box [(.c (ro kD n4 f4))],.box [(.c (ro kD n0 f0))],.dead]⟩
def Dz:St:=⟨(us 4 (.x (.ptr 0 0)::.x (.ptr 1 0)::.x (.ptr 2 0)::.u::.x (.ptr 3 0)::.u::.x (.ptr 4 0)::.x (.ptr 5 0)::.x (.ptr 6 0)::.x (.ptr 7 0)::.x (.ptr 8 0)::(us 80 []))),[.box [(vcs w0),(vcs w1),(vci i0),(vci i1),(vci i2),(vcs w2)],.box [(.c (ro kA n0 f0))],.box [(vci i3)],.box [(vcs ByteArray.empty),(vci 0),(vcn)],.box [(.c (ro kA n1 f1))],.box [(vcs w3),(vci i4),(.c (ro kB n2 f2))],.box [(vci i5)],.box [(.c (ro kD n3 f3))],.box [(.c (ro kD n4 f4))],.dead]⟩
def l9 {ρ:Type} (u:Nat) (x0:Nat) (x1:FF) (x2 x3:ByteArray) (x4 x5 x6:Int) (x7:ByteArray) (x8:Nat) (x9:FF) (xA:Int) (xB:Nat) (xC:FF) (xD:Nat) (xE:FF):Nat->Int->ByteArray->Int->Nat->FF->Int->(ByteArray->Int->Nat->FF->Int->Option ρ)->Option ρ
 | 0,_,_,_,_,_,_,_=>none
 | m+1,xF,xG,xH,xI,xJ,xK,k0 =>
  (bif ((Nat.ble x0 4)&&true) then (bif (decide (xF<Int.ofNat (List.length (aK (liL x0 x1))))) then (jS u x0 x1 x2 x3 x4 x5 x6 x7 x8 x9 xA xB xC xD xE (List.length (List.getD (aK (liL x0 x1)) xF.toNat [])) (fL (List.getD (aK (liL x0 x1)) xF.toNat [])) u 0 xG xH xI xJ xK
  (fun xL xM xN xO xP=>(l9 u x0 x1 x2 x3 x4 x5 x6 x7 x8 x9 xA xB xC xD xE m (xF+1) xL xM xN xO xP k0))) else (k0 xG xH xI xJ xK)) else none)
theorem Iw:∀ (m:Nat) (x0:Int) (x1:ByteArray) (x2:Int) (x3:Nat) (x4:FF) (x5:Int) (k0:ByteArray->Int->Nat->FF->Int->Option ρ),ob (l9 u n0 f0 w0 w1 i0 i1 i2 w2 n1 f1 i3 n2 f2 n3 f3 m x0 x1 x2 x3 x4 x5 k0) ng=l9 u n0 f0 w0 w1 i0 i1 i2 w2 n1 f1 i3 n2 f2 n3 f3 m x0 x1 x2 x3 x4 x5 (fun x6 x7 x8 x9 xA=>ob (k0 x6 x7 x8 x9 xA) ng)
 | 0,_,_,_,_,_,_,_=>rfl
 | m+1,x0,x1,x2,x3,x4,x5,k0=>by
  simp only [l9,ak,aw,af,Iw m,Iy]
def LH:St:=⟨(us 4 (.x (.ptr 0 0)::.x (.ptr 1 0)::.x (.ptr 2 0)::.u::.x (.ptr 3 0)::.u::.x (.ptr 4 0)::.x (.ptr 5 0)::.x (.ptr 6 0)::.x (.ptr 7 0)::.x (.ptr 8 0)::.u::.u::.x (.ptr 10 0)::(us 46 (.x (.c (ro kD (List.length (List.getD (aK (liL n0 f0)) i0.toNat [])) (fL (List.getD (aK (liL n0 f0)) i0.toNat []))))::.x (.c (ro kD n0 f0))::vxi 0::(us 28 []))))),[.box [(vcs w0),(vcs w1),(vci i1),(vci i2),(vci i3),(vcs w2)],.box [(.c (ro kA n1 f1))],.box [(vci i4)],.box [(vcs ByteArray.empty),(vci 0),(vcn)],.box [(.c (ro kA n2 f2))],.box [(vcs w3),(vci i5),(.c (ro kB n3 f3))],.box [(vci i6)],.box [(.c (ro kD n4 f4))],.box [(.c (ro kD n0 f0))],.dead,.box [(.c (ro kD (List.length (List.getD (aK (liL n0 f0)) i0.toNat [])) (fL (List.getD (aK (liL n0 f0)) i0.toNat []))))]]⟩
theorem VN :
  am (eI itP [(4,0,0),(5,1,0),(6,2,0),(8,3,0),(10,4,0),(11,5,0),(12,6,0),(13,7,0),(14,8,0)] 62 63 95 64 5 ((.region 19 [o1 17 (.alloc 0 79 [vcn]),o0 (.store 79 1 (tm 17) (tm 64))] 1 none)) Aw (C56 u) u) sV (m+1) (Gf n0 n1 n2 n4 n3 f0 f1 f2 f4 f3 i4 i0 i1 i2 i3 i5 i6 w0 w1 w2 w3) k =
  (bif ((Nat.ble n0 4)&&true) then (bif (decide (i4<Int.ofNat (List.length (aK (liL n0 f0))))) then (dv (eI itP [(4,0,0),(5,1,0),(6,2,0),(8,3,0),(10,4,0),(11,5,0),(12,6,0),(13,7,0),(14,8,0),(17,10,0)] 65 66 95 67 7 ((.region 21 [o1 18 (sg 67)] 0 none)) JE (C56 u) u) G6 u (LH n0 n1 n2 n4 n3 f0 f1 f2 f4 f3 i4 i0 i1 i2 i3 i5 i6 w0 w1 w2 w3) (vD (kIt 5 (Kl 63 62 (i4+1) (ro kD n0 f0) (aN (eI itP [(4,0,0),(5,1,0),(6,2,0),(8,3,0),(10,4,0),(11,5,0),(12,6,0),(13,7,0),(14,8,0)] 62 63 95 64 5 ((.region 19 [o1 17 (.alloc 0 79 [vcn]),o0 (.store 79 1 (tm 17) (tm 64))] 1 none)) Aw (C56 u) u) sV m k))))) else (k (.exit 999999) (Dz n1 n2 n4 n3 n0 f1 f2 f4 f3 f0 i0 i1 i2 i3 i5 i6 w0 w1 w2 w3))) else none):=by kernel_rfl
theorem U8 :
  dv (eI itP [(4,0,0),(5,1,0),(6,2,0),(8,3,0),(10,4,0),(11,5,0),(12,6,0),(13,7,0),(14,8,0),(17,10,0)] 65 66 95 67 7 ((.region 21 [o1 18 (sg 67)] 0 none)) JE (C56 u) u) G6 u (LH n0 n1 n2 n3 n4 f0 f1 f2 f3 f4 i0 i1 i2 i3 i4 i5 i6 w0 w1 w2 w3) k =
  jS u n0 f0 w0 w1 i1 i2 i3 w2 n1 f1 i4 n2 f2 n4 f4 (List.length (List.getD (aK (liL n0 f0)) i0.toNat [])) (fL (List.getD (aK (liL n0 f0)) i0.toNat [])) u 0 w3 i5 n3 f3 i6 (fun x0 x1 x2 x3 x4=>k (.exit 999999) (Gg n1 n2 x2 n4 n0 (List.length (List.getD (aK (liL n0 f0)) i0.toNat [])) f1 f2 x3 f4 f0 (fL (List.getD (aK (liL n0 f0)) i0.toNat [])) i1 i2 i3 i4 x1 x4 w0 w1 w2 x0)) :=
 Eq.trans (lv (by kernel_rfl)) (Mx ..)
theorem WA :
  (vD (kIt 5 (Kl 63 62 (i0+1) (ro kD n0 f0) (aN (eI itP [(4,0,0),(5,1,0),(6,2,0),(8,3,0),(10,4,0),(11,5,0),(12,6,0),(13,7,0),(14,8,0)] 62 63 95 64 5 ((.region 19 [o1 17 (.alloc 0 79 [vcn]),o0 (.store 79 1 (tm 17) (tm 64))] 1 none)) Aw (C56 u) u) sV m k)))) (.exit 999999) (Gg n1 n2 n3 n4 n0 (List.length (List.getD (aK (liL n0 f0)) i0.toNat [])) f1 f2 f3 f4 f0 (fL (List.getD (aK (liL n0 f0)) i0.toNat [])) i1 i2 i3 i4 i5 i6 w0 w1 w2 w3) =
  (am (eI itP [(4,0,0),(5,1,0),(6,2,0),(8,3,0),(10,4,0),(11,5,0),(12,6,0),(13,7,0),(14,8,0)] 62 63 95 64 5 ((.region 19 [o1 17 (.alloc 0 79 [vcn]),o0 (.store 79 1 (tm 17) (tm 64))] 1 none)) Aw (C56 u) u) sV m (Gf n0 n1 n2 n3 n4 f0 f1 f2 f3 f4 (i0+1) i1 i2 i3 i4 i5 i6 w0 w1 w2 w3) k):=by kernel_rfl
theorem Mu:∀ (m:Nat) (x0:Int) (x1:ByteArray) (x2:Int) (x3:Nat) (x4:FF) (x5:Int),
  am (eI itP [(4,0,0),(5,1,0),(6,2,0),(8,3,0),(10,4,0),(11,5,0),(12,6,0),(13,7,0),(14,8,0)] 62 63 95 64 5 ((.region 19 [o1 17 (.alloc 0 79 [vcn]),o0 (.store 79 1 (tm 17) (tm 64))] 1 none)) Aw (C56 u) u) sV m (Gf n0 n1 n2 x3 n3 f0 f1 f2 x4 f3 x0 i0 i1 i2 i3 x2 x5 w0 w1 w2 x1) k=l9 u n0 f0 w0 w1 i0 i1 i2 w2 n1 f1 i3 n2 f2 n3 f3 m x0 x1 x2 x3 x4 x5 (fun x6 x7 x8 x9 xA=>k (.exit 999999) (Dz n1 n2 x8 n3 n0 f1 f2 x9 f3 f0 i0 i1 i2 i3 x7 xA w0 w1 w2 x6))
 | 0,_,_,_,_,_,_=>rfl
 | m+1,x0,x1,x2,x3,x4,x5=>by
  rw [VN]
  simp only [l9,Mu m,U8,WA]
def ej:St->Option St:=nN 7 (rl 0 4 (7::9::(rl 13 32 (rl 47 48 []))))
def Ge:St:=⟨(us 4 (.x (.ptr 0 0)::.x (.ptr 1 0)::.x (.ptr 2 0)::.u::.x (.ptr 3 0)::.u::.x (.ptr 4 0)::.x (.ptr 5 0)::.x (.ptr 6 0)::(us 32 (vxi i0::vxi i1::(us 48 []))))),[.box [(vcs w0),(vcs w1),(vci i2),(vci i3),(vci i4),(vcs w2)],.box [(.c (ro kA n0 f0))],.box [(vci i5)],.box [(vcs ByteArray.empty),(vci 0),(vcn)],.box [(.c (ro kA n1 f1))],.box [(vcs w3),(vci i6),(.c (ro kB n2 f2))],.box [(vci i7)]]⟩
def sB:St:=⟨(us 4 (.x (.ptr 0 0)::.x (.ptr 1 0)::.x (.ptr 2 0)::.u::.x (.ptr 3 0)::.u::.x (.ptr 4 0)::.x (.ptr 5 0)::.x (.ptr 6 0)::(us 82 []))),[.box [(vcs w0),(vcs w1),(vci i0),(vci i1),(vci i2),(vcs w2)],.box [(.c (ro kA n0 f0))],.box [(vci i3)],.box [(vcs ByteArray.empty),(vci 0),(vcn)],.box [(.c (ro kA n1 f1))],.box [(vcs w3),(vci i4),(.c (ro kB n2 f2))],.box [(vci i5)]]⟩
def dX {ρ:Type} (u:Nat) (x0:Int) (x1 x2:ByteArray) (x3 x4 x5:Int) (x6:ByteArray) (x7:Nat) (x8:FF) (x9:Int) (xA:Nat) (xB:FF):Nat->Int->ByteArray->Int->Nat->FF->Int->(ByteArray->Int->Nat->FF->Int->Option ρ)->Option ρ
 | 0,_,_,_,_,_,_,_=>none
 | m+1,xC,xD,xE,xF,xG,xH,k0 =>
  (bif ((decide (0<=x0)&&decide (x0<=4))&&true) then (bif (decide (xC<Int.ofNat (db x0.toNat))) then (jR u (List.length (aV x0.toNat xC.toNat)) (fL (aV x0.toNat xC.toNat)) (Int.ofNat (List.length (aV x0.toNat xC.toNat))) x1 x2 x3 x4 x5 x6 x7 x8 x9 xA xB xD xE xF xG xH u 0 0 (fun _ _=>.any)
  (fun xI xJ=>(l9 u xI xJ x1 x2 x3 x4 x5 x6 x7 x8 x9 xA xB (List.length (aV x0.toNat xC.toNat)) (fL (aV x0.toNat xC.toNat)) u 0 xD xE xF xG xH
  (fun xK xL xM xN xO=>(dX u x0 x1 x2 x3 x4 x5 x6 x7 x8 x9 xA xB m (xC+1) xK xL xM xN xO k0))))) else (k0 xD xE xF xG xH)) else none)
theorem Iv:∀ (m:Nat) (x0:Int) (x1:ByteArray) (x2:Int) (x3:Nat) (x4:FF) (x5:Int) (k0:ByteArray->Int->Nat->FF->Int->Option ρ),ob (dX u i0 w0 w1 i1 i2 i3 w2 n0 f0 i4 n1 f1 m x0 x1 x2 x3 x4 x5 k0) ng=dX u i0 w0 w1 i1 i2 i3 w2 n0 f0 i4 n1 f1 m x0 x1 x2 x3 x4 x5 (fun x6 x7 x8 x9 xA=>ob (k0 x6 x7 x8 x9 xA) ng)
 | 0,_,_,_,_,_,_,_=>rfl
 | m+1,x0,x1,x2,x3,x4,x5,k0=>by
  simp only [dX,ak,aw,af,Iv m,Ix,Iw]
theorem VM :
  am (eI itT [(4,0,0),(5,1,0),(6,2,0),(8,3,0),(10,4,0),(11,5,0),(12,6,0)] 45 46 95 47 1 ((.region 10 [o1 13 (.alloc 0 79 [vcn]),o0 (.store 79 1 (tm 13) (tm 47))] 1 none)) jr (C56 u) u) ej (m+1) (Ge n0 n1 n2 f0 f1 f2 i0 i5 i1 i2 i3 i4 i6 i7 w0 w1 w2 w3) k =
  (bif ((decide (0<=i0)&&decide (i0<=4))&&true) then (bif (decide (i5<Int.ofNat (db i0.toNat))) then (am (eB P8 (C56 u) u) O6 u (LJ (List.length (aV i0.toNat i5.toNat)) n0 n1 n2 0 (fL (aV i0.toNat i5.toNat)) f0 f1 f2 aR (Int.ofNat (List.length (aV i0.toNat i5.toNat))) 0 i1 i2 i3 i4 i6 i7 w0 w1 w2 w3) (aA 2 (aI (C56 u) u (15::16::(rl 48 14 [])) P7 (kIt 1 (Kl 46 45 (i5+1) (vi i0) (aN (eI itT [(4,0,0),(5,1,0),(6,2,0),(8,3,0),(10,4,0),(11,5,0),(12,6,0)] 45 46 95 47 1 ((.region 10 [o1 13 (.alloc 0 79 [vcn]),o0 (.store 79 1 (tm 13) (tm 47))] 1 none)) jr (C56 u) u) ej m k)))))) else (k (.exit 999999) (sB n0 n1 n2 f0 f1 f2 i1 i2 i3 i4 i6 i7 w0 w1 w2 w3))) else none):=by kernel_rfl
def LG:St:=⟨(us 4 (.x (.ptr 0 0)::.x (.ptr 1 0)::.x (.ptr 2 0)::.u::.x (.ptr 3 0)::.u::.x (.ptr 4 0)::.x (.ptr 5 0)::.x (.ptr 6 0)::.x (.ptr 7 0)::.x (.ptr 8 0)::(us 47 (.x (.c (ro kD n0 f0))::vxi 0::(us 31 []))))),[.box [(vcs w0),(vcs w1),(vci i0),(vci i1),(vci i2),(vcs w2)],.box [(.c (ro kA n1 f1))],.box [(vci i3)],.box [(vcs ByteArray.empty),(vci 0),(vcn)],.box [(.c (ro kA n2 f2))],.box [(vcs w3),(vci i4),(.c (ro kB n3 f3))],.box [(vci i5)],.box [(.c (ro kD (List.length (aV i6.toNat i7.toNat)) (fL (aV i6.toNat i7.toNat))))],.box [(.c (ro kD n0 f0))],.dead]⟩
theorem Wz :
  (aA 2 (aI (C56 u) u (15::16::(rl 48 14 [])) P7 (kIt 1 (Kl 46 45 (i0+1) (vi i1) (aN (eI itT [(4,0,0),(5,1,0),(6,2,0),(8,3,0),(10,4,0),(11,5,0),(12,6,0)] 45 46 95 47 1 ((.region 10 [o1 13 (.alloc 0 79 [vcn]),o0 (.store 79 1 (tm 13) (tm 47))] 1 none)) jr (C56 u) u) ej m k))))) (.exit 2) (LI n0 n1 n2 (List.length (aV i1.toNat i0.toNat)) n3 f0 f1 f2 (fL (aV i1.toNat i0.toNat)) f3 i2 i3 i4 i5 i6 i7 w0 w1 w2 w3) =
  (dv (eI itP [(4,0,0),(5,1,0),(6,2,0),(8,3,0),(10,4,0),(11,5,0),(12,6,0),(13,7,0),(14,8,0)] 62 63 95 64 5 ((.region 19 [o1 17 (.alloc 0 79 [vcn]),o0 (.store 79 1 (tm 17) (tm 64))] 1 none)) Aw (C56 u) u) sV u (LG n3 n0 n1 n2 f3 f0 f1 f2 i2 i3 i4 i5 i6 i7 i1 i0 w0 w1 w2 w3) (vD (kIt 1 (Kl 46 45 (i0+1) (vi i1) (aN (eI itT [(4,0,0),(5,1,0),(6,2,0),(8,3,0),(10,4,0),(11,5,0),(12,6,0)] 45 46 95 47 1 ((.region 10 [o1 13 (.alloc 0 79 [vcn]),o0 (.store 79 1 (tm 13) (tm 47))] 1 none)) jr (C56 u) u) ej m k))))):=by kernel_rfl
theorem U7 :
  dv (eI itP [(4,0,0),(5,1,0),(6,2,0),(8,3,0),(10,4,0),(11,5,0),(12,6,0),(13,7,0),(14,8,0)] 62 63 95 64 5 ((.region 19 [o1 17 (.alloc 0 79 [vcn]),o0 (.store 79 1 (tm 17) (tm 64))] 1 none)) Aw (C56 u) u) sV u (LG n0 n1 n2 n3 f0 f1 f2 f3 i0 i1 i2 i3 i4 i5 i6 i7 w0 w1 w2 w3) k =
  l9 u n0 f0 w0 w1 i0 i1 i2 w2 n1 f1 i3 n2 f2 (List.length (aV i6.toNat i7.toNat)) (fL (aV i6.toNat i7.toNat)) u 0 w3 i4 n3 f3 i5 (fun x0 x1 x2 x3 x4=>k (.exit 999999) (Dz n1 n2 x2 (List.length (aV i6.toNat i7.toNat)) n0 f1 f2 x3 (fL (aV i6.toNat i7.toNat)) f0 i0 i1 i2 i3 x1 x4 w0 w1 w2 x0)) :=
 Eq.trans (lv (by kernel_rfl)) (Mu ..)
theorem Wy :
  (vD (kIt 1 (Kl 46 45 (i0+1) (vi i1) (aN (eI itT [(4,0,0),(5,1,0),(6,2,0),(8,3,0),(10,4,0),(11,5,0),(12,6,0)] 45 46 95 47 1 ((.region 10 [o1 13 (.alloc 0 79 [vcn]),o0 (.store 79 1 (tm 13) (tm 47))] 1 none)) jr (C56 u) u) ej m k)))) (.exit 999999) (Dz n0 n1 n2 (List.length (aV i1.toNat i0.toNat)) n3 f0 f1 f2 (fL (aV i1.toNat i0.toNat)) f3 i2 i3 i4 i5 i6 i7 w0 w1 w2 w3) =
  (am (eI itT [(4,0,0),(5,1,0),(6,2,0),(8,3,0),(10,4,0),(11,5,0),(12,6,0)] 45 46 95 47 1 ((.region 10 [o1 13 (.alloc 0 79 [vcn]),o0 (.store 79 1 (tm 13) (tm 47))] 1 none)) jr (C56 u) u) ej m (Ge n0 n1 n2 f0 f1 f2 i1 (i0+1) i2 i3 i4 i5 i6 i7 w0 w1 w2 w3) k):=by kernel_rfl
theorem vu:∀ (m:Nat) (x0:Int) (x1:ByteArray) (x2:Int) (x3:Nat) (x4:FF) (x5:Int),
  am (eI itT [(4,0,0),(5,1,0),(6,2,0),(8,3,0),(10,4,0),(11,5,0),(12,6,0)] 45 46 95 47 1 ((.region 10 [o1 13 (.alloc 0 79 [vcn]),o0 (.store 79 1 (tm 13) (tm 47))] 1 none)) jr (C56 u) u) ej m (Ge n0 n1 x3 f0 f1 x4 i0 x0 i1 i2 i3 i4 x2 x5 w0 w1 w2 x1) k=dX u i0 w0 w1 i1 i2 i3 w2 n0 f0 i4 n1 f1 m x0 x1 x2 x3 x4 x5 (fun x6 x7 x8 x9 xA=>k (.exit 999999) (sB n0 n1 x8 f0 f1 x9 i1 i2 i3 i4 x7 xA w0 w1 w2 x6))
 | 0,_,_,_,_,_,_=>rfl
 | m+1,x0,x1,x2,x3,x4,x5=>by
  rw [VM]
  simp only [dX,vu m,Mw,Wz,U7,Wy]
def vU (x0 x1:ByteArray) (x2 x3 x4:Int) (x5:ByteArray) (x6:Nat) (x7:FF) (x8 x9:Int):Option (ByteArray × Int × Nat × FF × Int) :=
 (ob (d8 u x8 0 500) fun xA=>(bif (!xA) then (some (ByteArray.empty,0,0,(fun _ _=>.any),9)) else (ob (te u x0 x1 x2 x3 x4 x5 x6 x7) fun xB=>(bif (decide ((Int.ofNat xB.1)>4)) then (some (ByteArray.empty,0,0,(fun _ _=>.any),4)) else (bif ((Int.ofNat xB.1)==0) then (bif (decide (x9<1)) then (some (ByteArray.empty,0,0,(fun _ _=>.any),29)) else (dX u (Int.ofNat xB.1) x0 x1 x2 x3 x4 x5 x6 x7 x8 xB.1 xB.2 u 0 x0 x8 0 (fun _ _=>.any) 0
  (fun xC xD xE xF xG=>(some (xC,xD,xE,xF,0))))) else (bif ((Int.ofNat xB.1)==1) then (bif (decide (x9<3)) then (some (ByteArray.empty,0,0,(fun _ _=>.any),29)) else (dX u (Int.ofNat xB.1) x0 x1 x2 x3 x4 x5 x6 x7 x8 xB.1 xB.2 u 0 x0 x8 0 (fun _ _=>.any) 0
  (fun xH xI xJ xK xL=>(some (xH,xI,xJ,xK,0))))) else (bif ((Int.ofNat xB.1)==2) then (bif (decide (x9<21)) then (some (ByteArray.empty,0,0,(fun _ _=>.any),29)) else (dX u (Int.ofNat xB.1) x0 x1 x2 x3 x4 x5 x6 x7 x8 xB.1 xB.2 u 0 x0 x8 0 (fun _ _=>.any) 0
  (fun xM xN xO xP xQ=>(some (xM,xN,xO,xP,0))))) else (bif ((Int.ofNat xB.1)==3) then (bif (decide (x9<343)) then (some (ByteArray.empty,0,0,(fun _ _=>.any),29)) else (dX u (Int.ofNat xB.1) x0 x1 x2 x3 x4 x5 x6 x7 x8 xB.1 xB.2 u 0 x0 x8 0 (fun _ _=>.any) 0
  (fun xR xS xT xU xV=>(some (xR,xS,xT,xU,0))))) else (bif ((Int.ofNat xB.1)==4) then (bif (decide (x9<10473)) then (some (ByteArray.empty,0,0,(fun _ _=>.any),29)) else (dX u (Int.ofNat xB.1) x0 x1 x2 x3 x4 x5 x6 x7 x8 xB.1 xB.2 u 0 x0 x8 0 (fun _ _=>.any) 0
  (fun xW xX xY xZ xa=>(some (xW,xX,xY,xZ,0))))) else none)))))))))
def jD (x0:Nat × FF):St:=⟨(.agg [(vcs w0),(vcs w1),(vci i0),(vci i1),(vci i2),(vcs w2)]::.x (.c (ro kA n0 f0))::vxi i3::vxi i4::.x (.ptr 0 0)::.x (.ptr 1 0)::.x (.ptr 2 0)::uu::.x (.ptr 3 0)::.u::.x (.ptr 4 0)::.x (.ptr 5 0)::.x (.ptr 6 0)::uu::uu::uu::uu::uu::uu::uu::uu::uu::(us 4 (.agg [(vcs w0),(vcs w1),(vci i0),(vci i1),(vci i2),(vcs w2)]::.x (.c (ro kA n0 f0))::.x (.c (ro kA x0.1 x0.2))::(us 11 [.x (.ptr 0 0),vxs w0,vxi i3,.agg [(vcs w0),(vci i3),(.c (ro kB 0 aR))],.x (.c (ro kA x0.1 x0.2)),vxi (Int.ofNat x0.1),vxi 0,uu,uu,uu,uu,uu,uu,uu,uu,uu,uu,uu,uu,uu,uu,uu,uu,uu,uu,uu,uu,uu,uu,uu,uu,uu,uu,uu,uu,uu,uu,uu,uu,uu,uu,uu,uu,uu,uu,uu,uu,uu,uu,uu,uu,uu,uu,uu,uu])))),[.box [(vcs w0),(vcs w1),(vci i0),(vci i1),(vci i2),(vcs w2)],.box [(.c (ro kA n0 f0))],.box [(vci i3)],.box [(vcs ByteArray.empty),(vci 0),(vcn)],.box [(.c (ro kA x0.1 x0.2))],.box [(vcs w0),(vci i3),(.c (ro kB 0 aR))],.box [(vci 0)]]⟩
theorem U6 (x0:Nat × FF) :
  dv (eI itT [(4,0,0),(5,1,0),(6,2,0),(8,3,0),(10,4,0),(11,5,0),(12,6,0)] 45 46 95 47 1 ((.region 10 [o1 13 (.alloc 0 79 [vcn]),o0 (.store 79 1 (tm 13) (tm 47))] 1 none)) jr (C56 u) u) ej u (jD n0 f0 i0 i1 i2 i3 i4 w0 w1 w2 x0) k =
  dX u (Int.ofNat x0.1) w0 w1 i0 i1 i2 w2 n0 f0 i3 x0.1 x0.2 u 0 w0 i3 0 aR 0 (fun x1 x2 x3 x4 x5=>k (.exit 999999) (sB n0 x0.1 x3 f0 x0.2 x4 i0 i1 i2 i3 x2 x5 w0 w1 w2 x1)) :=
 Eq.trans (lv (by kernel_rfl)) (vu ..)
theorem U5 (x0:Nat × FF) :
  dv (eI itT [(4,0,0),(5,1,0),(6,2,0),(8,3,0),(10,4,0),(11,5,0),(12,6,0)] 45 46 95 47 1 ((.region 10 [o1 13 (.alloc 0 79 [vcn]),o0 (.store 79 1 (tm 13) (tm 47))] 1 none)) jr (C56 u) u) ej u (jD n0 f0 i0 i1 i2 i3 i4 w0 w1 w2 x0) k =
  dX u (Int.ofNat x0.1) w0 w1 i0 i1 i2 w2 n0 f0 i3 x0.1 x0.2 u 0 w0 i3 0 aR 0 (fun x1 x2 x3 x4 x5=>k (.exit 999999) (sB n0 x0.1 x3 f0 x0.2 x4 i0 i1 i2 i3 x2 x5 w0 w1 w2 x1)) :=
 Eq.trans (lv (by kernel_rfl)) (vu ..)
theorem U4 (x0:Nat × FF) :
  dv (eI itT [(4,0,0),(5,1,0),(6,2,0),(8,3,0),(10,4,0),(11,5,0),(12,6,0)] 45 46 95 47 1 ((.region 10 [o1 13 (.alloc 0 79 [vcn]),o0 (.store 79 1 (tm 13) (tm 47))] 1 none)) jr (C56 u) u) ej u (jD n0 f0 i0 i1 i2 i3 i4 w0 w1 w2 x0) k =
  dX u (Int.ofNat x0.1) w0 w1 i0 i1 i2 w2 n0 f0 i3 x0.1 x0.2 u 0 w0 i3 0 aR 0 (fun x1 x2 x3 x4 x5=>k (.exit 999999) (sB n0 x0.1 x3 f0 x0.2 x4 i0 i1 i2 i3 x2 x5 w0 w1 w2 x1)) :=
 Eq.trans (lv (by kernel_rfl)) (vu ..)
theorem U3 (x0:Nat × FF) :
  dv (eI itT [(4,0,0),(5,1,0),(6,2,0),(8,3,0),(10,4,0),(11,5,0),(12,6,0)] 45 46 95 47 1 ((.region 10 [o1 13 (.alloc 0 79 [vcn]),o0 (.store 79 1 (tm 13) (tm 47))] 1 none)) jr (C56 u) u) ej u (jD n0 f0 i0 i1 i2 i3 i4 w0 w1 w2 x0) k =
  dX u (Int.ofNat x0.1) w0 w1 i0 i1 i2 w2 n0 f0 i3 x0.1 x0.2 u 0 w0 i3 0 aR 0 (fun x1 x2 x3 x4 x5=>k (.exit 999999) (sB n0 x0.1 x3 f0 x0.2 x4 i0 i1 i2 i3 x2 x5 w0 w1 w2 x1)) :=
 Eq.trans (lv (by kernel_rfl)) (vu ..)
theorem Qp (x0:Nat × FF) :
  dv (eI itT [(4,0,0),(5,1,0),(6,2,0),(8,3,0),(10,4,0),(11,5,0),(12,6,0)] 45 46 95 47 1 ((.region 10 [o1 13 (.alloc 0 79 [vcn]),o0 (.store 79 1 (tm 13) (tm 47))] 1 none)) jr (C56 u) u) ej u (jD n0 f0 i0 i1 i2 i3 i4 w0 w1 w2 x0) k =
  dX u (Int.ofNat x0.1) w0 w1 i0 i1 i2 w2 n0 f0 i3 x0.1 x0.2 u 0 w0 i3 0 aR 0 (fun x1 x2 x3 x4 x5=>k (.exit 999999) (sB n0 x0.1 x3 f0 x0.2 x4 i0 i1 i2 i3 x2 x5 w0 w1 w2 x1)) :=
 Eq.trans (lv (by kernel_rfl)) (vu ..)
theorem abd:aD (C56 u) u A12 [.agg [(.s w0),(.s w1),(vi i0),(vi i1),(vi i2),(.s w2)],.v (ro kA n0 f0),.v (vi i3),.v (vi i4)]=ob (vU u w0 w1 i0 i1 i2 w2 n0 f0 i3 i4) fun t=>some [.agg [(.s t.1),(vi t.2.1),(ro kB t.2.2.1 t.2.2.2.1)],.v (vi t.2.2.2.2)]:=Eq.trans (b:=(ob (d8 u i3 0 500) fun x0=>(bif (!x0) then (some [.agg [(.s ByteArray.empty),(vi 0),(ro kB 0 aR)],.v (vi 9)]) else (ob (te u w0 w1 i0 i1 i2 w2 n0 f0) fun x1=>(bif (decide ((Int.ofNat x1.1)>4)) then (some [.agg [(.s ByteArray.empty),(vi 0),(ro kB 0 aR)],.v (vi 4)]) else (bif ((Int.ofNat x1.1)==0) then (bif (decide (i4<1)) then (some [.agg [(.s ByteArray.empty),(vi 0),(ro kB 0 aR)],.v (vi 29)]) else (dv (eI itT [(4,0,0),(5,1,0),(6,2,0),(8,3,0),(10,4,0),(11,5,0),(12,6,0)] 45 46 95 47 1 ((.region 10 [o1 13 (.alloc 0 79 [vcn]),o0 (.store 79 1 (tm 13) (tm 47))] 1 none)) jr (C56 u) u) ej u (jD n0 f0 i0 i1 i2 i3 i4 w0 w1 w2 x1) (vD (aI (C56 u) u (rl 13 9 (44::45::46::(rl 48 16 (65::66::(rl 68 26 []))))) Dk (aH A12))))) else (bif ((Int.ofNat x1.1)==1) then (bif (decide (i4<3)) then (some [.agg [(.s ByteArray.empty),(vi 0),(ro kB 0 aR)],.v (vi 29)]) else (dv (eI itT [(4,0,0),(5,1,0),(6,2,0),(8,3,0),(10,4,0),(11,5,0),(12,6,0)] 45 46 95 47 1 ((.region 10 [o1 13 (.alloc 0 79 [vcn]),o0 (.store 79 1 (tm 13) (tm 47))] 1 none)) jr (C56 u) u) ej u (jD n0 f0 i0 i1 i2 i3 i4 w0 w1 w2 x1) (vD (aI (C56 u) u (rl 13 9 (44::45::46::(rl 48 16 (65::66::(rl 68 26 []))))) Dk (aH A12))))) else (bif ((Int.ofNat x1.1)==2) then (bif (decide (i4<21)) then (some [.agg [(.s ByteArray.empty),(vi 0),(ro kB 0 aR)],.v (vi 29)]) else (dv (eI itT [(4,0,0),(5,1,0),(6,2,0),(8,3,0),(10,4,0),(11,5,0),(12,6,0)] 45 46 95 47 1 ((.region 10 [o1 13 (.alloc 0 79 [vcn]),o0 (.store 79 1 (tm 13) (tm 47))] 1 none)) jr (C56 u) u) ej u (jD n0 f0 i0 i1 i2 i3 i4 w0 w1 w2 x1) (vD (aI (C56 u) u (rl 13 9 (44::45::46::(rl 48 16 (65::66::(rl 68 26 []))))) Dk (aH A12))))) else (bif ((Int.ofNat x1.1)==3) then (bif (decide (i4<343)) then (some [.agg [(.s ByteArray.empty),(vi 0),(ro kB 0 aR)],.v (vi 29)]) else (dv (eI itT [(4,0,0),(5,1,0),(6,2,0),(8,3,0),(10,4,0),(11,5,0),(12,6,0)] 45 46 95 47 1 ((.region 10 [o1 13 (.alloc 0 79 [vcn]),o0 (.store 79 1 (tm 13) (tm 47))] 1 none)) jr (C56 u) u) ej u (jD n0 f0 i0 i1 i2 i3 i4 w0 w1 w2 x1) (vD (aI (C56 u) u (rl 13 9 (44::45::46::(rl 48 16 (65::66::(rl 68 26 []))))) Dk (aH A12))))) else (bif ((Int.ofNat x1.1)==4) then (bif (decide (i4<10473)) then (some [.agg [(.s ByteArray.empty),(vi 0),(ro kB 0 aR)],.v (vi 29)]) else (dv (eI itT [(4,0,0),(5,1,0),(6,2,0),(8,3,0),(10,4,0),(11,5,0),(12,6,0)] 45 46 95 47 1 ((.region 10 [o1 13 (.alloc 0 79 [vcn]),o0 (.store 79 1 (tm 13) (tm 47))] 1 none)) jr (C56 u) u) ej u (jD n0 f0 i0 i1 i2 i3 i4 w0 w1 w2 x1) (vD (aI (C56 u) u (rl 13 9 (44::45::46::(rl 48 16 (65::66::(rl 68 26 []))))) Dk (aH A12))))) else none)))))))))) (by kernel_rfl) (by
 simp only [vU,ak,aw,af,aa,Iv,U6,U5,U4,U3,Qp]<;>kernel_rfl)
def Y6:Ora:=mkO (qc (ag (tc cS (tc cS (tc ci (tc ci (tc ci (t1 cS))))))) (qc (av (cL kA)) (qc (av ci) (q1 (av ci))))) (fun x=>vU u x.1.1 x.1.2.1 x.1.2.2.1 x.1.2.2.2.1 x.1.2.2.2.2.1 x.1.2.2.2.2.2 x.2.1.1 x.2.1.2 x.2.2.1 x.2.2.2) fun t=>[.agg [(.s t.1),(vi t.2.1),(ro kB t.2.2.1 t.2.2.2.1)],.v (vi t.2.2.2.2)]
theorem abQ:DOI (Y6 u) (C56 u) 12 A12:=dOI u (fun x=>by exact abd u x.2.1.1 x.2.1.2 x.1.2.2.1 x.1.2.2.2.1 x.1.2.2.2.2.1 x.2.2.1 x.2.2.2 x.1.1 x.1.2.1 x.1.2.2.2.2.2)
def C57:ao:=(C56 u).add 12 (fun _=>true) (Y6 u)
def B9:An tT Tryz.f9 [.k (4::(rl 6 21 [])),.g [0,1],.k (rl 0 4 (rl 5 40 [])),.k (4::5::(rl 27 18 [])),.h [],.k (0::1::4::(rl 6 39 [])),.k (rl 27 5 []),.g [0,1],.k (rl 0 45 []),.k (4::(rl 34 11 [])),.g [0,1],.k (rl 0 4 (rl 5 40 [])),.g [0,1],.k (rl 0 4 (rl 5 40 []))]:=by
 apply Subtype.mk;cbv<;>exact rfl
def A9:AF:=B9.1
def Zt:AC:=sA A9.body [1,1]
def acA:AC:=sA Zt [1]
def Zu:AC:=sA Zt [0,1,0,0]
def O5:St->Option St:=nN 2 (0::1::4::(rl 6 39 []))
def LF:St:=⟨(.u::.u::.x (.ptr 0 0)::.x (.ptr 1 0)::.u::vxi i0::(us 39 [])),[.box [(vcs w0),(vci i1),(.c (ro kB n0 f0))],.box [(vcs w1),(vci i2),(.c (ro kB n1 f1))]]⟩
def Vp:St:=⟨(us 4 (vxb false::(us 40 []))),[.dead,.dead]⟩
def Vo:St:=⟨(us 45 []),[.dead,.dead]⟩
def s6 {ρ:Type} (u:Nat) (x0:ByteArray) (x1:Int) (x2:Nat) (x3:FF) (x4:ByteArray) (x5:Int) (x6:Nat) (x7:FF):Nat->Int->(Option ρ)->(Option ρ)->Option ρ
 | 0,_,_,_=>none
 | m+1,x8,k0,k1 =>
  (bif (decide (x8<(Int.ofNat x2))) then (bif (inb x8 x2) then (bif (inb x8 x6) then (bif (!((ByteArray.toList (x3 x8.toNat 0).str==ByteArray.toList (x7 x8.toNat 0).str)&&(((x3 x8.toNat 1).int==(x7 x8.toNat 1).int)&&(((x3 x8.toNat 2).int==(x7 x8.toNat 2).int)&&(((x3 x8.toNat 3).int==(x7 x8.toNat 3).int)&&(((x3 x8.toNat 4).bool==(x7 x8.toNat 4).bool)&&true)))))) then k0 else (s6 u x0 x1 x2 x3 x4 x5 x6 x7 m (w64 (x8+1)) k0 k1)) else none) else none) else k1)
theorem Iu:∀ (m:Nat) (x0:Int) (k0:Option ρ) (k1:Option ρ),ob (s6 u w0 i0 n0 f0 w1 i1 n1 f1 m x0 k0 k1) ng=s6 u w0 i0 n0 f0 w1 i1 n1 f1 m x0 (ob k0 ng) (ob k1 ng)
 | 0,_,_,_=>rfl
 | m+1,x0,k0,k1=>by
  simp only [s6,ak,aw,af,Iu m]
theorem Mt:∀ (m:Nat) (x0:Int),
  am (eB Zu (C57 u) u) O5 m (LF n0 n1 f0 f1 x0 i0 i1 w0 w1) k=s6 u w0 i0 n0 f0 w1 i1 n1 f1 m x0 (k .ret Vp) (k (.exit 0) Vo)
 | 0,_=>rfl
 | m+1,x0=>by
  simp only [s6,<- Mt m]
  kernel_rfl
def Hc (x0:ByteArray) (x1:Int) (x2:Nat) (x3:FF) (x4:ByteArray) (x5:Int) (x6:Nat) (x7:FF):Option (Bool) :=
 (bif ((!(ByteArray.toList x0==ByteArray.toList x4))==false) then (bif ((x1 != x5)==false) then (bif ((Int.ofNat x2) != (Int.ofNat x6)) then (some false) else (s6 u x0 x1 x2 x3 x4 x5 x6 x7 u 0
  (some false)
  (some true))) else (some false)) else (some false))
theorem abc:aD (C57 u) u A9 [.agg [(.s w0),(vi i0),(ro kB n0 f0)],.agg [(.s w1),(vi i1),(ro kB n1 f1)]]=ob (Hc u w0 i0 n0 f0 w1 i1 n1 f1) fun t=>some [.v (.b t)]:=Eq.trans (b:=(bif ((!(ByteArray.toList w0==ByteArray.toList w1))==false) then (bif ((i0 != i1)==false) then (bif ((Int.ofNat n0) != (Int.ofNat n1)) then (some [.v (.b false)]) else (am (eB Zu (C57 u) u) O5 u (LF n0 n1 f0 f1 0 i0 i1 w0 w1) (aA 0 (aI (C57 u) u (4::5::(rl 27 18 [])) acA (aH A9))))) else (some [.v (.b false)])) else (some [.v (.b false)]))) (by kernel_rfl) (by
 simp only [Hc,ak,aw,af,aa,Iu,Mt]<;>kernel_rfl)
def Y5:Ora:=mkO (qc (ag (tc cS (tc ci (t1 (cL kB))))) (q1 (ag (tc cS (tc ci (t1 (cL kB))))))) (fun x=>Hc u x.1.1 x.1.2.1 x.1.2.2.1 x.1.2.2.2 x.2.1 x.2.2.1 x.2.2.2.1 x.2.2.2.2) fun t=>[.v (.b t)]
theorem abP:DO (Y5 u) (C57 u) 9 A9:=dO u (fun x=>by exact abc u x.1.2.2.1 x.2.2.2.1 x.1.2.2.2 x.2.2.2.2 x.1.2.1 x.2.2.1 x.1.1 x.2.1)
def C58:ao:=(C57 u).add 9 (fun _=>true) (Y5 u)
def B8:An tT Tryz.f8 [.k (0::(rl 40 24 [])),.g [1,3,5,6,7],.k (rl 1 92 []),.g [1,3,5,6,7],.k (rl 1 92 [])]:=by
 apply Subtype.mk;cbv<;>exact rfl
def A8:AF:=B8.1
def Ha:Option (Bool) :=
 (ob (Hf u 100 50) fun x0=>(ob (Cu u (ByteArray.mk #[97]) 30 10) fun x1=>(ob (Cu u (ByteArray.mk #[98]) 30 10) fun x2=>(ob (WX u x0.1 x0.2.1 x0.2.2.1 x0.2.2.2.1 x0.2.2.2.2.1 x0.2.2.2.2.2 2 (aG 18 [(.s x1.1),(.i .i64 x1.2.1),(.i .i64 x1.2.2.1),(.s x1.2.2.2.1),(.s x1.2.2.2.2.1),(.i .i64 x1.2.2.2.2.2.1),(.ro false (.pr (.int .i64) (.pr (.int .i64) .nil)) x1.2.2.2.2.2.2.1 x1.2.2.2.2.2.2.2.1),(.ro false (.pr (.sl (.pr (.int .i64) (.pr (.int .i64) .nil))) .nil) (p8 x1).1 (p8 x1).2.1),(.s (p8 x1).2.2.1),(.i .i64 (p8 x1).2.2.2.1),(.i .i64 (p8 x1).2.2.2.2.1),(.i .i64 (p8 x1).2.2.2.2.2.1),(.i .i64 (p8 x1).2.2.2.2.2.2.1),(.i .i64 (p8 x1).2.2.2.2.2.2.2.1),(.i .i64 (pG x1).1),(.i .i64 (pG x1).2.1),(.i .i64 (pG x1).2.2.1),(.i .i64 (pG x1).2.2.2),(.s x2.1),(.i .i64 x2.2.1),(.i .i64 x2.2.2.1),(.s x2.2.2.2.1),(.s x2.2.2.2.2.1),(.i .i64 x2.2.2.2.2.2.1),(.ro false (.pr (.int .i64) (.pr (.int .i64) .nil)) x2.2.2.2.2.2.2.1 x2.2.2.2.2.2.2.2.1),(.ro false (.pr (.sl (.pr (.int .i64) (.pr (.int .i64) .nil))) .nil) (p8 x2).1 (p8 x2).2.1),(.s (p8 x2).2.2.1),(.i .i64 (p8 x2).2.2.2.1),(.i .i64 (p8 x2).2.2.2.2.1),(.i .i64 (p8 x2).2.2.2.2.2.1),(.i .i64 (p8 x2).2.2.2.2.2.2.1),(.i .i64 (p8 x2).2.2.2.2.2.2.2.1),(.i .i64 (pG x2).1),(.i .i64 (pG x2).2.1),(.i .i64 (pG x2).2.2.1),(.i .i64 (pG x2).2.2.2)]) 5) fun x3=>(ob (Hf u 20 40) fun x4=>(ob (Cu u (ByteArray.mk #[97]) 30 10) fun x5=>(ob (WX u x4.1 x4.2.1 x4.2.2.1 x4.2.2.2.1 x4.2.2.2.2.1 x4.2.2.2.2.2 1 (aG 18 [(.s x5.1),(.i .i64 x5.2.1),(.i .i64 x5.2.2.1),(.s x5.2.2.2.1),(.s x5.2.2.2.2.1),(.i .i64 x5.2.2.2.2.2.1),(.ro false (.pr (.int .i64) (.pr (.int .i64) .nil)) x5.2.2.2.2.2.2.1 x5.2.2.2.2.2.2.2.1),(.ro false (.pr (.sl (.pr (.int .i64) (.pr (.int .i64) .nil))) .nil) (p8 x5).1 (p8 x5).2.1),(.s (p8 x5).2.2.1),(.i .i64 (p8 x5).2.2.2.1),(.i .i64 (p8 x5).2.2.2.2.1),(.i .i64 (p8 x5).2.2.2.2.2.1),(.i .i64 (p8 x5).2.2.2.2.2.2.1),(.i .i64 (p8 x5).2.2.2.2.2.2.2.1),(.i .i64 (pG x5).1),(.i .i64 (pG x5).2.1),(.i .i64 (pG x5).2.2.1),(.i .i64 (pG x5).2.2.2)]) 5) fun x6=>(ob (Cu u (ByteArray.mk #[97]) 20 10) fun x7=>(ob (Cu u (ByteArray.mk #[98]) 40 20) fun x8=>(ob (Cu u (ByteArray.mk #[99]) 19 9) fun x9=>(ob (Hf u 42 32) fun xA=>(ob (vU u xA.1 xA.2.1 xA.2.2.1 xA.2.2.2.1 xA.2.2.2.2.1 xA.2.2.2.2.2 3 (aG 18 [(.s x7.1),(.i .i64 x7.2.1),(.i .i64 x7.2.2.1),(.s x7.2.2.2.1),(.s x7.2.2.2.2.1),(.i .i64 x7.2.2.2.2.2.1),(.ro false (.pr (.int .i64) (.pr (.int .i64) .nil)) x7.2.2.2.2.2.2.1 x7.2.2.2.2.2.2.2.1),(.ro false (.pr (.sl (.pr (.int .i64) (.pr (.int .i64) .nil))) .nil) (p8 x7).1 (p8 x7).2.1),(.s (p8 x7).2.2.1),(.i .i64 (p8 x7).2.2.2.1),(.i .i64 (p8 x7).2.2.2.2.1),(.i .i64 (p8 x7).2.2.2.2.2.1),(.i .i64 (p8 x7).2.2.2.2.2.2.1),(.i .i64 (p8 x7).2.2.2.2.2.2.2.1),(.i .i64 (pG x7).1),(.i .i64 (pG x7).2.1),(.i .i64 (pG x7).2.2.1),(.i .i64 (pG x7).2.2.2),(.s x8.1),(.i .i64 x8.2.1),(.i .i64 x8.2.2.1),(.s x8.2.2.2.1),(.s x8.2.2.2.2.1),(.i .i64 x8.2.2.2.2.2.1),(.ro false (.pr (.int .i64) (.pr (.int .i64) .nil)) x8.2.2.2.2.2.2.1 x8.2.2.2.2.2.2.2.1),(.ro false (.pr (.sl (.pr (.int .i64) (.pr (.int .i64) .nil))) .nil) (p8 x8).1 (p8 x8).2.1),(.s (p8 x8).2.2.1),(.i .i64 (p8 x8).2.2.2.1),(.i .i64 (p8 x8).2.2.2.2.1),(.i .i64 (p8 x8).2.2.2.2.2.1),(.i .i64 (p8 x8).2.2.2.2.2.2.1),(.i .i64 (p8 x8).2.2.2.2.2.2.2.1),(.i .i64 (pG x8).1),(.i .i64 (pG x8).2.1),(.i .i64 (pG x8).2.2.1),(.i .i64 (pG x8).2.2.2),(.s x9.1),(.i .i64 x9.2.1),(.i .i64 x9.2.2.1),(.s x9.2.2.2.1),(.s x9.2.2.2.2.1),(.i .i64 x9.2.2.2.2.2.1),(.ro false (.pr (.int .i64) (.pr (.int .i64) .nil)) x9.2.2.2.2.2.2.1 x9.2.2.2.2.2.2.2.1),(.ro false (.pr (.sl (.pr (.int .i64) (.pr (.int .i64) .nil))) .nil) (p8 x9).1 (p8 x9).2.1),(.s (p8 x9).2.2.1),(.i .i64 (p8 x9).2.2.2.1),(.i .i64 (p8 x9).2.2.2.2.1),(.i .i64 (p8 x9).2.2.2.2.2.1),(.i .i64 (p8 x9).2.2.2.2.2.2.1),(.i .i64 (p8 x9).2.2.2.2.2.2.2.1),(.i .i64 (pG x9).1),(.i .i64 (pG x9).2.1),(.i .i64 (pG x9).2.2.1),(.i .i64 (pG x9).2.2.2)]) 1 343) fun xB=>(ob (Hf u 42 32) fun xC=>(ob (vU u xC.1 xC.2.1 xC.2.2.1 xC.2.2.2.1 xC.2.2.2.2.1 xC.2.2.2.2.2 3 (aG 18 [(.s x7.1),(.i .i64 x7.2.1),(.i .i64 x7.2.2.1),(.s x7.2.2.2.1),(.s x7.2.2.2.2.1),(.i .i64 x7.2.2.2.2.2.1),(.ro false (.pr (.int .i64) (.pr (.int .i64) .nil)) x7.2.2.2.2.2.2.1 x7.2.2.2.2.2.2.2.1),(.ro false (.pr (.sl (.pr (.int .i64) (.pr (.int .i64) .nil))) .nil) (p8 x7).1 (p8 x7).2.1),(.s (p8 x7).2.2.1),(.i .i64 (p8 x7).2.2.2.1),(.i .i64 (p8 x7).2.2.2.2.1),(.i .i64 (p8 x7).2.2.2.2.2.1),(.i .i64 (p8 x7).2.2.2.2.2.2.1),(.i .i64 (p8 x7).2.2.2.2.2.2.2.1),(.i .i64 (pG x7).1),(.i .i64 (pG x7).2.1),(.i .i64 (pG x7).2.2.1),(.i .i64 (pG x7).2.2.2),(.s x8.1),(.i .i64 x8.2.1),(.i .i64 x8.2.2.1),(.s x8.2.2.2.1),(.s x8.2.2.2.2.1),(.i .i64 x8.2.2.2.2.2.1),(.ro false (.pr (.int .i64) (.pr (.int .i64) .nil)) x8.2.2.2.2.2.2.1 x8.2.2.2.2.2.2.2.1),(.ro false (.pr (.sl (.pr (.int .i64) (.pr (.int .i64) .nil))) .nil) (p8 x8).1 (p8 x8).2.1),(.s (p8 x8).2.2.1),(.i .i64 (p8 x8).2.2.2.1),(.i .i64 (p8 x8).2.2.2.2.1),(.i .i64 (p8 x8).2.2.2.2.2.1),(.i .i64 (p8 x8).2.2.2.2.2.2.1),(.i .i64 (p8 x8).2.2.2.2.2.2.2.1),(.i .i64 (pG x8).1),(.i .i64 (pG x8).2.1),(.i .i64 (pG x8).2.2.1),(.i .i64 (pG x8).2.2.2),(.s x9.1),(.i .i64 x9.2.1),(.i .i64 x9.2.2.1),(.s x9.2.2.2.1),(.s x9.2.2.2.2.1),(.i .i64 x9.2.2.2.2.2.1),(.ro false (.pr (.int .i64) (.pr (.int .i64) .nil)) x9.2.2.2.2.2.2.1 x9.2.2.2.2.2.2.2.1),(.ro false (.pr (.sl (.pr (.int .i64) (.pr (.int .i64) .nil))) .nil) (p8 x9).1 (p8 x9).2.1),(.s (p8 x9).2.2.1),(.i .i64 (p8 x9).2.2.2.1),(.i .i64 (p8 x9).2.2.2.2.1),(.i .i64 (p8 x9).2.2.2.2.2.1),(.i .i64 (p8 x9).2.2.2.2.2.2.1),(.i .i64 (p8 x9).2.2.2.2.2.2.2.1),(.i .i64 (pG x9).1),(.i .i64 (pG x9).2.1),(.i .i64 (pG x9).2.2.1),(.i .i64 (pG x9).2.2.2)]) 1 342) fun xD=>(ob (Cu u (ByteArray.mk #[97]) 30 10) fun xE=>(ob (lG u (au [(.s xE.1),(.i .i64 xE.2.1),(.i .i64 xE.2.2.1),(.s xE.2.2.2.1),(.s xE.2.2.2.2.1),(.i .i64 xE.2.2.2.2.2.1),(.ro false (.pr (.int .i64) (.pr (.int .i64) .nil)) xE.2.2.2.2.2.2.1 xE.2.2.2.2.2.2.2.1),(.ro false (.pr (.sl (.pr (.int .i64) (.pr (.int .i64) .nil))) .nil) (p8 xE).1 (p8 xE).2.1),(.s (p8 xE).2.2.1),(.i .i64 (p8 xE).2.2.2.1),(.i .i64 (p8 xE).2.2.2.2.1),(.i .i64 (p8 xE).2.2.2.2.2.1),(.i .i64 (p8 xE).2.2.2.2.2.2.1),(.i .i64 (p8 xE).2.2.2.2.2.2.2.1),(.i .i64 (pG xE).1),(.i .i64 (pG xE).2.1),(.i .i64 (pG xE).2.2.1),(.i .i64 (pG xE).2.2.2)]) 1) fun xF=>(ob (Hc u x3.1 x3.2.1 x3.2.2.1 x3.2.2.2 (ByteArray.mk #[83,49]) 5 2 (aG 5 [(.s (ByteArray.mk #[97])),(.i .i64 5),(.i .i64 5),(.i .i64 0),(.b false),(.s (ByteArray.mk #[98])),(.i .i64 40),(.i .i64 5),(.i .i64 0),(.b false)])) fun xG=>(bif ((!xG)==false) then (bif (((Int.ofNat x6.2.2.1) != 1)==false) then (bif (inb 0 x6.2.2.1) then (bif (!((ByteArray.toList (x6.2.2.2 0 0).str==ByteArray.toList (ByteArray.mk #[97]))&&(((x6.2.2.2 0 1).int==15)&&(((x6.2.2.2 0 2).int==5)&&(((x6.2.2.2 0 3).int==1)&&(((x6.2.2.2 0 4).bool==false)&&true)))))) then (some false) else (bif ((xB.2.2.2.2==0)==true) then (ob (Ed u xB.1 xB.2.1 xB.2.2.1 xB.2.2.2.1 3 (aG 18 [(.s x7.1),(.i .i64 x7.2.1),(.i .i64 x7.2.2.1),(.s x7.2.2.2.1),(.s x7.2.2.2.2.1),(.i .i64 x7.2.2.2.2.2.1),(.ro false (.pr (.int .i64) (.pr (.int .i64) .nil)) x7.2.2.2.2.2.2.1 x7.2.2.2.2.2.2.2.1),(.ro false (.pr (.sl (.pr (.int .i64) (.pr (.int .i64) .nil))) .nil) (p8 x7).1 (p8 x7).2.1),(.s (p8 x7).2.2.1),(.i .i64 (p8 x7).2.2.2.1),(.i .i64 (p8 x7).2.2.2.2.1),(.i .i64 (p8 x7).2.2.2.2.2.1),(.i .i64 (p8 x7).2.2.2.2.2.2.1),(.i .i64 (p8 x7).2.2.2.2.2.2.2.1),(.i .i64 (pG x7).1),(.i .i64 (pG x7).2.1),(.i .i64 (pG x7).2.2.1),(.i .i64 (pG x7).2.2.2),(.s x8.1),(.i .i64 x8.2.1),(.i .i64 x8.2.2.1),(.s x8.2.2.2.1),(.s x8.2.2.2.2.1),(.i .i64 x8.2.2.2.2.2.1),(.ro false (.pr (.int .i64) (.pr (.int .i64) .nil)) x8.2.2.2.2.2.2.1 x8.2.2.2.2.2.2.2.1),(.ro false (.pr (.sl (.pr (.int .i64) (.pr (.int .i64) .nil))) .nil) (p8 x8).1 (p8 x8).2.1),(.s (p8 x8).2.2.1),(.i .i64 (p8 x8).2.2.2.1),(.i .i64 (p8 x8).2.2.2.2.1),(.i .i64 (p8 x8).2.2.2.2.2.1),(.i .i64 (p8 x8).2.2.2.2.2.2.1),(.i .i64 (p8 x8).2.2.2.2.2.2.2.1),(.i .i64 (pG x8).1),(.i .i64 (pG x8).2.1),(.i .i64 (pG x8).2.2.1),(.i .i64 (pG x8).2.2.2),(.s x9.1),(.i .i64 x9.2.1),(.i .i64 x9.2.2.1),(.s x9.2.2.2.1),(.s x9.2.2.2.2.1),(.i .i64 x9.2.2.2.2.2.1),(.ro false (.pr (.int .i64) (.pr (.int .i64) .nil)) x9.2.2.2.2.2.2.1 x9.2.2.2.2.2.2.2.1),(.ro false (.pr (.sl (.pr (.int .i64) (.pr (.int .i64) .nil))) .nil) (p8 x9).1 (p8 x9).2.1),(.s (p8 x9).2.2.1),(.i .i64 (p8 x9).2.2.2.1),(.i .i64 (p8 x9).2.2.2.2.1),(.i .i64 (p8 x9).2.2.2.2.2.1),(.i .i64 (p8 x9).2.2.2.2.2.2.1),(.i .i64 (p8 x9).2.2.2.2.2.2.2.1),(.i .i64 (pG x9).1),(.i .i64 (pG x9).2.1),(.i .i64 (pG x9).2.2.1),(.i .i64 (pG x9).2.2.2)])) fun xH=>(bif ((xH==1942)==true) then (bif ((xD.2.2.2.2==29)==true) then (bif ((xF.1==10)==true) then (bif ((xF.2==30)==true) then (ob (Eb u 20 20 0 (fun _ _=>.any) 5 5 10 10 5) fun xI=>(bif (xI==true) then (ob (Eb u 20 20 0 (fun _ _=>.any) 6 5 10 10 5) fun xJ=>(some (!xJ))) else (some false))) else (some false)) else (some false)) else (some false)) else (some false))) else (some false))) else none) else (some false)) else (some false)))))))))))))))))))
theorem abb:aD (C58 u) u A8 []=ob (Ha u) fun t=>some [.v (.b t)]:=by
 simp only [Ha,ak,aw,af,aa]
 kernel_rfl
def Y4:Ora:=mkO q0 (fun x=>Ha u) fun t=>[.v (.b t)]
theorem abO:DO (Y4 u) (C58 u) 8 A8:=dO u (fun x=>by exact abb u)
def C59:ao:=(C58 u).add 8 (fun _=>true) (Y4 u)
def B38:An tT Tryz.f38 [.k (rl 4 16 []),.h [],.k (2::3::4::(rl 6 14 [])),.k (rl 6 4 []),.k (rl 0 20 []),.k (4::(rl 12 8 [])),.k (rl 0 4 (rl 5 15 [])),.k (rl 0 4 (rl 5 15 []))]:=by
 apply Subtype.mk;cbv<;>exact rfl
def A38:AF:=B38.1
def aaa:AC:=sA A38.body [1,1]
def Ut:AC:=sA A38.body [1,0,1,0,0]
def Po:St->Option St:=nN 0 (2::3::4::(rl 6 14 []))
def Me:St:=⟨(.x (.c (ro kA n0 f0))::vxs w0::(us 3 (vxi i0::(us 14 [])))),[]⟩
def VG:St:=⟨(us 4 (vxi i0::(us 15 []))),[]⟩
def VF:St:=⟨(us 20 []),[]⟩
def m8 {ρ:Type} (u:Nat) (x0:Nat) (x1:FF) (x2:ByteArray):Nat->Int->(Int->Option ρ)->(Option ρ)->Option ρ
 | 0,_,_,_=>none
 | m+1,x3,k0,k1 =>
  (bif (decide (x3<(Int.ofNat x0))) then (bif (inb x3 x0) then (bif (ByteArray.toList (x1 x3.toNat 0).str==ByteArray.toList x2) then (k0 x3) else (m8 u x0 x1 x2 m (w64 (x3+1)) k0 k1)) else none) else k1)
theorem IX:∀ (m:Nat) (x0:Int) (k0:Int->Option ρ) (k1:Option ρ),ob (m8 u n0 f0 w0 m x0 k0 k1) ng=m8 u n0 f0 w0 m x0 (fun x1=>ob (k0 x1) ng) (ob k1 ng)
 | 0,_,_,_=>rfl
 | m+1,x0,k0,k1=>by
  simp only [m8,ak,aw,af,IX m]
theorem MS:∀ (m:Nat) (x0:Int),
  am (eB Ut (C59 u) u) Po m (Me n0 f0 x0 w0) k=m8 u n0 f0 w0 m x0 (fun x1=>k .ret (VG x1)) (k (.exit 0) VF)
 | 0,_=>rfl
 | m+1,x0=>by
  simp only [m8,<- MS m]
  kernel_rfl
def FX (x0:Nat) (x1:FF) (x2:ByteArray):Option (Int) :=
 (m8 u x0 x1 x2 u 0
  (fun x3=>(some x3))
  (some (-1)))
theorem abv:aD (C59 u) u A38 [.v (ro kA n0 f0),.v (.s w0)]=ob (FX u n0 f0 w0) fun t=>some [.v (vi t)]:=Eq.trans (b:=(am (eB Ut (C59 u) u) Po u (Me n0 f0 0 w0) (aA 0 (aI (C59 u) u (rl 4 16 []) aaa (aH A38))))) (by kernel_rfl) (by
 simp only [FX,ak,aw,af,aa,IX,MS]<;>kernel_rfl)
def Zo:Ora:=mkO (qc (av (cL kA)) (q1 (av cS))) (fun x=>FX u x.1.1 x.1.2 x.2) fun t=>[.v (vi t)]
theorem ab8:DO (Zo u) (C59 u) 38 A38:=dO u (fun x=>by exact abv u x.1.1 x.1.2 x.2)
def C60:ao:=(C59 u).add 38 (fun _=>true) (Zo u)
def acv:An tT Tryz.f116 [.k (0::1::(rl 3 18 []))]:=by
 apply Subtype.mk;cbv<;>exact rfl
def aaK:AF:=acv.1
def F69 (u:Nat) (x0 x1:Int):Option (Bool) :=
 (bif ((decide (x0>=(-32768)))==true) then (bif ((decide (x0<=32768))==true) then (bif ((decide (x1>=(-32768)))==true) then (some (decide (x1<=32768))) else (some false)) else (some false)) else (some false))
theorem e69:aD (C60 u) u aaK [.agg [(vi i0),(vi i1)]]=ob (F69 u i0 i1) fun t=>some [.v (.b t)]:=by
 simp only [F69,ak,aw,af,aa]
 kernel_rfl
def O69:Ora:=mkO (q1 (ag (tc ci (t1 ci)))) (fun x=>F69 u x.1 x.2) fun t=>[.v (.b t)]
theorem d69:DO (O69 u) (C60 u) 116 aaK:=dO u (fun x=>by exact e69 u x.1 x.2)
def C61:ao:=(C60 u).add 116 (fun _=>true) (O69 u)
def acy:An tT Tryz.f113 [.k (rl 2 14 []),.h [],.k (1::2::(rl 4 12 [])),.k (rl 4 4 []),.k (rl 0 16 []),.k (2::(rl 10 6 [])),.k (0::1::(rl 3 13 [])),.k (0::1::(rl 3 13 []))]:=by
 apply Subtype.mk;cbv<;>exact rfl
def Qe:AF:=acy.1
def Xe:AC:=sA Qe.body [1,1]
def Qd:AC:=sA Qe.body [1,0,1,0,0]
def Tt:St->Option St:=nN 0 (1::2::(rl 4 12 []))
def RF:St:=⟨(.x (.c (ro kP n0 f0))::.u::.u::vxi i0::(us 12 [])),[]⟩
def Xq:St:=⟨(.u::.u::vxb false::(us 13 [])),[]⟩
def Xp:St:=⟨(us 16 []),[]⟩
def ve {ρ:Type} (u:Nat) (x0:Nat) (x1:FF):Nat->Int->(Option ρ)->(Option ρ)->Option ρ
 | 0,_,_,_=>none
 | m+1,x2,k0,k1 =>
  (bif (decide (x2<(Int.ofNat x0))) then (bif (inb x2 x0) then (ob (F69 u (x1 x2.toNat 0).int (x1 x2.toNat 1).int) fun x3=>(bif (!x3) then k0 else (ve u x0 x1 m (w64 (x2+1)) k0 k1))) else none) else k1)
theorem Nq:∀ (m:Nat) (x0:Int) (k0:Option ρ) (k1:Option ρ),ob (ve u n0 f0 m x0 k0 k1) ng=ve u n0 f0 m x0 (ob k0 ng) (ob k1 ng)
 | 0,_,_,_=>rfl
 | m+1,x0,k0,k1=>by
  simp only [ve,ak,aw,af,Nq m]
theorem Sx:∀ (m:Nat) (x0:Int),
  am (eB Qd (C61 u) u) Tt m (RF n0 f0 x0) k=ve u n0 f0 m x0 (k .ret Xq) (k (.exit 0) Xp)
 | 0,_=>rfl
 | m+1,x0=>by
  simp only [ve,<- Sx m]
  kernel_rfl
def F66 (x0:Nat) (x1:FF):Option (Bool) :=
 (ve u x0 x1 u 0
  (some false)
  (some true))
theorem e66:aD (C61 u) u Qe [.v (ro kP n0 f0)]=ob (F66 u n0 f0) fun t=>some [.v (.b t)]:=Eq.trans (b:=(am (eB Qd (C61 u) u) Tt u (RF n0 f0 0) (aA 0 (aI (C61 u) u (rl 2 14 []) Xe (aH Qe))))) (by kernel_rfl) (by
 simp only [F66,ak,aw,af,aa,Nq,Sx]<;>kernel_rfl)
def O66:Ora:=mkO (q1 (av (cL kP))) (fun x=>F66 u x.1 x.2) fun t=>[.v (.b t)]
theorem d66:DO (O66 u) (C61 u) 113 Qe:=dO u (fun x=>by exact e66 u x.1 x.2)
def C62:ao:=(C61 u).add 113 (fun _=>true) (O66 u)
def act:An tT Tryz.f118 [.k (rl 0 6 (rl 7 23 []))]:=by
 apply Subtype.mk;cbv<;>exact rfl
def aaI:AF:=act.1
def F71 (u:Nat) (x0 x1 x2 x3 x4 x5:Int):Option (Int) :=
 (some (w64 ((w64 ((w64 (x2-x0))*(w64 (x5-x1))))-(w64 ((w64 (x3-x1))*(w64 (x4-x0)))))))
theorem e71:aD (C62 u) u aaI [.agg [(vi i0),(vi i1)],.agg [(vi i2),(vi i3)],.agg [(vi i4),(vi i5)]]=ob (F71 u i0 i1 i2 i3 i4 i5) fun t=>some [.v (vi t)]:=by
 simp only [F71,ak,aw,af,aa]
 kernel_rfl
def O71:Ora:=mkO (qc (ag (tc ci (t1 ci))) (qc (ag (tc ci (t1 ci))) (q1 (ag (tc ci (t1 ci)))))) (fun x=>F71 u x.1.1 x.1.2 x.2.1.1 x.2.1.2 x.2.2.1 x.2.2.2) fun t=>[.v (vi t)]
theorem d71:DO (O71 u) (C62 u) 118 aaI:=dO u (fun x=>by exact e71 u x.1.1 x.1.2 x.2.1.1 x.2.1.2 x.2.2.1 x.2.2.2)
def C63:ao:=(C62 u).add 118 (fun _=>true) (O71 u)
def acu:An tT Tryz.f117 [.k (rl 0 6 (rl 7 45 []))]:=by
 apply Subtype.mk;cbv<;>exact rfl
def aaJ:AF:=acu.1
def F70 (x0 x1 x2 x3 x4 x5:Int):Option (Bool) :=
 (ob (F71 u x2 x3 x4 x5 x0 x1) fun x6=>(bif ((x6==0)==true) then (bif ((decide ((if x4<x2 then x4 else x2)<=x0))==true) then (bif ((decide (x0<=(if x4>x2 then x4 else x2)))==true) then (bif ((decide ((if x5<x3 then x5 else x3)<=x1))==true) then (some (decide (x1<=(if x5>x3 then x5 else x3)))) else (some false)) else (some false)) else (some false)) else (some false)))
theorem e70:aD (C63 u) u aaJ [.agg [(vi i0),(vi i1)],.agg [(vi i2),(vi i3)],.agg [(vi i4),(vi i5)]]=ob (F70 u i0 i1 i2 i3 i4 i5) fun t=>some [.v (.b t)]:=by
 simp only [F70,ak,aw,af,aa]
 kernel_rfl
def O70:Ora:=mkO (qc (ag (tc ci (t1 ci))) (qc (ag (tc ci (t1 ci))) (q1 (ag (tc ci (t1 ci)))))) (fun x=>F70 u x.1.1 x.1.2 x.2.1.1 x.2.1.2 x.2.2.1 x.2.2.2) fun t=>[.v (.b t)]
theorem d70:DO (O70 u) (C63 u) 117 aaJ:=dO u (fun x=>by exact e70 u x.1.1 x.1.2 x.2.1.1 x.2.1.2 x.2.2.1 x.2.2.2)
def C64:ao:=(C63 u).add 117 (fun _=>true) (O70 u)
def acj:An tT Tryz.f135 [.k (rl 2 7 []),.k (0::1::(rl 3 6 [])),.k (0::1::(rl 3 6 [])),.k (0::1::(rl 3 6 []))]:=by
 apply Subtype.mk;cbv<;>exact rfl
def aav:AF:=acj.1
def F88 (u:Nat) (x0:Int):Option (Int) :=
 (bif (decide (x0<0)) then (some (-1)) else (bif (decide (x0>0)) then (some 1) else (some 0)))
theorem e88:aD (C64 u) u aav [.v (vi i0)]=ob (F88 u i0) fun t=>some [.v (vi t)]:=by
 simp only [F88,ak,aw,af,aa]
 kernel_rfl
def O88:Ora:=mkO (q1 (av ci)) (fun x=>F88 u x) fun t=>[.v (vi t)]
theorem d88:DO (O88 u) (C64 u) 135 aav:=dO u (fun x=>by exact e88 u x)
def C65:ao:=(C64 u).add 135 (fun _=>true) (O88 u)
def aco:An tT Tryz.f129 [.k (rl 8 23 []),.k (rl 0 8 (rl 9 48 [])),.k (rl 0 8 (rl 9 48 []))]:=by
 apply Subtype.mk;cbv<;>exact rfl
def aaD:AF:=aco.1
def F82 (x0 x1 x2 x3 x4 x5 x6 x7:Int):Option (Bool) :=
 (ob (F70 u x0 x1 x4 x5 x6 x7) fun x8=>(bif (x8==false) then (ob (F70 u x2 x3 x4 x5 x6 x7) fun x9=>(bif (x9==false) then (ob (F70 u x4 x5 x0 x1 x2 x3) fun xA=>(bif (xA==false) then (ob (F70 u x6 x7 x0 x1 x2 x3) fun xB=>(bif xB then (some true) else (ob (F71 u x0 x1 x2 x3 x4 x5) fun xC=>(ob (F88 u xC) fun xD=>(ob (F71 u x0 x1 x2 x3 x6 x7) fun xE=>(ob (F88 u xE) fun xF=>(bif ((decide ((w64 (xD*xF))<0))==true) then (ob (F71 u x4 x5 x6 x7 x0 x1) fun xG=>(ob (F88 u xG) fun xH=>(ob (F71 u x4 x5 x6 x7 x2 x3) fun xI=>(ob (F88 u xI) fun xJ=>(some (decide ((w64 (xH*xJ))<0))))))) else (some false)))))))) else (some true))) else (some true))) else (some true)))
theorem e82:aD (C65 u) u aaD [.agg [(vi i0),(vi i1)],.agg [(vi i2),(vi i3)],.agg [(vi i4),(vi i5)],.agg [(vi i6),(vi i7)]]=ob (F82 u i0 i1 i2 i3 i4 i5 i6 i7) fun t=>some [.v (.b t)]:=by
 simp only [F82,ak,aw,af,aa]
 kernel_rfl
def O82:Ora:=mkO (qc (ag (tc ci (t1 ci))) (qc (ag (tc ci (t1 ci))) (qc (ag (tc ci (t1 ci))) (q1 (ag (tc ci (t1 ci))))))) (fun x=>F82 u x.1.1 x.1.2 x.2.1.1 x.2.1.2 x.2.2.1.1 x.2.2.1.2 x.2.2.2.1 x.2.2.2.2) fun t=>[.v (.b t)]
theorem d82:DO (O82 u) (C65 u) 129 aaD:=dO u (fun x=>by exact e82 u x.1.1 x.1.2 x.2.1.1 x.2.1.2 x.2.2.1.1 x.2.2.1.2 x.2.2.2.1 x.2.2.2.2)
def C66:ao:=(C65 u).add 129 (fun _=>true) (O82 u)
def acx:An tT Tryz.f114 [.k (2::4::5::(rl 13 19 [])),.h [],.k (1::2::(rl 5 89 [])),.k [13,14,15],.k (1::2::(rl 4 90 [])),.k (2::5::(rl 18 14 [])),.h [],.k (1::2::(rl 6 88 [])),.k [18,19,20],.k (1::2::(rl 5 89 [])),.k (2::(rl 23 9 [])),.k (0::1::(rl 3 91 [])),.k (2::(rl 6 5 (rl 32 62 []))),.h [],.k (1::2::4::5::(rl 7 87 [])),.k [32,33,34],.k (rl 0 94 []),.k (2::(rl 7 4 (rl 37 57 []))),.k (2::(rl 55 10 [])),.k (0::1::(rl 3 91 [])),.h [],.k (1::2::4::5::9::(rl 11 83 [])),.k [67,68,69],.k (1::2::4::5::(rl 7 87 [])),.k (2::(rl 72 22 [])),.k (0::1::(rl 3 91 [])),.k (0::1::(rl 3 91 []))]:=by
 apply Subtype.mk;cbv<;>exact rfl
def Ho:AF:=acx.1
def A0:AC:=sA Ho.body [1,1,1]
def Rt:AC:=sA A0 [1]
def oc:AC:=sA A0 [0,1,0,0]
def JF:AC:=sA oc [1]
def JG:AC:=sA JF [1]
def Ru:AC:=sA JF [0,0,1,1]
def P9:AC:=sA Ru [1,0,0]
def tw:AC:=sA Ho.body [1,1,0,1,0,0]
def Qa:AC:=sA tw [1]
def Qb:AC:=sA Qa [1]
def Qc:AC:=sA Qa [0,0,1,0,0]
def Ts:St->Option St:=nN 0 (1::2::(rl 6 88 []))
def RE:St:=⟨(.x (.c (ro kP n0 f0))::.u::.u::vxi i0::vxi i1::vxi i2::(us 88 [])),[]⟩
def RD:St:=⟨(.u::.u::vxb false::(us 91 [])),[]⟩
def RB:St:=⟨(.x (.c (ro kP n0 f0))::.u::.u::vxi i0::vxi i1::(us 89 [])),[]⟩
def rR {ρ:Type} (u:Nat) (x0:Nat) (x1:FF) (x2 x3:Int):Nat->Int->(Option ρ)->(Option ρ)->Option ρ
 | 0,_,_,_=>none
 | m+1,x4,k0,k1 =>
  (bif (decide (x4<x3)) then (bif (inb x3 x0) then (bif (inb x4 x0) then (bif (((x1 x3.toNat 0).int==(x1 x4.toNat 0).int)&&(((x1 x3.toNat 1).int==(x1 x4.toNat 1).int)&&true)) then k0 else (rR u x0 x1 x2 x3 m (w64 (x4+1)) k0 k1)) else none) else none) else k1)
theorem Np:∀ (m:Nat) (x0:Int) (k0:Option ρ) (k1:Option ρ),ob (rR u n0 f0 i0 i1 m x0 k0 k1) ng=rR u n0 f0 i0 i1 m x0 (ob k0 ng) (ob k1 ng)
 | 0,_,_,_=>rfl
 | m+1,x0,k0,k1=>by
  simp only [rR,ak,aw,af,Np m]
theorem Sw:∀ (m:Nat) (x0:Int),
  am (eB Qc (C66 u) u) Ts m (RE n0 f0 i0 i1 x0) k=rR u n0 f0 i0 i1 m x0 (k .ret RD) (k (.exit 2) (RB n0 f0 i0 i1))
 | 0,_=>rfl
 | m+1,x0=>by
  simp only [rR,<- Sw m]
  kernel_rfl
def Dd:St->Option St:=nN 0 (1::2::(rl 5 89 []))
def HE:St:=⟨(.x (.c (ro kP n0 f0))::.u::.u::vxi i0::vxi i1::(us 89 [])),[]⟩
def Ll:St:=⟨(.x (.c (ro kP n0 f0))::.u::.u::vxi i0::(us 90 [])),[]⟩
def oU {ρ:Type} (u:Nat) (x0:Nat) (x1:FF) (x2:Int):Nat->Int->(Option ρ)->(Option ρ)->Option ρ
 | 0,_,_,_=>none
 | m+1,x3,k0,k1 =>
  (bif (decide (x3<x2)) then (rR u x0 x1 x2 x3 u 0
  k0
  (oU u x0 x1 x2 m (w64 (x3+1)) k0 k1)) else k1)
theorem Nn:∀ (m:Nat) (x0:Int) (k0:Option ρ) (k1:Option ρ),ob (oU u n0 f0 i0 m x0 k0 k1) ng=oU u n0 f0 i0 m x0 (ob k0 ng) (ob k1 ng)
 | 0,_,_,_=>rfl
 | m+1,x0,k0,k1=>by
  simp only [oU,ak,aw,af,Nn m,Np]
theorem XP :
  am (eB tw (C66 u) u) Dd (m+1) (HE n0 f0 i0 i1) k =
  (bif (decide (i1<i0)) then (am (eB Qc (C66 u) u) Ts u (RE n0 f0 i0 i1 0) (aA 2 (aA 1 (aI (C66 u) u (2::5::(rl 18 14 [])) Qb (aN (eB tw (C66 u) u) Dd m k))))) else (k (.exit 0) (Ll n0 f0 i0))):=by kernel_rfl
theorem Yd :
  (aA 2 (aA 1 (aI (C66 u) u (2::5::(rl 18 14 [])) Qb (aN (eB tw (C66 u) u) Dd m k)))) (.exit 2) (RB n0 f0 i0 i1) =
  (am (eB tw (C66 u) u) Dd m (HE n0 f0 i0 (w64 (i1+1))) k):=by kernel_rfl
theorem Sv:∀ (m:Nat) (x0:Int),
  am (eB tw (C66 u) u) Dd m (HE n0 f0 i0 x0) k=oU u n0 f0 i0 m x0 (k .ret RD) (k (.exit 0) (Ll n0 f0 i0))
 | 0,_=>rfl
 | m+1,x0=>by
  rw [XP]
  simp only [oU,Sv m,Sw,Yd]<;>kernel_rfl
def Tr:St->Option St:=nN 3 (1::2::4::5::9::(rl 11 83 []))
def Rz:St:=⟨(.x (.c (ro kP n0 f0))::.u::.u::vxi i0::.u::.u::vxi i1::.x (.ptr 0 0)::.x (.ptr 1 0)::.u::vxi i2::(us 83 [])),[.box [(vci i3),(vci i4)],.box [(vci i5),(vci i6)],.box [(vci i7),(vci i8)]]⟩
def Xo:St:=⟨(.u::.u::vxb false::(us 91 [])),[.box [(vci i0),(vci i1)],.box [(vci i2),(vci i3)],.box [(vci i4),(vci i5)]]⟩
def Ry:St:=⟨(.x (.c (ro kP n0 f0))::.u::.u::vxi i0::.u::.u::vxi i1::(us 87 [])),[.box [(vci i2),(vci i3)],.box [(vci i4),(vci i5)],.box [(vci i6),(vci i7)]]⟩
def oT {ρ:Type} (u:Nat) (x0:Nat) (x1:FF) (x2 x3 x4 x5 x6 x7 x8 x9:Int):Nat->Int->(Option ρ)->(Option ρ)->Option ρ
 | 0,_,_,_=>none
 | m+1,xA,k0,k1 =>
  (bif (decide (xA<x2)) then (bif (x2==0) then none else (bif (((Int.tmod (w64 (xA+1)) x2) != x3)==true) then (bif (inb xA x0) then (bif (x2==0) then none else (bif (inb (Int.tmod (w64 (xA+1)) x2) x0) then (ob (F82 u x4 x5 x6 x7 (x1 xA.toNat 0).int (x1 xA.toNat 1).int ((x1 (Int.toNat (Int.tmod (w64 (xA+1)) x2)) 0).int) ((x1 (Int.toNat (Int.tmod (w64 (xA+1)) x2)) 1).int)) fun xB=>(bif xB then k0 else (oT u x0 x1 x2 x3 x4 x5 x6 x7 x8 x9 m (w64 (xA+1)) k0 k1))) else none)) else none) else (oT u x0 x1 x2 x3 x4 x5 x6 x7 x8 x9 m (w64 (xA+1)) k0 k1))) else k1)
theorem Nm:∀ (m:Nat) (x0:Int) (k0:Option ρ) (k1:Option ρ),ob (oT u n0 f0 i0 i1 i2 i3 i4 i5 i6 i7 m x0 k0 k1) ng=oT u n0 f0 i0 i1 i2 i3 i4 i5 i6 i7 m x0 (ob k0 ng) (ob k1 ng)
 | 0,_,_,_=>rfl
 | m+1,x0,k0,k1=>by
  simp only [oT,ak,aw,af,Nm m]
theorem Su:∀ (m:Nat) (x0:Int),
  am (eB P9 (C66 u) u) Tr m (Rz n0 f0 i0 i1 x0 i2 i3 i4 i5 i6 i7) k=oT u n0 f0 i0 i1 i2 i3 i4 i5 i6 i7 m x0 (k .ret (Xo i2 i3 i4 i5 i6 i7)) (k (.exit 6) (Ry n0 f0 i0 i1 i2 i3 i4 i5 i6 i7))
 | 0,_=>rfl
 | m+1,x0=>by
  simp only [oT,<- Su m]
  kernel_rfl
def Dc:St->Option St:=nN 0 (1::2::4::5::(rl 7 87 []))
def HD:St:=⟨(.x (.c (ro kP n0 f0))::.u::.u::vxi i0::.u::.u::vxi i1::(us 87 [])),[]⟩
def Lk:St:=⟨(.u::.u::vxb false::(us 91 [])),[.box [(vci i0),(vci i1)],.box [(vci i2),(vci i3)],.box [(vci i4),(vci i5)]]⟩
def Lm:St:=⟨(us 94 []),[]⟩
def oS {ρ:Type} (u:Nat) (x0:Nat) (x1:FF) (x2:Int):Nat->Int->(Int->Int->Int->Int->Int->Int->Option ρ)->(Option ρ)->Option ρ
 | 0,_,_,_=>none
 | m+1,x3,k0,k1 =>
  (bif (decide (x3<x2)) then (bif (inb x3 x0) then (bif (x2==0) then none else (bif (inb (Int.tmod (w64 (x3+1)) x2) x0) then (bif (x2==0) then none else (bif (inb (Int.tmod (w64 (x3+2)) x2) x0) then (ob (F70 u (x1 x3.toNat 0).int (x1 x3.toNat 1).int ((x1 (Int.toNat (Int.tmod (w64 (x3+1)) x2)) 0).int) ((x1 (Int.toNat (Int.tmod (w64 (x3+1)) x2)) 1).int) ((x1 (Int.toNat (Int.tmod (w64 (x3+2)) x2)) 0).int) ((x1 (Int.toNat (Int.tmod (w64 (x3+2)) x2)) 1).int)) fun x4=>(bif (x4==false) then (ob (F70 u ((x1 (Int.toNat (Int.tmod (w64 (x3+2)) x2)) 0).int) ((x1 (Int.toNat (Int.tmod (w64 (x3+2)) x2)) 1).int) (x1 x3.toNat 0).int (x1 x3.toNat 1).int ((x1 (Int.toNat (Int.tmod (w64 (x3+1)) x2)) 0).int) ((x1 (Int.toNat (Int.tmod (w64 (x3+1)) x2)) 1).int)) fun x5=>(bif x5 then (k0 (x1 x3.toNat 0).int (x1 x3.toNat 1).int ((x1 (Int.toNat (Int.tmod (w64 (x3+1)) x2)) 0).int) ((x1 (Int.toNat (Int.tmod (w64 (x3+1)) x2)) 1).int) ((x1 (Int.toNat (Int.tmod (w64 (x3+2)) x2)) 0).int) ((x1 (Int.toNat (Int.tmod (w64 (x3+2)) x2)) 1).int)) else (oT u x0 x1 x2 x3 (x1 x3.toNat 0).int (x1 x3.toNat 1).int ((x1 (Int.toNat (Int.tmod (w64 (x3+1)) x2)) 0).int) ((x1 (Int.toNat (Int.tmod (w64 (x3+1)) x2)) 1).int) ((x1 (Int.toNat (Int.tmod (w64 (x3+2)) x2)) 0).int) ((x1 (Int.toNat (Int.tmod (w64 (x3+2)) x2)) 1).int) u (w64 (x3+2))
  (k0 (x1 x3.toNat 0).int (x1 x3.toNat 1).int ((x1 (Int.toNat (Int.tmod (w64 (x3+1)) x2)) 0).int) ((x1 (Int.toNat (Int.tmod (w64 (x3+1)) x2)) 1).int) ((x1 (Int.toNat (Int.tmod (w64 (x3+2)) x2)) 0).int) ((x1 (Int.toNat (Int.tmod (w64 (x3+2)) x2)) 1).int))
  (oS u x0 x1 x2 m (w64 (x3+1)) k0 k1)))) else (k0 (x1 x3.toNat 0).int (x1 x3.toNat 1).int ((x1 (Int.toNat (Int.tmod (w64 (x3+1)) x2)) 0).int) ((x1 (Int.toNat (Int.tmod (w64 (x3+1)) x2)) 1).int) ((x1 (Int.toNat (Int.tmod (w64 (x3+2)) x2)) 0).int) ((x1 (Int.toNat (Int.tmod (w64 (x3+2)) x2)) 1).int)))) else none)) else none)) else none) else k1)
theorem Nl:∀ (m:Nat) (x0:Int) (k0:Int->Int->Int->Int->Int->Int->Option ρ) (k1:Option ρ),ob (oS u n0 f0 i0 m x0 k0 k1) ng=oS u n0 f0 i0 m x0 (fun x1 x2 x3 x4 x5 x6=>ob (k0 x1 x2 x3 x4 x5 x6) ng) (ob k1 ng)
 | 0,_,_,_=>rfl
 | m+1,x0,k0,k1=>by
  simp only [oS,ak,aw,af,Nl m,Nm]
theorem XO :
  am (eB oc (C66 u) u) Dc (m+1) (HD n0 f0 i0 i1) k =
  (bif (decide (i1<i0)) then (bif (inb i1 n0) then (bif (i0==0) then none else (bif (inb (Int.tmod (w64 (i1+1)) i0) n0) then (bif (i0==0) then none else (bif (inb (Int.tmod (w64 (i1+2)) i0) n0) then (ob (F70 u (f0 i1.toNat 0).int (f0 i1.toNat 1).int ((f0 (Int.toNat (Int.tmod (w64 (i1+1)) i0)) 0).int) ((f0 (Int.toNat (Int.tmod (w64 (i1+1)) i0)) 1).int) ((f0 (Int.toNat (Int.tmod (w64 (i1+2)) i0)) 0).int) ((f0 (Int.toNat (Int.tmod (w64 (i1+2)) i0)) 1).int)) fun x0=>(bif (x0==false) then (ob (F70 u ((f0 (Int.toNat (Int.tmod (w64 (i1+2)) i0)) 0).int) ((f0 (Int.toNat (Int.tmod (w64 (i1+2)) i0)) 1).int) (f0 i1.toNat 0).int (f0 i1.toNat 1).int ((f0 (Int.toNat (Int.tmod (w64 (i1+1)) i0)) 0).int) ((f0 (Int.toNat (Int.tmod (w64 (i1+1)) i0)) 1).int)) fun x1=>(bif x1 then (k .ret (Lk (f0 i1.toNat 0).int (f0 i1.toNat 1).int ((f0 (Int.toNat (Int.tmod (w64 (i1+1)) i0)) 0).int) ((f0 (Int.toNat (Int.tmod (w64 (i1+1)) i0)) 1).int) ((f0 (Int.toNat (Int.tmod (w64 (i1+2)) i0)) 0).int) ((f0 (Int.toNat (Int.tmod (w64 (i1+2)) i0)) 1).int))) else (am (eB P9 (C66 u) u) Tr u (Rz n0 f0 i0 i1 (w64 (i1+2)) (f0 i1.toNat 0).int (f0 i1.toNat 1).int ((f0 (Int.toNat (Int.tmod (w64 (i1+1)) i0)) 0).int) ((f0 (Int.toNat (Int.tmod (w64 (i1+1)) i0)) 1).int) ((f0 (Int.toNat (Int.tmod (w64 (i1+2)) i0)) 0).int) ((f0 (Int.toNat (Int.tmod (w64 (i1+2)) i0)) 1).int)) (aA 6 (aA 5 (aI (C66 u) u (2::(rl 7 4 (rl 37 57 []))) JG (aN (eB oc (C66 u) u) Dc m k))))))) else (k .ret (Lk (f0 i1.toNat 0).int (f0 i1.toNat 1).int ((f0 (Int.toNat (Int.tmod (w64 (i1+1)) i0)) 0).int) ((f0 (Int.toNat (Int.tmod (w64 (i1+1)) i0)) 1).int) ((f0 (Int.toNat (Int.tmod (w64 (i1+2)) i0)) 0).int) ((f0 (Int.toNat (Int.tmod (w64 (i1+2)) i0)) 1).int))))) else none)) else none)) else none) else (k (.exit 4) Lm)):=by kernel_rfl
theorem Yc :
  (aA 6 (aA 5 (aI (C66 u) u (2::(rl 7 4 (rl 37 57 []))) JG (aN (eB oc (C66 u) u) Dc m k)))) (.exit 6) (Ry n0 f0 i0 i1 (f0 i1.toNat 0).int (f0 i1.toNat 1).int ((f0 (Int.toNat (Int.tmod (w64 (i1+1)) i0)) 0).int) ((f0 (Int.toNat (Int.tmod (w64 (i1+1)) i0)) 1).int) ((f0 (Int.toNat (Int.tmod (w64 (i1+2)) i0)) 0).int) ((f0 (Int.toNat (Int.tmod (w64 (i1+2)) i0)) 1).int)) =
  (am (eB oc (C66 u) u) Dc m (HD n0 f0 i0 (w64 (i1+1))) k):=by kernel_rfl
theorem Ss:∀ (m:Nat) (x0:Int),
  am (eB oc (C66 u) u) Dc m (HD n0 f0 i0 x0) k=oS u n0 f0 i0 m x0 (fun x1 x2 x3 x4 x5 x6=>k .ret (Lk x1 x2 x3 x4 x5 x6)) (k (.exit 4) Lm)
 | 0,_=>rfl
 | m+1,x0=>by
  rw [XO]
  simp only [oS,Ss m,Su,Yc]<;>kernel_rfl
def F67 (x0:Nat) (x1:FF):Option (Bool) :=
 (oU u x0 x1 (Int.ofNat x0) u 0
  (some false)
  (oS u x0 x1 (Int.ofNat x0) u 0
  (fun x2 x3 x4 x5 x6 x7=>(some false))
  (some true)))
theorem Yb :
  (aA 0 (aI (C66 u) u (2::4::5::(rl 13 19 [])) A0 (aH Ho))) (.exit 0) (Ll n0 f0 (Int.ofNat n0)) =
  (am (eB oc (C66 u) u) Dc u (HD n0 f0 (Int.ofNat n0) 0) (aA 4 (aI (C66 u) u (2::(rl 6 5 (rl 32 62 []))) Rt (aH Ho)))):=by kernel_rfl
theorem e67:aD (C66 u) u Ho [.v (ro kP n0 f0)]=ob (F67 u n0 f0) fun t=>some [.v (.b t)]:=Eq.trans (b:=(am (eB tw (C66 u) u) Dd u (HE n0 f0 (Int.ofNat n0) 0) (aA 0 (aI (C66 u) u (2::4::5::(rl 13 19 [])) A0 (aH Ho))))) (by kernel_rfl) (by
 simp only [F67,ak,aw,af,aa,Nn,Nl,Sv,Yb,Ss]<;>kernel_rfl)
def O67:Ora:=mkO (q1 (av (cL kP))) (fun x=>F67 u x.1 x.2) fun t=>[.v (.b t)]
theorem d67:DO (O67 u) (C66 u) 114 Ho:=dO u (fun x=>by exact e67 u x.1 x.2)
def C67:ao:=(C66 u).add 114 (fun _=>true) (O67 u)
def B85:An tT Tryz.f85 [.k (rl 2 4 []),.k (0::1::(rl 3 12 [])),.k [2,6,7,8],.k (0::1::(rl 3 12 [])),.k [2,9,10,11],.k (0::1::(rl 3 12 [])),.k [2,12,13,14],.k (0::1::(rl 3 12 [])),.k (0::1::(rl 3 12 []))]:=by
 apply Subtype.mk;cbv<;>exact rfl
def A85:AF:=B85.1
def F37 (x0:Nat) (x1:FF):Option (Int) :=
 (bif (decide ((Int.ofNat x0)<3)) then (some 3) else (bif (decide ((Int.ofNat x0)>32)) then (some 4) else (ob (F66 u x0 x1) fun x2=>(bif (!x2) then (some 9) else (ob (F67 u x0 x1) fun x3=>(bif (!x3) then (some 17) else (some 0)))))))
theorem e37:aD (C67 u) u A85 [.v (ro kP n0 f0)]=ob (F37 u n0 f0) fun t=>some [.v (vi t)]:=by
 simp only [F37,ak,aw,af,aa]
 kernel_rfl
def O37:Ora:=mkO (q1 (av (cL kP))) (fun x=>F37 u x.1 x.2) fun t=>[.v (vi t)]
theorem d37:DO (O37 u) (C67 u) 85 A85:=dO u (fun x=>by exact e37 u x.1 x.2)
def C68:ao:=(C67 u).add 85 (fun _=>true) (O37 u)
def B86:An tT Tryz.f86 [.k [2,7,8,9],.k (0::1::(rl 3 39 [])),.k (4::5::6::(rl 10 31 [])),.h [],.k (1::2::(rl 5 37 [])),.k (rl 10 4 []),.k (0::1::2::(rl 4 38 [])),.k (0::1::(rl 3 39 []))]:=by
 apply Subtype.mk;cbv<;>exact rfl
def A86:AF:=B86.1
def T1:AC:=sA A86.body [1,1]
def ZE:AC:=sA T1 [1,1]
def T2:AC:=sA T1 [1,0,1,0,0]
def TC:St->Option St:=nN 0 (1::2::(rl 5 37 []))
def R2:St:=⟨(.x (.c (ro kP n0 f0))::.u::.u::vxi i0::vxi i1::(us 37 [])),[]⟩
def XC:St:=⟨(us 3 (vxi i0::(us 38 []))),[]⟩
def vj {ρ:Type} (u:Nat) (x0:Nat) (x1:FF):Nat->Int->Int->(Int->Option ρ)->Option ρ
 | 0,_,_,_=>none
 | m+1,x2,x3,k0 =>
  (bif (decide (x3<(Int.ofNat x0))) then (bif (inb x3 x0) then (bif ((Int.ofNat x0)==0) then none else (bif (inb (Int.tmod (w64 (x3+1)) (Int.ofNat x0)) x0) then (vj u x0 x1 m (w64 ((w64 (x2+(w64 ((x1 x3.toNat 0).int*((x1 (Int.toNat (Int.tmod (w64 (x3+1)) (Int.ofNat x0))) 1).int)))))-(w64 ((x1 x3.toNat 1).int*((x1 (Int.toNat (Int.tmod (w64 (x3+1)) (Int.ofNat x0))) 0).int))))) (w64 (x3+1)) k0) else none)) else none) else (k0 x2))
theorem NF:∀ (m:Nat) (x0 x1:Int) (k0:Int->Option ρ),ob (vj u n0 f0 m x0 x1 k0) ng=vj u n0 f0 m x0 x1 (fun x2=>ob (k0 x2) ng)
 | 0,_,_,_=>rfl
 | m+1,x0,x1,k0=>by
  simp only [vj,ak,aw,af,NF m]
theorem SM:∀ (m:Nat) (x0 x1:Int),
  am (eB T2 (C68 u) u) TC m (R2 n0 f0 x0 x1) k=vj u n0 f0 m x0 x1 (fun x2=>k (.exit 0) (XC x2))
 | 0,_,_=>rfl
 | m+1,x0,x1=>by
  simp only [vj,<- SM m]
  kernel_rfl
def F38 (x0:Nat) (x1:FF):Option (Int) :=
 (ob (F37 u x0 x1) fun x2=>(bif (x2 != 0) then (some 0) else (vj u x0 x1 u 0 0
  (fun x3=>(some x3)))))
theorem e38:aD (C68 u) u A86 [.v (ro kP n0 f0)]=ob (F38 u n0 f0) fun t=>some [.v (vi t)]:=Eq.trans (b:=(ob (F37 u n0 f0) fun x0=>(bif (x0 != 0) then (some [.v (vi 0)]) else (am (eB T2 (C68 u) u) TC u (R2 n0 f0 0 0) (aA 0 (aI (C68 u) u (4::5::6::(rl 10 31 [])) ZE (aH A86))))))) (by kernel_rfl) (by
 simp only [F38,ak,aw,af,aa,NF,SM]<;>kernel_rfl)
def O38:Ora:=mkO (q1 (av (cL kP))) (fun x=>F38 u x.1 x.2) fun t=>[.v (vi t)]
theorem d38:DO (O38 u) (C68 u) 86 A86:=dO u (fun x=>by exact e38 u x.1 x.2)
def C69:ao:=(C68 u).add 86 (fun _=>true) (O38 u)
def acm:An tT Tryz.f131 [.k [6,31,32],.k (rl 0 6 (rl 7 28 [])),.k [6,33,34],.k (rl 0 6 (rl 7 28 [])),.k (rl 0 6 (rl 7 28 []))]:=by
 apply Subtype.mk;cbv<;>exact rfl
def aay:AF:=acm.1
def F84 (u:Nat) (x0 x1 x2 x3 x4 x5:Int):Option (Int) :=
 (bif (decide ((w64 ((w64 ((w64 (x2-x0))*(w64 (x5-x1))))-(w64 ((w64 (x3-x1))*(w64 (x4-x0))))))>0)) then (some 1) else (bif (decide ((w64 ((w64 ((w64 (x2-x0))*(w64 (x5-x1))))-(w64 ((w64 (x3-x1))*(w64 (x4-x0))))))<0)) then (some (-1)) else (some 0)))
theorem e84:aD (C69 u) u aay [.agg [(vi i0),(vi i1)],.agg [(vi i2),(vi i3)],.agg [(vi i4),(vi i5)]]=ob (F84 u i0 i1 i2 i3 i4 i5) fun t=>some [.v (vi t)]:=by
 simp only [F84,ak,aw,af,aa]
 kernel_rfl
def O84:Ora:=mkO (qc (ag (tc ci (t1 ci))) (qc (ag (tc ci (t1 ci))) (q1 (ag (tc ci (t1 ci)))))) (fun x=>F84 u x.1.1 x.1.2 x.2.1.1 x.2.1.2 x.2.2.1 x.2.2.2) fun t=>[.v (vi t)]
theorem d84:DO (O84 u) (C69 u) 131 aay:=dO u (fun x=>by exact e84 u x.1.1 x.1.2 x.2.1.1 x.2.1.2 x.2.2.1 x.2.2.2)
def C70:ao:=(C69 u).add 131 (fun _=>true) (O84 u)
def acn:An tT Tryz.f130 [.k (rl 0 6 (rl 7 45 []))]:=by
 apply Subtype.mk;cbv<;>exact rfl
def aaz:AF:=acn.1
def F83 (x0 x1 x2 x3 x4 x5:Int):Option (Bool) :=
 (ob (F84 u x0 x1 x2 x3 x4 x5) fun x6=>(bif ((x6==0)==true) then (bif ((decide (x4>=(if x2<x0 then x2 else x0)))==true) then (bif ((decide (x4<=(if x2>x0 then x2 else x0)))==true) then (bif ((decide (x5>=(if x3<x1 then x3 else x1)))==true) then (some (decide (x5<=(if x3>x1 then x3 else x1)))) else (some false)) else (some false)) else (some false)) else (some false)))
theorem e83:aD (C70 u) u aaz [.agg [(vi i0),(vi i1)],.agg [(vi i2),(vi i3)],.agg [(vi i4),(vi i5)]]=ob (F83 u i0 i1 i2 i3 i4 i5) fun t=>some [.v (.b t)]:=by
 simp only [F83,ak,aw,af,aa]
 kernel_rfl
def O83:Ora:=mkO (qc (ag (tc ci (t1 ci))) (qc (ag (tc ci (t1 ci))) (q1 (ag (tc ci (t1 ci)))))) (fun x=>F83 u x.1.1 x.1.2 x.2.1.1 x.2.1.2 x.2.2.1 x.2.2.2) fun t=>[.v (.b t)]
theorem d83:DO (O83 u) (C70 u) 130 aaz:=dO u (fun x=>by exact e83 u x.1.1 x.1.2 x.2.1.1 x.2.1.2 x.2.2.1 x.2.2.2)
def C71:ao:=(C70 u).add 130 (fun _=>true) (O83 u)
def acw:An tT Tryz.f115 [.k (rl 8 23 []),.k (rl 0 8 (rl 9 44 [])),.k (rl 0 8 (rl 9 44 []))]:=by
 apply Subtype.mk;cbv<;>exact rfl
def aaL:AF:=acw.1
def F68 (x0 x1 x2 x3 x4 x5 x6 x7:Int):Option (Bool) :=
 (ob (F83 u x0 x1 x2 x3 x4 x5) fun x8=>(bif (x8==false) then (ob (F83 u x0 x1 x2 x3 x6 x7) fun x9=>(bif (x9==false) then (ob (F83 u x4 x5 x6 x7 x0 x1) fun xA=>(bif (xA==false) then (ob (F83 u x4 x5 x6 x7 x2 x3) fun xB=>(bif xB then (some true) else (ob (F84 u x0 x1 x2 x3 x4 x5) fun xC=>(ob (F84 u x0 x1 x2 x3 x6 x7) fun xD=>(bif ((decide ((w64 (xC*xD))<0))==true) then (ob (F84 u x4 x5 x6 x7 x0 x1) fun xE=>(ob (F84 u x4 x5 x6 x7 x2 x3) fun xF=>(some (decide ((w64 (xE*xF))<0))))) else (some false)))))) else (some true))) else (some true))) else (some true)))
theorem e68:aD (C71 u) u aaL [.agg [(vi i0),(vi i1)],.agg [(vi i2),(vi i3)],.agg [(vi i4),(vi i5)],.agg [(vi i6),(vi i7)]]=ob (F68 u i0 i1 i2 i3 i4 i5 i6 i7) fun t=>some [.v (.b t)]:=by
 simp only [F68,ak,aw,af,aa]
 kernel_rfl
def O68:Ora:=mkO (qc (ag (tc ci (t1 ci))) (qc (ag (tc ci (t1 ci))) (qc (ag (tc ci (t1 ci))) (q1 (ag (tc ci (t1 ci))))))) (fun x=>F68 u x.1.1 x.1.2 x.2.1.1 x.2.1.2 x.2.2.1.1 x.2.2.1.2 x.2.2.2.1 x.2.2.2.2) fun t=>[.v (.b t)]
theorem d68:DO (O68 u) (C71 u) 115 aaL:=dO u (fun x=>by exact e68 u x.1.1 x.1.2 x.2.1.1 x.2.1.2 x.2.2.1.1 x.2.2.1.2 x.2.2.2.1 x.2.2.2.2)
def C72:ao:=(C71 u).add 115 (fun _=>true) (O68 u)
def B87:An tT Tryz.f87 [.k (rl 4 40 []),.h [],.k (2::3::4::(rl 6 38 [])),.k (rl 7 4 []),.k (rl 0 44 []),.k (4::6::(rl 13 31 [])),.h [],.k (2::3::4::(rl 7 37 [])),.k (rl 13 4 []),.k (2::3::4::(rl 6 38 [])),.k (4::(rl 19 25 [])),.k (rl 0 4 (rl 5 39 [])),.k (rl 0 4 (rl 5 39 []))]:=by
 apply Subtype.mk;cbv<;>exact rfl
def A87:AF:=B87.1
def ZD:AC:=sA A87.body [1,1]
def B0:AC:=sA A87.body [1,0,1,0,0]
def TY:AC:=sA B0 [1]
def TZ:AC:=sA TY [1]
def T0:AC:=sA TY [0,0,1,0,0]
def TB:St->Option St:=nN 0 (2::3::4::(rl 7 37 []))
def RZ:St:=⟨(.x (.c (ro kP n0 f0))::.x (.c (ro kP n1 f1))::(us 3 (vxi i0::vxi i1::(us 37 [])))),[]⟩
def RY:St:=⟨(us 4 (vxb true::(us 39 []))),[]⟩
def RW:St:=⟨(.x (.c (ro kP n0 f0))::.x (.c (ro kP n1 f1))::(us 3 (vxi i0::(us 38 [])))),[]⟩
def rY {ρ:Type} (u:Nat) (x0:Nat) (x1:FF) (x2:Nat) (x3:FF) (x4:Int):Nat->Int->(Option ρ)->(Option ρ)->Option ρ
 | 0,_,_,_=>none
 | m+1,x5,k0,k1 =>
  (bif (decide (x5<(Int.ofNat x2))) then (bif (inb x4 x0) then (bif ((Int.ofNat x0)==0) then none else (bif (inb (Int.tmod (w64 (x4+1)) (Int.ofNat x0)) x0) then (bif (inb x5 x2) then (bif ((Int.ofNat x2)==0) then none else (bif (inb (Int.tmod (w64 (x5+1)) (Int.ofNat x2)) x2) then (ob (F68 u (x1 x4.toNat 0).int (x1 x4.toNat 1).int ((x1 (Int.toNat (Int.tmod (w64 (x4+1)) (Int.ofNat x0))) 0).int) ((x1 (Int.toNat (Int.tmod (w64 (x4+1)) (Int.ofNat x0))) 1).int) (x3 x5.toNat 0).int (x3 x5.toNat 1).int ((x3 (Int.toNat (Int.tmod (w64 (x5+1)) (Int.ofNat x2))) 0).int) ((x3 (Int.toNat (Int.tmod (w64 (x5+1)) (Int.ofNat x2))) 1).int)) fun x6=>(bif x6 then k0 else (rY u x0 x1 x2 x3 x4 m (w64 (x5+1)) k0 k1))) else none)) else none) else none)) else none) else k1)
theorem NE:∀ (m:Nat) (x0:Int) (k0:Option ρ) (k1:Option ρ),ob (rY u n0 f0 n1 f1 i0 m x0 k0 k1) ng=rY u n0 f0 n1 f1 i0 m x0 (ob k0 ng) (ob k1 ng)
 | 0,_,_,_=>rfl
 | m+1,x0,k0,k1=>by
  simp only [rY,ak,aw,af,NE m]
theorem SL:∀ (m:Nat) (x0:Int),
  am (eB T0 (C72 u) u) TB m (RZ n0 n1 f0 f1 i0 x0) k=rY u n0 f0 n1 f1 i0 m x0 (k .ret RY) (k (.exit 2) (RW n0 n1 f0 f1 i0))
 | 0,_=>rfl
 | m+1,x0=>by
  simp only [rY,<- SL m]
  kernel_rfl
def Df:St->Option St:=nN 0 (2::3::4::(rl 6 38 []))
def HS:St:=⟨(.x (.c (ro kP n0 f0))::.x (.c (ro kP n1 f1))::(us 3 (vxi i0::(us 38 [])))),[]⟩
def RV:St:=⟨(us 44 []),[]⟩
def rX {ρ:Type} (u:Nat) (x0:Nat) (x1:FF) (x2:Nat) (x3:FF):Nat->Int->(Option ρ)->(Option ρ)->Option ρ
 | 0,_,_,_=>none
 | m+1,x4,k0,k1 =>
  (bif (decide (x4<(Int.ofNat x0))) then (rY u x0 x1 x2 x3 x4 u 0
  k0
  (rX u x0 x1 x2 x3 m (w64 (x4+1)) k0 k1)) else k1)
theorem ND:∀ (m:Nat) (x0:Int) (k0:Option ρ) (k1:Option ρ),ob (rX u n0 f0 n1 f1 m x0 k0 k1) ng=rX u n0 f0 n1 f1 m x0 (ob k0 ng) (ob k1 ng)
 | 0,_,_,_=>rfl
 | m+1,x0,k0,k1=>by
  simp only [rX,ak,aw,af,ND m,NE]
theorem XT :
  am (eB B0 (C72 u) u) Df (m+1) (HS n0 n1 f0 f1 i0) k =
  (bif (decide (i0<(Int.ofNat n0))) then (am (eB T0 (C72 u) u) TB u (RZ n0 n1 f0 f1 i0 0) (aA 2 (aA 1 (aI (C72 u) u (4::6::(rl 13 31 [])) TZ (aN (eB B0 (C72 u) u) Df m k))))) else (k (.exit 0) RV)):=by kernel_rfl
theorem Yj :
  (aA 2 (aA 1 (aI (C72 u) u (4::6::(rl 13 31 [])) TZ (aN (eB B0 (C72 u) u) Df m k)))) (.exit 2) (RW n0 n1 f0 f1 i0) =
  (am (eB B0 (C72 u) u) Df m (HS n0 n1 f0 f1 (w64 (i0+1))) k):=by kernel_rfl
theorem SK:∀ (m:Nat) (x0:Int),
  am (eB B0 (C72 u) u) Df m (HS n0 n1 f0 f1 x0) k=rX u n0 f0 n1 f1 m x0 (k .ret RY) (k (.exit 0) RV)
 | 0,_=>rfl
 | m+1,x0=>by
  rw [XT]
  simp only [rX,SK m,SL,Yj]<;>kernel_rfl
def F39 (x0:Nat) (x1:FF) (x2:Nat) (x3:FF):Option (Bool) :=
 (rX u x0 x1 x2 x3 u 0
  (some true)
  (some false))
theorem e39:aD (C72 u) u A87 [.v (ro kP n0 f0),.v (ro kP n1 f1)]=ob (F39 u n0 f0 n1 f1) fun t=>some [.v (.b t)]:=Eq.trans (b:=(am (eB B0 (C72 u) u) Df u (HS n0 n1 f0 f1 0) (aA 0 (aI (C72 u) u (rl 4 40 []) ZD (aH A87))))) (by kernel_rfl) (by
 simp only [F39,ak,aw,af,aa,ND,SK]<;>kernel_rfl)
def O39:Ora:=mkO (qc (av (cL kP)) (q1 (av (cL kP)))) (fun x=>F39 u x.1.1 x.1.2 x.2.1 x.2.2) fun t=>[.v (.b t)]
theorem d39:DO (O39 u) (C72 u) 87 A87:=dO u (fun x=>by exact e39 u x.1.1 x.2.1 x.1.2 x.2.2)
def C73:ao:=(C72 u).add 87 (fun _=>true) (O39 u)
def B88:An tT Tryz.f88 [.k (4::(rl 11 8 [])),.k (rl 0 4 (rl 5 81 [])),.k (4::(rl 6 5 (rl 19 66 []))),.h [],.k (1::2::4::(rl 7 79 [])),.k (rl 19 4 []),.k (rl 0 5 (rl 6 80 [])),.k (4::(rl 7 4 (rl 25 60 []))),.k (4::(rl 37 4 [])),.k (rl 0 4 (rl 5 81 [])),.k [4,85],.k (rl 0 4 (rl 5 81 [])),.k (rl 0 4 (rl 5 81 []))]:=by
 apply Subtype.mk;cbv<;>exact rfl
def A88:AF:=B88.1
def TW:AC:=sA A88.body [1,1]
def ZC:AC:=sA TW [1,1]
def TX:AC:=sA TW [1,0,1,0,0]
def TA:St->Option St:=nN 1 (1::2::4::(rl 7 79 []))
def RU:St:=⟨(.x (.c (ro kP n0 f0))::.u::.u::.x (.ptr 0 0)::.u::vxb b0::vxi i0::(us 79 [])),[.box [(vci i1),(vci i2)]]⟩
def XB:St:=⟨(us 4 (vxi 0::(us 81 []))),[.box [(vci i0),(vci i1)],.box [(vci i2),(vci i3)],.box [(vci i4),(vci i5)]]⟩
def XA:St:=⟨(us 5 (vxb b0::(us 80 []))),[.box [(vci i0),(vci i1)]]⟩
def d7 {ρ:Type} (u:Nat) (x0:Nat) (x1:FF) (x2 x3:Int):Nat->Bool->Int->(Int->Int->Int->Int->Option ρ)->(Bool->Option ρ)->Option ρ
 | 0,_,_,_,_=>none
 | m+1,x4,x5,k0,k1 =>
  (bif (decide (x5<(Int.ofNat x0))) then (bif (inb x5 x0) then (bif ((Int.ofNat x0)==0) then none else (bif (inb (Int.tmod (w64 (x5+1)) (Int.ofNat x0)) x0) then (ob (F70 u x2 x3 (x1 x5.toNat 0).int (x1 x5.toNat 1).int ((x1 (Int.toNat (Int.tmod (w64 (x5+1)) (Int.ofNat x0))) 0).int) ((x1 (Int.toNat (Int.tmod (w64 (x5+1)) (Int.ofNat x0))) 1).int)) fun x6=>(bif x6 then (k0 (x1 x5.toNat 0).int (x1 x5.toNat 1).int ((x1 (Int.toNat (Int.tmod (w64 (x5+1)) (Int.ofNat x0))) 0).int) ((x1 (Int.toNat (Int.tmod (w64 (x5+1)) (Int.ofNat x0))) 1).int)) else (bif ((decide ((x1 x5.toNat 1).int<=x3))==true) then (bif ((decide (x3<((x1 (Int.toNat (Int.tmod (w64 (x5+1)) (Int.ofNat x0))) 1).int)))==true) then (ob (F71 u (x1 x5.toNat 0).int (x1 x5.toNat 1).int ((x1 (Int.toNat (Int.tmod (w64 (x5+1)) (Int.ofNat x0))) 0).int) ((x1 (Int.toNat (Int.tmod (w64 (x5+1)) (Int.ofNat x0))) 1).int) x2 x3) fun x7=>(bif ((decide (((x1 (Int.toNat (Int.tmod (w64 (x5+1)) (Int.ofNat x0))) 1).int)<=x3))==true) then (bif ((decide (x3<(x1 x5.toNat 1).int))==true) then (ob (F71 u (x1 x5.toNat 0).int (x1 x5.toNat 1).int ((x1 (Int.toNat (Int.tmod (w64 (x5+1)) (Int.ofNat x0))) 0).int) ((x1 (Int.toNat (Int.tmod (w64 (x5+1)) (Int.ofNat x0))) 1).int) x2 x3) fun x8=>(bif ((decide (x7>0))==false) then (bif (decide (x8<0)) then (d7 u x0 x1 x2 x3 m (!x4) (w64 (x5+1)) k0 k1) else (d7 u x0 x1 x2 x3 m x4 (w64 (x5+1)) k0 k1)) else (d7 u x0 x1 x2 x3 m (!x4) (w64 (x5+1)) k0 k1))) else (bif ((decide (x7>0))==false) then (d7 u x0 x1 x2 x3 m x4 (w64 (x5+1)) k0 k1) else (d7 u x0 x1 x2 x3 m (!x4) (w64 (x5+1)) k0 k1))) else (bif ((decide (x7>0))==false) then (d7 u x0 x1 x2 x3 m x4 (w64 (x5+1)) k0 k1) else (d7 u x0 x1 x2 x3 m (!x4) (w64 (x5+1)) k0 k1)))) else (bif ((decide (((x1 (Int.toNat (Int.tmod (w64 (x5+1)) (Int.ofNat x0))) 1).int)<=x3))==true) then (bif ((decide (x3<(x1 x5.toNat 1).int))==true) then (ob (F71 u (x1 x5.toNat 0).int (x1 x5.toNat 1).int ((x1 (Int.toNat (Int.tmod (w64 (x5+1)) (Int.ofNat x0))) 0).int) ((x1 (Int.toNat (Int.tmod (w64 (x5+1)) (Int.ofNat x0))) 1).int) x2 x3) fun x9=>(bif (decide (x9<0)) then (d7 u x0 x1 x2 x3 m (!x4) (w64 (x5+1)) k0 k1) else (d7 u x0 x1 x2 x3 m x4 (w64 (x5+1)) k0 k1))) else (d7 u x0 x1 x2 x3 m x4 (w64 (x5+1)) k0 k1)) else (d7 u x0 x1 x2 x3 m x4 (w64 (x5+1)) k0 k1))) else (bif ((decide (((x1 (Int.toNat (Int.tmod (w64 (x5+1)) (Int.ofNat x0))) 1).int)<=x3))==true) then (bif ((decide (x3<(x1 x5.toNat 1).int))==true) then (ob (F71 u (x1 x5.toNat 0).int (x1 x5.toNat 1).int ((x1 (Int.toNat (Int.tmod (w64 (x5+1)) (Int.ofNat x0))) 0).int) ((x1 (Int.toNat (Int.tmod (w64 (x5+1)) (Int.ofNat x0))) 1).int) x2 x3) fun xA=>(bif (decide (xA<0)) then (d7 u x0 x1 x2 x3 m (!x4) (w64 (x5+1)) k0 k1) else (d7 u x0 x1 x2 x3 m x4 (w64 (x5+1)) k0 k1))) else (d7 u x0 x1 x2 x3 m x4 (w64 (x5+1)) k0 k1)) else (d7 u x0 x1 x2 x3 m x4 (w64 (x5+1)) k0 k1))))) else none)) else none) else (k1 x4))
theorem NC:∀ (m:Nat) (x0:Bool) (x1:Int) (k0:Int->Int->Int->Int->Option ρ) (k1:Bool->Option ρ),ob (d7 u n0 f0 i0 i1 m x0 x1 k0 k1) ng=d7 u n0 f0 i0 i1 m x0 x1 (fun x2 x3 x4 x5=>ob (k0 x2 x3 x4 x5) ng) (fun x6=>ob (k1 x6) ng)
 | 0,_,_,_,_=>rfl
 | m+1,x0,x1,k0,k1=>by
  simp only [d7,ak,aw,af,NC m]
theorem SJ:∀ (m:Nat) (x0:Bool) (x1:Int),
  am (eB TX (C73 u) u) TA m (RU n0 f0 x1 i0 i1 x0) k=d7 u n0 f0 i0 i1 m x0 x1 (fun x2 x3 x4 x5=>k .ret (XB i0 i1 x2 x3 x4 x5)) (fun x6=>k (.exit 0) (XA i0 i1 x6))
 | 0,_,_=>rfl
 | m+1,x0,x1=>by
  simp only [d7,<- SJ m]
  kernel_rfl
def F40 (x0:Nat) (x1:FF) (x2 x3:Int):Option (Int) :=
 (ob (F37 u x0 x1) fun x4=>(bif ((x4 != 0)==false) then (ob (F69 u x2 x3) fun x5=>(bif (!x5) then (some (-1)) else (d7 u x0 x1 x2 x3 u false 0
  (fun x6 x7 x8 x9=>(some 0))
  (fun xA=>(bif xA then (some 1) else (some (-1))))))) else (some (-1))))
theorem e40:aD (C73 u) u A88 [.v (ro kP n0 f0),.agg [(vi i0),(vi i1)]]=ob (F40 u n0 f0 i0 i1) fun t=>some [.v (vi t)]:=Eq.trans (b:=(ob (F37 u n0 f0) fun x0=>(bif ((x0 != 0)==false) then (ob (F69 u i0 i1) fun x1=>(bif (!x1) then (some [.v (vi (-1))]) else (am (eB TX (C73 u) u) TA u (RU n0 f0 0 i0 i1 false) (aA 0 (aI (C73 u) u (4::(rl 6 5 (rl 19 66 []))) ZC (aH A88)))))) else (some [.v (vi (-1))])))) (by kernel_rfl) (by
 simp only [F40,ak,aw,af,aa,NC,SJ]<;>kernel_rfl)
def O40:Ora:=mkO (qc (av (cL kP)) (q1 (ag (tc ci (t1 ci))))) (fun x=>F40 u x.1.1 x.1.2 x.2.1 x.2.2) fun t=>[.v (vi t)]
theorem d40:DO (O40 u) (C73 u) 88 A88:=dO u (fun x=>by exact e40 u x.1.1 x.1.2 x.2.1 x.2.2)
def C74:ao:=(C73 u).add 88 (fun _=>true) (O40 u)
def B52:An tT Tryz.f52 [.k (2::(rl 8 4 [])),.k (0::1::(rl 3 90 [])),.k (2::3::(rl 12 6 [])),.k (0::1::(rl 3 90 [])),.k (2::(rl 18 4 [])),.k (0::1::(rl 3 90 [])),.k (2::(rl 4 4 (rl 22 71 []))),.h [],.k (0::2::3::(rl 5 88 [])),.k (rl 22 5 []),.k (rl 0 93 []),.k (2::5::6::7::(rl 29 64 [])),.k (2::6::(rl 34 5 [])),.k (0::1::(rl 3 90 [])),.k (2::(rl 39 18 [])),.k (0::1::(rl 3 90 [])),.h [],.k (0::2::3::6::(rl 8 85 [])),.k [57,58,59],.k (0::2::3::(rl 5 88 [])),.k (2::(rl 62 31 [])),.k (0::1::(rl 3 90 [])),.k (0::1::(rl 3 90 []))]:=by
 apply Subtype.mk;cbv<;>exact rfl
def A52:AF:=B52.1
def W0:AC:=sA A52.body [1,1]
def W2:AC:=sA W0 [1]
def PO:AC:=sA W2 [1]
def ZV:AC:=sA PO [1]
def B6:AC:=sA PO [0,1,0,0]
def Ue:AC:=sA B6 [1]
def Uf:AC:=sA Ue [1]
def ZW:AC:=sA Ue [0,0,1,1]
def ZX:AC:=sA ZW [1]
def Ug:AC:=sA ZX [1,0,0]
def TM:St->Option St:=nN 1 (0::2::3::6::(rl 8 85 []))
def Si:St:=⟨(.u::.x (.ptr 0 0)::.u::.u::vxi i0::.x (.c (ro kP n0 f0))::.u::vxi i1::(us 85 [])),[.box [(.c (ro kP n1 f1)),(.c (ro kF n2 f2))]]⟩
def XK:St:=⟨(.u::.u::vxi 17::(us 90 [])),[.box [(.c (ro kP n0 f0)),(.c (ro kF n1 f1))]]⟩
def Sg:St:=⟨(.u::.x (.ptr 0 0)::.u::.u::vxi i0::(us 88 [])),[.box [(.c (ro kP n0 f0)),(.c (ro kF n1 f1))]]⟩
def sf {ρ:Type} (u:Nat) (x0:Int) (x1:Nat) (x2:FF) (x3:Nat) (x4:FF) (x5:Nat) (x6:FF):Nat->Int->(Option ρ)->(Option ρ)->Option ρ
 | 0,_,_,_=>none
 | m+1,x7,k0,k1 =>
  (bif (decide (x7<x0)) then (bif (inb x7 x5) then (ob (F39 u x1 x2 (x6 x7.toNat 0).len (x6 x7.toNat 0).el) fun x8=>(bif (x8==false) then (bif (inb x7 x5) then (bif (inb 0 (x6 x7.toNat 0).len) then (ob (F40 u x1 x2 ((x6 x7.toNat 0).el 0 0).int ((x6 x7.toNat 0).el 0 1).int) fun x9=>(bif ((x9 != (-1))==false) then (bif (inb x7 x5) then (bif (inb 0 x1) then (ob (F40 u (x6 x7.toNat 0).len (x6 x7.toNat 0).el (x2 0 0).int (x2 0 1).int) fun xA=>(bif (xA != (-1)) then k0 else (sf u x0 x1 x2 x3 x4 x5 x6 m (w64 (x7+1)) k0 k1))) else none) else none) else k0)) else none) else none) else k0)) else none) else k1)
theorem NS:∀ (m:Nat) (x0:Int) (k0:Option ρ) (k1:Option ρ),ob (sf u i0 n0 f0 n1 f1 n2 f2 m x0 k0 k1) ng=sf u i0 n0 f0 n1 f1 n2 f2 m x0 (ob k0 ng) (ob k1 ng)
 | 0,_,_,_=>rfl
 | m+1,x0,k0,k1=>by
  simp only [sf,ak,aw,af,NS m]
theorem SZ:∀ (m:Nat) (x0:Int),
  am (eB Ug (C74 u) u) TM m (Si n0 n1 n2 f0 f1 f2 i0 x0) k=sf u i0 n0 f0 n1 f1 n2 f2 m x0 (k .ret (XK n1 n2 f1 f2)) (k (.exit 2) (Sg n1 n2 f1 f2 i0))
 | 0,_=>rfl
 | m+1,x0=>by
  simp only [sf,<- SZ m]
  kernel_rfl
def Dh:St->Option St:=nN 1 (0::2::3::(rl 5 88 []))
def HU:St:=⟨(.u::.x (.ptr 0 0)::.u::.u::vxi i0::(us 88 [])),[.box [(.c (ro kP n0 f0)),(.c (ro kF n1 f1))]]⟩
def Ez:St:=⟨(.u::.u::vxi i0::(us 90 [])),[.box [(.c (ro kP n0 f0)),(.c (ro kF n1 f1))]]⟩
def Sf:St:=⟨(us 93 []),[.box [(.c (ro kP n0 f0)),(.c (ro kF n1 f1))]]⟩
def vn {ρ:Type} (u:Nat) (x0:Nat) (x1:FF) (x2:Nat) (x3:FF):Nat->Int->(Int->Option ρ)->(Option ρ)->Option ρ
 | 0,_,_,_=>none
 | m+1,x4,k0,k1 =>
  (bif (decide (x4<(Int.ofNat x2))) then (bif (inb x4 x2) then (ob (F37 u (x3 x4.toNat 0).len (x3 x4.toNat 0).el) fun x5=>(bif (x5 != 0) then (k0 x5) else (ob (F38 u (x3 x4.toNat 0).len (x3 x4.toNat 0).el) fun x6=>(bif ((decide (x6>=0))==false) then (ob (F39 u x0 x1 (x3 x4.toNat 0).len (x3 x4.toNat 0).el) fun x7=>(bif (x7==false) then (bif (inb 0 (x3 x4.toNat 0).len) then (ob (F40 u x0 x1 ((x3 x4.toNat 0).el 0 0).int ((x3 x4.toNat 0).el 0 1).int) fun x8=>(bif (x8 != 1) then (k0 17) else (sf u x4 (x3 x4.toNat 0).len (x3 x4.toNat 0).el x0 x1 x2 x3 u 0
  (k0 17)
  (vn u x0 x1 x2 x3 m (w64 (x4+1)) k0 k1)))) else none) else (k0 17))) else (k0 17))))) else none) else k1)
theorem NR:∀ (m:Nat) (x0:Int) (k0:Int->Option ρ) (k1:Option ρ),ob (vn u n0 f0 n1 f1 m x0 k0 k1) ng=vn u n0 f0 n1 f1 m x0 (fun x1=>ob (k0 x1) ng) (ob k1 ng)
 | 0,_,_,_=>rfl
 | m+1,x0,k0,k1=>by
  simp only [vn,ak,aw,af,NR m,NS]
theorem XW :
  am (eB B6 (C74 u) u) Dh (m+1) (HU n0 n1 f0 f1 i0) k =
  (bif (decide (i0<(Int.ofNat n1))) then (bif (inb i0 n1) then (ob (F37 u (f1 i0.toNat 0).len (f1 i0.toNat 0).el) fun x0=>(bif (x0 != 0) then (k .ret (Ez n0 n1 f0 f1 x0)) else (ob (F38 u (f1 i0.toNat 0).len (f1 i0.toNat 0).el) fun x1=>(bif ((decide (x1>=0))==false) then (ob (F39 u n0 f0 (f1 i0.toNat 0).len (f1 i0.toNat 0).el) fun x2=>(bif (x2==false) then (bif (inb 0 (f1 i0.toNat 0).len) then (ob (F40 u n0 f0 ((f1 i0.toNat 0).el 0 0).int ((f1 i0.toNat 0).el 0 1).int) fun x3=>(bif (x3 != 1) then (k .ret (Ez n0 n1 f0 f1 17)) else (am (eB Ug (C74 u) u) TM u (Si (f1 i0.toNat 0).len n0 n1 (f1 i0.toNat 0).el f0 f1 i0 0) (aA 2 (aA 1 (aI (C74 u) u (2::5::6::7::(rl 29 64 [])) Uf (aN (eB B6 (C74 u) u) Dh m k))))))) else none) else (k .ret (Ez n0 n1 f0 f1 17)))) else (k .ret (Ez n0 n1 f0 f1 17)))))) else none) else (k (.exit 0) (Sf n0 n1 f0 f1))):=by kernel_rfl
theorem Yo :
  (aA 2 (aA 1 (aI (C74 u) u (2::5::6::7::(rl 29 64 [])) Uf (aN (eB B6 (C74 u) u) Dh m k)))) (.exit 2) (Sg n0 n1 f0 f1 i0) =
  (am (eB B6 (C74 u) u) Dh m (HU n0 n1 f0 f1 (w64 (i0+1))) k):=by kernel_rfl
theorem SY:∀ (m:Nat) (x0:Int),
  am (eB B6 (C74 u) u) Dh m (HU n0 n1 f0 f1 x0) k=vn u n0 f0 n1 f1 m x0 (fun x1=>k .ret (Ez n0 n1 f0 f1 x1)) (k (.exit 0) (Sf n0 n1 f0 f1))
 | 0,_=>rfl
 | m+1,x0=>by
  rw [XW]
  simp only [vn,SY m,SZ,Yo]<;>kernel_rfl
def F14 (x0:Nat) (x1:FF) (x2:Nat) (x3:FF):Option (Int) :=
 (bif (decide ((Int.ofNat x2)>8)) then (some 12) else (ob (F37 u x0 x1) fun x4=>(bif (x4 != 0) then (some x4) else (ob (F38 u x0 x1) fun x5=>(bif (decide (x5<=0)) then (some 17) else (vn u x0 x1 x2 x3 u 0
  (fun x6=>(some x6))
  (some 0)))))))
theorem e14:aD (C74 u) u A52 [.agg [(ro kP n0 f0),(ro kF n1 f1)]]=ob (F14 u n0 f0 n1 f1) fun t=>some [.v (vi t)]:=Eq.trans (b:=(bif (decide ((Int.ofNat n1)>8)) then (some [.v (vi 12)]) else (ob (F37 u n0 f0) fun x0=>(bif (x0 != 0) then (some [.v (vi x0)]) else (ob (F38 u n0 f0) fun x1=>(bif (decide (x1<=0)) then (some [.v (vi 17)]) else (am (eB B6 (C74 u) u) Dh u (HU n0 n1 f0 f1 0) (aA 0 (aI (C74 u) u (2::(rl 4 4 (rl 22 71 []))) ZV (aH A52)))))))))) (by kernel_rfl) (by
 simp only [F14,ak,aw,af,aa,NR,SY]<;>kernel_rfl)
def O14:Ora:=mkO (q1 (ag (tc (cL kP) (t1 (cL kF))))) (fun x=>F14 u x.1.1 x.1.2 x.2.1 x.2.2) fun t=>[.v (vi t)]
theorem d14:DO (O14 u) (C74 u) 52 A52:=dO u (fun x=>by exact e14 u x.1.1 x.2.1 x.1.2 x.2.2)
def C75:ao:=(C74 u).add 52 (fun _=>true) (O14 u)
def B27:An tT Tryz.f27 [.k (rl 6 47 []),.h [.slot 5 kA],.k (0::3::4::(rl 7 47 [])),.k (rl 8 4 []),.g [0],.k (rl 0 5 (rl 6 48 [])),.k (7::(rl 14 39 [])),.g [0],.k (rl 0 4 (rl 5 49 []))]:=by
 apply Subtype.mk;cbv<;>exact rfl
def A27:AF:=B27.1
def aaj:AC:=sA A27.body [1,1,1]
def UA:AC:=sA A27.body [1,1,0,1,0,0]
def O3:St->Option St:=nN 2 (0::3::4::(rl 7 47 []))
def LD:St:=⟨(.u::.x (.c (ro kA n0 f0))::.x (.ptr 0 0)::.u::.u::.x (.own 1 0 n1)::vxi i0::(us 47 [])),[.box [(vcs w0),(vcs w1),(vci i1),(vci i2),(vci i3),(vcs w2)],.arr kA n1 f1]⟩
def Vl:St:=⟨(us 5 (.x (.own 1 0 n0)::(us 48 []))),[.dead,.arr kA n0 f0]⟩
def jo {ρ:Type} (u:Nat) (x0:Nat) (x1:FF) (x2 x3:ByteArray) (x4 x5 x6:Int) (x7:ByteArray):Nat->Nat->Int->FF->(Nat->FF->Option ρ)->Option ρ
 | 0,_,_,_,_=>none
 | m+1,x8,x9,xA,k0 =>
  (bif (decide (x9<(Int.ofNat x0))) then (bif (inb x9 x0) then (bif (((x1 x9.toNat 2).int==1)==true) then (bif ((ByteArray.toList (x1 x9.toNat 4).str==ByteArray.toList x3)==true) then (bif (((x1 x9.toNat 5).int==x4)==true) then (ob (FX u x0 x1 (x1 x9.toNat 0).str) fun xB=>(bif ((xB==x9)==true) then (ob (F14 u (x1 x9.toNat 6).len (x1 x9.toNat 6).el (x1 x9.toNat 7).len (x1 x9.toNat 7).el) fun xC=>(bif (xC==0) then (bif (Nat.ble (x8+1) 1073741824) then (jo u x0 x1 x2 x3 x4 x5 x6 x7 m (x8+1) (w64 (x9+1)) (aB x8 xA (aG 18 [(.s (x1 x9.toNat 0).str),(.i .i64 (x1 x9.toNat 1).int),(.i .i64 (x1 x9.toNat 2).int),(.s (x1 x9.toNat 3).str),(.s (x1 x9.toNat 4).str),(.i .i64 (x1 x9.toNat 5).int),(.ro false (.pr (.int .i64) (.pr (.int .i64) .nil)) (x1 x9.toNat 6).len (x1 x9.toNat 6).el),(.ro false (.pr (.sl (.pr (.int .i64) (.pr (.int .i64) .nil))) .nil) (x1 x9.toNat 7).len (x1 x9.toNat 7).el),(.s (x1 x9.toNat 8).str),(.i .i64 (x1 x9.toNat 9).int),(.i .i64 (x1 x9.toNat 10).int),(.i .i64 (x1 x9.toNat 11).int),(.i .i64 (x1 x9.toNat 12).int),(.i .i64 (x1 x9.toNat 13).int),(.i .i64 (x1 x9.toNat 14).int),(.i .i64 (x1 x9.toNat 15).int),(.i .i64 (x1 x9.toNat 16).int),(.i .i64 (x1 x9.toNat 17).int)])) k0) else none) else (jo u x0 x1 x2 x3 x4 x5 x6 x7 m x8 (w64 (x9+1)) xA k0))) else (jo u x0 x1 x2 x3 x4 x5 x6 x7 m x8 (w64 (x9+1)) xA k0))) else (jo u x0 x1 x2 x3 x4 x5 x6 x7 m x8 (w64 (x9+1)) xA k0)) else (jo u x0 x1 x2 x3 x4 x5 x6 x7 m x8 (w64 (x9+1)) xA k0)) else (jo u x0 x1 x2 x3 x4 x5 x6 x7 m x8 (w64 (x9+1)) xA k0)) else none) else (k0 x8 xA))
theorem Is:∀ (m:Nat) (x0:Nat) (x1:Int) (x2:FF) (k0:Nat->FF->Option ρ),ob (jo u n0 f0 w0 w1 i0 i1 i2 w2 m x0 x1 x2 k0) ng=jo u n0 f0 w0 w1 i0 i1 i2 w2 m x0 x1 x2 (fun x3 x4=>ob (k0 x3 x4) ng)
 | 0,_,_,_,_=>rfl
 | m+1,x0,x1,x2,k0=>by
  simp only [jo,ak,aw,af,Is m]
theorem Mr:∀ (m:Nat) (x0:Nat) (x1:Int) (x2:FF),
  am (eB UA (C75 u) u) O3 m (LD n0 x0 f0 x2 x1 i0 i1 i2 w0 w1 w2) k=jo u n0 f0 w0 w1 i0 i1 i2 w2 m x0 x1 x2 (fun x3 x4=>k (.exit 0) (Vl x3 x4))
 | 0,_,_,_=>rfl
 | m+1,x0,x1,x2=>by
  simp only [jo,<- Mr m]
  kernel_rfl
def Cr (x0 x1:ByteArray) (x2 x3 x4:Int) (x5:ByteArray) (x6:Nat) (x7:FF):Option (Nat × FF) :=
 (jo u x6 x7 x0 x1 x2 x3 x4 x5 u 0 0 (fun _ _=>.any)
  (fun x8 x9=>(some (x8,x9))))
theorem aa7:aD (C75 u) u A27 [.agg [(.s w0),(.s w1),(vi i0),(vi i1),(vi i2),(.s w2)],.v (ro kA n0 f0)]=ob (Cr u w0 w1 i0 i1 i2 w2 n0 f0) fun t=>some [.v (ro kA t.1 t.2)]:=Eq.trans (b:=(am (eB UA (C75 u) u) O3 u (LD n0 0 f0 aR 0 i0 i1 i2 w0 w1 w2) (aA 0 (aI (C75 u) u (rl 6 47 []) aaj (aH A27))))) (by kernel_rfl) (by
 simp only [Cr,ak,aw,af,aa,Is,Mr]<;>kernel_rfl)
def Y0:Ora:=mkO (qc (ag (tc cS (tc cS (tc ci (tc ci (tc ci (t1 cS))))))) (q1 (av (cL kA)))) (fun x=>Cr u x.1.1 x.1.2.1 x.1.2.2.1 x.1.2.2.2.1 x.1.2.2.2.2.1 x.1.2.2.2.2.2 x.2.1 x.2.2) fun t=>[.v (ro kA t.1 t.2)]
theorem abK:DO (Y0 u) (C75 u) 27 A27:=dO u (fun x=>by exact aa7 u x.2.1 x.2.2 x.1.2.2.1 x.1.2.2.2.1 x.1.2.2.2.2.1 x.1.1 x.1.2.1 x.1.2.2.2.2.2)
def C76:ao:=(C75 u).add 27 (fun _=>true) (Y0 u)
def B40:An tT Tryz.f40 [.k (4::5::(rl 7 45 [])),.h [],.k (0::(rl 5 48 [])),.k (rl 7 5 []),.k (0::1::(rl 4 49 [])),.k (5::(rl 14 38 [])),.k (rl 19 5 []),.k (0::1::(rl 3 50 []))]:=by
 apply Subtype.mk;cbv<;>exact rfl
def A40:AF:=B40.1
def Z9:AC:=sA A40.body [1,1,1]
def Us:AC:=sA A40.body [1,1,0,1,0,0]
def TJ:St->Option St:=nN 3 (0::(rl 5 48 []))
def Sc:St:=⟨(.u::.x (.ptr 0 0)::.x (.ptr 1 0)::.x (.ptr 2 0)::vxi i0::(us 48 [])),[.box [(.c (ro kP n0 f0)),(.c (ro kF n1 f1))],.box [(vci 0),(vci 0),(vci 0),(vci 0)],.box [(vci i1),(vci i2),(vci i3),(vci i4)]]⟩
def XH:St:=⟨(.u::.u::.x (.ptr 1 0)::.x (.ptr 2 0)::(us 49 [])),[.box [(.c (ro kP n0 f0)),(.c (ro kF n1 f1))],.box [(vci 0),(vci 0),(vci 0),(vci 0)],.box [(vci i0),(vci i1),(vci i2),(vci i3)]]⟩
def se {ρ:Type} (u:Nat) (x0:Nat) (x1:FF) (x2:Nat) (x3:FF):Nat->Int->Int->Int->Int->Int->(Int->Int->Int->Int->Option ρ)->Option ρ
 | 0,_,_,_,_,_,_=>none
 | m+1,x4,x5,x6,x7,x8,k0 =>
  (bif (decide (x4<(Int.ofNat x0))) then (bif (inb x4 x0) then (bif (x4==0) then (se u x0 x1 x2 x3 m (w64 (x4+1)) (if (x1 x4.toNat 0).int<(x1 x4.toNat 0).int then (x1 x4.toNat 0).int else (x1 x4.toNat 0).int) (if (x1 x4.toNat 1).int<(x1 x4.toNat 1).int then (x1 x4.toNat 1).int else (x1 x4.toNat 1).int) (if (x1 x4.toNat 0).int>(x1 x4.toNat 0).int then (x1 x4.toNat 0).int else (x1 x4.toNat 0).int) (if (x1 x4.toNat 1).int>(x1 x4.toNat 1).int then (x1 x4.toNat 1).int else (x1 x4.toNat 1).int) k0) else (se u x0 x1 x2 x3 m (w64 (x4+1)) (if (x1 x4.toNat 0).int<x5 then (x1 x4.toNat 0).int else x5) (if (x1 x4.toNat 1).int<x6 then (x1 x4.toNat 1).int else x6) (if (x1 x4.toNat 0).int>x7 then (x1 x4.toNat 0).int else x7) (if (x1 x4.toNat 1).int>x8 then (x1 x4.toNat 1).int else x8) k0)) else none) else (k0 x5 x6 x7 x8))
theorem NO:∀ (m:Nat) (x0 x1 x2 x3 x4:Int) (k0:Int->Int->Int->Int->Option ρ),ob (se u n0 f0 n1 f1 m x0 x1 x2 x3 x4 k0) ng=se u n0 f0 n1 f1 m x0 x1 x2 x3 x4 (fun x5 x6 x7 x8=>ob (k0 x5 x6 x7 x8) ng)
 | 0,_,_,_,_,_,_=>rfl
 | m+1,x0,x1,x2,x3,x4,k0=>by
  simp only [se,ak,aw,af,NO m]
theorem SV:∀ (m:Nat) (x0 x1 x2 x3 x4:Int),
  am (eB Us (C76 u) u) TJ m (Sc n0 n1 f0 f1 x0 x1 x2 x3 x4) k=se u n0 f0 n1 f1 m x0 x1 x2 x3 x4 (fun x5 x6 x7 x8=>k (.exit 0) (XH n0 n1 f0 f1 x5 x6 x7 x8))
 | 0,_,_,_,_,_=>rfl
 | m+1,x0,x1,x2,x3,x4=>by
  simp only [se,<- SV m]
  kernel_rfl
def F21 (x0:Nat) (x1:FF) (x2:Nat) (x3:FF):Option (Int × Int × Int × Int) :=
 (se u x0 x1 x2 x3 u 0 0 0 0 0
  (fun x4 x5 x6 x7=>(some (x4,x5,x6,x7))))
theorem e21:aD (C76 u) u A40 [.agg [(ro kP n0 f0),(ro kF n1 f1)]]=ob (F21 u n0 f0 n1 f1) fun t=>some [.agg [(vi t.1),(vi t.2.1),(vi t.2.2.1),(vi t.2.2.2)]]:=Eq.trans (b:=(am (eB Us (C76 u) u) TJ u (Sc n0 n1 f0 f1 0 0 0 0 0) (aA 0 (aI (C76 u) u (4::5::(rl 7 45 [])) Z9 (aH A40))))) (by kernel_rfl) (by
 simp only [F21,ak,aw,af,aa,NO,SV]<;>kernel_rfl)
def O21:Ora:=mkO (q1 (ag (tc (cL kP) (t1 (cL kF))))) (fun x=>F21 u x.1.1 x.1.2 x.2.1 x.2.2) fun t=>[.agg [(vi t.1),(vi t.2.1),(vi t.2.2.1),(vi t.2.2.2)]]
theorem d21:DO (O21 u) (C76 u) 40 A40:=dO u (fun x=>by exact e21 u x.1.1 x.2.1 x.1.2 x.2.2)
def C77:ao:=(C76 u).add 40 (fun _=>true) (O21 u)
def B39:An tT Tryz.f39 [.g [0],.k (rl 0 4 (rl 5 24 []))]:=by
 apply Subtype.mk;cbv<;>exact rfl
def A39:AF:=B39.1
def rI (u:Nat) (x0 x1 x2:Int):Option (Bool) :=
 (bif ((decide (x0>=(w64 (0-x2))))==true) then (bif ((decide (x0<=x2))==true) then (bif ((decide (x1>=(w64 (0-x2))))==true) then (some (decide (x1<=x2))) else (some false)) else (some false)) else (some false))
theorem aba:aD (C77 u) u A39 [.agg [(vi i0),(vi i1)],.v (vi i2)]=ob (rI u i0 i1 i2) fun t=>some [.v (.b t)]:=by
 simp only [rI,ak,aw,af,aa]
 kernel_rfl
def Y3:Ora:=mkO (qc (ag (tc ci (t1 ci))) (q1 (av ci))) (fun x=>rI u x.1.1 x.1.2 x.2) fun t=>[.v (.b t)]
theorem abN:DO (Y3 u) (C77 u) 39 A39:=dO u (fun x=>by exact aba u x.1.1 x.1.2 x.2)
def C78:ao:=(C77 u).add 39 (fun _=>true) (Y3 u)
def B29:An tT Tryz.f29 [.k (4::5::(rl 10 10 [])),.g [0,1],.k (rl 0 4 (rl 6 45 [])),.k (4::5::(rl 20 17 [])),.g [0,1],.k (rl 0 4 (rl 6 45 [])),.g [0,1],.k (rl 0 4 (rl 6 45 []))]:=by
 apply Subtype.mk;cbv<;>exact rfl
def A29:AF:=B29.1
def s9 (x0:Nat->CV) (x1:Int):Option (Int × Int) :=
 (ob (F21 u (x0 6).len (x0 6).el (x0 7).len (x0 7).el) fun x2=>(ob (rI u x2.1 x2.2.1 1099511627776) fun x3=>(bif ((!x3)==false) then (ob (rI u x2.2.2.1 x2.2.2.2 1099511627776) fun x4=>(bif (!x4) then (some (0,0)) else (bif ((Int.tmod x1 2) != 0) then (some ((w64 (x2.2.2.2-x2.2.1)),(w64 (x2.2.2.1-x2.1)))) else (some ((w64 (x2.2.2.1-x2.1)),(w64 (x2.2.2.2-x2.2.1))))))) else (some (0,0)))))
theorem aa9:aD (C78 u) u A29 [.agg (pj kR0 g0),.v (vi i0)]=ob (s9 u g0 i0) fun t=>some [.v (vi t.1),.v (vi t.2)]:=by
 simp only [s9,ak,aw,af,aa]
 kernel_rfl
def Y2:Ora:=mkO (qc (ar kR0) (q1 (av ci))) (fun x=>s9 u x.1 x.2) fun t=>[.v (vi t.1),.v (vi t.2)]
theorem abM:DO (Y2 u) (C78 u) 29 A29:=dO u (fun x=>by exact aa9 u x.2 x.1)
def C79:ao:=(C78 u).add 29 (fun _=>true) (Y2 u)
def B61:An tT Tryz.f61 [.k (0::1::(rl 3 6 []))]:=by
 apply Subtype.mk;cbv<;>exact rfl
def A61:AF:=B61.1
def F44 (u:Nat) (x0:Nat) (x1:FF) (x2:Nat) (x3:FF):Option (Nat × FF) :=
 (bif (Nat.ble (1+x2) 1073741824) then (some ((1+x2),(aB 1 (aG 1 [(.ro false (.pr (.int .i64) (.pr (.int .i64) .nil)) x0 x1)]) x3))) else none)
theorem e44:aD (C79 u) u A61 [.agg [(ro kP n0 f0),(ro kF n1 f1)]]=ob (F44 u n0 f0 n1 f1) fun t=>some [.v (ro kF t.1 t.2)]:=by
 simp only [F44,ak,aw,af,aa]
 kernel_rfl
def O44:Ora:=mkO (q1 (ag (tc (cL kP) (t1 (cL kF))))) (fun x=>F44 u x.1.1 x.1.2 x.2.1 x.2.2) fun t=>[.v (ro kF t.1 t.2)]
theorem d44:DO (O44 u) (C79 u) 61 A61:=dO u (fun x=>by exact e44 u x.1.1 x.2.1 x.1.2 x.2.2)
def C80:ao:=(C79 u).add 61 (fun _=>true) (O44 u)
def B62:An tT Tryz.f62 [.k (0::1::(rl 3 18 []))]:=by
 apply Subtype.mk;cbv<;>exact rfl
def A62:AF:=B62.1
def F53 (u:Nat) (x0 x1:Int):Option (Bool) :=
 (bif ((decide (x0<(-1099511627776)))==false) then (bif ((decide (x0>1099511627776))==false) then (bif ((decide (x1<(-1099511627776)))==false) then (some (decide (x1>1099511627776))) else (some true)) else (some true)) else (some true))
theorem e53:aD (C80 u) u A62 [.agg [(vi i0),(vi i1)]]=ob (F53 u i0 i1) fun t=>some [.v (.b t)]:=by
 simp only [F53,ak,aw,af,aa]
 kernel_rfl
def O53:Ora:=mkO (q1 (ag (tc ci (t1 ci)))) (fun x=>F53 u x.1 x.2) fun t=>[.v (.b t)]
theorem d53:DO (O53 u) (C80 u) 62 A62:=dO u (fun x=>by exact e53 u x.1 x.2)
def C81:ao:=(C80 u).add 62 (fun _=>true) (O53 u)
def B90:An tT Tryz.f90 [.k (rl 6 6 []),.k (5::(rl 12 12 [])),.h [],.k (0::1::(rl 6 31 [])),.k (rl 12 4 []),.k (0::1::(rl 5 32 [])),.k (rl 0 4 (rl 5 32 []))]:=by
 apply Subtype.mk;cbv<;>exact rfl
def A90:AF:=B90.1
def TU:AC:=sA A90.body [1,1]
def TV:AC:=sA TU [1]
def PH:AC:=sA TU [0,1,0,0]
def Pj:St->Option St:=nN 3 (0::1::(rl 6 31 []))
def Ma:St:=⟨(.u::.u::.x (.ptr 0 0)::.x (.ptr 1 0)::.x (.ptr 2 0)::vxi i0::(us 31 [])),[.box [(vci i1),(vci i2)],.box [(vcs w0),(vci i3),(vci i4),(vci i5),(vcb b0)],.box [(vci 0),(vci 0)]]⟩
def XD:St:=⟨(.u::.u::.x (.ptr 0 0)::.x (.ptr 1 0)::.x (.ptr 2 0)::(us 32 [])),[.box [(vci i0),(vci i1)],.box [(vcs w0),(vci i2),(vci i3),(vci i4),(vcb b0)],.box [(vci 0),(vci 0)]]⟩
def rZ {ρ:Type} (u:Nat) (x0:ByteArray) (x1 x2 x3:Int) (x4:Bool):Nat->Int->Int->Int->(Int->Int->Option ρ)->Option ρ
 | 0,_,_,_,_=>none
 | m+1,x5,x6,x7,k0 =>
  (bif (decide (x5<x3)) then (rZ u x0 x1 x2 x3 x4 m (w64 (x5+1)) (w64 (0-x7)) x6 k0) else (k0 x6 x7))
theorem NG:∀ (m:Nat) (x0 x1 x2:Int) (k0:Int->Int->Option ρ),ob (rZ u w0 i0 i1 i2 b0 m x0 x1 x2 k0) ng=rZ u w0 i0 i1 i2 b0 m x0 x1 x2 (fun x3 x4=>ob (k0 x3 x4) ng)
 | 0,_,_,_,_=>rfl
 | m+1,x0,x1,x2,k0=>by
  simp only [rZ,ak,aw,af,NG m]
theorem SN:∀ (m:Nat) (x0 x1 x2:Int),
  am (eB PH (C81 u) u) Pj m (Ma x0 x1 x2 i0 i1 i2 b0 w0) k=rZ u w0 i0 i1 i2 b0 m x0 x1 x2 (fun x3 x4=>k (.exit 0) (XD x3 x4 i0 i1 i2 b0 w0))
 | 0,_,_,_=>rfl
 | m+1,x0,x1,x2=>by
  simp only [rZ,<- SN m]
  kernel_rfl
def F32 (x0 x1:Int) (x2:ByteArray) (x3 x4 x5:Int) (x6:Bool):Option (Int × Int) :=
 (bif x6 then (rZ u x2 x3 x4 x5 x6 u 0 (w64 (0-x0)) x1
  (fun x7 x8=>(some ((w64 (x7+x3)),(w64 (x8+x4)))))) else (rZ u x2 x3 x4 x5 x6 u 0 x0 x1
  (fun x9 xA=>(some ((w64 (x9+x3)),(w64 (xA+x4)))))))
theorem e32:aD (C81 u) u A90 [.agg [(vi i0),(vi i1)],.agg [(.s w0),(vi i2),(vi i3),(vi i4),(.b b0)]]=ob (F32 u i0 i1 w0 i2 i3 i4 b0) fun t=>some [.agg [(vi t.1),(vi t.2)]]:=Eq.trans (b:=(bif b0 then (am (eB PH (C81 u) u) Pj u (Ma 0 (w64 (0-i0)) i1 i2 i3 i4 b0 w0) (aA 0 (aI (C81 u) u (5::(rl 12 12 [])) TV (aH A90)))) else (am (eB PH (C81 u) u) Pj u (Ma 0 i0 i1 i2 i3 i4 b0 w0) (aA 0 (aI (C81 u) u (5::(rl 12 12 [])) TV (aH A90)))))) (by kernel_rfl) (by
 simp only [F32,ak,aw,af,aa,NG,SN]<;>kernel_rfl)
def O32:Ora:=mkO (qc (ag (tc ci (t1 ci))) (q1 (ag (tc cS (tc ci (tc ci (tc ci (t1 cB)))))))) (fun x=>F32 u x.1.1 x.1.2 x.2.1 x.2.2.1 x.2.2.2.1 x.2.2.2.2.1 x.2.2.2.2.2) fun t=>[.agg [(vi t.1),(vi t.2)]]
theorem d32:DO (O32 u) (C81 u) 90 A90:=dO u (fun x=>by exact e32 u x.1.1 x.1.2 x.2.2.1 x.2.2.2.1 x.2.2.2.2.1 x.2.2.2.2.2 x.2.1)
def C82:ao:=(C81 u).add 90 (fun _=>true) (O32 u)
def B63:An tT Tryz.f63 [.k (rl 6 25 []),.h [.slot 5 kP],.k (1::2::4::(rl 7 25 [])),.k (rl 8 4 []),.k (rl 0 5 (rl 6 26 [])),.k (7::(rl 14 17 [])),.k (rl 15 7 []),.k (rl 0 4 (rl 5 27 []))]:=by
 apply Subtype.mk;cbv<;>exact rfl
def A63:AF:=B63.1
def ZR:AC:=sA A63.body [1,1,1]
def T9:AC:=sA A63.body [1,1,0,1,0,0]
def Tx:St->Option St:=nN 2 (1::2::4::(rl 7 25 []))
def RP:St:=⟨(.x (.c (ro kP n0 f0))::.u::.u::.x (.ptr 0 0)::.u::.x (.own 1 0 n1)::vxi i0::(us 25 [])),[.box [(vcs w0),(vci i1),(vci i2),(vci i3),(vcb b0)],.arr kP n1 f1]⟩
def Xx:St:=⟨(us 5 (.x (.own 1 0 n0)::(us 26 []))),[.box [(vcs w0),(vci i0),(vci i1),(vci i2),(vcb b0)],.arr kP n0 f0]⟩
def rU {ρ:Type} (u:Nat) (x0:Nat) (x1:FF) (x2:ByteArray) (x3 x4 x5:Int) (x6:Bool):Nat->Nat->Int->FF->(Nat->FF->Option ρ)->Option ρ
 | 0,_,_,_,_=>none
 | m+1,x7,x8,x9,k0 =>
  (bif (decide (x8<(Int.ofNat x0))) then (bif x6 then (bif (inb (w64 ((w64 ((Int.ofNat x0)-1))-x8)) x0) then (ob (F32 u ((x1 (Int.toNat (w64 ((w64 ((Int.ofNat x0)-1))-x8))) 0).int) ((x1 (Int.toNat (w64 ((w64 ((Int.ofNat x0)-1))-x8))) 1).int) x2 x3 x4 x5 x6) fun xA=>(bif (Nat.ble (x7+1) 1073741824) then (rU u x0 x1 x2 x3 x4 x5 x6 m (x7+1) (w64 (x8+1)) (aB x7 x9 (aG 2 [(.i .i64 xA.1),(.i .i64 xA.2)])) k0) else none)) else none) else (bif (inb x8 x0) then (ob (F32 u (x1 x8.toNat 0).int (x1 x8.toNat 1).int x2 x3 x4 x5 x6) fun xB=>(bif (Nat.ble (x7+1) 1073741824) then (rU u x0 x1 x2 x3 x4 x5 x6 m (x7+1) (w64 (x8+1)) (aB x7 x9 (aG 2 [(.i .i64 xB.1),(.i .i64 xB.2)])) k0) else none)) else none)) else (k0 x7 x9))
theorem Nx:∀ (m:Nat) (x0:Nat) (x1:Int) (x2:FF) (k0:Nat->FF->Option ρ),ob (rU u n0 f0 w0 i0 i1 i2 b0 m x0 x1 x2 k0) ng=rU u n0 f0 w0 i0 i1 i2 b0 m x0 x1 x2 (fun x3 x4=>ob (k0 x3 x4) ng)
 | 0,_,_,_,_=>rfl
 | m+1,x0,x1,x2,k0=>by
  simp only [rU,ak,aw,af,Nx m]
theorem SE:∀ (m:Nat) (x0:Nat) (x1:Int) (x2:FF),
  am (eB T9 (C82 u) u) Tx m (RP n0 x0 f0 x2 x1 i0 i1 i2 b0 w0) k=rU u n0 f0 w0 i0 i1 i2 b0 m x0 x1 x2 (fun x3 x4=>k (.exit 0) (Xx x3 x4 i0 i1 i2 b0 w0))
 | 0,_,_,_=>rfl
 | m+1,x0,x1,x2=>by
  simp only [rU,<- SE m]
  kernel_rfl
def F54 (x0:Nat) (x1:FF) (x2:ByteArray) (x3 x4 x5:Int) (x6:Bool):Option (Nat × FF) :=
 (rU u x0 x1 x2 x3 x4 x5 x6 u 0 0 (fun _ _=>.any)
  (fun x7 x8=>(some (x7,x8))))
theorem e54:aD (C82 u) u A63 [.v (ro kP n0 f0),.agg [(.s w0),(vi i0),(vi i1),(vi i2),(.b b0)]]=ob (F54 u n0 f0 w0 i0 i1 i2 b0) fun t=>some [.v (ro kP t.1 t.2)]:=Eq.trans (b:=(am (eB T9 (C82 u) u) Tx u (RP n0 0 f0 aR 0 i0 i1 i2 b0 w0) (aA 0 (aI (C82 u) u (rl 6 25 []) ZR (aH A63))))) (by kernel_rfl) (by
 simp only [F54,ak,aw,af,aa,Nx,SE]<;>kernel_rfl)
def O54:Ora:=mkO (qc (av (cL kP)) (q1 (ag (tc cS (tc ci (tc ci (tc ci (t1 cB)))))))) (fun x=>F54 u x.1.1 x.1.2 x.2.1 x.2.2.1 x.2.2.2.1 x.2.2.2.2.1 x.2.2.2.2.2) fun t=>[.v (ro kP t.1 t.2)]
theorem d54:DO (O54 u) (C82 u) 63 A63:=dO u (fun x=>by exact e54 u x.1.1 x.1.2 x.2.2.1 x.2.2.2.1 x.2.2.2.2.1 x.2.2.2.2.2 x.2.1)
def C83:ao:=(C82 u).add 63 (fun _=>true) (O54 u)
def B41:An tT Tryz.f41 [.k (7::8::(rl 26 26 [])),.h [],.k (0::1::(rl 8 71 [])),.k (rl 26 4 []),.k (0::1::5::(rl 7 72 [])),.k (8::(rl 32 20 [])),.h [],.k (0::1::(rl 9 70 [])),.k (rl 32 7 []),.k (0::1::(rl 8 71 [])),.k [52,53],.k (rl 0 4 (rl 5 74 [])),.k (10::(rl 59 19 [])),.h [.cell 9 1 kF],.k (0::1::(rl 5 4 (rl 11 68 []))),.k (rl 59 5 []),.k (rl 0 4 (rl 5 4 (rl 10 69 []))),.k (rl 0 4 (rl 5 74 []))]:=by
 apply Subtype.mk;cbv<;>exact rfl
def A41:AF:=B41.1
def Cb:AC:=sA A41.body [1,1,1,1]
def Up:AC:=sA Cb [1]
def Z8:AC:=sA Up [1,1]
def Uq:AC:=sA Up [1,0,1,0,0]
def lU:AC:=sA A41.body [1,1,1,0,1,0,0]
def Ur:AC:=sA lU [1]
def Jz:AC:=sA Ur [1]
def JA:AC:=sA Ur [0,0,1,0,0]
def TF:St->Option St:=nN 3 (0::1::(rl 9 70 []))
def R8:St:=⟨(.u::.u::.x (.ptr 0 0)::.x (.ptr 1 0)::.x (.ptr 2 0)::.x (.c (ro kF n0 f0))::vxb b0::vxi i0::vxi i1::(us 70 [])),[.box [(.c (ro kP n1 f1)),(.c (ro kF n2 f2))],.box [(vcs w0),(vci i2),(vci i3),(vci i4),(vcb b1)],.box [(vcn),(vcn)]]⟩
def R7:St:=⟨(.u::.u::.x (.ptr 0 0)::.x (.ptr 1 0)::.x (.ptr 2 0)::.x (.c (ro kF n0 f0))::vxb b0::vxi i0::(us 71 [])),[.box [(.c (ro kP n1 f1)),(.c (ro kF n2 f2))],.box [(vcs w0),(vci i1),(vci i2),(vci i3),(vcb b1)],.box [(vcn),(vcn)]]⟩
def sc {ρ:Type} (u:Nat) (x0:Nat) (x1:FF) (x2:Int) (x3:Nat) (x4:FF) (x5:Nat) (x6:FF) (x7:ByteArray) (x8 x9 xA:Int) (xB:Bool):Nat->Bool->Int->(Bool->Option ρ)->Option ρ
 | 0,_,_,_=>none
 | m+1,xC,xD,k0 =>
  (bif (inb x2 x0) then (bif (decide (xD<(Int.ofNat (x1 x2.toNat 0).len))) then (bif (xC==false) then (bif (inb x2 x0) then (bif (inb xD (x1 x2.toNat 0).len) then (ob (F53 u ((x1 x2.toNat 0).el xD.toNat 0).int ((x1 x2.toNat 0).el xD.toNat 1).int) fun xE=>(sc u x0 x1 x2 x3 x4 x5 x6 x7 x8 x9 xA xB m xE (w64 (xD+1)) k0)) else none) else none) else (sc u x0 x1 x2 x3 x4 x5 x6 x7 x8 x9 xA xB m true (w64 (xD+1)) k0)) else (k0 xC)) else none)
theorem NL:∀ (m:Nat) (x0:Bool) (x1:Int) (k0:Bool->Option ρ),ob (sc u n0 f0 i0 n1 f1 n2 f2 w0 i1 i2 i3 b0 m x0 x1 k0) ng=sc u n0 f0 i0 n1 f1 n2 f2 w0 i1 i2 i3 b0 m x0 x1 (fun x2=>ob (k0 x2) ng)
 | 0,_,_,_=>rfl
 | m+1,x0,x1,k0=>by
  simp only [sc,ak,aw,af,NL m]
theorem SS:∀ (m:Nat) (x0:Bool) (x1:Int),
  am (eB JA (C83 u) u) TF m (R8 n0 n1 n2 f0 f1 f2 i0 x1 i1 i2 i3 x0 b0 w0) k=sc u n0 f0 i0 n1 f1 n2 f2 w0 i1 i2 i3 b0 m x0 x1 (fun x2=>k (.exit 2) (R7 n0 n1 n2 f0 f1 f2 i0 i1 i2 i3 x2 b0 w0))
 | 0,_,_=>rfl
 | m+1,x0,x1=>by
  simp only [sc,<- SS m]
  kernel_rfl
def Dg:St->Option St:=nN 3 (0::1::(rl 8 71 []))
def HT:St:=⟨(.u::.u::.x (.ptr 0 0)::.x (.ptr 1 0)::.x (.ptr 2 0)::.x (.c (ro kF n0 f0))::vxb b0::vxi i0::(us 71 [])),[.box [(.c (ro kP n1 f1)),(.c (ro kF n2 f2))],.box [(vcs w0),(vci i1),(vci i2),(vci i3),(vcb b1)],.box [(vcn),(vcn)]]⟩
def Mb:St:=⟨(.u::.u::.x (.ptr 0 0)::.x (.ptr 1 0)::.x (.ptr 2 0)::.u::vxb b0::(us 72 [])),[.box [(.c (ro kP n0 f0)),(.c (ro kF n1 f1))],.box [(vcs w0),(vci i0),(vci i1),(vci i2),(vcb b1)],.box [(vcn),(vcn)]]⟩
def r9 {ρ:Type} (u:Nat) (x0:Nat) (x1:FF) (x2:Nat) (x3:FF) (x4:Nat) (x5:FF) (x6:ByteArray) (x7 x8 x9:Int) (xA:Bool):Nat->Bool->Int->(Bool->Option ρ)->Option ρ
 | 0,_,_,_=>none
 | m+1,xB,xC,k0 =>
  (bif (decide (xC<(Int.ofNat x0))) then (sc u x0 x1 xC x2 x3 x4 x5 x6 x7 x8 x9 xA u xB 0
  (fun xD=>(r9 u x0 x1 x2 x3 x4 x5 x6 x7 x8 x9 xA m xD (w64 (xC+1)) k0))) else (k0 xB))
theorem NK:∀ (m:Nat) (x0:Bool) (x1:Int) (k0:Bool->Option ρ),ob (r9 u n0 f0 n1 f1 n2 f2 w0 i0 i1 i2 b0 m x0 x1 k0) ng=r9 u n0 f0 n1 f1 n2 f2 w0 i0 i1 i2 b0 m x0 x1 (fun x2=>ob (k0 x2) ng)
 | 0,_,_,_=>rfl
 | m+1,x0,x1,k0=>by
  simp only [r9,ak,aw,af,NK m,NL]
theorem XV :
  am (eB lU (C83 u) u) Dg (m+1) (HT n0 n1 n2 f0 f1 f2 i3 i0 i1 i2 b1 b0 w0) k =
  (bif (decide (i3<(Int.ofNat n0))) then (am (eB JA (C83 u) u) TF u (R8 n0 n1 n2 f0 f1 f2 i3 0 i0 i1 i2 b1 b0 w0) (aA 2 (aA 1 (aI (C83 u) u (8::(rl 32 20 [])) Jz (aN (eB lU (C83 u) u) Dg m k))))) else (k (.exit 0) (Mb n1 n2 f1 f2 i0 i1 i2 b1 b0 w0))):=by kernel_rfl
theorem Ym :
  (aA 2 (aA 1 (aI (C83 u) u (8::(rl 32 20 [])) Jz (aN (eB lU (C83 u) u) Dg m k)))) (.exit 2) (R7 n0 n1 n2 f0 f1 f2 i0 i1 i2 i3 b0 b1 w0) =
  (am (eB lU (C83 u) u) Dg m (HT n0 n1 n2 f0 f1 f2 (w64 (i0+1)) i1 i2 i3 b0 b1 w0) k):=by kernel_rfl
theorem SR:∀ (m:Nat) (x0:Bool) (x1:Int),
  am (eB lU (C83 u) u) Dg m (HT n0 n1 n2 f0 f1 f2 x1 i0 i1 i2 x0 b0 w0) k=r9 u n0 f0 n1 f1 n2 f2 w0 i0 i1 i2 b0 m x0 x1 (fun x2=>k (.exit 0) (Mb n1 n2 f1 f2 i0 i1 i2 x2 b0 w0))
 | 0,_,_=>rfl
 | m+1,x0,x1=>by
  rw [XV]
  simp only [r9,SR m,SS,Ym]
def TE:St->Option St:=nN 5 (0::1::(rl 5 4 (rl 11 68 [])))
def R6:St:=⟨(.u::.u::.x (.ptr 0 0)::.x (.ptr 1 0)::.x (.ptr 2 0)::(us 4 (.x (.ptr 3 0)::vxi i0::(us 68 [])))),[.box [(.c (ro kP n0 f0)),(.c (ro kF n1 f1))],.box [(vcs w0),(vci i1),(vci i2),(vci i3),(vcb b0)],.box [(vcn),(vcn)],.box [(.c (ro kP n2 f2)),(.own 4 0 n3)],.arr kF n3 f3]⟩
def XE:St:=⟨(us 4 (.x (.ptr 2 0)::(us 4 (.x (.ptr 3 0)::(us 69 []))))),[.box [(.c (ro kP n0 f0)),(.c (ro kF n1 f1))],.box [(vcs w0),(vci i0),(vci i1),(vci i2),(vcb b0)],.box [(vcn),(vcn)],.box [(.c (ro kP n2 f2)),(.own 4 0 n3)],.arr kF n3 f3]⟩
def r8 {ρ:Type} (u:Nat) (x0:Nat) (x1:FF) (x2:Nat) (x3:FF) (x4:ByteArray) (x5 x6 x7:Int) (x8:Bool) (x9:Nat) (xA:FF):Nat->Int->Nat->FF->(Nat->FF->Option ρ)->Option ρ
 | 0,_,_,_,_=>none
 | m+1,xB,xC,xD,k0 =>
  (bif (decide (xB<(Int.ofNat x2))) then (bif (inb xB x2) then (ob (F54 u (x3 xB.toNat 0).len (x3 xB.toNat 0).el x4 x5 x6 x7 x8) fun xE=>(bif (Nat.ble (xC+1) 1073741824) then (r8 u x0 x1 x2 x3 x4 x5 x6 x7 x8 x9 xA m (w64 (xB+1)) (xC+1) (aB xC xD (aG 1 [(.ro false (.pr (.int .i64) (.pr (.int .i64) .nil)) xE.1 xE.2)])) k0) else none)) else none) else (k0 xC xD))
theorem NJ:∀ (m:Nat) (x0:Int) (x1:Nat) (x2:FF) (k0:Nat->FF->Option ρ),ob (r8 u n0 f0 n1 f1 w0 i0 i1 i2 b0 n2 f2 m x0 x1 x2 k0) ng=r8 u n0 f0 n1 f1 w0 i0 i1 i2 b0 n2 f2 m x0 x1 x2 (fun x3 x4=>ob (k0 x3 x4) ng)
 | 0,_,_,_,_=>rfl
 | m+1,x0,x1,x2,k0=>by
  simp only [r8,ak,aw,af,NJ m]
theorem SQ:∀ (m:Nat) (x0:Int) (x1:Nat) (x2:FF),
  am (eB Uq (C83 u) u) TE m (R6 n0 n1 n2 x1 f0 f1 f2 x2 x0 i0 i1 i2 b0 w0) k=r8 u n0 f0 n1 f1 w0 i0 i1 i2 b0 n2 f2 m x0 x1 x2 (fun x3 x4=>k (.exit 4) (XE n0 n1 n2 x3 f0 f1 f2 x4 i0 i1 i2 b0 w0))
 | 0,_,_,_=>rfl
 | m+1,x0,x1,x2=>by
  simp only [r8,<- SQ m]
  kernel_rfl
def TD:St->Option St:=nN 3 (0::1::(rl 9 70 []))
def R5:St:=⟨(.u::.u::.x (.ptr 0 0)::.x (.ptr 1 0)::.x (.ptr 2 0)::.x (.c (ro kF n0 f0))::vxb true::vxi i0::vxi i1::(us 70 [])),[.box [(.c (ro kP n1 f1)),(.c (ro kF n2 f2))],.box [(vcs w0),(vci i2),(vci i3),(vci i4),(vcb b0)],.box [(vcn),(vcn)]]⟩
def R4:St:=⟨(.u::.u::.x (.ptr 0 0)::.x (.ptr 1 0)::.x (.ptr 2 0)::.x (.c (ro kF n0 f0))::vxb true::vxi i0::(us 71 [])),[.box [(.c (ro kP n1 f1)),(.c (ro kF n2 f2))],.box [(vcs w0),(vci i1),(vci i2),(vci i3),(vcb b0)],.box [(vcn),(vcn)]]⟩
def vk {ρ:Type} (u:Nat) (x0:Nat) (x1:FF) (x2:Int) (x3:Nat) (x4:FF) (x5:Nat) (x6:FF) (x7:ByteArray) (x8 x9 xA:Int) (xB:Bool):Nat->Int->(Option ρ)->Option ρ
 | 0,_,_=>none
 | m+1,xC,k0 =>
  (bif (inb x2 x0) then (bif (decide (xC<(Int.ofNat (x1 x2.toNat 0).len))) then (vk u x0 x1 x2 x3 x4 x5 x6 x7 x8 x9 xA xB m (w64 (xC+1)) k0) else k0) else none)
theorem NI:∀ (m:Nat) (x0:Int) (k0:Option ρ),ob (vk u n0 f0 i0 n1 f1 n2 f2 w0 i1 i2 i3 b0 m x0 k0) ng=vk u n0 f0 i0 n1 f1 n2 f2 w0 i1 i2 i3 b0 m x0 (ob k0 ng)
 | 0,_,_=>rfl
 | m+1,x0,k0=>by
  simp only [vk,ak,aw,af,NI m]
theorem SP:∀ (m:Nat) (x0:Int),
  am (eB JA (C83 u) u) TD m (R5 n0 n1 n2 f0 f1 f2 i0 x0 i1 i2 i3 b0 w0) k=vk u n0 f0 i0 n1 f1 n2 f2 w0 i1 i2 i3 b0 m x0 (k (.exit 2) (R4 n0 n1 n2 f0 f1 f2 i0 i1 i2 i3 b0 w0))
 | 0,_=>rfl
 | m+1,x0=>by
  simp only [vk,<- SP m]
  kernel_rfl
def BT:St->Option St:=nN 3 (0::1::(rl 8 71 []))
def Ey:St:=⟨(.u::.u::.x (.ptr 0 0)::.x (.ptr 1 0)::.x (.ptr 2 0)::.x (.c (ro kF n0 f0))::vxb true::vxi i0::(us 71 [])),[.box [(.c (ro kP n1 f1)),(.c (ro kF n2 f2))],.box [(vcs w0),(vci i1),(vci i2),(vci i3),(vcb b0)],.box [(vcn),(vcn)]]⟩
def R3:St:=⟨(.u::.u::.x (.ptr 0 0)::.x (.ptr 1 0)::.x (.ptr 2 0)::.u::vxb true::(us 72 [])),[.box [(.c (ro kP n0 f0)),(.c (ro kF n1 f1))],.box [(vcs w0),(vci i0),(vci i1),(vci i2),(vcb b0)],.box [(vcn),(vcn)]]⟩
def r7 {ρ:Type} (u:Nat) (x0:Nat) (x1:FF) (x2:Nat) (x3:FF) (x4:Nat) (x5:FF) (x6:ByteArray) (x7 x8 x9:Int) (xA:Bool):Nat->Int->(Option ρ)->Option ρ
 | 0,_,_=>none
 | m+1,xB,k0 =>
  (bif (decide (xB<(Int.ofNat x0))) then (vk u x0 x1 xB x2 x3 x4 x5 x6 x7 x8 x9 xA u 0
  (r7 u x0 x1 x2 x3 x4 x5 x6 x7 x8 x9 xA m (w64 (xB+1)) k0)) else k0)
theorem NH:∀ (m:Nat) (x0:Int) (k0:Option ρ),ob (r7 u n0 f0 n1 f1 n2 f2 w0 i0 i1 i2 b0 m x0 k0) ng=r7 u n0 f0 n1 f1 n2 f2 w0 i0 i1 i2 b0 m x0 (ob k0 ng)
 | 0,_,_=>rfl
 | m+1,x0,k0=>by
  simp only [r7,ak,aw,af,NH m,NI]
theorem XU :
  am (eB lU (C83 u) u) BT (m+1) (Ey n0 n1 n2 f0 f1 f2 i3 i0 i1 i2 b0 w0) k =
  (bif (decide (i3<(Int.ofNat n0))) then (am (eB JA (C83 u) u) TD u (R5 n0 n1 n2 f0 f1 f2 i3 0 i0 i1 i2 b0 w0) (aA 2 (aA 1 (aI (C83 u) u (8::(rl 32 20 [])) Jz (aN (eB lU (C83 u) u) BT m k))))) else (k (.exit 0) (R3 n1 n2 f1 f2 i0 i1 i2 b0 w0))):=by kernel_rfl
theorem Yl :
  (aA 2 (aA 1 (aI (C83 u) u (8::(rl 32 20 [])) Jz (aN (eB lU (C83 u) u) BT m k)))) (.exit 2) (R4 n0 n1 n2 f0 f1 f2 i0 i1 i2 i3 b0 w0) =
  (am (eB lU (C83 u) u) BT m (Ey n0 n1 n2 f0 f1 f2 (w64 (i0+1)) i1 i2 i3 b0 w0) k):=by kernel_rfl
theorem SO:∀ (m:Nat) (x0:Int),
  am (eB lU (C83 u) u) BT m (Ey n0 n1 n2 f0 f1 f2 x0 i0 i1 i2 b0 w0) k=r7 u n0 f0 n1 f1 n2 f2 w0 i0 i1 i2 b0 m x0 (k (.exit 0) (R3 n1 n2 f1 f2 i0 i1 i2 b0 w0))
 | 0,_=>rfl
 | m+1,x0=>by
  rw [XU]
  simp only [r7,SO m,SP,Yl]
def G7 (x0:Nat) (x1:FF) (x2:Nat) (x3:FF) (x4:ByteArray) (x5 x6 x7:Int) (x8:Bool):Option (Bool × Nat × FF × Nat × FF) :=
 (ob (F44 u x0 x1 x2 x3) fun x9=>(bif ((decide (x7<0))==false) then (bif ((decide (x7>3))==false) then (ob (F53 u x5 x6) fun xA=>(r9 u x9.1 x9.2 x0 x1 x2 x3 x4 x5 x6 x7 x8 u xA 0
  (fun xB=>(bif xB then (some (true,0,(fun _ _=>.any),0,(fun _ _=>.any))) else (ob (F54 u x0 x1 x4 x5 x6 x7 x8) fun xC=>(r8 u x0 x1 x2 x3 x4 x5 x6 x7 x8 xC.1 xC.2 u 0 0 (fun _ _=>.any)
  (fun xD xE=>(some (false,xC.1,xC.2,xD,xE))))))))) else (r7 u x9.1 x9.2 x0 x1 x2 x3 x4 x5 x6 x7 x8 u 0
  (some (true,0,(fun _ _=>.any),0,(fun _ _=>.any))))) else (r7 u x9.1 x9.2 x0 x1 x2 x3 x4 x5 x6 x7 x8 u 0
  (some (true,0,(fun _ _=>.any),0,(fun _ _=>.any))))))
theorem Yk :
  (aA 0 (aI (C83 u) u (7::8::(rl 26 26 [])) Cb (aH A41))) (.exit 0) (Mb n0 n1 f0 f1 i0 i1 i2 b0 b1 w0) =
  (bif b0 then (some [.agg [(.ro true kP 0 aR),(.ro true kF 0 aR)]]) else (ob (F54 u n0 f0 w0 i0 i1 i2 b1) fun x0=>(am (eB Uq (C83 u) u) TE u (R6 n0 n1 x0.1 0 f0 f1 x0.2 aR 0 i0 i1 i2 b1 w0) (aA 4 (aI (C83 u) u (10::(rl 59 19 [])) Z8 (aH A41)))))):=by kernel_rfl
theorem e26:aD (C83 u) u A41 [.agg [(ro kP n0 f0),(ro kF n1 f1)],.agg [(.s w0),(vi i0),(vi i1),(vi i2),(.b b0)]]=ob (G7 u n0 f0 n1 f1 w0 i0 i1 i2 b0) fun t=>some (bif t.1 then [.agg [(.ro true kP 0 aR),(.ro true kF 0 aR)]] else [.agg [(ro kP t.2.1 t.2.2.1),(ro kF t.2.2.2.1 t.2.2.2.2)]]):=Eq.trans (b:=(ob (F44 u n0 f0 n1 f1) fun x0=>(bif ((decide (i2<0))==false) then (bif ((decide (i2>3))==false) then (ob (F53 u i0 i1) fun x1=>(am (eB lU (C83 u) u) Dg u (HT x0.1 n0 n1 x0.2 f0 f1 0 i0 i1 i2 x1 b0 w0) (aA 0 (aI (C83 u) u (7::8::(rl 26 26 [])) Cb (aH A41))))) else (am (eB lU (C83 u) u) BT u (Ey x0.1 n0 n1 x0.2 f0 f1 0 i0 i1 i2 b0 w0) (aA 0 (aI (C83 u) u (7::8::(rl 26 26 [])) Cb (aH A41))))) else (am (eB lU (C83 u) u) BT u (Ey x0.1 n0 n1 x0.2 f0 f1 0 i0 i1 i2 b0 w0) (aA 0 (aI (C83 u) u (7::8::(rl 26 26 [])) Cb (aH A41))))))) (by kernel_rfl) (by
 simp only [G7,ak,aw,af,aa,NK,NJ,NH,SR,Yk,SQ,SO,cond_true,cond_false]<;>kernel_rfl)
def F26 (x0:Nat) (x1:FF) (x2:Nat) (x3:FF) (x4:ByteArray) (x5 x6 x7:Int) (x8:Bool):Option (Nat × FF × Nat × FF):=ob (G7 u x0 x1 x2 x3 x4 x5 x6 x7 x8) fun t=>some (bif t.1 then (0,(fun _ _=>.any),0,(fun _ _=>.any)) else (t.2.1,t.2.2.1,t.2.2.2.1,t.2.2.2.2))
def O26:Ora:=mkO (qc (ag (tc (cL kP) (t1 (cL kF)))) (q1 (ag (tc cS (tc ci (tc ci (tc ci (t1 cB)))))))) (fun x=>F26 u x.1.1.1 x.1.1.2 x.1.2.1 x.1.2.2 x.2.1 x.2.2.1 x.2.2.2.1 x.2.2.2.2.1 x.2.2.2.2.2) fun t=>[.agg [(ro kP t.1 t.2.1),(ro kF t.2.2.1 t.2.2.2)]]
theorem d26:DO (O26 u) (C83 u) 41 A41:=dW u (fun x=>by exact e26 u x.1.1.1 x.1.2.1 x.1.1.2 x.1.2.2 x.2.2.1 x.2.2.2.1 x.2.2.2.2.1 x.2.2.2.2.2 x.2.1) (fun _=>rfl) fun t=>by
 obtain ⟨b,t⟩:=t
 cases b with
 | true=>exact (.cons (WkA.agg (.cons (Wk.ro (by rfl)) (.cons (Wk.ro (by rfl)) .nil))) .nil)
 | false =>
  exact (.cons (WkA.agg (.cons (Wk.refl _) (.cons (Wk.refl _) .nil))) .nil)
def C84:ao:=(C83 u).add 41 (fun _=>true) (O26 u)
def B30:An tT Tryz.f30 [.g [0,1,3,4],.k (rl 0 6 (rl 8 28 []))]:=by
 apply Subtype.mk;cbv<;>exact rfl
def A30:AF:=B30.1
def G9 (x0:Nat->CV) (x1 x2 x3:Int):Option (ByteArray × Int × Int × Int × Bool × Bool) :=
 (ob (F26 u (x0 6).len (x0 6).el (x0 7).len (x0 7).el ByteArray.empty 0 0 x3 false) fun x4=>(ob (F21 u x4.1 x4.2.1 x4.2.2.1 x4.2.2.2) fun x5=>(ob (rI u (w64 (x1-x5.1)) (w64 (x2-x5.2.1)) 32768) fun x6=>(some ((x0 0).str,(w64 (x1-x5.1)),(w64 (x2-x5.2.1)),x3,false,x6)))))
theorem aa6:aD (C84 u) u A30 [.agg (pj kR0 g0),.agg [(vi i0),(vi i1)],.v (vi i2)]=ob (G9 u g0 i0 i1 i2) fun t=>some [.agg [(.s t.1),(vi t.2.1),(vi t.2.2.1),(vi t.2.2.2.1),(.b t.2.2.2.2.1)],.v (.b t.2.2.2.2.2)]:=by
 simp only [G9,ak,aw,af,aa]
 kernel_rfl
def YZ:Ora:=mkO (qc (ar kR0) (qc (ag (tc ci (t1 ci))) (q1 (av ci)))) (fun x=>G9 u x.1 x.2.1.1 x.2.1.2 x.2.2) fun t=>[.agg [(.s t.1),(vi t.2.1),(vi t.2.2.1),(vi t.2.2.2.1),(.b t.2.2.2.2.1)],.v (.b t.2.2.2.2.2)]
theorem abJ:DO (YZ u) (C84 u) 30 A30:=dO u (fun x=>by exact aa6 u x.2.1.1 x.2.1.2 x.2.2 x.1)
def C85:ao:=(C84 u).add 30 (fun _=>true) (YZ u)
def B42:An tT Tryz.f42 [.k (14::(rl 18 32 [])),.g [0],.k (rl 0 14 (rl 15 129 [])),.k (14::(rl 50 30 [])),.g [0],.k (rl 0 14 (rl 15 129 [])),.k (14::16::17::(rl 82 62 [])),.h [],.k (0::1::3::(rl 6 4 (rl 11 4 (rl 17 127 [])))),.k (rl 82 4 []),.g [0],.k (rl 0 144 []),.k (14::17::(rl 88 56 [])),.k (14::(rl 92 10 [])),.g [0,1],.k (rl 0 14 (rl 15 129 [])),.g [0,1],.k (rl 0 14 (rl 15 129 [])),.g [0],.k (rl 0 14 (rl 15 129 []))]:=by
 apply Subtype.mk;cbv<;>exact rfl
def A42:AF:=B42.1
def Z6:AC:=sA A42.body [1,1]
def Un:AC:=sA Z6 [1]
def Z7:AC:=sA Un [1,1]
def Uo:AC:=sA Un [1,0,1,0,0]
def O4:St->Option St:=nN 1 (0::1::3::(rl 6 4 (rl 11 4 (rl 17 127 []))))
def LE:St:=⟨(.u::.u::.x (.c (ro kE n0 f0))::.u::vxi i0::vxi i1::(us 4 (.x (.ptr 0 0)::(us 4 (vxi i2::vxi i3::(us 127 [])))))),[.box [(vci i4),(vci i5)]]⟩
def Vn:St:=⟨(us 14 (vxb false::(us 129 []))),[.dead,.dead]⟩
def Vm:St:=⟨(us 144 []),[.dead]⟩
def eV {ρ:Type} (u:Nat) (x0:Nat) (x1:FF) (x2 x3 x4 x5 x6:Int):Nat->Int->(Option ρ)->(Option ρ)->Option ρ
 | 0,_,_,_=>none
 | m+1,x7,k0,k1 =>
  (bif (decide (x7<(Int.ofNat x0))) then (bif (inb x7 x0) then (ob (rI u (x1 x7.toNat 0).int (x1 x7.toNat 1).int 1099511627776) fun x8=>(bif ((!x8)==false) then (ob (rI u (x1 x7.toNat 2).int (x1 x7.toNat 3).int 1099511627776) fun x9=>(bif (!x9) then k0 else (bif ((decide (x5<(w64 ((x1 x7.toNat 2).int+x4))))==true) then (bif ((decide ((w64 ((w64 (x5+x2))+x4))>(x1 x7.toNat 0).int))==true) then (bif ((decide (x6<(w64 ((x1 x7.toNat 3).int+x4))))==true) then (bif (decide ((w64 ((w64 (x6+x3))+x4))>(x1 x7.toNat 1).int)) then k0 else (eV u x0 x1 x2 x3 x4 x5 x6 m (w64 (x7+1)) k0 k1)) else (eV u x0 x1 x2 x3 x4 x5 x6 m (w64 (x7+1)) k0 k1)) else (eV u x0 x1 x2 x3 x4 x5 x6 m (w64 (x7+1)) k0 k1)) else (eV u x0 x1 x2 x3 x4 x5 x6 m (w64 (x7+1)) k0 k1)))) else k0)) else none) else k1)
theorem It:∀ (m:Nat) (x0:Int) (k0:Option ρ) (k1:Option ρ),ob (eV u n0 f0 i0 i1 i2 i3 i4 m x0 k0 k1) ng=eV u n0 f0 i0 i1 i2 i3 i4 m x0 (ob k0 ng) (ob k1 ng)
 | 0,_,_,_=>rfl
 | m+1,x0,k0,k1=>by
  simp only [eV,ak,aw,af,It m]
theorem Ms:∀ (m:Nat) (x0:Int),
  am (eB Uo (C85 u) u) O4 m (LE n0 f0 i0 i1 i2 x0 i3 i4) k=eV u n0 f0 i0 i1 i2 i3 i4 m x0 (k .ret Vn) (k (.exit 0) Vm)
 | 0,_=>rfl
 | m+1,x0=>by
  simp only [eV,<- Ms m]
  kernel_rfl
def BW (x0 x1:Int) (x2:Nat) (x3:FF) (x4 x5 x6 x7 x8:Int):Option (Bool) :=
 (bif ((decide ((if x8<(if x1<x0 then x1 else x0) then x8 else (if x1<x0 then x1 else x0))<0))==false) then (bif ((decide ((if x1>x0 then x1 else x0)>32768))==false) then (bif ((decide (x8>500))==false) then (bif ((decide ((if x7<x6 then x7 else x6)<1))==false) then (bif ((decide ((if x7>x6 then x7 else x6)>32768))==false) then (ob (rI u x4 x5 32768) fun x9=>(bif (!x9) then (some false) else (bif ((decide (x4<x8))==false) then (bif ((decide (x5<x8))==false) then (bif ((decide ((w64 (x4+x6))>(w64 (x0-x8))))==false) then (bif (decide ((w64 (x5+x7))>(w64 (x1-x8)))) then (some false) else (eV u x2 x3 x6 x7 (if 1>x8 then 1 else x8) x4 x5 u 0
  (some false)
  (some true))) else (some false)) else (some false)) else (some false)))) else (some false)) else (some false)) else (some false)) else (some false)) else (some false))
theorem aa8:aD (C85 u) u A42 [.v (vi i0),.v (vi i1),.v (ro kE n0 f0),.agg [(vi i2),(vi i3)],.v (vi i4),.v (vi i5),.v (vi i6)]=ob (BW u i0 i1 n0 f0 i2 i3 i4 i5 i6) fun t=>some [.v (.b t)]:=Eq.trans (b:=(bif ((decide ((if i6<(if i1<i0 then i1 else i0) then i6 else (if i1<i0 then i1 else i0))<0))==false) then (bif ((decide ((if i1>i0 then i1 else i0)>32768))==false) then (bif ((decide (i6>500))==false) then (bif ((decide ((if i5<i4 then i5 else i4)<1))==false) then (bif ((decide ((if i5>i4 then i5 else i4)>32768))==false) then (ob (rI u i2 i3 32768) fun x0=>(bif (!x0) then (some [.v (.b false)]) else (bif ((decide (i2<i6))==false) then (bif ((decide (i3<i6))==false) then (bif ((decide ((w64 (i2+i4))>(w64 (i0-i6))))==false) then (bif (decide ((w64 (i3+i5))>(w64 (i1-i6)))) then (some [.v (.b false)]) else (am (eB Uo (C85 u) u) O4 u (LE n0 f0 i4 i5 (if 1>i6 then 1 else i6) 0 i2 i3) (aA 0 (aI (C85 u) u (14::16::17::(rl 82 62 [])) Z7 (aH A42))))) else (some [.v (.b false)])) else (some [.v (.b false)])) else (some [.v (.b false)])))) else (some [.v (.b false)])) else (some [.v (.b false)])) else (some [.v (.b false)])) else (some [.v (.b false)])) else (some [.v (.b false)]))) (by kernel_rfl) (by
 simp only [BW,ak,aw,af,aa,It,Ms]<;>kernel_rfl)
def Y1:Ora:=mkO (qc (av ci) (qc (av ci) (qc (av (cL kE)) (qc (ag (tc ci (t1 ci))) (qc (av ci) (qc (av ci) (q1 (av ci)))))))) (fun x=>BW u x.1 x.2.1 x.2.2.1.1 x.2.2.1.2 x.2.2.2.1.1 x.2.2.2.1.2 x.2.2.2.2.1 x.2.2.2.2.2.1 x.2.2.2.2.2.2) fun t=>[.v (.b t)]
theorem abL:DO (Y1 u) (C85 u) 42 A42:=dO u (fun x=>by exact aa8 u x.2.2.1.1 x.2.2.1.2 x.1 x.2.1 x.2.2.2.1.1 x.2.2.2.1.2 x.2.2.2.2.1 x.2.2.2.2.2.1 x.2.2.2.2.2.2)
def C86:ao:=(C85 u).add 42 (fun _=>true) (Y1 u)
def B35:An tT Tryz.f35 [.k [2,8,9,10],.k (0::1::(rl 3 47 [])),.k (5::6::7::(rl 14 35 [])),.h [.slot 3 kC],.k (1::2::(rl 6 44 [])),.k (rl 14 4 []),.k (0::1::2::(rl 4 46 [])),.k (6::7::(rl 20 29 [])),.h [.slot 3 kC],.k (1::2::(rl 7 43 [])),.k [20,21,22],.k (1::2::(rl 6 44 [])),.k (0::1::(rl 3 47 []))]:=by
 apply Subtype.mk;cbv<;>exact rfl
def A35:AF:=B35.1
def Uw:AC:=sA A35.body [1,1]
def JC:AC:=sA Uw [1,1,1]
def dQ:AC:=sA Uw [1,1,0,1,0,0]
def Ux:AC:=sA dQ [1]
def Au:AC:=sA Ux [1]
def Av:AC:=sA Ux [0,0,1,0,0]
def Pz (u:Nat) (x0:Int):Option (Nat × FF) :=
 (bif (x0==0) then (some (1,(aG 1 [(.ro true (.pr (.int .i64) .nil) 0 (fun _ _=>.any))]))) else none)
theorem aa4:aD (C86 u) u A35 [.v (vi i0)]=ob (Pz u i0) fun t=>some [.v (ro kC t.1 t.2)]:=by
 simp only [Pz,ak,aw,af,aa]
 kernel_rfl
def YX:Ora:=mkO (q1 (av ci)) (fun x=>Pz u x) fun t=>[.v (ro kC t.1 t.2)]
theorem abH:DO (YX u) (C86 u) 35 A35:=dO u (fun x=>by exact aa4 u x)
def C87:ao:=(C86 u).add 35 (fun _=>true) (YX u)
def Jr:St->Option St:=nN 1 (1::2::(rl 7 43 []))
def HR:St:=⟨(vxi i0::.u::.u::.x (.own 0 0 n0)::.x (.c (ro kC n1 f0))::vxi i1::vxi i2::(us 43 [])),[.arr kC n0 f1]⟩
def HQ:St:=⟨(vxi i0::.u::.u::.x (.own 0 0 n0)::.x (.c (ro kC n1 f0))::vxi i1::(us 44 [])),[.arr kC n0 f1]⟩
def m5 {ρ:Type} (u:Nat) (x0:Int) (x1:Nat) (x2:FF) (x3:Int):Nat->Nat->Int->FF->(Nat->FF->Option ρ)->Option ρ
 | 0,_,_,_,_=>none
 | m+1,x4,x5,x6,k0 =>
  (bif (decide (x5<x0)) then (bif (inb x3 x1) then (bif (oH x5 (x2 x3.toNat 0).len) then (bif (Nat.ble (0+(x5.toNat-0)) 1073741824) then (bif (Nat.ble ((0+(x5.toNat-0))+1) 1073741824) then (bif (inb x3 x1) then (bif (oH x5 (x2 x3.toNat 0).len) then (bif (Nat.ble (((0+(x5.toNat-0))+1)+((x2 x3.toNat 0).len-x5.toNat)) 1073741824) then (bif (Nat.ble (x4+1) 1073741824) then (m5 u x0 x1 x2 x3 m (x4+1) (w64 (x5+1)) (aB x4 x6 (aG 1 [(.ro false (.pr (.int .i64) .nil) (((0+(x5.toNat-0))+1)+((x2 x3.toNat 0).len-x5.toNat)) (aB ((0+(x5.toNat-0))+1) (aB (0+(x5.toNat-0)) (aB 0 (aG 1 []) (x2 x3.toNat 0).el) (aG 1 [(.i .i64 (w64 (x0-1)))])) (d9 x5.toNat (x2 x3.toNat 0).el)))])) k0) else none) else none) else none) else none) else none) else none) else none) else none) else (k0 x4 x6))
theorem E4:∀ (m:Nat) (x0:Nat) (x1:Int) (x2:FF) (k0:Nat->FF->Option ρ),ob (m5 u i0 n0 f0 i1 m x0 x1 x2 k0) ng=m5 u i0 n0 f0 i1 m x0 x1 x2 (fun x3 x4=>ob (k0 x3 x4) ng)
 | 0,_,_,_,_=>rfl
 | m+1,x0,x1,x2,k0=>by
  simp only [m5,ak,aw,af,E4 m]
theorem Id:∀ (m:Nat) (x0:Nat) (x1:Int) (x2:FF),
  am (eB Av (C87 u) u) Jr m (HR x0 n0 f0 x2 i0 i1 x1) k=m5 u i0 n0 f0 i1 m x0 x1 x2 (fun x3 x4=>k (.exit 2) (HQ x3 n0 f0 x4 i0 i1))
 | 0,_,_,_=>rfl
 | m+1,x0,x1,x2=>by
  simp only [m5,<- Id m]
  kernel_rfl
def rE:St->Option St:=nN 1 (1::2::(rl 6 44 []))
def AP:St:=⟨(vxi i0::.u::.u::.x (.own 0 0 n0)::.x (.c (ro kC n1 f0))::vxi i1::(us 44 [])),[.arr kC n0 f1]⟩
def HP:St:=⟨(us 3 (.x (.own 0 0 n0)::(us 46 []))),[.arr kC n0 f0]⟩
def mZ {ρ:Type} (u:Nat) (x0:Int) (x1:Nat) (x2:FF):Nat->Nat->Int->FF->(Nat->FF->Option ρ)->Option ρ
 | 0,_,_,_,_=>none
 | m+1,x3,x4,x5,k0 =>
  (bif (decide (x4<(Int.ofNat x1))) then (m5 u x0 x1 x2 x4 u x3 0 x5
  (fun x6 x7=>(mZ u x0 x1 x2 m x6 (w64 (x4+1)) x7 k0))) else (k0 x3 x5))
theorem E0:∀ (m:Nat) (x0:Nat) (x1:Int) (x2:FF) (k0:Nat->FF->Option ρ),ob (mZ u i0 n0 f0 m x0 x1 x2 k0) ng=mZ u i0 n0 f0 m x0 x1 x2 (fun x3 x4=>ob (k0 x3 x4) ng)
 | 0,_,_,_,_=>rfl
 | m+1,x0,x1,x2,k0=>by
  simp only [mZ,ak,aw,af,E0 m,E4]
theorem QA :
  am (eB dQ (C87 u) u) rE (m+1) (AP n1 n0 f0 f1 i0 i1) k =
  (bif (decide (i1<(Int.ofNat n0))) then (am (eB Av (C87 u) u) Jr u (HR n1 n0 f0 f1 i0 i1 0) (aA 2 (aA 1 (aI (C87 u) u (6::7::(rl 20 29 [])) Au (aN (eB dQ (C87 u) u) rE m k))))) else (k (.exit 0) (HP n1 f1))):=by kernel_rfl
theorem Q7 :
  (aA 2 (aA 1 (aI (C87 u) u (6::7::(rl 20 29 [])) Au (aN (eB dQ (C87 u) u) rE m k)))) (.exit 2) (HQ n0 n1 f0 f1 i0 i1) =
  (am (eB dQ (C87 u) u) rE m (AP n0 n1 f0 f1 i0 (w64 (i1+1))) k):=by kernel_rfl
theorem Ic:∀ (m:Nat) (x0:Nat) (x1:Int) (x2:FF),
  am (eB dQ (C87 u) u) rE m (AP x0 n0 f0 x2 i0 x1) k=mZ u i0 n0 f0 m x0 x1 x2 (fun x3 x4=>k (.exit 0) (HP x3 x4))
 | 0,_,_,_=>rfl
 | m+1,x0,x1,x2=>by
  rw [QA]
  simp only [mZ,Ic m,Id,Q7]
def FV (x0:Int):Option (Nat × FF) :=
 (bif (x0==0) then (some (1,(aG 1 [(.ro true (.pr (.int .i64) .nil) 0 (fun _ _=>.any))]))) else (ob (Pz u (w64 (x0-1))) fun x1=>(mZ u x0 x1.1 x1.2 u 0 0 (fun _ _=>.any)
  (fun x2 x3=>(some (x2,x3))))))
theorem YG:aD (C87 u) u A35 [.v (vi i0)]=ob (FV u i0) fun t=>some [.v (ro kC t.1 t.2)]:=Eq.trans (b:=(bif (i0==0) then (some [.v (ro kC 1 (aG 1 [(.ro true kD 0 aR)]))]) else (ob (Pz u (w64 (i0-1))) fun x0=>(am (eB dQ (C87 u) u) rE u (AP 0 x0.1 x0.2 aR i0 0) (aA 0 (aI (C87 u) u (5::6::7::(rl 14 35 [])) JC (aH A35))))))) (by kernel_rfl) (by
 simp only [FV,ak,aw,af,aa,E0,Ic]<;>kernel_rfl)
def To:Ora:=mkO (q1 (av ci)) (fun x=>FV u x) fun t=>[.v (ro kC t.1 t.2)]
theorem YL:DO (To u) (C87 u) 35 A35:=dO u (fun x=>by exact YG u x)
def C88:ao:=(C87 u).add 35 (fun _=>true) (To u)
def Jq:St->Option St:=nN 1 (1::2::(rl 7 43 []))
def HO:St:=⟨(vxi i0::.u::.u::.x (.own 0 0 n0)::.x (.c (ro kC n1 f0))::vxi i1::vxi i2::(us 43 [])),[.arr kC n0 f1]⟩
def HN:St:=⟨(vxi i0::.u::.u::.x (.own 0 0 n0)::.x (.c (ro kC n1 f0))::vxi i1::(us 44 [])),[.arr kC n0 f1]⟩
def mW {ρ:Type} (u:Nat) (x0:Int) (x1:Nat) (x2:FF) (x3:Int):Nat->Nat->Int->FF->(Nat->FF->Option ρ)->Option ρ
 | 0,_,_,_,_=>none
 | m+1,x4,x5,x6,k0 =>
  (bif (decide (x5<x0)) then (bif (inb x3 x1) then (bif (oH x5 (x2 x3.toNat 0).len) then (bif (Nat.ble (0+(x5.toNat-0)) 1073741824) then (bif (Nat.ble ((0+(x5.toNat-0))+1) 1073741824) then (bif (inb x3 x1) then (bif (oH x5 (x2 x3.toNat 0).len) then (bif (Nat.ble (((0+(x5.toNat-0))+1)+((x2 x3.toNat 0).len-x5.toNat)) 1073741824) then (bif (Nat.ble (x4+1) 1073741824) then (mW u x0 x1 x2 x3 m (x4+1) (w64 (x5+1)) (aB x4 x6 (aG 1 [(.ro false (.pr (.int .i64) .nil) (((0+(x5.toNat-0))+1)+((x2 x3.toNat 0).len-x5.toNat)) (aB ((0+(x5.toNat-0))+1) (aB (0+(x5.toNat-0)) (aB 0 (aG 1 []) (x2 x3.toNat 0).el) (aG 1 [(.i .i64 (w64 (x0-1)))])) (d9 x5.toNat (x2 x3.toNat 0).el)))])) k0) else none) else none) else none) else none) else none) else none) else none) else none) else (k0 x4 x6))
theorem EZ:∀ (m:Nat) (x0:Nat) (x1:Int) (x2:FF) (k0:Nat->FF->Option ρ),ob (mW u i0 n0 f0 i1 m x0 x1 x2 k0) ng=mW u i0 n0 f0 i1 m x0 x1 x2 (fun x3 x4=>ob (k0 x3 x4) ng)
 | 0,_,_,_,_=>rfl
 | m+1,x0,x1,x2,k0=>by
  simp only [mW,ak,aw,af,EZ m]
theorem Ib:∀ (m:Nat) (x0:Nat) (x1:Int) (x2:FF),
  am (eB Av (C88 u) u) Jq m (HO x0 n0 f0 x2 i0 i1 x1) k=mW u i0 n0 f0 i1 m x0 x1 x2 (fun x3 x4=>k (.exit 2) (HN x3 n0 f0 x4 i0 i1))
 | 0,_,_,_=>rfl
 | m+1,x0,x1,x2=>by
  simp only [mW,<- Ib m]
  kernel_rfl
def rD:St->Option St:=nN 1 (1::2::(rl 6 44 []))
def AO:St:=⟨(vxi i0::.u::.u::.x (.own 0 0 n0)::.x (.c (ro kC n1 f0))::vxi i1::(us 44 [])),[.arr kC n0 f1]⟩
def HM:St:=⟨(us 3 (.x (.own 0 0 n0)::(us 46 []))),[.arr kC n0 f0]⟩
def mV {ρ:Type} (u:Nat) (x0:Int) (x1:Nat) (x2:FF):Nat->Nat->Int->FF->(Nat->FF->Option ρ)->Option ρ
 | 0,_,_,_,_=>none
 | m+1,x3,x4,x5,k0 =>
  (bif (decide (x4<(Int.ofNat x1))) then (mW u x0 x1 x2 x4 u x3 0 x5
  (fun x6 x7=>(mV u x0 x1 x2 m x6 (w64 (x4+1)) x7 k0))) else (k0 x3 x5))
theorem EX:∀ (m:Nat) (x0:Nat) (x1:Int) (x2:FF) (k0:Nat->FF->Option ρ),ob (mV u i0 n0 f0 m x0 x1 x2 k0) ng=mV u i0 n0 f0 m x0 x1 x2 (fun x3 x4=>ob (k0 x3 x4) ng)
 | 0,_,_,_,_=>rfl
 | m+1,x0,x1,x2,k0=>by
  simp only [mV,ak,aw,af,EX m,EZ]
theorem Qz :
  am (eB dQ (C88 u) u) rD (m+1) (AO n1 n0 f0 f1 i0 i1) k =
  (bif (decide (i1<(Int.ofNat n0))) then (am (eB Av (C88 u) u) Jq u (HO n1 n0 f0 f1 i0 i1 0) (aA 2 (aA 1 (aI (C88 u) u (6::7::(rl 20 29 [])) Au (aN (eB dQ (C88 u) u) rD m k))))) else (k (.exit 0) (HM n1 f1))):=by kernel_rfl
theorem Q6 :
  (aA 2 (aA 1 (aI (C88 u) u (6::7::(rl 20 29 [])) Au (aN (eB dQ (C88 u) u) rD m k)))) (.exit 2) (HN n0 n1 f0 f1 i0 i1) =
  (am (eB dQ (C88 u) u) rD m (AO n0 n1 f0 f1 i0 (w64 (i1+1))) k):=by kernel_rfl
theorem Ia:∀ (m:Nat) (x0:Nat) (x1:Int) (x2:FF),
  am (eB dQ (C88 u) u) rD m (AO x0 n0 f0 x2 i0 x1) k=mV u i0 n0 f0 m x0 x1 x2 (fun x3 x4=>k (.exit 0) (HM x3 x4))
 | 0,_,_,_=>rfl
 | m+1,x0,x1,x2=>by
  rw [Qz]
  simp only [mV,Ia m,Ib,Q6]
def FU (x0:Int):Option (Nat × FF) :=
 (bif (x0==0) then (some (1,(aG 1 [(.ro true (.pr (.int .i64) .nil) 0 (fun _ _=>.any))]))) else (ob (FV u (w64 (x0-1))) fun x1=>(mV u x0 x1.1 x1.2 u 0 0 (fun _ _=>.any)
  (fun x2 x3=>(some (x2,x3))))))
theorem YF:aD (C88 u) u A35 [.v (vi i0)]=ob (FU u i0) fun t=>some [.v (ro kC t.1 t.2)]:=Eq.trans (b:=(bif (i0==0) then (some [.v (ro kC 1 (aG 1 [(.ro true kD 0 aR)]))]) else (ob (FV u (w64 (i0-1))) fun x0=>(am (eB dQ (C88 u) u) rD u (AO 0 x0.1 x0.2 aR i0 0) (aA 0 (aI (C88 u) u (5::6::7::(rl 14 35 [])) JC (aH A35))))))) (by kernel_rfl) (by
 simp only [FU,ak,aw,af,aa,EX,Ia]<;>kernel_rfl)
def Tn:Ora:=mkO (q1 (av ci)) (fun x=>FU u x) fun t=>[.v (ro kC t.1 t.2)]
theorem YK:DO (Tn u) (C88 u) 35 A35:=dO u (fun x=>by exact YF u x)
def C89:ao:=(C88 u).add 35 (fun _=>true) (Tn u)
def Jp:St->Option St:=nN 1 (1::2::(rl 7 43 []))
def HL:St:=⟨(vxi i0::.u::.u::.x (.own 0 0 n0)::.x (.c (ro kC n1 f0))::vxi i1::vxi i2::(us 43 [])),[.arr kC n0 f1]⟩
def HK:St:=⟨(vxi i0::.u::.u::.x (.own 0 0 n0)::.x (.c (ro kC n1 f0))::vxi i1::(us 44 [])),[.arr kC n0 f1]⟩
def mU {ρ:Type} (u:Nat) (x0:Int) (x1:Nat) (x2:FF) (x3:Int):Nat->Nat->Int->FF->(Nat->FF->Option ρ)->Option ρ
 | 0,_,_,_,_=>none
 | m+1,x4,x5,x6,k0 =>
  (bif (decide (x5<x0)) then (bif (inb x3 x1) then (bif (oH x5 (x2 x3.toNat 0).len) then (bif (Nat.ble (0+(x5.toNat-0)) 1073741824) then (bif (Nat.ble ((0+(x5.toNat-0))+1) 1073741824) then (bif (inb x3 x1) then (bif (oH x5 (x2 x3.toNat 0).len) then (bif (Nat.ble (((0+(x5.toNat-0))+1)+((x2 x3.toNat 0).len-x5.toNat)) 1073741824) then (bif (Nat.ble (x4+1) 1073741824) then (mU u x0 x1 x2 x3 m (x4+1) (w64 (x5+1)) (aB x4 x6 (aG 1 [(.ro false (.pr (.int .i64) .nil) (((0+(x5.toNat-0))+1)+((x2 x3.toNat 0).len-x5.toNat)) (aB ((0+(x5.toNat-0))+1) (aB (0+(x5.toNat-0)) (aB 0 (aG 1 []) (x2 x3.toNat 0).el) (aG 1 [(.i .i64 (w64 (x0-1)))])) (d9 x5.toNat (x2 x3.toNat 0).el)))])) k0) else none) else none) else none) else none) else none) else none) else none) else none) else (k0 x4 x6))
theorem EW:∀ (m:Nat) (x0:Nat) (x1:Int) (x2:FF) (k0:Nat->FF->Option ρ),ob (mU u i0 n0 f0 i1 m x0 x1 x2 k0) ng=mU u i0 n0 f0 i1 m x0 x1 x2 (fun x3 x4=>ob (k0 x3 x4) ng)
 | 0,_,_,_,_=>rfl
 | m+1,x0,x1,x2,k0=>by
  simp only [mU,ak,aw,af,EW m]
theorem H9:∀ (m:Nat) (x0:Nat) (x1:Int) (x2:FF),
  am (eB Av (C89 u) u) Jp m (HL x0 n0 f0 x2 i0 i1 x1) k=mU u i0 n0 f0 i1 m x0 x1 x2 (fun x3 x4=>k (.exit 2) (HK x3 n0 f0 x4 i0 i1))
 | 0,_,_,_=>rfl
 | m+1,x0,x1,x2=>by
  simp only [mU,<- H9 m]
  kernel_rfl
def rC:St->Option St:=nN 1 (1::2::(rl 6 44 []))
def AN:St:=⟨(vxi i0::.u::.u::.x (.own 0 0 n0)::.x (.c (ro kC n1 f0))::vxi i1::(us 44 [])),[.arr kC n0 f1]⟩
def HJ:St:=⟨(us 3 (.x (.own 0 0 n0)::(us 46 []))),[.arr kC n0 f0]⟩
def mT {ρ:Type} (u:Nat) (x0:Int) (x1:Nat) (x2:FF):Nat->Nat->Int->FF->(Nat->FF->Option ρ)->Option ρ
 | 0,_,_,_,_=>none
 | m+1,x3,x4,x5,k0 =>
  (bif (decide (x4<(Int.ofNat x1))) then (mU u x0 x1 x2 x4 u x3 0 x5
  (fun x6 x7=>(mT u x0 x1 x2 m x6 (w64 (x4+1)) x7 k0))) else (k0 x3 x5))
theorem EU:∀ (m:Nat) (x0:Nat) (x1:Int) (x2:FF) (k0:Nat->FF->Option ρ),ob (mT u i0 n0 f0 m x0 x1 x2 k0) ng=mT u i0 n0 f0 m x0 x1 x2 (fun x3 x4=>ob (k0 x3 x4) ng)
 | 0,_,_,_,_=>rfl
 | m+1,x0,x1,x2,k0=>by
  simp only [mT,ak,aw,af,EU m,EW]
theorem Qy :
  am (eB dQ (C89 u) u) rC (m+1) (AN n1 n0 f0 f1 i0 i1) k =
  (bif (decide (i1<(Int.ofNat n0))) then (am (eB Av (C89 u) u) Jp u (HL n1 n0 f0 f1 i0 i1 0) (aA 2 (aA 1 (aI (C89 u) u (6::7::(rl 20 29 [])) Au (aN (eB dQ (C89 u) u) rC m k))))) else (k (.exit 0) (HJ n1 f1))):=by kernel_rfl
theorem Q5 :
  (aA 2 (aA 1 (aI (C89 u) u (6::7::(rl 20 29 [])) Au (aN (eB dQ (C89 u) u) rC m k)))) (.exit 2) (HK n0 n1 f0 f1 i0 i1) =
  (am (eB dQ (C89 u) u) rC m (AN n0 n1 f0 f1 i0 (w64 (i1+1))) k):=by kernel_rfl
theorem H8:∀ (m:Nat) (x0:Nat) (x1:Int) (x2:FF),
  am (eB dQ (C89 u) u) rC m (AN x0 n0 f0 x2 i0 x1) k=mT u i0 n0 f0 m x0 x1 x2 (fun x3 x4=>k (.exit 0) (HJ x3 x4))
 | 0,_,_,_=>rfl
 | m+1,x0,x1,x2=>by
  rw [Qy]
  simp only [mT,H8 m,H9,Q5]
def FT (x0:Int):Option (Nat × FF) :=
 (bif (x0==0) then (some (1,(aG 1 [(.ro true (.pr (.int .i64) .nil) 0 (fun _ _=>.any))]))) else (ob (FU u (w64 (x0-1))) fun x1=>(mT u x0 x1.1 x1.2 u 0 0 (fun _ _=>.any)
  (fun x2 x3=>(some (x2,x3))))))
theorem YE:aD (C89 u) u A35 [.v (vi i0)]=ob (FT u i0) fun t=>some [.v (ro kC t.1 t.2)]:=Eq.trans (b:=(bif (i0==0) then (some [.v (ro kC 1 (aG 1 [(.ro true kD 0 aR)]))]) else (ob (FU u (w64 (i0-1))) fun x0=>(am (eB dQ (C89 u) u) rC u (AN 0 x0.1 x0.2 aR i0 0) (aA 0 (aI (C89 u) u (5::6::7::(rl 14 35 [])) JC (aH A35))))))) (by kernel_rfl) (by
 simp only [FT,ak,aw,af,aa,EU,H8]<;>kernel_rfl)
def Tm:Ora:=mkO (q1 (av ci)) (fun x=>FT u x) fun t=>[.v (ro kC t.1 t.2)]
theorem YJ:DO (Tm u) (C89 u) 35 A35:=dO u (fun x=>by exact YE u x)
def C90:ao:=(C89 u).add 35 (fun _=>true) (Tm u)
def Jo:St->Option St:=nN 1 (1::2::(rl 7 43 []))
def HI:St:=⟨(vxi i0::.u::.u::.x (.own 0 0 n0)::.x (.c (ro kC n1 f0))::vxi i1::vxi i2::(us 43 [])),[.arr kC n0 f1]⟩
def HH:St:=⟨(vxi i0::.u::.u::.x (.own 0 0 n0)::.x (.c (ro kC n1 f0))::vxi i1::(us 44 [])),[.arr kC n0 f1]⟩
def mS {ρ:Type} (u:Nat) (x0:Int) (x1:Nat) (x2:FF) (x3:Int):Nat->Nat->Int->FF->(Nat->FF->Option ρ)->Option ρ
 | 0,_,_,_,_=>none
 | m+1,x4,x5,x6,k0 =>
  (bif (decide (x5<x0)) then (bif (inb x3 x1) then (bif (oH x5 (x2 x3.toNat 0).len) then (bif (Nat.ble (0+(x5.toNat-0)) 1073741824) then (bif (Nat.ble ((0+(x5.toNat-0))+1) 1073741824) then (bif (inb x3 x1) then (bif (oH x5 (x2 x3.toNat 0).len) then (bif (Nat.ble (((0+(x5.toNat-0))+1)+((x2 x3.toNat 0).len-x5.toNat)) 1073741824) then (bif (Nat.ble (x4+1) 1073741824) then (mS u x0 x1 x2 x3 m (x4+1) (w64 (x5+1)) (aB x4 x6 (aG 1 [(.ro false (.pr (.int .i64) .nil) (((0+(x5.toNat-0))+1)+((x2 x3.toNat 0).len-x5.toNat)) (aB ((0+(x5.toNat-0))+1) (aB (0+(x5.toNat-0)) (aB 0 (aG 1 []) (x2 x3.toNat 0).el) (aG 1 [(.i .i64 (w64 (x0-1)))])) (d9 x5.toNat (x2 x3.toNat 0).el)))])) k0) else none) else none) else none) else none) else none) else none) else none) else none) else (k0 x4 x6))
theorem ET:∀ (m:Nat) (x0:Nat) (x1:Int) (x2:FF) (k0:Nat->FF->Option ρ),ob (mS u i0 n0 f0 i1 m x0 x1 x2 k0) ng=mS u i0 n0 f0 i1 m x0 x1 x2 (fun x3 x4=>ob (k0 x3 x4) ng)
 | 0,_,_,_,_=>rfl
 | m+1,x0,x1,x2,k0=>by
  simp only [mS,ak,aw,af,ET m]
theorem H7:∀ (m:Nat) (x0:Nat) (x1:Int) (x2:FF),
  am (eB Av (C90 u) u) Jo m (HI x0 n0 f0 x2 i0 i1 x1) k=mS u i0 n0 f0 i1 m x0 x1 x2 (fun x3 x4=>k (.exit 2) (HH x3 n0 f0 x4 i0 i1))
 | 0,_,_,_=>rfl
 | m+1,x0,x1,x2=>by
  simp only [mS,<- H7 m]
  kernel_rfl
def rB:St->Option St:=nN 1 (1::2::(rl 6 44 []))
def AM:St:=⟨(vxi i0::.u::.u::.x (.own 0 0 n0)::.x (.c (ro kC n1 f0))::vxi i1::(us 44 [])),[.arr kC n0 f1]⟩
def HG:St:=⟨(us 3 (.x (.own 0 0 n0)::(us 46 []))),[.arr kC n0 f0]⟩
def mR {ρ:Type} (u:Nat) (x0:Int) (x1:Nat) (x2:FF):Nat->Nat->Int->FF->(Nat->FF->Option ρ)->Option ρ
 | 0,_,_,_,_=>none
 | m+1,x3,x4,x5,k0 =>
  (bif (decide (x4<(Int.ofNat x1))) then (mS u x0 x1 x2 x4 u x3 0 x5
  (fun x6 x7=>(mR u x0 x1 x2 m x6 (w64 (x4+1)) x7 k0))) else (k0 x3 x5))
theorem ES:∀ (m:Nat) (x0:Nat) (x1:Int) (x2:FF) (k0:Nat->FF->Option ρ),ob (mR u i0 n0 f0 m x0 x1 x2 k0) ng=mR u i0 n0 f0 m x0 x1 x2 (fun x3 x4=>ob (k0 x3 x4) ng)
 | 0,_,_,_,_=>rfl
 | m+1,x0,x1,x2,k0=>by
  simp only [mR,ak,aw,af,ES m,ET]
theorem Qx :
  am (eB dQ (C90 u) u) rB (m+1) (AM n1 n0 f0 f1 i0 i1) k =
  (bif (decide (i1<(Int.ofNat n0))) then (am (eB Av (C90 u) u) Jo u (HI n1 n0 f0 f1 i0 i1 0) (aA 2 (aA 1 (aI (C90 u) u (6::7::(rl 20 29 [])) Au (aN (eB dQ (C90 u) u) rB m k))))) else (k (.exit 0) (HG n1 f1))):=by kernel_rfl
theorem Q4 :
  (aA 2 (aA 1 (aI (C90 u) u (6::7::(rl 20 29 [])) Au (aN (eB dQ (C90 u) u) rB m k)))) (.exit 2) (HH n0 n1 f0 f1 i0 i1) =
  (am (eB dQ (C90 u) u) rB m (AM n0 n1 f0 f1 i0 (w64 (i1+1))) k):=by kernel_rfl
theorem H6:∀ (m:Nat) (x0:Nat) (x1:Int) (x2:FF),
  am (eB dQ (C90 u) u) rB m (AM x0 n0 f0 x2 i0 x1) k=mR u i0 n0 f0 m x0 x1 x2 (fun x3 x4=>k (.exit 0) (HG x3 x4))
 | 0,_,_,_=>rfl
 | m+1,x0,x1,x2=>by
  rw [Qx]
  simp only [mR,H6 m,H7,Q4]
def At (x0:Int):Option (Nat × FF) :=
 (bif (x0==0) then (some (1,(aG 1 [(.ro true (.pr (.int .i64) .nil) 0 (fun _ _=>.any))]))) else (ob (FT u (w64 (x0-1))) fun x1=>(mR u x0 x1.1 x1.2 u 0 0 (fun _ _=>.any)
  (fun x2 x3=>(some (x2,x3))))))
theorem YD:aD (C90 u) u A35 [.v (vi i0)]=ob (At u i0) fun t=>some [.v (ro kC t.1 t.2)]:=Eq.trans (b:=(bif (i0==0) then (some [.v (ro kC 1 (aG 1 [(.ro true kD 0 aR)]))]) else (ob (FT u (w64 (i0-1))) fun x0=>(am (eB dQ (C90 u) u) rB u (AM 0 x0.1 x0.2 aR i0 0) (aA 0 (aI (C90 u) u (5::6::7::(rl 14 35 [])) JC (aH A35))))))) (by kernel_rfl) (by
 simp only [At,ak,aw,af,aa,ES,H6]<;>kernel_rfl)
def Tl:Ora:=mkO (q1 (av ci)) (fun x=>At u x) fun t=>[.v (ro kC t.1 t.2)]
theorem YH:DO (Tl u) (C90 u) 35 A35:=dO u (fun x=>by exact YD u x)
def C91:ao:=(C90 u).add 35 (fun _=>true) (Tl u)
def ZT:AC:=(.seq (.block 1
 (.region 5 [mv 14 3,mv 15 0,mv 16 4,o1 17 (.indexAddr 79 3 1 (tm 15) (tm 16)),o1 18 (lo 3 17),mv 19 4,o1 20 (.indexAddr 79 3 1 (tm 14) (tm 18)),o0 (.store 3 1 (tm 20) (tm 19))] 0 none)) []
 (.region 4 [mv 12 4,o1 13 (bk .add 3 12 1),o1 4 (sg 13)] 0 none))
def PN:AC:=(.seq (.seq (.region 3 [mv 8 4,mv 9 0,o1 10 (.len 79 false (tm 9)),o1 11 (bt .lss 3 8 10)] 0 none) []
 (.cond (tm 11)
 .skip
 (.exit 0 (0::1::2::(rl 4 18 []))))) (rl 8 4 [])
 ZT)
def Uc:AC:=(.seq (.region 6 [mv 21 3,o1 2 (sg 21)] 0 none) []
 (.ret (0::1::(rl 3 19 []))))
def A59:AF:=⟨22,[.tmp 2],
 (.seq (.region 0 [o1 2 (.assign (.const (.slice none 0 0)))] 0 none) []
 (.seq (.region 1 [mv 5 0,o1 6 (.len 79 false (tm 5)),o1 7 (.makeSlice 0 79 3 kD 8 [(vi 0)] (tm 6) (tm 6)),o1 3 (sg 7)] 1 none) []
 (.seq (.seq (.region 2 [o1 4 (sk 0)] 0 none) []
 (.block 0
 (.loop [] (1::2::(rl 5 17 []))
  PN))) (4::(rl 8 13 []))
 Uc)))⟩
def O1:St->Option St:=nN 1 (1::2::(rl 5 17 []))
def Ly:St:=⟨(.x (.c (ro kD n0 f0))::.u::.u::.x (.own 0 0 n1)::vxi i0::(us 17 [])),[.arr kD n1 f1]⟩
def Vk:St:=⟨(us 3 (.x (.own 0 0 n0)::(us 18 []))),[.arr kD n0 f0]⟩
def s5 {ρ:Type} (u:Nat) (x0:Nat) (x1:FF) (x2:Nat):Nat->Int->FF->(FF->Option ρ)->Option ρ
 | 0,_,_,_=>none
 | m+1,x3,x4,k0 =>
  (bif (decide (x3<(Int.ofNat x0))) then (bif (inb x3 x0) then (bif (inb (x1 x3.toNat 0).int x2) then (s5 u x0 x1 x2 m (w64 (x3+1)) (cm x4 (0+(Int.toNat (x1 x3.toNat 0).int)) 0 1 (au [(.i .i64 x3)])) k0) else none) else none) else (k0 x4))
theorem Ip:∀ (m:Nat) (x0:Int) (x1:FF) (k0:FF->Option ρ),ob (s5 u n0 f0 n1 m x0 x1 k0) ng=s5 u n0 f0 n1 m x0 x1 (fun x2=>ob (k0 x2) ng)
 | 0,_,_,_=>rfl
 | m+1,x0,x1,k0=>by
  simp only [s5,ak,aw,af,Ip m]
theorem Mo:∀ (m:Nat) (x0:Int) (x1:FF),
  am (eB PN (C91 u) u) O1 m (Ly n0 n1 f0 x1 x0) k=s5 u n0 f0 n1 m x0 x1 (fun x2=>k (.exit 0) (Vk n1 x2))
 | 0,_,_=>rfl
 | m+1,x0,x1=>by
  simp only [s5,<- Mo m]
  kernel_rfl
def AG (x0:Nat) (x1:FF):Option (Nat × FF) :=
 (bif (decide (0<=(Int.ofNat x0))&&decide ((Int.ofNat x0)<=(Int.ofNat x0))&&decide ((Int.ofNat x0)<=1073741824)&&true) then (s5 u x0 x1 (Int.toNat (Int.ofNat x0)) u 0 (fun _ j=>au [(.i .i64 0)] j)
  (fun x2=>(some ((Int.toNat (Int.ofNat x0)),x2)))) else none)
theorem aa3:aD (C91 u) u A59 [.v (ro kD n0 f0)]=ob (AG u n0 f0) fun t=>some [.v (ro kD t.1 t.2)]:=Eq.trans (b:=(bif (decide (0<=(Int.ofNat n0))&&decide ((Int.ofNat n0)<=(Int.ofNat n0))&&decide ((Int.ofNat n0)<=1073741824)&&true) then (am (eB PN (C91 u) u) O1 u (Ly n0 (Int.toNat (Int.ofNat n0)) f0 (fun _ j=>au [(vi 0)] j) 0) (aA 0 (aI (C91 u) u (4::(rl 8 13 [])) Uc (aH A59)))) else none)) (by kernel_rfl) (by
 simp only [AG,ak,aw,af,aa,Ip,Mo]<;>kernel_rfl)
def YW:Ora:=mkO (q1 (av (cL kD))) (fun x=>AG u x.1 x.2) fun t=>[.v (ro kD t.1 t.2)]
theorem abG:DO (YW u) (C91 u) 59 A59:=dO u (fun x=>by exact aa3 u x.1 x.2)
def C92:ao:=(C91 u).add 59 (fun _=>true) (YW u)
end Go.Eng.R13
