/-
 The functions of the program,run on symbols;printed by decomp.py.
-/
import Derived.Test.YtkknnlhhchielaaGreatDoorDecT1
import Derived.Test.YtkknnlhhchielaaGreatDoorEngAn
import Derived.Test.YtkknnlhhchielaaGreatDoorProg
set_option linter.all false
set_option maxRecDepth 1000000
set_option maxHeartbeats 4000000
namespace Go.Eng.R13
open Go Go.RowKit Go.Eng
open Go.Proofs
variable {ρ σ : Type} (u m : Nat) (k : Ex -> St -> Option ρ) (ng : ρ -> Option σ) (n0 n1 n2 n3 n4 n5 n6 : Nat) (f0 f1 f2 f3 f4 f5 f6 : FF) (i0 i1 i2 i3 i4 i5 i6 i7 i8 i9 iA iB iC iD iE iF iG iH iI iJ iK iL iM : Int) (b0 b1 : Bool) (w0 w1 w2 w3 w4 w5 w6 w7 w8 : ByteArray) (g0 g1 : Nat -> CV)
def B49:An tT Tryz.f49 [.k (6::(rl 12 16 [])),.k (rl 0 6 (rl 7 58 [])),.k (6::(rl 28 16 [])),.k (rl 0 6 (rl 7 58 [])),.k (6::9::11::(rl 45 20 [])),.h [],.k (rl 0 4 (5::6::(rl 8 38 (rl 49 16 [])))),.k [],.k (rl 0 65 []),.k (6::9::11::(rl 50 14 [])),.h [],.k (rl 0 4 (5::6::8::(rl 10 36 (rl 49 4 (rl 56 9 []))))),.k [],.k (rl 0 4 (5::6::(rl 8 38 (rl 49 16 [])))),.k (6::11::(rl 57 6 [])),.k (rl 0 6 (rl 7 58 [])),.k (rl 0 6 (rl 7 58 []))]:=by
 apply Subtype.mk;cbv<;>exact rfl
def A49:AF:=B49.1
def Z5:AC:=sA A49.body [1,1]
def Ub:AC:=sA Z5 [1]
def Z6:AC:=sA Ub [1,1]
def Cb:AC:=sA Ub [1,0,1,0,0]
def Uc:AC:=sA Cb [1,1]
def Ud:AC:=sA Uc [1]
def Ue:AC:=sA Uc [0,0,1,1,0,0]
def TA:St->Option St:=nN 3 (rl 0 4 (5::6::8::(rl 10 36 (rl 49 4 (rl 56 9 [])))))
def RP:St:=⟨(us 4 (.x (.ptr 1 0)::.u::.u::.x (.fn 78 [.ptr 2 0])::.u::.x (.c (ro kP n0 f0))::(us 36 (.x (.c (ro kF n1 f1))::vxi i0::vxi i1::(us 4 (.x (.c (ro kF n2 f2))::vxi i2::vxi i3::(us 9 []))))))),[.box [(.c (ro kP n3 f3)),(.c (ro kF n4 f4))],.box [(.c (ro kP n5 f5)),(.c (ro kF n6 f6))],.box [(vci i4)]]⟩
def XP:St:=⟨(us 6 (vxb false::(us 58 []))),[.box [(.c (ro kP n0 f0)),(.c (ro kF n1 f1))],.box [(.c (ro kP n2 f2)),(.c (ro kF n3 f3))],.box [(vci i0)]]⟩
def RO:St:=⟨(us 4 (.x (.ptr 1 0)::.u::.u::.x (.fn 78 [.ptr 2 0])::(us 38 (.x (.c (ro kF n0 f0))::vxi i0::vxi i1::(us 16 []))))),[.box [(.c (ro kP n1 f1)),(.c (ro kF n2 f2))],.box [(.c (ro kP n3 f3)),(.c (ro kF n4 f4))],.box [(vci i2)]]⟩
def sn {ρ:Type} (u:Nat) (x0:Nat) (x1:FF) (x2:Nat) (x3:FF) (x4 x5:Int) (x6:Nat) (x7:FF) (x8:Int) (x9:Nat) (xA:FF) (xB:Nat) (xC:FF) (xD:Nat) (xE:FF) (xF:Nat) (xG:FF) (xH:Int):Nat->Int->(Option ρ)->(Option ρ)->Option ρ
 | 0,_,_,_=>none
 | m+1,xI,k0,k1 =>
  (bif (decide (xI<x8)) then (bif (inb xI x6) then (ob (Kn u x0 x1 (x7 xI.toNat 0).len (x7 xI.toNat 0).el (aw [(.i .i64 xH)])) fun xJ=>(bif xJ then k0 else (sn u x0 x1 x2 x3 x4 x5 x6 x7 x8 x9 xA xB xC xD xE xF xG xH m (w64 (xI+1)) k0 k1))) else none) else k1)
theorem Nn:∀ (m:Nat) (x0:Int) (k0:Option ρ) (k1:Option ρ),ob (sn u n0 f0 n1 f1 i0 i1 n2 f2 i2 n3 f3 n4 f4 n5 f5 n6 f6 i3 m x0 k0 k1) ng=sn u n0 f0 n1 f1 i0 i1 n2 f2 i2 n3 f3 n4 f4 n5 f5 n6 f6 i3 m x0 (ob k0 ng) (ob k1 ng)
 | 0,_,_,_=>rfl
 | m+1,x0,k0,k1=>by
  simp only [sn,ak,au,ai,Nn m]
theorem SJ:∀ (m:Nat) (x0:Int),
  aq (eB Ue (C96 u) u) TA m (RP n0 n1 n2 n3 n4 n5 n6 f0 f1 f2 f3 f4 f5 f6 i0 i1 i2 x0 i3) k=sn u n0 f0 n1 f1 i0 i1 n2 f2 i2 n3 f3 n4 f4 n5 f5 n6 f6 i3 m x0 (k .ret (XP n3 n4 n5 n6 f3 f4 f5 f6 i3)) (k (.exit 2) (RO n1 n3 n4 n5 n6 f1 f3 f4 f5 f6 i0 i1 i3))
 | 0,_=>rfl
 | m+1,x0=>by
  simp only [sn,<- SJ m]
  kernel_rfl
def Dj:St->Option St:=nN 3 (rl 0 4 (5::6::(rl 8 38 (rl 49 16 []))))
def HD:St:=⟨(us 4 (.x (.ptr 1 0)::.u::.u::.x (.fn 78 [.ptr 2 0])::(us 38 (.x (.c (ro kF n0 f0))::vxi i0::vxi i1::(us 16 []))))),[.box [(.c (ro kP n1 f1)),(.c (ro kF n2 f2))],.box [(.c (ro kP n3 f3)),(.c (ro kF n4 f4))],.box [(vci i2)]]⟩
def XO:St:=⟨(us 6 (vxb false::(us 58 []))),[.box [(.c (ro kP n0 f0)),(.c (ro kF n1 f1))],.box [(.c (ro kP n2 f2)),(.c (ro kF n3 f3))],.box [(vci i0)]]⟩
def RN:St:=⟨(us 65 []),[.box [(.c (ro kP n0 f0)),(.c (ro kF n1 f1))],.box [(.c (ro kP n2 f2)),(.c (ro kF n3 f3))],.box [(vci i0)]]⟩
def sj {ρ:Type} (u:Nat) (x0:Nat) (x1:FF) (x2:Int) (x3:Nat) (x4:FF) (x5:Nat) (x6:FF) (x7:Nat) (x8:FF) (x9:Nat) (xA:FF) (xB:Int):Nat->Int->(Option ρ)->(Option ρ)->Option ρ
 | 0,_,_,_=>none
 | m+1,xC,k0,k1 =>
  (bif (decide (xC<x2)) then (bif (inb xC x0) then (ob (F42 u x7 x8 x9 xA) fun xD=>(sn u (x1 xC.toNat 0).len (x1 xC.toNat 0).el x0 x1 x2 xC xD.1 xD.2 (Int.ofNat xD.1) x3 x4 x5 x6 x7 x8 x9 xA xB u 0
  k0
  (sj u x0 x1 x2 x3 x4 x5 x6 x7 x8 x9 xA xB m (w64 (xC+1)) k0 k1))) else none) else k1)
theorem Nm:∀ (m:Nat) (x0:Int) (k0:Option ρ) (k1:Option ρ),ob (sj u n0 f0 i0 n1 f1 n2 f2 n3 f3 n4 f4 i1 m x0 k0 k1) ng=sj u n0 f0 i0 n1 f1 n2 f2 n3 f3 n4 f4 i1 m x0 (ob k0 ng) (ob k1 ng)
 | 0,_,_,_=>rfl
 | m+1,x0,k0,k1=>by
  simp only [sj,ak,au,ai,Nm m,Nn]
theorem Ya :
  aq (eB Cb (C96 u) u) Dj (m+1) (HD n0 n1 n2 n3 n4 f0 f1 f2 f3 f4 i0 i2 i1) k =
  (bif (decide (i2<i0)) then (bif (inb i2 n0) then (ob (F42 u n3 f3 n4 f4) fun x0=>(aq (eB Ue (C96 u) u) TA u (RP (f0 i2.toNat 0).len n0 x0.1 n1 n2 n3 n4 (f0 i2.toNat 0).el f0 x0.2 f1 f2 f3 f4 i0 i2 (Int.ofNat x0.1) 0 i1) (aD 2 (aD 1 (aJ (C96 u) u (6::9::11::(rl 50 14 [])) Ud (aS (eB Cb (C96 u) u) Dj m k)))))) else none) else (k (.exit 0) (RN n1 n2 n3 n4 f1 f2 f3 f4 i1))):=by kernel_rfl
theorem YC :
  (aD 2 (aD 1 (aJ (C96 u) u (6::9::11::(rl 50 14 [])) Ud (aS (eB Cb (C96 u) u) Dj m k)))) (.exit 2) (RO n0 n1 n2 n3 n4 f0 f1 f2 f3 f4 i0 i1 i2) =
  (aq (eB Cb (C96 u) u) Dj m (HD n0 n1 n2 n3 n4 f0 f1 f2 f3 f4 i0 (w64 (i1+1)) i2) k):=by kernel_rfl
theorem SI:∀ (m:Nat) (x0:Int),
  aq (eB Cb (C96 u) u) Dj m (HD n0 n1 n2 n3 n4 f0 f1 f2 f3 f4 i0 x0 i1) k=sj u n0 f0 i0 n1 f1 n2 f2 n3 f3 n4 f4 i1 m x0 (k .ret (XO n1 n2 n3 n4 f1 f2 f3 f4 i1)) (k (.exit 0) (RN n1 n2 n3 n4 f1 f2 f3 f4 i1))
 | 0,_=>rfl
 | m+1,x0=>by
  rw [Ya]
  simp only [sj,SI m,SJ,YC]<;>kernel_rfl
def F27 (x0:Nat) (x1:FF) (x2:Nat) (x3:FF) (x4:Nat) (x5:FF) (x6:Nat) (x7:FF) (x8:Int):Option (Bool) :=
 (bif ((decide (x8<0))==false) then (bif ((decide (x8>1000))==false) then (ob (F13 u x0 x1 x2 x3) fun x9=>(bif ((x9 != 0)==false) then (ob (F13 u x4 x5 x6 x7) fun xA=>(bif (xA != 0) then (some false) else (bif (inb 0 x4) then (ob (F47 u x0 x1 x2 x3 (x5 0 0).int (x5 0 1).int) fun xB=>(bif ((decide (xB>=0))==false) then (bif (inb 0 x0) then (ob (F47 u x4 x5 x6 x7 (x1 0 0).int (x1 0 1).int) fun xC=>(bif (decide (xC>=0)) then (some false) else (ob (F42 u x0 x1 x2 x3) fun xD=>(sj u xD.1 xD.2 (Int.ofNat xD.1) x0 x1 x2 x3 x4 x5 x6 x7 x8 u 0
  (some false)
  (some true))))) else none) else (some false))) else none))) else (some false))) else (some false)) else (some false))
theorem e27:aB (C96 u) u A49 [.agg [(ro kP n0 f0),(ro kF n1 f1)],.agg [(ro kP n2 f2),(ro kF n3 f3)],.v (vi i0)]=ob (F27 u n0 f0 n1 f1 n2 f2 n3 f3 i0) fun t=>some [.v (.b t)]:=Eq.trans (b:=(bif ((decide (i0<0))==false) then (bif ((decide (i0>1000))==false) then (ob (F13 u n0 f0 n1 f1) fun x0=>(bif ((x0 != 0)==false) then (ob (F13 u n2 f2 n3 f3) fun x1=>(bif (x1 != 0) then (some [.v (.b false)]) else (bif (inb 0 n2) then (ob (F47 u n0 f0 n1 f1 (f2 0 0).int (f2 0 1).int) fun x2=>(bif ((decide (x2>=0))==false) then (bif (inb 0 n0) then (ob (F47 u n2 f2 n3 f3 (f0 0 0).int (f0 0 1).int) fun x3=>(bif (decide (x3>=0)) then (some [.v (.b false)]) else (ob (F42 u n0 f0 n1 f1) fun x4=>(aq (eB Cb (C96 u) u) Dj u (HD x4.1 n0 n1 n2 n3 x4.2 f0 f1 f2 f3 (Int.ofNat x4.1) 0 i0) (aD 0 (aJ (C96 u) u (6::9::11::(rl 45 20 [])) Z6 (aG A49))))))) else none) else (some [.v (.b false)]))) else none))) else (some [.v (.b false)]))) else (some [.v (.b false)])) else (some [.v (.b false)]))) (by kernel_rfl) (by
 simp only [F27,ak,au,ai,aa,Nm,SI]<;>kernel_rfl)
def O27:Ora:=mkO (qc (ag (tc (cL kP) (t1 (cL kF)))) (qc (ag (tc (cL kP) (t1 (cL kF)))) (q1 (av ci)))) (fun x=>F27 u x.1.1.1 x.1.1.2 x.1.2.1 x.1.2.2 x.2.1.1.1 x.2.1.1.2 x.2.1.2.1 x.2.1.2.2 x.2.2) fun t=>[.v (.b t)]
theorem d27:DO (O27 u) (C96 u) 49 A49:=dO u (fun x=>by exact e27 u x.1.1.1 x.1.2.1 x.2.1.1.1 x.2.1.2.1 x.1.1.2 x.1.2.2 x.2.1.1.2 x.2.1.2.2 x.2.2)
def C97:am:=(C96 u).add 49 (fun _=>true) (O27 u)
def B16:An tT Tryz.f16 [.k (rl 17 19 []),.g [0,1],.k (rl 0 6 (rl 7 120 [])),.g [0,1],.k (rl 0 6 (rl 7 120 [])),.g [0,1],.k (rl 0 6 (rl 7 120 [])),.k (rl 7 5 (13::14::16::(rl 36 90 []))),.h [.slot 7 kC],.k (0::1::5::(rl 8 29 (rl 40 87 []))),.k [],.g [0,1,2],.k (rl 0 6 (rl 7 120 [])),.k (rl 8 4 (13::14::16::(rl 41 84 []))),.k [51,52],.g (rl 0 5 []),.k (rl 0 6 (rl 7 120 [])),.k (13::(rl 53 15 [])),.h [],.k (0::1::5::8::(rl 11 26 (rl 40 16 (rl 59 68 [])))),.k [],.k (0::1::5::8::(rl 11 26 (rl 40 87 []))),.k (13::(rl 60 7 [])),.g (rl 0 6 []),.k (rl 0 6 (rl 7 120 [])),.k (rl 72 36 []),.g (rl 0 6 []),.k (rl 0 6 (rl 7 120 [])),.g (rl 0 6 []),.k (rl 0 6 (rl 7 120 [])),.g (rl 0 6 []),.k (rl 0 6 (rl 7 120 [])),.g (rl 0 6 []),.k (rl 0 6 (rl 7 120 [])),.g (rl 0 6 []),.k (rl 0 6 (rl 7 120 [])),.k (16::(rl 108 13 [])),.g [3,4],.h [],.k (0::1::5::(rl 8 6 (rl 15 22 (rl 40 68 (rl 111 16 []))))),.k [],.g [3,4],.k (0::1::5::(rl 8 6 (rl 15 22 (rl 40 87 [])))),.k (16::(rl 112 8 [])),.g (rl 0 7 []),.k (rl 0 6 (rl 7 120 [])),.g (rl 0 7 []),.k (rl 0 6 (rl 7 120 []))]:=by
 apply Subtype.mk;cbv<;>exact rfl
def A16:AF:=B16.1
def PQ:AC:=sA A16.body [1,0,1]
def Xb:AC:=sA PQ [1,1,1]
def ou:AC:=sA PQ [1,1,0,1,0,0]
def PR:AC:=sA ou [1,1]
def En:AC:=sA PR [1]
def PS:AC:=sA PR [0,0,1,1,1]
def PP:AC:=sA PS [1]
def UI:AC:=sA PP [1,1]
def UJ:AC:=sA UI [1]
def UK:AC:=sA UI [0,1,0,0,0]
def UL:AC:=sA PS [0,1,0,0]
def Pe:St->Option St:=nN 5 (0::1::5::8::(rl 11 26 (rl 40 16 (rl 59 68 []))))
def LM:St:=⟨(.u::.u::.x (.c (ro kA n0 f0))::.x (.ptr 0 0)::.x (.ptr 1 0)::.u::vxi 0::.x (.own 2 0 n1)::.u::.x (.ptr 3 0)::.x (.ptr 4 0)::(us 26 (.x (.c (ro kB n2 f1))::vxi i0::vxi i1::(us 16 (.x (.c (ro kB n3 f1))::vxi i2::vxi i3::(us 68 [])))))),[.box [(vcs w0),(vci i4),(.c (ro kB n2 f1))],.box [(vcs w1),(vcs w2),(vci i5),(vci i6),(vci i7),(vcs w3)],.arr kC n1 f2,.box [(vcs w4),(vci i8),(vci i9),(vci iA),(vcb b0)],.box [(vcs w5),(vci iB),(vci iC),(vcs w6),(vcs w7),(vci iD),(.c (ro kP n4 f3)),(.c (ro kF n5 f4)),(vcs w8),(vci iE),(vci iF),(vci iG),(vci iH),(vci iI),(vci iJ),(vci iK),(vci iL),(vci iM)]]⟩
def LL:St:=⟨(us 6 (vxi 7::(us 120 []))),[.dead,.dead,.dead,.dead,.dead,.dead]⟩
def LK:St:=⟨(.u::.u::.x (.c (ro kA n0 f0))::.x (.ptr 0 0)::.x (.ptr 1 0)::.u::vxi 0::.x (.own 2 0 n1)::.u::.x (.ptr 3 0)::.x (.ptr 4 0)::(us 26 (.x (.c (ro kB n2 f1))::vxi i0::vxi i1::(us 87 [])))),[.box [(vcs w0),(vci i2),(.c (ro kB n2 f1))],.box [(vcs w1),(vcs w2),(vci i3),(vci i4),(vci i5),(vcs w3)],.arr kC n1 f2,.box [(vcs w4),(vci i6),(vci i7),(vci i8),(vcb b0)],.box [(vcs w5),(vci i9),(vci iA),(vcs w6),(vcs w7),(vci iB),(.c (ro kP n3 f3)),(.c (ro kF n4 f4)),(vcs w8),(vci iC),(vci iD),(vci iE),(vci iF),(vci iG),(vci iH),(vci iI),(vci iJ),(vci iK)]]⟩
def om {ρ:Type} (u:Nat) (x0:Nat) (x1:FF) (x2 x3:Nat) (x4:FF) (x5 x6:Int) (x7:Nat) (x8:Int) (x9:ByteArray) (xA:Int) (xB xC:ByteArray) (xD xE xF:Int) (xG:ByteArray) (xH:FF) (xI:ByteArray) (xJ xK xL:Int) (xM:Bool) (xN:ByteArray) (xO xP:Int) (xQ xR:ByteArray) (xS:Int) (xT:Nat) (xU:FF) (xV:Nat) (xW:FF) (xX:ByteArray) (xY xZ xa xb xc xd xe xf xg:Int):Nat->Int->(Option ρ)->(Option ρ)->Option ρ
 | 0,_,_,_=>none
 | m+1,xh,k0,k1 =>
  (bif (decide (xh<x8)) then (bif (inb xh x7) then (bif (ByteArray.toList (x4 xh.toNat 0).str==ByteArray.toList xI) then k0 else (om u x0 x1 x2 x3 x4 x5 x6 x7 x8 x9 xA xB xC xD xE xF xG xH xI xJ xK xL xM xN xO xP xQ xR xS xT xU xV xW xX xY xZ xa xb xc xd xe xf xg m (w64 (xh+1)) k0 k1)) else none) else k1)
theorem It:∀ (m:Nat) (x0:Int) (k0:Option ρ) (k1:Option ρ),ob (om u n0 f0 n1 n2 f1 i0 i1 n3 i2 w0 i3 w1 w2 i4 i5 i6 w3 f2 w4 i7 i8 i9 b0 w5 iA iB w6 w7 iC n4 f3 n5 f4 w8 iD iE iF iG iH iI iJ iK iL m x0 k0 k1) ng=om u n0 f0 n1 n2 f1 i0 i1 n3 i2 w0 i3 w1 w2 i4 i5 i6 w3 f2 w4 i7 i8 i9 b0 w5 iA iB w6 w7 iC n4 f3 n5 f4 w8 iD iE iF iG iH iI iJ iK iL m x0 (ob k0 ng) (ob k1 ng)
 | 0,_,_,_=>rfl
 | m+1,x0,k0,k1=>by
  simp only [om,ak,au,ai,It m]
theorem Ms:∀ (m:Nat) (x0:Int),
  aq (eB UL (C97 u) u) Pe m (LM n0 n1 n2 n3 n4 n5 f0 f1 f2 f3 f4 i0 i1 i2 x0 i3 i4 i5 i6 i7 i8 i9 iA iB iC iD iE iF iG iH iI iJ iK iL b0 w0 w1 w2 w3 w4 w5 w6 w7 w8) k=om u n0 f0 n1 n2 f1 i0 i1 n3 i2 w0 i3 w1 w2 i4 i5 i6 w3 f2 w4 i7 i8 i9 b0 w5 iA iB w6 w7 iC n4 f3 n5 f4 w8 iD iE iF iG iH iI iJ iK iL m x0 (k (.exit 1) LL) (k (.exit 3) (LK n0 n1 n2 n4 n5 f0 f1 f2 f3 f4 i0 i1 i3 i4 i5 i6 i7 i8 i9 iA iB iC iD iE iF iG iH iI iJ iK iL b0 w0 w1 w2 w3 w4 w5 w6 w7 w8))
 | 0,_=>rfl
 | m+1,x0=>by
  simp only [om,<- Ms m]
  kernel_rfl
def Pd:St->Option St:=nN 6 (0::1::5::(rl 8 6 (rl 15 22 (rl 40 68 (rl 111 16 [])))))
def LJ:St:=⟨(.u::.u::.x (.c (ro kA n0 f0))::.x (.ptr 0 0)::.x (.ptr 1 0)::.u::vxi 0::.x (.own 2 0 n1)::(us 6 (.x (.ptr 5 0)::(us 22 (.x (.c (ro kB n2 f1))::vxi i0::vxi i1::(us 68 (.x (.own 2 0 n1)::vxi i2::vxi i3::(us 16 [])))))))),[.box [(vcs w0),(vci i4),(.c (ro kB n2 f1))],.box [(vcs w1),(vcs w2),(vci i5),(vci i6),(vci i7),(vcs w3)],.arr kC n1 f2,.dead,.dead,.box [(.c (ro kP n3 f3)),(.c (ro kF n4 f4))]]⟩
def LI:St:=⟨(us 6 (vxi 19::(us 120 []))),[.dead,.dead,.dead,.dead,.dead,.dead,.dead]⟩
def LH:St:=⟨(.u::.u::.x (.c (ro kA n0 f0))::.x (.ptr 0 0)::.x (.ptr 1 0)::.u::vxi 0::.x (.own 2 0 n1)::(us 6 (.x (.ptr 5 0)::(us 22 (.x (.c (ro kB n2 f1))::vxi i0::vxi i1::(us 87 [])))))),[.box [(vcs w0),(vci i2),(.c (ro kB n2 f1))],.box [(vcs w1),(vcs w2),(vci i3),(vci i4),(vci i5),(vcs w3)],.arr kC n1 f2,.dead,.dead,.box [(.c (ro kP n3 f3)),(.c (ro kF n4 f4))]]⟩
def oj {ρ:Type} (u:Nat) (x0:Nat) (x1:FF) (x2 x3:Nat) (x4:FF) (x5 x6 x7:Int) (x8:ByteArray) (x9:Int) (xA xB:ByteArray) (xC xD xE:Int) (xF:ByteArray) (xG:FF) (xH:Nat) (xI:FF) (xJ:Nat) (xK:FF):Nat->Int->(Option ρ)->(Option ρ)->Option ρ
 | 0,_,_,_=>none
 | m+1,xL,k0,k1 =>
  (bif (decide (xL<x7)) then (bif (inb xL x2) then (ob (F27 u xH xI xJ xK (xG (0+xL.toNat) 0).len (xG (0+xL.toNat) 0).el (xG (0+xL.toNat) 1).len (xG (0+xL.toNat) 1).el x9) fun xM=>(bif (!xM) then k0 else (oj u x0 x1 x2 x3 x4 x5 x6 x7 x8 x9 xA xB xC xD xE xF xG xH xI xJ xK m (w64 (xL+1)) k0 k1))) else none) else k1)
theorem Is:∀ (m:Nat) (x0:Int) (k0:Option ρ) (k1:Option ρ),ob (oj u n0 f0 n1 n2 f1 i0 i1 i2 w0 i3 w1 w2 i4 i5 i6 w3 f2 n3 f3 n4 f4 m x0 k0 k1) ng=oj u n0 f0 n1 n2 f1 i0 i1 i2 w0 i3 w1 w2 i4 i5 i6 w3 f2 n3 f3 n4 f4 m x0 (ob k0 ng) (ob k1 ng)
 | 0,_,_,_=>rfl
 | m+1,x0,k0,k1=>by
  simp only [oj,ak,au,ai,Is m]
theorem Mr:∀ (m:Nat) (x0:Int),
  aq (eB UK (C97 u) u) Pd m (LJ n0 n1 n2 n3 n4 f0 f1 f2 f3 f4 i0 i1 i2 x0 i3 i4 i5 i6 w0 w1 w2 w3) k=oj u n0 f0 n1 n2 f1 i0 i1 i2 w0 i3 w1 w2 i4 i5 i6 w3 f2 n3 f3 n4 f4 m x0 (k (.exit 1) LI) (k (.exit 6) (LH n0 n1 n2 n3 n4 f0 f1 f2 f3 f4 i0 i1 i3 i4 i5 i6 w0 w1 w2 w3))
 | 0,_=>rfl
 | m+1,x0=>by
  simp only [oj,<- Mr m]
  kernel_rfl
def rh:St->Option St:=nN 3 (0::1::5::(rl 8 29 (rl 40 87 [])))
def DJ:St:=⟨(.u::.u::.x (.c (ro kA n0 f0))::.x (.ptr 0 0)::.x (.ptr 1 0)::.u::vxi 0::.x (.own 2 0 n1)::(us 29 (.x (.c (ro kB n2 f1))::vxi i0::vxi i1::(us 87 [])))),[.box [(vcs w0),(vci i2),(.c (ro kB n2 f1))],.box [(vcs w1),(vcs w2),(vci i3),(vci i4),(vci i5),(vcs w3)],.arr kC n1 f2]⟩
def LG:St:=⟨(us 6 (vxi 8::(us 120 []))),[.dead,.dead,.dead,.dead,.dead]⟩
def sL:St:=⟨(us 6 (vxi i0::(us 120 []))),[.dead,.dead,.dead,.dead,.dead,.dead]⟩
def LF:St:=⟨(us 6 (vxi 0::(us 120 []))),[.dead,.dead,.dead]⟩
def oi {ρ:Type} (u:Nat) (x0:Nat) (x1:FF) (x2:Nat) (x3:FF) (x4:Int) (x5:ByteArray) (x6:Int) (x7 x8:ByteArray) (x9 xA xB:Int) (xC:ByteArray):Nat->Nat->Int->FF->(Option ρ)->(Option ρ)->(Int->Option ρ)->(Option ρ)->(Option ρ)->Option ρ
 | 0,_,_,_,_,_,_,_,_=>none
 | m+1,xD,xE,xF,k0,k1,k2,k3,k4 =>
  (bif (decide (xE<x4)) then (bif (inb xE x2) then (ob (Za0 u x0 x1 (x3 xE.toNat 0).str) fun xG=>(bif (!(pG xG).2.2.2.2) then k0 else (bif (vR xE x2) then (om u x0 x1 xD x2 x3 x4 xE (xE.toNat-0) (Int.ofNat (xE.toNat-0)) x5 x6 x7 x8 x9 xA xB xC xF (x3 xE.toNat 0).str (x3 xE.toNat 1).int (x3 xE.toNat 2).int (x3 xE.toNat 3).int (x3 xE.toNat 4).bool xG.1 xG.2.1 xG.2.2.1 xG.2.2.2.1 xG.2.2.2.2.1 xG.2.2.2.2.2.1 xG.2.2.2.2.2.2.1 xG.2.2.2.2.2.2.2.1 (p8 xG).1 (p8 xG).2.1 (p8 xG).2.2.1 (p8 xG).2.2.2.1 (p8 xG).2.2.2.2.1 (p8 xG).2.2.2.2.2.1 (p8 xG).2.2.2.2.2.2.1 (p8 xG).2.2.2.2.2.2.2.1 (pG xG).1 (pG xG).2.1 (pG xG).2.2.1 (pG xG).2.2.2.1 u 0
  k1
  (ob (F25 u xG.2.2.2.2.2.2.1 xG.2.2.2.2.2.2.2.1 (p8 xG).1 (p8 xG).2.1 (x3 xE.toNat 0).str (x3 xE.toNat 1).int (x3 xE.toNat 2).int (x3 xE.toNat 3).int (x3 xE.toNat 4).bool) fun xH=>(bif (xG.2.2.1 != 1) then (k2 10) else (bif ((!(ByteArray.toList xG.2.2.2.2.1==ByteArray.toList x8))==false) then (bif (xG.2.2.2.2.2.1 != x9) then (k2 23) else (ob (F13 u xG.2.2.2.2.2.2.1 xG.2.2.2.2.2.2.2.1 (p8 xG).1 (p8 xG).2.1) fun xI=>(bif (xI != 0) then (k2 17) else (ob (Ha u (x3 xE.toNat 0).str (x3 xE.toNat 1).int (x3 xE.toNat 2).int (x3 xE.toNat 3).int (x3 xE.toNat 4).bool) fun xJ=>(bif (!xJ) then (k2 9) else (ob (F29 u xH.1 xH.2.1 xH.2.2.1 xH.2.2.2 xA xB x6) fun xK=>(bif (!xK) then (k2 18) else (oj u x0 x1 xD x2 x3 x4 xE (Int.ofNat xD) x5 x6 x7 x8 x9 xA xB xC xF xH.1 xH.2.1 xH.2.2.1 xH.2.2.2 u 0
  k3
  (bif (Nat.ble (xD+1) 1073741824) then (oi u x0 x1 x2 x3 x4 x5 x6 x7 x8 x9 xA xB xC m (xD+1) (w64 (xE+1)) (aC xD xF (aL 2 [(.ro false (.pr (.int .i64) (.pr (.int .i64) .nil)) xH.1 xH.2.1),(.ro false (.pr (.sl (.pr (.int .i64) (.pr (.int .i64) .nil))) .nil) xH.2.2.1 xH.2.2.2)])) k0 k1 k2 k3 k4) else none))))))))) else (k2 23))))) else none))) else none) else k4)
theorem Ir:∀ (m:Nat) (x0:Nat) (x1:Int) (x2:FF) (k0:Option ρ) (k1:Option ρ) (k2:Int->Option ρ) (k3:Option ρ) (k4:Option ρ),ob (oi u n0 f0 n1 f1 i0 w0 i1 w1 w2 i2 i3 i4 w3 m x0 x1 x2 k0 k1 k2 k3 k4) ng=oi u n0 f0 n1 f1 i0 w0 i1 w1 w2 i2 i3 i4 w3 m x0 x1 x2 (ob k0 ng) (ob k1 ng) (fun x3=>ob (k2 x3) ng) (ob k3 ng) (ob k4 ng)
 | 0,_,_,_,_,_,_,_,_=>rfl
 | m+1,x0,x1,x2,k0,k1,k2,k3,k4=>by
  simp only [oi,ak,au,ai,Ir m,It,Is]
theorem VZ :
  aq (eB ou (C97 u) u) rh (m+1) (DJ n0 n2 n1 f0 f1 f2 i0 i5 i1 i2 i3 i4 w0 w1 w2 w3) k =
  (bif (decide (i5<i0)) then (bif (inb i5 n1) then (ob (Za0 u n0 f0 (f1 i5.toNat 0).str) fun x0=>(bif (!(pG x0).2.2.2.2) then (k .ret LG) else (bif (vR i5 n1) then (aq (eB UL (C97 u) u) Pe u (LM n0 n2 n1 (i5.toNat-0) x0.2.2.2.2.2.2.1 (p8 x0).1 f0 f1 f2 x0.2.2.2.2.2.2.2.1 (p8 x0).2.1 i0 i5 (Int.ofNat (i5.toNat-0)) 0 i1 i2 i3 i4 (f1 i5.toNat 1).int (f1 i5.toNat 2).int (f1 i5.toNat 3).int x0.2.1 x0.2.2.1 x0.2.2.2.2.2.1 (p8 x0).2.2.2.1 (p8 x0).2.2.2.2.1 (p8 x0).2.2.2.2.2.1 (p8 x0).2.2.2.2.2.2.1 (p8 x0).2.2.2.2.2.2.2.1 (pG x0).1 (pG x0).2.1 (pG x0).2.2.1 (pG x0).2.2.2.1 (f1 i5.toNat 4).bool w0 w1 w2 w3 (f1 i5.toNat 0).str x0.1 x0.2.2.2.1 x0.2.2.2.2.1 (p8 x0).2.2.1) (aD 3 (aJ (C97 u) u (13::(rl 53 15 [])) PP (aD 2 (aJ (C97 u) u (rl 8 4 (13::14::16::(rl 41 84 []))) En (aS (eB ou (C97 u) u) rh m k)))))) else none))) else none) else (k (.exit 1) LF)):=by kernel_rfl
theorem WL (x0:ByteArray × Int × Int × ByteArray × ByteArray × Int × Nat × FF × Nat × FF × ByteArray × Int × Int × Int × Int × Int × Int × Int × Int × Int × Bool) :
  (aD 3 (aJ (C97 u) u (13::(rl 53 15 [])) PP (aD 2 (aJ (C97 u) u (rl 8 4 (13::14::16::(rl 41 84 []))) En (aS (eB ou (C97 u) u) rh m k))))) (.exit 3) (LK n0 n1 n2 x0.2.2.2.2.2.2.1 (p8 x0).1 f0 f1 f2 x0.2.2.2.2.2.2.2.1 (p8 x0).2.1 i0 i1 i2 i3 i4 i5 (f1 i1.toNat 1).int (f1 i1.toNat 2).int (f1 i1.toNat 3).int x0.2.1 x0.2.2.1 x0.2.2.2.2.2.1 (p8 x0).2.2.2.1 (p8 x0).2.2.2.2.1 (p8 x0).2.2.2.2.2.1 (p8 x0).2.2.2.2.2.2.1 (p8 x0).2.2.2.2.2.2.2.1 (pG x0).1 (pG x0).2.1 (pG x0).2.2.1 (pG x0).2.2.2.1 (f1 i1.toNat 4).bool w0 w1 w2 w3 (f1 i1.toNat 0).str x0.1 x0.2.2.2.1 x0.2.2.2.2.1 (p8 x0).2.2.1) =
  (ob (F25 u x0.2.2.2.2.2.2.1 x0.2.2.2.2.2.2.2.1 (p8 x0).1 (p8 x0).2.1 (f1 i1.toNat 0).str (f1 i1.toNat 1).int (f1 i1.toNat 2).int (f1 i1.toNat 3).int (f1 i1.toNat 4).bool) fun x1=>(bif (x0.2.2.1 != 1) then (k .ret (sL 10)) else (bif ((!(ByteArray.toList x0.2.2.2.2.1==ByteArray.toList w2))==false) then (bif (x0.2.2.2.2.2.1 != i3) then (k .ret (sL 23)) else (ob (F13 u x0.2.2.2.2.2.2.1 x0.2.2.2.2.2.2.2.1 (p8 x0).1 (p8 x0).2.1) fun x2=>(bif (x2 != 0) then (k .ret (sL 17)) else (ob (Ha u (f1 i1.toNat 0).str (f1 i1.toNat 1).int (f1 i1.toNat 2).int (f1 i1.toNat 3).int (f1 i1.toNat 4).bool) fun x3=>(bif (!x3) then (k .ret (sL 9)) else (ob (F29 u x1.1 x1.2.1 x1.2.2.1 x1.2.2.2 i4 i5 i2) fun x4=>(bif (!x4) then (k .ret (sL 18)) else (aq (eB UK (C97 u) u) Pd u (LJ n0 n1 n2 x1.1 x1.2.2.1 f0 f1 f2 x1.2.1 x1.2.2.2 i0 i1 (Int.ofNat n1) 0 i2 i3 i4 i5 w0 w1 w2 w3) (aD 6 (aJ (C97 u) u (16::(rl 108 13 [])) UJ (aD 2 (aJ (C97 u) u (rl 8 4 (13::14::16::(rl 41 84 []))) En (aS (eB ou (C97 u) u) rh m k))))))))))))) else (k .ret (sL 23))))):=by kernel_rfl
theorem WK (x0:Nat × FF × Nat × FF) :
  (aD 6 (aJ (C97 u) u (16::(rl 108 13 [])) UJ (aD 2 (aJ (C97 u) u (rl 8 4 (13::14::16::(rl 41 84 []))) En (aS (eB ou (C97 u) u) rh m k))))) (.exit 6) (LH n0 n1 n2 x0.1 x0.2.2.1 f0 f1 f2 x0.2.1 x0.2.2.2 i0 i1 i2 i3 i4 i5 w0 w1 w2 w3) =
  (bif (Nat.ble (n1+1) 1073741824) then (aq (eB ou (C97 u) u) rh m (DJ n0 (n1+1) n2 f0 f1 (aC n1 f2 (aL 2 [(ro kP x0.1 x0.2.1),(ro kF x0.2.2.1 x0.2.2.2)])) i0 (w64 (i1+1)) i2 i3 i4 i5 w0 w1 w2 w3) k) else none):=by kernel_rfl
theorem Mq:∀ (m:Nat) (x0:Nat) (x1:Int) (x2:FF),
  aq (eB ou (C97 u) u) rh m (DJ n0 x0 n1 f0 f1 x2 i0 x1 i1 i2 i3 i4 w0 w1 w2 w3) k=oi u n0 f0 n1 f1 i0 w0 i1 w1 w2 i2 i3 i4 w3 m x0 x1 x2 (k .ret LG) (k (.exit 1) LL) (fun x3=>k .ret (sL x3)) (k (.exit 1) LI) (k (.exit 1) LF)
 | 0,_,_,_=>rfl
 | m+1,x0,x1,x2=>by
  rw [VZ]
  simp only [oi,Mq m,Ms,WL,Mr,WK]<;>kernel_rfl
def Ct (x0:ByteArray) (x1:Int) (x2:Nat) (x3:FF) (x4 x5:ByteArray) (x6 x7 x8:Int) (x9:ByteArray) (xA:Nat) (xB:FF):Option (Int) :=
 (bif ((decide (x1<0))==false) then (bif (decide (x1>500)) then (some 9) else (bif ((Int.ofNat x2)==0) then (some 3) else (bif (decide ((Int.ofNat x2)>32)) then (some 4) else (oi u xA xB x2 x3 (Int.ofNat x2) x0 x1 x4 x5 x6 x7 x8 x9 u 0 0 (fun _ _=>.any)
  (some 8)
  (some 7)
  (fun xC=>(some xC))
  (some 19)
  (some 0))))) else (some 9))
theorem abu:aB (C97 u) u A16 [.agg [(.s w0),(vi i0),(ro kB n0 f0)],.agg [(.s w1),(.s w2),(vi i1),(vi i2),(vi i3),(.s w3)],.v (ro kA n1 f1)]=ob (Ct u w0 i0 n0 f0 w1 w2 i1 i2 i3 w3 n1 f1) fun t=>some [.v (vi t)]:=Eq.trans (b:=(bif ((decide (i0<0))==false) then (bif (decide (i0>500)) then (some [.v (vi 9)]) else (bif ((Int.ofNat n0)==0) then (some [.v (vi 3)]) else (bif (decide ((Int.ofNat n0)>32)) then (some [.v (vi 4)]) else (aq (eB ou (C97 u) u) rh u (DJ n1 0 n0 f1 f0 ca (Int.ofNat n0) 0 i0 i1 i2 i3 w0 w1 w2 w3) (aD 1 (aJ (C97 u) u (rl 7 5 (13::14::16::(rl 36 90 []))) Xb (aG A16))))))) else (some [.v (vi 9)]))) (by kernel_rfl) (by
 simp only [Ct,ak,au,ai,aa,Ir,Mq]<;>kernel_rfl)
def Zt:Ora:=mkO (qc (ag (tc cS (tc ci (t1 (cL kB))))) (qc (ag (tc cS (tc cS (tc ci (tc ci (tc ci (t1 cS))))))) (q1 (av (cL kA))))) (fun x=>Ct u x.1.1 x.1.2.1 x.1.2.2.1 x.1.2.2.2 x.2.1.1 x.2.1.2.1 x.2.1.2.2.1 x.2.1.2.2.2.1 x.2.1.2.2.2.2.1 x.2.1.2.2.2.2.2 x.2.2.1 x.2.2.2) fun t=>[.v (vi t)]
theorem ab5:DO (Zt u) (C97 u) 16 A16:=dO u (fun x=>by exact abu u x.1.2.2.1 x.2.2.1 x.1.2.2.2 x.2.2.2 x.1.2.1 x.2.1.2.2.1 x.2.1.2.2.2.1 x.2.1.2.2.2.2.1 x.1.1 x.2.1.1 x.2.1.2.1 x.2.1.2.2.2.2.2)
def C98:am:=(C97 u).add 16 (fun _=>true) (Zt u)
def B6:An tT Tryz.f6 [.k (4::(rl 10 10 [])),.g [0],.k (rl 0 4 (rl 5 122 [])),.k (4::(rl 37 13 [])),.g [0,1,2],.k (rl 0 4 (rl 5 122 [])),.k (4::(rl 50 40 [])),.g [0,1,2],.k (rl 0 4 (rl 5 122 [])),.g (rl 0 4 []),.k (rl 0 4 (rl 5 122 []))]:=by
 apply Subtype.mk;cbv<;>exact rfl
def A6:AF:=B6.1
def F416 (x0:Nat->CV) (x1:Nat) (x2:FF):Option (Bool) :=
 (ob (G6 u (x0 6).len (x0 6).el 4) fun x3=>(bif ((!x3)==false) then (bif (decide ((Int.ofNat x1)>6)) then (ob (tw u) fun x4=>(some x4)) else (ob (FR u (x0 0).str (x0 1).str (x0 2).int (x0 3).int (x0 4).int (x0 5).str (x0 6).len (x0 6).el (x0 7).int) fun x5=>(ob (B1 u (x0 0).str (x0 1).str (x0 2).int (x0 3).int (x0 4).int (x0 5).str (x0 6).len (x0 6).el (x0 7).int 10473) fun x6=>(bif (x6.2.2.2.2 != 0) then (bif ((x6.2.2.2.2==9)==true) then (bif (((Int.ofNat x5.2.2.1)==0)==true) then (ob (tw u) fun x7=>(some x7)) else (some false)) else (some false)) else (bif ((decide ((Int.ofNat x5.2.2.1)>4))==false) then (bif ((decide ((Int.ofNat x6.2.2.1)>4))==false) then (bif ((decide ((Int.ofNat x5.2.2.1)>0))==true) then (ob (Ct u x5.1 x5.2.1 x5.2.2.1 x5.2.2.2 (x0 0).str (x0 1).str (x0 2).int (x0 3).int (x0 4).int (x0 5).str (x0 6).len (x0 6).el) fun x8=>(bif ((x8 != 0)==false) then (bif ((decide ((Int.ofNat x6.2.2.1)>0))==true) then (ob (Ct u x6.1 x6.2.1 x6.2.2.1 x6.2.2.2.1 (x0 0).str (x0 1).str (x0 2).int (x0 3).int (x0 4).int (x0 5).str (x0 6).len (x0 6).el) fun x9=>(bif (x9 != 0) then (some false) else (ob (lU u x6.1 x6.2.1 x6.2.2.1 x6.2.2.2.1 (x0 6).len (x0 6).el) fun xA=>(ob (lU u x5.1 x5.2.1 x5.2.2.1 x5.2.2.2 (x0 6).len (x0 6).el) fun xB=>(bif ((decide (xA>=xB))==true) then (ob (Cp u (x0 0).str (x0 7).int x1 x2 (x0 0).str (x0 1).str (x0 2).int (x0 3).int (x0 4).int (x0 5).str (x0 6).len (x0 6).el) fun xC=>(bif ((!xC)==false) then (ob (lU u (x0 0).str (x0 7).int x1 x2 (x0 6).len (x0 6).el) fun xD=>(bif ((decide (xA>=xD))==true) then (ob (tw u) fun xE=>(some xE)) else (some false))) else (ob (tw u) fun xF=>(some xF)))) else (some false)))))) else (ob (lU u x6.1 x6.2.1 x6.2.2.1 x6.2.2.2.1 (x0 6).len (x0 6).el) fun xG=>(ob (lU u x5.1 x5.2.1 x5.2.2.1 x5.2.2.2 (x0 6).len (x0 6).el) fun xH=>(bif ((decide (xG>=xH))==true) then (ob (Cp u (x0 0).str (x0 7).int x1 x2 (x0 0).str (x0 1).str (x0 2).int (x0 3).int (x0 4).int (x0 5).str (x0 6).len (x0 6).el) fun xI=>(bif ((!xI)==false) then (ob (lU u (x0 0).str (x0 7).int x1 x2 (x0 6).len (x0 6).el) fun xJ=>(bif ((decide (xG>=xJ))==true) then (ob (tw u) fun xK=>(some xK)) else (some false))) else (ob (tw u) fun xL=>(some xL)))) else (some false))))) else (some false))) else (bif ((decide ((Int.ofNat x6.2.2.1)>0))==true) then (ob (Ct u x6.1 x6.2.1 x6.2.2.1 x6.2.2.2.1 (x0 0).str (x0 1).str (x0 2).int (x0 3).int (x0 4).int (x0 5).str (x0 6).len (x0 6).el) fun xM=>(bif (xM != 0) then (some false) else (ob (lU u x6.1 x6.2.1 x6.2.2.1 x6.2.2.2.1 (x0 6).len (x0 6).el) fun xN=>(ob (lU u x5.1 x5.2.1 x5.2.2.1 x5.2.2.2 (x0 6).len (x0 6).el) fun xO=>(bif ((decide (xN>=xO))==true) then (ob (Cp u (x0 0).str (x0 7).int x1 x2 (x0 0).str (x0 1).str (x0 2).int (x0 3).int (x0 4).int (x0 5).str (x0 6).len (x0 6).el) fun xP=>(bif ((!xP)==false) then (ob (lU u (x0 0).str (x0 7).int x1 x2 (x0 6).len (x0 6).el) fun xQ=>(bif ((decide (xN>=xQ))==true) then (ob (tw u) fun xR=>(some xR)) else (some false))) else (ob (tw u) fun xS=>(some xS)))) else (some false)))))) else (ob (lU u x6.1 x6.2.1 x6.2.2.1 x6.2.2.2.1 (x0 6).len (x0 6).el) fun xT=>(ob (lU u x5.1 x5.2.1 x5.2.2.1 x5.2.2.2 (x0 6).len (x0 6).el) fun xU=>(bif ((decide (xT>=xU))==true) then (ob (Cp u (x0 0).str (x0 7).int x1 x2 (x0 0).str (x0 1).str (x0 2).int (x0 3).int (x0 4).int (x0 5).str (x0 6).len (x0 6).el) fun xV=>(bif ((!xV)==false) then (ob (lU u (x0 0).str (x0 7).int x1 x2 (x0 6).len (x0 6).el) fun xW=>(bif ((decide (xT>=xW))==true) then (ob (tw u) fun xX=>(some xX)) else (some false))) else (ob (tw u) fun xY=>(some xY)))) else (some false)))))) else (some false)) else (some false)))))) else (ob (tw u) fun xZ=>(some xZ))))
theorem aa5:aB (C98 u) u A6 [.agg (pj kR1 g0),.v (ro kB n0 f0)]=ob (F416 u g0 n0 f0) fun t=>some [.v (.b t)]:=by
 simp only [F416,ak,au,ai,aa]
 kernel_rfl
def O416:Ora:=mkO (qc (ar kR1) (q1 (av (cL kB)))) (fun x=>F416 u x.1 x.2.1 x.2.2) fun t=>[.v (.b t)]
theorem abG:DO (O416 u) (C98 u) 6 A6:=dO u (fun x=>by exact aa5 u x.2.1 x.2.2 x.1)
/- Functions that the plain texts alone name. -/
end Go.Eng.R13
