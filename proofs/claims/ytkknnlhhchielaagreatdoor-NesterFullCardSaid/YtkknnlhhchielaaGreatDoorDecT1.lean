/-
 The functions of the program,run on symbols;printed by decomp.py.
-/
import Derived.Test.YtkknnlhhchielaaGreatDoorDecT0
import Derived.Test.YtkknnlhhchielaaGreatDoorEngAn
import Derived.Test.YtkknnlhhchielaaGreatDoorProg
set_option linter.all false
set_option maxRecDepth 1000000
set_option maxHeartbeats 4000000
namespace Go.Eng.R13
open Go Go.RowKit Go.Eng
open Go.Proofs
variable {ρ σ : Type} (u m : Nat) (k : Ex → St → Option ρ) (ng : ρ → Option σ) (n0 n1 n2 n3 n4 n5 n6 n7 : Nat) (f0 f1 f2 f3 f4 f5 f6 f7 : FF) (i0 i1 i2 i3 i4 i5 i6 i7 i8 i9 iA iB iC iD iE iF iG iH iI iJ iK iL iM : Int) (b0 b1 : Bool) (w0 w1 w2 w3 w4 w5 w6 w7 w8 w9 : ByteArray) (g0 g1 : Nat → CV)
def B10:An tT Tryz.f10 [.k (rl 23 4 []),.g [0,2],.k (rl 0 6 (rl 7 97 [])),.k (8 :: (rl 10 9 (rl 27 76 []))),.h [.cell 7 2 kB,.slot 8 kE],.k (0 :: 1 :: 4 :: 5 :: (rl 9 20 (rl 32 72 []))),.k [],.g [0,4],.k (rl 0 6 (rl 8 96 [])),.k (rl 10 9 (rl 33 69 [])),.k (rl 35 4 []),.g [0,4,5],.k (rl 0 6 (rl 8 96 [])),.k (14 :: 15 :: 16 :: (rl 40 41 [])),.h [],.k (0 :: 1 :: 4 :: 5 :: 9 :: (rl 14 15 (rl 32 8 (rl 41 63 [])))),.k [],.k (0 :: 1 :: 4 :: 5 :: 9 :: (rl 14 15 (rl 32 72 []))),.k (14 :: 15 :: 16 :: (rl 42 38 [])),.g [0,2,4,5],.k (rl 0 6 (rl 7 97 []))]:=by
 apply Subtype.mk;cbv<;>exact rfl
def A10:AF:=B10.1
def A10v10:AC:=sA A10.body [1,1,1]
def A10v9:AC:=sA A10v10 [1,1]
def A10v8:AC:=sA A10v10 [1,0,1,0,0]
def A10v7:AC:=sA A10v8 [1,1]
def A10v6:AC:=sA A10v7 [1]
def A10v5:AC:=sA A10v7 [0,0,1,1]
def A10v4:AC:=sA A10v5 [1,1]
def A10v3:AC:=sA A10v5 [1,0,1,0,0]
def N398v2:St→Option St:=nN 7 (0 :: 1 :: 4 :: 5 :: 9 :: (rl 14 15 (rl 32 8 (rl 41 63 []))))
def s398v0:St:=⟨(.u :: .u :: vxi i0 :: .x (.ptr 0 0) :: .u :: .u :: .x (.ptr 1 0) :: .x (.ptr 2 0) :: .x (.own 4 0 n0) :: .u :: .x (.ptr 5 0) :: vxi i1 :: .x (.ptr 6 0) :: vxb b0 :: (us 15 (.x (.c (ro kA n1 f0)) :: vxi i2 :: vxi i3 :: (us 8 (vxi i4 :: (us 63 [])))))),[.box [(vcs w0),(vcs w1),(vci i5),(vci i6),(vci i7),(vcs w2)],.box [(vcs ByteArray.empty),(vci 0),(vcn)],.box [(vcs w0),(vci i0),(.own 3 0 n0)],.arr kB n0 f1,.arr kE n0 f2,.box [(vcs w3),(vci i8),(vci i9),(vcs w4),(vcs w5),(vci iA),(.c (ro kP n2 f3)),(.c (ro kF n3 f4)),(vcs w6),(vci iB),(vci iC),(vci iD),(vci iE),(vci iF),(vci iG),(vci iH),(vci iI),(vci iJ)],.box [(vci iK),(vci iL)]]⟩
def s398v1:St:=⟨(.u :: .u :: vxi i0 :: .x (.ptr 0 0) :: .u :: .u :: .x (.ptr 1 0) :: .x (.ptr 2 0) :: .x (.own 4 0 n0) :: .u :: .x (.ptr 5 0) :: vxi i1 :: .x (.ptr 6 0) :: vxb b0 :: (us 15 (.x (.c (ro kA n1 f0)) :: vxi i2 :: vxi i3 :: (us 72 [])))),[.box [(vcs w0),(vcs w1),(vci i4),(vci i5),(vci i6),(vcs w2)],.box [(vcs ByteArray.empty),(vci 0),(vcn)],.box [(vcs w0),(vci i0),(.own 3 0 n0)],.arr kB n0 f1,.arr kE n0 f2,.box [(vcs w3),(vci i7),(vci i8),(vcs w4),(vcs w5),(vci i9),(.c (ro kP n2 f3)),(.c (ro kF n3 f4)),(vcs w6),(vci iA),(vci iB),(vci iC),(vci iD),(vci iE),(vci iF),(vci iG),(vci iH),(vci iI)],.box [(vci iJ),(vci iK)]]⟩
def L398v2 {ρ:Type} (u:Nat) (x0:Int) (x1 x2:Nat) (x3:FF) (x4 x5:Int) (x6 x7:ByteArray) (x8 x9 xA:Int) (xB:ByteArray) (xC xD:FF) (xE:ByteArray) (xF xG:Int) (xH xI:ByteArray) (xJ:Int) (xK:Nat) (xL:FF) (xM:Nat) (xN:FF) (xO:ByteArray) (xP xQ xR xS xT xU xV xW xX:Int):Nat→Int→Bool→Int→Int→Int→(Int→Bool→Int→Int→Option ρ)→Option ρ
 | 0,_,_,_,_,_,_=>none
 | m+1,xY,xZ,xa,xb,xc,k0 =>
  (bif (decide (xa<2)) then (ob (F396 u x6 x7 x8 x9 xA xB x1 xD (listF [(.s xE),(.i .i64 xF),(.i .i64 xG),(.s xH),(.s xI),(.i .i64 xJ),(.ro false (.pr (.int .i64) (.pr (.int .i64) .nil)) xK xL),(.ro false (.pr (.sl (.pr (.int .i64) (.pr (.int .i64) .nil))) .nil) xM xN),(.s xO),(.i .i64 xP),(.i .i64 xQ),(.i .i64 xR),(.i .i64 xS),(.i .i64 xT),(.i .i64 xU),(.i .i64 xV),(.i .i64 xW),(.i .i64 xX)]) xa x0) fun xd=>(bif (xd.2.2==true) then (bif ((!xZ)==false) then (bif ((decide (xd.2.1<xc))==false) then (bif ((xd.2.1==xc)==true) then (bif (decide (xd.1<xb)) then (L398v2 u x0 x1 x2 x3 x4 x5 x6 x7 x8 x9 xA xB xC xD xE xF xG xH xI xJ xK xL xM xN xO xP xQ xR xS xT xU xV xW xX m xa true (w64 (xa+1)) xd.1 xd.2.1 k0) else (L398v2 u x0 x1 x2 x3 x4 x5 x6 x7 x8 x9 xA xB xC xD xE xF xG xH xI xJ xK xL xM xN xO xP xQ xR xS xT xU xV xW xX m xY xZ (w64 (xa+1)) xb xc k0)) else (L398v2 u x0 x1 x2 x3 x4 x5 x6 x7 x8 x9 xA xB xC xD xE xF xG xH xI xJ xK xL xM xN xO xP xQ xR xS xT xU xV xW xX m xY xZ (w64 (xa+1)) xb xc k0)) else (L398v2 u x0 x1 x2 x3 x4 x5 x6 x7 x8 x9 xA xB xC xD xE xF xG xH xI xJ xK xL xM xN xO xP xQ xR xS xT xU xV xW xX m xa true (w64 (xa+1)) xd.1 xd.2.1 k0)) else (L398v2 u x0 x1 x2 x3 x4 x5 x6 x7 x8 x9 xA xB xC xD xE xF xG xH xI xJ xK xL xM xN xO xP xQ xR xS xT xU xV xW xX m xa true (w64 (xa+1)) xd.1 xd.2.1 k0)) else (L398v2 u x0 x1 x2 x3 x4 x5 x6 x7 x8 x9 xA xB xC xD xE xF xG xH xI xJ xK xL xM xN xO xP xQ xR xS xT xU xV xW xX m xY xZ (w64 (xa+1)) xb xc k0))) else (k0 xY xZ xb xc))
theorem nl398v2:∀ (m:Nat) (x0:Int) (x1:Bool) (x2 x3 x4:Int) (k0:Int→Bool→Int→Int→Option ρ),ob (L398v2 u i0 n0 n1 f0 i1 i2 w0 w1 i3 i4 i5 w2 f1 f2 w3 i6 i7 w4 w5 i8 n2 f3 n3 f4 w6 i9 iA iB iC iD iE iF iG iH m x0 x1 x2 x3 x4 k0) ng=L398v2 u i0 n0 n1 f0 i1 i2 w0 w1 i3 i4 i5 w2 f1 f2 w3 i6 i7 w4 w5 i8 n2 f3 n3 f4 w6 i9 iA iB iC iD iE iF iG iH m x0 x1 x2 x3 x4 (fun x5 x6 x7 x8=>ob (k0 x5 x6 x7 x8) ng)
 | 0,_,_,_,_,_,_=>rfl
 | m+1,x0,x1,x2,x3,x4,k0=>by
  simp only [L398v2,ob_bif,ob_ob,ob_none,nl398v2 m]
theorem q398v2:∀ (m:Nat) (x0:Int) (x1:Bool) (x2 x3 x4:Int),
  loopH (eB A10v3 (C47 u) u) N398v2 m (s398v0 n0 n1 n2 n3 f0 f1 f2 f3 f4 i0 x0 i1 i2 x2 i3 i4 i5 i6 i7 i8 i9 iA iB iC iD iE iF iG iH x3 x4 x1 w0 w1 w2 w3 w4 w5 w6) k=L398v2 u i0 n0 n1 f0 i1 i2 w0 w1 i3 i4 i5 w2 f1 f2 w3 i6 i7 w4 w5 i8 n2 f3 n3 f4 w6 i9 iA iB iC iD iE iF iG iH m x0 x1 x2 x3 x4 (fun x5 x6 x7 x8=>k (.exit 2) (s398v1 n0 n1 n2 n3 f0 f1 f2 f3 f4 i0 x5 i1 i2 i3 i4 i5 i6 i7 i8 i9 iA iB iC iD iE iF iG iH x7 x8 x6 w0 w1 w2 w3 w4 w5 w6))
 | 0,_,_,_,_,_=>rfl
 | m+1,x0,x1,x2,x3,x4=>by
  simp only [L398v2,← q398v2 m]
  kernel_rfl
def N398v3:St→Option St:=nN 5 (0 :: 1 :: 4 :: 5 :: (rl 9 20 (rl 32 72 [])))
def s398v2:St:=⟨(.u :: .u :: vxi i0 :: .x (.ptr 0 0) :: .u :: .u :: .x (.ptr 1 0) :: .x (.ptr 2 0) :: .x (.own 4 0 n0) :: (us 20 (.x (.c (ro kA n1 f0)) :: vxi i1 :: vxi i2 :: (us 72 [])))),[.box [(vcs w0),(vcs w1),(vci i3),(vci i4),(vci i5),(vcs w2)],.box [(vcs ByteArray.empty),(vci 0),(vcn)],.box [(vcs w0),(vci i0),(.own 3 0 n0)],.arr kB n0 f1,.arr kE n0 f2]⟩
def s398v3:St:=⟨(us 6 (.x (.ptr 1 0) :: .x (.ptr 2 0) :: (us 96 []))),[.dead,.box [(vcs ByteArray.empty),(vci 0),(vcn)],.box [(vcs w0),(vci i0),(.own 3 0 n0)],.arr kB n0 f0,.dead,.dead]⟩
def s398v4:St:=⟨(us 6 (.x (.ptr 1 0) :: .x (.ptr 2 0) :: (us 96 []))),[.dead,.box [(vcs ByteArray.empty),(vci 0),(vcn)],.box [(vcs w0),(vci i0),(.own 3 0 n0)],.arr kB n0 f0,.dead]⟩
def L398v3 {ρ:Type} (u:Nat) (x0:Int) (x1:Nat) (x2:FF) (x3:Int) (x4 x5:ByteArray) (x6 x7 x8:Int) (x9:ByteArray):Nat→Nat→Int→FF→FF→(Nat→FF→Option ρ)→(Nat→FF→Option ρ)→Option ρ
 | 0,_,_,_,_,_,_=>none
 | m+1,xA,xB,xC,xD,k0,k1 =>
  (bif (decide (xB<x3)) then (bif (inb xB x1) then (bif ((Int.ofNat xA)==32) then (k0 xA xC) else (L398v2 u x0 xA x1 x2 x3 xB x4 x5 x6 x7 x8 x9 xC xD (x2 xB.toNat 0).str (x2 xB.toNat 1).int (x2 xB.toNat 2).int (x2 xB.toNat 3).str (x2 xB.toNat 4).str (x2 xB.toNat 5).int (x2 xB.toNat 6).len (x2 xB.toNat 6).el (x2 xB.toNat 7).len (x2 xB.toNat 7).el (x2 xB.toNat 8).str (x2 xB.toNat 9).int (x2 xB.toNat 10).int (x2 xB.toNat 11).int (x2 xB.toNat 12).int (x2 xB.toNat 13).int (x2 xB.toNat 14).int (x2 xB.toNat 15).int (x2 xB.toNat 16).int (x2 xB.toNat 17).int u 0 false 0 0 0
  (fun xE xF xG xH=>(bif xF then (ob (F394 u (listF (pj kR0 (x2 xB.toNat))) xE xG xH) fun xI=>(bif (Nat.ble (xA+1) 1073741824) then (ob (F397 u (listF (pj kR0 (x2 xB.toNat))) xE xG xH) fun xJ=>(bif (Nat.ble (xA+1) 1073741824) then (L398v3 u x0 x1 x2 x3 x4 x5 x6 x7 x8 x9 m (xA+1) (w64 (xB+1)) (joinF xA xC (rowsF 5 [(.s xI.1),(.i .i64 xI.2.1),(.i .i64 xI.2.2.1),(.i .i64 xI.2.2.2.1),(.b xI.2.2.2.2.1)])) (joinF xA xD (rowsF 4 [(.i .i64 xJ.1),(.i .i64 xJ.2.1),(.i .i64 xJ.2.2.1),(.i .i64 xJ.2.2.2)])) k0 k1) else none)) else none)) else (L398v3 u x0 x1 x2 x3 x4 x5 x6 x7 x8 x9 m xA (w64 (xB+1)) xC xD k0 k1))))) else none) else (k1 xA xC))
theorem nl398v3:∀ (m:Nat) (x0:Nat) (x1:Int) (x2 x3:FF) (k0:Nat→FF→Option ρ) (k1:Nat→FF→Option ρ),ob (L398v3 u i0 n0 f0 i1 w0 w1 i2 i3 i4 w2 m x0 x1 x2 x3 k0 k1) ng=L398v3 u i0 n0 f0 i1 w0 w1 i2 i3 i4 w2 m x0 x1 x2 x3 (fun x4 x5=>ob (k0 x4 x5) ng) (fun x6 x7=>ob (k1 x6 x7) ng)
 | 0,_,_,_,_,_,_=>rfl
 | m+1,x0,x1,x2,x3,k0,k1=>by
  simp only [L398v3,ob_bif,ob_ob,ob_none,nl398v3 m,nl398v2]
def s398v5:St:=⟨(.u :: .u :: vxi i0 :: .x (.ptr 0 0) :: .u :: .u :: .x (.ptr 1 0) :: .x (.ptr 2 0) :: .x (.own 4 0 n0) :: .u :: .x (.ptr 5 0) :: vxi 0 :: .x (.ptr 6 0) :: vxb false :: (us 15 (.x (.c (ro kA n1 f0)) :: vxi i1 :: vxi i2 :: vxb true :: .x (.c (.rp kA (f0 i2.toNat))) :: .agg (pjc kR0 (f0 i2.toNat)) :: (us 4 (.agg [(vci 0),(vci 0)] :: vxi 0 :: (us 63 [])))))),[.box [(vcs w0),(vcs w1),(vci i3),(vci i4),(vci i5),(vcs w2)],.box [(vcs ByteArray.empty),(vci 0),(vcn)],.box [(vcs w0),(vci i0),(.own 3 0 n0)],.arr kB n0 f1,.arr kE n0 f2,.box (pjc kR0 (f0 i2.toNat)),.box [(vci 0),(vci 0)]]⟩
theorem r398v3 :
  loopH (eB A10v8 (C47 u) u) N398v3 (m+1) (s398v2 n1 n0 f0 f1 f2 i0 i1 i5 i2 i3 i4 w0 w1 w2) k =
  (bif (decide (i5<i1)) then (bif (inb i5 n0) then (bif ((Int.ofNat n1)==32) then (k (.exit 0) (s398v3 n1 f1 i0 w0)) else (loopN (eB A10v3 (C47 u) u) N398v2 u (s398v5 n1 n0 f0 f1 f2 i0 i1 i5 i2 i3 i4 w0 w1 w2) (kBlk 2 (kSeq (C47 u) u (14 :: 15 :: 16 :: (rl 40 41 [])) A10v4 (kBlk 1 (kSeq (C47 u) u (rl 10 9 (rl 33 69 [])) A10v6 (kLoop (eB A10v8 (C47 u) u) N398v3 m k))))))) else none) else (k (.exit 0) (s398v4 n1 f1 i0 w0))):=by kernel_rfl
theorem t398v1 :
  loopN (eB A10v3 (C47 u) u) N398v2 u (s398v5 n0 n1 f0 f1 f2 i0 i1 i2 i3 i4 i5 w0 w1 w2) k =
  L398v2 u i0 n0 n1 f0 i1 i2 w0 w1 i3 i4 i5 w2 f1 f2 (f0 i2.toNat 0).str (f0 i2.toNat 1).int (f0 i2.toNat 2).int (f0 i2.toNat 3).str (f0 i2.toNat 4).str (f0 i2.toNat 5).int (f0 i2.toNat 6).len (f0 i2.toNat 6).el (f0 i2.toNat 7).len (f0 i2.toNat 7).el (f0 i2.toNat 8).str (f0 i2.toNat 9).int (f0 i2.toNat 10).int (f0 i2.toNat 11).int (f0 i2.toNat 12).int (f0 i2.toNat 13).int (f0 i2.toNat 14).int (f0 i2.toNat 15).int (f0 i2.toNat 16).int (f0 i2.toNat 17).int u 0 false 0 0 0 (fun x0 x1 x2 x3=>k (.exit 2) (s398v1 n0 n1 (f0 i2.toNat 6).len (f0 i2.toNat 7).len f0 f1 f2 (f0 i2.toNat 6).el (f0 i2.toNat 7).el i0 x0 i1 i2 i3 i4 i5 (f0 i2.toNat 1).int (f0 i2.toNat 2).int (f0 i2.toNat 5).int (f0 i2.toNat 9).int (f0 i2.toNat 10).int (f0 i2.toNat 11).int (f0 i2.toNat 12).int (f0 i2.toNat 13).int (f0 i2.toNat 14).int (f0 i2.toNat 15).int (f0 i2.toNat 16).int (f0 i2.toNat 17).int x2 x3 x1 w0 w1 w2 (f0 i2.toNat 0).str (f0 i2.toNat 3).str (f0 i2.toNat 4).str (f0 i2.toNat 8).str)) :=
 Eq.trans (loopN_at (by kernel_rfl)) (q398v2 ..)
theorem g398v2 :
  (kBlk 2 (kSeq (C47 u) u (14 :: 15 :: 16 :: (rl 40 41 [])) A10v4 (kBlk 1 (kSeq (C47 u) u (rl 10 9 (rl 33 69 [])) A10v6 (kLoop (eB A10v8 (C47 u) u) N398v3 m k))))) (.exit 2) (s398v1 n0 n1 (f0 i3.toNat 6).len (f0 i3.toNat 7).len f0 f1 f2 (f0 i3.toNat 6).el (f0 i3.toNat 7).el i0 i1 i2 i3 i4 i5 i6 (f0 i3.toNat 1).int (f0 i3.toNat 2).int (f0 i3.toNat 5).int (f0 i3.toNat 9).int (f0 i3.toNat 10).int (f0 i3.toNat 11).int (f0 i3.toNat 12).int (f0 i3.toNat 13).int (f0 i3.toNat 14).int (f0 i3.toNat 15).int (f0 i3.toNat 16).int (f0 i3.toNat 17).int i7 i8 b0 w0 w1 w2 (f0 i3.toNat 0).str (f0 i3.toNat 3).str (f0 i3.toNat 4).str (f0 i3.toNat 8).str) =
  (bif b0 then (ob (F394 u (listF (pj kR0 (f0 i3.toNat))) i1 i7 i8) fun x0=>(bif (Nat.ble (n0+1) 1073741824) then (ob (F397 u (listF (pj kR0 (f0 i3.toNat))) i1 i7 i8) fun x1=>(bif (Nat.ble (n0+1) 1073741824) then (loopH (eB A10v8 (C47 u) u) N398v3 m (s398v2 (n0+1) n1 f0 (joinF n0 f1 (rowsF 5 [(.s x0.1),(vi x0.2.1),(vi x0.2.2.1),(vi x0.2.2.2.1),(.b x0.2.2.2.2.1)])) (joinF n0 f2 (rowsF 4 [(vi x1.1),(vi x1.2.1),(vi x1.2.2.1),(vi x1.2.2.2)])) i0 i2 (w64 (i3+1)) i4 i5 i6 w0 w1 w2) k) else none)) else none)) else (loopH (eB A10v8 (C47 u) u) N398v3 m (s398v2 n0 n1 f0 f1 f2 i0 i2 (w64 (i3+1)) i4 i5 i6 w0 w1 w2) k)):=by kernel_rfl
theorem q398v3:∀ (m:Nat) (x0:Nat) (x1:Int) (x2 x3:FF),
  loopH (eB A10v8 (C47 u) u) N398v3 m (s398v2 x0 n0 f0 x2 x3 i0 i1 x1 i2 i3 i4 w0 w1 w2) k=L398v3 u i0 n0 f0 i1 w0 w1 i2 i3 i4 w2 m x0 x1 x2 x3 (fun x4 x5=>k (.exit 0) (s398v3 x4 x5 i0 w0)) (fun x6 x7=>k (.exit 0) (s398v4 x6 x7 i0 w0))
 | 0,_,_,_,_=>rfl
 | m+1,x0,x1,x2,x3=>by
  rw [r398v3]
  simp only [L398v3,q398v3 m,t398v1,g398v2]
def FT398 (x0 x1:ByteArray) (x2 x3 x4:Int) (x5:ByteArray) (x6:Nat) (x7:FF) (x8:Int):Option (Bool × ByteArray × Int × Nat × FF) :=
 (ob (F389 u x8 0 500) fun x9=>(bif (!x9) then (some (true,x0,x8,0,(fun _ _=>.any))) else (ob (F391 u x0 x1 x2 x3 x4 x5 x6 x7) fun xA=>(L398v3 u x8 xA.1 xA.2 (Int.ofNat xA.1) x0 x1 x2 x3 x4 x5 u 0 0 (fun _ _=>.any) (fun _ _=>.any)
  (fun xB xC=>(some (false,x0,x8,xB,xC)))
  (fun xD xE=>(some (false,x0,x8,xD,xE)))))))
def s398v6 (x0:Nat × FF):St:=⟨(.agg [(vcs w0),(vcs w1),(vci i0),(vci i1),(vci i2),(vcs w2)] :: .x (.c (ro kA n0 f0)) :: vxi i3 :: .x (.ptr 0 0) :: uu :: uu :: .x (.ptr 1 0) :: .x (.ptr 2 0) :: .x (.own 4 0 0) :: uu :: uu :: uu :: uu :: uu :: uu :: uu :: uu :: uu :: uu :: .x (.ptr 0 0) :: vxs w0 :: vxi i3 :: .agg [(vcs w0),(vci i3),(.c (.ro true kB 0 nilF))] :: (us 4 [.agg [(vcs w0),(vcs w1),(vci i0),(vci i1),(vci i2),(vcs w2)],.x (.c (ro kA n0 f0)),.x (.c (ro kA x0.1 x0.2)),vxi (Int.ofNat x0.1),vxi 0,uu,uu,uu,uu,uu,uu,uu,uu,uu,uu,uu,uu,uu,uu,uu,uu,uu,uu,uu,uu,uu,uu,uu,uu,uu,uu,uu,uu,uu,uu,uu,uu,uu,uu,uu,uu,uu,uu,uu,uu,uu,uu,uu,uu,uu,uu,uu,uu,uu,uu,uu,uu,uu,uu,uu,uu,uu,uu,uu,uu,uu,uu,uu,uu,uu,uu,uu,uu,uu,uu,uu,uu])),[.box [(vcs w0),(vcs w1),(vci i0),(vci i1),(vci i2),(vcs w2)],.box [(vcs ByteArray.empty),(vci 0),(vcn)],.box [(vcs w0),(vci i3),(.own 3 0 0)],.arr kB 0 nilF,.arr kE 0 nilF]⟩
theorem t398v3 (x0:Nat × FF) :
  loopN (eB A10v8 (C47 u) u) N398v3 u (s398v6 n0 f0 i0 i1 i2 i3 w0 w1 w2 x0) k =
  L398v3 u i3 x0.1 x0.2 (Int.ofNat x0.1) w0 w1 i0 i1 i2 w2 u 0 0 nilF nilF (fun x1 x2=>k (.exit 0) (s398v3 x1 x2 i3 w0)) (fun x3 x4=>k (.exit 0) (s398v4 x3 x4 i3 w0)) :=
 Eq.trans (loopN_at (by kernel_rfl)) (q398v3 ..)
theorem g398v4 :
  (kBlk 0 (kSeq (C47 u) u (8 :: (rl 10 9 (rl 27 76 []))) A10v9 (finish A10))) (.exit 0) (s398v3 n0 f0 i0 w0) =
  (some [.agg [(.s w0),(vi i0),(ro kB n0 f0)]]):=by kernel_rfl
theorem g398v5 :
  (kBlk 0 (kSeq (C47 u) u (8 :: (rl 10 9 (rl 27 76 []))) A10v9 (finish A10))) (.exit 0) (s398v4 n0 f0 i0 w0) =
  (some [.agg [(.s w0),(vi i0),(ro kB n0 f0)]]):=by kernel_rfl
theorem e398:evalF (C47 u) u A10 [.agg [(.s w0),(.s w1),(vi i0),(vi i1),(vi i2),(.s w2)],.v (ro kA n0 f0),.v (vi i3)]=ob (FT398 u w0 w1 i0 i1 i2 w2 n0 f0 i3) fun t=>some (bif t.1 then [.agg [(.s t.2.1),(vi t.2.2.1),(.ro true kB 0 nilF)]] else [.agg [(.s t.2.1),(vi t.2.2.1),(ro kB t.2.2.2.1 t.2.2.2.2)]]):=Eq.trans (b:=(ob (F389 u i3 0 500) fun x0=>(bif (!x0) then (some [.agg [(.s w0),(vi i3),(.ro true kB 0 nilF)]]) else (ob (F391 u w0 w1 i0 i1 i2 w2 n0 f0) fun x1=>(loopN (eB A10v8 (C47 u) u) N398v3 u (s398v6 n0 f0 i0 i1 i2 i3 w0 w1 w2 x1) (kBlk 0 (kSeq (C47 u) u (8 :: (rl 10 9 (rl 27 76 []))) A10v9 (finish A10)))))))) (by kernel_rfl) (by
 simp only [FT398,ob_bif,ob_ob,ob_none,ob_some,nl398v3,t398v3,g398v4,g398v5,cond_true,cond_false])
def F398 (x0 x1:ByteArray) (x2 x3 x4:Int) (x5:ByteArray) (x6:Nat) (x7:FF) (x8:Int):Option (ByteArray × Int × Nat × FF):=ob (FT398 u x0 x1 x2 x3 x4 x5 x6 x7 x8) fun t=>some (bif t.1 then (t.2.1,t.2.2.1,0,(fun _ _=>.any)) else (t.2.1,t.2.2.1,t.2.2.2.1,t.2.2.2.2))
def O398:Ora:=mkO (qc (ag (tc cS (tc cS (tc ci (tc ci (tc ci (t1 cS))))))) (qc (av (cL kA)) (q1 (av ci)))) (fun x=>F398 u x.1.1 x.1.2.1 x.1.2.2.1 x.1.2.2.2.1 x.1.2.2.2.2.1 x.1.2.2.2.2.2 x.2.1.1 x.2.1.2 x.2.2) fun t=>[.agg [(.s t.1),(vi t.2.1),(ro kB t.2.2.1 t.2.2.2)]]
theorem d398:DO (O398 u) (C47 u) 10 A10:=dW u (fun x=>by exact e398 u x.2.1.1 x.2.1.2 x.1.2.2.1 x.1.2.2.2.1 x.1.2.2.2.2.1 x.2.2 x.1.1 x.1.2.1 x.1.2.2.2.2.2) (fun _=>rfl) fun t=>by
 obtain ⟨b,t⟩:=t
 cases b with
 | true=>exact (.cons (WkA.agg (.cons (Wk.refl _) (.cons (Wk.refl _) (.cons (Wk.ro (by rfl)) .nil)))) .nil)
 | false =>
  exact (.cons (WkA.agg (.cons (Wk.refl _) (.cons (Wk.refl _) (.cons (Wk.refl _) .nil)))) .nil)
def C48:Oracle:=(C47 u).add 10 (fun _=>true) (O398 u)
def B58:An tT Tryz.f58 [.k (rl 4 15 []),.h [],.k (rl 2 5 (rl 9 10 [])),.k [],.k (rl 0 19 []),.k (4 :: 5 :: (rl 10 8 [])),.k (rl 0 4 (rl 5 14 [])),.k (rl 0 4 (rl 5 14 []))]:=by
 apply Subtype.mk;cbv<;>exact rfl
def A58:AF:=B58.1
def A58v4:AC:=sA A58.body [1,1]
def A58v3:AC:=sA A58.body [1,0,1,0,0]
def N338v1:St→Option St:=nN 0 (rl 2 5 (rl 9 10 []))
def s338v0:St:=⟨(.x (.c (ro kD n0 f0)) :: vxi i0 :: (us 5 (vxi i1 :: vxi i2 :: (us 10 [])))),[]⟩
def s338v1:St:=⟨(us 4 (vxi i0 :: (us 14 []))),[]⟩
def s338v2:St:=⟨(us 19 []),[]⟩
def L338v1 {ρ:Type} (u:Nat) (x0:Nat) (x1:FF) (x2 x3:Int):Nat→Int→(Int→Option ρ)→(Option ρ)→Option ρ
 | 0,_,_,_=>none
 | m+1,x4,k0,k1 =>
  (bif (decide (x4<x3)) then (bif (inb x4 x0) then (bif (x2==(x1 x4.toNat 0).int) then (k0 x4) else (L338v1 u x0 x1 x2 x3 m (w64 (x4+1)) k0 k1)) else none) else k1)
theorem nl338v1:∀ (m:Nat) (x0:Int) (k0:Int→Option ρ) (k1:Option ρ),ob (L338v1 u n0 f0 i0 i1 m x0 k0 k1) ng=L338v1 u n0 f0 i0 i1 m x0 (fun x1=>ob (k0 x1) ng) (ob k1 ng)
 | 0,_,_,_=>rfl
 | m+1,x0,k0,k1=>by
  simp only [L338v1,ob_bif,ob_ob,ob_none,nl338v1 m]
theorem q338v1:∀ (m:Nat) (x0:Int),
  loopH (eB A58v3 (C48 u) u) N338v1 m (s338v0 n0 f0 i0 i1 x0) k=L338v1 u n0 f0 i0 i1 m x0 (fun x1=>k .ret (s338v1 x1)) (k (.exit 0) s338v2)
 | 0,_=>rfl
 | m+1,x0=>by
  simp only [L338v1,← q338v1 m]
  kernel_rfl
def F338 (x0:Nat) (x1:FF) (x2:Int):Option (Int) :=
 (L338v1 u x0 x1 x2 (Int.ofNat x0) u 0
  (fun x3=>(some x3))
  (some (-1)))
def s338v3:St:=⟨[.x (.c (ro kD n0 f0)),vxi i0,uu,uu,vxi 0,uu,.x (.c (ro kD n0 f0)),vxi (Int.ofNat n0),vxi 0,uu,uu,uu,uu,uu,uu,uu,uu,uu,uu],[]⟩
theorem t338v1 :
  loopN (eB A58v3 (C48 u) u) N338v1 u (s338v3 n0 f0 i0) k =
  L338v1 u n0 f0 i0 (Int.ofNat n0) u 0 (fun x0=>k .ret (s338v1 x0)) (k (.exit 0) s338v2) :=
 Eq.trans (loopN_at (by kernel_rfl)) (q338v1 ..)
theorem g338v2 :
  (kBlk 0 (kSeq (C48 u) u (rl 4 15 []) A58v4 (finish A58))) .ret (s338v1 i0) =
  (some [.v (vi i0)]):=by kernel_rfl
theorem g338v3 :
  (kBlk 0 (kSeq (C48 u) u (rl 4 15 []) A58v4 (finish A58))) (.exit 0) s338v2 =
  (some [.v (vi (-1))]):=by kernel_rfl
theorem e338:evalF (C48 u) u A58 [.v (ro kD n0 f0),.v (vi i0)]=ob (F338 u n0 f0 i0) fun t=>some [.v (vi t)]:=Eq.trans (b:=(loopN (eB A58v3 (C48 u) u) N338v1 u (s338v3 n0 f0 i0) (kBlk 0 (kSeq (C48 u) u (rl 4 15 []) A58v4 (finish A58))))) (by kernel_rfl) (by
 simp only [F338,ob_bif,ob_ob,ob_none,ob_some,nl338v1,t338v1,g338v2,g338v3])
def O338:Ora:=mkO (qc (av (cL kD)) (q1 (av ci))) (fun x=>F338 u x.1.1 x.1.2 x.2) fun t=>[.v (vi t)]
theorem d338:DO (O338 u) (C48 u) 58 A58:=dO u (fun x=>by exact e338 u x.1.1 x.1.2 x.2)
def C49:Oracle:=(C48 u).add 58 (fun _=>true) (O338 u)
def A34v1:AC:=(.region 13 [o1 72 (bk .add 3 37 1),mv 37 72] 0 none)
def A34v2:AC:=(.seq (.block 3
 (.seq (.region 9 [o1 39 (.indexAddr 79 3 1 (tm 35) (tm 37)),o1 40 (lo 3 39),o1 17 (sg 40)] 0 none) []
  (.seq (.region 10 [mv 41 2,mv 42 17,o1 43 (cs 58 [41,42] [79,3]),mv 44 2,mv 45 14,o1 46 (cs 58 [44,45] [79,3]),o1 47 (bt .lss 3 43 46)] 0 none) []
  (.cond (tm 47)
  (.region 11 [o1 48 (fa 42 15 0 0),o1 49 (lo 3 48),mv 50 11,mv 51 17,o1 52 (.indexAddr 65 72 4 (tm 50) (tm 51)),o1 53 (fa 72 52 1 2),o1 54 (fa 42 53 0 0),o1 55 (lo 3 54),mv 56 12,o1 57 (bt .add 3 55 56),o1 58 (.mm true [(tm 49),(tm 57)] [3,3]),o1 59 (fa 42 15 0 0),o0 (.store 3 1 (tm 59) (tm 58))] 0 (some [[],[0],[],[],[2,3],[2,3,4],(rl 2 4 []),(rl 2 5 []),[],(rl 2 7 []),(rl 0 10 []),(rl 0 11 []),(rl 0 12 [])]))
  (.region 12 [o1 60 (fa 42 15 1 1),o1 61 (lo 3 60),mv 62 11,mv 63 17,o1 64 (.indexAddr 65 72 4 (tm 62) (tm 63)),o1 65 (fa 72 64 1 2),o1 66 (fa 42 65 1 1),o1 67 (lo 3 66),mv 68 12,o1 69 (bt .add 3 67 68),o1 70 (.mm true [(tm 61),(tm 69)] [3,3]),o1 71 (fa 42 15 1 1),o0 (.store 3 1 (tm 71) (tm 70))] 0 (some [[],[0],[],[],[2,3],[2,3,4],(rl 2 4 []),(rl 2 5 []),[],(rl 2 7 []),(rl 0 10 []),(rl 0 11 []),(rl 0 12 [])])))))) (17 :: (rl 39 33 []))
 A34v1)
def A34v3:AC:=(.seq (.region 8 [o1 38 (bt .lss 3 37 36)] 0 none) []
 (.seq (.cond (tm 38)
 .skip
 (.exit 2 (rl 5 6 (13 :: (rl 16 7 (rl 26 62 [])))))) []
 A34v2))
def A34v4:AC:=(.region 14 [mv 73 11,mv 74 14,mv 75 0,mv 76 14,o1 77 (.indexAddr 24 58 18 (tm 75) (tm 76)),o1 78 (ln 58 18 77),mv 79 1,mv 80 14,o1 81 (.indexAddr 79 3 1 (tm 79) (tm 80)),o1 82 (lo 3 81),o1 83 (ln 42 2 15),o1 84 (cs 26 [78,82,83] [58,3,42]),o1 85 (.indexAddr 65 72 4 (tm 73) (tm 74)),o0 (.store 72 4 (tm 85) (tm 84))] 0 (some [[],[],[],[],[2,3],[2,3,4],[],[],[6,7],[6,7,8],[],(rl 2 9 []),(rl 0 12 []),(rl 0 13 [])]))
def A34v5:AC:=(.region 15 [o1 86 (bk .add 3 25 1),mv 25 86] 0 none)
def A34v6:AC:=(.seq (.block 1
 (.seq (.region 5 [mv 27 25,o1 28 (.indexAddr 79 3 1 (tm 23) (tm 25)),o1 29 (lo 3 28),o1 13 (sg 27),o1 14 (sg 29)] 0 none) []
  (.seq (.region 6 [mv 30 4,mv 31 4,o1 32 (.build 42 [vci 0,vci 0] [(0,1),(1,1)] 0 [(0,(tm 30)),(1,(tm 31))]),o1 15 (.alloc 0 42 [vci 0,vci 0]),o0 (.store 42 2 (tm 15) (tm 32))] 1 none) []
  (.seq (.seq (.region 7 [mv 33 3,mv 34 13,o1 35 (.slice 79 3 1 (tm 33) none (some (tm 34)) none),o1 36 (.len 79 false (tm 35)),o1 37 (.move (ic 0))] 0 none) []
  (.block 2
  (.loop [] (rl 5 6 (13 :: (rl 16 7 (rl 26 9 (rl 38 50 [])))))
   A34v3))) (17 :: (rl 33 40 []))
  A34v4)))) (13 :: 14 :: 15 :: 17 :: (rl 27 59 []))
 A34v5)
def A34v7:AC:=(.seq (.region 4 [o1 26 (bt .lss 3 25 24)] 0 none) []
 (.seq (.cond (tm 26)
 .skip
 (.exit 0 (rl 0 11 (rl 12 76 [])))) []
 A34v6))
def A34v8:AC:=(.seq (.region 16 [mv 87 11,o1 10 (sg 87)] 0 none) []
 (.ret (rl 0 10 (rl 11 77 []))))
def A34:AF:=⟨88,[.tmp 10],
 (.seq (.region 0 [o1 10 (.assign (.const (.slice none 0 0)))] 0 none) []
 (.seq (.region 1 [mv 18 0,o1 19 (.len 24 false (tm 18)),o1 20 (.makeSlice 0 65 72 kE 32 [(vi 0),(vi 0),(vi 0),(vi 0)] (tm 19) (tm 19)),o1 11 (sg 20)] 1 none) []
 (.seq (.region 2 [mv 21 4,o1 22 (.mm true [(tm 21),(ic 1)] [3,3]),o1 12 (sg 22)] 0 none) []
 (.seq (.seq (.region 3 [mv 23 3,o1 24 (.len 79 false (tm 23)),o1 25 (.move (ic 0))] 0 none) []
 (.block 0
 (.loop [] (rl 5 6 (rl 13 10 (rl 26 62 [])))
  A34v7))) (13 :: 14 :: 15 :: 17 :: (rl 23 64 []))
 A34v8))))⟩
def N399v2:St→Option St:=nN 2 (rl 5 6 (13 :: (rl 16 7 (rl 26 9 (rl 38 50 [])))))
def s399v0:St:=⟨(.x (.c (ro kA n0 f0)) :: .x (.c (ro kD n1 f1)) :: .x (.c (ro kD n2 f2)) :: .x (.c (ro kD n3 f3)) :: vxi i0 :: (us 6 (.x (.own 0 0 n4) :: vxi i1 :: .u :: vxi i2 :: .x (.ptr 1 0) :: (us 7 (.x (.c (ro kD n3 f3)) :: vxi i3 :: vxi i4 :: (us 9 (.x (.c (ro kD n5 f3)) :: vxi i5 :: vxi i6 :: (us 50 [])))))))),[.arr kE n4 f4,.box [(vci i7),(vci i8)]]⟩
def s399v1:St:=⟨(.x (.c (ro kA n0 f0)) :: .x (.c (ro kD n1 f1)) :: .x (.c (ro kD n2 f2)) :: .x (.c (ro kD n3 f3)) :: vxi i0 :: (us 6 (.x (.own 0 0 n4) :: vxi i1 :: .u :: vxi i2 :: .x (.ptr 1 0) :: (us 7 (.x (.c (ro kD n3 f3)) :: vxi i3 :: vxi i4 :: (us 62 [])))))),[.arr kE n4 f4,.box [(vci i5),(vci i6)]]⟩
def L399v2 {ρ:Type} (u:Nat) (x0:Nat) (x1:FF) (x2:Nat) (x3:FF) (x4:Nat) (x5:FF) (x6:Nat) (x7:FF) (x8:Int) (x9:Nat) (xA xB xC xD:Int) (xE:Nat) (xF:Int) (xG:FF):Nat→Int→Int→Int→(Int→Int→Option ρ)→Option ρ
 | 0,_,_,_,_=>none
 | m+1,xH,xI,xJ,k0 =>
  (bif (decide (xH<xF)) then (bif (inb xH xE) then (ob (F338 u x4 x5 (x7 xH.toNat 0).int) fun xK=>(ob (F338 u x4 x5 xB) fun xL=>(bif (decide (xK<xL)) then (bif (inb (x7 xH.toNat 0).int x9) then (L399v2 u x0 x1 x2 x3 x4 x5 x6 x7 x8 x9 xA xB xC xD xE xF xG m (w64 (xH+1)) (if (w64 ((CV.int (xG (0+(Int.toNat (x7 xH.toNat 0).int)) 2))+xA))>xI then (w64 ((CV.int (xG (0+(Int.toNat (x7 xH.toNat 0).int)) 2))+xA)) else xI) xJ k0) else none) else (bif (inb (x7 xH.toNat 0).int x9) then (L399v2 u x0 x1 x2 x3 x4 x5 x6 x7 x8 x9 xA xB xC xD xE xF xG m (w64 (xH+1)) xI (if (w64 ((CV.int (xG (0+(Int.toNat (x7 xH.toNat 0).int)) 3))+xA))>xJ then (w64 ((CV.int (xG (0+(Int.toNat (x7 xH.toNat 0).int)) 3))+xA)) else xJ) k0) else none)))) else none) else (k0 xI xJ))
theorem nl399v2:∀ (m:Nat) (x0 x1 x2:Int) (k0:Int→Int→Option ρ),ob (L399v2 u n0 f0 n1 f1 n2 f2 n3 f3 i0 n4 i1 i2 i3 i4 n5 i5 f4 m x0 x1 x2 k0) ng=L399v2 u n0 f0 n1 f1 n2 f2 n3 f3 i0 n4 i1 i2 i3 i4 n5 i5 f4 m x0 x1 x2 (fun x3 x4=>ob (k0 x3 x4) ng)
 | 0,_,_,_,_=>rfl
 | m+1,x0,x1,x2,k0=>by
  simp only [L399v2,ob_bif,ob_ob,ob_none,nl399v2 m]
theorem q399v2:∀ (m:Nat) (x0 x1 x2:Int),
  loopH (eB A34v3 (C49 u) u) N399v2 m (s399v0 n0 n1 n2 n3 n4 n5 f0 f1 f2 f3 f4 i0 i1 i2 i3 i4 i5 x0 x1 x2) k=L399v2 u n0 f0 n1 f1 n2 f2 n3 f3 i0 n4 i1 i2 i3 i4 n5 i5 f4 m x0 x1 x2 (fun x3 x4=>k (.exit 2) (s399v1 n0 n1 n2 n3 n4 f0 f1 f2 f3 f4 i0 i1 i2 i3 i4 x3 x4))
 | 0,_,_,_=>rfl
 | m+1,x0,x1,x2=>by
  simp only [L399v2,← q399v2 m]
  kernel_rfl
def N399v3:St→Option St:=nN 1 (rl 5 6 (rl 13 10 (rl 26 62 [])))
def s399v2:St:=⟨(.x (.c (ro kA n0 f0)) :: .x (.c (ro kD n1 f1)) :: .x (.c (ro kD n2 f2)) :: .x (.c (ro kD n3 f3)) :: vxi i0 :: (us 6 (.x (.own 0 0 n4) :: vxi i1 :: (us 10 (.x (.c (ro kD n3 f3)) :: vxi i2 :: vxi i3 :: (us 62 [])))))),[.arr kE n4 f4]⟩
def s399v3:St:=⟨(us 11 (.x (.own 0 0 n0) :: (us 76 []))),[.arr kE n0 f0]⟩
def L399v3 {ρ:Type} (u:Nat) (x0:Nat) (x1:FF) (x2:Nat) (x3:FF) (x4:Nat) (x5:FF) (x6:Nat) (x7:FF) (x8:Int) (x9:Nat) (xA xB:Int):Nat→Int→FF→(FF→Option ρ)→Option ρ
 | 0,_,_,_=>none
 | m+1,xC,xD,k0 =>
  (bif (decide (xC<xB)) then (bif (inb xC x6) then (bif (inbe xC x6) then (L399v2 u x0 x1 x2 x3 x4 x5 x6 x7 x8 x9 xA (x7 xC.toNat 0).int xB xC (xC.toNat-0) (Int.ofNat (xC.toNat-0)) xD u 0 x8 x8
  (fun xE xF=>(bif (inb (x7 xC.toNat 0).int x0) then (bif (inb (x7 xC.toNat 0).int x2) then (ob (F397 u (listF [(.s (CV.str (x1 (Int.toNat (x7 xC.toNat 0).int) 0))),(.i .i64 (CV.int (x1 (Int.toNat (x7 xC.toNat 0).int) 1))),(.i .i64 (CV.int (x1 (Int.toNat (x7 xC.toNat 0).int) 2))),(.s (CV.str (x1 (Int.toNat (x7 xC.toNat 0).int) 3))),(.s (CV.str (x1 (Int.toNat (x7 xC.toNat 0).int) 4))),(.i .i64 (CV.int (x1 (Int.toNat (x7 xC.toNat 0).int) 5))),(.ro false (.pr (.int .i64) (.pr (.int .i64) .nil)) (CV.len (x1 (Int.toNat (x7 xC.toNat 0).int) 6)) (CV.el (x1 (Int.toNat (x7 xC.toNat 0).int) 6))),(.ro false (.pr (.sl (.pr (.int .i64) (.pr (.int .i64) .nil))) .nil) (CV.len (x1 (Int.toNat (x7 xC.toNat 0).int) 7)) (CV.el (x1 (Int.toNat (x7 xC.toNat 0).int) 7))),(.s (CV.str (x1 (Int.toNat (x7 xC.toNat 0).int) 8))),(.i .i64 (CV.int (x1 (Int.toNat (x7 xC.toNat 0).int) 9))),(.i .i64 (CV.int (x1 (Int.toNat (x7 xC.toNat 0).int) 10))),(.i .i64 (CV.int (x1 (Int.toNat (x7 xC.toNat 0).int) 11))),(.i .i64 (CV.int (x1 (Int.toNat (x7 xC.toNat 0).int) 12))),(.i .i64 (CV.int (x1 (Int.toNat (x7 xC.toNat 0).int) 13))),(.i .i64 (CV.int (x1 (Int.toNat (x7 xC.toNat 0).int) 14))),(.i .i64 (CV.int (x1 (Int.toNat (x7 xC.toNat 0).int) 15))),(.i .i64 (CV.int (x1 (Int.toNat (x7 xC.toNat 0).int) 16))),(.i .i64 (CV.int (x1 (Int.toNat (x7 xC.toNat 0).int) 17)))]) (CV.int (x3 (Int.toNat (x7 xC.toNat 0).int) 0)) xE xF) fun xG=>(bif (inb (x7 xC.toNat 0).int x9) then (L399v3 u x0 x1 x2 x3 x4 x5 x6 x7 x8 x9 xA xB m (w64 (xC+1)) (setF xD (0+(Int.toNat (x7 xC.toNat 0).int)) 0 4 (listF [(.i .i64 xG.1),(.i .i64 xG.2.1),(.i .i64 xG.2.2.1),(.i .i64 xG.2.2.2)])) k0) else none)) else none) else none))) else none) else none) else (k0 xD))
theorem nl399v3:∀ (m:Nat) (x0:Int) (x1:FF) (k0:FF→Option ρ),ob (L399v3 u n0 f0 n1 f1 n2 f2 n3 f3 i0 n4 i1 i2 m x0 x1 k0) ng=L399v3 u n0 f0 n1 f1 n2 f2 n3 f3 i0 n4 i1 i2 m x0 x1 (fun x2=>ob (k0 x2) ng)
 | 0,_,_,_=>rfl
 | m+1,x0,x1,k0=>by
  simp only [L399v3,ob_bif,ob_ob,ob_none,nl399v3 m,nl399v2]
def s399v4:St:=⟨(.x (.c (ro kA n0 f0)) :: .x (.c (ro kD n1 f1)) :: .x (.c (ro kD n2 f2)) :: .x (.c (ro kD n3 f3)) :: vxi i0 :: (us 6 (.x (.own 0 0 n4) :: vxi i1 :: vxi i2 :: vxi (f3 i2.toNat 0).int :: .x (.ptr 1 0) :: (us 7 (.x (.c (ro kD n3 f3)) :: vxi i3 :: vxi i2 :: vxb true :: vxi i2 :: .x (.c (.rp kD (f3 i2.toNat))) :: vxi (f3 i2.toNat 0).int :: vxi i0 :: vxi i0 :: .agg [(vci i0),(vci i0)] :: .x (.c (ro kD n3 f3)) :: vxi i2 :: .x (.c (ro kD (i2.toNat-0) f3)) :: vxi (Int.ofNat (i2.toNat-0)) :: vxi 0 :: (us 50 [])))))),[.arr kE n4 f4,.box [(vci i0),(vci i0)]]⟩
theorem r399v3 :
  loopH (eB A34v7 (C49 u) u) N399v3 (m+1) (s399v2 n0 n1 n2 n3 n4 f0 f1 f2 f3 f4 i0 i1 i2 i3) k =
  (bif (decide (i3<i2)) then (bif (inb i3 n3) then (bif (inbe i3 n3) then (loopN (eB A34v3 (C49 u) u) N399v2 u (s399v4 n0 n1 n2 n3 n4 f0 f1 f2 f3 f4 i0 i1 i3 i2) (kBlk 2 (kSeq (C49 u) u (17 :: (rl 33 40 [])) A34v4 (kBlk 1 (kSeq (C49 u) u (13 :: 14 :: 15 :: 17 :: (rl 27 59 [])) A34v5 (kLoop (eB A34v7 (C49 u) u) N399v3 m k)))))) else none) else none) else (k (.exit 0) (s399v3 n4 f4))):=by kernel_rfl
theorem t399v1 :
  loopN (eB A34v3 (C49 u) u) N399v2 u (s399v4 n0 n1 n2 n3 n4 f0 f1 f2 f3 f4 i0 i1 i2 i3) k =
  L399v2 u n0 f0 n1 f1 n2 f2 n3 f3 i0 n4 i1 (f3 i2.toNat 0).int i3 i2 (i2.toNat-0) (Int.ofNat (i2.toNat-0)) f4 u 0 i0 i0 (fun x0 x1=>k (.exit 2) (s399v1 n0 n1 n2 n3 n4 f0 f1 f2 f3 f4 i0 i1 (f3 i2.toNat 0).int i3 i2 x0 x1)) :=
 Eq.trans (loopN_at (by kernel_rfl)) (q399v2 ..)
theorem g399v2 :
  (kBlk 2 (kSeq (C49 u) u (17 :: (rl 33 40 [])) A34v4 (kBlk 1 (kSeq (C49 u) u (13 :: 14 :: 15 :: 17 :: (rl 27 59 [])) A34v5 (kLoop (eB A34v7 (C49 u) u) N399v3 m k))))) (.exit 2) (s399v1 n0 n1 n2 n3 n4 f0 f1 f2 f3 f4 i0 i1 (f3 i2.toNat 0).int i3 i2 i4 i5) =
  (bif (inb (f3 i2.toNat 0).int n0) then (bif (inb (f3 i2.toNat 0).int n1) then (ob (F397 u (listF [(.s (CV.str (f0 (Int.toNat (f3 i2.toNat 0).int) 0))),(vi (CV.int (f0 (Int.toNat (f3 i2.toNat 0).int) 1))),(vi (CV.int (f0 (Int.toNat (f3 i2.toNat 0).int) 2))),(.s (CV.str (f0 (Int.toNat (f3 i2.toNat 0).int) 3))),(.s (CV.str (f0 (Int.toNat (f3 i2.toNat 0).int) 4))),(vi (CV.int (f0 (Int.toNat (f3 i2.toNat 0).int) 5))),(ro kP (CV.len (f0 (Int.toNat (f3 i2.toNat 0).int) 6)) (CV.el (f0 (Int.toNat (f3 i2.toNat 0).int) 6))),(ro kF (CV.len (f0 (Int.toNat (f3 i2.toNat 0).int) 7)) (CV.el (f0 (Int.toNat (f3 i2.toNat 0).int) 7))),(.s (CV.str (f0 (Int.toNat (f3 i2.toNat 0).int) 8))),(vi (CV.int (f0 (Int.toNat (f3 i2.toNat 0).int) 9))),(vi (CV.int (f0 (Int.toNat (f3 i2.toNat 0).int) 10))),(vi (CV.int (f0 (Int.toNat (f3 i2.toNat 0).int) 11))),(vi (CV.int (f0 (Int.toNat (f3 i2.toNat 0).int) 12))),(vi (CV.int (f0 (Int.toNat (f3 i2.toNat 0).int) 13))),(vi (CV.int (f0 (Int.toNat (f3 i2.toNat 0).int) 14))),(vi (CV.int (f0 (Int.toNat (f3 i2.toNat 0).int) 15))),(vi (CV.int (f0 (Int.toNat (f3 i2.toNat 0).int) 16))),(vi (CV.int (f0 (Int.toNat (f3 i2.toNat 0).int) 17)))]) (CV.int (f1 (Int.toNat (f3 i2.toNat 0).int) 0)) i4 i5) fun x0=>(bif (inb (f3 i2.toNat 0).int n4) then (loopH (eB A34v7 (C49 u) u) N399v3 m (s399v2 n0 n1 n2 n3 n4 f0 f1 f2 f3 (setF f4 (0+(Int.toNat (f3 i2.toNat 0).int)) 0 4 (listF [(vi x0.1),(vi x0.2.1),(vi x0.2.2.1),(vi x0.2.2.2)])) i0 i1 i3 (w64 (i2+1))) k) else none)) else none) else none):=by kernel_rfl
theorem q399v3:∀ (m:Nat) (x0:Int) (x1:FF),
  loopH (eB A34v7 (C49 u) u) N399v3 m (s399v2 n0 n1 n2 n3 n4 f0 f1 f2 f3 x1 i0 i1 i2 x0) k=L399v3 u n0 f0 n1 f1 n2 f2 n3 f3 i0 n4 i1 i2 m x0 x1 (fun x2=>k (.exit 0) (s399v3 n4 x2))
 | 0,_,_=>rfl
 | m+1,x0,x1=>by
  rw [r399v3]
  simp only [L399v3,q399v3 m,t399v1,g399v2]
def F399 (x0:Nat) (x1:FF) (x2:Nat) (x3:FF) (x4:Nat) (x5:FF) (x6:Nat) (x7:FF) (x8:Int):Option (Nat × FF) :=
 (bif (decide (0≤(Int.ofNat x0))&&decide ((Int.ofNat x0)≤(Int.ofNat x0))&&decide ((Int.ofNat x0)≤1073741824)&&true) then (L399v3 u x0 x1 x2 x3 x4 x5 x6 x7 x8 (Int.toNat (Int.ofNat x0)) (if 1>x8 then 1 else x8) (Int.ofNat x6) u 0 (fun _ j=>listF [(.i .i64 0),(.i .i64 0),(.i .i64 0),(.i .i64 0)] j)
  (fun x9=>(some ((Int.toNat (Int.ofNat x0)),x9)))) else none)
def s399v5:St:=⟨[.x (.c (ro kA n0 f0)),.x (.c (ro kD n1 f1)),.x (.c (ro kD n2 f2)),.x (.c (ro kD n3 f3)),vxi i0,uu,uu,uu,uu,uu,.x (vcn),.x (.own 0 0 (Int.toNat (Int.ofNat n0))),vxi (if 1>i0 then 1 else i0),uu,uu,uu,uu,uu,.x (.c (ro kA n0 f0)),vxi (Int.ofNat n0),.x (.own 0 0 (Int.toNat (Int.ofNat n0))),vxi i0,vxi (if 1>i0 then 1 else i0),.x (.c (ro kD n3 f3)),vxi (Int.ofNat n3),vxi 0,uu,uu,uu,uu,uu,uu,uu,uu,uu,uu,uu,uu,uu,uu,uu,uu,uu,uu,uu,uu,uu,uu,uu,uu,uu,uu,uu,uu,uu,uu,uu,uu,uu,uu,uu,uu,uu,uu,uu,uu,uu,uu,uu,uu,uu,uu,uu,uu,uu,uu,uu,uu,uu,uu,uu,uu,uu,uu,uu,uu,uu,uu],[.arr kE (Int.toNat (Int.ofNat n0)) (fun _ j=>listF [(vi 0),(vi 0),(vi 0),(vi 0)] j)]⟩
theorem t399v3 :
  loopN (eB A34v7 (C49 u) u) N399v3 u (s399v5 n0 n1 n2 n3 f0 f1 f2 f3 i0) k =
  L399v3 u n0 f0 n1 f1 n2 f2 n3 f3 i0 (Int.toNat (Int.ofNat n0)) (if 1>i0 then 1 else i0) (Int.ofNat n3) u 0 (fun _ j=>listF [(vi 0),(vi 0),(vi 0),(vi 0)] j) (fun x0=>k (.exit 0) (s399v3 (Int.toNat (Int.ofNat n0)) x0)) :=
 Eq.trans (loopN_at (by kernel_rfl)) (q399v3 ..)
theorem g399v4 :
  (kBlk 0 (kSeq (C49 u) u (13 :: 14 :: 15 :: 17 :: (rl 23 64 [])) A34v8 (finish A34))) (.exit 0) (s399v3 (Int.toNat (Int.ofNat n0)) f0) =
  (some [.v (ro kE (Int.toNat (Int.ofNat n0)) f0)]):=by kernel_rfl
theorem e399:evalF (C49 u) u A34 [.v (ro kA n0 f0),.v (ro kD n1 f1),.v (ro kD n2 f2),.v (ro kD n3 f3),.v (vi i0)]=ob (F399 u n0 f0 n1 f1 n2 f2 n3 f3 i0) fun t=>some [.v (ro kE t.1 t.2)]:=Eq.trans (b:=(bif (decide (0≤(Int.ofNat n0))&&decide ((Int.ofNat n0)≤(Int.ofNat n0))&&decide ((Int.ofNat n0)≤1073741824)&&true) then (loopN (eB A34v7 (C49 u) u) N399v3 u (s399v5 n0 n1 n2 n3 f0 f1 f2 f3 i0) (kBlk 0 (kSeq (C49 u) u (13 :: 14 :: 15 :: 17 :: (rl 23 64 [])) A34v8 (finish A34)))) else none)) (by kernel_rfl) (by
 simp only [F399,ob_bif,ob_ob,ob_none,ob_some,nl399v3,t399v3,g399v4])
def O399:Ora:=mkO (qc (av (cL kA)) (qc (av (cL kD)) (qc (av (cL kD)) (qc (av (cL kD)) (q1 (av ci)))))) (fun x=>F399 u x.1.1 x.1.2 x.2.1.1 x.2.1.2 x.2.2.1.1 x.2.2.1.2 x.2.2.2.1.1 x.2.2.2.1.2 x.2.2.2.2) fun t=>[.v (ro kE t.1 t.2)]
theorem d399:DO (O399 u) (C49 u) 34 A34:=dO u (fun x=>by exact e399 u x.1.1 x.2.1.1 x.2.2.1.1 x.2.2.2.1.1 x.1.2 x.2.1.2 x.2.2.1.2 x.2.2.2.1.2 x.2.2.2.2)
def C50:Oracle:=(C49 u).add 34 (fun _=>true) (O399 u)
def B33:An tT Tryz.f33 [.k (13 :: 15 :: 17 :: 18 :: 19 :: (rl 24 81 [])),.h [.cell 14 2 kB,.slot 15 kE],.k (0 :: 3 :: (rl 7 5 (13 :: (rl 16 8 (rl 27 79 []))))),.k [],.g [0,4],.k (rl 0 12 (13 :: (rl 15 91 []))),.k (13 :: 17 :: 18 :: 19 :: (rl 28 76 [])),.k (13 :: (rl 47 44 [])),.g (0 :: (rl 2 4 [])),.k (rl 0 12 (rl 14 92 [])),.g [0,2,4],.k (rl 0 12 (rl 14 92 []))]:=by
 apply Subtype.mk;cbv<;>exact rfl
def A33:AF:=B33.1
def A33v5:AC:=sA A33.body [1,1,1,1]
def A33v4:AC:=sA A33.body [1,1,1,0,1,0,0]
def N400v1:St→Option St:=nN 5 (0 :: 3 :: (rl 7 5 (13 :: (rl 16 8 (rl 27 79 [])))))
def s400v0:St:=⟨(.u :: .x (.c (ro kA n0 f0)) :: .x (.c (ro kD n1 f1)) :: .u :: .x (.c (ro kE n2 f2)) :: vxi i0 :: .x (.ptr 0 0) :: (us 5 (.x (.ptr 1 0) :: .u :: .x (.ptr 2 0) :: .x (.own 4 0 n3) :: (us 8 (.x (.c (ro kD n4 f3)) :: vxi i1 :: vxi i2 :: (us 79 [])))))),[.box [(vcs w0),(vcs w1),(vci i3),(vci i4),(vci i5),(vcs w2)],.box [(vcs ByteArray.empty),(vci 0),(vcn)],.box [(vcs w0),(vci i0),(.own 3 0 n3)],.arr kB n3 f4,.arr kE n3 f5]⟩
def s400v1:St:=⟨(us 12 (.x (.ptr 1 0) :: vxb false :: (us 92 []))),[.dead,.box [(vcs ByteArray.empty),(vci 0),(.c (.ro true kB 0 nilF))],.dead,.dead,.dead,.dead]⟩
def s400v2:St:=⟨(us 12 (.x (.ptr 1 0) :: .u :: .x (.ptr 2 0) :: (us 91 []))),[.dead,.box [(vcs ByteArray.empty),(vci 0),(vcn)],.box [(vcs w0),(vci i0),(.own 3 0 n0)],.arr kB n0 f0,.dead]⟩
def L400v1 {ρ:Type} (u:Nat) (x0:Nat) (x1:FF) (x2:Nat) (x3:FF) (x4:Nat) (x5:FF) (x6:Int) (x7:Nat) (x8:FF) (x9:Int) (xA xB:ByteArray) (xC xD xE:Int) (xF:ByteArray):Nat→Nat→Int→FF→FF→(Option ρ)→(Nat→FF→Option ρ)→Option ρ
 | 0,_,_,_,_,_,_=>none
 | m+1,xG,xH,xI,xJ,k0,k1 =>
  (bif (decide (xH<x9)) then (bif (inb xH x7) then (bif (inb (x8 xH.toNat 0).int x0) then (bif (inb (x8 xH.toNat 0).int x2) then (bif (inb (x8 xH.toNat 0).int x4) then (ob (F394 u (listF [(.s (CV.str (x1 (Int.toNat (x8 xH.toNat 0).int) 0))),(.i .i64 (CV.int (x1 (Int.toNat (x8 xH.toNat 0).int) 1))),(.i .i64 (CV.int (x1 (Int.toNat (x8 xH.toNat 0).int) 2))),(.s (CV.str (x1 (Int.toNat (x8 xH.toNat 0).int) 3))),(.s (CV.str (x1 (Int.toNat (x8 xH.toNat 0).int) 4))),(.i .i64 (CV.int (x1 (Int.toNat (x8 xH.toNat 0).int) 5))),(.ro false (.pr (.int .i64) (.pr (.int .i64) .nil)) (CV.len (x1 (Int.toNat (x8 xH.toNat 0).int) 6)) (CV.el (x1 (Int.toNat (x8 xH.toNat 0).int) 6))),(.ro false (.pr (.sl (.pr (.int .i64) (.pr (.int .i64) .nil))) .nil) (CV.len (x1 (Int.toNat (x8 xH.toNat 0).int) 7)) (CV.el (x1 (Int.toNat (x8 xH.toNat 0).int) 7))),(.s (CV.str (x1 (Int.toNat (x8 xH.toNat 0).int) 8))),(.i .i64 (CV.int (x1 (Int.toNat (x8 xH.toNat 0).int) 9))),(.i .i64 (CV.int (x1 (Int.toNat (x8 xH.toNat 0).int) 10))),(.i .i64 (CV.int (x1 (Int.toNat (x8 xH.toNat 0).int) 11))),(.i .i64 (CV.int (x1 (Int.toNat (x8 xH.toNat 0).int) 12))),(.i .i64 (CV.int (x1 (Int.toNat (x8 xH.toNat 0).int) 13))),(.i .i64 (CV.int (x1 (Int.toNat (x8 xH.toNat 0).int) 14))),(.i .i64 (CV.int (x1 (Int.toNat (x8 xH.toNat 0).int) 15))),(.i .i64 (CV.int (x1 (Int.toNat (x8 xH.toNat 0).int) 16))),(.i .i64 (CV.int (x1 (Int.toNat (x8 xH.toNat 0).int) 17)))]) (CV.int (x3 (Int.toNat (x8 xH.toNat 0).int) 0)) (CV.int (x5 (Int.toNat (x8 xH.toNat 0).int) 0)) (CV.int (x5 (Int.toNat (x8 xH.toNat 0).int) 1))) fun xK=>(bif ((!xK.2.2.2.2.2)==false) then (bif (inb (x8 xH.toNat 0).int x4) then (bif (inb (x8 xH.toNat 0).int x4) then (bif (inb (x8 xH.toNat 0).int x4) then (bif (inb (x8 xH.toNat 0).int x4) then (bif (inb (x8 xH.toNat 0).int x4) then (ob (F395 u xD xE xG xJ (CV.int (x5 (Int.toNat (x8 xH.toNat 0).int) 0)) (CV.int (x5 (Int.toNat (x8 xH.toNat 0).int) 1)) (w64 ((CV.int (x5 (Int.toNat (x8 xH.toNat 0).int) 2))-(CV.int (x5 (Int.toNat (x8 xH.toNat 0).int) 0)))) (w64 ((CV.int (x5 (Int.toNat (x8 xH.toNat 0).int) 3))-(CV.int (x5 (Int.toNat (x8 xH.toNat 0).int) 1)))) x6) fun xL=>(bif (!xL) then k0 else (bif (Nat.ble (xG+1) 1073741824) then (bif (inb (x8 xH.toNat 0).int x4) then (bif (Nat.ble (xG+1) 1073741824) then (L400v1 u x0 x1 x2 x3 x4 x5 x6 x7 x8 x9 xA xB xC xD xE xF m (xG+1) (w64 (xH+1)) (joinF xG xI (rowsF 5 [(.s xK.1),(.i .i64 xK.2.1),(.i .i64 xK.2.2.1),(.i .i64 xK.2.2.2.1),(.b xK.2.2.2.2.1)])) (joinF xG xJ (rowsF 4 [(.i .i64 (CV.int (x5 (Int.toNat (x8 xH.toNat 0).int) 0))),(.i .i64 (CV.int (x5 (Int.toNat (x8 xH.toNat 0).int) 1))),(.i .i64 (CV.int (x5 (Int.toNat (x8 xH.toNat 0).int) 2))),(.i .i64 (CV.int (x5 (Int.toNat (x8 xH.toNat 0).int) 3)))])) k0 k1) else none) else none) else none))) else none) else none) else none) else none) else none) else k0)) else none) else none) else none) else none) else (k1 xG xI))
theorem nl400v1:∀ (m:Nat) (x0:Nat) (x1:Int) (x2 x3:FF) (k0:Option ρ) (k1:Nat→FF→Option ρ),ob (L400v1 u n0 f0 n1 f1 n2 f2 i0 n3 f3 i1 w0 w1 i2 i3 i4 w2 m x0 x1 x2 x3 k0 k1) ng=L400v1 u n0 f0 n1 f1 n2 f2 i0 n3 f3 i1 w0 w1 i2 i3 i4 w2 m x0 x1 x2 x3 (ob k0 ng) (fun x4 x5=>ob (k1 x4 x5) ng)
 | 0,_,_,_,_,_,_=>rfl
 | m+1,x0,x1,x2,x3,k0,k1=>by
  simp only [L400v1,ob_bif,ob_ob,ob_none,nl400v1 m]
theorem q400v1:∀ (m:Nat) (x0:Nat) (x1:Int) (x2 x3:FF),
  loopH (eB A33v4 (C50 u) u) N400v1 m (s400v0 n0 n1 n2 x0 n3 f0 f1 f2 f3 x2 x3 i0 i1 x1 i2 i3 i4 w0 w1 w2) k=L400v1 u n0 f0 n1 f1 n2 f2 i0 n3 f3 i1 w0 w1 i2 i3 i4 w2 m x0 x1 x2 x3 (k .ret s400v1) (fun x4 x5=>k (.exit 0) (s400v2 x4 x5 i0 w0))
 | 0,_,_,_,_=>rfl
 | m+1,x0,x1,x2,x3=>by
  simp only [L400v1,← q400v1 m]
  kernel_rfl
def FT400 (x0 x1:ByteArray) (x2 x3 x4:Int) (x5:ByteArray) (x6:Nat) (x7:FF) (x8:Nat) (x9:FF) (xA:Nat) (xB:FF) (xC:Nat) (xD:FF) (xE:Int):Option (Bool × ByteArray × Int × Nat × FF × Bool) :=
 (L400v1 u x6 x7 x8 x9 xC xD xE xA xB (Int.ofNat xA) x0 x1 x2 x3 x4 x5 u 0 0 (fun _ _=>.any) (fun _ _=>.any)
  (some (true,ByteArray.empty,0,0,(fun _ _=>.any),false))
  (fun xF xG=>(some (false,x0,xE,xF,xG,true))))
def s400v3:St:=⟨[.agg [(vcs w0),(vcs w1),(vci i0),(vci i1),(vci i2),(vcs w2)],.x (.c (ro kA n0 f0)),.x (.c (ro kD n1 f1)),.x (.c (ro kD n2 f2)),.x (.c (ro kE n3 f3)),vxi i3,.x (.ptr 0 0),uu,uu,uu,uu,uu,.x (.ptr 1 0),vxb false,.x (.ptr 2 0),.x (.own 4 0 0),uu,uu,uu,uu,.x (.ptr 0 0),vxs w0,vxi i3,.agg [(vcs w0),(vci i3),(.c (.ro true kB 0 nilF))],.x (.c (ro kD n2 f2)),vxi (Int.ofNat n2),vxi 0,uu,uu,uu,uu,uu,uu,uu,uu,uu,uu,uu,uu,uu,uu,uu,uu,uu,uu,uu,uu,uu,uu,uu,uu,uu,uu,uu,uu,uu,uu,uu,uu,uu,uu,uu,uu,uu,uu,uu,uu,uu,uu,uu,uu,uu,uu,uu,uu,uu,uu,uu,uu,uu,uu,uu,uu,uu,uu,uu,uu,uu,uu,uu,uu,uu,uu,uu,uu,uu,uu,uu,uu,uu,uu,uu,uu,uu,uu,uu],[.box [(vcs w0),(vcs w1),(vci i0),(vci i1),(vci i2),(vcs w2)],.box [(vcs ByteArray.empty),(vci 0),(vcn)],.box [(vcs w0),(vci i3),(.own 3 0 0)],.arr kB 0 nilF,.arr kE 0 nilF]⟩
theorem t400v1 :
  loopN (eB A33v4 (C50 u) u) N400v1 u (s400v3 n0 n1 n2 n3 f0 f1 f2 f3 i0 i1 i2 i3 w0 w1 w2) k =
  L400v1 u n0 f0 n1 f1 n3 f3 i3 n2 f2 (Int.ofNat n2) w0 w1 i0 i1 i2 w2 u 0 0 nilF nilF (k .ret s400v1) (fun x0 x1=>k (.exit 0) (s400v2 x0 x1 i3 w0)) :=
 Eq.trans (loopN_at (by kernel_rfl)) (q400v1 ..)
theorem g400v2 :
  (kBlk 0 (kSeq (C50 u) u (13 :: 15 :: 17 :: 18 :: 19 :: (rl 24 81 [])) A33v5 (finish A33))) .ret s400v1 =
  (some [.agg [(.s ByteArray.empty),(vi 0),(.ro true kB 0 nilF)],.v (.b false)]):=by kernel_rfl
theorem g400v3 :
  (kBlk 0 (kSeq (C50 u) u (13 :: 15 :: 17 :: 18 :: 19 :: (rl 24 81 [])) A33v5 (finish A33))) (.exit 0) (s400v2 n0 f0 i0 w0) =
  (some [.agg [(.s w0),(vi i0),(ro kB n0 f0)],.v (.b true)]):=by kernel_rfl
theorem e400:evalF (C50 u) u A33 [.agg [(.s w0),(.s w1),(vi i0),(vi i1),(vi i2),(.s w2)],.v (ro kA n0 f0),.v (ro kD n1 f1),.v (ro kD n2 f2),.v (ro kE n3 f3),.v (vi i3)]=ob (FT400 u w0 w1 i0 i1 i2 w2 n0 f0 n1 f1 n2 f2 n3 f3 i3) fun t=>some (bif t.1 then [.agg [(.s ByteArray.empty),(vi 0),(.ro true kB 0 nilF)],.v (.b false)] else [.agg [(.s t.2.1),(vi t.2.2.1),(ro kB t.2.2.2.1 t.2.2.2.2.1)],.v (.b true)]):=Eq.trans (b:=(loopN (eB A33v4 (C50 u) u) N400v1 u (s400v3 n0 n1 n2 n3 f0 f1 f2 f3 i0 i1 i2 i3 w0 w1 w2) (kBlk 0 (kSeq (C50 u) u (13 :: 15 :: 17 :: 18 :: 19 :: (rl 24 81 [])) A33v5 (finish A33))))) (by kernel_rfl) (by
 simp only [FT400,ob_bif,ob_ob,ob_none,ob_some,nl400v1,t400v1,g400v2,g400v3,cond_true,cond_false])
def F400 (x0 x1:ByteArray) (x2 x3 x4:Int) (x5:ByteArray) (x6:Nat) (x7:FF) (x8:Nat) (x9:FF) (xA:Nat) (xB:FF) (xC:Nat) (xD:FF) (xE:Int):Option (ByteArray × Int × Nat × FF × Bool):=ob (FT400 u x0 x1 x2 x3 x4 x5 x6 x7 x8 x9 xA xB xC xD xE) fun t=>some (bif t.1 then (ByteArray.empty,0,0,(fun _ _=>.any),false) else (t.2.1,t.2.2.1,t.2.2.2.1,t.2.2.2.2.1,true))
def O400:Ora:=mkO (qc (ag (tc cS (tc cS (tc ci (tc ci (tc ci (t1 cS))))))) (qc (av (cL kA)) (qc (av (cL kD)) (qc (av (cL kD)) (qc (av (cL kE)) (q1 (av ci))))))) (fun x=>F400 u x.1.1 x.1.2.1 x.1.2.2.1 x.1.2.2.2.1 x.1.2.2.2.2.1 x.1.2.2.2.2.2 x.2.1.1 x.2.1.2 x.2.2.1.1 x.2.2.1.2 x.2.2.2.1.1 x.2.2.2.1.2 x.2.2.2.2.1.1 x.2.2.2.2.1.2 x.2.2.2.2.2) fun t=>[.agg [(.s t.1),(vi t.2.1),(ro kB t.2.2.1 t.2.2.2.1)],.v (.b t.2.2.2.2)]
theorem d400:DO (O400 u) (C50 u) 33 A33:=dW u (fun x=>by exact e400 u x.2.1.1 x.2.2.1.1 x.2.2.2.1.1 x.2.2.2.2.1.1 x.2.1.2 x.2.2.1.2 x.2.2.2.1.2 x.2.2.2.2.1.2 x.1.2.2.1 x.1.2.2.2.1 x.1.2.2.2.2.1 x.2.2.2.2.2 x.1.1 x.1.2.1 x.1.2.2.2.2.2) (fun _=>rfl) fun t=>by
 obtain ⟨b,t⟩:=t
 cases b with
 | true=>exact (.cons (WkA.agg (.cons (Wk.refl _) (.cons (Wk.refl _) (.cons (Wk.ro (by rfl)) .nil)))) (.cons (WkA.v (Wk.refl _)) .nil))
 | false =>
  exact (.cons (WkA.agg (.cons (Wk.refl _) (.cons (Wk.refl _) (.cons (Wk.refl _) .nil)))) (.cons (WkA.v (Wk.refl _)) .nil))
def C51:Oracle:=(C50 u).add 33 (fun _=>true) (O400 u)
def B65:An tT Tryz.f65 [.k (0 :: 1 :: 2 :: (rl 4 4 []))]:=by
 apply Subtype.mk;cbv<;>exact rfl
def A65:AF:=B65.1
def F170 (u:Nat) (x0 x1:Nat→CV):Option (Bool) :=
 (some (ByteArray.toList (x0 0).str==ByteArray.toList (x1 0).str))
theorem e170:evalF (C51 u) u A65 [.agg (pj kR0 g0),.v (.rp kG g1)]=ob (F170 u g0 g1) fun t=>some [.v (.b t)]:=by
 simp only [F170,ob_bif,ob_ob,ob_none,ob_some]
 kernel_rfl
def O170:Ora:=mkO (qc (ar kR0) (q1 (av (cP kG)))) (fun x=>F170 u x.1 x.2) fun t=>[.v (.b t)]
theorem d170:DO (O170 u) (C51 u) 65 A65:=dO u (fun x=>by exact e170 u x.1 x.2)
def C52:Oracle:=(C51 u).add 65 (fun _=>true) (O170 u)
def A64v1:AC:=(.region 6 [o1 18 (bk .add 3 8 1),mv 8 18] 0 none)
def A64v2:AC:=(.seq (.block 1
 (.seq (.region 3 [mv 10 8,o1 5 (sg 10)] 0 none) []
  (.seq (.region 4 [mv 11 1,mv 12 0,mv 13 5,o1 14 (.indexAddr 24 58 18 (tm 12) (tm 13)),o1 15 (ln 58 18 14),o1 16 (.callv (tm 11) [(tm 15)] [58] .snap)] 0 none) []
  (.cond (tm 16)
  (.seq (.region 5 [mv 17 5,o1 4 (sg 17)] 0 none) []
   (.ret (rl 0 4 (rl 5 14 []))))
  .skip)))) (4 :: 5 :: (rl 10 8 []))
 A64v1)
def A64v3:AC:=(.seq (.region 2 [o1 9 (bt .lss 3 8 7)] 0 none) []
 (.seq (.cond (tm 9)
 .skip
 (.exit 0 (rl 0 19 []))) []
 A64v2))
def A64v4:AC:=(.seq (.region 7 [o1 4 (sk (-1))] 0 none) []
 (.ret (rl 0 4 (rl 5 14 []))))
def A64:AF:=⟨19,[.tmp 4],
 (.seq (.region 0 [o1 4 (sk 0)] 0 none) []
 (.seq (.seq (.region 1 [mv 6 0,o1 7 (.len 24 false (tm 6)),o1 8 (.move (ic 0))] 0 none) []
 (.block 0
 (.loop [] (rl 2 5 (rl 9 10 []))
  A64v3))) (rl 4 15 [])
 A64v4))⟩
def N171v1:St→Option St:=nN 0 (rl 2 5 (rl 9 10 []))
def s171v0:St:=⟨(.x (.c (ro kA n0 f0)) :: .x (.c (.fn 65 1 (listF [(.rp kG g0)]))) :: (us 5 (vxi i0 :: vxi i1 :: (us 10 [])))),[]⟩
def s171v1:St:=⟨(us 4 (vxi i0 :: (us 14 []))),[]⟩
def s171v2:St:=⟨(us 19 []),[]⟩
def L171v1 {ρ:Type} (u:Nat) (x0:Nat) (x1:FF) (x2:Nat→CV) (x3:Int):Nat→Int→(Int→Option ρ)→(Option ρ)→Option ρ
 | 0,_,_,_=>none
 | m+1,x4,k0,k1 =>
  (bif (decide (x4<x3)) then (bif (inb x4 x0) then (ob (F170 u (listF (pj kR0 (x1 x4.toNat))) x2) fun x5=>(bif x5 then (k0 x4) else (L171v1 u x0 x1 x2 x3 m (w64 (x4+1)) k0 k1))) else none) else k1)
theorem nl171v1:∀ (m:Nat) (x0:Int) (k0:Int→Option ρ) (k1:Option ρ),ob (L171v1 u n0 f0 g0 i0 m x0 k0 k1) ng=L171v1 u n0 f0 g0 i0 m x0 (fun x1=>ob (k0 x1) ng) (ob k1 ng)
 | 0,_,_,_=>rfl
 | m+1,x0,k0,k1=>by
  simp only [L171v1,ob_bif,ob_ob,ob_none,nl171v1 m]
theorem q171v1:∀ (m:Nat) (x0:Int),
  loopH (eB A64v3 (C52 u) u) N171v1 m (s171v0 n0 f0 i0 x0 g0) k=L171v1 u n0 f0 g0 i0 m x0 (fun x1=>k .ret (s171v1 x1)) (k (.exit 0) s171v2)
 | 0,_=>rfl
 | m+1,x0=>by
  simp only [L171v1,← q171v1 m]
  kernel_rfl
def F171 (x0:Nat) (x1:FF) (x2:Nat→CV):Option (Int) :=
 (L171v1 u x0 x1 x2 (Int.ofNat x0) u 0
  (fun x3=>(some x3))
  (some (-1)))
def s171v3:St:=⟨[.x (.c (ro kA n0 f0)),.x (.c (.fn 65 1 (listF [(.rp kG g0)]))),uu,uu,vxi 0,uu,.x (.c (ro kA n0 f0)),vxi (Int.ofNat n0),vxi 0,uu,uu,uu,uu,uu,uu,uu,uu,uu,uu],[]⟩
theorem t171v1 :
  loopN (eB A64v3 (C52 u) u) N171v1 u (s171v3 n0 f0 g0) k =
  L171v1 u n0 f0 g0 (Int.ofNat n0) u 0 (fun x0=>k .ret (s171v1 x0)) (k (.exit 0) s171v2) :=
 Eq.trans (loopN_at (by kernel_rfl)) (q171v1 ..)
theorem g171v2 :
  (kBlk 0 (kSeq (C52 u) u (rl 4 15 []) A64v4 (finish A64))) .ret (s171v1 i0) =
  (some [.v (vi i0)]):=by kernel_rfl
theorem g171v3 :
  (kBlk 0 (kSeq (C52 u) u (rl 4 15 []) A64v4 (finish A64))) (.exit 0) s171v2 =
  (some [.v (vi (-1))]):=by kernel_rfl
theorem e171:evalF (C52 u) u A64 [.v (ro kA n0 f0),.v (.fn 65 1 (listF [(.rp kG g0)]))]=ob (F171 u n0 f0 g0) fun t=>some [.v (vi t)]:=Eq.trans (b:=(loopN (eB A64v3 (C52 u) u) N171v1 u (s171v3 n0 f0 g0) (kBlk 0 (kSeq (C52 u) u (rl 4 15 []) A64v4 (finish A64))))) (by kernel_rfl) (by
 simp only [F171,ob_bif,ob_ob,ob_none,ob_some,nl171v1,t171v1,g171v2,g171v3])
def O171:Ora:=mkO (qc (av (cL kA)) (q1 (av (cF 65 1 (t1 (cP kG)))))) (fun x=>F171 u x.1.1 x.1.2 x.2) fun t=>[.v (vi t)]
theorem d171:DO (O171 u) (C52 u) 64 A64:=dO u (fun x=>by exact e171 u x.1.1 x.1.2 x.2)
def C53:Oracle:=(C52 u).add 64 (fun l=>isFn 65 l 1) (O171 u)
def B43:An tT Tryz.f43 [.k [5,10,11,12],.k (rl 0 4 (rl 6 11 [])),.k (rl 0 4 (rl 6 11 []))]:=by
 apply Subtype.mk;cbv<;>exact rfl
def A43:AF:=B43.1
def FT172 (x0:Nat) (x1:FF) (x2:ByteArray):Option (Bool × ByteArray × Int × Int × ByteArray × ByteArray × Int × Nat × FF × Nat × FF × ByteArray × Int × Int × Int × Int × Int × Int × Int × Int × Int × Bool) :=
 (ob (F171 u x0 x1 (listF [(.s x2)])) fun x3=>(bif (decide (x3<0)) then (some (true,ByteArray.empty,0,0,ByteArray.empty,ByteArray.empty,0,0,(fun _ _=>.any),0,(fun _ _=>.any),ByteArray.empty,0,0,0,0,0,0,0,0,0,false)) else (bif (inb x3 x0) then (some (false,(x1 x3.toNat 0).str,(x1 x3.toNat 1).int,(x1 x3.toNat 2).int,(x1 x3.toNat 3).str,(x1 x3.toNat 4).str,(x1 x3.toNat 5).int,(x1 x3.toNat 6).len,(x1 x3.toNat 6).el,(x1 x3.toNat 7).len,(x1 x3.toNat 7).el,(x1 x3.toNat 8).str,(x1 x3.toNat 9).int,(x1 x3.toNat 10).int,(x1 x3.toNat 11).int,(x1 x3.toNat 12).int,(x1 x3.toNat 13).int,(x1 x3.toNat 14).int,(x1 x3.toNat 15).int,(x1 x3.toNat 16).int,(x1 x3.toNat 17).int,true)) else none)))
theorem e172:evalF (C53 u) u A43 [.v (ro kA n0 f0),.v (.s w0)]=ob (FT172 u n0 f0 w0) fun t=>some (bif t.1 then [.agg [(.s ByteArray.empty),(vi 0),(vi 0),(.s ByteArray.empty),(.s ByteArray.empty),(vi 0),(.ro true kP 0 nilF),(.ro true kF 0 nilF),(.s ByteArray.empty),(vi 0),(vi 0),(vi 0),(vi 0),(vi 0),(vi 0),(vi 0),(vi 0),(vi 0)],.v (.b false)] else [.agg [(.s t.2.1),(vi t.2.2.1),(vi t.2.2.2.1),(.s t.2.2.2.2.1),(.s t.2.2.2.2.2.1),(vi t.2.2.2.2.2.2.1),(ro kP t.2.2.2.2.2.2.2.1 (p8 t).1),(ro kF (p8 t).2.1 (p8 t).2.2.1),(.s (p8 t).2.2.2.1),(vi (p8 t).2.2.2.2.1),(vi (p8 t).2.2.2.2.2.1),(vi (p8 t).2.2.2.2.2.2.1),(vi (p8 t).2.2.2.2.2.2.2.1),(vi (pG t).1),(vi (pG t).2.1),(vi (pG t).2.2.1),(vi (pG t).2.2.2.1),(vi (pG t).2.2.2.2.1)],.v (.b true)]):=by
 simp only [FT172,ob_bif,ob_ob,ob_none,ob_some,cond_true,cond_false]
 kernel_rfl
def F172 (x0:Nat) (x1:FF) (x2:ByteArray):Option (ByteArray × Int × Int × ByteArray × ByteArray × Int × Nat × FF × Nat × FF × ByteArray × Int × Int × Int × Int × Int × Int × Int × Int × Int × Bool):=ob (FT172 u x0 x1 x2) fun t=>some (bif t.1 then (ByteArray.empty,0,0,ByteArray.empty,ByteArray.empty,0,0,(fun _ _=>.any),0,(fun _ _=>.any),ByteArray.empty,0,0,0,0,0,0,0,0,0,false) else (t.2.1,t.2.2.1,t.2.2.2.1,t.2.2.2.2.1,t.2.2.2.2.2.1,t.2.2.2.2.2.2.1,t.2.2.2.2.2.2.2.1,(p8 t).1,(p8 t).2.1,(p8 t).2.2.1,(p8 t).2.2.2.1,(p8 t).2.2.2.2.1,(p8 t).2.2.2.2.2.1,(p8 t).2.2.2.2.2.2.1,(p8 t).2.2.2.2.2.2.2.1,(pG t).1,(pG t).2.1,(pG t).2.2.1,(pG t).2.2.2.1,(pG t).2.2.2.2.1,true))
def O172:Ora:=mkO (qc (av (cL kA)) (q1 (av cS))) (fun x=>F172 u x.1.1 x.1.2 x.2) fun t=>[.agg [(.s t.1),(vi t.2.1),(vi t.2.2.1),(.s t.2.2.2.1),(.s t.2.2.2.2.1),(vi t.2.2.2.2.2.1),(ro kP t.2.2.2.2.2.2.1 t.2.2.2.2.2.2.2.1),(ro kF (p8 t).1 (p8 t).2.1),(.s (p8 t).2.2.1),(vi (p8 t).2.2.2.1),(vi (p8 t).2.2.2.2.1),(vi (p8 t).2.2.2.2.2.1),(vi (p8 t).2.2.2.2.2.2.1),(vi (p8 t).2.2.2.2.2.2.2.1),(vi (pG t).1),(vi (pG t).2.1),(vi (pG t).2.2.1),(vi (pG t).2.2.2.1)],.v (.b (pG t).2.2.2.2)]
theorem d172:DO (O172 u) (C53 u) 43 A43:=dW u (fun x=>by exact e172 u x.1.1 x.1.2 x.2) (fun _=>rfl) fun t=>by
 obtain ⟨b,t⟩:=t
 cases b with
 | true=>exact (.cons (WkA.agg (.cons (Wk.refl _) (.cons (Wk.refl _) (.cons (Wk.refl _) (.cons (Wk.refl _) (.cons (Wk.refl _) (.cons (Wk.refl _) (.cons (Wk.ro (by rfl)) (.cons (Wk.ro (by rfl)) (.cons (Wk.refl _) (.cons (Wk.refl _) (.cons (Wk.refl _) (.cons (Wk.refl _) (.cons (Wk.refl _) (.cons (Wk.refl _) (.cons (Wk.refl _) (.cons (Wk.refl _) (.cons (Wk.refl _) (.cons (Wk.refl _) .nil))))))))))))))))))) (.cons (WkA.v (Wk.refl _)) .nil))
 | false =>
  exact (.cons (WkA.agg (.cons (Wk.refl _) (.cons (Wk.refl _) (.cons (Wk.refl _) (.cons (Wk.refl _) (.cons (Wk.refl _) (.cons (Wk.refl _) (.cons (Wk.refl _) (.cons (Wk.refl _) (.cons (Wk.refl _) (.cons (Wk.refl _) (.cons (Wk.refl _) (.cons (Wk.refl _) (.cons (Wk.refl _) (.cons (Wk.refl _) (.cons (Wk.refl _) (.cons (Wk.refl _) (.cons (Wk.refl _) (.cons (Wk.refl _) .nil))))))))))))))))))) (.cons (WkA.v (Wk.refl _)) .nil))
def C54:Oracle:=(C53 u).add 43 (fun _=>true) (O172 u)
def B44:An tT Tryz.f44 [.k [2,6,7,8],.k (0 :: 1 :: (rl 3 19 [])),.k (5 :: (rl 9 12 [])),.h [],.k (0 :: 1 :: 2 :: (rl 4 6 (rl 13 9 []))),.k [],.k (0 :: 1 :: 2 :: (rl 4 18 [])),.k (0 :: 1 :: (rl 3 19 []))]:=by
 apply Subtype.mk;cbv<;>exact rfl
def A44:AF:=B44.1
def A44v4:AC:=sA A44.body [1,1]
def A44v3:AC:=sA A44v4 [1,1]
def A44v2:AC:=sA A44v4 [1,0,1,0,0]
def N18v1:St→Option St:=nN 1 (0 :: 1 :: 2 :: (rl 4 6 (rl 13 9 [])))
def s18v0:St:=⟨(us 3 (vxi i0 :: (us 6 (.x (.c (ro kF n0 f0)) :: vxi i1 :: vxi i2 :: (us 9 []))))),[.box [(.c (ro kP n1 f1)),(.c (ro kF n2 f2))]]⟩
def s18v1:St:=⟨(us 3 (vxi i0 :: (us 18 []))),[.box [(.c (ro kP n0 f0)),(.c (ro kF n1 f1))]]⟩
def L18v1 {ρ:Type} (u:Nat) (x0:Nat) (x1:FF) (x2:Int) (x3:Nat) (x4:FF) (x5:Nat) (x6:FF):Nat→Int→Int→(Int→Option ρ)→Option ρ
 | 0,_,_,_=>none
 | m+1,x7,x8,k0 =>
  (bif (decide (x8<x2)) then (bif (inb x8 x0) then (ob (F34 u (x1 x8.toNat 0).len (x1 x8.toNat 0).el) fun x9=>(L18v1 u x0 x1 x2 x3 x4 x5 x6 m (w64 (x7+x9)) (w64 (x8+1)) k0)) else none) else (k0 x7))
theorem nl18v1:∀ (m:Nat) (x0 x1:Int) (k0:Int→Option ρ),ob (L18v1 u n0 f0 i0 n1 f1 n2 f2 m x0 x1 k0) ng=L18v1 u n0 f0 i0 n1 f1 n2 f2 m x0 x1 (fun x2=>ob (k0 x2) ng)
 | 0,_,_,_=>rfl
 | m+1,x0,x1,k0=>by
  simp only [L18v1,ob_bif,ob_ob,ob_none,nl18v1 m]
theorem q18v1:∀ (m:Nat) (x0 x1:Int),
  loopH (eB A44v2 (C54 u) u) N18v1 m (s18v0 n0 n1 n2 f0 f1 f2 x0 i0 x1) k=L18v1 u n0 f0 i0 n1 f1 n2 f2 m x0 x1 (fun x2=>k (.exit 0) (s18v1 n1 n2 f1 f2 x2))
 | 0,_,_=>rfl
 | m+1,x0,x1=>by
  simp only [L18v1,← q18v1 m]
  kernel_rfl
def F18 (x0:Nat) (x1:FF) (x2:Nat) (x3:FF):Option (Int) :=
 (ob (F13 u x0 x1 x2 x3) fun x4=>(bif (x4 != 0) then (some 0) else (ob (F42 u x0 x1 x2 x3) fun x5=>(L18v1 u x5.1 x5.2 (Int.ofNat x5.1) x0 x1 x2 x3 u 0 0
  (fun x6=>(some x6))))))
def s18v2 (x0:Nat × FF):St:=⟨(.agg [(.c (ro kP n0 f0)),(.c (ro kF n1 f1))] :: .x (.ptr 0 0) :: .u :: vxi 0 :: uu :: uu :: (us 3 [.agg [(.c (ro kP n0 f0)),(.c (ro kF n1 f1))],.x (.c (ro kF x0.1 x0.2)),vxi (Int.ofNat x0.1),vxi 0,uu,uu,uu,uu,uu,uu,uu,uu,uu])),[.box [(.c (ro kP n0 f0)),(.c (ro kF n1 f1))]]⟩
theorem t18v1 (x0:Nat × FF) :
  loopN (eB A44v2 (C54 u) u) N18v1 u (s18v2 n0 n1 f0 f1 x0) k =
  L18v1 u x0.1 x0.2 (Int.ofNat x0.1) n0 f0 n1 f1 u 0 0 (fun x1=>k (.exit 0) (s18v1 n0 n1 f0 f1 x1)) :=
 Eq.trans (loopN_at (by kernel_rfl)) (q18v1 ..)
theorem g18v2 :
  (kBlk 0 (kSeq (C54 u) u (5 :: (rl 9 12 [])) A44v3 (finish A44))) (.exit 0) (s18v1 n0 n1 f0 f1 i0) =
  (some [.v (vi i0)]):=by kernel_rfl
theorem e18:evalF (C54 u) u A44 [.agg [(ro kP n0 f0),(ro kF n1 f1)]]=ob (F18 u n0 f0 n1 f1) fun t=>some [.v (vi t)]:=Eq.trans (b:=(ob (F13 u n0 f0 n1 f1) fun x0=>(bif (x0 != 0) then (some [.v (vi 0)]) else (ob (F42 u n0 f0 n1 f1) fun x1=>(loopN (eB A44v2 (C54 u) u) N18v1 u (s18v2 n0 n1 f0 f1 x1) (kBlk 0 (kSeq (C54 u) u (5 :: (rl 9 12 [])) A44v3 (finish A44)))))))) (by kernel_rfl) (by
 simp only [F18,ob_bif,ob_ob,ob_none,ob_some,nl18v1,t18v1,g18v2])
def O18:Ora:=mkO (q1 (ag (tc (cL kP) (t1 (cL kF))))) (fun x=>F18 u x.1.1 x.1.2 x.2.1 x.2.2) fun t=>[.v (vi t)]
theorem d18:DO (O18 u) (C54 u) 44 A44:=dO u (fun x=>by exact e18 u x.1.1 x.2.1 x.1.2 x.2.2)
def C55:Oracle:=(C54 u).add 44 (fun _=>true) (O18 u)
def B15:An tT Tryz.f15 [.k (rl 9 4 []),.k (rl 0 4 (rl 5 30 [])),.k (6 :: 7 :: 8 :: (rl 13 21 [])),.h [],.k (0 :: 2 :: 3 :: (rl 5 9 (rl 17 18 []))),.k [],.k (rl 0 4 (rl 5 30 [])),.k (6 :: 7 :: 8 :: (rl 18 15 [])),.k (rl 0 4 (rl 5 30 []))]:=by
 apply Subtype.mk;cbv<;>exact rfl
def A15:AF:=B15.1
def A15v5:AC:=sA A15.body [1,1]
def A15v4:AC:=sA A15v5 [1]
def A15v3:AC:=sA A15v5 [0,1,0,0]
def N183v1:St→Option St:=nN 1 (0 :: 2 :: 3 :: (rl 5 9 (rl 17 18 [])))
def s183v0:St:=⟨(.u :: .x (.c (ro kA n0 f0)) :: .u :: .u :: vxi i0 :: (us 9 (.x (.c (ro kB n1 f1)) :: vxi i1 :: vxi i2 :: (us 18 [])))),[.box [(vcs w0),(vci i3),(.c (ro kB n1 f1))]]⟩
def s183v1:St:=⟨(us 4 (vxi i0 :: (us 30 []))),[.box [(vcs w0),(vci i1),(.c (ro kB n0 f0))]]⟩
def L183v1 {ρ:Type} (u:Nat) (x0:Nat) (x1:FF) (x2:Nat) (x3:FF) (x4:Int) (x5:ByteArray) (x6:Int):Nat→Int→Int→(Int→Option ρ)→Option ρ
 | 0,_,_,_=>none
 | m+1,x7,x8,k0 =>
  (bif (decide (x8<x4)) then (bif (inb x8 x2) then (ob (F172 u x0 x1 (x3 x8.toNat 0).str) fun x9=>(bif (pG x9).2.2.2.2 then (ob (F18 u x9.2.2.2.2.2.2.1 x9.2.2.2.2.2.2.2.1 (p8 x9).1 (p8 x9).2.1) fun xA=>(L183v1 u x0 x1 x2 x3 x4 x5 x6 m (w64 (x7+xA)) (w64 (x8+1)) k0)) else (L183v1 u x0 x1 x2 x3 x4 x5 x6 m x7 (w64 (x8+1)) k0))) else none) else (k0 x7))
theorem nl183v1:∀ (m:Nat) (x0 x1:Int) (k0:Int→Option ρ),ob (L183v1 u n0 f0 n1 f1 i0 w0 i1 m x0 x1 k0) ng=L183v1 u n0 f0 n1 f1 i0 w0 i1 m x0 x1 (fun x2=>ob (k0 x2) ng)
 | 0,_,_,_=>rfl
 | m+1,x0,x1,k0=>by
  simp only [L183v1,ob_bif,ob_ob,ob_none,nl183v1 m]
theorem q183v1:∀ (m:Nat) (x0 x1:Int),
  loopH (eB A15v3 (C55 u) u) N183v1 m (s183v0 n0 n1 f0 f1 x0 i0 x1 i1 w0) k=L183v1 u n0 f0 n1 f1 i0 w0 i1 m x0 x1 (fun x2=>k (.exit 0) (s183v1 n1 f1 x2 i1 w0))
 | 0,_,_=>rfl
 | m+1,x0,x1=>by
  simp only [L183v1,← q183v1 m]
  kernel_rfl
def F183 (x0:ByteArray) (x1:Int) (x2:Nat) (x3:FF) (x4:Nat) (x5:FF):Option (Int) :=
 (bif (decide ((Int.ofNat x2)>32)) then (some 0) else (L183v1 u x4 x5 x2 x3 (Int.ofNat x2) x0 x1 u 0 0
  (fun x6=>(some x6))))
def s183v2:St:=⟨(.agg [(vcs w0),(vci i0),(.c (ro kB n0 f0))] :: .x (.c (ro kA n1 f1)) :: .x (.ptr 0 0) :: uu :: vxi 0 :: uu :: uu :: uu :: uu :: (us 4 [.x (.ptr 0 2),.x (.c (ro kB n0 f0)),vxi (Int.ofNat n0),vxi 0,uu,uu,uu,uu,uu,uu,uu,uu,uu,uu,uu,uu,uu,uu,uu,uu,uu,uu])),[.box [(vcs w0),(vci i0),(.c (ro kB n0 f0))]]⟩
theorem t183v1 :
  loopN (eB A15v3 (C55 u) u) N183v1 u (s183v2 n0 n1 f0 f1 i0 w0) k =
  L183v1 u n1 f1 n0 f0 (Int.ofNat n0) w0 i0 u 0 0 (fun x0=>k (.exit 0) (s183v1 n0 f0 x0 i0 w0)) :=
 Eq.trans (loopN_at (by kernel_rfl)) (q183v1 ..)
theorem g183v2 :
  (kBlk 0 (kSeq (C55 u) u (6 :: 7 :: 8 :: (rl 13 21 [])) A15v4 (finish A15))) (.exit 0) (s183v1 n0 f0 i0 i1 w0) =
  (some [.v (vi i0)]):=by kernel_rfl
theorem e183:evalF (C55 u) u A15 [.agg [(.s w0),(vi i0),(ro kB n0 f0)],.v (ro kA n1 f1)]=ob (F183 u w0 i0 n0 f0 n1 f1) fun t=>some [.v (vi t)]:=Eq.trans (b:=(bif (decide ((Int.ofNat n0)>32)) then (some [.v (vi 0)]) else (loopN (eB A15v3 (C55 u) u) N183v1 u (s183v2 n0 n1 f0 f1 i0 w0) (kBlk 0 (kSeq (C55 u) u (6 :: 7 :: 8 :: (rl 13 21 [])) A15v4 (finish A15)))))) (by kernel_rfl) (by
 simp only [F183,ob_bif,ob_ob,ob_none,ob_some,nl183v1,t183v1,g183v2])
def O183:Ora:=mkO (qc (ag (tc cS (tc ci (t1 (cL kB))))) (q1 (av (cL kA)))) (fun x=>F183 u x.1.1 x.1.2.1 x.1.2.2.1 x.1.2.2.2 x.2.1 x.2.2) fun t=>[.v (vi t)]
theorem d183:DO (O183 u) (C55 u) 15 A15:=dO u (fun x=>by exact e183 u x.1.2.2.1 x.2.1 x.1.2.2.2 x.2.2 x.1.2.1 x.1.1)
def C56:Oracle:=(C55 u).add 15 (fun _=>true) (O183 u)
def A12v1:AC:=(.region 17 [o1 61 (bk .add 3 50 1),mv 50 61] 0 none)
def A12v2:AC:=(.seq (.block 3
 (.seq (.region 14 [mv 52 50,o1 53 (.indexAddr 79 3 1 (tm 48) (tm 50)),o1 54 (lo 3 53),o1 15 (sg 52),o1 16 (sg 54)] 0 none) []
  (.seq (.region 15 [mv 55 16,o1 56 (bk .geq 3 55 0)] 0 none) []
  (.cond (tm 56)
  (.region 16 [o1 57 (lo 79 14),mv 58 15,o1 59 (.buildSlice 0 79 3 kD 1 [vci 0] [(0,(tm 58))]),o1 60 (.append 1 79 3 kD 8 (tm 57) (tm 59)),o0 (.store 79 1 (tm 14) (tm 60))] 2 none)
  .skip)))) (15 :: 16 :: (rl 52 9 []))
 A12v1)
def A12v3:AC:=(.seq (.region 13 [o1 51 (bt .lss 3 50 49)] 0 none) []
 (.seq (.cond (tm 51)
 .skip
 (.exit 2 (rl 0 4 (7 :: 9 :: (rl 15 80 []))))) []
 A12v2))
def A12v4:AC:=(.seq (.region 22 [o1 69 (ln 23 6 4),o1 70 (lo 24 10),o1 71 (lo 79 13),o1 72 (lo 79 14),o1 73 (lo 24 10),o1 74 (lo 79 13),o1 75 (lo 79 17),mv 76 18,o1 77 (lo 3 6),o1 78 (cf 34 [73,74,75,76,77] [24,79,79,79,3]),o1 79 (lo 3 6),o1 80 (cf 33 [69,70,71,72,78,79] [23,24,79,79,65,3]),mv 68 80,o1 81 (.extract (tm 68) 0),o1 82 (.extract (tm 68) 1),o1 19 (.alloc 0 30 [vcs ByteArray.empty,vci 0,vcn]),o0 (.store 30 3 (tm 19) (tm 81)),o1 20 (sg 82)] 1 (some [[],[],[],[],[],[],[],[],[],(rl 4 5 []),[],(rl 0 11 []),(rl 0 12 []),(rl 0 13 []),(rl 0 13 []),[],(rl 0 14 [15]),(rl 0 17 [])])) []
 (.seq (.region 23 [o1 83 (ln 30 3 19),o1 84 (lo 24 5),o1 85 (cs 15 [83,84] [30,24]),o1 21 (sg 85)] 0 none) []
 (.seq (.region 24 [mv 86 20,mv 87 86,og 88 (.move (tm 21)) 87 true,og 89 (lo 3 12) 87 true,og 90 (bt .gtr 3 88 89) 87 true,o1 91 (po 87 90)] 0 none) []
 (.cond (tm 91)
 (.region 25 [o1 92 (ln 30 3 19),mv 93 21,o0 (.store 30 3 (tm 11) (tm 92)),o0 (.store 3 1 (tm 12) (tm 93))] 0 none)
 .skip))))
def A12v5:AC:=(.iter [o1 65 (lo 79 14)] [(4,0,0),(5,1,0),(6,2,0),(8,3,0),(10,4,0),(11,5,0),(12,6,0),(13,7,0),(14,8,0),(17,10,0)] (rl 0 4 (7 :: 9 :: 15 :: 16 :: (rl 18 47 (rl 67 28 [])))) 65 66 67 32 79 itP 7
 (.region 21 [o1 18 (sg 67)] 0 none)
 A12v4)
def A12v6:AC:=(.ghost [9] (.iter [o1 62 (lo 79 14)] [(4,0,0),(5,1,0),(6,2,0),(8,3,0),(10,4,0),(11,5,0),(12,6,0),(13,7,0),(14,8,0)] (rl 0 4 (7 :: 9 :: (rl 15 47 (rl 64 31 [])))) 62 63 64 32 79 itP 5
 (.region 19 [o1 17 (.alloc 0 79 [vcn]),o0 (.store 79 1 (tm 17) (tm 64))] 1 none)
 A12v5))
def A12v7:AC:=(.seq (.region 11 [o1 14 (.alloc 0 79 [vcn])] 1 none) []
 (.seq (.seq (.region 12 [o1 48 (lo 79 13),o1 49 (.len 79 false (tm 48)),o1 50 (.move (ic 0))] 0 none) []
 (.block 2
 (.loop [.cell 14 0 kD] (rl 0 4 (7 :: 9 :: (rl 15 33 (rl 51 44 []))))
  A12v3))) (15 :: 16 :: (rl 48 14 []))
 A12v6))
def A12v8:AC:=(.seq (.region 26 [o1 94 (ln 30 3 11),o0 (.store 30 3 (tm 8) (tm 94)),o1 9 (sk 0)] 0 none) []
 (.ghost [0,1,2,4,5,6] (.ret (rl 0 8 (rl 10 85 [])))))
def A12v9:AC:=(.seq (.region 8 [o1 40 (fa 23 4 0 0),o1 41 (lo 9 40),o1 42 (lo 3 6),o1 43 (.build 30 [vcs ByteArray.empty,vci 0,.c (ro kB 0 nilF)] [(0,1),(1,1),(2,1)] 0 [(0,(tm 41)),(1,(tm 42))]),o1 11 (.alloc 0 30 [vcs ByteArray.empty,vci 0,vcn]),o1 12 (.alloc 1 3 [vci 0]),o0 (.store 30 3 (tm 11) (tm 43)),o0 (.store 3 1 (tm 12) (ic 0))] 2 none) []
 (.seq (.iter [o1 44 (lo 24 10),o1 45 (.len 24 false (tm 44))] [(4,0,0),(5,1,0),(6,2,0),(8,3,0),(10,4,0),(11,5,0),(12,6,0)] (rl 0 4 (7 :: 9 :: (rl 13 32 (rl 47 48 [])))) 45 46 47 31 3 itT 1
 (.region 10 [o1 13 (.alloc 0 79 [vcn]),o0 (.store 79 1 (tm 13) (tm 47))] 1 none)
 A12v7) (rl 13 9 (44 :: 45 :: 46 :: (rl 48 16 (65 :: 66 :: (rl 68 26 [])))))
 A12v8))
def A12v10:AC:=(.seq (.seq (.region 6 [mv 33 3,o1 34 (lo 24 10),o1 35 (.len 24 false (tm 34)),o1 36 (.indexAddrA 75 3 5 1 (.global 0) (tm 35)),o1 37 (lo 3 36),o1 38 (bt .lss 3 33 37)] 0 none) []
 (.cond (tm 38)
 (.seq (.region 7 [o1 39 (.build 30 [vcs ByteArray.empty,vci 0,.c (ro kB 0 nilF)] [(0,1),(1,1),(2,1)] 0 []),o0 (.store 30 3 (tm 8) (tm 39)),o1 9 (sk 29)] 0 none) []
  (.ghost [0,1,2,4] (.ret (rl 0 8 (rl 10 85 [])))))
 .skip)) (9 :: (rl 33 7 []))
 A12v9)
def A12v11:AC:=(.seq (.region 3 [o1 26 (ln 23 6 4),o1 27 (lo 24 5),o1 28 (cf 23 [26,27] [23,24]),o1 10 (.alloc 0 24 [vcn]),o0 (.store 24 1 (tm 10) (tm 28))] 1 none) []
 (.seq (.seq (.region 4 [o1 29 (lo 24 10),o1 30 (.len 24 false (tm 29)),o1 31 (bk .gtr 3 30 4)] 0 none) []
 (.cond (tm 31)
 (.seq (.region 5 [o1 32 (.build 30 [vcs ByteArray.empty,vci 0,.c (ro kB 0 nilF)] [(0,1),(1,1),(2,1)] 0 []),o0 (.store 30 3 (tm 8) (tm 32)),o1 9 (sk 4)] 0 none) []
  (.ghost [0,1,2,4] (.ret (rl 0 8 (rl 10 85 [])))))
 .skip)) (9 :: (rl 29 4 []))
 A12v10))
def A12:AF:=⟨95,[.cell 8 30 (some 3),.tmp 9],
 (.seq (.region 0 [o1 4 (bx 0 23 0),o1 5 (bx 1 24 1),o1 6 (bx 2 3 2),o1 8 (.alloc 3 30 [vcs ByteArray.empty,vci 0,vcn]),o1 9 (sk 0)] 4 none) []
 (.seq (.seq (.region 1 [o1 22 (lo 3 6),o1 23 (.call 22 [(tm 22),(ic 0),(ic 500)] [3,3,3] .snap),o1 24 (.unOp .not 4 (tm 23))] 0 none) []
 (.cond (tm 24)
 (.seq (.region 2 [o1 25 (.build 30 [vcs ByteArray.empty,vci 0,.c (ro kB 0 nilF)] [(0,1),(1,1),(2,1)] 0 []),o0 (.store 30 3 (tm 8) (tm 25)),o1 9 (sk 9)] 0 none) []
  (.ghost [0,1,2] (.ret (rl 0 8 (rl 10 85 [])))))
 .skip)) (9 :: (rl 22 4 []))
 A12v11))⟩
def N401v5:St→Option St:=nN 10 (rl 0 4 (7 :: 9 :: (rl 15 33 (rl 51 44 []))))
def s401v0:St:=⟨(us 4 (.x (.ptr 0 0) :: .x (.ptr 1 0) :: .x (.ptr 2 0) :: .u :: .x (.ptr 3 0) :: .u :: .x (.ptr 4 0) :: .x (.ptr 5 0) :: .x (.ptr 6 0) :: .x (.ptr 7 0) :: .x (.ptr 8 0) :: (us 33 (.x (.c (ro kD n0 f0)) :: vxi i0 :: vxi i1 :: (us 44 []))))),[.box [(vcs w0),(vcs w1),(vci i2),(vci i3),(vci i4),(vcs w2)],.box [(.c (ro kA n1 f1))],.box [(vci i5)],.box [(vcs ByteArray.empty),(vci 0),(vcn)],.box [(.c (ro kA n2 f2))],.box [(vcs w3),(vci i6),(.c (ro kB n3 f3))],.box [(vci i7)],.box [(.c (ro kD n0 f0))],.box [(.own 9 0 n4)],.arr kD n4 f4]⟩
def s401v1:St:=⟨(us 4 (.x (.ptr 0 0) :: .x (.ptr 1 0) :: .x (.ptr 2 0) :: .u :: .x (.ptr 3 0) :: .u :: .x (.ptr 4 0) :: .x (.ptr 5 0) :: .x (.ptr 6 0) :: .x (.ptr 7 0) :: .x (.ptr 8 0) :: (us 80 []))),[.box [(vcs w0),(vcs w1),(vci i0),(vci i1),(vci i2),(vcs w2)],.box [(.c (ro kA n0 f0))],.box [(vci i3)],.box [(vcs ByteArray.empty),(vci 0),(vcn)],.box [(.c (ro kA n1 f1))],.box [(vcs w3),(vci i4),(.c (ro kB n2 f2))],.box [(vci i5)],.box [(.c (ro kD n3 f3))],.box [(.own 9 0 n4)],.arr kD n4 f4]⟩
def L401v5 {ρ:Type} (u:Nat) (x0:Nat) (x1:FF) (x2:Int) (x3 x4:ByteArray) (x5 x6 x7:Int) (x8:ByteArray) (x9:Nat) (xA:FF) (xB:Int) (xC:Nat) (xD:FF) (xE:ByteArray) (xF:Int) (xG:Nat) (xH:FF) (xI:Int):Nat→Int→Nat→FF→(Nat→FF→Option ρ)→Option ρ
 | 0,_,_,_,_=>none
 | m+1,xJ,xK,xL,k0 =>
  (bif (decide (xJ<x2)) then (bif (inb xJ x0) then (bif (decide ((x1 xJ.toNat 0).int≥0)) then (bif (Nat.ble (xK+1) 1073741824) then (L401v5 u x0 x1 x2 x3 x4 x5 x6 x7 x8 x9 xA xB xC xD xE xF xG xH xI m (w64 (xJ+1)) (xK+1) (joinF xK xL (rowsF 1 [(.i .i64 xJ)])) k0) else none) else (L401v5 u x0 x1 x2 x3 x4 x5 x6 x7 x8 x9 xA xB xC xD xE xF xG xH xI m (w64 (xJ+1)) xK xL k0)) else none) else (k0 xK xL))
theorem nl401v5:∀ (m:Nat) (x0:Int) (x1:Nat) (x2:FF) (k0:Nat→FF→Option ρ),ob (L401v5 u n0 f0 i0 w0 w1 i1 i2 i3 w2 n1 f1 i4 n2 f2 w3 i5 n3 f3 i6 m x0 x1 x2 k0) ng=L401v5 u n0 f0 i0 w0 w1 i1 i2 i3 w2 n1 f1 i4 n2 f2 w3 i5 n3 f3 i6 m x0 x1 x2 (fun x3 x4=>ob (k0 x3 x4) ng)
 | 0,_,_,_,_=>rfl
 | m+1,x0,x1,x2,k0=>by
  simp only [L401v5,ob_bif,ob_ob,ob_none,nl401v5 m]
theorem q401v5:∀ (m:Nat) (x0:Int) (x1:Nat) (x2:FF),
  loopH (eB A12v3 (C56 u) u) N401v5 m (s401v0 n0 n1 n2 n3 x1 f0 f1 f2 f3 x2 i0 x0 i1 i2 i3 i4 i5 i6 w0 w1 w2 w3) k=L401v5 u n0 f0 i0 w0 w1 i1 i2 i3 w2 n1 f1 i4 n2 f2 w3 i5 n3 f3 i6 m x0 x1 x2 (fun x3 x4=>k (.exit 2) (s401v1 n1 n2 n3 n0 x3 f1 f2 f3 f0 x4 i1 i2 i3 i4 i5 i6 w0 w1 w2 w3))
 | 0,_,_,_=>rfl
 | m+1,x0,x1,x2=>by
  simp only [L401v5,← q401v5 m]
  kernel_rfl
def N401v3:St→Option St:=nN 11 (rl 0 4 (7 :: 9 :: 15 :: 16 :: (rl 18 47 (rl 67 28 []))))
def s401v2:St:=⟨(us 4 (.x (.ptr 0 0) :: .x (.ptr 1 0) :: .x (.ptr 2 0) :: .u :: .x (.ptr 3 0) :: .u :: .x (.ptr 4 0) :: .x (.ptr 5 0) :: .x (.ptr 6 0) :: .x (.ptr 7 0) :: .x (.ptr 8 0) :: .u :: .u :: .x (.ptr 10 0) :: (us 47 (.x (.c (ro kD n0 f0)) :: vxi i0 :: (us 28 []))))),[.box [(vcs w0),(vcs w1),(vci i1),(vci i2),(vci i3),(vcs w2)],.box [(.c (ro kA n1 f1))],.box [(vci i4)],.box [(vcs ByteArray.empty),(vci 0),(vcn)],.box [(.c (ro kA n2 f2))],.box [(vcs w3),(vci i5),(.c (ro kB n3 f3))],.box [(vci i6)],.box [(.c (ro kD n4 f4))],.box [(.c (ro kD n0 f0))],.dead,.box [(.c (ro kD n5 f5))]]⟩
def s401v3:St:=⟨(us 4 (.x (.ptr 0 0) :: .x (.ptr 1 0) :: .x (.ptr 2 0) :: .u :: .x (.ptr 3 0) :: .u :: .x (.ptr 4 0) :: .x (.ptr 5 0) :: .x (.ptr 6 0) :: .x (.ptr 7 0) :: .x (.ptr 8 0) :: .u :: .u :: .x (.ptr 10 0) :: (us 77 []))),[.box [(vcs w0),(vcs w1),(vci i0),(vci i1),(vci i2),(vcs w2)],.box [(.c (ro kA n0 f0))],.box [(vci i3)],.box [(vcs ByteArray.empty),(vci 0),(vcn)],.box [(.c (ro kA n1 f1))],.box [(vcs w3),(vci i4),(.c (ro kB n2 f2))],.box [(vci i5)],.box [(.c (ro kD n3 f3))],.box [(.c (ro kD n4 f4))],.dead,.box [(.c (ro kD n5 f5))]]⟩
def L401v3 {ρ:Type} (u:Nat) (x0:Nat) (x1:FF) (x2 x3:ByteArray) (x4 x5 x6:Int) (x7:ByteArray) (x8:Nat) (x9:FF) (xA:Int) (xB:Nat) (xC:FF) (xD:Nat) (xE:FF) (xF:Nat) (xG:FF):Nat→Int→ByteArray→Int→Nat→FF→Int→(ByteArray→Int→Nat→FF→Int→Option ρ)→Option ρ
 | 0,_,_,_,_,_,_,_=>none
 | m+1,xH,xI,xJ,xK,xL,xM,k0 =>
  (bif ((Nat.ble x0 4)&&true) then (bif (decide (xH<Int.ofNat (List.length (permsL (liL x0 x1))))) then (ob (F399 u xB xC xD xE xF xG (List.length (List.getD (permsL (liL x0 x1)) xH.toNat [])) (fL (List.getD (permsL (liL x0 x1)) xH.toNat [])) xA) fun xN=>(ob (F400 u x2 x3 x4 x5 x6 x7 xB xC xD xE x0 x1 xN.1 xN.2 xA) fun xO=>(ob (F183 u xO.1 xO.2.1 xO.2.2.1 xO.2.2.2.1 x8 x9) fun xP=>(bif (xO.2.2.2.2==true) then (bif (decide (xP>xM)) then (L401v3 u x0 x1 x2 x3 x4 x5 x6 x7 x8 x9 xA xB xC xD xE xF xG m (xH+1) xO.1 xO.2.1 xO.2.2.1 xO.2.2.2.1 xP k0) else (L401v3 u x0 x1 x2 x3 x4 x5 x6 x7 x8 x9 xA xB xC xD xE xF xG m (xH+1) xI xJ xK xL xM k0)) else (L401v3 u x0 x1 x2 x3 x4 x5 x6 x7 x8 x9 xA xB xC xD xE xF xG m (xH+1) xI xJ xK xL xM k0))))) else (k0 xI xJ xK xL xM)) else none)
theorem nl401v3:∀ (m:Nat) (x0:Int) (x1:ByteArray) (x2:Int) (x3:Nat) (x4:FF) (x5:Int) (k0:ByteArray→Int→Nat→FF→Int→Option ρ),ob (L401v3 u n0 f0 w0 w1 i0 i1 i2 w2 n1 f1 i3 n2 f2 n3 f3 n4 f4 m x0 x1 x2 x3 x4 x5 k0) ng=L401v3 u n0 f0 w0 w1 i0 i1 i2 w2 n1 f1 i3 n2 f2 n3 f3 n4 f4 m x0 x1 x2 x3 x4 x5 (fun x6 x7 x8 x9 xA=>ob (k0 x6 x7 x8 x9 xA) ng)
 | 0,_,_,_,_,_,_,_=>rfl
 | m+1,x0,x1,x2,x3,x4,x5,k0=>by
  simp only [L401v3,ob_bif,ob_ob,ob_none,nl401v3 m]
theorem q401v3:∀ (m:Nat) (x0:Int) (x1:ByteArray) (x2:Int) (x3:Nat) (x4:FF) (x5:Int),
  loopH (eI itP [(4,0,0),(5,1,0),(6,2,0),(8,3,0),(10,4,0),(11,5,0),(12,6,0),(13,7,0),(14,8,0),(17,10,0)] 65 66 95 67 7 ((.region 21 [o1 18 (sg 67)] 0 none)) A12v4 (C56 u) u) N401v3 m (s401v2 n0 n1 n2 x3 n3 n4 f0 f1 f2 x4 f3 f4 x0 i0 i1 i2 i3 x2 x5 w0 w1 w2 x1) k=L401v3 u n0 f0 w0 w1 i0 i1 i2 w2 n1 f1 i3 n2 f2 n3 f3 n4 f4 m x0 x1 x2 x3 x4 x5 (fun x6 x7 x8 x9 xA=>k (.exit 999999) (s401v3 n1 n2 x8 n3 n0 n4 f1 f2 x9 f3 f0 f4 i0 i1 i2 i3 x7 xA w0 w1 w2 x6))
 | 0,_,_,_,_,_,_=>rfl
 | m+1,x0,x1,x2,x3,x4,x5=>by
  simp only [L401v3,← q401v3 m]
  kernel_rfl
def N401v6:St→Option St:=nN 10 (rl 0 4 (7 :: 9 :: (rl 15 47 (rl 64 31 []))))
def s401v4:St:=⟨(us 4 (.x (.ptr 0 0) :: .x (.ptr 1 0) :: .x (.ptr 2 0) :: .u :: .x (.ptr 3 0) :: .u :: .x (.ptr 4 0) :: .x (.ptr 5 0) :: .x (.ptr 6 0) :: .x (.ptr 7 0) :: .x (.ptr 8 0) :: (us 47 (.x (.c (ro kD n0 f0)) :: vxi i0 :: (us 31 []))))),[.box [(vcs w0),(vcs w1),(vci i1),(vci i2),(vci i3),(vcs w2)],.box [(.c (ro kA n1 f1))],.box [(vci i4)],.box [(vcs ByteArray.empty),(vci 0),(vcn)],.box [(.c (ro kA n2 f2))],.box [(vcs w3),(vci i5),(.c (ro kB n3 f3))],.box [(vci i6)],.box [(.c (ro kD n4 f4))],.box [(.c (ro kD n0 f0))],.dead]⟩
def s401v5:St:=⟨(us 4 (.x (.ptr 0 0) :: .x (.ptr 1 0) :: .x (.ptr 2 0) :: .u :: .x (.ptr 3 0) :: .u :: .x (.ptr 4 0) :: .x (.ptr 5 0) :: .x (.ptr 6 0) :: .x (.ptr 7 0) :: .x (.ptr 8 0) :: (us 80 []))),[.box [(vcs w0),(vcs w1),(vci i0),(vci i1),(vci i2),(vcs w2)],.box [(.c (ro kA n0 f0))],.box [(vci i3)],.box [(vcs ByteArray.empty),(vci 0),(vcn)],.box [(.c (ro kA n1 f1))],.box [(vcs w3),(vci i4),(.c (ro kB n2 f2))],.box [(vci i5)],.box [(.c (ro kD n3 f3))],.box [(.c (ro kD n4 f4))],.dead]⟩
def L401v6 {ρ:Type} (u:Nat) (x0:Nat) (x1:FF) (x2 x3:ByteArray) (x4 x5 x6:Int) (x7:ByteArray) (x8:Nat) (x9:FF) (xA:Int) (xB:Nat) (xC:FF) (xD:Nat) (xE:FF):Nat→Int→ByteArray→Int→Nat→FF→Int→(ByteArray→Int→Nat→FF→Int→Option ρ)→Option ρ
 | 0,_,_,_,_,_,_,_=>none
 | m+1,xF,xG,xH,xI,xJ,xK,k0 =>
  (bif ((Nat.ble x0 4)&&true) then (bif (decide (xF<Int.ofNat (List.length (permsL (liL x0 x1))))) then (L401v3 u x0 x1 x2 x3 x4 x5 x6 x7 x8 x9 xA xB xC xD xE (List.length (List.getD (permsL (liL x0 x1)) xF.toNat [])) (fL (List.getD (permsL (liL x0 x1)) xF.toNat [])) u 0 xG xH xI xJ xK
  (fun xL xM xN xO xP=>(L401v6 u x0 x1 x2 x3 x4 x5 x6 x7 x8 x9 xA xB xC xD xE m (xF+1) xL xM xN xO xP k0))) else (k0 xG xH xI xJ xK)) else none)
theorem nl401v6:∀ (m:Nat) (x0:Int) (x1:ByteArray) (x2:Int) (x3:Nat) (x4:FF) (x5:Int) (k0:ByteArray→Int→Nat→FF→Int→Option ρ),ob (L401v6 u n0 f0 w0 w1 i0 i1 i2 w2 n1 f1 i3 n2 f2 n3 f3 m x0 x1 x2 x3 x4 x5 k0) ng=L401v6 u n0 f0 w0 w1 i0 i1 i2 w2 n1 f1 i3 n2 f2 n3 f3 m x0 x1 x2 x3 x4 x5 (fun x6 x7 x8 x9 xA=>ob (k0 x6 x7 x8 x9 xA) ng)
 | 0,_,_,_,_,_,_,_=>rfl
 | m+1,x0,x1,x2,x3,x4,x5,k0=>by
  simp only [L401v6,ob_bif,ob_ob,ob_none,nl401v6 m,nl401v3]
def s401v6:St:=⟨(us 4 (.x (.ptr 0 0) :: .x (.ptr 1 0) :: .x (.ptr 2 0) :: .u :: .x (.ptr 3 0) :: .u :: .x (.ptr 4 0) :: .x (.ptr 5 0) :: .x (.ptr 6 0) :: .x (.ptr 7 0) :: .x (.ptr 8 0) :: .u :: .u :: .x (.ptr 10 0) :: (us 46 (.x (.c (ro kD (List.length (List.getD (permsL (liL n0 f0)) i0.toNat [])) (fL (List.getD (permsL (liL n0 f0)) i0.toNat [])))) :: .x (.c (ro kD n0 f0)) :: vxi 0 :: (us 28 []))))),[.box [(vcs w0),(vcs w1),(vci i1),(vci i2),(vci i3),(vcs w2)],.box [(.c (ro kA n1 f1))],.box [(vci i4)],.box [(vcs ByteArray.empty),(vci 0),(vcn)],.box [(.c (ro kA n2 f2))],.box [(vcs w3),(vci i5),(.c (ro kB n3 f3))],.box [(vci i6)],.box [(.c (ro kD n4 f4))],.box [(.c (ro kD n0 f0))],.dead,.box [(.c (ro kD (List.length (List.getD (permsL (liL n0 f0)) i0.toNat [])) (fL (List.getD (permsL (liL n0 f0)) i0.toNat []))))]]⟩
theorem r401v6 :
  loopH (eI itP [(4,0,0),(5,1,0),(6,2,0),(8,3,0),(10,4,0),(11,5,0),(12,6,0),(13,7,0),(14,8,0)] 62 63 95 64 5 ((.region 19 [o1 17 (.alloc 0 79 [vcn]),o0 (.store 79 1 (tm 17) (tm 64))] 1 none)) A12v5 (C56 u) u) N401v6 (m+1) (s401v4 n0 n1 n2 n4 n3 f0 f1 f2 f4 f3 i4 i0 i1 i2 i3 i5 i6 w0 w1 w2 w3) k =
  (bif ((Nat.ble n0 4)&&true) then (bif (decide (i4<Int.ofNat (List.length (permsL (liL n0 f0))))) then (loopN (eI itP [(4,0,0),(5,1,0),(6,2,0),(8,3,0),(10,4,0),(11,5,0),(12,6,0),(13,7,0),(14,8,0),(17,10,0)] 65 66 95 67 7 ((.region 21 [o1 18 (sg 67)] 0 none)) A12v4 (C56 u) u) N401v3 u (s401v6 n0 n1 n2 n4 n3 f0 f1 f2 f4 f3 i4 i0 i1 i2 i3 i5 i6 w0 w1 w2 w3) (kFin (kIt 5 (kItr 63 62 (i4+1) (ro kD n0 f0) (kLoop (eI itP [(4,0,0),(5,1,0),(6,2,0),(8,3,0),(10,4,0),(11,5,0),(12,6,0),(13,7,0),(14,8,0)] 62 63 95 64 5 ((.region 19 [o1 17 (.alloc 0 79 [vcn]),o0 (.store 79 1 (tm 17) (tm 64))] 1 none)) A12v5 (C56 u) u) N401v6 m k))))) else (k (.exit 999999) (s401v5 n1 n2 n4 n3 n0 f1 f2 f4 f3 f0 i0 i1 i2 i3 i5 i6 w0 w1 w2 w3))) else none):=by kernel_rfl
theorem t401v1 :
  loopN (eI itP [(4,0,0),(5,1,0),(6,2,0),(8,3,0),(10,4,0),(11,5,0),(12,6,0),(13,7,0),(14,8,0),(17,10,0)] 65 66 95 67 7 ((.region 21 [o1 18 (sg 67)] 0 none)) A12v4 (C56 u) u) N401v3 u (s401v6 n0 n1 n2 n3 n4 f0 f1 f2 f3 f4 i0 i1 i2 i3 i4 i5 i6 w0 w1 w2 w3) k =
  L401v3 u n0 f0 w0 w1 i1 i2 i3 w2 n1 f1 i4 n2 f2 n4 f4 (List.length (List.getD (permsL (liL n0 f0)) i0.toNat [])) (fL (List.getD (permsL (liL n0 f0)) i0.toNat [])) u 0 w3 i5 n3 f3 i6 (fun x0 x1 x2 x3 x4=>k (.exit 999999) (s401v3 n1 n2 x2 n4 n0 (List.length (List.getD (permsL (liL n0 f0)) i0.toNat [])) f1 f2 x3 f4 f0 (fL (List.getD (permsL (liL n0 f0)) i0.toNat [])) i1 i2 i3 i4 x1 x4 w0 w1 w2 x0)) :=
 Eq.trans (loopN_at (by kernel_rfl)) (q401v3 ..)
theorem g401v2 :
  (kFin (kIt 5 (kItr 63 62 (i0+1) (ro kD n0 f0) (kLoop (eI itP [(4,0,0),(5,1,0),(6,2,0),(8,3,0),(10,4,0),(11,5,0),(12,6,0),(13,7,0),(14,8,0)] 62 63 95 64 5 ((.region 19 [o1 17 (.alloc 0 79 [vcn]),o0 (.store 79 1 (tm 17) (tm 64))] 1 none)) A12v5 (C56 u) u) N401v6 m k)))) (.exit 999999) (s401v3 n1 n2 n3 n4 n0 (List.length (List.getD (permsL (liL n0 f0)) i0.toNat [])) f1 f2 f3 f4 f0 (fL (List.getD (permsL (liL n0 f0)) i0.toNat [])) i1 i2 i3 i4 i5 i6 w0 w1 w2 w3) =
  (loopH (eI itP [(4,0,0),(5,1,0),(6,2,0),(8,3,0),(10,4,0),(11,5,0),(12,6,0),(13,7,0),(14,8,0)] 62 63 95 64 5 ((.region 19 [o1 17 (.alloc 0 79 [vcn]),o0 (.store 79 1 (tm 17) (tm 64))] 1 none)) A12v5 (C56 u) u) N401v6 m (s401v4 n0 n1 n2 n3 n4 f0 f1 f2 f3 f4 (i0+1) i1 i2 i3 i4 i5 i6 w0 w1 w2 w3) k):=by kernel_rfl
theorem q401v6:∀ (m:Nat) (x0:Int) (x1:ByteArray) (x2:Int) (x3:Nat) (x4:FF) (x5:Int),
  loopH (eI itP [(4,0,0),(5,1,0),(6,2,0),(8,3,0),(10,4,0),(11,5,0),(12,6,0),(13,7,0),(14,8,0)] 62 63 95 64 5 ((.region 19 [o1 17 (.alloc 0 79 [vcn]),o0 (.store 79 1 (tm 17) (tm 64))] 1 none)) A12v5 (C56 u) u) N401v6 m (s401v4 n0 n1 n2 x3 n3 f0 f1 f2 x4 f3 x0 i0 i1 i2 i3 x2 x5 w0 w1 w2 x1) k=L401v6 u n0 f0 w0 w1 i0 i1 i2 w2 n1 f1 i3 n2 f2 n3 f3 m x0 x1 x2 x3 x4 x5 (fun x6 x7 x8 x9 xA=>k (.exit 999999) (s401v5 n1 n2 x8 n3 n0 f1 f2 x9 f3 f0 i0 i1 i2 i3 x7 xA w0 w1 w2 x6))
 | 0,_,_,_,_,_,_=>rfl
 | m+1,x0,x1,x2,x3,x4,x5=>by
  rw [r401v6]
  simp only [L401v6,q401v6 m,t401v1,g401v2]
def N401v7:St→Option St:=nN 7 (rl 0 4 (7 :: 9 :: (rl 13 32 (rl 47 48 []))))
def s401v7:St:=⟨(us 4 (.x (.ptr 0 0) :: .x (.ptr 1 0) :: .x (.ptr 2 0) :: .u :: .x (.ptr 3 0) :: .u :: .x (.ptr 4 0) :: .x (.ptr 5 0) :: .x (.ptr 6 0) :: (us 32 (vxi i0 :: vxi i1 :: (us 48 []))))),[.box [(vcs w0),(vcs w1),(vci i2),(vci i3),(vci i4),(vcs w2)],.box [(.c (ro kA n0 f0))],.box [(vci i5)],.box [(vcs ByteArray.empty),(vci 0),(vcn)],.box [(.c (ro kA n1 f1))],.box [(vcs w3),(vci i6),(.c (ro kB n2 f2))],.box [(vci i7)]]⟩
def s401v8:St:=⟨(us 4 (.x (.ptr 0 0) :: .x (.ptr 1 0) :: .x (.ptr 2 0) :: .u :: .x (.ptr 3 0) :: .u :: .x (.ptr 4 0) :: .x (.ptr 5 0) :: .x (.ptr 6 0) :: (us 82 []))),[.box [(vcs w0),(vcs w1),(vci i0),(vci i1),(vci i2),(vcs w2)],.box [(.c (ro kA n0 f0))],.box [(vci i3)],.box [(vcs ByteArray.empty),(vci 0),(vcn)],.box [(.c (ro kA n1 f1))],.box [(vcs w3),(vci i4),(.c (ro kB n2 f2))],.box [(vci i5)]]⟩
def L401v7 {ρ:Type} (u:Nat) (x0:Int) (x1 x2:ByteArray) (x3 x4 x5:Int) (x6:ByteArray) (x7:Nat) (x8:FF) (x9:Int) (xA:Nat) (xB:FF):Nat→Int→ByteArray→Int→Nat→FF→Int→(ByteArray→Int→Nat→FF→Int→Option ρ)→Option ρ
 | 0,_,_,_,_,_,_,_=>none
 | m+1,xC,xD,xE,xF,xG,xH,k0 =>
  (bif ((decide (0≤x0)&&decide (x0≤4))&&true) then (bif (decide (xC<Int.ofNat (turnN x0.toNat))) then (L401v5 u (List.length (turnL x0.toNat xC.toNat)) (fL (turnL x0.toNat xC.toNat)) (Int.ofNat (List.length (turnL x0.toNat xC.toNat))) x1 x2 x3 x4 x5 x6 x7 x8 x9 xA xB xD xE xF xG xH u 0 0 (fun _ _=>.any)
  (fun xI xJ=>(L401v6 u xI xJ x1 x2 x3 x4 x5 x6 x7 x8 x9 xA xB (List.length (turnL x0.toNat xC.toNat)) (fL (turnL x0.toNat xC.toNat)) u 0 xD xE xF xG xH
  (fun xK xL xM xN xO=>(L401v7 u x0 x1 x2 x3 x4 x5 x6 x7 x8 x9 xA xB m (xC+1) xK xL xM xN xO k0))))) else (k0 xD xE xF xG xH)) else none)
theorem nl401v7:∀ (m:Nat) (x0:Int) (x1:ByteArray) (x2:Int) (x3:Nat) (x4:FF) (x5:Int) (k0:ByteArray→Int→Nat→FF→Int→Option ρ),ob (L401v7 u i0 w0 w1 i1 i2 i3 w2 n0 f0 i4 n1 f1 m x0 x1 x2 x3 x4 x5 k0) ng=L401v7 u i0 w0 w1 i1 i2 i3 w2 n0 f0 i4 n1 f1 m x0 x1 x2 x3 x4 x5 (fun x6 x7 x8 x9 xA=>ob (k0 x6 x7 x8 x9 xA) ng)
 | 0,_,_,_,_,_,_,_=>rfl
 | m+1,x0,x1,x2,x3,x4,x5,k0=>by
  simp only [L401v7,ob_bif,ob_ob,ob_none,nl401v7 m,nl401v5,nl401v6]
def s401v9:St:=⟨(us 4 (.x (.ptr 0 0) :: .x (.ptr 1 0) :: .x (.ptr 2 0) :: .u :: .x (.ptr 3 0) :: .u :: .x (.ptr 4 0) :: .x (.ptr 5 0) :: .x (.ptr 6 0) :: .x (.ptr 7 0) :: .x (.ptr 8 0) :: (us 32 (.x (.c (ro kD (List.length (turnL i0.toNat i1.toNat)) (fL (turnL i0.toNat i1.toNat)))) :: .x (.c (ro kD (List.length (turnL i0.toNat i1.toNat)) (fL (turnL i0.toNat i1.toNat)))) :: vxi (Int.ofNat (List.length (turnL i0.toNat i1.toNat))) :: vxi 0 :: (us 44 []))))),[.box [(vcs w0),(vcs w1),(vci i2),(vci i3),(vci i4),(vcs w2)],.box [(.c (ro kA n0 f0))],.box [(vci i5)],.box [(vcs ByteArray.empty),(vci 0),(vcn)],.box [(.c (ro kA n1 f1))],.box [(vcs w3),(vci i6),(.c (ro kB n2 f2))],.box [(vci i7)],.box [(.c (ro kD (List.length (turnL i0.toNat i1.toNat)) (fL (turnL i0.toNat i1.toNat))))],.box [(.own 9 0 0)],.arr kD 0 nilF]⟩
theorem r401v7 :
  loopH (eI itT [(4,0,0),(5,1,0),(6,2,0),(8,3,0),(10,4,0),(11,5,0),(12,6,0)] 45 46 95 47 1 ((.region 10 [o1 13 (.alloc 0 79 [vcn]),o0 (.store 79 1 (tm 13) (tm 47))] 1 none)) A12v7 (C56 u) u) N401v7 (m+1) (s401v7 n0 n1 n2 f0 f1 f2 i0 i5 i1 i2 i3 i4 i6 i7 w0 w1 w2 w3) k =
  (bif ((decide (0≤i0)&&decide (i0≤4))&&true) then (bif (decide (i5<Int.ofNat (turnN i0.toNat))) then (loopN (eB A12v3 (C56 u) u) N401v5 u (s401v9 n0 n1 n2 f0 f1 f2 i0 i5 i1 i2 i3 i4 i6 i7 w0 w1 w2 w3) (kBlk 2 (kSeq (C56 u) u (15 :: 16 :: (rl 48 14 [])) A12v6 (kIt 1 (kItr 46 45 (i5+1) (vi i0) (kLoop (eI itT [(4,0,0),(5,1,0),(6,2,0),(8,3,0),(10,4,0),(11,5,0),(12,6,0)] 45 46 95 47 1 ((.region 10 [o1 13 (.alloc 0 79 [vcn]),o0 (.store 79 1 (tm 13) (tm 47))] 1 none)) A12v7 (C56 u) u) N401v7 m k)))))) else (k (.exit 999999) (s401v8 n0 n1 n2 f0 f1 f2 i1 i2 i3 i4 i6 i7 w0 w1 w2 w3))) else none):=by kernel_rfl
theorem t401v3 :
  loopN (eB A12v3 (C56 u) u) N401v5 u (s401v9 n0 n1 n2 f0 f1 f2 i0 i1 i2 i3 i4 i5 i6 i7 w0 w1 w2 w3) k =
  L401v5 u (List.length (turnL i0.toNat i1.toNat)) (fL (turnL i0.toNat i1.toNat)) (Int.ofNat (List.length (turnL i0.toNat i1.toNat))) w0 w1 i2 i3 i4 w2 n0 f0 i5 n1 f1 w3 i6 n2 f2 i7 u 0 0 nilF (fun x0 x1=>k (.exit 2) (s401v1 n0 n1 n2 (List.length (turnL i0.toNat i1.toNat)) x0 f0 f1 f2 (fL (turnL i0.toNat i1.toNat)) x1 i2 i3 i4 i5 i6 i7 w0 w1 w2 w3)) :=
 Eq.trans (loopN_at (by kernel_rfl)) (q401v5 ..)
def s401v10:St:=⟨(us 4 (.x (.ptr 0 0) :: .x (.ptr 1 0) :: .x (.ptr 2 0) :: .u :: .x (.ptr 3 0) :: .u :: .x (.ptr 4 0) :: .x (.ptr 5 0) :: .x (.ptr 6 0) :: .x (.ptr 7 0) :: .x (.ptr 8 0) :: (us 47 (.x (.c (ro kD n0 f0)) :: vxi 0 :: (us 31 []))))),[.box [(vcs w0),(vcs w1),(vci i0),(vci i1),(vci i2),(vcs w2)],.box [(.c (ro kA n1 f1))],.box [(vci i3)],.box [(vcs ByteArray.empty),(vci 0),(vcn)],.box [(.c (ro kA n2 f2))],.box [(vcs w3),(vci i4),(.c (ro kB n3 f3))],.box [(vci i5)],.box [(.c (ro kD (List.length (turnL i6.toNat i7.toNat)) (fL (turnL i6.toNat i7.toNat))))],.box [(.c (ro kD n0 f0))],.dead]⟩
theorem g401v4 :
  (kBlk 2 (kSeq (C56 u) u (15 :: 16 :: (rl 48 14 [])) A12v6 (kIt 1 (kItr 46 45 (i0+1) (vi i1) (kLoop (eI itT [(4,0,0),(5,1,0),(6,2,0),(8,3,0),(10,4,0),(11,5,0),(12,6,0)] 45 46 95 47 1 ((.region 10 [o1 13 (.alloc 0 79 [vcn]),o0 (.store 79 1 (tm 13) (tm 47))] 1 none)) A12v7 (C56 u) u) N401v7 m k))))) (.exit 2) (s401v1 n0 n1 n2 (List.length (turnL i1.toNat i0.toNat)) n3 f0 f1 f2 (fL (turnL i1.toNat i0.toNat)) f3 i2 i3 i4 i5 i6 i7 w0 w1 w2 w3) =
  (loopN (eI itP [(4,0,0),(5,1,0),(6,2,0),(8,3,0),(10,4,0),(11,5,0),(12,6,0),(13,7,0),(14,8,0)] 62 63 95 64 5 ((.region 19 [o1 17 (.alloc 0 79 [vcn]),o0 (.store 79 1 (tm 17) (tm 64))] 1 none)) A12v5 (C56 u) u) N401v6 u (s401v10 n3 n0 n1 n2 f3 f0 f1 f2 i2 i3 i4 i5 i6 i7 i1 i0 w0 w1 w2 w3) (kFin (kIt 1 (kItr 46 45 (i0+1) (vi i1) (kLoop (eI itT [(4,0,0),(5,1,0),(6,2,0),(8,3,0),(10,4,0),(11,5,0),(12,6,0)] 45 46 95 47 1 ((.region 10 [o1 13 (.alloc 0 79 [vcn]),o0 (.store 79 1 (tm 13) (tm 47))] 1 none)) A12v7 (C56 u) u) N401v7 m k))))):=by kernel_rfl
theorem t401v5 :
  loopN (eI itP [(4,0,0),(5,1,0),(6,2,0),(8,3,0),(10,4,0),(11,5,0),(12,6,0),(13,7,0),(14,8,0)] 62 63 95 64 5 ((.region 19 [o1 17 (.alloc 0 79 [vcn]),o0 (.store 79 1 (tm 17) (tm 64))] 1 none)) A12v5 (C56 u) u) N401v6 u (s401v10 n0 n1 n2 n3 f0 f1 f2 f3 i0 i1 i2 i3 i4 i5 i6 i7 w0 w1 w2 w3) k =
  L401v6 u n0 f0 w0 w1 i0 i1 i2 w2 n1 f1 i3 n2 f2 (List.length (turnL i6.toNat i7.toNat)) (fL (turnL i6.toNat i7.toNat)) u 0 w3 i4 n3 f3 i5 (fun x0 x1 x2 x3 x4=>k (.exit 999999) (s401v5 n1 n2 x2 (List.length (turnL i6.toNat i7.toNat)) n0 f1 f2 x3 (fL (turnL i6.toNat i7.toNat)) f0 i0 i1 i2 i3 x1 x4 w0 w1 w2 x0)) :=
 Eq.trans (loopN_at (by kernel_rfl)) (q401v6 ..)
theorem g401v6 :
  (kFin (kIt 1 (kItr 46 45 (i0+1) (vi i1) (kLoop (eI itT [(4,0,0),(5,1,0),(6,2,0),(8,3,0),(10,4,0),(11,5,0),(12,6,0)] 45 46 95 47 1 ((.region 10 [o1 13 (.alloc 0 79 [vcn]),o0 (.store 79 1 (tm 13) (tm 47))] 1 none)) A12v7 (C56 u) u) N401v7 m k)))) (.exit 999999) (s401v5 n0 n1 n2 (List.length (turnL i1.toNat i0.toNat)) n3 f0 f1 f2 (fL (turnL i1.toNat i0.toNat)) f3 i2 i3 i4 i5 i6 i7 w0 w1 w2 w3) =
  (loopH (eI itT [(4,0,0),(5,1,0),(6,2,0),(8,3,0),(10,4,0),(11,5,0),(12,6,0)] 45 46 95 47 1 ((.region 10 [o1 13 (.alloc 0 79 [vcn]),o0 (.store 79 1 (tm 13) (tm 47))] 1 none)) A12v7 (C56 u) u) N401v7 m (s401v7 n0 n1 n2 f0 f1 f2 i1 (i0+1) i2 i3 i4 i5 i6 i7 w0 w1 w2 w3) k):=by kernel_rfl
theorem q401v7:∀ (m:Nat) (x0:Int) (x1:ByteArray) (x2:Int) (x3:Nat) (x4:FF) (x5:Int),
  loopH (eI itT [(4,0,0),(5,1,0),(6,2,0),(8,3,0),(10,4,0),(11,5,0),(12,6,0)] 45 46 95 47 1 ((.region 10 [o1 13 (.alloc 0 79 [vcn]),o0 (.store 79 1 (tm 13) (tm 47))] 1 none)) A12v7 (C56 u) u) N401v7 m (s401v7 n0 n1 x3 f0 f1 x4 i0 x0 i1 i2 i3 i4 x2 x5 w0 w1 w2 x1) k=L401v7 u i0 w0 w1 i1 i2 i3 w2 n0 f0 i4 n1 f1 m x0 x1 x2 x3 x4 x5 (fun x6 x7 x8 x9 xA=>k (.exit 999999) (s401v8 n0 n1 x8 f0 f1 x9 i1 i2 i3 i4 x7 xA w0 w1 w2 x6))
 | 0,_,_,_,_,_,_=>rfl
 | m+1,x0,x1,x2,x3,x4,x5=>by
  rw [r401v7]
  simp only [L401v7,q401v7 m,t401v3,g401v4,t401v5,g401v6]
def F401 (x0 x1:ByteArray) (x2 x3 x4:Int) (x5:ByteArray) (x6:Nat) (x7:FF) (x8 x9:Int):Option (ByteArray × Int × Nat × FF × Int) :=
 (ob (F389 u x8 0 500) fun xA=>(bif (!xA) then (some (ByteArray.empty,0,0,(fun _ _=>.any),9)) else (ob (F391 u x0 x1 x2 x3 x4 x5 x6 x7) fun xB=>(bif (decide ((Int.ofNat xB.1)>4)) then (some (ByteArray.empty,0,0,(fun _ _=>.any),4)) else (bif ((Int.ofNat xB.1)==0) then (bif (decide (x9<1)) then (some (ByteArray.empty,0,0,(fun _ _=>.any),29)) else (L401v7 u (Int.ofNat xB.1) x0 x1 x2 x3 x4 x5 x6 x7 x8 xB.1 xB.2 u 0 x0 x8 0 (fun _ _=>.any) 0
  (fun xC xD xE xF xG=>(some (xC,xD,xE,xF,0))))) else (bif ((Int.ofNat xB.1)==1) then (bif (decide (x9<3)) then (some (ByteArray.empty,0,0,(fun _ _=>.any),29)) else (L401v7 u (Int.ofNat xB.1) x0 x1 x2 x3 x4 x5 x6 x7 x8 xB.1 xB.2 u 0 x0 x8 0 (fun _ _=>.any) 0
  (fun xH xI xJ xK xL=>(some (xH,xI,xJ,xK,0))))) else (bif ((Int.ofNat xB.1)==2) then (bif (decide (x9<21)) then (some (ByteArray.empty,0,0,(fun _ _=>.any),29)) else (L401v7 u (Int.ofNat xB.1) x0 x1 x2 x3 x4 x5 x6 x7 x8 xB.1 xB.2 u 0 x0 x8 0 (fun _ _=>.any) 0
  (fun xM xN xO xP xQ=>(some (xM,xN,xO,xP,0))))) else (bif ((Int.ofNat xB.1)==3) then (bif (decide (x9<343)) then (some (ByteArray.empty,0,0,(fun _ _=>.any),29)) else (L401v7 u (Int.ofNat xB.1) x0 x1 x2 x3 x4 x5 x6 x7 x8 xB.1 xB.2 u 0 x0 x8 0 (fun _ _=>.any) 0
  (fun xR xS xT xU xV=>(some (xR,xS,xT,xU,0))))) else (bif ((Int.ofNat xB.1)==4) then (bif (decide (x9<10473)) then (some (ByteArray.empty,0,0,(fun _ _=>.any),29)) else (L401v7 u (Int.ofNat xB.1) x0 x1 x2 x3 x4 x5 x6 x7 x8 xB.1 xB.2 u 0 x0 x8 0 (fun _ _=>.any) 0
  (fun xW xX xY xZ xa=>(some (xW,xX,xY,xZ,0))))) else none)))))))))
def s401v11 (x0:Nat × FF):St:=⟨(.agg [(vcs w0),(vcs w1),(vci i0),(vci i1),(vci i2),(vcs w2)] :: .x (.c (ro kA n0 f0)) :: vxi i3 :: vxi i4 :: .x (.ptr 0 0) :: .x (.ptr 1 0) :: .x (.ptr 2 0) :: uu :: .x (.ptr 3 0) :: .u :: .x (.ptr 4 0) :: .x (.ptr 5 0) :: .x (.ptr 6 0) :: uu :: uu :: uu :: uu :: uu :: uu :: uu :: uu :: uu :: (us 4 (.agg [(vcs w0),(vcs w1),(vci i0),(vci i1),(vci i2),(vcs w2)] :: .x (.c (ro kA n0 f0)) :: .x (.c (ro kA x0.1 x0.2)) :: (us 11 [.x (.ptr 0 0),vxs w0,vxi i3,.agg [(vcs w0),(vci i3),(.c (ro kB 0 nilF))],.x (.c (ro kA x0.1 x0.2)),vxi (Int.ofNat x0.1),vxi 0,uu,uu,uu,uu,uu,uu,uu,uu,uu,uu,uu,uu,uu,uu,uu,uu,uu,uu,uu,uu,uu,uu,uu,uu,uu,uu,uu,uu,uu,uu,uu,uu,uu,uu,uu,uu,uu,uu,uu,uu,uu,uu,uu,uu,uu,uu,uu,uu])))),[.box [(vcs w0),(vcs w1),(vci i0),(vci i1),(vci i2),(vcs w2)],.box [(.c (ro kA n0 f0))],.box [(vci i3)],.box [(vcs ByteArray.empty),(vci 0),(vcn)],.box [(.c (ro kA x0.1 x0.2))],.box [(vcs w0),(vci i3),(.c (ro kB 0 nilF))],.box [(vci 0)]]⟩
theorem t401v7 (x0:Nat × FF) :
  loopN (eI itT [(4,0,0),(5,1,0),(6,2,0),(8,3,0),(10,4,0),(11,5,0),(12,6,0)] 45 46 95 47 1 ((.region 10 [o1 13 (.alloc 0 79 [vcn]),o0 (.store 79 1 (tm 13) (tm 47))] 1 none)) A12v7 (C56 u) u) N401v7 u (s401v11 n0 f0 i0 i1 i2 i3 i4 w0 w1 w2 x0) k =
  L401v7 u (Int.ofNat x0.1) w0 w1 i0 i1 i2 w2 n0 f0 i3 x0.1 x0.2 u 0 w0 i3 0 nilF 0 (fun x1 x2 x3 x4 x5=>k (.exit 999999) (s401v8 n0 x0.1 x3 f0 x0.2 x4 i0 i1 i2 i3 x2 x5 w0 w1 w2 x1)) :=
 Eq.trans (loopN_at (by kernel_rfl)) (q401v7 ..)
theorem g401v8 (x0:Nat × FF) :
  (kFin (kSeq (C56 u) u (rl 13 9 (44 :: 45 :: 46 :: (rl 48 16 (65 :: 66 :: (rl 68 26 []))))) A12v8 (finish A12))) (.exit 999999) (s401v8 n0 x0.1 n1 f0 x0.2 f1 i0 i1 i2 i3 i4 i5 w0 w1 w2 w3) =
  (some [.agg [(.s w3),(vi i4),(ro kB n1 f1)],.v (vi 0)]):=by kernel_rfl
theorem t401v9 (x0:Nat × FF) :
  loopN (eI itT [(4,0,0),(5,1,0),(6,2,0),(8,3,0),(10,4,0),(11,5,0),(12,6,0)] 45 46 95 47 1 ((.region 10 [o1 13 (.alloc 0 79 [vcn]),o0 (.store 79 1 (tm 13) (tm 47))] 1 none)) A12v7 (C56 u) u) N401v7 u (s401v11 n0 f0 i0 i1 i2 i3 i4 w0 w1 w2 x0) k =
  L401v7 u (Int.ofNat x0.1) w0 w1 i0 i1 i2 w2 n0 f0 i3 x0.1 x0.2 u 0 w0 i3 0 nilF 0 (fun x1 x2 x3 x4 x5=>k (.exit 999999) (s401v8 n0 x0.1 x3 f0 x0.2 x4 i0 i1 i2 i3 x2 x5 w0 w1 w2 x1)) :=
 Eq.trans (loopN_at (by kernel_rfl)) (q401v7 ..)
theorem g401v10 (x0:Nat × FF) :
  (kFin (kSeq (C56 u) u (rl 13 9 (44 :: 45 :: 46 :: (rl 48 16 (65 :: 66 :: (rl 68 26 []))))) A12v8 (finish A12))) (.exit 999999) (s401v8 n0 x0.1 n1 f0 x0.2 f1 i0 i1 i2 i3 i4 i5 w0 w1 w2 w3) =
  (some [.agg [(.s w3),(vi i4),(ro kB n1 f1)],.v (vi 0)]):=by kernel_rfl
theorem t401v11 (x0:Nat × FF) :
  loopN (eI itT [(4,0,0),(5,1,0),(6,2,0),(8,3,0),(10,4,0),(11,5,0),(12,6,0)] 45 46 95 47 1 ((.region 10 [o1 13 (.alloc 0 79 [vcn]),o0 (.store 79 1 (tm 13) (tm 47))] 1 none)) A12v7 (C56 u) u) N401v7 u (s401v11 n0 f0 i0 i1 i2 i3 i4 w0 w1 w2 x0) k =
  L401v7 u (Int.ofNat x0.1) w0 w1 i0 i1 i2 w2 n0 f0 i3 x0.1 x0.2 u 0 w0 i3 0 nilF 0 (fun x1 x2 x3 x4 x5=>k (.exit 999999) (s401v8 n0 x0.1 x3 f0 x0.2 x4 i0 i1 i2 i3 x2 x5 w0 w1 w2 x1)) :=
 Eq.trans (loopN_at (by kernel_rfl)) (q401v7 ..)
theorem g401v12 (x0:Nat × FF) :
  (kFin (kSeq (C56 u) u (rl 13 9 (44 :: 45 :: 46 :: (rl 48 16 (65 :: 66 :: (rl 68 26 []))))) A12v8 (finish A12))) (.exit 999999) (s401v8 n0 x0.1 n1 f0 x0.2 f1 i0 i1 i2 i3 i4 i5 w0 w1 w2 w3) =
  (some [.agg [(.s w3),(vi i4),(ro kB n1 f1)],.v (vi 0)]):=by kernel_rfl
theorem t401v13 (x0:Nat × FF) :
  loopN (eI itT [(4,0,0),(5,1,0),(6,2,0),(8,3,0),(10,4,0),(11,5,0),(12,6,0)] 45 46 95 47 1 ((.region 10 [o1 13 (.alloc 0 79 [vcn]),o0 (.store 79 1 (tm 13) (tm 47))] 1 none)) A12v7 (C56 u) u) N401v7 u (s401v11 n0 f0 i0 i1 i2 i3 i4 w0 w1 w2 x0) k =
  L401v7 u (Int.ofNat x0.1) w0 w1 i0 i1 i2 w2 n0 f0 i3 x0.1 x0.2 u 0 w0 i3 0 nilF 0 (fun x1 x2 x3 x4 x5=>k (.exit 999999) (s401v8 n0 x0.1 x3 f0 x0.2 x4 i0 i1 i2 i3 x2 x5 w0 w1 w2 x1)) :=
 Eq.trans (loopN_at (by kernel_rfl)) (q401v7 ..)
theorem g401v14 (x0:Nat × FF) :
  (kFin (kSeq (C56 u) u (rl 13 9 (44 :: 45 :: 46 :: (rl 48 16 (65 :: 66 :: (rl 68 26 []))))) A12v8 (finish A12))) (.exit 999999) (s401v8 n0 x0.1 n1 f0 x0.2 f1 i0 i1 i2 i3 i4 i5 w0 w1 w2 w3) =
  (some [.agg [(.s w3),(vi i4),(ro kB n1 f1)],.v (vi 0)]):=by kernel_rfl
theorem t401v15 (x0:Nat × FF) :
  loopN (eI itT [(4,0,0),(5,1,0),(6,2,0),(8,3,0),(10,4,0),(11,5,0),(12,6,0)] 45 46 95 47 1 ((.region 10 [o1 13 (.alloc 0 79 [vcn]),o0 (.store 79 1 (tm 13) (tm 47))] 1 none)) A12v7 (C56 u) u) N401v7 u (s401v11 n0 f0 i0 i1 i2 i3 i4 w0 w1 w2 x0) k =
  L401v7 u (Int.ofNat x0.1) w0 w1 i0 i1 i2 w2 n0 f0 i3 x0.1 x0.2 u 0 w0 i3 0 nilF 0 (fun x1 x2 x3 x4 x5=>k (.exit 999999) (s401v8 n0 x0.1 x3 f0 x0.2 x4 i0 i1 i2 i3 x2 x5 w0 w1 w2 x1)) :=
 Eq.trans (loopN_at (by kernel_rfl)) (q401v7 ..)
theorem g401v16 (x0:Nat × FF) :
  (kFin (kSeq (C56 u) u (rl 13 9 (44 :: 45 :: 46 :: (rl 48 16 (65 :: 66 :: (rl 68 26 []))))) A12v8 (finish A12))) (.exit 999999) (s401v8 n0 x0.1 n1 f0 x0.2 f1 i0 i1 i2 i3 i4 i5 w0 w1 w2 w3) =
  (some [.agg [(.s w3),(vi i4),(ro kB n1 f1)],.v (vi 0)]):=by kernel_rfl
theorem e401:evalF (C56 u) u A12 [.agg [(.s w0),(.s w1),(vi i0),(vi i1),(vi i2),(.s w2)],.v (ro kA n0 f0),.v (vi i3),.v (vi i4)]=ob (F401 u w0 w1 i0 i1 i2 w2 n0 f0 i3 i4) fun t=>some [.agg [(.s t.1),(vi t.2.1),(ro kB t.2.2.1 t.2.2.2.1)],.v (vi t.2.2.2.2)]:=Eq.trans (b:=(ob (F389 u i3 0 500) fun x0=>(bif (!x0) then (some [.agg [(.s ByteArray.empty),(vi 0),(ro kB 0 nilF)],.v (vi 9)]) else (ob (F391 u w0 w1 i0 i1 i2 w2 n0 f0) fun x1=>(bif (decide ((Int.ofNat x1.1)>4)) then (some [.agg [(.s ByteArray.empty),(vi 0),(ro kB 0 nilF)],.v (vi 4)]) else (bif ((Int.ofNat x1.1)==0) then (bif (decide (i4<1)) then (some [.agg [(.s ByteArray.empty),(vi 0),(ro kB 0 nilF)],.v (vi 29)]) else (loopN (eI itT [(4,0,0),(5,1,0),(6,2,0),(8,3,0),(10,4,0),(11,5,0),(12,6,0)] 45 46 95 47 1 ((.region 10 [o1 13 (.alloc 0 79 [vcn]),o0 (.store 79 1 (tm 13) (tm 47))] 1 none)) A12v7 (C56 u) u) N401v7 u (s401v11 n0 f0 i0 i1 i2 i3 i4 w0 w1 w2 x1) (kFin (kSeq (C56 u) u (rl 13 9 (44 :: 45 :: 46 :: (rl 48 16 (65 :: 66 :: (rl 68 26 []))))) A12v8 (finish A12))))) else (bif ((Int.ofNat x1.1)==1) then (bif (decide (i4<3)) then (some [.agg [(.s ByteArray.empty),(vi 0),(ro kB 0 nilF)],.v (vi 29)]) else (loopN (eI itT [(4,0,0),(5,1,0),(6,2,0),(8,3,0),(10,4,0),(11,5,0),(12,6,0)] 45 46 95 47 1 ((.region 10 [o1 13 (.alloc 0 79 [vcn]),o0 (.store 79 1 (tm 13) (tm 47))] 1 none)) A12v7 (C56 u) u) N401v7 u (s401v11 n0 f0 i0 i1 i2 i3 i4 w0 w1 w2 x1) (kFin (kSeq (C56 u) u (rl 13 9 (44 :: 45 :: 46 :: (rl 48 16 (65 :: 66 :: (rl 68 26 []))))) A12v8 (finish A12))))) else (bif ((Int.ofNat x1.1)==2) then (bif (decide (i4<21)) then (some [.agg [(.s ByteArray.empty),(vi 0),(ro kB 0 nilF)],.v (vi 29)]) else (loopN (eI itT [(4,0,0),(5,1,0),(6,2,0),(8,3,0),(10,4,0),(11,5,0),(12,6,0)] 45 46 95 47 1 ((.region 10 [o1 13 (.alloc 0 79 [vcn]),o0 (.store 79 1 (tm 13) (tm 47))] 1 none)) A12v7 (C56 u) u) N401v7 u (s401v11 n0 f0 i0 i1 i2 i3 i4 w0 w1 w2 x1) (kFin (kSeq (C56 u) u (rl 13 9 (44 :: 45 :: 46 :: (rl 48 16 (65 :: 66 :: (rl 68 26 []))))) A12v8 (finish A12))))) else (bif ((Int.ofNat x1.1)==3) then (bif (decide (i4<343)) then (some [.agg [(.s ByteArray.empty),(vi 0),(ro kB 0 nilF)],.v (vi 29)]) else (loopN (eI itT [(4,0,0),(5,1,0),(6,2,0),(8,3,0),(10,4,0),(11,5,0),(12,6,0)] 45 46 95 47 1 ((.region 10 [o1 13 (.alloc 0 79 [vcn]),o0 (.store 79 1 (tm 13) (tm 47))] 1 none)) A12v7 (C56 u) u) N401v7 u (s401v11 n0 f0 i0 i1 i2 i3 i4 w0 w1 w2 x1) (kFin (kSeq (C56 u) u (rl 13 9 (44 :: 45 :: 46 :: (rl 48 16 (65 :: 66 :: (rl 68 26 []))))) A12v8 (finish A12))))) else (bif ((Int.ofNat x1.1)==4) then (bif (decide (i4<10473)) then (some [.agg [(.s ByteArray.empty),(vi 0),(ro kB 0 nilF)],.v (vi 29)]) else (loopN (eI itT [(4,0,0),(5,1,0),(6,2,0),(8,3,0),(10,4,0),(11,5,0),(12,6,0)] 45 46 95 47 1 ((.region 10 [o1 13 (.alloc 0 79 [vcn]),o0 (.store 79 1 (tm 13) (tm 47))] 1 none)) A12v7 (C56 u) u) N401v7 u (s401v11 n0 f0 i0 i1 i2 i3 i4 w0 w1 w2 x1) (kFin (kSeq (C56 u) u (rl 13 9 (44 :: 45 :: 46 :: (rl 48 16 (65 :: 66 :: (rl 68 26 []))))) A12v8 (finish A12))))) else none)))))))))) (by kernel_rfl) (by
 simp only [F401,ob_bif,ob_ob,ob_none,ob_some,nl401v7,t401v7,g401v8,t401v9,g401v10,t401v11,g401v12,t401v13,g401v14,t401v15,g401v16])
def O401:Ora:=mkO (qc (ag (tc cS (tc cS (tc ci (tc ci (tc ci (t1 cS))))))) (qc (av (cL kA)) (qc (av ci) (q1 (av ci))))) (fun x=>F401 u x.1.1 x.1.2.1 x.1.2.2.1 x.1.2.2.2.1 x.1.2.2.2.2.1 x.1.2.2.2.2.2 x.2.1.1 x.2.1.2 x.2.2.1 x.2.2.2) fun t=>[.agg [(.s t.1),(vi t.2.1),(ro kB t.2.2.1 t.2.2.2.1)],.v (vi t.2.2.2.2)]
theorem d401:DOI (O401 u) (C56 u) 12 A12:=dOI u (fun x=>by exact e401 u x.2.1.1 x.2.1.2 x.1.2.2.1 x.1.2.2.2.1 x.1.2.2.2.2.1 x.2.2.1 x.2.2.2 x.1.1 x.1.2.1 x.1.2.2.2.2.2)
def C57:Oracle:=(C56 u).add 12 (fun _=>true) (O401 u)
def B9:An tT Tryz.f9 [.k (4 :: (rl 6 21 [])),.g [0,1],.k (rl 0 4 (rl 5 40 [])),.k (4 :: 5 :: (rl 27 18 [])),.h [],.k (0 :: 1 :: 4 :: (rl 6 39 [])),.k (rl 27 5 []),.g [0,1],.k (rl 0 45 []),.k (4 :: (rl 34 11 [])),.g [0,1],.k (rl 0 4 (rl 5 40 [])),.g [0,1],.k (rl 0 4 (rl 5 40 []))]:=by
 apply Subtype.mk;cbv<;>exact rfl
def A9:AF:=B9.1
def A9v5:AC:=sA A9.body [1,1]
def A9v4:AC:=sA A9v5 [1]
def A9v3:AC:=sA A9v5 [0,1,0,0]
def N402v1:St→Option St:=nN 2 (0 :: 1 :: 4 :: (rl 6 39 []))
def s402v0:St:=⟨(.u :: .u :: .x (.ptr 0 0) :: .x (.ptr 1 0) :: .u :: vxi i0 :: (us 39 [])),[.box [(vcs w0),(vci i1),(.c (ro kB n0 f0))],.box [(vcs w1),(vci i2),(.c (ro kB n1 f1))]]⟩
def s402v1:St:=⟨(us 4 (vxb false :: (us 40 []))),[.dead,.dead]⟩
def s402v2:St:=⟨(us 45 []),[.dead,.dead]⟩
def L402v1 {ρ:Type} (u:Nat) (x0:ByteArray) (x1:Int) (x2:Nat) (x3:FF) (x4:ByteArray) (x5:Int) (x6:Nat) (x7:FF):Nat→Int→(Option ρ)→(Option ρ)→Option ρ
 | 0,_,_,_=>none
 | m+1,x8,k0,k1 =>
  (bif (decide (x8<(Int.ofNat x2))) then (bif (inb x8 x2) then (bif (inb x8 x6) then (bif (!((ByteArray.toList (x3 x8.toNat 0).str==ByteArray.toList (x7 x8.toNat 0).str)&&(((x3 x8.toNat 1).int==(x7 x8.toNat 1).int)&&(((x3 x8.toNat 2).int==(x7 x8.toNat 2).int)&&(((x3 x8.toNat 3).int==(x7 x8.toNat 3).int)&&(((x3 x8.toNat 4).bool==(x7 x8.toNat 4).bool)&&true)))))) then k0 else (L402v1 u x0 x1 x2 x3 x4 x5 x6 x7 m (w64 (x8+1)) k0 k1)) else none) else none) else k1)
theorem nl402v1:∀ (m:Nat) (x0:Int) (k0:Option ρ) (k1:Option ρ),ob (L402v1 u w0 i0 n0 f0 w1 i1 n1 f1 m x0 k0 k1) ng=L402v1 u w0 i0 n0 f0 w1 i1 n1 f1 m x0 (ob k0 ng) (ob k1 ng)
 | 0,_,_,_=>rfl
 | m+1,x0,k0,k1=>by
  simp only [L402v1,ob_bif,ob_ob,ob_none,nl402v1 m]
theorem q402v1:∀ (m:Nat) (x0:Int),
  loopH (eB A9v3 (C57 u) u) N402v1 m (s402v0 n0 n1 f0 f1 x0 i0 i1 w0 w1) k=L402v1 u w0 i0 n0 f0 w1 i1 n1 f1 m x0 (k .ret s402v1) (k (.exit 0) s402v2)
 | 0,_=>rfl
 | m+1,x0=>by
  simp only [L402v1,← q402v1 m]
  kernel_rfl
def F402 (x0:ByteArray) (x1:Int) (x2:Nat) (x3:FF) (x4:ByteArray) (x5:Int) (x6:Nat) (x7:FF):Option (Bool) :=
 (bif ((!(ByteArray.toList x0==ByteArray.toList x4))==false) then (bif ((x1 != x5)==false) then (bif ((Int.ofNat x2) != (Int.ofNat x6)) then (some false) else (L402v1 u x0 x1 x2 x3 x4 x5 x6 x7 u 0
  (some false)
  (some true))) else (some false)) else (some false))
def s402v3:St:=⟨(.agg [(vcs w0),(vci i0),(.c (ro kB n0 f0))] :: .agg [(vcs w1),(vci i1),(.c (ro kB n1 f1))] :: .x (.ptr 0 0) :: .x (.ptr 1 0) :: .u :: vxi 0 :: (us 21 [uu,uu,uu,uu,uu,uu,uu,uu,uu,uu,uu,uu,uu,uu,uu,uu,uu,uu])),[.box [(vcs w0),(vci i0),(.c (ro kB n0 f0))],.box [(vcs w1),(vci i1),(.c (ro kB n1 f1))]]⟩
theorem t402v1 :
  loopN (eB A9v3 (C57 u) u) N402v1 u (s402v3 n0 n1 f0 f1 i0 i1 w0 w1) k =
  L402v1 u w0 i0 n0 f0 w1 i1 n1 f1 u 0 (k .ret s402v1) (k (.exit 0) s402v2) :=
 Eq.trans (loopN_at (by kernel_rfl)) (q402v1 ..)
theorem g402v2 :
  (kBlk 0 (kSeq (C57 u) u (4 :: 5 :: (rl 27 18 [])) A9v4 (finish A9))) .ret s402v1 =
  (some [.v (.b false)]):=by kernel_rfl
theorem g402v3 :
  (kBlk 0 (kSeq (C57 u) u (4 :: 5 :: (rl 27 18 [])) A9v4 (finish A9))) (.exit 0) s402v2 =
  (some [.v (.b true)]):=by kernel_rfl
theorem e402:evalF (C57 u) u A9 [.agg [(.s w0),(vi i0),(ro kB n0 f0)],.agg [(.s w1),(vi i1),(ro kB n1 f1)]]=ob (F402 u w0 i0 n0 f0 w1 i1 n1 f1) fun t=>some [.v (.b t)]:=Eq.trans (b:=(bif ((!(ByteArray.toList w0==ByteArray.toList w1))==false) then (bif ((i0 != i1)==false) then (bif ((Int.ofNat n0) != (Int.ofNat n1)) then (some [.v (.b false)]) else (loopN (eB A9v3 (C57 u) u) N402v1 u (s402v3 n0 n1 f0 f1 i0 i1 w0 w1) (kBlk 0 (kSeq (C57 u) u (4 :: 5 :: (rl 27 18 [])) A9v4 (finish A9))))) else (some [.v (.b false)])) else (some [.v (.b false)]))) (by kernel_rfl) (by
 simp only [F402,ob_bif,ob_ob,ob_none,ob_some,nl402v1,t402v1,g402v2,g402v3])
def O402:Ora:=mkO (qc (ag (tc cS (tc ci (t1 (cL kB))))) (q1 (ag (tc cS (tc ci (t1 (cL kB))))))) (fun x=>F402 u x.1.1 x.1.2.1 x.1.2.2.1 x.1.2.2.2 x.2.1 x.2.2.1 x.2.2.2.1 x.2.2.2.2) fun t=>[.v (.b t)]
theorem d402:DO (O402 u) (C57 u) 9 A9:=dO u (fun x=>by exact e402 u x.1.2.2.1 x.2.2.2.1 x.1.2.2.2 x.2.2.2.2 x.1.2.1 x.2.2.1 x.1.1 x.2.1)
def C58:Oracle:=(C57 u).add 9 (fun _=>true) (O402 u)
def B8:An tT Tryz.f8 [.k (0 :: (rl 40 24 [])),.g [1,3,5,6,7],.k (rl 1 92 []),.g [1,3,5,6,7],.k (rl 1 92 [])]:=by
 apply Subtype.mk;cbv<;>exact rfl
def A8:AF:=B8.1
def F403:Option (Bool) :=
 (ob (F387 u 100 50) fun x0=>(ob (F388 u (ByteArray.mk #[97]) 30 10) fun x1=>(ob (F388 u (ByteArray.mk #[98]) 30 10) fun x2=>(ob (F398 u x0.1 x0.2.1 x0.2.2.1 x0.2.2.2.1 x0.2.2.2.2.1 x0.2.2.2.2.2 2 (rowsF 18 [(.s x1.1),(.i .i64 x1.2.1),(.i .i64 x1.2.2.1),(.s x1.2.2.2.1),(.s x1.2.2.2.2.1),(.i .i64 x1.2.2.2.2.2.1),(.ro false (.pr (.int .i64) (.pr (.int .i64) .nil)) x1.2.2.2.2.2.2.1 x1.2.2.2.2.2.2.2.1),(.ro false (.pr (.sl (.pr (.int .i64) (.pr (.int .i64) .nil))) .nil) (p8 x1).1 (p8 x1).2.1),(.s (p8 x1).2.2.1),(.i .i64 (p8 x1).2.2.2.1),(.i .i64 (p8 x1).2.2.2.2.1),(.i .i64 (p8 x1).2.2.2.2.2.1),(.i .i64 (p8 x1).2.2.2.2.2.2.1),(.i .i64 (p8 x1).2.2.2.2.2.2.2.1),(.i .i64 (pG x1).1),(.i .i64 (pG x1).2.1),(.i .i64 (pG x1).2.2.1),(.i .i64 (pG x1).2.2.2),(.s x2.1),(.i .i64 x2.2.1),(.i .i64 x2.2.2.1),(.s x2.2.2.2.1),(.s x2.2.2.2.2.1),(.i .i64 x2.2.2.2.2.2.1),(.ro false (.pr (.int .i64) (.pr (.int .i64) .nil)) x2.2.2.2.2.2.2.1 x2.2.2.2.2.2.2.2.1),(.ro false (.pr (.sl (.pr (.int .i64) (.pr (.int .i64) .nil))) .nil) (p8 x2).1 (p8 x2).2.1),(.s (p8 x2).2.2.1),(.i .i64 (p8 x2).2.2.2.1),(.i .i64 (p8 x2).2.2.2.2.1),(.i .i64 (p8 x2).2.2.2.2.2.1),(.i .i64 (p8 x2).2.2.2.2.2.2.1),(.i .i64 (p8 x2).2.2.2.2.2.2.2.1),(.i .i64 (pG x2).1),(.i .i64 (pG x2).2.1),(.i .i64 (pG x2).2.2.1),(.i .i64 (pG x2).2.2.2)]) 5) fun x3=>(ob (F387 u 20 40) fun x4=>(ob (F388 u (ByteArray.mk #[97]) 30 10) fun x5=>(ob (F398 u x4.1 x4.2.1 x4.2.2.1 x4.2.2.2.1 x4.2.2.2.2.1 x4.2.2.2.2.2 1 (rowsF 18 [(.s x5.1),(.i .i64 x5.2.1),(.i .i64 x5.2.2.1),(.s x5.2.2.2.1),(.s x5.2.2.2.2.1),(.i .i64 x5.2.2.2.2.2.1),(.ro false (.pr (.int .i64) (.pr (.int .i64) .nil)) x5.2.2.2.2.2.2.1 x5.2.2.2.2.2.2.2.1),(.ro false (.pr (.sl (.pr (.int .i64) (.pr (.int .i64) .nil))) .nil) (p8 x5).1 (p8 x5).2.1),(.s (p8 x5).2.2.1),(.i .i64 (p8 x5).2.2.2.1),(.i .i64 (p8 x5).2.2.2.2.1),(.i .i64 (p8 x5).2.2.2.2.2.1),(.i .i64 (p8 x5).2.2.2.2.2.2.1),(.i .i64 (p8 x5).2.2.2.2.2.2.2.1),(.i .i64 (pG x5).1),(.i .i64 (pG x5).2.1),(.i .i64 (pG x5).2.2.1),(.i .i64 (pG x5).2.2.2)]) 5) fun x6=>(ob (F388 u (ByteArray.mk #[97]) 20 10) fun x7=>(ob (F388 u (ByteArray.mk #[98]) 40 20) fun x8=>(ob (F388 u (ByteArray.mk #[99]) 19 9) fun x9=>(ob (F387 u 42 32) fun xA=>(ob (F401 u xA.1 xA.2.1 xA.2.2.1 xA.2.2.2.1 xA.2.2.2.2.1 xA.2.2.2.2.2 3 (rowsF 18 [(.s x7.1),(.i .i64 x7.2.1),(.i .i64 x7.2.2.1),(.s x7.2.2.2.1),(.s x7.2.2.2.2.1),(.i .i64 x7.2.2.2.2.2.1),(.ro false (.pr (.int .i64) (.pr (.int .i64) .nil)) x7.2.2.2.2.2.2.1 x7.2.2.2.2.2.2.2.1),(.ro false (.pr (.sl (.pr (.int .i64) (.pr (.int .i64) .nil))) .nil) (p8 x7).1 (p8 x7).2.1),(.s (p8 x7).2.2.1),(.i .i64 (p8 x7).2.2.2.1),(.i .i64 (p8 x7).2.2.2.2.1),(.i .i64 (p8 x7).2.2.2.2.2.1),(.i .i64 (p8 x7).2.2.2.2.2.2.1),(.i .i64 (p8 x7).2.2.2.2.2.2.2.1),(.i .i64 (pG x7).1),(.i .i64 (pG x7).2.1),(.i .i64 (pG x7).2.2.1),(.i .i64 (pG x7).2.2.2),(.s x8.1),(.i .i64 x8.2.1),(.i .i64 x8.2.2.1),(.s x8.2.2.2.1),(.s x8.2.2.2.2.1),(.i .i64 x8.2.2.2.2.2.1),(.ro false (.pr (.int .i64) (.pr (.int .i64) .nil)) x8.2.2.2.2.2.2.1 x8.2.2.2.2.2.2.2.1),(.ro false (.pr (.sl (.pr (.int .i64) (.pr (.int .i64) .nil))) .nil) (p8 x8).1 (p8 x8).2.1),(.s (p8 x8).2.2.1),(.i .i64 (p8 x8).2.2.2.1),(.i .i64 (p8 x8).2.2.2.2.1),(.i .i64 (p8 x8).2.2.2.2.2.1),(.i .i64 (p8 x8).2.2.2.2.2.2.1),(.i .i64 (p8 x8).2.2.2.2.2.2.2.1),(.i .i64 (pG x8).1),(.i .i64 (pG x8).2.1),(.i .i64 (pG x8).2.2.1),(.i .i64 (pG x8).2.2.2),(.s x9.1),(.i .i64 x9.2.1),(.i .i64 x9.2.2.1),(.s x9.2.2.2.1),(.s x9.2.2.2.2.1),(.i .i64 x9.2.2.2.2.2.1),(.ro false (.pr (.int .i64) (.pr (.int .i64) .nil)) x9.2.2.2.2.2.2.1 x9.2.2.2.2.2.2.2.1),(.ro false (.pr (.sl (.pr (.int .i64) (.pr (.int .i64) .nil))) .nil) (p8 x9).1 (p8 x9).2.1),(.s (p8 x9).2.2.1),(.i .i64 (p8 x9).2.2.2.1),(.i .i64 (p8 x9).2.2.2.2.1),(.i .i64 (p8 x9).2.2.2.2.2.1),(.i .i64 (p8 x9).2.2.2.2.2.2.1),(.i .i64 (p8 x9).2.2.2.2.2.2.2.1),(.i .i64 (pG x9).1),(.i .i64 (pG x9).2.1),(.i .i64 (pG x9).2.2.1),(.i .i64 (pG x9).2.2.2)]) 1 343) fun xB=>(ob (F387 u 42 32) fun xC=>(ob (F401 u xC.1 xC.2.1 xC.2.2.1 xC.2.2.2.1 xC.2.2.2.2.1 xC.2.2.2.2.2 3 (rowsF 18 [(.s x7.1),(.i .i64 x7.2.1),(.i .i64 x7.2.2.1),(.s x7.2.2.2.1),(.s x7.2.2.2.2.1),(.i .i64 x7.2.2.2.2.2.1),(.ro false (.pr (.int .i64) (.pr (.int .i64) .nil)) x7.2.2.2.2.2.2.1 x7.2.2.2.2.2.2.2.1),(.ro false (.pr (.sl (.pr (.int .i64) (.pr (.int .i64) .nil))) .nil) (p8 x7).1 (p8 x7).2.1),(.s (p8 x7).2.2.1),(.i .i64 (p8 x7).2.2.2.1),(.i .i64 (p8 x7).2.2.2.2.1),(.i .i64 (p8 x7).2.2.2.2.2.1),(.i .i64 (p8 x7).2.2.2.2.2.2.1),(.i .i64 (p8 x7).2.2.2.2.2.2.2.1),(.i .i64 (pG x7).1),(.i .i64 (pG x7).2.1),(.i .i64 (pG x7).2.2.1),(.i .i64 (pG x7).2.2.2),(.s x8.1),(.i .i64 x8.2.1),(.i .i64 x8.2.2.1),(.s x8.2.2.2.1),(.s x8.2.2.2.2.1),(.i .i64 x8.2.2.2.2.2.1),(.ro false (.pr (.int .i64) (.pr (.int .i64) .nil)) x8.2.2.2.2.2.2.1 x8.2.2.2.2.2.2.2.1),(.ro false (.pr (.sl (.pr (.int .i64) (.pr (.int .i64) .nil))) .nil) (p8 x8).1 (p8 x8).2.1),(.s (p8 x8).2.2.1),(.i .i64 (p8 x8).2.2.2.1),(.i .i64 (p8 x8).2.2.2.2.1),(.i .i64 (p8 x8).2.2.2.2.2.1),(.i .i64 (p8 x8).2.2.2.2.2.2.1),(.i .i64 (p8 x8).2.2.2.2.2.2.2.1),(.i .i64 (pG x8).1),(.i .i64 (pG x8).2.1),(.i .i64 (pG x8).2.2.1),(.i .i64 (pG x8).2.2.2),(.s x9.1),(.i .i64 x9.2.1),(.i .i64 x9.2.2.1),(.s x9.2.2.2.1),(.s x9.2.2.2.2.1),(.i .i64 x9.2.2.2.2.2.1),(.ro false (.pr (.int .i64) (.pr (.int .i64) .nil)) x9.2.2.2.2.2.2.1 x9.2.2.2.2.2.2.2.1),(.ro false (.pr (.sl (.pr (.int .i64) (.pr (.int .i64) .nil))) .nil) (p8 x9).1 (p8 x9).2.1),(.s (p8 x9).2.2.1),(.i .i64 (p8 x9).2.2.2.1),(.i .i64 (p8 x9).2.2.2.2.1),(.i .i64 (p8 x9).2.2.2.2.2.1),(.i .i64 (p8 x9).2.2.2.2.2.2.1),(.i .i64 (p8 x9).2.2.2.2.2.2.2.1),(.i .i64 (pG x9).1),(.i .i64 (pG x9).2.1),(.i .i64 (pG x9).2.2.1),(.i .i64 (pG x9).2.2.2)]) 1 342) fun xD=>(ob (F388 u (ByteArray.mk #[97]) 30 10) fun xE=>(ob (F393 u (listF [(.s xE.1),(.i .i64 xE.2.1),(.i .i64 xE.2.2.1),(.s xE.2.2.2.1),(.s xE.2.2.2.2.1),(.i .i64 xE.2.2.2.2.2.1),(.ro false (.pr (.int .i64) (.pr (.int .i64) .nil)) xE.2.2.2.2.2.2.1 xE.2.2.2.2.2.2.2.1),(.ro false (.pr (.sl (.pr (.int .i64) (.pr (.int .i64) .nil))) .nil) (p8 xE).1 (p8 xE).2.1),(.s (p8 xE).2.2.1),(.i .i64 (p8 xE).2.2.2.1),(.i .i64 (p8 xE).2.2.2.2.1),(.i .i64 (p8 xE).2.2.2.2.2.1),(.i .i64 (p8 xE).2.2.2.2.2.2.1),(.i .i64 (p8 xE).2.2.2.2.2.2.2.1),(.i .i64 (pG xE).1),(.i .i64 (pG xE).2.1),(.i .i64 (pG xE).2.2.1),(.i .i64 (pG xE).2.2.2)]) 1) fun xF=>(ob (F402 u x3.1 x3.2.1 x3.2.2.1 x3.2.2.2 (ByteArray.mk #[83,49]) 5 2 (rowsF 5 [(.s (ByteArray.mk #[97])),(.i .i64 5),(.i .i64 5),(.i .i64 0),(.b false),(.s (ByteArray.mk #[98])),(.i .i64 40),(.i .i64 5),(.i .i64 0),(.b false)])) fun xG=>(bif ((!xG)==false) then (bif (((Int.ofNat x6.2.2.1) != 1)==false) then (bif (inb 0 x6.2.2.1) then (bif (!((ByteArray.toList (x6.2.2.2 0 0).str==ByteArray.toList (ByteArray.mk #[97]))&&(((x6.2.2.2 0 1).int==15)&&(((x6.2.2.2 0 2).int==5)&&(((x6.2.2.2 0 3).int==1)&&(((x6.2.2.2 0 4).bool==false)&&true)))))) then (some false) else (bif ((xB.2.2.2.2==0)==true) then (ob (F183 u xB.1 xB.2.1 xB.2.2.1 xB.2.2.2.1 3 (rowsF 18 [(.s x7.1),(.i .i64 x7.2.1),(.i .i64 x7.2.2.1),(.s x7.2.2.2.1),(.s x7.2.2.2.2.1),(.i .i64 x7.2.2.2.2.2.1),(.ro false (.pr (.int .i64) (.pr (.int .i64) .nil)) x7.2.2.2.2.2.2.1 x7.2.2.2.2.2.2.2.1),(.ro false (.pr (.sl (.pr (.int .i64) (.pr (.int .i64) .nil))) .nil) (p8 x7).1 (p8 x7).2.1),(.s (p8 x7).2.2.1),(.i .i64 (p8 x7).2.2.2.1),(.i .i64 (p8 x7).2.2.2.2.1),(.i .i64 (p8 x7).2.2.2.2.2.1),(.i .i64 (p8 x7).2.2.2.2.2.2.1),(.i .i64 (p8 x7).2.2.2.2.2.2.2.1),(.i .i64 (pG x7).1),(.i .i64 (pG x7).2.1),(.i .i64 (pG x7).2.2.1),(.i .i64 (pG x7).2.2.2),(.s x8.1),(.i .i64 x8.2.1),(.i .i64 x8.2.2.1),(.s x8.2.2.2.1),(.s x8.2.2.2.2.1),(.i .i64 x8.2.2.2.2.2.1),(.ro false (.pr (.int .i64) (.pr (.int .i64) .nil)) x8.2.2.2.2.2.2.1 x8.2.2.2.2.2.2.2.1),(.ro false (.pr (.sl (.pr (.int .i64) (.pr (.int .i64) .nil))) .nil) (p8 x8).1 (p8 x8).2.1),(.s (p8 x8).2.2.1),(.i .i64 (p8 x8).2.2.2.1),(.i .i64 (p8 x8).2.2.2.2.1),(.i .i64 (p8 x8).2.2.2.2.2.1),(.i .i64 (p8 x8).2.2.2.2.2.2.1),(.i .i64 (p8 x8).2.2.2.2.2.2.2.1),(.i .i64 (pG x8).1),(.i .i64 (pG x8).2.1),(.i .i64 (pG x8).2.2.1),(.i .i64 (pG x8).2.2.2),(.s x9.1),(.i .i64 x9.2.1),(.i .i64 x9.2.2.1),(.s x9.2.2.2.1),(.s x9.2.2.2.2.1),(.i .i64 x9.2.2.2.2.2.1),(.ro false (.pr (.int .i64) (.pr (.int .i64) .nil)) x9.2.2.2.2.2.2.1 x9.2.2.2.2.2.2.2.1),(.ro false (.pr (.sl (.pr (.int .i64) (.pr (.int .i64) .nil))) .nil) (p8 x9).1 (p8 x9).2.1),(.s (p8 x9).2.2.1),(.i .i64 (p8 x9).2.2.2.1),(.i .i64 (p8 x9).2.2.2.2.1),(.i .i64 (p8 x9).2.2.2.2.2.1),(.i .i64 (p8 x9).2.2.2.2.2.2.1),(.i .i64 (p8 x9).2.2.2.2.2.2.2.1),(.i .i64 (pG x9).1),(.i .i64 (pG x9).2.1),(.i .i64 (pG x9).2.2.1),(.i .i64 (pG x9).2.2.2)])) fun xH=>(bif ((xH==1942)==true) then (bif ((xD.2.2.2.2==29)==true) then (bif ((xF.1==10)==true) then (bif ((xF.2==30)==true) then (ob (F395 u 20 20 0 (fun _ _=>.any) 5 5 10 10 5) fun xI=>(bif (xI==true) then (ob (F395 u 20 20 0 (fun _ _=>.any) 6 5 10 10 5) fun xJ=>(some (!xJ))) else (some false))) else (some false)) else (some false)) else (some false)) else (some false))) else (some false))) else none) else (some false)) else (some false)))))))))))))))))))
theorem e403:evalF (C58 u) u A8 []=ob (F403 u) fun t=>some [.v (.b t)]:=by
 simp only [F403,ob_bif,ob_ob,ob_none,ob_some]
 kernel_rfl
def O403:Ora:=mkO q0 (fun x=>F403 u) fun t=>[.v (.b t)]
theorem d403:DO (O403 u) (C58 u) 8 A8:=dO u (fun x=>by exact e403 u)
def C59:Oracle:=(C58 u).add 8 (fun _=>true) (O403 u)
def B38:An tT Tryz.f38 [.k (rl 4 16 []),.h [],.k (2 :: 3 :: 4 :: (rl 6 14 [])),.k (rl 6 4 []),.k (rl 0 20 []),.k (4 :: (rl 12 8 [])),.k (rl 0 4 (rl 5 15 [])),.k (rl 0 4 (rl 5 15 []))]:=by
 apply Subtype.mk;cbv<;>exact rfl
def A38:AF:=B38.1
def A38v4:AC:=sA A38.body [1,1]
def A38v3:AC:=sA A38.body [1,0,1,0,0]
def N176v1:St→Option St:=nN 0 (2 :: 3 :: 4 :: (rl 6 14 []))
def s176v0:St:=⟨(.x (.c (ro kA n0 f0)) :: vxs w0 :: (us 3 (vxi i0 :: (us 14 [])))),[]⟩
def s176v1:St:=⟨(us 4 (vxi i0 :: (us 15 []))),[]⟩
def s176v2:St:=⟨(us 20 []),[]⟩
def L176v1 {ρ:Type} (u:Nat) (x0:Nat) (x1:FF) (x2:ByteArray):Nat→Int→(Int→Option ρ)→(Option ρ)→Option ρ
 | 0,_,_,_=>none
 | m+1,x3,k0,k1 =>
  (bif (decide (x3<(Int.ofNat x0))) then (bif (inb x3 x0) then (bif (ByteArray.toList (x1 x3.toNat 0).str==ByteArray.toList x2) then (k0 x3) else (L176v1 u x0 x1 x2 m (w64 (x3+1)) k0 k1)) else none) else k1)
theorem nl176v1:∀ (m:Nat) (x0:Int) (k0:Int→Option ρ) (k1:Option ρ),ob (L176v1 u n0 f0 w0 m x0 k0 k1) ng=L176v1 u n0 f0 w0 m x0 (fun x1=>ob (k0 x1) ng) (ob k1 ng)
 | 0,_,_,_=>rfl
 | m+1,x0,k0,k1=>by
  simp only [L176v1,ob_bif,ob_ob,ob_none,nl176v1 m]
theorem q176v1:∀ (m:Nat) (x0:Int),
  loopH (eB A38v3 (C59 u) u) N176v1 m (s176v0 n0 f0 x0 w0) k=L176v1 u n0 f0 w0 m x0 (fun x1=>k .ret (s176v1 x1)) (k (.exit 0) s176v2)
 | 0,_=>rfl
 | m+1,x0=>by
  simp only [L176v1,← q176v1 m]
  kernel_rfl
def F176 (x0:Nat) (x1:FF) (x2:ByteArray):Option (Int) :=
 (L176v1 u x0 x1 x2 u 0
  (fun x3=>(some x3))
  (some (-1)))
def s176v3:St:=⟨[.x (.c (ro kA n0 f0)),vxs w0,uu,uu,vxi 0,vxi 0,uu,uu,uu,uu,uu,uu,uu,uu,uu,uu,uu,uu,uu,uu],[]⟩
theorem t176v1 :
  loopN (eB A38v3 (C59 u) u) N176v1 u (s176v3 n0 f0 w0) k =
  L176v1 u n0 f0 w0 u 0 (fun x0=>k .ret (s176v1 x0)) (k (.exit 0) s176v2) :=
 Eq.trans (loopN_at (by kernel_rfl)) (q176v1 ..)
theorem g176v2 :
  (kBlk 0 (kSeq (C59 u) u (rl 4 16 []) A38v4 (finish A38))) .ret (s176v1 i0) =
  (some [.v (vi i0)]):=by kernel_rfl
theorem g176v3 :
  (kBlk 0 (kSeq (C59 u) u (rl 4 16 []) A38v4 (finish A38))) (.exit 0) s176v2 =
  (some [.v (vi (-1))]):=by kernel_rfl
theorem e176:evalF (C59 u) u A38 [.v (ro kA n0 f0),.v (.s w0)]=ob (F176 u n0 f0 w0) fun t=>some [.v (vi t)]:=Eq.trans (b:=(loopN (eB A38v3 (C59 u) u) N176v1 u (s176v3 n0 f0 w0) (kBlk 0 (kSeq (C59 u) u (rl 4 16 []) A38v4 (finish A38))))) (by kernel_rfl) (by
 simp only [F176,ob_bif,ob_ob,ob_none,ob_some,nl176v1,t176v1,g176v2,g176v3])
def O176:Ora:=mkO (qc (av (cL kA)) (q1 (av cS))) (fun x=>F176 u x.1.1 x.1.2 x.2) fun t=>[.v (vi t)]
theorem d176:DO (O176 u) (C59 u) 38 A38:=dO u (fun x=>by exact e176 u x.1.1 x.1.2 x.2)
def C60:Oracle:=(C59 u).add 38 (fun _=>true) (O176 u)
def B116:An tT Tryz.f116 [.k (0 :: 1 :: (rl 3 18 []))]:=by
 apply Subtype.mk;cbv<;>exact rfl
def A116:AF:=B116.1
def F69 (u:Nat) (x0 x1:Int):Option (Bool) :=
 (bif ((decide (x0≥(-32768)))==true) then (bif ((decide (x0≤32768))==true) then (bif ((decide (x1≥(-32768)))==true) then (some (decide (x1≤32768))) else (some false)) else (some false)) else (some false))
theorem e69:evalF (C60 u) u A116 [.agg [(vi i0),(vi i1)]]=ob (F69 u i0 i1) fun t=>some [.v (.b t)]:=by
 simp only [F69,ob_bif,ob_ob,ob_none,ob_some]
 kernel_rfl
def O69:Ora:=mkO (q1 (ag (tc ci (t1 ci)))) (fun x=>F69 u x.1 x.2) fun t=>[.v (.b t)]
theorem d69:DO (O69 u) (C60 u) 116 A116:=dO u (fun x=>by exact e69 u x.1 x.2)
def C61:Oracle:=(C60 u).add 116 (fun _=>true) (O69 u)
def B113:An tT Tryz.f113 [.k (rl 2 14 []),.h [],.k (1 :: 2 :: (rl 4 12 [])),.k (rl 4 4 []),.k (rl 0 16 []),.k (2 :: (rl 10 6 [])),.k (0 :: 1 :: (rl 3 13 [])),.k (0 :: 1 :: (rl 3 13 []))]:=by
 apply Subtype.mk;cbv<;>exact rfl
def A113:AF:=B113.1
def A113v4:AC:=sA A113.body [1,1]
def A113v3:AC:=sA A113.body [1,0,1,0,0]
def N66v1:St→Option St:=nN 0 (1 :: 2 :: (rl 4 12 []))
def s66v0:St:=⟨(.x (.c (ro kP n0 f0)) :: .u :: .u :: vxi i0 :: (us 12 [])),[]⟩
def s66v1:St:=⟨(.u :: .u :: vxb false :: (us 13 [])),[]⟩
def s66v2:St:=⟨(us 16 []),[]⟩
def L66v1 {ρ:Type} (u:Nat) (x0:Nat) (x1:FF):Nat→Int→(Option ρ)→(Option ρ)→Option ρ
 | 0,_,_,_=>none
 | m+1,x2,k0,k1 =>
  (bif (decide (x2<(Int.ofNat x0))) then (bif (inb x2 x0) then (ob (F69 u (x1 x2.toNat 0).int (x1 x2.toNat 1).int) fun x3=>(bif (!x3) then k0 else (L66v1 u x0 x1 m (w64 (x2+1)) k0 k1))) else none) else k1)
theorem nl66v1:∀ (m:Nat) (x0:Int) (k0:Option ρ) (k1:Option ρ),ob (L66v1 u n0 f0 m x0 k0 k1) ng=L66v1 u n0 f0 m x0 (ob k0 ng) (ob k1 ng)
 | 0,_,_,_=>rfl
 | m+1,x0,k0,k1=>by
  simp only [L66v1,ob_bif,ob_ob,ob_none,nl66v1 m]
theorem q66v1:∀ (m:Nat) (x0:Int),
  loopH (eB A113v3 (C61 u) u) N66v1 m (s66v0 n0 f0 x0) k=L66v1 u n0 f0 m x0 (k .ret s66v1) (k (.exit 0) s66v2)
 | 0,_=>rfl
 | m+1,x0=>by
  simp only [L66v1,← q66v1 m]
  kernel_rfl
def F66 (x0:Nat) (x1:FF):Option (Bool) :=
 (L66v1 u x0 x1 u 0
  (some false)
  (some true))
def s66v3:St:=⟨[.x (.c (ro kP n0 f0)),uu,vxb false,vxi 0,uu,uu,uu,uu,uu,uu,uu,uu,uu,uu,uu,uu],[]⟩
theorem t66v1 :
  loopN (eB A113v3 (C61 u) u) N66v1 u (s66v3 n0 f0) k =
  L66v1 u n0 f0 u 0 (k .ret s66v1) (k (.exit 0) s66v2) :=
 Eq.trans (loopN_at (by kernel_rfl)) (q66v1 ..)
theorem g66v2 :
  (kBlk 0 (kSeq (C61 u) u (rl 2 14 []) A113v4 (finish A113))) .ret s66v1 =
  (some [.v (.b false)]):=by kernel_rfl
theorem g66v3 :
  (kBlk 0 (kSeq (C61 u) u (rl 2 14 []) A113v4 (finish A113))) (.exit 0) s66v2 =
  (some [.v (.b true)]):=by kernel_rfl
theorem e66:evalF (C61 u) u A113 [.v (ro kP n0 f0)]=ob (F66 u n0 f0) fun t=>some [.v (.b t)]:=Eq.trans (b:=(loopN (eB A113v3 (C61 u) u) N66v1 u (s66v3 n0 f0) (kBlk 0 (kSeq (C61 u) u (rl 2 14 []) A113v4 (finish A113))))) (by kernel_rfl) (by
 simp only [F66,ob_bif,ob_ob,ob_none,ob_some,nl66v1,t66v1,g66v2,g66v3])
def O66:Ora:=mkO (q1 (av (cL kP))) (fun x=>F66 u x.1 x.2) fun t=>[.v (.b t)]
theorem d66:DO (O66 u) (C61 u) 113 A113:=dO u (fun x=>by exact e66 u x.1 x.2)
def C62:Oracle:=(C61 u).add 113 (fun _=>true) (O66 u)
def B118:An tT Tryz.f118 [.k (rl 0 6 (rl 7 23 []))]:=by
 apply Subtype.mk;cbv<;>exact rfl
def A118:AF:=B118.1
def F71 (u:Nat) (x0 x1 x2 x3 x4 x5:Int):Option (Int) :=
 (some (w64 ((w64 ((w64 (x2-x0))*(w64 (x5-x1))))-(w64 ((w64 (x3-x1))*(w64 (x4-x0)))))))
theorem e71:evalF (C62 u) u A118 [.agg [(vi i0),(vi i1)],.agg [(vi i2),(vi i3)],.agg [(vi i4),(vi i5)]]=ob (F71 u i0 i1 i2 i3 i4 i5) fun t=>some [.v (vi t)]:=by
 simp only [F71,ob_bif,ob_ob,ob_none,ob_some]
 kernel_rfl
def O71:Ora:=mkO (qc (ag (tc ci (t1 ci))) (qc (ag (tc ci (t1 ci))) (q1 (ag (tc ci (t1 ci)))))) (fun x=>F71 u x.1.1 x.1.2 x.2.1.1 x.2.1.2 x.2.2.1 x.2.2.2) fun t=>[.v (vi t)]
theorem d71:DO (O71 u) (C62 u) 118 A118:=dO u (fun x=>by exact e71 u x.1.1 x.1.2 x.2.1.1 x.2.1.2 x.2.2.1 x.2.2.2)
def C63:Oracle:=(C62 u).add 118 (fun _=>true) (O71 u)
def B117:An tT Tryz.f117 [.k (rl 0 6 (rl 7 45 []))]:=by
 apply Subtype.mk;cbv<;>exact rfl
def A117:AF:=B117.1
def F70 (x0 x1 x2 x3 x4 x5:Int):Option (Bool) :=
 (ob (F71 u x2 x3 x4 x5 x0 x1) fun x6=>(bif ((x6==0)==true) then (bif ((decide ((if x4<x2 then x4 else x2)≤x0))==true) then (bif ((decide (x0≤(if x4>x2 then x4 else x2)))==true) then (bif ((decide ((if x5<x3 then x5 else x3)≤x1))==true) then (some (decide (x1≤(if x5>x3 then x5 else x3)))) else (some false)) else (some false)) else (some false)) else (some false)))
theorem e70:evalF (C63 u) u A117 [.agg [(vi i0),(vi i1)],.agg [(vi i2),(vi i3)],.agg [(vi i4),(vi i5)]]=ob (F70 u i0 i1 i2 i3 i4 i5) fun t=>some [.v (.b t)]:=by
 simp only [F70,ob_bif,ob_ob,ob_none,ob_some]
 kernel_rfl
def O70:Ora:=mkO (qc (ag (tc ci (t1 ci))) (qc (ag (tc ci (t1 ci))) (q1 (ag (tc ci (t1 ci)))))) (fun x=>F70 u x.1.1 x.1.2 x.2.1.1 x.2.1.2 x.2.2.1 x.2.2.2) fun t=>[.v (.b t)]
theorem d70:DO (O70 u) (C63 u) 117 A117:=dO u (fun x=>by exact e70 u x.1.1 x.1.2 x.2.1.1 x.2.1.2 x.2.2.1 x.2.2.2)
def C64:Oracle:=(C63 u).add 117 (fun _=>true) (O70 u)
def B135:An tT Tryz.f135 [.k (rl 2 7 []),.k (0 :: 1 :: (rl 3 6 [])),.k (0 :: 1 :: (rl 3 6 [])),.k (0 :: 1 :: (rl 3 6 []))]:=by
 apply Subtype.mk;cbv<;>exact rfl
def A135:AF:=B135.1
def F88 (u:Nat) (x0:Int):Option (Int) :=
 (bif (decide (x0<0)) then (some (-1)) else (bif (decide (x0>0)) then (some 1) else (some 0)))
theorem e88:evalF (C64 u) u A135 [.v (vi i0)]=ob (F88 u i0) fun t=>some [.v (vi t)]:=by
 simp only [F88,ob_bif,ob_ob,ob_none,ob_some]
 kernel_rfl
def O88:Ora:=mkO (q1 (av ci)) (fun x=>F88 u x) fun t=>[.v (vi t)]
theorem d88:DO (O88 u) (C64 u) 135 A135:=dO u (fun x=>by exact e88 u x)
def C65:Oracle:=(C64 u).add 135 (fun _=>true) (O88 u)
def B129:An tT Tryz.f129 [.k (rl 8 23 []),.k (rl 0 8 (rl 9 48 [])),.k (rl 0 8 (rl 9 48 []))]:=by
 apply Subtype.mk;cbv<;>exact rfl
def A129:AF:=B129.1
def F82 (x0 x1 x2 x3 x4 x5 x6 x7:Int):Option (Bool) :=
 (ob (F70 u x0 x1 x4 x5 x6 x7) fun x8=>(bif (x8==false) then (ob (F70 u x2 x3 x4 x5 x6 x7) fun x9=>(bif (x9==false) then (ob (F70 u x4 x5 x0 x1 x2 x3) fun xA=>(bif (xA==false) then (ob (F70 u x6 x7 x0 x1 x2 x3) fun xB=>(bif xB then (some true) else (ob (F71 u x0 x1 x2 x3 x4 x5) fun xC=>(ob (F88 u xC) fun xD=>(ob (F71 u x0 x1 x2 x3 x6 x7) fun xE=>(ob (F88 u xE) fun xF=>(bif ((decide ((w64 (xD*xF))<0))==true) then (ob (F71 u x4 x5 x6 x7 x0 x1) fun xG=>(ob (F88 u xG) fun xH=>(ob (F71 u x4 x5 x6 x7 x2 x3) fun xI=>(ob (F88 u xI) fun xJ=>(some (decide ((w64 (xH*xJ))<0))))))) else (some false)))))))) else (some true))) else (some true))) else (some true)))
theorem e82:evalF (C65 u) u A129 [.agg [(vi i0),(vi i1)],.agg [(vi i2),(vi i3)],.agg [(vi i4),(vi i5)],.agg [(vi i6),(vi i7)]]=ob (F82 u i0 i1 i2 i3 i4 i5 i6 i7) fun t=>some [.v (.b t)]:=by
 simp only [F82,ob_bif,ob_ob,ob_none,ob_some]
 kernel_rfl
def O82:Ora:=mkO (qc (ag (tc ci (t1 ci))) (qc (ag (tc ci (t1 ci))) (qc (ag (tc ci (t1 ci))) (q1 (ag (tc ci (t1 ci))))))) (fun x=>F82 u x.1.1 x.1.2 x.2.1.1 x.2.1.2 x.2.2.1.1 x.2.2.1.2 x.2.2.2.1 x.2.2.2.2) fun t=>[.v (.b t)]
theorem d82:DO (O82 u) (C65 u) 129 A129:=dO u (fun x=>by exact e82 u x.1.1 x.1.2 x.2.1.1 x.2.1.2 x.2.2.1.1 x.2.2.1.2 x.2.2.2.1 x.2.2.2.2)
def C66:Oracle:=(C65 u).add 129 (fun _=>true) (O82 u)
def B114:An tT Tryz.f114 [.k (2 :: 4 :: 5 :: (rl 13 19 [])),.h [],.k (1 :: 2 :: (rl 5 89 [])),.k [13,14,15],.k (1 :: 2 :: (rl 4 90 [])),.k (2 :: 5 :: (rl 18 14 [])),.h [],.k (1 :: 2 :: (rl 6 88 [])),.k [18,19,20],.k (1 :: 2 :: (rl 5 89 [])),.k (2 :: (rl 23 9 [])),.k (0 :: 1 :: (rl 3 91 [])),.k (2 :: (rl 6 5 (rl 32 62 []))),.h [],.k (1 :: 2 :: 4 :: 5 :: (rl 7 87 [])),.k [32,33,34],.k (rl 0 94 []),.k (2 :: (rl 7 4 (rl 37 57 []))),.k (2 :: (rl 55 10 [])),.k (0 :: 1 :: (rl 3 91 [])),.h [],.k (1 :: 2 :: 4 :: 5 :: 9 :: (rl 11 83 [])),.k [67,68,69],.k (1 :: 2 :: 4 :: 5 :: (rl 7 87 [])),.k (2 :: (rl 72 22 [])),.k (0 :: 1 :: (rl 3 91 [])),.k (0 :: 1 :: (rl 3 91 []))]:=by
 apply Subtype.mk;cbv<;>exact rfl
def A114:AF:=B114.1
def A114v15:AC:=sA A114.body [1,1,1]
def A114v14:AC:=sA A114v15 [1]
def A114v13:AC:=sA A114v15 [0,1,0,0]
def A114v12:AC:=sA A114v13 [1]
def A114v11:AC:=sA A114v12 [1]
def A114v10:AC:=sA A114v12 [0,0,1,1]
def A114v9:AC:=sA A114v10 [1,0,0]
def A114v6:AC:=sA A114.body [1,1,0,1,0,0]
def A114v5:AC:=sA A114v6 [1]
def A114v4:AC:=sA A114v5 [1]
def A114v3:AC:=sA A114v5 [0,0,1,0,0]
def N67v2:St→Option St:=nN 0 (1 :: 2 :: (rl 6 88 []))
def s67v0:St:=⟨(.x (.c (ro kP n0 f0)) :: .u :: .u :: vxi i0 :: vxi i1 :: vxi i2 :: (us 88 [])),[]⟩
def s67v1:St:=⟨(.u :: .u :: vxb false :: (us 91 [])),[]⟩
def s67v2:St:=⟨(.x (.c (ro kP n0 f0)) :: .u :: .u :: vxi i0 :: vxi i1 :: (us 89 [])),[]⟩
def L67v2 {ρ:Type} (u:Nat) (x0:Nat) (x1:FF) (x2 x3:Int):Nat→Int→(Option ρ)→(Option ρ)→Option ρ
 | 0,_,_,_=>none
 | m+1,x4,k0,k1 =>
  (bif (decide (x4<x3)) then (bif (inb x3 x0) then (bif (inb x4 x0) then (bif (((x1 x3.toNat 0).int==(x1 x4.toNat 0).int)&&(((x1 x3.toNat 1).int==(x1 x4.toNat 1).int)&&true)) then k0 else (L67v2 u x0 x1 x2 x3 m (w64 (x4+1)) k0 k1)) else none) else none) else k1)
theorem nl67v2:∀ (m:Nat) (x0:Int) (k0:Option ρ) (k1:Option ρ),ob (L67v2 u n0 f0 i0 i1 m x0 k0 k1) ng=L67v2 u n0 f0 i0 i1 m x0 (ob k0 ng) (ob k1 ng)
 | 0,_,_,_=>rfl
 | m+1,x0,k0,k1=>by
  simp only [L67v2,ob_bif,ob_ob,ob_none,nl67v2 m]
theorem q67v2:∀ (m:Nat) (x0:Int),
  loopH (eB A114v3 (C66 u) u) N67v2 m (s67v0 n0 f0 i0 i1 x0) k=L67v2 u n0 f0 i0 i1 m x0 (k .ret s67v1) (k (.exit 2) (s67v2 n0 f0 i0 i1))
 | 0,_=>rfl
 | m+1,x0=>by
  simp only [L67v2,← q67v2 m]
  kernel_rfl
def N67v3:St→Option St:=nN 0 (1 :: 2 :: (rl 5 89 []))
def s67v3:St:=⟨(.x (.c (ro kP n0 f0)) :: .u :: .u :: vxi i0 :: vxi i1 :: (us 89 [])),[]⟩
def s67v4:St:=⟨(.x (.c (ro kP n0 f0)) :: .u :: .u :: vxi i0 :: (us 90 [])),[]⟩
def L67v3 {ρ:Type} (u:Nat) (x0:Nat) (x1:FF) (x2:Int):Nat→Int→(Option ρ)→(Option ρ)→Option ρ
 | 0,_,_,_=>none
 | m+1,x3,k0,k1 =>
  (bif (decide (x3<x2)) then (L67v2 u x0 x1 x2 x3 u 0
  k0
  (L67v3 u x0 x1 x2 m (w64 (x3+1)) k0 k1)) else k1)
theorem nl67v3:∀ (m:Nat) (x0:Int) (k0:Option ρ) (k1:Option ρ),ob (L67v3 u n0 f0 i0 m x0 k0 k1) ng=L67v3 u n0 f0 i0 m x0 (ob k0 ng) (ob k1 ng)
 | 0,_,_,_=>rfl
 | m+1,x0,k0,k1=>by
  simp only [L67v3,ob_bif,ob_ob,ob_none,nl67v3 m,nl67v2]
def s67v5:St:=⟨(.x (.c (ro kP n0 f0)) :: .u :: .u :: vxi i0 :: vxi i1 :: vxi 0 :: (us 88 [])),[]⟩
theorem r67v3 :
  loopH (eB A114v6 (C66 u) u) N67v3 (m+1) (s67v3 n0 f0 i0 i1) k =
  (bif (decide (i1<i0)) then (loopN (eB A114v3 (C66 u) u) N67v2 u (s67v5 n0 f0 i0 i1) (kBlk 2 (kBlk 1 (kSeq (C66 u) u (2 :: 5 :: (rl 18 14 [])) A114v4 (kLoop (eB A114v6 (C66 u) u) N67v3 m k))))) else (k (.exit 0) (s67v4 n0 f0 i0))):=by kernel_rfl
theorem t67v1 :
  loopN (eB A114v3 (C66 u) u) N67v2 u (s67v5 n0 f0 i0 i1) k =
  L67v2 u n0 f0 i0 i1 u 0 (k .ret s67v1) (k (.exit 2) (s67v2 n0 f0 i0 i1)) :=
 Eq.trans (loopN_at (by kernel_rfl)) (q67v2 ..)
theorem g67v2 :
  (kBlk 2 (kBlk 1 (kSeq (C66 u) u (2 :: 5 :: (rl 18 14 [])) A114v4 (kLoop (eB A114v6 (C66 u) u) N67v3 m k)))) .ret s67v1 =
  (k .ret s67v1):=by kernel_rfl
theorem g67v3 :
  (kBlk 2 (kBlk 1 (kSeq (C66 u) u (2 :: 5 :: (rl 18 14 [])) A114v4 (kLoop (eB A114v6 (C66 u) u) N67v3 m k)))) (.exit 2) (s67v2 n0 f0 i0 i1) =
  (loopH (eB A114v6 (C66 u) u) N67v3 m (s67v3 n0 f0 i0 (w64 (i1+1))) k):=by kernel_rfl
theorem q67v3:∀ (m:Nat) (x0:Int),
  loopH (eB A114v6 (C66 u) u) N67v3 m (s67v3 n0 f0 i0 x0) k=L67v3 u n0 f0 i0 m x0 (k .ret s67v1) (k (.exit 0) (s67v4 n0 f0 i0))
 | 0,_=>rfl
 | m+1,x0=>by
  rw [r67v3]
  simp only [L67v3,q67v3 m,t67v1,g67v2,g67v3]
def N67v5:St→Option St:=nN 3 (1 :: 2 :: 4 :: 5 :: 9 :: (rl 11 83 []))
def s67v6:St:=⟨(.x (.c (ro kP n0 f0)) :: .u :: .u :: vxi i0 :: .u :: .u :: vxi i1 :: .x (.ptr 0 0) :: .x (.ptr 1 0) :: .u :: vxi i2 :: (us 83 [])),[.box [(vci i3),(vci i4)],.box [(vci i5),(vci i6)],.box [(vci i7),(vci i8)]]⟩
def s67v7:St:=⟨(.u :: .u :: vxb false :: (us 91 [])),[.box [(vci i0),(vci i1)],.box [(vci i2),(vci i3)],.box [(vci i4),(vci i5)]]⟩
def s67v8:St:=⟨(.x (.c (ro kP n0 f0)) :: .u :: .u :: vxi i0 :: .u :: .u :: vxi i1 :: (us 87 [])),[.box [(vci i2),(vci i3)],.box [(vci i4),(vci i5)],.box [(vci i6),(vci i7)]]⟩
def L67v5 {ρ:Type} (u:Nat) (x0:Nat) (x1:FF) (x2 x3 x4 x5 x6 x7 x8 x9:Int):Nat→Int→(Option ρ)→(Option ρ)→Option ρ
 | 0,_,_,_=>none
 | m+1,xA,k0,k1 =>
  (bif (decide (xA<x2)) then (bif (x2==0) then none else (bif (((Int.tmod (w64 (xA+1)) x2) != x3)==true) then (bif (inb xA x0) then (bif (x2==0) then none else (bif (inb (Int.tmod (w64 (xA+1)) x2) x0) then (ob (F82 u x4 x5 x6 x7 (x1 xA.toNat 0).int (x1 xA.toNat 1).int (CV.int (x1 (Int.toNat (Int.tmod (w64 (xA+1)) x2)) 0)) (CV.int (x1 (Int.toNat (Int.tmod (w64 (xA+1)) x2)) 1))) fun xB=>(bif xB then k0 else (L67v5 u x0 x1 x2 x3 x4 x5 x6 x7 x8 x9 m (w64 (xA+1)) k0 k1))) else none)) else none) else (L67v5 u x0 x1 x2 x3 x4 x5 x6 x7 x8 x9 m (w64 (xA+1)) k0 k1))) else k1)
theorem nl67v5:∀ (m:Nat) (x0:Int) (k0:Option ρ) (k1:Option ρ),ob (L67v5 u n0 f0 i0 i1 i2 i3 i4 i5 i6 i7 m x0 k0 k1) ng=L67v5 u n0 f0 i0 i1 i2 i3 i4 i5 i6 i7 m x0 (ob k0 ng) (ob k1 ng)
 | 0,_,_,_=>rfl
 | m+1,x0,k0,k1=>by
  simp only [L67v5,ob_bif,ob_ob,ob_none,nl67v5 m]
theorem q67v5:∀ (m:Nat) (x0:Int),
  loopH (eB A114v9 (C66 u) u) N67v5 m (s67v6 n0 f0 i0 i1 x0 i2 i3 i4 i5 i6 i7) k=L67v5 u n0 f0 i0 i1 i2 i3 i4 i5 i6 i7 m x0 (k .ret (s67v7 i2 i3 i4 i5 i6 i7)) (k (.exit 6) (s67v8 n0 f0 i0 i1 i2 i3 i4 i5 i6 i7))
 | 0,_=>rfl
 | m+1,x0=>by
  simp only [L67v5,← q67v5 m]
  kernel_rfl
def N67v6:St→Option St:=nN 0 (1 :: 2 :: 4 :: 5 :: (rl 7 87 []))
def s67v9:St:=⟨(.x (.c (ro kP n0 f0)) :: .u :: .u :: vxi i0 :: .u :: .u :: vxi i1 :: (us 87 [])),[]⟩
def s67v10:St:=⟨(.u :: .u :: vxb false :: (us 91 [])),[.box [(vci i0),(vci i1)],.box [(vci i2),(vci i3)],.box [(vci i4),(vci i5)]]⟩
def s67v11:St:=⟨(us 94 []),[]⟩
def L67v6 {ρ:Type} (u:Nat) (x0:Nat) (x1:FF) (x2:Int):Nat→Int→(Int→Int→Int→Int→Int→Int→Option ρ)→(Option ρ)→Option ρ
 | 0,_,_,_=>none
 | m+1,x3,k0,k1 =>
  (bif (decide (x3<x2)) then (bif (inb x3 x0) then (bif (x2==0) then none else (bif (inb (Int.tmod (w64 (x3+1)) x2) x0) then (bif (x2==0) then none else (bif (inb (Int.tmod (w64 (x3+2)) x2) x0) then (ob (F70 u (x1 x3.toNat 0).int (x1 x3.toNat 1).int (CV.int (x1 (Int.toNat (Int.tmod (w64 (x3+1)) x2)) 0)) (CV.int (x1 (Int.toNat (Int.tmod (w64 (x3+1)) x2)) 1)) (CV.int (x1 (Int.toNat (Int.tmod (w64 (x3+2)) x2)) 0)) (CV.int (x1 (Int.toNat (Int.tmod (w64 (x3+2)) x2)) 1))) fun x4=>(bif (x4==false) then (ob (F70 u (CV.int (x1 (Int.toNat (Int.tmod (w64 (x3+2)) x2)) 0)) (CV.int (x1 (Int.toNat (Int.tmod (w64 (x3+2)) x2)) 1)) (x1 x3.toNat 0).int (x1 x3.toNat 1).int (CV.int (x1 (Int.toNat (Int.tmod (w64 (x3+1)) x2)) 0)) (CV.int (x1 (Int.toNat (Int.tmod (w64 (x3+1)) x2)) 1))) fun x5=>(bif x5 then (k0 (x1 x3.toNat 0).int (x1 x3.toNat 1).int (CV.int (x1 (Int.toNat (Int.tmod (w64 (x3+1)) x2)) 0)) (CV.int (x1 (Int.toNat (Int.tmod (w64 (x3+1)) x2)) 1)) (CV.int (x1 (Int.toNat (Int.tmod (w64 (x3+2)) x2)) 0)) (CV.int (x1 (Int.toNat (Int.tmod (w64 (x3+2)) x2)) 1))) else (L67v5 u x0 x1 x2 x3 (x1 x3.toNat 0).int (x1 x3.toNat 1).int (CV.int (x1 (Int.toNat (Int.tmod (w64 (x3+1)) x2)) 0)) (CV.int (x1 (Int.toNat (Int.tmod (w64 (x3+1)) x2)) 1)) (CV.int (x1 (Int.toNat (Int.tmod (w64 (x3+2)) x2)) 0)) (CV.int (x1 (Int.toNat (Int.tmod (w64 (x3+2)) x2)) 1)) u (w64 (x3+2))
  (k0 (x1 x3.toNat 0).int (x1 x3.toNat 1).int (CV.int (x1 (Int.toNat (Int.tmod (w64 (x3+1)) x2)) 0)) (CV.int (x1 (Int.toNat (Int.tmod (w64 (x3+1)) x2)) 1)) (CV.int (x1 (Int.toNat (Int.tmod (w64 (x3+2)) x2)) 0)) (CV.int (x1 (Int.toNat (Int.tmod (w64 (x3+2)) x2)) 1)))
  (L67v6 u x0 x1 x2 m (w64 (x3+1)) k0 k1)))) else (k0 (x1 x3.toNat 0).int (x1 x3.toNat 1).int (CV.int (x1 (Int.toNat (Int.tmod (w64 (x3+1)) x2)) 0)) (CV.int (x1 (Int.toNat (Int.tmod (w64 (x3+1)) x2)) 1)) (CV.int (x1 (Int.toNat (Int.tmod (w64 (x3+2)) x2)) 0)) (CV.int (x1 (Int.toNat (Int.tmod (w64 (x3+2)) x2)) 1))))) else none)) else none)) else none) else k1)
theorem nl67v6:∀ (m:Nat) (x0:Int) (k0:Int→Int→Int→Int→Int→Int→Option ρ) (k1:Option ρ),ob (L67v6 u n0 f0 i0 m x0 k0 k1) ng=L67v6 u n0 f0 i0 m x0 (fun x1 x2 x3 x4 x5 x6=>ob (k0 x1 x2 x3 x4 x5 x6) ng) (ob k1 ng)
 | 0,_,_,_=>rfl
 | m+1,x0,k0,k1=>by
  simp only [L67v6,ob_bif,ob_ob,ob_none,nl67v6 m,nl67v5]
def s67v12:St:=⟨(.x (.c (ro kP n0 f0)) :: .u :: .u :: vxi i0 :: .u :: .u :: vxi i1 :: .x (.ptr 0 0) :: .x (.ptr 1 0) :: .x (.ptr 2 0) :: vxi (w64 (i1+2)) :: (us 26 (.x (.c (ro kP n0 f0)) :: vxi i1 :: .x (.c (.rp kP (f0 i1.toNat))) :: .agg [(vci (f0 i1.toNat 0).int),(vci (f0 i1.toNat 1).int)] :: .x (.c (ro kP n0 f0)) :: vxi i1 :: vxi (w64 (i1+1)) :: vxi i0 :: vxi (Int.tmod (w64 (i1+1)) i0) :: .x (.c (.rp kP (f0 (Int.toNat (Int.tmod (w64 (i1+1)) i0))))) :: .agg [(vci (CV.int (f0 (Int.toNat (Int.tmod (w64 (i1+1)) i0)) 0))),(vci (CV.int (f0 (Int.toNat (Int.tmod (w64 (i1+1)) i0)) 1)))] :: .x (.c (ro kP n0 f0)) :: vxi i1 :: vxi (w64 (i1+2)) :: vxi i0 :: vxi (Int.tmod (w64 (i1+2)) i0) :: .x (.c (.rp kP (f0 (Int.toNat (Int.tmod (w64 (i1+2)) i0))))) :: .agg [(vci (CV.int (f0 (Int.toNat (Int.tmod (w64 (i1+2)) i0)) 0))),(vci (CV.int (f0 (Int.toNat (Int.tmod (w64 (i1+2)) i0)) 1)))] :: (us 10 (vxi i1 :: vxi (w64 (i1+2)) :: (us 27 [])))))),[.box [(vci (f0 i1.toNat 0).int),(vci (f0 i1.toNat 1).int)],.box [(vci (CV.int (f0 (Int.toNat (Int.tmod (w64 (i1+1)) i0)) 0))),(vci (CV.int (f0 (Int.toNat (Int.tmod (w64 (i1+1)) i0)) 1)))],.box [(vci (CV.int (f0 (Int.toNat (Int.tmod (w64 (i1+2)) i0)) 0))),(vci (CV.int (f0 (Int.toNat (Int.tmod (w64 (i1+2)) i0)) 1)))]]⟩
theorem r67v6 :
  loopH (eB A114v13 (C66 u) u) N67v6 (m+1) (s67v9 n0 f0 i0 i1) k =
  (bif (decide (i1<i0)) then (bif (inb i1 n0) then (bif (i0==0) then none else (bif (inb (Int.tmod (w64 (i1+1)) i0) n0) then (bif (i0==0) then none else (bif (inb (Int.tmod (w64 (i1+2)) i0) n0) then (ob (F70 u (f0 i1.toNat 0).int (f0 i1.toNat 1).int (CV.int (f0 (Int.toNat (Int.tmod (w64 (i1+1)) i0)) 0)) (CV.int (f0 (Int.toNat (Int.tmod (w64 (i1+1)) i0)) 1)) (CV.int (f0 (Int.toNat (Int.tmod (w64 (i1+2)) i0)) 0)) (CV.int (f0 (Int.toNat (Int.tmod (w64 (i1+2)) i0)) 1))) fun x0=>(bif (x0==false) then (ob (F70 u (CV.int (f0 (Int.toNat (Int.tmod (w64 (i1+2)) i0)) 0)) (CV.int (f0 (Int.toNat (Int.tmod (w64 (i1+2)) i0)) 1)) (f0 i1.toNat 0).int (f0 i1.toNat 1).int (CV.int (f0 (Int.toNat (Int.tmod (w64 (i1+1)) i0)) 0)) (CV.int (f0 (Int.toNat (Int.tmod (w64 (i1+1)) i0)) 1))) fun x1=>(bif x1 then (k .ret (s67v10 (f0 i1.toNat 0).int (f0 i1.toNat 1).int (CV.int (f0 (Int.toNat (Int.tmod (w64 (i1+1)) i0)) 0)) (CV.int (f0 (Int.toNat (Int.tmod (w64 (i1+1)) i0)) 1)) (CV.int (f0 (Int.toNat (Int.tmod (w64 (i1+2)) i0)) 0)) (CV.int (f0 (Int.toNat (Int.tmod (w64 (i1+2)) i0)) 1)))) else (loopN (eB A114v9 (C66 u) u) N67v5 u (s67v12 n0 f0 i0 i1) (kBlk 6 (kBlk 5 (kSeq (C66 u) u (2 :: (rl 7 4 (rl 37 57 []))) A114v11 (kLoop (eB A114v13 (C66 u) u) N67v6 m k))))))) else (k .ret (s67v10 (f0 i1.toNat 0).int (f0 i1.toNat 1).int (CV.int (f0 (Int.toNat (Int.tmod (w64 (i1+1)) i0)) 0)) (CV.int (f0 (Int.toNat (Int.tmod (w64 (i1+1)) i0)) 1)) (CV.int (f0 (Int.toNat (Int.tmod (w64 (i1+2)) i0)) 0)) (CV.int (f0 (Int.toNat (Int.tmod (w64 (i1+2)) i0)) 1)))))) else none)) else none)) else none) else (k (.exit 4) s67v11)):=by kernel_rfl
theorem t67v4 :
  loopN (eB A114v9 (C66 u) u) N67v5 u (s67v12 n0 f0 i0 i1) k =
  L67v5 u n0 f0 i0 i1 (f0 i1.toNat 0).int (f0 i1.toNat 1).int (CV.int (f0 (Int.toNat (Int.tmod (w64 (i1+1)) i0)) 0)) (CV.int (f0 (Int.toNat (Int.tmod (w64 (i1+1)) i0)) 1)) (CV.int (f0 (Int.toNat (Int.tmod (w64 (i1+2)) i0)) 0)) (CV.int (f0 (Int.toNat (Int.tmod (w64 (i1+2)) i0)) 1)) u (w64 (i1+2)) (k .ret (s67v7 (f0 i1.toNat 0).int (f0 i1.toNat 1).int (CV.int (f0 (Int.toNat (Int.tmod (w64 (i1+1)) i0)) 0)) (CV.int (f0 (Int.toNat (Int.tmod (w64 (i1+1)) i0)) 1)) (CV.int (f0 (Int.toNat (Int.tmod (w64 (i1+2)) i0)) 0)) (CV.int (f0 (Int.toNat (Int.tmod (w64 (i1+2)) i0)) 1)))) (k (.exit 6) (s67v8 n0 f0 i0 i1 (f0 i1.toNat 0).int (f0 i1.toNat 1).int (CV.int (f0 (Int.toNat (Int.tmod (w64 (i1+1)) i0)) 0)) (CV.int (f0 (Int.toNat (Int.tmod (w64 (i1+1)) i0)) 1)) (CV.int (f0 (Int.toNat (Int.tmod (w64 (i1+2)) i0)) 0)) (CV.int (f0 (Int.toNat (Int.tmod (w64 (i1+2)) i0)) 1)))) :=
 Eq.trans (loopN_at (by kernel_rfl)) (q67v5 ..)
theorem g67v5 :
  (kBlk 6 (kBlk 5 (kSeq (C66 u) u (2 :: (rl 7 4 (rl 37 57 []))) A114v11 (kLoop (eB A114v13 (C66 u) u) N67v6 m k)))) .ret (s67v7 (f0 i0.toNat 0).int (f0 i0.toNat 1).int (CV.int (f0 (Int.toNat (Int.tmod (w64 (i0+1)) i1)) 0)) (CV.int (f0 (Int.toNat (Int.tmod (w64 (i0+1)) i1)) 1)) (CV.int (f0 (Int.toNat (Int.tmod (w64 (i0+2)) i1)) 0)) (CV.int (f0 (Int.toNat (Int.tmod (w64 (i0+2)) i1)) 1))) =
  (k .ret (s67v10 (f0 i0.toNat 0).int (f0 i0.toNat 1).int (CV.int (f0 (Int.toNat (Int.tmod (w64 (i0+1)) i1)) 0)) (CV.int (f0 (Int.toNat (Int.tmod (w64 (i0+1)) i1)) 1)) (CV.int (f0 (Int.toNat (Int.tmod (w64 (i0+2)) i1)) 0)) (CV.int (f0 (Int.toNat (Int.tmod (w64 (i0+2)) i1)) 1)))):=by kernel_rfl
theorem g67v6 :
  (kBlk 6 (kBlk 5 (kSeq (C66 u) u (2 :: (rl 7 4 (rl 37 57 []))) A114v11 (kLoop (eB A114v13 (C66 u) u) N67v6 m k)))) (.exit 6) (s67v8 n0 f0 i0 i1 (f0 i1.toNat 0).int (f0 i1.toNat 1).int (CV.int (f0 (Int.toNat (Int.tmod (w64 (i1+1)) i0)) 0)) (CV.int (f0 (Int.toNat (Int.tmod (w64 (i1+1)) i0)) 1)) (CV.int (f0 (Int.toNat (Int.tmod (w64 (i1+2)) i0)) 0)) (CV.int (f0 (Int.toNat (Int.tmod (w64 (i1+2)) i0)) 1))) =
  (loopH (eB A114v13 (C66 u) u) N67v6 m (s67v9 n0 f0 i0 (w64 (i1+1))) k):=by kernel_rfl
theorem q67v6:∀ (m:Nat) (x0:Int),
  loopH (eB A114v13 (C66 u) u) N67v6 m (s67v9 n0 f0 i0 x0) k=L67v6 u n0 f0 i0 m x0 (fun x1 x2 x3 x4 x5 x6=>k .ret (s67v10 x1 x2 x3 x4 x5 x6)) (k (.exit 4) s67v11)
 | 0,_=>rfl
 | m+1,x0=>by
  rw [r67v6]
  simp only [L67v6,q67v6 m,t67v4,g67v5,g67v6]
def F67 (x0:Nat) (x1:FF):Option (Bool) :=
 (L67v3 u x0 x1 (Int.ofNat x0) u 0
  (some false)
  (L67v6 u x0 x1 (Int.ofNat x0) u 0
  (fun x2 x3 x4 x5 x6 x7=>(some false))
  (some true)))
def s67v13:St:=⟨[.x (.c (ro kP n0 f0)),uu,vxb false,vxi (Int.ofNat n0),vxi 0,uu,uu,uu,uu,uu,uu,.x (.c (ro kP n0 f0)),vxi (Int.ofNat n0),uu,uu,uu,uu,uu,uu,uu,uu,uu,uu,uu,uu,uu,uu,uu,uu,uu,uu,uu,uu,uu,uu,uu,uu,uu,uu,uu,uu,uu,uu,uu,uu,uu,uu,uu,uu,uu,uu,uu,uu,uu,uu,uu,uu,uu,uu,uu,uu,uu,uu,uu,uu,uu,uu,uu,uu,uu,uu,uu,uu,uu,uu,uu,uu,uu,uu,uu,uu,uu,uu,uu,uu,uu,uu,uu,uu,uu,uu,uu,uu,uu],[]⟩
theorem t67v7 :
  loopN (eB A114v6 (C66 u) u) N67v3 u (s67v13 n0 f0) k =
  L67v3 u n0 f0 (Int.ofNat n0) u 0 (k .ret s67v1) (k (.exit 0) (s67v4 n0 f0 (Int.ofNat n0))) :=
 Eq.trans (loopN_at (by kernel_rfl)) (q67v3 ..)
theorem g67v8 :
  (kBlk 0 (kSeq (C66 u) u (2 :: 4 :: 5 :: (rl 13 19 [])) A114v15 (finish A114))) .ret s67v1 =
  (some [.v (.b false)]):=by kernel_rfl
def s67v14:St:=⟨(.x (.c (ro kP n0 f0)) :: .u :: .u :: vxi (Int.ofNat n0) :: .u :: .u :: vxi 0 :: (us 87 [])),[]⟩
theorem g67v9 :
  (kBlk 0 (kSeq (C66 u) u (2 :: 4 :: 5 :: (rl 13 19 [])) A114v15 (finish A114))) (.exit 0) (s67v4 n0 f0 (Int.ofNat n0)) =
  (loopN (eB A114v13 (C66 u) u) N67v6 u (s67v14 n0 f0) (kBlk 4 (kSeq (C66 u) u (2 :: (rl 6 5 (rl 32 62 []))) A114v14 (finish A114)))):=by kernel_rfl
theorem t67v10 :
  loopN (eB A114v13 (C66 u) u) N67v6 u (s67v14 n0 f0) k =
  L67v6 u n0 f0 (Int.ofNat n0) u 0 (fun x0 x1 x2 x3 x4 x5=>k .ret (s67v10 x0 x1 x2 x3 x4 x5)) (k (.exit 4) s67v11) :=
 Eq.trans (loopN_at (by kernel_rfl)) (q67v6 ..)
theorem g67v11 :
  (kBlk 4 (kSeq (C66 u) u (2 :: (rl 6 5 (rl 32 62 []))) A114v14 (finish A114))) .ret (s67v10 i0 i1 i2 i3 i4 i5) =
  (some [.v (.b false)]):=by kernel_rfl
theorem g67v12 :
  (kBlk 4 (kSeq (C66 u) u (2 :: (rl 6 5 (rl 32 62 []))) A114v14 (finish A114))) (.exit 4) s67v11 =
  (some [.v (.b true)]):=by kernel_rfl
theorem e67:evalF (C66 u) u A114 [.v (ro kP n0 f0)]=ob (F67 u n0 f0) fun t=>some [.v (.b t)]:=Eq.trans (b:=(loopN (eB A114v6 (C66 u) u) N67v3 u (s67v13 n0 f0) (kBlk 0 (kSeq (C66 u) u (2 :: 4 :: 5 :: (rl 13 19 [])) A114v15 (finish A114))))) (by kernel_rfl) (by
 simp only [F67,ob_bif,ob_ob,ob_none,ob_some,nl67v3,nl67v6,t67v7,g67v8,g67v9,t67v10,g67v11,g67v12])
def O67:Ora:=mkO (q1 (av (cL kP))) (fun x=>F67 u x.1 x.2) fun t=>[.v (.b t)]
theorem d67:DO (O67 u) (C66 u) 114 A114:=dO u (fun x=>by exact e67 u x.1 x.2)
def C67:Oracle:=(C66 u).add 114 (fun _=>true) (O67 u)
def B85:An tT Tryz.f85 [.k (rl 2 4 []),.k (0 :: 1 :: (rl 3 12 [])),.k [2,6,7,8],.k (0 :: 1 :: (rl 3 12 [])),.k [2,9,10,11],.k (0 :: 1 :: (rl 3 12 [])),.k [2,12,13,14],.k (0 :: 1 :: (rl 3 12 [])),.k (0 :: 1 :: (rl 3 12 []))]:=by
 apply Subtype.mk;cbv<;>exact rfl
def A85:AF:=B85.1
def F37 (x0:Nat) (x1:FF):Option (Int) :=
 (bif (decide ((Int.ofNat x0)<3)) then (some 3) else (bif (decide ((Int.ofNat x0)>32)) then (some 4) else (ob (F66 u x0 x1) fun x2=>(bif (!x2) then (some 9) else (ob (F67 u x0 x1) fun x3=>(bif (!x3) then (some 17) else (some 0)))))))
theorem e37:evalF (C67 u) u A85 [.v (ro kP n0 f0)]=ob (F37 u n0 f0) fun t=>some [.v (vi t)]:=by
 simp only [F37,ob_bif,ob_ob,ob_none,ob_some]
 kernel_rfl
def O37:Ora:=mkO (q1 (av (cL kP))) (fun x=>F37 u x.1 x.2) fun t=>[.v (vi t)]
theorem d37:DO (O37 u) (C67 u) 85 A85:=dO u (fun x=>by exact e37 u x.1 x.2)
def C68:Oracle:=(C67 u).add 85 (fun _=>true) (O37 u)
def B86:An tT Tryz.f86 [.k [2,7,8,9],.k (0 :: 1 :: (rl 3 39 [])),.k (4 :: 5 :: 6 :: (rl 10 31 [])),.h [],.k (1 :: 2 :: (rl 5 37 [])),.k (rl 10 4 []),.k (0 :: 1 :: 2 :: (rl 4 38 [])),.k (0 :: 1 :: (rl 3 39 []))]:=by
 apply Subtype.mk;cbv<;>exact rfl
def A86:AF:=B86.1
def A86v4:AC:=sA A86.body [1,1]
def A86v3:AC:=sA A86v4 [1,1]
def A86v2:AC:=sA A86v4 [1,0,1,0,0]
def N38v1:St→Option St:=nN 0 (1 :: 2 :: (rl 5 37 []))
def s38v0:St:=⟨(.x (.c (ro kP n0 f0)) :: .u :: .u :: vxi i0 :: vxi i1 :: (us 37 [])),[]⟩
def s38v1:St:=⟨(us 3 (vxi i0 :: (us 38 []))),[]⟩
def L38v1 {ρ:Type} (u:Nat) (x0:Nat) (x1:FF):Nat→Int→Int→(Int→Option ρ)→Option ρ
 | 0,_,_,_=>none
 | m+1,x2,x3,k0 =>
  (bif (decide (x3<(Int.ofNat x0))) then (bif (inb x3 x0) then (bif ((Int.ofNat x0)==0) then none else (bif (inb (Int.tmod (w64 (x3+1)) (Int.ofNat x0)) x0) then (L38v1 u x0 x1 m (w64 ((w64 (x2+(w64 ((x1 x3.toNat 0).int*(CV.int (x1 (Int.toNat (Int.tmod (w64 (x3+1)) (Int.ofNat x0))) 1))))))-(w64 ((x1 x3.toNat 1).int*(CV.int (x1 (Int.toNat (Int.tmod (w64 (x3+1)) (Int.ofNat x0))) 0)))))) (w64 (x3+1)) k0) else none)) else none) else (k0 x2))
theorem nl38v1:∀ (m:Nat) (x0 x1:Int) (k0:Int→Option ρ),ob (L38v1 u n0 f0 m x0 x1 k0) ng=L38v1 u n0 f0 m x0 x1 (fun x2=>ob (k0 x2) ng)
 | 0,_,_,_=>rfl
 | m+1,x0,x1,k0=>by
  simp only [L38v1,ob_bif,ob_ob,ob_none,nl38v1 m]
theorem q38v1:∀ (m:Nat) (x0 x1:Int),
  loopH (eB A86v2 (C68 u) u) N38v1 m (s38v0 n0 f0 x0 x1) k=L38v1 u n0 f0 m x0 x1 (fun x2=>k (.exit 0) (s38v1 x2))
 | 0,_,_=>rfl
 | m+1,x0,x1=>by
  simp only [L38v1,← q38v1 m]
  kernel_rfl
def F38 (x0:Nat) (x1:FF):Option (Int) :=
 (ob (F37 u x0 x1) fun x2=>(bif (x2 != 0) then (some 0) else (L38v1 u x0 x1 u 0 0
  (fun x3=>(some x3)))))
def s38v2:St:=⟨(.x (.c (ro kP n0 f0)) :: uu :: .u :: vxi 0 :: vxi 0 :: uu :: uu :: (us 3 [uu,uu,uu,uu,uu,uu,uu,uu,uu,uu,uu,uu,uu,uu,uu,uu,uu,uu,uu,uu,uu,uu,uu,uu,uu,uu,uu,uu,uu,uu,uu,uu])),[]⟩
theorem t38v1 :
  loopN (eB A86v2 (C68 u) u) N38v1 u (s38v2 n0 f0) k =
  L38v1 u n0 f0 u 0 0 (fun x0=>k (.exit 0) (s38v1 x0)) :=
 Eq.trans (loopN_at (by kernel_rfl)) (q38v1 ..)
theorem g38v2 :
  (kBlk 0 (kSeq (C68 u) u (4 :: 5 :: 6 :: (rl 10 31 [])) A86v3 (finish A86))) (.exit 0) (s38v1 i0) =
  (some [.v (vi i0)]):=by kernel_rfl
theorem e38:evalF (C68 u) u A86 [.v (ro kP n0 f0)]=ob (F38 u n0 f0) fun t=>some [.v (vi t)]:=Eq.trans (b:=(ob (F37 u n0 f0) fun x0=>(bif (x0 != 0) then (some [.v (vi 0)]) else (loopN (eB A86v2 (C68 u) u) N38v1 u (s38v2 n0 f0) (kBlk 0 (kSeq (C68 u) u (4 :: 5 :: 6 :: (rl 10 31 [])) A86v3 (finish A86))))))) (by kernel_rfl) (by
 simp only [F38,ob_bif,ob_ob,ob_none,ob_some,nl38v1,t38v1,g38v2])
def O38:Ora:=mkO (q1 (av (cL kP))) (fun x=>F38 u x.1 x.2) fun t=>[.v (vi t)]
theorem d38:DO (O38 u) (C68 u) 86 A86:=dO u (fun x=>by exact e38 u x.1 x.2)
def C69:Oracle:=(C68 u).add 86 (fun _=>true) (O38 u)
def B131:An tT Tryz.f131 [.k [6,31,32],.k (rl 0 6 (rl 7 28 [])),.k [6,33,34],.k (rl 0 6 (rl 7 28 [])),.k (rl 0 6 (rl 7 28 []))]:=by
 apply Subtype.mk;cbv<;>exact rfl
def A131:AF:=B131.1
def F84 (u:Nat) (x0 x1 x2 x3 x4 x5:Int):Option (Int) :=
 (bif (decide ((w64 ((w64 ((w64 (x2-x0))*(w64 (x5-x1))))-(w64 ((w64 (x3-x1))*(w64 (x4-x0))))))>0)) then (some 1) else (bif (decide ((w64 ((w64 ((w64 (x2-x0))*(w64 (x5-x1))))-(w64 ((w64 (x3-x1))*(w64 (x4-x0))))))<0)) then (some (-1)) else (some 0)))
theorem e84:evalF (C69 u) u A131 [.agg [(vi i0),(vi i1)],.agg [(vi i2),(vi i3)],.agg [(vi i4),(vi i5)]]=ob (F84 u i0 i1 i2 i3 i4 i5) fun t=>some [.v (vi t)]:=by
 simp only [F84,ob_bif,ob_ob,ob_none,ob_some]
 kernel_rfl
def O84:Ora:=mkO (qc (ag (tc ci (t1 ci))) (qc (ag (tc ci (t1 ci))) (q1 (ag (tc ci (t1 ci)))))) (fun x=>F84 u x.1.1 x.1.2 x.2.1.1 x.2.1.2 x.2.2.1 x.2.2.2) fun t=>[.v (vi t)]
theorem d84:DO (O84 u) (C69 u) 131 A131:=dO u (fun x=>by exact e84 u x.1.1 x.1.2 x.2.1.1 x.2.1.2 x.2.2.1 x.2.2.2)
def C70:Oracle:=(C69 u).add 131 (fun _=>true) (O84 u)
def B130:An tT Tryz.f130 [.k (rl 0 6 (rl 7 45 []))]:=by
 apply Subtype.mk;cbv<;>exact rfl
def A130:AF:=B130.1
def F83 (x0 x1 x2 x3 x4 x5:Int):Option (Bool) :=
 (ob (F84 u x0 x1 x2 x3 x4 x5) fun x6=>(bif ((x6==0)==true) then (bif ((decide (x4≥(if x2<x0 then x2 else x0)))==true) then (bif ((decide (x4≤(if x2>x0 then x2 else x0)))==true) then (bif ((decide (x5≥(if x3<x1 then x3 else x1)))==true) then (some (decide (x5≤(if x3>x1 then x3 else x1)))) else (some false)) else (some false)) else (some false)) else (some false)))
theorem e83:evalF (C70 u) u A130 [.agg [(vi i0),(vi i1)],.agg [(vi i2),(vi i3)],.agg [(vi i4),(vi i5)]]=ob (F83 u i0 i1 i2 i3 i4 i5) fun t=>some [.v (.b t)]:=by
 simp only [F83,ob_bif,ob_ob,ob_none,ob_some]
 kernel_rfl
def O83:Ora:=mkO (qc (ag (tc ci (t1 ci))) (qc (ag (tc ci (t1 ci))) (q1 (ag (tc ci (t1 ci)))))) (fun x=>F83 u x.1.1 x.1.2 x.2.1.1 x.2.1.2 x.2.2.1 x.2.2.2) fun t=>[.v (.b t)]
theorem d83:DO (O83 u) (C70 u) 130 A130:=dO u (fun x=>by exact e83 u x.1.1 x.1.2 x.2.1.1 x.2.1.2 x.2.2.1 x.2.2.2)
def C71:Oracle:=(C70 u).add 130 (fun _=>true) (O83 u)
def B115:An tT Tryz.f115 [.k (rl 8 23 []),.k (rl 0 8 (rl 9 44 [])),.k (rl 0 8 (rl 9 44 []))]:=by
 apply Subtype.mk;cbv<;>exact rfl
def A115:AF:=B115.1
def F68 (x0 x1 x2 x3 x4 x5 x6 x7:Int):Option (Bool) :=
 (ob (F83 u x0 x1 x2 x3 x4 x5) fun x8=>(bif (x8==false) then (ob (F83 u x0 x1 x2 x3 x6 x7) fun x9=>(bif (x9==false) then (ob (F83 u x4 x5 x6 x7 x0 x1) fun xA=>(bif (xA==false) then (ob (F83 u x4 x5 x6 x7 x2 x3) fun xB=>(bif xB then (some true) else (ob (F84 u x0 x1 x2 x3 x4 x5) fun xC=>(ob (F84 u x0 x1 x2 x3 x6 x7) fun xD=>(bif ((decide ((w64 (xC*xD))<0))==true) then (ob (F84 u x4 x5 x6 x7 x0 x1) fun xE=>(ob (F84 u x4 x5 x6 x7 x2 x3) fun xF=>(some (decide ((w64 (xE*xF))<0))))) else (some false)))))) else (some true))) else (some true))) else (some true)))
theorem e68:evalF (C71 u) u A115 [.agg [(vi i0),(vi i1)],.agg [(vi i2),(vi i3)],.agg [(vi i4),(vi i5)],.agg [(vi i6),(vi i7)]]=ob (F68 u i0 i1 i2 i3 i4 i5 i6 i7) fun t=>some [.v (.b t)]:=by
 simp only [F68,ob_bif,ob_ob,ob_none,ob_some]
 kernel_rfl
def O68:Ora:=mkO (qc (ag (tc ci (t1 ci))) (qc (ag (tc ci (t1 ci))) (qc (ag (tc ci (t1 ci))) (q1 (ag (tc ci (t1 ci))))))) (fun x=>F68 u x.1.1 x.1.2 x.2.1.1 x.2.1.2 x.2.2.1.1 x.2.2.1.2 x.2.2.2.1 x.2.2.2.2) fun t=>[.v (.b t)]
theorem d68:DO (O68 u) (C71 u) 115 A115:=dO u (fun x=>by exact e68 u x.1.1 x.1.2 x.2.1.1 x.2.1.2 x.2.2.1.1 x.2.2.1.2 x.2.2.2.1 x.2.2.2.2)
def C72:Oracle:=(C71 u).add 115 (fun _=>true) (O68 u)
def B87:An tT Tryz.f87 [.k (rl 4 40 []),.h [],.k (2 :: 3 :: 4 :: (rl 6 38 [])),.k (rl 7 4 []),.k (rl 0 44 []),.k (4 :: 6 :: (rl 13 31 [])),.h [],.k (2 :: 3 :: 4 :: (rl 7 37 [])),.k (rl 13 4 []),.k (2 :: 3 :: 4 :: (rl 6 38 [])),.k (4 :: (rl 19 25 [])),.k (rl 0 4 (rl 5 39 [])),.k (rl 0 4 (rl 5 39 []))]:=by
 apply Subtype.mk;cbv<;>exact rfl
def A87:AF:=B87.1
def A87v7:AC:=sA A87.body [1,1]
def A87v6:AC:=sA A87.body [1,0,1,0,0]
def A87v5:AC:=sA A87v6 [1]
def A87v4:AC:=sA A87v5 [1]
def A87v3:AC:=sA A87v5 [0,0,1,0,0]
def N39v2:St→Option St:=nN 0 (2 :: 3 :: 4 :: (rl 7 37 []))
def s39v0:St:=⟨(.x (.c (ro kP n0 f0)) :: .x (.c (ro kP n1 f1)) :: (us 3 (vxi i0 :: vxi i1 :: (us 37 [])))),[]⟩
def s39v1:St:=⟨(us 4 (vxb true :: (us 39 []))),[]⟩
def s39v2:St:=⟨(.x (.c (ro kP n0 f0)) :: .x (.c (ro kP n1 f1)) :: (us 3 (vxi i0 :: (us 38 [])))),[]⟩
def L39v2 {ρ:Type} (u:Nat) (x0:Nat) (x1:FF) (x2:Nat) (x3:FF) (x4:Int):Nat→Int→(Option ρ)→(Option ρ)→Option ρ
 | 0,_,_,_=>none
 | m+1,x5,k0,k1 =>
  (bif (decide (x5<(Int.ofNat x2))) then (bif (inb x4 x0) then (bif ((Int.ofNat x0)==0) then none else (bif (inb (Int.tmod (w64 (x4+1)) (Int.ofNat x0)) x0) then (bif (inb x5 x2) then (bif ((Int.ofNat x2)==0) then none else (bif (inb (Int.tmod (w64 (x5+1)) (Int.ofNat x2)) x2) then (ob (F68 u (x1 x4.toNat 0).int (x1 x4.toNat 1).int (CV.int (x1 (Int.toNat (Int.tmod (w64 (x4+1)) (Int.ofNat x0))) 0)) (CV.int (x1 (Int.toNat (Int.tmod (w64 (x4+1)) (Int.ofNat x0))) 1)) (x3 x5.toNat 0).int (x3 x5.toNat 1).int (CV.int (x3 (Int.toNat (Int.tmod (w64 (x5+1)) (Int.ofNat x2))) 0)) (CV.int (x3 (Int.toNat (Int.tmod (w64 (x5+1)) (Int.ofNat x2))) 1))) fun x6=>(bif x6 then k0 else (L39v2 u x0 x1 x2 x3 x4 m (w64 (x5+1)) k0 k1))) else none)) else none) else none)) else none) else k1)
theorem nl39v2:∀ (m:Nat) (x0:Int) (k0:Option ρ) (k1:Option ρ),ob (L39v2 u n0 f0 n1 f1 i0 m x0 k0 k1) ng=L39v2 u n0 f0 n1 f1 i0 m x0 (ob k0 ng) (ob k1 ng)
 | 0,_,_,_=>rfl
 | m+1,x0,k0,k1=>by
  simp only [L39v2,ob_bif,ob_ob,ob_none,nl39v2 m]
theorem q39v2:∀ (m:Nat) (x0:Int),
  loopH (eB A87v3 (C72 u) u) N39v2 m (s39v0 n0 n1 f0 f1 i0 x0) k=L39v2 u n0 f0 n1 f1 i0 m x0 (k .ret s39v1) (k (.exit 2) (s39v2 n0 n1 f0 f1 i0))
 | 0,_=>rfl
 | m+1,x0=>by
  simp only [L39v2,← q39v2 m]
  kernel_rfl
def N39v3:St→Option St:=nN 0 (2 :: 3 :: 4 :: (rl 6 38 []))
def s39v3:St:=⟨(.x (.c (ro kP n0 f0)) :: .x (.c (ro kP n1 f1)) :: (us 3 (vxi i0 :: (us 38 [])))),[]⟩
def s39v4:St:=⟨(us 44 []),[]⟩
def L39v3 {ρ:Type} (u:Nat) (x0:Nat) (x1:FF) (x2:Nat) (x3:FF):Nat→Int→(Option ρ)→(Option ρ)→Option ρ
 | 0,_,_,_=>none
 | m+1,x4,k0,k1 =>
  (bif (decide (x4<(Int.ofNat x0))) then (L39v2 u x0 x1 x2 x3 x4 u 0
  k0
  (L39v3 u x0 x1 x2 x3 m (w64 (x4+1)) k0 k1)) else k1)
theorem nl39v3:∀ (m:Nat) (x0:Int) (k0:Option ρ) (k1:Option ρ),ob (L39v3 u n0 f0 n1 f1 m x0 k0 k1) ng=L39v3 u n0 f0 n1 f1 m x0 (ob k0 ng) (ob k1 ng)
 | 0,_,_,_=>rfl
 | m+1,x0,k0,k1=>by
  simp only [L39v3,ob_bif,ob_ob,ob_none,nl39v3 m,nl39v2]
def s39v5:St:=⟨(.x (.c (ro kP n0 f0)) :: .x (.c (ro kP n1 f1)) :: (us 3 (vxi i0 :: vxi 0 :: (us 37 [])))),[]⟩
theorem r39v3 :
  loopH (eB A87v6 (C72 u) u) N39v3 (m+1) (s39v3 n0 n1 f0 f1 i0) k =
  (bif (decide (i0<(Int.ofNat n0))) then (loopN (eB A87v3 (C72 u) u) N39v2 u (s39v5 n0 n1 f0 f1 i0) (kBlk 2 (kBlk 1 (kSeq (C72 u) u (4 :: 6 :: (rl 13 31 [])) A87v4 (kLoop (eB A87v6 (C72 u) u) N39v3 m k))))) else (k (.exit 0) s39v4)):=by kernel_rfl
theorem t39v1 :
  loopN (eB A87v3 (C72 u) u) N39v2 u (s39v5 n0 n1 f0 f1 i0) k =
  L39v2 u n0 f0 n1 f1 i0 u 0 (k .ret s39v1) (k (.exit 2) (s39v2 n0 n1 f0 f1 i0)) :=
 Eq.trans (loopN_at (by kernel_rfl)) (q39v2 ..)
theorem g39v2 :
  (kBlk 2 (kBlk 1 (kSeq (C72 u) u (4 :: 6 :: (rl 13 31 [])) A87v4 (kLoop (eB A87v6 (C72 u) u) N39v3 m k)))) .ret s39v1 =
  (k .ret s39v1):=by kernel_rfl
theorem g39v3 :
  (kBlk 2 (kBlk 1 (kSeq (C72 u) u (4 :: 6 :: (rl 13 31 [])) A87v4 (kLoop (eB A87v6 (C72 u) u) N39v3 m k)))) (.exit 2) (s39v2 n0 n1 f0 f1 i0) =
  (loopH (eB A87v6 (C72 u) u) N39v3 m (s39v3 n0 n1 f0 f1 (w64 (i0+1))) k):=by kernel_rfl
theorem q39v3:∀ (m:Nat) (x0:Int),
  loopH (eB A87v6 (C72 u) u) N39v3 m (s39v3 n0 n1 f0 f1 x0) k=L39v3 u n0 f0 n1 f1 m x0 (k .ret s39v1) (k (.exit 0) s39v4)
 | 0,_=>rfl
 | m+1,x0=>by
  rw [r39v3]
  simp only [L39v3,q39v3 m,t39v1,g39v2,g39v3]
def F39 (x0:Nat) (x1:FF) (x2:Nat) (x3:FF):Option (Bool) :=
 (L39v3 u x0 x1 x2 x3 u 0
  (some true)
  (some false))
def s39v6:St:=⟨[.x (.c (ro kP n0 f0)),.x (.c (ro kP n1 f1)),uu,uu,vxb false,vxi 0,uu,uu,uu,uu,uu,uu,uu,uu,uu,uu,uu,uu,uu,uu,uu,uu,uu,uu,uu,uu,uu,uu,uu,uu,uu,uu,uu,uu,uu,uu,uu,uu,uu,uu,uu,uu,uu,uu],[]⟩
theorem t39v4 :
  loopN (eB A87v6 (C72 u) u) N39v3 u (s39v6 n0 n1 f0 f1) k =
  L39v3 u n0 f0 n1 f1 u 0 (k .ret s39v1) (k (.exit 0) s39v4) :=
 Eq.trans (loopN_at (by kernel_rfl)) (q39v3 ..)
theorem g39v5 :
  (kBlk 0 (kSeq (C72 u) u (rl 4 40 []) A87v7 (finish A87))) .ret s39v1 =
  (some [.v (.b true)]):=by kernel_rfl
theorem g39v6 :
  (kBlk 0 (kSeq (C72 u) u (rl 4 40 []) A87v7 (finish A87))) (.exit 0) s39v4 =
  (some [.v (.b false)]):=by kernel_rfl
theorem e39:evalF (C72 u) u A87 [.v (ro kP n0 f0),.v (ro kP n1 f1)]=ob (F39 u n0 f0 n1 f1) fun t=>some [.v (.b t)]:=Eq.trans (b:=(loopN (eB A87v6 (C72 u) u) N39v3 u (s39v6 n0 n1 f0 f1) (kBlk 0 (kSeq (C72 u) u (rl 4 40 []) A87v7 (finish A87))))) (by kernel_rfl) (by
 simp only [F39,ob_bif,ob_ob,ob_none,ob_some,nl39v3,t39v4,g39v5,g39v6])
def O39:Ora:=mkO (qc (av (cL kP)) (q1 (av (cL kP)))) (fun x=>F39 u x.1.1 x.1.2 x.2.1 x.2.2) fun t=>[.v (.b t)]
theorem d39:DO (O39 u) (C72 u) 87 A87:=dO u (fun x=>by exact e39 u x.1.1 x.2.1 x.1.2 x.2.2)
def C73:Oracle:=(C72 u).add 87 (fun _=>true) (O39 u)
def B88:An tT Tryz.f88 [.k (4 :: (rl 11 8 [])),.k (rl 0 4 (rl 5 81 [])),.k (4 :: (rl 6 5 (rl 19 66 []))),.h [],.k (1 :: 2 :: 4 :: (rl 7 79 [])),.k (rl 19 4 []),.k (rl 0 5 (rl 6 80 [])),.k (4 :: (rl 7 4 (rl 25 60 []))),.k (4 :: (rl 37 4 [])),.k (rl 0 4 (rl 5 81 [])),.k [4,85],.k (rl 0 4 (rl 5 81 [])),.k (rl 0 4 (rl 5 81 []))]:=by
 apply Subtype.mk;cbv<;>exact rfl
def A88:AF:=B88.1
def A88v7:AC:=sA A88.body [1,1]
def A88v6:AC:=sA A88v7 [1,1]
def A88v4:AC:=sA A88v7 [1,0,1,0,0]
def N40v1:St→Option St:=nN 1 (1 :: 2 :: 4 :: (rl 7 79 []))
def s40v0:St:=⟨(.x (.c (ro kP n0 f0)) :: .u :: .u :: .x (.ptr 0 0) :: .u :: vxb b0 :: vxi i0 :: (us 79 [])),[.box [(vci i1),(vci i2)]]⟩
def s40v1:St:=⟨(us 4 (vxi 0 :: (us 81 []))),[.box [(vci i0),(vci i1)],.box [(vci i2),(vci i3)],.box [(vci i4),(vci i5)]]⟩
def s40v2:St:=⟨(us 5 (vxb b0 :: (us 80 []))),[.box [(vci i0),(vci i1)]]⟩
def L40v1 {ρ:Type} (u:Nat) (x0:Nat) (x1:FF) (x2 x3:Int):Nat→Bool→Int→(Int→Int→Int→Int→Option ρ)→(Bool→Option ρ)→Option ρ
 | 0,_,_,_,_=>none
 | m+1,x4,x5,k0,k1 =>
  (bif (decide (x5<(Int.ofNat x0))) then (bif (inb x5 x0) then (bif ((Int.ofNat x0)==0) then none else (bif (inb (Int.tmod (w64 (x5+1)) (Int.ofNat x0)) x0) then (ob (F70 u x2 x3 (x1 x5.toNat 0).int (x1 x5.toNat 1).int (CV.int (x1 (Int.toNat (Int.tmod (w64 (x5+1)) (Int.ofNat x0))) 0)) (CV.int (x1 (Int.toNat (Int.tmod (w64 (x5+1)) (Int.ofNat x0))) 1))) fun x6=>(bif x6 then (k0 (x1 x5.toNat 0).int (x1 x5.toNat 1).int (CV.int (x1 (Int.toNat (Int.tmod (w64 (x5+1)) (Int.ofNat x0))) 0)) (CV.int (x1 (Int.toNat (Int.tmod (w64 (x5+1)) (Int.ofNat x0))) 1))) else (bif ((decide ((x1 x5.toNat 1).int≤x3))==true) then (bif ((decide (x3<(CV.int (x1 (Int.toNat (Int.tmod (w64 (x5+1)) (Int.ofNat x0))) 1))))==true) then (ob (F71 u (x1 x5.toNat 0).int (x1 x5.toNat 1).int (CV.int (x1 (Int.toNat (Int.tmod (w64 (x5+1)) (Int.ofNat x0))) 0)) (CV.int (x1 (Int.toNat (Int.tmod (w64 (x5+1)) (Int.ofNat x0))) 1)) x2 x3) fun x7=>(bif ((decide ((CV.int (x1 (Int.toNat (Int.tmod (w64 (x5+1)) (Int.ofNat x0))) 1))≤x3))==true) then (bif ((decide (x3<(x1 x5.toNat 1).int))==true) then (ob (F71 u (x1 x5.toNat 0).int (x1 x5.toNat 1).int (CV.int (x1 (Int.toNat (Int.tmod (w64 (x5+1)) (Int.ofNat x0))) 0)) (CV.int (x1 (Int.toNat (Int.tmod (w64 (x5+1)) (Int.ofNat x0))) 1)) x2 x3) fun x8=>(bif ((decide (x7>0))==false) then (bif (decide (x8<0)) then (L40v1 u x0 x1 x2 x3 m (!x4) (w64 (x5+1)) k0 k1) else (L40v1 u x0 x1 x2 x3 m x4 (w64 (x5+1)) k0 k1)) else (L40v1 u x0 x1 x2 x3 m (!x4) (w64 (x5+1)) k0 k1))) else (bif ((decide (x7>0))==false) then (L40v1 u x0 x1 x2 x3 m x4 (w64 (x5+1)) k0 k1) else (L40v1 u x0 x1 x2 x3 m (!x4) (w64 (x5+1)) k0 k1))) else (bif ((decide (x7>0))==false) then (L40v1 u x0 x1 x2 x3 m x4 (w64 (x5+1)) k0 k1) else (L40v1 u x0 x1 x2 x3 m (!x4) (w64 (x5+1)) k0 k1)))) else (bif ((decide ((CV.int (x1 (Int.toNat (Int.tmod (w64 (x5+1)) (Int.ofNat x0))) 1))≤x3))==true) then (bif ((decide (x3<(x1 x5.toNat 1).int))==true) then (ob (F71 u (x1 x5.toNat 0).int (x1 x5.toNat 1).int (CV.int (x1 (Int.toNat (Int.tmod (w64 (x5+1)) (Int.ofNat x0))) 0)) (CV.int (x1 (Int.toNat (Int.tmod (w64 (x5+1)) (Int.ofNat x0))) 1)) x2 x3) fun x9=>(bif (decide (x9<0)) then (L40v1 u x0 x1 x2 x3 m (!x4) (w64 (x5+1)) k0 k1) else (L40v1 u x0 x1 x2 x3 m x4 (w64 (x5+1)) k0 k1))) else (L40v1 u x0 x1 x2 x3 m x4 (w64 (x5+1)) k0 k1)) else (L40v1 u x0 x1 x2 x3 m x4 (w64 (x5+1)) k0 k1))) else (bif ((decide ((CV.int (x1 (Int.toNat (Int.tmod (w64 (x5+1)) (Int.ofNat x0))) 1))≤x3))==true) then (bif ((decide (x3<(x1 x5.toNat 1).int))==true) then (ob (F71 u (x1 x5.toNat 0).int (x1 x5.toNat 1).int (CV.int (x1 (Int.toNat (Int.tmod (w64 (x5+1)) (Int.ofNat x0))) 0)) (CV.int (x1 (Int.toNat (Int.tmod (w64 (x5+1)) (Int.ofNat x0))) 1)) x2 x3) fun xA=>(bif (decide (xA<0)) then (L40v1 u x0 x1 x2 x3 m (!x4) (w64 (x5+1)) k0 k1) else (L40v1 u x0 x1 x2 x3 m x4 (w64 (x5+1)) k0 k1))) else (L40v1 u x0 x1 x2 x3 m x4 (w64 (x5+1)) k0 k1)) else (L40v1 u x0 x1 x2 x3 m x4 (w64 (x5+1)) k0 k1))))) else none)) else none) else (k1 x4))
theorem nl40v1:∀ (m:Nat) (x0:Bool) (x1:Int) (k0:Int→Int→Int→Int→Option ρ) (k1:Bool→Option ρ),ob (L40v1 u n0 f0 i0 i1 m x0 x1 k0 k1) ng=L40v1 u n0 f0 i0 i1 m x0 x1 (fun x2 x3 x4 x5=>ob (k0 x2 x3 x4 x5) ng) (fun x6=>ob (k1 x6) ng)
 | 0,_,_,_,_=>rfl
 | m+1,x0,x1,k0,k1=>by
  simp only [L40v1,ob_bif,ob_ob,ob_none,nl40v1 m]
theorem q40v1:∀ (m:Nat) (x0:Bool) (x1:Int),
  loopH (eB A88v4 (C73 u) u) N40v1 m (s40v0 n0 f0 x1 i0 i1 x0) k=L40v1 u n0 f0 i0 i1 m x0 x1 (fun x2 x3 x4 x5=>k .ret (s40v1 i0 i1 x2 x3 x4 x5)) (fun x6=>k (.exit 0) (s40v2 i0 i1 x6))
 | 0,_,_=>rfl
 | m+1,x0,x1=>by
  simp only [L40v1,← q40v1 m]
  kernel_rfl
def F40 (x0:Nat) (x1:FF) (x2 x3:Int):Option (Int) :=
 (ob (F37 u x0 x1) fun x4=>(bif ((x4 != 0)==false) then (ob (F69 u x2 x3) fun x5=>(bif (!x5) then (some (-1)) else (L40v1 u x0 x1 x2 x3 u false 0
  (fun x6 x7 x8 x9=>(some 0))
  (fun xA=>(bif xA then (some 1) else (some (-1))))))) else (some (-1))))
def s40v3:St:=⟨(.x (.c (ro kP n0 f0)) :: .agg [(vci i0),(vci i1)] :: uu :: .x (.ptr 0 0) :: .u :: vxb false :: vxi 0 :: uu :: uu :: uu :: uu :: (us 8 [uu,uu,uu,uu,uu,uu,uu,uu,uu,uu,uu,uu,uu,uu,uu,uu,uu,uu,uu,uu,uu,uu,uu,uu,uu,uu,uu,uu,uu,uu,uu,uu,uu,uu,uu,uu,uu,uu,uu,uu,uu,uu,uu,uu,uu,uu,uu,uu,uu,uu,uu,uu,uu,uu,uu,uu,uu,uu,uu,uu,uu,uu,uu,uu,uu,uu,uu])),[.box [(vci i0),(vci i1)]]⟩
theorem t40v1 :
  loopN (eB A88v4 (C73 u) u) N40v1 u (s40v3 n0 f0 i0 i1) k =
  L40v1 u n0 f0 i0 i1 u false 0 (fun x0 x1 x2 x3=>k .ret (s40v1 i0 i1 x0 x1 x2 x3)) (fun x4=>k (.exit 0) (s40v2 i0 i1 x4)) :=
 Eq.trans (loopN_at (by kernel_rfl)) (q40v1 ..)
theorem g40v2 :
  (kBlk 0 (kSeq (C73 u) u (4 :: (rl 6 5 (rl 19 66 []))) A88v6 (finish A88))) .ret (s40v1 i0 i1 i2 i3 i4 i5) =
  (some [.v (vi 0)]):=by kernel_rfl
theorem g40v3 :
  (kBlk 0 (kSeq (C73 u) u (4 :: (rl 6 5 (rl 19 66 []))) A88v6 (finish A88))) (.exit 0) (s40v2 i0 i1 b0) =
  (bif b0 then (some [.v (vi 1)]) else (some [.v (vi (-1))])):=by kernel_rfl
theorem e40:evalF (C73 u) u A88 [.v (ro kP n0 f0),.agg [(vi i0),(vi i1)]]=ob (F40 u n0 f0 i0 i1) fun t=>some [.v (vi t)]:=Eq.trans (b:=(ob (F37 u n0 f0) fun x0=>(bif ((x0 != 0)==false) then (ob (F69 u i0 i1) fun x1=>(bif (!x1) then (some [.v (vi (-1))]) else (loopN (eB A88v4 (C73 u) u) N40v1 u (s40v3 n0 f0 i0 i1) (kBlk 0 (kSeq (C73 u) u (4 :: (rl 6 5 (rl 19 66 []))) A88v6 (finish A88)))))) else (some [.v (vi (-1))])))) (by kernel_rfl) (by
 simp only [F40,ob_bif,ob_ob,ob_none,ob_some,nl40v1,t40v1,g40v2,g40v3])
def O40:Ora:=mkO (qc (av (cL kP)) (q1 (ag (tc ci (t1 ci))))) (fun x=>F40 u x.1.1 x.1.2 x.2.1 x.2.2) fun t=>[.v (vi t)]
theorem d40:DO (O40 u) (C73 u) 88 A88:=dO u (fun x=>by exact e40 u x.1.1 x.1.2 x.2.1 x.2.2)
def C74:Oracle:=(C73 u).add 88 (fun _=>true) (O40 u)
end Go.Eng.R13
