/-
 The functions of the program,run on symbols;printed by decomp.py.
-/
import Derived.Test.YtkknnlhhchielaaGreatDoorDecT1
import Derived.Test.YtkknnlhhchielaaGreatDoorEngAn
import Derived.Test.YtkknnlhhchielaaGreatDoorProg
set_option linter.all false
set_option maxRecDepth 1000000
set_option maxHeartbeats 4000000
namespace Go.Eng.R13
open Go Go.RowKit Go.Eng
open Go.Proofs
variable {ρ σ : Type} (u m : Nat) (k : Ex → St → Option ρ) (ng : ρ → Option σ) (n0 n1 n2 n3 n4 n5 n6 n7 : Nat) (f0 f1 f2 f3 f4 f5 f6 f7 : FF) (i0 i1 i2 i3 i4 i5 i6 i7 i8 i9 iA iB iC iD iE iF iG iH iI iJ iK iL iM : Int) (b0 b1 : Bool) (w0 w1 w2 w3 w4 w5 w6 w7 w8 w9 : ByteArray) (g0 g1 : Nat → CV)
def B52:An tT Tryz.f52 [.k (2 :: (rl 8 4 [])),.k (0 :: 1 :: (rl 3 90 [])),.k (2 :: 3 :: (rl 12 6 [])),.k (0 :: 1 :: (rl 3 90 [])),.k (2 :: (rl 18 4 [])),.k (0 :: 1 :: (rl 3 90 [])),.k (2 :: (rl 4 4 (rl 22 71 []))),.h [],.k (0 :: 2 :: 3 :: (rl 5 88 [])),.k (rl 22 5 []),.k (rl 0 93 []),.k (2 :: 5 :: 6 :: 7 :: (rl 29 64 [])),.k (2 :: 6 :: (rl 34 5 [])),.k (0 :: 1 :: (rl 3 90 [])),.k (2 :: (rl 39 18 [])),.k (0 :: 1 :: (rl 3 90 [])),.h [],.k (0 :: 2 :: 3 :: 6 :: (rl 8 85 [])),.k [57,58,59],.k (0 :: 2 :: 3 :: (rl 5 88 [])),.k (2 :: (rl 62 31 [])),.k (0 :: 1 :: (rl 3 90 [])),.k (0 :: 1 :: (rl 3 90 []))]:=by
 apply Subtype.mk;cbv<;>exact rfl
def A52:AF:=B52.1
def A52v12:AC:=sA A52.body [1,1]
def A52v11:AC:=sA A52v12 [1]
def A52v10:AC:=sA A52v11 [1]
def A52v9:AC:=sA A52v10 [1]
def A52v8:AC:=sA A52v10 [0,1,0,0]
def A52v7:AC:=sA A52v8 [1]
def A52v6:AC:=sA A52v7 [1]
def A52v5:AC:=sA A52v7 [0,0,1,1]
def A52v4:AC:=sA A52v5 [1]
def A52v3:AC:=sA A52v4 [1,0,0]
def N14v2:St→Option St:=nN 1 (0 :: 2 :: 3 :: 6 :: (rl 8 85 []))
def s14v0:St:=⟨(.u :: .x (.ptr 0 0) :: .u :: .u :: vxi i0 :: .x (.c (ro kP n0 f0)) :: .u :: vxi i1 :: (us 85 [])),[.box [(.c (ro kP n1 f1)),(.c (ro kF n2 f2))]]⟩
def s14v1:St:=⟨(.u :: .u :: vxi 17 :: (us 90 [])),[.box [(.c (ro kP n0 f0)),(.c (ro kF n1 f1))]]⟩
def s14v2:St:=⟨(.u :: .x (.ptr 0 0) :: .u :: .u :: vxi i0 :: (us 88 [])),[.box [(.c (ro kP n0 f0)),(.c (ro kF n1 f1))]]⟩
def L14v2 {ρ:Type} (u:Nat) (x0:Int) (x1:Nat) (x2:FF) (x3:Nat) (x4:FF) (x5:Nat) (x6:FF):Nat→Int→(Option ρ)→(Option ρ)→Option ρ
 | 0,_,_,_=>none
 | m+1,x7,k0,k1 =>
  (bif (decide (x7<x0)) then (bif (inb x7 x5) then (ob (F39 u x1 x2 (x6 x7.toNat 0).len (x6 x7.toNat 0).el) fun x8=>(bif (x8==false) then (bif (inb x7 x5) then (bif (inb 0 (x6 x7.toNat 0).len) then (ob (F40 u x1 x2 ((x6 x7.toNat 0).el 0 0).int ((x6 x7.toNat 0).el 0 1).int) fun x9=>(bif ((x9 != (-1))==false) then (bif (inb x7 x5) then (bif (inb 0 x1) then (ob (F40 u (x6 x7.toNat 0).len (x6 x7.toNat 0).el (x2 0 0).int (x2 0 1).int) fun xA=>(bif (xA != (-1)) then k0 else (L14v2 u x0 x1 x2 x3 x4 x5 x6 m (w64 (x7+1)) k0 k1))) else none) else none) else k0)) else none) else none) else k0)) else none) else k1)
theorem nl14v2:∀ (m:Nat) (x0:Int) (k0:Option ρ) (k1:Option ρ),ob (L14v2 u i0 n0 f0 n1 f1 n2 f2 m x0 k0 k1) ng=L14v2 u i0 n0 f0 n1 f1 n2 f2 m x0 (ob k0 ng) (ob k1 ng)
 | 0,_,_,_=>rfl
 | m+1,x0,k0,k1=>by
  simp only [L14v2,ob_bif,ob_ob,ob_none,nl14v2 m]
theorem q14v2:∀ (m:Nat) (x0:Int),
  loopH (eB A52v3 (C74 u) u) N14v2 m (s14v0 n0 n1 n2 f0 f1 f2 i0 x0) k=L14v2 u i0 n0 f0 n1 f1 n2 f2 m x0 (k .ret (s14v1 n1 n2 f1 f2)) (k (.exit 2) (s14v2 n1 n2 f1 f2 i0))
 | 0,_=>rfl
 | m+1,x0=>by
  simp only [L14v2,← q14v2 m]
  kernel_rfl
def N14v3:St→Option St:=nN 1 (0 :: 2 :: 3 :: (rl 5 88 []))
def s14v3:St:=⟨(.u :: .x (.ptr 0 0) :: .u :: .u :: vxi i0 :: (us 88 [])),[.box [(.c (ro kP n0 f0)),(.c (ro kF n1 f1))]]⟩
def s14v4:St:=⟨(.u :: .u :: vxi i0 :: (us 90 [])),[.box [(.c (ro kP n0 f0)),(.c (ro kF n1 f1))]]⟩
def s14v5:St:=⟨(us 93 []),[.box [(.c (ro kP n0 f0)),(.c (ro kF n1 f1))]]⟩
def L14v3 {ρ:Type} (u:Nat) (x0:Nat) (x1:FF) (x2:Nat) (x3:FF):Nat→Int→(Int→Option ρ)→(Option ρ)→Option ρ
 | 0,_,_,_=>none
 | m+1,x4,k0,k1 =>
  (bif (decide (x4<(Int.ofNat x2))) then (bif (inb x4 x2) then (ob (F37 u (x3 x4.toNat 0).len (x3 x4.toNat 0).el) fun x5=>(bif (x5 != 0) then (k0 x5) else (ob (F38 u (x3 x4.toNat 0).len (x3 x4.toNat 0).el) fun x6=>(bif ((decide (x6≥0))==false) then (ob (F39 u x0 x1 (x3 x4.toNat 0).len (x3 x4.toNat 0).el) fun x7=>(bif (x7==false) then (bif (inb 0 (x3 x4.toNat 0).len) then (ob (F40 u x0 x1 ((x3 x4.toNat 0).el 0 0).int ((x3 x4.toNat 0).el 0 1).int) fun x8=>(bif (x8 != 1) then (k0 17) else (L14v2 u x4 (x3 x4.toNat 0).len (x3 x4.toNat 0).el x0 x1 x2 x3 u 0
  (k0 17)
  (L14v3 u x0 x1 x2 x3 m (w64 (x4+1)) k0 k1)))) else none) else (k0 17))) else (k0 17))))) else none) else k1)
theorem nl14v3:∀ (m:Nat) (x0:Int) (k0:Int→Option ρ) (k1:Option ρ),ob (L14v3 u n0 f0 n1 f1 m x0 k0 k1) ng=L14v3 u n0 f0 n1 f1 m x0 (fun x1=>ob (k0 x1) ng) (ob k1 ng)
 | 0,_,_,_=>rfl
 | m+1,x0,k0,k1=>by
  simp only [L14v3,ob_bif,ob_ob,ob_none,nl14v3 m,nl14v2]
def s14v6:St:=⟨(.u :: .x (.ptr 0 0) :: .u :: .u :: vxi i0 :: .x (.c (ro kP (f0 i0.toNat 0).len (f0 i0.toNat 0).el)) :: .u :: vxi 0 :: (us 21 (.x (.ptr 0 1) :: .x (.c (ro kF n0 f0)) :: vxi i0 :: .x (.c (.rp kF (f0 i0.toNat))) :: .x (.c (ro kP (f0 i0.toNat 0).len (f0 i0.toNat 0).el)) :: (us 59 [])))),[.box [(.c (ro kP n1 f1)),(.c (ro kF n0 f0))]]⟩
theorem r14v3 :
  loopH (eB A52v8 (C74 u) u) N14v3 (m+1) (s14v3 n0 n1 f0 f1 i0) k =
  (bif (decide (i0<(Int.ofNat n1))) then (bif (inb i0 n1) then (ob (F37 u (f1 i0.toNat 0).len (f1 i0.toNat 0).el) fun x0=>(bif (x0 != 0) then (k .ret (s14v4 n0 n1 f0 f1 x0)) else (ob (F38 u (f1 i0.toNat 0).len (f1 i0.toNat 0).el) fun x1=>(bif ((decide (x1≥0))==false) then (ob (F39 u n0 f0 (f1 i0.toNat 0).len (f1 i0.toNat 0).el) fun x2=>(bif (x2==false) then (bif (inb 0 (f1 i0.toNat 0).len) then (ob (F40 u n0 f0 ((f1 i0.toNat 0).el 0 0).int ((f1 i0.toNat 0).el 0 1).int) fun x3=>(bif (x3 != 1) then (k .ret (s14v4 n0 n1 f0 f1 17)) else (loopN (eB A52v3 (C74 u) u) N14v2 u (s14v6 n1 n0 f1 f0 i0) (kBlk 2 (kBlk 1 (kSeq (C74 u) u (2 :: 5 :: 6 :: 7 :: (rl 29 64 [])) A52v6 (kLoop (eB A52v8 (C74 u) u) N14v3 m k))))))) else none) else (k .ret (s14v4 n0 n1 f0 f1 17)))) else (k .ret (s14v4 n0 n1 f0 f1 17)))))) else none) else (k (.exit 0) (s14v5 n0 n1 f0 f1))):=by kernel_rfl
theorem t14v1 :
  loopN (eB A52v3 (C74 u) u) N14v2 u (s14v6 n0 n1 f0 f1 i0) k =
  L14v2 u i0 (f0 i0.toNat 0).len (f0 i0.toNat 0).el n1 f1 n0 f0 u 0 (k .ret (s14v1 n1 n0 f1 f0)) (k (.exit 2) (s14v2 n1 n0 f1 f0 i0)) :=
 Eq.trans (loopN_at (by kernel_rfl)) (q14v2 ..)
theorem g14v2 :
  (kBlk 2 (kBlk 1 (kSeq (C74 u) u (2 :: 5 :: 6 :: 7 :: (rl 29 64 [])) A52v6 (kLoop (eB A52v8 (C74 u) u) N14v3 m k)))) .ret (s14v1 n0 n1 f0 f1) =
  (k .ret (s14v4 n0 n1 f0 f1 17)):=by kernel_rfl
theorem g14v3 :
  (kBlk 2 (kBlk 1 (kSeq (C74 u) u (2 :: 5 :: 6 :: 7 :: (rl 29 64 [])) A52v6 (kLoop (eB A52v8 (C74 u) u) N14v3 m k)))) (.exit 2) (s14v2 n0 n1 f0 f1 i0) =
  (loopH (eB A52v8 (C74 u) u) N14v3 m (s14v3 n0 n1 f0 f1 (w64 (i0+1))) k):=by kernel_rfl
theorem q14v3:∀ (m:Nat) (x0:Int),
  loopH (eB A52v8 (C74 u) u) N14v3 m (s14v3 n0 n1 f0 f1 x0) k=L14v3 u n0 f0 n1 f1 m x0 (fun x1=>k .ret (s14v4 n0 n1 f0 f1 x1)) (k (.exit 0) (s14v5 n0 n1 f0 f1))
 | 0,_=>rfl
 | m+1,x0=>by
  rw [r14v3]
  simp only [L14v3,q14v3 m,t14v1,g14v2,g14v3]
def F14 (x0:Nat) (x1:FF) (x2:Nat) (x3:FF):Option (Int) :=
 (bif (decide ((Int.ofNat x2)>8)) then (some 12) else (ob (F37 u x0 x1) fun x4=>(bif (x4 != 0) then (some x4) else (ob (F38 u x0 x1) fun x5=>(bif (decide (x5≤0)) then (some 17) else (L14v3 u x0 x1 x2 x3 u 0
  (fun x6=>(some x6))
  (some 0)))))))
def s14v7:St:=⟨(.agg [(.c (ro kP n0 f0)),(.c (ro kF n1 f1))] :: .x (.ptr 0 0) :: .u :: .u :: vxi 0 :: uu :: uu :: uu :: (us 14 [uu,uu,uu,uu,uu,uu,uu,uu,uu,uu,uu,uu,uu,uu,uu,uu,uu,uu,uu,uu,uu,uu,uu,uu,uu,uu,uu,uu,uu,uu,uu,uu,uu,uu,uu,uu,uu,uu,uu,uu,uu,uu,uu,uu,uu,uu,uu,uu,uu,uu,uu,uu,uu,uu,uu,uu,uu,uu,uu,uu,uu,uu,uu,uu,uu,uu,uu,uu,uu,uu,uu])),[.box [(.c (ro kP n0 f0)),(.c (ro kF n1 f1))]]⟩
theorem t14v4 :
  loopN (eB A52v8 (C74 u) u) N14v3 u (s14v7 n0 n1 f0 f1) k =
  L14v3 u n0 f0 n1 f1 u 0 (fun x0=>k .ret (s14v4 n0 n1 f0 f1 x0)) (k (.exit 0) (s14v5 n0 n1 f0 f1)) :=
 Eq.trans (loopN_at (by kernel_rfl)) (q14v3 ..)
theorem g14v5 :
  (kBlk 0 (kSeq (C74 u) u (2 :: (rl 4 4 (rl 22 71 []))) A52v9 (finish A52))) .ret (s14v4 n0 n1 f0 f1 i0) =
  (some [.v (vi i0)]):=by kernel_rfl
theorem g14v6 :
  (kBlk 0 (kSeq (C74 u) u (2 :: (rl 4 4 (rl 22 71 []))) A52v9 (finish A52))) (.exit 0) (s14v5 n0 n1 f0 f1) =
  (some [.v (vi 0)]):=by kernel_rfl
theorem e14:evalF (C74 u) u A52 [.agg [(ro kP n0 f0),(ro kF n1 f1)]]=ob (F14 u n0 f0 n1 f1) fun t=>some [.v (vi t)]:=Eq.trans (b:=(bif (decide ((Int.ofNat n1)>8)) then (some [.v (vi 12)]) else (ob (F37 u n0 f0) fun x0=>(bif (x0 != 0) then (some [.v (vi x0)]) else (ob (F38 u n0 f0) fun x1=>(bif (decide (x1≤0)) then (some [.v (vi 17)]) else (loopN (eB A52v8 (C74 u) u) N14v3 u (s14v7 n0 n1 f0 f1) (kBlk 0 (kSeq (C74 u) u (2 :: (rl 4 4 (rl 22 71 []))) A52v9 (finish A52)))))))))) (by kernel_rfl) (by
 simp only [F14,ob_bif,ob_ob,ob_none,ob_some,nl14v3,t14v4,g14v5,g14v6])
def O14:Ora:=mkO (q1 (ag (tc (cL kP) (t1 (cL kF))))) (fun x=>F14 u x.1.1 x.1.2 x.2.1 x.2.2) fun t=>[.v (vi t)]
theorem d14:DO (O14 u) (C74 u) 52 A52:=dO u (fun x=>by exact e14 u x.1.1 x.2.1 x.1.2 x.2.2)
def C75:Oracle:=(C74 u).add 52 (fun _=>true) (O14 u)
def B27:An tT Tryz.f27 [.k (rl 6 47 []),.h [.slot 5 kA],.k (0 :: 3 :: 4 :: (rl 7 47 [])),.k (rl 8 4 []),.g [0],.k (rl 0 5 (rl 6 48 [])),.k (7 :: (rl 14 39 [])),.g [0],.k (rl 0 4 (rl 5 49 []))]:=by
 apply Subtype.mk;cbv<;>exact rfl
def A27:AF:=B27.1
def A27v4:AC:=sA A27.body [1,1,1]
def A27v3:AC:=sA A27.body [1,1,0,1,0,0]
def N409v1:St→Option St:=nN 2 (0 :: 3 :: 4 :: (rl 7 47 []))
def s409v0:St:=⟨(.u :: .x (.c (ro kA n0 f0)) :: .x (.ptr 0 0) :: .u :: .u :: .x (.own 1 0 n1) :: vxi i0 :: (us 47 [])),[.box [(vcs w0),(vcs w1),(vci i1),(vci i2),(vci i3),(vcs w2)],.arr kA n1 f1]⟩
def s409v1:St:=⟨(us 5 (.x (.own 1 0 n0) :: (us 48 []))),[.dead,.arr kA n0 f0]⟩
def L409v1 {ρ:Type} (u:Nat) (x0:Nat) (x1:FF) (x2 x3:ByteArray) (x4 x5 x6:Int) (x7:ByteArray):Nat→Nat→Int→FF→(Nat→FF→Option ρ)→Option ρ
 | 0,_,_,_,_=>none
 | m+1,x8,x9,xA,k0 =>
  (bif (decide (x9<(Int.ofNat x0))) then (bif (inb x9 x0) then (bif (((x1 x9.toNat 2).int==1)==true) then (bif ((ByteArray.toList (x1 x9.toNat 4).str==ByteArray.toList x3)==true) then (bif (((x1 x9.toNat 5).int==x4)==true) then (ob (F176 u x0 x1 (x1 x9.toNat 0).str) fun xB=>(bif ((xB==x9)==true) then (ob (F14 u (x1 x9.toNat 6).len (x1 x9.toNat 6).el (x1 x9.toNat 7).len (x1 x9.toNat 7).el) fun xC=>(bif (xC==0) then (bif (Nat.ble (x8+1) 1073741824) then (L409v1 u x0 x1 x2 x3 x4 x5 x6 x7 m (x8+1) (w64 (x9+1)) (joinF x8 xA (rowsF 18 [(.s (x1 x9.toNat 0).str),(.i .i64 (x1 x9.toNat 1).int),(.i .i64 (x1 x9.toNat 2).int),(.s (x1 x9.toNat 3).str),(.s (x1 x9.toNat 4).str),(.i .i64 (x1 x9.toNat 5).int),(.ro false (.pr (.int .i64) (.pr (.int .i64) .nil)) (x1 x9.toNat 6).len (x1 x9.toNat 6).el),(.ro false (.pr (.sl (.pr (.int .i64) (.pr (.int .i64) .nil))) .nil) (x1 x9.toNat 7).len (x1 x9.toNat 7).el),(.s (x1 x9.toNat 8).str),(.i .i64 (x1 x9.toNat 9).int),(.i .i64 (x1 x9.toNat 10).int),(.i .i64 (x1 x9.toNat 11).int),(.i .i64 (x1 x9.toNat 12).int),(.i .i64 (x1 x9.toNat 13).int),(.i .i64 (x1 x9.toNat 14).int),(.i .i64 (x1 x9.toNat 15).int),(.i .i64 (x1 x9.toNat 16).int),(.i .i64 (x1 x9.toNat 17).int)])) k0) else none) else (L409v1 u x0 x1 x2 x3 x4 x5 x6 x7 m x8 (w64 (x9+1)) xA k0))) else (L409v1 u x0 x1 x2 x3 x4 x5 x6 x7 m x8 (w64 (x9+1)) xA k0))) else (L409v1 u x0 x1 x2 x3 x4 x5 x6 x7 m x8 (w64 (x9+1)) xA k0)) else (L409v1 u x0 x1 x2 x3 x4 x5 x6 x7 m x8 (w64 (x9+1)) xA k0)) else (L409v1 u x0 x1 x2 x3 x4 x5 x6 x7 m x8 (w64 (x9+1)) xA k0)) else none) else (k0 x8 xA))
theorem nl409v1:∀ (m:Nat) (x0:Nat) (x1:Int) (x2:FF) (k0:Nat→FF→Option ρ),ob (L409v1 u n0 f0 w0 w1 i0 i1 i2 w2 m x0 x1 x2 k0) ng=L409v1 u n0 f0 w0 w1 i0 i1 i2 w2 m x0 x1 x2 (fun x3 x4=>ob (k0 x3 x4) ng)
 | 0,_,_,_,_=>rfl
 | m+1,x0,x1,x2,k0=>by
  simp only [L409v1,ob_bif,ob_ob,ob_none,nl409v1 m]
theorem q409v1:∀ (m:Nat) (x0:Nat) (x1:Int) (x2:FF),
  loopH (eB A27v3 (C75 u) u) N409v1 m (s409v0 n0 x0 f0 x2 x1 i0 i1 i2 w0 w1 w2) k=L409v1 u n0 f0 w0 w1 i0 i1 i2 w2 m x0 x1 x2 (fun x3 x4=>k (.exit 0) (s409v1 x3 x4))
 | 0,_,_,_=>rfl
 | m+1,x0,x1,x2=>by
  simp only [L409v1,← q409v1 m]
  kernel_rfl
def F409 (x0 x1:ByteArray) (x2 x3 x4:Int) (x5:ByteArray) (x6:Nat) (x7:FF):Option (Nat × FF) :=
 (L409v1 u x6 x7 x0 x1 x2 x3 x4 x5 u 0 0 (fun _ _=>.any)
  (fun x8 x9=>(some (x8,x9))))
def s409v2:St:=⟨[.agg [(vcs w0),(vcs w1),(vci i0),(vci i1),(vci i2),(vcs w2)],.x (.c (ro kA n0 f0)),.x (.ptr 0 0),uu,.x (vcn),.x (.own 1 0 0),vxi 0,uu,uu,uu,uu,uu,uu,uu,uu,uu,uu,uu,uu,uu,uu,uu,uu,uu,uu,uu,uu,uu,uu,uu,uu,uu,uu,uu,uu,uu,uu,uu,uu,uu,uu,uu,uu,uu,uu,uu,uu,uu,uu,uu,uu,uu,uu,uu],[.box [(vcs w0),(vcs w1),(vci i0),(vci i1),(vci i2),(vcs w2)],.arr kA 0 nilF]⟩
theorem t409v1 :
  loopN (eB A27v3 (C75 u) u) N409v1 u (s409v2 n0 f0 i0 i1 i2 w0 w1 w2) k =
  L409v1 u n0 f0 w0 w1 i0 i1 i2 w2 u 0 0 nilF (fun x0 x1=>k (.exit 0) (s409v1 x0 x1)) :=
 Eq.trans (loopN_at (by kernel_rfl)) (q409v1 ..)
theorem g409v2 :
  (kBlk 0 (kSeq (C75 u) u (rl 6 47 []) A27v4 (finish A27))) (.exit 0) (s409v1 n0 f0) =
  (some [.v (ro kA n0 f0)]):=by kernel_rfl
theorem e409:evalF (C75 u) u A27 [.agg [(.s w0),(.s w1),(vi i0),(vi i1),(vi i2),(.s w2)],.v (ro kA n0 f0)]=ob (F409 u w0 w1 i0 i1 i2 w2 n0 f0) fun t=>some [.v (ro kA t.1 t.2)]:=Eq.trans (b:=(loopN (eB A27v3 (C75 u) u) N409v1 u (s409v2 n0 f0 i0 i1 i2 w0 w1 w2) (kBlk 0 (kSeq (C75 u) u (rl 6 47 []) A27v4 (finish A27))))) (by kernel_rfl) (by
 simp only [F409,ob_bif,ob_ob,ob_none,ob_some,nl409v1,t409v1,g409v2])
def O409:Ora:=mkO (qc (ag (tc cS (tc cS (tc ci (tc ci (tc ci (t1 cS))))))) (q1 (av (cL kA)))) (fun x=>F409 u x.1.1 x.1.2.1 x.1.2.2.1 x.1.2.2.2.1 x.1.2.2.2.2.1 x.1.2.2.2.2.2 x.2.1 x.2.2) fun t=>[.v (ro kA t.1 t.2)]
theorem d409:DO (O409 u) (C75 u) 27 A27:=dO u (fun x=>by exact e409 u x.2.1 x.2.2 x.1.2.2.1 x.1.2.2.2.1 x.1.2.2.2.2.1 x.1.1 x.1.2.1 x.1.2.2.2.2.2)
def C76:Oracle:=(C75 u).add 27 (fun _=>true) (O409 u)
def B40:An tT Tryz.f40 [.k (4 :: 5 :: (rl 7 45 [])),.h [],.k (0 :: (rl 5 48 [])),.k (rl 7 5 []),.k (0 :: 1 :: (rl 4 49 [])),.k (5 :: (rl 14 38 [])),.k (rl 19 5 []),.k (0 :: 1 :: (rl 3 50 []))]:=by
 apply Subtype.mk;cbv<;>exact rfl
def A40:AF:=B40.1
def A40v5:AC:=sA A40.body [1,1,1]
def A40v4:AC:=sA A40.body [1,1,0,1,0,0]
def N21v1:St→Option St:=nN 3 (0 :: (rl 5 48 []))
def s21v0:St:=⟨(.u :: .x (.ptr 0 0) :: .x (.ptr 1 0) :: .x (.ptr 2 0) :: vxi i0 :: (us 48 [])),[.box [(.c (ro kP n0 f0)),(.c (ro kF n1 f1))],.box [(vci 0),(vci 0),(vci 0),(vci 0)],.box [(vci i1),(vci i2),(vci i3),(vci i4)]]⟩
def s21v1:St:=⟨(.u :: .u :: .x (.ptr 1 0) :: .x (.ptr 2 0) :: (us 49 [])),[.box [(.c (ro kP n0 f0)),(.c (ro kF n1 f1))],.box [(vci 0),(vci 0),(vci 0),(vci 0)],.box [(vci i0),(vci i1),(vci i2),(vci i3)]]⟩
def L21v1 {ρ:Type} (u:Nat) (x0:Nat) (x1:FF) (x2:Nat) (x3:FF):Nat→Int→Int→Int→Int→Int→(Int→Int→Int→Int→Option ρ)→Option ρ
 | 0,_,_,_,_,_,_=>none
 | m+1,x4,x5,x6,x7,x8,k0 =>
  (bif (decide (x4<(Int.ofNat x0))) then (bif (inb x4 x0) then (bif (x4==0) then (L21v1 u x0 x1 x2 x3 m (w64 (x4+1)) (if (x1 x4.toNat 0).int<(x1 x4.toNat 0).int then (x1 x4.toNat 0).int else (x1 x4.toNat 0).int) (if (x1 x4.toNat 1).int<(x1 x4.toNat 1).int then (x1 x4.toNat 1).int else (x1 x4.toNat 1).int) (if (x1 x4.toNat 0).int>(x1 x4.toNat 0).int then (x1 x4.toNat 0).int else (x1 x4.toNat 0).int) (if (x1 x4.toNat 1).int>(x1 x4.toNat 1).int then (x1 x4.toNat 1).int else (x1 x4.toNat 1).int) k0) else (L21v1 u x0 x1 x2 x3 m (w64 (x4+1)) (if (x1 x4.toNat 0).int<x5 then (x1 x4.toNat 0).int else x5) (if (x1 x4.toNat 1).int<x6 then (x1 x4.toNat 1).int else x6) (if (x1 x4.toNat 0).int>x7 then (x1 x4.toNat 0).int else x7) (if (x1 x4.toNat 1).int>x8 then (x1 x4.toNat 1).int else x8) k0)) else none) else (k0 x5 x6 x7 x8))
theorem nl21v1:∀ (m:Nat) (x0 x1 x2 x3 x4:Int) (k0:Int→Int→Int→Int→Option ρ),ob (L21v1 u n0 f0 n1 f1 m x0 x1 x2 x3 x4 k0) ng=L21v1 u n0 f0 n1 f1 m x0 x1 x2 x3 x4 (fun x5 x6 x7 x8=>ob (k0 x5 x6 x7 x8) ng)
 | 0,_,_,_,_,_,_=>rfl
 | m+1,x0,x1,x2,x3,x4,k0=>by
  simp only [L21v1,ob_bif,ob_ob,ob_none,nl21v1 m]
theorem q21v1:∀ (m:Nat) (x0 x1 x2 x3 x4:Int),
  loopH (eB A40v4 (C76 u) u) N21v1 m (s21v0 n0 n1 f0 f1 x0 x1 x2 x3 x4) k=L21v1 u n0 f0 n1 f1 m x0 x1 x2 x3 x4 (fun x5 x6 x7 x8=>k (.exit 0) (s21v1 n0 n1 f0 f1 x5 x6 x7 x8))
 | 0,_,_,_,_,_=>rfl
 | m+1,x0,x1,x2,x3,x4=>by
  simp only [L21v1,← q21v1 m]
  kernel_rfl
def F21 (x0:Nat) (x1:FF) (x2:Nat) (x3:FF):Option (Int × Int × Int × Int) :=
 (L21v1 u x0 x1 x2 x3 u 0 0 0 0 0
  (fun x4 x5 x6 x7=>(some (x4,x5,x6,x7))))
def s21v2:St:=⟨[.agg [(.c (ro kP n0 f0)),(.c (ro kF n1 f1))],.x (.ptr 0 0),.x (.ptr 1 0),.x (.ptr 2 0),vxi 0,uu,.agg [(vci 0),(vci 0),(vci 0),(vci 0)],uu,uu,uu,uu,uu,uu,uu,uu,uu,uu,uu,uu,uu,uu,uu,uu,uu,uu,uu,uu,uu,uu,uu,uu,uu,uu,uu,uu,uu,uu,uu,uu,uu,uu,uu,uu,uu,uu,uu,uu,uu,uu,uu,uu,uu,uu],[.box [(.c (ro kP n0 f0)),(.c (ro kF n1 f1))],.box [(vci 0),(vci 0),(vci 0),(vci 0)],.box [(vci 0),(vci 0),(vci 0),(vci 0)]]⟩
theorem t21v1 :
  loopN (eB A40v4 (C76 u) u) N21v1 u (s21v2 n0 n1 f0 f1) k =
  L21v1 u n0 f0 n1 f1 u 0 0 0 0 0 (fun x0 x1 x2 x3=>k (.exit 0) (s21v1 n0 n1 f0 f1 x0 x1 x2 x3)) :=
 Eq.trans (loopN_at (by kernel_rfl)) (q21v1 ..)
theorem g21v2 :
  (kBlk 0 (kSeq (C76 u) u (4 :: 5 :: (rl 7 45 [])) A40v5 (finish A40))) (.exit 0) (s21v1 n0 n1 f0 f1 i0 i1 i2 i3) =
  (some [.agg [(vi i0),(vi i1),(vi i2),(vi i3)]]):=by kernel_rfl
theorem e21:evalF (C76 u) u A40 [.agg [(ro kP n0 f0),(ro kF n1 f1)]]=ob (F21 u n0 f0 n1 f1) fun t=>some [.agg [(vi t.1),(vi t.2.1),(vi t.2.2.1),(vi t.2.2.2)]]:=Eq.trans (b:=(loopN (eB A40v4 (C76 u) u) N21v1 u (s21v2 n0 n1 f0 f1) (kBlk 0 (kSeq (C76 u) u (4 :: 5 :: (rl 7 45 [])) A40v5 (finish A40))))) (by kernel_rfl) (by
 simp only [F21,ob_bif,ob_ob,ob_none,ob_some,nl21v1,t21v1,g21v2])
def O21:Ora:=mkO (q1 (ag (tc (cL kP) (t1 (cL kF))))) (fun x=>F21 u x.1.1 x.1.2 x.2.1 x.2.2) fun t=>[.agg [(vi t.1),(vi t.2.1),(vi t.2.2.1),(vi t.2.2.2)]]
theorem d21:DO (O21 u) (C76 u) 40 A40:=dO u (fun x=>by exact e21 u x.1.1 x.2.1 x.1.2 x.2.2)
def C77:Oracle:=(C76 u).add 40 (fun _=>true) (O21 u)
def B39:An tT Tryz.f39 [.g [0],.k (rl 0 4 (rl 5 24 []))]:=by
 apply Subtype.mk;cbv<;>exact rfl
def A39:AF:=B39.1
def F404 (u:Nat) (x0 x1 x2:Int):Option (Bool) :=
 (bif ((decide (x0≥(w64 (0-x2))))==true) then (bif ((decide (x0≤x2))==true) then (bif ((decide (x1≥(w64 (0-x2))))==true) then (some (decide (x1≤x2))) else (some false)) else (some false)) else (some false))
theorem e404:evalF (C77 u) u A39 [.agg [(vi i0),(vi i1)],.v (vi i2)]=ob (F404 u i0 i1 i2) fun t=>some [.v (.b t)]:=by
 simp only [F404,ob_bif,ob_ob,ob_none,ob_some]
 kernel_rfl
def O404:Ora:=mkO (qc (ag (tc ci (t1 ci))) (q1 (av ci))) (fun x=>F404 u x.1.1 x.1.2 x.2) fun t=>[.v (.b t)]
theorem d404:DO (O404 u) (C77 u) 39 A39:=dO u (fun x=>by exact e404 u x.1.1 x.1.2 x.2)
def C78:Oracle:=(C77 u).add 39 (fun _=>true) (O404 u)
def B29:An tT Tryz.f29 [.k (4 :: 5 :: (rl 10 10 [])),.g [0,1],.k (rl 0 4 (rl 6 45 [])),.k (4 :: 5 :: (rl 20 17 [])),.g [0,1],.k (rl 0 4 (rl 6 45 [])),.g [0,1],.k (rl 0 4 (rl 6 45 []))]:=by
 apply Subtype.mk;cbv<;>exact rfl
def A29:AF:=B29.1
def F405 (x0:Nat→CV) (x1:Int):Option (Int × Int) :=
 (ob (F21 u (x0 6).len (x0 6).el (x0 7).len (x0 7).el) fun x2=>(ob (F404 u x2.1 x2.2.1 1099511627776) fun x3=>(bif ((!x3)==false) then (ob (F404 u x2.2.2.1 x2.2.2.2 1099511627776) fun x4=>(bif (!x4) then (some (0,0)) else (bif ((Int.tmod x1 2) != 0) then (some ((w64 (x2.2.2.2-x2.2.1)),(w64 (x2.2.2.1-x2.1)))) else (some ((w64 (x2.2.2.1-x2.1)),(w64 (x2.2.2.2-x2.2.1))))))) else (some (0,0)))))
theorem e405:evalF (C78 u) u A29 [.agg (pj kR0 g0),.v (vi i0)]=ob (F405 u g0 i0) fun t=>some [.v (vi t.1),.v (vi t.2)]:=by
 simp only [F405,ob_bif,ob_ob,ob_none,ob_some]
 kernel_rfl
def O405:Ora:=mkO (qc (ar kR0) (q1 (av ci))) (fun x=>F405 u x.1 x.2) fun t=>[.v (vi t.1),.v (vi t.2)]
theorem d405:DO (O405 u) (C78 u) 29 A29:=dO u (fun x=>by exact e405 u x.2 x.1)
def C79:Oracle:=(C78 u).add 29 (fun _=>true) (O405 u)
def B61:An tT Tryz.f61 [.k (0 :: 1 :: (rl 3 6 []))]:=by
 apply Subtype.mk;cbv<;>exact rfl
def A61:AF:=B61.1
def F44 (u:Nat) (x0:Nat) (x1:FF) (x2:Nat) (x3:FF):Option (Nat × FF) :=
 (bif (Nat.ble (1+x2) 1073741824) then (some ((1+x2),(joinF 1 (rowsF 1 [(.ro false (.pr (.int .i64) (.pr (.int .i64) .nil)) x0 x1)]) x3))) else none)
theorem e44:evalF (C79 u) u A61 [.agg [(ro kP n0 f0),(ro kF n1 f1)]]=ob (F44 u n0 f0 n1 f1) fun t=>some [.v (ro kF t.1 t.2)]:=by
 simp only [F44,ob_bif,ob_ob,ob_none,ob_some]
 kernel_rfl
def O44:Ora:=mkO (q1 (ag (tc (cL kP) (t1 (cL kF))))) (fun x=>F44 u x.1.1 x.1.2 x.2.1 x.2.2) fun t=>[.v (ro kF t.1 t.2)]
theorem d44:DO (O44 u) (C79 u) 61 A61:=dO u (fun x=>by exact e44 u x.1.1 x.2.1 x.1.2 x.2.2)
def C80:Oracle:=(C79 u).add 61 (fun _=>true) (O44 u)
def B62:An tT Tryz.f62 [.k (0 :: 1 :: (rl 3 18 []))]:=by
 apply Subtype.mk;cbv<;>exact rfl
def A62:AF:=B62.1
def F53 (u:Nat) (x0 x1:Int):Option (Bool) :=
 (bif ((decide (x0<(-1099511627776)))==false) then (bif ((decide (x0>1099511627776))==false) then (bif ((decide (x1<(-1099511627776)))==false) then (some (decide (x1>1099511627776))) else (some true)) else (some true)) else (some true))
theorem e53:evalF (C80 u) u A62 [.agg [(vi i0),(vi i1)]]=ob (F53 u i0 i1) fun t=>some [.v (.b t)]:=by
 simp only [F53,ob_bif,ob_ob,ob_none,ob_some]
 kernel_rfl
def O53:Ora:=mkO (q1 (ag (tc ci (t1 ci)))) (fun x=>F53 u x.1 x.2) fun t=>[.v (.b t)]
theorem d53:DO (O53 u) (C80 u) 62 A62:=dO u (fun x=>by exact e53 u x.1 x.2)
def C81:Oracle:=(C80 u).add 62 (fun _=>true) (O53 u)
def B90:An tT Tryz.f90 [.k (rl 6 6 []),.k (5 :: (rl 12 12 [])),.h [],.k (0 :: 1 :: (rl 6 31 [])),.k (rl 12 4 []),.k (0 :: 1 :: (rl 5 32 [])),.k (rl 0 4 (rl 5 32 []))]:=by
 apply Subtype.mk;cbv<;>exact rfl
def A90:AF:=B90.1
def A90v4:AC:=sA A90.body [1,1]
def A90v3:AC:=sA A90v4 [1]
def A90v2:AC:=sA A90v4 [0,1,0,0]
def N32v1:St→Option St:=nN 3 (0 :: 1 :: (rl 6 31 []))
def s32v0:St:=⟨(.u :: .u :: .x (.ptr 0 0) :: .x (.ptr 1 0) :: .x (.ptr 2 0) :: vxi i0 :: (us 31 [])),[.box [(vci i1),(vci i2)],.box [(vcs w0),(vci i3),(vci i4),(vci i5),(vcb b0)],.box [(vci 0),(vci 0)]]⟩
def s32v1:St:=⟨(.u :: .u :: .x (.ptr 0 0) :: .x (.ptr 1 0) :: .x (.ptr 2 0) :: (us 32 [])),[.box [(vci i0),(vci i1)],.box [(vcs w0),(vci i2),(vci i3),(vci i4),(vcb b0)],.box [(vci 0),(vci 0)]]⟩
def L32v1 {ρ:Type} (u:Nat) (x0:ByteArray) (x1 x2 x3:Int) (x4:Bool):Nat→Int→Int→Int→(Int→Int→Option ρ)→Option ρ
 | 0,_,_,_,_=>none
 | m+1,x5,x6,x7,k0 =>
  (bif (decide (x5<x3)) then (L32v1 u x0 x1 x2 x3 x4 m (w64 (x5+1)) (w64 (0-x7)) x6 k0) else (k0 x6 x7))
theorem nl32v1:∀ (m:Nat) (x0 x1 x2:Int) (k0:Int→Int→Option ρ),ob (L32v1 u w0 i0 i1 i2 b0 m x0 x1 x2 k0) ng=L32v1 u w0 i0 i1 i2 b0 m x0 x1 x2 (fun x3 x4=>ob (k0 x3 x4) ng)
 | 0,_,_,_,_=>rfl
 | m+1,x0,x1,x2,k0=>by
  simp only [L32v1,ob_bif,ob_ob,ob_none,nl32v1 m]
theorem q32v1:∀ (m:Nat) (x0 x1 x2:Int),
  loopH (eB A90v2 (C81 u) u) N32v1 m (s32v0 x0 x1 x2 i0 i1 i2 b0 w0) k=L32v1 u w0 i0 i1 i2 b0 m x0 x1 x2 (fun x3 x4=>k (.exit 0) (s32v1 x3 x4 i0 i1 i2 b0 w0))
 | 0,_,_,_=>rfl
 | m+1,x0,x1,x2=>by
  simp only [L32v1,← q32v1 m]
  kernel_rfl
def F32 (x0 x1:Int) (x2:ByteArray) (x3 x4 x5:Int) (x6:Bool):Option (Int × Int) :=
 (bif x6 then (L32v1 u x2 x3 x4 x5 x6 u 0 (w64 (0-x0)) x1
  (fun x7 x8=>(some ((w64 (x7+x3)),(w64 (x8+x4)))))) else (L32v1 u x2 x3 x4 x5 x6 u 0 x0 x1
  (fun x9 xA=>(some ((w64 (x9+x3)),(w64 (xA+x4)))))))
def s32v2:St:=⟨(.agg [(vci i0),(vci i1)] :: .agg [(vcs w0),(vci i2),(vci i3),(vci i4),(vcb b0)] :: .x (.ptr 0 0) :: .x (.ptr 1 0) :: .x (.ptr 2 0) :: vxi 0 :: (us 6 [uu,uu,uu,uu,uu,uu,uu,uu,uu,uu,uu,uu,uu,uu,uu,uu,uu,uu,uu,uu,uu,uu,uu,uu,uu])),[.box [(vci (w64 (0-i0))),(vci i1)],.box [(vcs w0),(vci i2),(vci i3),(vci i4),(vcb b0)],.box [(vci 0),(vci 0)]]⟩
def s32v3:St:=⟨(.agg [(vci i0),(vci i1)] :: .agg [(vcs w0),(vci i2),(vci i3),(vci i4),(vcb b0)] :: .x (.ptr 0 0) :: .x (.ptr 1 0) :: .x (.ptr 2 0) :: vxi 0 :: (us 6 [uu,uu,uu,uu,uu,uu,uu,uu,uu,uu,uu,uu,uu,uu,uu,uu,uu,uu,uu,uu,uu,uu,uu,uu,uu])),[.box [(vci i0),(vci i1)],.box [(vcs w0),(vci i2),(vci i3),(vci i4),(vcb b0)],.box [(vci 0),(vci 0)]]⟩
theorem t32v1 :
  loopN (eB A90v2 (C81 u) u) N32v1 u (s32v2 i0 i1 i2 i3 i4 b0 w0) k =
  L32v1 u w0 i2 i3 i4 b0 u 0 (w64 (0-i0)) i1 (fun x0 x1=>k (.exit 0) (s32v1 x0 x1 i2 i3 i4 b0 w0)) :=
 Eq.trans (loopN_at (by kernel_rfl)) (q32v1 ..)
theorem g32v2 :
  (kBlk 0 (kSeq (C81 u) u (5 :: (rl 12 12 [])) A90v3 (finish A90))) (.exit 0) (s32v1 i0 i1 i2 i3 i4 b0 w0) =
  (some [.agg [(vi (w64 (i0+i2))),(vi (w64 (i1+i3)))]]):=by kernel_rfl
theorem t32v3 :
  loopN (eB A90v2 (C81 u) u) N32v1 u (s32v3 i0 i1 i2 i3 i4 b0 w0) k =
  L32v1 u w0 i2 i3 i4 b0 u 0 i0 i1 (fun x0 x1=>k (.exit 0) (s32v1 x0 x1 i2 i3 i4 b0 w0)) :=
 Eq.trans (loopN_at (by kernel_rfl)) (q32v1 ..)
theorem g32v4 :
  (kBlk 0 (kSeq (C81 u) u (5 :: (rl 12 12 [])) A90v3 (finish A90))) (.exit 0) (s32v1 i0 i1 i2 i3 i4 b0 w0) =
  (some [.agg [(vi (w64 (i0+i2))),(vi (w64 (i1+i3)))]]):=by kernel_rfl
theorem e32:evalF (C81 u) u A90 [.agg [(vi i0),(vi i1)],.agg [(.s w0),(vi i2),(vi i3),(vi i4),(.b b0)]]=ob (F32 u i0 i1 w0 i2 i3 i4 b0) fun t=>some [.agg [(vi t.1),(vi t.2)]]:=Eq.trans (b:=(bif b0 then (loopN (eB A90v2 (C81 u) u) N32v1 u (s32v2 i0 i1 i2 i3 i4 b0 w0) (kBlk 0 (kSeq (C81 u) u (5 :: (rl 12 12 [])) A90v3 (finish A90)))) else (loopN (eB A90v2 (C81 u) u) N32v1 u (s32v3 i0 i1 i2 i3 i4 b0 w0) (kBlk 0 (kSeq (C81 u) u (5 :: (rl 12 12 [])) A90v3 (finish A90)))))) (by kernel_rfl) (by
 simp only [F32,ob_bif,ob_ob,ob_none,ob_some,nl32v1,t32v1,g32v2,t32v3,g32v4])
def O32:Ora:=mkO (qc (ag (tc ci (t1 ci))) (q1 (ag (tc cS (tc ci (tc ci (tc ci (t1 cB)))))))) (fun x=>F32 u x.1.1 x.1.2 x.2.1 x.2.2.1 x.2.2.2.1 x.2.2.2.2.1 x.2.2.2.2.2) fun t=>[.agg [(vi t.1),(vi t.2)]]
theorem d32:DO (O32 u) (C81 u) 90 A90:=dO u (fun x=>by exact e32 u x.1.1 x.1.2 x.2.2.1 x.2.2.2.1 x.2.2.2.2.1 x.2.2.2.2.2 x.2.1)
def C82:Oracle:=(C81 u).add 90 (fun _=>true) (O32 u)
def B63:An tT Tryz.f63 [.k (rl 6 25 []),.h [.slot 5 kP],.k (1 :: 2 :: 4 :: (rl 7 25 [])),.k (rl 8 4 []),.k (rl 0 5 (rl 6 26 [])),.k (7 :: (rl 14 17 [])),.k (rl 15 7 []),.k (rl 0 4 (rl 5 27 []))]:=by
 apply Subtype.mk;cbv<;>exact rfl
def A63:AF:=B63.1
def A63v5:AC:=sA A63.body [1,1,1]
def A63v4:AC:=sA A63.body [1,1,0,1,0,0]
def N54v1:St→Option St:=nN 2 (1 :: 2 :: 4 :: (rl 7 25 []))
def s54v0:St:=⟨(.x (.c (ro kP n0 f0)) :: .u :: .u :: .x (.ptr 0 0) :: .u :: .x (.own 1 0 n1) :: vxi i0 :: (us 25 [])),[.box [(vcs w0),(vci i1),(vci i2),(vci i3),(vcb b0)],.arr kP n1 f1]⟩
def s54v1:St:=⟨(us 5 (.x (.own 1 0 n0) :: (us 26 []))),[.box [(vcs w0),(vci i0),(vci i1),(vci i2),(vcb b0)],.arr kP n0 f0]⟩
def L54v1 {ρ:Type} (u:Nat) (x0:Nat) (x1:FF) (x2:ByteArray) (x3 x4 x5:Int) (x6:Bool):Nat→Nat→Int→FF→(Nat→FF→Option ρ)→Option ρ
 | 0,_,_,_,_=>none
 | m+1,x7,x8,x9,k0 =>
  (bif (decide (x8<(Int.ofNat x0))) then (bif x6 then (bif (inb (w64 ((w64 ((Int.ofNat x0)-1))-x8)) x0) then (ob (F32 u (CV.int (x1 (Int.toNat (w64 ((w64 ((Int.ofNat x0)-1))-x8))) 0)) (CV.int (x1 (Int.toNat (w64 ((w64 ((Int.ofNat x0)-1))-x8))) 1)) x2 x3 x4 x5 x6) fun xA=>(bif (Nat.ble (x7+1) 1073741824) then (L54v1 u x0 x1 x2 x3 x4 x5 x6 m (x7+1) (w64 (x8+1)) (joinF x7 x9 (rowsF 2 [(.i .i64 xA.1),(.i .i64 xA.2)])) k0) else none)) else none) else (bif (inb x8 x0) then (ob (F32 u (x1 x8.toNat 0).int (x1 x8.toNat 1).int x2 x3 x4 x5 x6) fun xB=>(bif (Nat.ble (x7+1) 1073741824) then (L54v1 u x0 x1 x2 x3 x4 x5 x6 m (x7+1) (w64 (x8+1)) (joinF x7 x9 (rowsF 2 [(.i .i64 xB.1),(.i .i64 xB.2)])) k0) else none)) else none)) else (k0 x7 x9))
theorem nl54v1:∀ (m:Nat) (x0:Nat) (x1:Int) (x2:FF) (k0:Nat→FF→Option ρ),ob (L54v1 u n0 f0 w0 i0 i1 i2 b0 m x0 x1 x2 k0) ng=L54v1 u n0 f0 w0 i0 i1 i2 b0 m x0 x1 x2 (fun x3 x4=>ob (k0 x3 x4) ng)
 | 0,_,_,_,_=>rfl
 | m+1,x0,x1,x2,k0=>by
  simp only [L54v1,ob_bif,ob_ob,ob_none,nl54v1 m]
theorem q54v1:∀ (m:Nat) (x0:Nat) (x1:Int) (x2:FF),
  loopH (eB A63v4 (C82 u) u) N54v1 m (s54v0 n0 x0 f0 x2 x1 i0 i1 i2 b0 w0) k=L54v1 u n0 f0 w0 i0 i1 i2 b0 m x0 x1 x2 (fun x3 x4=>k (.exit 0) (s54v1 x3 x4 i0 i1 i2 b0 w0))
 | 0,_,_,_=>rfl
 | m+1,x0,x1,x2=>by
  simp only [L54v1,← q54v1 m]
  kernel_rfl
def F54 (x0:Nat) (x1:FF) (x2:ByteArray) (x3 x4 x5:Int) (x6:Bool):Option (Nat × FF) :=
 (L54v1 u x0 x1 x2 x3 x4 x5 x6 u 0 0 (fun _ _=>.any)
  (fun x7 x8=>(some (x7,x8))))
def s54v2:St:=⟨[.x (.c (ro kP n0 f0)),.agg [(vcs w0),(vci i0),(vci i1),(vci i2),(vcb b0)],uu,.x (.ptr 0 0),.x (vcn),.x (.own 1 0 0),vxi 0,uu,uu,uu,uu,uu,uu,uu,uu,uu,uu,uu,uu,uu,uu,uu,uu,uu,uu,uu,uu,uu,uu,uu,uu,uu],[.box [(vcs w0),(vci i0),(vci i1),(vci i2),(vcb b0)],.arr kP 0 nilF]⟩
theorem t54v1 :
  loopN (eB A63v4 (C82 u) u) N54v1 u (s54v2 n0 f0 i0 i1 i2 b0 w0) k =
  L54v1 u n0 f0 w0 i0 i1 i2 b0 u 0 0 nilF (fun x0 x1=>k (.exit 0) (s54v1 x0 x1 i0 i1 i2 b0 w0)) :=
 Eq.trans (loopN_at (by kernel_rfl)) (q54v1 ..)
theorem g54v2 :
  (kBlk 0 (kSeq (C82 u) u (rl 6 25 []) A63v5 (finish A63))) (.exit 0) (s54v1 n0 f0 i0 i1 i2 b0 w0) =
  (some [.v (ro kP n0 f0)]):=by kernel_rfl
theorem e54:evalF (C82 u) u A63 [.v (ro kP n0 f0),.agg [(.s w0),(vi i0),(vi i1),(vi i2),(.b b0)]]=ob (F54 u n0 f0 w0 i0 i1 i2 b0) fun t=>some [.v (ro kP t.1 t.2)]:=Eq.trans (b:=(loopN (eB A63v4 (C82 u) u) N54v1 u (s54v2 n0 f0 i0 i1 i2 b0 w0) (kBlk 0 (kSeq (C82 u) u (rl 6 25 []) A63v5 (finish A63))))) (by kernel_rfl) (by
 simp only [F54,ob_bif,ob_ob,ob_none,ob_some,nl54v1,t54v1,g54v2])
def O54:Ora:=mkO (qc (av (cL kP)) (q1 (ag (tc cS (tc ci (tc ci (tc ci (t1 cB)))))))) (fun x=>F54 u x.1.1 x.1.2 x.2.1 x.2.2.1 x.2.2.2.1 x.2.2.2.2.1 x.2.2.2.2.2) fun t=>[.v (ro kP t.1 t.2)]
theorem d54:DO (O54 u) (C82 u) 63 A63:=dO u (fun x=>by exact e54 u x.1.1 x.1.2 x.2.2.1 x.2.2.2.1 x.2.2.2.2.1 x.2.2.2.2.2 x.2.1)
def C83:Oracle:=(C82 u).add 63 (fun _=>true) (O54 u)
def B41:An tT Tryz.f41 [.k (7 :: 8 :: (rl 26 26 [])),.h [],.k (0 :: 1 :: (rl 8 71 [])),.k (rl 26 4 []),.k (0 :: 1 :: 5 :: (rl 7 72 [])),.k (8 :: (rl 32 20 [])),.h [],.k (0 :: 1 :: (rl 9 70 [])),.k (rl 32 7 []),.k (0 :: 1 :: (rl 8 71 [])),.k [52,53],.k (rl 0 4 (rl 5 74 [])),.k (10 :: (rl 59 19 [])),.h [.cell 9 1 kF],.k (0 :: 1 :: (rl 5 4 (rl 11 68 []))),.k (rl 59 5 []),.k (rl 0 4 (rl 5 4 (rl 10 69 []))),.k (rl 0 4 (rl 5 74 []))]:=by
 apply Subtype.mk;cbv<;>exact rfl
def A41:AF:=B41.1
def A41v10:AC:=sA A41.body [1,1,1,1]
def A41v9:AC:=sA A41v10 [1]
def A41v8:AC:=sA A41v9 [1,1]
def A41v7:AC:=sA A41v9 [1,0,1,0,0]
def A41v5:AC:=sA A41.body [1,1,1,0,1,0,0]
def A41v4:AC:=sA A41v5 [1]
def A41v3:AC:=sA A41v4 [1]
def A41v2:AC:=sA A41v4 [0,0,1,0,0]
def N26v2:St→Option St:=nN 3 (0 :: 1 :: (rl 9 70 []))
def s26v0:St:=⟨(.u :: .u :: .x (.ptr 0 0) :: .x (.ptr 1 0) :: .x (.ptr 2 0) :: .x (.c (ro kF n0 f0)) :: vxb b0 :: vxi i0 :: vxi i1 :: (us 70 [])),[.box [(.c (ro kP n1 f1)),(.c (ro kF n2 f2))],.box [(vcs w0),(vci i2),(vci i3),(vci i4),(vcb b1)],.box [(vcn),(vcn)]]⟩
def s26v1:St:=⟨(.u :: .u :: .x (.ptr 0 0) :: .x (.ptr 1 0) :: .x (.ptr 2 0) :: .x (.c (ro kF n0 f0)) :: vxb b0 :: vxi i0 :: (us 71 [])),[.box [(.c (ro kP n1 f1)),(.c (ro kF n2 f2))],.box [(vcs w0),(vci i1),(vci i2),(vci i3),(vcb b1)],.box [(vcn),(vcn)]]⟩
def L26v2 {ρ:Type} (u:Nat) (x0:Nat) (x1:FF) (x2:Int) (x3:Nat) (x4:FF) (x5:Nat) (x6:FF) (x7:ByteArray) (x8 x9 xA:Int) (xB:Bool):Nat→Bool→Int→(Bool→Option ρ)→Option ρ
 | 0,_,_,_=>none
 | m+1,xC,xD,k0 =>
  (bif (inb x2 x0) then (bif (decide (xD<(Int.ofNat (x1 x2.toNat 0).len))) then (bif (xC==false) then (bif (inb x2 x0) then (bif (inb xD (x1 x2.toNat 0).len) then (ob (F53 u ((x1 x2.toNat 0).el xD.toNat 0).int ((x1 x2.toNat 0).el xD.toNat 1).int) fun xE=>(L26v2 u x0 x1 x2 x3 x4 x5 x6 x7 x8 x9 xA xB m xE (w64 (xD+1)) k0)) else none) else none) else (L26v2 u x0 x1 x2 x3 x4 x5 x6 x7 x8 x9 xA xB m true (w64 (xD+1)) k0)) else (k0 xC)) else none)
theorem nl26v2:∀ (m:Nat) (x0:Bool) (x1:Int) (k0:Bool→Option ρ),ob (L26v2 u n0 f0 i0 n1 f1 n2 f2 w0 i1 i2 i3 b0 m x0 x1 k0) ng=L26v2 u n0 f0 i0 n1 f1 n2 f2 w0 i1 i2 i3 b0 m x0 x1 (fun x2=>ob (k0 x2) ng)
 | 0,_,_,_=>rfl
 | m+1,x0,x1,k0=>by
  simp only [L26v2,ob_bif,ob_ob,ob_none,nl26v2 m]
theorem q26v2:∀ (m:Nat) (x0:Bool) (x1:Int),
  loopH (eB A41v2 (C83 u) u) N26v2 m (s26v0 n0 n1 n2 f0 f1 f2 i0 x1 i1 i2 i3 x0 b0 w0) k=L26v2 u n0 f0 i0 n1 f1 n2 f2 w0 i1 i2 i3 b0 m x0 x1 (fun x2=>k (.exit 2) (s26v1 n0 n1 n2 f0 f1 f2 i0 i1 i2 i3 x2 b0 w0))
 | 0,_,_=>rfl
 | m+1,x0,x1=>by
  simp only [L26v2,← q26v2 m]
  kernel_rfl
def N26v3:St→Option St:=nN 3 (0 :: 1 :: (rl 8 71 []))
def s26v2:St:=⟨(.u :: .u :: .x (.ptr 0 0) :: .x (.ptr 1 0) :: .x (.ptr 2 0) :: .x (.c (ro kF n0 f0)) :: vxb b0 :: vxi i0 :: (us 71 [])),[.box [(.c (ro kP n1 f1)),(.c (ro kF n2 f2))],.box [(vcs w0),(vci i1),(vci i2),(vci i3),(vcb b1)],.box [(vcn),(vcn)]]⟩
def s26v3:St:=⟨(.u :: .u :: .x (.ptr 0 0) :: .x (.ptr 1 0) :: .x (.ptr 2 0) :: .u :: vxb b0 :: (us 72 [])),[.box [(.c (ro kP n0 f0)),(.c (ro kF n1 f1))],.box [(vcs w0),(vci i0),(vci i1),(vci i2),(vcb b1)],.box [(vcn),(vcn)]]⟩
def L26v3 {ρ:Type} (u:Nat) (x0:Nat) (x1:FF) (x2:Nat) (x3:FF) (x4:Nat) (x5:FF) (x6:ByteArray) (x7 x8 x9:Int) (xA:Bool):Nat→Bool→Int→(Bool→Option ρ)→Option ρ
 | 0,_,_,_=>none
 | m+1,xB,xC,k0 =>
  (bif (decide (xC<(Int.ofNat x0))) then (L26v2 u x0 x1 xC x2 x3 x4 x5 x6 x7 x8 x9 xA u xB 0
  (fun xD=>(L26v3 u x0 x1 x2 x3 x4 x5 x6 x7 x8 x9 xA m xD (w64 (xC+1)) k0))) else (k0 xB))
theorem nl26v3:∀ (m:Nat) (x0:Bool) (x1:Int) (k0:Bool→Option ρ),ob (L26v3 u n0 f0 n1 f1 n2 f2 w0 i0 i1 i2 b0 m x0 x1 k0) ng=L26v3 u n0 f0 n1 f1 n2 f2 w0 i0 i1 i2 b0 m x0 x1 (fun x2=>ob (k0 x2) ng)
 | 0,_,_,_=>rfl
 | m+1,x0,x1,k0=>by
  simp only [L26v3,ob_bif,ob_ob,ob_none,nl26v3 m,nl26v2]
def s26v4:St:=⟨(.u :: .u :: .x (.ptr 0 0) :: .x (.ptr 1 0) :: .x (.ptr 2 0) :: .x (.c (ro kF n0 f0)) :: vxb b0 :: vxi i0 :: vxi 0 :: (us 70 [])),[.box [(.c (ro kP n1 f1)),(.c (ro kF n2 f2))],.box [(vcs w0),(vci i1),(vci i2),(vci i3),(vcb b1)],.box [(vcn),(vcn)]]⟩
theorem r26v3 :
  loopH (eB A41v5 (C83 u) u) N26v3 (m+1) (s26v2 n0 n1 n2 f0 f1 f2 i3 i0 i1 i2 b1 b0 w0) k =
  (bif (decide (i3<(Int.ofNat n0))) then (loopN (eB A41v2 (C83 u) u) N26v2 u (s26v4 n0 n1 n2 f0 f1 f2 i3 i0 i1 i2 b1 b0 w0) (kBlk 2 (kBlk 1 (kSeq (C83 u) u (8 :: (rl 32 20 [])) A41v3 (kLoop (eB A41v5 (C83 u) u) N26v3 m k))))) else (k (.exit 0) (s26v3 n1 n2 f1 f2 i0 i1 i2 b1 b0 w0))):=by kernel_rfl
theorem t26v1 :
  loopN (eB A41v2 (C83 u) u) N26v2 u (s26v4 n0 n1 n2 f0 f1 f2 i0 i1 i2 i3 b0 b1 w0) k =
  L26v2 u n0 f0 i0 n1 f1 n2 f2 w0 i1 i2 i3 b1 u b0 0 (fun x0=>k (.exit 2) (s26v1 n0 n1 n2 f0 f1 f2 i0 i1 i2 i3 x0 b1 w0)) :=
 Eq.trans (loopN_at (by kernel_rfl)) (q26v2 ..)
theorem g26v2 :
  (kBlk 2 (kBlk 1 (kSeq (C83 u) u (8 :: (rl 32 20 [])) A41v3 (kLoop (eB A41v5 (C83 u) u) N26v3 m k)))) (.exit 2) (s26v1 n0 n1 n2 f0 f1 f2 i0 i1 i2 i3 b0 b1 w0) =
  (loopH (eB A41v5 (C83 u) u) N26v3 m (s26v2 n0 n1 n2 f0 f1 f2 (w64 (i0+1)) i1 i2 i3 b0 b1 w0) k):=by kernel_rfl
theorem q26v3:∀ (m:Nat) (x0:Bool) (x1:Int),
  loopH (eB A41v5 (C83 u) u) N26v3 m (s26v2 n0 n1 n2 f0 f1 f2 x1 i0 i1 i2 x0 b0 w0) k=L26v3 u n0 f0 n1 f1 n2 f2 w0 i0 i1 i2 b0 m x0 x1 (fun x2=>k (.exit 0) (s26v3 n1 n2 f1 f2 i0 i1 i2 x2 b0 w0))
 | 0,_,_=>rfl
 | m+1,x0,x1=>by
  rw [r26v3]
  simp only [L26v3,q26v3 m,t26v1,g26v2]
def N26v4:St→Option St:=nN 5 (0 :: 1 :: (rl 5 4 (rl 11 68 [])))
def s26v5:St:=⟨(.u :: .u :: .x (.ptr 0 0) :: .x (.ptr 1 0) :: .x (.ptr 2 0) :: (us 4 (.x (.ptr 3 0) :: vxi i0 :: (us 68 [])))),[.box [(.c (ro kP n0 f0)),(.c (ro kF n1 f1))],.box [(vcs w0),(vci i1),(vci i2),(vci i3),(vcb b0)],.box [(vcn),(vcn)],.box [(.c (ro kP n2 f2)),(.own 4 0 n3)],.arr kF n3 f3]⟩
def s26v6:St:=⟨(us 4 (.x (.ptr 2 0) :: (us 4 (.x (.ptr 3 0) :: (us 69 []))))),[.box [(.c (ro kP n0 f0)),(.c (ro kF n1 f1))],.box [(vcs w0),(vci i0),(vci i1),(vci i2),(vcb b0)],.box [(vcn),(vcn)],.box [(.c (ro kP n2 f2)),(.own 4 0 n3)],.arr kF n3 f3]⟩
def L26v4 {ρ:Type} (u:Nat) (x0:Nat) (x1:FF) (x2:Nat) (x3:FF) (x4:ByteArray) (x5 x6 x7:Int) (x8:Bool) (x9:Nat) (xA:FF):Nat→Int→Nat→FF→(Nat→FF→Option ρ)→Option ρ
 | 0,_,_,_,_=>none
 | m+1,xB,xC,xD,k0 =>
  (bif (decide (xB<(Int.ofNat x2))) then (bif (inb xB x2) then (ob (F54 u (x3 xB.toNat 0).len (x3 xB.toNat 0).el x4 x5 x6 x7 x8) fun xE=>(bif (Nat.ble (xC+1) 1073741824) then (L26v4 u x0 x1 x2 x3 x4 x5 x6 x7 x8 x9 xA m (w64 (xB+1)) (xC+1) (joinF xC xD (rowsF 1 [(.ro false (.pr (.int .i64) (.pr (.int .i64) .nil)) xE.1 xE.2)])) k0) else none)) else none) else (k0 xC xD))
theorem nl26v4:∀ (m:Nat) (x0:Int) (x1:Nat) (x2:FF) (k0:Nat→FF→Option ρ),ob (L26v4 u n0 f0 n1 f1 w0 i0 i1 i2 b0 n2 f2 m x0 x1 x2 k0) ng=L26v4 u n0 f0 n1 f1 w0 i0 i1 i2 b0 n2 f2 m x0 x1 x2 (fun x3 x4=>ob (k0 x3 x4) ng)
 | 0,_,_,_,_=>rfl
 | m+1,x0,x1,x2,k0=>by
  simp only [L26v4,ob_bif,ob_ob,ob_none,nl26v4 m]
theorem q26v4:∀ (m:Nat) (x0:Int) (x1:Nat) (x2:FF),
  loopH (eB A41v7 (C83 u) u) N26v4 m (s26v5 n0 n1 n2 x1 f0 f1 f2 x2 x0 i0 i1 i2 b0 w0) k=L26v4 u n0 f0 n1 f1 w0 i0 i1 i2 b0 n2 f2 m x0 x1 x2 (fun x3 x4=>k (.exit 4) (s26v6 n0 n1 n2 x3 f0 f1 f2 x4 i0 i1 i2 b0 w0))
 | 0,_,_,_=>rfl
 | m+1,x0,x1,x2=>by
  simp only [L26v4,← q26v4 m]
  kernel_rfl
def N26v6:St→Option St:=nN 3 (0 :: 1 :: (rl 9 70 []))
def s26v7:St:=⟨(.u :: .u :: .x (.ptr 0 0) :: .x (.ptr 1 0) :: .x (.ptr 2 0) :: .x (.c (ro kF n0 f0)) :: vxb true :: vxi i0 :: vxi i1 :: (us 70 [])),[.box [(.c (ro kP n1 f1)),(.c (ro kF n2 f2))],.box [(vcs w0),(vci i2),(vci i3),(vci i4),(vcb b0)],.box [(vcn),(vcn)]]⟩
def s26v8:St:=⟨(.u :: .u :: .x (.ptr 0 0) :: .x (.ptr 1 0) :: .x (.ptr 2 0) :: .x (.c (ro kF n0 f0)) :: vxb true :: vxi i0 :: (us 71 [])),[.box [(.c (ro kP n1 f1)),(.c (ro kF n2 f2))],.box [(vcs w0),(vci i1),(vci i2),(vci i3),(vcb b0)],.box [(vcn),(vcn)]]⟩
def L26v6 {ρ:Type} (u:Nat) (x0:Nat) (x1:FF) (x2:Int) (x3:Nat) (x4:FF) (x5:Nat) (x6:FF) (x7:ByteArray) (x8 x9 xA:Int) (xB:Bool):Nat→Int→(Option ρ)→Option ρ
 | 0,_,_=>none
 | m+1,xC,k0 =>
  (bif (inb x2 x0) then (bif (decide (xC<(Int.ofNat (x1 x2.toNat 0).len))) then (L26v6 u x0 x1 x2 x3 x4 x5 x6 x7 x8 x9 xA xB m (w64 (xC+1)) k0) else k0) else none)
theorem nl26v6:∀ (m:Nat) (x0:Int) (k0:Option ρ),ob (L26v6 u n0 f0 i0 n1 f1 n2 f2 w0 i1 i2 i3 b0 m x0 k0) ng=L26v6 u n0 f0 i0 n1 f1 n2 f2 w0 i1 i2 i3 b0 m x0 (ob k0 ng)
 | 0,_,_=>rfl
 | m+1,x0,k0=>by
  simp only [L26v6,ob_bif,ob_ob,ob_none,nl26v6 m]
theorem q26v6:∀ (m:Nat) (x0:Int),
  loopH (eB A41v2 (C83 u) u) N26v6 m (s26v7 n0 n1 n2 f0 f1 f2 i0 x0 i1 i2 i3 b0 w0) k=L26v6 u n0 f0 i0 n1 f1 n2 f2 w0 i1 i2 i3 b0 m x0 (k (.exit 2) (s26v8 n0 n1 n2 f0 f1 f2 i0 i1 i2 i3 b0 w0))
 | 0,_=>rfl
 | m+1,x0=>by
  simp only [L26v6,← q26v6 m]
  kernel_rfl
def N26v7:St→Option St:=nN 3 (0 :: 1 :: (rl 8 71 []))
def s26v9:St:=⟨(.u :: .u :: .x (.ptr 0 0) :: .x (.ptr 1 0) :: .x (.ptr 2 0) :: .x (.c (ro kF n0 f0)) :: vxb true :: vxi i0 :: (us 71 [])),[.box [(.c (ro kP n1 f1)),(.c (ro kF n2 f2))],.box [(vcs w0),(vci i1),(vci i2),(vci i3),(vcb b0)],.box [(vcn),(vcn)]]⟩
def s26v10:St:=⟨(.u :: .u :: .x (.ptr 0 0) :: .x (.ptr 1 0) :: .x (.ptr 2 0) :: .u :: vxb true :: (us 72 [])),[.box [(.c (ro kP n0 f0)),(.c (ro kF n1 f1))],.box [(vcs w0),(vci i0),(vci i1),(vci i2),(vcb b0)],.box [(vcn),(vcn)]]⟩
def L26v7 {ρ:Type} (u:Nat) (x0:Nat) (x1:FF) (x2:Nat) (x3:FF) (x4:Nat) (x5:FF) (x6:ByteArray) (x7 x8 x9:Int) (xA:Bool):Nat→Int→(Option ρ)→Option ρ
 | 0,_,_=>none
 | m+1,xB,k0 =>
  (bif (decide (xB<(Int.ofNat x0))) then (L26v6 u x0 x1 xB x2 x3 x4 x5 x6 x7 x8 x9 xA u 0
  (L26v7 u x0 x1 x2 x3 x4 x5 x6 x7 x8 x9 xA m (w64 (xB+1)) k0)) else k0)
theorem nl26v7:∀ (m:Nat) (x0:Int) (k0:Option ρ),ob (L26v7 u n0 f0 n1 f1 n2 f2 w0 i0 i1 i2 b0 m x0 k0) ng=L26v7 u n0 f0 n1 f1 n2 f2 w0 i0 i1 i2 b0 m x0 (ob k0 ng)
 | 0,_,_=>rfl
 | m+1,x0,k0=>by
  simp only [L26v7,ob_bif,ob_ob,ob_none,nl26v7 m,nl26v6]
def s26v11:St:=⟨(.u :: .u :: .x (.ptr 0 0) :: .x (.ptr 1 0) :: .x (.ptr 2 0) :: .x (.c (ro kF n0 f0)) :: vxb true :: vxi i0 :: vxi 0 :: (us 70 [])),[.box [(.c (ro kP n1 f1)),(.c (ro kF n2 f2))],.box [(vcs w0),(vci i1),(vci i2),(vci i3),(vcb b0)],.box [(vcn),(vcn)]]⟩
theorem r26v7 :
  loopH (eB A41v5 (C83 u) u) N26v7 (m+1) (s26v9 n0 n1 n2 f0 f1 f2 i3 i0 i1 i2 b0 w0) k =
  (bif (decide (i3<(Int.ofNat n0))) then (loopN (eB A41v2 (C83 u) u) N26v6 u (s26v11 n0 n1 n2 f0 f1 f2 i3 i0 i1 i2 b0 w0) (kBlk 2 (kBlk 1 (kSeq (C83 u) u (8 :: (rl 32 20 [])) A41v3 (kLoop (eB A41v5 (C83 u) u) N26v7 m k))))) else (k (.exit 0) (s26v10 n1 n2 f1 f2 i0 i1 i2 b0 w0))):=by kernel_rfl
theorem t26v3 :
  loopN (eB A41v2 (C83 u) u) N26v6 u (s26v11 n0 n1 n2 f0 f1 f2 i0 i1 i2 i3 b0 w0) k =
  L26v6 u n0 f0 i0 n1 f1 n2 f2 w0 i1 i2 i3 b0 u 0 (k (.exit 2) (s26v8 n0 n1 n2 f0 f1 f2 i0 i1 i2 i3 b0 w0)) :=
 Eq.trans (loopN_at (by kernel_rfl)) (q26v6 ..)
theorem g26v4 :
  (kBlk 2 (kBlk 1 (kSeq (C83 u) u (8 :: (rl 32 20 [])) A41v3 (kLoop (eB A41v5 (C83 u) u) N26v7 m k)))) (.exit 2) (s26v8 n0 n1 n2 f0 f1 f2 i0 i1 i2 i3 b0 w0) =
  (loopH (eB A41v5 (C83 u) u) N26v7 m (s26v9 n0 n1 n2 f0 f1 f2 (w64 (i0+1)) i1 i2 i3 b0 w0) k):=by kernel_rfl
theorem q26v7:∀ (m:Nat) (x0:Int),
  loopH (eB A41v5 (C83 u) u) N26v7 m (s26v9 n0 n1 n2 f0 f1 f2 x0 i0 i1 i2 b0 w0) k=L26v7 u n0 f0 n1 f1 n2 f2 w0 i0 i1 i2 b0 m x0 (k (.exit 0) (s26v10 n1 n2 f1 f2 i0 i1 i2 b0 w0))
 | 0,_=>rfl
 | m+1,x0=>by
  rw [r26v7]
  simp only [L26v7,q26v7 m,t26v3,g26v4]
def FT26 (x0:Nat) (x1:FF) (x2:Nat) (x3:FF) (x4:ByteArray) (x5 x6 x7:Int) (x8:Bool):Option (Bool × Nat × FF × Nat × FF) :=
 (ob (F44 u x0 x1 x2 x3) fun x9=>(bif ((decide (x7<0))==false) then (bif ((decide (x7>3))==false) then (ob (F53 u x5 x6) fun xA=>(L26v3 u x9.1 x9.2 x0 x1 x2 x3 x4 x5 x6 x7 x8 u xA 0
  (fun xB=>(bif xB then (some (true,0,(fun _ _=>.any),0,(fun _ _=>.any))) else (ob (F54 u x0 x1 x4 x5 x6 x7 x8) fun xC=>(L26v4 u x0 x1 x2 x3 x4 x5 x6 x7 x8 xC.1 xC.2 u 0 0 (fun _ _=>.any)
  (fun xD xE=>(some (false,xC.1,xC.2,xD,xE))))))))) else (L26v7 u x9.1 x9.2 x0 x1 x2 x3 x4 x5 x6 x7 x8 u 0
  (some (true,0,(fun _ _=>.any),0,(fun _ _=>.any))))) else (L26v7 u x9.1 x9.2 x0 x1 x2 x3 x4 x5 x6 x7 x8 u 0
  (some (true,0,(fun _ _=>.any),0,(fun _ _=>.any))))))
def s26v12 (x0:Nat × FF):St:=⟨[.agg [(.c (ro kP n0 f0)),(.c (ro kF n1 f1))],.agg [(vcs w0),(vci i0),(vci i1),(vci i2),(vcb b0)],.x (.ptr 0 0),.x (.ptr 1 0),.x (.ptr 2 0),.x (.c (ro kF x0.1 x0.2)),vxb b1,vxi 0,uu,uu,uu,.agg [(.c (ro kP n0 f0)),(.c (ro kF n1 f1))],.x (.c (ro kF x0.1 x0.2)),.x (.ptr 1 3),vxi i2,vxb (decide (i2<0)),vxb false,.x (.ptr 1 3),vxi i2,vxb (decide (i2>3)),vxb (decide (i2>3)),vxb false,.x (.ptr 1 1),.agg [(vci i0),(vci i1)],vxb b1,vxb b1,uu,uu,uu,uu,uu,uu,uu,uu,uu,uu,uu,uu,uu,uu,uu,uu,uu,uu,uu,uu,uu,uu,uu,uu,uu,uu,uu,uu,uu,uu,uu,uu,uu,uu,uu,uu,uu,uu,uu,uu,uu,uu,uu,uu,uu,uu,uu,uu,uu,uu,uu,uu,uu],[.box [(.c (ro kP n0 f0)),(.c (ro kF n1 f1))],.box [(vcs w0),(vci i0),(vci i1),(vci i2),(vcb b0)],.box [(vcn),(vcn)]]⟩
def s26v13 (x0:Nat × FF):St:=⟨[.agg [(.c (ro kP n0 f0)),(.c (ro kF n1 f1))],.agg [(vcs w0),(vci i0),(vci i1),(vci i2),(vcb b0)],.x (.ptr 0 0),.x (.ptr 1 0),.x (.ptr 2 0),.x (.c (ro kF x0.1 x0.2)),vxb true,vxi 0,uu,uu,uu,.agg [(.c (ro kP n0 f0)),(.c (ro kF n1 f1))],.x (.c (ro kF x0.1 x0.2)),.x (.ptr 1 3),vxi i2,vxb (decide (i2<0)),vxb false,.x (.ptr 1 3),vxi i2,vxb (decide (i2>3)),vxb (decide (i2>3)),vxb true,uu,uu,uu,vxb true,uu,uu,uu,uu,uu,uu,uu,uu,uu,uu,uu,uu,uu,uu,uu,uu,uu,uu,uu,uu,uu,uu,uu,uu,uu,uu,uu,uu,uu,uu,uu,uu,uu,uu,uu,uu,uu,uu,uu,uu,uu,uu,uu,uu,uu,uu,uu,uu,uu,uu,uu,uu,uu],[.box [(.c (ro kP n0 f0)),(.c (ro kF n1 f1))],.box [(vcs w0),(vci i0),(vci i1),(vci i2),(vcb b0)],.box [(vcn),(vcn)]]⟩
def s26v14 (x0:Nat × FF):St:=⟨[.agg [(.c (ro kP n0 f0)),(.c (ro kF n1 f1))],.agg [(vcs w0),(vci i0),(vci i1),(vci i2),(vcb b0)],.x (.ptr 0 0),.x (.ptr 1 0),.x (.ptr 2 0),.x (.c (ro kF x0.1 x0.2)),vxb true,vxi 0,uu,uu,uu,.agg [(.c (ro kP n0 f0)),(.c (ro kF n1 f1))],.x (.c (ro kF x0.1 x0.2)),.x (.ptr 1 3),vxi i2,vxb (decide (i2<0)),vxb true,uu,uu,uu,vxb true,vxb true,uu,uu,uu,vxb true,uu,uu,uu,uu,uu,uu,uu,uu,uu,uu,uu,uu,uu,uu,uu,uu,uu,uu,uu,uu,uu,uu,uu,uu,uu,uu,uu,uu,uu,uu,uu,uu,uu,uu,uu,uu,uu,uu,uu,uu,uu,uu,uu,uu,uu,uu,uu,uu,uu,uu,uu,uu,uu],[.box [(.c (ro kP n0 f0)),(.c (ro kF n1 f1))],.box [(vcs w0),(vci i0),(vci i1),(vci i2),(vcb b0)],.box [(vcn),(vcn)]]⟩
theorem t26v5 (x0:Nat × FF) :
  loopN (eB A41v5 (C83 u) u) N26v3 u (s26v12 n0 n1 f0 f1 i0 i1 i2 b0 b1 w0 x0) k =
  L26v3 u x0.1 x0.2 n0 f0 n1 f1 w0 i0 i1 i2 b0 u b1 0 (fun x1=>k (.exit 0) (s26v3 n0 n1 f0 f1 i0 i1 i2 x1 b0 w0)) :=
 Eq.trans (loopN_at (by kernel_rfl)) (q26v3 ..)
def s26v15 (x0:Nat × FF):St:=⟨(.u :: .u :: .x (.ptr 0 0) :: .x (.ptr 1 0) :: .x (.ptr 2 0) :: .u :: vxb b0 :: .u :: .u :: .x (.ptr 3 0) :: vxi 0 :: (us 43 (.x (.ptr 0 0) :: .x (.c (ro kP n0 f0)) :: .agg [(vcs w0),(vci i0),(vci i1),(vci i2),(vcb b1)] :: .x (.c (ro kP x0.1 x0.2)) :: .agg [(.c (ro kP x0.1 x0.2)),(.c (.ro true kF 0 nilF))] :: (us 20 [])))),[.box [(.c (ro kP n0 f0)),(.c (ro kF n1 f1))],.box [(vcs w0),(vci i0),(vci i1),(vci i2),(vcb b1)],.box [(vcn),(vcn)],.box [(.c (ro kP x0.1 x0.2)),(.own 4 0 0)],.arr kF 0 nilF]⟩
theorem g26v6 :
  (kBlk 0 (kSeq (C83 u) u (7 :: 8 :: (rl 26 26 [])) A41v10 (finish A41))) (.exit 0) (s26v3 n0 n1 f0 f1 i0 i1 i2 b0 b1 w0) =
  (bif b0 then (some [.agg [(.ro true kP 0 nilF),(.ro true kF 0 nilF)]]) else (ob (F54 u n0 f0 w0 i0 i1 i2 b1) fun x0=>(loopN (eB A41v7 (C83 u) u) N26v4 u (s26v15 n0 n1 f0 f1 i0 i1 i2 b0 b1 w0 x0) (kBlk 4 (kSeq (C83 u) u (10 :: (rl 59 19 [])) A41v8 (finish A41)))))):=by kernel_rfl
theorem t26v7 (x0:Nat × FF) :
  loopN (eB A41v7 (C83 u) u) N26v4 u (s26v15 n0 n1 f0 f1 i0 i1 i2 b0 b1 w0 x0) k =
  L26v4 u n0 f0 n1 f1 w0 i0 i1 i2 b1 x0.1 x0.2 u 0 0 nilF (fun x1 x2=>k (.exit 4) (s26v6 n0 n1 x0.1 x1 f0 f1 x0.2 x2 i0 i1 i2 b1 w0)) :=
 Eq.trans (loopN_at (by kernel_rfl)) (q26v4 ..)
theorem g26v8 (x0:Nat × FF) :
  (kBlk 4 (kSeq (C83 u) u (10 :: (rl 59 19 [])) A41v8 (finish A41))) (.exit 4) (s26v6 n0 n1 x0.1 n2 f0 f1 x0.2 f2 i0 i1 i2 b0 w0) =
  (some [.agg [(ro kP x0.1 x0.2),(ro kF n2 f2)]]):=by kernel_rfl
theorem t26v9 (x0:Nat × FF) :
  loopN (eB A41v5 (C83 u) u) N26v7 u (s26v13 n0 n1 f0 f1 i0 i1 i2 b0 w0 x0) k =
  L26v7 u x0.1 x0.2 n0 f0 n1 f1 w0 i0 i1 i2 b0 u 0 (k (.exit 0) (s26v10 n0 n1 f0 f1 i0 i1 i2 b0 w0)) :=
 Eq.trans (loopN_at (by kernel_rfl)) (q26v7 ..)
theorem g26v10 :
  (kBlk 0 (kSeq (C83 u) u (7 :: 8 :: (rl 26 26 [])) A41v10 (finish A41))) (.exit 0) (s26v10 n0 n1 f0 f1 i0 i1 i2 b0 w0) =
  (some [.agg [(.ro true kP 0 nilF),(.ro true kF 0 nilF)]]):=by kernel_rfl
theorem t26v11 (x0:Nat × FF) :
  loopN (eB A41v5 (C83 u) u) N26v7 u (s26v14 n0 n1 f0 f1 i0 i1 i2 b0 w0 x0) k =
  L26v7 u x0.1 x0.2 n0 f0 n1 f1 w0 i0 i1 i2 b0 u 0 (k (.exit 0) (s26v10 n0 n1 f0 f1 i0 i1 i2 b0 w0)) :=
 Eq.trans (loopN_at (by kernel_rfl)) (q26v7 ..)
theorem g26v12 :
  (kBlk 0 (kSeq (C83 u) u (7 :: 8 :: (rl 26 26 [])) A41v10 (finish A41))) (.exit 0) (s26v10 n0 n1 f0 f1 i0 i1 i2 b0 w0) =
  (some [.agg [(.ro true kP 0 nilF),(.ro true kF 0 nilF)]]):=by kernel_rfl
theorem e26:evalF (C83 u) u A41 [.agg [(ro kP n0 f0),(ro kF n1 f1)],.agg [(.s w0),(vi i0),(vi i1),(vi i2),(.b b0)]]=ob (FT26 u n0 f0 n1 f1 w0 i0 i1 i2 b0) fun t=>some (bif t.1 then [.agg [(.ro true kP 0 nilF),(.ro true kF 0 nilF)]] else [.agg [(ro kP t.2.1 t.2.2.1),(ro kF t.2.2.2.1 t.2.2.2.2)]]):=Eq.trans (b:=(ob (F44 u n0 f0 n1 f1) fun x0=>(bif ((decide (i2<0))==false) then (bif ((decide (i2>3))==false) then (ob (F53 u i0 i1) fun x1=>(loopN (eB A41v5 (C83 u) u) N26v3 u (s26v12 n0 n1 f0 f1 i0 i1 i2 b0 x1 w0 x0) (kBlk 0 (kSeq (C83 u) u (7 :: 8 :: (rl 26 26 [])) A41v10 (finish A41))))) else (loopN (eB A41v5 (C83 u) u) N26v7 u (s26v13 n0 n1 f0 f1 i0 i1 i2 b0 w0 x0) (kBlk 0 (kSeq (C83 u) u (7 :: 8 :: (rl 26 26 [])) A41v10 (finish A41))))) else (loopN (eB A41v5 (C83 u) u) N26v7 u (s26v14 n0 n1 f0 f1 i0 i1 i2 b0 w0 x0) (kBlk 0 (kSeq (C83 u) u (7 :: 8 :: (rl 26 26 [])) A41v10 (finish A41))))))) (by kernel_rfl) (by
 simp only [FT26,ob_bif,ob_ob,ob_none,ob_some,nl26v3,nl26v4,nl26v7,t26v5,g26v6,t26v7,g26v8,t26v9,g26v10,t26v11,g26v12,cond_true,cond_false])
def F26 (x0:Nat) (x1:FF) (x2:Nat) (x3:FF) (x4:ByteArray) (x5 x6 x7:Int) (x8:Bool):Option (Nat × FF × Nat × FF):=ob (FT26 u x0 x1 x2 x3 x4 x5 x6 x7 x8) fun t=>some (bif t.1 then (0,(fun _ _=>.any),0,(fun _ _=>.any)) else (t.2.1,t.2.2.1,t.2.2.2.1,t.2.2.2.2))
def O26:Ora:=mkO (qc (ag (tc (cL kP) (t1 (cL kF)))) (q1 (ag (tc cS (tc ci (tc ci (tc ci (t1 cB)))))))) (fun x=>F26 u x.1.1.1 x.1.1.2 x.1.2.1 x.1.2.2 x.2.1 x.2.2.1 x.2.2.2.1 x.2.2.2.2.1 x.2.2.2.2.2) fun t=>[.agg [(ro kP t.1 t.2.1),(ro kF t.2.2.1 t.2.2.2)]]
theorem d26:DO (O26 u) (C83 u) 41 A41:=dW u (fun x=>by exact e26 u x.1.1.1 x.1.2.1 x.1.1.2 x.1.2.2 x.2.2.1 x.2.2.2.1 x.2.2.2.2.1 x.2.2.2.2.2 x.2.1) (fun _=>rfl) fun t=>by
 obtain ⟨b,t⟩:=t
 cases b with
 | true=>exact (.cons (WkA.agg (.cons (Wk.ro (by rfl)) (.cons (Wk.ro (by rfl)) .nil))) .nil)
 | false =>
  exact (.cons (WkA.agg (.cons (Wk.refl _) (.cons (Wk.refl _) .nil))) .nil)
def C84:Oracle:=(C83 u).add 41 (fun _=>true) (O26 u)
def B42:An tT Tryz.f42 [.k (14 :: (rl 18 32 [])),.g [0],.k (rl 0 14 (rl 15 129 [])),.k (14 :: (rl 50 30 [])),.g [0],.k (rl 0 14 (rl 15 129 [])),.k (14 :: 16 :: 17 :: (rl 82 62 [])),.h [],.k (0 :: 1 :: 3 :: (rl 6 4 (rl 11 4 (rl 17 127 [])))),.k (rl 82 4 []),.g [0],.k (rl 0 144 []),.k (14 :: 17 :: (rl 88 56 [])),.k (14 :: (rl 92 10 [])),.g [0,1],.k (rl 0 14 (rl 15 129 [])),.g [0,1],.k (rl 0 14 (rl 15 129 [])),.g [0],.k (rl 0 14 (rl 15 129 []))]:=by
 apply Subtype.mk;cbv<;>exact rfl
def A42:AF:=B42.1
def A42v7:AC:=sA A42.body [1,1]
def A42v6:AC:=sA A42v7 [1]
def A42v5:AC:=sA A42v6 [1,1]
def A42v4:AC:=sA A42v6 [1,0,1,0,0]
def N406v1:St→Option St:=nN 1 (0 :: 1 :: 3 :: (rl 6 4 (rl 11 4 (rl 17 127 []))))
def s406v0:St:=⟨(.u :: .u :: .x (.c (ro kE n0 f0)) :: .u :: vxi i0 :: vxi i1 :: (us 4 (.x (.ptr 0 0) :: (us 4 (vxi i2 :: vxi i3 :: (us 127 [])))))),[.box [(vci i4),(vci i5)]]⟩
def s406v1:St:=⟨(us 14 (vxb false :: (us 129 []))),[.dead,.dead]⟩
def s406v2:St:=⟨(us 144 []),[.dead]⟩
def L406v1 {ρ:Type} (u:Nat) (x0:Nat) (x1:FF) (x2 x3 x4 x5 x6:Int):Nat→Int→(Option ρ)→(Option ρ)→Option ρ
 | 0,_,_,_=>none
 | m+1,x7,k0,k1 =>
  (bif (decide (x7<(Int.ofNat x0))) then (bif (inb x7 x0) then (ob (F404 u (x1 x7.toNat 0).int (x1 x7.toNat 1).int 1099511627776) fun x8=>(bif ((!x8)==false) then (ob (F404 u (x1 x7.toNat 2).int (x1 x7.toNat 3).int 1099511627776) fun x9=>(bif (!x9) then k0 else (bif ((decide (x5<(w64 ((x1 x7.toNat 2).int+x4))))==true) then (bif ((decide ((w64 ((w64 (x5+x2))+x4))>(x1 x7.toNat 0).int))==true) then (bif ((decide (x6<(w64 ((x1 x7.toNat 3).int+x4))))==true) then (bif (decide ((w64 ((w64 (x6+x3))+x4))>(x1 x7.toNat 1).int)) then k0 else (L406v1 u x0 x1 x2 x3 x4 x5 x6 m (w64 (x7+1)) k0 k1)) else (L406v1 u x0 x1 x2 x3 x4 x5 x6 m (w64 (x7+1)) k0 k1)) else (L406v1 u x0 x1 x2 x3 x4 x5 x6 m (w64 (x7+1)) k0 k1)) else (L406v1 u x0 x1 x2 x3 x4 x5 x6 m (w64 (x7+1)) k0 k1)))) else k0)) else none) else k1)
theorem nl406v1:∀ (m:Nat) (x0:Int) (k0:Option ρ) (k1:Option ρ),ob (L406v1 u n0 f0 i0 i1 i2 i3 i4 m x0 k0 k1) ng=L406v1 u n0 f0 i0 i1 i2 i3 i4 m x0 (ob k0 ng) (ob k1 ng)
 | 0,_,_,_=>rfl
 | m+1,x0,k0,k1=>by
  simp only [L406v1,ob_bif,ob_ob,ob_none,nl406v1 m]
theorem q406v1:∀ (m:Nat) (x0:Int),
  loopH (eB A42v4 (C84 u) u) N406v1 m (s406v0 n0 f0 i0 i1 i2 x0 i3 i4) k=L406v1 u n0 f0 i0 i1 i2 i3 i4 m x0 (k .ret s406v1) (k (.exit 0) s406v2)
 | 0,_=>rfl
 | m+1,x0=>by
  simp only [L406v1,← q406v1 m]
  kernel_rfl
def F406 (x0 x1:Int) (x2:Nat) (x3:FF) (x4 x5 x6 x7 x8:Int):Option (Bool) :=
 (bif ((decide ((if x8<(if x1<x0 then x1 else x0) then x8 else (if x1<x0 then x1 else x0))<0))==false) then (bif ((decide ((if x1>x0 then x1 else x0)>32768))==false) then (bif ((decide (x8>500))==false) then (bif ((decide ((if x7<x6 then x7 else x6)<1))==false) then (bif ((decide ((if x7>x6 then x7 else x6)>32768))==false) then (ob (F404 u x4 x5 32768) fun x9=>(bif (!x9) then (some false) else (bif ((decide (x4<x8))==false) then (bif ((decide (x5<x8))==false) then (bif ((decide ((w64 (x4+x6))>(w64 (x0-x8))))==false) then (bif (decide ((w64 (x5+x7))>(w64 (x1-x8)))) then (some false) else (L406v1 u x2 x3 x6 x7 (if 1>x8 then 1 else x8) x4 x5 u 0
  (some false)
  (some true))) else (some false)) else (some false)) else (some false)))) else (some false)) else (some false)) else (some false)) else (some false)) else (some false))
def s406v3:St:=⟨(vxi i0 :: vxi i1 :: .x (.c (ro kE n0 f0)) :: .agg [(vci i2),(vci i3)] :: vxi i4 :: vxi i5 :: vxi i6 :: uu :: uu :: uu :: .x (.ptr 0 0) :: uu :: uu :: uu :: .u :: vxi (if 1>i6 then 1 else i6) :: vxi 0 :: uu :: (us 62 [vxi i6,vxi (if 1>i6 then 1 else i6),uu,uu,uu,uu,uu,uu,uu,uu,uu,uu,uu,uu,uu,uu,uu,uu,uu,uu,uu,uu,uu,uu,uu,uu,uu,uu,uu,uu,uu,uu,uu,uu,uu,uu,uu,uu,uu,uu,uu,uu,uu,uu,uu,uu,uu,uu,uu,uu,uu,uu,uu,uu,uu,uu,uu,uu,uu,uu,uu,uu,uu,uu])),[.box [(vci i2),(vci i3)]]⟩
theorem t406v1 :
  loopN (eB A42v4 (C84 u) u) N406v1 u (s406v3 n0 f0 i0 i1 i2 i3 i4 i5 i6) k =
  L406v1 u n0 f0 i4 i5 (if 1>i6 then 1 else i6) i2 i3 u 0 (k .ret s406v1) (k (.exit 0) s406v2) :=
 Eq.trans (loopN_at (by kernel_rfl)) (q406v1 ..)
theorem g406v2 :
  (kBlk 0 (kSeq (C84 u) u (14 :: 16 :: 17 :: (rl 82 62 [])) A42v5 (finish A42))) .ret s406v1 =
  (some [.v (.b false)]):=by kernel_rfl
theorem g406v3 :
  (kBlk 0 (kSeq (C84 u) u (14 :: 16 :: 17 :: (rl 82 62 [])) A42v5 (finish A42))) (.exit 0) s406v2 =
  (some [.v (.b true)]):=by kernel_rfl
theorem e406:evalF (C84 u) u A42 [.v (vi i0),.v (vi i1),.v (ro kE n0 f0),.agg [(vi i2),(vi i3)],.v (vi i4),.v (vi i5),.v (vi i6)]=ob (F406 u i0 i1 n0 f0 i2 i3 i4 i5 i6) fun t=>some [.v (.b t)]:=Eq.trans (b:=(bif ((decide ((if i6<(if i1<i0 then i1 else i0) then i6 else (if i1<i0 then i1 else i0))<0))==false) then (bif ((decide ((if i1>i0 then i1 else i0)>32768))==false) then (bif ((decide (i6>500))==false) then (bif ((decide ((if i5<i4 then i5 else i4)<1))==false) then (bif ((decide ((if i5>i4 then i5 else i4)>32768))==false) then (ob (F404 u i2 i3 32768) fun x0=>(bif (!x0) then (some [.v (.b false)]) else (bif ((decide (i2<i6))==false) then (bif ((decide (i3<i6))==false) then (bif ((decide ((w64 (i2+i4))>(w64 (i0-i6))))==false) then (bif (decide ((w64 (i3+i5))>(w64 (i1-i6)))) then (some [.v (.b false)]) else (loopN (eB A42v4 (C84 u) u) N406v1 u (s406v3 n0 f0 i0 i1 i2 i3 i4 i5 i6) (kBlk 0 (kSeq (C84 u) u (14 :: 16 :: 17 :: (rl 82 62 [])) A42v5 (finish A42))))) else (some [.v (.b false)])) else (some [.v (.b false)])) else (some [.v (.b false)])))) else (some [.v (.b false)])) else (some [.v (.b false)])) else (some [.v (.b false)])) else (some [.v (.b false)])) else (some [.v (.b false)]))) (by kernel_rfl) (by
 simp only [F406,ob_bif,ob_ob,ob_none,ob_some,nl406v1,t406v1,g406v2,g406v3])
def O406:Ora:=mkO (qc (av ci) (qc (av ci) (qc (av (cL kE)) (qc (ag (tc ci (t1 ci))) (qc (av ci) (qc (av ci) (q1 (av ci)))))))) (fun x=>F406 u x.1 x.2.1 x.2.2.1.1 x.2.2.1.2 x.2.2.2.1.1 x.2.2.2.1.2 x.2.2.2.2.1 x.2.2.2.2.2.1 x.2.2.2.2.2.2) fun t=>[.v (.b t)]
theorem d406:DO (O406 u) (C84 u) 42 A42:=dO u (fun x=>by exact e406 u x.2.2.1.1 x.2.2.1.2 x.1 x.2.1 x.2.2.2.1.1 x.2.2.2.1.2 x.2.2.2.2.1 x.2.2.2.2.2.1 x.2.2.2.2.2.2)
def C85:Oracle:=(C84 u).add 42 (fun _=>true) (O406 u)
def B14:An tT Tryz.f14 [.k (6 :: (rl 8 8 (rl 19 87 []))),.h [.slot 8 kE],.k (0 :: 1 :: 2 :: 5 :: 6 :: (rl 10 96 [])),.k (rl 19 5 []),.g [0,1,2],.k (rl 0 106 []),.k (6 :: (rl 10 6 (rl 26 80 []))),.k (6 :: (rl 35 22 [])),.g (rl 0 4 []),.k (rl 0 6 (rl 7 99 [])),.k (6 :: 12 :: (rl 57 14 [])),.h [],.k (0 :: 1 :: 2 :: 5 :: 6 :: (rl 13 93 [])),.k [57,58,59],.k (0 :: 1 :: 2 :: 5 :: 6 :: (rl 12 94 [])),.k (6 :: (rl 62 9 [])),.g (rl 0 4 []),.k (rl 0 6 (rl 7 99 [])),.k (6 :: (rl 89 13 [])),.g (rl 0 5 []),.k (rl 0 6 (rl 7 99 [])),.g [0,1,2],.k (rl 0 6 (rl 7 99 []))]:=by
 apply Subtype.mk;cbv<;>exact rfl
def A14:AF:=B14.1
def A14v10:AC:=sA A14.body [1,1,1,1]
def A14v9:AC:=sA A14.body [1,1,1,0,1,0,0]
def A14v8:AC:=sA A14v9 [1]
def A14v7:AC:=sA A14v8 [1]
def A14v6:AC:=sA A14v8 [0,0,1,1,1]
def A14v5:AC:=sA A14v6 [1]
def A14v3:AC:=sA A14v6 [0,1,0,0]
def N414v2:St→Option St:=nN 4 (0 :: 1 :: 2 :: 5 :: 6 :: (rl 13 93 []))
def s414v0:St:=⟨(us 3 (.x (.ptr 0 0) :: .x (.ptr 1 0) :: .u :: .u :: .x (.c (ro kA n0 f0)) :: .x (.own 2 0 n1) :: vxi i0 :: .x (.ptr 3 0) :: vxi i1 :: vxi i2 :: (us 93 []))),[.box [(vcs w0),(vci i3),(.c (ro kB n2 f1))],.box [(vcs w1),(vcs w2),(vci i4),(vci i5),(vci i6),(vcs w3)],.arr kE n1 f2,.box [(vcs w4),(vci i7),(vci i8),(vci i9),(vcb b0)]]⟩
def s414v1:St:=⟨(us 6 (vxb false :: (us 99 []))),[.dead,.dead,.dead,.dead]⟩
def s414v2:St:=⟨(us 3 (.x (.ptr 0 0) :: .x (.ptr 1 0) :: .u :: .u :: .x (.c (ro kA n0 f0)) :: .x (.own 2 0 n1) :: vxi i0 :: .x (.ptr 3 0) :: vxi i1 :: (us 94 []))),[.box [(vcs w0),(vci i2),(.c (ro kB n2 f1))],.box [(vcs w1),(vcs w2),(vci i3),(vci i4),(vci i5),(vcs w3)],.arr kE n1 f2,.box [(vcs w4),(vci i6),(vci i7),(vci i8),(vcb b0)]]⟩
def L414v2 {ρ:Type} (u:Nat) (x0:Nat) (x1:FF) (x2:Nat) (x3 x4:Int) (x5:ByteArray) (x6:Int) (x7:Nat) (x8:FF) (x9 xA:ByteArray) (xB xC xD:Int) (xE:ByteArray) (xF:FF) (xG:ByteArray) (xH xI xJ:Int) (xK:Bool):Nat→Int→(Option ρ)→(Option ρ)→Option ρ
 | 0,_,_,_=>none
 | m+1,xL,k0,k1 =>
  (bif (decide (xL<x3)) then (bif (inb xL x7) then (bif (ByteArray.toList (x8 xL.toNat 0).str==ByteArray.toList xG) then k0 else (L414v2 u x0 x1 x2 x3 x4 x5 x6 x7 x8 x9 xA xB xC xD xE xF xG xH xI xJ xK m (w64 (xL+1)) k0 k1)) else none) else k1)
theorem nl414v2:∀ (m:Nat) (x0:Int) (k0:Option ρ) (k1:Option ρ),ob (L414v2 u n0 f0 n1 i0 i1 w0 i2 n2 f1 w1 w2 i3 i4 i5 w3 f2 w4 i6 i7 i8 b0 m x0 k0 k1) ng=L414v2 u n0 f0 n1 i0 i1 w0 i2 n2 f1 w1 w2 i3 i4 i5 w3 f2 w4 i6 i7 i8 b0 m x0 (ob k0 ng) (ob k1 ng)
 | 0,_,_,_=>rfl
 | m+1,x0,k0,k1=>by
  simp only [L414v2,ob_bif,ob_ob,ob_none,nl414v2 m]
theorem q414v2:∀ (m:Nat) (x0:Int),
  loopH (eB A14v3 (C85 u) u) N414v2 m (s414v0 n0 n1 n2 f0 f1 f2 i0 i1 x0 i2 i3 i4 i5 i6 i7 i8 b0 w0 w1 w2 w3 w4) k=L414v2 u n0 f0 n1 i0 i1 w0 i2 n2 f1 w1 w2 i3 i4 i5 w3 f2 w4 i6 i7 i8 b0 m x0 (k .ret s414v1) (k (.exit 2) (s414v2 n0 n1 n2 f0 f1 f2 i0 i1 i2 i3 i4 i5 i6 i7 i8 b0 w0 w1 w2 w3 w4))
 | 0,_=>rfl
 | m+1,x0=>by
  simp only [L414v2,← q414v2 m]
  kernel_rfl
def N414v3:St→Option St:=nN 3 (0 :: 1 :: 2 :: 5 :: 6 :: (rl 10 96 []))
def s414v3:St:=⟨(us 3 (.x (.ptr 0 0) :: .x (.ptr 1 0) :: .u :: .u :: .x (.c (ro kA n0 f0)) :: .x (.own 2 0 n1) :: vxi i0 :: (us 96 []))),[.box [(vcs w0),(vci i1),(.c (ro kB n2 f1))],.box [(vcs w1),(vcs w2),(vci i2),(vci i3),(vci i4),(vcs w3)],.arr kE n1 f2]⟩
def s414v4:St:=⟨(us 6 (vxb false :: (us 99 []))),[.dead,.dead,.dead,.dead,.dead]⟩
def s414v5:St:=⟨(us 106 []),[.dead,.dead,.dead]⟩
def L414v3 {ρ:Type} (u:Nat) (x0:Nat) (x1:FF) (x2:ByteArray) (x3:Int) (x4:Nat) (x5:FF) (x6 x7:ByteArray) (x8 x9 xA:Int) (xB:ByteArray):Nat→Nat→Int→FF→(Option ρ)→(Option ρ)→(Option ρ)→Option ρ
 | 0,_,_,_,_,_,_=>none
 | m+1,xC,xD,xE,k0,k1,k2 =>
  (bif (decide (xD<(Int.ofNat x4))) then (bif (inb xD x4) then (ob (F176 u x0 x1 (x5 xD.toNat 0).str) fun xF=>(bif ((decide (xF<0))==false) then (bif ((x5 xD.toNat 4).bool==false) then (bif ((decide ((x5 xD.toNat 3).int<0))==false) then (bif ((decide ((x5 xD.toNat 3).int>1))==false) then (ob (F404 u (x5 xD.toNat 1).int (x5 xD.toNat 2).int 32768) fun xG=>(bif (!xG) then k0 else (L414v2 u x0 x1 xC xD xF x2 x3 x4 x5 x6 x7 x8 x9 xA xB xE (x5 xD.toNat 0).str (x5 xD.toNat 1).int (x5 xD.toNat 2).int (x5 xD.toNat 3).int (x5 xD.toNat 4).bool u 0
  k0
  (bif (inb xF x0) then (ob (F26 u (x1 xF.toNat 6).len (x1 xF.toNat 6).el (x1 xF.toNat 7).len (x1 xF.toNat 7).el (x5 xD.toNat 0).str (x5 xD.toNat 1).int (x5 xD.toNat 2).int (x5 xD.toNat 3).int (x5 xD.toNat 4).bool) fun xH=>(ob (F21 u xH.1 xH.2.1 xH.2.2.1 xH.2.2.2) fun xI=>(bif (inb xF x0) then (ob (F405 u (listF (pj kR0 (x1 xF.toNat))) (x5 xD.toNat 3).int) fun xJ=>(ob (F406 u x9 xA xC xE xI.1 xI.2.1 xJ.1 xJ.2 x3) fun xK=>(bif (!xK) then k1 else (bif (Nat.ble (xC+1) 1073741824) then (L414v3 u x0 x1 x2 x3 x4 x5 x6 x7 x8 x9 xA xB m (xC+1) (w64 (xD+1)) (joinF xC xE (rowsF 4 [(.i .i64 xI.1),(.i .i64 xI.2.1),(.i .i64 xI.2.2.1),(.i .i64 xI.2.2.2)])) k0 k1 k2) else none)))) else none))) else none)))) else k0) else k0) else k0) else k0)) else none) else k2)
theorem nl414v3:∀ (m:Nat) (x0:Nat) (x1:Int) (x2:FF) (k0:Option ρ) (k1:Option ρ) (k2:Option ρ),ob (L414v3 u n0 f0 w0 i0 n1 f1 w1 w2 i1 i2 i3 w3 m x0 x1 x2 k0 k1 k2) ng=L414v3 u n0 f0 w0 i0 n1 f1 w1 w2 i1 i2 i3 w3 m x0 x1 x2 (ob k0 ng) (ob k1 ng) (ob k2 ng)
 | 0,_,_,_,_,_,_=>rfl
 | m+1,x0,x1,x2,k0,k1,k2=>by
  simp only [L414v3,ob_bif,ob_ob,ob_none,nl414v3 m,nl414v2]
def s414v6:St:=⟨(us 3 (.x (.ptr 0 0) :: .x (.ptr 1 0) :: .u :: .u :: .x (.c (ro kA n0 f0)) :: .x (.own 2 0 n1) :: vxi i0 :: .x (.ptr 3 0) :: vxi i1 :: vxi 0 :: (us 13 (.x (.ptr 0 2) :: .x (.c (ro kB n2 f1)) :: vxi i0 :: .x (.c (.rp kB (f1 i0.toNat))) :: .agg [(vcs (f1 i0.toNat 0).str),(vci (f1 i0.toNat 1).int),(vci (f1 i0.toNat 2).int),(vci (f1 i0.toNat 3).int),(vcb (f1 i0.toNat 4).bool)] :: .x (.c (ro kA n0 f0)) :: .x (.ptr 3 0) :: vxs (f1 i0.toNat 0).str :: vxi i1 :: (us 71 []))))),[.box [(vcs w0),(vci i2),(.c (ro kB n2 f1))],.box [(vcs w1),(vcs w2),(vci i3),(vci i4),(vci i5),(vcs w3)],.arr kE n1 f2,.box [(vcs (f1 i0.toNat 0).str),(vci (f1 i0.toNat 1).int),(vci (f1 i0.toNat 2).int),(vci (f1 i0.toNat 3).int),(vcb (f1 i0.toNat 4).bool)]]⟩
theorem r414v3 :
  loopH (eB A14v9 (C85 u) u) N414v3 (m+1) (s414v3 n0 n2 n1 f0 f1 f2 i4 i0 i1 i2 i3 w0 w1 w2 w3) k =
  (bif (decide (i4<(Int.ofNat n1))) then (bif (inb i4 n1) then (ob (F176 u n0 f0 (f1 i4.toNat 0).str) fun x0=>(bif ((decide (x0<0))==false) then (bif ((f1 i4.toNat 4).bool==false) then (bif ((decide ((f1 i4.toNat 3).int<0))==false) then (bif ((decide ((f1 i4.toNat 3).int>1))==false) then (ob (F404 u (f1 i4.toNat 1).int (f1 i4.toNat 2).int 32768) fun x1=>(bif (!x1) then (k .ret s414v1) else (loopN (eB A14v3 (C85 u) u) N414v2 u (s414v6 n0 n2 n1 f0 f1 f2 i4 x0 i0 i1 i2 i3 w0 w1 w2 w3) (kBlk 2 (kSeq (C85 u) u (6 :: 12 :: (rl 57 14 [])) A14v5 (kBlk 1 (kSeq (C85 u) u (6 :: (rl 10 6 (rl 26 80 []))) A14v7 (kLoop (eB A14v9 (C85 u) u) N414v3 m k)))))))) else (k .ret s414v1)) else (k .ret s414v1)) else (k .ret s414v1)) else (k .ret s414v1))) else none) else (k (.exit 0) s414v5)):=by kernel_rfl
theorem t414v1 :
  loopN (eB A14v3 (C85 u) u) N414v2 u (s414v6 n0 n1 n2 f0 f1 f2 i0 i1 i2 i3 i4 i5 w0 w1 w2 w3) k =
  L414v2 u n0 f0 n1 i0 i1 w0 i2 n2 f1 w1 w2 i3 i4 i5 w3 f2 (f1 i0.toNat 0).str (f1 i0.toNat 1).int (f1 i0.toNat 2).int (f1 i0.toNat 3).int (f1 i0.toNat 4).bool u 0 (k .ret s414v1) (k (.exit 2) (s414v2 n0 n1 n2 f0 f1 f2 i0 i1 i2 i3 i4 i5 (f1 i0.toNat 1).int (f1 i0.toNat 2).int (f1 i0.toNat 3).int (f1 i0.toNat 4).bool w0 w1 w2 w3 (f1 i0.toNat 0).str)) :=
 Eq.trans (loopN_at (by kernel_rfl)) (q414v2 ..)
theorem g414v2 :
  (kBlk 2 (kSeq (C85 u) u (6 :: 12 :: (rl 57 14 [])) A14v5 (kBlk 1 (kSeq (C85 u) u (6 :: (rl 10 6 (rl 26 80 []))) A14v7 (kLoop (eB A14v9 (C85 u) u) N414v3 m k))))) .ret s414v1 =
  (k .ret s414v1):=by kernel_rfl
theorem g414v3 :
  (kBlk 2 (kSeq (C85 u) u (6 :: 12 :: (rl 57 14 [])) A14v5 (kBlk 1 (kSeq (C85 u) u (6 :: (rl 10 6 (rl 26 80 []))) A14v7 (kLoop (eB A14v9 (C85 u) u) N414v3 m k))))) (.exit 2) (s414v2 n0 n1 n2 f0 f1 f2 i0 i1 i2 i3 i4 i5 (f1 i0.toNat 1).int (f1 i0.toNat 2).int (f1 i0.toNat 3).int (f1 i0.toNat 4).bool w0 w1 w2 w3 (f1 i0.toNat 0).str) =
  (bif (inb i1 n0) then (ob (F26 u (f0 i1.toNat 6).len (f0 i1.toNat 6).el (f0 i1.toNat 7).len (f0 i1.toNat 7).el (f1 i0.toNat 0).str (f1 i0.toNat 1).int (f1 i0.toNat 2).int (f1 i0.toNat 3).int (f1 i0.toNat 4).bool) fun x0=>(ob (F21 u x0.1 x0.2.1 x0.2.2.1 x0.2.2.2) fun x1=>(bif (inb i1 n0) then (ob (F405 u (listF (pj kR0 (f0 i1.toNat))) (f1 i0.toNat 3).int) fun x2=>(ob (F406 u i4 i5 n1 f2 x1.1 x1.2.1 x2.1 x2.2 i2) fun x3=>(bif (!x3) then (k .ret s414v4) else (bif (Nat.ble (n1+1) 1073741824) then (loopH (eB A14v9 (C85 u) u) N414v3 m (s414v3 n0 (n1+1) n2 f0 f1 (joinF n1 f2 (rowsF 4 [(vi x1.1),(vi x1.2.1),(vi x1.2.2.1),(vi x1.2.2.2)])) (w64 (i0+1)) i2 i3 i4 i5 w0 w1 w2 w3) k) else none)))) else none))) else none):=by kernel_rfl
theorem q414v3:∀ (m:Nat) (x0:Nat) (x1:Int) (x2:FF),
  loopH (eB A14v9 (C85 u) u) N414v3 m (s414v3 n0 x0 n1 f0 f1 x2 x1 i0 i1 i2 i3 w0 w1 w2 w3) k=L414v3 u n0 f0 w0 i0 n1 f1 w1 w2 i1 i2 i3 w3 m x0 x1 x2 (k .ret s414v1) (k .ret s414v4) (k (.exit 0) s414v5)
 | 0,_,_,_=>rfl
 | m+1,x0,x1,x2=>by
  rw [r414v3]
  simp only [L414v3,q414v3 m,t414v1,g414v2,g414v3]
def F414 (x0:ByteArray) (x1:Int) (x2:Nat) (x3:FF) (x4 x5:ByteArray) (x6 x7 x8:Int) (x9:ByteArray) (xA:Nat) (xB:FF):Option (Bool) :=
 (ob (F409 u x4 x5 x6 x7 x8 x9 xA xB) fun xC=>(L414v3 u xC.1 xC.2 x0 x1 x2 x3 x4 x5 x6 x7 x8 x9 u 0 0 (fun _ _=>.any)
  (some false)
  (some false)
  (some true)))
def s414v7 (x0:Nat × FF):St:=⟨[.agg [(vcs w0),(vci i0),(.c (ro kB n0 f0))],.agg [(vcs w1),(vcs w2),(vci i1),(vci i2),(vci i3),(vcs w3)],.x (.c (ro kA n1 f1)),.x (.ptr 0 0),.x (.ptr 1 0),uu,vxb false,.x (.c (ro kA x0.1 x0.2)),.x (.own 2 0 0),vxi 0,uu,uu,uu,uu,uu,uu,.agg [(vcs w1),(vcs w2),(vci i1),(vci i2),(vci i3),(vcs w3)],.x (.c (ro kA n1 f1)),.x (.c (ro kA x0.1 x0.2)),uu,uu,uu,uu,uu,uu,uu,uu,uu,uu,uu,uu,uu,uu,uu,uu,uu,uu,uu,uu,uu,uu,uu,uu,uu,uu,uu,uu,uu,uu,uu,uu,uu,uu,uu,uu,uu,uu,uu,uu,uu,uu,uu,uu,uu,uu,uu,uu,uu,uu,uu,uu,uu,uu,uu,uu,uu,uu,uu,uu,uu,uu,uu,uu,uu,uu,uu,uu,uu,uu,uu,uu,uu,uu,uu,uu,uu,uu,uu,uu,uu,uu,uu,uu,uu,uu,uu],[.box [(vcs w0),(vci i0),(.c (ro kB n0 f0))],.box [(vcs w1),(vcs w2),(vci i1),(vci i2),(vci i3),(vcs w3)],.arr kE 0 nilF]⟩
theorem t414v4 (x0:Nat × FF) :
  loopN (eB A14v9 (C85 u) u) N414v3 u (s414v7 n0 n1 f0 f1 i0 i1 i2 i3 w0 w1 w2 w3 x0) k =
  L414v3 u x0.1 x0.2 w0 i0 n0 f0 w1 w2 i1 i2 i3 w3 u 0 0 nilF (k .ret s414v1) (k .ret s414v4) (k (.exit 0) s414v5) :=
 Eq.trans (loopN_at (by kernel_rfl)) (q414v3 ..)
theorem g414v5 :
  (kBlk 0 (kSeq (C85 u) u (6 :: (rl 8 8 (rl 19 87 []))) A14v10 (finish A14))) .ret s414v1 =
  (some [.v (.b false)]):=by kernel_rfl
theorem g414v6 :
  (kBlk 0 (kSeq (C85 u) u (6 :: (rl 8 8 (rl 19 87 []))) A14v10 (finish A14))) .ret s414v4 =
  (some [.v (.b false)]):=by kernel_rfl
theorem g414v7 :
  (kBlk 0 (kSeq (C85 u) u (6 :: (rl 8 8 (rl 19 87 []))) A14v10 (finish A14))) (.exit 0) s414v5 =
  (some [.v (.b true)]):=by kernel_rfl
theorem e414:evalF (C85 u) u A14 [.agg [(.s w0),(vi i0),(ro kB n0 f0)],.agg [(.s w1),(.s w2),(vi i1),(vi i2),(vi i3),(.s w3)],.v (ro kA n1 f1)]=ob (F414 u w0 i0 n0 f0 w1 w2 i1 i2 i3 w3 n1 f1) fun t=>some [.v (.b t)]:=Eq.trans (b:=(ob (F409 u w1 w2 i1 i2 i3 w3 n1 f1) fun x0=>(loopN (eB A14v9 (C85 u) u) N414v3 u (s414v7 n0 n1 f0 f1 i0 i1 i2 i3 w0 w1 w2 w3 x0) (kBlk 0 (kSeq (C85 u) u (6 :: (rl 8 8 (rl 19 87 []))) A14v10 (finish A14)))))) (by kernel_rfl) (by
 simp only [F414,ob_bif,ob_ob,ob_none,ob_some,nl414v3,t414v4,g414v5,g414v6,g414v7])
def O414:Ora:=mkO (qc (ag (tc cS (tc ci (t1 (cL kB))))) (qc (ag (tc cS (tc cS (tc ci (tc ci (tc ci (t1 cS))))))) (q1 (av (cL kA))))) (fun x=>F414 u x.1.1 x.1.2.1 x.1.2.2.1 x.1.2.2.2 x.2.1.1 x.2.1.2.1 x.2.1.2.2.1 x.2.1.2.2.2.1 x.2.1.2.2.2.2.1 x.2.1.2.2.2.2.2 x.2.2.1 x.2.2.2) fun t=>[.v (.b t)]
theorem d414:DO (O414 u) (C85 u) 14 A14:=dO u (fun x=>by exact e414 u x.1.2.2.1 x.2.2.1 x.1.2.2.2 x.2.2.2 x.1.2.1 x.2.1.2.2.1 x.2.1.2.2.2.1 x.2.1.2.2.2.2.1 x.1.1 x.2.1.1 x.2.1.2.1 x.2.1.2.2.2.2.2)
def C86:Oracle:=(C85 u).add 14 (fun _=>true) (O414 u)
def B5:An tT Tryz.f5 [.k (4 :: (rl 7 5 [])),.g [0,1],.k (rl 0 4 (rl 5 55 [])),.k (4 :: (rl 19 22 [])),.g [0,1,2],.k (rl 0 4 (rl 5 55 [])),.g (rl 0 5 [6]),.k (rl 0 4 (rl 5 55 []))]:=by
 apply Subtype.mk;cbv<;>exact rfl
def A5:AF:=B5.1
def F415 (x0:Nat→CV) (x1:ByteArray) (x2 x3 x4:Int) (x5:Bool):Option (Bool) :=
 (ob (F390 u (x0 6).len (x0 6).el 10) fun x6=>(bif (!x6) then (ob (F403 u) fun x7=>(some x7)) else (ob (F398 u (x0 0).str (x0 1).str (x0 2).int (x0 3).int (x0 4).int (x0 5).str (x0 6).len (x0 6).el (x0 7).int) fun x8=>(bif ((decide ((Int.ofNat x8.2.2.1)>(Int.ofNat (x0 6).len)))==false) then (bif ((decide ((Int.ofNat x8.2.2.1)>32))==false) then (ob (F414 u x8.1 x8.2.1 x8.2.2.1 x8.2.2.2 (x0 0).str (x0 1).str (x0 2).int (x0 3).int (x0 4).int (x0 5).str (x0 6).len (x0 6).el) fun x9=>(bif (!x9) then (some false) else (bif (Nat.ble (0+x8.2.2.1) 1073741824) then (bif (Nat.ble ((0+x8.2.2.1)+1) 1073741824) then (ob (F414 u x8.1 x8.2.1 ((0+x8.2.2.1)+1) (joinF (0+x8.2.2.1) (joinF 0 (rowsF 5 []) x8.2.2.2) (rowsF 5 [(.s x1),(.i .i64 x2),(.i .i64 x3),(.i .i64 x4),(.b x5)])) (x0 0).str (x0 1).str (x0 2).int (x0 3).int (x0 4).int (x0 5).str (x0 6).len (x0 6).el) fun xA=>(bif ((!xA)==true) then (ob (F403 u) fun xB=>(some xB)) else (some false))) else none) else none))) else (some false)) else (some false)))))
theorem e415:evalF (C86 u) u A5 [.agg (pj kR1 g0),.agg [(.s w0),(vi i0),(vi i1),(vi i2),(.b b0)]]=ob (F415 u g0 w0 i0 i1 i2 b0) fun t=>some [.v (.b t)]:=by
 simp only [F415,ob_bif,ob_ob,ob_none,ob_some]
 kernel_rfl
def O415:Ora:=mkO (qc (ar kR1) (q1 (ag (tc cS (tc ci (tc ci (tc ci (t1 cB)))))))) (fun x=>F415 u x.1 x.2.1 x.2.2.1 x.2.2.2.1 x.2.2.2.2.1 x.2.2.2.2.2) fun t=>[.v (.b t)]
theorem d415:DO (O415 u) (C86 u) 5 A5:=dO u (fun x=>by exact e415 u x.2.2.1 x.2.2.2.1 x.2.2.2.2.1 x.2.2.2.2.2 x.2.1 x.1)
/- Functions that the plain texts alone name. -/
end Go.Eng.R13
