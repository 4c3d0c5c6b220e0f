/-
 The functions of the program,run on symbols;printed by decomp.py.
-/
import Derived.Test.YtajhkinnmdlokaaGreatDecT2
set_option linter.all false
set_option maxRecDepth 1000000
set_option maxHeartbeats 4000000
namespace Go.Eng.R13
open Go Go.RowKit Go.Eng
variable {ρ σ : Type} (u m : Nat) (k : Ex → St → Option ρ) (ng : ρ → Option σ) (n0 n1 n2 n3 n4 n5 n6 n7 n8 : Nat) (f0 f1 f2 f3 f4 f5 f6 f7 f8 : FF) (i0 i1 i2 i3 i4 i5 i6 i7 i8 i9 iA iB iC iD iE iF iG iH iI iJ iK iL iM iN : Int) (b0 : Bool) (w0 w1 w2 w3 w4 w5 w6 w7 w8 : ByteArray) (g0 g1 : Nat → CV)
def A24v1:AC:=(.region 19 [o1 63 (bk .add 3 52 1),mv 52 63] 0 none)
def A24v2:AC:=(.seq (.block 6
 (.seq (.region 16 [o1 54 (.indexAddr 56 3 1 (tm 50) (tm 52)),o1 55 (lo 3 54),o1 12 (sg 55)] 0 none) []
  (.seq (.region 17 [mv 56 10,mv 57 12,o1 58 (bt .neq 3 56 57)] 0 none) []
  (.cond (tm 58)
  (.region 18 [mv 59 4,mv 60 10,mv 61 12,o1 62 (.build 54 [vci 0,vci 0] [] 1 [(0,(tm 60)),(1,(tm 61))]),o0 (.setPut 106 (tm 59) (tm 62))] 0 none)
  .skip)))) (12 :: (rl 54 9 []))
 A24v1)
def A24v3:AC:=(.seq (.region 15 [o1 53 (bt .lss 3 52 51)] 0 none) []
 (.seq (.cond (tm 53)
 .skip
 (.exit 5 (0 :: 1 :: 2 :: 5 :: 6 :: 7 :: (rl 9 11 (rl 23 19 (rl 45 34 [])))))) []
 A24v2))
def A24v4:AC:=(.region 20 [o1 64 (bk .add 3 44 1),mv 44 64] 0 none)
def A24v5:AC:=(.seq (.block 4
 (.seq (.region 13 [o1 46 (.indexAddr 56 3 1 (tm 42) (tm 44)),o1 47 (lo 3 46),o1 10 (sg 47)] 0 none) []
  (.seq (.region 14 [mv 48 3,mv 49 8,o1 50 (.lookup 104 (tm 48) (tm 49)),o1 51 (.len 56 false (tm 50)),o1 52 (.move (ic 0))] 0 none) []
  (.block 5
  (.loop [] (0 :: 1 :: 2 :: 5 :: 6 :: 7 :: 9 :: (rl 11 9 (rl 23 19 (rl 45 5 (rl 53 26 [])))))
   A24v3))))) (10 :: 12 :: (rl 46 18 []))
 A24v4)
def A24v6:AC:=(.seq (.region 12 [o1 45 (bt .lss 3 44 43)] 0 none) []
 (.seq (.cond (tm 45)
 .skip
 (.exit 3 (0 :: 1 :: 2 :: (rl 5 15 (rl 23 56 []))))) []
 A24v5))
def A24v7:AC:=(.seq (.region 11 [mv 40 3,mv 41 7,o1 42 (.lookup 104 (tm 40) (tm 41)),o1 43 (.len 56 false (tm 42)),o1 44 (.move (ic 0))] 0 none) []
 (.block 3
 (.loop [] (0 :: 1 :: 2 :: 5 :: 6 :: 7 :: (rl 9 11 (rl 23 19 (rl 45 34 []))))
  A24v6)))
def A24v8:AC:=(.region 21 [o1 65 (bk .add 3 22 1),mv 22 65] 0 none)
def A24v9:AC:=(.seq (.block 1
 (.seq (.region 5 [o1 24 (.indexAddr 26 49 3 (tm 20) (tm 22)),o1 25 (ln 49 3 24),o1 6 (.alloc 0 49 [vci 0,vcs ByteArray.empty,vcs ByteArray.empty]),o0 (.store 49 3 (tm 6) (tm 25))] 1 none) []
  (.seq (.region 6 [o1 26 (fa 49 6 2 2),o1 27 (lo 9 26),o1 28 (fa 49 6 1 1),o1 29 (lo 9 28),o1 7 (sg 27),o1 8 (sg 29)] 0 (some [[],[0],[],[2],[0,1],(rl 0 5 [])])) []
  (.seq (.seq (.region 7 [o1 30 (fa 49 6 0 0),o1 31 (lo 3 30)] 0 none) []
  (.block 2
  (.seq (.region 8 [o1 33 (bk .eql 3 31 1),o1 32 (sg 33)] 0 none) []
   (.cond (tm 32)
   .skip
   (.seq (.region 9 [o1 35 (bk .eql 3 31 2),o1 34 (sg 35)] 0 none) []
    (.cond (tm 34)
    (.region 10 [o1 36 (fa 49 6 1 1),o1 37 (lo 9 36),o1 38 (fa 49 6 2 2),o1 39 (lo 9 38),o1 7 (sg 37),o1 8 (sg 39)] 0 (some [[],[0],[],[2],[0,1],(rl 0 5 [])]))
    (.exit 1 (0 :: 1 :: 2 :: (rl 5 15 (rl 23 56 [])))))))))) (rl 30 10 [])
  A24v7)))) (6 :: 7 :: 8 :: 10 :: 12 :: (rl 24 41 []))
 A24v8)
def A24v10:AC:=(.seq (.region 4 [o1 23 (bt .lss 3 22 21)] 0 none) []
 (.seq (.cond (tm 23)
 .skip
 (.exit 0 (rl 0 4 (rl 5 74 [])))) []
 A24v9))
def A24v11:AC:=(.seq (.region 22 [o1 13 (.assign (.const (.slice none 0 0)))] 0 none) []
 (.label 0))
def A24:AF:=⟨79,[.set 4 13 79],
 (.seq (.region 0 [o1 1 (bx 0 28 0),o1 2 (.assign (.const (.slice none 0 0)))] 1 none) []
 (.seq (.region 1 [o1 15 (ln 28 6 1),o1 16 (cf 26 [15] [28]),o1 17 (cf 51 [16] [37]),o1 3 (sg 17)] 0 none) []
 (.seq (.region 2 [o1 18 (.makeMap 0 106),o1 4 (sg 18)] 1 none) []
 (.seq (.seq (.region 3 [o1 19 (fa 28 1 5 5),o1 20 (lo 26 19),o1 21 (.len 26 false (tm 20)),o1 22 (.move (ic 0))] 0 none) []
 (.block 0
 (.loop [] (0 :: 1 :: 2 :: (rl 5 15 (rl 23 56 [])))
  A24v10))) (6 :: 7 :: 8 :: 10 :: 12 :: (rl 19 47 []))
 A24v11))))⟩
def P24:AC :=
 (.seq (.region 27 [mv 76 13,o1 77 (.turn 52 (tm 76) [(.func 53)] [52,110])] 0 none) []
 (.seq (.region 28 [mv 78 13,o1 2 (sg 78)] 0 none) []
 (.ret (0 :: 1 :: (rl 3 76 [])))))
def N276v8:St→Option St:=nN 3 (0 :: 1 :: 2 :: 5 :: 6 :: 7 :: 9 :: (rl 11 9 (rl 23 19 (rl 45 5 (rl 53 26 [])))))
def s276v0:St:=⟨(us 3 (.x (.c (.mp n0 f0)) :: .x (.own 1 0 0) :: (us 3 (vxs w0 :: .u :: vxi i0 :: (us 9 (.x (.c (ro kF n1 f1)) :: vxi i1 :: vxi i2 :: (us 19 (.x (.c (ro (.pr (.int .i64) .nil) n2 f2)) :: vxi i3 :: vxi i4 :: (us 5 (.x (.c (ro (.pr (.int .i64) .nil) n3 f3)) :: vxi i5 :: vxi i6 :: (us 26 []))))))))))),[.box [(vcs w1),(.c (ro kE n4 f4)),(.c (ro kA n5 f5)),(.c (ro kG n6 f6)),(.c (ro kC n7 f7)),(.c (ro kF n1 f1))],.set n8 f8,.box [(vci i7),(vcs w0),(vcs w2)]]⟩
def s276v1:St:=⟨(us 3 (.x (.c (.mp n0 f0)) :: .x (.own 1 0 0) :: (us 3 (vxs w0 :: (us 11 (.x (.c (ro kF n1 f1)) :: vxi i0 :: vxi i1 :: (us 19 (.x (.c (ro (.pr (.int .i64) .nil) n2 f2)) :: vxi i2 :: vxi i3 :: (us 34 []))))))))),[.box [(vcs w1),(.c (ro kE n3 f3)),(.c (ro kA n4 f4)),(.c (ro kG n5 f5)),(.c (ro kC n6 f6)),(.c (ro kF n1 f1))],.set n7 f7,.box [(vci i4),(vcs w0),(vcs w2)]]⟩
def L276v8 {ρ:Type} (u:Nat) (x0:Nat) (x1:FF) (x2:ByteArray) (x3:Int) (x4:Nat) (x5:FF) (x6 x7:Int) (x8:Nat) (x9:FF) (xA xB:Int) (xC:Nat) (xD:FF) (xE:Int) (xF:ByteArray) (xG:Nat) (xH:FF) (xI:Nat) (xJ:FF) (xK:Nat) (xL:FF) (xM:Nat) (xN:FF) (xO:Int) (xP:ByteArray):Nat→Int→Nat→FF→(Nat→FF→Option ρ)→Option ρ
 | 0,_,_,_,_=>none
 | m+1,xQ,xR,xS,k0 =>
  (bif (decide (xQ<xE)) then (bif (inb xQ xC) then (bif (x3 != (xD xQ.toNat 0).int) then (L276v8 u x0 x1 x2 x3 x4 x5 x6 x7 x8 x9 xA xB xC xD xE xF xG xH xI xJ xK xL xM xN xO xP m (w64 (xQ+1)) (putN xR xS x3 (xD xQ.toNat 0).int) (putR xR xS x3 (xD xQ.toNat 0).int) k0) else (L276v8 u x0 x1 x2 x3 x4 x5 x6 x7 x8 x9 xA xB xC xD xE xF xG xH xI xJ xK xL xM xN xO xP m (w64 (xQ+1)) xR xS k0)) else none) else (k0 xR xS))
theorem nl276v8:∀ (m:Nat) (x0:Int) (x1:Nat) (x2:FF) (k0:Nat→FF→Option ρ),ob (L276v8 u n0 f0 w0 i0 n1 f1 i1 i2 n2 f2 i3 i4 n3 f3 i5 w1 n4 f4 n5 f5 n6 f6 n7 f7 i6 w2 m x0 x1 x2 k0) ng=L276v8 u n0 f0 w0 i0 n1 f1 i1 i2 n2 f2 i3 i4 n3 f3 i5 w1 n4 f4 n5 f5 n6 f6 n7 f7 i6 w2 m x0 x1 x2 (fun x3 x4=>ob (k0 x3 x4) ng)
 | 0,_,_,_,_=>rfl
 | m+1,x0,x1,x2,k0=>by
  simp only [L276v8,ob_bif,ob_ob,ob_none,nl276v8 m]
theorem q276v8:∀ (m:Nat) (x0:Int) (x1:Nat) (x2:FF),
  loopH (eB A24v3 (C68 u) u) N276v8 m (s276v0 n0 n1 n2 n3 n4 n5 n6 n7 x1 f0 f1 f2 f3 f4 f5 f6 f7 x2 i0 i1 i2 i3 i4 i5 x0 i6 w0 w1 w2) k=L276v8 u n0 f0 w0 i0 n1 f1 i1 i2 n2 f2 i3 i4 n3 f3 i5 w1 n4 f4 n5 f5 n6 f6 n7 f7 i6 w2 m x0 x1 x2 (fun x3 x4=>k (.exit 5) (s276v1 n0 n1 n2 n4 n5 n6 n7 x3 f0 f1 f2 f4 f5 f6 f7 x4 i1 i2 i3 i4 i6 w0 w1 w2))
 | 0,_,_,_=>rfl
 | m+1,x0,x1,x2=>by
  simp only [L276v8,← q276v8 m]
  kernel_rfl
def N276v9:St→Option St:=nN 3 (0 :: 1 :: 2 :: 5 :: 6 :: 7 :: (rl 9 11 (rl 23 19 (rl 45 34 []))))
def s276v2:St:=⟨(us 3 (.x (.c (.mp n0 f0)) :: .x (.own 1 0 0) :: (us 3 (vxs w0 :: (us 11 (.x (.c (ro kF n1 f1)) :: vxi i0 :: vxi i1 :: (us 19 (.x (.c (ro (.pr (.int .i64) .nil) n2 f2)) :: vxi i2 :: vxi i3 :: (us 34 []))))))))),[.box [(vcs w1),(.c (ro kE n3 f3)),(.c (ro kA n4 f4)),(.c (ro kG n5 f5)),(.c (ro kC n6 f6)),(.c (ro kF n1 f1))],.set n7 f7,.box [(vci i4),(vcs w0),(vcs w2)]]⟩
def s276v3:St:=⟨(us 3 (.x (.c (.mp n0 f0)) :: .x (.own 1 0 0) :: (us 15 (.x (.c (ro kF n1 f1)) :: vxi i0 :: vxi i1 :: (us 56 []))))),[.box [(vcs w0),(.c (ro kE n2 f2)),(.c (ro kA n3 f3)),(.c (ro kG n4 f4)),(.c (ro kC n5 f5)),(.c (ro kF n1 f1))],.set n6 f6,.box [(vci i2),(vcs w1),(vcs w2)]]⟩
def L276v9 {ρ:Type} (u:Nat) (x0:Nat) (x1:FF) (x2:ByteArray) (x3:Nat) (x4:FF) (x5 x6:Int) (x7:Nat) (x8:FF) (x9:Int) (xA:ByteArray) (xB:Nat) (xC:FF) (xD:Nat) (xE:FF) (xF:Nat) (xG:FF) (xH:Nat) (xI:FF) (xJ:Int) (xK:ByteArray):Nat→Int→Nat→FF→(Nat→FF→Option ρ)→Option ρ
 | 0,_,_,_,_=>none
 | m+1,xL,xM,xN,k0 =>
  (bif (decide (xL<x9)) then (bif (inb xL x7) then (L276v8 u x0 x1 x2 (x8 xL.toNat 0).int x3 x4 x5 x6 x7 x8 x9 xL (idxN x0 x1 x2) (idxF x0 x1 x2) (Int.ofNat (idxN x0 x1 x2)) xA xB xC xD xE xF xG xH xI xJ xK u 0 xM xN
  (fun xO xP=>(L276v9 u x0 x1 x2 x3 x4 x5 x6 x7 x8 x9 xA xB xC xD xE xF xG xH xI xJ xK m (w64 (xL+1)) xO xP k0))) else none) else (k0 xM xN))
theorem nl276v9:∀ (m:Nat) (x0:Int) (x1:Nat) (x2:FF) (k0:Nat→FF→Option ρ),ob (L276v9 u n0 f0 w0 n1 f1 i0 i1 n2 f2 i2 w1 n3 f3 n4 f4 n5 f5 n6 f6 i3 w2 m x0 x1 x2 k0) ng=L276v9 u n0 f0 w0 n1 f1 i0 i1 n2 f2 i2 w1 n3 f3 n4 f4 n5 f5 n6 f6 i3 w2 m x0 x1 x2 (fun x3 x4=>ob (k0 x3 x4) ng)
 | 0,_,_,_,_=>rfl
 | m+1,x0,x1,x2,k0=>by
  simp only [L276v9,ob_bif,ob_ob,ob_none,nl276v9 m,nl276v8]
def s276v4:St:=⟨(us 3 (.x (.c (.mp n0 f0)) :: .x (.own 1 0 0) :: (us 3 (vxs w0 :: .u :: vxi (f1 i0.toNat 0).int :: (us 9 (.x (.c (ro kF n1 f2)) :: vxi i1 :: vxi i2 :: (us 19 (.x (.c (ro (.pr (.int .i64) .nil) n2 f1)) :: vxi i3 :: vxi i0 :: vxb true :: .x (.c (.rp (.pr (.int .i64) .nil) (f1 i0.toNat))) :: vxi (f1 i0.toNat 0).int :: .x (.c (.mp n0 f0)) :: vxs w0 :: .x (.c (ro (.pr (.int .i64) .nil) (idxN n0 f0 w0) (idxF n0 f0 w0))) :: vxi (Int.ofNat (idxN n0 f0 w0)) :: vxi 0 :: (us 26 []))))))))),[.box [(vcs w1),(.c (ro kE n3 f3)),(.c (ro kA n4 f4)),(.c (ro kG n5 f5)),(.c (ro kC n6 f6)),(.c (ro kF n1 f2))],.set n7 f7,.box [(vci i4),(vcs w0),(vcs w2)]]⟩
theorem r276v9 :
  loopH (eB A24v6 (C68 u) u) N276v9 (m+1) (s276v2 n0 n1 n2 n3 n4 n5 n6 n7 f0 f1 f2 f3 f4 f5 f6 f7 i0 i1 i2 i4 i3 w0 w1 w2) k =
  (bif (decide (i4<i2)) then (bif (inb i4 n2) then (loopN (eB A24v3 (C68 u) u) N276v8 u (s276v4 n0 n1 n2 n3 n4 n5 n6 n7 f0 f2 f1 f3 f4 f5 f6 f7 i4 i0 i1 i2 i3 w0 w1 w2) (kBlk 5 (kBlk 4 (kSeq (C68 u) u (10 :: 12 :: (rl 46 18 [])) A24v4 (kLoop (eB A24v6 (C68 u) u) N276v9 m k))))) else none) else (k (.exit 3) (s276v3 n0 n1 n3 n4 n5 n6 n7 f0 f1 f3 f4 f5 f6 f7 i0 i1 i3 w1 w0 w2))):=by kernel_rfl
theorem t276v1 :
  loopN (eB A24v3 (C68 u) u) N276v8 u (s276v4 n0 n1 n2 n3 n4 n5 n6 n7 f0 f1 f2 f3 f4 f5 f6 f7 i0 i1 i2 i3 i4 w0 w1 w2) k =
  L276v8 u n0 f0 w0 (f1 i0.toNat 0).int n1 f2 i1 i2 n2 f1 i3 i0 (idxN n0 f0 w0) (idxF n0 f0 w0) (Int.ofNat (idxN n0 f0 w0)) w1 n3 f3 n4 f4 n5 f5 n6 f6 i4 w2 u 0 n7 f7 (fun x0 x1=>k (.exit 5) (s276v1 n0 n1 n2 n3 n4 n5 n6 x0 f0 f2 f1 f3 f4 f5 f6 x1 i1 i2 i3 i0 i4 w0 w1 w2)) :=
 Eq.trans (loopN_at (by kernel_rfl)) (q276v8 ..)
theorem g276v2 :
  (kBlk 5 (kBlk 4 (kSeq (C68 u) u (10 :: 12 :: (rl 46 18 [])) A24v4 (kLoop (eB A24v6 (C68 u) u) N276v9 m k)))) (.exit 5) (s276v1 n0 n1 n2 n3 n4 n5 n6 n7 f0 f1 f2 f3 f4 f5 f6 f7 i0 i1 i2 i3 i4 w0 w1 w2) =
  (loopH (eB A24v6 (C68 u) u) N276v9 m (s276v2 n0 n1 n2 n3 n4 n5 n6 n7 f0 f1 f2 f3 f4 f5 f6 f7 i0 i1 i2 (w64 (i3+1)) i4 w0 w1 w2) k):=by kernel_rfl
theorem q276v9:∀ (m:Nat) (x0:Int) (x1:Nat) (x2:FF),
  loopH (eB A24v6 (C68 u) u) N276v9 m (s276v2 n0 n1 n2 n3 n4 n5 n6 x1 f0 f1 f2 f3 f4 f5 f6 x2 i0 i1 i2 x0 i3 w0 w1 w2) k=L276v9 u n0 f0 w0 n1 f1 i0 i1 n2 f2 i2 w1 n3 f3 n4 f4 n5 f5 n6 f6 i3 w2 m x0 x1 x2 (fun x3 x4=>k (.exit 3) (s276v3 n0 n1 n3 n4 n5 n6 x3 f0 f1 f3 f4 f5 f6 x4 i0 i1 i3 w1 w0 w2))
 | 0,_,_,_=>rfl
 | m+1,x0,x1,x2=>by
  rw [r276v9]
  simp only [L276v9,q276v9 m,t276v1,g276v2]
def N276v11:St→Option St:=nN 3 (0 :: 1 :: 2 :: 5 :: 6 :: 7 :: 9 :: (rl 11 9 (rl 23 19 (rl 45 5 (rl 53 26 [])))))
def s276v5:St:=⟨(us 3 (.x (.c (.mp n0 f0)) :: .x (.own 1 0 0) :: (us 3 (vxs w0 :: .u :: vxi i0 :: (us 9 (.x (.c (ro kF n1 f1)) :: vxi i1 :: vxi i2 :: (us 19 (.x (.c (ro (.pr (.int .i64) .nil) n2 f2)) :: vxi i3 :: vxi i4 :: (us 5 (.x (.c (ro (.pr (.int .i64) .nil) n3 f3)) :: vxi i5 :: vxi i6 :: (us 26 []))))))))))),[.box [(vcs w1),(.c (ro kE n4 f4)),(.c (ro kA n5 f5)),(.c (ro kG n6 f6)),(.c (ro kC n7 f7)),(.c (ro kF n1 f1))],.set n8 f8,.box [(vci i7),(vcs w2),(vcs w0)]]⟩
def s276v6:St:=⟨(us 3 (.x (.c (.mp n0 f0)) :: .x (.own 1 0 0) :: (us 3 (vxs w0 :: (us 11 (.x (.c (ro kF n1 f1)) :: vxi i0 :: vxi i1 :: (us 19 (.x (.c (ro (.pr (.int .i64) .nil) n2 f2)) :: vxi i2 :: vxi i3 :: (us 34 []))))))))),[.box [(vcs w1),(.c (ro kE n3 f3)),(.c (ro kA n4 f4)),(.c (ro kG n5 f5)),(.c (ro kC n6 f6)),(.c (ro kF n1 f1))],.set n7 f7,.box [(vci i4),(vcs w2),(vcs w0)]]⟩
def L276v11 {ρ:Type} (u:Nat) (x0:Nat) (x1:FF) (x2:ByteArray) (x3:Int) (x4:Nat) (x5:FF) (x6 x7:Int) (x8:Nat) (x9:FF) (xA xB:Int) (xC:Nat) (xD:FF) (xE:Int) (xF:ByteArray) (xG:Nat) (xH:FF) (xI:Nat) (xJ:FF) (xK:Nat) (xL:FF) (xM:Nat) (xN:FF) (xO:Int) (xP:ByteArray):Nat→Int→Nat→FF→(Nat→FF→Option ρ)→Option ρ
 | 0,_,_,_,_=>none
 | m+1,xQ,xR,xS,k0 =>
  (bif (decide (xQ<xE)) then (bif (inb xQ xC) then (bif (x3 != (xD xQ.toNat 0).int) then (L276v11 u x0 x1 x2 x3 x4 x5 x6 x7 x8 x9 xA xB xC xD xE xF xG xH xI xJ xK xL xM xN xO xP m (w64 (xQ+1)) (putN xR xS x3 (xD xQ.toNat 0).int) (putR xR xS x3 (xD xQ.toNat 0).int) k0) else (L276v11 u x0 x1 x2 x3 x4 x5 x6 x7 x8 x9 xA xB xC xD xE xF xG xH xI xJ xK xL xM xN xO xP m (w64 (xQ+1)) xR xS k0)) else none) else (k0 xR xS))
theorem nl276v11:∀ (m:Nat) (x0:Int) (x1:Nat) (x2:FF) (k0:Nat→FF→Option ρ),ob (L276v11 u n0 f0 w0 i0 n1 f1 i1 i2 n2 f2 i3 i4 n3 f3 i5 w1 n4 f4 n5 f5 n6 f6 n7 f7 i6 w2 m x0 x1 x2 k0) ng=L276v11 u n0 f0 w0 i0 n1 f1 i1 i2 n2 f2 i3 i4 n3 f3 i5 w1 n4 f4 n5 f5 n6 f6 n7 f7 i6 w2 m x0 x1 x2 (fun x3 x4=>ob (k0 x3 x4) ng)
 | 0,_,_,_,_=>rfl
 | m+1,x0,x1,x2,k0=>by
  simp only [L276v11,ob_bif,ob_ob,ob_none,nl276v11 m]
theorem q276v11:∀ (m:Nat) (x0:Int) (x1:Nat) (x2:FF),
  loopH (eB A24v3 (C68 u) u) N276v11 m (s276v5 n0 n1 n2 n3 n4 n5 n6 n7 x1 f0 f1 f2 f3 f4 f5 f6 f7 x2 i0 i1 i2 i3 i4 i5 x0 i6 w0 w1 w2) k=L276v11 u n0 f0 w0 i0 n1 f1 i1 i2 n2 f2 i3 i4 n3 f3 i5 w1 n4 f4 n5 f5 n6 f6 n7 f7 i6 w2 m x0 x1 x2 (fun x3 x4=>k (.exit 5) (s276v6 n0 n1 n2 n4 n5 n6 n7 x3 f0 f1 f2 f4 f5 f6 f7 x4 i1 i2 i3 i4 i6 w0 w1 w2))
 | 0,_,_,_=>rfl
 | m+1,x0,x1,x2=>by
  simp only [L276v11,← q276v11 m]
  kernel_rfl
def N276v12:St→Option St:=nN 3 (0 :: 1 :: 2 :: 5 :: 6 :: 7 :: (rl 9 11 (rl 23 19 (rl 45 34 []))))
def s276v7:St:=⟨(us 3 (.x (.c (.mp n0 f0)) :: .x (.own 1 0 0) :: (us 3 (vxs w0 :: (us 11 (.x (.c (ro kF n1 f1)) :: vxi i0 :: vxi i1 :: (us 19 (.x (.c (ro (.pr (.int .i64) .nil) n2 f2)) :: vxi i2 :: vxi i3 :: (us 34 []))))))))),[.box [(vcs w1),(.c (ro kE n3 f3)),(.c (ro kA n4 f4)),(.c (ro kG n5 f5)),(.c (ro kC n6 f6)),(.c (ro kF n1 f1))],.set n7 f7,.box [(vci i4),(vcs w2),(vcs w0)]]⟩
def s276v8:St:=⟨(us 3 (.x (.c (.mp n0 f0)) :: .x (.own 1 0 0) :: (us 15 (.x (.c (ro kF n1 f1)) :: vxi i0 :: vxi i1 :: (us 56 []))))),[.box [(vcs w0),(.c (ro kE n2 f2)),(.c (ro kA n3 f3)),(.c (ro kG n4 f4)),(.c (ro kC n5 f5)),(.c (ro kF n1 f1))],.set n6 f6,.box [(vci i2),(vcs w1),(vcs w2)]]⟩
def L276v12 {ρ:Type} (u:Nat) (x0:Nat) (x1:FF) (x2:ByteArray) (x3:Nat) (x4:FF) (x5 x6:Int) (x7:Nat) (x8:FF) (x9:Int) (xA:ByteArray) (xB:Nat) (xC:FF) (xD:Nat) (xE:FF) (xF:Nat) (xG:FF) (xH:Nat) (xI:FF) (xJ:Int) (xK:ByteArray):Nat→Int→Nat→FF→(Nat→FF→Option ρ)→Option ρ
 | 0,_,_,_,_=>none
 | m+1,xL,xM,xN,k0 =>
  (bif (decide (xL<x9)) then (bif (inb xL x7) then (L276v11 u x0 x1 x2 (x8 xL.toNat 0).int x3 x4 x5 x6 x7 x8 x9 xL (idxN x0 x1 x2) (idxF x0 x1 x2) (Int.ofNat (idxN x0 x1 x2)) xA xB xC xD xE xF xG xH xI xJ xK u 0 xM xN
  (fun xO xP=>(L276v12 u x0 x1 x2 x3 x4 x5 x6 x7 x8 x9 xA xB xC xD xE xF xG xH xI xJ xK m (w64 (xL+1)) xO xP k0))) else none) else (k0 xM xN))
theorem nl276v12:∀ (m:Nat) (x0:Int) (x1:Nat) (x2:FF) (k0:Nat→FF→Option ρ),ob (L276v12 u n0 f0 w0 n1 f1 i0 i1 n2 f2 i2 w1 n3 f3 n4 f4 n5 f5 n6 f6 i3 w2 m x0 x1 x2 k0) ng=L276v12 u n0 f0 w0 n1 f1 i0 i1 n2 f2 i2 w1 n3 f3 n4 f4 n5 f5 n6 f6 i3 w2 m x0 x1 x2 (fun x3 x4=>ob (k0 x3 x4) ng)
 | 0,_,_,_,_=>rfl
 | m+1,x0,x1,x2,k0=>by
  simp only [L276v12,ob_bif,ob_ob,ob_none,nl276v12 m,nl276v11]
def s276v9:St:=⟨(us 3 (.x (.c (.mp n0 f0)) :: .x (.own 1 0 0) :: (us 3 (vxs w0 :: .u :: vxi (f1 i0.toNat 0).int :: (us 9 (.x (.c (ro kF n1 f2)) :: vxi i1 :: vxi i2 :: (us 19 (.x (.c (ro (.pr (.int .i64) .nil) n2 f1)) :: vxi i3 :: vxi i0 :: vxb true :: .x (.c (.rp (.pr (.int .i64) .nil) (f1 i0.toNat))) :: vxi (f1 i0.toNat 0).int :: .x (.c (.mp n0 f0)) :: vxs w0 :: .x (.c (ro (.pr (.int .i64) .nil) (idxN n0 f0 w0) (idxF n0 f0 w0))) :: vxi (Int.ofNat (idxN n0 f0 w0)) :: vxi 0 :: (us 26 []))))))))),[.box [(vcs w1),(.c (ro kE n3 f3)),(.c (ro kA n4 f4)),(.c (ro kG n5 f5)),(.c (ro kC n6 f6)),(.c (ro kF n1 f2))],.set n7 f7,.box [(vci i4),(vcs w2),(vcs w0)]]⟩
theorem r276v12 :
  loopH (eB A24v6 (C68 u) u) N276v12 (m+1) (s276v7 n0 n1 n2 n3 n4 n5 n6 n7 f0 f1 f2 f3 f4 f5 f6 f7 i0 i1 i2 i4 i3 w0 w1 w2) k =
  (bif (decide (i4<i2)) then (bif (inb i4 n2) then (loopN (eB A24v3 (C68 u) u) N276v11 u (s276v9 n0 n1 n2 n3 n4 n5 n6 n7 f0 f2 f1 f3 f4 f5 f6 f7 i4 i0 i1 i2 i3 w0 w1 w2) (kBlk 5 (kBlk 4 (kSeq (C68 u) u (10 :: 12 :: (rl 46 18 [])) A24v4 (kLoop (eB A24v6 (C68 u) u) N276v12 m k))))) else none) else (k (.exit 3) (s276v8 n0 n1 n3 n4 n5 n6 n7 f0 f1 f3 f4 f5 f6 f7 i0 i1 i3 w1 w2 w0))):=by kernel_rfl
theorem t276v3 :
  loopN (eB A24v3 (C68 u) u) N276v11 u (s276v9 n0 n1 n2 n3 n4 n5 n6 n7 f0 f1 f2 f3 f4 f5 f6 f7 i0 i1 i2 i3 i4 w0 w1 w2) k =
  L276v11 u n0 f0 w0 (f1 i0.toNat 0).int n1 f2 i1 i2 n2 f1 i3 i0 (idxN n0 f0 w0) (idxF n0 f0 w0) (Int.ofNat (idxN n0 f0 w0)) w1 n3 f3 n4 f4 n5 f5 n6 f6 i4 w2 u 0 n7 f7 (fun x0 x1=>k (.exit 5) (s276v6 n0 n1 n2 n3 n4 n5 n6 x0 f0 f2 f1 f3 f4 f5 f6 x1 i1 i2 i3 i0 i4 w0 w1 w2)) :=
 Eq.trans (loopN_at (by kernel_rfl)) (q276v11 ..)
theorem g276v4 :
  (kBlk 5 (kBlk 4 (kSeq (C68 u) u (10 :: 12 :: (rl 46 18 [])) A24v4 (kLoop (eB A24v6 (C68 u) u) N276v12 m k)))) (.exit 5) (s276v6 n0 n1 n2 n3 n4 n5 n6 n7 f0 f1 f2 f3 f4 f5 f6 f7 i0 i1 i2 i3 i4 w0 w1 w2) =
  (loopH (eB A24v6 (C68 u) u) N276v12 m (s276v7 n0 n1 n2 n3 n4 n5 n6 n7 f0 f1 f2 f3 f4 f5 f6 f7 i0 i1 i2 (w64 (i3+1)) i4 w0 w1 w2) k):=by kernel_rfl
theorem q276v12:∀ (m:Nat) (x0:Int) (x1:Nat) (x2:FF),
  loopH (eB A24v6 (C68 u) u) N276v12 m (s276v7 n0 n1 n2 n3 n4 n5 n6 x1 f0 f1 f2 f3 f4 f5 f6 x2 i0 i1 i2 x0 i3 w0 w1 w2) k=L276v12 u n0 f0 w0 n1 f1 i0 i1 n2 f2 i2 w1 n3 f3 n4 f4 n5 f5 n6 f6 i3 w2 m x0 x1 x2 (fun x3 x4=>k (.exit 3) (s276v8 n0 n1 n3 n4 n5 n6 x3 f0 f1 f3 f4 f5 f6 x4 i0 i1 i3 w1 w2 w0))
 | 0,_,_,_=>rfl
 | m+1,x0,x1,x2=>by
  rw [r276v12]
  simp only [L276v12,q276v12 m,t276v3,g276v4]
def N276v13:St→Option St:=nN 2 (0 :: 1 :: 2 :: (rl 5 15 (rl 23 56 [])))
def s276v10:St:=⟨(us 3 (.x (.c (.mp n0 f0)) :: .x (.own 1 0 0) :: (us 15 (.x (.c (ro kF n1 f1)) :: vxi i0 :: vxi i1 :: (us 56 []))))),[.box [(vcs w0),(.c (ro kE n2 f2)),(.c (ro kA n3 f3)),(.c (ro kG n4 f4)),(.c (ro kC n5 f5)),(.c (ro kF n1 f1))],.set n6 f6]⟩
def s276v11:St:=⟨(us 4 (.x (.own 1 0 0) :: (us 74 []))),[.box [(vcs w0),(.c (ro kE n0 f0)),(.c (ro kA n1 f1)),(.c (ro kG n2 f2)),(.c (ro kC n3 f3)),(.c (ro kF n4 f4))],.set n5 f5]⟩
def L276v13 {ρ:Type} (u:Nat) (x0:Nat) (x1:FF) (x2:Nat) (x3:FF) (x4:Int) (x5:ByteArray) (x6:Nat) (x7:FF) (x8:Nat) (x9:FF) (xA:Nat) (xB:FF) (xC:Nat) (xD:FF):Nat→Int→Nat→FF→(Nat→FF→Option ρ)→Option ρ
 | 0,_,_,_,_=>none
 | m+1,xE,xF,xG,k0 =>
  (bif (decide (xE<x4)) then (bif (inb xE x2) then (bif ((x3 xE.toNat 0).int==1) then (L276v9 u x0 x1 (x3 xE.toNat 1).str x2 x3 x4 xE (idxN x0 x1 (x3 xE.toNat 2).str) (idxF x0 x1 (x3 xE.toNat 2).str) (Int.ofNat (idxN x0 x1 (x3 xE.toNat 2).str)) x5 x6 x7 x8 x9 xA xB xC xD (x3 xE.toNat 0).int (x3 xE.toNat 2).str u 0 xF xG
  (fun xH xI=>(L276v13 u x0 x1 x2 x3 x4 x5 x6 x7 x8 x9 xA xB xC xD m (w64 (xE+1)) xH xI k0))) else (bif ((x3 xE.toNat 0).int==2) then (L276v12 u x0 x1 (x3 xE.toNat 2).str x2 x3 x4 xE (idxN x0 x1 (x3 xE.toNat 1).str) (idxF x0 x1 (x3 xE.toNat 1).str) (Int.ofNat (idxN x0 x1 (x3 xE.toNat 1).str)) x5 x6 x7 x8 x9 xA xB xC xD (x3 xE.toNat 0).int (x3 xE.toNat 1).str u 0 xF xG
  (fun xJ xK=>(L276v13 u x0 x1 x2 x3 x4 x5 x6 x7 x8 x9 xA xB xC xD m (w64 (xE+1)) xJ xK k0))) else (L276v13 u x0 x1 x2 x3 x4 x5 x6 x7 x8 x9 xA xB xC xD m (w64 (xE+1)) xF xG k0))) else none) else (k0 xF xG))
theorem nl276v13:∀ (m:Nat) (x0:Int) (x1:Nat) (x2:FF) (k0:Nat→FF→Option ρ),ob (L276v13 u n0 f0 n1 f1 i0 w0 n2 f2 n3 f3 n4 f4 n5 f5 m x0 x1 x2 k0) ng=L276v13 u n0 f0 n1 f1 i0 w0 n2 f2 n3 f3 n4 f4 n5 f5 m x0 x1 x2 (fun x3 x4=>ob (k0 x3 x4) ng)
 | 0,_,_,_,_=>rfl
 | m+1,x0,x1,x2,k0=>by
  simp only [L276v13,ob_bif,ob_ob,ob_none,nl276v13 m,nl276v9,nl276v12]
def s276v12:St:=⟨(us 3 (.x (.c (.mp n0 f0)) :: .x (.own 1 0 0) :: .u :: .x (.ptr 2 0) :: vxs (f1 i0.toNat 2).str :: vxs (f1 i0.toNat 1).str :: (us 11 (.x (.c (ro kF n1 f1)) :: vxi i1 :: vxi i0 :: vxb true :: .x (.c (.rp kF (f1 i0.toNat))) :: .agg [(vci (f1 i0.toNat 0).int),(vcs (f1 i0.toNat 1).str),(vcs (f1 i0.toNat 2).str)] :: .x (.ptr 2 2) :: vxs (f1 i0.toNat 2).str :: .x (.ptr 2 1) :: vxs (f1 i0.toNat 1).str :: (us 10 (.x (.c (.mp n0 f0)) :: vxs (f1 i0.toNat 2).str :: .x (.c (ro (.pr (.int .i64) .nil) (idxN n0 f0 (f1 i0.toNat 2).str) (idxF n0 f0 (f1 i0.toNat 2).str))) :: vxi (Int.ofNat (idxN n0 f0 (f1 i0.toNat 2).str)) :: vxi 0 :: (us 34 []))))))),[.box [(vcs w0),(.c (ro kE n2 f2)),(.c (ro kA n3 f3)),(.c (ro kG n4 f4)),(.c (ro kC n5 f5)),(.c (ro kF n1 f1))],.set n6 f6,.box [(vci (f1 i0.toNat 0).int),(vcs (f1 i0.toNat 1).str),(vcs (f1 i0.toNat 2).str)]]⟩
def s276v13:St:=⟨(us 3 (.x (.c (.mp n0 f0)) :: .x (.own 1 0 0) :: .u :: .x (.ptr 2 0) :: vxs (f1 i0.toNat 1).str :: vxs (f1 i0.toNat 2).str :: (us 11 (.x (.c (ro kF n1 f1)) :: vxi i1 :: vxi i0 :: vxb true :: .x (.c (.rp kF (f1 i0.toNat))) :: .agg [(vci (f1 i0.toNat 0).int),(vcs (f1 i0.toNat 1).str),(vcs (f1 i0.toNat 2).str)] :: .x (.ptr 2 2) :: vxs (f1 i0.toNat 2).str :: .x (.ptr 2 1) :: vxs (f1 i0.toNat 1).str :: (us 10 (.x (.c (.mp n0 f0)) :: vxs (f1 i0.toNat 1).str :: .x (.c (ro (.pr (.int .i64) .nil) (idxN n0 f0 (f1 i0.toNat 1).str) (idxF n0 f0 (f1 i0.toNat 1).str))) :: vxi (Int.ofNat (idxN n0 f0 (f1 i0.toNat 1).str)) :: vxi 0 :: (us 34 []))))))),[.box [(vcs w0),(.c (ro kE n2 f2)),(.c (ro kA n3 f3)),(.c (ro kG n4 f4)),(.c (ro kC n5 f5)),(.c (ro kF n1 f1))],.set n6 f6,.box [(vci (f1 i0.toNat 0).int),(vcs (f1 i0.toNat 1).str),(vcs (f1 i0.toNat 2).str)]]⟩
theorem r276v13 :
  loopH (eB A24v10 (C68 u) u) N276v13 (m+1) (s276v10 n0 n1 n2 n3 n4 n5 n6 f0 f1 f2 f3 f4 f5 f6 i0 i1 w0) k =
  (bif (decide (i1<i0)) then (bif (inb i1 n1) then (bif ((f1 i1.toNat 0).int==1) then (loopN (eB A24v6 (C68 u) u) N276v9 u (s276v12 n0 n1 n2 n3 n4 n5 n6 f0 f1 f2 f3 f4 f5 f6 i1 i0 w0) (kBlk 3 (kBlk 1 (kSeq (C68 u) u (6 :: 7 :: 8 :: 10 :: 12 :: (rl 24 41 [])) A24v8 (kLoop (eB A24v10 (C68 u) u) N276v13 m k))))) else (bif ((f1 i1.toNat 0).int==2) then (loopN (eB A24v6 (C68 u) u) N276v12 u (s276v13 n0 n1 n2 n3 n4 n5 n6 f0 f1 f2 f3 f4 f5 f6 i1 i0 w0) (kBlk 3 (kBlk 1 (kSeq (C68 u) u (6 :: 7 :: 8 :: 10 :: 12 :: (rl 24 41 [])) A24v8 (kLoop (eB A24v10 (C68 u) u) N276v13 m k))))) else (loopH (eB A24v10 (C68 u) u) N276v13 m (s276v10 n0 n1 n2 n3 n4 n5 n6 f0 f1 f2 f3 f4 f5 f6 i0 (w64 (i1+1)) w0) k))) else none) else (k (.exit 0) (s276v11 n2 n3 n4 n5 n1 n6 f2 f3 f4 f5 f1 f6 w0))):=by kernel_rfl
theorem t276v5 :
  loopN (eB A24v6 (C68 u) u) N276v9 u (s276v12 n0 n1 n2 n3 n4 n5 n6 f0 f1 f2 f3 f4 f5 f6 i0 i1 w0) k =
  L276v9 u n0 f0 (f1 i0.toNat 1).str n1 f1 i1 i0 (idxN n0 f0 (f1 i0.toNat 2).str) (idxF n0 f0 (f1 i0.toNat 2).str) (Int.ofNat (idxN n0 f0 (f1 i0.toNat 2).str)) w0 n2 f2 n3 f3 n4 f4 n5 f5 (f1 i0.toNat 0).int (f1 i0.toNat 2).str u 0 n6 f6 (fun x0 x1=>k (.exit 3) (s276v3 n0 n1 n2 n3 n4 n5 x0 f0 f1 f2 f3 f4 f5 x1 i1 i0 (f1 i0.toNat 0).int w0 (f1 i0.toNat 1).str (f1 i0.toNat 2).str)) :=
 Eq.trans (loopN_at (by kernel_rfl)) (q276v9 ..)
theorem g276v6 :
  (kBlk 3 (kBlk 1 (kSeq (C68 u) u (6 :: 7 :: 8 :: 10 :: 12 :: (rl 24 41 [])) A24v8 (kLoop (eB A24v10 (C68 u) u) N276v13 m k)))) (.exit 3) (s276v3 n0 n1 n2 n3 n4 n5 n6 f0 f1 f2 f3 f4 f5 f6 i0 i1 (f1 i1.toNat 0).int w0 (f1 i1.toNat 1).str (f1 i1.toNat 2).str) =
  (loopH (eB A24v10 (C68 u) u) N276v13 m (s276v10 n0 n1 n2 n3 n4 n5 n6 f0 f1 f2 f3 f4 f5 f6 i0 (w64 (i1+1)) w0) k):=by kernel_rfl
theorem t276v7 :
  loopN (eB A24v6 (C68 u) u) N276v12 u (s276v13 n0 n1 n2 n3 n4 n5 n6 f0 f1 f2 f3 f4 f5 f6 i0 i1 w0) k =
  L276v12 u n0 f0 (f1 i0.toNat 2).str n1 f1 i1 i0 (idxN n0 f0 (f1 i0.toNat 1).str) (idxF n0 f0 (f1 i0.toNat 1).str) (Int.ofNat (idxN n0 f0 (f1 i0.toNat 1).str)) w0 n2 f2 n3 f3 n4 f4 n5 f5 (f1 i0.toNat 0).int (f1 i0.toNat 1).str u 0 n6 f6 (fun x0 x1=>k (.exit 3) (s276v8 n0 n1 n2 n3 n4 n5 x0 f0 f1 f2 f3 f4 f5 x1 i1 i0 (f1 i0.toNat 0).int w0 (f1 i0.toNat 1).str (f1 i0.toNat 2).str)) :=
 Eq.trans (loopN_at (by kernel_rfl)) (q276v12 ..)
theorem g276v8 :
  (kBlk 3 (kBlk 1 (kSeq (C68 u) u (6 :: 7 :: 8 :: 10 :: 12 :: (rl 24 41 [])) A24v8 (kLoop (eB A24v10 (C68 u) u) N276v13 m k)))) (.exit 3) (s276v8 n0 n1 n2 n3 n4 n5 n6 f0 f1 f2 f3 f4 f5 f6 i0 i1 (f1 i1.toNat 0).int w0 (f1 i1.toNat 1).str (f1 i1.toNat 2).str) =
  (loopH (eB A24v10 (C68 u) u) N276v13 m (s276v10 n0 n1 n2 n3 n4 n5 n6 f0 f1 f2 f3 f4 f5 f6 i0 (w64 (i1+1)) w0) k):=by kernel_rfl
theorem q276v13:∀ (m:Nat) (x0:Int) (x1:Nat) (x2:FF),
  loopH (eB A24v10 (C68 u) u) N276v13 m (s276v10 n0 n1 n2 n3 n4 n5 x1 f0 f1 f2 f3 f4 f5 x2 i0 x0 w0) k=L276v13 u n0 f0 n1 f1 i0 w0 n2 f2 n3 f3 n4 f4 n5 f5 m x0 x1 x2 (fun x3 x4=>k (.exit 0) (s276v11 n2 n3 n4 n5 n1 x3 f2 f3 f4 f5 f1 x4 w0))
 | 0,_,_,_=>rfl
 | m+1,x0,x1,x2=>by
  rw [r276v13]
  simp only [L276v13,q276v13 m,t276v5,g276v6,t276v7,g276v8]
def FT276 (x0:ByteArray) (x1:Nat) (x2:FF) (x3:Nat) (x4:FF) (x5:Nat) (x6:FF) (x7:Nat) (x8:FF) (x9:Nat) (xA:FF):Option (Nat × FF) :=
 (ob (F251 u x0 x1 x2 x3 x4 x5 x6 x7 x8 x9 xA) fun xB=>(ob (F275 u xB.1 xB.2) fun xC=>(L276v13 u xC.1 xC.2 x9 xA (Int.ofNat x9) x0 x1 x2 x3 x4 x5 x6 x7 x8 u 0 0 (fun _ _=>.any)
  (fun xD xE=>(some (xD,xE))))))
def s276v14 (x0 x1:Nat × FF):St:=⟨[.agg [(vcs w0),(.c (ro kE n0 f0)),(.c (ro kA n1 f1)),(.c (ro kG n2 f2)),(.c (ro kC n3 f3)),(.c (ro kF n4 f4))],.x (.ptr 0 0),.x (vcn),.x (.c (.mp x0.1 x0.2)),.x (.own 1 0 0),uu,uu,uu,uu,uu,uu,uu,uu,uu,uu,.agg [(vcs w0),(.c (ro kE n0 f0)),(.c (ro kA n1 f1)),(.c (ro kG n2 f2)),(.c (ro kC n3 f3)),(.c (ro kF n4 f4))],.x (.c (ro (.pr .str .nil) x1.1 x1.2)),.x (.c (.mp x0.1 x0.2)),.x (.own 1 0 0),.x (.ptr 0 5),.x (.c (ro kF n4 f4)),vxi (Int.ofNat n4),vxi 0,uu,uu,uu,uu,uu,uu,uu,uu,uu,uu,uu,uu,uu,uu,uu,uu,uu,uu,uu,uu,uu,uu,uu,uu,uu,uu,uu,uu,uu,uu,uu,uu,uu,uu,uu,uu,uu,uu,uu,uu,uu,uu,uu,uu,uu,uu,uu,uu,uu,uu,uu,uu,uu,uu,uu,uu],[.box [(vcs w0),(.c (ro kE n0 f0)),(.c (ro kA n1 f1)),(.c (ro kG n2 f2)),(.c (ro kC n3 f3)),(.c (ro kF n4 f4))],.set 0 nilF]⟩
theorem t276v9 (x0 x1:Nat × FF) :
  loopN (eB A24v10 (C68 u) u) N276v13 u (s276v14 n0 n1 n2 n3 n4 f0 f1 f2 f3 f4 w0 x0 x1) k =
  L276v13 u x0.1 x0.2 n4 f4 (Int.ofNat n4) w0 n0 f0 n1 f1 n2 f2 n3 f3 u 0 0 nilF (fun x2 x3=>k (.exit 0) (s276v11 n0 n1 n2 n3 n4 x2 f0 f1 f2 f3 f4 x3 w0)) :=
 Eq.trans (loopN_at (by kernel_rfl)) (q276v13 ..)
theorem g276v10 :
  (kBlk 0 (kSeq (C68 u) u (6 :: 7 :: 8 :: 10 :: 12 :: (rl 19 47 [])) A24v11 (finish A24))) (.exit 0) (s276v11 n0 n1 n2 n3 n4 n5 f0 f1 f2 f3 f4 f5 w0) =
  (some [.v (ro kP n5 f5)]):=by kernel_rfl
theorem e276:evalF (C68 u) u A24 [.agg [(.s w0),(ro kE n0 f0),(ro kA n1 f1),(ro kG n2 f2),(ro kC n3 f3),(ro kF n4 f4)]]=ob (FT276 u w0 n0 f0 n1 f1 n2 f2 n3 f3 n4 f4) fun t=>some [.v (ro kP t.1 t.2)]:=Eq.trans (b:=(ob (F251 u w0 n0 f0 n1 f1 n2 f2 n3 f3 n4 f4) fun x0=>(ob (F275 u x0.1 x0.2) fun x1=>(loopN (eB A24v10 (C68 u) u) N276v13 u (s276v14 n0 n1 n2 n3 n4 f0 f1 f2 f3 f4 w0 x1 x0) (kBlk 0 (kSeq (C68 u) u (6 :: 7 :: 8 :: 10 :: 12 :: (rl 19 47 [])) A24v11 (finish A24))))))) (by kernel_rfl) (by
 simp only [FT276,ob_bif,ob_ob,ob_none,ob_some,nl276v13,t276v9,g276v10])
def F276 (x0:ByteArray) (x1:Nat) (x2:FF) (x3:Nat) (x4:FF) (x5:Nat) (x6:FF) (x7:Nat) (x8:FF) (x9:Nat) (xA:FF):Option (Nat × FF):=sortX (FT276 u x0 x1 x2 x3 x4 x5 x6 x7 x8 x9 xA)
def O276:Ora:=mkO (q1 (ag (tc cS (tc (cL kE) (tc (cL kA) (tc (cL kG) (tc (cL kC) (t1 (cL kF))))))))) (fun x=>F276 u x.1 x.2.1.1 x.2.1.2 x.2.2.1.1 x.2.2.1.2 x.2.2.2.1.1 x.2.2.2.1.2 x.2.2.2.2.1.1 x.2.2.2.2.1.2 x.2.2.2.2.2.1 x.2.2.2.2.2.2) fun t=>[.v (ro kP t.1 t.2)]
theorem p276 (n:Nat) (g:FF):evalC (C68 u) u P24 ⟨colE n,[.arr prK n g]⟩ (finish ⟨79,[.tmp 2],P24⟩)=ob (sortT n g) fun g2=>bif Nat.beq n n then (bif Nat.beq n 0 then some [.v (ro prK n g)] else some [.v (ro prK n g2)]) else none:=by kernel_rfl
theorem d276:DOM 106 54 52 (O276 u) (C68 u) 24 A24 P24 [.tmp 2]:=dM u (fun x=>by exact e276 u x.2.1.1 x.2.2.1.1 x.2.2.2.1.1 x.2.2.2.2.1.1 x.2.2.2.2.2.1 x.2.1.2 x.2.2.1.2 x.2.2.2.1.2 x.2.2.2.2.1.2 x.2.2.2.2.2.2 x.1) (fun n g=>by exact p276 u n g)
def C69:Oracle:=(C68 u).add 24 (fun _=>true) (O276 u)
def A57v1:AC:=(.seq (.region 6 [o1 33 (.indexAddrA 54 3 2 1 (tm 6) (ic 0)),o1 34 (lo 3 33),o1 35 (.indexAddrA 54 3 2 1 (tm 6) (ic 1)),o1 36 (lo 3 35),o1 37 (bt .eql 3 34 36)] 0 none) []
 (.cond (tm 37)
 (.seq (.region 7 [o1 4 (sk 2)] 0 none) []
  (.ret (rl 0 4 (rl 5 34 []))))
 .skip))
def A57v2:AC:=(.region 8 [o1 38 (bk .add 3 9 1),mv 9 38] 0 none)
def A57v3:AC:=(.seq (.block 1
 (.seq (.region 3 [o1 11 (.indexAddr 52 54 2 (tm 7) (tm 9)),o1 12 (ln 54 2 11),o1 6 (.alloc 0 54 [vci 0,vci 0]),o0 (.store 54 2 (tm 6) (tm 12))] 1 none) []
  (.seq (.seq (.region 4 [o1 13 (.indexAddrA 54 3 2 1 (tm 6) (ic 0)),o1 14 (lo 3 13),o1 15 (bk .lss 3 14 0),mv 16 15,og 17 (.indexAddrA 54 3 2 1 (tm 6) (ic 0)) 16 false,og 18 (lo 3 17) 16 false,og 19 (.move (tm 0)) 16 false,og 20 (bt .geq 3 18 19) 16 false,o1 21 (pa 16 20),mv 22 21,og 23 (.indexAddrA 54 3 2 1 (tm 6) (ic 1)) 22 false,og 24 (lo 3 23) 22 false,og 25 (bk .lss 3 24 0) 22 false,o1 26 (pa 22 25),mv 27 26,og 28 (.indexAddrA 54 3 2 1 (tm 6) (ic 1)) 27 false,og 29 (lo 3 28) 27 false,og 30 (.move (tm 0)) 27 false,og 31 (bt .geq 3 29 30) 27 false,o1 32 (pa 27 31)] 0 none) []
  (.cond (tm 32)
  (.seq (.region 5 [o1 4 (sk 9)] 0 none) []
   (.ret (rl 0 4 (rl 5 34 []))))
  .skip)) (4 :: (rl 13 20 []))
  A57v1))) (4 :: 6 :: (rl 11 27 []))
 A57v2)
def A57v4:AC:=(.seq (.region 2 [o1 10 (bt .lss 3 9 8)] 0 none) []
 (.seq (.cond (tm 10)
 .skip
 (.exit 0 (rl 0 39 []))) []
 A57v3))
def A57v5:AC:=(.seq (.region 9 [o1 4 (sk 0)] 0 none) []
 (.ret (rl 0 4 (rl 5 34 []))))
def A57:AF:=⟨39,[.tmp 4],
 (.seq (.region 0 [o1 4 (sk 0)] 0 none) []
 (.seq (.seq (.region 1 [mv 7 1,o1 8 (.len 52 false (tm 7)),o1 9 (.move (ic 0))] 0 none) []
 (.block 0
 (.loop [] (rl 1 6 (rl 10 29 []))
  A57v4))) (4 :: (rl 6 33 []))
 A57v5))⟩
def N224v1:St→Option St:=nN 0 (rl 1 6 (rl 10 29 []))
def s224v0:St:=⟨(vxi i0 :: (us 6 (.x (.c (ro kP n0 f0)) :: vxi i1 :: vxi i2 :: (us 29 [])))),[]⟩
def s224v1:St:=⟨(us 4 (vxi i0 :: (us 34 []))),[.box [(vci i1),(vci i2)]]⟩
def s224v2:St:=⟨(us 39 []),[]⟩
def L224v1 {ρ:Type} (u:Nat) (x0:Int) (x1:Nat) (x2:FF) (x3:Int):Nat→Int→(Int→Int→Int→Option ρ)→(Option ρ)→Option ρ
 | 0,_,_,_=>none
 | m+1,x4,k0,k1 =>
  (bif (decide (x4<x3)) then (bif (inb x4 x1) then (bif ((decide ((x2 x4.toNat 0).int<0))==false) then (bif ((decide ((x2 x4.toNat 0).int≥x0))==false) then (bif ((decide ((x2 x4.toNat 1).int<0))==false) then (bif (decide ((x2 x4.toNat 1).int≥x0)) then (k0 9 (x2 x4.toNat 0).int (x2 x4.toNat 1).int) else (bif ((x2 x4.toNat 0).int==(x2 x4.toNat 1).int) then (k0 2 (x2 x4.toNat 0).int (x2 x4.toNat 1).int) else (L224v1 u x0 x1 x2 x3 m (w64 (x4+1)) k0 k1))) else (k0 9 (x2 x4.toNat 0).int (x2 x4.toNat 1).int)) else (k0 9 (x2 x4.toNat 0).int (x2 x4.toNat 1).int)) else (k0 9 (x2 x4.toNat 0).int (x2 x4.toNat 1).int)) else none) else k1)
theorem nl224v1:∀ (m:Nat) (x0:Int) (k0:Int→Int→Int→Option ρ) (k1:Option ρ),ob (L224v1 u i0 n0 f0 i1 m x0 k0 k1) ng=L224v1 u i0 n0 f0 i1 m x0 (fun x1 x2 x3=>ob (k0 x1 x2 x3) ng) (ob k1 ng)
 | 0,_,_,_=>rfl
 | m+1,x0,k0,k1=>by
  simp only [L224v1,ob_bif,ob_ob,ob_none,nl224v1 m]
theorem q224v1:∀ (m:Nat) (x0:Int),
  loopH (eB A57v4 (C69 u) u) N224v1 m (s224v0 n0 f0 i0 i1 x0) k=L224v1 u i0 n0 f0 i1 m x0 (fun x1 x2 x3=>k .ret (s224v1 x1 x2 x3)) (k (.exit 0) s224v2)
 | 0,_=>rfl
 | m+1,x0=>by
  simp only [L224v1,← q224v1 m]
  kernel_rfl
def F224 (x0:Int) (x1:Nat) (x2:FF):Option (Int) :=
 (L224v1 u x0 x1 x2 (Int.ofNat x1) u 0
  (fun x3 x4 x5=>(some x3))
  (some 0))
def s224v3:St:=⟨[vxi i0,.x (.c (ro kP n0 f0)),uu,uu,vxi 0,uu,uu,.x (.c (ro kP n0 f0)),vxi (Int.ofNat n0),vxi 0,uu,uu,uu,uu,uu,uu,uu,uu,uu,uu,uu,uu,uu,uu,uu,uu,uu,uu,uu,uu,uu,uu,uu,uu,uu,uu,uu,uu,uu],[]⟩
theorem t224v1 :
  loopN (eB A57v4 (C69 u) u) N224v1 u (s224v3 n0 f0 i0) k =
  L224v1 u i0 n0 f0 (Int.ofNat n0) u 0 (fun x0 x1 x2=>k .ret (s224v1 x0 x1 x2)) (k (.exit 0) s224v2) :=
 Eq.trans (loopN_at (by kernel_rfl)) (q224v1 ..)
theorem g224v2 :
  (kBlk 0 (kSeq (C69 u) u (4 :: (rl 6 33 [])) A57v5 (finish A57))) .ret (s224v1 i0 i1 i2) =
  (some [.v (vi i0)]):=by kernel_rfl
theorem g224v3 :
  (kBlk 0 (kSeq (C69 u) u (4 :: (rl 6 33 [])) A57v5 (finish A57))) (.exit 0) s224v2 =
  (some [.v (vi 0)]):=by kernel_rfl
theorem e224:evalF (C69 u) u A57 [.v (vi i0),.v (ro kP n0 f0)]=ob (F224 u i0 n0 f0) fun t=>some [.v (vi t)]:=Eq.trans (b:=(loopN (eB A57v4 (C69 u) u) N224v1 u (s224v3 n0 f0 i0) (kBlk 0 (kSeq (C69 u) u (4 :: (rl 6 33 [])) A57v5 (finish A57))))) (by kernel_rfl) (by
 simp only [F224,ob_bif,ob_ob,ob_none,ob_some,nl224v1,t224v1,g224v2,g224v3])
def O224:Ora:=mkO (qc (av ci) (q1 (av (cL kP)))) (fun x=>F224 u x.1 x.2.1 x.2.2) fun t=>[.v (vi t)]
theorem d224:DO (O224 u) (C69 u) 57 A57:=dO u (fun x=>by exact e224 u x.2.1 x.2.2 x.1)
def C70:Oracle:=(C69 u).add 57 (fun _=>true) (O224 u)
def A27v1:AC:=(.seq (.block 1
 (.seq (.region 9 [o1 33 (.indexAddr 52 54 2 (tm 29) (tm 31)),o1 34 (ln 54 2 33),o1 9 (.alloc 0 54 [vci 0,vci 0]),o0 (.store 54 2 (tm 9) (tm 34))] 1 none) []
  (.region 10 [mv 35 7,o1 36 (.indexAddrA 54 3 2 1 (tm 9) (ic 1)),o1 37 (lo 3 36),o1 38 (.indexAddr 56 3 1 (tm 35) (tm 37)),o1 39 (lo 3 38),o1 40 (bk .add 3 39 1),o1 41 (.indexAddr 56 3 1 (tm 35) (tm 37)),o0 (.store 3 1 (tm 41) (tm 40))] 0 none))) []
 (.region 11 [o1 42 (bk .add 3 31 1),mv 31 42] 0 none))
def A27v2:AC:=(.seq (.region 8 [o1 32 (bt .lss 3 31 30)] 0 none) []
 (.seq (.cond (tm 32)
 .skip
 (.exit 0 (rl 2 5 (rl 8 85 [])))) []
 A27v1))
def A27v3:AC:=(.region 26 [o1 90 (bk .add 3 75 1),mv 75 90] 0 none)
def A27v4:AC:=(.seq (.block 7
 (.seq (.region 23 [o1 77 (.indexAddr 52 54 2 (tm 73) (tm 75)),o1 78 (ln 54 2 77),o1 14 (.alloc 0 54 [vci 0,vci 0]),o0 (.store 54 2 (tm 14) (tm 78))] 1 none) []
  (.seq (.region 24 [o1 79 (.indexAddrA 54 3 2 1 (tm 14) (ic 0)),o1 80 (lo 3 79),mv 81 12,o1 82 (bt .eql 3 80 81)] 0 none) []
  (.cond (tm 82)
  (.region 25 [mv 83 7,o1 84 (.indexAddrA 54 3 2 1 (tm 14) (ic 1)),o1 85 (lo 3 84),o1 86 (.indexAddr 56 3 1 (tm 83) (tm 85)),o1 87 (lo 3 86),o1 88 (bk .sub 3 87 1),o1 89 (.indexAddr 56 3 1 (tm 83) (tm 85)),o0 (.store 3 1 (tm 89) (tm 88))] 0 none)
  .skip)))) (14 :: (rl 77 13 []))
 A27v3)
def A27v5:AC:=(.seq (.region 22 [o1 76 (bt .lss 3 75 74)] 0 none) []
 (.seq (.cond (tm 76)
 .skip
 (.exit 6 (rl 2 5 (8 :: 9 :: (rl 12 81 []))))) []
 A27v4))
def A27v6:AC:=(.seq (.region 19 [mv 66 11,mv 67 12,o1 68 (.indexAddr 113 4 1 (tm 66) (tm 67)),o0 (.store 4 1 (tm 68) (.const (.bool true)))] 0 none) []
 (.seq (.region 20 [mv 69 10,mv 70 12,o1 71 (.buildSlice 0 56 3 (.pr (.int .i64) .nil) 1 [vci 0] [(0,(tm 70))]),o1 72 (.append 1 56 3 (.pr (.int .i64) .nil) 8 (tm 69) (tm 71)),o1 10 (sg 72)] 2 none) []
 (.seq (.seq (.region 21 [mv 73 1,o1 74 (.len 52 false (tm 73)),o1 75 (.move (ic 0))] 0 none) []
 (.block 6
 (.loop [] (rl 2 5 (8 :: 9 :: (rl 13 60 (rl 76 17 []))))
  A27v5))) (14 :: (rl 73 18 []))
 (.exit 3 (rl 2 5 (8 :: 9 :: (rl 12 81 [])))))))
def A27v7:AC:=(.region 27 [o1 91 (bk .add 3 52 1),mv 52 91] 0 none)
def A27v8:AC:=(.seq (.block 5
 (.seq (.region 17 [mv 54 52,o1 12 (sg 54)] 0 none) []
  (.seq (.seq (.region 18 [mv 55 11,mv 56 12,o1 57 (.indexAddr 113 4 1 (tm 55) (tm 56)),o1 58 (lo 4 57),mv 59 58,og 60 (.move (tm 7)) 59 false,og 61 (.move (tm 12)) 59 false,og 62 (.indexAddr 56 3 1 (tm 60) (tm 61)) 59 false,og 63 (lo 3 62) 59 false,og 64 (bk .gtr 3 63 0) 59 false,o1 65 (pa 59 64)] 0 none) []
  (.cond (tm 65)
  (.exit 5 (rl 2 5 (8 :: 9 :: (rl 12 39 (rl 53 40 [])))))
  .skip)) (rl 55 11 [])
  A27v6))) (12 :: 14 :: (rl 54 37 []))
 A27v7)
def A27v9:AC:=(.seq (.region 16 [o1 53 (bt .lss 3 52 51)] 0 none) []
 (.seq (.cond (tm 53)
 .skip
 (.exit 4 (rl 0 93 []))) []
 A27v8))
def A27v10:AC:=(.seq (.region 28 [o1 4 (.assign (.const (.slice none 0 0))),o1 5 (sk 20)] 0 none) []
 (.ret (rl 0 4 (rl 6 87 []))))
def A27v11:AC:=(.block 3
 (.seq (.seq (.region 15 [mv 51 0,o1 52 (.move (ic 0))] 0 none) []
  (.block 4
  (.loop [.slot 10 (.pr (.int .i64) .nil)] (rl 2 5 (8 :: 9 :: (rl 12 39 (rl 53 40 []))))
   A27v9))) (10 :: 12 :: 14 :: (rl 51 41 []))
  A27v10))
def A27v12:AC:=(.seq (.seq (.region 14 [mv 47 10,o1 48 (.len 56 false (tm 47)),mv 49 0,o1 50 (bt .lss 3 48 49)] 0 none) []
 (.cond (tm 50)
 .skip
 (.exit 2 (rl 0 10 (rl 11 82 []))))) (rl 47 4 [])
 A27v11)
def A27v13:AC:=(.seq (.region 29 [mv 92 10,o1 4 (sg 92),o1 5 (sk 0)] 0 none) []
 (.ret (rl 0 4 (rl 6 87 []))))
def A27v14:AC:=(.seq (.region 12 [mv 43 0,o1 44 (.makeSlice 0 56 3 (.pr (.int .i64) .nil) 8 [(vi 0)] (ic 0) (tm 43)),o1 10 (sg 44)] 1 none) []
 (.seq (.region 13 [mv 45 0,o1 46 (.makeSlice 0 113 4 (.pr .bool .nil) 1 [(.b false)] (tm 45) (tm 45)),o1 11 (sg 46)] 1 none) []
 (.seq (.label 0) []
 (.seq (.block 2
 (.loop [.slot 10 (.pr (.int .i64) .nil)] (rl 2 5 (8 :: 9 :: (rl 12 81 [])))
  A27v12)) (4 :: 5 :: 12 :: 14 :: (rl 47 45 []))
 A27v13))))
def A27v15:AC:=(.seq (.region 6 [mv 27 0,o1 28 (.makeSlice 0 56 3 (.pr (.int .i64) .nil) 8 [(vi 0)] (tm 27) (tm 27)),o1 7 (sg 28)] 1 none) []
 (.seq (.seq (.region 7 [mv 29 1,o1 30 (.len 52 false (tm 29)),o1 31 (.move (ic 0))] 0 none) []
 (.block 0
 (.loop [] (rl 2 5 (rl 8 21 (rl 32 61 [])))
  A27v2))) (9 :: (rl 29 14 []))
 A27v14))
def A27v16:AC:=(.seq (.seq (.region 3 [mv 21 0,mv 22 1,o1 23 (cs 57 [21,22] [3,52]),o1 6 (sg 23)] 0 none) []
 (.seq (.region 4 [mv 24 6,o1 25 (bk .neq 34 24 0)] 0 none) []
 (.cond (tm 25)
 (.seq (.region 5 [mv 26 6,o1 4 (.assign (.const (.slice none 0 0))),o1 5 (sg 26)] 0 none) []
  (.ret (rl 0 4 (rl 6 87 []))))
 .skip))) (4 :: 5 :: 6 :: (rl 21 6 []))
 A27v15)
def A27:AF:=⟨93,[.tmp 4,.tmp 5],
 (.seq (.region 0 [o1 4 (.assign (.const (.slice none 0 0))),o1 5 (sk 0)] 0 none) []
 (.scope
 (.seq (.seq (.region 1 [mv 15 0,o1 16 (bk .lss 3 15 0),mv 17 16,og 18 (.move (tm 0)) 17 false,og 19 (bk .gtr 3 18 256) 17 false,o1 20 (pa 17 19)] 0 none) []
  (.cond (tm 20)
  (.seq (.region 2 [o1 4 (.assign (.const (.slice none 0 0))),o1 5 (sk 9)] 0 none) []
   (.ret (rl 0 4 (rl 6 87 []))))
  .skip)) (4 :: 5 :: (rl 15 6 []))
  A27v16)))⟩
def N225v1:St→Option St:=nN 1 (rl 2 5 (rl 8 21 (rl 32 61 [])))
def s225v0:St:=⟨(vxi i0 :: .x (.c (ro kP n0 f0)) :: (us 5 (.x (.own 0 0 n1) :: (us 21 (.x (.c (ro kP n0 f0)) :: vxi i1 :: vxi i2 :: (us 61 [])))))),[.arr (.pr (.int .i64) .nil) n1 f1]⟩
def s225v1:St:=⟨(vxi i0 :: .x (.c (ro kP n0 f0)) :: (us 5 (.x (.own 0 0 n1) :: (us 85 [])))),[.arr (.pr (.int .i64) .nil) n1 f1]⟩
def L225v1 {ρ:Type} (u:Nat) (x0:Int) (x1:Nat) (x2:FF) (x3:Nat) (x4:Int):Nat→Int→FF→(FF→Option ρ)→Option ρ
 | 0,_,_,_=>none
 | m+1,x5,x6,k0 =>
  (bif (decide (x5<x4)) then (bif (inb x5 x1) then (bif (inb (x2 x5.toNat 1).int x3) then (bif (inb (x2 x5.toNat 1).int x3) then (L225v1 u x0 x1 x2 x3 x4 m (w64 (x5+1)) (setF x6 (0+(Int.toNat (x2 x5.toNat 1).int)) 0 1 (listF [(.i .i64 (w64 ((CV.int (x6 (0+(Int.toNat (x2 x5.toNat 1).int)) 0))+1)))])) k0) else none) else none) else none) else (k0 x6))
theorem nl225v1:∀ (m:Nat) (x0:Int) (x1:FF) (k0:FF→Option ρ),ob (L225v1 u i0 n0 f0 n1 i1 m x0 x1 k0) ng=L225v1 u i0 n0 f0 n1 i1 m x0 x1 (fun x2=>ob (k0 x2) ng)
 | 0,_,_,_=>rfl
 | m+1,x0,x1,k0=>by
  simp only [L225v1,ob_bif,ob_ob,ob_none,nl225v1 m]
theorem q225v1:∀ (m:Nat) (x0:Int) (x1:FF),
  loopH (eB A27v2 (C70 u) u) N225v1 m (s225v0 n0 n1 f0 x1 i0 i1 x0) k=L225v1 u i0 n0 f0 n1 i1 m x0 x1 (fun x2=>k (.exit 0) (s225v1 n0 n1 f0 x2 i0))
 | 0,_,_=>rfl
 | m+1,x0,x1=>by
  simp only [L225v1,← q225v1 m]
  kernel_rfl
def N225v6:St→Option St:=nN 5 (rl 2 5 (8 :: 9 :: (rl 13 60 (rl 76 17 []))))
def s225v2:St:=⟨(vxi i0 :: .x (.c (ro kP n0 f0)) :: (us 5 (.x (.own 0 0 n1) :: .u :: .u :: .x (.own 1 0 n2) :: .x (.own 2 0 n1) :: vxi i1 :: (us 60 (.x (.c (ro kP n0 f0)) :: vxi i2 :: vxi i3 :: (us 17 [])))))),[.arr (.pr (.int .i64) .nil) n1 f1,.arr (.pr (.int .i64) .nil) n2 f2,.arr (.pr .bool .nil) n1 f3,.arr (.pr (.int .i64) .nil) 1 f4,.rsv]⟩
def s225v3:St:=⟨(vxi i0 :: .x (.c (ro kP n0 f0)) :: (us 5 (.x (.own 0 0 n1) :: .u :: .u :: .x (.own 1 0 n2) :: .x (.own 2 0 n1) :: (us 81 [])))),[.arr (.pr (.int .i64) .nil) n1 f1,.arr (.pr (.int .i64) .nil) n2 f2,.arr (.pr .bool .nil) n1 f3,.arr (.pr (.int .i64) .nil) 1 f4,.rsv]⟩
def L225v6 {ρ:Type} (u:Nat) (x0:Int) (x1:Nat) (x2:FF) (x3 x4:Nat) (x5 x6:Int) (x7 x8 x9:FF):Nat→Int→FF→(FF→Option ρ)→Option ρ
 | 0,_,_,_=>none
 | m+1,xA,xB,k0 =>
  (bif (decide (xA<x6)) then (bif (inb xA x1) then (bif ((x2 xA.toNat 0).int==x5) then (bif (inb (x2 xA.toNat 1).int x3) then (bif (inb (x2 xA.toNat 1).int x3) then (L225v6 u x0 x1 x2 x3 x4 x5 x6 x7 x8 x9 m (w64 (xA+1)) (setF xB (0+(Int.toNat (x2 xA.toNat 1).int)) 0 1 (listF [(.i .i64 (w64 ((CV.int (xB (0+(Int.toNat (x2 xA.toNat 1).int)) 0))-1)))])) k0) else none) else none) else (L225v6 u x0 x1 x2 x3 x4 x5 x6 x7 x8 x9 m (w64 (xA+1)) xB k0)) else none) else (k0 xB))
theorem nl225v6:∀ (m:Nat) (x0:Int) (x1:FF) (k0:FF→Option ρ),ob (L225v6 u i0 n0 f0 n1 n2 i1 i2 f1 f2 f3 m x0 x1 k0) ng=L225v6 u i0 n0 f0 n1 n2 i1 i2 f1 f2 f3 m x0 x1 (fun x2=>ob (k0 x2) ng)
 | 0,_,_,_=>rfl
 | m+1,x0,x1,k0=>by
  simp only [L225v6,ob_bif,ob_ob,ob_none,nl225v6 m]
theorem q225v6:∀ (m:Nat) (x0:Int) (x1:FF),
  loopH (eB A27v5 (C70 u) u) N225v6 m (s225v2 n0 n1 n2 f0 x1 f1 f2 f3 i0 i1 i2 x0) k=L225v6 u i0 n0 f0 n1 n2 i1 i2 f1 f2 f3 m x0 x1 (fun x2=>k (.exit 6) (s225v3 n0 n1 n2 f0 x2 f1 f2 f3 i0))
 | 0,_,_=>rfl
 | m+1,x0,x1=>by
  simp only [L225v6,← q225v6 m]
  kernel_rfl
def N225v7:St→Option St:=nN 3 (rl 2 5 (8 :: 9 :: (rl 12 39 (rl 53 40 []))))
def s225v4:St:=⟨(vxi i0 :: .x (.c (ro kP n0 f0)) :: (us 5 (.x (.own 0 0 n1) :: .u :: .u :: .x (.own 1 0 n2) :: .x (.own 2 0 n1) :: (us 39 (vxi i0 :: vxi i1 :: (us 40 [])))))),[.arr (.pr (.int .i64) .nil) n1 f1,.arr (.pr (.int .i64) .nil) n2 f2,.arr (.pr .bool .nil) n1 f3]⟩
def s225v5:St:=⟨(vxi i0 :: .x (.c (ro kP n0 f0)) :: (us 5 (.x (.own 0 0 n1) :: .u :: .u :: .x (.own 1 0 (n2+1)) :: .x (.own 2 0 n1) :: (us 81 [])))),[.arr (.pr (.int .i64) .nil) n1 f1,.arr (.pr (.int .i64) .nil) (n2+1) f2,.arr (.pr .bool .nil) n1 f3,.arr (.pr (.int .i64) .nil) 1 f4,.rsv]⟩
def s225v6:St:=⟨(us 93 []),[.arr (.pr (.int .i64) .nil) n0 f0,.arr (.pr (.int .i64) .nil) n1 f1,.arr (.pr .bool .nil) n0 f2]⟩
def L225v7 {ρ:Type} (u:Nat) (x0:Int) (x1:Nat) (x2:FF) (x3 x4:Nat) (x5 x6 x7:FF):Nat→Int→(FF→FF→FF→FF→Option ρ)→(Option ρ)→Option ρ
 | 0,_,_,_=>none
 | m+1,x8,k0,k1 =>
  (bif (decide (x8<x0)) then (bif (inb x8 x3) then (bif ((x7 (0+x8.toNat) 0).bool==false) then (bif (inb x8 x3) then (bif (decide ((x5 (0+x8.toNat) 0).int>0)) then (L225v7 u x0 x1 x2 x3 x4 x5 x6 x7 m (w64 (x8+1)) k0 k1) else (bif (inb x8 x3) then (bif (Nat.ble (x4+1) 1073741824) then (L225v6 u x0 x1 x2 x3 (x4+1) x8 (Int.ofNat x1) (joinF x4 x6 (rowsF 1 [(.i .i64 x8)])) (setF x7 (0+x8.toNat) 0 1 (listF [(.b true)])) (rowsF 1 [(.i .i64 x8)]) u 0 x5
  (fun x9=>(k0 x9 (joinF x4 x6 (rowsF 1 [(.i .i64 x8)])) (setF x7 (0+x8.toNat) 0 1 (listF [(.b true)])) (rowsF 1 [(.i .i64 x8)])))) else none) else none)) else none) else (L225v7 u x0 x1 x2 x3 x4 x5 x6 x7 m (w64 (x8+1)) k0 k1)) else none) else k1)
theorem nl225v7:∀ (m:Nat) (x0:Int) (k0:FF→FF→FF→FF→Option ρ) (k1:Option ρ),ob (L225v7 u i0 n0 f0 n1 n2 f1 f2 f3 m x0 k0 k1) ng=L225v7 u i0 n0 f0 n1 n2 f1 f2 f3 m x0 (fun x1 x2 x3 x4=>ob (k0 x1 x2 x3 x4) ng) (ob k1 ng)
 | 0,_,_,_=>rfl
 | m+1,x0,k0,k1=>by
  simp only [L225v7,ob_bif,ob_ob,ob_none,nl225v7 m,nl225v6]
def s225v7:St:=⟨(vxi i0 :: .x (.c (ro kP n0 f0)) :: (us 5 (.x (.own 0 0 n1) :: .u :: .u :: .x (.own 1 0 (n2+1)) :: .x (.own 2 0 n1) :: vxi i1 :: (us 38 (vxi i0 :: vxi i1 :: vxb true :: vxi i1 :: (us 11 (.x (.own 2 0 n1) :: vxi i1 :: .x (.aptr 2 (0+i1.toNat) 0) :: .x .u :: vxi i1 :: .x (.own 3 0 1) :: .x (.own 1 0 (n2+1)) :: .x (.c (ro kP n0 f0)) :: vxi (Int.ofNat n0) :: vxi 0 :: (us 17 [])))))))),[.arr (.pr (.int .i64) .nil) n1 f1,.arr (.pr (.int .i64) .nil) (n2+1) (joinF n2 f2 (rowsF 1 [(vi i1)])),.arr (.pr .bool .nil) n1 (setF f3 (0+i1.toNat) 0 1 (listF [(.b true)])),.arr (.pr (.int .i64) .nil) 1 (rowsF 1 [(vi i1)]),.rsv]⟩
theorem r225v7 :
  loopH (eB A27v9 (C70 u) u) N225v7 (m+1) (s225v4 n0 n1 n2 f0 f1 f2 f3 i0 i1) k =
  (bif (decide (i1<i0)) then (bif (inb i1 n1) then (bif ((f3 (0+i1.toNat) 0).bool==false) then (bif (inb i1 n1) then (bif (decide ((f1 (0+i1.toNat) 0).int>0)) then (loopH (eB A27v9 (C70 u) u) N225v7 m (s225v4 n0 n1 n2 f0 f1 f2 f3 i0 (w64 (i1+1))) k) else (bif (inb i1 n1) then (bif (Nat.ble (n2+1) 1073741824) then (loopN (eB A27v5 (C70 u) u) N225v6 u (s225v7 n0 n1 n2 f0 f1 f2 f3 i0 i1) (kBlk 6 (kSeq (C70 u) u (14 :: (rl 73 18 [])) (.exit 3 (rl 2 5 (8 :: 9 :: (rl 12 81 [])))) (kBlk 5 (kSeq (C70 u) u (12 :: 14 :: (rl 54 37 [])) A27v7 (kLoop (eB A27v9 (C70 u) u) N225v7 m k)))))) else none) else none)) else none) else (loopH (eB A27v9 (C70 u) u) N225v7 m (s225v4 n0 n1 n2 f0 f1 f2 f3 i0 (w64 (i1+1))) k)) else none) else (k (.exit 4) (s225v6 n1 n2 f1 f2 f3))):=by kernel_rfl
theorem t225v1 :
  loopN (eB A27v5 (C70 u) u) N225v6 u (s225v7 n0 n1 n2 f0 f1 f2 f3 i0 i1) k =
  L225v6 u i0 n0 f0 n1 (n2+1) i1 (Int.ofNat n0) (joinF n2 f2 (rowsF 1 [(vi i1)])) (setF f3 (0+i1.toNat) 0 1 (listF [(.b true)])) (rowsF 1 [(vi i1)]) u 0 f1 (fun x0=>k (.exit 6) (s225v3 n0 n1 (n2+1) f0 x0 (joinF n2 f2 (rowsF 1 [(vi i1)])) (setF f3 (0+i1.toNat) 0 1 (listF [(.b true)])) (rowsF 1 [(vi i1)]) i0)) :=
 Eq.trans (loopN_at (by kernel_rfl)) (q225v6 ..)
theorem g225v2 :
  (kBlk 6 (kSeq (C70 u) u (14 :: (rl 73 18 [])) (.exit 3 (rl 2 5 (8 :: 9 :: (rl 12 81 [])))) (kBlk 5 (kSeq (C70 u) u (12 :: 14 :: (rl 54 37 [])) A27v7 (kLoop (eB A27v9 (C70 u) u) N225v7 m k))))) (.exit 6) (s225v3 n0 n1 (n2+1) f0 f1 (joinF n2 f2 (rowsF 1 [(vi i1)])) (setF f3 (0+i1.toNat) 0 1 (listF [(.b true)])) (rowsF 1 [(vi i1)]) i0) =
  (k (.exit 3) (s225v5 n0 n1 n2 f0 f1 (joinF n2 f2 (rowsF 1 [(vi i1)])) (setF f3 (0+i1.toNat) 0 1 (listF [(.b true)])) (rowsF 1 [(vi i1)]) i0)):=by kernel_rfl
theorem q225v7:∀ (m:Nat) (x0:Int),
  loopH (eB A27v9 (C70 u) u) N225v7 m (s225v4 n0 n1 n2 f0 f1 f2 f3 i0 x0) k=L225v7 u i0 n0 f0 n1 n2 f1 f2 f3 m x0 (fun x1 x2 x3 x4=>k (.exit 3) (s225v5 n0 n1 n2 f0 x1 x2 x3 x4 i0)) (k (.exit 4) (s225v6 n1 n2 f1 f2 f3))
 | 0,_=>rfl
 | m+1,x0=>by
  rw [r225v7]
  simp only [L225v7,q225v7 m,t225v1,g225v2]
def N225v8:St→Option St:=nN 3 (rl 2 5 (8 :: 9 :: (rl 12 81 [])))
def s225v8:St:=⟨(vxi i0 :: .x (.c (ro kP n0 f0)) :: (us 5 (.x (.own 0 0 n1) :: .u :: .u :: .x (.own 1 0 n2) :: .x (.own 2 0 n1) :: (us 81 [])))),[.arr (.pr (.int .i64) .nil) n1 f1,.arr (.pr (.int .i64) .nil) n2 f2,.arr (.pr .bool .nil) n1 f3]⟩
def s225v9:St:=⟨(us 4 (.x (vcn) :: vxi 20 :: (us 87 []))),[.arr (.pr (.int .i64) .nil) n0 f0,.arr (.pr (.int .i64) .nil) n1 f1,.arr (.pr .bool .nil) n0 f2]⟩
def s225v10:St:=⟨(us 10 (.x (.own 1 0 n0) :: (us 82 []))),[.arr (.pr (.int .i64) .nil) n1 f0,.arr (.pr (.int .i64) .nil) n0 f1,.arr (.pr .bool .nil) n1 f2]⟩
def L225v8 {ρ:Type} (u:Nat) (x0:Int) (x1:Nat) (x2:FF) (x3:Nat):Nat→Nat→FF→FF→FF→(FF→Nat→FF→FF→Option ρ)→(Nat→FF→FF→FF→Option ρ)→Option ρ
 | 0,_,_,_,_,_,_=>none
 | m+1,x4,x5,x6,x7,k0,k1 =>
  (bif (decide ((Int.ofNat x4)<x0)) then (L225v7 u x0 x1 x2 x3 x4 x5 x6 x7 u 0
  (fun x8 x9 xA xB=>(L225v8 u x0 x1 x2 x3 m (x4+1) x8 x9 xA k0 k1))
  (k0 x5 x4 x6 x7)) else (k1 x4 x5 x6 x7))
theorem nl225v8:∀ (m:Nat) (x0:Nat) (x1 x2 x3:FF) (k0:FF→Nat→FF→FF→Option ρ) (k1:Nat→FF→FF→FF→Option ρ),ob (L225v8 u i0 n0 f0 n1 m x0 x1 x2 x3 k0 k1) ng=L225v8 u i0 n0 f0 n1 m x0 x1 x2 x3 (fun x4 x5 x6 x7=>ob (k0 x4 x5 x6 x7) ng) (fun x8 x9 xA xB=>ob (k1 x8 x9 xA xB) ng)
 | 0,_,_,_,_,_,_=>rfl
 | m+1,x0,x1,x2,x3,k0,k1=>by
  simp only [L225v8,ob_bif,ob_ob,ob_none,nl225v8 m,nl225v7]
def s225v11:St:=⟨(vxi i0 :: .x (.c (ro kP n0 f0)) :: (us 5 (.x (.own 0 0 n1) :: .u :: .u :: .x (.own 1 0 n2) :: .x (.own 2 0 n1) :: (us 39 (vxi i0 :: vxi 0 :: (us 40 [])))))),[.arr (.pr (.int .i64) .nil) n1 f1,.arr (.pr (.int .i64) .nil) n2 f2,.arr (.pr .bool .nil) n1 f3]⟩
theorem r225v8 :
  loopH (eB A27v12 (C70 u) u) N225v8 (m+1) (s225v8 n0 n1 n2 f0 f1 f2 f3 i0) k =
  (bif (decide ((Int.ofNat n2)<i0)) then (loopN (eB A27v9 (C70 u) u) N225v7 u (s225v11 n0 n1 n2 f0 f1 f2 f3 i0) (kBlk 4 (kSeq (C70 u) u (10 :: 12 :: 14 :: (rl 51 41 [])) A27v10 (kBlk 3 (kLoop (eB A27v12 (C70 u) u) N225v8 m k))))) else (k (.exit 2) (s225v10 n2 n1 f1 f2 f3))):=by kernel_rfl
theorem t225v3 :
  loopN (eB A27v9 (C70 u) u) N225v7 u (s225v11 n0 n1 n2 f0 f1 f2 f3 i0) k =
  L225v7 u i0 n0 f0 n1 n2 f1 f2 f3 u 0 (fun x0 x1 x2 x3=>k (.exit 3) (s225v5 n0 n1 n2 f0 x0 x1 x2 x3 i0)) (k (.exit 4) (s225v6 n1 n2 f1 f2 f3)) :=
 Eq.trans (loopN_at (by kernel_rfl)) (q225v7 ..)
theorem g225v4 :
  (kBlk 4 (kSeq (C70 u) u (10 :: 12 :: 14 :: (rl 51 41 [])) A27v10 (kBlk 3 (kLoop (eB A27v12 (C70 u) u) N225v8 m k)))) (.exit 3) (s225v5 n0 n1 n2 f0 f1 f2 f3 f4 i0) =
  (loopH (eB A27v12 (C70 u) u) N225v8 m (s225v8 n0 n1 (n2+1) f0 f1 f2 f3 i0) k):=by kernel_rfl
theorem g225v5 :
  (kBlk 4 (kSeq (C70 u) u (10 :: 12 :: 14 :: (rl 51 41 [])) A27v10 (kBlk 3 (kLoop (eB A27v12 (C70 u) u) N225v8 m k)))) (.exit 4) (s225v6 n0 n1 f0 f1 f2) =
  (k .ret (s225v9 n0 n1 f0 f1 f2)):=by kernel_rfl
theorem q225v8:∀ (m:Nat) (x0:Nat) (x1 x2 x3:FF),
  loopH (eB A27v12 (C70 u) u) N225v8 m (s225v8 n0 n1 x0 f0 x1 x2 x3 i0) k=L225v8 u i0 n0 f0 n1 m x0 x1 x2 x3 (fun x4 x5 x6 x7=>k .ret (s225v9 n1 x5 x4 x6 x7)) (fun x8 x9 xA xB=>k (.exit 2) (s225v10 x8 n1 x9 xA xB))
 | 0,_,_,_,_=>rfl
 | m+1,x0,x1,x2,x3=>by
  rw [r225v8]
  simp only [L225v8,q225v8 m,t225v3,g225v4,g225v5]
def FT225 (x0:Int) (x1:Nat) (x2:FF):Option (Bool × Nat × FF × Int) :=
 (bif ((decide (x0<0))==false) then (bif (decide (x0>256)) then (some (true,0,(fun _ _=>.any),9)) else (ob (F224 u x0 x1 x2) fun x3=>(bif (x3 != 0) then (some (true,0,(fun _ _=>.any),x3)) else (bif (decide (0≤x0)&&decide (x0≤x0)&&decide (x0≤1073741824)&&true) then (L225v1 u x0 x1 x2 x0.toNat (Int.ofNat x1) u 0 (fun _ j=>listF [(.i .i64 0)] j)
  (fun x4=>(bif (decide (0≤0)&&decide (0≤x0)&&decide (x0≤1073741824)&&true) then (bif (decide (0≤x0)&&decide (x0≤x0)&&decide (x0≤1073741824)&&true) then (L225v8 u x0 x1 x2 x0.toNat u 0 x4 (fun _ j=>listF [(.i .i64 0)] j) (fun _ j=>listF [(.b false)] j)
  (fun x5 x6 x7 x8=>(some (true,0,(fun _ _=>.any),20)))
  (fun x9 xA xB xC=>(some (false,x9,xB,0)))) else none) else none))) else none)))) else (some (true,0,(fun _ _=>.any),9)))
def s225v12:St:=⟨(vxi i0 :: .x (.c (ro kP n0 f0)) :: uu :: uu :: (us 3 (.x (.own 0 0 i0.toNat) :: uu :: uu :: uu :: uu :: uu :: uu :: uu :: (us 12 [vxi i0,.x (.own 0 0 i0.toNat),.x (.c (ro kP n0 f0)),vxi (Int.ofNat n0),vxi 0,uu,uu,uu,uu,uu,uu,uu,uu,uu,uu,uu,uu,uu,uu,uu,uu,uu,uu,uu,uu,uu,uu,uu,uu,uu,uu,uu,uu,uu,uu,uu,uu,uu,uu,uu,uu,uu,uu,uu,uu,uu,uu,uu,uu,uu,uu,uu,uu,uu,uu,uu,uu,uu,uu,uu,uu,uu,uu,uu,uu,uu])))),[.arr (.pr (.int .i64) .nil) i0.toNat (fun _ j=>listF [(vi 0)] j)]⟩
theorem t225v6 :
  loopN (eB A27v2 (C70 u) u) N225v1 u (s225v12 n0 f0 i0) k =
  L225v1 u i0 n0 f0 i0.toNat (Int.ofNat n0) u 0 (fun _ j=>listF [(vi 0)] j) (fun x0=>k (.exit 0) (s225v1 n0 i0.toNat f0 x0 i0)) :=
 Eq.trans (loopN_at (by kernel_rfl)) (q225v1 ..)
def s225v13:St:=⟨(vxi i0 :: .x (.c (ro kP n0 f0)) :: (us 5 (.x (.own 0 0 i0.toNat) :: .u :: .u :: .x (.own 1 0 0) :: .x (.own 2 0 i0.toNat) :: (us 31 (vxi i0 :: .x (.own 1 0 0) :: vxi i0 :: .x (.own 2 0 i0.toNat) :: (us 46 [])))))),[.arr (.pr (.int .i64) .nil) i0.toNat f1,.arr (.pr (.int .i64) .nil) 0 (fun _ j=>listF [(vi 0)] j),.arr (.pr .bool .nil) i0.toNat (fun _ j=>listF [(.b false)] j)]⟩
theorem g225v7 :
  (kBlk 0 (kSeq (C70 u) u (9 :: (rl 29 14 [])) A27v14 (finish A27))) (.exit 0) (s225v1 n0 i0.toNat f0 f1 i0) =
  (bif (decide (0≤0)&&decide (0≤i0)&&decide (i0≤1073741824)&&true) then (bif (decide (0≤i0)&&decide (i0≤i0)&&decide (i0≤1073741824)&&true) then (loopN (eB A27v12 (C70 u) u) N225v8 u (s225v13 n0 f0 f1 i0) (kBlk 2 (kSeq (C70 u) u (4 :: 5 :: 12 :: 14 :: (rl 47 45 [])) A27v13 (finish A27)))) else none) else none):=by kernel_rfl
theorem t225v8 :
  loopN (eB A27v12 (C70 u) u) N225v8 u (s225v13 n0 f0 f1 i0) k =
  L225v8 u i0 n0 f0 i0.toNat u 0 f1 (fun _ j=>listF [(vi 0)] j) (fun _ j=>listF [(.b false)] j) (fun x0 x1 x2 x3=>k .ret (s225v9 i0.toNat x1 x0 x2 x3)) (fun x4 x5 x6 x7=>k (.exit 2) (s225v10 x4 i0.toNat x5 x6 x7)) :=
 Eq.trans (loopN_at (by kernel_rfl)) (q225v8 ..)
theorem g225v9 :
  (kBlk 2 (kSeq (C70 u) u (4 :: 5 :: 12 :: 14 :: (rl 47 45 [])) A27v13 (finish A27))) .ret (s225v9 i0.toNat n0 f0 f1 f2) =
  (some [.v (.ro true .nil 0 nilF),.v (vi 20)]):=by kernel_rfl
theorem g225v10 :
  (kBlk 2 (kSeq (C70 u) u (4 :: 5 :: 12 :: 14 :: (rl 47 45 [])) A27v13 (finish A27))) (.exit 2) (s225v10 n0 i0.toNat f0 f1 f2) =
  (some [.v (ro (.pr (.int .i64) .nil) n0 f1),.v (vi 0)]):=by kernel_rfl
theorem e225:evalF (C70 u) u A27 [.v (vi i0),.v (ro kP n0 f0)]=ob (FT225 u i0 n0 f0) fun t=>some (bif t.1 then [.v (.ro true .nil 0 nilF),.v (vi t.2.2.2)] else [.v (ro (.pr (.int .i64) .nil) t.2.1 t.2.2.1),.v (vi 0)]):=Eq.trans (b:=(bif ((decide (i0<0))==false) then (bif (decide (i0>256)) then (some [.v (.ro true .nil 0 nilF),.v (vi 9)]) else (ob (F224 u i0 n0 f0) fun x0=>(bif (x0 != 0) then (some [.v (.ro true .nil 0 nilF),.v (vi x0)]) else (bif (decide (0≤i0)&&decide (i0≤i0)&&decide (i0≤1073741824)&&true) then (loopN (eB A27v2 (C70 u) u) N225v1 u (s225v12 n0 f0 i0) (kBlk 0 (kSeq (C70 u) u (9 :: (rl 29 14 [])) A27v14 (finish A27)))) else none)))) else (some [.v (.ro true .nil 0 nilF),.v (vi 9)]))) (by kernel_rfl) (by
 simp only [FT225,ob_bif,ob_ob,ob_none,ob_some,nl225v1,nl225v8,t225v6,g225v7,t225v8,g225v9,g225v10,cond_true,cond_false])
def F225 (x0:Int) (x1:Nat) (x2:FF):Option (Nat × FF × Int):=ob (FT225 u x0 x1 x2) fun t=>some (bif t.1 then (0,(fun _ _=>.any),t.2.2.2) else (t.2.1,t.2.2.1,0))
def O225:Ora:=mkO (qc (av ci) (q1 (av (cL kP)))) (fun x=>F225 u x.1 x.2.1 x.2.2) fun t=>[.v (ro (.pr (.int .i64) .nil) t.1 t.2.1),.v (vi t.2.2)]
theorem d225:DO (O225 u) (C70 u) 27 A27:=dW u (fun x=>by exact e225 u x.2.1 x.2.2 x.1) (fun _=>rfl) fun t=>by
 obtain ⟨b,t⟩:=t
 cases b with
 | true=>exact (.cons (WkA.v (Wk.ro (by rfl))) (.cons (WkA.v (Wk.refl _)) .nil))
 | false =>
  exact (.cons (WkA.v (Wk.refl _)) (.cons (WkA.v (Wk.refl _)) .nil))
def C71:Oracle:=(C70 u).add 27 (fun _=>true) (O225 u)
def A8v1:AC:=(.seq (.block 1
 (.seq (.region 8 [o1 27 (.indexAddr 56 3 1 (tm 23) (tm 25)),o1 28 (lo 3 27),o1 9 (sg 28)] 0 none) []
  (.region 9 [mv 29 7,mv 30 4,mv 31 9,o1 32 (.indexAddr 37 9 1 (tm 30) (tm 31)),o1 33 (lo 9 32),o1 34 (.buildSlice 0 37 9 (.pr .str .nil) 1 [vcs ByteArray.empty] [(0,(tm 33))]),o1 35 (.append 1 37 9 (.pr .str .nil) 16 (tm 29) (tm 34)),o1 7 (sg 35)] 2 none))) []
 (.region 10 [o1 36 (bk .add 3 25 1),mv 25 36] 0 none))
def A8v2:AC:=(.seq (.region 7 [o1 26 (bt .lss 3 25 24)] 0 none) []
 (.seq (.cond (tm 26)
 .skip
 (.exit 0 (rl 0 7 (rl 8 30 [])))) []
 A8v1))
def A8v3:AC:=(.seq (.region 11 [mv 37 7,o1 2 (sg 37),o1 3 (sk 0)] 0 none) []
 (.ret (0 :: 1 :: (rl 4 34 []))))
def A8v4:AC:=(.seq (.region 5 [o1 7 (.assign (.const (.slice none 0 0)))] 0 none) []
 (.seq (.seq (.region 6 [mv 23 5,o1 24 (.len 56 false (tm 23)),o1 25 (.move (ic 0))] 0 none) []
 (.block 0
 (.loop [.slot 7 (.pr .str .nil)] (rl 0 4 (5 :: 6 :: (rl 8 15 (rl 26 12 []))))
  A8v2))) (9 :: (rl 23 14 []))
 A8v3))
def A8:AF:=⟨38,[.tmp 2,.tmp 3],
 (.seq (.region 0 [o1 1 (bx 0 28 0),o1 2 (.assign (.const (.slice none 0 0))),o1 3 (sk 0)] 1 none) []
 (.seq (.region 1 [o1 10 (ln 28 6 1),o1 11 (cf 26 [10] [28]),o1 4 (sg 11)] 0 none) []
 (.seq (.region 2 [mv 13 4,o1 14 (.len 37 false (tm 13)),o1 15 (ln 28 6 1),o1 16 (cf 24 [15] [28]),o1 17 (cf 27 [14,16] [3,52]),mv 12 17,o1 18 (.extract (tm 12) 0),o1 19 (.extract (tm 12) 1),o1 5 (sg 18),o1 6 (sg 19)] 0 none) []
 (.seq (.seq (.region 3 [mv 20 6,o1 21 (bk .neq 34 20 0)] 0 none) []
 (.cond (tm 21)
 (.seq (.region 4 [mv 22 6,o1 2 (.assign (.const (.slice none 0 0))),o1 3 (sg 22)] 0 none) []
  (.ret (0 :: 1 :: (rl 4 34 []))))
 .skip)) [2,3,20,21,22]
 A8v4))))⟩
def N277v1:St→Option St:=nN 2 (rl 0 4 (5 :: 6 :: (rl 8 15 (rl 26 12 []))))
def s277v0:St:=⟨(us 4 (.x (.c (ro (.pr .str .nil) n0 f0)) :: .u :: .u :: .x (.own 1 0 n1) :: (us 15 (.x (.c (ro (.pr (.int .i64) .nil) n2 f1)) :: vxi i0 :: vxi i1 :: (us 12 []))))),[.box [(vcs w0),(.c (ro kE n3 f2)),(.c (ro kA n4 f3)),(.c (ro kG n5 f4)),(.c (ro kC n6 f5)),(.c (ro kF n7 f6))],.arr (.pr .str .nil) n1 f7]⟩
def s277v1:St:=⟨(us 7 (.x (.own 1 0 n0) :: (us 30 []))),[.box [(vcs w0),(.c (ro kE n1 f0)),(.c (ro kA n2 f1)),(.c (ro kG n3 f2)),(.c (ro kC n4 f3)),(.c (ro kF n5 f4))],.arr (.pr .str .nil) n0 f5]⟩
def L277v1 {ρ:Type} (u:Nat) (x0:Nat) (x1:FF) (x2:Nat) (x3:FF) (x4:Int) (x5:ByteArray) (x6:Nat) (x7:FF) (x8:Nat) (x9:FF) (xA:Nat) (xB:FF) (xC:Nat) (xD:FF) (xE:Nat) (xF:FF):Nat→Nat→Int→FF→(Nat→FF→Option ρ)→Option ρ
 | 0,_,_,_,_=>none
 | m+1,xG,xH,xI,k0 =>
  (bif (decide (xH<x4)) then (bif (inb xH x2) then (bif (inb (x3 xH.toNat 0).int x0) then (bif (Nat.ble (xG+1) 1073741824) then (L277v1 u x0 x1 x2 x3 x4 x5 x6 x7 x8 x9 xA xB xC xD xE xF m (xG+1) (w64 (xH+1)) (joinF xG xI (rowsF 1 [(.s (CV.str (x1 (Int.toNat (x3 xH.toNat 0).int) 0)))])) k0) else none) else none) else none) else (k0 xG xI))
theorem nl277v1:∀ (m:Nat) (x0:Nat) (x1:Int) (x2:FF) (k0:Nat→FF→Option ρ),ob (L277v1 u n0 f0 n1 f1 i0 w0 n2 f2 n3 f3 n4 f4 n5 f5 n6 f6 m x0 x1 x2 k0) ng=L277v1 u n0 f0 n1 f1 i0 w0 n2 f2 n3 f3 n4 f4 n5 f5 n6 f6 m x0 x1 x2 (fun x3 x4=>ob (k0 x3 x4) ng)
 | 0,_,_,_,_=>rfl
 | m+1,x0,x1,x2,k0=>by
  simp only [L277v1,ob_bif,ob_ob,ob_none,nl277v1 m]
theorem q277v1:∀ (m:Nat) (x0:Nat) (x1:Int) (x2:FF),
  loopH (eB A8v2 (C71 u) u) N277v1 m (s277v0 n0 x0 n1 n2 n3 n4 n5 n6 f0 f1 f2 f3 f4 f5 f6 x2 i0 x1 w0) k=L277v1 u n0 f0 n1 f1 i0 w0 n2 f2 n3 f3 n4 f4 n5 f5 n6 f6 m x0 x1 x2 (fun x3 x4=>k (.exit 0) (s277v1 x3 n2 n3 n4 n5 n6 f2 f3 f4 f5 f6 x4 w0))
 | 0,_,_,_=>rfl
 | m+1,x0,x1,x2=>by
  simp only [L277v1,← q277v1 m]
  kernel_rfl
def FT277 (x0:ByteArray) (x1:Nat) (x2:FF) (x3:Nat) (x4:FF) (x5:Nat) (x6:FF) (x7:Nat) (x8:FF) (x9:Nat) (xA:FF):Option (Bool × Nat × FF × Int) :=
 (ob (F251 u x0 x1 x2 x3 x4 x5 x6 x7 x8 x9 xA) fun xB=>(ob (F276 u x0 x1 x2 x3 x4 x5 x6 x7 x8 x9 xA) fun xC=>(ob (F225 u (Int.ofNat xB.1) xC.1 xC.2) fun xD=>(bif (xD.2.2 != 0) then (some (true,0,(fun _ _=>.any),xD.2.2)) else (L277v1 u xB.1 xB.2 xD.1 xD.2.1 (Int.ofNat xD.1) x0 x1 x2 x3 x4 x5 x6 x7 x8 x9 xA u 0 0 (fun _ _=>.any)
  (fun xE xF=>(some (false,xE,xF,0))))))))
def s277v2 (x0:Nat × FF) (x1:Nat × FF × Int) (x2:Nat × FF):St:=⟨(.agg [(vcs w0),(.c (ro kE n0 f0)),(.c (ro kA n1 f1)),(.c (ro kG n2 f2)),(.c (ro kC n3 f3)),(.c (ro kF n4 f4))] :: .x (.ptr 0 0) :: .u :: .u :: .x (.c (ro (.pr .str .nil) x0.1 x0.2)) :: .x (.c (ro (.pr (.int .i64) .nil) x1.1 x1.2.1)) :: vxi x1.2.2 :: .x (.own 1 0 0) :: uu :: uu :: .agg [(vcs w0),(.c (ro kE n0 f0)),(.c (ro kA n1 f1)),(.c (ro kG n2 f2)),(.c (ro kC n3 f3)),(.c (ro kF n4 f4))] :: .x (.c (ro (.pr .str .nil) x0.1 x0.2)) :: .tup [.v (ro (.pr (.int .i64) .nil) x1.1 x1.2.1),.v (vi x1.2.2)] :: .x (.c (ro (.pr .str .nil) x0.1 x0.2)) :: vxi (Int.ofNat x0.1) :: .agg [(vcs w0),(.c (ro kE n0 f0)),(.c (ro kA n1 f1)),(.c (ro kG n2 f2)),(.c (ro kC n3 f3)),(.c (ro kF n4 f4))] :: .x (.c (ro kP x2.1 x2.2)) :: .tup [.v (ro (.pr (.int .i64) .nil) x1.1 x1.2.1),.v (vi x1.2.2)] :: .x (.c (ro (.pr (.int .i64) .nil) x1.1 x1.2.1)) :: vxi x1.2.2 :: (us 3 [.x (.c (ro (.pr (.int .i64) .nil) x1.1 x1.2.1)),vxi (Int.ofNat x1.1),vxi 0,uu,uu,uu,uu,uu,uu,uu,uu,uu,uu,uu,uu])),[.box [(vcs w0),(.c (ro kE n0 f0)),(.c (ro kA n1 f1)),(.c (ro kG n2 f2)),(.c (ro kC n3 f3)),(.c (ro kF n4 f4))],.arr (.pr .str .nil) 0 nilF]⟩
theorem t277v1 (x0:Nat × FF) (x1:Nat × FF × Int) (x2:Nat × FF) :
  loopN (eB A8v2 (C71 u) u) N277v1 u (s277v2 n0 n1 n2 n3 n4 f0 f1 f2 f3 f4 w0 x0 x1 x2) k =
  L277v1 u x0.1 x0.2 x1.1 x1.2.1 (Int.ofNat x1.1) w0 n0 f0 n1 f1 n2 f2 n3 f3 n4 f4 u 0 0 nilF (fun x3 x4=>k (.exit 0) (s277v1 x3 n0 n1 n2 n3 n4 f0 f1 f2 f3 f4 x4 w0)) :=
 Eq.trans (loopN_at (by kernel_rfl)) (q277v1 ..)
theorem g277v2 :
  (kBlk 0 (kSeq (C71 u) u (9 :: (rl 23 14 [])) A8v3 (finish A8))) (.exit 0) (s277v1 n0 n1 n2 n3 n4 n5 f0 f1 f2 f3 f4 f5 w0) =
  (some [.v (ro (.pr .str .nil) n0 f5),.v (vi 0)]):=by kernel_rfl
theorem e277:evalF (C71 u) u A8 [.agg [(.s w0),(ro kE n0 f0),(ro kA n1 f1),(ro kG n2 f2),(ro kC n3 f3),(ro kF n4 f4)]]=ob (FT277 u w0 n0 f0 n1 f1 n2 f2 n3 f3 n4 f4) fun t=>some (bif t.1 then [.v (.ro true .nil 0 nilF),.v (vi t.2.2.2)] else [.v (ro (.pr .str .nil) t.2.1 t.2.2.1),.v (vi 0)]):=Eq.trans (b:=(ob (F251 u w0 n0 f0 n1 f1 n2 f2 n3 f3 n4 f4) fun x0=>(ob (F276 u w0 n0 f0 n1 f1 n2 f2 n3 f3 n4 f4) fun x1=>(ob (F225 u (Int.ofNat x0.1) x1.1 x1.2) fun x2=>(bif (x2.2.2 != 0) then (some [.v (.ro true .nil 0 nilF),.v (vi x2.2.2)]) else (loopN (eB A8v2 (C71 u) u) N277v1 u (s277v2 n0 n1 n2 n3 n4 f0 f1 f2 f3 f4 w0 x0 x2 x1) (kBlk 0 (kSeq (C71 u) u (9 :: (rl 23 14 [])) A8v3 (finish A8))))))))) (by kernel_rfl) (by
 simp only [FT277,ob_bif,ob_ob,ob_none,ob_some,nl277v1,t277v1,g277v2,cond_true,cond_false])
def F277 (x0:ByteArray) (x1:Nat) (x2:FF) (x3:Nat) (x4:FF) (x5:Nat) (x6:FF) (x7:Nat) (x8:FF) (x9:Nat) (xA:FF):Option (Nat × FF × Int):=ob (FT277 u x0 x1 x2 x3 x4 x5 x6 x7 x8 x9 xA) fun t=>some (bif t.1 then (0,(fun _ _=>.any),t.2.2.2) else (t.2.1,t.2.2.1,0))
def O277:Ora:=mkO (q1 (ag (tc cS (tc (cL kE) (tc (cL kA) (tc (cL kG) (tc (cL kC) (t1 (cL kF))))))))) (fun x=>F277 u x.1 x.2.1.1 x.2.1.2 x.2.2.1.1 x.2.2.1.2 x.2.2.2.1.1 x.2.2.2.1.2 x.2.2.2.2.1.1 x.2.2.2.2.1.2 x.2.2.2.2.2.1 x.2.2.2.2.2.2) fun t=>[.v (ro (.pr .str .nil) t.1 t.2.1),.v (vi t.2.2)]
theorem d277:DO (O277 u) (C71 u) 8 A8:=dW u (fun x=>by exact e277 u x.2.1.1 x.2.2.1.1 x.2.2.2.1.1 x.2.2.2.2.1.1 x.2.2.2.2.2.1 x.2.1.2 x.2.2.1.2 x.2.2.2.1.2 x.2.2.2.2.1.2 x.2.2.2.2.2.2 x.1) (fun _=>rfl) fun t=>by
 obtain ⟨b,t⟩:=t
 cases b with
 | true=>exact (.cons (WkA.v (Wk.ro (by rfl))) (.cons (WkA.v (Wk.refl _)) .nil))
 | false =>
  exact (.cons (WkA.v (Wk.refl _)) (.cons (WkA.v (Wk.refl _)) .nil))
def C72:Oracle:=(C71 u).add 8 (fun _=>true) (O277 u)
def A22v1:AC:=(.region 5 [mv 15 5,o1 16 (bk .add 3 15 1),o1 5 (sg 16)] 0 none)
def A22v2:AC:=(.seq (.block 1
 (.seq (.region 6 [mv 17 0,mv 18 5,o1 19 (.indexAddr 37 9 1 (tm 17) (tm 18)),o1 20 (lo 9 19),mv 21 1,mv 22 5,o1 23 (.indexAddr 37 9 1 (tm 21) (tm 22)),o1 24 (lo 9 23),o1 25 (bt .neq 9 20 24)] 0 (some [[],[],[0,1],[0,1,2],[],[],[4,5],[4,5,6],(rl 0 8 [])])) []
  (.cond (tm 25)
  (.seq (.region 7 [o1 4 (sb false)] 0 none) []
   (.ret (rl 0 4 (rl 5 21 []))))
  .skip))) (4 :: (rl 17 9 []))
 A22v1)
def A22v3:AC:=(.seq (.seq (.region 4 [mv 11 5,mv 12 0,o1 13 (.len 37 false (tm 12)),o1 14 (bt .lss 3 11 13)] 0 none) []
 (.cond (tm 14)
 .skip
 (.exit 0 (rl 0 26 [])))) (rl 11 4 [])
 A22v2)
def A22v4:AC:=(.seq (.region 8 [o1 4 (sb true)] 0 none) []
 (.ret (rl 0 4 (rl 5 21 []))))
def A22v5:AC:=(.seq (.seq (.region 3 [o1 5 (sk 0)] 0 none) []
 (.block 0
 (.loop [] (2 :: 3 :: 4 :: (rl 6 20 []))
  A22v3))) (4 :: 5 :: (rl 11 15 []))
 A22v4)
def A22:AF:=⟨26,[.tmp 4],
 (.seq (.region 0 [o1 4 (sb false)] 0 none) []
 (.seq (.seq (.region 1 [mv 6 0,o1 7 (.len 37 false (tm 6)),mv 8 1,o1 9 (.len 37 false (tm 8)),o1 10 (bt .neq 3 7 9)] 0 none) []
 (.cond (tm 10)
 (.seq (.region 2 [o1 4 (sb false)] 0 none) []
  (.ret (rl 0 4 (rl 5 21 []))))
 .skip)) (4 :: (rl 6 5 []))
 A22v5))⟩
def N269v1:St→Option St:=nN 0 (2 :: 3 :: 4 :: (rl 6 20 []))
def s269v0:St:=⟨(.x (.c (ro (.pr .str .nil) n0 f0)) :: .x (.c (ro (.pr .str .nil) n1 f1)) :: (us 3 (vxi i0 :: (us 20 [])))),[]⟩
def s269v1:St:=⟨(us 4 (vxb false :: (us 21 []))),[]⟩
def s269v2:St:=⟨(us 26 []),[]⟩
def L269v1 {ρ:Type} (u:Nat) (x0:Nat) (x1:FF) (x2:Nat) (x3:FF):Nat→Int→(Option ρ)→(Option ρ)→Option ρ
 | 0,_,_,_=>none
 | m+1,x4,k0,k1 =>
  (bif (decide (x4<(Int.ofNat x0))) then (bif (inb x4 x0) then (bif (inb x4 x2) then (bif (!(ByteArray.toList (x1 x4.toNat 0).str==ByteArray.toList (x3 x4.toNat 0).str)) then k0 else (L269v1 u x0 x1 x2 x3 m (w64 (x4+1)) k0 k1)) else none) else none) else k1)
theorem nl269v1:∀ (m:Nat) (x0:Int) (k0:Option ρ) (k1:Option ρ),ob (L269v1 u n0 f0 n1 f1 m x0 k0 k1) ng=L269v1 u n0 f0 n1 f1 m x0 (ob k0 ng) (ob k1 ng)
 | 0,_,_,_=>rfl
 | m+1,x0,k0,k1=>by
  simp only [L269v1,ob_bif,ob_ob,ob_none,nl269v1 m]
theorem q269v1:∀ (m:Nat) (x0:Int),
  loopH (eB A22v3 (C72 u) u) N269v1 m (s269v0 n0 n1 f0 f1 x0) k=L269v1 u n0 f0 n1 f1 m x0 (k .ret s269v1) (k (.exit 0) s269v2)
 | 0,_=>rfl
 | m+1,x0=>by
  simp only [L269v1,← q269v1 m]
  kernel_rfl
def F269 (x0:Nat) (x1:FF) (x2:Nat) (x3:FF):Option (Bool) :=
 (bif ((Int.ofNat x0) != (Int.ofNat x2)) then (some false) else (L269v1 u x0 x1 x2 x3 u 0
  (some false)
  (some true)))
def s269v3:St:=⟨(.x (.c (ro (.pr .str .nil) n0 f0)) :: .x (.c (ro (.pr .str .nil) n1 f1)) :: uu :: uu :: .u :: vxi 0 :: (us 5 [uu,uu,uu,uu,uu,uu,uu,uu,uu,uu,uu,uu,uu,uu,uu])),[]⟩
theorem t269v1 :
  loopN (eB A22v3 (C72 u) u) N269v1 u (s269v3 n0 n1 f0 f1) k =
  L269v1 u n0 f0 n1 f1 u 0 (k .ret s269v1) (k (.exit 0) s269v2) :=
 Eq.trans (loopN_at (by kernel_rfl)) (q269v1 ..)
theorem g269v2 :
  (kBlk 0 (kSeq (C72 u) u (4 :: 5 :: (rl 11 15 [])) A22v4 (finish A22))) .ret s269v1 =
  (some [.v (.b false)]):=by kernel_rfl
theorem g269v3 :
  (kBlk 0 (kSeq (C72 u) u (4 :: 5 :: (rl 11 15 [])) A22v4 (finish A22))) (.exit 0) s269v2 =
  (some [.v (.b true)]):=by kernel_rfl
theorem e269:evalF (C72 u) u A22 [.v (ro (.pr .str .nil) n0 f0),.v (ro (.pr .str .nil) n1 f1)]=ob (F269 u n0 f0 n1 f1) fun t=>some [.v (.b t)]:=Eq.trans (b:=(bif ((Int.ofNat n0) != (Int.ofNat n1)) then (some [.v (.b false)]) else (loopN (eB A22v3 (C72 u) u) N269v1 u (s269v3 n0 n1 f0 f1) (kBlk 0 (kSeq (C72 u) u (4 :: 5 :: (rl 11 15 [])) A22v4 (finish A22)))))) (by kernel_rfl) (by
 simp only [F269,ob_bif,ob_ob,ob_none,ob_some,nl269v1,t269v1,g269v2,g269v3])
def O269:Ora:=mkO (qc (av (cL (.pr .str .nil))) (q1 (av (cL (.pr .str .nil))))) (fun x=>F269 u x.1.1 x.1.2 x.2.1 x.2.2) fun t=>[.v (.b t)]
theorem d269:DO (O269 u) (C72 u) 22 A22:=dO u (fun x=>by exact e269 u x.1.1 x.2.1 x.1.2 x.2.2)
def C73:Oracle:=(C72 u).add 22 (fun _=>true) (O269 u)
def A23v1:AC:=(.region 5 [mv 15 5,o1 16 (bk .add 3 15 1),o1 5 (sg 16)] 0 none)
def A23v2:AC:=(.seq (.block 1
 (.seq (.region 6 [mv 17 0,mv 18 5,o1 19 (.indexAddr 52 54 2 (tm 17) (tm 18)),o1 20 (ln 54 2 19),mv 21 1,mv 22 5,o1 23 (.indexAddr 52 54 2 (tm 21) (tm 22)),o1 24 (ln 54 2 23),o1 25 (.eqA true kP 54 (tm 20) (tm 24) 54)] 0 (some [[],[],[0,1],[0,1,2],[],[],[4,5],[4,5,6],(rl 0 8 [])])) []
  (.cond (tm 25)
  (.seq (.region 7 [o1 4 (sb false)] 0 none) []
   (.ret (rl 0 4 (rl 5 21 []))))
  .skip))) (4 :: (rl 17 9 []))
 A23v1)
def A23v3:AC:=(.seq (.seq (.region 4 [mv 11 5,mv 12 0,o1 13 (.len 52 false (tm 12)),o1 14 (bt .lss 3 11 13)] 0 none) []
 (.cond (tm 14)
 .skip
 (.exit 0 (rl 0 26 [])))) (rl 11 4 [])
 A23v2)
def A23v4:AC:=(.seq (.region 8 [o1 4 (sb true)] 0 none) []
 (.ret (rl 0 4 (rl 5 21 []))))
def A23v5:AC:=(.seq (.seq (.region 3 [o1 5 (sk 0)] 0 none) []
 (.block 0
 (.loop [] (2 :: 3 :: 4 :: (rl 6 20 []))
  A23v3))) (4 :: 5 :: (rl 11 15 []))
 A23v4)
def A23:AF:=⟨26,[.tmp 4],
 (.seq (.region 0 [o1 4 (sb false)] 0 none) []
 (.seq (.seq (.region 1 [mv 6 0,o1 7 (.len 52 false (tm 6)),mv 8 1,o1 9 (.len 52 false (tm 8)),o1 10 (bt .neq 3 7 9)] 0 none) []
 (.cond (tm 10)
 (.seq (.region 2 [o1 4 (sb false)] 0 none) []
  (.ret (rl 0 4 (rl 5 21 []))))
 .skip)) (4 :: (rl 6 5 []))
 A23v5))⟩
def N271v1:St→Option St:=nN 0 (2 :: 3 :: 4 :: (rl 6 20 []))
def s271v0:St:=⟨(.x (.c (ro kP n0 f0)) :: .x (.c (ro kP n1 f1)) :: (us 3 (vxi i0 :: (us 20 [])))),[]⟩
def s271v1:St:=⟨(us 4 (vxb false :: (us 21 []))),[]⟩
def s271v2:St:=⟨(us 26 []),[]⟩
def L271v1 {ρ:Type} (u:Nat) (x0:Nat) (x1:FF) (x2:Nat) (x3:FF):Nat→Int→(Option ρ)→(Option ρ)→Option ρ
 | 0,_,_,_=>none
 | m+1,x4,k0,k1 =>
  (bif (decide (x4<(Int.ofNat x0))) then (bif (inb x4 x0) then (bif (inb x4 x2) then (bif (!(((x1 x4.toNat 0).int==(x3 x4.toNat 0).int)&&(((x1 x4.toNat 1).int==(x3 x4.toNat 1).int)&&true))) then k0 else (L271v1 u x0 x1 x2 x3 m (w64 (x4+1)) k0 k1)) else none) else none) else k1)
theorem nl271v1:∀ (m:Nat) (x0:Int) (k0:Option ρ) (k1:Option ρ),ob (L271v1 u n0 f0 n1 f1 m x0 k0 k1) ng=L271v1 u n0 f0 n1 f1 m x0 (ob k0 ng) (ob k1 ng)
 | 0,_,_,_=>rfl
 | m+1,x0,k0,k1=>by
  simp only [L271v1,ob_bif,ob_ob,ob_none,nl271v1 m]
theorem q271v1:∀ (m:Nat) (x0:Int),
  loopH (eB A23v3 (C73 u) u) N271v1 m (s271v0 n0 n1 f0 f1 x0) k=L271v1 u n0 f0 n1 f1 m x0 (k .ret s271v1) (k (.exit 0) s271v2)
 | 0,_=>rfl
 | m+1,x0=>by
  simp only [L271v1,← q271v1 m]
  kernel_rfl
def F271 (x0:Nat) (x1:FF) (x2:Nat) (x3:FF):Option (Bool) :=
 (bif ((Int.ofNat x0) != (Int.ofNat x2)) then (some false) else (L271v1 u x0 x1 x2 x3 u 0
  (some false)
  (some true)))
def s271v3:St:=⟨(.x (.c (ro kP n0 f0)) :: .x (.c (ro kP n1 f1)) :: uu :: uu :: .u :: vxi 0 :: (us 5 [uu,uu,uu,uu,uu,uu,uu,uu,uu,uu,uu,uu,uu,uu,uu])),[]⟩
theorem t271v1 :
  loopN (eB A23v3 (C73 u) u) N271v1 u (s271v3 n0 n1 f0 f1) k =
  L271v1 u n0 f0 n1 f1 u 0 (k .ret s271v1) (k (.exit 0) s271v2) :=
 Eq.trans (loopN_at (by kernel_rfl)) (q271v1 ..)
theorem g271v2 :
  (kBlk 0 (kSeq (C73 u) u (4 :: 5 :: (rl 11 15 [])) A23v4 (finish A23))) .ret s271v1 =
  (some [.v (.b false)]):=by kernel_rfl
theorem g271v3 :
  (kBlk 0 (kSeq (C73 u) u (4 :: 5 :: (rl 11 15 [])) A23v4 (finish A23))) (.exit 0) s271v2 =
  (some [.v (.b true)]):=by kernel_rfl
theorem e271:evalF (C73 u) u A23 [.v (ro kP n0 f0),.v (ro kP n1 f1)]=ob (F271 u n0 f0 n1 f1) fun t=>some [.v (.b t)]:=Eq.trans (b:=(bif ((Int.ofNat n0) != (Int.ofNat n1)) then (some [.v (.b false)]) else (loopN (eB A23v3 (C73 u) u) N271v1 u (s271v3 n0 n1 f0 f1) (kBlk 0 (kSeq (C73 u) u (4 :: 5 :: (rl 11 15 [])) A23v4 (finish A23)))))) (by kernel_rfl) (by
 simp only [F271,ob_bif,ob_ob,ob_none,ob_some,nl271v1,t271v1,g271v2,g271v3])
def O271:Ora:=mkO (qc (av (cL kP)) (q1 (av (cL kP)))) (fun x=>F271 u x.1.1 x.1.2 x.2.1 x.2.2) fun t=>[.v (.b t)]
theorem d271:DO (O271 u) (C73 u) 23 A23:=dO u (fun x=>by exact e271 u x.1.1 x.2.1 x.1.2 x.2.2)
def C74:Oracle:=(C73 u).add 23 (fun _=>true) (O271 u)
def A58v1:AC:=(.region 6 [o1 18 (bk .add 3 8 1),mv 8 18] 0 none)
def A58v2:AC:=(.seq (.block 1
 (.seq (.region 3 [mv 10 8,o1 5 (sg 10)] 0 none) []
  (.seq (.region 4 [mv 11 1,mv 12 0,mv 13 5,o1 14 (.indexAddr 37 9 1 (tm 12) (tm 13)),o1 15 (lo 9 14),o1 16 (bt .eql 9 11 15)] 0 none) []
  (.cond (tm 16)
  (.seq (.region 5 [mv 17 5,o1 4 (sg 17)] 0 none) []
   (.ret (rl 0 4 (rl 5 14 []))))
  .skip)))) (4 :: 5 :: (rl 10 8 []))
 A58v1)
def A58v3:AC:=(.seq (.region 2 [o1 9 (bt .lss 3 8 7)] 0 none) []
 (.seq (.cond (tm 9)
 .skip
 (.exit 0 (rl 0 19 []))) []
 A58v2))
def A58v4:AC:=(.seq (.region 7 [o1 4 (sk (-1))] 0 none) []
 (.ret (rl 0 4 (rl 5 14 []))))
def A58:AF:=⟨19,[.tmp 4],
 (.seq (.region 0 [o1 4 (sk 0)] 0 none) []
 (.seq (.seq (.region 1 [mv 6 0,o1 7 (.len 37 false (tm 6)),o1 8 (.move (ic 0))] 0 none) []
 (.block 0
 (.loop [] (rl 2 5 (rl 9 10 []))
  A58v3))) (rl 4 15 [])
 A58v4))⟩
def N256v1:St→Option St:=nN 0 (rl 2 5 (rl 9 10 []))
def s256v0:St:=⟨(.x (.c (ro (.pr .str .nil) n0 f0)) :: vxs w0 :: (us 5 (vxi i0 :: vxi i1 :: (us 10 [])))),[]⟩
def s256v1:St:=⟨(us 4 (vxi i0 :: (us 14 []))),[]⟩
def s256v2:St:=⟨(us 19 []),[]⟩
def L256v1 {ρ:Type} (u:Nat) (x0:Nat) (x1:FF) (x2:ByteArray) (x3:Int):Nat→Int→(Int→Option ρ)→(Option ρ)→Option ρ
 | 0,_,_,_=>none
 | m+1,x4,k0,k1 =>
  (bif (decide (x4<x3)) then (bif (inb x4 x0) then (bif (ByteArray.toList x2==ByteArray.toList (x1 x4.toNat 0).str) then (k0 x4) else (L256v1 u x0 x1 x2 x3 m (w64 (x4+1)) k0 k1)) else none) else k1)
theorem nl256v1:∀ (m:Nat) (x0:Int) (k0:Int→Option ρ) (k1:Option ρ),ob (L256v1 u n0 f0 w0 i0 m x0 k0 k1) ng=L256v1 u n0 f0 w0 i0 m x0 (fun x1=>ob (k0 x1) ng) (ob k1 ng)
 | 0,_,_,_=>rfl
 | m+1,x0,k0,k1=>by
  simp only [L256v1,ob_bif,ob_ob,ob_none,nl256v1 m]
theorem q256v1:∀ (m:Nat) (x0:Int),
  loopH (eB A58v3 (C74 u) u) N256v1 m (s256v0 n0 f0 i0 x0 w0) k=L256v1 u n0 f0 w0 i0 m x0 (fun x1=>k .ret (s256v1 x1)) (k (.exit 0) s256v2)
 | 0,_=>rfl
 | m+1,x0=>by
  simp only [L256v1,← q256v1 m]
  kernel_rfl
def F256 (x0:Nat) (x1:FF) (x2:ByteArray):Option (Int) :=
 (L256v1 u x0 x1 x2 (Int.ofNat x0) u 0
  (fun x3=>(some x3))
  (some (-1)))
def s256v3:St:=⟨[.x (.c (ro (.pr .str .nil) n0 f0)),vxs w0,uu,uu,vxi 0,uu,.x (.c (ro (.pr .str .nil) n0 f0)),vxi (Int.ofNat n0),vxi 0,uu,uu,uu,uu,uu,uu,uu,uu,uu,uu],[]⟩
theorem t256v1 :
  loopN (eB A58v3 (C74 u) u) N256v1 u (s256v3 n0 f0 w0) k =
  L256v1 u n0 f0 w0 (Int.ofNat n0) u 0 (fun x0=>k .ret (s256v1 x0)) (k (.exit 0) s256v2) :=
 Eq.trans (loopN_at (by kernel_rfl)) (q256v1 ..)
theorem g256v2 :
  (kBlk 0 (kSeq (C74 u) u (rl 4 15 []) A58v4 (finish A58))) .ret (s256v1 i0) =
  (some [.v (vi i0)]):=by kernel_rfl
theorem g256v3 :
  (kBlk 0 (kSeq (C74 u) u (rl 4 15 []) A58v4 (finish A58))) (.exit 0) s256v2 =
  (some [.v (vi (-1))]):=by kernel_rfl
theorem e256:evalF (C74 u) u A58 [.v (ro (.pr .str .nil) n0 f0),.v (.s w0)]=ob (F256 u n0 f0 w0) fun t=>some [.v (vi t)]:=Eq.trans (b:=(loopN (eB A58v3 (C74 u) u) N256v1 u (s256v3 n0 f0 w0) (kBlk 0 (kSeq (C74 u) u (rl 4 15 []) A58v4 (finish A58))))) (by kernel_rfl) (by
 simp only [F256,ob_bif,ob_ob,ob_none,ob_some,nl256v1,t256v1,g256v2,g256v3])
def O256:Ora:=mkO (qc (av (cL (.pr .str .nil))) (q1 (av cS))) (fun x=>F256 u x.1.1 x.1.2 x.2) fun t=>[.v (vi t)]
theorem d256:DO (O256 u) (C74 u) 58 A58:=dO u (fun x=>by exact e256 u x.1.1 x.1.2 x.2)
def C75:Oracle:=(C74 u).add 58 (fun _=>true) (O256 u)
def A28:AF:=⟨9,[.tmp 4],
 (.seq (.region 0 [o1 4 (sb false)] 0 none) []
 (.seq (.region 1 [mv 5 0,mv 6 1,o1 7 (cs 58 [5,6] [37,9]),o1 8 (bk .geq 3 7 0),o1 4 (sg 8)] 0 none) []
 (.ret (rl 0 4 (rl 5 4 [])))))⟩
def F257 (x0:Nat) (x1:FF) (x2:ByteArray):Option (Bool) :=
 (ob (F256 u x0 x1 x2) fun x3=>(some (decide (x3≥0))))
theorem e257:evalF (C75 u) u A28 [.v (ro (.pr .str .nil) n0 f0),.v (.s w0)]=ob (F257 u n0 f0 w0) fun t=>some [.v (.b t)]:=by
 simp only [F257,ob_bif,ob_ob,ob_none,ob_some]
 kernel_rfl
def O257:Ora:=mkO (qc (av (cL (.pr .str .nil))) (q1 (av cS))) (fun x=>F257 u x.1.1 x.1.2 x.2) fun t=>[.v (.b t)]
theorem d257:DO (O257 u) (C75 u) 28 A28:=dO u (fun x=>by exact e257 u x.1.1 x.1.2 x.2)
def C76:Oracle:=(C75 u).add 28 (fun _=>true) (O257 u)
def A56v1:AC:=(.seq (.region 8 [o1 6 (sb true)] 0 none) []
 (.ret (rl 0 6 (rl 7 26 []))))
def A56:AF:=⟨33,[.tmp 6],
 (.seq (.region 0 [o1 3 (bx 0 49 0),o1 6 (sb false)] 1 none) []
 (.seq (.seq (.region 1 [o1 7 (fa 49 3 0 0),o1 8 (lo 3 7)] 0 none) []
 (.block 0
 (.seq (.region 2 [o1 10 (bk .eql 3 8 1),o1 9 (sg 10)] 0 none) []
  (.cond (tm 9)
  (.seq (.region 3 [o1 11 (fa 49 3 2 2),o1 12 (lo 9 11),o1 13 (.binOp .eql 9 (tm 12) (.const (.string ByteArray.empty)) 9),mv 14 13,og 15 (.move (tm 1)) 14 false,og 16 (fa 49 3 2 2) 14 false,og 17 (lo 9 16) 14 false,og 18 (cs 28 [15,17] [37,9]) 14 false,o1 19 (pa 14 18),o1 6 (sg 19)] 0 none) []
   (.ret (rl 0 6 (rl 7 26 []))))
  (.seq (.region 4 [o1 21 (bk .eql 3 8 2),o1 20 (sg 21)] 0 none) []
   (.cond (tm 20)
   (.seq (.region 5 [mv 22 1,o1 23 (fa 49 3 2 2),o1 24 (lo 9 23),o1 25 (cs 28 [22,24] [37,9]),o1 26 (.unOp .not 4 (tm 25)),o1 6 (sg 26)] 0 none) []
    (.ret (rl 0 6 (rl 7 26 []))))
   (.seq (.region 6 [o1 28 (bk .eql 3 8 3),o1 27 (sg 28)] 0 none) []
    (.cond (tm 27)
    (.seq (.region 7 [mv 29 2,o1 30 (fa 49 3 2 2),o1 31 (lo 9 30),o1 32 (cs 28 [29,31] [37,9]),o1 6 (sg 32)] 0 none) []
     (.ret (rl 0 6 (rl 7 26 []))))
    .skip)))))))) (rl 6 27 [])
 A56v1))⟩
def F258 (x0:Int) (x1 x2:ByteArray) (x3:Nat) (x4:FF) (x5:Nat) (x6:FF):Option (Bool) :=
 (bif (x0==1) then (bif ((ByteArray.toList x2==ByteArray.toList ByteArray.empty)==false) then (ob (F257 u x3 x4 x2) fun x7=>(some x7)) else (some true)) else (bif (x0==2) then (ob (F257 u x3 x4 x2) fun x8=>(some (!x8))) else (bif (x0==3) then (ob (F257 u x5 x6 x2) fun x9=>(some x9)) else (some true))))
theorem e258:evalF (C76 u) u A56 [.agg [(vi i0),(.s w0),(.s w1)],.v (ro (.pr .str .nil) n0 f0),.v (ro (.pr .str .nil) n1 f1)]=ob (F258 u i0 w0 w1 n0 f0 n1 f1) fun t=>some [.v (.b t)]:=by
 simp only [F258,ob_bif,ob_ob,ob_none,ob_some]
 kernel_rfl
def O258:Ora:=mkO (qc (ag (tc ci (tc cS (t1 cS)))) (qc (av (cL (.pr .str .nil))) (q1 (av (cL (.pr .str .nil)))))) (fun x=>F258 u x.1.1 x.1.2.1 x.1.2.2 x.2.1.1 x.2.1.2 x.2.2.1 x.2.2.2) fun t=>[.v (.b t)]
theorem d258:DO (O258 u) (C76 u) 56 A56:=dO u (fun x=>by exact e258 u x.2.1.1 x.2.2.1 x.2.1.2 x.2.2.2 x.1.1 x.1.2.1 x.1.2.2)
def C77:Oracle:=(C76 u).add 56 (fun _=>true) (O258 u)
def A25v1:AC:=(.region 7 [o1 34 (bk .add 3 15 1),mv 15 34] 0 none)
def A25v2:AC:=(.seq (.block 1
 (.seq (.region 4 [o1 17 (.indexAddr 26 49 3 (tm 13) (tm 15)),o1 18 (ln 49 3 17),o1 11 (.alloc 0 49 [vci 0,vcs ByteArray.empty,vcs ByteArray.empty]),o0 (.store 49 3 (tm 11) (tm 18))] 1 none) []
  (.seq (.region 5 [o1 19 (fa 49 11 1 1),o1 20 (lo 9 19),mv 21 3,o1 22 (bt .eql 9 20 21),mv 23 22,og 24 (ln 49 3 11) 23 true,og 25 (.move (tm 1)) 23 true,og 26 (.move (tm 2)) 23 true,og 27 (cs 56 [24,25,26] [49,37,37]) 23 true,og 28 (.unOp .not 4 (tm 27)) 23 true,o1 29 (po 23 28)] 0 none) []
  (.cond (tm 29)
  (.region 6 [mv 30 9,o1 31 (ln 49 3 11),o1 32 (.buildSlice 0 26 49 kF 1 [vci 0,vcs ByteArray.empty,vcs ByteArray.empty] [(0,(tm 31))]),o1 33 (.append 1 26 49 kF 40 (tm 30) (tm 32)),o1 9 (sg 33)] 2 none)
  .skip)))) (11 :: (rl 17 17 []))
 A25v1)
def A25v3:AC:=(.seq (.region 3 [o1 16 (bt .lss 3 15 14)] 0 none) []
 (.seq (.cond (tm 16)
 .skip
 (.exit 0 (rl 0 9 (rl 10 26 [])))) []
 A25v2))
def A25v4:AC:=(.seq (.region 8 [mv 35 9,o1 8 (sg 35)] 0 none) []
 (.ret (rl 0 8 (rl 9 27 []))))
def A25:AF:=⟨36,[.tmp 8],
 (.seq (.region 0 [o1 4 (bx 0 28 0),o1 8 (.assign (.const (.slice none 0 0)))] 1 none) []
 (.seq (.region 1 [o1 9 (.assign (.const (.slice none 0 0)))] 0 none) []
 (.seq (.seq (.region 2 [o1 12 (fa 28 4 5 5),o1 13 (lo 26 12),o1 14 (.len 26 false (tm 13)),o1 15 (.move (ic 0))] 0 none) []
 (.block 0
 (.loop [.slot 9 kF] (0 :: (rl 4 5 (10 :: 11 :: 12 :: (rl 16 20 []))))
  A25v3))) (rl 11 24 [])
 A25v4)))⟩
def N259v1:St→Option St:=nN 2 (0 :: (rl 4 5 (10 :: 11 :: 12 :: (rl 16 20 []))))
def s259v0:St:=⟨(.u :: .x (.c (ro (.pr .str .nil) n0 f0)) :: .x (.c (ro (.pr .str .nil) n1 f1)) :: vxs w0 :: (us 5 (.x (.own 1 0 n2) :: (us 3 (.x (.c (ro kF n3 f2)) :: vxi i0 :: vxi i1 :: (us 20 [])))))),[.box [(vcs w1),(.c (ro kE n4 f3)),(.c (ro kA n5 f4)),(.c (ro kG n6 f5)),(.c (ro kC n7 f6)),(.c (ro kF n3 f2))],.arr kF n2 f7]⟩
def s259v1:St:=⟨(us 9 (.x (.own 1 0 n0) :: (us 26 []))),[.box [(vcs w0),(.c (ro kE n1 f0)),(.c (ro kA n2 f1)),(.c (ro kG n3 f2)),(.c (ro kC n4 f3)),(.c (ro kF n5 f4))],.arr kF n0 f5]⟩
def L259v1 {ρ:Type} (u:Nat) (x0:Nat) (x1:FF) (x2:Nat) (x3:FF) (x4:ByteArray) (x5:Nat) (x6:FF) (x7:Int) (x8:ByteArray) (x9:Nat) (xA:FF) (xB:Nat) (xC:FF) (xD:Nat) (xE:FF) (xF:Nat) (xG:FF):Nat→Nat→Int→FF→(Nat→FF→Option ρ)→Option ρ
 | 0,_,_,_,_=>none
 | m+1,xH,xI,xJ,k0 =>
  (bif (decide (xI<x7)) then (bif (inb xI x5) then (bif ((ByteArray.toList (x6 xI.toNat 1).str==ByteArray.toList x4)==true) then (ob (F258 u (x6 xI.toNat 0).int (x6 xI.toNat 1).str (x6 xI.toNat 2).str x0 x1 x2 x3) fun xK=>(bif (!xK) then (bif (Nat.ble (xH+1) 1073741824) then (L259v1 u x0 x1 x2 x3 x4 x5 x6 x7 x8 x9 xA xB xC xD xE xF xG m (xH+1) (w64 (xI+1)) (joinF xH xJ (rowsF 3 [(.i .i64 (x6 xI.toNat 0).int),(.s (x6 xI.toNat 1).str),(.s (x6 xI.toNat 2).str)])) k0) else none) else (L259v1 u x0 x1 x2 x3 x4 x5 x6 x7 x8 x9 xA xB xC xD xE xF xG m xH (w64 (xI+1)) xJ k0))) else (L259v1 u x0 x1 x2 x3 x4 x5 x6 x7 x8 x9 xA xB xC xD xE xF xG m xH (w64 (xI+1)) xJ k0)) else none) else (k0 xH xJ))
theorem nl259v1:∀ (m:Nat) (x0:Nat) (x1:Int) (x2:FF) (k0:Nat→FF→Option ρ),ob (L259v1 u n0 f0 n1 f1 w0 n2 f2 i0 w1 n3 f3 n4 f4 n5 f5 n6 f6 m x0 x1 x2 k0) ng=L259v1 u n0 f0 n1 f1 w0 n2 f2 i0 w1 n3 f3 n4 f4 n5 f5 n6 f6 m x0 x1 x2 (fun x3 x4=>ob (k0 x3 x4) ng)
 | 0,_,_,_,_=>rfl
 | m+1,x0,x1,x2,k0=>by
  simp only [L259v1,ob_bif,ob_ob,ob_none,nl259v1 m]
theorem q259v1:∀ (m:Nat) (x0:Nat) (x1:Int) (x2:FF),
  loopH (eB A25v3 (C77 u) u) N259v1 m (s259v0 n0 n1 x0 n2 n3 n4 n5 n6 f0 f1 f2 f3 f4 f5 f6 x2 i0 x1 w0 w1) k=L259v1 u n0 f0 n1 f1 w0 n2 f2 i0 w1 n3 f3 n4 f4 n5 f5 n6 f6 m x0 x1 x2 (fun x3 x4=>k (.exit 0) (s259v1 x3 n3 n4 n5 n6 n2 f3 f4 f5 f6 f2 x4 w1))
 | 0,_,_,_=>rfl
 | m+1,x0,x1,x2=>by
  simp only [L259v1,← q259v1 m]
  kernel_rfl
def F259 (x0:ByteArray) (x1:Nat) (x2:FF) (x3:Nat) (x4:FF) (x5:Nat) (x6:FF) (x7:Nat) (x8:FF) (x9:Nat) (xA:FF) (xB:Nat) (xC:FF) (xD:Nat) (xE:FF) (xF:ByteArray):Option (Nat × FF) :=
 (L259v1 u xB xC xD xE xF x9 xA (Int.ofNat x9) x0 x1 x2 x3 x4 x5 x6 x7 x8 u 0 0 (fun _ _=>.any)
  (fun xG xH=>(some (xG,xH))))
def s259v2:St:=⟨[.agg [(vcs w0),(.c (ro kE n0 f0)),(.c (ro kA n1 f1)),(.c (ro kG n2 f2)),(.c (ro kC n3 f3)),(.c (ro kF n4 f4))],.x (.c (ro (.pr .str .nil) n5 f5)),.x (.c (ro (.pr .str .nil) n6 f6)),vxs w1,.x (.ptr 0 0),uu,uu,uu,.x (vcn),.x (.own 1 0 0),uu,uu,.x (.ptr 0 5),.x (.c (ro kF n4 f4)),vxi (Int.ofNat n4),vxi 0,uu,uu,uu,uu,uu,uu,uu,uu,uu,uu,uu,uu,uu,uu,uu,uu,uu,uu,uu,uu],[.box [(vcs w0),(.c (ro kE n0 f0)),(.c (ro kA n1 f1)),(.c (ro kG n2 f2)),(.c (ro kC n3 f3)),(.c (ro kF n4 f4))],.arr kF 0 nilF]⟩
theorem t259v1 :
  loopN (eB A25v3 (C77 u) u) N259v1 u (s259v2 n0 n1 n2 n3 n4 n5 n6 f0 f1 f2 f3 f4 f5 f6 w0 w1) k =
  L259v1 u n5 f5 n6 f6 w1 n4 f4 (Int.ofNat n4) w0 n0 f0 n1 f1 n2 f2 n3 f3 u 0 0 nilF (fun x0 x1=>k (.exit 0) (s259v1 x0 n0 n1 n2 n3 n4 f0 f1 f2 f3 f4 x1 w0)) :=
 Eq.trans (loopN_at (by kernel_rfl)) (q259v1 ..)
theorem g259v2 :
  (kBlk 0 (kSeq (C77 u) u (rl 11 24 []) A25v4 (finish A25))) (.exit 0) (s259v1 n0 n1 n2 n3 n4 n5 f0 f1 f2 f3 f4 f5 w0) =
  (some [.v (ro kF n0 f5)]):=by kernel_rfl
theorem e259:evalF (C77 u) u A25 [.agg [(.s w0),(ro kE n0 f0),(ro kA n1 f1),(ro kG n2 f2),(ro kC n3 f3),(ro kF n4 f4)],.v (ro (.pr .str .nil) n5 f5),.v (ro (.pr .str .nil) n6 f6),.v (.s w1)]=ob (F259 u w0 n0 f0 n1 f1 n2 f2 n3 f3 n4 f4 n5 f5 n6 f6 w1) fun t=>some [.v (ro kF t.1 t.2)]:=Eq.trans (b:=(loopN (eB A25v3 (C77 u) u) N259v1 u (s259v2 n0 n1 n2 n3 n4 n5 n6 f0 f1 f2 f3 f4 f5 f6 w0 w1) (kBlk 0 (kSeq (C77 u) u (rl 11 24 []) A25v4 (finish A25))))) (by kernel_rfl) (by
 simp only [F259,ob_bif,ob_ob,ob_none,ob_some,nl259v1,t259v1,g259v2])
def O259:Ora:=mkO (qc (ag (tc cS (tc (cL kE) (tc (cL kA) (tc (cL kG) (tc (cL kC) (t1 (cL kF)))))))) (qc (av (cL (.pr .str .nil))) (qc (av (cL (.pr .str .nil))) (q1 (av cS))))) (fun x=>F259 u x.1.1 x.1.2.1.1 x.1.2.1.2 x.1.2.2.1.1 x.1.2.2.1.2 x.1.2.2.2.1.1 x.1.2.2.2.1.2 x.1.2.2.2.2.1.1 x.1.2.2.2.2.1.2 x.1.2.2.2.2.2.1 x.1.2.2.2.2.2.2 x.2.1.1 x.2.1.2 x.2.2.1.1 x.2.2.1.2 x.2.2.2) fun t=>[.v (ro kF t.1 t.2)]
theorem d259:DO (O259 u) (C77 u) 25 A25:=dO u (fun x=>by exact e259 u x.1.2.1.1 x.1.2.2.1.1 x.1.2.2.2.1.1 x.1.2.2.2.2.1.1 x.1.2.2.2.2.2.1 x.2.1.1 x.2.2.1.1 x.1.2.1.2 x.1.2.2.1.2 x.1.2.2.2.1.2 x.1.2.2.2.2.1.2 x.1.2.2.2.2.2.2 x.2.1.2 x.2.2.1.2 x.1.1 x.2.2.2)
def C78:Oracle:=(C77 u).add 25 (fun _=>true) (O259 u)
def A30:AF:=⟨11,[.tmp 4],
 (.seq (.region 0 [o1 3 (bx 0 49 0),o1 4 (sb false)] 1 none) []
 (.seq (.region 1 [o1 5 (fa 49 3 0 0),o1 6 (lo 3 5),o1 7 (lo 3 2),o1 8 (.indexAddrA 64 3 3 1 (tm 1) (tm 7)),o1 9 (lo 3 8),o1 10 (bt .eql 3 6 9),o1 4 (sg 10)] 0 (some [[],[0],[],[2],[2,3],(rl 0 5 []),(rl 0 6 [])])) []
 (.ret (rl 0 4 (rl 5 6 [])))))⟩
def F260 (u:Nat) (x0:Int) (x1 x2:ByteArray) (x3 x4:Nat→CV):Option (Bool) :=
 (bif ((x4 0).int==0) then (some (x0==(x3 0).int)) else (bif ((x4 0).int==1) then (some (x0==(x3 1).int)) else (bif ((x4 0).int==2) then (some (x0==(x3 2).int)) else none)))
theorem e260:evalF (C78 u) u A30 [.agg [(vi i0),(.s w0),(.s w1)],.v (.rp kV g0),.v (.rp (.pr (.int .i64) .nil) g1)]=ob (F260 u i0 w0 w1 g0 g1) fun t=>some [.v (.b t)]:=by
 simp only [F260,ob_bif,ob_ob,ob_none,ob_some]
 kernel_rfl
def O260:Ora:=mkO (qc (ag (tc ci (tc cS (t1 cS)))) (qc (av (cP kV)) (q1 (av (cP (.pr (.int .i64) .nil)))))) (fun x=>F260 u x.1.1 x.1.2.1 x.1.2.2 x.2.1 x.2.2) fun t=>[.v (.b t)]
theorem d260:DO (O260 u) (C78 u) 30 A30:=dO u (fun x=>by exact e260 u x.1.1 x.1.2.1 x.1.2.2 x.2.1 x.2.2)
def C79:Oracle:=(C78 u).add 30 (fun _=>true) (O260 u)
def A59v1:AC:=(.region 6 [o1 18 (bk .add 3 8 1),mv 8 18] 0 none)
def A59v2:AC:=(.seq (.block 1
 (.seq (.region 3 [mv 10 8,o1 5 (sg 10)] 0 none) []
  (.seq (.region 4 [mv 11 1,mv 12 0,mv 13 5,o1 14 (.indexAddr 26 49 3 (tm 12) (tm 13)),o1 15 (ln 49 3 14),o1 16 (.callv (tm 11) [(tm 15)] [49] .snap)] 0 none) []
  (.cond (tm 16)
  (.seq (.region 5 [mv 17 5,o1 4 (sg 17)] 0 none) []
   (.ret (rl 0 4 (rl 5 14 []))))
  .skip)))) (4 :: 5 :: (rl 10 8 []))
 A59v1)
def A59v3:AC:=(.seq (.region 2 [o1 9 (bt .lss 3 8 7)] 0 none) []
 (.seq (.cond (tm 9)
 .skip
 (.exit 0 (rl 0 19 []))) []
 A59v2))
def A59v4:AC:=(.seq (.region 7 [o1 4 (sk (-1))] 0 none) []
 (.ret (rl 0 4 (rl 5 14 []))))
def A59:AF:=⟨19,[.tmp 4],
 (.seq (.region 0 [o1 4 (sk 0)] 0 none) []
 (.seq (.seq (.region 1 [mv 6 0,o1 7 (.len 26 false (tm 6)),o1 8 (.move (ic 0))] 0 none) []
 (.block 0
 (.loop [] (rl 2 5 (rl 9 10 []))
  A59v3))) (rl 4 15 [])
 A59v4))⟩
def N261v1:St→Option St:=nN 0 (rl 2 5 (rl 9 10 []))
def s261v0:St:=⟨(.x (.c (ro kF n0 f0)) :: .x (.c (.fn 30 2 (listF [(.rp kV g0),(.rp (.pr (.int .i64) .nil) g1)]))) :: (us 5 (vxi i0 :: vxi i1 :: (us 10 [])))),[]⟩
def s261v1:St:=⟨(us 4 (vxi i0 :: (us 14 []))),[]⟩
def s261v2:St:=⟨(us 19 []),[]⟩
def L261v1 {ρ:Type} (u:Nat) (x0:Nat) (x1:FF) (x2 x3:Nat→CV) (x4:Int):Nat→Int→(Int→Option ρ)→(Option ρ)→Option ρ
 | 0,_,_,_=>none
 | m+1,x5,k0,k1 =>
  (bif (decide (x5<x4)) then (bif (inb x5 x0) then (ob (F260 u (x1 x5.toNat 0).int (x1 x5.toNat 1).str (x1 x5.toNat 2).str x2 x3) fun x6=>(bif x6 then (k0 x5) else (L261v1 u x0 x1 x2 x3 x4 m (w64 (x5+1)) k0 k1))) else none) else k1)
theorem nl261v1:∀ (m:Nat) (x0:Int) (k0:Int→Option ρ) (k1:Option ρ),ob (L261v1 u n0 f0 g0 g1 i0 m x0 k0 k1) ng=L261v1 u n0 f0 g0 g1 i0 m x0 (fun x1=>ob (k0 x1) ng) (ob k1 ng)
 | 0,_,_,_=>rfl
 | m+1,x0,k0,k1=>by
  simp only [L261v1,ob_bif,ob_ob,ob_none,nl261v1 m]
theorem q261v1:∀ (m:Nat) (x0:Int),
  loopH (eB A59v3 (C79 u) u) N261v1 m (s261v0 n0 f0 i0 x0 g0 g1) k=L261v1 u n0 f0 g0 g1 i0 m x0 (fun x1=>k .ret (s261v1 x1)) (k (.exit 0) s261v2)
 | 0,_=>rfl
 | m+1,x0=>by
  simp only [L261v1,← q261v1 m]
  kernel_rfl
def F261 (x0:Nat) (x1:FF) (x2 x3:Nat→CV):Option (Int) :=
 (L261v1 u x0 x1 x2 x3 (Int.ofNat x0) u 0
  (fun x4=>(some x4))
  (some (-1)))
def s261v3:St:=⟨[.x (.c (ro kF n0 f0)),.x (.c (.fn 30 2 (listF [(.rp kV g0),(.rp (.pr (.int .i64) .nil) g1)]))),uu,uu,vxi 0,uu,.x (.c (ro kF n0 f0)),vxi (Int.ofNat n0),vxi 0,uu,uu,uu,uu,uu,uu,uu,uu,uu,uu],[]⟩
theorem t261v1 :
  loopN (eB A59v3 (C79 u) u) N261v1 u (s261v3 n0 f0 g0 g1) k =
  L261v1 u n0 f0 g0 g1 (Int.ofNat n0) u 0 (fun x0=>k .ret (s261v1 x0)) (k (.exit 0) s261v2) :=
 Eq.trans (loopN_at (by kernel_rfl)) (q261v1 ..)
theorem g261v2 :
  (kBlk 0 (kSeq (C79 u) u (rl 4 15 []) A59v4 (finish A59))) .ret (s261v1 i0) =
  (some [.v (vi i0)]):=by kernel_rfl
theorem g261v3 :
  (kBlk 0 (kSeq (C79 u) u (rl 4 15 []) A59v4 (finish A59))) (.exit 0) s261v2 =
  (some [.v (vi (-1))]):=by kernel_rfl
theorem e261:evalF (C79 u) u A59 [.v (ro kF n0 f0),.v (.fn 30 2 (listF [(.rp kV g0),(.rp (.pr (.int .i64) .nil) g1)]))]=ob (F261 u n0 f0 g0 g1) fun t=>some [.v (vi t)]:=Eq.trans (b:=(loopN (eB A59v3 (C79 u) u) N261v1 u (s261v3 n0 f0 g0 g1) (kBlk 0 (kSeq (C79 u) u (rl 4 15 []) A59v4 (finish A59))))) (by kernel_rfl) (by
 simp only [F261,ob_bif,ob_ob,ob_none,ob_some,nl261v1,t261v1,g261v2,g261v3])
def O261:Ora:=mkO (qc (av (cL kF)) (q1 (av (cF 30 2 (tc (cP kV) (t1 (cP (.pr (.int .i64) .nil)))))))) (fun x=>F261 u x.1.1 x.1.2 x.2.1 x.2.2) fun t=>[.v (vi t)]
theorem d261:DO (O261 u) (C79 u) 59 A59:=dO u (fun x=>by exact e261 u x.1.1 x.1.2 x.2.1 x.2.2)
def C80:Oracle:=(C79 u).add 59 (fun l=>isFn 30 l 1) (O261 u)
def A29:AF:=⟨9,[.tmp 4],
 (.seq (.region 0 [o1 4 (sb false)] 0 none) []
 (.seq (.region 1 [mv 5 0,mv 6 1,o1 7 (cs 59 [5,6] [26,67]),o1 8 (bk .geq 3 7 0),o1 4 (sg 8)] 0 none) []
 (.ret (rl 0 4 (rl 5 4 [])))))⟩
def F262 (x0:Nat) (x1:FF) (x2 x3:Nat→CV):Option (Bool) :=
 (ob (F261 u x0 x1 x2 x3) fun x4=>(some (decide (x4≥0))))
theorem e262:evalF (C80 u) u A29 [.v (ro kF n0 f0),.v (.fn 30 2 (listF [(.rp kV g0),(.rp (.pr (.int .i64) .nil) g1)]))]=ob (F262 u n0 f0 g0 g1) fun t=>some [.v (.b t)]:=by
 simp only [F262,ob_bif,ob_ob,ob_none,ob_some]
 kernel_rfl
def O262:Ora:=mkO (qc (av (cL kF)) (q1 (av (cF 30 2 (tc (cP kV) (t1 (cP (.pr (.int .i64) .nil)))))))) (fun x=>F262 u x.1.1 x.1.2 x.2.1 x.2.2) fun t=>[.v (.b t)]
theorem d262:DO (O262 u) (C80 u) 29 A29:=dO u (fun x=>by exact e262 u x.1.1 x.1.2 x.2.1 x.2.2)
def C81:Oracle:=(C80 u).add 29 (fun l=>isFn 30 l 1) (O262 u)
def A11v1:AC:=(.region 12 [o1 36 (bk .add 3 28 1),mv 28 36] 0 none)
def A11v2:AC:=(.seq (.block 1
 (.seq (.region 9 [mv 30 28,o1 31 (.index 65 34 3 1 none (tm 27) (tm 28)),o1 11 (.alloc 0 3 [vci 0]),o0 (.store 3 1 (tm 11) (tm 30)),o1 12 (sg 31)] 1 none) []
  (.seq (.region 10 [mv 32 9,o1 33 (.mkfn 30 [(tm 10),(tm 11)]),o1 34 (cs 29 [32,33] [26,67])] 0 none) []
  (.cond (tm 34)
  (.seq (.region 11 [mv 35 12,o1 8 (sg 35)] 0 none) []
   (.ret (rl 0 8 (rl 9 28 []))))
  .skip)))) (8 :: 11 :: 12 :: (rl 30 6 []))
 A11v1)
def A11v3:AC:=(.seq (.region 8 [o1 29 (bk .lss 3 28 3)] 0 none) []
 (.seq (.cond (tm 29)
 .skip
 (.exit 0 (rl 0 37 []))) []
 A11v2))
def A11v4:AC:=(.seq (.region 13 [o1 8 (sk 0)] 0 none) []
 (.ret (rl 0 8 (rl 9 28 []))))
def A11v5:AC:=(.seq (.region 5 [o1 21 (ln 28 6 4),mv 22 1,mv 23 2,mv 24 3,o1 25 (cf 25 [21,22,23,24] [28,37,37,9]),o1 9 (sg 25)] 0 none) []
 (.seq (.region 6 [o1 26 (.build 64 [vci 0,vci 0,vci 0] [] 1 [(0,(ic 1)),(1,(ic 2)),(2,(ic 3))]),o1 10 (.alloc 0 64 [vci 0,vci 0,vci 0]),o0 (.store 64 3 (tm 10) (tm 26))] 1 none) []
 (.seq (.seq (.region 7 [o1 27 (.build 65 [vci 0,vci 0,vci 0] [] 1 [(0,(ic 26)),(1,(ic 27)),(2,(ic 28))]),o1 28 (.move (ic 0))] 0 none) []
 (.block 0
 (.loop [] (rl 0 9 (rl 11 16 (rl 29 8 [])))
  A11v3))) (8 :: 11 :: 12 :: (rl 27 10 []))
 A11v4)))
def A11v6:AC:=(.seq (.seq (.region 3 [mv 18 1,mv 19 3,o1 20 (cs 28 [18,19] [37,9])] 0 none) []
 (.cond (tm 20)
 (.seq (.region 4 [o1 8 (sk 14)] 0 none) []
  (.ret (rl 0 8 (rl 9 28 []))))
 .skip)) [8,18,19,20]
 A11v5)
def A11:AF:=⟨37,[.tmp 8],
 (.seq (.region 0 [o1 4 (bx 0 28 0),o1 8 (sk 0)] 1 none) []
 (.seq (.seq (.region 1 [o1 13 (ln 28 6 4),o1 14 (cf 26 [13] [28]),mv 15 3,o1 16 (cs 28 [14,15] [37,9]),o1 17 (.unOp .not 4 (tm 16))] 0 none) []
 (.cond (tm 17)
 (.seq (.region 2 [o1 8 (sk 8)] 0 none) []
  (.ret (rl 0 8 (rl 9 28 []))))
 .skip)) (8 :: (rl 13 5 []))
 A11v6))⟩
def N263v1:St→Option St:=nN 2 (rl 0 9 (rl 11 16 (rl 29 8 [])))
def s263v0:St:=⟨(us 9 (.x (.c (ro kF n0 f0)) :: .x (.ptr 1 0) :: (us 16 (.agg [(vci 26),(vci 27),(vci 28)] :: vxi i0 :: (us 8 []))))),[.box [(vcs w0),(.c (ro kE n1 f1)),(.c (ro kA n2 f2)),(.c (ro kG n3 f3)),(.c (ro kC n4 f4)),(.c (ro kF n5 f5))],.box [(vci 1),(vci 2),(vci 3)]]⟩
def s263v1:St:=⟨(us 8 (vxi i0 :: (us 28 []))),[.box [(vcs w0),(.c (ro kE n0 f0)),(.c (ro kA n1 f1)),(.c (ro kG n2 f2)),(.c (ro kC n3 f3)),(.c (ro kF n4 f4))],.box [(vci 1),(vci 2),(vci 3)],.box [(vci i1)]]⟩
def s263v2:St:=⟨(us 37 []),[.box [(vcs w0),(.c (ro kE n0 f0)),(.c (ro kA n1 f1)),(.c (ro kG n2 f2)),(.c (ro kC n3 f3)),(.c (ro kF n4 f4))],.box [(vci 1),(vci 2),(vci 3)]]⟩
def L263v1 {ρ:Type} (u:Nat) (x0:Nat) (x1:FF) (x2:ByteArray) (x3:Nat) (x4:FF) (x5:Nat) (x6:FF) (x7:Nat) (x8:FF) (x9:Nat) (xA:FF) (xB:Nat) (xC:FF):Nat→Int→(Int→Int→Option ρ)→(Option ρ)→Option ρ
 | 0,_,_,_=>none
 | m+1,xD,k0,k1 =>
  (bif (decide (xD<3)) then (bif (xD==0) then (ob (F262 u x0 x1 (listF [(.i .i64 1),(.i .i64 2),(.i .i64 3)]) (listF [(.i .i64 xD)])) fun xE=>(bif xE then (k0 26 xD) else (L263v1 u x0 x1 x2 x3 x4 x5 x6 x7 x8 x9 xA xB xC m (w64 (xD+1)) k0 k1))) else (bif (xD==1) then (ob (F262 u x0 x1 (listF [(.i .i64 1),(.i .i64 2),(.i .i64 3)]) (listF [(.i .i64 xD)])) fun xF=>(bif xF then (k0 27 xD) else (L263v1 u x0 x1 x2 x3 x4 x5 x6 x7 x8 x9 xA xB xC m (w64 (xD+1)) k0 k1))) else (bif (xD==2) then (ob (F262 u x0 x1 (listF [(.i .i64 1),(.i .i64 2),(.i .i64 3)]) (listF [(.i .i64 xD)])) fun xG=>(bif xG then (k0 28 xD) else (L263v1 u x0 x1 x2 x3 x4 x5 x6 x7 x8 x9 xA xB xC m (w64 (xD+1)) k0 k1))) else none))) else k1)
theorem nl263v1:∀ (m:Nat) (x0:Int) (k0:Int→Int→Option ρ) (k1:Option ρ),ob (L263v1 u n0 f0 w0 n1 f1 n2 f2 n3 f3 n4 f4 n5 f5 m x0 k0 k1) ng=L263v1 u n0 f0 w0 n1 f1 n2 f2 n3 f3 n4 f4 n5 f5 m x0 (fun x1 x2=>ob (k0 x1 x2) ng) (ob k1 ng)
 | 0,_,_,_=>rfl
 | m+1,x0,k0,k1=>by
  simp only [L263v1,ob_bif,ob_ob,ob_none,nl263v1 m]
theorem q263v1:∀ (m:Nat) (x0:Int),
  loopH (eB A11v3 (C81 u) u) N263v1 m (s263v0 n0 n1 n2 n3 n4 n5 f0 f1 f2 f3 f4 f5 x0 w0) k=L263v1 u n0 f0 w0 n1 f1 n2 f2 n3 f3 n4 f4 n5 f5 m x0 (fun x1 x2=>k .ret (s263v1 n1 n2 n3 n4 n5 f1 f2 f3 f4 f5 x1 x2 w0)) (k (.exit 0) (s263v2 n1 n2 n3 n4 n5 f1 f2 f3 f4 f5 w0))
 | 0,_=>rfl
 | m+1,x0=>by
  simp only [L263v1,← q263v1 m]
  kernel_rfl
def F263 (x0:ByteArray) (x1:Nat) (x2:FF) (x3:Nat) (x4:FF) (x5:Nat) (x6:FF) (x7:Nat) (x8:FF) (x9:Nat) (xA:FF) (xB:Nat) (xC:FF) (xD:Nat) (xE:FF) (xF:ByteArray):Option (Int) :=
 (ob (F251 u x0 x1 x2 x3 x4 x5 x6 x7 x8 x9 xA) fun xG=>(ob (F257 u xG.1 xG.2 xF) fun xH=>(bif (!xH) then (some 8) else (ob (F257 u xB xC xF) fun xI=>(bif xI then (some 14) else (ob (F259 u x0 x1 x2 x3 x4 x5 x6 x7 x8 x9 xA xB xC xD xE xF) fun xJ=>(L263v1 u xJ.1 xJ.2 x0 x1 x2 x3 x4 x5 x6 x7 x8 x9 xA u 0
  (fun xK xL=>(some xK))
  (some 0))))))))
def s263v3 (x0:Nat × FF):St:=⟨(.agg [(vcs w0),(.c (ro kE n0 f0)),(.c (ro kA n1 f1)),(.c (ro kG n2 f2)),(.c (ro kC n3 f3)),(.c (ro kF n4 f4))] :: .x (.c (ro (.pr .str .nil) n5 f5)) :: .x (.c (ro (.pr .str .nil) n6 f6)) :: vxs w1 :: .x (.ptr 0 0) :: uu :: uu :: uu :: .u :: .x (.c (ro kF x0.1 x0.2)) :: .x (.ptr 1 0) :: uu :: uu :: (us 8 [.agg [(vcs w0),(.c (ro kE n0 f0)),(.c (ro kA n1 f1)),(.c (ro kG n2 f2)),(.c (ro kC n3 f3)),(.c (ro kF n4 f4))],.x (.c (ro (.pr .str .nil) n5 f5)),.x (.c (ro (.pr .str .nil) n6 f6)),vxs w1,.x (.c (ro kF x0.1 x0.2)),.agg [(vci 1),(vci 2),(vci 3)],.agg [(vci 26),(vci 27),(vci 28)],vxi 0,uu,uu,uu,uu,uu,uu,uu,uu])),[.box [(vcs w0),(.c (ro kE n0 f0)),(.c (ro kA n1 f1)),(.c (ro kG n2 f2)),(.c (ro kC n3 f3)),(.c (ro kF n4 f4))],.box [(vci 1),(vci 2),(vci 3)]]⟩
theorem t263v1 (x0:Nat × FF) :
  loopN (eB A11v3 (C81 u) u) N263v1 u (s263v3 n0 n1 n2 n3 n4 n5 n6 f0 f1 f2 f3 f4 f5 f6 w0 w1 x0) k =
  L263v1 u x0.1 x0.2 w0 n0 f0 n1 f1 n2 f2 n3 f3 n4 f4 u 0 (fun x1 x2=>k .ret (s263v1 n0 n1 n2 n3 n4 f0 f1 f2 f3 f4 x1 x2 w0)) (k (.exit 0) (s263v2 n0 n1 n2 n3 n4 f0 f1 f2 f3 f4 w0)) :=
 Eq.trans (loopN_at (by kernel_rfl)) (q263v1 ..)
theorem g263v2 :
  (kBlk 0 (kSeq (C81 u) u (8 :: 11 :: 12 :: (rl 27 10 [])) A11v4 (finish A11))) .ret (s263v1 n0 n1 n2 n3 n4 f0 f1 f2 f3 f4 i0 i1 w0) =
  (some [.v (vi i0)]):=by kernel_rfl
theorem g263v3 :
  (kBlk 0 (kSeq (C81 u) u (8 :: 11 :: 12 :: (rl 27 10 [])) A11v4 (finish A11))) (.exit 0) (s263v2 n0 n1 n2 n3 n4 f0 f1 f2 f3 f4 w0) =
  (some [.v (vi 0)]):=by kernel_rfl
theorem e263:evalF (C81 u) u A11 [.agg [(.s w0),(ro kE n0 f0),(ro kA n1 f1),(ro kG n2 f2),(ro kC n3 f3),(ro kF n4 f4)],.v (ro (.pr .str .nil) n5 f5),.v (ro (.pr .str .nil) n6 f6),.v (.s w1)]=ob (F263 u w0 n0 f0 n1 f1 n2 f2 n3 f3 n4 f4 n5 f5 n6 f6 w1) fun t=>some [.v (vi t)]:=Eq.trans (b:=(ob (F251 u w0 n0 f0 n1 f1 n2 f2 n3 f3 n4 f4) fun x0=>(ob (F257 u x0.1 x0.2 w1) fun x1=>(bif (!x1) then (some [.v (vi 8)]) else (ob (F257 u n5 f5 w1) fun x2=>(bif x2 then (some [.v (vi 14)]) else (ob (F259 u w0 n0 f0 n1 f1 n2 f2 n3 f3 n4 f4 n5 f5 n6 f6 w1) fun x3=>(loopN (eB A11v3 (C81 u) u) N263v1 u (s263v3 n0 n1 n2 n3 n4 n5 n6 f0 f1 f2 f3 f4 f5 f6 w0 w1 x3) (kBlk 0 (kSeq (C81 u) u (8 :: 11 :: 12 :: (rl 27 10 [])) A11v4 (finish A11))))))))))) (by kernel_rfl) (by
 simp only [F263,ob_bif,ob_ob,ob_none,ob_some,nl263v1,t263v1,g263v2,g263v3])
def O263:Ora:=mkO (qc (ag (tc cS (tc (cL kE) (tc (cL kA) (tc (cL kG) (tc (cL kC) (t1 (cL kF)))))))) (qc (av (cL (.pr .str .nil))) (qc (av (cL (.pr .str .nil))) (q1 (av cS))))) (fun x=>F263 u x.1.1 x.1.2.1.1 x.1.2.1.2 x.1.2.2.1.1 x.1.2.2.1.2 x.1.2.2.2.1.1 x.1.2.2.2.1.2 x.1.2.2.2.2.1.1 x.1.2.2.2.2.1.2 x.1.2.2.2.2.2.1 x.1.2.2.2.2.2.2 x.2.1.1 x.2.1.2 x.2.2.1.1 x.2.2.1.2 x.2.2.2) fun t=>[.v (vi t)]
theorem d263:DO (O263 u) (C81 u) 11 A11:=dO u (fun x=>by exact e263 u x.1.2.1.1 x.1.2.2.1.1 x.1.2.2.2.1.1 x.1.2.2.2.2.1.1 x.1.2.2.2.2.2.1 x.2.1.1 x.2.2.1.1 x.1.2.1.2 x.1.2.2.1.2 x.1.2.2.2.1.2 x.1.2.2.2.2.1.2 x.1.2.2.2.2.2.2 x.2.1.2 x.2.2.1.2 x.1.1 x.2.2.2)
def C82:Oracle:=(C81 u).add 11 (fun _=>true) (O263 u)
def A7v1:AC:=(.seq (.region 8 [o1 46 (ln 28 6 1),o1 47 (.call 11 [(tm 46),(.const (.slice none 0 0)),(.const (.slice none 0 0)),(.const (.string (ByteArray.mk #[66,50])))] [28,37,37,9] .snap),o1 48 (bk .eql 34 47 26),mv 49 48,og 50 (ln 28 6 1) 49 true,og 51 (.buildSlice 0 37 9 (.pr .str .nil) 1 [vcs ByteArray.empty] [(0,(.const (.string (ByteArray.mk #[66,49]))))]) 49 true,og 52 (.call 11 [(tm 50),(tm 51),(.const (.slice none 0 0)),(.const (.string (ByteArray.mk #[66,50])))] [28,37,37,9] .snap) 49 true,og 53 (bk .eql 34 52 0) 49 true,o1 54 (po 49 53),mv 55 54,og 56 (ln 28 6 1) 55 true,og 57 (.buildSlice 1 37 9 (.pr .str .nil) 2 [vcs ByteArray.empty] [(0,(.const (.string (ByteArray.mk #[66,49])))),(1,(.const (.string (ByteArray.mk #[66,50]))))]) 55 true,og 58 (.call 11 [(tm 56),(tm 57),(.const (.slice none 0 0)),(.const (.string (ByteArray.mk #[66,51])))] [28,37,37,9] .snap) 55 true,og 59 (bk .eql 34 58 27) 55 true,o1 60 (po 55 59),mv 61 60,og 62 (ln 28 6 1) 61 true,og 63 (.call 11 [(tm 62),(.const (.slice none 0 0)),(.const (.slice none 0 0)),(.const (.string (ByteArray.mk #[66,52])))] [28,37,37,9] .snap) 61 true,og 64 (bk .eql 34 63 8) 61 true,o1 65 (po 61 64),mv 66 65,og 67 (ln 28 6 1) 66 true,og 68 (.buildSlice 2 37 9 (.pr .str .nil) 1 [vcs ByteArray.empty] [(0,(.const (.string (ByteArray.mk #[66,50]))))]) 66 true,og 69 (.call 25 [(tm 67),(tm 68),(.const (.slice none 0 0)),(.const (.string (ByteArray.mk #[66,51])))] [28,37,37,9] .freeze) 66 true,og 70 (.len 26 false (tm 69)) 66 true,og 71 (bk .eql 3 70 1) 66 true,o1 72 (po 66 71),o1 0 (sg 72)] 3 none) []
 (.ghost (0 :: 1 :: 2 :: (rl 4 4 [])) (.ret (rl 1 72 []))))
def A7:AF:=⟨73,[.tmp 0],
 (.seq (.region 0 [o1 0 (sb false)] 0 none) []
 (.seq (.region 1 [o1 7 (cf 21 [] []),o1 1 (.alloc 0 28 [vcs ByteArray.empty,vcn,vcn,vcn,vcn,vcn]),o0 (.store 28 6 (tm 1) (tm 7))] 1 none) []
 (.seq (.region 2 [o1 9 (ln 28 6 1),o1 10 (cf 8 [9] [28]),mv 8 10,o1 11 (.extract (tm 8) 0),o1 12 (.extract (tm 8) 1),o1 2 (sg 11),o1 3 (sg 12)] 0 none) []
 (.seq (.region 3 [o1 13 (cf 21 [] []),o1 4 (.alloc 0 28 [vcs ByteArray.empty,vcn,vcn,vcn,vcn,vcn]),o0 (.store 28 6 (tm 4) (tm 13))] 1 none) []
 (.seq (.region 4 [o1 14 (fa 28 4 5 5),o1 15 (lo 26 14),o1 16 (.build 49 [vci 0,vcs ByteArray.empty,vcs ByteArray.empty] [(0,1),(1,1),(2,1)] 0 [(0,(ic 1)),(1,(.const (.string (ByteArray.mk #[66,51])))),(2,(.const (.string (ByteArray.mk #[66,50]))))]),o1 17 (.buildSlice 0 26 49 kF 1 [vci 0,vcs ByteArray.empty,vcs ByteArray.empty] [(0,(tm 16))]),o1 18 (.append 1 26 49 kF 40 (tm 15) (tm 17)),o1 19 (fa 28 4 5 5),o0 (.store 26 1 (tm 19) (tm 18))] 2 none) []
 (.seq (.region 5 [o1 21 (ln 28 6 4),o1 22 (cf 8 [21] [28]),mv 20 22,o1 23 (.extract (tm 20) 0),o1 24 (.extract (tm 20) 1),o1 5 (sg 23),o1 6 (sg 24)] 0 none) []
 (.seq (.seq (.region 6 [mv 25 3,o1 26 (bk .neq 34 25 0),mv 27 26,og 28 (.move (tm 6)) 27 false,og 29 (bk .neq 34 28 20) 27 false,o1 30 (pa 27 29),mv 31 30,og 32 (.move (tm 2)) 31 false,og 33 (.buildSlice 0 37 9 (.pr .str .nil) 3 [vcs ByteArray.empty] [(0,(.const (.string (ByteArray.mk #[66,49])))),(1,(.const (.string (ByteArray.mk #[66,51])))),(2,(.const (.string (ByteArray.mk #[66,50]))))]) 31 false,og 34 (cs 22 [32,33] [37,37]) 31 false,og 35 (.unOp .not 4 (tm 34)) 31 false,o1 36 (pa 31 35),mv 37 36,og 38 (ln 28 6 1) 37 false,og 39 (cf 24 [38] [28]) 37 false,og 40 (.build 54 [vci 0,vci 0] [] 1 [(0,(ic 0)),(1,(ic 1))]) 37 false,og 41 (.build 54 [vci 0,vci 0] [] 1 [(0,(ic 2)),(1,(ic 1))]) 37 false,og 42 (.buildSlice 1 52 54 kP 2 [vci 0,vci 0] [(0,(tm 40)),(1,(tm 41))]) 37 false,og 43 (cs 23 [39,42] [52,52]) 37 false,og 44 (.unOp .not 4 (tm 43)) 37 false,o1 45 (pa 37 44)] 2 none) []
 (.cond (tm 45)
 (.seq (.region 7 [o1 0 (sb false)] 0 none) []
  (.ghost [0,1,2,4,5] (.ret (rl 1 72 []))))
 .skip)) (0 :: (rl 25 21 []))
 A7v1)))))))⟩
def F278:Option (Bool) :=
 (ob (F272 u) fun x0=>(ob (F277 u x0.1 x0.2.1 x0.2.2.1 x0.2.2.2.1 x0.2.2.2.2.1 x0.2.2.2.2.2.1 x0.2.2.2.2.2.2.1 x0.2.2.2.2.2.2.2.1 (p8 x0).1 (p8 x0).2.1 (p8 x0).2.2) fun x1=>(ob (F272 u) fun x2=>(bif (Nat.ble ((p8 x2).2.1+1) 1073741824) then (ob (F277 u x2.1 x2.2.1 x2.2.2.1 x2.2.2.2.1 x2.2.2.2.2.1 x2.2.2.2.2.2.1 x2.2.2.2.2.2.2.1 x2.2.2.2.2.2.2.2.1 (p8 x2).1 ((p8 x2).2.1+1) (joinF (p8 x2).2.1 (p8 x2).2.2 (rowsF 3 [(.i .i64 1),(.s (ByteArray.mk #[66,51])),(.s (ByteArray.mk #[66,50]))]))) fun x3=>(bif ((x1.2.2 != 0)==false) then (bif ((x3.2.2 != 20)==false) then (ob (F269 u x1.1 x1.2.1 3 (rowsF 1 [(.s (ByteArray.mk #[66,49])),(.s (ByteArray.mk #[66,51])),(.s (ByteArray.mk #[66,50]))])) fun x4=>(bif ((!x4)==false) then (ob (F276 u x0.1 x0.2.1 x0.2.2.1 x0.2.2.2.1 x0.2.2.2.2.1 x0.2.2.2.2.2.1 x0.2.2.2.2.2.2.1 x0.2.2.2.2.2.2.2.1 (p8 x0).1 (p8 x0).2.1 (p8 x0).2.2) fun x5=>(ob (F271 u x5.1 x5.2 2 (rowsF 2 [(.i .i64 0),(.i .i64 1),(.i .i64 2),(.i .i64 1)])) fun x6=>(bif (!x6) then (some false) else (ob (F263 u x0.1 x0.2.1 x0.2.2.1 x0.2.2.2.1 x0.2.2.2.2.1 x0.2.2.2.2.2.1 x0.2.2.2.2.2.2.1 x0.2.2.2.2.2.2.2.1 (p8 x0).1 (p8 x0).2.1 (p8 x0).2.2 0 (fun _ _=>.any) 0 (fun _ _=>.any) (ByteArray.mk #[66,50])) fun x7=>(bif ((x7==26)==true) then (ob (F263 u x0.1 x0.2.1 x0.2.2.1 x0.2.2.2.1 x0.2.2.2.2.1 x0.2.2.2.2.2.1 x0.2.2.2.2.2.2.1 x0.2.2.2.2.2.2.2.1 (p8 x0).1 (p8 x0).2.1 (p8 x0).2.2 1 (rowsF 1 [(.s (ByteArray.mk #[66,49]))]) 0 (fun _ _=>.any) (ByteArray.mk #[66,50])) fun x8=>(bif ((x8==0)==true) then (ob (F263 u x0.1 x0.2.1 x0.2.2.1 x0.2.2.2.1 x0.2.2.2.2.1 x0.2.2.2.2.2.1 x0.2.2.2.2.2.2.1 x0.2.2.2.2.2.2.2.1 (p8 x0).1 (p8 x0).2.1 (p8 x0).2.2 2 (rowsF 1 [(.s (ByteArray.mk #[66,49])),(.s (ByteArray.mk #[66,50]))]) 0 (fun _ _=>.any) (ByteArray.mk #[66,51])) fun x9=>(bif ((x9==27)==true) then (ob (F263 u x0.1 x0.2.1 x0.2.2.1 x0.2.2.2.1 x0.2.2.2.2.1 x0.2.2.2.2.2.1 x0.2.2.2.2.2.2.1 x0.2.2.2.2.2.2.2.1 (p8 x0).1 (p8 x0).2.1 (p8 x0).2.2 0 (fun _ _=>.any) 0 (fun _ _=>.any) (ByteArray.mk #[66,52])) fun xA=>(bif ((xA==8)==true) then (ob (F259 u x0.1 x0.2.1 x0.2.2.1 x0.2.2.2.1 x0.2.2.2.2.1 x0.2.2.2.2.2.1 x0.2.2.2.2.2.2.1 x0.2.2.2.2.2.2.2.1 (p8 x0).1 (p8 x0).2.1 (p8 x0).2.2 1 (rowsF 1 [(.s (ByteArray.mk #[66,50]))]) 0 (fun _ _=>.any) (ByteArray.mk #[66,51])) fun xB=>(some ((Int.ofNat xB.1)==1))) else (some false))) else (some false))) else (some false))) else (some false)))))) else (some false))) else (some false)) else (some false))) else none))))
theorem e278:evalF (C82 u) u A7 []=ob (F278 u) fun t=>some [.v (.b t)]:=by
 simp only [F278,ob_bif,ob_ob,ob_none,ob_some]
 kernel_rfl
def O278:Ora:=mkO q0 (fun x=>F278 u) fun t=>[.v (.b t)]
theorem d278:DO (O278 u) (C82 u) 7 A7:=dO u (fun x=>by exact e278 u)
def C83:Oracle:=(C82 u).add 7 (fun _=>true) (O278 u)
def A10v1:AC:=(.seq (.block 1
 (.region 5 [mv 12 3,o1 13 (fa 28 1 4 4),o1 14 (lo 25 13),mv 15 4,o1 16 (.indexAddr 25 62 5 (tm 14) (tm 15)),o1 17 (fa 62 16 0 0),o1 18 (lo 9 17),o1 19 (.buildSlice 0 37 9 (.pr .str .nil) 1 [vcs ByteArray.empty] [(0,(tm 18))]),o1 20 (.append 1 37 9 (.pr .str .nil) 16 (tm 12) (tm 19)),o1 3 (sg 20)] 2 none)) []
 (.region 4 [mv 10 4,o1 11 (bk .add 3 10 1),o1 4 (sg 11)] 0 none))
def A10v2:AC:=(.seq (.seq (.region 3 [mv 5 4,o1 6 (fa 28 1 4 4),o1 7 (lo 25 6),o1 8 (.len 25 false (tm 7)),o1 9 (bt .lss 3 5 8)] 0 none) []
 (.cond (tm 9)
 .skip
 (.exit 0 (0 :: 1 :: 2 :: (rl 4 18 []))))) (rl 5 5 [])
 A10v1)
def A10v3:AC:=(.seq (.region 6 [mv 21 3,o1 2 (sg 21)] 0 none) []
 (.ret (0 :: 1 :: (rl 3 19 []))))
def A10:AF:=⟨22,[.tmp 2],
 (.seq (.region 0 [o1 1 (bx 0 28 0),o1 2 (.assign (.const (.slice none 0 0)))] 1 none) []
 (.seq (.region 1 [o1 3 (.assign (.const (.slice none 0 0)))] 0 none) []
 (.seq (.seq (.region 2 [o1 4 (sk 0)] 0 none) []
 (.block 0
 (.loop [.slot 3 (.pr .str .nil)] (0 :: 2 :: (rl 5 17 []))
  A10v2))) (rl 4 17 [])
 A10v3)))⟩
def N325v1:St→Option St:=nN 2 (0 :: 2 :: (rl 5 17 []))
def s325v0:St:=⟨(.u :: .x (.ptr 0 0) :: .u :: .x (.own 1 0 n0) :: vxi i0 :: (us 17 [])),[.box [(vcs w0),(.c (ro kE n1 f0)),(.c (ro kA n2 f1)),(.c (ro kG n3 f2)),(.c (ro kC n4 f3)),(.c (ro kF n5 f4))],.arr (.pr .str .nil) n0 f5]⟩
def s325v1:St:=⟨(us 3 (.x (.own 1 0 n0) :: (us 18 []))),[.box [(vcs w0),(.c (ro kE n1 f0)),(.c (ro kA n2 f1)),(.c (ro kG n3 f2)),(.c (ro kC n4 f3)),(.c (ro kF n5 f4))],.arr (.pr .str .nil) n0 f5]⟩
def L325v1 {ρ:Type} (u:Nat) (x0:ByteArray) (x1:Nat) (x2:FF) (x3:Nat) (x4:FF) (x5:Nat) (x6:FF) (x7:Nat) (x8:FF) (x9:Nat) (xA:FF):Nat→Nat→Int→FF→(Nat→FF→Option ρ)→Option ρ
 | 0,_,_,_,_=>none
 | m+1,xB,xC,xD,k0 =>
  (bif (decide (xC<(Int.ofNat x7))) then (bif (inb xC x7) then (bif (Nat.ble (xB+1) 1073741824) then (L325v1 u x0 x1 x2 x3 x4 x5 x6 x7 x8 x9 xA m (xB+1) (w64 (xC+1)) (joinF xB xD (rowsF 1 [(.s (x8 xC.toNat 0).str)])) k0) else none) else none) else (k0 xB xD))
theorem nl325v1:∀ (m:Nat) (x0:Nat) (x1:Int) (x2:FF) (k0:Nat→FF→Option ρ),ob (L325v1 u w0 n0 f0 n1 f1 n2 f2 n3 f3 n4 f4 m x0 x1 x2 k0) ng=L325v1 u w0 n0 f0 n1 f1 n2 f2 n3 f3 n4 f4 m x0 x1 x2 (fun x3 x4=>ob (k0 x3 x4) ng)
 | 0,_,_,_,_=>rfl
 | m+1,x0,x1,x2,k0=>by
  simp only [L325v1,ob_bif,ob_ob,ob_none,nl325v1 m]
theorem q325v1:∀ (m:Nat) (x0:Nat) (x1:Int) (x2:FF),
  loopH (eB A10v2 (C83 u) u) N325v1 m (s325v0 x0 n0 n1 n2 n3 n4 f0 f1 f2 f3 f4 x2 x1 w0) k=L325v1 u w0 n0 f0 n1 f1 n2 f2 n3 f3 n4 f4 m x0 x1 x2 (fun x3 x4=>k (.exit 0) (s325v1 x3 n0 n1 n2 n3 n4 f0 f1 f2 f3 f4 x4 w0))
 | 0,_,_,_=>rfl
 | m+1,x0,x1,x2=>by
  simp only [L325v1,← q325v1 m]
  kernel_rfl
def F325 (x0:ByteArray) (x1:Nat) (x2:FF) (x3:Nat) (x4:FF) (x5:Nat) (x6:FF) (x7:Nat) (x8:FF) (x9:Nat) (xA:FF):Option (Nat × FF) :=
 (L325v1 u x0 x1 x2 x3 x4 x5 x6 x7 x8 x9 xA u 0 0 (fun _ _=>.any)
  (fun xB xC=>(some (xB,xC))))
def s325v2:St:=⟨[.agg [(vcs w0),(.c (ro kE n0 f0)),(.c (ro kA n1 f1)),(.c (ro kG n2 f2)),(.c (ro kC n3 f3)),(.c (ro kF n4 f4))],.x (.ptr 0 0),.x (vcn),.x (.own 1 0 0),vxi 0,uu,uu,uu,uu,uu,uu,uu,uu,uu,uu,uu,uu,uu,uu,uu,uu,uu],[.box [(vcs w0),(.c (ro kE n0 f0)),(.c (ro kA n1 f1)),(.c (ro kG n2 f2)),(.c (ro kC n3 f3)),(.c (ro kF n4 f4))],.arr (.pr .str .nil) 0 nilF]⟩
theorem t325v1 :
  loopN (eB A10v2 (C83 u) u) N325v1 u (s325v2 n0 n1 n2 n3 n4 f0 f1 f2 f3 f4 w0) k =
  L325v1 u w0 n0 f0 n1 f1 n2 f2 n3 f3 n4 f4 u 0 0 nilF (fun x0 x1=>k (.exit 0) (s325v1 x0 n0 n1 n2 n3 n4 f0 f1 f2 f3 f4 x1 w0)) :=
 Eq.trans (loopN_at (by kernel_rfl)) (q325v1 ..)
theorem g325v2 :
  (kBlk 0 (kSeq (C83 u) u (rl 4 17 []) A10v3 (finish A10))) (.exit 0) (s325v1 n0 n1 n2 n3 n4 n5 f0 f1 f2 f3 f4 f5 w0) =
  (some [.v (ro (.pr .str .nil) n0 f5)]):=by kernel_rfl
theorem e325:evalF (C83 u) u A10 [.agg [(.s w0),(ro kE n0 f0),(ro kA n1 f1),(ro kG n2 f2),(ro kC n3 f3),(ro kF n4 f4)]]=ob (F325 u w0 n0 f0 n1 f1 n2 f2 n3 f3 n4 f4) fun t=>some [.v (ro (.pr .str .nil) t.1 t.2)]:=Eq.trans (b:=(loopN (eB A10v2 (C83 u) u) N325v1 u (s325v2 n0 n1 n2 n3 n4 f0 f1 f2 f3 f4 w0) (kBlk 0 (kSeq (C83 u) u (rl 4 17 []) A10v3 (finish A10))))) (by kernel_rfl) (by
 simp only [F325,ob_bif,ob_ob,ob_none,ob_some,nl325v1,t325v1,g325v2])
def O325:Ora:=mkO (q1 (ag (tc cS (tc (cL kE) (tc (cL kA) (tc (cL kG) (tc (cL kC) (t1 (cL kF))))))))) (fun x=>F325 u x.1 x.2.1.1 x.2.1.2 x.2.2.1.1 x.2.2.1.2 x.2.2.2.1.1 x.2.2.2.1.2 x.2.2.2.2.1.1 x.2.2.2.2.1.2 x.2.2.2.2.2.1 x.2.2.2.2.2.2) fun t=>[.v (ro (.pr .str .nil) t.1 t.2)]
theorem d325:DO (O325 u) (C83 u) 10 A10:=dO u (fun x=>by exact e325 u x.2.1.1 x.2.2.1.1 x.2.2.2.1.1 x.2.2.2.2.1.1 x.2.2.2.2.2.1 x.2.1.2 x.2.2.1.2 x.2.2.2.1.2 x.2.2.2.2.1.2 x.2.2.2.2.2.2 x.1)
def C84:Oracle:=(C83 u).add 10 (fun _=>true) (O325 u)
def A31v1:AC:=(.region 3 [mv 12 7,o1 13 (bk .add 3 12 1),o1 7 (sg 13)] 0 none)
def A31v2:AC:=(.seq (.block 1
 (.seq (.region 4 [o1 14 (ln 28 6 3),mv 15 1,mv 16 7,o1 17 (.slice 37 9 1 (tm 15) none (some (tm 16)) none),mv 18 2,mv 19 1,mv 20 7,o1 21 (.indexAddr 37 9 1 (tm 19) (tm 20)),o1 22 (lo 9 21),o1 23 (cs 11 [14,17,18,22] [28,37,37,9]),o1 24 (bk .neq 34 23 0)] 0 (some [[],[],[],[1,2],[],[],[],[5,6],[5,6,7],(rl 0 9 []),(rl 0 10 [])])) []
  (.cond (tm 24)
  (.seq (.region 5 [o1 6 (sb false)] 0 none) []
   (.ghost [0] (.ret (rl 0 6 (rl 7 18 [])))))
  .skip))) (6 :: (rl 14 11 []))
 A31v1)
def A31v3:AC:=(.seq (.seq (.region 2 [mv 8 7,mv 9 1,o1 10 (.len 37 false (tm 9)),o1 11 (bt .lss 3 8 10)] 0 none) []
 (.cond (tm 11)
 .skip
 (.ghost [0] (.exit 0 (rl 0 25 []))))) (rl 8 4 [])
 A31v2)
def A31v4:AC:=(.seq (.region 6 [o1 6 (sb true)] 0 none) []
 (.ghost [0] (.ret (rl 0 6 (rl 7 18 [])))))
def A31:AF:=⟨25,[.tmp 6],
 (.seq (.region 0 [o1 3 (bx 0 28 0),o1 6 (sb false)] 1 none) []
 (.seq (.seq (.region 1 [o1 7 (sk 0)] 0 none) []
 (.block 0
 (.loop [] (0 :: 4 :: 5 :: 6 :: (rl 8 17 []))
  A31v3))) (rl 6 19 [])
 A31v4))⟩
def N327v1:St→Option St:=nN 1 (0 :: 4 :: 5 :: 6 :: (rl 8 17 []))
def s327v0:St:=⟨(.u :: .x (.c (ro (.pr .str .nil) n0 f0)) :: .x (.c (ro (.pr .str .nil) n1 f1)) :: .x (.ptr 0 0) :: (us 3 (vxi i0 :: (us 17 [])))),[.box [(vcs w0),(.c (ro kE n2 f2)),(.c (ro kA n3 f3)),(.c (ro kG n4 f4)),(.c (ro kC n5 f5)),(.c (ro kF n6 f6))]]⟩
def s327v1:St:=⟨(us 6 (vxb false :: (us 18 []))),[.dead]⟩
def s327v2:St:=⟨(us 25 []),[.dead]⟩
def L327v1 {ρ:Type} (u:Nat) (x0:Nat) (x1:FF) (x2:Nat) (x3:FF) (x4:ByteArray) (x5:Nat) (x6:FF) (x7:Nat) (x8:FF) (x9:Nat) (xA:FF) (xB:Nat) (xC:FF) (xD:Nat) (xE:FF):Nat→Int→(Option ρ)→(Option ρ)→Option ρ
 | 0,_,_,_=>none
 | m+1,xF,k0,k1 =>
  (bif (decide (xF<(Int.ofNat x0))) then (bif (inbe xF x0) then (bif (inb xF x0) then (ob (F263 u x4 x5 x6 x7 x8 x9 xA xB xC xD xE (xF.toNat-0) x1 x2 x3 (x1 xF.toNat 0).str) fun xG=>(bif (xG != 0) then k0 else (L327v1 u x0 x1 x2 x3 x4 x5 x6 x7 x8 x9 xA xB xC xD xE m (w64 (xF+1)) k0 k1))) else none) else none) else k1)
theorem nl327v1:∀ (m:Nat) (x0:Int) (k0:Option ρ) (k1:Option ρ),ob (L327v1 u n0 f0 n1 f1 w0 n2 f2 n3 f3 n4 f4 n5 f5 n6 f6 m x0 k0 k1) ng=L327v1 u n0 f0 n1 f1 w0 n2 f2 n3 f3 n4 f4 n5 f5 n6 f6 m x0 (ob k0 ng) (ob k1 ng)
 | 0,_,_,_=>rfl
 | m+1,x0,k0,k1=>by
  simp only [L327v1,ob_bif,ob_ob,ob_none,nl327v1 m]
theorem q327v1:∀ (m:Nat) (x0:Int),
  loopH (eB A31v3 (C84 u) u) N327v1 m (s327v0 n0 n1 n2 n3 n4 n5 n6 f0 f1 f2 f3 f4 f5 f6 x0 w0) k=L327v1 u n0 f0 n1 f1 w0 n2 f2 n3 f3 n4 f4 n5 f5 n6 f6 m x0 (k .ret s327v1) (k (.exit 0) s327v2)
 | 0,_=>rfl
 | m+1,x0=>by
  simp only [L327v1,← q327v1 m]
  kernel_rfl
def F327 (x0:ByteArray) (x1:Nat) (x2:FF) (x3:Nat) (x4:FF) (x5:Nat) (x6:FF) (x7:Nat) (x8:FF) (x9:Nat) (xA:FF) (xB:Nat) (xC:FF) (xD:Nat) (xE:FF):Option (Bool) :=
 (L327v1 u xB xC xD xE x0 x1 x2 x3 x4 x5 x6 x7 x8 x9 xA u 0
  (some false)
  (some true))
def s327v3:St:=⟨[.agg [(vcs w0),(.c (ro kE n0 f0)),(.c (ro kA n1 f1)),(.c (ro kG n2 f2)),(.c (ro kC n3 f3)),(.c (ro kF n4 f4))],.x (.c (ro (.pr .str .nil) n5 f5)),.x (.c (ro (.pr .str .nil) n6 f6)),.x (.ptr 0 0),uu,uu,vxb false,vxi 0,uu,uu,uu,uu,uu,uu,uu,uu,uu,uu,uu,uu,uu,uu,uu,uu,uu],[.box [(vcs w0),(.c (ro kE n0 f0)),(.c (ro kA n1 f1)),(.c (ro kG n2 f2)),(.c (ro kC n3 f3)),(.c (ro kF n4 f4))]]⟩
theorem t327v1 :
  loopN (eB A31v3 (C84 u) u) N327v1 u (s327v3 n0 n1 n2 n3 n4 n5 n6 f0 f1 f2 f3 f4 f5 f6 w0) k =
  L327v1 u n5 f5 n6 f6 w0 n0 f0 n1 f1 n2 f2 n3 f3 n4 f4 u 0 (k .ret s327v1) (k (.exit 0) s327v2) :=
 Eq.trans (loopN_at (by kernel_rfl)) (q327v1 ..)
theorem g327v2 :
  (kBlk 0 (kSeq (C84 u) u (rl 6 19 []) A31v4 (finish A31))) .ret s327v1 =
  (some [.v (.b false)]):=by kernel_rfl
theorem g327v3 :
  (kBlk 0 (kSeq (C84 u) u (rl 6 19 []) A31v4 (finish A31))) (.exit 0) s327v2 =
  (some [.v (.b true)]):=by kernel_rfl
theorem e327:evalF (C84 u) u A31 [.agg [(.s w0),(ro kE n0 f0),(ro kA n1 f1),(ro kG n2 f2),(ro kC n3 f3),(ro kF n4 f4)],.v (ro (.pr .str .nil) n5 f5),.v (ro (.pr .str .nil) n6 f6)]=ob (F327 u w0 n0 f0 n1 f1 n2 f2 n3 f3 n4 f4 n5 f5 n6 f6) fun t=>some [.v (.b t)]:=Eq.trans (b:=(loopN (eB A31v3 (C84 u) u) N327v1 u (s327v3 n0 n1 n2 n3 n4 n5 n6 f0 f1 f2 f3 f4 f5 f6 w0) (kBlk 0 (kSeq (C84 u) u (rl 6 19 []) A31v4 (finish A31))))) (by kernel_rfl) (by
 simp only [F327,ob_bif,ob_ob,ob_none,ob_some,nl327v1,t327v1,g327v2,g327v3])
def O327:Ora:=mkO (qc (ag (tc cS (tc (cL kE) (tc (cL kA) (tc (cL kG) (tc (cL kC) (t1 (cL kF)))))))) (qc (av (cL (.pr .str .nil))) (q1 (av (cL (.pr .str .nil)))))) (fun x=>F327 u x.1.1 x.1.2.1.1 x.1.2.1.2 x.1.2.2.1.1 x.1.2.2.1.2 x.1.2.2.2.1.1 x.1.2.2.2.1.2 x.1.2.2.2.2.1.1 x.1.2.2.2.2.1.2 x.1.2.2.2.2.2.1 x.1.2.2.2.2.2.2 x.2.1.1 x.2.1.2 x.2.2.1 x.2.2.2) fun t=>[.v (.b t)]
theorem d327:DO (O327 u) (C84 u) 31 A31:=dO u (fun x=>by exact e327 u x.1.2.1.1 x.1.2.2.1.1 x.1.2.2.2.1.1 x.1.2.2.2.2.1.1 x.1.2.2.2.2.2.1 x.2.1.1 x.2.2.1 x.1.2.1.2 x.1.2.2.1.2 x.1.2.2.2.1.2 x.1.2.2.2.2.1.2 x.1.2.2.2.2.2.2 x.2.1.2 x.2.2.2 x.1.1)
def C85:Oracle:=(C84 u).add 31 (fun _=>true) (O327 u)
def A13v1:AC:=(.region 5 [mv 22 9,o1 23 (bk .add 3 22 1),o1 9 (sg 23)] 0 none)
def A13v2:AC:=(.seq (.block 1
 (.seq (.region 6 [o1 24 (.buildSlice 0 37 9 (.pr .str .nil) 0 [vcs ByteArray.empty] []),mv 25 2,mv 26 9,o1 27 (.slice 37 9 1 (tm 25) none (some (tm 26)) none),o1 28 (.append 1 37 9 (.pr .str .nil) 16 (tm 24) (tm 27)),mv 29 2,mv 30 9,o1 31 (bk .add 3 30 1),o1 32 (.slice 37 9 1 (tm 29) (some (tm 31)) none none),o1 33 (.append 2 37 9 (.pr .str .nil) 16 (tm 28) (tm 32)),o1 10 (sg 33)] 3 (some [[],[],[],[1,2],(rl 0 4 []),[],[],[6],[5,6,7],(rl 0 9 []),(rl 0 10 [])])) []
  (.seq (.region 7 [o1 34 (ln 28 6 4),o1 35 (.buildSlice 0 37 9 (.pr .str .nil) 0 [vcs ByteArray.empty] []),mv 36 1,o1 37 (.append 1 37 9 (.pr .str .nil) 16 (tm 35) (tm 36)),mv 38 2,mv 39 9,o1 40 (.indexAddr 37 9 1 (tm 38) (tm 39)),o1 41 (lo 9 40),o1 42 (.buildSlice 2 37 9 (.pr .str .nil) 1 [vcs ByteArray.empty] [(0,(tm 41))]),o1 43 (.append 3 37 9 (.pr .str .nil) 16 (tm 37) (tm 42)),mv 44 10,mv 45 3,o1 46 (cs 13 [34,43,44,45] [28,37,37,37])] 4 (some [[],[],[],[1,2],[],[],[4,5],[4,5,6],(rl 4 4 []),(rl 1 8 []),[],[],(rl 0 12 [])])) []
  (.cond (tm 46)
  (.seq (.region 8 [o1 8 (sb true)] 0 none) []
   (.ret (rl 0 8 (rl 9 38 []))))
  .skip)))) (8 :: 10 :: (rl 24 23 []))
 A13v1)
def A13v3:AC:=(.seq (.seq (.region 4 [mv 18 9,mv 19 2,o1 20 (.len 37 false (tm 19)),o1 21 (bt .lss 3 18 20)] 0 none) []
 (.cond (tm 21)
 .skip
 (.ghost [0] (.exit 0 (rl 0 47 []))))) (rl 18 4 [])
 A13v2)
def A13v4:AC:=(.seq (.region 9 [o1 8 (sb false)] 0 none) []
 (.ghost [0] (.ret (rl 0 8 (rl 9 38 [])))))
def A13v5:AC:=(.seq (.seq (.region 3 [o1 9 (sk 0)] 0 none) []
 (.block 0
 (.loop [] (0 :: (rl 5 4 (rl 10 37 [])))
  A13v3))) (8 :: 9 :: 10 :: (rl 18 29 []))
 A13v4)
def A13:AF:=⟨47,[.tmp 8],
 (.seq (.region 0 [o1 4 (bx 0 28 0),o1 8 (sb false)] 1 none) []
 (.seq (.seq (.region 1 [mv 11 2,o1 12 (.len 37 false (tm 11)),o1 13 (bk .eql 3 12 0)] 0 none) []
 (.cond (tm 13)
 (.seq (.region 2 [o1 14 (ln 28 6 4),mv 15 1,mv 16 3,o1 17 (cs 31 [14,15,16] [28,37,37]),o1 8 (sg 17)] 0 none) []
  (.ghost [0] (.ret (rl 0 8 (rl 9 38 [])))))
 .skip)) (8 :: (rl 11 7 []))
 A13v5))⟩
def N328v1:St→Option St:=nN 1 (0 :: (rl 5 4 (rl 10 37 [])))
def s328v0:St:=⟨(.u :: .x (.c (ro (.pr .str .nil) n0 f0)) :: .x (.c (ro (.pr .str .nil) n1 f1)) :: .x (.c (ro (.pr .str .nil) n2 f2)) :: .x (.ptr 0 0) :: (us 4 (vxi 0 :: (us 37 [])))),[.box [(vcs w0),(.c (ro kE n3 f3)),(.c (ro kA n4 f4)),(.c (ro kG n5 f5)),(.c (ro kC n6 f6)),(.c (ro kF n7 f7))]]⟩
def s328v1:St:=⟨(us 47 []),[.dead]⟩
def L328v1 {ρ:Type} (u:Nat) (x0:Nat) (x1:FF) (x2:Nat) (x3:FF) (x4:Nat) (x5:FF) (x6:ByteArray) (x7:Nat) (x8:FF) (x9:Nat) (xA:FF) (xB:Nat) (xC:FF) (xD:Nat) (xE:FF) (xF:Nat) (xG:FF):Nat→(Option ρ)→Option ρ
 | 0,_=>none
 | m+1,k0 =>
  (bif (decide (0<(Int.ofNat x2))) then (bif (inbe 0 x2) then (bif (inbe 1 x2) then (bif (Nat.ble (0+(x2-1)) 1073741824) then (bif (Nat.ble (0+x0) 1073741824) then (bif (inb 0 x2) then (bif (Nat.ble ((0+x0)+1) 1073741824) then none else none) else none) else none) else none) else none) else none) else k0)
theorem nl328v1:∀ (m:Nat) (k0:Option ρ),ob (L328v1 u n0 f0 n1 f1 n2 f2 w0 n3 f3 n4 f4 n5 f5 n6 f6 n7 f7 m k0) ng=L328v1 u n0 f0 n1 f1 n2 f2 w0 n3 f3 n4 f4 n5 f5 n6 f6 n7 f7 m (ob k0 ng)
 | 0,_=>rfl
 | m+1,k0=>by
  simp only [L328v1,ob_bif,ob_ob,ob_none,nl328v1 m]
theorem q328v1:∀ (m:Nat),
  loopH (eB A13v3 (C85 u) u) N328v1 m (s328v0 n0 n1 n2 n3 n4 n5 n6 n7 f0 f1 f2 f3 f4 f5 f6 f7 w0) k=L328v1 u n0 f0 n1 f1 n2 f2 w0 n3 f3 n4 f4 n5 f5 n6 f6 n7 f7 m (k (.exit 0) s328v1)
 | 0=>rfl
 | m+1=>by
  simp only [L328v1,← q328v1 m]
  kernel_rfl
def F328 (x0:ByteArray) (x1:Nat) (x2:FF) (x3:Nat) (x4:FF) (x5:Nat) (x6:FF) (x7:Nat) (x8:FF) (x9:Nat) (xA:FF) (xB:Nat) (xC:FF) (xD:Nat) (xE:FF) (xF:Nat) (xG:FF):Option (Bool) :=
 (bif ((Int.ofNat xD)==0) then (ob (F327 u x0 x1 x2 x3 x4 x5 x6 x7 x8 x9 xA xB xC xF xG) fun xH=>(some xH)) else (L328v1 u xB xC xD xE xF xG x0 x1 x2 x3 x4 x5 x6 x7 x8 x9 xA u
  (some false)))
def s328v2:St:=⟨(.agg [(vcs w0),(.c (ro kE n0 f0)),(.c (ro kA n1 f1)),(.c (ro kG n2 f2)),(.c (ro kC n3 f3)),(.c (ro kF n4 f4))] :: .x (.c (ro (.pr .str .nil) n5 f5)) :: .x (.c (ro (.pr .str .nil) n6 f6)) :: .x (.c (ro (.pr .str .nil) n7 f7)) :: .x (.ptr 0 0) :: uu :: uu :: uu :: .u :: vxi 0 :: uu :: (us 7 [uu,uu,uu,uu,uu,uu,uu,uu,uu,uu,uu,uu,uu,uu,uu,uu,uu,uu,uu,uu,uu,uu,uu,uu,uu,uu,uu,uu,uu])),[.box [(vcs w0),(.c (ro kE n0 f0)),(.c (ro kA n1 f1)),(.c (ro kG n2 f2)),(.c (ro kC n3 f3)),(.c (ro kF n4 f4))]]⟩
theorem t328v1 :
  loopN (eB A13v3 (C85 u) u) N328v1 u (s328v2 n0 n1 n2 n3 n4 n5 n6 n7 f0 f1 f2 f3 f4 f5 f6 f7 w0) k =
  L328v1 u n5 f5 n6 f6 n7 f7 w0 n0 f0 n1 f1 n2 f2 n3 f3 n4 f4 u (k (.exit 0) s328v1) :=
 Eq.trans (loopN_at (by kernel_rfl)) (q328v1 ..)
theorem g328v2 :
  (kBlk 0 (kSeq (C85 u) u (8 :: 9 :: 10 :: (rl 18 29 [])) A13v4 (finish A13))) (.exit 0) s328v1 =
  (some [.v (.b false)]):=by kernel_rfl
theorem e328:evalF (C85 u) u A13 [.agg [(.s w0),(ro kE n0 f0),(ro kA n1 f1),(ro kG n2 f2),(ro kC n3 f3),(ro kF n4 f4)],.v (ro (.pr .str .nil) n5 f5),.v (ro (.pr .str .nil) n6 f6),.v (ro (.pr .str .nil) n7 f7)]=ob (F328 u w0 n0 f0 n1 f1 n2 f2 n3 f3 n4 f4 n5 f5 n6 f6 n7 f7) fun t=>some [.v (.b t)]:=Eq.trans (b:=(bif ((Int.ofNat n6)==0) then (ob (F327 u w0 n0 f0 n1 f1 n2 f2 n3 f3 n4 f4 n5 f5 n7 f7) fun x0=>(some [.v (.b x0)])) else (loopN (eB A13v3 (C85 u) u) N328v1 u (s328v2 n0 n1 n2 n3 n4 n5 n6 n7 f0 f1 f2 f3 f4 f5 f6 f7 w0) (kBlk 0 (kSeq (C85 u) u (8 :: 9 :: 10 :: (rl 18 29 [])) A13v4 (finish A13)))))) (by kernel_rfl) (by
 simp only [F328,ob_bif,ob_ob,ob_none,ob_some,nl328v1,t328v1,g328v2])
def O328:Ora:=mkO (qc (ag (tc cS (tc (cL kE) (tc (cL kA) (tc (cL kG) (tc (cL kC) (t1 (cL kF)))))))) (qc (av (cL (.pr .str .nil))) (qc (av (cL (.pr .str .nil))) (q1 (av (cL (.pr .str .nil))))))) (fun x=>F328 u x.1.1 x.1.2.1.1 x.1.2.1.2 x.1.2.2.1.1 x.1.2.2.1.2 x.1.2.2.2.1.1 x.1.2.2.2.1.2 x.1.2.2.2.2.1.1 x.1.2.2.2.2.1.2 x.1.2.2.2.2.2.1 x.1.2.2.2.2.2.2 x.2.1.1 x.2.1.2 x.2.2.1.1 x.2.2.1.2 x.2.2.2.1 x.2.2.2.2) fun t=>[.v (.b t)]
theorem d328:DO (O328 u) (C85 u) 13 A13:=dO u (fun x=>by exact e328 u x.1.2.1.1 x.1.2.2.1.1 x.1.2.2.2.1.1 x.1.2.2.2.2.1.1 x.1.2.2.2.2.2.1 x.2.1.1 x.2.2.1.1 x.2.2.2.1 x.1.2.1.2 x.1.2.2.1.2 x.1.2.2.2.1.2 x.1.2.2.2.2.1.2 x.1.2.2.2.2.2.2 x.2.1.2 x.2.2.1.2 x.2.2.2.2 x.1.1)
def C86:Oracle:=(C85 u).add 13 (fun _=>true) (O328 u)
def N328bv1:St→Option St:=nN 1 (0 :: (rl 5 4 (rl 10 37 [])))
def s328bv0:St:=⟨(.u :: .x (.c (ro (.pr .str .nil) n0 f0)) :: .x (.c (ro (.pr .str .nil) n1 f1)) :: .x (.c (ro (.pr .str .nil) n2 f2)) :: .x (.ptr 0 0) :: (us 4 (vxi i0 :: (us 37 [])))),[.box [(vcs w0),(.c (ro kE n3 f3)),(.c (ro kA n4 f4)),(.c (ro kG n5 f5)),(.c (ro kC n6 f6)),(.c (ro kF n7 f7))]]⟩
def s328bv1:St:=⟨(us 8 (vxb true :: (us 38 []))),[.box [(vcs w0),(.c (ro kE n0 f0)),(.c (ro kA n1 f1)),(.c (ro kG n2 f2)),(.c (ro kC n3 f3)),(.c (ro kF n4 f4))],.arr (.pr .str .nil) n5 f5,.rsv,.rsv,.arr (.pr .str .nil) ((0+n6)+1) f6,.rsv,.arr (.pr .str .nil) 1 f7,.rsv]⟩
def s328bv2:St:=⟨(us 47 []),[.dead]⟩
def L328bv1 {ρ:Type} (u:Nat) (x0:Nat) (x1:FF) (x2:Nat) (x3:FF) (x4:Nat) (x5:FF) (x6:ByteArray) (x7:Nat) (x8:FF) (x9:Nat) (xA:FF) (xB:Nat) (xC:FF) (xD:Nat) (xE:FF) (xF:Nat) (xG:FF):Nat→Int→(Nat→FF→FF→FF→Option ρ)→(Option ρ)→Option ρ
 | 0,_,_,_=>none
 | m+1,xH,k0,k1 =>
  (bif (decide (xH<(Int.ofNat x2))) then (bif (inbe xH x2) then (bif (Nat.ble (0+(xH.toNat-0)) 1073741824) then (bif (inbe (w64 (xH+1)) x2) then (bif (Nat.ble ((0+(xH.toNat-0))+(x2-(Int.toNat (w64 (xH+1))))) 1073741824) then (bif (Nat.ble (0+x0) 1073741824) then (bif (inb xH x2) then (bif (Nat.ble ((0+x0)+1) 1073741824) then (ob (F328 u x6 x7 x8 x9 xA xB xC xD xE xF xG ((0+x0)+1) (joinF (0+x0) (joinF 0 (rowsF 1 []) x1) (rowsF 1 [(.s (x3 xH.toNat 0).str)])) ((0+(xH.toNat-0))+(x2-(Int.toNat (w64 (xH+1))))) (joinF (0+(xH.toNat-0)) (joinF 0 (rowsF 1 []) x3) (shiftF (Int.toNat (w64 (xH+1))) x3)) x4 x5) fun xI=>(bif xI then (k0 ((0+(xH.toNat-0))+(x2-(Int.toNat (w64 (xH+1))))) (joinF (0+(xH.toNat-0)) (joinF 0 (rowsF 1 []) x3) (shiftF (Int.toNat (w64 (xH+1))) x3)) (joinF (0+x0) (joinF 0 (rowsF 1 []) x1) (rowsF 1 [(.s (x3 xH.toNat 0).str)])) (rowsF 1 [(.s (x3 xH.toNat 0).str)])) else (L328bv1 u x0 x1 x2 x3 x4 x5 x6 x7 x8 x9 xA xB xC xD xE xF xG m (w64 (xH+1)) k0 k1))) else none) else none) else none) else none) else none) else none) else none) else k1)
theorem nl328bv1:∀ (m:Nat) (x0:Int) (k0:Nat→FF→FF→FF→Option ρ) (k1:Option ρ),ob (L328bv1 u n0 f0 n1 f1 n2 f2 w0 n3 f3 n4 f4 n5 f5 n6 f6 n7 f7 m x0 k0 k1) ng=L328bv1 u n0 f0 n1 f1 n2 f2 w0 n3 f3 n4 f4 n5 f5 n6 f6 n7 f7 m x0 (fun x1 x2 x3 x4=>ob (k0 x1 x2 x3 x4) ng) (ob k1 ng)
 | 0,_,_,_=>rfl
 | m+1,x0,k0,k1=>by
  simp only [L328bv1,ob_bif,ob_ob,ob_none,nl328bv1 m]
theorem q328bv1:∀ (m:Nat) (x0:Int),
  loopH (eB A13v3 (C86 u) u) N328bv1 m (s328bv0 n0 n1 n2 n3 n4 n5 n6 n7 f0 f1 f2 f3 f4 f5 f6 f7 x0 w0) k=L328bv1 u n0 f0 n1 f1 n2 f2 w0 n3 f3 n4 f4 n5 f5 n6 f6 n7 f7 m x0 (fun x1 x2 x3 x4=>k .ret (s328bv1 n3 n4 n5 n6 n7 x1 n0 f3 f4 f5 f6 f7 x2 x3 x4 w0)) (k (.exit 0) s328bv2)
 | 0,_=>rfl
 | m+1,x0=>by
  simp only [L328bv1,← q328bv1 m]
  kernel_rfl
def F328b (x0:ByteArray) (x1:Nat) (x2:FF) (x3:Nat) (x4:FF) (x5:Nat) (x6:FF) (x7:Nat) (x8:FF) (x9:Nat) (xA:FF) (xB:Nat) (xC:FF) (xD:Nat) (xE:FF) (xF:Nat) (xG:FF):Option (Bool) :=
 (bif ((Int.ofNat xD)==0) then (ob (F327 u x0 x1 x2 x3 x4 x5 x6 x7 x8 x9 xA xB xC xF xG) fun xH=>(some xH)) else (L328bv1 u xB xC xD xE xF xG x0 x1 x2 x3 x4 x5 x6 x7 x8 x9 xA u 0
  (fun xI xJ xK xL=>(some true))
  (some false)))
def s328bv3:St:=⟨(.agg [(vcs w0),(.c (ro kE n0 f0)),(.c (ro kA n1 f1)),(.c (ro kG n2 f2)),(.c (ro kC n3 f3)),(.c (ro kF n4 f4))] :: .x (.c (ro (.pr .str .nil) n5 f5)) :: .x (.c (ro (.pr .str .nil) n6 f6)) :: .x (.c (ro (.pr .str .nil) n7 f7)) :: .x (.ptr 0 0) :: uu :: uu :: uu :: .u :: vxi 0 :: uu :: (us 7 [uu,uu,uu,uu,uu,uu,uu,uu,uu,uu,uu,uu,uu,uu,uu,uu,uu,uu,uu,uu,uu,uu,uu,uu,uu,uu,uu,uu,uu])),[.box [(vcs w0),(.c (ro kE n0 f0)),(.c (ro kA n1 f1)),(.c (ro kG n2 f2)),(.c (ro kC n3 f3)),(.c (ro kF n4 f4))]]⟩
theorem t328bv1 :
  loopN (eB A13v3 (C86 u) u) N328bv1 u (s328bv3 n0 n1 n2 n3 n4 n5 n6 n7 f0 f1 f2 f3 f4 f5 f6 f7 w0) k =
  L328bv1 u n5 f5 n6 f6 n7 f7 w0 n0 f0 n1 f1 n2 f2 n3 f3 n4 f4 u 0 (fun x0 x1 x2 x3=>k .ret (s328bv1 n0 n1 n2 n3 n4 x0 n5 f0 f1 f2 f3 f4 x1 x2 x3 w0)) (k (.exit 0) s328bv2) :=
 Eq.trans (loopN_at (by kernel_rfl)) (q328bv1 ..)
theorem g328bv2 :
  (kBlk 0 (kSeq (C86 u) u (8 :: 9 :: 10 :: (rl 18 29 [])) A13v4 (finish A13))) .ret (s328bv1 n0 n1 n2 n3 n4 n5 n6 f0 f1 f2 f3 f4 f5 f6 f7 w0) =
  (some [.v (.b true)]):=by kernel_rfl
theorem g328bv3 :
  (kBlk 0 (kSeq (C86 u) u (8 :: 9 :: 10 :: (rl 18 29 [])) A13v4 (finish A13))) (.exit 0) s328bv2 =
  (some [.v (.b false)]):=by kernel_rfl
theorem e328b:evalF (C86 u) u A13 [.agg [(.s w0),(ro kE n0 f0),(ro kA n1 f1),(ro kG n2 f2),(ro kC n3 f3),(ro kF n4 f4)],.v (ro (.pr .str .nil) n5 f5),.v (ro (.pr .str .nil) n6 f6),.v (ro (.pr .str .nil) n7 f7)]=ob (F328b u w0 n0 f0 n1 f1 n2 f2 n3 f3 n4 f4 n5 f5 n6 f6 n7 f7) fun t=>some [.v (.b t)]:=Eq.trans (b:=(bif ((Int.ofNat n6)==0) then (ob (F327 u w0 n0 f0 n1 f1 n2 f2 n3 f3 n4 f4 n5 f5 n7 f7) fun x0=>(some [.v (.b x0)])) else (loopN (eB A13v3 (C86 u) u) N328bv1 u (s328bv3 n0 n1 n2 n3 n4 n5 n6 n7 f0 f1 f2 f3 f4 f5 f6 f7 w0) (kBlk 0 (kSeq (C86 u) u (8 :: 9 :: 10 :: (rl 18 29 [])) A13v4 (finish A13)))))) (by kernel_rfl) (by
 simp only [F328b,ob_bif,ob_ob,ob_none,ob_some,nl328bv1,t328bv1,g328bv2,g328bv3])
def O328b:Ora:=mkO (qc (ag (tc cS (tc (cL kE) (tc (cL kA) (tc (cL kG) (tc (cL kC) (t1 (cL kF)))))))) (qc (av (cL (.pr .str .nil))) (qc (av (cL (.pr .str .nil))) (q1 (av (cL (.pr .str .nil))))))) (fun x=>F328b u x.1.1 x.1.2.1.1 x.1.2.1.2 x.1.2.2.1.1 x.1.2.2.1.2 x.1.2.2.2.1.1 x.1.2.2.2.1.2 x.1.2.2.2.2.1.1 x.1.2.2.2.2.1.2 x.1.2.2.2.2.2.1 x.1.2.2.2.2.2.2 x.2.1.1 x.2.1.2 x.2.2.1.1 x.2.2.1.2 x.2.2.2.1 x.2.2.2.2) fun t=>[.v (.b t)]
theorem d328b:DO (O328b u) (C86 u) 13 A13:=dO u (fun x=>by exact e328b u x.1.2.1.1 x.1.2.2.1.1 x.1.2.2.2.1.1 x.1.2.2.2.2.1.1 x.1.2.2.2.2.2.1 x.2.1.1 x.2.2.1.1 x.2.2.2.1 x.1.2.1.2 x.1.2.2.1.2 x.1.2.2.2.1.2 x.1.2.2.2.2.1.2 x.1.2.2.2.2.2.2 x.2.1.2 x.2.2.1.2 x.2.2.2.2 x.1.1)
def C87:Oracle:=(C86 u).add 13 (fun _=>true) (O328b u)
def N328cv1:St→Option St:=nN 1 (0 :: (rl 5 4 (rl 10 37 [])))
def s328cv0:St:=⟨(.u :: .x (.c (ro (.pr .str .nil) n0 f0)) :: .x (.c (ro (.pr .str .nil) n1 f1)) :: .x (.c (ro (.pr .str .nil) n2 f2)) :: .x (.ptr 0 0) :: (us 4 (vxi i0 :: (us 37 [])))),[.box [(vcs w0),(.c (ro kE n3 f3)),(.c (ro kA n4 f4)),(.c (ro kG n5 f5)),(.c (ro kC n6 f6)),(.c (ro kF n7 f7))]]⟩
def s328cv1:St:=⟨(us 8 (vxb true :: (us 38 []))),[.box [(vcs w0),(.c (ro kE n0 f0)),(.c (ro kA n1 f1)),(.c (ro kG n2 f2)),(.c (ro kC n3 f3)),(.c (ro kF n4 f4))],.arr (.pr .str .nil) n5 f5,.rsv,.rsv,.arr (.pr .str .nil) ((0+n6)+1) f6,.rsv,.arr (.pr .str .nil) 1 f7,.rsv]⟩
def s328cv2:St:=⟨(us 47 []),[.dead]⟩
def L328cv1 {ρ:Type} (u:Nat) (x0:Nat) (x1:FF) (x2:Nat) (x3:FF) (x4:Nat) (x5:FF) (x6:ByteArray) (x7:Nat) (x8:FF) (x9:Nat) (xA:FF) (xB:Nat) (xC:FF) (xD:Nat) (xE:FF) (xF:Nat) (xG:FF):Nat→Int→(Nat→FF→FF→FF→Option ρ)→(Option ρ)→Option ρ
 | 0,_,_,_=>none
 | m+1,xH,k0,k1 =>
  (bif (decide (xH<(Int.ofNat x2))) then (bif (inbe xH x2) then (bif (Nat.ble (0+(xH.toNat-0)) 1073741824) then (bif (inbe (w64 (xH+1)) x2) then (bif (Nat.ble ((0+(xH.toNat-0))+(x2-(Int.toNat (w64 (xH+1))))) 1073741824) then (bif (Nat.ble (0+x0) 1073741824) then (bif (inb xH x2) then (bif (Nat.ble ((0+x0)+1) 1073741824) then (ob (F328b u x6 x7 x8 x9 xA xB xC xD xE xF xG ((0+x0)+1) (joinF (0+x0) (joinF 0 (rowsF 1 []) x1) (rowsF 1 [(.s (x3 xH.toNat 0).str)])) ((0+(xH.toNat-0))+(x2-(Int.toNat (w64 (xH+1))))) (joinF (0+(xH.toNat-0)) (joinF 0 (rowsF 1 []) x3) (shiftF (Int.toNat (w64 (xH+1))) x3)) x4 x5) fun xI=>(bif xI then (k0 ((0+(xH.toNat-0))+(x2-(Int.toNat (w64 (xH+1))))) (joinF (0+(xH.toNat-0)) (joinF 0 (rowsF 1 []) x3) (shiftF (Int.toNat (w64 (xH+1))) x3)) (joinF (0+x0) (joinF 0 (rowsF 1 []) x1) (rowsF 1 [(.s (x3 xH.toNat 0).str)])) (rowsF 1 [(.s (x3 xH.toNat 0).str)])) else (L328cv1 u x0 x1 x2 x3 x4 x5 x6 x7 x8 x9 xA xB xC xD xE xF xG m (w64 (xH+1)) k0 k1))) else none) else none) else none) else none) else none) else none) else none) else k1)
theorem nl328cv1:∀ (m:Nat) (x0:Int) (k0:Nat→FF→FF→FF→Option ρ) (k1:Option ρ),ob (L328cv1 u n0 f0 n1 f1 n2 f2 w0 n3 f3 n4 f4 n5 f5 n6 f6 n7 f7 m x0 k0 k1) ng=L328cv1 u n0 f0 n1 f1 n2 f2 w0 n3 f3 n4 f4 n5 f5 n6 f6 n7 f7 m x0 (fun x1 x2 x3 x4=>ob (k0 x1 x2 x3 x4) ng) (ob k1 ng)
 | 0,_,_,_=>rfl
 | m+1,x0,k0,k1=>by
  simp only [L328cv1,ob_bif,ob_ob,ob_none,nl328cv1 m]
theorem q328cv1:∀ (m:Nat) (x0:Int),
  loopH (eB A13v3 (C87 u) u) N328cv1 m (s328cv0 n0 n1 n2 n3 n4 n5 n6 n7 f0 f1 f2 f3 f4 f5 f6 f7 x0 w0) k=L328cv1 u n0 f0 n1 f1 n2 f2 w0 n3 f3 n4 f4 n5 f5 n6 f6 n7 f7 m x0 (fun x1 x2 x3 x4=>k .ret (s328cv1 n3 n4 n5 n6 n7 x1 n0 f3 f4 f5 f6 f7 x2 x3 x4 w0)) (k (.exit 0) s328cv2)
 | 0,_=>rfl
 | m+1,x0=>by
  simp only [L328cv1,← q328cv1 m]
  kernel_rfl
def F328c (x0:ByteArray) (x1:Nat) (x2:FF) (x3:Nat) (x4:FF) (x5:Nat) (x6:FF) (x7:Nat) (x8:FF) (x9:Nat) (xA:FF) (xB:Nat) (xC:FF) (xD:Nat) (xE:FF) (xF:Nat) (xG:FF):Option (Bool) :=
 (bif ((Int.ofNat xD)==0) then (ob (F327 u x0 x1 x2 x3 x4 x5 x6 x7 x8 x9 xA xB xC xF xG) fun xH=>(some xH)) else (L328cv1 u xB xC xD xE xF xG x0 x1 x2 x3 x4 x5 x6 x7 x8 x9 xA u 0
  (fun xI xJ xK xL=>(some true))
  (some false)))
def s328cv3:St:=⟨(.agg [(vcs w0),(.c (ro kE n0 f0)),(.c (ro kA n1 f1)),(.c (ro kG n2 f2)),(.c (ro kC n3 f3)),(.c (ro kF n4 f4))] :: .x (.c (ro (.pr .str .nil) n5 f5)) :: .x (.c (ro (.pr .str .nil) n6 f6)) :: .x (.c (ro (.pr .str .nil) n7 f7)) :: .x (.ptr 0 0) :: uu :: uu :: uu :: .u :: vxi 0 :: uu :: (us 7 [uu,uu,uu,uu,uu,uu,uu,uu,uu,uu,uu,uu,uu,uu,uu,uu,uu,uu,uu,uu,uu,uu,uu,uu,uu,uu,uu,uu,uu])),[.box [(vcs w0),(.c (ro kE n0 f0)),(.c (ro kA n1 f1)),(.c (ro kG n2 f2)),(.c (ro kC n3 f3)),(.c (ro kF n4 f4))]]⟩
theorem t328cv1 :
  loopN (eB A13v3 (C87 u) u) N328cv1 u (s328cv3 n0 n1 n2 n3 n4 n5 n6 n7 f0 f1 f2 f3 f4 f5 f6 f7 w0) k =
  L328cv1 u n5 f5 n6 f6 n7 f7 w0 n0 f0 n1 f1 n2 f2 n3 f3 n4 f4 u 0 (fun x0 x1 x2 x3=>k .ret (s328cv1 n0 n1 n2 n3 n4 x0 n5 f0 f1 f2 f3 f4 x1 x2 x3 w0)) (k (.exit 0) s328cv2) :=
 Eq.trans (loopN_at (by kernel_rfl)) (q328cv1 ..)
theorem g328cv2 :
  (kBlk 0 (kSeq (C87 u) u (8 :: 9 :: 10 :: (rl 18 29 [])) A13v4 (finish A13))) .ret (s328cv1 n0 n1 n2 n3 n4 n5 n6 f0 f1 f2 f3 f4 f5 f6 f7 w0) =
  (some [.v (.b true)]):=by kernel_rfl
theorem g328cv3 :
  (kBlk 0 (kSeq (C87 u) u (8 :: 9 :: 10 :: (rl 18 29 [])) A13v4 (finish A13))) (.exit 0) s328cv2 =
  (some [.v (.b false)]):=by kernel_rfl
theorem e328c:evalF (C87 u) u A13 [.agg [(.s w0),(ro kE n0 f0),(ro kA n1 f1),(ro kG n2 f2),(ro kC n3 f3),(ro kF n4 f4)],.v (ro (.pr .str .nil) n5 f5),.v (ro (.pr .str .nil) n6 f6),.v (ro (.pr .str .nil) n7 f7)]=ob (F328c u w0 n0 f0 n1 f1 n2 f2 n3 f3 n4 f4 n5 f5 n6 f6 n7 f7) fun t=>some [.v (.b t)]:=Eq.trans (b:=(bif ((Int.ofNat n6)==0) then (ob (F327 u w0 n0 f0 n1 f1 n2 f2 n3 f3 n4 f4 n5 f5 n7 f7) fun x0=>(some [.v (.b x0)])) else (loopN (eB A13v3 (C87 u) u) N328cv1 u (s328cv3 n0 n1 n2 n3 n4 n5 n6 n7 f0 f1 f2 f3 f4 f5 f6 f7 w0) (kBlk 0 (kSeq (C87 u) u (8 :: 9 :: 10 :: (rl 18 29 [])) A13v4 (finish A13)))))) (by kernel_rfl) (by
 simp only [F328c,ob_bif,ob_ob,ob_none,ob_some,nl328cv1,t328cv1,g328cv2,g328cv3])
def O328c:Ora:=mkO (qc (ag (tc cS (tc (cL kE) (tc (cL kA) (tc (cL kG) (tc (cL kC) (t1 (cL kF)))))))) (qc (av (cL (.pr .str .nil))) (qc (av (cL (.pr .str .nil))) (q1 (av (cL (.pr .str .nil))))))) (fun x=>F328c u x.1.1 x.1.2.1.1 x.1.2.1.2 x.1.2.2.1.1 x.1.2.2.1.2 x.1.2.2.2.1.1 x.1.2.2.2.1.2 x.1.2.2.2.2.1.1 x.1.2.2.2.2.1.2 x.1.2.2.2.2.2.1 x.1.2.2.2.2.2.2 x.2.1.1 x.2.1.2 x.2.2.1.1 x.2.2.1.2 x.2.2.2.1 x.2.2.2.2) fun t=>[.v (.b t)]
theorem d328c:DO (O328c u) (C87 u) 13 A13:=dO u (fun x=>by exact e328c u x.1.2.1.1 x.1.2.2.1.1 x.1.2.2.2.1.1 x.1.2.2.2.2.1.1 x.1.2.2.2.2.2.1 x.2.1.1 x.2.2.1.1 x.2.2.2.1 x.1.2.1.2 x.1.2.2.1.2 x.1.2.2.2.1.2 x.1.2.2.2.2.1.2 x.1.2.2.2.2.2.2 x.2.1.2 x.2.2.1.2 x.2.2.2.2 x.1.1)
def C88:Oracle:=(C87 u).add 13 (fun _=>true) (O328c u)
def N328dv1:St→Option St:=nN 1 (0 :: (rl 5 4 (rl 10 37 [])))
def s328dv0:St:=⟨(.u :: .x (.c (ro (.pr .str .nil) n0 f0)) :: .x (.c (ro (.pr .str .nil) n1 f1)) :: .x (.c (ro (.pr .str .nil) n2 f2)) :: .x (.ptr 0 0) :: (us 4 (vxi i0 :: (us 37 [])))),[.box [(vcs w0),(.c (ro kE n3 f3)),(.c (ro kA n4 f4)),(.c (ro kG n5 f5)),(.c (ro kC n6 f6)),(.c (ro kF n7 f7))]]⟩
def s328dv1:St:=⟨(us 8 (vxb true :: (us 38 []))),[.box [(vcs w0),(.c (ro kE n0 f0)),(.c (ro kA n1 f1)),(.c (ro kG n2 f2)),(.c (ro kC n3 f3)),(.c (ro kF n4 f4))],.arr (.pr .str .nil) n5 f5,.rsv,.rsv,.arr (.pr .str .nil) ((0+n6)+1) f6,.rsv,.arr (.pr .str .nil) 1 f7,.rsv]⟩
def s328dv2:St:=⟨(us 47 []),[.dead]⟩
def L328dv1 {ρ:Type} (u:Nat) (x0:Nat) (x1:FF) (x2:Nat) (x3:FF) (x4:Nat) (x5:FF) (x6:ByteArray) (x7:Nat) (x8:FF) (x9:Nat) (xA:FF) (xB:Nat) (xC:FF) (xD:Nat) (xE:FF) (xF:Nat) (xG:FF):Nat→Int→(Nat→FF→FF→FF→Option ρ)→(Option ρ)→Option ρ
 | 0,_,_,_=>none
 | m+1,xH,k0,k1 =>
  (bif (decide (xH<(Int.ofNat x2))) then (bif (inbe xH x2) then (bif (Nat.ble (0+(xH.toNat-0)) 1073741824) then (bif (inbe (w64 (xH+1)) x2) then (bif (Nat.ble ((0+(xH.toNat-0))+(x2-(Int.toNat (w64 (xH+1))))) 1073741824) then (bif (Nat.ble (0+x0) 1073741824) then (bif (inb xH x2) then (bif (Nat.ble ((0+x0)+1) 1073741824) then (ob (F328c u x6 x7 x8 x9 xA xB xC xD xE xF xG ((0+x0)+1) (joinF (0+x0) (joinF 0 (rowsF 1 []) x1) (rowsF 1 [(.s (x3 xH.toNat 0).str)])) ((0+(xH.toNat-0))+(x2-(Int.toNat (w64 (xH+1))))) (joinF (0+(xH.toNat-0)) (joinF 0 (rowsF 1 []) x3) (shiftF (Int.toNat (w64 (xH+1))) x3)) x4 x5) fun xI=>(bif xI then (k0 ((0+(xH.toNat-0))+(x2-(Int.toNat (w64 (xH+1))))) (joinF (0+(xH.toNat-0)) (joinF 0 (rowsF 1 []) x3) (shiftF (Int.toNat (w64 (xH+1))) x3)) (joinF (0+x0) (joinF 0 (rowsF 1 []) x1) (rowsF 1 [(.s (x3 xH.toNat 0).str)])) (rowsF 1 [(.s (x3 xH.toNat 0).str)])) else (L328dv1 u x0 x1 x2 x3 x4 x5 x6 x7 x8 x9 xA xB xC xD xE xF xG m (w64 (xH+1)) k0 k1))) else none) else none) else none) else none) else none) else none) else none) else k1)
theorem nl328dv1:∀ (m:Nat) (x0:Int) (k0:Nat→FF→FF→FF→Option ρ) (k1:Option ρ),ob (L328dv1 u n0 f0 n1 f1 n2 f2 w0 n3 f3 n4 f4 n5 f5 n6 f6 n7 f7 m x0 k0 k1) ng=L328dv1 u n0 f0 n1 f1 n2 f2 w0 n3 f3 n4 f4 n5 f5 n6 f6 n7 f7 m x0 (fun x1 x2 x3 x4=>ob (k0 x1 x2 x3 x4) ng) (ob k1 ng)
 | 0,_,_,_=>rfl
 | m+1,x0,k0,k1=>by
  simp only [L328dv1,ob_bif,ob_ob,ob_none,nl328dv1 m]
theorem q328dv1:∀ (m:Nat) (x0:Int),
  loopH (eB A13v3 (C88 u) u) N328dv1 m (s328dv0 n0 n1 n2 n3 n4 n5 n6 n7 f0 f1 f2 f3 f4 f5 f6 f7 x0 w0) k=L328dv1 u n0 f0 n1 f1 n2 f2 w0 n3 f3 n4 f4 n5 f5 n6 f6 n7 f7 m x0 (fun x1 x2 x3 x4=>k .ret (s328dv1 n3 n4 n5 n6 n7 x1 n0 f3 f4 f5 f6 f7 x2 x3 x4 w0)) (k (.exit 0) s328dv2)
 | 0,_=>rfl
 | m+1,x0=>by
  simp only [L328dv1,← q328dv1 m]
  kernel_rfl
def F328d (x0:ByteArray) (x1:Nat) (x2:FF) (x3:Nat) (x4:FF) (x5:Nat) (x6:FF) (x7:Nat) (x8:FF) (x9:Nat) (xA:FF) (xB:Nat) (xC:FF) (xD:Nat) (xE:FF) (xF:Nat) (xG:FF):Option (Bool) :=
 (bif ((Int.ofNat xD)==0) then (ob (F327 u x0 x1 x2 x3 x4 x5 x6 x7 x8 x9 xA xB xC xF xG) fun xH=>(some xH)) else (L328dv1 u xB xC xD xE xF xG x0 x1 x2 x3 x4 x5 x6 x7 x8 x9 xA u 0
  (fun xI xJ xK xL=>(some true))
  (some false)))
def s328dv3:St:=⟨(.agg [(vcs w0),(.c (ro kE n0 f0)),(.c (ro kA n1 f1)),(.c (ro kG n2 f2)),(.c (ro kC n3 f3)),(.c (ro kF n4 f4))] :: .x (.c (ro (.pr .str .nil) n5 f5)) :: .x (.c (ro (.pr .str .nil) n6 f6)) :: .x (.c (ro (.pr .str .nil) n7 f7)) :: .x (.ptr 0 0) :: uu :: uu :: uu :: .u :: vxi 0 :: uu :: (us 7 [uu,uu,uu,uu,uu,uu,uu,uu,uu,uu,uu,uu,uu,uu,uu,uu,uu,uu,uu,uu,uu,uu,uu,uu,uu,uu,uu,uu,uu])),[.box [(vcs w0),(.c (ro kE n0 f0)),(.c (ro kA n1 f1)),(.c (ro kG n2 f2)),(.c (ro kC n3 f3)),(.c (ro kF n4 f4))]]⟩
theorem t328dv1 :
  loopN (eB A13v3 (C88 u) u) N328dv1 u (s328dv3 n0 n1 n2 n3 n4 n5 n6 n7 f0 f1 f2 f3 f4 f5 f6 f7 w0) k =
  L328dv1 u n5 f5 n6 f6 n7 f7 w0 n0 f0 n1 f1 n2 f2 n3 f3 n4 f4 u 0 (fun x0 x1 x2 x3=>k .ret (s328dv1 n0 n1 n2 n3 n4 x0 n5 f0 f1 f2 f3 f4 x1 x2 x3 w0)) (k (.exit 0) s328dv2) :=
 Eq.trans (loopN_at (by kernel_rfl)) (q328dv1 ..)
theorem g328dv2 :
  (kBlk 0 (kSeq (C88 u) u (8 :: 9 :: 10 :: (rl 18 29 [])) A13v4 (finish A13))) .ret (s328dv1 n0 n1 n2 n3 n4 n5 n6 f0 f1 f2 f3 f4 f5 f6 f7 w0) =
  (some [.v (.b true)]):=by kernel_rfl
theorem g328dv3 :
  (kBlk 0 (kSeq (C88 u) u (8 :: 9 :: 10 :: (rl 18 29 [])) A13v4 (finish A13))) (.exit 0) s328dv2 =
  (some [.v (.b false)]):=by kernel_rfl
theorem e328d:evalF (C88 u) u A13 [.agg [(.s w0),(ro kE n0 f0),(ro kA n1 f1),(ro kG n2 f2),(ro kC n3 f3),(ro kF n4 f4)],.v (ro (.pr .str .nil) n5 f5),.v (ro (.pr .str .nil) n6 f6),.v (ro (.pr .str .nil) n7 f7)]=ob (F328d u w0 n0 f0 n1 f1 n2 f2 n3 f3 n4 f4 n5 f5 n6 f6 n7 f7) fun t=>some [.v (.b t)]:=Eq.trans (b:=(bif ((Int.ofNat n6)==0) then (ob (F327 u w0 n0 f0 n1 f1 n2 f2 n3 f3 n4 f4 n5 f5 n7 f7) fun x0=>(some [.v (.b x0)])) else (loopN (eB A13v3 (C88 u) u) N328dv1 u (s328dv3 n0 n1 n2 n3 n4 n5 n6 n7 f0 f1 f2 f3 f4 f5 f6 f7 w0) (kBlk 0 (kSeq (C88 u) u (8 :: 9 :: 10 :: (rl 18 29 [])) A13v4 (finish A13)))))) (by kernel_rfl) (by
 simp only [F328d,ob_bif,ob_ob,ob_none,ob_some,nl328dv1,t328dv1,g328dv2,g328dv3])
def O328d:Ora:=mkO (qc (ag (tc cS (tc (cL kE) (tc (cL kA) (tc (cL kG) (tc (cL kC) (t1 (cL kF)))))))) (qc (av (cL (.pr .str .nil))) (qc (av (cL (.pr .str .nil))) (q1 (av (cL (.pr .str .nil))))))) (fun x=>F328d u x.1.1 x.1.2.1.1 x.1.2.1.2 x.1.2.2.1.1 x.1.2.2.1.2 x.1.2.2.2.1.1 x.1.2.2.2.1.2 x.1.2.2.2.2.1.1 x.1.2.2.2.2.1.2 x.1.2.2.2.2.2.1 x.1.2.2.2.2.2.2 x.2.1.1 x.2.1.2 x.2.2.1.1 x.2.2.1.2 x.2.2.2.1 x.2.2.2.2) fun t=>[.v (.b t)]
theorem d328d:DO (O328d u) (C88 u) 13 A13:=dO u (fun x=>by exact e328d u x.1.2.1.1 x.1.2.2.1.1 x.1.2.2.2.1.1 x.1.2.2.2.2.1.1 x.1.2.2.2.2.2.1 x.2.1.1 x.2.2.1.1 x.2.2.2.1 x.1.2.1.2 x.1.2.2.1.2 x.1.2.2.2.1.2 x.1.2.2.2.2.1.2 x.1.2.2.2.2.2.2 x.2.1.2 x.2.2.1.2 x.2.2.2.2 x.1.1)
def C89:Oracle:=(C88 u).add 13 (fun _=>true) (O328d u)
def N328ev1:St→Option St:=nN 1 (0 :: (rl 5 4 (rl 10 37 [])))
def s328ev0:St:=⟨(.u :: .x (.c (ro (.pr .str .nil) n0 f0)) :: .x (.c (ro (.pr .str .nil) n1 f1)) :: .x (.c (ro (.pr .str .nil) n2 f2)) :: .x (.ptr 0 0) :: (us 4 (vxi i0 :: (us 37 [])))),[.box [(vcs w0),(.c (ro kE n3 f3)),(.c (ro kA n4 f4)),(.c (ro kG n5 f5)),(.c (ro kC n6 f6)),(.c (ro kF n7 f7))]]⟩
def s328ev1:St:=⟨(us 8 (vxb true :: (us 38 []))),[.box [(vcs w0),(.c (ro kE n0 f0)),(.c (ro kA n1 f1)),(.c (ro kG n2 f2)),(.c (ro kC n3 f3)),(.c (ro kF n4 f4))],.arr (.pr .str .nil) n5 f5,.rsv,.rsv,.arr (.pr .str .nil) ((0+n6)+1) f6,.rsv,.arr (.pr .str .nil) 1 f7,.rsv]⟩
def s328ev2:St:=⟨(us 47 []),[.dead]⟩
def L328ev1 {ρ:Type} (u:Nat) (x0:Nat) (x1:FF) (x2:Nat) (x3:FF) (x4:Nat) (x5:FF) (x6:ByteArray) (x7:Nat) (x8:FF) (x9:Nat) (xA:FF) (xB:Nat) (xC:FF) (xD:Nat) (xE:FF) (xF:Nat) (xG:FF):Nat→Int→(Nat→FF→FF→FF→Option ρ)→(Option ρ)→Option ρ
 | 0,_,_,_=>none
 | m+1,xH,k0,k1 =>
  (bif (decide (xH<(Int.ofNat x2))) then (bif (inbe xH x2) then (bif (Nat.ble (0+(xH.toNat-0)) 1073741824) then (bif (inbe (w64 (xH+1)) x2) then (bif (Nat.ble ((0+(xH.toNat-0))+(x2-(Int.toNat (w64 (xH+1))))) 1073741824) then (bif (Nat.ble (0+x0) 1073741824) then (bif (inb xH x2) then (bif (Nat.ble ((0+x0)+1) 1073741824) then (ob (F328d u x6 x7 x8 x9 xA xB xC xD xE xF xG ((0+x0)+1) (joinF (0+x0) (joinF 0 (rowsF 1 []) x1) (rowsF 1 [(.s (x3 xH.toNat 0).str)])) ((0+(xH.toNat-0))+(x2-(Int.toNat (w64 (xH+1))))) (joinF (0+(xH.toNat-0)) (joinF 0 (rowsF 1 []) x3) (shiftF (Int.toNat (w64 (xH+1))) x3)) x4 x5) fun xI=>(bif xI then (k0 ((0+(xH.toNat-0))+(x2-(Int.toNat (w64 (xH+1))))) (joinF (0+(xH.toNat-0)) (joinF 0 (rowsF 1 []) x3) (shiftF (Int.toNat (w64 (xH+1))) x3)) (joinF (0+x0) (joinF 0 (rowsF 1 []) x1) (rowsF 1 [(.s (x3 xH.toNat 0).str)])) (rowsF 1 [(.s (x3 xH.toNat 0).str)])) else (L328ev1 u x0 x1 x2 x3 x4 x5 x6 x7 x8 x9 xA xB xC xD xE xF xG m (w64 (xH+1)) k0 k1))) else none) else none) else none) else none) else none) else none) else none) else k1)
theorem nl328ev1:∀ (m:Nat) (x0:Int) (k0:Nat→FF→FF→FF→Option ρ) (k1:Option ρ),ob (L328ev1 u n0 f0 n1 f1 n2 f2 w0 n3 f3 n4 f4 n5 f5 n6 f6 n7 f7 m x0 k0 k1) ng=L328ev1 u n0 f0 n1 f1 n2 f2 w0 n3 f3 n4 f4 n5 f5 n6 f6 n7 f7 m x0 (fun x1 x2 x3 x4=>ob (k0 x1 x2 x3 x4) ng) (ob k1 ng)
 | 0,_,_,_=>rfl
 | m+1,x0,k0,k1=>by
  simp only [L328ev1,ob_bif,ob_ob,ob_none,nl328ev1 m]
theorem q328ev1:∀ (m:Nat) (x0:Int),
  loopH (eB A13v3 (C89 u) u) N328ev1 m (s328ev0 n0 n1 n2 n3 n4 n5 n6 n7 f0 f1 f2 f3 f4 f5 f6 f7 x0 w0) k=L328ev1 u n0 f0 n1 f1 n2 f2 w0 n3 f3 n4 f4 n5 f5 n6 f6 n7 f7 m x0 (fun x1 x2 x3 x4=>k .ret (s328ev1 n3 n4 n5 n6 n7 x1 n0 f3 f4 f5 f6 f7 x2 x3 x4 w0)) (k (.exit 0) s328ev2)
 | 0,_=>rfl
 | m+1,x0=>by
  simp only [L328ev1,← q328ev1 m]
  kernel_rfl
def F328e (x0:ByteArray) (x1:Nat) (x2:FF) (x3:Nat) (x4:FF) (x5:Nat) (x6:FF) (x7:Nat) (x8:FF) (x9:Nat) (xA:FF) (xB:Nat) (xC:FF) (xD:Nat) (xE:FF) (xF:Nat) (xG:FF):Option (Bool) :=
 (bif ((Int.ofNat xD)==0) then (ob (F327 u x0 x1 x2 x3 x4 x5 x6 x7 x8 x9 xA xB xC xF xG) fun xH=>(some xH)) else (L328ev1 u xB xC xD xE xF xG x0 x1 x2 x3 x4 x5 x6 x7 x8 x9 xA u 0
  (fun xI xJ xK xL=>(some true))
  (some false)))
def s328ev3:St:=⟨(.agg [(vcs w0),(.c (ro kE n0 f0)),(.c (ro kA n1 f1)),(.c (ro kG n2 f2)),(.c (ro kC n3 f3)),(.c (ro kF n4 f4))] :: .x (.c (ro (.pr .str .nil) n5 f5)) :: .x (.c (ro (.pr .str .nil) n6 f6)) :: .x (.c (ro (.pr .str .nil) n7 f7)) :: .x (.ptr 0 0) :: uu :: uu :: uu :: .u :: vxi 0 :: uu :: (us 7 [uu,uu,uu,uu,uu,uu,uu,uu,uu,uu,uu,uu,uu,uu,uu,uu,uu,uu,uu,uu,uu,uu,uu,uu,uu,uu,uu,uu,uu])),[.box [(vcs w0),(.c (ro kE n0 f0)),(.c (ro kA n1 f1)),(.c (ro kG n2 f2)),(.c (ro kC n3 f3)),(.c (ro kF n4 f4))]]⟩
theorem t328ev1 :
  loopN (eB A13v3 (C89 u) u) N328ev1 u (s328ev3 n0 n1 n2 n3 n4 n5 n6 n7 f0 f1 f2 f3 f4 f5 f6 f7 w0) k =
  L328ev1 u n5 f5 n6 f6 n7 f7 w0 n0 f0 n1 f1 n2 f2 n3 f3 n4 f4 u 0 (fun x0 x1 x2 x3=>k .ret (s328ev1 n0 n1 n2 n3 n4 x0 n5 f0 f1 f2 f3 f4 x1 x2 x3 w0)) (k (.exit 0) s328ev2) :=
 Eq.trans (loopN_at (by kernel_rfl)) (q328ev1 ..)
theorem g328ev2 :
  (kBlk 0 (kSeq (C89 u) u (8 :: 9 :: 10 :: (rl 18 29 [])) A13v4 (finish A13))) .ret (s328ev1 n0 n1 n2 n3 n4 n5 n6 f0 f1 f2 f3 f4 f5 f6 f7 w0) =
  (some [.v (.b true)]):=by kernel_rfl
theorem g328ev3 :
  (kBlk 0 (kSeq (C89 u) u (8 :: 9 :: 10 :: (rl 18 29 [])) A13v4 (finish A13))) (.exit 0) s328ev2 =
  (some [.v (.b false)]):=by kernel_rfl
theorem e328e:evalF (C89 u) u A13 [.agg [(.s w0),(ro kE n0 f0),(ro kA n1 f1),(ro kG n2 f2),(ro kC n3 f3),(ro kF n4 f4)],.v (ro (.pr .str .nil) n5 f5),.v (ro (.pr .str .nil) n6 f6),.v (ro (.pr .str .nil) n7 f7)]=ob (F328e u w0 n0 f0 n1 f1 n2 f2 n3 f3 n4 f4 n5 f5 n6 f6 n7 f7) fun t=>some [.v (.b t)]:=Eq.trans (b:=(bif ((Int.ofNat n6)==0) then (ob (F327 u w0 n0 f0 n1 f1 n2 f2 n3 f3 n4 f4 n5 f5 n7 f7) fun x0=>(some [.v (.b x0)])) else (loopN (eB A13v3 (C89 u) u) N328ev1 u (s328ev3 n0 n1 n2 n3 n4 n5 n6 n7 f0 f1 f2 f3 f4 f5 f6 f7 w0) (kBlk 0 (kSeq (C89 u) u (8 :: 9 :: 10 :: (rl 18 29 [])) A13v4 (finish A13)))))) (by kernel_rfl) (by
 simp only [F328e,ob_bif,ob_ob,ob_none,ob_some,nl328ev1,t328ev1,g328ev2,g328ev3])
def O328e:Ora:=mkO (qc (ag (tc cS (tc (cL kE) (tc (cL kA) (tc (cL kG) (tc (cL kC) (t1 (cL kF)))))))) (qc (av (cL (.pr .str .nil))) (qc (av (cL (.pr .str .nil))) (q1 (av (cL (.pr .str .nil))))))) (fun x=>F328e u x.1.1 x.1.2.1.1 x.1.2.1.2 x.1.2.2.1.1 x.1.2.2.1.2 x.1.2.2.2.1.1 x.1.2.2.2.1.2 x.1.2.2.2.2.1.1 x.1.2.2.2.2.1.2 x.1.2.2.2.2.2.1 x.1.2.2.2.2.2.2 x.2.1.1 x.2.1.2 x.2.2.1.1 x.2.2.1.2 x.2.2.2.1 x.2.2.2.2) fun t=>[.v (.b t)]
theorem d328e:DO (O328e u) (C89 u) 13 A13:=dO u (fun x=>by exact e328e u x.1.2.1.1 x.1.2.2.1.1 x.1.2.2.2.1.1 x.1.2.2.2.2.1.1 x.1.2.2.2.2.2.1 x.2.1.1 x.2.2.1.1 x.2.2.2.1 x.1.2.1.2 x.1.2.2.1.2 x.1.2.2.2.1.2 x.1.2.2.2.2.1.2 x.1.2.2.2.2.2.2 x.2.1.2 x.2.2.1.2 x.2.2.2.2 x.1.1)
def C90:Oracle:=(C89 u).add 13 (fun _=>true) (O328e u)
def A4v1:AC:=(.seq (.region 3 [o1 24 (ln 28 6 2),o1 25 (cf 8 [24] [28]),mv 23 25,o1 26 (.extract (tm 23) 0),o1 27 (.extract (tm 23) 1),o1 5 (sg 26),o1 6 (sg 27)] 0 none) []
 (.seq (.region 4 [o1 28 (ln 28 6 2),o1 29 (ln 28 6 2),o1 30 (cf 9 [29] [28]),o1 31 (ln 28 6 2),o1 32 (cf 10 [31] [28]),o1 33 (.call 13 [(tm 28),(.const (.slice none 0 0)),(tm 30),(tm 32)] [28,37,37,37] .snap),mv 34 6,o1 35 (bk .eql 34 34 0),o1 36 (.eqB false 4 (tm 33) (tm 35) 4),mv 37 36,og 38 (cs 7 [] []) 37 true,o1 39 (po 37 38),o1 4 (sg 39)] 0 (some [[],[],[1],[],[1,2,3],(rl 0 5 []),[],[6],(rl 0 8 []),(rl 0 9 []),(rl 0 10 []),(rl 0 11 []),(rl 0 12 [])])) []
 (.ghost [0,1] (.ret (rl 0 4 (rl 5 35 []))))))
def A4:AF:=⟨40,[.tmp 4],
 (.seq (.region 0 [o1 2 (bx 0 28 0),o1 3 (bx 1 32 1),o1 4 (sb false)] 2 none) []
 (.seq (.seq (.region 1 [o1 7 (ln 28 6 2),o1 8 (.call 12 [(tm 7),(ic 40)] [28,3] .snap),o1 9 (.unOp .not 4 (tm 8)),mv 10 9,og 11 (ln 28 6 2) 10 false,og 12 (ln 32 2 3) 10 false,og 13 (cs 6 [11,12] [28,32]) 10 false,og 14 (bk .neq 34 13 0) 10 false,o1 15 (pa 10 14),mv 16 15,og 17 (ln 28 6 2) 16 false,og 18 (cf 9 [17] [28]) 16 false,og 19 (.len 37 false (tm 18)) 16 false,og 20 (bk .gtr 3 19 4) 16 false,o1 21 (pa 16 20)] 0 none) []
 (.cond (tm 21)
 (.seq (.region 2 [o1 22 (cs 7 [] []),o1 4 (sg 22)] 0 none) []
  (.ghost [0,1] (.ret (rl 0 4 (rl 5 35 [])))))
 .skip)) (4 :: (rl 7 16 []))
 A4v1))⟩
def F329 (x0:ByteArray) (x1:Nat) (x2:FF) (x3:Nat) (x4:FF) (x5:Nat) (x6:FF) (x7:Nat) (x8:FF) (x9:Nat) (xA:FF) (xB:Nat) (xC:FF) (xD:Nat) (xE:FF):Option (Bool) :=
 (ob (F268 u x0 x1 x2 x3 x4 x5 x6 x7 x8 x9 xA 40) fun xF=>(bif ((!xF)==false) then (ob (F324 u x0 x1 x2 x3 x4 x5 x6 x7 x8 x9 xA xB xC xD xE) fun xG=>(bif ((xG != 0)==false) then (ob (F252 u x0 x1 x2 x3 x4 x5 x6 x7 x8 x9 xA) fun xH=>(bif (decide ((Int.ofNat xH.1)>4)) then (ob (F278 u) fun xI=>(some xI)) else (ob (F277 u x0 x1 x2 x3 x4 x5 x6 x7 x8 x9 xA) fun xJ=>(ob (F252 u x0 x1 x2 x3 x4 x5 x6 x7 x8 x9 xA) fun xK=>(ob (F325 u x0 x1 x2 x3 x4 x5 x6 x7 x8 x9 xA) fun xL=>(ob (F328e u x0 x1 x2 x3 x4 x5 x6 x7 x8 x9 xA 0 (fun _ _=>.any) xK.1 xK.2 xL.1 xL.2) fun xM=>(bif ((xM==(xJ.2.2==0))==true) then (ob (F278 u) fun xN=>(some xN)) else (some false)))))))) else (ob (F278 u) fun xO=>(some xO)))) else (ob (F278 u) fun xP=>(some xP))))
theorem e329:evalF (C90 u) u A4 [.agg [(.s w0),(ro kE n0 f0),(ro kA n1 f1),(ro kG n2 f2),(ro kC n3 f3),(ro kF n4 f4)],.agg [(ro kD n5 f5),(ro (.pr .str kV) n6 f6)]]=ob (F329 u w0 n0 f0 n1 f1 n2 f2 n3 f3 n4 f4 n5 f5 n6 f6) fun t=>some [.v (.b t)]:=by
 simp only [F329,ob_bif,ob_ob,ob_none,ob_some]
 kernel_rfl
def O329:Ora:=mkO (qc (ag (tc cS (tc (cL kE) (tc (cL kA) (tc (cL kG) (tc (cL kC) (t1 (cL kF)))))))) (q1 (ag (tc (cL kD) (t1 (cL (.pr .str kV))))))) (fun x=>F329 u x.1.1 x.1.2.1.1 x.1.2.1.2 x.1.2.2.1.1 x.1.2.2.1.2 x.1.2.2.2.1.1 x.1.2.2.2.1.2 x.1.2.2.2.2.1.1 x.1.2.2.2.2.1.2 x.1.2.2.2.2.2.1 x.1.2.2.2.2.2.2 x.2.1.1 x.2.1.2 x.2.2.1 x.2.2.2) fun t=>[.v (.b t)]
theorem d329:DO (O329 u) (C90 u) 4 A4:=dO u (fun x=>by exact e329 u x.1.2.1.1 x.1.2.2.1.1 x.1.2.2.2.1.1 x.1.2.2.2.2.1.1 x.1.2.2.2.2.2.1 x.2.1.1 x.2.2.1 x.1.2.1.2 x.1.2.2.1.2 x.1.2.2.2.1.2 x.1.2.2.2.2.1.2 x.1.2.2.2.2.2.2 x.2.1.2 x.2.2.2 x.1.1)
end Go.Eng.R13
