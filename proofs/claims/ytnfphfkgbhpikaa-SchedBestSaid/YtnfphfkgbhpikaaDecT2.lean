/-
 The functions of the program,run on symbols;printed by decomp.py.
-/
import Derived.Test.YtnfphfkgbhpikaaDecT1
set_option linter.all false
set_option maxRecDepth 1000000
set_option maxHeartbeats 4000000
namespace Go.Eng.R13
open Go Go.RowKit Go.Eng
variable {ρ σ : Type} (u m : Nat) (k : Ex → St → Option ρ) (ng : ρ → Option σ) (n0 n1 n2 n3 n4 n5 n6 n7 n8 n9 nA : Nat) (f0 f1 f2 f3 f4 f5 f6 f7 f8 f9 fA : FF) (i0 i1 i2 i3 i4 i5 i6 i7 : Int) (b0 b1 b2 : Bool) (w0 w1 w2 : ByteArray) (g0 g1 g2 : Nat → CV) (u0 u1 : Nat → Nat)
def A58v1:AC:=(.region 8 [mv 19 6,o1 20 (bk .add 3 19 1),o1 6 (sg 20)] 0 none)
def A58v2:AC:=(.seq (.block 3
 (.seq (.region 9 [mv 21 5,mv 22 6,o1 23 (bt .neq 3 21 22),mv 24 23,og 25 (ln 28 6 1) 24 true,og 26 (.move (tm 3)) 24 true,og 27 (.move (tm 5)) 24 true,og 28 (.indexAddr 51 9 1 (tm 26) (tm 27)) 24 true,og 29 (lo 9 28) 24 true,og 30 (.move (tm 3)) 24 true,og 31 (.move (tm 6)) 24 true,og 32 (.indexAddr 51 9 1 (tm 30) (tm 31)) 24 true,og 33 (lo 9 32) 24 true,og 34 (cs 78 [25,29,33] [28,9,9]) 24 true,o1 35 (po 24 34)] 0 (some [[],[],[0,1],[0,1,2],(rl 0 4 []),(rl 0 4 []),(rl 0 4 []),(rl 0 4 [5,6]),(rl 0 4 [5,6,7]),(rl 0 4 []),(rl 0 4 []),(rl 0 4 [9,10]),(rl 0 4 [9,10,11]),(rl 0 13 []),(rl 0 14 [])])) []
  (.cond (tm 35)
  (.region 10 [mv 36 4,mv 37 5,mv 38 6,o1 39 (.build 46 [vci 0,vci 0] [] 1 [(0,(tm 37)),(1,(tm 38))]),o1 40 (.buildSlice 0 102 46 kP 1 [vci 0,vci 0] [(0,(tm 39))]),o1 41 (.append 1 102 46 kP 16 (tm 36) (tm 40)),o1 4 (sg 41)] 2 none)
  .skip))) (rl 21 21 [])
 A58v1)
def A58v3:AC:=(.seq (.seq (.region 7 [mv 15 6,mv 16 3,o1 17 (.len 51 false (tm 16)),o1 18 (bt .lss 3 15 17)] 0 none) []
 (.cond (tm 18)
 .skip
 (.exit 2 (0 :: 2 :: (rl 6 37 []))))) (rl 15 4 [])
 A58v2)
def A58v4:AC:=(.region 5 [mv 13 5,o1 14 (bk .add 3 13 1),o1 5 (sg 14)] 0 none)
def A58v5:AC:=(.seq (.block 1
 (.seq (.region 6 [o1 6 (sk 0)] 0 none) []
  (.block 2
  (.loop [.slot 4 kP] (0 :: 2 :: (rl 7 36 []))
   A58v3)))) (6 :: (rl 15 27 []))
 A58v4)
def A58v6:AC:=(.seq (.seq (.region 4 [mv 9 5,mv 10 3,o1 11 (.len 51 false (tm 10)),o1 12 (bt .lss 3 9 11)] 0 none) []
 (.cond (tm 12)
 .skip
 (.exit 0 (rl 0 4 (rl 5 38 []))))) (rl 9 4 [])
 A58v5)
def A58v7:AC:=(.seq (.region 11 [mv 42 4,o1 2 (sg 42)] 0 none) []
 (.ret (0 :: 1 :: (rl 3 40 []))))
def A58:AF:=⟨43,[.tmp 2],
 (.seq (.region 0 [o1 1 (bx 0 28 0),o1 2 (.assign (.const (.slice none 0 0)))] 1 none) []
 (.seq (.region 1 [o1 7 (ln 28 6 1),o1 8 (cf 33 [7] [28]),o1 3 (sg 8)] 0 none) []
 (.seq (.region 2 [o1 4 (.assign (.const (.slice none 0 0)))] 0 none) []
 (.seq (.seq (.region 3 [o1 5 (sk 0)] 0 none) []
 (.block 0
 (.loop [.slot 4 kP] (0 :: 2 :: (rl 6 37 []))
  A58v6))) (5 :: 6 :: (rl 9 33 []))
 A58v7))))⟩
def N254v2:St→Option St:=nN 2 (0 :: 2 :: (rl 7 36 []))
def s254v0:St:=⟨(.u :: .x (.ptr 0 0) :: .u :: .x (.c (ro kO n0 f0)) :: .x (.own 1 0 n1) :: vxi i0 :: vxi i1 :: (us 36 [])),[.box [(vcs w0),(.c (ro kF n2 f1)),(.c (ro kB n3 f2)),(.c (ro kI n4 f3)),(.c (ro kD n5 f4)),(.c (ro kG n6 f5))],.arr kP n1 f6]⟩
def s254v1:St:=⟨(.u :: .x (.ptr 0 0) :: .u :: .x (.c (ro kO n0 f0)) :: .x (.own 1 0 n1) :: vxi i0 :: (us 37 [])),[.box [(vcs w0),(.c (ro kF n2 f1)),(.c (ro kB n3 f2)),(.c (ro kI n4 f3)),(.c (ro kD n5 f4)),(.c (ro kG n6 f5))],.arr kP n1 f6]⟩
def L254v2 {ρ:Type} (u:Nat) (x0:Nat) (x1:FF) (x2:Int) (x3:ByteArray) (x4:Nat) (x5:FF) (x6:Nat) (x7:FF) (x8:Nat) (x9:FF) (xA:Nat) (xB:FF) (xC:Nat) (xD:FF):Nat→Nat→Int→FF→(Nat→FF→Option ρ)→Option ρ
 | 0,_,_,_,_=>none
 | m+1,xE,xF,xG,k0 =>
  (bif (decide (xF<(Int.ofNat x0))) then (bif ((x2 != xF)==true) then (bif (inb x2 x0) then (bif (inb xF x0) then (ob (F253 u x3 x4 x5 x6 x7 x8 x9 xA xB xC xD (x1 x2.toNat 0).str (x1 xF.toNat 0).str) fun xH=>(bif xH then (bif (Nat.ble (xE+1) 1073741824) then (L254v2 u x0 x1 x2 x3 x4 x5 x6 x7 x8 x9 xA xB xC xD m (xE+1) (w64 (xF+1)) (joinF xE xG (rowsF 2 [(.i .i64 x2),(.i .i64 xF)])) k0) else none) else (L254v2 u x0 x1 x2 x3 x4 x5 x6 x7 x8 x9 xA xB xC xD m xE (w64 (xF+1)) xG k0))) else none) else none) else (L254v2 u x0 x1 x2 x3 x4 x5 x6 x7 x8 x9 xA xB xC xD m xE (w64 (xF+1)) xG k0)) else (k0 xE xG))
theorem nl254v2:∀ (m:Nat) (x0:Nat) (x1:Int) (x2:FF) (k0:Nat→FF→Option ρ),ob (L254v2 u n0 f0 i0 w0 n1 f1 n2 f2 n3 f3 n4 f4 n5 f5 m x0 x1 x2 k0) ng=L254v2 u n0 f0 i0 w0 n1 f1 n2 f2 n3 f3 n4 f4 n5 f5 m x0 x1 x2 (fun x3 x4=>ob (k0 x3 x4) ng)
 | 0,_,_,_,_=>rfl
 | m+1,x0,x1,x2,k0=>by
  simp only [L254v2,ob_bif,ob_ob,ob_none,nl254v2 m]
theorem q254v2:∀ (m:Nat) (x0:Nat) (x1:Int) (x2:FF),
  loopH (eB A58v3 (C52 u) u) N254v2 m (s254v0 n0 x0 n1 n2 n3 n4 n5 f0 f1 f2 f3 f4 f5 x2 i0 x1 w0) k=L254v2 u n0 f0 i0 w0 n1 f1 n2 f2 n3 f3 n4 f4 n5 f5 m x0 x1 x2 (fun x3 x4=>k (.exit 2) (s254v1 n0 x3 n1 n2 n3 n4 n5 f0 f1 f2 f3 f4 f5 x4 i0 w0))
 | 0,_,_,_=>rfl
 | m+1,x0,x1,x2=>by
  simp only [L254v2,← q254v2 m]
  kernel_rfl
def N254v3:St→Option St:=nN 2 (0 :: 2 :: (rl 6 37 []))
def s254v2:St:=⟨(.u :: .x (.ptr 0 0) :: .u :: .x (.c (ro kO n0 f0)) :: .x (.own 1 0 n1) :: vxi i0 :: (us 37 [])),[.box [(vcs w0),(.c (ro kF n2 f1)),(.c (ro kB n3 f2)),(.c (ro kI n4 f3)),(.c (ro kD n5 f4)),(.c (ro kG n6 f5))],.arr kP n1 f6]⟩
def s254v3:St:=⟨(us 4 (.x (.own 1 0 n0) :: (us 38 []))),[.box [(vcs w0),(.c (ro kF n1 f0)),(.c (ro kB n2 f1)),(.c (ro kI n3 f2)),(.c (ro kD n4 f3)),(.c (ro kG n5 f4))],.arr kP n0 f5]⟩
def L254v3 {ρ:Type} (u:Nat) (x0:Nat) (x1:FF) (x2:ByteArray) (x3:Nat) (x4:FF) (x5:Nat) (x6:FF) (x7:Nat) (x8:FF) (x9:Nat) (xA:FF) (xB:Nat) (xC:FF):Nat→Nat→Int→FF→(Nat→FF→Option ρ)→Option ρ
 | 0,_,_,_,_=>none
 | m+1,xD,xE,xF,k0 =>
  (bif (decide (xE<(Int.ofNat x0))) then (L254v2 u x0 x1 xE x2 x3 x4 x5 x6 x7 x8 x9 xA xB xC u xD 0 xF
  (fun xG xH=>(L254v3 u x0 x1 x2 x3 x4 x5 x6 x7 x8 x9 xA xB xC m xG (w64 (xE+1)) xH k0))) else (k0 xD xF))
theorem nl254v3:∀ (m:Nat) (x0:Nat) (x1:Int) (x2:FF) (k0:Nat→FF→Option ρ),ob (L254v3 u n0 f0 w0 n1 f1 n2 f2 n3 f3 n4 f4 n5 f5 m x0 x1 x2 k0) ng=L254v3 u n0 f0 w0 n1 f1 n2 f2 n3 f3 n4 f4 n5 f5 m x0 x1 x2 (fun x3 x4=>ob (k0 x3 x4) ng)
 | 0,_,_,_,_=>rfl
 | m+1,x0,x1,x2,k0=>by
  simp only [L254v3,ob_bif,ob_ob,ob_none,nl254v3 m,nl254v2]
def s254v4:St:=⟨(.u :: .x (.ptr 0 0) :: .u :: .x (.c (ro kO n0 f0)) :: .x (.own 1 0 n1) :: vxi i0 :: vxi 0 :: (us 36 [])),[.box [(vcs w0),(.c (ro kF n2 f1)),(.c (ro kB n3 f2)),(.c (ro kI n4 f3)),(.c (ro kD n5 f4)),(.c (ro kG n6 f5))],.arr kP n1 f6]⟩
theorem r254v3 :
  loopH (eB A58v6 (C52 u) u) N254v3 (m+1) (s254v2 n0 n6 n1 n2 n3 n4 n5 f0 f1 f2 f3 f4 f5 f6 i0 w0) k =
  (bif (decide (i0<(Int.ofNat n0))) then (loopN (eB A58v3 (C52 u) u) N254v2 u (s254v4 n0 n6 n1 n2 n3 n4 n5 f0 f1 f2 f3 f4 f5 f6 i0 w0) (kBlk 2 (kBlk 1 (kSeq (C52 u) u (6 :: (rl 15 27 [])) A58v4 (kLoop (eB A58v6 (C52 u) u) N254v3 m k))))) else (k (.exit 0) (s254v3 n6 n1 n2 n3 n4 n5 f1 f2 f3 f4 f5 f6 w0))):=by kernel_rfl
theorem t254v1 :
  loopN (eB A58v3 (C52 u) u) N254v2 u (s254v4 n0 n1 n2 n3 n4 n5 n6 f0 f1 f2 f3 f4 f5 f6 i0 w0) k =
  L254v2 u n0 f0 i0 w0 n2 f1 n3 f2 n4 f3 n5 f4 n6 f5 u n1 0 f6 (fun x0 x1=>k (.exit 2) (s254v1 n0 x0 n2 n3 n4 n5 n6 f0 f1 f2 f3 f4 f5 x1 i0 w0)) :=
 Eq.trans (loopN_at (by kernel_rfl)) (q254v2 ..)
theorem g254v2 :
  (kBlk 2 (kBlk 1 (kSeq (C52 u) u (6 :: (rl 15 27 [])) A58v4 (kLoop (eB A58v6 (C52 u) u) N254v3 m k)))) (.exit 2) (s254v1 n0 n1 n2 n3 n4 n5 n6 f0 f1 f2 f3 f4 f5 f6 i0 w0) =
  (loopH (eB A58v6 (C52 u) u) N254v3 m (s254v2 n0 n1 n2 n3 n4 n5 n6 f0 f1 f2 f3 f4 f5 f6 (w64 (i0+1)) w0) k):=by kernel_rfl
theorem q254v3:∀ (m:Nat) (x0:Nat) (x1:Int) (x2:FF),
  loopH (eB A58v6 (C52 u) u) N254v3 m (s254v2 n0 x0 n1 n2 n3 n4 n5 f0 f1 f2 f3 f4 f5 x2 x1 w0) k=L254v3 u n0 f0 w0 n1 f1 n2 f2 n3 f3 n4 f4 n5 f5 m x0 x1 x2 (fun x3 x4=>k (.exit 0) (s254v3 x3 n1 n2 n3 n4 n5 f1 f2 f3 f4 f5 x4 w0))
 | 0,_,_,_=>rfl
 | m+1,x0,x1,x2=>by
  rw [r254v3]
  simp only [L254v3,q254v3 m,t254v1,g254v2]
def F254 (x0:ByteArray) (x1:Nat) (x2:FF) (x3:Nat) (x4:FF) (x5:Nat) (x6:FF) (x7:Nat) (x8:FF) (x9:Nat) (xA:FF):Option (Nat × FF) :=
 (ob (F252 u x0 x1 x2 x3 x4 x5 x6 x7 x8 x9 xA) fun xB=>(L254v3 u xB.1 xB.2 x0 x1 x2 x3 x4 x5 x6 x7 x8 x9 xA u 0 0 (fun _ _=>.any)
  (fun xC xD=>(some (xC,xD)))))
def s254v5 (x0:Nat × FF):St:=⟨[.agg [(vcs w0),(.c (ro kF n0 f0)),(.c (ro kB n1 f1)),(.c (ro kI n2 f2)),(.c (ro kD n3 f3)),(.c (ro kG n4 f4))],.x (.ptr 0 0),.x (vcn),.x (.c (ro kO x0.1 x0.2)),.x (.own 1 0 0),vxi 0,uu,.agg [(vcs w0),(.c (ro kF n0 f0)),(.c (ro kB n1 f1)),(.c (ro kI n2 f2)),(.c (ro kD n3 f3)),(.c (ro kG n4 f4))],.x (.c (ro kO x0.1 x0.2)),uu,uu,uu,uu,uu,uu,uu,uu,uu,uu,uu,uu,uu,uu,uu,uu,uu,uu,uu,uu,uu,uu,uu,uu,uu,uu,uu,uu,uu,uu,uu,uu,uu,uu],[.box [(vcs w0),(.c (ro kF n0 f0)),(.c (ro kB n1 f1)),(.c (ro kI n2 f2)),(.c (ro kD n3 f3)),(.c (ro kG n4 f4))],.arr kP 0 nilF]⟩
theorem t254v3 (x0:Nat × FF) :
  loopN (eB A58v6 (C52 u) u) N254v3 u (s254v5 n0 n1 n2 n3 n4 f0 f1 f2 f3 f4 w0 x0) k =
  L254v3 u x0.1 x0.2 w0 n0 f0 n1 f1 n2 f2 n3 f3 n4 f4 u 0 0 nilF (fun x1 x2=>k (.exit 0) (s254v3 x1 n0 n1 n2 n3 n4 f0 f1 f2 f3 f4 x2 w0)) :=
 Eq.trans (loopN_at (by kernel_rfl)) (q254v3 ..)
theorem g254v4 :
  (kBlk 0 (kSeq (C52 u) u (5 :: 6 :: (rl 9 33 [])) A58v7 (finish A58))) (.exit 0) (s254v3 n0 n1 n2 n3 n4 n5 f0 f1 f2 f3 f4 f5 w0) =
  (some [.v (ro kP n0 f5)]):=by kernel_rfl
theorem e254:evalF (C52 u) u A58 [.agg [(.s w0),(ro kF n0 f0),(ro kB n1 f1),(ro kI n2 f2),(ro kD n3 f3),(ro kG n4 f4)]]=ob (F254 u w0 n0 f0 n1 f1 n2 f2 n3 f3 n4 f4) fun t=>some [.v (ro kP t.1 t.2)]:=Eq.trans (b:=(ob (F252 u w0 n0 f0 n1 f1 n2 f2 n3 f3 n4 f4) fun x0=>(loopN (eB A58v6 (C52 u) u) N254v3 u (s254v5 n0 n1 n2 n3 n4 f0 f1 f2 f3 f4 w0 x0) (kBlk 0 (kSeq (C52 u) u (5 :: 6 :: (rl 9 33 [])) A58v7 (finish A58)))))) (by kernel_rfl) (by
 simp only [F254,ob_bif,ob_ob,ob_none,ob_some,nl254v3,t254v3,g254v4])
def O254:Ora:=mkO (q1 (ag (tc cS (tc (cL kF) (tc (cL kB) (tc (cL kI) (tc (cL kD) (t1 (cL kG))))))))) (fun x=>F254 u x.1 x.2.1.1 x.2.1.2 x.2.2.1.1 x.2.2.1.2 x.2.2.2.1.1 x.2.2.2.1.2 x.2.2.2.2.1.1 x.2.2.2.2.1.2 x.2.2.2.2.2.1 x.2.2.2.2.2.2) fun t=>[.v (ro kP t.1 t.2)]
theorem d254:DO (O254 u) (C52 u) 58 A58:=dO u (fun x=>by exact e254 u x.2.1.1 x.2.2.1.1 x.2.2.2.1.1 x.2.2.2.2.1.1 x.2.2.2.2.2.1 x.2.1.2 x.2.2.1.2 x.2.2.2.1.2 x.2.2.2.2.1.2 x.2.2.2.2.2.2 x.1)
def C53:Oracle:=(C52 u).add 58 (fun _=>true) (O254 u)
def A77v1:AC:=(.seq (.region 7 [mv 40 6,mv 41 7,o1 42 (bt .eql 3 40 41)] 0 none) []
 (.cond (tm 42)
 (.seq (.region 8 [o1 4 (sk 2)] 0 none) []
  (.ret (rl 0 4 (rl 5 38 []))))
 .skip))
def A77v2:AC:=(.region 3 [mv 12 5,o1 13 (bk .add 3 12 1),o1 5 (sg 13)] 0 none)
def A77v3:AC:=(.seq (.block 1
 (.seq (.region 4 [mv 14 1,mv 15 5,o1 16 (.indexAddr 102 46 2 (tm 14) (tm 15)),o1 17 (.indexAddrA 46 3 2 1 (tm 16) (ic 0)),o1 18 (lo 3 17),mv 19 1,mv 20 5,o1 21 (.indexAddr 102 46 2 (tm 19) (tm 20)),o1 22 (.indexAddrA 46 3 2 1 (tm 21) (ic 1)),o1 23 (lo 3 22),o1 6 (sg 18),o1 7 (sg 23)] 0 (some [[],[],[0,1],[0,1,2],(rl 0 4 []),[],[],[5,6],[5,6,7],(rl 5 4 []),(rl 0 5 []),(rl 0 11 [])])) []
  (.seq (.seq (.region 5 [mv 24 6,o1 25 (bk .lss 3 24 0),mv 26 25,og 27 (.move (tm 6)) 26 false,og 28 (.move (tm 0)) 26 false,og 29 (bt .geq 3 27 28) 26 false,o1 30 (pa 26 29),mv 31 30,og 32 (.move (tm 7)) 31 false,og 33 (bk .lss 3 32 0) 31 false,o1 34 (pa 31 33),mv 35 34,og 36 (.move (tm 7)) 35 false,og 37 (.move (tm 0)) 35 false,og 38 (bt .geq 3 36 37) 35 false,o1 39 (pa 35 38)] 0 none) []
  (.cond (tm 39)
  (.seq (.region 6 [o1 4 (sk 9)] 0 none) []
   (.ret (rl 0 4 (rl 5 38 []))))
  .skip)) (4 :: (rl 24 16 []))
  A77v1))) (4 :: 6 :: 7 :: (rl 14 29 []))
 A77v2)
def A77v4:AC:=(.seq (.seq (.region 2 [mv 8 5,mv 9 1,o1 10 (.len 102 false (tm 9)),o1 11 (bt .lss 3 8 10)] 0 none) []
 (.cond (tm 11)
 .skip
 (.exit 0 (rl 0 43 [])))) (rl 8 4 [])
 A77v3)
def A77v5:AC:=(.seq (.region 9 [o1 4 (sk 0)] 0 none) []
 (.ret (rl 0 4 (rl 5 38 []))))
def A77:AF:=⟨43,[.tmp 4],
 (.seq (.region 0 [o1 4 (sk 0)] 0 none) []
 (.seq (.seq (.region 1 [o1 5 (sk 0)] 0 none) []
 (.block 0
 (.loop [] (2 :: 3 :: 4 :: (rl 6 37 []))
  A77v4))) (rl 4 39 [])
 A77v5))⟩
def N228v1:St→Option St:=nN 0 (2 :: 3 :: 4 :: (rl 6 37 []))
def s228v0:St:=⟨(vxi i0 :: .x (.c (ro kP n0 f0)) :: (us 3 (vxi i1 :: (us 37 [])))),[]⟩
def s228v1:St:=⟨(us 4 (vxi i0 :: (us 38 []))),[]⟩
def s228v2:St:=⟨(us 43 []),[]⟩
def L228v1 {ρ:Type} (u:Nat) (x0:Int) (x1:Nat) (x2:FF):Nat→Int→(Int→Option ρ)→(Option ρ)→Option ρ
 | 0,_,_,_=>none
 | m+1,x3,k0,k1 =>
  (bif (decide (x3<(Int.ofNat x1))) then (bif (inb x3 x1) then (bif (inb x3 x1) then (bif ((decide ((x2 x3.toNat 0).int<0))==false) then (bif ((decide ((x2 x3.toNat 0).int≥x0))==false) then (bif ((decide ((x2 x3.toNat 1).int<0))==false) then (bif (decide ((x2 x3.toNat 1).int≥x0)) then (k0 9) else (bif ((x2 x3.toNat 0).int==(x2 x3.toNat 1).int) then (k0 2) else (L228v1 u x0 x1 x2 m (w64 (x3+1)) k0 k1))) else (k0 9)) else (k0 9)) else (k0 9)) else none) else none) else k1)
theorem nl228v1:∀ (m:Nat) (x0:Int) (k0:Int→Option ρ) (k1:Option ρ),ob (L228v1 u i0 n0 f0 m x0 k0 k1) ng=L228v1 u i0 n0 f0 m x0 (fun x1=>ob (k0 x1) ng) (ob k1 ng)
 | 0,_,_,_=>rfl
 | m+1,x0,k0,k1=>by
  simp only [L228v1,ob_bif,ob_ob,ob_none,nl228v1 m]
theorem q228v1:∀ (m:Nat) (x0:Int),
  loopH (eB A77v4 (C53 u) u) N228v1 m (s228v0 n0 f0 i0 x0) k=L228v1 u i0 n0 f0 m x0 (fun x1=>k .ret (s228v1 x1)) (k (.exit 0) s228v2)
 | 0,_=>rfl
 | m+1,x0=>by
  simp only [L228v1,← q228v1 m]
  kernel_rfl
def F228 (x0:Int) (x1:Nat) (x2:FF):Option (Int) :=
 (L228v1 u x0 x1 x2 u 0
  (fun x3=>(some x3))
  (some 0))
def s228v3:St:=⟨[vxi i0,.x (.c (ro kP n0 f0)),uu,uu,vxi 0,vxi 0,uu,uu,uu,uu,uu,uu,uu,uu,uu,uu,uu,uu,uu,uu,uu,uu,uu,uu,uu,uu,uu,uu,uu,uu,uu,uu,uu,uu,uu,uu,uu,uu,uu,uu,uu,uu,uu],[]⟩
theorem t228v1 :
  loopN (eB A77v4 (C53 u) u) N228v1 u (s228v3 n0 f0 i0) k =
  L228v1 u i0 n0 f0 u 0 (fun x0=>k .ret (s228v1 x0)) (k (.exit 0) s228v2) :=
 Eq.trans (loopN_at (by kernel_rfl)) (q228v1 ..)
theorem g228v2 :
  (kBlk 0 (kSeq (C53 u) u (rl 4 39 []) A77v5 (finish A77))) .ret (s228v1 i0) =
  (some [.v (vi i0)]):=by kernel_rfl
theorem g228v3 :
  (kBlk 0 (kSeq (C53 u) u (rl 4 39 []) A77v5 (finish A77))) (.exit 0) s228v2 =
  (some [.v (vi 0)]):=by kernel_rfl
theorem e228:evalF (C53 u) u A77 [.v (vi i0),.v (ro kP n0 f0)]=ob (F228 u i0 n0 f0) fun t=>some [.v (vi t)]:=Eq.trans (b:=(loopN (eB A77v4 (C53 u) u) N228v1 u (s228v3 n0 f0 i0) (kBlk 0 (kSeq (C53 u) u (rl 4 39 []) A77v5 (finish A77))))) (by kernel_rfl) (by
 simp only [F228,ob_bif,ob_ob,ob_none,ob_some,nl228v1,t228v1,g228v2,g228v3])
def O228:Ora:=mkO (qc (av ci) (q1 (av (cL kP)))) (fun x=>F228 u x.1 x.2.1 x.2.2) fun t=>[.v (vi t)]
theorem d228:DO (O228 u) (C53 u) 77 A77:=dO u (fun x=>by exact e228 u x.2.1 x.2.2 x.1)
def C54:Oracle:=(C53 u).add 77 (fun _=>true) (O228 u)
def A57v1:AC:=(.region 12 [mv 37 10,o1 38 (bk .add 3 37 1),o1 10 (sg 38)] 0 none)
def A57v2:AC:=(.seq (.block 3
 (.seq (.region 13 [mv 39 8,mv 40 1,mv 41 10,o1 42 (.indexAddr 102 46 2 (tm 40) (tm 41)),o1 43 (.indexAddrA 46 3 2 1 (tm 42) (ic 0)),o1 44 (lo 3 43),o1 45 (.indexAddr 71 4 1 (tm 39) (tm 44)),o1 46 (lo 4 45),o1 47 (.unOp .not 4 (tm 46))] 0 none) []
  (.cond (tm 47)
  (.region 14 [mv 48 9,mv 49 1,mv 50 10,o1 51 (.indexAddr 102 46 2 (tm 49) (tm 50)),o1 52 (.indexAddrA 46 3 2 1 (tm 51) (ic 1)),o1 53 (lo 3 52),o1 54 (.indexAddr 71 4 1 (tm 48) (tm 53)),o0 (.store 4 1 (tm 54) (.const (.bool true)))] 0 none)
  .skip))) (rl 39 16 [])
 A57v1)
def A57v3:AC:=(.seq (.seq (.region 11 [mv 33 10,mv 34 1,o1 35 (.len 102 false (tm 34)),o1 36 (bt .lss 3 33 35)] 0 none) []
 (.cond (tm 36)
 .skip
 (.exit 2 (rl 2 5 (rl 10 74 []))))) (rl 33 4 [])
 A57v2)
def A57v4:AC:=(.region 18 [mv 59 12,o1 60 (bk .sub 3 59 1),o1 12 (sg 60)] 0 none)
def A57v5:AC:=(.seq (.block 5
 (.seq (.region 19 [mv 61 8,mv 62 12,o1 63 (.indexAddr 71 4 1 (tm 61) (tm 62)),o1 64 (lo 4 63),o1 65 (.unOp .not 4 (tm 64)),mv 66 65,og 67 (.move (tm 9)) 66 true,og 68 (.move (tm 12)) 66 true,og 69 (.indexAddr 71 4 1 (tm 67) (tm 68)) 66 true,og 70 (lo 4 69) 66 true,og 71 (.unOp .not 4 (tm 70)) 66 true,o1 72 (po 66 71)] 0 none) []
  (.cond (tm 72)
  (.region 20 [mv 73 12,o1 11 (sg 73)] 0 none)
  .skip))) (rl 61 13 [])
 A57v4)
def A57v6:AC:=(.seq (.seq (.region 17 [mv 57 12,o1 58 (bk .geq 3 57 0)] 0 none) []
 (.cond (tm 58)
 .skip
 (.exit 4 (rl 2 5 (9 :: 10 :: (rl 12 72 [])))))) [57,58]
 A57v5)
def A57v7:AC:=(.seq (.region 23 [mv 76 8,mv 77 11,o1 78 (.indexAddr 71 4 1 (tm 76) (tm 77)),o0 (.store 4 1 (tm 78) (.const (.bool true)))] 0 none) []
 (.region 24 [mv 79 7,mv 80 11,o1 81 (.buildSlice 0 73 3 kM 1 [vci 0] [(0,(tm 80))]),o1 82 (.append 1 73 3 kM 8 (tm 79) (tm 81)),o1 7 (sg 82)] 2 none))
def A57v8:AC:=(.seq (.seq (.region 21 [mv 74 11,o1 75 (bk .lss 3 74 0)] 0 none) []
 (.cond (tm 75)
 (.seq (.region 22 [o1 4 (.assign (.const (.slice none 0 0))),o1 5 (sk 20)] 0 none) []
  (.ret (rl 0 4 (rl 6 78 []))))
 .skip)) [4,5,74,75]
 A57v7)
def A57v9:AC:=(.seq (.region 15 [o1 11 (sk (-1))] 0 none) []
 (.seq (.seq (.region 16 [mv 55 0,o1 56 (bk .sub 3 55 1),o1 12 (sg 56)] 0 none) []
 (.block 4
 (.loop [] (rl 2 5 (10 :: (rl 13 71 [])))
  A57v6))) (12 :: (rl 55 19 []))
 A57v8))
def A57v10:AC:=(.block 1
 (.seq (.region 9 [mv 31 0,o1 32 (.makeSlice 0 71 4 kN 1 [(.b false)] (tm 31) (tm 31)),o1 9 (sg 32)] 1 none) []
  (.seq (.seq (.region 10 [o1 10 (sk 0)] 0 none) []
  (.block 2
  (.loop [] (rl 2 5 (rl 11 73 []))
   A57v3))) (10 :: (rl 33 22 []))
  A57v9)))
def A57v11:AC:=(.seq (.seq (.region 8 [mv 27 7,o1 28 (.len 73 false (tm 27)),mv 29 0,o1 30 (bt .lss 3 28 29)] 0 none) []
 (.cond (tm 30)
 .skip
 (.exit 0 (rl 0 7 (rl 8 76 []))))) (rl 27 4 [])
 A57v10)
def A57v12:AC:=(.seq (.region 25 [mv 83 7,o1 4 (sg 83),o1 5 (sk 0)] 0 none) []
 (.ret (rl 0 4 (rl 6 78 []))))
def A57v13:AC:=(.seq (.region 6 [o1 7 (.assign (.const (.slice none 0 0)))] 0 none) []
 (.seq (.region 7 [mv 25 0,o1 26 (.makeSlice 0 71 4 kN 1 [(.b false)] (tm 25) (tm 25)),o1 8 (sg 26)] 1 none) []
 (.seq (.block 0
 (.loop [.slot 7 kM] (rl 2 5 (rl 9 75 []))
  A57v11)) (4 :: 5 :: (rl 9 4 (rl 27 56 [])))
 A57v12)))
def A57v14:AC:=(.seq (.seq (.region 3 [mv 19 0,mv 20 1,o1 21 (cs 77 [19,20] [3,102]),o1 6 (sg 21)] 0 none) []
 (.seq (.region 4 [mv 22 6,o1 23 (bk .neq 35 22 0)] 0 none) []
 (.cond (tm 23)
 (.seq (.region 5 [mv 24 6,o1 4 (.assign (.const (.slice none 0 0))),o1 5 (sg 24)] 0 none) []
  (.ret (rl 0 4 (rl 6 78 []))))
 .skip))) (4 :: 5 :: 6 :: (rl 19 6 []))
 A57v13)
def A57:AF:=⟨84,[.tmp 4,.tmp 5],
 (.seq (.region 0 [o1 4 (.assign (.const (.slice none 0 0))),o1 5 (sk 0)] 0 none) []
 (.seq (.seq (.region 1 [mv 13 0,o1 14 (bk .lss 3 13 0),mv 15 14,og 16 (.move (tm 0)) 15 false,og 17 (bk .gtr 3 16 256) 15 false,o1 18 (pa 15 17)] 0 none) []
 (.cond (tm 18)
 (.seq (.region 2 [o1 4 (.assign (.const (.slice none 0 0))),o1 5 (sk 9)] 0 none) []
  (.ret (rl 0 4 (rl 6 78 []))))
 .skip)) (4 :: 5 :: (rl 13 6 []))
 A57v14))⟩
def N229v3:St→Option St:=nN 3 (rl 2 5 (rl 11 73 []))
def s229v0:St:=⟨(vxi i0 :: .x (.c (ro kP n0 f0)) :: (us 5 (.x (.own 1 0 n1) :: .x (.own 0 0 n2) :: .x (.own 2 0 n3) :: vxi i1 :: (us 73 [])))),[.arr kN n2 f1,.arr kM n1 f2,.arr kN n3 f3]⟩
def s229v1:St:=⟨(vxi i0 :: .x (.c (ro kP n0 f0)) :: (us 5 (.x (.own 1 0 n1) :: .x (.own 0 0 n2) :: .x (.own 2 0 n3) :: (us 74 [])))),[.arr kN n2 f1,.arr kM n1 f2,.arr kN n3 f3]⟩
def L229v3 {ρ:Type} (u:Nat) (x0:Int) (x1:Nat) (x2:FF) (x3 x4 x5:Nat) (x6 x7:FF):Nat→Int→FF→(FF→Option ρ)→Option ρ
 | 0,_,_,_=>none
 | m+1,x8,x9,k0 =>
  (bif (decide (x8<(Int.ofNat x1))) then (bif (inb x8 x1) then (bif (inb (x2 x8.toNat 0).int x4) then (bif (!(CV.bool (x6 (0+(Int.toNat (x2 x8.toNat 0).int)) 0))) then (bif (inb x8 x1) then (bif (inb (x2 x8.toNat 1).int x5) then (L229v3 u x0 x1 x2 x3 x4 x5 x6 x7 m (w64 (x8+1)) (setF x9 (0+(Int.toNat (x2 x8.toNat 1).int)) 0 1 (listF [(.b true)])) k0) else none) else none) else (L229v3 u x0 x1 x2 x3 x4 x5 x6 x7 m (w64 (x8+1)) x9 k0)) else none) else none) else (k0 x9))
theorem nl229v3:∀ (m:Nat) (x0:Int) (x1:FF) (k0:FF→Option ρ),ob (L229v3 u i0 n0 f0 n1 n2 n3 f1 f2 m x0 x1 k0) ng=L229v3 u i0 n0 f0 n1 n2 n3 f1 f2 m x0 x1 (fun x2=>ob (k0 x2) ng)
 | 0,_,_,_=>rfl
 | m+1,x0,x1,k0=>by
  simp only [L229v3,ob_bif,ob_ob,ob_none,nl229v3 m]
theorem q229v3:∀ (m:Nat) (x0:Int) (x1:FF),
  loopH (eB A57v3 (C54 u) u) N229v3 m (s229v0 n0 n1 n2 n3 f0 f1 f2 x1 i0 x0) k=L229v3 u i0 n0 f0 n1 n2 n3 f1 f2 m x0 x1 (fun x2=>k (.exit 2) (s229v1 n0 n1 n2 n3 f0 f1 f2 x2 i0))
 | 0,_,_=>rfl
 | m+1,x0,x1=>by
  simp only [L229v3,← q229v3 m]
  kernel_rfl
def N229v4:St→Option St:=nN 3 (rl 2 5 (10 :: (rl 13 71 [])))
def s229v2:St:=⟨(vxi i0 :: .x (.c (ro kP n0 f0)) :: (us 5 (.x (.own 1 0 n1) :: .x (.own 0 0 n2) :: .x (.own 2 0 n3) :: .u :: vxi i1 :: vxi i2 :: (us 71 [])))),[.arr kN n2 f1,.arr kM n1 f2,.arr kN n3 f3]⟩
def s229v3:St:=⟨(vxi i0 :: .x (.c (ro kP n0 f0)) :: (us 5 (.x (.own 1 0 n1) :: .x (.own 0 0 n2) :: .u :: .u :: vxi i1 :: (us 72 [])))),[.arr kN n2 f1,.arr kM n1 f2,.arr kN n3 f3]⟩
def L229v4 {ρ:Type} (u:Nat) (x0:Int) (x1:Nat) (x2:FF) (x3 x4 x5:Nat) (x6 x7 x8:FF):Nat→Int→Int→(Int→Option ρ)→Option ρ
 | 0,_,_,_=>none
 | m+1,x9,xA,k0 =>
  (bif (decide (xA≥0)) then (bif (inb xA x4) then (bif ((!(x6 (0+xA.toNat) 0).bool)==true) then (bif (inb xA x5) then (bif (!(x8 (0+xA.toNat) 0).bool) then (L229v4 u x0 x1 x2 x3 x4 x5 x6 x7 x8 m xA (w64 (xA-1)) k0) else (L229v4 u x0 x1 x2 x3 x4 x5 x6 x7 x8 m x9 (w64 (xA-1)) k0)) else none) else (L229v4 u x0 x1 x2 x3 x4 x5 x6 x7 x8 m x9 (w64 (xA-1)) k0)) else none) else (k0 x9))
theorem nl229v4:∀ (m:Nat) (x0 x1:Int) (k0:Int→Option ρ),ob (L229v4 u i0 n0 f0 n1 n2 n3 f1 f2 f3 m x0 x1 k0) ng=L229v4 u i0 n0 f0 n1 n2 n3 f1 f2 f3 m x0 x1 (fun x2=>ob (k0 x2) ng)
 | 0,_,_,_=>rfl
 | m+1,x0,x1,k0=>by
  simp only [L229v4,ob_bif,ob_ob,ob_none,nl229v4 m]
theorem q229v4:∀ (m:Nat) (x0 x1:Int),
  loopH (eB A57v6 (C54 u) u) N229v4 m (s229v2 n0 n1 n2 n3 f0 f1 f2 f3 i0 x0 x1) k=L229v4 u i0 n0 f0 n1 n2 n3 f1 f2 f3 m x0 x1 (fun x2=>k (.exit 4) (s229v3 n0 n1 n2 n3 f0 f1 f2 f3 i0 x2))
 | 0,_,_=>rfl
 | m+1,x0,x1=>by
  simp only [L229v4,← q229v4 m]
  kernel_rfl
def N229v5:St→Option St:=nN 2 (rl 2 5 (rl 9 75 []))
def s229v4:St:=⟨(vxi i0 :: .x (.c (ro kP n0 f0)) :: (us 5 (.x (.own 1 0 n1) :: .x (.own 0 0 n2) :: (us 75 [])))),[.arr kN n2 f1,.arr kM n1 f2]⟩
def s229v5:St:=⟨(us 4 (.x (vcn) :: vxi 20 :: (us 78 []))),[.arr kN n0 f0,.arr kM n1 f1,.arr kN i0.toNat f2]⟩
def s229v6:St:=⟨(us 7 (.x (.own 1 0 n0) :: (us 76 []))),[.arr kN n1 f0,.arr kM n0 f1]⟩
def L229v5 {ρ:Type} (u:Nat) (x0:Int) (x1:Nat) (x2:FF) (x3:Nat):Nat→Nat→FF→FF→(FF→Nat→FF→FF→Option ρ)→(Nat→FF→FF→Option ρ)→Option ρ
 | 0,_,_,_,_,_=>none
 | m+1,x4,x5,x6,k0,k1 =>
  (bif (decide ((Int.ofNat x4)<x0)) then (bif (decide (0≤x0)&&decide (x0≤x0)&&decide (x0≤1073741824)&&true) then (L229v3 u x0 x1 x2 x4 x3 x0.toNat x5 x6 u 0 (fun _ j=>listF [(.b false)] j)
  (fun x7=>(L229v4 u x0 x1 x2 x4 x3 x0.toNat x5 x6 x7 u (-1) (w64 (x0-1))
  (fun x8=>(bif (decide (x8<0)) then (k0 x5 x4 x6 x7) else (bif (inb x8 x3) then (bif (Nat.ble (x4+1) 1073741824) then (L229v5 u x0 x1 x2 x3 m (x4+1) (setF x5 (0+x8.toNat) 0 1 (listF [(.b true)])) (joinF x4 x6 (rowsF 1 [(.i .i64 x8)])) k0 k1) else none) else none)))))) else none) else (k1 x4 x5 x6))
theorem nl229v5:∀ (m:Nat) (x0:Nat) (x1 x2:FF) (k0:FF→Nat→FF→FF→Option ρ) (k1:Nat→FF→FF→Option ρ),ob (L229v5 u i0 n0 f0 n1 m x0 x1 x2 k0 k1) ng=L229v5 u i0 n0 f0 n1 m x0 x1 x2 (fun x3 x4 x5 x6=>ob (k0 x3 x4 x5 x6) ng) (fun x7 x8 x9=>ob (k1 x7 x8 x9) ng)
 | 0,_,_,_,_,_=>rfl
 | m+1,x0,x1,x2,k0,k1=>by
  simp only [L229v5,ob_bif,ob_ob,ob_none,nl229v5 m,nl229v3,nl229v4]
def s229v7:St:=⟨(vxi i0 :: .x (.c (ro kP n0 f0)) :: (us 5 (.x (.own 1 0 n1) :: .x (.own 0 0 n2) :: .x (.own 2 0 i0.toNat) :: vxi 0 :: (us 20 (vxi i0 :: .x (.own 2 0 i0.toNat) :: (us 51 [])))))),[.arr kN n2 f1,.arr kM n1 f2,.arr kN i0.toNat (fun _ j=>listF [(.b false)] j)]⟩
theorem r229v5 :
  loopH (eB A57v11 (C54 u) u) N229v5 (m+1) (s229v4 n0 n2 n1 f0 f1 f2 i0) k =
  (bif (decide ((Int.ofNat n2)<i0)) then (bif (decide (0≤i0)&&decide (i0≤i0)&&decide (i0≤1073741824)&&true) then (loopN (eB A57v3 (C54 u) u) N229v3 u (s229v7 n0 n2 n1 f0 f1 f2 i0) (kBlk 2 (kSeq (C54 u) u (10 :: (rl 33 22 [])) A57v9 (kBlk 1 (kLoop (eB A57v11 (C54 u) u) N229v5 m k))))) else none) else (k (.exit 0) (s229v6 n2 n1 f1 f2))):=by kernel_rfl
theorem t229v1 :
  loopN (eB A57v3 (C54 u) u) N229v3 u (s229v7 n0 n1 n2 f0 f1 f2 i0) k =
  L229v3 u i0 n0 f0 n1 n2 i0.toNat f1 f2 u 0 (fun _ j=>listF [(.b false)] j) (fun x0=>k (.exit 2) (s229v1 n0 n1 n2 i0.toNat f0 f1 f2 x0 i0)) :=
 Eq.trans (loopN_at (by kernel_rfl)) (q229v3 ..)
def s229v8:St:=⟨(vxi i0 :: .x (.c (ro kP n0 f0)) :: (us 5 (.x (.own 1 0 n1) :: .x (.own 0 0 n2) :: .x (.own 2 0 i0.toNat) :: .u :: vxi (-1) :: vxi (w64 (i0-1)) :: (us 42 (vxi i0 :: vxi (w64 (i0-1)) :: (us 27 [])))))),[.arr kN n2 f1,.arr kM n1 f2,.arr kN i0.toNat f3]⟩
theorem g229v2 :
  (kBlk 2 (kSeq (C54 u) u (10 :: (rl 33 22 [])) A57v9 (kBlk 1 (kLoop (eB A57v11 (C54 u) u) N229v5 m k)))) (.exit 2) (s229v1 n0 n1 n2 i0.toNat f0 f1 f2 f3 i0) =
  (loopN (eB A57v6 (C54 u) u) N229v4 u (s229v8 n0 n1 n2 f0 f1 f2 f3 i0) (kBlk 4 (kSeq (C54 u) u (12 :: (rl 55 19 [])) A57v8 (kBlk 1 (kLoop (eB A57v11 (C54 u) u) N229v5 m k))))):=by kernel_rfl
theorem t229v3 :
  loopN (eB A57v6 (C54 u) u) N229v4 u (s229v8 n0 n1 n2 f0 f1 f2 f3 i0) k =
  L229v4 u i0 n0 f0 n1 n2 i0.toNat f1 f2 f3 u (-1) (w64 (i0-1)) (fun x0=>k (.exit 4) (s229v3 n0 n1 n2 i0.toNat f0 f1 f2 f3 i0 x0)) :=
 Eq.trans (loopN_at (by kernel_rfl)) (q229v4 ..)
theorem g229v4 :
  (kBlk 4 (kSeq (C54 u) u (12 :: (rl 55 19 [])) A57v8 (kBlk 1 (kLoop (eB A57v11 (C54 u) u) N229v5 m k)))) (.exit 4) (s229v3 n0 n1 n2 i0.toNat f0 f1 f2 f3 i0 i1) =
  (bif (decide (i1<0)) then (k .ret (s229v5 n2 n1 f1 f2 f3 i0)) else (bif (inb i1 n2) then (bif (Nat.ble (n1+1) 1073741824) then (loopH (eB A57v11 (C54 u) u) N229v5 m (s229v4 n0 (n1+1) n2 f0 (setF f1 (0+i1.toNat) 0 1 (listF [(.b true)])) (joinF n1 f2 (rowsF 1 [(vi i1)])) i0) k) else none) else none)):=by kernel_rfl
theorem q229v5:∀ (m:Nat) (x0:Nat) (x1 x2:FF),
  loopH (eB A57v11 (C54 u) u) N229v5 m (s229v4 n0 x0 n1 f0 x1 x2 i0) k=L229v5 u i0 n0 f0 n1 m x0 x1 x2 (fun x3 x4 x5 x6=>k .ret (s229v5 n1 x4 x3 x5 x6 i0)) (fun x7 x8 x9=>k (.exit 0) (s229v6 x7 n1 x8 x9))
 | 0,_,_,_=>rfl
 | m+1,x0,x1,x2=>by
  rw [r229v5]
  simp only [L229v5,q229v5 m,t229v1,g229v2,t229v3,g229v4]
def FT229 (x0:Int) (x1:Nat) (x2:FF):Option (Bool × Nat × FF × Int) :=
 (bif ((decide (x0<0))==false) then (bif (decide (x0>256)) then (some (true,0,(fun _ _=>.any),9)) else (ob (F228 u x0 x1 x2) fun x3=>(bif (x3 != 0) then (some (true,0,(fun _ _=>.any),x3)) else (bif (decide (0≤x0)&&decide (x0≤x0)&&decide (x0≤1073741824)&&true) then (L229v5 u x0 x1 x2 x0.toNat u 0 (fun _ j=>listF [(.b false)] j) (fun _ _=>.any)
  (fun x4 x5 x6 x7=>(some (true,0,(fun _ _=>.any),20)))
  (fun x8 x9 xA=>(some (false,x8,xA,0)))) else none)))) else (some (true,0,(fun _ _=>.any),9)))
def s229v9:St:=⟨(vxi i0 :: .x (.c (ro kP n0 f0)) :: uu :: uu :: (us 3 (.x (.own 1 0 0) :: .x (.own 0 0 i0.toNat) :: uu :: uu :: uu :: uu :: (us 12 [vxi i0,.x (.own 0 0 i0.toNat),uu,uu,uu,uu,uu,uu,uu,uu,uu,uu,uu,uu,uu,uu,uu,uu,uu,uu,uu,uu,uu,uu,uu,uu,uu,uu,uu,uu,uu,uu,uu,uu,uu,uu,uu,uu,uu,uu,uu,uu,uu,uu,uu,uu,uu,uu,uu,uu,uu,uu,uu,uu,uu,uu,uu,uu,uu])))),[.arr kN i0.toNat (fun _ j=>listF [(.b false)] j),.arr kM 0 nilF]⟩
theorem t229v5 :
  loopN (eB A57v11 (C54 u) u) N229v5 u (s229v9 n0 f0 i0) k =
  L229v5 u i0 n0 f0 i0.toNat u 0 (fun _ j=>listF [(.b false)] j) nilF (fun x0 x1 x2 x3=>k .ret (s229v5 i0.toNat x1 x0 x2 x3 i0)) (fun x4 x5 x6=>k (.exit 0) (s229v6 x4 i0.toNat x5 x6)) :=
 Eq.trans (loopN_at (by kernel_rfl)) (q229v5 ..)
theorem g229v6 :
  (kBlk 0 (kSeq (C54 u) u (4 :: 5 :: (rl 9 4 (rl 27 56 []))) A57v12 (finish A57))) .ret (s229v5 i0.toNat n0 f0 f1 f2 i0) =
  (some [.v (.ro true .nil 0 nilF),.v (vi 20)]):=by kernel_rfl
theorem g229v7 :
  (kBlk 0 (kSeq (C54 u) u (4 :: 5 :: (rl 9 4 (rl 27 56 []))) A57v12 (finish A57))) (.exit 0) (s229v6 n0 i0.toNat f0 f1) =
  (some [.v (ro kM n0 f1),.v (vi 0)]):=by kernel_rfl
theorem e229:evalF (C54 u) u A57 [.v (vi i0),.v (ro kP n0 f0)]=ob (FT229 u i0 n0 f0) fun t=>some (bif t.1 then [.v (.ro true .nil 0 nilF),.v (vi t.2.2.2)] else [.v (ro kM t.2.1 t.2.2.1),.v (vi 0)]):=Eq.trans (b:=(bif ((decide (i0<0))==false) then (bif (decide (i0>256)) then (some [.v (.ro true .nil 0 nilF),.v (vi 9)]) else (ob (F228 u i0 n0 f0) fun x0=>(bif (x0 != 0) then (some [.v (.ro true .nil 0 nilF),.v (vi x0)]) else (bif (decide (0≤i0)&&decide (i0≤i0)&&decide (i0≤1073741824)&&true) then (loopN (eB A57v11 (C54 u) u) N229v5 u (s229v9 n0 f0 i0) (kBlk 0 (kSeq (C54 u) u (4 :: 5 :: (rl 9 4 (rl 27 56 []))) A57v12 (finish A57)))) else none)))) else (some [.v (.ro true .nil 0 nilF),.v (vi 9)]))) (by kernel_rfl) (by
 simp only [FT229,ob_bif,ob_ob,ob_none,ob_some,nl229v5,t229v5,g229v6,g229v7,cond_true,cond_false])
def F229 (x0:Int) (x1:Nat) (x2:FF):Option (Nat × FF × Int):=ob (FT229 u x0 x1 x2) fun t=>some (bif t.1 then (0,(fun _ _=>.any),t.2.2.2) else (t.2.1,t.2.2.1,0))
def O229:Ora:=mkO (qc (av ci) (q1 (av (cL kP)))) (fun x=>F229 u x.1 x.2.1 x.2.2) fun t=>[.v (ro kM t.1 t.2.1),.v (vi t.2.2)]
theorem d229:DO (O229 u) (C54 u) 57 A57:=dW u (fun x=>by exact e229 u x.2.1 x.2.2 x.1) (fun _=>rfl) fun t=>by
 obtain ⟨b,t⟩:=t
 cases b with
 | true=>exact (.cons (WkA.v (Wk.ro (by rfl))) (.cons (WkA.v (Wk.refl _)) .nil))
 | false =>
  exact (.cons (WkA.v (Wk.refl _)) (.cons (WkA.v (Wk.refl _)) .nil))
def C55:Oracle:=(C54 u).add 57 (fun _=>true) (O229 u)
def A32v1:AC:=(.seq (.block 1
 (.region 9 [mv 28 7,mv 29 4,mv 30 5,mv 31 8,o1 32 (.indexAddr 73 3 1 (tm 30) (tm 31)),o1 33 (lo 3 32),o1 34 (.indexAddr 51 9 1 (tm 29) (tm 33)),o1 35 (lo 9 34),o1 36 (.buildSlice 0 51 9 kO 1 [vcs ByteArray.empty] [(0,(tm 35))]),o1 37 (.append 1 51 9 kO 16 (tm 28) (tm 36)),o1 7 (sg 37)] 2 none)) []
 (.region 8 [mv 26 8,o1 27 (bk .add 3 26 1),o1 8 (sg 27)] 0 none))
def A32v2:AC:=(.seq (.seq (.region 7 [mv 22 8,mv 23 5,o1 24 (.len 73 false (tm 23)),o1 25 (bt .lss 3 22 24)] 0 none) []
 (.cond (tm 25)
 .skip
 (.exit 0 (rl 0 7 (rl 8 31 []))))) (rl 22 4 [])
 A32v1)
def A32v3:AC:=(.seq (.region 10 [mv 38 7,o1 2 (sg 38),o1 3 (sk 0)] 0 none) []
 (.ret (0 :: 1 :: (rl 4 35 []))))
def A32v4:AC:=(.seq (.region 5 [o1 7 (.assign (.const (.slice none 0 0)))] 0 none) []
 (.seq (.seq (.region 6 [o1 8 (sk 0)] 0 none) []
 (.block 0
 (.loop [.slot 7 kO] (rl 0 4 (6 :: (rl 9 30 [])))
  A32v2))) (8 :: (rl 22 16 []))
 A32v3))
def A32:AF:=⟨39,[.tmp 2,.tmp 3],
 (.seq (.region 0 [o1 1 (bx 0 28 0),o1 2 (.assign (.const (.slice none 0 0))),o1 3 (sk 0)] 1 none) []
 (.seq (.region 1 [o1 9 (ln 28 6 1),o1 10 (cf 33 [9] [28]),o1 4 (sg 10)] 0 none) []
 (.seq (.region 2 [mv 12 4,o1 13 (.len 51 false (tm 12)),o1 14 (ln 28 6 1),o1 15 (cf 58 [14] [28]),o1 16 (cf 57 [13,15] [3,102]),mv 11 16,o1 17 (.extract (tm 11) 0),o1 18 (.extract (tm 11) 1),o1 5 (sg 17),o1 6 (sg 18)] 0 none) []
 (.seq (.seq (.region 3 [mv 19 6,o1 20 (bk .neq 35 19 0)] 0 none) []
 (.cond (tm 20)
 (.seq (.region 4 [mv 21 6,o1 2 (.assign (.const (.slice none 0 0))),o1 3 (sg 21)] 0 none) []
  (.ret (0 :: 1 :: (rl 4 35 []))))
 .skip)) [2,3,19,20,21]
 A32v4))))⟩
def N255v1:St→Option St:=nN 2 (rl 0 4 (6 :: (rl 9 30 [])))
def s255v0:St:=⟨(us 4 (.x (.c (ro kO n0 f0)) :: .x (.c (ro kM n1 f1)) :: .u :: .x (.own 1 0 n2) :: vxi i0 :: (us 30 []))),[.box [(vcs w0),(.c (ro kF n3 f2)),(.c (ro kB n4 f3)),(.c (ro kI n5 f4)),(.c (ro kD n6 f5)),(.c (ro kG n7 f6))],.arr kO n2 f7]⟩
def s255v1:St:=⟨(us 7 (.x (.own 1 0 n0) :: (us 31 []))),[.box [(vcs w0),(.c (ro kF n1 f0)),(.c (ro kB n2 f1)),(.c (ro kI n3 f2)),(.c (ro kD n4 f3)),(.c (ro kG n5 f4))],.arr kO n0 f5]⟩
def L255v1 {ρ:Type} (u:Nat) (x0:Nat) (x1:FF) (x2:Nat) (x3:FF) (x4:ByteArray) (x5:Nat) (x6:FF) (x7:Nat) (x8:FF) (x9:Nat) (xA:FF) (xB:Nat) (xC:FF) (xD:Nat) (xE:FF):Nat→Nat→Int→FF→(Nat→FF→Option ρ)→Option ρ
 | 0,_,_,_,_=>none
 | m+1,xF,xG,xH,k0 =>
  (bif (decide (xG<(Int.ofNat x2))) then (bif (inb xG x2) then (bif (inb (x3 xG.toNat 0).int x0) then (bif (Nat.ble (xF+1) 1073741824) then (L255v1 u x0 x1 x2 x3 x4 x5 x6 x7 x8 x9 xA xB xC xD xE m (xF+1) (w64 (xG+1)) (joinF xF xH (rowsF 1 [(.s (CV.str (x1 (Int.toNat (x3 xG.toNat 0).int) 0)))])) k0) else none) else none) else none) else (k0 xF xH))
theorem nl255v1:∀ (m:Nat) (x0:Nat) (x1:Int) (x2:FF) (k0:Nat→FF→Option ρ),ob (L255v1 u n0 f0 n1 f1 w0 n2 f2 n3 f3 n4 f4 n5 f5 n6 f6 m x0 x1 x2 k0) ng=L255v1 u n0 f0 n1 f1 w0 n2 f2 n3 f3 n4 f4 n5 f5 n6 f6 m x0 x1 x2 (fun x3 x4=>ob (k0 x3 x4) ng)
 | 0,_,_,_,_=>rfl
 | m+1,x0,x1,x2,k0=>by
  simp only [L255v1,ob_bif,ob_ob,ob_none,nl255v1 m]
theorem q255v1:∀ (m:Nat) (x0:Nat) (x1:Int) (x2:FF),
  loopH (eB A32v2 (C55 u) u) N255v1 m (s255v0 n0 n1 x0 n2 n3 n4 n5 n6 f0 f1 f2 f3 f4 f5 f6 x2 x1 w0) k=L255v1 u n0 f0 n1 f1 w0 n2 f2 n3 f3 n4 f4 n5 f5 n6 f6 m x0 x1 x2 (fun x3 x4=>k (.exit 0) (s255v1 x3 n2 n3 n4 n5 n6 f2 f3 f4 f5 f6 x4 w0))
 | 0,_,_,_=>rfl
 | m+1,x0,x1,x2=>by
  simp only [L255v1,← q255v1 m]
  kernel_rfl
def FT255 (x0:ByteArray) (x1:Nat) (x2:FF) (x3:Nat) (x4:FF) (x5:Nat) (x6:FF) (x7:Nat) (x8:FF) (x9:Nat) (xA:FF):Option (Bool × Nat × FF × Int) :=
 (ob (F252 u x0 x1 x2 x3 x4 x5 x6 x7 x8 x9 xA) fun xB=>(ob (F254 u x0 x1 x2 x3 x4 x5 x6 x7 x8 x9 xA) fun xC=>(ob (F229 u (Int.ofNat xB.1) xC.1 xC.2) fun xD=>(bif (xD.2.2 != 0) then (some (true,0,(fun _ _=>.any),xD.2.2)) else (L255v1 u xB.1 xB.2 xD.1 xD.2.1 x0 x1 x2 x3 x4 x5 x6 x7 x8 x9 xA u 0 0 (fun _ _=>.any)
  (fun xE xF=>(some (false,xE,xF,0))))))))
def s255v2 (x0:Nat × FF) (x1:Nat × FF × Int) (x2:Nat × FF):St:=⟨(.agg [(vcs w0),(.c (ro kF n0 f0)),(.c (ro kB n1 f1)),(.c (ro kI n2 f2)),(.c (ro kD n3 f3)),(.c (ro kG n4 f4))] :: .x (.ptr 0 0) :: .u :: .u :: .x (.c (ro kO x0.1 x0.2)) :: .x (.c (ro kM x1.1 x1.2.1)) :: vxi x1.2.2 :: .x (.own 1 0 0) :: vxi 0 :: .agg [(vcs w0),(.c (ro kF n0 f0)),(.c (ro kB n1 f1)),(.c (ro kI n2 f2)),(.c (ro kD n3 f3)),(.c (ro kG n4 f4))] :: .x (.c (ro kO x0.1 x0.2)) :: .tup [.v (ro kM x1.1 x1.2.1),.v (vi x1.2.2)] :: .x (.c (ro kO x0.1 x0.2)) :: vxi (Int.ofNat x0.1) :: .agg [(vcs w0),(.c (ro kF n0 f0)),(.c (ro kB n1 f1)),(.c (ro kI n2 f2)),(.c (ro kD n3 f3)),(.c (ro kG n4 f4))] :: .x (.c (ro kP x2.1 x2.2)) :: .tup [.v (ro kM x1.1 x1.2.1),.v (vi x1.2.2)] :: .x (.c (ro kM x1.1 x1.2.1)) :: vxi x1.2.2 :: (us 3 [uu,uu,uu,uu,uu,uu,uu,uu,uu,uu,uu,uu,uu,uu,uu,uu,uu])),[.box [(vcs w0),(.c (ro kF n0 f0)),(.c (ro kB n1 f1)),(.c (ro kI n2 f2)),(.c (ro kD n3 f3)),(.c (ro kG n4 f4))],.arr kO 0 nilF]⟩
theorem t255v1 (x0:Nat × FF) (x1:Nat × FF × Int) (x2:Nat × FF) :
  loopN (eB A32v2 (C55 u) u) N255v1 u (s255v2 n0 n1 n2 n3 n4 f0 f1 f2 f3 f4 w0 x0 x1 x2) k =
  L255v1 u x0.1 x0.2 x1.1 x1.2.1 w0 n0 f0 n1 f1 n2 f2 n3 f3 n4 f4 u 0 0 nilF (fun x3 x4=>k (.exit 0) (s255v1 x3 n0 n1 n2 n3 n4 f0 f1 f2 f3 f4 x4 w0)) :=
 Eq.trans (loopN_at (by kernel_rfl)) (q255v1 ..)
theorem g255v2 :
  (kBlk 0 (kSeq (C55 u) u (8 :: (rl 22 16 [])) A32v3 (finish A32))) (.exit 0) (s255v1 n0 n1 n2 n3 n4 n5 f0 f1 f2 f3 f4 f5 w0) =
  (some [.v (ro kO n0 f5),.v (vi 0)]):=by kernel_rfl
theorem e255:evalF (C55 u) u A32 [.agg [(.s w0),(ro kF n0 f0),(ro kB n1 f1),(ro kI n2 f2),(ro kD n3 f3),(ro kG n4 f4)]]=ob (FT255 u w0 n0 f0 n1 f1 n2 f2 n3 f3 n4 f4) fun t=>some (bif t.1 then [.v (.ro true .nil 0 nilF),.v (vi t.2.2.2)] else [.v (ro kO t.2.1 t.2.2.1),.v (vi 0)]):=Eq.trans (b:=(ob (F252 u w0 n0 f0 n1 f1 n2 f2 n3 f3 n4 f4) fun x0=>(ob (F254 u w0 n0 f0 n1 f1 n2 f2 n3 f3 n4 f4) fun x1=>(ob (F229 u (Int.ofNat x0.1) x1.1 x1.2) fun x2=>(bif (x2.2.2 != 0) then (some [.v (.ro true .nil 0 nilF),.v (vi x2.2.2)]) else (loopN (eB A32v2 (C55 u) u) N255v1 u (s255v2 n0 n1 n2 n3 n4 f0 f1 f2 f3 f4 w0 x0 x2 x1) (kBlk 0 (kSeq (C55 u) u (8 :: (rl 22 16 [])) A32v3 (finish A32))))))))) (by kernel_rfl) (by
 simp only [FT255,ob_bif,ob_ob,ob_none,ob_some,nl255v1,t255v1,g255v2,cond_true,cond_false])
def F255 (x0:ByteArray) (x1:Nat) (x2:FF) (x3:Nat) (x4:FF) (x5:Nat) (x6:FF) (x7:Nat) (x8:FF) (x9:Nat) (xA:FF):Option (Nat × FF × Int):=ob (FT255 u x0 x1 x2 x3 x4 x5 x6 x7 x8 x9 xA) fun t=>some (bif t.1 then (0,(fun _ _=>.any),t.2.2.2) else (t.2.1,t.2.2.1,0))
def O255:Ora:=mkO (q1 (ag (tc cS (tc (cL kF) (tc (cL kB) (tc (cL kI) (tc (cL kD) (t1 (cL kG))))))))) (fun x=>F255 u x.1 x.2.1.1 x.2.1.2 x.2.2.1.1 x.2.2.1.2 x.2.2.2.1.1 x.2.2.2.1.2 x.2.2.2.2.1.1 x.2.2.2.2.1.2 x.2.2.2.2.2.1 x.2.2.2.2.2.2) fun t=>[.v (ro kO t.1 t.2.1),.v (vi t.2.2)]
theorem d255:DO (O255 u) (C55 u) 32 A32:=dW u (fun x=>by exact e255 u x.2.1.1 x.2.2.1.1 x.2.2.2.1.1 x.2.2.2.2.1.1 x.2.2.2.2.2.1 x.2.1.2 x.2.2.1.2 x.2.2.2.1.2 x.2.2.2.2.1.2 x.2.2.2.2.2.2 x.1) (fun _=>rfl) fun t=>by
 obtain ⟨b,t⟩:=t
 cases b with
 | true=>exact (.cons (WkA.v (Wk.ro (by rfl))) (.cons (WkA.v (Wk.refl _)) .nil))
 | false =>
  exact (.cons (WkA.v (Wk.refl _)) (.cons (WkA.v (Wk.refl _)) .nil))
def C56:Oracle:=(C55 u).add 32 (fun _=>true) (O255 u)
def A34v1:AC:=(.region 3 [mv 10 5,o1 11 (bk .add 3 10 1),o1 5 (sg 11)] 0 none)
def A34v2:AC:=(.seq (.block 1
 (.seq (.region 4 [mv 12 0,mv 13 5,o1 14 (.indexAddr 51 9 1 (tm 12) (tm 13)),o1 15 (lo 9 14),mv 16 1,o1 17 (bt .eql 9 15 16)] 0 none) []
  (.cond (tm 17)
  (.seq (.region 5 [mv 18 5,o1 4 (sg 18)] 0 none) []
   (.ret (rl 0 4 (rl 5 14 []))))
  .skip))) (4 :: (rl 12 7 []))
 A34v1)
def A34v3:AC:=(.seq (.seq (.region 2 [mv 6 5,mv 7 0,o1 8 (.len 51 false (tm 7)),o1 9 (bt .lss 3 6 8)] 0 none) []
 (.cond (tm 9)
 .skip
 (.exit 0 (rl 0 19 [])))) (rl 6 4 [])
 A34v2)
def A34v4:AC:=(.seq (.region 6 [o1 4 (sk (-1))] 0 none) []
 (.ret (rl 0 4 (rl 5 14 []))))
def A34:AF:=⟨19,[.tmp 4],
 (.seq (.region 0 [o1 4 (sk 0)] 0 none) []
 (.seq (.seq (.region 1 [o1 5 (sk 0)] 0 none) []
 (.block 0
 (.loop [] (2 :: 3 :: 4 :: (rl 6 13 []))
  A34v3))) (rl 4 15 [])
 A34v4))⟩
def N361v1:St→Option St:=nN 0 (2 :: 3 :: 4 :: (rl 6 13 []))
def s361v0:St:=⟨(.x (.c (ro kO n0 f0)) :: vxs w0 :: (us 3 (vxi i0 :: (us 13 [])))),[]⟩
def s361v1:St:=⟨(us 4 (vxi i0 :: (us 14 []))),[]⟩
def s361v2:St:=⟨(us 19 []),[]⟩
def L361v1 {ρ:Type} (u:Nat) (x0:Nat) (x1:FF) (x2:ByteArray):Nat→Int→(Int→Option ρ)→(Option ρ)→Option ρ
 | 0,_,_,_=>none
 | m+1,x3,k0,k1 =>
  (bif (decide (x3<(Int.ofNat x0))) then (bif (inb x3 x0) then (bif (ByteArray.toList (x1 x3.toNat 0).str==ByteArray.toList x2) then (k0 x3) else (L361v1 u x0 x1 x2 m (w64 (x3+1)) k0 k1)) else none) else k1)
theorem nl361v1:∀ (m:Nat) (x0:Int) (k0:Int→Option ρ) (k1:Option ρ),ob (L361v1 u n0 f0 w0 m x0 k0 k1) ng=L361v1 u n0 f0 w0 m x0 (fun x1=>ob (k0 x1) ng) (ob k1 ng)
 | 0,_,_,_=>rfl
 | m+1,x0,k0,k1=>by
  simp only [L361v1,ob_bif,ob_ob,ob_none,nl361v1 m]
theorem q361v1:∀ (m:Nat) (x0:Int),
  loopH (eB A34v3 (C56 u) u) N361v1 m (s361v0 n0 f0 x0 w0) k=L361v1 u n0 f0 w0 m x0 (fun x1=>k .ret (s361v1 x1)) (k (.exit 0) s361v2)
 | 0,_=>rfl
 | m+1,x0=>by
  simp only [L361v1,← q361v1 m]
  kernel_rfl
def F361 (x0:Nat) (x1:FF) (x2:ByteArray):Option (Int) :=
 (L361v1 u x0 x1 x2 u 0
  (fun x3=>(some x3))
  (some (-1)))
def s361v3:St:=⟨[.x (.c (ro kO n0 f0)),vxs w0,uu,uu,vxi 0,vxi 0,uu,uu,uu,uu,uu,uu,uu,uu,uu,uu,uu,uu,uu],[]⟩
theorem t361v1 :
  loopN (eB A34v3 (C56 u) u) N361v1 u (s361v3 n0 f0 w0) k =
  L361v1 u n0 f0 w0 u 0 (fun x0=>k .ret (s361v1 x0)) (k (.exit 0) s361v2) :=
 Eq.trans (loopN_at (by kernel_rfl)) (q361v1 ..)
theorem g361v2 :
  (kBlk 0 (kSeq (C56 u) u (rl 4 15 []) A34v4 (finish A34))) .ret (s361v1 i0) =
  (some [.v (vi i0)]):=by kernel_rfl
theorem g361v3 :
  (kBlk 0 (kSeq (C56 u) u (rl 4 15 []) A34v4 (finish A34))) (.exit 0) s361v2 =
  (some [.v (vi (-1))]):=by kernel_rfl
theorem e361:evalF (C56 u) u A34 [.v (ro kO n0 f0),.v (.s w0)]=ob (F361 u n0 f0 w0) fun t=>some [.v (vi t)]:=Eq.trans (b:=(loopN (eB A34v3 (C56 u) u) N361v1 u (s361v3 n0 f0 w0) (kBlk 0 (kSeq (C56 u) u (rl 4 15 []) A34v4 (finish A34))))) (by kernel_rfl) (by
 simp only [F361,ob_bif,ob_ob,ob_none,ob_some,nl361v1,t361v1,g361v2,g361v3])
def O361:Ora:=mkO (qc (av (cL kO)) (q1 (av cS))) (fun x=>F361 u x.1.1 x.1.2 x.2) fun t=>[.v (vi t)]
theorem d361:DO (O361 u) (C56 u) 34 A34:=dO u (fun x=>by exact e361 u x.1.1 x.1.2 x.2)
def C57:Oracle:=(C56 u).add 34 (fun _=>true) (O361 u)
def A13v1:AC:=(.region 23 [mv 78 10,o1 79 (bk .add 3 78 1),o1 10 (sg 79)] 0 none)
def A13v2:AC:=(.seq (.block 4
 (.seq (.region 24 [o1 80 (fa 53 9 2 2),o1 81 (lo 51 80),mv 82 10,o1 83 (.indexAddr 51 9 1 (tm 81) (tm 82)),o1 84 (lo 9 83),o1 85 (fa 53 9 2 2),o1 86 (lo 51 85),mv 87 10,o1 88 (bk .sub 3 87 1),o1 89 (.indexAddr 51 9 1 (tm 86) (tm 88)),o1 90 (lo 9 89),o1 91 (bt .leq 9 84 90)] 0 (some [[],[0],[],[0,1,2],(rl 0 4 []),[],[5],[],[7],(rl 5 4 []),(rl 5 5 []),(rl 0 11 [])])) []
  (.cond (tm 91)
  (.seq (.region 25 [o1 4 (sk 11)] 0 none) []
   (.ret (rl 0 4 (rl 5 87 []))))
  .skip))) (4 :: (rl 80 12 []))
 A13v1)
def A13v3:AC:=(.seq (.seq (.region 22 [mv 73 10,o1 74 (fa 53 9 2 2),o1 75 (lo 51 74),o1 76 (.len 51 false (tm 75)),o1 77 (bt .lss 3 73 76)] 0 none) []
 (.cond (tm 77)
 .skip
 (.exit 3 (0 :: (rl 2 5 (rl 9 83 [])))))) (rl 73 5 [])
 A13v2)
def A13v4:AC:=(.seq (.region 21 [o1 10 (sk 1)] 0 none) []
 (.block 3
 (.loop [] (0 :: (rl 2 5 (rl 11 81 [])))
  A13v3)))
def A13v5:AC:=(.region 9 [mv 28 8,o1 29 (bk .add 3 28 1),o1 8 (sg 29)] 0 none)
def A13v6:AC:=(.seq (.block 1
 (.seq (.region 10 [mv 30 1,mv 31 8,o1 32 (.indexAddr 29 53 3 (tm 30) (tm 31)),o1 33 (ln 53 3 32),o1 9 (.alloc 0 53 [vcs ByteArray.empty,vci 0,vcn]),o0 (.store 53 3 (tm 9) (tm 33))] 1 none) []
  (.seq (.block 2
  (.seq (.region 11 [mv 35 7,o1 36 (fa 53 9 0 0),o1 37 (lo 9 36),o1 38 (cs 34 [35,37] [51,9]),o1 39 (bk .lss 3 38 0),o1 34 (sg 39)] 0 none) []
   (.cond (tm 34)
   (.seq (.region 12 [o1 4 (sk 8)] 0 none) []
    (.ret (rl 0 4 (rl 5 87 []))))
   (.seq (.region 13 [mv 41 8,o1 42 (bk .gtr 3 41 0),mv 43 42,og 44 (fa 53 9 0 0) 43 true,og 45 (lo 9 44) 43 true,og 46 (.move (tm 1)) 43 true,og 47 (.move (tm 8)) 43 true,og 48 (bk .sub 3 47 1) 43 true,og 49 (.indexAddr 29 53 3 (tm 46) (tm 48)) 43 true,og 50 (fa 53 49 0 0) 43 true,og 51 (lo 9 50) 43 true,og 52 (bt .leq 9 45 51) 43 true,o1 53 (po 43 52),o1 40 (sg 53)] 0 (some [[],[0],[0,1],[0,1,2],(rl 0 4 []),[0,1,2],[0,1,2],[0,1,2,6],[0,1,2,5,6,7],(0 :: 1 :: 2 :: (rl 5 4 [])),(0 :: 1 :: 2 :: (rl 5 5 [])),(rl 0 11 []),(rl 0 12 []),(rl 0 13 [])])) []
    (.cond (tm 40)
    (.seq (.region 14 [o1 4 (sk 11)] 0 none) []
     (.ret (rl 0 4 (rl 5 87 []))))
    (.seq (.region 15 [o1 55 (fa 53 9 1 1),o1 56 (lo 3 55),o1 57 (bk .lss 3 56 1),mv 58 57,og 59 (fa 53 9 1 1) 58 false,og 60 (lo 3 59) 58 false,og 61 (bk .gtr 3 60 10000) 58 false,o1 62 (pa 58 61),o1 54 (sg 62)] 0 none) []
     (.cond (tm 54)
     (.seq (.region 16 [o1 4 (sk 9)] 0 none) []
      (.ret (rl 0 4 (rl 5 87 []))))
     (.seq (.region 17 [o1 64 (fa 53 9 2 2),o1 65 (lo 51 64),o1 66 (.len 51 false (tm 65)),o1 67 (bk .eql 3 66 0),o1 63 (sg 67)] 0 none) []
      (.cond (tm 63)
      (.seq (.region 18 [o1 4 (sk 3)] 0 none) []
       (.ret (rl 0 4 (rl 5 87 []))))
      (.seq (.region 19 [o1 69 (fa 53 9 2 2),o1 70 (lo 51 69),o1 71 (.len 51 false (tm 70)),o1 72 (bk .gtr 3 71 8),o1 68 (sg 72)] 0 none) []
       (.cond (tm 68)
       (.seq (.region 20 [o1 4 (sk 4)] 0 none) []
        (.ret (rl 0 4 (rl 5 87 []))))
       .skip))))))))))) (4 :: (rl 34 39 []))
  A13v4))) (4 :: 9 :: 10 :: (rl 30 62 []))
 A13v5)
def A13v7:AC:=(.seq (.seq (.region 8 [mv 24 8,mv 25 1,o1 26 (.len 29 false (tm 25)),o1 27 (bt .lss 3 24 26)] 0 none) []
 (.cond (tm 27)
 .skip
 (.exit 0 (rl 0 92 [])))) (rl 24 4 [])
 A13v6)
def A13v8:AC:=(.seq (.region 26 [o1 4 (sk 0)] 0 none) []
 (.ret (rl 0 4 (rl 5 87 []))))
def A13v9:AC:=(.seq (.region 6 [o1 22 (ln 28 6 2),o1 23 (cf 33 [22] [28]),o1 7 (sg 23)] 0 none) []
 (.seq (.seq (.region 7 [o1 8 (sk 0)] 0 none) []
 (.block 0
 (.loop [] (0 :: (rl 2 5 (rl 9 83 [])))
  A13v7))) (4 :: 8 :: 9 :: 10 :: (rl 24 68 []))
 A13v8))
def A13v10:AC:=(.seq (.seq (.region 3 [o1 15 (ln 28 6 2),o1 16 (cf 32 [15] [28]),mv 14 16,o1 17 (.extract (tm 14) 0),o1 18 (.extract (tm 14) 1),o1 5 (sg 17),o1 6 (sg 18)] 0 none) []
 (.seq (.region 4 [mv 19 6,o1 20 (bk .neq 35 19 0)] 0 none) []
 (.cond (tm 20)
 (.seq (.region 5 [mv 21 6,o1 4 (sg 21)] 0 none) []
  (.ret (rl 0 4 (rl 5 87 []))))
 .skip))) (4 :: 5 :: 6 :: (rl 14 8 []))
 A13v9)
def A13:AF:=⟨92,[.tmp 4],
 (.seq (.region 0 [o1 2 (bx 0 28 0),o1 4 (sk 0)] 1 none) []
 (.seq (.seq (.region 1 [mv 11 1,o1 12 (.len 29 false (tm 11)),o1 13 (bk .gtr 3 12 64)] 0 none) []
 (.cond (tm 13)
 (.seq (.region 2 [o1 4 (sk 4)] 0 none) []
  (.ret (rl 0 4 (rl 5 87 []))))
 .skip)) [4,11,12,13]
 A13v10))⟩
def N362v2:St→Option St:=nN 2 (0 :: (rl 2 5 (rl 11 81 [])))
def s362v0:St:=⟨(.u :: .x (.c (ro kE n0 f0)) :: (us 5 (.x (.c (ro kO n1 f1)) :: vxi i0 :: .x (.ptr 1 0) :: vxi i1 :: (us 81 [])))),[.box [(vcs w0),(.c (ro kF n2 f2)),(.c (ro kB n3 f3)),(.c (ro kI n4 f4)),(.c (ro kD n5 f5)),(.c (ro kG n6 f6))],.box [(vcs w1),(vci i2),(.c (ro kO n7 f7))]]⟩
def s362v1:St:=⟨(us 4 (vxi 11 :: (us 87 []))),[.box [(vcs w0),(.c (ro kF n0 f0)),(.c (ro kB n1 f1)),(.c (ro kI n2 f2)),(.c (ro kD n3 f3)),(.c (ro kG n4 f4))],.box [(vcs w1),(vci i0),(.c (ro kO n5 f5))]]⟩
def s362v2:St:=⟨(.u :: .x (.c (ro kE n0 f0)) :: (us 5 (.x (.c (ro kO n1 f1)) :: vxi i0 :: (us 83 [])))),[.box [(vcs w0),(.c (ro kF n2 f2)),(.c (ro kB n3 f3)),(.c (ro kI n4 f4)),(.c (ro kD n5 f5)),(.c (ro kG n6 f6))],.box [(vcs w1),(vci i1),(.c (ro kO n7 f7))]]⟩
def L362v2 {ρ:Type} (u:Nat) (x0:Nat) (x1:FF) (x2:Nat) (x3:FF) (x4:Int) (x5:ByteArray) (x6:Nat) (x7:FF) (x8:Nat) (x9:FF) (xA:Nat) (xB:FF) (xC:Nat) (xD:FF) (xE:Nat) (xF:FF) (xG:ByteArray) (xH:Int) (xI:Nat) (xJ:FF):Nat→Int→(Option ρ)→(Option ρ)→Option ρ
 | 0,_,_,_=>none
 | m+1,xK,k0,k1 =>
  (bif (decide (xK<(Int.ofNat xI))) then (bif (inb xK xI) then (bif (inb (w64 (xK-1)) xI) then (bif ((Op.bytesLess (ByteArray.toList (xJ xK.toNat 0).str) (ByteArray.toList (CV.str (xJ (Int.toNat (w64 (xK-1))) 0))))||(ByteArray.toList (xJ xK.toNat 0).str==ByteArray.toList (CV.str (xJ (Int.toNat (w64 (xK-1))) 0)))) then k0 else (L362v2 u x0 x1 x2 x3 x4 x5 x6 x7 x8 x9 xA xB xC xD xE xF xG xH xI xJ m (w64 (xK+1)) k0 k1)) else none) else none) else k1)
theorem nl362v2:∀ (m:Nat) (x0:Int) (k0:Option ρ) (k1:Option ρ),ob (L362v2 u n0 f0 n1 f1 i0 w0 n2 f2 n3 f3 n4 f4 n5 f5 n6 f6 w1 i1 n7 f7 m x0 k0 k1) ng=L362v2 u n0 f0 n1 f1 i0 w0 n2 f2 n3 f3 n4 f4 n5 f5 n6 f6 w1 i1 n7 f7 m x0 (ob k0 ng) (ob k1 ng)
 | 0,_,_,_=>rfl
 | m+1,x0,k0,k1=>by
  simp only [L362v2,ob_bif,ob_ob,ob_none,nl362v2 m]
theorem q362v2:∀ (m:Nat) (x0:Int),
  loopH (eB A13v3 (C57 u) u) N362v2 m (s362v0 n0 n1 n2 n3 n4 n5 n6 n7 f0 f1 f2 f3 f4 f5 f6 f7 i0 x0 i1 w0 w1) k=L362v2 u n0 f0 n1 f1 i0 w0 n2 f2 n3 f3 n4 f4 n5 f5 n6 f6 w1 i1 n7 f7 m x0 (k .ret (s362v1 n2 n3 n4 n5 n6 n7 f2 f3 f4 f5 f6 f7 i1 w0 w1)) (k (.exit 3) (s362v2 n0 n1 n2 n3 n4 n5 n6 n7 f0 f1 f2 f3 f4 f5 f6 f7 i0 i1 w0 w1))
 | 0,_=>rfl
 | m+1,x0=>by
  simp only [L362v2,← q362v2 m]
  kernel_rfl
def N362v3:St→Option St:=nN 1 (0 :: (rl 2 5 (rl 9 83 [])))
def s362v3:St:=⟨(.u :: .x (.c (ro kE n0 f0)) :: (us 5 (.x (.c (ro kO n1 f1)) :: vxi i0 :: (us 83 [])))),[.box [(vcs w0),(.c (ro kF n2 f2)),(.c (ro kB n3 f3)),(.c (ro kI n4 f4)),(.c (ro kD n5 f5)),(.c (ro kG n6 f6))]]⟩
def s362v4:St:=⟨(us 4 (vxi i0 :: (us 87 []))),[.box [(vcs w0),(.c (ro kF n0 f0)),(.c (ro kB n1 f1)),(.c (ro kI n2 f2)),(.c (ro kD n3 f3)),(.c (ro kG n4 f4))],.box [(vcs w1),(vci i1),(.c (ro kO n5 f5))]]⟩
def s362v5:St:=⟨(us 92 []),[.box [(vcs w0),(.c (ro kF n0 f0)),(.c (ro kB n1 f1)),(.c (ro kI n2 f2)),(.c (ro kD n3 f3)),(.c (ro kG n4 f4))]]⟩
def L362v3 {ρ:Type} (u:Nat) (x0:Nat) (x1:FF) (x2:Nat) (x3:FF) (x4:ByteArray) (x5:Nat) (x6:FF) (x7:Nat) (x8:FF) (x9:Nat) (xA:FF) (xB:Nat) (xC:FF) (xD:Nat) (xE:FF):Nat→Int→(Int→ByteArray→Int→Nat→FF→Option ρ)→(Option ρ)→Option ρ
 | 0,_,_,_=>none
 | m+1,xF,k0,k1 =>
  (bif (decide (xF<(Int.ofNat x0))) then (bif (inb xF x0) then (ob (F361 u x2 x3 (x1 xF.toNat 0).str) fun xG=>(bif (decide (xG<0)) then (k0 8 (x1 xF.toNat 0).str (x1 xF.toNat 1).int (x1 xF.toNat 2).len (x1 xF.toNat 2).el) else (bif ((decide (xF>0))==true) then (bif (inb (w64 (xF-1)) x0) then (bif ((Op.bytesLess (ByteArray.toList (x1 xF.toNat 0).str) (ByteArray.toList (CV.str (x1 (Int.toNat (w64 (xF-1))) 0))))||(ByteArray.toList (x1 xF.toNat 0).str==ByteArray.toList (CV.str (x1 (Int.toNat (w64 (xF-1))) 0)))) then (k0 11 (x1 xF.toNat 0).str (x1 xF.toNat 1).int (x1 xF.toNat 2).len (x1 xF.toNat 2).el) else (bif ((decide ((x1 xF.toNat 1).int<1))==false) then (bif (decide ((x1 xF.toNat 1).int>10000)) then (k0 9 (x1 xF.toNat 0).str (x1 xF.toNat 1).int (x1 xF.toNat 2).len (x1 xF.toNat 2).el) else (bif ((Int.ofNat (x1 xF.toNat 2).len)==0) then (k0 3 (x1 xF.toNat 0).str (x1 xF.toNat 1).int (x1 xF.toNat 2).len (x1 xF.toNat 2).el) else (bif (decide ((Int.ofNat (x1 xF.toNat 2).len)>8)) then (k0 4 (x1 xF.toNat 0).str (x1 xF.toNat 1).int (x1 xF.toNat 2).len (x1 xF.toNat 2).el) else (L362v2 u x0 x1 x2 x3 xF x4 x5 x6 x7 x8 x9 xA xB xC xD xE (x1 xF.toNat 0).str (x1 xF.toNat 1).int (x1 xF.toNat 2).len (x1 xF.toNat 2).el u 1
  (k0 11 (x1 xF.toNat 0).str (x1 xF.toNat 1).int (x1 xF.toNat 2).len (x1 xF.toNat 2).el)
  (L362v3 u x0 x1 x2 x3 x4 x5 x6 x7 x8 x9 xA xB xC xD xE m (w64 (xF+1)) k0 k1))))) else (k0 9 (x1 xF.toNat 0).str (x1 xF.toNat 1).int (x1 xF.toNat 2).len (x1 xF.toNat 2).el))) else none) else (bif ((decide ((x1 xF.toNat 1).int<1))==false) then (bif (decide ((x1 xF.toNat 1).int>10000)) then (k0 9 (x1 xF.toNat 0).str (x1 xF.toNat 1).int (x1 xF.toNat 2).len (x1 xF.toNat 2).el) else (bif ((Int.ofNat (x1 xF.toNat 2).len)==0) then (k0 3 (x1 xF.toNat 0).str (x1 xF.toNat 1).int (x1 xF.toNat 2).len (x1 xF.toNat 2).el) else (bif (decide ((Int.ofNat (x1 xF.toNat 2).len)>8)) then (k0 4 (x1 xF.toNat 0).str (x1 xF.toNat 1).int (x1 xF.toNat 2).len (x1 xF.toNat 2).el) else (L362v2 u x0 x1 x2 x3 xF x4 x5 x6 x7 x8 x9 xA xB xC xD xE (x1 xF.toNat 0).str (x1 xF.toNat 1).int (x1 xF.toNat 2).len (x1 xF.toNat 2).el u 1
  (k0 11 (x1 xF.toNat 0).str (x1 xF.toNat 1).int (x1 xF.toNat 2).len (x1 xF.toNat 2).el)
  (L362v3 u x0 x1 x2 x3 x4 x5 x6 x7 x8 x9 xA xB xC xD xE m (w64 (xF+1)) k0 k1))))) else (k0 9 (x1 xF.toNat 0).str (x1 xF.toNat 1).int (x1 xF.toNat 2).len (x1 xF.toNat 2).el))))) else none) else k1)
theorem nl362v3:∀ (m:Nat) (x0:Int) (k0:Int→ByteArray→Int→Nat→FF→Option ρ) (k1:Option ρ),ob (L362v3 u n0 f0 n1 f1 w0 n2 f2 n3 f3 n4 f4 n5 f5 n6 f6 m x0 k0 k1) ng=L362v3 u n0 f0 n1 f1 w0 n2 f2 n3 f3 n4 f4 n5 f5 n6 f6 m x0 (fun x1 x2 x3 x4 x5=>ob (k0 x1 x2 x3 x4 x5) ng) (ob k1 ng)
 | 0,_,_,_=>rfl
 | m+1,x0,k0,k1=>by
  simp only [L362v3,ob_bif,ob_ob,ob_none,nl362v3 m,nl362v2]
def s362v6:St:=⟨(.u :: .x (.c (ro kE n0 f0)) :: (us 5 (.x (.c (ro kO n1 f1)) :: vxi i0 :: .x (.ptr 1 0) :: vxi 1 :: (us 19 (.x (.c (ro kE n0 f0)) :: vxi i0 :: .x (.c (.rp kE (f0 i0.toNat))) :: .agg [(vcs (f0 i0.toNat 0).str),(vci (f0 i0.toNat 1).int),(.c (ro kO (f0 i0.toNat 2).len (f0 i0.toNat 2).el))] :: (us 58 [])))))),[.box [(vcs w0),(.c (ro kF n2 f2)),(.c (ro kB n3 f3)),(.c (ro kI n4 f4)),(.c (ro kD n5 f5)),(.c (ro kG n6 f6))],.box [(vcs (f0 i0.toNat 0).str),(vci (f0 i0.toNat 1).int),(.c (ro kO (f0 i0.toNat 2).len (f0 i0.toNat 2).el))]]⟩
theorem r362v3 :
  loopH (eB A13v7 (C57 u) u) N362v3 (m+1) (s362v3 n0 n1 n2 n3 n4 n5 n6 f0 f1 f2 f3 f4 f5 f6 i0 w0) k =
  (bif (decide (i0<(Int.ofNat n0))) then (bif (inb i0 n0) then (ob (F361 u n1 f1 (f0 i0.toNat 0).str) fun x0=>(bif (decide (x0<0)) then (k .ret (s362v4 n2 n3 n4 n5 n6 (f0 i0.toNat 2).len f2 f3 f4 f5 f6 (f0 i0.toNat 2).el 8 (f0 i0.toNat 1).int w0 (f0 i0.toNat 0).str)) else (bif ((decide (i0>0))==true) then (bif (inb (w64 (i0-1)) n0) then (bif ((Op.bytesLess (ByteArray.toList (f0 i0.toNat 0).str) (ByteArray.toList (CV.str (f0 (Int.toNat (w64 (i0-1))) 0))))||(ByteArray.toList (f0 i0.toNat 0).str==ByteArray.toList (CV.str (f0 (Int.toNat (w64 (i0-1))) 0)))) then (k .ret (s362v4 n2 n3 n4 n5 n6 (f0 i0.toNat 2).len f2 f3 f4 f5 f6 (f0 i0.toNat 2).el 11 (f0 i0.toNat 1).int w0 (f0 i0.toNat 0).str)) else (bif ((decide ((f0 i0.toNat 1).int<1))==false) then (bif (decide ((f0 i0.toNat 1).int>10000)) then (k .ret (s362v4 n2 n3 n4 n5 n6 (f0 i0.toNat 2).len f2 f3 f4 f5 f6 (f0 i0.toNat 2).el 9 (f0 i0.toNat 1).int w0 (f0 i0.toNat 0).str)) else (bif ((Int.ofNat (f0 i0.toNat 2).len)==0) then (k .ret (s362v4 n2 n3 n4 n5 n6 (f0 i0.toNat 2).len f2 f3 f4 f5 f6 (f0 i0.toNat 2).el 3 (f0 i0.toNat 1).int w0 (f0 i0.toNat 0).str)) else (bif (decide ((Int.ofNat (f0 i0.toNat 2).len)>8)) then (k .ret (s362v4 n2 n3 n4 n5 n6 (f0 i0.toNat 2).len f2 f3 f4 f5 f6 (f0 i0.toNat 2).el 4 (f0 i0.toNat 1).int w0 (f0 i0.toNat 0).str)) else (loopN (eB A13v3 (C57 u) u) N362v2 u (s362v6 n0 n1 n2 n3 n4 n5 n6 f0 f1 f2 f3 f4 f5 f6 i0 w0) (kBlk 3 (kBlk 1 (kSeq (C57 u) u (4 :: 9 :: 10 :: (rl 30 62 [])) A13v5 (kLoop (eB A13v7 (C57 u) u) N362v3 m k)))))))) else (k .ret (s362v4 n2 n3 n4 n5 n6 (f0 i0.toNat 2).len f2 f3 f4 f5 f6 (f0 i0.toNat 2).el 9 (f0 i0.toNat 1).int w0 (f0 i0.toNat 0).str)))) else none) else (bif ((decide ((f0 i0.toNat 1).int<1))==false) then (bif (decide ((f0 i0.toNat 1).int>10000)) then (k .ret (s362v4 n2 n3 n4 n5 n6 (f0 i0.toNat 2).len f2 f3 f4 f5 f6 (f0 i0.toNat 2).el 9 (f0 i0.toNat 1).int w0 (f0 i0.toNat 0).str)) else (bif ((Int.ofNat (f0 i0.toNat 2).len)==0) then (k .ret (s362v4 n2 n3 n4 n5 n6 (f0 i0.toNat 2).len f2 f3 f4 f5 f6 (f0 i0.toNat 2).el 3 (f0 i0.toNat 1).int w0 (f0 i0.toNat 0).str)) else (bif (decide ((Int.ofNat (f0 i0.toNat 2).len)>8)) then (k .ret (s362v4 n2 n3 n4 n5 n6 (f0 i0.toNat 2).len f2 f3 f4 f5 f6 (f0 i0.toNat 2).el 4 (f0 i0.toNat 1).int w0 (f0 i0.toNat 0).str)) else (loopN (eB A13v3 (C57 u) u) N362v2 u (s362v6 n0 n1 n2 n3 n4 n5 n6 f0 f1 f2 f3 f4 f5 f6 i0 w0) (kBlk 3 (kBlk 1 (kSeq (C57 u) u (4 :: 9 :: 10 :: (rl 30 62 [])) A13v5 (kLoop (eB A13v7 (C57 u) u) N362v3 m k)))))))) else (k .ret (s362v4 n2 n3 n4 n5 n6 (f0 i0.toNat 2).len f2 f3 f4 f5 f6 (f0 i0.toNat 2).el 9 (f0 i0.toNat 1).int w0 (f0 i0.toNat 0).str)))))) else none) else (k (.exit 0) (s362v5 n2 n3 n4 n5 n6 f2 f3 f4 f5 f6 w0))):=by kernel_rfl
theorem t362v1 :
  loopN (eB A13v3 (C57 u) u) N362v2 u (s362v6 n0 n1 n2 n3 n4 n5 n6 f0 f1 f2 f3 f4 f5 f6 i0 w0) k =
  L362v2 u n0 f0 n1 f1 i0 w0 n2 f2 n3 f3 n4 f4 n5 f5 n6 f6 (f0 i0.toNat 0).str (f0 i0.toNat 1).int (f0 i0.toNat 2).len (f0 i0.toNat 2).el u 1 (k .ret (s362v1 n2 n3 n4 n5 n6 (f0 i0.toNat 2).len f2 f3 f4 f5 f6 (f0 i0.toNat 2).el (f0 i0.toNat 1).int w0 (f0 i0.toNat 0).str)) (k (.exit 3) (s362v2 n0 n1 n2 n3 n4 n5 n6 (f0 i0.toNat 2).len f0 f1 f2 f3 f4 f5 f6 (f0 i0.toNat 2).el i0 (f0 i0.toNat 1).int w0 (f0 i0.toNat 0).str)) :=
 Eq.trans (loopN_at (by kernel_rfl)) (q362v2 ..)
theorem g362v2 :
  (kBlk 3 (kBlk 1 (kSeq (C57 u) u (4 :: 9 :: 10 :: (rl 30 62 [])) A13v5 (kLoop (eB A13v7 (C57 u) u) N362v3 m k)))) .ret (s362v1 n0 n1 n2 n3 n4 (f5 i0.toNat 2).len f0 f1 f2 f3 f4 (f5 i0.toNat 2).el (f5 i0.toNat 1).int w0 (f5 i0.toNat 0).str) =
  (k .ret (s362v4 n0 n1 n2 n3 n4 (f5 i0.toNat 2).len f0 f1 f2 f3 f4 (f5 i0.toNat 2).el 11 (f5 i0.toNat 1).int w0 (f5 i0.toNat 0).str)):=by kernel_rfl
theorem g362v3 :
  (kBlk 3 (kBlk 1 (kSeq (C57 u) u (4 :: 9 :: 10 :: (rl 30 62 [])) A13v5 (kLoop (eB A13v7 (C57 u) u) N362v3 m k)))) (.exit 3) (s362v2 n0 n1 n2 n3 n4 n5 n6 (f0 i0.toNat 2).len f0 f1 f2 f3 f4 f5 f6 (f0 i0.toNat 2).el i0 (f0 i0.toNat 1).int w0 (f0 i0.toNat 0).str) =
  (loopH (eB A13v7 (C57 u) u) N362v3 m (s362v3 n0 n1 n2 n3 n4 n5 n6 f0 f1 f2 f3 f4 f5 f6 (w64 (i0+1)) w0) k):=by kernel_rfl
theorem t362v4 :
  loopN (eB A13v3 (C57 u) u) N362v2 u (s362v6 n0 n1 n2 n3 n4 n5 n6 f0 f1 f2 f3 f4 f5 f6 i0 w0) k =
  L362v2 u n0 f0 n1 f1 i0 w0 n2 f2 n3 f3 n4 f4 n5 f5 n6 f6 (f0 i0.toNat 0).str (f0 i0.toNat 1).int (f0 i0.toNat 2).len (f0 i0.toNat 2).el u 1 (k .ret (s362v1 n2 n3 n4 n5 n6 (f0 i0.toNat 2).len f2 f3 f4 f5 f6 (f0 i0.toNat 2).el (f0 i0.toNat 1).int w0 (f0 i0.toNat 0).str)) (k (.exit 3) (s362v2 n0 n1 n2 n3 n4 n5 n6 (f0 i0.toNat 2).len f0 f1 f2 f3 f4 f5 f6 (f0 i0.toNat 2).el i0 (f0 i0.toNat 1).int w0 (f0 i0.toNat 0).str)) :=
 Eq.trans (loopN_at (by kernel_rfl)) (q362v2 ..)
theorem g362v5 :
  (kBlk 3 (kBlk 1 (kSeq (C57 u) u (4 :: 9 :: 10 :: (rl 30 62 [])) A13v5 (kLoop (eB A13v7 (C57 u) u) N362v3 m k)))) .ret (s362v1 n0 n1 n2 n3 n4 (f5 i0.toNat 2).len f0 f1 f2 f3 f4 (f5 i0.toNat 2).el (f5 i0.toNat 1).int w0 (f5 i0.toNat 0).str) =
  (k .ret (s362v4 n0 n1 n2 n3 n4 (f5 i0.toNat 2).len f0 f1 f2 f3 f4 (f5 i0.toNat 2).el 11 (f5 i0.toNat 1).int w0 (f5 i0.toNat 0).str)):=by kernel_rfl
theorem g362v6 :
  (kBlk 3 (kBlk 1 (kSeq (C57 u) u (4 :: 9 :: 10 :: (rl 30 62 [])) A13v5 (kLoop (eB A13v7 (C57 u) u) N362v3 m k)))) (.exit 3) (s362v2 n0 n1 n2 n3 n4 n5 n6 (f0 i0.toNat 2).len f0 f1 f2 f3 f4 f5 f6 (f0 i0.toNat 2).el i0 (f0 i0.toNat 1).int w0 (f0 i0.toNat 0).str) =
  (loopH (eB A13v7 (C57 u) u) N362v3 m (s362v3 n0 n1 n2 n3 n4 n5 n6 f0 f1 f2 f3 f4 f5 f6 (w64 (i0+1)) w0) k):=by kernel_rfl
theorem q362v3:∀ (m:Nat) (x0:Int),
  loopH (eB A13v7 (C57 u) u) N362v3 m (s362v3 n0 n1 n2 n3 n4 n5 n6 f0 f1 f2 f3 f4 f5 f6 x0 w0) k=L362v3 u n0 f0 n1 f1 w0 n2 f2 n3 f3 n4 f4 n5 f5 n6 f6 m x0 (fun x1 x2 x3 x4 x5=>k .ret (s362v4 n2 n3 n4 n5 n6 x4 f2 f3 f4 f5 f6 x5 x1 x3 w0 x2)) (k (.exit 0) (s362v5 n2 n3 n4 n5 n6 f2 f3 f4 f5 f6 w0))
 | 0,_=>rfl
 | m+1,x0=>by
  rw [r362v3]
  simp only [L362v3,q362v3 m,t362v1,g362v2,g362v3,t362v4,g362v5,g362v6]
def F362 (x0:ByteArray) (x1:Nat) (x2:FF) (x3:Nat) (x4:FF) (x5:Nat) (x6:FF) (x7:Nat) (x8:FF) (x9:Nat) (xA:FF) (xB:Nat) (xC:FF):Option (Int) :=
 (bif (decide ((Int.ofNat xB)>64)) then (some 4) else (ob (F255 u x0 x1 x2 x3 x4 x5 x6 x7 x8 x9 xA) fun xD=>(bif (xD.2.2 != 0) then (some xD.2.2) else (ob (F252 u x0 x1 x2 x3 x4 x5 x6 x7 x8 x9 xA) fun xE=>(L362v3 u xB xC xE.1 xE.2 x0 x1 x2 x3 x4 x5 x6 x7 x8 x9 xA u 0
  (fun xF xG xH xI xJ=>(some xF))
  (some 0))))))
def s362v7 (x0:Nat × FF):St:=⟨(.agg [(vcs w0),(.c (ro kF n0 f0)),(.c (ro kB n1 f1)),(.c (ro kI n2 f2)),(.c (ro kD n3 f3)),(.c (ro kG n4 f4))] :: .x (.c (ro kE n5 f5)) :: .x (.ptr 0 0) :: uu :: (us 3 (.x (.c (ro kO x0.1 x0.2)) :: vxi 0 :: uu :: uu :: (us 11 [.agg [(vcs w0),(.c (ro kF n0 f0)),(.c (ro kB n1 f1)),(.c (ro kI n2 f2)),(.c (ro kD n3 f3)),(.c (ro kG n4 f4))],.x (.c (ro kO x0.1 x0.2)),uu,uu,uu,uu,uu,uu,uu,uu,uu,uu,uu,uu,uu,uu,uu,uu,uu,uu,uu,uu,uu,uu,uu,uu,uu,uu,uu,uu,uu,uu,uu,uu,uu,uu,uu,uu,uu,uu,uu,uu,uu,uu,uu,uu,uu,uu,uu,uu,uu,uu,uu,uu,uu,uu,uu,uu,uu,uu,uu,uu,uu,uu,uu,uu,uu,uu,uu,uu])))),[.box [(vcs w0),(.c (ro kF n0 f0)),(.c (ro kB n1 f1)),(.c (ro kI n2 f2)),(.c (ro kD n3 f3)),(.c (ro kG n4 f4))]]⟩
theorem t362v7 (x0:Nat × FF) :
  loopN (eB A13v7 (C57 u) u) N362v3 u (s362v7 n0 n1 n2 n3 n4 n5 f0 f1 f2 f3 f4 f5 w0 x0) k =
  L362v3 u n5 f5 x0.1 x0.2 w0 n0 f0 n1 f1 n2 f2 n3 f3 n4 f4 u 0 (fun x1 x2 x3 x4 x5=>k .ret (s362v4 n0 n1 n2 n3 n4 x4 f0 f1 f2 f3 f4 x5 x1 x3 w0 x2)) (k (.exit 0) (s362v5 n0 n1 n2 n3 n4 f0 f1 f2 f3 f4 w0)) :=
 Eq.trans (loopN_at (by kernel_rfl)) (q362v3 ..)
theorem g362v8 :
  (kBlk 0 (kSeq (C57 u) u (4 :: 8 :: 9 :: 10 :: (rl 24 68 [])) A13v8 (finish A13))) .ret (s362v4 n0 n1 n2 n3 n4 n5 f0 f1 f2 f3 f4 f5 i0 i1 w0 w1) =
  (some [.v (vi i0)]):=by kernel_rfl
theorem g362v9 :
  (kBlk 0 (kSeq (C57 u) u (4 :: 8 :: 9 :: 10 :: (rl 24 68 [])) A13v8 (finish A13))) (.exit 0) (s362v5 n0 n1 n2 n3 n4 f0 f1 f2 f3 f4 w0) =
  (some [.v (vi 0)]):=by kernel_rfl
theorem e362:evalF (C57 u) u A13 [.agg [(.s w0),(ro kF n0 f0),(ro kB n1 f1),(ro kI n2 f2),(ro kD n3 f3),(ro kG n4 f4)],.v (ro kE n5 f5)]=ob (F362 u w0 n0 f0 n1 f1 n2 f2 n3 f3 n4 f4 n5 f5) fun t=>some [.v (vi t)]:=Eq.trans (b:=(bif (decide ((Int.ofNat n5)>64)) then (some [.v (vi 4)]) else (ob (F255 u w0 n0 f0 n1 f1 n2 f2 n3 f3 n4 f4) fun x0=>(bif (x0.2.2 != 0) then (some [.v (vi x0.2.2)]) else (ob (F252 u w0 n0 f0 n1 f1 n2 f2 n3 f3 n4 f4) fun x1=>(loopN (eB A13v7 (C57 u) u) N362v3 u (s362v7 n0 n1 n2 n3 n4 n5 f0 f1 f2 f3 f4 f5 w0 x1) (kBlk 0 (kSeq (C57 u) u (4 :: 8 :: 9 :: 10 :: (rl 24 68 [])) A13v8 (finish A13))))))))) (by kernel_rfl) (by
 simp only [F362,ob_bif,ob_ob,ob_none,ob_some,nl362v3,t362v7,g362v8,g362v9])
def O362:Ora:=mkO (qc (ag (tc cS (tc (cL kF) (tc (cL kB) (tc (cL kI) (tc (cL kD) (t1 (cL kG)))))))) (q1 (av (cL kE)))) (fun x=>F362 u x.1.1 x.1.2.1.1 x.1.2.1.2 x.1.2.2.1.1 x.1.2.2.1.2 x.1.2.2.2.1.1 x.1.2.2.2.1.2 x.1.2.2.2.2.1.1 x.1.2.2.2.2.1.2 x.1.2.2.2.2.2.1 x.1.2.2.2.2.2.2 x.2.1 x.2.2) fun t=>[.v (vi t)]
theorem d362:DO (O362 u) (C57 u) 13 A13:=dO u (fun x=>by exact e362 u x.1.2.1.1 x.1.2.2.1.1 x.1.2.2.2.1.1 x.1.2.2.2.2.1.1 x.1.2.2.2.2.2.1 x.2.1 x.1.2.1.2 x.1.2.2.1.2 x.1.2.2.2.1.2 x.1.2.2.2.2.1.2 x.1.2.2.2.2.2.2 x.2.2 x.1.1)
def C58:Oracle:=(C57 u).add 13 (fun _=>true) (O362 u)
def A38v1:AC:=(.seq (.region 6 [o1 6 (sk 0)] 0 none) []
 (.ret (rl 0 6 (rl 7 13 []))))
def A38v2:AC:=(.seq (.seq (.region 4 [mv 14 2,o1 15 (bk .lss 3 14 0),mv 16 15,og 17 (.move (tm 2)) 16 false,og 18 (bk .gtr 3 17 1048576) 16 false,o1 19 (pa 16 18)] 0 none) []
 (.cond (tm 19)
 (.seq (.region 5 [o1 6 (sk 15)] 0 none) []
  (.ret (rl 0 6 (rl 7 13 []))))
 .skip)) (6 :: (rl 14 6 []))
 A38v1)
def A38:AF:=⟨20,[.tmp 6],
 (.seq (.region 0 [o1 3 (bx 0 28 0),o1 6 (sk 0)] 1 none) []
 (.seq (.seq (.region 1 [o1 8 (ln 28 6 3),mv 9 1,o1 10 (cs 13 [8,9] [28,29]),o1 7 (sg 10)] 0 none) []
 (.seq (.region 2 [mv 11 7,o1 12 (bk .neq 35 11 0)] 0 none) []
 (.cond (tm 12)
 (.seq (.region 3 [mv 13 7,o1 6 (sg 13)] 0 none) []
  (.ret (rl 0 6 (rl 7 13 []))))
 .skip))) (rl 6 8 [])
 A38v2))⟩
def F363 (x0:ByteArray) (x1:Nat) (x2:FF) (x3:Nat) (x4:FF) (x5:Nat) (x6:FF) (x7:Nat) (x8:FF) (x9:Nat) (xA:FF) (xB:Nat) (xC:FF) (xD:Int):Option (Int) :=
 (ob (F362 u x0 x1 x2 x3 x4 x5 x6 x7 x8 x9 xA xB xC) fun xE=>(bif (xE != 0) then (some xE) else (bif ((decide (xD<0))==false) then (bif (decide (xD>1048576)) then (some 15) else (some 0)) else (some 15))))
theorem e363:evalF (C58 u) u A38 [.agg [(.s w0),(ro kF n0 f0),(ro kB n1 f1),(ro kI n2 f2),(ro kD n3 f3),(ro kG n4 f4)],.v (ro kE n5 f5),.v (vi i0)]=ob (F363 u w0 n0 f0 n1 f1 n2 f2 n3 f3 n4 f4 n5 f5 i0) fun t=>some [.v (vi t)]:=by
 simp only [F363,ob_bif,ob_ob,ob_none,ob_some]
 kernel_rfl
def O363:Ora:=mkO (qc (ag (tc cS (tc (cL kF) (tc (cL kB) (tc (cL kI) (tc (cL kD) (t1 (cL kG)))))))) (qc (av (cL kE)) (q1 (av ci)))) (fun x=>F363 u x.1.1 x.1.2.1.1 x.1.2.1.2 x.1.2.2.1.1 x.1.2.2.1.2 x.1.2.2.2.1.1 x.1.2.2.2.1.2 x.1.2.2.2.2.1.1 x.1.2.2.2.2.1.2 x.1.2.2.2.2.2.1 x.1.2.2.2.2.2.2 x.2.1.1 x.2.1.2 x.2.2) fun t=>[.v (vi t)]
theorem d363:DO (O363 u) (C58 u) 38 A38:=dO u (fun x=>by exact e363 u x.1.2.1.1 x.1.2.2.1.1 x.1.2.2.2.1.1 x.1.2.2.2.2.1.1 x.1.2.2.2.2.2.1 x.2.1.1 x.1.2.1.2 x.1.2.2.1.2 x.1.2.2.2.1.2 x.1.2.2.2.2.1.2 x.1.2.2.2.2.2.2 x.2.1.2 x.2.2 x.1.1)
def C59:Oracle:=(C58 u).add 38 (fun _=>true) (O363 u)
def A41v1:AC:=(.region 3 [mv 10 5,o1 11 (bk .add 3 10 1),o1 5 (sg 11)] 0 none)
def A41v2:AC:=(.seq (.block 1
 (.seq (.region 4 [mv 12 0,mv 13 5,o1 14 (.indexAddr 29 53 3 (tm 12) (tm 13)),o1 15 (fa 53 14 0 0),o1 16 (lo 9 15),mv 17 1,o1 18 (bt .eql 9 16 17)] 0 none) []
  (.cond (tm 18)
  (.seq (.region 5 [mv 19 5,o1 4 (sg 19)] 0 none) []
   (.ret (rl 0 4 (rl 5 15 []))))
  .skip))) (4 :: (rl 12 8 []))
 A41v1)
def A41v3:AC:=(.seq (.seq (.region 2 [mv 6 5,mv 7 0,o1 8 (.len 29 false (tm 7)),o1 9 (bt .lss 3 6 8)] 0 none) []
 (.cond (tm 9)
 .skip
 (.exit 0 (rl 0 20 [])))) (rl 6 4 [])
 A41v2)
def A41v4:AC:=(.seq (.region 6 [o1 4 (sk (-1))] 0 none) []
 (.ret (rl 0 4 (rl 5 15 []))))
def A41:AF:=⟨20,[.tmp 4],
 (.seq (.region 0 [o1 4 (sk 0)] 0 none) []
 (.seq (.seq (.region 1 [o1 5 (sk 0)] 0 none) []
 (.block 0
 (.loop [] (2 :: 3 :: 4 :: (rl 6 14 []))
  A41v3))) (rl 4 16 [])
 A41v4))⟩
def N364v1:St→Option St:=nN 0 (2 :: 3 :: 4 :: (rl 6 14 []))
def s364v0:St:=⟨(.x (.c (ro kE n0 f0)) :: vxs w0 :: (us 3 (vxi i0 :: (us 14 [])))),[]⟩
def s364v1:St:=⟨(us 4 (vxi i0 :: (us 15 []))),[]⟩
def s364v2:St:=⟨(us 20 []),[]⟩
def L364v1 {ρ:Type} (u:Nat) (x0:Nat) (x1:FF) (x2:ByteArray):Nat→Int→(Int→Option ρ)→(Option ρ)→Option ρ
 | 0,_,_,_=>none
 | m+1,x3,k0,k1 =>
  (bif (decide (x3<(Int.ofNat x0))) then (bif (inb x3 x0) then (bif (ByteArray.toList (x1 x3.toNat 0).str==ByteArray.toList x2) then (k0 x3) else (L364v1 u x0 x1 x2 m (w64 (x3+1)) k0 k1)) else none) else k1)
theorem nl364v1:∀ (m:Nat) (x0:Int) (k0:Int→Option ρ) (k1:Option ρ),ob (L364v1 u n0 f0 w0 m x0 k0 k1) ng=L364v1 u n0 f0 w0 m x0 (fun x1=>ob (k0 x1) ng) (ob k1 ng)
 | 0,_,_,_=>rfl
 | m+1,x0,k0,k1=>by
  simp only [L364v1,ob_bif,ob_ob,ob_none,nl364v1 m]
theorem q364v1:∀ (m:Nat) (x0:Int),
  loopH (eB A41v3 (C59 u) u) N364v1 m (s364v0 n0 f0 x0 w0) k=L364v1 u n0 f0 w0 m x0 (fun x1=>k .ret (s364v1 x1)) (k (.exit 0) s364v2)
 | 0,_=>rfl
 | m+1,x0=>by
  simp only [L364v1,← q364v1 m]
  kernel_rfl
def F364 (x0:Nat) (x1:FF) (x2:ByteArray):Option (Int) :=
 (L364v1 u x0 x1 x2 u 0
  (fun x3=>(some x3))
  (some (-1)))
def s364v3:St:=⟨[.x (.c (ro kE n0 f0)),vxs w0,uu,uu,vxi 0,vxi 0,uu,uu,uu,uu,uu,uu,uu,uu,uu,uu,uu,uu,uu,uu],[]⟩
theorem t364v1 :
  loopN (eB A41v3 (C59 u) u) N364v1 u (s364v3 n0 f0 w0) k =
  L364v1 u n0 f0 w0 u 0 (fun x0=>k .ret (s364v1 x0)) (k (.exit 0) s364v2) :=
 Eq.trans (loopN_at (by kernel_rfl)) (q364v1 ..)
theorem g364v2 :
  (kBlk 0 (kSeq (C59 u) u (rl 4 16 []) A41v4 (finish A41))) .ret (s364v1 i0) =
  (some [.v (vi i0)]):=by kernel_rfl
theorem g364v3 :
  (kBlk 0 (kSeq (C59 u) u (rl 4 16 []) A41v4 (finish A41))) (.exit 0) s364v2 =
  (some [.v (vi (-1))]):=by kernel_rfl
theorem e364:evalF (C59 u) u A41 [.v (ro kE n0 f0),.v (.s w0)]=ob (F364 u n0 f0 w0) fun t=>some [.v (vi t)]:=Eq.trans (b:=(loopN (eB A41v3 (C59 u) u) N364v1 u (s364v3 n0 f0 w0) (kBlk 0 (kSeq (C59 u) u (rl 4 16 []) A41v4 (finish A41))))) (by kernel_rfl) (by
 simp only [F364,ob_bif,ob_ob,ob_none,ob_some,nl364v1,t364v1,g364v2,g364v3])
def O364:Ora:=mkO (qc (av (cL kE)) (q1 (av cS))) (fun x=>F364 u x.1.1 x.1.2 x.2) fun t=>[.v (vi t)]
theorem d364:DO (O364 u) (C59 u) 41 A41:=dO u (fun x=>by exact e364 u x.1.1 x.1.2 x.2)
def C60:Oracle:=(C59 u).add 41 (fun _=>true) (O364 u)
def A40v1:AC:=(.seq (.block 1
 (.region 8 [mv 30 8,mv 31 9,mv 32 7,o1 33 (.makeSlice 0 71 4 kN 1 [(.b false)] (tm 32) (tm 32)),o1 34 (.indexAddr 72 71 1 (tm 30) (tm 31)),o0 (.storeRow 71 (tm 34) (tm 33))] 1 none)) []
 (.region 7 [mv 28 9,o1 29 (bk .add 3 28 1),o1 9 (sg 29)] 0 none))
def A40v2:AC:=(.seq (.seq (.region 6 [mv 25 9,mv 26 7,o1 27 (bt .lss 3 25 26)] 0 none) []
 (.cond (tm 27)
 .skip
 (.exit 0 (0 :: 2 :: 3 :: 4 :: (rl 9 139 []))))) [25,26,27]
 A40v1)
def A40v3:AC:=(.seq (.block 3
 (.region 12 [mv 41 8,mv 42 6,mv 43 10,o1 44 (.indexAddr 102 46 2 (tm 42) (tm 43)),o1 45 (.indexAddrA 46 3 2 1 (tm 44) (ic 0)),o1 46 (lo 3 45),o1 47 (.indexAddr 72 71 1 (tm 41) (tm 46)),o1 48 (lo 71 47),mv 49 6,mv 50 10,o1 51 (.indexAddr 102 46 2 (tm 49) (tm 50)),o1 52 (.indexAddrA 46 3 2 1 (tm 51) (ic 1)),o1 53 (lo 3 52),o1 54 (.indexAddr 71 4 1 (tm 48) (tm 53)),o0 (.store 4 1 (tm 54) (.const (.bool true)))] 0 (some [[],[],[],[1,2],[1,2,3],(rl 1 4 []),(rl 0 6 []),(rl 0 7 []),[],[],[8,9],[8,9,10],(rl 8 4 []),(rl 0 13 []),(rl 0 14 [])]))) []
 (.region 11 [mv 39 10,o1 40 (bk .add 3 39 1),o1 10 (sg 40)] 0 none))
def A40v4:AC:=(.seq (.seq (.region 10 [mv 35 10,mv 36 6,o1 37 (.len 102 false (tm 36)),o1 38 (bt .lss 3 35 37)] 0 none) []
 (.cond (tm 38)
 .skip
 (.exit 2 (0 :: 2 :: 3 :: 4 :: 6 :: (rl 9 139 []))))) (rl 35 4 [])
 A40v3)
def A40v5:AC:=(.seq (.block 9
 (.region 22 [mv 79 8,mv 80 12,o1 81 (.indexAddr 72 71 1 (tm 79) (tm 80)),o1 82 (lo 71 81),mv 83 13,mv 84 8,mv 85 12,o1 86 (.indexAddr 72 71 1 (tm 84) (tm 85)),o1 87 (lo 71 86),mv 88 13,o1 89 (.indexAddr 71 4 1 (tm 87) (tm 88)),o1 90 (lo 4 89),mv 91 90,og 92 (.move (tm 8)) 91 false,og 93 (.move (tm 11)) 91 false,og 94 (.indexAddr 72 71 1 (tm 92) (tm 93)) 91 false,og 95 (lo 71 94) 91 false,og 96 (.move (tm 13)) 91 false,og 97 (.indexAddr 71 4 1 (tm 95) (tm 96)) 91 false,og 98 (lo 4 97) 91 false,o1 99 (pa 91 98),o1 100 (.indexAddr 71 4 1 (tm 82) (tm 83)),o0 (.store 4 1 (tm 100) (tm 99))] 0 (some [[],[],[0,1],[0,1,2],[],[],[],[5,6],[5,6,7],[],(rl 5 5 []),(rl 5 6 []),(rl 5 7 []),(rl 5 8 []),(rl 5 8 []),(rl 5 10 []),(rl 5 11 []),(rl 5 8 []),(rl 5 13 []),(rl 5 14 []),(rl 5 15 []),(rl 0 21 []),(rl 0 22 [])]))) []
 (.region 21 [mv 77 13,o1 78 (bk .add 3 77 1),o1 13 (sg 78)] 0 none))
def A40v6:AC:=(.seq (.seq (.region 20 [mv 65 13,mv 66 7,o1 67 (bt .lss 3 65 66),mv 68 67,og 69 (.move (tm 8)) 68 true,og 70 (.move (tm 12)) 68 true,og 71 (.indexAddr 72 71 1 (tm 69) (tm 70)) 68 true,og 72 (lo 71 71) 68 true,og 73 (.move (tm 11)) 68 true,og 74 (.indexAddr 71 4 1 (tm 72) (tm 73)) 68 true,og 75 (lo 4 74) 68 true,o1 76 (po 68 75)] 0 none) []
 (.cond (tm 76)
 .skip
 (.exit 8 (0 :: 2 :: 3 :: 4 :: 6 :: 9 :: 10 :: (rl 13 135 []))))) (rl 65 12 [])
 A40v5)
def A40v7:AC:=(.region 18 [mv 63 12,o1 64 (bk .add 3 63 1),o1 12 (sg 64)] 0 none)
def A40v8:AC:=(.seq (.block 7
 (.seq (.region 19 [o1 13 (sk 0)] 0 none) []
  (.block 8
  (.loop [] (0 :: 2 :: 3 :: 4 :: 6 :: 9 :: 10 :: (rl 14 134 []))
   A40v6)))) (13 :: (rl 65 36 []))
 A40v7)
def A40v9:AC:=(.seq (.seq (.region 17 [mv 60 12,mv 61 7,o1 62 (bt .lss 3 60 61)] 0 none) []
 (.cond (tm 62)
 .skip
 (.exit 6 (0 :: 2 :: 3 :: 4 :: 6 :: 9 :: 10 :: (rl 12 136 []))))) [60,61,62]
 A40v8)
def A40v10:AC:=(.region 15 [mv 58 11,o1 59 (bk .add 3 58 1),o1 11 (sg 59)] 0 none)
def A40v11:AC:=(.seq (.block 5
 (.seq (.region 16 [o1 12 (sk 0)] 0 none) []
  (.block 6
  (.loop [] (0 :: 2 :: 3 :: 4 :: 6 :: 9 :: 10 :: (rl 13 135 []))
   A40v9)))) (12 :: 13 :: (rl 60 41 []))
 A40v10)
def A40v12:AC:=(.seq (.seq (.region 14 [mv 55 11,mv 56 7,o1 57 (bt .lss 3 55 56)] 0 none) []
 (.cond (tm 57)
 .skip
 (.exit 4 (0 :: 2 :: 3 :: 4 :: 6 :: 7 :: (rl 9 139 []))))) [55,56,57]
 A40v11)
def A40v13:AC:=(.seq (.block 13
 (.region 31 [mv 122 14,mv 123 15,o1 124 (.indexAddr 72 71 1 (tm 122) (tm 123)),o1 125 (lo 71 124),mv 126 16,mv 127 8,mv 128 5,mv 129 1,mv 130 15,o1 131 (.indexAddr 29 53 3 (tm 129) (tm 130)),o1 132 (fa 53 131 0 0),o1 133 (lo 9 132),o1 134 (cs 34 [128,133] [51,9]),o1 135 (.indexAddr 72 71 1 (tm 127) (tm 134)),o1 136 (lo 71 135),mv 137 5,mv 138 1,mv 139 16,o1 140 (.indexAddr 29 53 3 (tm 138) (tm 139)),o1 141 (fa 53 140 0 0),o1 142 (lo 9 141),o1 143 (cs 34 [137,142] [51,9]),o1 144 (.indexAddr 71 4 1 (tm 136) (tm 143)),o1 145 (lo 4 144),o1 146 (.indexAddr 71 4 1 (tm 125) (tm 126)),o0 (.store 4 1 (tm 146) (tm 145))] 0 (some [[],[],[0,1],[0,1,2],[],[],[],[],[],[7,8],[7,8,9],(rl 7 4 []),(rl 6 6 []),(rl 5 8 []),(rl 5 9 []),[],[],[],[16,17],[16,17,18],(rl 16 4 []),(rl 6 7 (rl 15 6 [])),(rl 5 17 []),(rl 5 18 []),(rl 0 24 []),(rl 0 25 [])]))) []
 (.region 30 [mv 120 16,o1 121 (bk .add 3 120 1),o1 16 (sg 121)] 0 none))
def A40v14:AC:=(.seq (.seq (.region 29 [mv 116 16,mv 117 1,o1 118 (.len 29 false (tm 117)),o1 119 (bt .lss 3 116 118)] 0 none) []
 (.cond (tm 119)
 .skip
 (.exit 12 (0 :: 2 :: 3 :: 4 :: 6 :: 7 :: (rl 9 5 (rl 16 132 [])))))) (rl 116 4 [])
 A40v13)
def A40v15:AC:=(.region 26 [mv 108 15,o1 109 (bk .add 3 108 1),o1 15 (sg 109)] 0 none)
def A40v16:AC:=(.seq (.block 11
 (.seq (.region 27 [mv 110 14,mv 111 15,mv 112 1,o1 113 (.len 29 false (tm 112)),o1 114 (.makeSlice 0 71 4 kN 1 [(.b false)] (tm 113) (tm 113)),o1 115 (.indexAddr 72 71 1 (tm 110) (tm 111)),o0 (.storeRow 71 (tm 115) (tm 114))] 1 none) []
  (.seq (.region 28 [o1 16 (sk 0)] 0 none) []
  (.block 12
  (.loop [] (0 :: 2 :: 3 :: 4 :: 6 :: 7 :: (rl 9 5 (rl 17 131 [])))
   A40v14))))) (16 :: (rl 110 37 []))
 A40v15)
def A40v17:AC:=(.seq (.seq (.region 25 [mv 104 15,mv 105 1,o1 106 (.len 29 false (tm 105)),o1 107 (bt .lss 3 104 106)] 0 none) []
 (.cond (tm 107)
 .skip
 (.exit 10 (rl 0 14 (rl 15 133 []))))) (rl 104 4 [])
 A40v16)
def A40v18:AC:=(.seq (.region 32 [mv 147 14,o1 4 (sg 147)] 0 none) []
 (.ret (rl 0 4 (rl 5 143 []))))
def A40v19:AC:=(.seq (.region 23 [mv 101 1,o1 102 (.len 29 false (tm 101)),o1 103 (.makeMat 0 72 71 .bool 24 (tm 102) (tm 102)),o1 14 (sg 103)] 1 none) []
 (.seq (.seq (.region 24 [o1 15 (sk 0)] 0 none) []
 (.block 10
 (.loop [] (0 :: 2 :: 3 :: 4 :: 6 :: 7 :: (rl 9 5 (rl 16 132 [])))
  A40v17))) (15 :: 16 :: (rl 104 43 []))
 A40v18))
def A40v20:AC:=(.seq (.seq (.region 13 [o1 11 (sk 0)] 0 none) []
 (.block 4
 (.loop [] (0 :: 2 :: 3 :: 4 :: 6 :: 9 :: 10 :: (rl 12 136 []))
  A40v12))) (11 :: 12 :: 13 :: (rl 55 46 []))
 A40v19)
def A40v21:AC:=(.seq (.seq (.region 9 [o1 10 (sk 0)] 0 none) []
 (.block 2
 (.loop [] (0 :: 2 :: 3 :: 4 :: 9 :: (rl 11 137 []))
  A40v4))) (10 :: (rl 35 20 []))
 A40v20)
def A40:AF:=⟨148,[.mat 4 .bool],
 (.seq (.region 0 [o1 2 (bx 0 28 0),o1 4 (.assign (.const (.slice none 0 0)))] 1 none) []
 (.seq (.region 1 [o1 17 (ln 28 6 2),o1 18 (cf 33 [17] [28]),o1 5 (sg 18)] 0 none) []
 (.seq (.region 2 [o1 19 (ln 28 6 2),o1 20 (cf 58 [19] [28]),o1 6 (sg 20)] 0 none) []
 (.seq (.region 3 [mv 21 5,o1 22 (.len 51 false (tm 21)),o1 7 (sg 22)] 0 none) []
 (.seq (.region 4 [mv 23 7,o1 24 (.makeMat 0 72 71 .bool 24 (tm 23) (tm 23)),o1 8 (sg 24)] 1 none) []
 (.seq (.seq (.region 5 [o1 9 (sk 0)] 0 none) []
 (.block 0
 (.loop [] (0 :: 2 :: 3 :: 4 :: (rl 10 138 []))
  A40v2))) (9 :: (rl 25 10 []))
 A40v21))))))⟩
def N366v1:St→Option St:=nN 2 (0 :: 2 :: 3 :: 4 :: (rl 10 138 []))
def s366v0:St:=⟨(.u :: .x (.c (ro kE n0 f0)) :: (us 3 (.x (.c (ro kO n1 f1)) :: .x (.c (ro kP n2 f2)) :: vxi i0 :: .x (.own 1 0 n3) :: vxi i1 :: (us 138 [])))),[.box [(vcs w0),(.c (ro kF n4 f3)),(.c (ro kB n5 f4)),(.c (ro kI n6 f5)),(.c (ro kD n7 f6)),(.c (ro kG n8 f7))],.mat .bool n3 u0 f8]⟩
def s366v1:St:=⟨(.u :: .x (.c (ro kE n0 f0)) :: (us 3 (.x (.c (ro kO n1 f1)) :: .x (.c (ro kP n2 f2)) :: vxi i0 :: .x (.own 1 0 n3) :: (us 139 [])))),[.box [(vcs w0),(.c (ro kF n4 f3)),(.c (ro kB n5 f4)),(.c (ro kI n6 f5)),(.c (ro kD n7 f6)),(.c (ro kG n8 f7))],.mat .bool n3 u0 f8]⟩
def L366v1 {ρ:Type} (u:Nat) (x0:Nat) (x1:FF) (x2:Nat) (x3:FF) (x4:Nat) (x5:FF) (x6:Int) (x7:Nat) (x8:ByteArray) (x9:Nat) (xA:FF) (xB:Nat) (xC:FF) (xD:Nat) (xE:FF) (xF:Nat) (xG:FF) (xH:Nat) (xI:FF):Nat→Int→(Nat→Nat)→FF→((Nat→Nat)→FF→Option ρ)→Option ρ
 | 0,_,_,_,_=>none
 | m+1,xJ,xK,xL,k0 =>
  (bif (decide (xJ<x6)) then (bif (decide (0≤x6)&&decide (x6≤x6)&&decide (x6≤1073741824)&&true) then (bif (inb xJ x7) then (bif (Nat.beq x6.toNat x6.toNat&&Nat.blt xJ.toNat x7) then (L366v1 u x0 x1 x2 x3 x4 x5 x6 x7 x8 x9 xA xB xC xD xE xF xG xH xI m (w64 (xJ+1)) (updN xK xJ.toNat x6.toNat) (updM xL xJ.toNat (fun _ j=>listF [(.b false)] j)) k0) else none) else none) else none) else (k0 xK xL))
theorem nl366v1:∀ (m:Nat) (x0:Int) (x1:Nat→Nat) (x2:FF) (k0:(Nat→Nat)→FF→Option ρ),ob (L366v1 u n0 f0 n1 f1 n2 f2 i0 n3 w0 n4 f3 n5 f4 n6 f5 n7 f6 n8 f7 m x0 x1 x2 k0) ng=L366v1 u n0 f0 n1 f1 n2 f2 i0 n3 w0 n4 f3 n5 f4 n6 f5 n7 f6 n8 f7 m x0 x1 x2 (fun x3 x4=>ob (k0 x3 x4) ng)
 | 0,_,_,_,_=>rfl
 | m+1,x0,x1,x2,k0=>by
  simp only [L366v1,ob_bif,ob_ob,ob_none,nl366v1 m]
theorem q366v1:∀ (m:Nat) (x0:Int) (x1:Nat→Nat) (x2:FF),
  loopH (eB A40v2 (C60 u) u) N366v1 m (s366v0 n0 n1 n2 n3 n4 n5 n6 n7 n8 f0 f1 f2 f3 f4 f5 f6 f7 x2 i0 x0 w0 x1) k=L366v1 u n0 f0 n1 f1 n2 f2 i0 n3 w0 n4 f3 n5 f4 n6 f5 n7 f6 n8 f7 m x0 x1 x2 (fun x3 x4=>k (.exit 0) (s366v1 n0 n1 n2 n3 n4 n5 n6 n7 n8 f0 f1 f2 f3 f4 f5 f6 f7 x4 i0 w0 x3))
 | 0,_,_,_=>rfl
 | m+1,x0,x1,x2=>by
  simp only [L366v1,← q366v1 m]
  kernel_rfl
def N366v2:St→Option St:=nN 2 (0 :: 2 :: 3 :: 4 :: 9 :: (rl 11 137 []))
def s366v2:St:=⟨(.u :: .x (.c (ro kE n0 f0)) :: (us 3 (.x (.c (ro kO n1 f1)) :: .x (.c (ro kP n2 f2)) :: vxi i0 :: .x (.own 1 0 n3) :: .u :: vxi i1 :: (us 137 [])))),[.box [(vcs w0),(.c (ro kF n4 f3)),(.c (ro kB n5 f4)),(.c (ro kI n6 f5)),(.c (ro kD n7 f6)),(.c (ro kG n8 f7))],.mat .bool n3 u0 f8]⟩
def s366v3:St:=⟨(.u :: .x (.c (ro kE n0 f0)) :: (us 3 (.x (.c (ro kO n1 f1)) :: .u :: vxi i0 :: .x (.own 1 0 n2) :: (us 139 [])))),[.box [(vcs w0),(.c (ro kF n3 f2)),(.c (ro kB n4 f3)),(.c (ro kI n5 f4)),(.c (ro kD n6 f5)),(.c (ro kG n7 f6))],.mat .bool n2 u0 f7]⟩
def L366v2 {ρ:Type} (u:Nat) (x0:Nat) (x1:FF) (x2:Nat) (x3:FF) (x4:Nat) (x5:FF) (x6:Int) (x7:Nat) (x8:ByteArray) (x9:Nat) (xA:FF) (xB:Nat) (xC:FF) (xD:Nat) (xE:FF) (xF:Nat) (xG:FF) (xH:Nat) (xI:FF) (xJ:Nat→Nat):Nat→Int→FF→(FF→Option ρ)→Option ρ
 | 0,_,_,_=>none
 | m+1,xK,xL,k0 =>
  (bif (decide (xK<(Int.ofNat x4))) then (bif (inb xK x4) then (bif (inb (x5 xK.toNat 0).int x7) then (bif (Nat.blt (Int.toNat (x5 xK.toNat 0).int) x7&&true) then (bif (inb xK x4) then (bif (inb (x5 xK.toNat 1).int (xJ (Int.toNat (x5 xK.toNat 0).int))) then (L366v2 u x0 x1 x2 x3 x4 x5 x6 x7 x8 x9 xA xB xC xD xE xF xG xH xI xJ m (w64 (xK+1)) (setM xL (Int.toNat (x5 xK.toNat 0).int) (Int.toNat (x5 xK.toNat 1).int) (.b true)) k0) else none) else none) else none) else none) else none) else (k0 xL))
theorem nl366v2:∀ (m:Nat) (x0:Int) (x1:FF) (k0:FF→Option ρ),ob (L366v2 u n0 f0 n1 f1 n2 f2 i0 n3 w0 n4 f3 n5 f4 n6 f5 n7 f6 n8 f7 u0 m x0 x1 k0) ng=L366v2 u n0 f0 n1 f1 n2 f2 i0 n3 w0 n4 f3 n5 f4 n6 f5 n7 f6 n8 f7 u0 m x0 x1 (fun x2=>ob (k0 x2) ng)
 | 0,_,_,_=>rfl
 | m+1,x0,x1,k0=>by
  simp only [L366v2,ob_bif,ob_ob,ob_none,nl366v2 m]
theorem q366v2:∀ (m:Nat) (x0:Int) (x1:FF),
  loopH (eB A40v4 (C60 u) u) N366v2 m (s366v2 n0 n1 n2 n3 n4 n5 n6 n7 n8 f0 f1 f2 f3 f4 f5 f6 f7 x1 i0 x0 w0 u0) k=L366v2 u n0 f0 n1 f1 n2 f2 i0 n3 w0 n4 f3 n5 f4 n6 f5 n7 f6 n8 f7 u0 m x0 x1 (fun x2=>k (.exit 2) (s366v3 n0 n1 n3 n4 n5 n6 n7 n8 f0 f1 f3 f4 f5 f6 f7 x2 i0 w0 u0))
 | 0,_,_=>rfl
 | m+1,x0,x1=>by
  simp only [L366v2,← q366v2 m]
  kernel_rfl
def N366v7:St→Option St:=nN 2 (0 :: 2 :: 3 :: 4 :: 6 :: 9 :: 10 :: (rl 14 134 []))
def s366v4:St:=⟨(.u :: .x (.c (ro kE n0 f0)) :: (us 3 (.x (.c (ro kO n1 f1)) :: .u :: vxi i0 :: .x (.own 1 0 n2) :: .u :: .u :: vxi i1 :: vxi i2 :: vxi i3 :: (us 134 [])))),[.box [(vcs w0),(.c (ro kF n3 f2)),(.c (ro kB n4 f3)),(.c (ro kI n5 f4)),(.c (ro kD n6 f5)),(.c (ro kG n7 f6))],.mat .bool n2 u0 f7]⟩
def s366v5:St:=⟨(.u :: .x (.c (ro kE n0 f0)) :: (us 3 (.x (.c (ro kO n1 f1)) :: .u :: vxi i0 :: .x (.own 1 0 n2) :: .u :: .u :: vxi i1 :: vxi i2 :: (us 135 [])))),[.box [(vcs w0),(.c (ro kF n3 f2)),(.c (ro kB n4 f3)),(.c (ro kI n5 f4)),(.c (ro kD n6 f5)),(.c (ro kG n7 f6))],.mat .bool n2 u0 f7]⟩
def L366v7 {ρ:Type} (u:Nat) (x0:Nat) (x1:FF) (x2:Nat) (x3:FF) (x4:Int) (x5:Nat) (x6 x7:Int) (x8:ByteArray) (x9:Nat) (xA:FF) (xB:Nat) (xC:FF) (xD:Nat) (xE:FF) (xF:Nat) (xG:FF) (xH:Nat) (xI:FF) (xJ:Nat→Nat):Nat→Int→FF→(FF→Option ρ)→Option ρ
 | 0,_,_,_=>none
 | m+1,xK,xL,k0 =>
  (bif ((decide (xK<x4))==true) then (bif (inb x7 x5) then (bif (Nat.blt x7.toNat x5&&true) then (bif (inb x6 (xJ x7.toNat)) then (bif (xL x7.toNat x6.toNat).bool then (bif (inb x7 x5) then (bif (Nat.blt x7.toNat x5&&true) then (bif (inb x7 x5) then (bif (Nat.blt x7.toNat x5&&true) then (bif (inb xK (xJ x7.toNat)) then (bif ((xL x7.toNat xK.toNat).bool==false) then (bif (inb x6 x5) then (bif (Nat.blt x6.toNat x5&&true) then (bif (inb xK (xJ x6.toNat)) then (bif (inb xK (xJ x7.toNat)) then (L366v7 u x0 x1 x2 x3 x4 x5 x6 x7 x8 x9 xA xB xC xD xE xF xG xH xI xJ m (w64 (xK+1)) (setM xL x7.toNat xK.toNat (.b (xL x6.toNat xK.toNat).bool)) k0) else none) else none) else none) else none) else (bif (inb xK (xJ x7.toNat)) then (L366v7 u x0 x1 x2 x3 x4 x5 x6 x7 x8 x9 xA xB xC xD xE xF xG xH xI xJ m (w64 (xK+1)) (setM xL x7.toNat xK.toNat (.b true)) k0) else none)) else none) else none) else none) else none) else none) else (k0 xL)) else none) else none) else none) else (k0 xL))
theorem nl366v7:∀ (m:Nat) (x0:Int) (x1:FF) (k0:FF→Option ρ),ob (L366v7 u n0 f0 n1 f1 i0 n2 i1 i2 w0 n3 f2 n4 f3 n5 f4 n6 f5 n7 f6 u0 m x0 x1 k0) ng=L366v7 u n0 f0 n1 f1 i0 n2 i1 i2 w0 n3 f2 n4 f3 n5 f4 n6 f5 n7 f6 u0 m x0 x1 (fun x2=>ob (k0 x2) ng)
 | 0,_,_,_=>rfl
 | m+1,x0,x1,k0=>by
  simp only [L366v7,ob_bif,ob_ob,ob_none,nl366v7 m]
theorem q366v7:∀ (m:Nat) (x0:Int) (x1:FF),
  loopH (eB A40v6 (C60 u) u) N366v7 m (s366v4 n0 n1 n2 n3 n4 n5 n6 n7 f0 f1 f2 f3 f4 f5 f6 x1 i0 i1 i2 x0 w0 u0) k=L366v7 u n0 f0 n1 f1 i0 n2 i1 i2 w0 n3 f2 n4 f3 n5 f4 n6 f5 n7 f6 u0 m x0 x1 (fun x2=>k (.exit 8) (s366v5 n0 n1 n2 n3 n4 n5 n6 n7 f0 f1 f2 f3 f4 f5 f6 x2 i0 i1 i2 w0 u0))
 | 0,_,_=>rfl
 | m+1,x0,x1=>by
  simp only [L366v7,← q366v7 m]
  kernel_rfl
def N366v8:St→Option St:=nN 2 (0 :: 2 :: 3 :: 4 :: 6 :: 9 :: 10 :: (rl 13 135 []))
def s366v6:St:=⟨(.u :: .x (.c (ro kE n0 f0)) :: (us 3 (.x (.c (ro kO n1 f1)) :: .u :: vxi i0 :: .x (.own 1 0 n2) :: .u :: .u :: vxi i1 :: vxi i2 :: (us 135 [])))),[.box [(vcs w0),(.c (ro kF n3 f2)),(.c (ro kB n4 f3)),(.c (ro kI n5 f4)),(.c (ro kD n6 f5)),(.c (ro kG n7 f6))],.mat .bool n2 u0 f7]⟩
def s366v7:St:=⟨(.u :: .x (.c (ro kE n0 f0)) :: (us 3 (.x (.c (ro kO n1 f1)) :: .u :: vxi i0 :: .x (.own 1 0 n2) :: .u :: .u :: vxi i1 :: (us 136 [])))),[.box [(vcs w0),(.c (ro kF n3 f2)),(.c (ro kB n4 f3)),(.c (ro kI n5 f4)),(.c (ro kD n6 f5)),(.c (ro kG n7 f6))],.mat .bool n2 u0 f7]⟩
def L366v8 {ρ:Type} (u:Nat) (x0:Nat) (x1:FF) (x2:Nat) (x3:FF) (x4:Int) (x5:Nat) (x6:Int) (x7:ByteArray) (x8:Nat) (x9:FF) (xA:Nat) (xB:FF) (xC:Nat) (xD:FF) (xE:Nat) (xF:FF) (xG:Nat) (xH:FF) (xI:Nat→Nat):Nat→Int→FF→(FF→Option ρ)→Option ρ
 | 0,_,_,_=>none
 | m+1,xJ,xK,k0 =>
  (bif (decide (xJ<x4)) then (L366v7 u x0 x1 x2 x3 x4 x5 x6 xJ x7 x8 x9 xA xB xC xD xE xF xG xH xI u 0 xK
  (fun xL=>(L366v8 u x0 x1 x2 x3 x4 x5 x6 x7 x8 x9 xA xB xC xD xE xF xG xH xI m (w64 (xJ+1)) xL k0))) else (k0 xK))
theorem nl366v8:∀ (m:Nat) (x0:Int) (x1:FF) (k0:FF→Option ρ),ob (L366v8 u n0 f0 n1 f1 i0 n2 i1 w0 n3 f2 n4 f3 n5 f4 n6 f5 n7 f6 u0 m x0 x1 k0) ng=L366v8 u n0 f0 n1 f1 i0 n2 i1 w0 n3 f2 n4 f3 n5 f4 n6 f5 n7 f6 u0 m x0 x1 (fun x2=>ob (k0 x2) ng)
 | 0,_,_,_=>rfl
 | m+1,x0,x1,k0=>by
  simp only [L366v8,ob_bif,ob_ob,ob_none,nl366v8 m,nl366v7]
def s366v8:St:=⟨(.u :: .x (.c (ro kE n0 f0)) :: (us 3 (.x (.c (ro kO n1 f1)) :: .u :: vxi i0 :: .x (.own 1 0 n2) :: .u :: .u :: vxi i1 :: vxi i2 :: vxi 0 :: (us 134 [])))),[.box [(vcs w0),(.c (ro kF n3 f2)),(.c (ro kB n4 f3)),(.c (ro kI n5 f4)),(.c (ro kD n6 f5)),(.c (ro kG n7 f6))],.mat .bool n2 u0 f7]⟩
theorem r366v8 :
  loopH (eB A40v9 (C60 u) u) N366v8 (m+1) (s366v6 n0 n1 n2 n3 n4 n5 n6 n7 f0 f1 f2 f3 f4 f5 f6 f7 i0 i1 i2 w0 u0) k =
  (bif (decide (i2<i0)) then (loopN (eB A40v6 (C60 u) u) N366v7 u (s366v8 n0 n1 n2 n3 n4 n5 n6 n7 f0 f1 f2 f3 f4 f5 f6 f7 i0 i1 i2 w0 u0) (kBlk 8 (kBlk 7 (kSeq (C60 u) u (13 :: (rl 65 36 [])) A40v7 (kLoop (eB A40v9 (C60 u) u) N366v8 m k))))) else (k (.exit 6) (s366v7 n0 n1 n2 n3 n4 n5 n6 n7 f0 f1 f2 f3 f4 f5 f6 f7 i0 i1 w0 u0))):=by kernel_rfl
theorem t366v1 :
  loopN (eB A40v6 (C60 u) u) N366v7 u (s366v8 n0 n1 n2 n3 n4 n5 n6 n7 f0 f1 f2 f3 f4 f5 f6 f7 i0 i1 i2 w0 u0) k =
  L366v7 u n0 f0 n1 f1 i0 n2 i1 i2 w0 n3 f2 n4 f3 n5 f4 n6 f5 n7 f6 u0 u 0 f7 (fun x0=>k (.exit 8) (s366v5 n0 n1 n2 n3 n4 n5 n6 n7 f0 f1 f2 f3 f4 f5 f6 x0 i0 i1 i2 w0 u0)) :=
 Eq.trans (loopN_at (by kernel_rfl)) (q366v7 ..)
theorem g366v2 :
  (kBlk 8 (kBlk 7 (kSeq (C60 u) u (13 :: (rl 65 36 [])) A40v7 (kLoop (eB A40v9 (C60 u) u) N366v8 m k)))) (.exit 8) (s366v5 n0 n1 n2 n3 n4 n5 n6 n7 f0 f1 f2 f3 f4 f5 f6 f7 i0 i1 i2 w0 u0) =
  (loopH (eB A40v9 (C60 u) u) N366v8 m (s366v6 n0 n1 n2 n3 n4 n5 n6 n7 f0 f1 f2 f3 f4 f5 f6 f7 i0 i1 (w64 (i2+1)) w0 u0) k):=by kernel_rfl
theorem q366v8:∀ (m:Nat) (x0:Int) (x1:FF),
  loopH (eB A40v9 (C60 u) u) N366v8 m (s366v6 n0 n1 n2 n3 n4 n5 n6 n7 f0 f1 f2 f3 f4 f5 f6 x1 i0 i1 x0 w0 u0) k=L366v8 u n0 f0 n1 f1 i0 n2 i1 w0 n3 f2 n4 f3 n5 f4 n6 f5 n7 f6 u0 m x0 x1 (fun x2=>k (.exit 6) (s366v7 n0 n1 n2 n3 n4 n5 n6 n7 f0 f1 f2 f3 f4 f5 f6 x2 i0 i1 w0 u0))
 | 0,_,_=>rfl
 | m+1,x0,x1=>by
  rw [r366v8]
  simp only [L366v8,q366v8 m,t366v1,g366v2]
def N366v9:St→Option St:=nN 2 (0 :: 2 :: 3 :: 4 :: 6 :: 9 :: 10 :: (rl 12 136 []))
def s366v9:St:=⟨(.u :: .x (.c (ro kE n0 f0)) :: (us 3 (.x (.c (ro kO n1 f1)) :: .u :: vxi i0 :: .x (.own 1 0 n2) :: .u :: .u :: vxi i1 :: (us 136 [])))),[.box [(vcs w0),(.c (ro kF n3 f2)),(.c (ro kB n4 f3)),(.c (ro kI n5 f4)),(.c (ro kD n6 f5)),(.c (ro kG n7 f6))],.mat .bool n2 u0 f7]⟩
def s366v10:St:=⟨(.u :: .x (.c (ro kE n0 f0)) :: (us 3 (.x (.c (ro kO n1 f1)) :: .u :: .u :: .x (.own 1 0 n2) :: (us 139 [])))),[.box [(vcs w0),(.c (ro kF n3 f2)),(.c (ro kB n4 f3)),(.c (ro kI n5 f4)),(.c (ro kD n6 f5)),(.c (ro kG n7 f6))],.mat .bool n2 u0 f7]⟩
def L366v9 {ρ:Type} (u:Nat) (x0:Nat) (x1:FF) (x2:Nat) (x3:FF) (x4:Int) (x5:Nat) (x6:ByteArray) (x7:Nat) (x8:FF) (x9:Nat) (xA:FF) (xB:Nat) (xC:FF) (xD:Nat) (xE:FF) (xF:Nat) (xG:FF) (xH:Nat→Nat):Nat→Int→FF→(FF→Option ρ)→Option ρ
 | 0,_,_,_=>none
 | m+1,xI,xJ,k0 =>
  (bif (decide (xI<x4)) then (L366v8 u x0 x1 x2 x3 x4 x5 xI x6 x7 x8 x9 xA xB xC xD xE xF xG xH u 0 xJ
  (fun xK=>(L366v9 u x0 x1 x2 x3 x4 x5 x6 x7 x8 x9 xA xB xC xD xE xF xG xH m (w64 (xI+1)) xK k0))) else (k0 xJ))
theorem nl366v9:∀ (m:Nat) (x0:Int) (x1:FF) (k0:FF→Option ρ),ob (L366v9 u n0 f0 n1 f1 i0 n2 w0 n3 f2 n4 f3 n5 f4 n6 f5 n7 f6 u0 m x0 x1 k0) ng=L366v9 u n0 f0 n1 f1 i0 n2 w0 n3 f2 n4 f3 n5 f4 n6 f5 n7 f6 u0 m x0 x1 (fun x2=>ob (k0 x2) ng)
 | 0,_,_,_=>rfl
 | m+1,x0,x1,k0=>by
  simp only [L366v9,ob_bif,ob_ob,ob_none,nl366v9 m,nl366v8]
def s366v11:St:=⟨(.u :: .x (.c (ro kE n0 f0)) :: (us 3 (.x (.c (ro kO n1 f1)) :: .u :: vxi i0 :: .x (.own 1 0 n2) :: .u :: .u :: vxi i1 :: vxi 0 :: (us 135 [])))),[.box [(vcs w0),(.c (ro kF n3 f2)),(.c (ro kB n4 f3)),(.c (ro kI n5 f4)),(.c (ro kD n6 f5)),(.c (ro kG n7 f6))],.mat .bool n2 u0 f7]⟩
theorem r366v9 :
  loopH (eB A40v12 (C60 u) u) N366v9 (m+1) (s366v9 n0 n1 n2 n3 n4 n5 n6 n7 f0 f1 f2 f3 f4 f5 f6 f7 i0 i1 w0 u0) k =
  (bif (decide (i1<i0)) then (loopN (eB A40v9 (C60 u) u) N366v8 u (s366v11 n0 n1 n2 n3 n4 n5 n6 n7 f0 f1 f2 f3 f4 f5 f6 f7 i0 i1 w0 u0) (kBlk 6 (kBlk 5 (kSeq (C60 u) u (12 :: 13 :: (rl 60 41 [])) A40v10 (kLoop (eB A40v12 (C60 u) u) N366v9 m k))))) else (k (.exit 4) (s366v10 n0 n1 n2 n3 n4 n5 n6 n7 f0 f1 f2 f3 f4 f5 f6 f7 w0 u0))):=by kernel_rfl
theorem t366v3 :
  loopN (eB A40v9 (C60 u) u) N366v8 u (s366v11 n0 n1 n2 n3 n4 n5 n6 n7 f0 f1 f2 f3 f4 f5 f6 f7 i0 i1 w0 u0) k =
  L366v8 u n0 f0 n1 f1 i0 n2 i1 w0 n3 f2 n4 f3 n5 f4 n6 f5 n7 f6 u0 u 0 f7 (fun x0=>k (.exit 6) (s366v7 n0 n1 n2 n3 n4 n5 n6 n7 f0 f1 f2 f3 f4 f5 f6 x0 i0 i1 w0 u0)) :=
 Eq.trans (loopN_at (by kernel_rfl)) (q366v8 ..)
theorem g366v4 :
  (kBlk 6 (kBlk 5 (kSeq (C60 u) u (12 :: 13 :: (rl 60 41 [])) A40v10 (kLoop (eB A40v12 (C60 u) u) N366v9 m k)))) (.exit 6) (s366v7 n0 n1 n2 n3 n4 n5 n6 n7 f0 f1 f2 f3 f4 f5 f6 f7 i0 i1 w0 u0) =
  (loopH (eB A40v12 (C60 u) u) N366v9 m (s366v9 n0 n1 n2 n3 n4 n5 n6 n7 f0 f1 f2 f3 f4 f5 f6 f7 i0 (w64 (i1+1)) w0 u0) k):=by kernel_rfl
theorem q366v9:∀ (m:Nat) (x0:Int) (x1:FF),
  loopH (eB A40v12 (C60 u) u) N366v9 m (s366v9 n0 n1 n2 n3 n4 n5 n6 n7 f0 f1 f2 f3 f4 f5 f6 x1 i0 x0 w0 u0) k=L366v9 u n0 f0 n1 f1 i0 n2 w0 n3 f2 n4 f3 n5 f4 n6 f5 n7 f6 u0 m x0 x1 (fun x2=>k (.exit 4) (s366v10 n0 n1 n2 n3 n4 n5 n6 n7 f0 f1 f2 f3 f4 f5 f6 x2 w0 u0))
 | 0,_,_=>rfl
 | m+1,x0,x1=>by
  rw [r366v9]
  simp only [L366v9,q366v9 m,t366v3,g366v4]
def N366v11:St→Option St:=nN 4 (0 :: 2 :: 3 :: 4 :: 6 :: 7 :: (rl 9 5 (rl 17 131 [])))
def s366v12:St:=⟨(.u :: .x (.c (ro kE n0 f0)) :: (us 3 (.x (.c (ro kO n1 f1)) :: .u :: .u :: .x (.own 1 0 n2) :: (us 5 (.x (.own 2 0 n3) :: vxi i0 :: vxi i1 :: (us 131 [])))))),[.box [(vcs w0),(.c (ro kF n4 f2)),(.c (ro kB n5 f3)),(.c (ro kI n6 f4)),(.c (ro kD n7 f5)),(.c (ro kG n8 f6))],.mat .bool n2 u0 f7,.mat .bool n3 u1 f8,.dead]⟩
def s366v13:St:=⟨(.u :: .x (.c (ro kE n0 f0)) :: (us 3 (.x (.c (ro kO n1 f1)) :: .u :: .u :: .x (.own 1 0 n2) :: (us 5 (.x (.own 2 0 n3) :: vxi i0 :: (us 132 [])))))),[.box [(vcs w0),(.c (ro kF n4 f2)),(.c (ro kB n5 f3)),(.c (ro kI n6 f4)),(.c (ro kD n7 f5)),(.c (ro kG n8 f6))],.mat .bool n2 u0 f7,.mat .bool n3 u1 f8,.dead]⟩
def L366v11 {ρ:Type} (u:Nat) (x0:Nat) (x1:FF) (x2:Nat) (x3:FF) (x4 x5:Nat) (x6:Int) (x7:ByteArray) (x8:Nat) (x9:FF) (xA:Nat) (xB:FF) (xC:Nat) (xD:FF) (xE:Nat) (xF:FF) (xG:Nat) (xH:FF) (xI:Nat→Nat) (xJ:FF) (xK:Nat→Nat):Nat→Int→FF→(FF→Option ρ)→Option ρ
 | 0,_,_,_=>none
 | m+1,xL,xM,k0 =>
  (bif (decide (xL<(Int.ofNat x0))) then (bif (inb x6 x5) then (bif (Nat.blt x6.toNat x5&&true) then (bif (inb x6 x0) then (ob (F361 u x2 x3 (x1 x6.toNat 0).str) fun xN=>(bif (inb xN x4) then (bif (Nat.blt xN.toNat x4&&true) then (bif (inb xL x0) then (ob (F361 u x2 x3 (x1 xL.toNat 0).str) fun xO=>(bif (inb xO (xI xN.toNat)) then (bif (inb xL (xK x6.toNat)) then (L366v11 u x0 x1 x2 x3 x4 x5 x6 x7 x8 x9 xA xB xC xD xE xF xG xH xI xJ xK m (w64 (xL+1)) (setM xM x6.toNat xL.toNat (.b (xJ xN.toNat xO.toNat).bool)) k0) else none) else none)) else none) else none) else none)) else none) else none) else none) else (k0 xM))
theorem nl366v11:∀ (m:Nat) (x0:Int) (x1:FF) (k0:FF→Option ρ),ob (L366v11 u n0 f0 n1 f1 n2 n3 i0 w0 n4 f2 n5 f3 n6 f4 n7 f5 n8 f6 u0 f7 u1 m x0 x1 k0) ng=L366v11 u n0 f0 n1 f1 n2 n3 i0 w0 n4 f2 n5 f3 n6 f4 n7 f5 n8 f6 u0 f7 u1 m x0 x1 (fun x2=>ob (k0 x2) ng)
 | 0,_,_,_=>rfl
 | m+1,x0,x1,k0=>by
  simp only [L366v11,ob_bif,ob_ob,ob_none,nl366v11 m]
theorem q366v11:∀ (m:Nat) (x0:Int) (x1:FF),
  loopH (eB A40v14 (C60 u) u) N366v11 m (s366v12 n0 n1 n2 n3 n4 n5 n6 n7 n8 f0 f1 f2 f3 f4 f5 f6 f7 x1 i0 x0 w0 u0 u1) k=L366v11 u n0 f0 n1 f1 n2 n3 i0 w0 n4 f2 n5 f3 n6 f4 n7 f5 n8 f6 u0 f7 u1 m x0 x1 (fun x2=>k (.exit 12) (s366v13 n0 n1 n2 n3 n4 n5 n6 n7 n8 f0 f1 f2 f3 f4 f5 f6 f7 x2 i0 w0 u0 u1))
 | 0,_,_=>rfl
 | m+1,x0,x1=>by
  simp only [L366v11,← q366v11 m]
  kernel_rfl
def N366v12:St→Option St:=nN 3 (0 :: 2 :: 3 :: 4 :: 6 :: 7 :: (rl 9 5 (rl 16 132 [])))
def s366v14:St:=⟨(.u :: .x (.c (ro kE n0 f0)) :: (us 3 (.x (.c (ro kO n1 f1)) :: .u :: .u :: .x (.own 1 0 n2) :: (us 5 (.x (.own 2 0 n3) :: vxi i0 :: (us 132 [])))))),[.box [(vcs w0),(.c (ro kF n4 f2)),(.c (ro kB n5 f3)),(.c (ro kI n6 f4)),(.c (ro kD n7 f5)),(.c (ro kG n8 f6))],.mat .bool n2 u0 f7,.mat .bool n3 u1 f8]⟩
def s366v15:St:=⟨(us 14 (.x (.own 2 0 n0) :: (us 133 []))),[.box [(vcs w0),(.c (ro kF n1 f0)),(.c (ro kB n2 f1)),(.c (ro kI n3 f2)),(.c (ro kD n4 f3)),(.c (ro kG n5 f4))],.mat .bool n6 u0 f5,.mat .bool n0 u1 f6]⟩
def L366v12 {ρ:Type} (u:Nat) (x0:Nat) (x1:FF) (x2:Nat) (x3:FF) (x4 x5:Nat) (x6:ByteArray) (x7:Nat) (x8:FF) (x9:Nat) (xA:FF) (xB:Nat) (xC:FF) (xD:Nat) (xE:FF) (xF:Nat) (xG:FF) (xH:Nat→Nat) (xI:FF):Nat→Int→(Nat→Nat)→FF→((Nat→Nat)→FF→Option ρ)→Option ρ
 | 0,_,_,_,_=>none
 | m+1,xJ,xK,xL,k0 =>
  (bif (decide (xJ<(Int.ofNat x0))) then (bif (decide (0≤(Int.ofNat x0))&&decide ((Int.ofNat x0)≤(Int.ofNat x0))&&decide ((Int.ofNat x0)≤1073741824)&&true) then (bif (inb xJ x5) then (bif (Nat.beq (Int.toNat (Int.ofNat x0)) (Int.toNat (Int.ofNat x0))&&Nat.blt xJ.toNat x5) then (L366v11 u x0 x1 x2 x3 x4 x5 xJ x6 x7 x8 x9 xA xB xC xD xE xF xG xH xI (updN xK xJ.toNat (Int.toNat (Int.ofNat x0))) u 0 (updM xL xJ.toNat (fun _ j=>listF [(.b false)] j))
  (fun xM=>(L366v12 u x0 x1 x2 x3 x4 x5 x6 x7 x8 x9 xA xB xC xD xE xF xG xH xI m (w64 (xJ+1)) (updN xK xJ.toNat (Int.toNat (Int.ofNat x0))) xM k0))) else none) else none) else none) else (k0 xK xL))
theorem nl366v12:∀ (m:Nat) (x0:Int) (x1:Nat→Nat) (x2:FF) (k0:(Nat→Nat)→FF→Option ρ),ob (L366v12 u n0 f0 n1 f1 n2 n3 w0 n4 f2 n5 f3 n6 f4 n7 f5 n8 f6 u0 f7 m x0 x1 x2 k0) ng=L366v12 u n0 f0 n1 f1 n2 n3 w0 n4 f2 n5 f3 n6 f4 n7 f5 n8 f6 u0 f7 m x0 x1 x2 (fun x3 x4=>ob (k0 x3 x4) ng)
 | 0,_,_,_,_=>rfl
 | m+1,x0,x1,x2,k0=>by
  simp only [L366v12,ob_bif,ob_ob,ob_none,nl366v12 m,nl366v11]
def s366v16:St:=⟨(.u :: .x (.c (ro kE n0 f0)) :: (us 3 (.x (.c (ro kO n1 f1)) :: .u :: .u :: .x (.own 1 0 n2) :: (us 5 (.x (.own 2 0 n3) :: vxi i0 :: vxi 0 :: (us 93 (.x (.own 2 0 n3) :: vxi i0 :: .x (.c (ro kE n0 f0)) :: vxi (Int.ofNat n0) :: .x .u :: .x (.aptr 2 i0.toNat 0) :: (us 32 [])))))))),[.box [(vcs w0),(.c (ro kF n4 f2)),(.c (ro kB n5 f3)),(.c (ro kI n6 f4)),(.c (ro kD n7 f5)),(.c (ro kG n8 f6))],.mat .bool n2 u0 f7,.mat .bool n3 (updN u1 i0.toNat (Int.toNat (Int.ofNat n0))) (updM f8 i0.toNat (fun _ j=>listF [(.b false)] j)),.dead]⟩
theorem r366v12 :
  loopH (eB A40v17 (C60 u) u) N366v12 (m+1) (s366v14 n0 n1 n2 n3 n4 n5 n6 n7 n8 f0 f1 f2 f3 f4 f5 f6 f7 f8 i0 w0 u0 u1) k =
  (bif (decide (i0<(Int.ofNat n0))) then (bif (decide (0≤(Int.ofNat n0))&&decide ((Int.ofNat n0)≤(Int.ofNat n0))&&decide ((Int.ofNat n0)≤1073741824)&&true) then (bif (inb i0 n3) then (bif (Nat.beq (Int.toNat (Int.ofNat n0)) (Int.toNat (Int.ofNat n0))&&Nat.blt i0.toNat n3) then (loopN (eB A40v14 (C60 u) u) N366v11 u (s366v16 n0 n1 n2 n3 n4 n5 n6 n7 n8 f0 f1 f2 f3 f4 f5 f6 f7 f8 i0 w0 u0 u1) (kBlk 12 (kBlk 11 (kSeq (C60 u) u (16 :: (rl 110 37 [])) A40v15 (kLoop (eB A40v17 (C60 u) u) N366v12 m k))))) else none) else none) else none) else (k (.exit 10) (s366v15 n3 n4 n5 n6 n7 n8 n2 f2 f3 f4 f5 f6 f7 f8 w0 u0 u1))):=by kernel_rfl
theorem t366v5 :
  loopN (eB A40v14 (C60 u) u) N366v11 u (s366v16 n0 n1 n2 n3 n4 n5 n6 n7 n8 f0 f1 f2 f3 f4 f5 f6 f7 f8 i0 w0 u0 u1) k =
  L366v11 u n0 f0 n1 f1 n2 n3 i0 w0 n4 f2 n5 f3 n6 f4 n7 f5 n8 f6 u0 f7 (updN u1 i0.toNat (Int.toNat (Int.ofNat n0))) u 0 (updM f8 i0.toNat (fun _ j=>listF [(.b false)] j)) (fun x0=>k (.exit 12) (s366v13 n0 n1 n2 n3 n4 n5 n6 n7 n8 f0 f1 f2 f3 f4 f5 f6 f7 x0 i0 w0 u0 (updN u1 i0.toNat (Int.toNat (Int.ofNat n0))))) :=
 Eq.trans (loopN_at (by kernel_rfl)) (q366v11 ..)
theorem g366v6 :
  (kBlk 12 (kBlk 11 (kSeq (C60 u) u (16 :: (rl 110 37 [])) A40v15 (kLoop (eB A40v17 (C60 u) u) N366v12 m k)))) (.exit 12) (s366v13 n0 n1 n2 n3 n4 n5 n6 n7 n8 f0 f1 f2 f3 f4 f5 f6 f7 f8 i0 w0 u0 (updN u1 i0.toNat (Int.toNat (Int.ofNat n0)))) =
  (loopH (eB A40v17 (C60 u) u) N366v12 m (s366v14 n0 n1 n2 n3 n4 n5 n6 n7 n8 f0 f1 f2 f3 f4 f5 f6 f7 f8 (w64 (i0+1)) w0 u0 (updN u1 i0.toNat (Int.toNat (Int.ofNat n0)))) k):=by kernel_rfl
theorem q366v12:∀ (m:Nat) (x0:Int) (x1:Nat→Nat) (x2:FF),
  loopH (eB A40v17 (C60 u) u) N366v12 m (s366v14 n0 n1 n2 n3 n4 n5 n6 n7 n8 f0 f1 f2 f3 f4 f5 f6 f7 x2 x0 w0 u0 x1) k=L366v12 u n0 f0 n1 f1 n2 n3 w0 n4 f2 n5 f3 n6 f4 n7 f5 n8 f6 u0 f7 m x0 x1 x2 (fun x3 x4=>k (.exit 10) (s366v15 n3 n4 n5 n6 n7 n8 n2 f2 f3 f4 f5 f6 f7 x4 w0 u0 x3))
 | 0,_,_,_=>rfl
 | m+1,x0,x1,x2=>by
  rw [r366v12]
  simp only [L366v12,q366v12 m,t366v5,g366v6]
def F366 (x0:ByteArray) (x1:Nat) (x2:FF) (x3:Nat) (x4:FF) (x5:Nat) (x6:FF) (x7:Nat) (x8:FF) (x9:Nat) (xA:FF) (xB:Nat) (xC:FF):Option (Nat × FF) :=
 (ob (F252 u x0 x1 x2 x3 x4 x5 x6 x7 x8 x9 xA) fun xD=>(ob (F254 u x0 x1 x2 x3 x4 x5 x6 x7 x8 x9 xA) fun xE=>(bif (decide (0≤(Int.ofNat xD.1))&&decide ((Int.ofNat xD.1)=(Int.ofNat xD.1))&&decide ((Int.ofNat xD.1)≤1073741824)) then (L366v1 u xB xC xD.1 xD.2 xE.1 xE.2 (Int.ofNat xD.1) (Int.toNat (Int.ofNat xD.1)) x0 x1 x2 x3 x4 x5 x6 x7 x8 x9 xA u 0 (fun _=>0) (fun _ _=>.any)
  (fun xF xG=>(L366v2 u xB xC xD.1 xD.2 xE.1 xE.2 (Int.ofNat xD.1) (Int.toNat (Int.ofNat xD.1)) x0 x1 x2 x3 x4 x5 x6 x7 x8 x9 xA xF u 0 xG
  (fun xH=>(L366v9 u xB xC xD.1 xD.2 (Int.ofNat xD.1) (Int.toNat (Int.ofNat xD.1)) x0 x1 x2 x3 x4 x5 x6 x7 x8 x9 xA xF u 0 xH
  (fun xI=>(bif (decide (0≤(Int.ofNat xB))&&decide ((Int.ofNat xB)=(Int.ofNat xB))&&decide ((Int.ofNat xB)≤1073741824)) then (L366v12 u xB xC xD.1 xD.2 (Int.toNat (Int.ofNat xD.1)) (Int.toNat (Int.ofNat xB)) x0 x1 x2 x3 x4 x5 x6 x7 x8 x9 xA xF xI u 0 (fun _=>0) (fun _ _=>.any)
  (fun xJ xK=>(some ((Int.toNat (Int.ofNat xB)),(matF .bool xJ xK))))) else none))))))) else none)))
def s366v17 (x0 x1:Nat × FF):St:=⟨[.agg [(vcs w0),(.c (ro kF n0 f0)),(.c (ro kB n1 f1)),(.c (ro kI n2 f2)),(.c (ro kD n3 f3)),(.c (ro kG n4 f4))],.x (.c (ro kE n5 f5)),.x (.ptr 0 0),uu,.x (vcn),.x (.c (ro kO x0.1 x0.2)),.x (.c (ro kP x1.1 x1.2)),vxi (Int.ofNat x0.1),.x (.own 1 0 (Int.toNat (Int.ofNat x0.1))),vxi 0,uu,uu,uu,uu,uu,uu,uu,.agg [(vcs w0),(.c (ro kF n0 f0)),(.c (ro kB n1 f1)),(.c (ro kI n2 f2)),(.c (ro kD n3 f3)),(.c (ro kG n4 f4))],.x (.c (ro kO x0.1 x0.2)),.agg [(vcs w0),(.c (ro kF n0 f0)),(.c (ro kB n1 f1)),(.c (ro kI n2 f2)),(.c (ro kD n3 f3)),(.c (ro kG n4 f4))],.x (.c (ro kP x1.1 x1.2)),.x (.c (ro kO x0.1 x0.2)),vxi (Int.ofNat x0.1),vxi (Int.ofNat x0.1),.x (.own 1 0 (Int.toNat (Int.ofNat x0.1))),uu,uu,uu,uu,uu,uu,uu,uu,uu,uu,uu,uu,uu,uu,uu,uu,uu,uu,uu,uu,uu,uu,uu,uu,uu,uu,uu,uu,uu,uu,uu,uu,uu,uu,uu,uu,uu,uu,uu,uu,uu,uu,uu,uu,uu,uu,uu,uu,uu,uu,uu,uu,uu,uu,uu,uu,uu,uu,uu,uu,uu,uu,uu,uu,uu,uu,uu,uu,uu,uu,uu,uu,uu,uu,uu,uu,uu,uu,uu,uu,uu,uu,uu,uu,uu,uu,uu,uu,uu,uu,uu,uu,uu,uu,uu,uu,uu,uu,uu,uu,uu,uu,uu,uu,uu,uu,uu,uu,uu,uu,uu,uu,uu,uu,uu,uu,uu,uu,uu,uu,uu,uu,uu],[.box [(vcs w0),(.c (ro kF n0 f0)),(.c (ro kB n1 f1)),(.c (ro kI n2 f2)),(.c (ro kD n3 f3)),(.c (ro kG n4 f4))],.mat .bool (Int.toNat (Int.ofNat x0.1)) (fun _=>0) nilF]⟩
theorem t366v7 (x0 x1:Nat × FF) :
  loopN (eB A40v2 (C60 u) u) N366v1 u (s366v17 n0 n1 n2 n3 n4 n5 f0 f1 f2 f3 f4 f5 w0 x0 x1) k =
  L366v1 u n5 f5 x0.1 x0.2 x1.1 x1.2 (Int.ofNat x0.1) (Int.toNat (Int.ofNat x0.1)) w0 n0 f0 n1 f1 n2 f2 n3 f3 n4 f4 u 0 (fun _=>0) nilF (fun x2 x3=>k (.exit 0) (s366v1 n5 x0.1 x1.1 (Int.toNat (Int.ofNat x0.1)) n0 n1 n2 n3 n4 f5 x0.2 x1.2 f0 f1 f2 f3 f4 x3 (Int.ofNat x0.1) w0 x2)) :=
 Eq.trans (loopN_at (by kernel_rfl)) (q366v1 ..)
def s366v18 (x0 x1:Nat × FF):St:=⟨(.u :: .x (.c (ro kE n0 f0)) :: (us 3 (.x (.c (ro kO x0.1 x0.2)) :: .x (.c (ro kP x1.1 x1.2)) :: vxi (Int.ofNat x0.1) :: .x (.own 1 0 (Int.toNat (Int.ofNat x0.1))) :: .u :: vxi 0 :: (us 137 [])))),[.box [(vcs w0),(.c (ro kF n1 f1)),(.c (ro kB n2 f2)),(.c (ro kI n3 f3)),(.c (ro kD n4 f4)),(.c (ro kG n5 f5))],.mat .bool (Int.toNat (Int.ofNat x0.1)) u0 f6]⟩
theorem g366v8 (x0 x1:Nat × FF) :
  (kBlk 0 (kSeq (C60 u) u (9 :: (rl 25 10 [])) A40v21 (finish A40))) (.exit 0) (s366v1 n0 x0.1 x1.1 (Int.toNat (Int.ofNat x0.1)) n1 n2 n3 n4 n5 f0 x0.2 x1.2 f1 f2 f3 f4 f5 f6 (Int.ofNat x0.1) w0 u0) =
  (loopN (eB A40v4 (C60 u) u) N366v2 u (s366v18 n0 n1 n2 n3 n4 n5 f0 f1 f2 f3 f4 f5 f6 w0 u0 x0 x1) (kBlk 2 (kSeq (C60 u) u (10 :: (rl 35 20 [])) A40v20 (finish A40)))):=by kernel_rfl
theorem t366v9 (x0 x1:Nat × FF) :
  loopN (eB A40v4 (C60 u) u) N366v2 u (s366v18 n0 n1 n2 n3 n4 n5 f0 f1 f2 f3 f4 f5 f6 w0 u0 x0 x1) k =
  L366v2 u n0 f0 x0.1 x0.2 x1.1 x1.2 (Int.ofNat x0.1) (Int.toNat (Int.ofNat x0.1)) w0 n1 f1 n2 f2 n3 f3 n4 f4 n5 f5 u0 u 0 f6 (fun x2=>k (.exit 2) (s366v3 n0 x0.1 (Int.toNat (Int.ofNat x0.1)) n1 n2 n3 n4 n5 f0 x0.2 f1 f2 f3 f4 f5 x2 (Int.ofNat x0.1) w0 u0)) :=
 Eq.trans (loopN_at (by kernel_rfl)) (q366v2 ..)
def s366v19 (x0:Nat × FF):St:=⟨(.u :: .x (.c (ro kE n0 f0)) :: (us 3 (.x (.c (ro kO x0.1 x0.2)) :: .u :: vxi (Int.ofNat x0.1) :: .x (.own 1 0 (Int.toNat (Int.ofNat x0.1))) :: .u :: .u :: vxi 0 :: (us 136 [])))),[.box [(vcs w0),(.c (ro kF n1 f1)),(.c (ro kB n2 f2)),(.c (ro kI n3 f3)),(.c (ro kD n4 f4)),(.c (ro kG n5 f5))],.mat .bool (Int.toNat (Int.ofNat x0.1)) u0 f6]⟩
theorem g366v10 (x0:Nat × FF) :
  (kBlk 2 (kSeq (C60 u) u (10 :: (rl 35 20 [])) A40v20 (finish A40))) (.exit 2) (s366v3 n0 x0.1 (Int.toNat (Int.ofNat x0.1)) n1 n2 n3 n4 n5 f0 x0.2 f1 f2 f3 f4 f5 f6 (Int.ofNat x0.1) w0 u0) =
  (loopN (eB A40v12 (C60 u) u) N366v9 u (s366v19 n0 n1 n2 n3 n4 n5 f0 f1 f2 f3 f4 f5 f6 w0 u0 x0) (kBlk 4 (kSeq (C60 u) u (11 :: 12 :: 13 :: (rl 55 46 [])) A40v19 (finish A40)))):=by kernel_rfl
theorem t366v11 (x0:Nat × FF) :
  loopN (eB A40v12 (C60 u) u) N366v9 u (s366v19 n0 n1 n2 n3 n4 n5 f0 f1 f2 f3 f4 f5 f6 w0 u0 x0) k =
  L366v9 u n0 f0 x0.1 x0.2 (Int.ofNat x0.1) (Int.toNat (Int.ofNat x0.1)) w0 n1 f1 n2 f2 n3 f3 n4 f4 n5 f5 u0 u 0 f6 (fun x1=>k (.exit 4) (s366v10 n0 x0.1 (Int.toNat (Int.ofNat x0.1)) n1 n2 n3 n4 n5 f0 x0.2 f1 f2 f3 f4 f5 x1 w0 u0)) :=
 Eq.trans (loopN_at (by kernel_rfl)) (q366v9 ..)
def s366v20 (x0:Nat × FF):St:=⟨(.u :: .x (.c (ro kE n0 f0)) :: (us 3 (.x (.c (ro kO x0.1 x0.2)) :: .u :: .u :: .x (.own 1 0 (Int.toNat (Int.ofNat x0.1))) :: (us 5 (.x (.own 2 0 (Int.toNat (Int.ofNat n0))) :: vxi 0 :: (us 85 (.x (.c (ro kE n0 f0)) :: vxi (Int.ofNat n0) :: .x (.own 2 0 (Int.toNat (Int.ofNat n0))) :: (us 44 [])))))))),[.box [(vcs w0),(.c (ro kF n1 f1)),(.c (ro kB n2 f2)),(.c (ro kI n3 f3)),(.c (ro kD n4 f4)),(.c (ro kG n5 f5))],.mat .bool (Int.toNat (Int.ofNat x0.1)) u0 f6,.mat .bool (Int.toNat (Int.ofNat n0)) (fun _=>0) nilF]⟩
theorem g366v12 (x0:Nat × FF) :
  (kBlk 4 (kSeq (C60 u) u (11 :: 12 :: 13 :: (rl 55 46 [])) A40v19 (finish A40))) (.exit 4) (s366v10 n0 x0.1 (Int.toNat (Int.ofNat x0.1)) n1 n2 n3 n4 n5 f0 x0.2 f1 f2 f3 f4 f5 f6 w0 u0) =
  (bif (decide (0≤(Int.ofNat n0))&&decide ((Int.ofNat n0)=(Int.ofNat n0))&&decide ((Int.ofNat n0)≤1073741824)) then (loopN (eB A40v17 (C60 u) u) N366v12 u (s366v20 n0 n1 n2 n3 n4 n5 f0 f1 f2 f3 f4 f5 f6 w0 u0 x0) (kBlk 10 (kSeq (C60 u) u (15 :: 16 :: (rl 104 43 [])) A40v18 (finish A40)))) else none):=by kernel_rfl
theorem t366v13 (x0:Nat × FF) :
  loopN (eB A40v17 (C60 u) u) N366v12 u (s366v20 n0 n1 n2 n3 n4 n5 f0 f1 f2 f3 f4 f5 f6 w0 u0 x0) k =
  L366v12 u n0 f0 x0.1 x0.2 (Int.toNat (Int.ofNat x0.1)) (Int.toNat (Int.ofNat n0)) w0 n1 f1 n2 f2 n3 f3 n4 f4 n5 f5 u0 f6 u 0 (fun _=>0) nilF (fun x1 x2=>k (.exit 10) (s366v15 (Int.toNat (Int.ofNat n0)) n1 n2 n3 n4 n5 (Int.toNat (Int.ofNat x0.1)) f1 f2 f3 f4 f5 f6 x2 w0 u0 x1)) :=
 Eq.trans (loopN_at (by kernel_rfl)) (q366v12 ..)
theorem g366v14 (x0:Nat × FF) :
  (kBlk 10 (kSeq (C60 u) u (15 :: 16 :: (rl 104 43 [])) A40v18 (finish A40))) (.exit 10) (s366v15 (Int.toNat (Int.ofNat n0)) n1 n2 n3 n4 n5 (Int.toNat (Int.ofNat x0.1)) f0 f1 f2 f3 f4 f5 f6 w0 u0 u1) =
  (some [.v (ro kJ (Int.toNat (Int.ofNat n0)) (matF .bool u1 f6))]):=by kernel_rfl
theorem e366:evalF (C60 u) u A40 [.agg [(.s w0),(ro kF n0 f0),(ro kB n1 f1),(ro kI n2 f2),(ro kD n3 f3),(ro kG n4 f4)],.v (ro kE n5 f5)]=ob (F366 u w0 n0 f0 n1 f1 n2 f2 n3 f3 n4 f4 n5 f5) fun t=>some [.v (ro kJ t.1 t.2)]:=Eq.trans (b:=(ob (F252 u w0 n0 f0 n1 f1 n2 f2 n3 f3 n4 f4) fun x0=>(ob (F254 u w0 n0 f0 n1 f1 n2 f2 n3 f3 n4 f4) fun x1=>(bif (decide (0≤(Int.ofNat x0.1))&&decide ((Int.ofNat x0.1)=(Int.ofNat x0.1))&&decide ((Int.ofNat x0.1)≤1073741824)) then (loopN (eB A40v2 (C60 u) u) N366v1 u (s366v17 n0 n1 n2 n3 n4 n5 f0 f1 f2 f3 f4 f5 w0 x0 x1) (kBlk 0 (kSeq (C60 u) u (9 :: (rl 25 10 [])) A40v21 (finish A40)))) else none)))) (by kernel_rfl) (by
 simp only [F366,ob_bif,ob_ob,ob_none,ob_some,nl366v1,nl366v2,nl366v9,nl366v12,t366v7,g366v8,t366v9,g366v10,t366v11,g366v12,t366v13,g366v14])
def O366:Ora:=mkO (qc (ag (tc cS (tc (cL kF) (tc (cL kB) (tc (cL kI) (tc (cL kD) (t1 (cL kG)))))))) (q1 (av (cL kE)))) (fun x=>F366 u x.1.1 x.1.2.1.1 x.1.2.1.2 x.1.2.2.1.1 x.1.2.2.1.2 x.1.2.2.2.1.1 x.1.2.2.2.1.2 x.1.2.2.2.2.1.1 x.1.2.2.2.2.1.2 x.1.2.2.2.2.2.1 x.1.2.2.2.2.2.2 x.2.1 x.2.2) fun t=>[.v (ro kJ t.1 t.2)]
theorem d366:DO (O366 u) (C60 u) 40 A40:=dO u (fun x=>by exact e366 u x.1.2.1.1 x.1.2.2.1.1 x.1.2.2.2.1.1 x.1.2.2.2.2.1.1 x.1.2.2.2.2.2.1 x.2.1 x.1.2.1.2 x.1.2.2.1.2 x.1.2.2.2.1.2 x.1.2.2.2.2.1.2 x.1.2.2.2.2.2.2 x.2.2 x.1.1)
def C61:Oracle:=(C60 u).add 40 (fun _=>true) (O366 u)
def A17v1:AC:=(.region 4 [mv 9 4,o1 10 (bk .add 3 9 1),o1 4 (sg 10)] 0 none)
def A17v2:AC:=(.seq (.block 1
 (.seq (.region 5 [mv 11 4,o1 12 (bk .eql 3 11 0),mv 13 12,og 14 (.move (tm 0)) 13 false,og 15 (.move (tm 4)) 13 false,og 16 (.indexAddr 30 55 4 (tm 14) (tm 15)) 13 false,og 17 (fa 55 16 3 3) 13 false,og 18 (lo 3 17) 13 false,og 19 (.move (tm 3)) 13 false,og 20 (bt .gtr 3 18 19) 13 false,o1 21 (pa 13 20)] 0 none) []
  (.cond (tm 21)
  (.region 6 [mv 22 0,mv 23 4,o1 24 (.indexAddr 30 55 4 (tm 22) (tm 23)),o1 25 (fa 55 24 3 3),o1 26 (lo 3 25),o1 3 (sg 26)] 0 none)
  .skip))) (rl 11 16 [])
 A17v1)
def A17v3:AC:=(.seq (.seq (.region 3 [mv 5 4,mv 6 0,o1 7 (.len 30 false (tm 6)),o1 8 (bt .lss 3 5 7)] 0 none) []
 (.cond (tm 8)
 .skip
 (.exit 0 (0 :: 1 :: 2 :: (rl 4 24 []))))) (rl 5 4 [])
 A17v2)
def A17v4:AC:=(.seq (.region 7 [mv 27 3,o1 2 (sg 27)] 0 none) []
 (.ret (0 :: 1 :: (rl 3 25 []))))
def A17:AF:=⟨28,[.tmp 2],
 (.seq (.region 0 [o1 2 (sk 0)] 0 none) []
 (.seq (.region 1 [o1 3 (sk 0)] 0 none) []
 (.seq (.seq (.region 2 [o1 4 (sk 0)] 0 none) []
 (.block 0
 (.loop [] (1 :: 2 :: (rl 5 23 []))
  A17v3))) (rl 4 23 [])
 A17v4)))⟩
def N368v1:St→Option St:=nN 0 (1 :: 2 :: (rl 5 23 []))
def s368v0:St:=⟨(.x (.c (ro kL n0 f0)) :: .u :: .u :: vxi i0 :: vxi i1 :: (us 23 [])),[]⟩
def s368v1:St:=⟨(us 3 (vxi i0 :: (us 24 []))),[]⟩
def L368v1 {ρ:Type} (u:Nat) (x0:Nat) (x1:FF):Nat→Int→Int→(Int→Option ρ)→Option ρ
 | 0,_,_,_=>none
 | m+1,x2,x3,k0 =>
  (bif (decide (x3<(Int.ofNat x0))) then (bif ((x3==0)==false) then (bif (inb x3 x0) then (bif (decide ((x1 x3.toNat 3).int>x2)) then (bif (inb x3 x0) then (L368v1 u x0 x1 m (x1 x3.toNat 3).int (w64 (x3+1)) k0) else none) else (L368v1 u x0 x1 m x2 (w64 (x3+1)) k0)) else none) else (bif (inb x3 x0) then (L368v1 u x0 x1 m (x1 x3.toNat 3).int (w64 (x3+1)) k0) else none)) else (k0 x2))
theorem nl368v1:∀ (m:Nat) (x0 x1:Int) (k0:Int→Option ρ),ob (L368v1 u n0 f0 m x0 x1 k0) ng=L368v1 u n0 f0 m x0 x1 (fun x2=>ob (k0 x2) ng)
 | 0,_,_,_=>rfl
 | m+1,x0,x1,k0=>by
  simp only [L368v1,ob_bif,ob_ob,ob_none,nl368v1 m]
theorem q368v1:∀ (m:Nat) (x0 x1:Int),
  loopH (eB A17v3 (C61 u) u) N368v1 m (s368v0 n0 f0 x0 x1) k=L368v1 u n0 f0 m x0 x1 (fun x2=>k (.exit 0) (s368v1 x2))
 | 0,_,_=>rfl
 | m+1,x0,x1=>by
  simp only [L368v1,← q368v1 m]
  kernel_rfl
def F368 (x0:Nat) (x1:FF):Option (Int) :=
 (L368v1 u x0 x1 u 0 0
  (fun x2=>(some x2)))
def s368v2:St:=⟨[.x (.c (ro kL n0 f0)),uu,vxi 0,vxi 0,vxi 0,uu,uu,uu,uu,uu,uu,uu,uu,uu,uu,uu,uu,uu,uu,uu,uu,uu,uu,uu,uu,uu,uu,uu],[]⟩
theorem t368v1 :
  loopN (eB A17v3 (C61 u) u) N368v1 u (s368v2 n0 f0) k =
  L368v1 u n0 f0 u 0 0 (fun x0=>k (.exit 0) (s368v1 x0)) :=
 Eq.trans (loopN_at (by kernel_rfl)) (q368v1 ..)
theorem g368v2 :
  (kBlk 0 (kSeq (C61 u) u (rl 4 23 []) A17v4 (finish A17))) (.exit 0) (s368v1 i0) =
  (some [.v (vi i0)]):=by kernel_rfl
theorem e368:evalF (C61 u) u A17 [.v (ro kL n0 f0)]=ob (F368 u n0 f0) fun t=>some [.v (vi t)]:=Eq.trans (b:=(loopN (eB A17v3 (C61 u) u) N368v1 u (s368v2 n0 f0) (kBlk 0 (kSeq (C61 u) u (rl 4 23 []) A17v4 (finish A17))))) (by kernel_rfl) (by
 simp only [F368,ob_bif,ob_ob,ob_none,ob_some,nl368v1,t368v1,g368v2])
def O368:Ora:=mkO (q1 (av (cL kL))) (fun x=>F368 u x.1 x.2) fun t=>[.v (vi t)]
theorem d368:DO (O368 u) (C61 u) 17 A17:=dO u (fun x=>by exact e368 u x.1 x.2)
def C62:Oracle:=(C61 u).add 17 (fun _=>true) (O368 u)
def A67v1:AC:=(.region 4 [mv 20 14,o1 21 (bk .add 3 20 1),o1 14 (sg 21)] 0 none)
def A67v2:AC:=(.seq (.block 1
 (.seq (.region 5 [mv 22 1,mv 23 0,mv 24 3,mv 25 14,o1 26 (.indexAddr 30 55 4 (tm 24) (tm 25)),o1 27 (fa 55 26 0 0),o1 28 (lo 9 27),o1 29 (cs 41 [23,28] [29,9]),o1 30 (.indexAddr 72 71 1 (tm 22) (tm 29)),o1 31 (lo 71 30),mv 32 4,o1 33 (.indexAddr 71 4 1 (tm 31) (tm 32)),o1 34 (lo 4 33),mv 35 34,og 36 (.move (tm 3)) 35 false,og 37 (.move (tm 14)) 35 false,og 38 (.indexAddr 30 55 4 (tm 36) (tm 37)) 35 false,og 39 (fa 55 38 1 1) 35 false,og 40 (lo 9 39) 35 false,og 41 (.move (tm 5)) 35 false,og 42 (bt .eql 9 40 41) 35 false,o1 43 (pa 35 42)] 0 none) []
  (.cond (tm 43)
  (.region 6 [mv 44 13,mv 45 3,mv 46 14,o1 47 (.indexAddr 30 55 4 (tm 45) (tm 46)),o1 48 (fa 55 47 3 3),o1 49 (lo 3 48),o1 50 (.mm true [(tm 44),(tm 49)] [3,3]),o1 13 (sg 50)] 0 none)
  .skip))) (rl 22 29 [])
 A67v1)
def A67v3:AC:=(.seq (.seq (.region 3 [mv 16 14,mv 17 3,o1 18 (.len 30 false (tm 17)),o1 19 (bt .lss 3 16 18)] 0 none) []
 (.cond (tm 19)
 .skip
 (.exit 0 (rl 0 13 (rl 14 38 []))))) (rl 16 4 [])
 A67v2)
def A67v4:AC:=(.seq (.region 7 [mv 51 13,o1 12 (sg 51)] 0 none) []
 (.ret (rl 0 12 (rl 13 39 []))))
def A67:AF:=⟨52,[.tmp 12],
 (.seq (.region 0 [o1 12 (sk 0)] 0 none) []
 (.seq (.region 1 [mv 15 2,o1 13 (sg 15)] 0 none) []
 (.seq (.seq (.region 2 [o1 14 (sk 0)] 0 none) []
 (.block 0
 (.loop [] (2 :: (rl 6 7 (rl 15 37 [])))
  A67v3))) (14 :: (rl 16 35 []))
 A67v4)))⟩
def N371v1:St→Option St:=nN 0 (2 :: (rl 6 7 (rl 15 37 [])))
def s371v0:St:=⟨(.x (.c (ro kE n0 f0)) :: .x (.c (ro kJ n1 f1)) :: .u :: .x (.c (ro kL n2 f2)) :: vxi i0 :: vxs w0 :: (us 7 (vxi i1 :: vxi i2 :: (us 37 [])))),[]⟩
def s371v1:St:=⟨(us 13 (vxi i0 :: (us 38 []))),[]⟩
def L371v1 {ρ:Type} (u:Nat) (x0:Nat) (x1:FF) (x2:Nat) (x3:FF) (x4:Nat) (x5:FF) (x6:Int) (x7:ByteArray):Nat→Int→Int→(Int→Option ρ)→Option ρ
 | 0,_,_,_=>none
 | m+1,x8,x9,k0 =>
  (bif (decide (x9<(Int.ofNat x4))) then (bif (inb x9 x4) then (ob (F364 u x0 x1 (x5 x9.toNat 0).str) fun xA=>(bif (inb xA x2) then (bif (inb x6 (x3 xA.toNat 0).len) then (bif (((x3 xA.toNat 0).el x6.toNat 0).bool==false) then (bif (inb x9 x4) then (bif (ByteArray.toList (x5 x9.toNat 1).str==ByteArray.toList x7) then (bif (inb x9 x4) then (L371v1 u x0 x1 x2 x3 x4 x5 x6 x7 m (if (x5 x9.toNat 3).int>x8 then (x5 x9.toNat 3).int else x8) (w64 (x9+1)) k0) else none) else (L371v1 u x0 x1 x2 x3 x4 x5 x6 x7 m x8 (w64 (x9+1)) k0)) else none) else (bif (inb x9 x4) then (L371v1 u x0 x1 x2 x3 x4 x5 x6 x7 m (if (x5 x9.toNat 3).int>x8 then (x5 x9.toNat 3).int else x8) (w64 (x9+1)) k0) else none)) else none) else none)) else none) else (k0 x8))
theorem nl371v1:∀ (m:Nat) (x0 x1:Int) (k0:Int→Option ρ),ob (L371v1 u n0 f0 n1 f1 n2 f2 i0 w0 m x0 x1 k0) ng=L371v1 u n0 f0 n1 f1 n2 f2 i0 w0 m x0 x1 (fun x2=>ob (k0 x2) ng)
 | 0,_,_,_=>rfl
 | m+1,x0,x1,k0=>by
  simp only [L371v1,ob_bif,ob_ob,ob_none,nl371v1 m]
theorem q371v1:∀ (m:Nat) (x0 x1:Int),
  loopH (eB A67v3 (C62 u) u) N371v1 m (s371v0 n0 n1 n2 f0 f1 f2 i0 x0 x1 w0) k=L371v1 u n0 f0 n1 f1 n2 f2 i0 w0 m x0 x1 (fun x2=>k (.exit 0) (s371v1 x2))
 | 0,_,_=>rfl
 | m+1,x0,x1=>by
  simp only [L371v1,← q371v1 m]
  kernel_rfl
def F371 (x0:Nat) (x1:FF) (x2:Nat) (x3:FF) (x4:Int) (x5:Nat) (x6:FF) (x7:Int) (x8:ByteArray):Option (Int) :=
 (L371v1 u x0 x1 x2 x3 x5 x6 x7 x8 u x4 0
  (fun x9=>(some x9)))
def s371v2:St:=⟨[.x (.c (ro kE n0 f0)),.x (.c (ro kJ n1 f1)),vxi i0,.x (.c (ro kL n2 f2)),vxi i1,vxs w0,uu,uu,uu,uu,uu,uu,vxi 0,vxi i0,vxi 0,vxi i0,uu,uu,uu,uu,uu,uu,uu,uu,uu,uu,uu,uu,uu,uu,uu,uu,uu,uu,uu,uu,uu,uu,uu,uu,uu,uu,uu,uu,uu,uu,uu,uu,uu,uu,uu,uu],[]⟩
theorem t371v1 :
  loopN (eB A67v3 (C62 u) u) N371v1 u (s371v2 n0 n1 n2 f0 f1 f2 i0 i1 w0) k =
  L371v1 u n0 f0 n1 f1 n2 f2 i1 w0 u i0 0 (fun x0=>k (.exit 0) (s371v1 x0)) :=
 Eq.trans (loopN_at (by kernel_rfl)) (q371v1 ..)
theorem g371v2 :
  (kBlk 0 (kSeq (C62 u) u (14 :: (rl 16 35 [])) A67v4 (finish A67))) (.exit 0) (s371v1 i0) =
  (some [.v (vi i0)]):=by kernel_rfl
theorem e371:evalF (C62 u) u A67 [.v (ro kE n0 f0),.v (ro kJ n1 f1),.v (vi i0),.v (ro kL n2 f2),.v (vi i1),.v (.s w0)]=ob (F371 u n0 f0 n1 f1 i0 n2 f2 i1 w0) fun t=>some [.v (vi t)]:=Eq.trans (b:=(loopN (eB A67v3 (C62 u) u) N371v1 u (s371v2 n0 n1 n2 f0 f1 f2 i0 i1 w0) (kBlk 0 (kSeq (C62 u) u (14 :: (rl 16 35 [])) A67v4 (finish A67))))) (by kernel_rfl) (by
 simp only [F371,ob_bif,ob_ob,ob_none,ob_some,nl371v1,t371v1,g371v2])
def O371:Ora:=mkO (qc (av (cL kE)) (qc (av (cL kJ)) (qc (av ci) (qc (av (cL kL)) (qc (av ci) (q1 (av cS))))))) (fun x=>F371 u x.1.1 x.1.2 x.2.1.1 x.2.1.2 x.2.2.1 x.2.2.2.1.1 x.2.2.2.1.2 x.2.2.2.2.1 x.2.2.2.2.2) fun t=>[.v (vi t)]
theorem d371:DO (O371 u) (C62 u) 67 A67:=dO u (fun x=>by exact e371 u x.1.1 x.2.1.1 x.2.2.2.1.1 x.1.2 x.2.1.2 x.2.2.2.1.2 x.2.2.1 x.2.2.2.2.1 x.2.2.2.2.2)
def C63:Oracle:=(C62 u).add 67 (fun _=>true) (O371 u)
def A47:AF:=⟨36,[.cell 12 55 (some 4)],
 (.seq (.region 0 [o1 12 (.alloc 0 55 [vcs ByteArray.empty,vcs ByteArray.empty,vci 0,vci 0])] 1 none) []
 (.seq (.region 1 [mv 14 0,mv 15 1,mv 16 2,mv 17 3,mv 18 4,mv 19 5,o1 20 (cs 67 [14,15,16,17,18,19] [29,72,3,30,3,9]),o1 13 (sg 20)] 0 none) []
 (.seq (.region 2 [mv 21 0,mv 22 4,o1 23 (.indexAddr 29 53 3 (tm 21) (tm 22)),o1 24 (fa 53 23 0 0),o1 25 (lo 9 24),mv 26 5,mv 27 13,mv 28 13,mv 29 0,mv 30 4,o1 31 (.indexAddr 29 53 3 (tm 29) (tm 30)),o1 32 (fa 53 31 1 1),o1 33 (lo 3 32),o1 34 (bt .add 3 28 33),o1 35 (.build 55 [vcs ByteArray.empty,vcs ByteArray.empty,vci 0,vci 0] [(0,1),(1,1),(2,1),(3,1)] 0 [(0,(tm 25)),(1,(tm 26)),(2,(tm 27)),(3,(tm 34))]),o0 (.store 55 4 (tm 12) (tm 35))] 0 (some [[],[],[0,1],[0,1,2],(rl 0 4 []),[],[],[],[],[],[8,9],[8,9,10],(rl 8 4 []),(rl 7 6 []),(rl 0 14 []),(rl 0 15 [])])) []
 (.ret (rl 0 12 (rl 13 23 []))))))⟩
def F372 (x0:Nat) (x1:FF) (x2:Nat) (x3:FF) (x4:Int) (x5:Nat) (x6:FF) (x7:Int) (x8:ByteArray):Option (ByteArray × ByteArray × Int × Int) :=
 (ob (F371 u x0 x1 x2 x3 x4 x5 x6 x7 x8) fun x9=>(bif (inb x7 x0) then (bif (inb x7 x0) then (some ((x1 x7.toNat 0).str,x8,x9,(w64 (x9+(x1 x7.toNat 1).int)))) else none) else none))
theorem e372:evalF (C63 u) u A47 [.v (ro kE n0 f0),.v (ro kJ n1 f1),.v (vi i0),.v (ro kL n2 f2),.v (vi i1),.v (.s w0)]=ob (F372 u n0 f0 n1 f1 i0 n2 f2 i1 w0) fun t=>some [.agg [(.s t.1),(.s t.2.1),(vi t.2.2.1),(vi t.2.2.2)]]:=by
 simp only [F372,ob_bif,ob_ob,ob_none,ob_some]
 kernel_rfl
def O372:Ora:=mkO (qc (av (cL kE)) (qc (av (cL kJ)) (qc (av ci) (qc (av (cL kL)) (qc (av ci) (q1 (av cS))))))) (fun x=>F372 u x.1.1 x.1.2 x.2.1.1 x.2.1.2 x.2.2.1 x.2.2.2.1.1 x.2.2.2.1.2 x.2.2.2.2.1 x.2.2.2.2.2) fun t=>[.agg [(.s t.1),(.s t.2.1),(vi t.2.2.1),(vi t.2.2.2)]]
theorem d372:DO (O372 u) (C63 u) 47 A47:=dO u (fun x=>by exact e372 u x.1.1 x.2.1.1 x.2.2.2.1.1 x.1.2 x.2.1.2 x.2.2.2.1.2 x.2.2.1 x.2.2.2.2.1 x.2.2.2.2.2)
def C64:Oracle:=(C63 u).add 47 (fun _=>true) (O372 u)
def A53v1:AC:=(.seq (.block 1
 (.region 15 [mv 62 11,mv 63 0,mv 64 3,mv 65 12,o1 66 (.indexAddr 30 55 4 (tm 64) (tm 65)),o1 67 (fa 55 66 0 0),o1 68 (lo 9 67),o1 69 (cs 41 [63,68] [29,9]),o1 70 (.indexAddr 71 4 1 (tm 62) (tm 69)),o0 (.store 4 1 (tm 70) (.const (.bool true)))] 0 none)) []
 (.region 14 [mv 60 12,o1 61 (bk .add 3 60 1),o1 12 (sg 61)] 0 none))
def A53v2:AC:=(.seq (.seq (.region 13 [mv 56 12,mv 57 3,o1 58 (.len 30 false (tm 57)),o1 59 (bt .lss 3 56 58)] 0 none) []
 (.cond (tm 59)
 .skip
 (.exit 0 (rl 4 5 (rl 12 132 []))))) (rl 56 4 [])
 A53v1)
def A53v3:AC:=(.seq (.block 5
 (.region 23 [mv 88 14,mv 89 88,og 90 (.move (tm 1)) 89 true,og 91 (.move (tm 15)) 89 true,og 92 (.indexAddr 72 71 1 (tm 90) (tm 91)) 89 true,og 93 (lo 71 92) 89 true,og 94 (.move (tm 13)) 89 true,og 95 (.indexAddr 71 4 1 (tm 93) (tm 94)) 89 true,og 96 (lo 4 95) 89 true,og 97 (.unOp .not 4 (tm 96)) 89 true,og 98 (.move (tm 97)) 89 true,og 99 (.move (tm 11)) 98 false,og 100 (.move (tm 15)) 98 false,og 101 (.indexAddr 71 4 1 (tm 99) (tm 100)) 98 false,og 102 (lo 4 101) 98 false,og 103 (pa 98 102) 89 true,o1 104 (po 89 103),o1 14 (sg 104)] 0 none)) []
 (.region 22 [mv 86 15,o1 87 (bk .add 3 86 1),o1 15 (sg 87)] 0 none))
def A53v4:AC:=(.seq (.seq (.region 21 [mv 82 15,mv 83 0,o1 84 (.len 29 false (tm 83)),o1 85 (bt .lss 3 82 84)] 0 none) []
 (.cond (tm 85)
 .skip
 (.exit 4 (rl 4 5 (12 :: (rl 15 129 [])))))) (rl 82 4 [])
 A53v3)
def A53v5:AC:=(.seq (.block 7
 (.seq (.region 27 [mv 118 0,mv 119 1,mv 120 2,mv 121 3,mv 122 13,mv 123 0,mv 124 13,o1 125 (.indexAddr 29 53 3 (tm 123) (tm 124)),o1 126 (fa 53 125 2 2),o1 127 (lo 51 126),mv 128 16,o1 129 (.indexAddr 51 9 1 (tm 127) (tm 128)),o1 130 (lo 9 129),o1 131 (cs 47 [118,119,120,121,122,130] [29,72,3,30,3,9]),o1 17 (.alloc 0 55 [vcs ByteArray.empty,vcs ByteArray.empty,vci 0,vci 0]),o0 (.store 55 4 (tm 17) (tm 131))] 1 none) []
  (.region 28 [mv 132 0,mv 133 1,mv 134 2,o1 135 (.buildSlice 0 30 55 kL 0 [vcs ByteArray.empty,vcs ByteArray.empty,vci 0,vci 0] []),mv 136 3,o1 137 (.append 1 30 55 kL 48 (tm 135) (tm 136)),o1 138 (ln 55 4 17),o1 139 (.buildSlice 2 30 55 kL 1 [vcs ByteArray.empty,vcs ByteArray.empty,vci 0,vci 0] [(0,(tm 138))]),o1 140 (.append 3 30 55 kL 48 (tm 137) (tm 139)),o1 141 (ln 96 4 9),o1 142 (cf 53 [132,133,134,140,141] [29,72,3,30,96]),o0 (.store 96 4 (tm 9) (tm 142))] 4 (some [[],[],[],[],[],[3,4],[],[6],(rl 3 5 []),[],(rl 0 10 []),(rl 0 11 [])])))) []
 (.region 26 [mv 116 16,o1 117 (bk .add 3 116 1),o1 16 (sg 117)] 0 none))
def A53v6:AC:=(.seq (.seq (.region 25 [mv 105 16,mv 106 0,mv 107 13,o1 108 (.indexAddr 29 53 3 (tm 106) (tm 107)),o1 109 (fa 53 108 2 2),o1 110 (lo 51 109),o1 111 (.len 51 false (tm 110)),o1 112 (bt .lss 3 105 111),mv 113 112,og 114 (.move (tm 14)) 113 true,o1 115 (po 113 114)] 0 none) []
 (.cond (tm 115)
 .skip
 (.exit 6 (rl 4 5 (12 :: (rl 14 130 [])))))) (rl 105 11 [])
 A53v5)
def A53v7:AC:=(.seq (.region 24 [o1 16 (sk 0)] 0 none) []
 (.block 6
 (.loop [] (rl 4 5 (12 :: 15 :: (rl 17 127 [])))
  A53v6)))
def A53v8:AC:=(.region 18 [mv 75 13,o1 76 (bk .add 3 75 1),o1 13 (sg 76)] 0 none)
def A53v9:AC:=(.seq (.block 3
 (.seq (.region 19 [mv 77 11,mv 78 13,o1 79 (.indexAddr 71 4 1 (tm 77) (tm 78)),o1 80 (lo 4 79),o1 81 (.unOp .not 4 (tm 80)),o1 14 (sg 81)] 0 none) []
  (.seq (.seq (.region 20 [o1 15 (sk 0)] 0 none) []
  (.block 4
  (.loop [] (rl 4 5 (12 :: (rl 16 128 [])))
   A53v4))) (15 :: (rl 82 23 []))
  A53v7))) (rl 14 4 (rl 77 66 []))
 A53v8)
def A53v10:AC:=(.seq (.seq (.region 17 [mv 71 13,mv 72 0,o1 73 (.len 29 false (tm 72)),o1 74 (bt .lss 3 71 73)] 0 none) []
 (.cond (tm 74)
 .skip
 (.exit 2 (rl 0 9 (rl 11 133 []))))) (rl 71 4 [])
 A53v9)
def A53v11:AC:=(.seq (.region 29 [o1 143 (ln 96 4 9),o0 (.store 96 4 (tm 10) (tm 143))] 0 none) []
 (.ret (rl 0 10 (rl 11 133 []))))
def A53v12:AC:=(.seq (.seq (.region 16 [o1 13 (sk 0)] 0 none) []
 (.block 2
 (.loop [] (rl 4 5 (12 :: (rl 14 130 [])))
  A53v10))) (rl 13 5 (rl 71 72 []))
 A53v11)
def A53v13:AC:=(.seq (.region 10 [o1 49 (fa 96 9 2 2),o1 50 (lo 3 49),o1 51 (bk .sub 3 50 1),o1 52 (fa 96 9 2 2),o0 (.store 3 1 (tm 52) (tm 51))] 0 none) []
 (.seq (.region 11 [mv 53 0,o1 54 (.len 29 false (tm 53)),o1 55 (.makeSlice 0 71 4 kN 1 [(.b false)] (tm 54) (tm 54)),o1 11 (sg 55)] 1 none) []
 (.seq (.seq (.region 12 [o1 12 (sk 0)] 0 none) []
 (.block 0
 (.loop [] (rl 4 5 (rl 13 131 []))
  A53v2))) (12 :: (rl 56 15 []))
 A53v12)))
def A53v14:AC:=(.seq (.seq (.region 7 [o1 44 (fa 96 9 2 2),o1 45 (lo 3 44),o1 46 (bk .leq 3 45 0)] 0 none) []
 (.cond (tm 46)
 (.seq (.region 8 [o1 47 (fa 96 9 3 3),o0 (.store 4 1 (tm 47) (.const (.bool true)))] 0 none) []
  (.seq (.region 9 [o1 48 (ln 96 4 9),o0 (.store 96 4 (tm 10) (tm 48))] 0 none) []
  (.ret (rl 0 10 (rl 11 133 [])))))
 .skip)) (rl 44 5 [])
 A53v13)
def A53v15:AC:=(.seq (.seq (.region 3 [mv 33 3,o1 34 (.len 30 false (tm 33)),mv 35 0,o1 36 (.len 29 false (tm 35)),o1 37 (bt .eql 3 34 36)] 0 none) []
 (.cond (tm 37)
 (.seq (.region 4 [o1 38 (.buildSlice 0 30 55 kL 0 [vcs ByteArray.empty,vcs ByteArray.empty,vci 0,vci 0] []),mv 39 3,o1 40 (.append 1 30 55 kL 48 (tm 38) (tm 39)),o1 41 (fa 96 9 0 0),o0 (.store 30 1 (tm 41) (tm 40))] 2 none) []
  (.seq (.region 5 [o1 42 (fa 96 9 1 1),o0 (.store 4 1 (tm 42) (.const (.bool true)))] 0 none) []
  (.seq (.region 6 [o1 43 (ln 96 4 9),o0 (.store 96 4 (tm 10) (tm 43))] 0 none) []
  (.ret (rl 0 10 (rl 11 133 []))))))
 .skip)) (rl 33 11 [])
 A53v14)
def A53:AF:=⟨144,[.cell 10 96 (some 4)],
 (.seq (.region 0 [o1 9 (bx 0 96 4),o1 10 (.alloc 1 96 [vcn,vcb false,vci 0,vcb false])] 2 none) []
 (.seq (.seq (.region 1 [o1 18 (fa 96 9 3 3),o1 19 (lo 4 18),mv 20 19,og 21 (fa 96 9 1 1) 20 false,og 22 (lo 4 21) 20 false,og 23 (.move (tm 22)) 20 false,og 24 (.move (tm 3)) 23 true,og 25 (cs 17 [24] [30]) 23 true,og 26 (fa 96 9 0 0) 23 true,og 27 (lo 30 26) 23 true,og 28 (cs 17 [27] [30]) 23 true,og 29 (bt .geq 3 25 28) 23 true,og 30 (po 23 29) 20 false,o1 31 (pa 20 30)] 0 (some [[],[0],[0,1],[0,1,2],(rl 0 4 []),(rl 0 5 []),(rl 0 6 []),(rl 0 7 []),(rl 0 6 []),(rl 0 6 [8]),(rl 0 10 []),(rl 0 11 []),(rl 0 12 []),(rl 0 13 [])])) []
 (.cond (tm 31)
 (.seq (.region 2 [o1 32 (ln 96 4 9),o0 (.store 96 4 (tm 10) (tm 32))] 0 none) []
  (.ret (rl 0 10 (rl 11 133 []))))
 .skip)) (rl 18 15 [])
 A53v15))⟩
abbrev T377:Type:=((Nat × FF) × ((Nat × FF) × (Int × ((Nat × FF) × ((Nat × FF) × (Bool × (Int × Bool)))))))
abbrev OR377 (R:T377→Option (Nat × FF × Bool × Int × Bool)):Ora:=mkO (qc (av (cL (.pr .str (.pr (.int .i64) (.pr (.sl (.pr .str .nil)) .nil))))) (qc (av (cL (.pr (.sl (.pr .bool .nil)) .nil))) (qc (av ci) (qc (av (cL (.pr .str (.pr .str kP)))) (q1 (ag (tc (cL (.pr .str (.pr .str kP))) (tc cB (tc ci (t1 cB)))))))))) R fun t=>[.agg [(.ro false (.pr .str (.pr .str kP)) t.1 t.2.1),(.b t.2.2.1),(vi t.2.2.2.1),(.b t.2.2.2.2)]]
abbrev CR377 (fuel:Nat) (R:T377→Option (Nat × FF × Bool × Int × Bool)):Oracle:=(C64 fuel).add 53 (fun _=>true) (OR377 R)
def N377v1:St→Option St:=nN 3 (rl 4 5 (rl 13 131 []))
def s377v0:St:=⟨(.x (.c (ro kE n0 f0)) :: .x (.c (ro kJ n1 f1)) :: vxi i0 :: .x (.c (ro kL n2 f2)) :: (us 5 (.x (.ptr 0 0) :: .x (.ptr 1 0) :: .x (.own 2 0 n3) :: vxi i1 :: (us 131 [])))),[.box [(.c (ro kL n4 f3)),(vcb b0),(vci i2),(vcb b1)],.box [(vcn),(vcb false),(vci 0),(vcb false)],.arr kN n3 f4]⟩
def s377v1:St:=⟨(.x (.c (ro kE n0 f0)) :: .x (.c (ro kJ n1 f1)) :: vxi i0 :: .x (.c (ro kL n2 f2)) :: (us 5 (.x (.ptr 0 0) :: .x (.ptr 1 0) :: .x (.own 2 0 n3) :: (us 132 [])))),[.box [(.c (ro kL n4 f3)),(vcb b0),(vci i1),(vcb b1)],.box [(vcn),(vcb false),(vci 0),(vcb false)],.arr kN n3 f4]⟩
def L377v1 {ρ:Type} (u:Nat) (R:T377→Option (Nat × FF × Bool × Int × Bool)) (x0:Nat) (x1:FF) (x2:Nat) (x3:FF) (x4:Int) (x5:Nat) (x6:FF) (x7 x8:Nat) (x9:FF) (xA:Bool) (xB:Int) (xC:Bool):Nat→Int→FF→(FF→Option ρ)→Option ρ
 | 0,_,_,_=>none
 | m+1,xD,xE,k0 =>
  (bif (decide (xD<(Int.ofNat x5))) then (bif (inb xD x5) then (ob (F364 u x0 x1 (x6 xD.toNat 0).str) fun xF=>(bif (inb xF x7) then (L377v1 u R x0 x1 x2 x3 x4 x5 x6 x7 x8 x9 xA xB xC m (w64 (xD+1)) (setF xE (0+xF.toNat) 0 1 (listF [(.b true)])) k0) else none)) else none) else (k0 xE))
theorem nl377v1 (R:T377→Option (Nat × FF × Bool × Int × Bool)):∀ (m:Nat) (x0:Int) (x1:FF) (k0:FF→Option ρ),ob (L377v1 u R n0 f0 n1 f1 i0 n2 f2 n3 n4 f3 b0 i1 b1 m x0 x1 k0) ng=L377v1 u R n0 f0 n1 f1 i0 n2 f2 n3 n4 f3 b0 i1 b1 m x0 x1 (fun x2=>ob (k0 x2) ng)
 | 0,_,_,_=>rfl
 | m+1,x0,x1,k0=>by
  simp only [L377v1,ob_bif,ob_ob,ob_none,nl377v1 R m]
theorem q377v1 (R:T377→Option (Nat × FF × Bool × Int × Bool)):∀ (m:Nat) (x0:Int) (x1:FF),
  loopH (eB A53v2 (CR377 u R) u) N377v1 m (s377v0 n0 n1 n2 n3 n4 f0 f1 f2 f3 x1 i0 x0 i1 b0 b1) k=L377v1 u R n0 f0 n1 f1 i0 n2 f2 n3 n4 f3 b0 i1 b1 m x0 x1 (fun x2=>k (.exit 0) (s377v1 n0 n1 n2 n3 n4 f0 f1 f2 f3 x2 i0 i1 b0 b1))
 | 0,_,_=>rfl
 | m+1,x0,x1=>by
  simp only [L377v1,← q377v1 R m]
  kernel_rfl
def N377v4:St→Option St:=nN 3 (rl 4 5 (12 :: (rl 16 128 [])))
def s377v2:St:=⟨(.x (.c (ro kE n0 f0)) :: .x (.c (ro kJ n1 f1)) :: vxi i0 :: .x (.c (ro kL n2 f2)) :: (us 5 (.x (.ptr 0 0) :: .x (.ptr 1 0) :: .x (.own 2 0 n3) :: .u :: vxi i1 :: vxb b0 :: vxi i2 :: (us 128 [])))),[.box [(.c (ro kL n4 f3)),(vcb b1),(vci i3),(vcb b2)],.box [(vcn),(vcb false),(vci 0),(vcb false)],.arr kN n3 f4]⟩
def s377v3:St:=⟨(.x (.c (ro kE n0 f0)) :: .x (.c (ro kJ n1 f1)) :: vxi i0 :: .x (.c (ro kL n2 f2)) :: (us 5 (.x (.ptr 0 0) :: .x (.ptr 1 0) :: .x (.own 2 0 n3) :: .u :: vxi i1 :: vxb b0 :: (us 129 [])))),[.box [(.c (ro kL n4 f3)),(vcb b1),(vci i2),(vcb b2)],.box [(vcn),(vcb false),(vci 0),(vcb false)],.arr kN n3 f4]⟩
def L377v4 {ρ:Type} (u:Nat) (R:T377→Option (Nat × FF × Bool × Int × Bool)) (x0:Nat) (x1:FF) (x2:Nat) (x3:FF) (x4:Int) (x5:Nat) (x6:FF) (x7:Nat) (x8:Int) (x9:Nat) (xA:FF) (xB:Bool) (xC:Int) (xD:Bool) (xE:FF):Nat→Bool→Int→(Bool→Option ρ)→Option ρ
 | 0,_,_,_=>none
 | m+1,xF,xG,k0 =>
  (bif (decide (xG<(Int.ofNat x0))) then (bif (xF==true) then (bif (inb xG x2) then (bif (inb x8 (x3 xG.toNat 0).len) then (bif ((!((x3 xG.toNat 0).el x8.toNat 0).bool)==false) then (bif (inb xG x7) then (L377v4 u R x0 x1 x2 x3 x4 x5 x6 x7 x8 x9 xA xB xC xD xE m (xE (0+xG.toNat) 0).bool (w64 (xG+1)) k0) else none) else (L377v4 u R x0 x1 x2 x3 x4 x5 x6 x7 x8 x9 xA xB xC xD xE m true (w64 (xG+1)) k0)) else none) else none) else (L377v4 u R x0 x1 x2 x3 x4 x5 x6 x7 x8 x9 xA xB xC xD xE m false (w64 (xG+1)) k0)) else (k0 xF))
theorem nl377v4 (R:T377→Option (Nat × FF × Bool × Int × Bool)):∀ (m:Nat) (x0:Bool) (x1:Int) (k0:Bool→Option ρ),ob (L377v4 u R n0 f0 n1 f1 i0 n2 f2 n3 i1 n4 f3 b0 i2 b1 f4 m x0 x1 k0) ng=L377v4 u R n0 f0 n1 f1 i0 n2 f2 n3 i1 n4 f3 b0 i2 b1 f4 m x0 x1 (fun x2=>ob (k0 x2) ng)
 | 0,_,_,_=>rfl
 | m+1,x0,x1,k0=>by
  simp only [L377v4,ob_bif,ob_ob,ob_none,nl377v4 R m]
theorem q377v4 (R:T377→Option (Nat × FF × Bool × Int × Bool)):∀ (m:Nat) (x0:Bool) (x1:Int),
  loopH (eB A53v4 (CR377 u R) u) N377v4 m (s377v2 n0 n1 n2 n3 n4 f0 f1 f2 f3 f4 i0 i1 x1 i2 x0 b0 b1) k=L377v4 u R n0 f0 n1 f1 i0 n2 f2 n3 i1 n4 f3 b0 i2 b1 f4 m x0 x1 (fun x2=>k (.exit 4) (s377v3 n0 n1 n2 n3 n4 f0 f1 f2 f3 f4 i0 i1 i2 x2 b0 b1))
 | 0,_,_=>rfl
 | m+1,x0,x1=>by
  simp only [L377v4,← q377v4 R m]
  kernel_rfl
def N377v5:St→Option St:=nN 3 (rl 4 5 (12 :: 15 :: (rl 17 127 [])))
def s377v4:St:=⟨(.x (.c (ro kE n0 f0)) :: .x (.c (ro kJ n1 f1)) :: vxi i0 :: .x (.c (ro kL n2 f2)) :: (us 5 (.x (.ptr 0 0) :: .x (.ptr 1 0) :: .x (.own 2 0 n3) :: .u :: vxi i1 :: vxb b0 :: .u :: vxi i2 :: (us 127 [])))),[.box [(.c (ro kL n4 f3)),(vcb b1),(vci i3),(vcb b2)],.box [(vcn),(vcb false),(vci 0),(vcb false)],.arr kN n3 f4]⟩
def s377v5:St:=⟨(.x (.c (ro kE n0 f0)) :: .x (.c (ro kJ n1 f1)) :: vxi i0 :: .x (.c (ro kL n2 f2)) :: (us 5 (.x (.ptr 0 0) :: .x (.ptr 1 0) :: .x (.own 2 0 n3) :: .u :: vxi i1 :: (us 130 [])))),[.box [(.c (ro kL n4 f3)),(vcb b0),(vci i2),(vcb b1)],.box [(vcn),(vcb false),(vci 0),(vcb false)],.arr kN n3 f4]⟩
def L377v5 {ρ:Type} (u:Nat) (R:T377→Option (Nat × FF × Bool × Int × Bool)) (x0:Nat) (x1:FF) (x2:Nat) (x3:FF) (x4:Int) (x5:Nat) (x6:FF) (x7:Nat) (x8:Int) (x9:Bool) (xA:FF):Nat→Int→Nat→FF→Bool→Int→Bool→(Nat→FF→Bool→Int→Bool→Option ρ)→Option ρ
 | 0,_,_,_,_,_,_,_=>none
 | m+1,xB,xC,xD,xE,xF,xG,k0 =>
  (bif (inb x8 x0) then (bif ((decide (xB<(Int.ofNat (x1 x8.toNat 2).len)))==true) then (bif x9 then (bif (inb x8 x0) then (bif (inb xB (x1 x8.toNat 2).len) then (ob (F372 u x0 x1 x2 x3 x4 x5 x6 x8 ((x1 x8.toNat 2).el xB.toNat 0).str) fun xH=>(bif (Nat.ble (0+x5) 1073741824) then (bif (Nat.ble ((0+x5)+1) 1073741824) then (ob (R ((x0,x1),((x2,x3),(x4,((((0+x5)+1),(joinF (0+x5) (joinF 0 (rowsF 4 []) x6) (rowsF 4 [(.s xH.1),(.s xH.2.1),(.i .i64 xH.2.2.1),(.i .i64 xH.2.2.2)]))),((xC,xD),(xE,(xF,xG)))))))) fun xI=>(L377v5 u R x0 x1 x2 x3 x4 x5 x6 x7 x8 x9 xA m (w64 (xB+1)) xI.1 xI.2.1 xI.2.2.1 xI.2.2.2.1 xI.2.2.2.2 k0)) else none) else none)) else none) else none) else (k0 xC xD xE xF xG)) else (k0 xC xD xE xF xG)) else none)
theorem nl377v5 (R:T377→Option (Nat × FF × Bool × Int × Bool)):∀ (m:Nat) (x0:Int) (x1:Nat) (x2:FF) (x3:Bool) (x4:Int) (x5:Bool) (k0:Nat→FF→Bool→Int→Bool→Option ρ),ob (L377v5 u R n0 f0 n1 f1 i0 n2 f2 n3 i1 b0 f3 m x0 x1 x2 x3 x4 x5 k0) ng=L377v5 u R n0 f0 n1 f1 i0 n2 f2 n3 i1 b0 f3 m x0 x1 x2 x3 x4 x5 (fun x6 x7 x8 x9 xA=>ob (k0 x6 x7 x8 x9 xA) ng)
 | 0,_,_,_,_,_,_,_=>rfl
 | m+1,x0,x1,x2,x3,x4,x5,k0=>by
  simp only [L377v5,ob_bif,ob_ob,ob_none,nl377v5 R m]
theorem q377v5 (R:T377→Option (Nat × FF × Bool × Int × Bool)):∀ (m:Nat) (x0:Int) (x1:Nat) (x2:FF) (x3:Bool) (x4:Int) (x5:Bool),
  loopH (eB A53v6 (CR377 u R) u) N377v5 m (s377v4 n0 n1 n2 n3 x1 f0 f1 f2 x2 f3 i0 i1 x0 x4 b0 x3 x5) k=L377v5 u R n0 f0 n1 f1 i0 n2 f2 n3 i1 b0 f3 m x0 x1 x2 x3 x4 x5 (fun x6 x7 x8 x9 xA=>k (.exit 6) (s377v5 n0 n1 n2 n3 x6 f0 f1 f2 x7 f3 i0 i1 x9 x8 xA))
 | 0,_,_,_,_,_,_=>rfl
 | m+1,x0,x1,x2,x3,x4,x5=>by
  simp only [L377v5,← q377v5 R m]
  kernel_rfl
def N377v6:St→Option St:=nN 3 (rl 4 5 (12 :: (rl 14 130 [])))
def s377v6:St:=⟨(.x (.c (ro kE n0 f0)) :: .x (.c (ro kJ n1 f1)) :: vxi i0 :: .x (.c (ro kL n2 f2)) :: (us 5 (.x (.ptr 0 0) :: .x (.ptr 1 0) :: .x (.own 2 0 n3) :: .u :: vxi i1 :: (us 130 [])))),[.box [(.c (ro kL n4 f3)),(vcb b0),(vci i2),(vcb b1)],.box [(vcn),(vcb false),(vci 0),(vcb false)],.arr kN n3 f4]⟩
def s377v7:St:=⟨(us 9 (.x (.ptr 0 0) :: .x (.ptr 1 0) :: (us 133 []))),[.box [(.c (ro kL n0 f0)),(vcb b0),(vci i0),(vcb b1)],.box [(vcn),(vcb false),(vci 0),(vcb false)],.arr kN n1 f1]⟩
def L377v6 {ρ:Type} (u:Nat) (R:T377→Option (Nat × FF × Bool × Int × Bool)) (x0:Nat) (x1:FF) (x2:Nat) (x3:FF) (x4:Int) (x5:Nat) (x6:FF) (x7:Nat) (x8:FF):Nat→Int→Nat→FF→Bool→Int→Bool→(Nat→FF→Bool→Int→Bool→Option ρ)→Option ρ
 | 0,_,_,_,_,_,_,_=>none
 | m+1,x9,xA,xB,xC,xD,xE,k0 =>
  (bif (decide (x9<(Int.ofNat x0))) then (bif (inb x9 x7) then (L377v4 u R x0 x1 x2 x3 x4 x5 x6 x7 x9 xA xB xC xD xE x8 u (!(x8 (0+x9.toNat) 0).bool) 0
  (fun xF=>(L377v5 u R x0 x1 x2 x3 x4 x5 x6 x7 x9 xF x8 u 0 xA xB xC xD xE
  (fun xG xH xI xJ xK=>(L377v6 u R x0 x1 x2 x3 x4 x5 x6 x7 x8 m (w64 (x9+1)) xG xH xI xJ xK k0))))) else none) else (k0 xA xB xC xD xE))
theorem nl377v6 (R:T377→Option (Nat × FF × Bool × Int × Bool)):∀ (m:Nat) (x0:Int) (x1:Nat) (x2:FF) (x3:Bool) (x4:Int) (x5:Bool) (k0:Nat→FF→Bool→Int→Bool→Option ρ),ob (L377v6 u R n0 f0 n1 f1 i0 n2 f2 n3 f3 m x0 x1 x2 x3 x4 x5 k0) ng=L377v6 u R n0 f0 n1 f1 i0 n2 f2 n3 f3 m x0 x1 x2 x3 x4 x5 (fun x6 x7 x8 x9 xA=>ob (k0 x6 x7 x8 x9 xA) ng)
 | 0,_,_,_,_,_,_,_=>rfl
 | m+1,x0,x1,x2,x3,x4,x5,k0=>by
  simp only [L377v6,ob_bif,ob_ob,ob_none,nl377v6 R m,nl377v4,nl377v5]
def s377v8:St:=⟨(.x (.c (ro kE n0 f0)) :: .x (.c (ro kJ n1 f1)) :: vxi i0 :: .x (.c (ro kL n2 f2)) :: (us 5 (.x (.ptr 0 0) :: .x (.ptr 1 0) :: .x (.own 2 0 n3) :: .u :: vxi i1 :: vxb (!(f3 (0+i1.toNat) 0).bool) :: vxi 0 :: (us 61 (.x (.own 2 0 n3) :: vxi i1 :: .x (.aptr 2 (0+i1.toNat) 0) :: vxb (f3 (0+i1.toNat) 0).bool :: vxb (!(f3 (0+i1.toNat) 0).bool) :: (us 62 [])))))),[.box [(.c (ro kL n4 f4)),(vcb b0),(vci i2),(vcb b1)],.box [(vcn),(vcb false),(vci 0),(vcb false)],.arr kN n3 f3]⟩
theorem r377v6 (R:T377→Option (Nat × FF × Bool × Int × Bool)) :
  loopH (eB A53v10 (CR377 u R) u) N377v6 (m+1) (s377v6 n0 n1 n2 n3 n4 f0 f1 f2 f4 f3 i0 i1 i2 b0 b1) k =
  (bif (decide (i1<(Int.ofNat n0))) then (bif (inb i1 n3) then (loopN (eB A53v4 (CR377 u R) u) N377v4 u (s377v8 n0 n1 n2 n3 n4 f0 f1 f2 f3 f4 i0 i1 i2 b0 b1) (kBlk 4 (kSeq (CR377 u R) u (15 :: (rl 82 23 [])) A53v7 (kBlk 3 (kSeq (CR377 u R) u (rl 14 4 (rl 77 66 [])) A53v8 (kLoop (eB A53v10 (CR377 u R) u) N377v6 m k)))))) else none) else (k (.exit 2) (s377v7 n4 n3 f4 f3 i2 b0 b1))):=by kernel_rfl
theorem t377v1 (R:T377→Option (Nat × FF × Bool × Int × Bool)) :
  loopN (eB A53v4 (CR377 u R) u) N377v4 u (s377v8 n0 n1 n2 n3 n4 f0 f1 f2 f3 f4 i0 i1 i2 b0 b1) k =
  L377v4 u R n0 f0 n1 f1 i0 n2 f2 n3 i1 n4 f4 b0 i2 b1 f3 u (!(f3 (0+i1.toNat) 0).bool) 0 (fun x0=>k (.exit 4) (s377v3 n0 n1 n2 n3 n4 f0 f1 f2 f4 f3 i0 i1 i2 x0 b0 b1)) :=
 Eq.trans (loopN_at (by kernel_rfl)) (q377v4 ..)
def s377v9:St:=⟨(.x (.c (ro kE n0 f0)) :: .x (.c (ro kJ n1 f1)) :: vxi i0 :: .x (.c (ro kL n2 f2)) :: (us 5 (.x (.ptr 0 0) :: .x (.ptr 1 0) :: .x (.own 2 0 n3) :: .u :: vxi i1 :: vxb b0 :: .u :: vxi 0 :: (us 127 [])))),[.box [(.c (ro kL n4 f3)),(vcb b1),(vci i2),(vcb b2)],.box [(vcn),(vcb false),(vci 0),(vcb false)],.arr kN n3 f4]⟩
theorem g377v2 (R:T377→Option (Nat × FF × Bool × Int × Bool)) :
  (kBlk 4 (kSeq (CR377 u R) u (15 :: (rl 82 23 [])) A53v7 (kBlk 3 (kSeq (CR377 u R) u (rl 14 4 (rl 77 66 [])) A53v8 (kLoop (eB A53v10 (CR377 u R) u) N377v6 m k))))) (.exit 4) (s377v3 n0 n1 n2 n3 n4 f0 f1 f2 f3 f4 i0 i1 i2 b0 b1 b2) =
  (loopN (eB A53v6 (CR377 u R) u) N377v5 u (s377v9 n0 n1 n2 n3 n4 f0 f1 f2 f3 f4 i0 i1 i2 b0 b1 b2) (kBlk 6 (kBlk 3 (kSeq (CR377 u R) u (rl 14 4 (rl 77 66 [])) A53v8 (kLoop (eB A53v10 (CR377 u R) u) N377v6 m k))))):=by kernel_rfl
theorem t377v3 (R:T377→Option (Nat × FF × Bool × Int × Bool)) :
  loopN (eB A53v6 (CR377 u R) u) N377v5 u (s377v9 n0 n1 n2 n3 n4 f0 f1 f2 f3 f4 i0 i1 i2 b0 b1 b2) k =
  L377v5 u R n0 f0 n1 f1 i0 n2 f2 n3 i1 b0 f4 u 0 n4 f3 b1 i2 b2 (fun x0 x1 x2 x3 x4=>k (.exit 6) (s377v5 n0 n1 n2 n3 x0 f0 f1 f2 x1 f4 i0 i1 x3 x2 x4)) :=
 Eq.trans (loopN_at (by kernel_rfl)) (q377v5 ..)
theorem g377v4 (R:T377→Option (Nat × FF × Bool × Int × Bool)) :
  (kBlk 6 (kBlk 3 (kSeq (CR377 u R) u (rl 14 4 (rl 77 66 [])) A53v8 (kLoop (eB A53v10 (CR377 u R) u) N377v6 m k)))) (.exit 6) (s377v5 n0 n1 n2 n3 n4 f0 f1 f2 f3 f4 i0 i1 i2 b0 b1) =
  (loopH (eB A53v10 (CR377 u R) u) N377v6 m (s377v6 n0 n1 n2 n3 n4 f0 f1 f2 f3 f4 i0 (w64 (i1+1)) i2 b0 b1) k):=by kernel_rfl
theorem q377v6 (R:T377→Option (Nat × FF × Bool × Int × Bool)):∀ (m:Nat) (x0:Int) (x1:Nat) (x2:FF) (x3:Bool) (x4:Int) (x5:Bool),
  loopH (eB A53v10 (CR377 u R) u) N377v6 m (s377v6 n0 n1 n2 n3 x1 f0 f1 f2 x2 f3 i0 x0 x4 x3 x5) k=L377v6 u R n0 f0 n1 f1 i0 n2 f2 n3 f3 m x0 x1 x2 x3 x4 x5 (fun x6 x7 x8 x9 xA=>k (.exit 2) (s377v7 x6 n3 x7 f3 x9 x8 xA))
 | 0,_,_,_,_,_,_=>rfl
 | m+1,x0,x1,x2,x3,x4,x5=>by
  rw [r377v6]
  simp only [L377v6,q377v6 R m,t377v1,g377v2,t377v3,g377v4]
def G377 (R:T377→Option (Nat × FF × Bool × Int × Bool)) (x0:Nat) (x1:FF) (x2:Nat) (x3:FF) (x4:Int) (x5:Nat) (x6:FF) (x7:Nat) (x8:FF) (x9:Bool) (xA:Int) (xB:Bool):Option (Nat × FF × Bool × Int × Bool) :=
 (bif (xB==false) then (bif (x9==true) then (ob (F368 u x5 x6) fun xC=>(ob (F368 u x7 x8) fun xD=>(bif (decide (xC≥xD)) then (some (x7,x8,x9,xA,xB)) else (bif ((Int.ofNat x5)==(Int.ofNat x0)) then (bif (Nat.ble (0+x5) 1073741824) then (some ((0+x5),(joinF 0 (rowsF 4 []) x6),true,xA,xB)) else none) else (bif (decide (xA≤0)) then (some (x7,x8,x9,xA,true)) else (bif (decide (0≤(Int.ofNat x0))&&decide ((Int.ofNat x0)≤(Int.ofNat x0))&&decide ((Int.ofNat x0)≤1073741824)&&true) then (L377v1 u R x0 x1 x2 x3 x4 x5 x6 (Int.toNat (Int.ofNat x0)) x7 x8 x9 (w64 (xA-1)) xB u 0 (fun _ j=>listF [(.b false)] j)
  (fun xE=>(L377v6 u R x0 x1 x2 x3 x4 x5 x6 (Int.toNat (Int.ofNat x0)) xE u 0 x7 x8 x9 (w64 (xA-1)) xB
  (fun xF xG xH xI xJ=>(some (xF,xG,xH,xI,xJ)))))) else none)))))) else (bif ((Int.ofNat x5)==(Int.ofNat x0)) then (bif (Nat.ble (0+x5) 1073741824) then (some ((0+x5),(joinF 0 (rowsF 4 []) x6),true,xA,xB)) else none) else (bif (decide (xA≤0)) then (some (x7,x8,x9,xA,true)) else (bif (decide (0≤(Int.ofNat x0))&&decide ((Int.ofNat x0)≤(Int.ofNat x0))&&decide ((Int.ofNat x0)≤1073741824)&&true) then (L377v1 u R x0 x1 x2 x3 x4 x5 x6 (Int.toNat (Int.ofNat x0)) x7 x8 x9 (w64 (xA-1)) xB u 0 (fun _ j=>listF [(.b false)] j)
  (fun xK=>(L377v6 u R x0 x1 x2 x3 x4 x5 x6 (Int.toNat (Int.ofNat x0)) xK u 0 x7 x8 x9 (w64 (xA-1)) xB
  (fun xL xM xN xO xP=>(some (xL,xM,xN,xO,xP)))))) else none)))) else (some (x7,x8,x9,xA,xB)))
def s377v10:St:=⟨(.x (.c (ro kE n0 f0)) :: .x (.c (ro kJ n1 f1)) :: vxi i0 :: .x (.c (ro kL n2 f2)) :: .agg [(.c (ro kL n3 f3)),(vcb b0),(vci i1),(vcb b1)] :: uu :: uu :: uu :: uu :: .x (.ptr 0 0) :: .x (.ptr 1 0) :: .x (.own 2 0 (Int.toNat (Int.ofNat n0))) :: vxi 0 :: uu :: uu :: uu :: uu :: uu :: (us 31 [.x (.ptr 0 2),vxi i1,vxi (w64 (i1-1)),.x (.ptr 0 2),.x (.c (ro kE n0 f0)),vxi (Int.ofNat n0),.x (.own 2 0 (Int.toNat (Int.ofNat n0))),uu,uu,uu,uu,uu,uu,uu,uu,uu,uu,uu,uu,uu,uu,uu,uu,uu,uu,uu,uu,uu,uu,uu,uu,uu,uu,uu,uu,uu,uu,uu,uu,uu,uu,uu,uu,uu,uu,uu,uu,uu,uu,uu,uu,uu,uu,uu,uu,uu,uu,uu,uu,uu,uu,uu,uu,uu,uu,uu,uu,uu,uu,uu,uu,uu,uu,uu,uu,uu,uu,uu,uu,uu,uu,uu,uu,uu,uu,uu,uu,uu,uu,uu,uu,uu,uu,uu,uu])),[.box [(.c (ro kL n3 f3)),(vcb b0),(vci (w64 (i1-1))),(vcb b1)],.box [(vcn),(vcb false),(vci 0),(vcb false)],.arr kN (Int.toNat (Int.ofNat n0)) (fun _ j=>listF [(.b false)] j)]⟩
theorem t377v5 (R:T377→Option (Nat × FF × Bool × Int × Bool)) :
  loopN (eB A53v2 (CR377 u R) u) N377v1 u (s377v10 n0 n1 n2 n3 f0 f1 f2 f3 i0 i1 b0 b1) k =
  L377v1 u R n0 f0 n1 f1 i0 n2 f2 (Int.toNat (Int.ofNat n0)) n3 f3 b0 (w64 (i1-1)) b1 u 0 (fun _ j=>listF [(.b false)] j) (fun x0=>k (.exit 0) (s377v1 n0 n1 n2 (Int.toNat (Int.ofNat n0)) n3 f0 f1 f2 f3 x0 i0 (w64 (i1-1)) b0 b1)) :=
 Eq.trans (loopN_at (by kernel_rfl)) (q377v1 ..)
def s377v11:St:=⟨(.x (.c (ro kE n0 f0)) :: .x (.c (ro kJ n1 f1)) :: vxi i0 :: .x (.c (ro kL n2 f2)) :: (us 5 (.x (.ptr 0 0) :: .x (.ptr 1 0) :: .x (.own 2 0 (Int.toNat (Int.ofNat n0))) :: .u :: vxi 0 :: (us 130 [])))),[.box [(.c (ro kL n3 f3)),(vcb b0),(vci (w64 (i1-1))),(vcb b1)],.box [(vcn),(vcb false),(vci 0),(vcb false)],.arr kN (Int.toNat (Int.ofNat n0)) f4]⟩
theorem g377v6 (R:T377→Option (Nat × FF × Bool × Int × Bool)) :
  (kBlk 0 (kSeq (CR377 u R) u (12 :: (rl 56 15 [])) A53v12 (finish A53))) (.exit 0) (s377v1 n0 n1 n2 (Int.toNat (Int.ofNat n0)) n3 f0 f1 f2 f3 f4 i0 (w64 (i1-1)) b0 b1) =
  (loopN (eB A53v10 (CR377 u R) u) N377v6 u (s377v11 n0 n1 n2 n3 f0 f1 f2 f3 f4 i0 i1 b0 b1) (kBlk 2 (kSeq (CR377 u R) u (rl 13 5 (rl 71 72 [])) A53v11 (finish A53)))):=by kernel_rfl
theorem t377v7 (R:T377→Option (Nat × FF × Bool × Int × Bool)) :
  loopN (eB A53v10 (CR377 u R) u) N377v6 u (s377v11 n0 n1 n2 n3 f0 f1 f2 f3 f4 i0 i1 b0 b1) k =
  L377v6 u R n0 f0 n1 f1 i0 n2 f2 (Int.toNat (Int.ofNat n0)) f4 u 0 n3 f3 b0 (w64 (i1-1)) b1 (fun x0 x1 x2 x3 x4=>k (.exit 2) (s377v7 x0 (Int.toNat (Int.ofNat n0)) x1 f4 x3 x2 x4)) :=
 Eq.trans (loopN_at (by kernel_rfl)) (q377v6 ..)
theorem g377v8 (R:T377→Option (Nat × FF × Bool × Int × Bool)) :
  (kBlk 2 (kSeq (CR377 u R) u (rl 13 5 (rl 71 72 [])) A53v11 (finish A53))) (.exit 2) (s377v7 n0 (Int.toNat (Int.ofNat n1)) f0 f1 i0 b0 b1) =
  (some [.agg [(ro kL n0 f0),(.b b0),(vi i0),(.b b1)]]):=by kernel_rfl
theorem t377v9 (R:T377→Option (Nat × FF × Bool × Int × Bool)) :
  loopN (eB A53v2 (CR377 u R) u) N377v1 u (s377v10 n0 n1 n2 n3 f0 f1 f2 f3 i0 i1 b0 b1) k =
  L377v1 u R n0 f0 n1 f1 i0 n2 f2 (Int.toNat (Int.ofNat n0)) n3 f3 b0 (w64 (i1-1)) b1 u 0 (fun _ j=>listF [(.b false)] j) (fun x0=>k (.exit 0) (s377v1 n0 n1 n2 (Int.toNat (Int.ofNat n0)) n3 f0 f1 f2 f3 x0 i0 (w64 (i1-1)) b0 b1)) :=
 Eq.trans (loopN_at (by kernel_rfl)) (q377v1 ..)
def s377v12:St:=⟨(.x (.c (ro kE n0 f0)) :: .x (.c (ro kJ n1 f1)) :: vxi i0 :: .x (.c (ro kL n2 f2)) :: (us 5 (.x (.ptr 0 0) :: .x (.ptr 1 0) :: .x (.own 2 0 (Int.toNat (Int.ofNat n0))) :: .u :: vxi 0 :: (us 130 [])))),[.box [(.c (ro kL n3 f3)),(vcb b0),(vci (w64 (i1-1))),(vcb b1)],.box [(vcn),(vcb false),(vci 0),(vcb false)],.arr kN (Int.toNat (Int.ofNat n0)) f4]⟩
theorem g377v10 (R:T377→Option (Nat × FF × Bool × Int × Bool)) :
  (kBlk 0 (kSeq (CR377 u R) u (12 :: (rl 56 15 [])) A53v12 (finish A53))) (.exit 0) (s377v1 n0 n1 n2 (Int.toNat (Int.ofNat n0)) n3 f0 f1 f2 f3 f4 i0 (w64 (i1-1)) b0 b1) =
  (loopN (eB A53v10 (CR377 u R) u) N377v6 u (s377v12 n0 n1 n2 n3 f0 f1 f2 f3 f4 i0 i1 b0 b1) (kBlk 2 (kSeq (CR377 u R) u (rl 13 5 (rl 71 72 [])) A53v11 (finish A53)))):=by kernel_rfl
theorem t377v11 (R:T377→Option (Nat × FF × Bool × Int × Bool)) :
  loopN (eB A53v10 (CR377 u R) u) N377v6 u (s377v12 n0 n1 n2 n3 f0 f1 f2 f3 f4 i0 i1 b0 b1) k =
  L377v6 u R n0 f0 n1 f1 i0 n2 f2 (Int.toNat (Int.ofNat n0)) f4 u 0 n3 f3 b0 (w64 (i1-1)) b1 (fun x0 x1 x2 x3 x4=>k (.exit 2) (s377v7 x0 (Int.toNat (Int.ofNat n0)) x1 f4 x3 x2 x4)) :=
 Eq.trans (loopN_at (by kernel_rfl)) (q377v6 ..)
theorem g377v12 (R:T377→Option (Nat × FF × Bool × Int × Bool)) :
  (kBlk 2 (kSeq (CR377 u R) u (rl 13 5 (rl 71 72 [])) A53v11 (finish A53))) (.exit 2) (s377v7 n0 (Int.toNat (Int.ofNat n1)) f0 f1 i0 b0 b1) =
  (some [.agg [(ro kL n0 f0),(.b b0),(vi i0),(.b b1)]]):=by kernel_rfl
theorem e377 (R:T377→Option (Nat × FF × Bool × Int × Bool)):evalF (CR377 u R) u A53 [.v (ro kE n0 f0),.v (ro kJ n1 f1),.v (vi i0),.v (ro kL n2 f2),.agg [(ro kL n3 f3),(.b b0),(vi i1),(.b b1)]]=ob (G377 u R n0 f0 n1 f1 i0 n2 f2 n3 f3 b0 i1 b1) fun t=>some [.agg [(ro kL t.1 t.2.1),(.b t.2.2.1),(vi t.2.2.2.1),(.b t.2.2.2.2)]]:=Eq.trans (b:=(bif (b1==false) then (bif (b0==true) then (ob (F368 u n2 f2) fun x0=>(ob (F368 u n3 f3) fun x1=>(bif (decide (x0≥x1)) then (some [.agg [(ro kL n3 f3),(.b b0),(vi i1),(.b b1)]]) else (bif ((Int.ofNat n2)==(Int.ofNat n0)) then (bif (Nat.ble (0+n2) 1073741824) then (some [.agg [(ro kL (0+n2) (joinF 0 (rowsF 4 []) f2)),(.b true),(vi i1),(.b b1)]]) else none) else (bif (decide (i1≤0)) then (some [.agg [(ro kL n3 f3),(.b b0),(vi i1),(.b true)]]) else (bif (decide (0≤(Int.ofNat n0))&&decide ((Int.ofNat n0)≤(Int.ofNat n0))&&decide ((Int.ofNat n0)≤1073741824)&&true) then (loopN (eB A53v2 (CR377 u R) u) N377v1 u (s377v10 n0 n1 n2 n3 f0 f1 f2 f3 i0 i1 b0 b1) (kBlk 0 (kSeq (CR377 u R) u (12 :: (rl 56 15 [])) A53v12 (finish A53)))) else none)))))) else (bif ((Int.ofNat n2)==(Int.ofNat n0)) then (bif (Nat.ble (0+n2) 1073741824) then (some [.agg [(ro kL (0+n2) (joinF 0 (rowsF 4 []) f2)),(.b true),(vi i1),(.b b1)]]) else none) else (bif (decide (i1≤0)) then (some [.agg [(ro kL n3 f3),(.b b0),(vi i1),(.b true)]]) else (bif (decide (0≤(Int.ofNat n0))&&decide ((Int.ofNat n0)≤(Int.ofNat n0))&&decide ((Int.ofNat n0)≤1073741824)&&true) then (loopN (eB A53v2 (CR377 u R) u) N377v1 u (s377v10 n0 n1 n2 n3 f0 f1 f2 f3 i0 i1 b0 b1) (kBlk 0 (kSeq (CR377 u R) u (12 :: (rl 56 15 [])) A53v12 (finish A53)))) else none)))) else (some [.agg [(ro kL n3 f3),(.b b0),(vi i1),(.b b1)]]))) (by kernel_rfl) (by
 simp only [G377,ob_bif,ob_ob,ob_none,ob_some,nl377v1,nl377v6,t377v5,g377v6,t377v7,g377v8,t377v9,g377v10,t377v11,g377v12])
def GG377 (R:T377→Option (Nat × FF × Bool × Int × Bool)):T377→Option (Nat × FF × Bool × Int × Bool):=fun x=>G377 u R x.1.1 x.1.2 x.2.1.1 x.2.1.2 x.2.2.1 x.2.2.2.1.1 x.2.2.2.1.2 x.2.2.2.2.1.1 x.2.2.2.2.1.2 x.2.2.2.2.2.1 x.2.2.2.2.2.2.1 x.2.2.2.2.2.2.2
theorem d377 (R:T377→Option (Nat × FF × Bool × Int × Bool)):DO (OR377 (GG377 u R)) (CR377 u R) 53 A53:=dO u (fun x=>by exact e377 u x.1.1 x.2.1.1 x.2.2.2.1.1 x.2.2.2.2.1.1 x.1.2 x.2.1.2 x.2.2.2.1.2 x.2.2.2.2.1.2 x.2.2.1 x.2.2.2.2.2.2.1 x.2.2.2.2.2.1 x.2.2.2.2.2.2.2 R)
def F377 (x0:Nat) (x1:FF) (x2:Nat) (x3:FF) (x4:Int) (x5:Nat) (x6:FF) (x7:Nat) (x8:FF) (x9:Bool) (xA:Int) (xB:Bool):Option (Nat × FF × Bool × Int × Bool):=recF (GG377 u) u ((x0,x1),((x2,x3),(x4,((x5,x6),((x7,x8),(x9,(xA,xB)))))))
def C65:Oracle:=(C64 u).add 53 (fun _=>true) (OR377 (recF (GG377 u) u))
def A24v1:AC:=(.seq (.region 9 [o1 33 (fa 96 11 0 0),o1 34 (lo 30 33),o1 8 (sg 34),o1 9 (sk 0)] 0 none) []
 (.ret (rl 0 8 (rl 10 25 []))))
def A24v2:AC:=(.seq (.region 6 [mv 22 1,o1 23 (ln 28 6 4),mv 24 1,o1 25 (cf 40 [23,24] [28,29]),mv 26 2,mv 27 3,o1 28 (.mm false [(tm 27),(ic 100000)] [3,3]),o1 29 (.build 96 [.c (.ro true kL 0 nilF),vcb false,vci 0,vcb false] [(0,1),(1,1),(2,1),(3,1)] 0 [(2,(tm 28))]),o1 30 (.call 53 [(tm 22),(tm 25),(tm 26),(.const (.slice none 0 0)),(tm 29)] [29,72,3,30,96] .freeze),o1 11 (.alloc 0 96 [vcn,vcb false,vci 0,vcb false]),o0 (.store 96 4 (tm 11) (tm 30))] 1 none) []
 (.seq (.seq (.region 7 [o1 31 (fa 96 11 3 3),o1 32 (lo 4 31)] 0 none) []
 (.cond (tm 32)
 (.seq (.region 8 [o1 8 (.assign (.const (.slice none 0 0))),o1 9 (sk 29)] 0 none) []
  (.ret (rl 0 8 (rl 10 25 []))))
 .skip)) [8,9,31,32]
 A24v1))
def A24v3:AC:=(.seq (.seq (.region 4 [mv 19 1,o1 20 (.len 29 false (tm 19)),o1 21 (bk .gtr 3 20 6)] 0 none) []
 (.cond (tm 21)
 (.seq (.region 5 [o1 8 (.assign (.const (.slice none 0 0))),o1 9 (sk 13)] 0 none) []
  (.ret (rl 0 8 (rl 10 25 []))))
 .skip)) [8,9,19,20,21]
 A24v2)
def A24:AF:=⟨35,[.tmp 8,.tmp 9],
 (.seq (.region 0 [o1 4 (bx 0 28 0),o1 8 (.assign (.const (.slice none 0 0))),o1 9 (sk 0)] 1 none) []
 (.seq (.seq (.region 1 [o1 12 (ln 28 6 4),mv 13 1,mv 14 2,o1 15 (cs 38 [12,13,14] [28,29,3]),o1 10 (sg 15)] 0 none) []
 (.seq (.region 2 [mv 16 10,o1 17 (bk .neq 35 16 0)] 0 none) []
 (.cond (tm 17)
 (.seq (.region 3 [mv 18 10,o1 8 (.assign (.const (.slice none 0 0))),o1 9 (sg 18)] 0 none) []
  (.ret (rl 0 8 (rl 10 25 []))))
 .skip))) (8 :: 9 :: 10 :: (rl 12 7 []))
 A24v3))⟩
def FT378 (x0:ByteArray) (x1:Nat) (x2:FF) (x3:Nat) (x4:FF) (x5:Nat) (x6:FF) (x7:Nat) (x8:FF) (x9:Nat) (xA:FF) (xB:Nat) (xC:FF) (xD xE:Int):Option (Bool × Nat × FF × Int) :=
 (ob (F363 u x0 x1 x2 x3 x4 x5 x6 x7 x8 x9 xA xB xC xD) fun xF=>(bif (xF != 0) then (some (true,0,(fun _ _=>.any),xF)) else (bif (decide ((Int.ofNat xB)>6)) then (some (true,0,(fun _ _=>.any),13)) else (ob (F366 u x0 x1 x2 x3 x4 x5 x6 x7 x8 x9 xA xB xC) fun xG=>(ob (F377 u xB xC xG.1 xG.2 xD 0 (fun _ _=>.any) 0 (fun _ _=>.any) false (if 100000<xE then 100000 else xE) false) fun xH=>(bif xH.2.2.2.2 then (some (true,0,(fun _ _=>.any),29)) else (some (false,xH.1,xH.2.1,0))))))))
theorem e378:evalF (C65 u) u A24 [.agg [(.s w0),(ro kF n0 f0),(ro kB n1 f1),(ro kI n2 f2),(ro kD n3 f3),(ro kG n4 f4)],.v (ro kE n5 f5),.v (vi i0),.v (vi i1)]=ob (FT378 u w0 n0 f0 n1 f1 n2 f2 n3 f3 n4 f4 n5 f5 i0 i1) fun t=>some (bif t.1 then [.v (.ro true .nil 0 nilF),.v (vi t.2.2.2)] else [.v (ro kL t.2.1 t.2.2.1),.v (vi 0)]):=by
 simp only [FT378,ob_bif,ob_ob,ob_none,ob_some,cond_true,cond_false]
 kernel_rfl
def F378 (x0:ByteArray) (x1:Nat) (x2:FF) (x3:Nat) (x4:FF) (x5:Nat) (x6:FF) (x7:Nat) (x8:FF) (x9:Nat) (xA:FF) (xB:Nat) (xC:FF) (xD xE:Int):Option (Nat × FF × Int):=ob (FT378 u x0 x1 x2 x3 x4 x5 x6 x7 x8 x9 xA xB xC xD xE) fun t=>some (bif t.1 then (0,(fun _ _=>.any),t.2.2.2) else (t.2.1,t.2.2.1,0))
def O378:Ora:=mkO (qc (ag (tc cS (tc (cL kF) (tc (cL kB) (tc (cL kI) (tc (cL kD) (t1 (cL kG)))))))) (qc (av (cL kE)) (qc (av ci) (q1 (av ci))))) (fun x=>F378 u x.1.1 x.1.2.1.1 x.1.2.1.2 x.1.2.2.1.1 x.1.2.2.1.2 x.1.2.2.2.1.1 x.1.2.2.2.1.2 x.1.2.2.2.2.1.1 x.1.2.2.2.2.1.2 x.1.2.2.2.2.2.1 x.1.2.2.2.2.2.2 x.2.1.1 x.2.1.2 x.2.2.1 x.2.2.2) fun t=>[.v (ro kL t.1 t.2.1),.v (vi t.2.2)]
theorem d378:DO (O378 u) (C65 u) 24 A24:=dW u (fun x=>by exact e378 u x.1.2.1.1 x.1.2.2.1.1 x.1.2.2.2.1.1 x.1.2.2.2.2.1.1 x.1.2.2.2.2.2.1 x.2.1.1 x.1.2.1.2 x.1.2.2.1.2 x.1.2.2.2.1.2 x.1.2.2.2.2.1.2 x.1.2.2.2.2.2.2 x.2.1.2 x.2.2.1 x.2.2.2 x.1.1) (fun _=>rfl) fun t=>by
 obtain ⟨b,t⟩:=t
 cases b with
 | true=>exact (.cons (WkA.v (Wk.ro (by rfl))) (.cons (WkA.v (Wk.refl _)) .nil))
 | false =>
  exact (.cons (WkA.v (Wk.refl _)) (.cons (WkA.v (Wk.refl _)) .nil))
def C66:Oracle:=(C65 u).add 24 (fun _=>true) (O378 u)
def A5v1:AC:=(.seq (.region 3 [o1 22 (ln 28 6 3),mv 23 1,o1 24 (.indexAddrA 46 3 2 1 (tm 5) (ic 0)),o1 25 (lo 3 24),o1 26 (.indexAddrA 46 3 2 1 (tm 5) (ic 1)),o1 27 (lo 3 26),o1 28 (cf 23 [22,23,25,27] [28,29,3,3]),mv 21 28,o1 29 (.extract (tm 21) 0),o1 30 (.extract (tm 21) 1),o1 7 (sg 29),o1 8 (sg 30)] 0 none) []
 (.seq (.region 4 [o1 32 (ln 28 6 3),mv 33 1,o1 34 (.indexAddrA 46 3 2 1 (tm 5) (ic 0)),o1 35 (lo 3 34),o1 36 (.indexAddrA 46 3 2 1 (tm 5) (ic 1)),o1 37 (lo 3 36),o1 38 (cf 24 [32,33,35,37] [28,29,3,3]),mv 31 38,o1 39 (.extract (tm 31) 0),o1 40 (.extract (tm 31) 1),o1 9 (sg 39),o1 10 (sg 40)] 0 none) []
 (.seq (.region 5 [mv 41 7,mv 42 9,o1 43 (cs 22 [41,42] [30,30]),mv 44 43,og 45 (.move (tm 8)) 44 true,og 46 (.move (tm 10)) 44 true,og 47 (bt .eql 35 45 46) 44 true,o1 48 (po 44 47),mv 49 48,og 50 (cs 11 [] []) 49 true,o1 51 (po 49 50),o1 6 (sg 51)] 0 none) []
 (.ghost [0,1] (.ret (rl 0 6 (rl 7 45 [])))))))
def A5:AF:=⟨52,[.tmp 6],
 (.seq (.region 0 [o1 3 (bx 0 28 0),o1 5 (bx 1 46 2),o1 6 (sb false)] 2 none) []
 (.seq (.seq (.region 1 [o1 11 (ln 28 6 3),mv 12 1,o1 13 (cs 10 [11,12] [28,29]),o1 14 (.unOp .not 4 (tm 13)),mv 15 14,og 16 (.indexAddrA 46 3 2 1 (tm 5) (ic 1)) 15 false,og 17 (lo 3 16) 15 false,og 18 (bk .gtr 3 17 1000) 15 false,o1 19 (pa 15 18)] 0 none) []
 (.cond (tm 19)
 (.seq (.region 2 [o1 20 (cs 11 [] []),o1 6 (sg 20)] 0 none) []
  (.ghost [0,1] (.ret (rl 0 6 (rl 7 45 [])))))
 .skip)) (6 :: (rl 11 10 []))
 A5v1))⟩
def F379 (x0:ByteArray) (x1:Nat) (x2:FF) (x3:Nat) (x4:FF) (x5:Nat) (x6:FF) (x7:Nat) (x8:FF) (x9:Nat) (xA:FF) (xB:Nat) (xC:FF) (xD xE:Int):Option (Bool) :=
 (ob (F330 u x0 x1 x2 x3 x4 x5 x6 x7 x8 x9 xA xB xC) fun xF=>(bif ((!xF)==false) then (bif (decide (xE>1000)) then (ob (F360 u) fun xG=>(some xG)) else (ob (F353 u x0 x1 x2 x3 x4 x5 x6 x7 x8 x9 xA xB xC xD xE) fun xH=>(ob (F378 u x0 x1 x2 x3 x4 x5 x6 x7 x8 x9 xA xB xC xD xE) fun xI=>(ob (F355 u xH.1 xH.2.1 xI.1 xI.2.1) fun xJ=>(bif (xJ==true) then (bif ((xH.2.2==xI.2.2)==true) then (ob (F360 u) fun xK=>(some xK)) else (some false)) else (some false)))))) else (ob (F360 u) fun xL=>(some xL))))
theorem e379:evalF (C66 u) u A5 [.agg [(.s w0),(ro kF n0 f0),(ro kB n1 f1),(ro kI n2 f2),(ro kD n3 f3),(ro kG n4 f4)],.v (ro kE n5 f5),.agg [(vi i0),(vi i1)]]=ob (F379 u w0 n0 f0 n1 f1 n2 f2 n3 f3 n4 f4 n5 f5 i0 i1) fun t=>some [.v (.b t)]:=by
 simp only [F379,ob_bif,ob_ob,ob_none,ob_some]
 kernel_rfl
def O379:Ora:=mkO (qc (ag (tc cS (tc (cL kF) (tc (cL kB) (tc (cL kI) (tc (cL kD) (t1 (cL kG)))))))) (qc (av (cL kE)) (q1 (ag (tc ci (t1 ci)))))) (fun x=>F379 u x.1.1 x.1.2.1.1 x.1.2.1.2 x.1.2.2.1.1 x.1.2.2.1.2 x.1.2.2.2.1.1 x.1.2.2.2.1.2 x.1.2.2.2.2.1.1 x.1.2.2.2.2.1.2 x.1.2.2.2.2.2.1 x.1.2.2.2.2.2.2 x.2.1.1 x.2.1.2 x.2.2.1 x.2.2.2) fun t=>[.v (.b t)]
theorem d379:DO (O379 u) (C66 u) 5 A5:=dO u (fun x=>by exact e379 u x.1.2.1.1 x.1.2.2.1.1 x.1.2.2.2.1.1 x.1.2.2.2.2.1.1 x.1.2.2.2.2.2.1 x.2.1.1 x.1.2.1.2 x.1.2.2.1.2 x.1.2.2.2.1.2 x.1.2.2.2.2.1.2 x.1.2.2.2.2.2.2 x.2.1.2 x.2.2.1 x.2.2.2 x.1.1)
end Go.Eng.R13
