/-
 The functions of the program,run on symbols;printed by decomp.py.
-/
import Derived.Test.YtnfphfkgbhpikaaDecT1
set_option linter.all false
set_option maxRecDepth 1000000
set_option maxHeartbeats 4000000
namespace Go.Eng.R13
open Go Go.RowKit Go.Eng
variable {ρ σ : Type} (u m : Nat) (k : Ex → St → Option ρ) (ng : ρ → Option σ) (n0 n1 n2 n3 n4 n5 n6 n7 n8 n9 nA : Nat) (f0 f1 f2 f3 f4 f5 f6 f7 f8 f9 fA : FF) (i0 i1 i2 i3 i4 i5 i6 i7 : Int) (b0 b1 b2 : Bool) (w0 w1 w2 : ByteArray) (g0 g1 g2 : Nat → CV) (u0 u1 : Nat → Nat)
def A58v1:AC:=(.region 8 [mv 19 6,o1 20 (bk .add 3 19 1),o1 6 (sg 20)] 0 none)
def A58v2:AC:=(.seq (.block 3
 (.seq (.region 9 [mv 21 5,mv 22 6,o1 23 (bt .neq 3 21 22),mv 24 23,og 25 (ln 28 6 1) 24 true,og 26 (.move (tm 3)) 24 true,og 27 (.move (tm 5)) 24 true,og 28 (.indexAddr 51 9 1 (tm 26) (tm 27)) 24 true,og 29 (lo 9 28) 24 true,og 30 (.move (tm 3)) 24 true,og 31 (.move (tm 6)) 24 true,og 32 (.indexAddr 51 9 1 (tm 30) (tm 31)) 24 true,og 33 (lo 9 32) 24 true,og 34 (cs 78 [25,29,33] [28,9,9]) 24 true,o1 35 (po 24 34)] 0 (some [[],[],[0,1],[0,1,2],(rl 0 4 []),(rl 0 4 []),(rl 0 4 []),(rl 0 4 [5,6]),(rl 0 4 [5,6,7]),(rl 0 4 []),(rl 0 4 []),(rl 0 4 [9,10]),(rl 0 4 [9,10,11]),(rl 0 13 []),(rl 0 14 [])])) []
  (.cond (tm 35)
  (.region 10 [mv 36 4,mv 37 5,mv 38 6,o1 39 (.build 46 [vci 0,vci 0] [] 1 [(0,(tm 37)),(1,(tm 38))]),o1 40 (.buildSlice 0 102 46 kP 1 [vci 0,vci 0] [(0,(tm 39))]),o1 41 (.append 1 102 46 kP 16 (tm 36) (tm 40)),o1 4 (sg 41)] 2 none)
  .skip))) (rl 21 21 [])
 A58v1)
def A58v3:AC:=(.seq (.seq (.region 7 [mv 15 6,mv 16 3,o1 17 (.len 51 false (tm 16)),o1 18 (bt .lss 3 15 17)] 0 none) []
 (.cond (tm 18)
 .skip
 (.exit 2 (0 :: 2 :: (rl 6 37 []))))) (rl 15 4 [])
 A58v2)
def A58v4:AC:=(.region 5 [mv 13 5,o1 14 (bk .add 3 13 1),o1 5 (sg 14)] 0 none)
def A58v5:AC:=(.seq (.block 1
 (.seq (.region 6 [o1 6 (sk 0)] 0 none) []
  (.block 2
  (.loop [.slot 4 kP] (0 :: 2 :: (rl 7 36 []))
   A58v3)))) (6 :: (rl 15 27 []))
 A58v4)
def A58v6:AC:=(.seq (.seq (.region 4 [mv 9 5,mv 10 3,o1 11 (.len 51 false (tm 10)),o1 12 (bt .lss 3 9 11)] 0 none) []
 (.cond (tm 12)
 .skip
 (.exit 0 (rl 0 4 (rl 5 38 []))))) (rl 9 4 [])
 A58v5)
def A58v7:AC:=(.seq (.region 11 [mv 42 4,o1 2 (sg 42)] 0 none) []
 (.ret (0 :: 1 :: (rl 3 40 []))))
def A58:AF:=⟨43,[.tmp 2],
 (.seq (.region 0 [o1 1 (bx 0 28 0),o1 2 (.assign (.const (.slice none 0 0)))] 1 none) []
 (.seq (.region 1 [o1 7 (ln 28 6 1),o1 8 (cf 33 [7] [28]),o1 3 (sg 8)] 0 none) []
 (.seq (.region 2 [o1 4 (.assign (.const (.slice none 0 0)))] 0 none) []
 (.seq (.seq (.region 3 [o1 5 (sk 0)] 0 none) []
 (.block 0
 (.loop [.slot 4 kP] (0 :: 2 :: (rl 6 37 []))
  A58v6))) (5 :: 6 :: (rl 9 33 []))
 A58v7))))⟩
def N254v2:St→Option St:=nN 2 (0 :: 2 :: (rl 7 36 []))
def s254v0:St:=⟨(.u :: .x (.ptr 0 0) :: .u :: .x (.c (ro kO n0 f0)) :: .x (.own 1 0 n1) :: vxi i0 :: vxi i1 :: (us 36 [])),[.box [(vcs w0),(.c (ro kF n2 f1)),(.c (ro kB n3 f2)),(.c (ro kI n4 f3)),(.c (ro kD n5 f4)),(.c (ro kG n6 f5))],.arr kP n1 f6]⟩
def s254v1:St:=⟨(.u :: .x (.ptr 0 0) :: .u :: .x (.c (ro kO n0 f0)) :: .x (.own 1 0 n1) :: vxi i0 :: (us 37 [])),[.box [(vcs w0),(.c (ro kF n2 f1)),(.c (ro kB n3 f2)),(.c (ro kI n4 f3)),(.c (ro kD n5 f4)),(.c (ro kG n6 f5))],.arr kP n1 f6]⟩
def L254v2 {ρ:Type} (u:Nat) (x0:Nat) (x1:FF) (x2:Int) (x3:ByteArray) (x4:Nat) (x5:FF) (x6:Nat) (x7:FF) (x8:Nat) (x9:FF) (xA:Nat) (xB:FF) (xC:Nat) (xD:FF):Nat→Nat→Int→FF→(Nat→FF→Option ρ)→Option ρ
 | 0,_,_,_,_=>none
 | m+1,xE,xF,xG,k0 =>
  (bif (decide (xF<(Int.ofNat x0))) then (bif ((x2 != xF)==true) then (bif (inb x2 x0) then (bif (inb xF x0) then (ob (F253 u x3 x4 x5 x6 x7 x8 x9 xA xB xC xD (x1 x2.toNat 0).str (x1 xF.toNat 0).str) fun xH=>(bif xH then (bif (Nat.ble (xE+1) 1073741824) then (L254v2 u x0 x1 x2 x3 x4 x5 x6 x7 x8 x9 xA xB xC xD m (xE+1) (w64 (xF+1)) (joinF xE xG (rowsF 2 [(.i .i64 x2),(.i .i64 xF)])) k0) else none) else (L254v2 u x0 x1 x2 x3 x4 x5 x6 x7 x8 x9 xA xB xC xD m xE (w64 (xF+1)) xG k0))) else none) else none) else (L254v2 u x0 x1 x2 x3 x4 x5 x6 x7 x8 x9 xA xB xC xD m xE (w64 (xF+1)) xG k0)) else (k0 xE xG))
theorem nl254v2:∀ (m:Nat) (x0:Nat) (x1:Int) (x2:FF) (k0:Nat→FF→Option ρ),ob (L254v2 u n0 f0 i0 w0 n1 f1 n2 f2 n3 f3 n4 f4 n5 f5 m x0 x1 x2 k0) ng=L254v2 u n0 f0 i0 w0 n1 f1 n2 f2 n3 f3 n4 f4 n5 f5 m x0 x1 x2 (fun x3 x4=>ob (k0 x3 x4) ng)
 | 0,_,_,_,_=>rfl
 | m+1,x0,x1,x2,k0=>by
  simp only [L254v2,ob_bif,ob_ob,ob_none,nl254v2 m]
theorem q254v2:∀ (m:Nat) (x0:Nat) (x1:Int) (x2:FF),
  loopH (eB A58v3 (C52 u) u) N254v2 m (s254v0 n0 x0 n1 n2 n3 n4 n5 f0 f1 f2 f3 f4 f5 x2 i0 x1 w0) k=L254v2 u n0 f0 i0 w0 n1 f1 n2 f2 n3 f3 n4 f4 n5 f5 m x0 x1 x2 (fun x3 x4=>k (.exit 2) (s254v1 n0 x3 n1 n2 n3 n4 n5 f0 f1 f2 f3 f4 f5 x4 i0 w0))
 | 0,_,_,_=>rfl
 | m+1,x0,x1,x2=>by
  simp only [L254v2,← q254v2 m]
  kernel_rfl
def N254v3:St→Option St:=nN 2 (0 :: 2 :: (rl 6 37 []))
def s254v2:St:=⟨(.u :: .x (.ptr 0 0) :: .u :: .x (.c (ro kO n0 f0)) :: .x (.own 1 0 n1) :: vxi i0 :: (us 37 [])),[.box [(vcs w0),(.c (ro kF n2 f1)),(.c (ro kB n3 f2)),(.c (ro kI n4 f3)),(.c (ro kD n5 f4)),(.c (ro kG n6 f5))],.arr kP n1 f6]⟩
def s254v3:St:=⟨(us 4 (.x (.own 1 0 n0) :: (us 38 []))),[.box [(vcs w0),(.c (ro kF n1 f0)),(.c (ro kB n2 f1)),(.c (ro kI n3 f2)),(.c (ro kD n4 f3)),(.c (ro kG n5 f4))],.arr kP n0 f5]⟩
def L254v3 {ρ:Type} (u:Nat) (x0:Nat) (x1:FF) (x2:ByteArray) (x3:Nat) (x4:FF) (x5:Nat) (x6:FF) (x7:Nat) (x8:FF) (x9:Nat) (xA:FF) (xB:Nat) (xC:FF):Nat→Nat→Int→FF→(Nat→FF→Option ρ)→Option ρ
 | 0,_,_,_,_=>none
 | m+1,xD,xE,xF,k0 =>
  (bif (decide (xE<(Int.ofNat x0))) then (L254v2 u x0 x1 xE x2 x3 x4 x5 x6 x7 x8 x9 xA xB xC u xD 0 xF
  (fun xG xH=>(L254v3 u x0 x1 x2 x3 x4 x5 x6 x7 x8 x9 xA xB xC m xG (w64 (xE+1)) xH k0))) else (k0 xD xF))
theorem nl254v3:∀ (m:Nat) (x0:Nat) (x1:Int) (x2:FF) (k0:Nat→FF→Option ρ),ob (L254v3 u n0 f0 w0 n1 f1 n2 f2 n3 f3 n4 f4 n5 f5 m x0 x1 x2 k0) ng=L254v3 u n0 f0 w0 n1 f1 n2 f2 n3 f3 n4 f4 n5 f5 m x0 x1 x2 (fun x3 x4=>ob (k0 x3 x4) ng)
 | 0,_,_,_,_=>rfl
 | m+1,x0,x1,x2,k0=>by
  simp only [L254v3,ob_bif,ob_ob,ob_none,nl254v3 m,nl254v2]
def s254v4:St:=⟨(.u :: .x (.ptr 0 0) :: .u :: .x (.c (ro kO n0 f0)) :: .x (.own 1 0 n1) :: vxi i0 :: vxi 0 :: (us 36 [])),[.box [(vcs w0),(.c (ro kF n2 f1)),(.c (ro kB n3 f2)),(.c (ro kI n4 f3)),(.c (ro kD n5 f4)),(.c (ro kG n6 f5))],.arr kP n1 f6]⟩
theorem r254v3 :
  loopH (eB A58v6 (C52 u) u) N254v3 (m+1) (s254v2 n0 n6 n1 n2 n3 n4 n5 f0 f1 f2 f3 f4 f5 f6 i0 w0) k =
  (bif (decide (i0<(Int.ofNat n0))) then (loopN (eB A58v3 (C52 u) u) N254v2 u (s254v4 n0 n6 n1 n2 n3 n4 n5 f0 f1 f2 f3 f4 f5 f6 i0 w0) (kBlk 2 (kBlk 1 (kSeq (C52 u) u (6 :: (rl 15 27 [])) A58v4 (kLoop (eB A58v6 (C52 u) u) N254v3 m k))))) else (k (.exit 0) (s254v3 n6 n1 n2 n3 n4 n5 f1 f2 f3 f4 f5 f6 w0))):=by kernel_rfl
theorem t254v1 :
  loopN (eB A58v3 (C52 u) u) N254v2 u (s254v4 n0 n1 n2 n3 n4 n5 n6 f0 f1 f2 f3 f4 f5 f6 i0 w0) k =
  L254v2 u n0 f0 i0 w0 n2 f1 n3 f2 n4 f3 n5 f4 n6 f5 u n1 0 f6 (fun x0 x1=>k (.exit 2) (s254v1 n0 x0 n2 n3 n4 n5 n6 f0 f1 f2 f3 f4 f5 x1 i0 w0)) :=
 Eq.trans (loopN_at (by kernel_rfl)) (q254v2 ..)
theorem g254v2 :
  (kBlk 2 (kBlk 1 (kSeq (C52 u) u (6 :: (rl 15 27 [])) A58v4 (kLoop (eB A58v6 (C52 u) u) N254v3 m k)))) (.exit 2) (s254v1 n0 n1 n2 n3 n4 n5 n6 f0 f1 f2 f3 f4 f5 f6 i0 w0) =
  (loopH (eB A58v6 (C52 u) u) N254v3 m (s254v2 n0 n1 n2 n3 n4 n5 n6 f0 f1 f2 f3 f4 f5 f6 (w64 (i0+1)) w0) k):=by kernel_rfl
theorem q254v3:∀ (m:Nat) (x0:Nat) (x1:Int) (x2:FF),
  loopH (eB A58v6 (C52 u) u) N254v3 m (s254v2 n0 x0 n1 n2 n3 n4 n5 f0 f1 f2 f3 f4 f5 x2 x1 w0) k=L254v3 u n0 f0 w0 n1 f1 n2 f2 n3 f3 n4 f4 n5 f5 m x0 x1 x2 (fun x3 x4=>k (.exit 0) (s254v3 x3 n1 n2 n3 n4 n5 f1 f2 f3 f4 f5 x4 w0))
 | 0,_,_,_=>rfl
 | m+1,x0,x1,x2=>by
  rw [r254v3]
  simp only [L254v3,q254v3 m,t254v1,g254v2]
def F254 (x0:ByteArray) (x1:Nat) (x2:FF) (x3:Nat) (x4:FF) (x5:Nat) (x6:FF) (x7:Nat) (x8:FF) (x9:Nat) (xA:FF):Option (Nat × FF) :=
 (ob (F252 u x0 x1 x2 x3 x4 x5 x6 x7 x8 x9 xA) fun xB=>(L254v3 u xB.1 xB.2 x0 x1 x2 x3 x4 x5 x6 x7 x8 x9 xA u 0 0 (fun _ _=>.any)
  (fun xC xD=>(some (xC,xD)))))
def s254v5 (x0:Nat × FF):St:=⟨[.agg [(vcs w0),(.c (ro kF n0 f0)),(.c (ro kB n1 f1)),(.c (ro kI n2 f2)),(.c (ro kD n3 f3)),(.c (ro kG n4 f4))],.x (.ptr 0 0),.x (vcn),.x (.c (ro kO x0.1 x0.2)),.x (.own 1 0 0),vxi 0,uu,.agg [(vcs w0),(.c (ro kF n0 f0)),(.c (ro kB n1 f1)),(.c (ro kI n2 f2)),(.c (ro kD n3 f3)),(.c (ro kG n4 f4))],.x (.c (ro kO x0.1 x0.2)),uu,uu,uu,uu,uu,uu,uu,uu,uu,uu,uu,uu,uu,uu,uu,uu,uu,uu,uu,uu,uu,uu,uu,uu,uu,uu,uu,uu,uu,uu,uu,uu,uu,uu],[.box [(vcs w0),(.c (ro kF n0 f0)),(.c (ro kB n1 f1)),(.c (ro kI n2 f2)),(.c (ro kD n3 f3)),(.c (ro kG n4 f4))],.arr kP 0 nilF]⟩
theorem t254v3 (x0:Nat × FF) :
  loopN (eB A58v6 (C52 u) u) N254v3 u (s254v5 n0 n1 n2 n3 n4 f0 f1 f2 f3 f4 w0 x0) k =
  L254v3 u x0.1 x0.2 w0 n0 f0 n1 f1 n2 f2 n3 f3 n4 f4 u 0 0 nilF (fun x1 x2=>k (.exit 0) (s254v3 x1 n0 n1 n2 n3 n4 f0 f1 f2 f3 f4 x2 w0)) :=
 Eq.trans (loopN_at (by kernel_rfl)) (q254v3 ..)
theorem g254v4 :
  (kBlk 0 (kSeq (C52 u) u (5 :: 6 :: (rl 9 33 [])) A58v7 (finish A58))) (.exit 0) (s254v3 n0 n1 n2 n3 n4 n5 f0 f1 f2 f3 f4 f5 w0) =
  (some [.v (ro kP n0 f5)]):=by kernel_rfl
theorem e254:evalF (C52 u) u A58 [.agg [(.s w0),(ro kF n0 f0),(ro kB n1 f1),(ro kI n2 f2),(ro kD n3 f3),(ro kG n4 f4)]]=ob (F254 u w0 n0 f0 n1 f1 n2 f2 n3 f3 n4 f4) fun t=>some [.v (ro kP t.1 t.2)]:=Eq.trans (b:=(ob (F252 u w0 n0 f0 n1 f1 n2 f2 n3 f3 n4 f4) fun x0=>(loopN (eB A58v6 (C52 u) u) N254v3 u (s254v5 n0 n1 n2 n3 n4 f0 f1 f2 f3 f4 w0 x0) (kBlk 0 (kSeq (C52 u) u (5 :: 6 :: (rl 9 33 [])) A58v7 (finish A58)))))) (by kernel_rfl) (by
 simp only [F254,ob_bif,ob_ob,ob_none,ob_some,nl254v3,t254v3,g254v4])
def O254:Ora:=mkO (q1 (ag (tc cS (tc (cL kF) (tc (cL kB) (tc (cL kI) (tc (cL kD) (t1 (cL kG))))))))) (fun x=>F254 u x.1 x.2.1.1 x.2.1.2 x.2.2.1.1 x.2.2.1.2 x.2.2.2.1.1 x.2.2.2.1.2 x.2.2.2.2.1.1 x.2.2.2.2.1.2 x.2.2.2.2.2.1 x.2.2.2.2.2.2) fun t=>[.v (ro kP t.1 t.2)]
theorem d254:DO (O254 u) (C52 u) 58 A58:=dO u (fun x=>by exact e254 u x.2.1.1 x.2.2.1.1 x.2.2.2.1.1 x.2.2.2.2.1.1 x.2.2.2.2.2.1 x.2.1.2 x.2.2.1.2 x.2.2.2.1.2 x.2.2.2.2.1.2 x.2.2.2.2.2.2 x.1)
def C53:Oracle:=(C52 u).add 58 (fun _=>true) (O254 u)
def A77v1:AC:=(.seq (.region 7 [mv 40 6,mv 41 7,o1 42 (bt .eql 3 40 41)] 0 none) []
 (.cond (tm 42)
 (.seq (.region 8 [o1 4 (sk 2)] 0 none) []
  (.ret (rl 0 4 (rl 5 38 []))))
 .skip))
def A77v2:AC:=(.region 3 [mv 12 5,o1 13 (bk .add 3 12 1),o1 5 (sg 13)] 0 none)
def A77v3:AC:=(.seq (.block 1
 (.seq (.region 4 [mv 14 1,mv 15 5,o1 16 (.indexAddr 102 46 2 (tm 14) (tm 15)),o1 17 (.indexAddrA 46 3 2 1 (tm 16) (ic 0)),o1 18 (lo 3 17),mv 19 1,mv 20 5,o1 21 (.indexAddr 102 46 2 (tm 19) (tm 20)),o1 22 (.indexAddrA 46 3 2 1 (tm 21) (ic 1)),o1 23 (lo 3 22),o1 6 (sg 18),o1 7 (sg 23)] 0 (some [[],[],[0,1],[0,1,2],(rl 0 4 []),[],[],[5,6],[5,6,7],(rl 5 4 []),(rl 0 5 []),(rl 0 11 [])])) []
  (.seq (.seq (.region 5 [mv 24 6,o1 25 (bk .lss 3 24 0),mv 26 25,og 27 (.move (tm 6)) 26 false,og 28 (.move (tm 0)) 26 false,og 29 (bt .geq 3 27 28) 26 false,o1 30 (pa 26 29),mv 31 30,og 32 (.move (tm 7)) 31 false,og 33 (bk .lss 3 32 0) 31 false,o1 34 (pa 31 33),mv 35 34,og 36 (.move (tm 7)) 35 false,og 37 (.move (tm 0)) 35 false,og 38 (bt .geq 3 36 37) 35 false,o1 39 (pa 35 38)] 0 none) []
  (.cond (tm 39)
  (.seq (.region 6 [o1 4 (sk 9)] 0 none) []
   (.ret (rl 0 4 (rl 5 38 []))))
  .skip)) (4 :: (rl 24 16 []))
  A77v1))) (4 :: 6 :: 7 :: (rl 14 29 []))
 A77v2)
def A77v4:AC:=(.seq (.seq (.region 2 [mv 8 5,mv 9 1,o1 10 (.len 102 false (tm 9)),o1 11 (bt .lss 3 8 10)] 0 none) []
 (.cond (tm 11)
 .skip
 (.exit 0 (rl 0 43 [])))) (rl 8 4 [])
 A77v3)
def A77v5:AC:=(.seq (.region 9 [o1 4 (sk 0)] 0 none) []
 (.ret (rl 0 4 (rl 5 38 []))))
def A77:AF:=⟨43,[.tmp 4],
 (.seq (.region 0 [o1 4 (sk 0)] 0 none) []
 (.seq (.seq (.region 1 [o1 5 (sk 0)] 0 none) []
 (.block 0
 (.loop [] (2 :: 3 :: 4 :: (rl 6 37 []))
  A77v4))) (rl 4 39 [])
 A77v5))⟩
def N228v1:St→Option St:=nN 0 (2 :: 3 :: 4 :: (rl 6 37 []))
def s228v0:St:=⟨(vxi i0 :: .x (.c (ro kP n0 f0)) :: (us 3 (vxi i1 :: (us 37 [])))),[]⟩
def s228v1:St:=⟨(us 4 (vxi i0 :: (us 38 []))),[]⟩
def s228v2:St:=⟨(us 43 []),[]⟩
def L228v1 {ρ:Type} (u:Nat) (x0:Int) (x1:Nat) (x2:FF):Nat→Int→(Int→Option ρ)→(Option ρ)→Option ρ
 | 0,_,_,_=>none
 | m+1,x3,k0,k1 =>
  (bif (decide (x3<(Int.ofNat x1))) then (bif (inb x3 x1) then (bif (inb x3 x1) then (bif ((decide ((x2 x3.toNat 0).int<0))==false) then (bif ((decide ((x2 x3.toNat 0).int≥x0))==false) then (bif ((decide ((x2 x3.toNat 1).int<0))==false) then (bif (decide ((x2 x3.toNat 1).int≥x0)) then (k0 9) else (bif ((x2 x3.toNat 0).int==(x2 x3.toNat 1).int) then (k0 2) else (L228v1 u x0 x1 x2 m (w64 (x3+1)) k0 k1))) else (k0 9)) else (k0 9)) else (k0 9)) else none) else none) else k1)
theorem nl228v1:∀ (m:Nat) (x0:Int) (k0:Int→Option ρ) (k1:Option ρ),ob (L228v1 u i0 n0 f0 m x0 k0 k1) ng=L228v1 u i0 n0 f0 m x0 (fun x1=>ob (k0 x1) ng) (ob k1 ng)
 | 0,_,_,_=>rfl
 | m+1,x0,k0,k1=>by
  simp only [L228v1,ob_bif,ob_ob,ob_none,nl228v1 m]
theorem q228v1:∀ (m:Nat) (x0:Int),
  loopH (eB A77v4 (C53 u) u) N228v1 m (s228v0 n0 f0 i0 x0) k=L228v1 u i0 n0 f0 m x0 (fun x1=>k .ret (s228v1 x1)) (k (.exit 0) s228v2)
 | 0,_=>rfl
 | m+1,x0=>by
  simp only [L228v1,← q228v1 m]
  kernel_rfl
def F228 (x0:Int) (x1:Nat) (x2:FF):Option (Int) :=
 (L228v1 u x0 x1 x2 u 0
  (fun x3=>(some x3))
  (some 0))
def s228v3:St:=⟨[vxi i0,.x (.c (ro kP n0 f0)),uu,uu,vxi 0,vxi 0,uu,uu,uu,uu,uu,uu,uu,uu,uu,uu,uu,uu,uu,uu,uu,uu,uu,uu,uu,uu,uu,uu,uu,uu,uu,uu,uu,uu,uu,uu,uu,uu,uu,uu,uu,uu,uu],[]⟩
theorem t228v1 :
  loopN (eB A77v4 (C53 u) u) N228v1 u (s228v3 n0 f0 i0) k =
  L228v1 u i0 n0 f0 u 0 (fun x0=>k .ret (s228v1 x0)) (k (.exit 0) s228v2) :=
 Eq.trans (loopN_at (by kernel_rfl)) (q228v1 ..)
theorem g228v2 :
  (kBlk 0 (kSeq (C53 u) u (rl 4 39 []) A77v5 (finish A77))) .ret (s228v1 i0) =
  (some [.v (vi i0)]):=by kernel_rfl
theorem g228v3 :
  (kBlk 0 (kSeq (C53 u) u (rl 4 39 []) A77v5 (finish A77))) (.exit 0) s228v2 =
  (some [.v (vi 0)]):=by kernel_rfl
theorem e228:evalF (C53 u) u A77 [.v (vi i0),.v (ro kP n0 f0)]=ob (F228 u i0 n0 f0) fun t=>some [.v (vi t)]:=Eq.trans (b:=(loopN (eB A77v4 (C53 u) u) N228v1 u (s228v3 n0 f0 i0) (kBlk 0 (kSeq (C53 u) u (rl 4 39 []) A77v5 (finish A77))))) (by kernel_rfl) (by
 simp only [F228,ob_bif,ob_ob,ob_none,ob_some,nl228v1,t228v1,g228v2,g228v3])
def O228:Ora:=mkO (qc (av ci) (q1 (av (cL kP)))) (fun x=>F228 u x.1 x.2.1 x.2.2) fun t=>[.v (vi t)]
theorem d228:DO (O228 u) (C53 u) 77 A77:=dO u (fun x=>by exact e228 u x.2.1 x.2.2 x.1)
def C54:Oracle:=(C53 u).add 77 (fun _=>true) (O228 u)
def A57v1:AC:=(.region 12 [mv 37 10,o1 38 (bk .add 3 37 1),o1 10 (sg 38)] 0 none)
def A57v2:AC:=(.seq (.block 3
 (.seq (.region 13 [mv 39 8,mv 40 1,mv 41 10,o1 42 (.indexAddr 102 46 2 (tm 40) (tm 41)),o1 43 (.indexAddrA 46 3 2 1 (tm 42) (ic 0)),o1 44 (lo 3 43),o1 45 (.indexAddr 71 4 1 (tm 39) (tm 44)),o1 46 (lo 4 45),o1 47 (.unOp .not 4 (tm 46))] 0 none) []
  (.cond (tm 47)
  (.region 14 [mv 48 9,mv 49 1,mv 50 10,o1 51 (.indexAddr 102 46 2 (tm 49) (tm 50)),o1 52 (.indexAddrA 46 3 2 1 (tm 51) (ic 1)),o1 53 (lo 3 52),o1 54 (.indexAddr 71 4 1 (tm 48) (tm 53)),o0 (.store 4 1 (tm 54) (.const (.bool true)))] 0 none)
  .skip))) (rl 39 16 [])
 A57v1)
def A57v3:AC:=(.seq (.seq (.region 11 [mv 33 10,mv 34 1,o1 35 (.len 102 false (tm 34)),o1 36 (bt .lss 3 33 35)] 0 none) []
 (.cond (tm 36)
 .skip
 (.exit 2 (rl 2 5 (rl 10 74 []))))) (rl 33 4 [])
 A57v2)
def A57v4:AC:=(.region 18 [mv 59 12,o1 60 (bk .sub 3 59 1),o1 12 (sg 60)] 0 none)
def A57v5:AC:=(.seq (.block 5
 (.seq (.region 19 [mv 61 8,mv 62 12,o1 63 (.indexAddr 71 4 1 (tm 61) (tm 62)),o1 64 (lo 4 63),o1 65 (.unOp .not 4 (tm 64)),mv 66 65,og 67 (.move (tm 9)) 66 true,og 68 (.move (tm 12)) 66 true,og 69 (.indexAddr 71 4 1 (tm 67) (tm 68)) 66 true,og 70 (lo 4 69) 66 true,og 71 (.unOp .not 4 (tm 70)) 66 true,o1 72 (po 66 71)] 0 none) []
  (.cond (tm 72)
  (.region 20 [mv 73 12,o1 11 (sg 73)] 0 none)
  .skip))) (rl 61 13 [])
 A57v4)
def A57v6:AC:=(.seq (.seq (.region 17 [mv 57 12,o1 58 (bk .geq 3 57 0)] 0 none) []
 (.cond (tm 58)
 .skip
 (.exit 4 (rl 2 5 (9 :: 10 :: (rl 12 72 [])))))) [57,58]
 A57v5)
def A57v7:AC:=(.seq (.region 23 [mv 76 8,mv 77 11,o1 78 (.indexAddr 71 4 1 (tm 76) (tm 77)),o0 (.store 4 1 (tm 78) (.const (.bool true)))] 0 none) []
 (.region 24 [mv 79 7,mv 80 11,o1 81 (.buildSlice 0 73 3 kM 1 [vci 0] [(0,(tm 80))]),o1 82 (.append 1 73 3 kM 8 (tm 79) (tm 81)),o1 7 (sg 82)] 2 none))
def A57v8:AC:=(.seq (.seq (.region 21 [mv 74 11,o1 75 (bk .lss 3 74 0)] 0 none) []
 (.cond (tm 75)
 (.seq (.region 22 [o1 4 (.assign (.const (.slice none 0 0))),o1 5 (sk 20)] 0 none) []
  (.ret (rl 0 4 (rl 6 78 []))))
 .skip)) [4,5,74,75]
 A57v7)
def A57v9:AC:=(.seq (.region 15 [o1 11 (sk (-1))] 0 none) []
 (.seq (.seq (.region 16 [mv 55 0,o1 56 (bk .sub 3 55 1),o1 12 (sg 56)] 0 none) []
 (.block 4
 (.loop [] (rl 2 5 (10 :: (rl 13 71 [])))
  A57v6))) (12 :: (rl 55 19 []))
 A57v8))
def A57v10:AC:=(.block 1
 (.seq (.region 9 [mv 31 0,o1 32 (.makeSlice 0 71 4 kN 1 [(.b false)] (tm 31) (tm 31)),o1 9 (sg 32)] 1 none) []
  (.seq (.seq (.region 10 [o1 10 (sk 0)] 0 none) []
  (.block 2
  (.loop [] (rl 2 5 (rl 11 73 []))
   A57v3))) (10 :: (rl 33 22 []))
  A57v9)))
def A57v11:AC:=(.seq (.seq (.region 8 [mv 27 7,o1 28 (.len 73 false (tm 27)),mv 29 0,o1 30 (bt .lss 3 28 29)] 0 none) []
 (.cond (tm 30)
 .skip
 (.exit 0 (rl 0 7 (rl 8 76 []))))) (rl 27 4 [])
 A57v10)
def A57v12:AC:=(.seq (.region 25 [mv 83 7,o1 4 (sg 83),o1 5 (sk 0)] 0 none) []
 (.ret (rl 0 4 (rl 6 78 []))))
def A57v13:AC:=(.seq (.region 6 [o1 7 (.assign (.const (.slice none 0 0)))] 0 none) []
 (.seq (.region 7 [mv 25 0,o1 26 (.makeSlice 0 71 4 kN 1 [(.b false)] (tm 25) (tm 25)),o1 8 (sg 26)] 1 none) []
 (.seq (.block 0
 (.loop [.slot 7 kM] (rl 2 5 (rl 9 75 []))
  A57v11)) (4 :: 5 :: (rl 9 4 (rl 27 56 [])))
 A57v12)))
def A57v14:AC:=(.seq (.seq (.region 3 [mv 19 0,mv 20 1,o1 21 (cs 77 [19,20] [3,102]),o1 6 (sg 21)] 0 none) []
 (.seq (.region 4 [mv 22 6,o1 23 (bk .neq 35 22 0)] 0 none) []
 (.cond (tm 23)
 (.seq (.region 5 [mv 24 6,o1 4 (.assign (.const (.slice none 0 0))),o1 5 (sg 24)] 0 none) []
  (.ret (rl 0 4 (rl 6 78 []))))
 .skip))) (4 :: 5 :: 6 :: (rl 19 6 []))
 A57v13)
def A57:AF:=⟨84,[.tmp 4,.tmp 5],
 (.seq (.region 0 [o1 4 (.assign (.const (.slice none 0 0))),o1 5 (sk 0)] 0 none) []
 (.seq (.seq (.region 1 [mv 13 0,o1 14 (bk .lss 3 13 0),mv 15 14,og 16 (.move (tm 0)) 15 false,og 17 (bk .gtr 3 16 256) 15 false,o1 18 (pa 15 17)] 0 none) []
 (.cond (tm 18)
 (.seq (.region 2 [o1 4 (.assign (.const (.slice none 0 0))),o1 5 (sk 9)] 0 none) []
  (.ret (rl 0 4 (rl 6 78 []))))
 .skip)) (4 :: 5 :: (rl 13 6 []))
 A57v14))⟩
def N229v3:St→Option St:=nN 3 (rl 2 5 (rl 11 73 []))
def s229v0:St:=⟨(vxi i0 :: .x (.c (ro kP n0 f0)) :: (us 5 (.x (.own 1 0 n1) :: .x (.own 0 0 n2) :: .x (.own 2 0 n3) :: vxi i1 :: (us 73 [])))),[.arr kN n2 f1,.arr kM n1 f2,.arr kN n3 f3]⟩
def s229v1:St:=⟨(vxi i0 :: .x (.c (ro kP n0 f0)) :: (us 5 (.x (.own 1 0 n1) :: .x (.own 0 0 n2) :: .x (.own 2 0 n3) :: (us 74 [])))),[.arr kN n2 f1,.arr kM n1 f2,.arr kN n3 f3]⟩
def L229v3 {ρ:Type} (u:Nat) (x0:Int) (x1:Nat) (x2:FF) (x3 x4 x5:Nat) (x6 x7:FF):Nat→Int→FF→(FF→Option ρ)→Option ρ
 | 0,_,_,_=>none
 | m+1,x8,x9,k0 =>
  (bif (decide (x8<(Int.ofNat x1))) then (bif (inb x8 x1) then (bif (inb (x2 x8.toNat 0).int x4) then (bif (!(CV.bool (x6 (0+(Int.toNat (x2 x8.toNat 0).int)) 0))) then (bif (inb x8 x1) then (bif (inb (x2 x8.toNat 1).int x5) then (L229v3 u x0 x1 x2 x3 x4 x5 x6 x7 m (w64 (x8+1)) (setF x9 (0+(Int.toNat (x2 x8.toNat 1).int)) 0 1 (listF [(.b true)])) k0) else none) else none) else (L229v3 u x0 x1 x2 x3 x4 x5 x6 x7 m (w64 (x8+1)) x9 k0)) else none) else none) else (k0 x9))
theorem nl229v3:∀ (m:Nat) (x0:Int) (x1:FF) (k0:FF→Option ρ),ob (L229v3 u i0 n0 f0 n1 n2 n3 f1 f2 m x0 x1 k0) ng=L229v3 u i0 n0 f0 n1 n2 n3 f1 f2 m x0 x1 (fun x2=>ob (k0 x2) ng)
 | 0,_,_,_=>rfl
 | m+1,x0,x1,k0=>by
  simp only [L229v3,ob_bif,ob_ob,ob_none,nl229v3 m]
theorem q229v3:∀ (m:Nat) (x0:Int) (x1:FF),
  loopH (eB A57v3 (C54 u) u) N229v3 m (s229v0 n0 n1 n2 n3 f0 f1 f2 x1 i0 x0) k=L229v3 u i0 n0 f0 n1 n2 n3 f1 f2 m x0 x1 (fun x2=>k (.exit 2) (s229v1 n0 n1 n2 n3 f0 f1 f2 x2 i0))
 | 0,_,_=>rfl
 | m+1,x0,x1=>by
  simp only [L229v3,← q229v3 m]
  kernel_rfl
def N229v4:St→Option St:=nN 3 (rl 2 5 (10 :: (rl 13 71 [])))
def s229v2:St:=⟨(vxi i0 :: .x (.c (ro kP n0 f0)) :: (us 5 (.x (.own 1 0 n1) :: .x (.own 0 0 n2) :: .x (.own 2 0 n3) :: .u :: vxi i1 :: vxi i2 :: (us 71 [])))),[.arr kN n2 f1,.arr kM n1 f2,.arr kN n3 f3]⟩
def s229v3:St:=⟨(vxi i0 :: .x (.c (ro kP n0 f0)) :: (us 5 (.x (.own 1 0 n1) :: .x (.own 0 0 n2) :: .u :: .u :: vxi i1 :: (us 72 [])))),[.arr kN n2 f1,.arr kM n1 f2,.arr kN n3 f3]⟩
def L229v4 {ρ:Type} (u:Nat) (x0:Int) (x1:Nat) (x2:FF) (x3 x4 x5:Nat) (x6 x7 x8:FF):Nat→Int→Int→(Int→Option ρ)→Option ρ
 | 0,_,_,_=>none
 | m+1,x9,xA,k0 =>
  (bif (decide (xA≥0)) then (bif (inb xA x4) then (bif ((!(x6 (0+xA.toNat) 0).bool)==true) then (bif (inb xA x5) then (bif (!(x8 (0+xA.toNat) 0).bool) then (L229v4 u x0 x1 x2 x3 x4 x5 x6 x7 x8 m xA (w64 (xA-1)) k0) else (L229v4 u x0 x1 x2 x3 x4 x5 x6 x7 x8 m x9 (w64 (xA-1)) k0)) else none) else (L229v4 u x0 x1 x2 x3 x4 x5 x6 x7 x8 m x9 (w64 (xA-1)) k0)) else none) else (k0 x9))
theorem nl229v4:∀ (m:Nat) (x0 x1:Int) (k0:Int→Option ρ),ob (L229v4 u i0 n0 f0 n1 n2 n3 f1 f2 f3 m x0 x1 k0) ng=L229v4 u i0 n0 f0 n1 n2 n3 f1 f2 f3 m x0 x1 (fun x2=>ob (k0 x2) ng)
 | 0,_,_,_=>rfl
 | m+1,x0,x1,k0=>by
  simp only [L229v4,ob_bif,ob_ob,ob_none,nl229v4 m]
theorem q229v4:∀ (m:Nat) (x0 x1:Int),
  loopH (eB A57v6 (C54 u) u) N229v4 m (s229v2 n0 n1 n2 n3 f0 f1 f2 f3 i0 x0 x1) k=L229v4 u i0 n0 f0 n1 n2 n3 f1 f2 f3 m x0 x1 (fun x2=>k (.exit 4) (s229v3 n0 n1 n2 n3 f0 f1 f2 f3 i0 x2))
 | 0,_,_=>rfl
 | m+1,x0,x1=>by
  simp only [L229v4,← q229v4 m]
  kernel_rfl
def N229v5:St→Option St:=nN 2 (rl 2 5 (rl 9 75 []))
def s229v4:St:=⟨(vxi i0 :: .x (.c (ro kP n0 f0)) :: (us 5 (.x (.own 1 0 n1) :: .x (.own 0 0 n2) :: (us 75 [])))),[.arr kN n2 f1,.arr kM n1 f2]⟩
def s229v5:St:=⟨(us 4 (.x (vcn) :: vxi 20 :: (us 78 []))),[.arr kN n0 f0,.arr kM n1 f1,.arr kN i0.toNat f2]⟩
def s229v6:St:=⟨(us 7 (.x (.own 1 0 n0) :: (us 76 []))),[.arr kN n1 f0,.arr kM n0 f1]⟩
def L229v5 {ρ:Type} (u:Nat) (x0:Int) (x1:Nat) (x2:FF) (x3:Nat):Nat→Nat→FF→FF→(FF→Nat→FF→FF→Option ρ)→(Nat→FF→FF→Option ρ)→Option ρ
 | 0,_,_,_,_,_=>none
 | m+1,x4,x5,x6,k0,k1 =>
  (bif (decide ((Int.ofNat x4)<x0)) then (bif (decide (0≤x0)&&decide (x0≤x0)&&decide (x0≤1073741824)&&true) then (L229v3 u x0 x1 x2 x4 x3 x0.toNat x5 x6 u 0 (fun _ j=>listF [(.b false)] j)
  (fun x7=>(L229v4 u x0 x1 x2 x4 x3 x0.toNat x5 x6 x7 u (-1) (w64 (x0-1))
  (fun x8=>(bif (decide (x8<0)) then (k0 x5 x4 x6 x7) else (bif (inb x8 x3) then (bif (Nat.ble (x4+1) 1073741824) then (L229v5 u x0 x1 x2 x3 m (x4+1) (setF x5 (0+x8.toNat) 0 1 (listF [(.b true)])) (joinF x4 x6 (rowsF 1 [(.i .i64 x8)])) k0 k1) else none) else none)))))) else none) else (k1 x4 x5 x6))
theorem nl229v5:∀ (m:Nat) (x0:Nat) (x1 x2:FF) (k0:FF→Nat→FF→FF→Option ρ) (k1:Nat→FF→FF→Option ρ),ob (L229v5 u i0 n0 f0 n1 m x0 x1 x2 k0 k1) ng=L229v5 u i0 n0 f0 n1 m x0 x1 x2 (fun x3 x4 x5 x6=>ob (k0 x3 x4 x5 x6) ng) (fun x7 x8 x9=>ob (k1 x7 x8 x9) ng)
 | 0,_,_,_,_,_=>rfl
 | m+1,x0,x1,x2,k0,k1=>by
  simp only [L229v5,ob_bif,ob_ob,ob_none,nl229v5 m,nl229v3,nl229v4]
def s229v7:St:=⟨(vxi i0 :: .x (.c (ro kP n0 f0)) :: (us 5 (.x (.own 1 0 n1) :: .x (.own 0 0 n2) :: .x (.own 2 0 i0.toNat) :: vxi 0 :: (us 20 (vxi i0 :: .x (.own 2 0 i0.toNat) :: (us 51 [])))))),[.arr kN n2 f1,.arr kM n1 f2,.arr kN i0.toNat (fun _ j=>listF [(.b false)] j)]⟩
theorem r229v5 :
  loopH (eB A57v11 (C54 u) u) N229v5 (m+1) (s229v4 n0 n2 n1 f0 f1 f2 i0) k =
  (bif (decide ((Int.ofNat n2)<i0)) then (bif (decide (0≤i0)&&decide (i0≤i0)&&decide (i0≤1073741824)&&true) then (loopN (eB A57v3 (C54 u) u) N229v3 u (s229v7 n0 n2 n1 f0 f1 f2 i0) (kBlk 2 (kSeq (C54 u) u (10 :: (rl 33 22 [])) A57v9 (kBlk 1 (kLoop (eB A57v11 (C54 u) u) N229v5 m k))))) else none) else (k (.exit 0) (s229v6 n2 n1 f1 f2))):=by kernel_rfl
theorem t229v1 :
  loopN (eB A57v3 (C54 u) u) N229v3 u (s229v7 n0 n1 n2 f0 f1 f2 i0) k =
  L229v3 u i0 n0 f0 n1 n2 i0.toNat f1 f2 u 0 (fun _ j=>listF [(.b false)] j) (fun x0=>k (.exit 2) (s229v1 n0 n1 n2 i0.toNat f0 f1 f2 x0 i0)) :=
 Eq.trans (loopN_at (by kernel_rfl)) (q229v3 ..)
def s229v8:St:=⟨(vxi i0 :: .x (.c (ro kP n0 f0)) :: (us 5 (.x (.own 1 0 n1) :: .x (.own 0 0 n2) :: .x (.own 2 0 i0.toNat) :: .u :: vxi (-1) :: vxi (w64 (i0-1)) :: (us 42 (vxi i0 :: vxi (w64 (i0-1)) :: (us 27 [])))))),[.arr kN n2 f1,.arr kM n1 f2,.arr kN i0.toNat f3]⟩
theorem g229v2 :
  (kBlk 2 (kSeq (C54 u) u (10 :: (rl 33 22 [])) A57v9 (kBlk 1 (kLoop (eB A57v11 (C54 u) u) N229v5 m k)))) (.exit 2) (s229v1 n0 n1 n2 i0.toNat f0 f1 f2 f3 i0) =
  (loopN (eB A57v6 (C54 u) u) N229v4 u (s229v8 n0 n1 n2 f0 f1 f2 f3 i0) (kBlk 4 (kSeq (C54 u) u (12 :: (rl 55 19 [])) A57v8 (kBlk 1 (kLoop (eB A57v11 (C54 u) u) N229v5 m k))))):=by kernel_rfl
theorem t229v3 :
  loopN (eB A57v6 (C54 u) u) N229v4 u (s229v8 n0 n1 n2 f0 f1 f2 f3 i0) k =
  L229v4 u i0 n0 f0 n1 n2 i0.toNat f1 f2 f3 u (-1) (w64 (i0-1)) (fun x0=>k (.exit 4) (s229v3 n0 n1 n2 i0.toNat f0 f1 f2 f3 i0 x0)) :=
 Eq.trans (loopN_at (by kernel_rfl)) (q229v4 ..)
theorem g229v4 :
  (kBlk 4 (kSeq (C54 u) u (12 :: (rl 55 19 [])) A57v8 (kBlk 1 (kLoop (eB A57v11 (C54 u) u) N229v5 m k)))) (.exit 4) (s229v3 n0 n1 n2 i0.toNat f0 f1 f2 f3 i0 i1) =
  (bif (decide (i1<0)) then (k .ret (s229v5 n2 n1 f1 f2 f3 i0)) else (bif (inb i1 n2) then (bif (Nat.ble (n1+1) 1073741824) then (loopH (eB A57v11 (C54 u) u) N229v5 m (s229v4 n0 (n1+1) n2 f0 (setF f1 (0+i1.toNat) 0 1 (listF [(.b true)])) (joinF n1 f2 (rowsF 1 [(vi i1)])) i0) k) else none) else none)):=by kernel_rfl
theorem q229v5:∀ (m:Nat) (x0:Nat) (x1 x2:FF),
  loopH (eB A57v11 (C54 u) u) N229v5 m (s229v4 n0 x0 n1 f0 x1 x2 i0) k=L229v5 u i0 n0 f0 n1 m x0 x1 x2 (fun x3 x4 x5 x6=>k .ret (s229v5 n1 x4 x3 x5 x6 i0)) (fun x7 x8 x9=>k (.exit 0) (s229v6 x7 n1 x8 x9))
 | 0,_,_,_=>rfl
 | m+1,x0,x1,x2=>by
  rw [r229v5]
  simp only [L229v5,q229v5 m,t229v1,g229v2,t229v3,g229v4]
def FT229 (x0:Int) (x1:Nat) (x2:FF):Option (Bool × Nat × FF × Int) :=
 (bif ((decide (x0<0))==false) then (bif (decide (x0>256)) then (some (true,0,(fun _ _=>.any),9)) else (ob (F228 u x0 x1 x2) fun x3=>(bif (x3 != 0) then (some (true,0,(fun _ _=>.any),x3)) else (bif (decide (0≤x0)&&decide (x0≤x0)&&decide (x0≤1073741824)&&true) then (L229v5 u x0 x1 x2 x0.toNat u 0 (fun _ j=>listF [(.b false)] j) (fun _ _=>.any)
  (fun x4 x5 x6 x7=>(some (true,0,(fun _ _=>.any),20)))
  (fun x8 x9 xA=>(some (false,x8,xA,0)))) else none)))) else (some (true,0,(fun _ _=>.any),9)))
def s229v9:St:=⟨(vxi i0 :: .x (.c (ro kP n0 f0)) :: uu :: uu :: (us 3 (.x (.own 1 0 0) :: .x (.own 0 0 i0.toNat) :: uu :: uu :: uu :: uu :: (us 12 [vxi i0,.x (.own 0 0 i0.toNat),uu,uu,uu,uu,uu,uu,uu,uu,uu,uu,uu,uu,uu,uu,uu,uu,uu,uu,uu,uu,uu,uu,uu,uu,uu,uu,uu,uu,uu,uu,uu,uu,uu,uu,uu,uu,uu,uu,uu,uu,uu,uu,uu,uu,uu,uu,uu,uu,uu,uu,uu,uu,uu,uu,uu,uu,uu])))),[.arr kN i0.toNat (fun _ j=>listF [(.b false)] j),.arr kM 0 nilF]⟩
theorem t229v5 :
  loopN (eB A57v11 (C54 u) u) N229v5 u (s229v9 n0 f0 i0) k =
  L229v5 u i0 n0 f0 i0.toNat u 0 (fun _ j=>listF [(.b false)] j) nilF (fun x0 x1 x2 x3=>k .ret (s229v5 i0.toNat x1 x0 x2 x3 i0)) (fun x4 x5 x6=>k (.exit 0) (s229v6 x4 i0.toNat x5 x6)) :=
 Eq.trans (loopN_at (by kernel_rfl)) (q229v5 ..)
theorem g229v6 :
  (kBlk 0 (kSeq (C54 u) u (4 :: 5 :: (rl 9 4 (rl 27 56 []))) A57v12 (finish A57))) .ret (s229v5 i0.toNat n0 f0 f1 f2 i0) =
  (some [.v (.ro true .nil 0 nilF),.v (vi 20)]):=by kernel_rfl
theorem g229v7 :
  (kBlk 0 (kSeq (C54 u) u (4 :: 5 :: (rl 9 4 (rl 27 56 []))) A57v12 (finish A57))) (.exit 0) (s229v6 n0 i0.toNat f0 f1) =
  (some [.v (ro kM n0 f1),.v (vi 0)]):=by kernel_rfl
theorem e229:evalF (C54 u) u A57 [.v (vi i0),.v (ro kP n0 f0)]=ob (FT229 u i0 n0 f0) fun t=>some (bif t.1 then [.v (.ro true .nil 0 nilF),.v (vi t.2.2.2)] else [.v (ro kM t.2.1 t.2.2.1),.v (vi 0)]):=Eq.trans (b:=(bif ((decide (i0<0))==false) then (bif (decide (i0>256)) then (some [.v (.ro true .nil 0 nilF),.v (vi 9)]) else (ob (F228 u i0 n0 f0) fun x0=>(bif (x0 != 0) then (some [.v (.ro true .nil 0 nilF),.v (vi x0)]) else (bif (decide (0≤i0)&&decide (i0≤i0)&&decide (i0≤1073741824)&&true) then (loopN (eB A57v11 (C54 u) u) N229v5 u (s229v9 n0 f0 i0) (kBlk 0 (kSeq (C54 u) u (4 :: 5 :: (rl 9 4 (rl 27 56 []))) A57v12 (finish A57)))) else none)))) else (some [.v (.ro true .nil 0 nilF),.v (vi 9)]))) (by kernel_rfl) (by
 simp only [FT229,ob_bif,ob_ob,ob_none,ob_some,nl229v5,t229v5,g229v6,g229v7,cond_true,cond_false])
def F229 (x0:Int) (x1:Nat) (x2:FF):Option (Nat × FF × Int):=ob (FT229 u x0 x1 x2) fun t=>some (bif t.1 then (0,(fun _ _=>.any),t.2.2.2) else (t.2.1,t.2.2.1,0))
def O229:Ora:=mkO (qc (av ci) (q1 (av (cL kP)))) (fun x=>F229 u x.1 x.2.1 x.2.2) fun t=>[.v (ro kM t.1 t.2.1),.v (vi t.2.2)]
theorem d229:DO (O229 u) (C54 u) 57 A57:=dW u (fun x=>by exact e229 u x.2.1 x.2.2 x.1) (fun _=>rfl) fun t=>by
 obtain ⟨b,t⟩:=t
 cases b with
 | true=>exact (.cons (WkA.v (Wk.ro (by rfl))) (.cons (WkA.v (Wk.refl _)) .nil))
 | false =>
  exact (.cons (WkA.v (Wk.refl _)) (.cons (WkA.v (Wk.refl _)) .nil))
def C55:Oracle:=(C54 u).add 57 (fun _=>true) (O229 u)
def A32v1:AC:=(.seq (.block 1
 (.region 9 [mv 28 7,mv 29 4,mv 30 5,mv 31 8,o1 32 (.indexAddr 73 3 1 (tm 30) (tm 31)),o1 33 (lo 3 32),o1 34 (.indexAddr 51 9 1 (tm 29) (tm 33)),o1 35 (lo 9 34),o1 36 (.buildSlice 0 51 9 kO 1 [vcs ByteArray.empty] [(0,(tm 35))]),o1 37 (.append 1 51 9 kO 16 (tm 28) (tm 36)),o1 7 (sg 37)] 2 none)) []
 (.region 8 [mv 26 8,o1 27 (bk .add 3 26 1),o1 8 (sg 27)] 0 none))
def A32v2:AC:=(.seq (.seq (.region 7 [mv 22 8,mv 23 5,o1 24 (.len 73 false (tm 23)),o1 25 (bt .lss 3 22 24)] 0 none) []
 (.cond (tm 25)
 .skip
 (.exit 0 (rl 0 7 (rl 8 31 []))))) (rl 22 4 [])
 A32v1)
def A32v3:AC:=(.seq (.region 10 [mv 38 7,o1 2 (sg 38),o1 3 (sk 0)] 0 none) []
 (.ret (0 :: 1 :: (rl 4 35 []))))
def A32v4:AC:=(.seq (.region 5 [o1 7 (.assign (.const (.slice none 0 0)))] 0 none) []
 (.seq (.seq (.region 6 [o1 8 (sk 0)] 0 none) []
 (.block 0
 (.loop [.slot 7 kO] (rl 0 4 (6 :: (rl 9 30 [])))
  A32v2))) (8 :: (rl 22 16 []))
 A32v3))
def A32:AF:=⟨39,[.tmp 2,.tmp 3],
 (.seq (.region 0 [o1 1 (bx 0 28 0),o1 2 (.assign (.const (.slice none 0 0))),o1 3 (sk 0)] 1 none) []
 (.seq (.region 1 [o1 9 (ln 28 6 1),o1 10 (cf 33 [9] [28]),o1 4 (sg 10)] 0 none) []
 (.seq (.region 2 [mv 12 4,o1 13 (.len 51 false (tm 12)),o1 14 (ln 28 6 1),o1 15 (cf 58 [14] [28]),o1 16 (cf 57 [13,15] [3,102]),mv 11 16,o1 17 (.extract (tm 11) 0),o1 18 (.extract (tm 11) 1),o1 5 (sg 17),o1 6 (sg 18)] 0 none) []
 (.seq (.seq (.region 3 [mv 19 6,o1 20 (bk .neq 35 19 0)] 0 none) []
 (.cond (tm 20)
 (.seq (.region 4 [mv 21 6,o1 2 (.assign (.const (.slice none 0 0))),o1 3 (sg 21)] 0 none) []
  (.ret (0 :: 1 :: (rl 4 35 []))))
 .skip)) [2,3,19,20,21]
 A32v4))))⟩
def N255v1:St→Option St:=nN 2 (rl 0 4 (6 :: (rl 9 30 [])))
def s255v0:St:=⟨(us 4 (.x (.c (ro kO n0 f0)) :: .x (.c (ro kM n1 f1)) :: .u :: .x (.own 1 0 n2) :: vxi i0 :: (us 30 []))),[.box [(vcs w0),(.c (ro kF n3 f2)),(.c (ro kB n4 f3)),(.c (ro kI n5 f4)),(.c (ro kD n6 f5)),(.c (ro kG n7 f6))],.arr kO n2 f7]⟩
def s255v1:St:=⟨(us 7 (.x (.own 1 0 n0) :: (us 31 []))),[.box [(vcs w0),(.c (ro kF n1 f0)),(.c (ro kB n2 f1)),(.c (ro kI n3 f2)),(.c (ro kD n4 f3)),(.c (ro kG n5 f4))],.arr kO n0 f5]⟩
def L255v1 {ρ:Type} (u:Nat) (x0:Nat) (x1:FF) (x2:Nat) (x3:FF) (x4:ByteArray) (x5:Nat) (x6:FF) (x7:Nat) (x8:FF) (x9:Nat) (xA:FF) (xB:Nat) (xC:FF) (xD:Nat) (xE:FF):Nat→Nat→Int→FF→(Nat→FF→Option ρ)→Option ρ
 | 0,_,_,_,_=>none
 | m+1,xF,xG,xH,k0 =>
  (bif (decide (xG<(Int.ofNat x2))) then (bif (inb xG x2) then (bif (inb (x3 xG.toNat 0).int x0) then (bif (Nat.ble (xF+1) 1073741824) then (L255v1 u x0 x1 x2 x3 x4 x5 x6 x7 x8 x9 xA xB xC xD xE m (xF+1) (w64 (xG+1)) (joinF xF xH (rowsF 1 [(.s (CV.str (x1 (Int.toNat (x3 xG.toNat 0).int) 0)))])) k0) else none) else none) else none) else (k0 xF xH))
theorem nl255v1:∀ (m:Nat) (x0:Nat) (x1:Int) (x2:FF) (k0:Nat→FF→Option ρ),ob (L255v1 u n0 f0 n1 f1 w0 n2 f2 n3 f3 n4 f4 n5 f5 n6 f6 m x0 x1 x2 k0) ng=L255v1 u n0 f0 n1 f1 w0 n2 f2 n3 f3 n4 f4 n5 f5 n6 f6 m x0 x1 x2 (fun x3 x4=>ob (k0 x3 x4) ng)
 | 0,_,_,_,_=>rfl
 | m+1,x0,x1,x2,k0=>by
  simp only [L255v1,ob_bif,ob_ob,ob_none,nl255v1 m]
theorem q255v1:∀ (m:Nat) (x0:Nat) (x1:Int) (x2:FF),
  loopH (eB A32v2 (C55 u) u) N255v1 m (s255v0 n0 n1 x0 n2 n3 n4 n5 n6 f0 f1 f2 f3 f4 f5 f6 x2 x1 w0) k=L255v1 u n0 f0 n1 f1 w0 n2 f2 n3 f3 n4 f4 n5 f5 n6 f6 m x0 x1 x2 (fun x3 x4=>k (.exit 0) (s255v1 x3 n2 n3 n4 n5 n6 f2 f3 f4 f5 f6 x4 w0))
 | 0,_,_,_=>rfl
 | m+1,x0,x1,x2=>by
  simp only [L255v1,← q255v1 m]
  kernel_rfl
def FT255 (x0:ByteArray) (x1:Nat) (x2:FF) (x3:Nat) (x4:FF) (x5:Nat) (x6:FF) (x7:Nat) (x8:FF) (x9:Nat) (xA:FF):Option (Bool × Nat × FF × Int) :=
 (ob (F252 u x0 x1 x2 x3 x4 x5 x6 x7 x8 x9 xA) fun xB=>(ob (F254 u x0 x1 x2 x3 x4 x5 x6 x7 x8 x9 xA) fun xC=>(ob (F229 u (Int.ofNat xB.1) xC.1 xC.2) fun xD=>(bif (xD.2.2 != 0) then (some (true,0,(fun _ _=>.any),xD.2.2)) else (L255v1 u xB.1 xB.2 xD.1 xD.2.1 x0 x1 x2 x3 x4 x5 x6 x7 x8 x9 xA u 0 0 (fun _ _=>.any)
  (fun xE xF=>(some (false,xE,xF,0))))))))
def s255v2 (x0:Nat × FF) (x1:Nat × FF × Int) (x2:Nat × FF):St:=⟨(.agg [(vcs w0),(.c (ro kF n0 f0)),(.c (ro kB n1 f1)),(.c (ro kI n2 f2)),(.c (ro kD n3 f3)),(.c (ro kG n4 f4))] :: .x (.ptr 0 0) :: .u :: .u :: .x (.c (ro kO x0.1 x0.2)) :: .x (.c (ro kM x1.1 x1.2.1)) :: vxi x1.2.2 :: .x (.own 1 0 0) :: vxi 0 :: .agg [(vcs w0),(.c (ro kF n0 f0)),(.c (ro kB n1 f1)),(.c (ro kI n2 f2)),(.c (ro kD n3 f3)),(.c (ro kG n4 f4))] :: .x (.c (ro kO x0.1 x0.2)) :: .tup [.v (ro kM x1.1 x1.2.1),.v (vi x1.2.2)] :: .x (.c (ro kO x0.1 x0.2)) :: vxi (Int.ofNat x0.1) :: .agg [(vcs w0),(.c (ro kF n0 f0)),(.c (ro kB n1 f1)),(.c (ro kI n2 f2)),(.c (ro kD n3 f3)),(.c (ro kG n4 f4))] :: .x (.c (ro kP x2.1 x2.2)) :: .tup [.v (ro kM x1.1 x1.2.1),.v (vi x1.2.2)] :: .x (.c (ro kM x1.1 x1.2.1)) :: vxi x1.2.2 :: (us 3 [uu,uu,uu,uu,uu,uu,uu,uu,uu,uu,uu,uu,uu,uu,uu,uu,uu])),[.box [(vcs w0),(.c (ro kF n0 f0)),(.c (ro kB n1 f1)),(.c (ro kI n2 f2)),(.c (ro kD n3 f3)),(.c (ro kG n4 f4))],.arr kO 0 nilF]⟩
theorem t255v1 (x0:Nat × FF) (x1:Nat × FF × Int) (x2:Nat × FF) :
  loopN (eB A32v2 (C55 u) u) N255v1 u (s255v2 n0 n1 n2 n3 n4 f0 f1 f2 f3 f4 w0 x0 x1 x2) k =
  L255v1 u x0.1 x0.2 x1.1 x1.2.1 w0 n0 f0 n1 f1 n2 f2 n3 f3 n4 f4 u 0 0 nilF (fun x3 x4=>k (.exit 0) (s255v1 x3 n0 n1 n2 n3 n4 f0 f1 f2 f3 f4 x4 w0)) :=
 Eq.trans (loopN_at (by kernel_rfl)) (q255v1 ..)
theorem g255v2 :
  (kBlk 0 (kSeq (C55 u) u (8 :: (rl 22 16 [])) A32v3 (finish A32))) (.exit 0) (s255v1 n0 n1 n2 n3 n4 n5 f0 f1 f2 f3 f4 f5 w0) =
  (some [.v (ro kO n0 f5),.v (vi 0)]):=by kernel_rfl
theorem e255:evalF (C55 u) u A32 [.agg [(.s w0),(ro kF n0 f0),(ro kB n1 f1),(ro kI n2 f2),(ro kD n3 f3),(ro kG n4 f4)]]=ob (FT255 u w0 n0 f0 n1 f1 n2 f2 n3 f3 n4 f4) fun t=>some (bif t.1 then [.v (.ro true .nil 0 nilF),.v (vi t.2.2.2)] else [.v (ro kO t.2.1 t.2.2.1),.v (vi 0)]):=Eq.trans (b:=(ob (F252 u w0 n0 f0 n1 f1 n2 f2 n3 f3 n4 f4) fun x0=>(ob (F254 u w0 n0 f0 n1 f1 n2 f2 n3 f3 n4 f4) fun x1=>(ob (F229 u (Int.ofNat x0.1) x1.1 x1.2) fun x2=>(bif (x2.2.2 != 0) then (some [.v (.ro true .nil 0 nilF),.v (vi x2.2.2)]) else (loopN (eB A32v2 (C55 u) u) N255v1 u (s255v2 n0 n1 n2 n3 n4 f0 f1 f2 f3 f4 w0 x0 x2 x1) (kBlk 0 (kSeq (C55 u) u (8 :: (rl 22 16 [])) A32v3 (finish A32))))))))) (by kernel_rfl) (by
 simp only [FT255,ob_bif,ob_ob,ob_none,ob_some,nl255v1,t255v1,g255v2,cond_true,cond_false])
def F255 (x0:ByteArray) (x1:Nat) (x2:FF) (x3:Nat) (x4:FF) (x5:Nat) (x6:FF) (x7:Nat) (x8:FF) (x9:Nat) (xA:FF):Option (Nat × FF × Int):=ob (FT255 u x0 x1 x2 x3 x4 x5 x6 x7 x8 x9 xA) fun t=>some (bif t.1 then (0,(fun _ _=>.any),t.2.2.2) else (t.2.1,t.2.2.1,0))
def O255:Ora:=mkO (q1 (ag (tc cS (tc (cL kF) (tc (cL kB) (tc (cL kI) (tc (cL kD) (t1 (cL kG))))))))) (fun x=>F255 u x.1 x.2.1.1 x.2.1.2 x.2.2.1.1 x.2.2.1.2 x.2.2.2.1.1 x.2.2.2.1.2 x.2.2.2.2.1.1 x.2.2.2.2.1.2 x.2.2.2.2.2.1 x.2.2.2.2.2.2) fun t=>[.v (ro kO t.1 t.2.1),.v (vi t.2.2)]
theorem d255:DO (O255 u) (C55 u) 32 A32:=dW u (fun x=>by exact e255 u x.2.1.1 x.2.2.1.1 x.2.2.2.1.1 x.2.2.2.2.1.1 x.2.2.2.2.2.1 x.2.1.2 x.2.2.1.2 x.2.2.2.1.2 x.2.2.2.2.1.2 x.2.2.2.2.2.2 x.1) (fun _=>rfl) fun t=>by
 obtain ⟨b,t⟩:=t
 cases b with
 | true=>exact (.cons (WkA.v (Wk.ro (by rfl))) (.cons (WkA.v (Wk.refl _)) .nil))
 | false =>
  exact (.cons (WkA.v (Wk.refl _)) (.cons (WkA.v (Wk.refl _)) .nil))
def C56:Oracle:=(C55 u).add 32 (fun _=>true) (O255 u)
def A34v1:AC:=(.region 3 [mv 10 5,o1 11 (bk .add 3 10 1),o1 5 (sg 11)] 0 none)
def A34v2:AC:=(.seq (.block 1
 (.seq (.region 4 [mv 12 0,mv 13 5,o1 14 (.indexAddr 51 9 1 (tm 12) (tm 13)),o1 15 (lo 9 14),mv 16 1,o1 17 (bt .eql 9 15 16)] 0 none) []
  (.cond (tm 17)
  (.seq (.region 5 [mv 18 5,o1 4 (sg 18)] 0 none) []
   (.ret (rl 0 4 (rl 5 14 []))))
  .skip))) (4 :: (rl 12 7 []))
 A34v1)
def A34v3:AC:=(.seq (.seq (.region 2 [mv 6 5,mv 7 0,o1 8 (.len 51 false (tm 7)),o1 9 (bt .lss 3 6 8)] 0 none) []
 (.cond (tm 9)
 .skip
 (.exit 0 (rl 0 19 [])))) (rl 6 4 [])
 A34v2)
def A34v4:AC:=(.seq (.region 6 [o1 4 (sk (-1))] 0 none) []
 (.ret (rl 0 4 (rl 5 14 []))))
def A34:AF:=⟨19,[.tmp 4],
 (.seq (.region 0 [o1 4 (sk 0)] 0 none) []
 (.seq (.seq (.region 1 [o1 5 (sk 0)] 0 none) []
 (.block 0
 (.loop [] (2 :: 3 :: 4 :: (rl 6 13 []))
  A34v3))) (rl 4 15 [])
 A34v4))⟩
def N361v1:St→Option St:=nN 0 (2 :: 3 :: 4 :: (rl 6 13 []))
def s361v0:St:=⟨(.x (.c (ro kO n0 f0)) :: vxs w0 :: (us 3 (vxi i0 :: (us 13 [])))),[]⟩
def s361v1:St:=⟨(us 4 (vxi i0 :: (us 14 []))),[]⟩
def s361v2:St:=⟨(us 19 []),[]⟩
def L361v1 {ρ:Type} (u:Nat) (x0:Nat) (x1:FF) (x2:ByteArray):Nat→Int→(Int→Option ρ)→(Option ρ)→Option ρ
 | 0,_,_,_=>none
 | m+1,x3,k0,k1 =>
  (bif (decide (x3<(Int.ofNat x0))) then (bif (inb x3 x0) then (bif (ByteArray.toList (x1 x3.toNat 0).str==ByteArray.toList x2) then (k0 x3) else (L361v1 u x0 x1 x2 m (w64 (x3+1)) k0 k1)) else none) else k1)
theorem nl361v1:∀ (m:Nat) (x0:Int) (k0:Int→Option ρ) (k1:Option ρ),ob (L361v1 u n0 f0 w0 m x0 k0 k1) ng=L361v1 u n0 f0 w0 m x0 (fun x1=>ob (k0 x1) ng) (ob k1 ng)
 | 0,_,_,_=>rfl
 | m+1,x0,k0,k1=>by
  simp only [L361v1,ob_bif,ob_ob,ob_none,nl361v1 m]
theorem q361v1:∀ (m:Nat) (x0:Int),
  loopH (eB A34v3 (C56 u) u) N361v1 m (s361v0 n0 f0 x0 w0) k=L361v1 u n0 f0 w0 m x0 (fun x1=>k .ret (s361v1 x1)) (k (.exit 0) s361v2)
 | 0,_=>rfl
 | m+1,x0=>by
  simp only [L361v1,← q361v1 m]
  kernel_rfl
def F361 (x0:Nat) (x1:FF) (x2:ByteArray):Option (Int) :=
 (L361v1 u x0 x1 x2 u 0
  (fun x3=>(some x3))
  (some (-1)))
def s361v3:St:=⟨[.x (.c (ro kO n0 f0)),vxs w0,uu,uu,vxi 0,vxi 0,uu,uu,uu,uu,uu,uu,uu,uu,uu,uu,uu,uu,uu],[]⟩
theorem t361v1 :
  loopN (eB A34v3 (C56 u) u) N361v1 u (s361v3 n0 f0 w0) k =
  L361v1 u n0 f0 w0 u 0 (fun x0=>k .ret (s361v1 x0)) (k (.exit 0) s361v2) :=
 Eq.trans (loopN_at (by kernel_rfl)) (q361v1 ..)
theorem g361v2 :
  (kBlk 0 (kSeq (C56 u) u (rl 4 15 []) A34v4 (finish A34))) .ret (s361v1 i0) =
  (some [.v (vi i0)]):=by kernel_rfl
theorem g361v3 :
  (kBlk 0 (kSeq (C56 u) u (rl 4 15 []) A34v4 (finish A34))) (.exit 0) s361v2 =
  (some [.v (vi (-1))]):=by kernel_rfl
theorem e361:evalF (C56 u) u A34 [.v (ro kO n0 f0),.v (.s w0)]=ob (F361 u n0 f0 w0) fun t=>some [.v (vi t)]:=Eq.trans (b:=(loopN (eB A34v3 (C56 u) u) N361v1 u (s361v3 n0 f0 w0) (kBlk 0 (kSeq (C56 u) u (rl 4 15 []) A34v4 (finish A34))))) (by kernel_rfl) (by
 simp only [F361,ob_bif,ob_ob,ob_none,ob_some,nl361v1,t361v1,g361v2,g361v3])
def O361:Ora:=mkO (qc (av (cL kO)) (q1 (av cS))) (fun x=>F361 u x.1.1 x.1.2 x.2) fun t=>[.v (vi t)]
theorem d361:DO (O361 u) (C56 u) 34 A34:=dO u (fun x=>by exact e361 u x.1.1 x.1.2 x.2)
def C57:Oracle:=(C56 u).add 34 (fun _=>true) (O361 u)
def A13v1:AC:=(.region 23 [mv 78 10,o1 79 (bk .add 3 78 1),o1 10 (sg 79)] 0 none)
def A13v2:AC:=(.seq (.block 4
 (.seq (.region 24 [o1 80 (fa 53 9 2 2),o1 81 (lo 51 80),mv 82 10,o1 83 (.indexAddr 51 9 1 (tm 81) (tm 82)),o1 84 (lo 9 83),o1 85 (fa 53 9 2 2),o1 86 (lo 51 85),mv 87 10,o1 88 (bk .sub 3 87 1),o1 89 (.indexAddr 51 9 1 (tm 86) (tm 88)),o1 90 (lo 9 89),o1 91 (bt .leq 9 84 90)] 0 (some [[],[0],[],[0,1,2],(rl 0 4 []),[],[5],[],[7],(rl 5 4 []),(rl 5 5 []),(rl 0 11 [])])) []
  (.cond (tm 91)
  (.seq (.region 25 [o1 4 (sk 11)] 0 none) []
   (.ret (rl 0 4 (rl 5 87 []))))
  .skip))) (4 :: (rl 80 12 []))
 A13v1)
def A13v3:AC:=(.seq (.seq (.region 22 [mv 73 10,o1 74 (fa 53 9 2 2),o1 75 (lo 51 74),o1 76 (.len 51 false (tm 75)),o1 77 (bt .lss 3 73 76)] 0 none) []
 (.cond (tm 77)
 .skip
 (.exit 3 (0 :: (rl 2 5 (rl 9 83 [])))))) (rl 73 5 [])
 A13v2)
def A13v4:AC:=(.seq (.region 21 [o1 10 (sk 1)] 0 none) []
 (.block 3
 (.loop [] (0 :: (rl 2 5 (rl 11 81 [])))
  A13v3)))
def A13v5:AC:=(.region 9 [mv 28 8,o1 29 (bk .add 3 28 1),o1 8 (sg 29)] 0 none)
def A13v6:AC:=(.seq (.block 1
 (.seq (.region 10 [mv 30 1,mv 31 8,o1 32 (.indexAddr 29 53 3 (tm 30) (tm 31)),o1 33 (ln 53 3 32),o1 9 (.alloc 0 53 [vcs ByteArray.empty,vci 0,vcn]),o0 (.store 53 3 (tm 9) (tm 33))] 1 none) []
  (.seq (.block 2
  (.seq (.region 11 [mv 35 7,o1 36 (fa 53 9 0 0),o1 37 (lo 9 36),o1 38 (cs 34 [35,37] [51,9]),o1 39 (bk .lss 3 38 0),o1 34 (sg 39)] 0 none) []
   (.cond (tm 34)
   (.seq (.region 12 [o1 4 (sk 8)] 0 none) []
    (.ret (rl 0 4 (rl 5 87 []))))
   (.seq (.region 13 [mv 41 8,o1 42 (bk .gtr 3 41 0),mv 43 42,og 44 (fa 53 9 0 0) 43 true,og 45 (lo 9 44) 43 true,og 46 (.move (tm 1)) 43 true,og 47 (.move (tm 8)) 43 true,og 48 (bk .sub 3 47 1) 43 true,og 49 (.indexAddr 29 53 3 (tm 46) (tm 48)) 43 true,og 50 (fa 53 49 0 0) 43 true,og 51 (lo 9 50) 43 true,og 52 (bt .leq 9 45 51) 43 true,o1 53 (po 43 52),o1 40 (sg 53)] 0 (some [[],[0],[0,1],[0,1,2],(rl 0 4 []),[0,1,2],[0,1,2],[0,1,2,6],[0,1,2,5,6,7],(0 :: 1 :: 2 :: (rl 5 4 [])),(0 :: 1 :: 2 :: (rl 5 5 [])),(rl 0 11 []),(rl 0 12 []),(rl 0 13 [])])) []
    (.cond (tm 40)
    (.seq (.region 14 [o1 4 (sk 11)] 0 none) []
     (.ret (rl 0 4 (rl 5 87 []))))
    (.seq (.region 15 [o1 55 (fa 53 9 1 1),o1 56 (lo 3 55),o1 57 (bk .lss 3 56 1),mv 58 57,og 59 (fa 53 9 1 1) 58 false,og 60 (lo 3 59) 58 false,og 61 (bk .gtr 3 60 10000) 58 false,o1 62 (pa 58 61),o1 54 (sg 62)] 0 none) []
     (.cond (tm 54)
     (.seq (.region 16 [o1 4 (sk 9)] 0 none) []
      (.ret (rl 0 4 (rl 5 87 []))))
     (.seq (.region 17 [o1 64 (fa 53 9 2 2),o1 65 (lo 51 64),o1 66 (.len 51 false (tm 65)),o1 67 (bk .eql 3 66 0),o1 63 (sg 67)] 0 none) []
      (.cond (tm 63)
      (.seq (.region 18 [o1 4 (sk 3)] 0 none) []
       (.ret (rl 0 4 (rl 5 87 []))))
      (.seq (.region 19 [o1 69 (fa 53 9 2 2),o1 70 (lo 51 69),o1 71 (.len 51 false (tm 70)),o1 72 (bk .gtr 3 71 8),o1 68 (sg 72)] 0 none) []
       (.cond (tm 68)
       (.seq (.region 20 [o1 4 (sk 4)] 0 none) []
        (.ret (rl 0 4 (rl 5 87 []))))
       .skip))))))))))) (4 :: (rl 34 39 []))
  A13v4))) (4 :: 9 :: 10 :: (rl 30 62 []))
 A13v5)
def A13v7:AC:=(.seq (.seq (.region 8 [mv 24 8,mv 25 1,o1 26 (.len 29 false (tm 25)),o1 27 (bt .lss 3 24 26)] 0 none) []
 (.cond (tm 27)
 .skip
 (.exit 0 (rl 0 92 [])))) (rl 24 4 [])
 A13v6)
def A13v8:AC:=(.seq (.region 26 [o1 4 (sk 0)] 0 none) []
 (.ret (rl 0 4 (rl 5 87 []))))
def A13v9:AC:=(.seq (.region 6 [o1 22 (ln 28 6 2),o1 23 (cf 33 [22] [28]),o1 7 (sg 23)] 0 none) []
 (.seq (.seq (.region 7 [o1 8 (sk 0)] 0 none) []
 (.block 0
 (.loop [] (0 :: (rl 2 5 (rl 9 83 [])))
  A13v7))) (4 :: 8 :: 9 :: 10 :: (rl 24 68 []))
 A13v8))
def A13v10:AC:=(.seq (.seq (.region 3 [o1 15 (ln 28 6 2),o1 16 (cf 32 [15] [28]),mv 14 16,o1 17 (.extract (tm 14) 0),o1 18 (.extract (tm 14) 1),o1 5 (sg 17),o1 6 (sg 18)] 0 none) []
 (.seq (.region 4 [mv 19 6,o1 20 (bk .neq 35 19 0)] 0 none) []
 (.cond (tm 20)
 (.seq (.region 5 [mv 21 6,o1 4 (sg 21)] 0 none) []
  (.ret (rl 0 4 (rl 5 87 []))))
 .skip))) (4 :: 5 :: 6 :: (rl 14 8 []))
 A13v9)
def A13:AF:=⟨92,[.tmp 4],
 (.seq (.region 0 [o1 2 (bx 0 28 0),o1 4 (sk 0)] 1 none) []
 (.seq (.seq (.region 1 [mv 11 1,o1 12 (.len 29 false (tm 11)),o1 13 (bk .gtr 3 12 64)] 0 none) []
 (.cond (tm 13)
 (.seq (.region 2 [o1 4 (sk 4)] 0 none) []
  (.ret (rl 0 4 (rl 5 87 []))))
 .skip)) [4,11,12,13]
 A13v10))⟩
def N362v2:St→Option St:=nN 2 (0 :: (rl 2 5 (rl 11 81 [])))
def s362v0:St:=⟨(.u :: .x (.c (ro kE n0 f0)) :: (us 5 (.x (.c (ro kO n1 f1)) :: vxi i0 :: .x (.ptr 1 0) :: vxi i1 :: (us 81 [])))),[.box [(vcs w0),(.c (ro kF n2 f2)),(.c (ro kB n3 f3)),(.c (ro kI n4 f4)),(.c (ro kD n5 f5)),(.c (ro kG n6 f6))],.box [(vcs w1),(vci i2),(.c (ro kO n7 f7))]]⟩
def s362v1:St:=⟨(us 4 (vxi 11 :: (us 87 []))),[.box [(vcs w0),(.c (ro kF n0 f0)),(.c (ro kB n1 f1)),(.c (ro kI n2 f2)),(.c (ro kD n3 f3)),(.c (ro kG n4 f4))],.box [(vcs w1),(vci i0),(.c (ro kO n5 f5))]]⟩
def s362v2:St:=⟨(.u :: .x (.c (ro kE n0 f0)) :: (us 5 (.x (.c (ro kO n1 f1)) :: vxi i0 :: (us 83 [])))),[.box [(vcs w0),(.c (ro kF n2 f2)),(.c (ro kB n3 f3)),(.c (ro kI n4 f4)),(.c (ro kD n5 f5)),(.c (ro kG n6 f6))],.box [(vcs w1),(vci i1),(.c (ro kO n7 f7))]]⟩
def L362v2 {ρ:Type} (u:Nat) (x0:Nat) (x1:FF) (x2:Nat) (x3:FF) (x4:Int) (x5:ByteArray) (x6:Nat) (x7:FF) (x8:Nat) (x9:FF) (xA:Nat) (xB:FF) (xC:Nat) (xD:FF) (xE:Nat) (xF:FF) (xG:ByteArray) (xH:Int) (xI:Nat) (xJ:FF):Nat→Int→(Option ρ)→(Option ρ)→Option ρ
 | 0,_,_,_=>none
 | m+1,xK,k0,k1 =>
  (bif (decide (xK<(Int.ofNat xI))) then (bif (inb xK xI) then (bif (inb (w64 (xK-1)) xI) then (bif ((Op.bytesLess (ByteArray.toList (xJ xK.toNat 0).str) (ByteArray.toList (CV.str (xJ (Int.toNat (w64 (xK-1))) 0))))||(ByteArray.toList (xJ xK.toNat 0).str==ByteArray.toList (CV.str (xJ (Int.toNat (w64 (xK-1))) 0)))) then k0 else (L362v2 u x0 x1 x2 x3 x4 x5 x6 x7 x8 x9 xA xB xC xD xE xF xG xH xI xJ m (w64 (xK+1)) k0 k1)) else none) else none) else k1)
theorem nl362v2:∀ (m:Nat) (x0:Int) (k0:Option ρ) (k1:Option ρ),ob (L362v2 u n0 f0 n1 f1 i0 w0 n2 f2 n3 f3 n4 f4 n5 f5 n6 f6 w1 i1 n7 f7 m x0 k0 k1) ng=L362v2 u n0 f0 n1 f1 i0 w0 n2 f2 n3 f3 n4 f4 n5 f5 n6 f6 w1 i1 n7 f7 m x0 (ob k0 ng) (ob k1 ng)
 | 0,_,_,_=>rfl
 | m+1,x0,k0,k1=>by
  simp only [L362v2,ob_bif,ob_ob,ob_none,nl362v2 m]
theorem q362v2:∀ (m:Nat) (x0:Int),
  loopH (eB A13v3 (C57 u) u) N362v2 m (s362v0 n0 n1 n2 n3 n4 n5 n6 n7 f0 f1 f2 f3 f4 f5 f6 f7 i0 x0 i1 w0 w1) k=L362v2 u n0 f0 n1 f1 i0 w0 n2 f2 n3 f3 n4 f4 n5 f5 n6 f6 w1 i1 n7 f7 m x0 (k .ret (s362v1 n2 n3 n4 n5 n6 n7 f2 f3 f4 f5 f6 f7 i1 w0 w1)) (k (.exit 3) (s362v2 n0 n1 n2 n3 n4 n5 n6 n7 f0 f1 f2 f3 f4 f5 f6 f7 i0 i1 w0 w1))
 | 0,_=>rfl
 | m+1,x0=>by
  simp only [L362v2,← q362v2 m]
  kernel_rfl
def N362v3:St→Option St:=nN 1 (0 :: (rl 2 5 (rl 9 83 [])))
def s362v3:St:=⟨(.u :: .x (.c (ro kE n0 f0)) :: (us 5 (.x (.c (ro kO n1 f1)) :: vxi i0 :: (us 83 [])))),[.box [(vcs w0),(.c (ro kF n2 f2)),(.c (ro kB n3 f3)),(.c (ro kI n4 f4)),(.c (ro kD n5 f5)),(.c (ro kG n6 f6))]]⟩
def s362v4:St:=⟨(us 4 (vxi i0 :: (us 87 []))),[.box [(vcs w0),(.c (ro kF n0 f0)),(.c (ro kB n1 f1)),(.c (ro kI n2 f2)),(.c (ro kD n3 f3)),(.c (ro kG n4 f4))],.box [(vcs w1),(vci i1),(.c (ro kO n5 f5))]]⟩
def s362v5:St:=⟨(us 92 []),[.box [(vcs w0),(.c (ro kF n0 f0)),(.c (ro kB n1 f1)),(.c (ro kI n2 f2)),(.c (ro kD n3 f3)),(.c (ro kG n4 f4))]]⟩
def L362v3 {ρ:Type} (u:Nat) (x0:Nat) (x1:FF) (x2:Nat) (x3:FF) (x4:ByteArray) (x5:Nat) (x6:FF) (x7:Nat) (x8:FF) (x9:Nat) (xA:FF) (xB:Nat) (xC:FF) (xD:Nat) (xE:FF):Nat→Int→(Int→ByteArray→Int→Nat→FF→Option ρ)→(Option ρ)→Option ρ
 | 0,_,_,_=>none
 | m+1,xF,k0,k1 =>
  (bif (decide (xF<(Int.ofNat x0))) then (bif (inb xF x0) then (ob (F361 u x2 x3 (x1 xF.toNat 0).str) fun xG=>(bif (decide (xG<0)) then (k0 8 (x1 xF.toNat 0).str (x1 xF.toNat 1).int (x1 xF.toNat 2).len (x1 xF.toNat 2).el) else (bif ((decide (xF>0))==true) then (bif (inb (w64 (xF-1)) x0) then (bif ((Op.bytesLess (ByteArray.toList (x1 xF.toNat 0).str) (ByteArray.toList (CV.str (x1 (Int.toNat (w64 (xF-1))) 0))))||(ByteArray.toList (x1 xF.toNat 0).str==ByteArray.toList (CV.str (x1 (Int.toNat (w64 (xF-1))) 0)))) then (k0 11 (x1 xF.toNat 0).str (x1 xF.toNat 1).int (x1 xF.toNat 2).len (x1 xF.toNat 2).el) else (bif ((decide ((x1 xF.toNat 1).int<1))==false) then (bif (decide ((x1 xF.toNat 1).int>10000)) then (k0 9 (x1 xF.toNat 0).str (x1 xF.toNat 1).int (x1 xF.toNat 2).len (x1 xF.toNat 2).el) else (bif ((Int.ofNat (x1 xF.toNat 2).len)==0) then (k0 3 (x1 xF.toNat 0).str (x1 xF.toNat 1).int (x1 xF.toNat 2).len (x1 xF.toNat 2).el) else (bif (decide ((Int.ofNat (x1 xF.toNat 2).len)>8)) then (k0 4 (x1 xF.toNat 0).str (x1 xF.toNat 1).int (x1 xF.toNat 2).len (x1 xF.toNat 2).el) else (L362v2 u x0 x1 x2 x3 xF x4 x5 x6 x7 x8 x9 xA xB xC xD xE (x1 xF.toNat 0).str (x1 xF.toNat 1).int (x1 xF.toNat 2).len (x1 xF.toNat 2).el u 1
  (k0 11 (x1 xF.toNat 0).str (x1 xF.toNat 1).int (x1 xF.toNat 2).len (x1 xF.toNat 2).el)
  (L362v3 u x0 x1 x2 x3 x4 x5 x6 x7 x8 x9 xA xB xC xD xE m (w64 (xF+1)) k0 k1))))) else (k0 9 (x1 xF.toNat 0).str (x1 xF.toNat 1).int (x1 xF.toNat 2).len (x1 xF.toNat 2).el))) else none) else (bif ((decide ((x1 xF.toNat 1).int<1))==false) then (bif (decide ((x1 xF.toNat 1).int>10000)) then (k0 9 (x1 xF.toNat 0).str (x1 xF.toNat 1).int (x1 xF.toNat 2).len (x1 xF.toNat 2).el) else (bif ((Int.ofNat (x1 xF.toNat 2).len)==0) then (k0 3 (x1 xF.toNat 0).str (x1 xF.toNat 1).int (x1 xF.toNat 2).len (x1 xF.toNat 2).el) else (bif (decide ((Int.ofNat (x1 xF.toNat 2).len)>8)) then (k0 4 (x1 xF.toNat 0).str (x1 xF.toNat 1).int (x1 xF.toNat 2).len (x1 xF.toNat 2).el) else (L362v2 u x0 x1 x2 x3 xF x4 x5 x6 x7 x8 x9 xA xB xC xD xE (x1 xF.toNat 0).str (x1 xF.toNat 1).int (x1 xF.toNat 2).len (x1 xF.toNat 2).el u 1
  (k0 11 (x1 xF.toNat 0).str (x1 xF.toNat 1).int (x1 xF.toNat 2).len (x1 xF.toNat 2).el)
  (L362v3 u x0 x1 x2 x3 x4 x5 x6 x7 x8 x9 xA xB xC xD xE m (w64 (xF+1)) k0 k1))))) else (k0 9 (x1 xF.toNat 0).str (x1 xF.toNat 1).int (x1 xF.toNat 2).len (x1 xF.toNat 2).el))))) else none) else k1)
theorem nl362v3:∀ (m:Nat) (x0:Int) (k0:Int→ByteArray→Int→Nat→FF→Option ρ) (k1:Option ρ),ob (L362v3 u n0 f0 n1 f1 w0 n2 f2 n3 f3 n4 f4 n5 f5 n6 f6 m x0 k0 k1) ng=L362v3 u n0 f0 n1 f1 w0 n2 f2 n3 f3 n4 f4 n5 f5 n6 f6 m x0 (fun x1 x2 x3 x4 x5=>ob (k0 x1 x2 x3 x4 x5) ng) (ob k1 ng)
 | 0,_,_,_=>rfl
 | m+1,x0,k0,k1=>by
  simp only [L362v3,ob_bif,ob_ob,ob_none,nl362v3 m,nl362v2]
def s362v6:St:=⟨(.u :: .x (.c (ro kE n0 f0)) :: (us 5 (.x (.c (ro kO n1 f1)) :: vxi i0 :: .x (.ptr 1 0) :: vxi 1 :: (us 19 (.x (.c (ro kE n0 f0)) :: vxi i0 :: .x (.c (.rp kE (f0 i0.toNat))) :: .agg [(vcs (f0 i0.toNat 0).str),(vci (f0 i0.toNat 1).int),(.c (ro kO (f0 i0.toNat 2).len (f0 i0.toNat 2).el))] :: (us 58 [])))))),[.box [(vcs w0),(.c (ro kF n2 f2)),(.c (ro kB n3 f3)),(.c (ro kI n4 f4)),(.c (ro kD n5 f5)),(.c (ro kG n6 f6))],.box [(vcs (f0 i0.toNat 0).str),(vci (f0 i0.toNat 1).int),(.c (ro kO (f0 i0.toNat 2).len (f0 i0.toNat 2).el))]]⟩
theorem r362v3 :
  loopH (eB A13v7 (C57 u) u) N362v3 (m+1) (s362v3 n0 n1 n2 n3 n4 n5 n6 f0 f1 f2 f3 f4 f5 f6 i0 w0) k =
  (bif (decide (i0<(Int.ofNat n0))) then (bif (inb i0 n0) then (ob (F361 u n1 f1 (f0 i0.toNat 0).str) fun x0=>(bif (decide (x0<0)) then (k .ret (s362v4 n2 n3 n4 n5 n6 (f0 i0.toNat 2).len f2 f3 f4 f5 f6 (f0 i0.toNat 2).el 8 (f0 i0.toNat 1).int w0 (f0 i0.toNat 0).str)) else (bif ((decide (i0>0))==true) then (bif (inb (w64 (i0-1)) n0) then (bif ((Op.bytesLess (ByteArray.toList (f0 i0.toNat 0).str) (ByteArray.toList (CV.str (f0 (Int.toNat (w64 (i0-1))) 0))))||(ByteArray.toList (f0 i0.toNat 0).str==ByteArray.toList (CV.str (f0 (Int.toNat (w64 (i0-1))) 0)))) then (k .ret (s362v4 n2 n3 n4 n5 n6 (f0 i0.toNat 2).len f2 f3 f4 f5 f6 (f0 i0.toNat 2).el 11 (f0 i0.toNat 1).int w0 (f0 i0.toNat 0).str)) else (bif ((decide ((f0 i0.toNat 1).int<1))==false) then (bif (decide ((f0 i0.toNat 1).int>10000)) then (k .ret (s362v4 n2 n3 n4 n5 n6 (f0 i0.toNat 2).len f2 f3 f4 f5 f6 (f0 i0.toNat 2).el 9 (f0 i0.toNat 1).int w0 (f0 i0.toNat 0).str)) else (bif ((Int.ofNat (f0 i0.toNat 2).len)==0) then (k .ret (s362v4 n2 n3 n4 n5 n6 (f0 i0.toNat 2).len f2 f3 f4 f5 f6 (f0 i0.toNat 2).el 3 (f0 i0.toNat 1).int w0 (f0 i0.toNat 0).str)) else (bif (decide ((Int.ofNat (f0 i0.toNat 2).len)>8)) then (k .ret (s362v4 n2 n3 n4 n5 n6 (f0 i0.toNat 2).len f2 f3 f4 f5 f6 (f0 i0.toNat 2).el 4 (f0 i0.toNat 1).int w0 (f0 i0.toNat 0).str)) else (loopN (eB A13v3 (C57 u) u) N362v2 u (s362v6 n0 n1 n2 n3 n4 n5 n6 f0 f1 f2 f3 f4 f5 f6 i0 w0) (kBlk 3 (kBlk 1 (kSeq (C57 u) u (4 :: 9 :: 10 :: (rl 30 62 [])) A13v5 (kLoop (eB A13v7 (C57 u) u) N362v3 m k)))))))) else (k .ret (s362v4 n2 n3 n4 n5 n6 (f0 i0.toNat 2).len f2 f3 f4 f5 f6 (f0 i0.toNat 2).el 9 (f0 i0.toNat 1).int w0 (f0 i0.toNat 0).str)))) else none) else (bif ((decide ((f0 i0.toNat 1).int<1))==false) then (bif (decide ((f0 i0.toNat 1).int>10000)) then (k .ret (s362v4 n2 n3 n4 n5 n6 (f0 i0.toNat 2).len f2 f3 f4 f5 f6 (f0 i0.toNat 2).el 9 (f0 i0.toNat 1).int w0 (f0 i0.toNat 0).str)) else (bif ((Int.ofNat (f0 i0.toNat 2).len)==0) then (k .ret (s362v4 n2 n3 n4 n5 n6 (f0 i0.toNat 2).len f2 f3 f4 f5 f6 (f0 i0.toNat 2).el 3 (f0 i0.toNat 1).int w0 (f0 i0.toNat 0).str)) else (bif (decide ((Int.ofNat (f0 i0.toNat 2).len)>8)) then (k .ret (s362v4 n2 n3 n4 n5 n6 (f0 i0.toNat 2).len f2 f3 f4 f5 f6 (f0 i0.toNat 2).el 4 (f0 i0.toNat 1).int w0 (f0 i0.toNat 0).str)) else (loopN (eB A13v3 (C57 u) u) N362v2 u (s362v6 n0 n1 n2 n3 n4 n5 n6 f0 f1 f2 f3 f4 f5 f6 i0 w0) (kBlk 3 (kBlk 1 (kSeq (C57 u) u (4 :: 9 :: 10 :: (rl 30 62 [])) A13v5 (kLoop (eB A13v7 (C57 u) u) N362v3 m k)))))))) else (k .ret (s362v4 n2 n3 n4 n5 n6 (f0 i0.toNat 2).len f2 f3 f4 f5 f6 (f0 i0.toNat 2).el 9 (f0 i0.toNat 1).int w0 (f0 i0.toNat 0).str)))))) else none) else (k (.exit 0) (s362v5 n2 n3 n4 n5 n6 f2 f3 f4 f5 f6 w0))):=by kernel_rfl
theorem t362v1 :
  loopN (eB A13v3 (C57 u) u) N362v2 u (s362v6 n0 n1 n2 n3 n4 n5 n6 f0 f1 f2 f3 f4 f5 f6 i0 w0) k =
  L362v2 u n0 f0 n1 f1 i0 w0 n2 f2 n3 f3 n4 f4 n5 f5 n6 f6 (f0 i0.toNat 0).str (f0 i0.toNat 1).int (f0 i0.toNat 2).len (f0 i0.toNat 2).el u 1 (k .ret (s362v1 n2 n3 n4 n5 n6 (f0 i0.toNat 2).len f2 f3 f4 f5 f6 (f0 i0.toNat 2).el (f0 i0.toNat 1).int w0 (f0 i0.toNat 0).str)) (k (.exit 3) (s362v2 n0 n1 n2 n3 n4 n5 n6 (f0 i0.toNat 2).len f0 f1 f2 f3 f4 f5 f6 (f0 i0.toNat 2).el i0 (f0 i0.toNat 1).int w0 (f0 i0.toNat 0).str)) :=
 Eq.trans (loopN_at (by kernel_rfl)) (q362v2 ..)
theorem g362v2 :
  (kBlk 3 (kBlk 1 (kSeq (C57 u) u (4 :: 9 :: 10 :: (rl 30 62 [])) A13v5 (kLoop (eB A13v7 (C57 u) u) N362v3 m k)))) .ret (s362v1 n0 n1 n2 n3 n4 (f5 i0.toNat 2).len f0 f1 f2 f3 f4 (f5 i0.toNat 2).el (f5 i0.toNat 1).int w0 (f5 i0.toNat 0).str) =
  (k .ret (s362v4 n0 n1 n2 n3 n4 (f5 i0.toNat 2).len f0 f1 f2 f3 f4 (f5 i0.toNat 2).el 11 (f5 i0.toNat 1).int w0 (f5 i0.toNat 0).str)):=by kernel_rfl
theorem g362v3 :
  (kBlk 3 (kBlk 1 (kSeq (C57 u) u (4 :: 9 :: 10 :: (rl 30 62 [])) A13v5 (kLoop (eB A13v7 (C57 u) u) N362v3 m k)))) (.exit 3) (s362v2 n0 n1 n2 n3 n4 n5 n6 (f0 i0.toNat 2).len f0 f1 f2 f3 f4 f5 f6 (f0 i0.toNat 2).el i0 (f0 i0.toNat 1).int w0 (f0 i0.toNat 0).str) =
  (loopH (eB A13v7 (C57 u) u) N362v3 m (s362v3 n0 n1 n2 n3 n4 n5 n6 f0 f1 f2 f3 f4 f5 f6 (w64 (i0+1)) w0) k):=by kernel_rfl
theorem t362v4 :
  loopN (eB A13v3 (C57 u) u) N362v2 u (s362v6 n0 n1 n2 n3 n4 n5 n6 f0 f1 f2 f3 f4 f5 f6 i0 w0) k =
  L362v2 u n0 f0 n1 f1 i0 w0 n2 f2 n3 f3 n4 f4 n5 f5 n6 f6 (f0 i0.toNat 0).str (f0 i0.toNat 1).int (f0 i0.toNat 2).len (f0 i0.toNat 2).el u 1 (k .ret (s362v1 n2 n3 n4 n5 n6 (f0 i0.toNat 2).len f2 f3 f4 f5 f6 (f0 i0.toNat 2).el (f0 i0.toNat 1).int w0 (f0 i0.toNat 0).str)) (k (.exit 3) (s362v2 n0 n1 n2 n3 n4 n5 n6 (f0 i0.toNat 2).len f0 f1 f2 f3 f4 f5 f6 (f0 i0.toNat 2).el i0 (f0 i0.toNat 1).int w0 (f0 i0.toNat 0).str)) :=
 Eq.trans (loopN_at (by kernel_rfl)) (q362v2 ..)
theorem g362v5 :
  (kBlk 3 (kBlk 1 (kSeq (C57 u) u (4 :: 9 :: 10 :: (rl 30 62 [])) A13v5 (kLoop (eB A13v7 (C57 u) u) N362v3 m k)))) .ret (s362v1 n0 n1 n2 n3 n4 (f5 i0.toNat 2).len f0 f1 f2 f3 f4 (f5 i0.toNat 2).el (f5 i0.toNat 1).int w0 (f5 i0.toNat 0).str) =
  (k .ret (s362v4 n0 n1 n2 n3 n4 (f5 i0.toNat 2).len f0 f1 f2 f3 f4 (f5 i0.toNat 2).el 11 (f5 i0.toNat 1).int w0 (f5 i0.toNat 0).str)):=by kernel_rfl
theorem g362v6 :
  (kBlk 3 (kBlk 1 (kSeq (C57 u) u (4 :: 9 :: 10 :: (rl 30 62 [])) A13v5 (kLoop (eB A13v7 (C57 u) u) N362v3 m k)))) (.exit 3) (s362v2 n0 n1 n2 n3 n4 n5 n6 (f0 i0.toNat 2).len f0 f1 f2 f3 f4 f5 f6 (f0 i0.toNat 2).el i0 (f0 i0.toNat 1).int w0 (f0 i0.toNat 0).str) =
  (loopH (eB A13v7 (C57 u) u) N362v3 m (s362v3 n0 n1 n2 n3 n4 n5 n6 f0 f1 f2 f3 f4 f5 f6 (w64 (i0+1)) w0) k):=by kernel_rfl
theorem q362v3:∀ (m:Nat) (x0:Int),
  loopH (eB A13v7 (C57 u) u) N362v3 m (s362v3 n0 n1 n2 n3 n4 n5 n6 f0 f1 f2 f3 f4 f5 f6 x0 w0) k=L362v3 u n0 f0 n1 f1 w0 n2 f2 n3 f3 n4 f4 n5 f5 n6 f6 m x0 (fun x1 x2 x3 x4 x5=>k .ret (s362v4 n2 n3 n4 n5 n6 x4 f2 f3 f4 f5 f6 x5 x1 x3 w0 x2)) (k (.exit 0) (s362v5 n2 n3 n4 n5 n6 f2 f3 f4 f5 f6 w0))
 | 0,_=>rfl
 | m+1,x0=>by
  rw [r362v3]
  simp only [L362v3,q362v3 m,t362v1,g362v2,g362v3,t362v4,g362v5,g362v6]
def F362 (x0:ByteArray) (x1:Nat) (x2:FF) (x3:Nat) (x4:FF) (x5:Nat) (x6:FF) (x7:Nat) (x8:FF) (x9:Nat) (xA:FF) (xB:Nat) (xC:FF):Option (Int) :=
 (bif (decide ((Int.ofNat xB)>64)) then (some 4) else (ob (F255 u x0 x1 x2 x3 x4 x5 x6 x7 x8 x9 xA) fun xD=>(bif (xD.2.2 != 0) then (some xD.2.2) else (ob (F252 u x0 x1 x2 x3 x4 x5 x6 x7 x8 x9 xA) fun xE=>(L362v3 u xB xC xE.1 xE.2 x0 x1 x2 x3 x4 x5 x6 x7 x8 x9 xA u 0
  (fun xF xG xH xI xJ=>(some xF))
  (some 0))))))
def s362v7 (x0:Nat × FF):St:=⟨(.agg [(vcs w0),(.c (ro kF n0 f0)),(.c (ro kB n1 f1)),(.c (ro kI n2 f2)),(.c (ro kD n3 f3)),(.c (ro kG n4 f4))] :: .x (.c (ro kE n5 f5)) :: .x (.ptr 0 0) :: uu :: (us 3 (.x (.c (ro kO x0.1 x0.2)) :: vxi 0 :: uu :: uu :: (us 11 [.agg [(vcs w0),(.c (ro kF n0 f0)),(.c (ro kB n1 f1)),(.c (ro kI n2 f2)),(.c (ro kD n3 f3)),(.c (ro kG n4 f4))],.x (.c (ro kO x0.1 x0.2)),uu,uu,uu,uu,uu,uu,uu,uu,uu,uu,uu,uu,uu,uu,uu,uu,uu,uu,uu,uu,uu,uu,uu,uu,uu,uu,uu,uu,uu,uu,uu,uu,uu,uu,uu,uu,uu,uu,uu,uu,uu,uu,uu,uu,uu,uu,uu,uu,uu,uu,uu,uu,uu,uu,uu,uu,uu,uu,uu,uu,uu,uu,uu,uu,uu,uu,uu,uu])))),[.box [(vcs w0),(.c (ro kF n0 f0)),(.c (ro kB n1 f1)),(.c (ro kI n2 f2)),(.c (ro kD n3 f3)),(.c (ro kG n4 f4))]]⟩
theorem t362v7 (x0:Nat × FF) :
  loopN (eB A13v7 (C57 u) u) N362v3 u (s362v7 n0 n1 n2 n3 n4 n5 f0 f1 f2 f3 f4 f5 w0 x0) k =
  L362v3 u n5 f5 x0.1 x0.2 w0 n0 f0 n1 f1 n2 f2 n3 f3 n4 f4 u 0 (fun x1 x2 x3 x4 x5=>k .ret (s362v4 n0 n1 n2 n3 n4 x4 f0 f1 f2 f3 f4 x5 x1 x3 w0 x2)) (k (.exit 0) (s362v5 n0 n1 n2 n3 n4 f0 f1 f2 f3 f4 w0)) :=
 Eq.trans (loopN_at (by kernel_rfl)) (q362v3 ..)
theorem g362v8 :
  (kBlk 0 (kSeq (C57 u) u (4 :: 8 :: 9 :: 10 :: (rl 24 68 [])) A13v8 (finish A13))) .ret (s362v4 n0 n1 n2 n3 n4 n5 f0 f1 f2 f3 f4 f5 i0 i1 w0 w1) =
  (some [.v (vi i0)]):=by kernel_rfl
theorem g362v9 :
  (kBlk 0 (kSeq (C57 u) u (4 :: 8 :: 9 :: 10 :: (rl 24 68 [])) A13v8 (finish A13))) (.exit 0) (s362v5 n0 n1 n2 n3 n4 f0 f1 f2 f3 f4 w0) =
  (some [.v (vi 0)]):=by kernel_rfl
theorem e362:evalF (C57 u) u A13 [.agg [(.s w0),(ro kF n0 f0),(ro kB n1 f1),(ro kI n2 f2),(ro kD n3 f3),(ro kG n4 f4)],.v (ro kE n5 f5)]=ob (F362 u w0 n0 f0 n1 f1 n2 f2 n3 f3 n4 f4 n5 f5) fun t=>some [.v (vi t)]:=Eq.trans (b:=(bif (decide ((Int.ofNat n5)>64)) then (some [.v (vi 4)]) else (ob (F255 u w0 n0 f0 n1 f1 n2 f2 n3 f3 n4 f4) fun x0=>(bif (x0.2.2 != 0) then (some [.v (vi x0.2.2)]) else (ob (F252 u w0 n0 f0 n1 f1 n2 f2 n3 f3 n4 f4) fun x1=>(loopN (eB A13v7 (C57 u) u) N362v3 u (s362v7 n0 n1 n2 n3 n4 n5 f0 f1 f2 f3 f4 f5 w0 x1) (kBlk 0 (kSeq (C57 u) u (4 :: 8 :: 9 :: 10 :: (rl 24 68 [])) A13v8 (finish A13))))))))) (by kernel_rfl) (by
 simp only [F362,ob_bif,ob_ob,ob_none,ob_some,nl362v3,t362v7,g362v8,g362v9])
def O362:Ora:=mkO (qc (ag (tc cS (tc (cL kF) (tc (cL kB) (tc (cL kI) (tc (cL kD) (t1 (cL kG)))))))) (q1 (av (cL kE)))) (fun x=>F362 u x.1.1 x.1.2.1.1 x.1.2.1.2 x.1.2.2.1.1 x.1.2.2.1.2 x.1.2.2.2.1.1 x.1.2.2.2.1.2 x.1.2.2.2.2.1.1 x.1.2.2.2.2.1.2 x.1.2.2.2.2.2.1 x.1.2.2.2.2.2.2 x.2.1 x.2.2) fun t=>[.v (vi t)]
theorem d362:DO (O362 u) (C57 u) 13 A13:=dO u (fun x=>by exact e362 u x.1.2.1.1 x.1.2.2.1.1 x.1.2.2.2.1.1 x.1.2.2.2.2.1.1 x.1.2.2.2.2.2.1 x.2.1 x.1.2.1.2 x.1.2.2.1.2 x.1.2.2.2.1.2 x.1.2.2.2.2.1.2 x.1.2.2.2.2.2.2 x.2.2 x.1.1)
def C58:Oracle:=(C57 u).add 13 (fun _=>true) (O362 u)
def A25:AF:=⟨24,[.tmp 6],
 (.seq (.region 0 [o1 3 (bx 0 28 0),o1 6 (sb false)] 1 none) []
 (.seq (.region 1 [o1 7 (ln 28 6 3),mv 8 1,o1 9 (cs 10 [7,8] [28,29]),mv 10 9,og 11 (ln 28 6 3) 10 true,og 12 (.move (tm 1)) 10 true,og 13 (cs 13 [11,12] [28,29]) 10 true,og 14 (bk .eql 35 13 0) 10 true,o1 15 (po 10 14),mv 16 15,og 17 (.move (tm 2)) 16 true,og 18 (bk .geq 3 17 0) 16 true,o1 19 (po 16 18),mv 20 19,og 21 (.move (tm 2)) 20 true,og 22 (bk .leq 3 21 1048576) 20 true,o1 23 (po 20 22),o1 6 (sg 23)] 0 none) []
 (.ghost [0] (.ret (rl 0 6 (rl 7 17 []))))))⟩
def F380 (x0:ByteArray) (x1:Nat) (x2:FF) (x3:Nat) (x4:FF) (x5:Nat) (x6:FF) (x7:Nat) (x8:FF) (x9:Nat) (xA:FF) (xB:Nat) (xC:FF) (xD:Int):Option (Bool) :=
 (ob (F330 u x0 x1 x2 x3 x4 x5 x6 x7 x8 x9 xA xB xC) fun xE=>(bif (xE==true) then (ob (F362 u x0 x1 x2 x3 x4 x5 x6 x7 x8 x9 xA xB xC) fun xF=>(bif ((xF==0)==true) then (bif ((decide (xD≥0))==true) then (some (decide (xD≤1048576))) else (some false)) else (some false))) else (some false)))
theorem e380:evalF (C58 u) u A25 [.agg [(.s w0),(ro kF n0 f0),(ro kB n1 f1),(ro kI n2 f2),(ro kD n3 f3),(ro kG n4 f4)],.v (ro kE n5 f5),.v (vi i0)]=ob (F380 u w0 n0 f0 n1 f1 n2 f2 n3 f3 n4 f4 n5 f5 i0) fun t=>some [.v (.b t)]:=by
 simp only [F380,ob_bif,ob_ob,ob_none,ob_some]
 kernel_rfl
def O380:Ora:=mkO (qc (ag (tc cS (tc (cL kF) (tc (cL kB) (tc (cL kI) (tc (cL kD) (t1 (cL kG)))))))) (qc (av (cL kE)) (q1 (av ci)))) (fun x=>F380 u x.1.1 x.1.2.1.1 x.1.2.1.2 x.1.2.2.1.1 x.1.2.2.1.2 x.1.2.2.2.1.1 x.1.2.2.2.1.2 x.1.2.2.2.2.1.1 x.1.2.2.2.2.1.2 x.1.2.2.2.2.2.1 x.1.2.2.2.2.2.2 x.2.1.1 x.2.1.2 x.2.2) fun t=>[.v (.b t)]
theorem d380:DO (O380 u) (C58 u) 25 A25:=dO u (fun x=>by exact e380 u x.1.2.1.1 x.1.2.2.1.1 x.1.2.2.2.1.1 x.1.2.2.2.2.1.1 x.1.2.2.2.2.2.1 x.2.1.1 x.1.2.1.2 x.1.2.2.1.2 x.1.2.2.2.1.2 x.1.2.2.2.2.1.2 x.1.2.2.2.2.2.2 x.2.1.2 x.2.2 x.1.1)
def C59:Oracle:=(C58 u).add 25 (fun _=>true) (O380 u)
def A26v1:AC:=(.seq (.block 1
 (.region 5 [mv 13 5,mv 14 0,mv 15 6,o1 16 (.indexAddr 30 55 4 (tm 14) (tm 15)),o1 17 (fa 55 16 0 0),o1 18 (lo 9 17),mv 19 0,mv 20 6,o1 21 (.indexAddr 30 55 4 (tm 19) (tm 20)),o1 22 (fa 55 21 1 1),o1 23 (lo 9 22),mv 24 0,mv 25 6,o1 26 (.indexAddr 30 55 4 (tm 24) (tm 25)),o1 27 (fa 55 26 2 2),o1 28 (lo 3 27),mv 29 1,o1 30 (bt .add 3 28 29),mv 31 0,mv 32 6,o1 33 (.indexAddr 30 55 4 (tm 31) (tm 32)),o1 34 (fa 55 33 3 3),o1 35 (lo 3 34),mv 36 1,o1 37 (bt .add 3 35 36),o1 38 (.build 55 [vcs ByteArray.empty,vcs ByteArray.empty,vci 0,vci 0] [(0,1),(1,1),(2,1),(3,1)] 0 [(0,(tm 18)),(1,(tm 23)),(2,(tm 30)),(3,(tm 37))]),o1 39 (.buildSlice 0 30 55 kL 1 [vcs ByteArray.empty,vcs ByteArray.empty,vci 0,vci 0] [(0,(tm 38))]),o1 40 (.append 1 30 55 kL 48 (tm 13) (tm 39)),o1 5 (sg 40)] 2 (some [[],[],[],[1,2],[1,2,3],(rl 1 4 []),[],[],[6,7],[6,7,8],(rl 6 4 []),[],[],[11,12],[11,12,13],(rl 11 4 []),[],(rl 11 6 []),[],[],[18,19],[18,19,20],(rl 18 4 []),[],(rl 18 6 []),(rl 1 24 []),(rl 1 25 []),(rl 0 27 []),(rl 0 28 [])]))) []
 (.region 4 [mv 11 6,o1 12 (bk .add 3 11 1),o1 6 (sg 12)] 0 none))
def A26v2:AC:=(.seq (.seq (.region 3 [mv 7 6,mv 8 0,o1 9 (.len 30 false (tm 8)),o1 10 (bt .lss 3 7 9)] 0 none) []
 (.cond (tm 10)
 .skip
 (.exit 0 (rl 0 5 (rl 6 36 []))))) (rl 7 4 [])
 A26v1)
def A26v3:AC:=(.seq (.region 6 [mv 41 5,o1 4 (sg 41)] 0 none) []
 (.ret (rl 0 4 (rl 5 37 []))))
def A26:AF:=⟨42,[.tmp 4],
 (.seq (.region 0 [o1 4 (.assign (.const (.slice none 0 0)))] 0 none) []
 (.seq (.region 1 [o1 5 (.assign (.const (.slice none 0 0)))] 0 none) []
 (.seq (.seq (.region 2 [o1 6 (sk 0)] 0 none) []
 (.block 0
 (.loop [.slot 5 kL] (2 :: 3 :: 4 :: (rl 7 35 []))
  A26v2))) (rl 6 35 [])
 A26v3)))⟩
def N382v1:St→Option St:=nN 1 (2 :: 3 :: 4 :: (rl 7 35 []))
def s382v0:St:=⟨(.x (.c (ro kL n0 f0)) :: vxi i0 :: (us 3 (.x (.own 0 0 n1) :: vxi i1 :: (us 35 [])))),[.arr kL n1 f1]⟩
def s382v1:St:=⟨(us 5 (.x (.own 0 0 n0) :: (us 36 []))),[.arr kL n0 f0]⟩
def L382v1 {ρ:Type} (u:Nat) (x0:Nat) (x1:FF) (x2:Int):Nat→Nat→Int→FF→(Nat→FF→Option ρ)→Option ρ
 | 0,_,_,_,_=>none
 | m+1,x3,x4,x5,k0 =>
  (bif (decide (x4<(Int.ofNat x0))) then (bif (inb x4 x0) then (bif (inb x4 x0) then (bif (inb x4 x0) then (bif (inb x4 x0) then (bif (Nat.ble (x3+1) 1073741824) then (L382v1 u x0 x1 x2 m (x3+1) (w64 (x4+1)) (joinF x3 x5 (rowsF 4 [(.s (x1 x4.toNat 0).str),(.s (x1 x4.toNat 1).str),(.i .i64 (w64 ((x1 x4.toNat 2).int+x2))),(.i .i64 (w64 ((x1 x4.toNat 3).int+x2)))])) k0) else none) else none) else none) else none) else none) else (k0 x3 x5))
theorem nl382v1:∀ (m:Nat) (x0:Nat) (x1:Int) (x2:FF) (k0:Nat→FF→Option ρ),ob (L382v1 u n0 f0 i0 m x0 x1 x2 k0) ng=L382v1 u n0 f0 i0 m x0 x1 x2 (fun x3 x4=>ob (k0 x3 x4) ng)
 | 0,_,_,_,_=>rfl
 | m+1,x0,x1,x2,k0=>by
  simp only [L382v1,ob_bif,ob_ob,ob_none,nl382v1 m]
theorem q382v1:∀ (m:Nat) (x0:Nat) (x1:Int) (x2:FF),
  loopH (eB A26v2 (C59 u) u) N382v1 m (s382v0 n0 x0 f0 x2 i0 x1) k=L382v1 u n0 f0 i0 m x0 x1 x2 (fun x3 x4=>k (.exit 0) (s382v1 x3 x4))
 | 0,_,_,_=>rfl
 | m+1,x0,x1,x2=>by
  simp only [L382v1,← q382v1 m]
  kernel_rfl
def F382 (x0:Nat) (x1:FF) (x2:Int):Option (Nat × FF) :=
 (L382v1 u x0 x1 x2 u 0 0 (fun _ _=>.any)
  (fun x3 x4=>(some (x3,x4))))
def s382v2:St:=⟨[.x (.c (ro kL n0 f0)),vxi i0,uu,uu,.x (vcn),.x (.own 0 0 0),vxi 0,uu,uu,uu,uu,uu,uu,uu,uu,uu,uu,uu,uu,uu,uu,uu,uu,uu,uu,uu,uu,uu,uu,uu,uu,uu,uu,uu,uu,uu,uu,uu,uu,uu,uu,uu],[.arr kL 0 nilF]⟩
theorem t382v1 :
  loopN (eB A26v2 (C59 u) u) N382v1 u (s382v2 n0 f0 i0) k =
  L382v1 u n0 f0 i0 u 0 0 nilF (fun x0 x1=>k (.exit 0) (s382v1 x0 x1)) :=
 Eq.trans (loopN_at (by kernel_rfl)) (q382v1 ..)
theorem g382v2 :
  (kBlk 0 (kSeq (C59 u) u (rl 6 35 []) A26v3 (finish A26))) (.exit 0) (s382v1 n0 f0) =
  (some [.v (ro kL n0 f0)]):=by kernel_rfl
theorem e382:evalF (C59 u) u A26 [.v (ro kL n0 f0),.v (vi i0)]=ob (F382 u n0 f0 i0) fun t=>some [.v (ro kL t.1 t.2)]:=Eq.trans (b:=(loopN (eB A26v2 (C59 u) u) N382v1 u (s382v2 n0 f0 i0) (kBlk 0 (kSeq (C59 u) u (rl 6 35 []) A26v3 (finish A26))))) (by kernel_rfl) (by
 simp only [F382,ob_bif,ob_ob,ob_none,ob_some,nl382v1,t382v1,g382v2])
def O382:Ora:=mkO (qc (av (cL kL)) (q1 (av ci))) (fun x=>F382 u x.1.1 x.1.2 x.2) fun t=>[.v (ro kL t.1 t.2)]
theorem d382:DO (O382 u) (C59 u) 26 A26:=dO u (fun x=>by exact e382 u x.1.1 x.1.2 x.2)
def C60:Oracle:=(C59 u).add 26 (fun _=>true) (O382 u)
def A7v1:AC:=(.seq (.region 13 [o1 149 (ln 28 6 3),o1 150 (fa 32 4 0 0),o1 151 (lo 29 150),o1 152 (fa 32 4 1 1),o1 153 (lo 3 152),o1 154 (.call 23 [(tm 149),(tm 151),(tm 153),(ic 2000)] [28,29,3,3] .freeze),mv 148 154,o1 155 (.extract (tm 148) 0),o1 156 (.extract (tm 148) 1),o1 15 (sg 155),o1 16 (sg 156)] 0 none) []
 (.seq (.region 14 [o1 158 (ln 28 6 3),o1 159 (fa 32 4 0 0),o1 160 (lo 29 159),o1 161 (fa 32 4 1 1),o1 162 (lo 3 161),mv 163 2,o1 164 (bt .add 3 162 163),o1 165 (.call 23 [(tm 158),(tm 160),(tm 164),(ic 2000)] [28,29,3,3] .freeze),mv 157 165,o1 166 (.extract (tm 157) 0),o1 167 (.extract (tm 157) 1),o1 17 (sg 166),o1 18 (sg 167)] 0 none) []
 (.seq (.region 15 [mv 168 16,mv 169 18,o1 170 (bt .eql 35 168 169),mv 171 170,og 172 (.move (tm 17)) 171 true,og 173 (.move (tm 15)) 171 true,og 174 (.move (tm 2)) 171 true,og 175 (cf 26 [173,174] [30,3]) 171 true,og 176 (cs 22 [172,175] [30,30]) 171 true,o1 177 (po 171 176),mv 178 177,og 179 (cs 11 [] []) 178 true,o1 180 (po 178 179),o1 6 (sg 180)] 0 none) []
 (.ghost [0,1] (.ret (rl 0 6 (rl 7 174 [])))))))
def A7v2:AC:=(.seq (.seq (.region 11 [o1 143 (fa 32 4 0 0),o1 144 (lo 29 143),o1 145 (.len 29 false (tm 144)),o1 146 (bk .gtr 3 145 4)] 0 none) []
 (.cond (tm 146)
 (.seq (.region 12 [o1 147 (cs 11 [] []),o1 6 (sg 147)] 0 none) []
  (.ghost [0,1] (.ret (rl 0 6 (rl 7 174 [])))))
 .skip)) (6 :: (rl 143 5 []))
 A7v1)
def A7v3:AC:=(.seq (.region 5 [o1 75 (ln 28 6 3),o1 76 (fa 32 4 0 0),o1 77 (lo 29 76),o1 78 (fa 32 4 1 1),o1 79 (lo 3 78),o1 80 (cf 18 [75,77,79] [28,29,3]),mv 74 80,o1 81 (.extract (tm 74) 0),o1 82 (.extract (tm 74) 1),o1 7 (sg 81),o1 8 (sg 82)] 0 none) []
 (.seq (.region 6 [o1 84 (ln 28 6 3),o1 85 (fa 32 4 0 0),o1 86 (lo 29 85),o1 87 (fa 32 4 1 1),o1 88 (lo 3 87),mv 89 2,o1 90 (bt .add 3 88 89),o1 91 (cf 18 [84,86,90] [28,29,3]),mv 83 91,o1 92 (.extract (tm 83) 0),o1 93 (.extract (tm 83) 1),o1 9 (sg 92),o1 10 (sg 93)] 0 none) []
 (.seq (.region 7 [o1 95 (ln 28 6 3),o1 96 (fa 32 4 0 0),o1 97 (lo 29 96),o1 98 (fa 32 4 1 1),o1 99 (lo 3 98),o1 100 (cs 20 [95,97,99] [28,29,3]),mv 94 100,o1 101 (.extract (tm 94) 0),o1 102 (.extract (tm 94) 1),o1 11 (sg 101),o1 12 (sg 102)] 0 none) []
 (.seq (.region 8 [o1 104 (ln 28 6 3),o1 105 (fa 32 4 0 0),o1 106 (lo 29 105),o1 107 (fa 32 4 1 1),o1 108 (lo 3 107),mv 109 2,o1 110 (bt .add 3 108 109),o1 111 (cs 20 [104,106,110] [28,29,3]),mv 103 111,o1 112 (.extract (tm 103) 0),o1 113 (.extract (tm 103) 1),o1 13 (sg 112),o1 14 (sg 113)] 0 none) []
 (.seq (.seq (.region 9 [mv 114 8,o1 115 (bk .neq 35 114 0),mv 116 115,og 117 (.move (tm 10)) 116 false,og 118 (bk .neq 35 117 0) 116 false,o1 119 (pa 116 118),mv 120 119,og 121 (.move (tm 12)) 120 false,og 122 (bk .neq 35 121 0) 120 false,o1 123 (pa 120 122),mv 124 123,og 125 (.move (tm 14)) 124 false,og 126 (bk .neq 35 125 0) 124 false,o1 127 (pa 124 126),mv 128 127,og 129 (.move (tm 13)) 128 false,og 130 (.move (tm 11)) 128 false,og 131 (.move (tm 2)) 128 false,og 132 (bt .add 3 130 131) 128 false,og 133 (bt .neq 3 129 132) 128 false,o1 134 (pa 128 133),mv 135 134,og 136 (.move (tm 9)) 135 false,og 137 (.move (tm 7)) 135 false,og 138 (.move (tm 2)) 135 false,og 139 (cf 26 [137,138] [30,3]) 135 false,og 140 (cs 22 [136,139] [30,30]) 135 false,og 141 (.unOp .not 4 (tm 140)) 135 false,o1 142 (pa 135 141)] 0 none) []
 (.cond (tm 142)
 (.seq (.region 10 [o1 6 (sb false)] 0 none) []
  (.ghost [0,1] (.ret (rl 0 6 (rl 7 174 [])))))
 .skip)) (6 :: (rl 114 29 []))
 A7v2)))))
def A7v4:AC:=(.seq (.seq (.region 3 [o1 44 (ln 28 6 3),o1 45 (fa 32 4 0 0),o1 46 (lo 29 45),o1 47 (fa 32 4 1 1),o1 48 (lo 3 47),o1 49 (fa 32 4 2 2),o1 50 (lo 30 49),o1 51 (cs 14 [44,46,48,50] [28,29,3,30]),o1 52 (bk .eql 35 51 0),mv 53 52,og 54 (fa 32 4 2 2) 53 true,og 55 (lo 30 54) 53 true,og 56 (cs 16 [55] [30]) 53 true,og 57 (bk .lss 3 56 1073741824) 53 true,o1 58 (po 53 57),mv 59 58,og 60 (ln 28 6 3) 59 true,og 61 (fa 32 4 0 0) 59 true,og 62 (lo 29 61) 59 true,og 63 (fa 32 4 1 1) 59 true,og 64 (lo 3 63) 59 true,og 65 (.move (tm 2)) 59 true,og 66 (bt .add 3 64 65) 59 true,og 67 (fa 32 4 2 2) 59 true,og 68 (lo 30 67) 59 true,og 69 (.move (tm 2)) 59 true,og 70 (cf 26 [68,69] [30,3]) 59 true,og 71 (cs 14 [60,62,66,70] [28,29,3,30]) 59 true,og 72 (bk .neq 35 71 0) 59 true,o1 73 (po 59 72)] 0 (some [[],[],[1],[],[3],[],[5],(rl 0 7 []),(rl 0 8 []),(rl 0 9 []),(rl 0 10 []),(rl 0 11 []),(rl 0 12 []),(rl 0 13 []),(rl 0 14 []),(rl 0 15 []),(rl 0 16 []),(rl 0 16 []),(rl 0 16 [17]),(rl 0 16 []),(rl 0 16 [19]),(rl 0 16 []),(rl 0 16 [19,20,21]),(rl 0 16 []),(rl 0 16 [23]),(rl 0 16 []),(rl 0 16 [23,24,25]),(rl 0 27 []),(rl 0 28 []),(rl 0 29 [])])) []
 (.cond (tm 73)
 (.seq (.region 4 [o1 6 (sb false)] 0 none) []
  (.ghost [0,1] (.ret (rl 0 6 (rl 7 174 [])))))
 .skip)) (6 :: (rl 44 30 []))
 A7v3)
def A7:AF:=⟨181,[.tmp 6],
 (.seq (.region 0 [o1 3 (bx 0 28 0),o1 4 (bx 1 32 1),o1 6 (sb false)] 2 none) []
 (.seq (.seq (.region 1 [o1 19 (ln 28 6 3),o1 20 (fa 32 4 0 0),o1 21 (lo 29 20),o1 22 (fa 32 4 1 1),o1 23 (lo 3 22),o1 24 (cs 25 [19,21,23] [28,29,3]),o1 25 (.unOp .not 4 (tm 24)),mv 26 25,og 27 (fa 32 4 2 2) 26 false,og 28 (lo 30 27) 26 false,og 29 (.len 30 false (tm 28)) 26 false,og 30 (bk .gtr 3 29 100) 26 false,o1 31 (pa 26 30),mv 32 31,og 33 (.move (tm 2)) 32 false,og 34 (bk .lss 3 33 0) 32 false,o1 35 (pa 32 34),mv 36 35,og 37 (.move (tm 2)) 36 false,og 38 (fa 32 4 1 1) 36 false,og 39 (lo 3 38) 36 false,og 40 (.binOp .sub 3 (ic 1048576) (tm 39) 3) 36 false,og 41 (bt .gtr 3 37 40) 36 false,o1 42 (pa 36 41)] 0 none) []
 (.cond (tm 42)
 (.seq (.region 2 [o1 43 (cs 11 [] []),o1 6 (sg 43)] 0 none) []
  (.ghost [0,1] (.ret (rl 0 6 (rl 7 174 [])))))
 .skip)) (6 :: (rl 19 25 []))
 A7v4))⟩
def F383 (x0:ByteArray) (x1:Nat) (x2:FF) (x3:Nat) (x4:FF) (x5:Nat) (x6:FF) (x7:Nat) (x8:FF) (x9:Nat) (xA:FF) (xB:Nat) (xC:FF) (xD:Int) (xE:Nat) (xF:FF) (xG:Int):Option (Bool) :=
 (ob (F380 u x0 x1 x2 x3 x4 x5 x6 x7 x8 x9 xA xB xC xD) fun xH=>(bif ((!xH)==false) then (bif ((decide ((Int.ofNat xE)>100))==false) then (bif ((decide (xG<0))==false) then (bif (decide (xG>(w64 (1048576-xD)))) then (ob (F360 u) fun xI=>(some xI)) else (ob (F359 u x0 x1 x2 x3 x4 x5 x6 x7 x8 x9 xA xB xC xD xE xF) fun xJ=>(bif ((xJ==0)==true) then (ob (F346 u xE xF) fun xK=>(bif ((decide (xK<1073741824))==true) then (ob (F382 u xE xF xG) fun xL=>(ob (F359 u x0 x1 x2 x3 x4 x5 x6 x7 x8 x9 xA xB xC (w64 (xD+xG)) xL.1 xL.2) fun xM=>(bif (xM != 0) then (some false) else (ob (F345 u x0 x1 x2 x3 x4 x5 x6 x7 x8 x9 xA xB xC xD) fun xN=>(ob (F345 u x0 x1 x2 x3 x4 x5 x6 x7 x8 x9 xA xB xC (w64 (xD+xG))) fun xO=>(ob (F354 u x0 x1 x2 x3 x4 x5 x6 x7 x8 x9 xA xB xC xD) fun xP=>(ob (F354 u x0 x1 x2 x3 x4 x5 x6 x7 x8 x9 xA xB xC (w64 (xD+xG))) fun xQ=>(bif ((xN.2.2 != 0)==false) then (bif ((xO.2.2 != 0)==false) then (bif ((xP.2 != 0)==false) then (bif ((xQ.2 != 0)==false) then (bif ((xQ.1 != (w64 (xP.1+xG)))==false) then (ob (F382 u xN.1 xN.2.1 xG) fun xR=>(ob (F355 u xO.1 xO.2.1 xR.1 xR.2) fun xS=>(bif (!xS) then (some false) else (bif (decide ((Int.ofNat xB)>4)) then (ob (F360 u) fun xT=>(some xT)) else (ob (F353 u x0 x1 x2 x3 x4 x5 x6 x7 x8 x9 xA xB xC xD 2000) fun xU=>(ob (F353 u x0 x1 x2 x3 x4 x5 x6 x7 x8 x9 xA xB xC (w64 (xD+xG)) 2000) fun xV=>(bif ((xU.2.2==xV.2.2)==true) then (ob (F382 u xU.1 xU.2.1 xG) fun xW=>(ob (F355 u xV.1 xV.2.1 xW.1 xW.2) fun xX=>(bif (xX==true) then (ob (F360 u) fun xY=>(some xY)) else (some false)))) else (some false)))))))) else (some false)) else (some false)) else (some false)) else (some false)) else (some false))))))))) else (ob (F345 u x0 x1 x2 x3 x4 x5 x6 x7 x8 x9 xA xB xC xD) fun xZ=>(ob (F345 u x0 x1 x2 x3 x4 x5 x6 x7 x8 x9 xA xB xC (w64 (xD+xG))) fun xa=>(ob (F354 u x0 x1 x2 x3 x4 x5 x6 x7 x8 x9 xA xB xC xD) fun xb=>(ob (F354 u x0 x1 x2 x3 x4 x5 x6 x7 x8 x9 xA xB xC (w64 (xD+xG))) fun xc=>(bif ((xZ.2.2 != 0)==false) then (bif ((xa.2.2 != 0)==false) then (bif ((xb.2 != 0)==false) then (bif ((xc.2 != 0)==false) then (bif ((xc.1 != (w64 (xb.1+xG)))==false) then (ob (F382 u xZ.1 xZ.2.1 xG) fun xd=>(ob (F355 u xa.1 xa.2.1 xd.1 xd.2) fun xe=>(bif (!xe) then (some false) else (bif (decide ((Int.ofNat xB)>4)) then (ob (F360 u) fun xf=>(some xf)) else (ob (F353 u x0 x1 x2 x3 x4 x5 x6 x7 x8 x9 xA xB xC xD 2000) fun xg=>(ob (F353 u x0 x1 x2 x3 x4 x5 x6 x7 x8 x9 xA xB xC (w64 (xD+xG)) 2000) fun xh=>(bif ((xg.2.2==xh.2.2)==true) then (ob (F382 u xg.1 xg.2.1 xG) fun xi=>(ob (F355 u xh.1 xh.2.1 xi.1 xi.2) fun xj=>(bif (xj==true) then (ob (F360 u) fun xk=>(some xk)) else (some false)))) else (some false)))))))) else (some false)) else (some false)) else (some false)) else (some false)) else (some false)))))))) else (ob (F345 u x0 x1 x2 x3 x4 x5 x6 x7 x8 x9 xA xB xC xD) fun xl=>(ob (F345 u x0 x1 x2 x3 x4 x5 x6 x7 x8 x9 xA xB xC (w64 (xD+xG))) fun xm=>(ob (F354 u x0 x1 x2 x3 x4 x5 x6 x7 x8 x9 xA xB xC xD) fun xn=>(ob (F354 u x0 x1 x2 x3 x4 x5 x6 x7 x8 x9 xA xB xC (w64 (xD+xG))) fun xo=>(bif ((xl.2.2 != 0)==false) then (bif ((xm.2.2 != 0)==false) then (bif ((xn.2 != 0)==false) then (bif ((xo.2 != 0)==false) then (bif ((xo.1 != (w64 (xn.1+xG)))==false) then (ob (F382 u xl.1 xl.2.1 xG) fun xp=>(ob (F355 u xm.1 xm.2.1 xp.1 xp.2) fun xq=>(bif (!xq) then (some false) else (bif (decide ((Int.ofNat xB)>4)) then (ob (F360 u) fun xr=>(some xr)) else (ob (F353 u x0 x1 x2 x3 x4 x5 x6 x7 x8 x9 xA xB xC xD 2000) fun xs=>(ob (F353 u x0 x1 x2 x3 x4 x5 x6 x7 x8 x9 xA xB xC (w64 (xD+xG)) 2000) fun xt=>(bif ((xs.2.2==xt.2.2)==true) then (ob (F382 u xs.1 xs.2.1 xG) fun xu=>(ob (F355 u xt.1 xt.2.1 xu.1 xu.2) fun xv=>(bif (xv==true) then (ob (F360 u) fun xw=>(some xw)) else (some false)))) else (some false)))))))) else (some false)) else (some false)) else (some false)) else (some false)) else (some false))))))))) else (ob (F360 u) fun xx=>(some xx))) else (ob (F360 u) fun xy=>(some xy))) else (ob (F360 u) fun xz=>(some xz))))
theorem e383:evalF (C60 u) u A7 [.agg [(.s w0),(ro kF n0 f0),(ro kB n1 f1),(ro kI n2 f2),(ro kD n3 f3),(ro kG n4 f4)],.agg [(ro kE n5 f5),(vi i0),(ro kL n6 f6)],.v (vi i1)]=ob (F383 u w0 n0 f0 n1 f1 n2 f2 n3 f3 n4 f4 n5 f5 i0 n6 f6 i1) fun t=>some [.v (.b t)]:=by
 simp only [F383,ob_bif,ob_ob,ob_none,ob_some]
 kernel_rfl
def O383:Ora:=mkO (qc (ag (tc cS (tc (cL kF) (tc (cL kB) (tc (cL kI) (tc (cL kD) (t1 (cL kG)))))))) (qc (ag (tc (cL kE) (tc ci (t1 (cL kL))))) (q1 (av ci)))) (fun x=>F383 u x.1.1 x.1.2.1.1 x.1.2.1.2 x.1.2.2.1.1 x.1.2.2.1.2 x.1.2.2.2.1.1 x.1.2.2.2.1.2 x.1.2.2.2.2.1.1 x.1.2.2.2.2.1.2 x.1.2.2.2.2.2.1 x.1.2.2.2.2.2.2 x.2.1.1.1 x.2.1.1.2 x.2.1.2.1 x.2.1.2.2.1 x.2.1.2.2.2 x.2.2) fun t=>[.v (.b t)]
theorem d383:DO (O383 u) (C60 u) 7 A7:=dO u (fun x=>by exact e383 u x.1.2.1.1 x.1.2.2.1.1 x.1.2.2.2.1.1 x.1.2.2.2.2.1.1 x.1.2.2.2.2.2.1 x.2.1.1.1 x.2.1.2.2.1 x.1.2.1.2 x.1.2.2.1.2 x.1.2.2.2.1.2 x.1.2.2.2.2.1.2 x.1.2.2.2.2.2.2 x.2.1.1.2 x.2.1.2.2.2 x.2.1.2.1 x.2.2 x.1.1)
/- Functions that the plain texts alone name. -/
end Go.Eng.R13
