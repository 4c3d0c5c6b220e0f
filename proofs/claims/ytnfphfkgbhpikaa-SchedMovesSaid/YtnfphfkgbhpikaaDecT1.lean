/-
 The functions of the program,run on symbols;printed by decomp.py.
-/
import Derived.Test.YtnfphfkgbhpikaaDecT0
set_option linter.all false
set_option maxRecDepth 1000000
set_option maxHeartbeats 4000000
namespace Go.Eng.R13
open Go Go.RowKit Go.Eng
variable {ρ σ : Type} (u m : Nat) (k : Ex → St → Option ρ) (ng : ρ → Option σ) (n0 n1 n2 n3 n4 n5 n6 n7 n8 n9 nA : Nat) (f0 f1 f2 f3 f4 f5 f6 f7 f8 f9 fA : FF) (i0 i1 i2 i3 i4 i5 i6 i7 : Int) (b0 b1 b2 : Bool) (w0 w1 w2 : ByteArray) (g0 g1 g2 : Nat → CV) (u0 u1 : Nat → Nat)
def A42v1:AC:=(.region 6 [mv 18 6,o1 19 (bk .add 3 18 1),o1 6 (sg 19)] 0 none)
def A42v2:AC:=(.seq (.block 1
 (.seq (.region 7 [mv 20 1,mv 21 0,mv 22 6,o1 23 (.indexAddr 51 9 1 (tm 21) (tm 22)),o1 24 (lo 9 23),mv 25 5,o1 26 (.callv (tm 20) [(tm 24),(tm 25)] [9,9] .snap),o1 27 (bk .lss 3 26 0)] 0 none) []
  (.cond (tm 27)
  (.region 8 [mv 28 0,mv 29 6,o1 30 (.indexAddr 51 9 1 (tm 28) (tm 29)),o1 31 (lo 9 30),o1 5 (sg 31)] 0 none)
  .skip))) (rl 20 12 [])
 A42v1)
def A42v3:AC:=(.seq (.seq (.region 5 [mv 14 6,mv 15 0,o1 16 (.len 51 false (tm 15)),o1 17 (bt .lss 3 14 16)] 0 none) []
 (.cond (tm 17)
 .skip
 (.exit 0 (rl 0 5 (rl 6 27 []))))) (rl 14 4 [])
 A42v2)
def A42v4:AC:=(.seq (.region 9 [mv 32 5,o1 4 (sg 32)] 0 none) []
 (.ret (rl 0 4 (rl 5 28 []))))
def A42v5:AC:=(.seq (.region 3 [mv 11 0,o1 12 (.indexAddr 51 9 1 (tm 11) (ic 0)),o1 13 (lo 9 12),o1 5 (sg 13)] 0 none) []
 (.seq (.seq (.region 4 [o1 6 (sk 1)] 0 none) []
 (.block 0
 (.loop [] (2 :: 3 :: 4 :: (rl 7 26 []))
  A42v3))) (6 :: (rl 14 18 []))
 A42v4))
def A42:AF:=⟨33,[.tmp 4],
 (.seq (.region 0 [o1 4 (.assign (.const (.string ByteArray.empty)))] 0 none) []
 (.seq (.seq (.region 1 [mv 7 0,o1 8 (.len 51 false (tm 7)),o1 9 (bk .lss 3 8 1)] 0 none) []
 (.cond (tm 9)
 (.region 2 [o1 10 (.iface 9 (.const (.string (ByteArray.mk #[115,108,105,99,101,115,46,77,105,110,70,117,110,99,58,32,101,109,112,116,121,32,108,105,115,116])))),o0 (.pan (tm 10))] 0 none)
 .skip)) (rl 7 4 [])
 A42v5))⟩
def N343v1:St→Option St:=nN 0 (2 :: 3 :: 4 :: (rl 7 26 []))
def s343v0:St:=⟨(.x (.c (ro kO n0 f0)) :: .x (.c (.fn 43 3 (listF [(.rp kPq (listF [(.rp kC g0)])),(.rp kH g1),(.rp kM g2)]))) :: (us 3 (vxs w0 :: vxi i0 :: (us 26 [])))),[]⟩
def s343v1:St:=⟨(us 5 (vxs w0 :: (us 27 []))),[]⟩
def L343v1 {ρ:Type} (u:Nat) (x0:Nat) (x1:FF) (x2 x3 x4:Nat→CV):Nat→ByteArray→Int→(ByteArray→Option ρ)→Option ρ
 | 0,_,_,_=>none
 | m+1,x5,x6,k0 =>
  (bif (decide (x6<(Int.ofNat x0))) then (bif (inb x6 x0) then (ob (F342 u (x1 x6.toNat 0).str x5 x2 x3 x4) fun x7=>(bif (decide (x7<0)) then (bif (inb x6 x0) then (L343v1 u x0 x1 x2 x3 x4 m (x1 x6.toNat 0).str (w64 (x6+1)) k0) else none) else (L343v1 u x0 x1 x2 x3 x4 m x5 (w64 (x6+1)) k0))) else none) else (k0 x5))
theorem nl343v1:∀ (m:Nat) (x0:ByteArray) (x1:Int) (k0:ByteArray→Option ρ),ob (L343v1 u n0 f0 g0 g1 g2 m x0 x1 k0) ng=L343v1 u n0 f0 g0 g1 g2 m x0 x1 (fun x2=>ob (k0 x2) ng)
 | 0,_,_,_=>rfl
 | m+1,x0,x1,k0=>by
  simp only [L343v1,ob_bif,ob_ob,ob_none,nl343v1 m]
theorem q343v1:∀ (m:Nat) (x0:ByteArray) (x1:Int),
  loopH (eB A42v3 (C28 u) u) N343v1 m (s343v0 n0 f0 x1 x0 g0 g1 g2) k=L343v1 u n0 f0 g0 g1 g2 m x0 x1 (fun x2=>k (.exit 0) (s343v1 x2))
 | 0,_,_=>rfl
 | m+1,x0,x1=>by
  simp only [L343v1,← q343v1 m]
  kernel_rfl
def F343 (x0:Nat) (x1:FF) (x2 x3 x4:Nat→CV):Option (ByteArray) :=
 (bif (decide ((Int.ofNat x0)<1)) then none else (bif (inb 0 x0) then (L343v1 u x0 x1 x2 x3 x4 u (x1 0 0).str 1
  (fun x5=>(some x5))) else none))
def s343v2:St:=⟨(.x (.c (ro kO n0 f0)) :: .x (.c (.fn 43 3 (listF [(.rp kPq (listF [(.rp kC g0)])),(.rp kH g1),(.rp kM g2)]))) :: uu :: uu :: vxs ByteArray.empty :: vxs (f0 0 0).str :: vxi 1 :: (us 4 [.x (.c (ro kO n0 f0)),.x (.c (.rp kO (f0 0))),vxs (f0 0 0).str,uu,uu,uu,uu,uu,uu,uu,uu,uu,uu,uu,uu,uu,uu,uu,uu,uu,uu,uu])),[]⟩
theorem t343v1 :
  loopN (eB A42v3 (C28 u) u) N343v1 u (s343v2 n0 f0 g0 g1 g2) k =
  L343v1 u n0 f0 g0 g1 g2 u (f0 0 0).str 1 (fun x0=>k (.exit 0) (s343v1 x0)) :=
 Eq.trans (loopN_at (by kernel_rfl)) (q343v1 ..)
theorem g343v2 :
  (kBlk 0 (kSeq (C28 u) u (6 :: (rl 14 18 [])) A42v4 (finish A42))) (.exit 0) (s343v1 w0) =
  (some [.v (.s w0)]):=by kernel_rfl
theorem e343:evalF (C28 u) u A42 [.v (ro kO n0 f0),.v (.fn 43 3 (listF [(.rp kPq (listF [(.rp kC g0)])),(.rp kH g1),(.rp kM g2)]))]=ob (F343 u n0 f0 g0 g1 g2) fun t=>some [.v (.s t)]:=Eq.trans (b:=(bif (decide ((Int.ofNat n0)<1)) then none else (bif (inb 0 n0) then (loopN (eB A42v3 (C28 u) u) N343v1 u (s343v2 n0 f0 g0 g1 g2) (kBlk 0 (kSeq (C28 u) u (6 :: (rl 14 18 [])) A42v4 (finish A42)))) else none))) (by kernel_rfl) (by
 simp only [F343,ob_bif,ob_ob,ob_none,ob_some,nl343v1,t343v1,g343v2])
def O343:Ora:=mkO (qc (av (cL kO)) (q1 (av (cF 43 3 (tc (cR kPq (t1 (cP kC))) (tc (cP kH) (t1 (cP kM)))))))) (fun x=>F343 u x.1.1 x.1.2 x.2.1 x.2.2.1 x.2.2.2) fun t=>[.v (.s t)]
theorem d343:DO (O343 u) (C28 u) 42 A42:=dO u (fun x=>by exact e343 u x.1.1 x.1.2 x.2.1 x.2.2.1 x.2.2.2)
def C29:Oracle:=(C28 u).add 42 (fun l=>isFn 43 l 1) (O343 u)
def A45:AF:=⟨36,[.cell 8 55 (some 4)],
 (.seq (.region 0 [o1 8 (.alloc 0 55 [vcs ByteArray.empty,vcs ByteArray.empty,vci 0,vci 0])] 1 none) []
 (.seq (.region 1 [mv 10 0,mv 11 1,mv 12 2,mv 13 3,o1 14 (cs 44 [10,11,12,13] [67,30,3,9]),o1 9 (sg 14)] 0 none) []
 (.seq (.region 2 [mv 15 0,o1 16 (.nilCheck (tm 15)),o1 17 (fa 75 16 0 0),o1 18 (lo 29 17),mv 19 2,o1 20 (.indexAddr 29 53 3 (tm 18) (tm 19)),o1 21 (fa 53 20 0 0),o1 22 (lo 9 21),mv 23 3,mv 24 9,mv 25 9,mv 26 0,o1 27 (.nilCheck (tm 26)),o1 28 (fa 75 27 0 0),o1 29 (lo 29 28),mv 30 2,o1 31 (.indexAddr 29 53 3 (tm 29) (tm 30)),o1 32 (fa 53 31 1 1),o1 33 (lo 3 32),o1 34 (bt .add 3 25 33),o1 35 (.build 55 [vcs ByteArray.empty,vcs ByteArray.empty,vci 0,vci 0] [(0,1),(1,1),(2,1),(3,1)] 0 [(0,(tm 22)),(1,(tm 23)),(2,(tm 24)),(3,(tm 34))]),o0 (.store 55 4 (tm 8) (tm 35))] 0 (some [[],[0],[0,1],[0,1,2],[],(rl 0 5 []),(rl 0 6 []),(rl 0 7 []),[],[],[],[],[11],[11,12],[11,12,13],[],(rl 11 5 []),(rl 11 6 []),(rl 11 7 []),(rl 10 9 []),(rl 0 20 []),(rl 0 21 [])])) []
 (.ret (rl 0 8 (rl 9 27 []))))))⟩
def F344 (x0:Nat→CV) (x1:Nat) (x2:FF) (x3:Int) (x4:ByteArray):Option (ByteArray × ByteArray × Int × Int) :=
 (ob (F341 u x0 x1 x2 x3 x4) fun x5=>(bif (inb x3 (x0 0).len) then (bif (inb x3 (x0 0).len) then (some (((x0 0).el x3.toNat 0).str,x4,x5,(w64 (x5+((x0 0).el x3.toNat 1).int)))) else none) else none))
theorem e344:evalF (C29 u) u A45 [.v (.rp kC g0),.v (ro kL n0 f0),.v (vi i0),.v (.s w0)]=ob (F344 u g0 n0 f0 i0 w0) fun t=>some [.agg [(.s t.1),(.s t.2.1),(vi t.2.2.1),(vi t.2.2.2)]]:=by
 simp only [F344,ob_bif,ob_ob,ob_none,ob_some]
 kernel_rfl
def O344:Ora:=mkO (qc (av (cP kC)) (qc (av (cL kL)) (qc (av ci) (q1 (av cS))))) (fun x=>F344 u x.1 x.2.1.1 x.2.1.2 x.2.2.1 x.2.2.2) fun t=>[.agg [(.s t.1),(.s t.2.1),(vi t.2.2.1),(vi t.2.2.2)]]
theorem d344:DO (O344 u) (C29 u) 45 A45:=dO u (fun x=>by exact e344 u x.2.1.1 x.2.1.2 x.2.2.1 x.2.2.2 x.1)
def C30:Oracle:=(C29 u).add 45 (fun _=>true) (O344 u)
def A18v1:AC:=(.seq (.block 1
 (.seq (.region 6 [o1 29 (.indexAddr 73 3 1 (tm 25) (tm 27)),o1 30 (lo 3 29),o1 10 (.alloc 0 3 [vci 0]),o0 (.store 3 1 (tm 10) (tm 30))] 1 none) []
  (.seq (.region 7 [mv 31 1,o1 32 (lo 3 10),o1 33 (.indexAddr 29 53 3 (tm 31) (tm 32)),o1 34 (fa 53 33 2 2),o1 35 (lo 51 34),o1 36 (.mkfn 43 [(tm 8),(tm 6),(tm 10)]),o1 37 (cs 42 [35,36] [51,83]),o1 11 (sg 37)] 0 none) []
  (.region 8 [o1 38 (lo 30 6),o1 39 (lo 67 8),o1 40 (lo 30 6),o1 41 (lo 3 10),mv 42 11,o1 43 (cs 45 [39,40,41,42] [67,30,3,9]),o1 44 (.buildSlice 0 30 55 kL 1 [vcs ByteArray.empty,vcs ByteArray.empty,vci 0,vci 0] [(0,(tm 43))]),o1 45 (.append 1 30 55 kL 48 (tm 38) (tm 44)),o0 (.store 30 1 (tm 6) (tm 45))] 2 (some [[],[],[],[],[],(rl 1 4 []),(rl 1 5 []),(rl 0 7 []),(rl 0 8 [])]))))) []
 (.region 9 [o1 46 (bk .add 3 27 1),mv 27 46] 0 none))
def A18v2:AC:=(.seq (.region 5 [o1 28 (bt .lss 3 27 26)] 0 none) []
 (.seq (.cond (tm 28)
 .skip
 (.ghost [0,2] (.exit 0 (rl 0 6 (rl 7 41 []))))) []
 A18v1))
def A18v3:AC:=(.seq (.region 10 [o1 47 (lo 30 6),o0 (.store 30 1 (tm 6) (tm 47)),o1 7 (sk 0)] 0 none) []
 (.ghost [0,2] (.ret (rl 0 6 (rl 8 40 [])))))
def A18v4:AC:=(.seq (.seq (.region 4 [o1 22 (lo 67 8),o1 23 (.nilCheck (tm 22)),o1 24 (fa 75 23 3 3),o1 25 (lo 73 24),o1 26 (.len 73 false (tm 25)),o1 27 (.move (ic 0))] 0 none) []
 (.block 0
 (.ghost [0] (.loop [.cell 6 0 kL] (0 :: (rl 2 4 (7 :: (rl 9 16 (rl 28 20 [])))))
  A18v2)))) (10 :: 11 :: (rl 22 25 []))
 A18v3)
def A18:AF:=⟨48,[.cell 6 30 none,.tmp 7],
 (.seq (.region 0 [o1 3 (bx 0 28 0),o1 6 (.alloc 1 30 [vcn]),o1 7 (sk 0)] 2 none) []
 (.seq (.region 1 [o1 13 (ln 28 6 3),mv 14 1,mv 15 2,o1 16 (cf 35 [13,14,15] [28,29,3]),mv 12 16,o1 17 (.extract (tm 12) 0),o1 18 (.extract (tm 12) 1),o1 8 (.alloc 0 67 [.u]),o0 (.store 67 1 (tm 8) (tm 17)),o1 7 (sg 18)] 1 none) []
 (.seq (.seq (.region 2 [mv 19 7,o1 20 (bk .neq 35 19 0)] 0 none) []
 (.cond (tm 20)
 (.seq (.region 3 [mv 21 7,o0 (.store 30 1 (tm 6) (.const (.slice none 0 0))),o1 7 (sg 21)] 0 none) []
  (.ghost [0,2] (.ret (rl 0 6 (rl 8 40 [])))))
 .skip)) [7,19,20,21]
 A18v4)))⟩
def N345v1:St→Option St:=nN 4 (0 :: (rl 2 4 (7 :: (rl 9 16 (rl 28 20 [])))))
def s345v0:St:=⟨(.u :: .x (.c (ro kE n0 f0)) :: (us 4 (.x (.ptr 1 0) :: .u :: .x (.ptr 2 0) :: (us 16 (.x (.c (ro kM n1 f1)) :: vxi i0 :: vxi i1 :: (us 20 [])))))),[.dead,.box [(.own 3 0 n2)],.box [(.c (.rp kC (listF [(ro kE n3 f2),(vi i2),(ro kJ n4 f3),(ro kM n1 f1)])))],.arr kL n2 f4]⟩
def s345v1:St:=⟨(us 6 (.x (.ptr 1 0) :: (us 41 []))),[.dead,.box [(.own 3 0 n0)],.dead,.arr kL n0 f0]⟩
def L345v1 {ρ:Type} (u:Nat) (x0:Nat) (x1:FF) (x2:Nat) (x3:FF) (x4:Int) (x5:Nat) (x6:FF) (x7:Int) (x8:Nat) (x9:FF):Nat→Int→Nat→FF→(Nat→FF→Option ρ)→Option ρ
 | 0,_,_,_,_=>none
 | m+1,xA,xB,xC,k0 =>
  (bif (decide (xA<x4)) then (bif (inb xA x2) then (bif (inb (x3 xA.toNat 0).int x0) then (ob (F343 u (CV.len (x1 (Int.toNat (x3 xA.toNat 0).int) 2)) (CV.el (x1 (Int.toNat (x3 xA.toNat 0).int) 2)) (listF [(.ro false (.pr .str (.pr (.int .i64) (.pr (.sl (.pr .str .nil)) .nil))) x5 x6),(.i .i64 x7),(.ro false (.pr (.sl (.pr .bool .nil)) .nil) x8 x9),(.ro false (.pr (.int .i64) .nil) x2 x3)]) (listF [(.ro false (.pr .str (.pr .str (.pr (.int .i64) (.pr (.int .i64) .nil)))) xB xC)]) (listF [(.i .i64 (x3 xA.toNat 0).int)])) fun xD=>(ob (F344 u (listF [(.ro false (.pr .str (.pr (.int .i64) (.pr (.sl (.pr .str .nil)) .nil))) x5 x6),(.i .i64 x7),(.ro false (.pr (.sl (.pr .bool .nil)) .nil) x8 x9),(.ro false (.pr (.int .i64) .nil) x2 x3)]) xB xC (x3 xA.toNat 0).int xD) fun xE=>(bif (Nat.ble (xB+1) 1073741824) then (L345v1 u x0 x1 x2 x3 x4 x5 x6 x7 x8 x9 m (w64 (xA+1)) (xB+1) (joinF xB xC (rowsF 4 [(.s xE.1),(.s xE.2.1),(.i .i64 xE.2.2.1),(.i .i64 xE.2.2.2)])) k0) else none))) else none) else none) else (k0 xB xC))
theorem nl345v1:∀ (m:Nat) (x0:Int) (x1:Nat) (x2:FF) (k0:Nat→FF→Option ρ),ob (L345v1 u n0 f0 n1 f1 i0 n2 f2 i1 n3 f3 m x0 x1 x2 k0) ng=L345v1 u n0 f0 n1 f1 i0 n2 f2 i1 n3 f3 m x0 x1 x2 (fun x3 x4=>ob (k0 x3 x4) ng)
 | 0,_,_,_,_=>rfl
 | m+1,x0,x1,x2,k0=>by
  simp only [L345v1,ob_bif,ob_ob,ob_none,nl345v1 m]
theorem q345v1:∀ (m:Nat) (x0:Int) (x1:Nat) (x2:FF),
  loopH (eB A18v2 (C30 u) u) N345v1 m (s345v0 n0 n1 x1 n2 n3 f0 f1 f2 f3 x2 i0 x0 i1) k=L345v1 u n0 f0 n1 f1 i0 n2 f2 i1 n3 f3 m x0 x1 x2 (fun x3 x4=>k (.exit 0) (s345v1 x3 x4))
 | 0,_,_,_=>rfl
 | m+1,x0,x1,x2=>by
  simp only [L345v1,← q345v1 m]
  kernel_rfl
def FT345 (x0:ByteArray) (x1:Nat) (x2:FF) (x3:Nat) (x4:FF) (x5:Nat) (x6:FF) (x7:Nat) (x8:FF) (x9:Nat) (xA:FF) (xB:Nat) (xC:FF) (xD:Int):Option (Bool × Nat × FF × Int) :=
 (ob (F340 u x0 x1 x2 x3 x4 x5 x6 x7 x8 x9 xA xB xC xD) fun xE=>(bif xE.1 then (bif ((p8 xE) != 0) then (some (true,0,(fun _ _=>.any),(p8 xE))) else none) else (L345v1 u xB xC xE.2.2.2.2.2.2.1 xE.2.2.2.2.2.2.2.1 (Int.ofNat xE.2.2.2.2.2.2.1) xE.2.1 xE.2.2.1 xE.2.2.2.1 xE.2.2.2.2.1 xE.2.2.2.2.2.1 u 0 0 (fun _ _=>.any)
  (fun xF xG=>(some (false,xF,xG,0))))))
def s345v2 (x0:Bool × Nat × FF × Int × Nat × FF × Nat × FF × Int):St:=⟨(.agg [(vcs w0),(.c (ro kF n0 f0)),(.c (ro kB n1 f1)),(.c (ro kI n2 f2)),(.c (ro kD n3 f3)),(.c (ro kG n4 f4))] :: .x (.c (ro kE n5 f5)) :: vxi i0 :: .x (.c (.rp kA (listF [(.s w0),(ro kF n0 f0),(ro kB n1 f1),(ro kI n2 f2),(ro kD n3 f3),(ro kG n4 f4)]))) :: uu :: uu :: .x (.ptr 1 0) :: .u :: .x (.ptr 2 0) :: uu :: uu :: uu :: .tup [.v (.rp kC (listF [(ro kE x0.2.1 x0.2.2.1),(vi x0.2.2.2.1),(ro kJ x0.2.2.2.2.1 x0.2.2.2.2.2.1),(ro kM x0.2.2.2.2.2.2.1 x0.2.2.2.2.2.2.2.1)])),.v (vi 0)] :: .agg [(vcs w0),(.c (ro kF n0 f0)),(.c (ro kB n1 f1)),(.c (ro kI n2 f2)),(.c (ro kD n3 f3)),(.c (ro kG n4 f4))] :: .x (.c (ro kE n5 f5)) :: vxi i0 :: .tup [.v (.rp kC (listF [(ro kE x0.2.1 x0.2.2.1),(vi x0.2.2.2.1),(ro kJ x0.2.2.2.2.1 x0.2.2.2.2.2.1),(ro kM x0.2.2.2.2.2.2.1 x0.2.2.2.2.2.2.2.1)])),.v (vi 0)] :: .x (.c (.rp kC (listF [(ro kE x0.2.1 x0.2.2.1),(vi x0.2.2.2.1),(ro kJ x0.2.2.2.2.1 x0.2.2.2.2.2.1),(ro kM x0.2.2.2.2.2.2.1 x0.2.2.2.2.2.2.2.1)]))) :: vxi 0 :: (us 3 [.x (.c (.rp kC (listF [(ro kE x0.2.1 x0.2.2.1),(vi x0.2.2.2.1),(ro kJ x0.2.2.2.2.1 x0.2.2.2.2.2.1),(ro kM x0.2.2.2.2.2.2.1 x0.2.2.2.2.2.2.2.1)]))),.x (.c (.rp kC (listF [(ro kE x0.2.1 x0.2.2.1),(vi x0.2.2.2.1),(ro kJ x0.2.2.2.2.1 x0.2.2.2.2.2.1),(ro kM x0.2.2.2.2.2.2.1 x0.2.2.2.2.2.2.2.1)]))),.x (.c (.rp (.pr (.sl kM) .nil) (fun j=>(listF [(ro kE x0.2.1 x0.2.2.1),(vi x0.2.2.2.1),(ro kJ x0.2.2.2.2.1 x0.2.2.2.2.2.1),(ro kM x0.2.2.2.2.2.2.1 x0.2.2.2.2.2.2.2.1)]) (3+j)))),.x (.c (ro kM x0.2.2.2.2.2.2.1 x0.2.2.2.2.2.2.2.1)),vxi (Int.ofNat x0.2.2.2.2.2.2.1),vxi 0,uu,uu,uu,uu,uu,uu,uu,uu,uu,uu,uu,uu,uu,uu,uu,uu,uu,uu,uu,uu])),[.dead,.box [(.own 3 0 0)],.box [(.c (.rp kC (listF [(ro kE x0.2.1 x0.2.2.1),(vi x0.2.2.2.1),(ro kJ x0.2.2.2.2.1 x0.2.2.2.2.2.1),(ro kM x0.2.2.2.2.2.2.1 x0.2.2.2.2.2.2.2.1)])))],.arr kL 0 nilF]⟩
theorem t345v1 (x0:Bool × Nat × FF × Int × Nat × FF × Nat × FF × Int) :
  loopN (eB A18v2 (C30 u) u) N345v1 u (s345v2 n0 n1 n2 n3 n4 n5 f0 f1 f2 f3 f4 f5 i0 w0 x0) k =
  L345v1 u n5 f5 x0.2.2.2.2.2.2.1 x0.2.2.2.2.2.2.2.1 (Int.ofNat x0.2.2.2.2.2.2.1) x0.2.1 x0.2.2.1 x0.2.2.2.1 x0.2.2.2.2.1 x0.2.2.2.2.2.1 u 0 0 nilF (fun x1 x2=>k (.exit 0) (s345v1 x1 x2)) :=
 Eq.trans (loopN_at (by kernel_rfl)) (q345v1 ..)
theorem g345v2 :
  (kBlk 0 (kSeq (C30 u) u (10 :: 11 :: (rl 22 25 [])) A18v3 (finish A18))) (.exit 0) (s345v1 n0 f0) =
  (some [.v (ro kL n0 f0),.v (vi 0)]):=by kernel_rfl
theorem e345:evalF (C30 u) u A18 [.agg [(.s w0),(ro kF n0 f0),(ro kB n1 f1),(ro kI n2 f2),(ro kD n3 f3),(ro kG n4 f4)],.v (ro kE n5 f5),.v (vi i0)]=ob (FT345 u w0 n0 f0 n1 f1 n2 f2 n3 f3 n4 f4 n5 f5 i0) fun t=>some (bif t.1 then [.v (.ro true .nil 0 nilF),.v (vi t.2.2.2)] else [.v (ro kL t.2.1 t.2.2.1),.v (vi 0)]):=Eq.trans (b:=(ob (F340 u w0 n0 f0 n1 f1 n2 f2 n3 f3 n4 f4 n5 f5 i0) fun x0=>(bif x0.1 then (bif ((p8 x0) != 0) then (some [.v (.ro true .nil 0 nilF),.v (vi (p8 x0))]) else none) else (loopN (eB A18v2 (C30 u) u) N345v1 u (s345v2 n0 n1 n2 n3 n4 n5 f0 f1 f2 f3 f4 f5 i0 w0 x0) (kBlk 0 (kSeq (C30 u) u (10 :: 11 :: (rl 22 25 [])) A18v3 (finish A18))))))) (by kernel_rfl) (by
 simp only [FT345,ob_bif,ob_ob,ob_none,ob_some,nl345v1,t345v1,g345v2,cond_true,cond_false])
def F345 (x0:ByteArray) (x1:Nat) (x2:FF) (x3:Nat) (x4:FF) (x5:Nat) (x6:FF) (x7:Nat) (x8:FF) (x9:Nat) (xA:FF) (xB:Nat) (xC:FF) (xD:Int):Option (Nat × FF × Int):=ob (FT345 u x0 x1 x2 x3 x4 x5 x6 x7 x8 x9 xA xB xC xD) fun t=>some (bif t.1 then (0,(fun _ _=>.any),t.2.2.2) else (t.2.1,t.2.2.1,0))
def O345:Ora:=mkO (qc (ag (tc cS (tc (cL kF) (tc (cL kB) (tc (cL kI) (tc (cL kD) (t1 (cL kG)))))))) (qc (av (cL kE)) (q1 (av ci)))) (fun x=>F345 u x.1.1 x.1.2.1.1 x.1.2.1.2 x.1.2.2.1.1 x.1.2.2.1.2 x.1.2.2.2.1.1 x.1.2.2.2.1.2 x.1.2.2.2.2.1.1 x.1.2.2.2.2.1.2 x.1.2.2.2.2.2.1 x.1.2.2.2.2.2.2 x.2.1.1 x.2.1.2 x.2.2) fun t=>[.v (ro kL t.1 t.2.1),.v (vi t.2.2)]
theorem d345:DO (O345 u) (C30 u) 18 A18:=dW u (fun x=>by exact e345 u x.1.2.1.1 x.1.2.2.1.1 x.1.2.2.2.1.1 x.1.2.2.2.2.1.1 x.1.2.2.2.2.2.1 x.2.1.1 x.1.2.1.2 x.1.2.2.1.2 x.1.2.2.2.1.2 x.1.2.2.2.2.1.2 x.1.2.2.2.2.2.2 x.2.1.2 x.2.2 x.1.1) (fun _=>rfl) fun t=>by
 obtain ⟨b,t⟩:=t
 cases b with
 | true=>exact (.cons (WkA.v (Wk.ro (by rfl))) (.cons (WkA.v (Wk.refl _)) .nil))
 | false =>
  exact (.cons (WkA.v (Wk.refl _)) (.cons (WkA.v (Wk.refl _)) .nil))
def C31:Oracle:=(C30 u).add 18 (fun _=>true) (O345 u)
def A16v1:AC:=(.region 6 [o1 22 (bk .add 3 7 1),mv 7 22] 0 none)
def A16v2:AC:=(.seq (.block 1
 (.seq (.region 3 [mv 9 7,o1 10 (.indexAddr 30 55 4 (tm 5) (tm 7)),o1 11 (ln 55 4 10),o1 4 (.alloc 0 55 [vcs ByteArray.empty,vcs ByteArray.empty,vci 0,vci 0]),o1 3 (sg 9),o0 (.store 55 4 (tm 4) (tm 11))] 1 none) []
  (.seq (.region 4 [mv 12 3,o1 13 (bk .eql 3 12 0),mv 14 13,og 15 (fa 55 4 3 3) 14 false,og 16 (lo 3 15) 14 false,og 17 (.move (tm 2)) 14 false,og 18 (bt .gtr 3 16 17) 14 false,o1 19 (pa 14 18)] 0 none) []
  (.cond (tm 19)
  (.region 5 [o1 20 (fa 55 4 3 3),o1 21 (lo 3 20),o1 2 (sg 21)] 0 none)
  .skip)))) (3 :: 4 :: (rl 9 13 []))
 A16v1)
def A16v3:AC:=(.seq (.region 2 [o1 8 (bt .lss 3 7 6)] 0 none) []
 (.seq (.cond (tm 8)
 .skip
 (.exit 0 (0 :: 1 :: (rl 3 21 [])))) []
 A16v2))
def A16v4:AC:=(.seq (.region 7 [mv 23 2,o1 2 (sg 23)] 0 none) []
 (.ret (0 :: 1 :: (rl 3 21 []))))
def A16:AF:=⟨24,[.tmp 2],
 (.seq (.region 0 [o1 2 (sk 0)] 0 none) []
 (.seq (.seq (.region 1 [mv 5 0,o1 6 (.len 30 false (tm 5)),o1 7 (.move (ic 0))] 0 none) []
 (.block 0
 (.loop [] (0 :: 1 :: 3 :: 4 :: (rl 8 16 []))
  A16v3))) (rl 3 20 [])
 A16v4))⟩
def N346v1:St→Option St:=nN 0 (0 :: 1 :: 3 :: 4 :: (rl 8 16 []))
def s346v0:St:=⟨(.u :: .u :: vxi i0 :: .u :: .u :: .x (.c (ro kL n0 f0)) :: vxi i1 :: vxi i2 :: (us 16 [])),[]⟩
def s346v1:St:=⟨(.u :: .u :: vxi i0 :: (us 21 [])),[]⟩
def L346v1 {ρ:Type} (u:Nat) (x0:Nat) (x1:FF) (x2:Int):Nat→Int→Int→(Int→Option ρ)→Option ρ
 | 0,_,_,_=>none
 | m+1,x3,x4,k0 =>
  (bif (decide (x4<x2)) then (bif (inb x4 x0) then (bif ((x4==0)==false) then (bif (decide ((x1 x4.toNat 3).int>x3)) then (L346v1 u x0 x1 x2 m (x1 x4.toNat 3).int (w64 (x4+1)) k0) else (L346v1 u x0 x1 x2 m x3 (w64 (x4+1)) k0)) else (L346v1 u x0 x1 x2 m (x1 x4.toNat 3).int (w64 (x4+1)) k0)) else none) else (k0 x3))
theorem nl346v1:∀ (m:Nat) (x0 x1:Int) (k0:Int→Option ρ),ob (L346v1 u n0 f0 i0 m x0 x1 k0) ng=L346v1 u n0 f0 i0 m x0 x1 (fun x2=>ob (k0 x2) ng)
 | 0,_,_,_=>rfl
 | m+1,x0,x1,k0=>by
  simp only [L346v1,ob_bif,ob_ob,ob_none,nl346v1 m]
theorem q346v1:∀ (m:Nat) (x0 x1:Int),
  loopH (eB A16v3 (C31 u) u) N346v1 m (s346v0 n0 f0 x0 i0 x1) k=L346v1 u n0 f0 i0 m x0 x1 (fun x2=>k (.exit 0) (s346v1 x2))
 | 0,_,_=>rfl
 | m+1,x0,x1=>by
  simp only [L346v1,← q346v1 m]
  kernel_rfl
def F346 (x0:Nat) (x1:FF):Option (Int) :=
 (L346v1 u x0 x1 (Int.ofNat x0) u 0 0
  (fun x2=>(some x2)))
def s346v2:St:=⟨[.x (.c (ro kL n0 f0)),uu,vxi 0,uu,uu,.x (.c (ro kL n0 f0)),vxi (Int.ofNat n0),vxi 0,uu,uu,uu,uu,uu,uu,uu,uu,uu,uu,uu,uu,uu,uu,uu,uu],[]⟩
theorem t346v1 :
  loopN (eB A16v3 (C31 u) u) N346v1 u (s346v2 n0 f0) k =
  L346v1 u n0 f0 (Int.ofNat n0) u 0 0 (fun x0=>k (.exit 0) (s346v1 x0)) :=
 Eq.trans (loopN_at (by kernel_rfl)) (q346v1 ..)
theorem g346v2 :
  (kBlk 0 (kSeq (C31 u) u (rl 3 20 []) A16v4 (finish A16))) (.exit 0) (s346v1 i0) =
  (some [.v (vi i0)]):=by kernel_rfl
theorem e346:evalF (C31 u) u A16 [.v (ro kL n0 f0)]=ob (F346 u n0 f0) fun t=>some [.v (vi t)]:=Eq.trans (b:=(loopN (eB A16v3 (C31 u) u) N346v1 u (s346v2 n0 f0) (kBlk 0 (kSeq (C31 u) u (rl 3 20 []) A16v4 (finish A16))))) (by kernel_rfl) (by
 simp only [F346,ob_bif,ob_ob,ob_none,ob_some,nl346v1,t346v1,g346v2])
def O346:Ora:=mkO (q1 (av (cL kL))) (fun x=>F346 u x.1 x.2) fun t=>[.v (vi t)]
theorem d346:DO (O346 u) (C31 u) 16 A16:=dO u (fun x=>by exact e346 u x.1 x.2)
def C32:Oracle:=(C31 u).add 16 (fun _=>true) (O346 u)
def A70:AF:=⟨16,[.tmp 4],
 (.seq (.region 0 [o1 3 (bx 0 55 0),o1 4 (sb false)] 1 none) []
 (.seq (.region 1 [o1 5 (fa 55 3 0 0),o1 6 (lo 9 5),o1 7 (lo 67 1),o1 8 (.nilCheck (tm 7)),o1 9 (fa 75 8 0 0),o1 10 (lo 29 9),o1 11 (lo 3 2),o1 12 (.indexAddr 29 53 3 (tm 10) (tm 11)),o1 13 (fa 53 12 0 0),o1 14 (lo 9 13),o1 15 (bt .eql 9 6 14),o1 4 (sg 15)] 0 (some [[],[0],[],[2],[2,3],[2,3,4],[],(rl 2 5 []),(rl 2 6 []),(rl 2 7 []),(rl 0 10 []),(rl 0 11 [])])) []
 (.ret (rl 0 4 (rl 5 11 [])))))⟩
def F347 (u:Nat) (x0 x1:ByteArray) (x2 x3:Int) (x4 x5:Nat→CV):Option (Bool) :=
 (bif (inb (x5 0).int (x4 0).len) then (some (ByteArray.toList x0==ByteArray.toList (CV.str ((x4 0).el (Int.toNat (x5 0).int) 0)))) else none)
theorem e347:evalF (C32 u) u A70 [.agg [(.s w0),(.s w1),(vi i0),(vi i1)],.v (.rp kPq (listF [(.rp kC g0)])),.v (.rp kM g1)]=ob (F347 u w0 w1 i0 i1 g0 g1) fun t=>some [.v (.b t)]:=by
 simp only [F347,ob_bif,ob_ob,ob_none,ob_some]
 kernel_rfl
def O347:Ora:=mkO (qc (ag (tc cS (tc cS (tc ci (t1 ci))))) (qc (av (cR kPq (t1 (cP kC)))) (q1 (av (cP kM))))) (fun x=>F347 u x.1.1 x.1.2.1 x.1.2.2.1 x.1.2.2.2 x.2.1 x.2.2) fun t=>[.v (.b t)]
theorem d347:DO (O347 u) (C32 u) 70 A70:=dO u (fun x=>by exact e347 u x.1.2.2.1 x.1.2.2.2 x.1.1 x.1.2.1 x.2.1 x.2.2)
def C33:Oracle:=(C32 u).add 70 (fun _=>true) (O347 u)
def A81v1:AC:=(.region 6 [o1 18 (bk .add 3 8 1),mv 8 18] 0 none)
def A81v2:AC:=(.seq (.block 1
 (.seq (.region 3 [mv 10 8,o1 5 (sg 10)] 0 none) []
  (.seq (.region 4 [mv 11 1,mv 12 0,mv 13 5,o1 14 (.indexAddr 30 55 4 (tm 12) (tm 13)),o1 15 (ln 55 4 14),o1 16 (.callv (tm 11) [(tm 15)] [55] .snap)] 0 none) []
  (.cond (tm 16)
  (.seq (.region 5 [mv 17 5,o1 4 (sg 17)] 0 none) []
   (.ret (rl 0 4 (rl 5 14 []))))
  .skip)))) (4 :: 5 :: (rl 10 8 []))
 A81v1)
def A81v3:AC:=(.seq (.region 2 [o1 9 (bt .lss 3 8 7)] 0 none) []
 (.seq (.cond (tm 9)
 .skip
 (.exit 0 (rl 0 19 []))) []
 A81v2))
def A81v4:AC:=(.seq (.region 7 [o1 4 (sk (-1))] 0 none) []
 (.ret (rl 0 4 (rl 5 14 []))))
def A81:AF:=⟨19,[.tmp 4],
 (.seq (.region 0 [o1 4 (sk 0)] 0 none) []
 (.seq (.seq (.region 1 [mv 6 0,o1 7 (.len 30 false (tm 6)),o1 8 (.move (ic 0))] 0 none) []
 (.block 0
 (.loop [] (rl 2 5 (rl 9 10 []))
  A81v3))) (rl 4 15 [])
 A81v4))⟩
def N348v1:St→Option St:=nN 0 (rl 2 5 (rl 9 10 []))
def s348v0:St:=⟨(.x (.c (ro kL n0 f0)) :: .x (.c (.fn 70 2 (listF [(.rp kPq (listF [(.rp kC g0)])),(.rp kM g1)]))) :: (us 5 (vxi i0 :: vxi i1 :: (us 10 [])))),[]⟩
def s348v1:St:=⟨(us 4 (vxi i0 :: (us 14 []))),[]⟩
def s348v2:St:=⟨(us 19 []),[]⟩
def L348v1 {ρ:Type} (u:Nat) (x0:Nat) (x1:FF) (x2 x3:Nat→CV) (x4:Int):Nat→Int→(Int→Option ρ)→(Option ρ)→Option ρ
 | 0,_,_,_=>none
 | m+1,x5,k0,k1 =>
  (bif (decide (x5<x4)) then (bif (inb x5 x0) then (ob (F347 u (x1 x5.toNat 0).str (x1 x5.toNat 1).str (x1 x5.toNat 2).int (x1 x5.toNat 3).int x2 x3) fun x6=>(bif x6 then (k0 x5) else (L348v1 u x0 x1 x2 x3 x4 m (w64 (x5+1)) k0 k1))) else none) else k1)
theorem nl348v1:∀ (m:Nat) (x0:Int) (k0:Int→Option ρ) (k1:Option ρ),ob (L348v1 u n0 f0 g0 g1 i0 m x0 k0 k1) ng=L348v1 u n0 f0 g0 g1 i0 m x0 (fun x1=>ob (k0 x1) ng) (ob k1 ng)
 | 0,_,_,_=>rfl
 | m+1,x0,k0,k1=>by
  simp only [L348v1,ob_bif,ob_ob,ob_none,nl348v1 m]
theorem q348v1:∀ (m:Nat) (x0:Int),
  loopH (eB A81v3 (C33 u) u) N348v1 m (s348v0 n0 f0 i0 x0 g0 g1) k=L348v1 u n0 f0 g0 g1 i0 m x0 (fun x1=>k .ret (s348v1 x1)) (k (.exit 0) s348v2)
 | 0,_=>rfl
 | m+1,x0=>by
  simp only [L348v1,← q348v1 m]
  kernel_rfl
def F348 (x0:Nat) (x1:FF) (x2 x3:Nat→CV):Option (Int) :=
 (L348v1 u x0 x1 x2 x3 (Int.ofNat x0) u 0
  (fun x4=>(some x4))
  (some (-1)))
def s348v3:St:=⟨[.x (.c (ro kL n0 f0)),.x (.c (.fn 70 2 (listF [(.rp kPq (listF [(.rp kC g0)])),(.rp kM g1)]))),uu,uu,vxi 0,uu,.x (.c (ro kL n0 f0)),vxi (Int.ofNat n0),vxi 0,uu,uu,uu,uu,uu,uu,uu,uu,uu,uu],[]⟩
theorem t348v1 :
  loopN (eB A81v3 (C33 u) u) N348v1 u (s348v3 n0 f0 g0 g1) k =
  L348v1 u n0 f0 g0 g1 (Int.ofNat n0) u 0 (fun x0=>k .ret (s348v1 x0)) (k (.exit 0) s348v2) :=
 Eq.trans (loopN_at (by kernel_rfl)) (q348v1 ..)
theorem g348v2 :
  (kBlk 0 (kSeq (C33 u) u (rl 4 15 []) A81v4 (finish A81))) .ret (s348v1 i0) =
  (some [.v (vi i0)]):=by kernel_rfl
theorem g348v3 :
  (kBlk 0 (kSeq (C33 u) u (rl 4 15 []) A81v4 (finish A81))) (.exit 0) s348v2 =
  (some [.v (vi (-1))]):=by kernel_rfl
theorem e348:evalF (C33 u) u A81 [.v (ro kL n0 f0),.v (.fn 70 2 (listF [(.rp kPq (listF [(.rp kC g0)])),(.rp kM g1)]))]=ob (F348 u n0 f0 g0 g1) fun t=>some [.v (vi t)]:=Eq.trans (b:=(loopN (eB A81v3 (C33 u) u) N348v1 u (s348v3 n0 f0 g0 g1) (kBlk 0 (kSeq (C33 u) u (rl 4 15 []) A81v4 (finish A81))))) (by kernel_rfl) (by
 simp only [F348,ob_bif,ob_ob,ob_none,ob_some,nl348v1,t348v1,g348v2,g348v3])
def O348:Ora:=mkO (qc (av (cL kL)) (q1 (av (cF 70 2 (tc (cR kPq (t1 (cP kC))) (t1 (cP kM))))))) (fun x=>F348 u x.1.1 x.1.2 x.2.1 x.2.2) fun t=>[.v (vi t)]
theorem d348:DO (O348 u) (C33 u) 81 A81:=dO u (fun x=>by exact e348 u x.1.1 x.1.2 x.2.1 x.2.2)
def C34:Oracle:=(C33 u).add 81 (fun l=>isFn 70 l 1) (O348 u)
def A62:AF:=⟨9,[.tmp 4],
 (.seq (.region 0 [o1 4 (sb false)] 0 none) []
 (.seq (.region 1 [mv 5 0,mv 6 1,o1 7 (cs 81 [5,6] [30,108]),o1 8 (bk .geq 3 7 0),o1 4 (sg 8)] 0 none) []
 (.ret (rl 0 4 (rl 5 4 [])))))⟩
def F349 (x0:Nat) (x1:FF) (x2 x3:Nat→CV):Option (Bool) :=
 (ob (F348 u x0 x1 x2 x3) fun x4=>(some (decide (x4≥0))))
theorem e349:evalF (C34 u) u A62 [.v (ro kL n0 f0),.v (.fn 70 2 (listF [(.rp kPq (listF [(.rp kC g0)])),(.rp kM g1)]))]=ob (F349 u n0 f0 g0 g1) fun t=>some [.v (.b t)]:=by
 simp only [F349,ob_bif,ob_ob,ob_none,ob_some]
 kernel_rfl
def O349:Ora:=mkO (qc (av (cL kL)) (q1 (av (cF 70 2 (tc (cR kPq (t1 (cP kC))) (t1 (cP kM))))))) (fun x=>F349 u x.1.1 x.1.2 x.2.1 x.2.2) fun t=>[.v (.b t)]
theorem d349:DO (O349 u) (C34 u) 62 A62:=dO u (fun x=>by exact e349 u x.1.1 x.1.2 x.2.1 x.2.2)
def C35:Oracle:=(C34 u).add 62 (fun l=>isFn 70 l 1) (O349 u)
def A69:AF:=⟨8,[.tmp 4],
 (.seq (.region 0 [o1 3 (bx 0 3 0),o1 4 (sb false)] 1 none) []
 (.seq (.region 1 [o1 5 (lo 30 1),o1 6 (.mkfn 70 [(tm 2),(tm 3)]),o1 7 (cs 62 [5,6] [30,108]),o1 4 (sg 7)] 0 none) []
 (.ret (rl 0 4 [5,6,7]))))⟩
def F350 (x0:Int) (x1 x2:Nat→CV):Option (Bool) :=
 (ob (F349 u (x1 0).len (x1 0).el x2 (listF [(.i .i64 x0)])) fun x3=>(some x3))
theorem e350:evalF (C35 u) u A69 [.v (vi i0),.v (.rp kH g0),.v (.rp kPq (listF [(.rp kC g1)]))]=ob (F350 u i0 g0 g1) fun t=>some [.v (.b t)]:=by
 simp only [F350,ob_bif,ob_ob,ob_none,ob_some]
 kernel_rfl
def O350:Ora:=mkO (qc (av ci) (qc (av (cP kH)) (q1 (av (cR kPq (t1 (cP kC))))))) (fun x=>F350 u x.1 x.2.1 x.2.2) fun t=>[.v (.b t)]
theorem d350:DO (O350 u) (C35 u) 69 A69:=dO u (fun x=>by exact e350 u x.1 x.2.1 x.2.2)
def C36:Oracle:=(C35 u).add 69 (fun _=>true) (O350 u)
def A52v1:AC:=(.region 9 [o1 37 (bk .add 3 18 1),mv 18 37] 0 none)
def A52v2:AC:=(.seq (.block 1
 (.seq (.region 6 [mv 20 18,o1 8 (sg 20)] 0 none) []
  (.seq (.region 7 [o1 21 (lo 67 3),o1 22 (.nilCheck (tm 21)),o1 23 (fa 75 22 2 2),o1 24 (lo 72 23),mv 25 8,o1 26 (.indexAddr 72 71 1 (tm 24) (tm 25)),o1 27 (lo 71 26),mv 28 2,o1 29 (.indexAddr 71 4 1 (tm 27) (tm 28)),o1 30 (lo 4 29),mv 31 30,og 32 (.move (tm 7)) 31 true,og 33 (.move (tm 8)) 31 true,og 34 (.callv (tm 32) [(tm 33)] [3] .snap) 31 true,og 35 (.unOp .not 4 (tm 34)) 31 true,o1 36 (po 31 35)] 0 none) []
  (.cond (tm 36)
  (.seq (.region 8 [o1 6 (sb false)] 0 none) []
   (.ret (rl 0 6 (rl 7 31 []))))
  .skip)))) (6 :: 8 :: (rl 20 17 []))
 A52v1)
def A52v3:AC:=(.seq (.region 5 [o1 19 (bt .lss 3 18 17)] 0 none) []
 (.seq (.cond (tm 19)
 .skip
 (.exit 0 (rl 0 38 []))) []
 A52v2))
def A52v4:AC:=(.seq (.region 10 [o1 6 (sb true)] 0 none) []
 (.ret (rl 0 6 (rl 7 31 []))))
def A52v5:AC:=(.seq (.seq (.region 4 [o1 13 (lo 67 3),o1 14 (.nilCheck (tm 13)),o1 15 (fa 75 14 0 0),o1 16 (lo 29 15),o1 17 (.len 29 false (tm 16)),o1 18 (.move (ic 0))] 0 none) []
 (.block 0
 (.loop [] (0 :: 1 :: 4 :: 5 :: 6 :: (rl 8 9 (rl 19 19 [])))
  A52v3))) (6 :: 8 :: (rl 13 25 []))
 A52v4)
def A52:AF:=⟨38,[.tmp 6],
 (.seq (.region 0 [o1 3 (bx 0 67 0),o1 4 (bx 1 30 1),o1 6 (sb false)] 2 none) []
 (.seq (.region 1 [o1 9 (.mkfn 69 [(tm 4),(tm 3)]),o1 7 (sg 9)] 0 none) []
 (.seq (.seq (.region 2 [mv 10 7,mv 11 2,o1 12 (.callv (tm 10) [(tm 11)] [3] .snap)] 0 none) []
 (.cond (tm 12)
 (.seq (.region 3 [o1 6 (sb false)] 0 none) []
  (.ret (rl 0 6 (rl 7 31 []))))
 .skip)) [6,10,11,12]
 A52v5)))⟩
def N351v1:St→Option St:=nN 2 (0 :: 1 :: 4 :: 5 :: 6 :: (rl 8 9 (rl 19 19 [])))
def s351v0:St:=⟨(.u :: .u :: vxi i0 :: .x (.ptr 0 0) :: (us 3 (.x (.fn 69 [.ptr 1 0,.ptr 0 0]) :: (us 9 (vxi i1 :: vxi i2 :: (us 19 [])))))),[.box [(.c (.rp kC g0))],.box [(.c (ro kL n0 f0))]]⟩
def s351v1:St:=⟨(us 6 (vxb false :: (us 31 []))),[.box [(.c (.rp kC g0))],.box [(.c (ro kL n0 f0))]]⟩
def s351v2:St:=⟨(us 38 []),[.box [(.c (.rp kC g0))],.box [(.c (ro kL n0 f0))]]⟩
def L351v1 {ρ:Type} (u:Nat) (x0 x1:Int) (x2:Nat→CV) (x3:Nat) (x4:FF):Nat→Int→(Option ρ)→(Option ρ)→Option ρ
 | 0,_,_,_=>none
 | m+1,x5,k0,k1 =>
  (bif (decide (x5<x1)) then (bif (inb x5 (x2 2).len) then (bif (inb x0 ((x2 2).el x5.toNat 0).len) then (bif ((CV.bool (((x2 2).el x5.toNat 0).el x0.toNat 0))==true) then (ob (F350 u x5 (listF [(.ro false (.pr .str (.pr .str (.pr (.int .i64) (.pr (.int .i64) .nil)))) x3 x4)]) x2) fun x6=>(bif (!x6) then k0 else (L351v1 u x0 x1 x2 x3 x4 m (w64 (x5+1)) k0 k1))) else (L351v1 u x0 x1 x2 x3 x4 m (w64 (x5+1)) k0 k1)) else none) else none) else k1)
theorem nl351v1:∀ (m:Nat) (x0:Int) (k0:Option ρ) (k1:Option ρ),ob (L351v1 u i0 i1 g0 n0 f0 m x0 k0 k1) ng=L351v1 u i0 i1 g0 n0 f0 m x0 (ob k0 ng) (ob k1 ng)
 | 0,_,_,_=>rfl
 | m+1,x0,k0,k1=>by
  simp only [L351v1,ob_bif,ob_ob,ob_none,nl351v1 m]
theorem q351v1:∀ (m:Nat) (x0:Int),
  loopH (eB A52v3 (C36 u) u) N351v1 m (s351v0 n0 f0 i0 i1 x0 g0) k=L351v1 u i0 i1 g0 n0 f0 m x0 (k .ret (s351v1 n0 f0 g0)) (k (.exit 0) (s351v2 n0 f0 g0))
 | 0,_=>rfl
 | m+1,x0=>by
  simp only [L351v1,← q351v1 m]
  kernel_rfl
def F351 (x0:Nat→CV) (x1:Nat) (x2:FF) (x3:Int):Option (Bool) :=
 (ob (F350 u x3 (listF [(.ro false (.pr .str (.pr .str (.pr (.int .i64) (.pr (.int .i64) .nil)))) x1 x2)]) x0) fun x4=>(bif x4 then (some false) else (L351v1 u x3 (Int.ofNat (x0 0).len) x0 x1 x2 u 0
  (some false)
  (some true))))
def s351v3:St:=⟨(.x (.c (.rp kC g0)) :: .x (.c (ro kL n0 f0)) :: vxi i0 :: .x (.ptr 0 0) :: .x (.ptr 1 0) :: uu :: .u :: .x (.fn 69 [.ptr 1 0,.ptr 0 0]) :: uu :: .x (.fn 69 [.ptr 1 0,.ptr 0 0]) :: (us 3 [.x (.c (.rp kC g0)),.x (.c (.rp kC g0)),.x (.c (.rp kC g0)),.x (.c (ro kE (g0 0).len (g0 0).el)),vxi (Int.ofNat (g0 0).len),vxi 0,uu,uu,uu,uu,uu,uu,uu,uu,uu,uu,uu,uu,uu,uu,uu,uu,uu,uu,uu])),[.box [(.c (.rp kC g0))],.box [(.c (ro kL n0 f0))]]⟩
theorem t351v1 :
  loopN (eB A52v3 (C36 u) u) N351v1 u (s351v3 n0 f0 i0 g0) k =
  L351v1 u i0 (Int.ofNat (g0 0).len) g0 n0 f0 u 0 (k .ret (s351v1 n0 f0 g0)) (k (.exit 0) (s351v2 n0 f0 g0)) :=
 Eq.trans (loopN_at (by kernel_rfl)) (q351v1 ..)
theorem g351v2 :
  (kBlk 0 (kSeq (C36 u) u (6 :: 8 :: (rl 13 25 [])) A52v4 (finish A52))) .ret (s351v1 n0 f0 g0) =
  (some [.v (.b false)]):=by kernel_rfl
theorem g351v3 :
  (kBlk 0 (kSeq (C36 u) u (6 :: 8 :: (rl 13 25 [])) A52v4 (finish A52))) (.exit 0) (s351v2 n0 f0 g0) =
  (some [.v (.b true)]):=by kernel_rfl
theorem e351:evalF (C36 u) u A52 [.v (.rp kC g0),.v (ro kL n0 f0),.v (vi i0)]=ob (F351 u g0 n0 f0 i0) fun t=>some [.v (.b t)]:=Eq.trans (b:=(ob (F350 u i0 (listF [(ro kL n0 f0)]) g0) fun x0=>(bif x0 then (some [.v (.b false)]) else (loopN (eB A52v3 (C36 u) u) N351v1 u (s351v3 n0 f0 i0 g0) (kBlk 0 (kSeq (C36 u) u (6 :: 8 :: (rl 13 25 [])) A52v4 (finish A52))))))) (by kernel_rfl) (by
 simp only [F351,ob_bif,ob_ob,ob_none,ob_some,nl351v1,t351v1,g351v2,g351v3])
def O351:Ora:=mkO (qc (av (cP kC)) (qc (av (cL kL)) (q1 (av ci)))) (fun x=>F351 u x.1 x.2.1.1 x.2.1.2 x.2.2) fun t=>[.v (.b t)]
theorem d351:DO (O351 u) (C36 u) 52 A52:=dO u (fun x=>by exact e351 u x.2.1.1 x.2.1.2 x.2.2 x.1)
def C37:Oracle:=(C36 u).add 52 (fun _=>true) (O351 u)
def A50v1:AC:=(.region 18 [o1 63 (bk .add 3 47 1),mv 47 63] 0 none)
def A50v2:AC:=(.seq (.block 3
 (.seq (.region 15 [o1 49 (.indexAddr 51 9 1 (tm 45) (tm 47)),o1 50 (lo 9 49),o1 11 (sg 50)] 0 none) []
  (.seq (.region 16 [o1 51 (lo 92 6),mv 52 0,o1 53 (.callo 0 51 [(tm 52)] [30] kL),o1 54 (lo 67 5),mv 55 0,mv 56 9,mv 57 11,o1 58 (cs 45 [54,55,56,57] [67,30,3,9]),o1 59 (.buildSlice 1 30 55 kL 1 [vcs ByteArray.empty,vcs ByteArray.empty,vci 0,vci 0] [(0,(tm 58))]),o1 60 (.append 2 30 55 kL 48 (tm 53) (tm 59)),o1 61 (.callL (tm 51) [(tm 60)] [30] [1,2,3,4,5,6] 7),o1 62 (.unOp .not 4 (tm 61))] 3 (some [[],[],[1],[],[],[],[],(rl 1 6 []),(rl 1 7 []),(rl 1 8 []),(rl 0 10 []),(rl 0 11 [])])) []
  (.cond (tm 62)
  (.seq (.region 17 [o1 8 (sb false)] 0 none) []
   (.ghost [8] (.ret (0 :: 7 :: (rl 9 56 [])))))
  .skip)))) (8 :: 11 :: (rl 49 14 []))
 A50v1)
def A50v3:AC:=(.seq (.region 14 [o1 48 (bt .lss 3 47 46)] 0 none) []
 (.seq (.cond (tm 48)
 .skip
 (.exit 2 (rl 7 25 (rl 34 31 [])))) []
 A50v2))
def A50v4:AC:=(.seq (.region 13 [o1 41 (lo 29 3),mv 42 9,o1 43 (.indexAddr 29 53 3 (tm 41) (tm 42)),o1 44 (fa 53 43 2 2),o1 45 (lo 51 44),o1 46 (.len 51 false (tm 45)),o1 47 (.move (ic 0))] 0 none) []
 (.block 2
 (.loop [] (7 :: 8 :: (rl 10 22 (rl 34 11 (rl 48 17 []))))
  A50v3)))
def A50v5:AC:=(.region 19 [o1 64 (bk .add 3 33 1),mv 33 64] 0 none)
def A50v6:AC:=(.seq (.block 1
 (.seq (.region 11 [mv 35 33,o1 9 (sg 35)] 0 none) []
  (.seq (.seq (.region 12 [o1 36 (lo 67 5),mv 37 0,mv 38 9,o1 39 (cs 52 [36,37,38] [67,30,3]),o1 40 (.unOp .not 4 (tm 39))] 0 none) []
  (.cond (tm 40)
  (.exit 1 (rl 7 25 (rl 34 31 [])))
  .skip)) (rl 36 5 [])
  A50v4))) (8 :: 9 :: 11 :: (rl 35 29 []))
 A50v5)
def A50v7:AC:=(.seq (.region 10 [o1 34 (bt .lss 3 33 32)] 0 none) []
 (.seq (.cond (tm 34)
 .skip
 (.exit 0 (0 :: (rl 7 58 [])))) []
 A50v6))
def A50v8:AC:=(.seq (.region 20 [o1 8 (sb true)] 0 none) []
 (.ret (0 :: 7 :: (rl 9 56 []))))
def A50v9:AC:=(.seq (.seq (.region 9 [o1 31 (lo 29 3),o1 32 (.len 29 false (tm 31)),o1 33 (.move (ic 0))] 0 none) []
 (.block 0
 (.loop [] (rl 7 25 (rl 34 31 []))
  A50v7))) (8 :: 9 :: 11 :: (rl 31 34 []))
 A50v8)
def A50v10:AC:=(.seq (.seq (.region 6 [o1 27 (lo 3 4),o1 28 (bk .sub 3 27 1),o0 (.store 3 1 (tm 4) (tm 28))] 0 none) []
 (.seq (.region 7 [o1 29 (lo 3 4),o1 30 (bk .lss 3 29 0)] 0 none) []
 (.cond (tm 30)
 (.seq (.region 8 [o1 8 (sb false)] 0 none) []
  (.ret (0 :: 7 :: (rl 9 56 []))))
 .skip))) (8 :: (rl 27 4 []))
 A50v9)
def A50v11:AC:=(.seq (.seq (.region 3 [mv 20 0,o1 21 (.len 30 false (tm 20)),o1 22 (lo 29 3),o1 23 (.len 29 false (tm 22)),o1 24 (bt .eql 3 21 23)] 0 none) []
 (.cond (tm 24)
 (.seq (.region 4 [mv 25 0,o1 26 (.callo 0 51 [(tm 25)] [30] kL),o0 (.store 30 1 (tm 2) (tm 26)),o0 (.store 4 1 (tm 1) (.const (.bool true)))] 1 none) []
  (.seq (.region 5 [o1 8 (sb true)] 0 none) []
  (.ret (0 :: 7 :: (rl 9 56 [])))))
 .skip)) (8 :: (rl 20 7 []))
 A50v10)
def A50:AF:=⟨65,[.tmp 8],
 (.seq (.region 0 [o1 8 (sb false)] 0 none) []
 (.seq (.seq (.region 1 [o1 12 (lo 4 1),mv 13 12,og 14 (.move (tm 0)) 13 true,og 15 (cs 16 [14] [30]) 13 true,og 16 (lo 30 2) 13 true,og 17 (cs 16 [16] [30]) 13 true,og 18 (bt .geq 3 15 17) 13 true,o1 19 (po 13 18)] 0 (some [[],[0],[0,1],[0,1,2],[0,1],(rl 0 5 []),(rl 0 6 []),(rl 0 7 [])])) []
 (.cond (tm 19)
 (.seq (.region 2 [o1 8 (sb true)] 0 none) []
  (.ret (0 :: 7 :: (rl 9 56 []))))
 .skip)) (8 :: (rl 12 8 []))
 A50v11))⟩
abbrev T352:Type:=(((Nat × FF) × (Unit × (Unit × (Unit × (Unit × (Unit × Unit)))))) × (Unit × ((Nat × FF) × ((Nat→CV) × ((Nat × FF) × (Int × (Bool × Unit)))))))
abbrev OR352 (R:T352→Option (Bool × Nat × FF × Int × Bool)):LOra:=mkL [1,2,3,4,5,6] (jc (gV (cL (.pr .str (.pr .str kP)))) (jc (gP 5 0) (jc (gP 3 0) (jc (gP 1 0) (jc (gP 4 0) (jc (gP 2 0) (j1 (gP 6 0)))))))) (jc gDead (jc (gBox (j1 (gY (cL (.pr .str (.pr (.int .i64) (.pr (.sl (.pr .str .nil)) .nil))))))) (jc (gBox (j1 (gY (cP (.pr (.sl (.pr .str (.pr (.int .i64) (.pr (.sl (.pr .str .nil)) .nil)))) (.pr (.int .i64) (.pr (.sl (.pr (.sl (.pr .bool .nil)) .nil)) (.pr (.sl (.pr (.int .i64) .nil)) .nil)))))))) (jc (gBox (j1 (gY (cL (.pr .str (.pr .str kP)))))) (jc (gBox (j1 (gY ci))) (jc (gBox (j1 (gY cB))) (j1 (gBox (j1 (gF 50 [.ptr 5 0,.ptr 3 0,.ptr 1 0,.ptr 4 0,.ptr 2 0,.ptr 6 0])))))))))) R (fun t=>[.v (.b t.1)]) (fun x t=>[.dead,.box [(.c (.ro false (.pr .str (.pr (.int .i64) (.pr (.sl (.pr .str .nil)) .nil))) x.2.2.1.1 x.2.2.1.2))],.box [(.c (.rp (.pr (.sl (.pr .str (.pr (.int .i64) (.pr (.sl (.pr .str .nil)) .nil)))) (.pr (.int .i64) (.pr (.sl (.pr (.sl (.pr .bool .nil)) .nil)) (.pr (.sl (.pr (.int .i64) .nil)) .nil)))) x.2.2.2.1))],.box [(.c (.ro false (.pr .str (.pr .str kP)) t.2.1 t.2.2.1))],.box [(vci t.2.2.2.1)],.box [(vcb t.2.2.2.2)],.box [(.fn 50 [.ptr 5 0,.ptr 3 0,.ptr 1 0,.ptr 4 0,.ptr 2 0,.ptr 6 0])]])
abbrev CR352 (fuel:Nat) (R:T352→Option (Bool × Nat × FF × Int × Bool)):Oracle:=(C37 fuel).addL 50 (OR352 R)
def N352v2:St→Option St:=nN 7 (7 :: 8 :: (rl 10 22 (rl 34 11 (rl 48 17 []))))
def s352v0:St:=⟨(.x (.c (ro kL n0 f0)) :: .x (.ptr 5 0) :: .x (.ptr 3 0) :: .x (.ptr 1 0) :: .x (.ptr 4 0) :: .x (.ptr 2 0) :: .x (.ptr 6 0) :: .u :: .u :: vxi i0 :: (us 22 (vxi i1 :: vxi i0 :: (us 11 (.x (.c (ro kO n1 f1)) :: vxi i2 :: vxi i3 :: (us 17 [])))))),[.dead,.box [(.c (ro kE n2 f2))],.box [(.c (.rp kC g0))],.box [(.c (ro kL n3 f3))],.box [(vci i4)],.box [(vcb b0)],.box [(.fn 50 [.ptr 5 0,.ptr 3 0,.ptr 1 0,.ptr 4 0,.ptr 2 0,.ptr 6 0])]]⟩
def s352v1:St:=⟨(.u :: .x (.ptr 5 0) :: .x (.ptr 3 0) :: .x (.ptr 1 0) :: .x (.ptr 4 0) :: .x (.ptr 2 0) :: .x (.ptr 6 0) :: .u :: vxb false :: (us 56 [])),[.dead,.box [(.c (ro kE n0 f0))],.box [(.c (.rp kC g0))],.box [(.c (ro kL n1 f1))],.box [(vci i0)],.box [(vcb b0)],.box [(.fn 50 [.ptr 5 0,.ptr 3 0,.ptr 1 0,.ptr 4 0,.ptr 2 0,.ptr 6 0])],.dead,.dead,.rsv]⟩
def s352v2:St:=⟨(.x (.c (ro kL n0 f0)) :: .x (.ptr 5 0) :: .x (.ptr 3 0) :: .x (.ptr 1 0) :: .x (.ptr 4 0) :: .x (.ptr 2 0) :: .x (.ptr 6 0) :: (us 25 (vxi i0 :: vxi i1 :: (us 31 [])))),[.dead,.box [(.c (ro kE n1 f1))],.box [(.c (.rp kC g0))],.box [(.c (ro kL n2 f2))],.box [(vci i2)],.box [(vcb b0)],.box [(.fn 50 [.ptr 5 0,.ptr 3 0,.ptr 1 0,.ptr 4 0,.ptr 2 0,.ptr 6 0])]]⟩
def L352v2 {ρ:Type} (u:Nat) (R:T352→Option (Bool × Nat × FF × Int × Bool)) (x0:Nat) (x1:FF) (x2 x3:Int) (x4:Nat) (x5:FF) (x6:Int) (x7:Nat) (x8:FF) (x9:Nat→CV):Nat→Int→Nat→FF→Int→Bool→(Nat→FF→Int→Bool→Option ρ)→(Nat→FF→Int→Bool→Option ρ)→Option ρ
 | 0,_,_,_,_,_,_,_=>none
 | m+1,xA,xB,xC,xD,xE,k0,k1 =>
  (bif (decide (xA<x6)) then (bif (inb xA x4) then (bif (Nat.ble x0 1073741824) then (ob (F344 u x9 x0 x1 x2 (x5 xA.toNat 0).str) fun xF=>(bif (Nat.ble (x0+1) 1073741824) then (ob (R ((((x0+1),(joinF x0 x1 (rowsF 4 [(.s xF.1),(.s xF.2.1),(.i .i64 xF.2.2.1),(.i .i64 xF.2.2.2)]))),((),((),((),((),((),())))))),((),((x7,x8),(x9,((xB,xC),(xD,(xE,())))))))) fun xG=>(bif (!xG.1) then (k0 xG.2.1 xG.2.2.1 xG.2.2.2.1 xG.2.2.2.2) else (L352v2 u R x0 x1 x2 x3 x4 x5 x6 x7 x8 x9 m (w64 (xA+1)) xG.2.1 xG.2.2.1 xG.2.2.2.1 xG.2.2.2.2 k0 k1))) else none)) else none) else none) else (k1 xB xC xD xE))
theorem nl352v2 (R:T352→Option (Bool × Nat × FF × Int × Bool)):∀ (m:Nat) (x0:Int) (x1:Nat) (x2:FF) (x3:Int) (x4:Bool) (k0:Nat→FF→Int→Bool→Option ρ) (k1:Nat→FF→Int→Bool→Option ρ),ob (L352v2 u R n0 f0 i0 i1 n1 f1 i2 n2 f2 g0 m x0 x1 x2 x3 x4 k0 k1) ng=L352v2 u R n0 f0 i0 i1 n1 f1 i2 n2 f2 g0 m x0 x1 x2 x3 x4 (fun x5 x6 x7 x8=>ob (k0 x5 x6 x7 x8) ng) (fun x9 xA xB xC=>ob (k1 x9 xA xB xC) ng)
 | 0,_,_,_,_,_,_,_=>rfl
 | m+1,x0,x1,x2,x3,x4,k0,k1=>by
  simp only [L352v2,ob_bif,ob_ob,ob_none,nl352v2 R m]
theorem q352v2 (R:T352→Option (Bool × Nat × FF × Int × Bool)):∀ (m:Nat) (x0:Int) (x1:Nat) (x2:FF) (x3:Int) (x4:Bool),
  loopH (eB A50v3 (CR352 u R) u) N352v2 m (s352v0 n0 n1 n2 x1 f0 f1 f2 x2 i0 i1 i2 x0 x3 x4 g0) k=L352v2 u R n0 f0 i0 i1 n1 f1 i2 n2 f2 g0 m x0 x1 x2 x3 x4 (fun x5 x6 x7 x8=>k .ret (s352v1 n2 x5 f2 x6 x7 x8 g0)) (fun x9 xA xB xC=>k (.exit 2) (s352v2 n0 n2 x9 f0 f2 xA i1 i0 xB xC g0))
 | 0,_,_,_,_,_=>rfl
 | m+1,x0,x1,x2,x3,x4=>by
  simp only [L352v2,← q352v2 R m]
  kernel_rfl
def N352v3:St→Option St:=nN 7 (rl 7 25 (rl 34 31 []))
def s352v3:St:=⟨(.x (.c (ro kL n0 f0)) :: .x (.ptr 5 0) :: .x (.ptr 3 0) :: .x (.ptr 1 0) :: .x (.ptr 4 0) :: .x (.ptr 2 0) :: .x (.ptr 6 0) :: (us 25 (vxi i0 :: vxi i1 :: (us 31 [])))),[.dead,.box [(.c (ro kE n1 f1))],.box [(.c (.rp kC g0))],.box [(.c (ro kL n2 f2))],.box [(vci i2)],.box [(vcb b0)],.box [(.fn 50 [.ptr 5 0,.ptr 3 0,.ptr 1 0,.ptr 4 0,.ptr 2 0,.ptr 6 0])]]⟩
def s352v4:St:=⟨(.u :: .x (.ptr 5 0) :: .x (.ptr 3 0) :: .x (.ptr 1 0) :: .x (.ptr 4 0) :: .x (.ptr 2 0) :: .x (.ptr 6 0) :: .u :: vxb false :: (us 56 [])),[.dead,.box [(.c (ro kE n0 f0))],.box [(.c (.rp kC g0))],.box [(.c (ro kL n1 f1))],.box [(vci i0)],.box [(vcb b0)],.box [(.fn 50 [.ptr 5 0,.ptr 3 0,.ptr 1 0,.ptr 4 0,.ptr 2 0,.ptr 6 0])],.dead,.dead,.rsv]⟩
def s352v5:St:=⟨(.u :: .x (.ptr 5 0) :: .x (.ptr 3 0) :: .x (.ptr 1 0) :: .x (.ptr 4 0) :: .x (.ptr 2 0) :: .x (.ptr 6 0) :: (us 58 [])),[.dead,.box [(.c (ro kE n0 f0))],.box [(.c (.rp kC g0))],.box [(.c (ro kL n1 f1))],.box [(vci i0)],.box [(vcb b0)],.box [(.fn 50 [.ptr 5 0,.ptr 3 0,.ptr 1 0,.ptr 4 0,.ptr 2 0,.ptr 6 0])]]⟩
def L352v3 {ρ:Type} (u:Nat) (R:T352→Option (Bool × Nat × FF × Int × Bool)) (x0:Nat) (x1:FF) (x2:Int) (x3:Nat) (x4:FF) (x5:Nat→CV):Nat→Int→Nat→FF→Int→Bool→(Nat→FF→Int→Bool→Option ρ)→(Nat→FF→Int→Bool→Option ρ)→Option ρ
 | 0,_,_,_,_,_,_,_=>none
 | m+1,x6,x7,x8,x9,xA,k0,k1 =>
  (bif (decide (x6<x2)) then (ob (F351 u x5 x0 x1 x6) fun xB=>(bif (!xB) then (L352v3 u R x0 x1 x2 x3 x4 x5 m (w64 (x6+1)) x7 x8 x9 xA k0 k1) else (bif (inb x6 x3) then (L352v2 u R x0 x1 x6 x2 (x4 x6.toNat 2).len (x4 x6.toNat 2).el (Int.ofNat (x4 x6.toNat 2).len) x3 x4 x5 u 0 x7 x8 x9 xA
  (fun xC xD xE xF=>(k0 xC xD xE xF))
  (fun xG xH xI xJ=>(L352v3 u R x0 x1 x2 x3 x4 x5 m (w64 (x6+1)) xG xH xI xJ k0 k1))) else none))) else (k1 x7 x8 x9 xA))
theorem nl352v3 (R:T352→Option (Bool × Nat × FF × Int × Bool)):∀ (m:Nat) (x0:Int) (x1:Nat) (x2:FF) (x3:Int) (x4:Bool) (k0:Nat→FF→Int→Bool→Option ρ) (k1:Nat→FF→Int→Bool→Option ρ),ob (L352v3 u R n0 f0 i0 n1 f1 g0 m x0 x1 x2 x3 x4 k0 k1) ng=L352v3 u R n0 f0 i0 n1 f1 g0 m x0 x1 x2 x3 x4 (fun x5 x6 x7 x8=>ob (k0 x5 x6 x7 x8) ng) (fun x9 xA xB xC=>ob (k1 x9 xA xB xC) ng)
 | 0,_,_,_,_,_,_,_=>rfl
 | m+1,x0,x1,x2,x3,x4,k0,k1=>by
  simp only [L352v3,ob_bif,ob_ob,ob_none,nl352v3 R m,nl352v2]
def s352v6:St:=⟨(.x (.c (ro kL n0 f0)) :: .x (.ptr 5 0) :: .x (.ptr 3 0) :: .x (.ptr 1 0) :: .x (.ptr 4 0) :: .x (.ptr 2 0) :: .x (.ptr 6 0) :: .u :: .u :: vxi i0 :: (us 22 (vxi i1 :: vxi i0 :: vxb true :: vxi i0 :: (us 5 (.x (.c (ro kE n1 f1)) :: vxi i0 :: .x (.c (.rp kE (f1 i0.toNat))) :: .x (.c (.rp kK (fun j=>f1 i0.toNat (2+j)))) :: .x (.c (ro kO (f1 i0.toNat 2).len (f1 i0.toNat 2).el)) :: vxi (Int.ofNat (f1 i0.toNat 2).len) :: vxi 0 :: (us 17 [])))))),[.dead,.box [(.c (ro kE n1 f1))],.box [(.c (.rp kC g0))],.box [(.c (ro kL n2 f2))],.box [(vci i2)],.box [(vcb b0)],.box [(.fn 50 [.ptr 5 0,.ptr 3 0,.ptr 1 0,.ptr 4 0,.ptr 2 0,.ptr 6 0])]]⟩
theorem r352v3 (R:T352→Option (Bool × Nat × FF × Int × Bool)) :
  loopH (eB A50v7 (CR352 u R) u) N352v3 (m+1) (s352v3 n0 n1 n2 f0 f1 f2 i0 i1 i2 b0 g0) k =
  (bif (decide (i1<i0)) then (ob (F351 u g0 n0 f0 i1) fun x0=>(bif (!x0) then (loopH (eB A50v7 (CR352 u R) u) N352v3 m (s352v3 n0 n1 n2 f0 f1 f2 i0 (w64 (i1+1)) i2 b0 g0) k) else (bif (inb i1 n1) then (loopN (eB A50v3 (CR352 u R) u) N352v2 u (s352v6 n0 n1 n2 f0 f1 f2 i1 i0 i2 b0 g0) (kBlk 2 (kBlk 1 (kSeq (CR352 u R) u (8 :: 9 :: 11 :: (rl 35 29 [])) A50v5 (kLoop (eB A50v7 (CR352 u R) u) N352v3 m k))))) else none))) else (k (.exit 0) (s352v5 n1 n2 f1 f2 i2 b0 g0))):=by kernel_rfl
theorem t352v1 (R:T352→Option (Bool × Nat × FF × Int × Bool)) :
  loopN (eB A50v3 (CR352 u R) u) N352v2 u (s352v6 n0 n1 n2 f0 f1 f2 i0 i1 i2 b0 g0) k =
  L352v2 u R n0 f0 i0 i1 (f1 i0.toNat 2).len (f1 i0.toNat 2).el (Int.ofNat (f1 i0.toNat 2).len) n1 f1 g0 u 0 n2 f2 i2 b0 (fun x0 x1 x2 x3=>k .ret (s352v1 n1 x0 f1 x1 x2 x3 g0)) (fun x4 x5 x6 x7=>k (.exit 2) (s352v2 n0 n1 x4 f0 f1 x5 i1 i0 x6 x7 g0)) :=
 Eq.trans (loopN_at (by kernel_rfl)) (q352v2 ..)
theorem g352v2 (R:T352→Option (Bool × Nat × FF × Int × Bool)) :
  (kBlk 2 (kBlk 1 (kSeq (CR352 u R) u (8 :: 9 :: 11 :: (rl 35 29 [])) A50v5 (kLoop (eB A50v7 (CR352 u R) u) N352v3 m k)))) .ret (s352v1 n0 n1 f0 f1 i0 b0 g0) =
  (k .ret (s352v4 n0 n1 f0 f1 i0 b0 g0)):=by kernel_rfl
theorem g352v3 (R:T352→Option (Bool × Nat × FF × Int × Bool)) :
  (kBlk 2 (kBlk 1 (kSeq (CR352 u R) u (8 :: 9 :: 11 :: (rl 35 29 [])) A50v5 (kLoop (eB A50v7 (CR352 u R) u) N352v3 m k)))) (.exit 2) (s352v2 n0 n1 n2 f0 f1 f2 i0 i1 i2 b0 g0) =
  (loopH (eB A50v7 (CR352 u R) u) N352v3 m (s352v3 n0 n1 n2 f0 f1 f2 i0 (w64 (i1+1)) i2 b0 g0) k):=by kernel_rfl
theorem q352v3 (R:T352→Option (Bool × Nat × FF × Int × Bool)):∀ (m:Nat) (x0:Int) (x1:Nat) (x2:FF) (x3:Int) (x4:Bool),
  loopH (eB A50v7 (CR352 u R) u) N352v3 m (s352v3 n0 n1 x1 f0 f1 x2 i0 x0 x3 x4 g0) k=L352v3 u R n0 f0 i0 n1 f1 g0 m x0 x1 x2 x3 x4 (fun x5 x6 x7 x8=>k .ret (s352v4 n1 x5 f1 x6 x7 x8 g0)) (fun x9 xA xB xC=>k (.exit 0) (s352v5 n1 x9 f1 xA xB xC g0))
 | 0,_,_,_,_,_=>rfl
 | m+1,x0,x1,x2,x3,x4=>by
  rw [r352v3]
  simp only [L352v3,q352v3 R m,t352v1,g352v2,g352v3]
def G352 (R:T352→Option (Bool × Nat × FF × Int × Bool)) (x0:Nat) (x1:FF) (x2:Nat) (x3:FF) (x4:Nat→CV) (x5:Nat) (x6:FF) (x7:Int) (x8:Bool):Option (Bool × Nat × FF × Int × Bool) :=
 (bif (x8==true) then (ob (F346 u x0 x1) fun x9=>(ob (F346 u x5 x6) fun xA=>(bif (decide (x9≥xA)) then (some (true,x5,x6,x7,x8)) else (bif ((Int.ofNat x0)==(Int.ofNat x2)) then (bif (Nat.ble x0 1073741824) then (some (true,x0,x1,x7,true)) else none) else (bif (decide ((w64 (x7-1))<0)) then (some (false,x5,x6,(w64 (x7-1)),x8)) else (L352v3 u R x0 x1 (Int.ofNat x2) x2 x3 x4 u 0 x5 x6 (w64 (x7-1)) x8
  (fun xB xC xD xE=>(some (false,xB,xC,xD,xE)))
  (fun xF xG xH xI=>(some (true,xF,xG,xH,xI))))))))) else (bif ((Int.ofNat x0)==(Int.ofNat x2)) then (bif (Nat.ble x0 1073741824) then (some (true,x0,x1,x7,true)) else none) else (bif (decide ((w64 (x7-1))<0)) then (some (false,x5,x6,(w64 (x7-1)),x8)) else (L352v3 u R x0 x1 (Int.ofNat x2) x2 x3 x4 u 0 x5 x6 (w64 (x7-1)) x8
  (fun xJ xK xL xM=>(some (false,xJ,xK,xL,xM)))
  (fun xN xO xP xQ=>(some (true,xN,xO,xP,xQ)))))))
def h352 (x0:Nat) (x1:FF) (x2:Nat→CV) (x3:Nat) (x4:FF) (x5:Int) (x6:Bool):List Blk:=[.dead,.box [(.c (ro kE x0 x1))],.box [(.c (.rp kC x2))],.box [(.c (ro kL x3 x4))],.box [(vci x5)],.box [(vcb x6)],.box [(.fn 50 [.ptr 5 0,.ptr 3 0,.ptr 1 0,.ptr 4 0,.ptr 2 0,.ptr 6 0])]]
def s352v7:St:=⟨(.x (.c (ro kL n0 f0)) :: .x (.ptr 5 0) :: .x (.ptr 3 0) :: .x (.ptr 1 0) :: .x (.ptr 4 0) :: .x (.ptr 2 0) :: .x (.ptr 6 0) :: uu :: .u :: uu :: uu :: uu :: (us 19 [.x (.c (ro kE n1 f1)),vxi (Int.ofNat n1),vxi 0,uu,uu,uu,uu,uu,uu,uu,uu,uu,uu,uu,uu,uu,uu,uu,uu,uu,uu,uu,uu,uu,uu,uu,uu,uu,uu,uu,uu,uu,uu,uu])),[.dead,.box [(.c (ro kE n1 f1))],.box [(.c (.rp kC g0))],.box [(.c (ro kL n2 f2))],.box [(vci (w64 (i0-1)))],.box [(vcb b0)],.box [(.fn 50 [.ptr 5 0,.ptr 3 0,.ptr 1 0,.ptr 4 0,.ptr 2 0,.ptr 6 0])]]⟩
theorem t352v4 (R:T352→Option (Bool × Nat × FF × Int × Bool)) :
  loopN (eB A50v7 (CR352 u R) u) N352v3 u (s352v7 n0 n1 n2 f0 f1 f2 i0 b0 g0) k =
  L352v3 u R n0 f0 (Int.ofNat n1) n1 f1 g0 u 0 n2 f2 (w64 (i0-1)) b0 (fun x0 x1 x2 x3=>k .ret (s352v4 n1 x0 f1 x1 x2 x3 g0)) (fun x4 x5 x6 x7=>k (.exit 0) (s352v5 n1 x4 f1 x5 x6 x7 g0)) :=
 Eq.trans (loopN_at (by kernel_rfl)) (q352v3 ..)
theorem g352v5 (R:T352→Option (Bool × Nat × FF × Int × Bool)) :
  (kBlk 0 (kSeq (CR352 u R) u (8 :: 9 :: 11 :: (rl 31 34 [])) A50v8 (finL A50 [1,2,3,4,5,6] [(1,5),(2,3),(3,1),(4,4),(5,2),(6,6)] (h352 n0 f0 g0 n1 f1 i0 b0) (fun r h=>some (r,h))))) .ret (s352v4 n0 n2 f0 f2 i1 b1 g0) =
  (some ([.v (.b false)],[.dead,.box [(.c (ro kE n0 f0))],.box [(.c (.rp kC g0))],.box [(.c (ro kL n2 f2))],.box [(vci i1)],.box [(vcb b1)],.box [(.fn 50 [.ptr 5 0,.ptr 3 0,.ptr 1 0,.ptr 4 0,.ptr 2 0,.ptr 6 0])]])):=by kernel_rfl
theorem g352v6 (R:T352→Option (Bool × Nat × FF × Int × Bool)) :
  (kBlk 0 (kSeq (CR352 u R) u (8 :: 9 :: 11 :: (rl 31 34 [])) A50v8 (finL A50 [1,2,3,4,5,6] [(1,5),(2,3),(3,1),(4,4),(5,2),(6,6)] (h352 n0 f0 g0 n1 f1 i0 b0) (fun r h=>some (r,h))))) (.exit 0) (s352v5 n0 n2 f0 f2 i1 b1 g0) =
  (some ([.v (.b true)],[.dead,.box [(.c (ro kE n0 f0))],.box [(.c (.rp kC g0))],.box [(.c (ro kL n2 f2))],.box [(vci i1)],.box [(vcb b1)],.box [(.fn 50 [.ptr 5 0,.ptr 3 0,.ptr 1 0,.ptr 4 0,.ptr 2 0,.ptr 6 0])]])):=by kernel_rfl
theorem t352v7 (R:T352→Option (Bool × Nat × FF × Int × Bool)) :
  loopN (eB A50v7 (CR352 u R) u) N352v3 u (s352v7 n0 n1 n2 f0 f1 f2 i0 b0 g0) k =
  L352v3 u R n0 f0 (Int.ofNat n1) n1 f1 g0 u 0 n2 f2 (w64 (i0-1)) b0 (fun x0 x1 x2 x3=>k .ret (s352v4 n1 x0 f1 x1 x2 x3 g0)) (fun x4 x5 x6 x7=>k (.exit 0) (s352v5 n1 x4 f1 x5 x6 x7 g0)) :=
 Eq.trans (loopN_at (by kernel_rfl)) (q352v3 ..)
theorem g352v8 (R:T352→Option (Bool × Nat × FF × Int × Bool)) :
  (kBlk 0 (kSeq (CR352 u R) u (8 :: 9 :: 11 :: (rl 31 34 [])) A50v8 (finL A50 [1,2,3,4,5,6] [(1,5),(2,3),(3,1),(4,4),(5,2),(6,6)] (h352 n0 f0 g0 n1 f1 i0 b0) (fun r h=>some (r,h))))) .ret (s352v4 n0 n2 f0 f2 i1 b1 g0) =
  (some ([.v (.b false)],[.dead,.box [(.c (ro kE n0 f0))],.box [(.c (.rp kC g0))],.box [(.c (ro kL n2 f2))],.box [(vci i1)],.box [(vcb b1)],.box [(.fn 50 [.ptr 5 0,.ptr 3 0,.ptr 1 0,.ptr 4 0,.ptr 2 0,.ptr 6 0])]])):=by kernel_rfl
theorem g352v9 (R:T352→Option (Bool × Nat × FF × Int × Bool)) :
  (kBlk 0 (kSeq (CR352 u R) u (8 :: 9 :: 11 :: (rl 31 34 [])) A50v8 (finL A50 [1,2,3,4,5,6] [(1,5),(2,3),(3,1),(4,4),(5,2),(6,6)] (h352 n0 f0 g0 n1 f1 i0 b0) (fun r h=>some (r,h))))) (.exit 0) (s352v5 n0 n2 f0 f2 i1 b1 g0) =
  (some ([.v (.b true)],[.dead,.box [(.c (ro kE n0 f0))],.box [(.c (.rp kC g0))],.box [(.c (ro kL n2 f2))],.box [(vci i1)],.box [(vcb b1)],.box [(.fn 50 [.ptr 5 0,.ptr 3 0,.ptr 1 0,.ptr 4 0,.ptr 2 0,.ptr 6 0])]])):=by kernel_rfl
theorem e352 (R:T352→Option (Bool × Nat × FF × Int × Bool)):evalS (CR352 u R) u A50 [1,2,3,4,5,6] [(1,5),(2,3),(3,1),(4,4),(5,2),(6,6)] [.x (.c (ro kL n0 f0)),.x (.ptr 5 0),.x (.ptr 3 0),.x (.ptr 1 0),.x (.ptr 4 0),.x (.ptr 2 0),.x (.ptr 6 0)] [.dead,.box [(.c (ro kE n1 f1))],.box [(.c (.rp kC g0))],.box [(.c (ro kL n2 f2))],.box [(vci i0)],.box [(vcb b0)],.box [(.fn 50 [.ptr 5 0,.ptr 3 0,.ptr 1 0,.ptr 4 0,.ptr 2 0,.ptr 6 0])]] (fun r h=>some (r,h))=ob (G352 u R n0 f0 n1 f1 g0 n2 f2 i0 b0) fun t=>some ([.v (.b t.1)],[.dead,.box [(.c (ro kE n1 f1))],.box [(.c (.rp kC g0))],.box [(.c (ro kL t.2.1 t.2.2.1))],.box [(vci t.2.2.2.1)],.box [(vcb t.2.2.2.2)],.box [(.fn 50 [.ptr 5 0,.ptr 3 0,.ptr 1 0,.ptr 4 0,.ptr 2 0,.ptr 6 0])]]):=Eq.trans (b:=(bif (b0==true) then (ob (F346 u n0 f0) fun x0=>(ob (F346 u n2 f2) fun x1=>(bif (decide (x0≥x1)) then (some ([.v (.b true)],[.dead,.box [(.c (ro kE n1 f1))],.box [(.c (.rp kC g0))],.box [(.c (ro kL n2 f2))],.box [(vci i0)],.box [(vcb b0)],.box [(.fn 50 [.ptr 5 0,.ptr 3 0,.ptr 1 0,.ptr 4 0,.ptr 2 0,.ptr 6 0])]])) else (bif ((Int.ofNat n0)==(Int.ofNat n1)) then (bif (Nat.ble n0 1073741824) then (some ([.v (.b true)],[.dead,.box [(.c (ro kE n1 f1))],.box [(.c (.rp kC g0))],.box [(.c (ro kL n0 f0))],.box [(vci i0)],.box [(vcb true)],.box [(.fn 50 [.ptr 5 0,.ptr 3 0,.ptr 1 0,.ptr 4 0,.ptr 2 0,.ptr 6 0])]])) else none) else (bif (decide ((w64 (i0-1))<0)) then (some ([.v (.b false)],[.dead,.box [(.c (ro kE n1 f1))],.box [(.c (.rp kC g0))],.box [(.c (ro kL n2 f2))],.box [(vci (w64 (i0-1)))],.box [(vcb b0)],.box [(.fn 50 [.ptr 5 0,.ptr 3 0,.ptr 1 0,.ptr 4 0,.ptr 2 0,.ptr 6 0])]])) else (loopN (eB A50v7 (CR352 u R) u) N352v3 u (s352v7 n0 n1 n2 f0 f1 f2 i0 b0 g0) (kBlk 0 (kSeq (CR352 u R) u (8 :: 9 :: 11 :: (rl 31 34 [])) A50v8 (finL A50 [1,2,3,4,5,6] [(1,5),(2,3),(3,1),(4,4),(5,2),(6,6)] (h352 n1 f1 g0 n2 f2 i0 b0) (fun r h=>some (r,h))))))))))) else (bif ((Int.ofNat n0)==(Int.ofNat n1)) then (bif (Nat.ble n0 1073741824) then (some ([.v (.b true)],[.dead,.box [(.c (ro kE n1 f1))],.box [(.c (.rp kC g0))],.box [(.c (ro kL n0 f0))],.box [(vci i0)],.box [(vcb true)],.box [(.fn 50 [.ptr 5 0,.ptr 3 0,.ptr 1 0,.ptr 4 0,.ptr 2 0,.ptr 6 0])]])) else none) else (bif (decide ((w64 (i0-1))<0)) then (some ([.v (.b false)],[.dead,.box [(.c (ro kE n1 f1))],.box [(.c (.rp kC g0))],.box [(.c (ro kL n2 f2))],.box [(vci (w64 (i0-1)))],.box [(vcb b0)],.box [(.fn 50 [.ptr 5 0,.ptr 3 0,.ptr 1 0,.ptr 4 0,.ptr 2 0,.ptr 6 0])]])) else (loopN (eB A50v7 (CR352 u R) u) N352v3 u (s352v7 n0 n1 n2 f0 f1 f2 i0 b0 g0) (kBlk 0 (kSeq (CR352 u R) u (8 :: 9 :: 11 :: (rl 31 34 [])) A50v8 (finL A50 [1,2,3,4,5,6] [(1,5),(2,3),(3,1),(4,4),(5,2),(6,6)] (h352 n1 f1 g0 n2 f2 i0 b0) (fun r h=>some (r,h)))))))))) (by kernel_rfl) (by
 simp only [G352,ob_bif,ob_ob,ob_none,ob_some,nl352v3,t352v4,g352v5,g352v6,t352v7,g352v8,g352v9])
def GG352 (R:T352→Option (Bool × Nat × FF × Int × Bool)):T352→Option (Bool × Nat × FF × Int × Bool):=fun x=>G352 u R x.1.1.1 x.1.1.2 x.2.2.1.1 x.2.2.1.2 x.2.2.2.1 x.2.2.2.2.1.1 x.2.2.2.2.1.2 x.2.2.2.2.2.1 x.2.2.2.2.2.2.1
theorem d352 (R:T352→Option (Bool × Nat × FF × Int × Bool)):DL (OR352 (GG352 u R)) (CR352 u R) 50 A50:=dL u (pins:=[(1,5),(2,3),(3,1),(4,4),(5,2),(6,6)]) (by kernel_rfl) (by kernel_rfl) (fun x=>by exact e352 u x.1.1.1 x.2.2.1.1 x.2.2.2.2.1.1 x.1.1.2 x.2.2.1.2 x.2.2.2.2.1.2 x.2.2.2.2.2.1 x.2.2.2.2.2.2.1 x.2.2.2.1 R)
def F352 (x0:Nat) (x1:FF) (x2:Nat) (x3:FF) (x4:Nat→CV) (x5:Nat) (x6:FF) (x7:Int) (x8:Bool):Option (Bool × Nat × FF × Int × Bool):=recF (GG352 u) u (((x0,x1),((),((),((),((),((),())))))),((),((x2,x3),(x4,((x5,x6),(x7,(x8,())))))))
def C38:Oracle:=(C37 u).addL 50 (OR352 (recF (GG352 u) u))
def A23v1:AC:=(.seq (.region 12 [o1 35 (lo 30 11),o1 8 (sg 35),o1 9 (sk 0)] 0 none) []
 (.ghost (rl 0 7 []) (.ret (rl 0 8 (rl 10 26 [])))))
def A23v2:AC:=(.seq (.region 6 [o1 11 (.alloc 0 30 [vcn])] 1 none) []
 (.seq (.region 7 [mv 28 3,o1 29 (.mm false [(tm 28),(ic 100000)] [3,3]),o1 30 (.mm true [(tm 29),(ic 0)] [3,3]),o1 12 (.alloc 0 3 [vci 0]),o1 13 (.alloc 1 4 [vcb false]),o0 (.store 3 1 (tm 12) (tm 30)),o0 (.store 4 1 (tm 13) (.const (.bool false)))] 2 none) []
 (.seq (.region 8 [o1 14 (.alloc 0 92 [.u])] 1 none) []
 (.seq (.region 9 [o1 31 (.mkfn 50 [(tm 13),(tm 11),(tm 5),(tm 12),(tm 10),(tm 14)]),o0 (.store 92 1 (tm 14) (tm 31))] 0 none) []
 (.seq (.seq (.region 10 [o1 32 (lo 92 14),o1 33 (.callL (tm 32) [(.const (.slice none 0 0))] [30] [1,2,3,4,5,6] 7),o1 34 (.unOp .not 4 (tm 33))] 0 none) []
 (.cond (tm 34)
 (.seq (.region 11 [o1 8 (.assign (.const (.slice none 0 0))),o1 9 (sk 29)] 0 none) []
  (.ghost (rl 0 7 []) (.ret (rl 0 8 (rl 10 26 [])))))
 .skip)) [8,9,32,33,34]
 A23v1)))))
def A23v3:AC:=(.seq (.seq (.region 4 [o1 25 (lo 29 5),o1 26 (.len 29 false (tm 25)),o1 27 (bk .gtr 3 26 6)] 0 none) []
 (.cond (tm 27)
 (.seq (.region 5 [o1 8 (.assign (.const (.slice none 0 0))),o1 9 (sk 13)] 0 none) []
  (.ghost [0,1,2] (.ret (rl 0 8 (rl 10 26 [])))))
 .skip)) [8,9,25,26,27]
 A23v2)
def A23:AF:=⟨36,[.tmp 8,.tmp 9],
 (.seq (.region 0 [o1 4 (bx 0 28 0),o1 5 (bx 1 29 1),o1 8 (.assign (.const (.slice none 0 0))),o1 9 (sk 0)] 2 none) []
 (.seq (.region 1 [o1 16 (ln 28 6 4),o1 17 (lo 29 5),mv 18 2,o1 19 (cf 35 [16,17,18] [28,29,3]),mv 15 19,o1 20 (.extract (tm 15) 0),o1 21 (.extract (tm 15) 1),o1 10 (.alloc 0 67 [.u]),o0 (.store 67 1 (tm 10) (tm 20)),o1 9 (sg 21)] 1 none) []
 (.seq (.seq (.region 2 [mv 22 9,o1 23 (bk .neq 35 22 0)] 0 none) []
 (.cond (tm 23)
 (.seq (.region 3 [mv 24 9,o1 8 (.assign (.const (.slice none 0 0))),o1 9 (sg 24)] 0 none) []
  (.ghost [0,1,2] (.ret (rl 0 8 (rl 10 26 [])))))
 .skip)) [8,9,22,23,24]
 A23v3)))⟩
def FT353 (x0:ByteArray) (x1:Nat) (x2:FF) (x3:Nat) (x4:FF) (x5:Nat) (x6:FF) (x7:Nat) (x8:FF) (x9:Nat) (xA:FF) (xB:Nat) (xC:FF) (xD xE:Int):Option (Bool × Nat × FF × Int) :=
 (ob (F340 u x0 x1 x2 x3 x4 x5 x6 x7 x8 x9 xA xB xC xD) fun xF=>(bif xF.1 then (bif ((p8 xF) != 0) then (some (true,0,(fun _ _=>.any),(p8 xF))) else (bif (decide ((Int.ofNat xB)>6)) then (some (true,0,(fun _ _=>.any),13)) else none)) else (bif (decide ((Int.ofNat xB)>6)) then (some (true,0,(fun _ _=>.any),13)) else (ob (F352 u 0 (fun _ _=>.any) xB xC (listF [(.ro false (.pr .str (.pr (.int .i64) (.pr (.sl (.pr .str .nil)) .nil))) xF.2.1 xF.2.2.1),(.i .i64 xF.2.2.2.1),(.ro false (.pr (.sl (.pr .bool .nil)) .nil) xF.2.2.2.2.1 xF.2.2.2.2.2.1),(.ro false (.pr (.int .i64) .nil) xF.2.2.2.2.2.2.1 xF.2.2.2.2.2.2.2.1)]) 0 (fun _ _=>.any) (if 0>(if 100000<xE then 100000 else xE) then 0 else (if 100000<xE then 100000 else xE)) false) fun xG=>(bif (!xG.1) then (some (true,0,(fun _ _=>.any),29)) else (some (false,xG.2.1,xG.2.2.1,0)))))))
theorem e353:evalF (C38 u) u A23 [.agg [(.s w0),(ro kF n0 f0),(ro kB n1 f1),(ro kI n2 f2),(ro kD n3 f3),(ro kG n4 f4)],.v (ro kE n5 f5),.v (vi i0),.v (vi i1)]=ob (FT353 u w0 n0 f0 n1 f1 n2 f2 n3 f3 n4 f4 n5 f5 i0 i1) fun t=>some (bif t.1 then [.v (.ro true .nil 0 nilF),.v (vi t.2.2.2)] else [.v (ro kL t.2.1 t.2.2.1),.v (vi 0)]):=by
 simp only [FT353,ob_bif,ob_ob,ob_none,ob_some,cond_true,cond_false]
 kernel_rfl
def F353 (x0:ByteArray) (x1:Nat) (x2:FF) (x3:Nat) (x4:FF) (x5:Nat) (x6:FF) (x7:Nat) (x8:FF) (x9:Nat) (xA:FF) (xB:Nat) (xC:FF) (xD xE:Int):Option (Nat × FF × Int):=ob (FT353 u x0 x1 x2 x3 x4 x5 x6 x7 x8 x9 xA xB xC xD xE) fun t=>some (bif t.1 then (0,(fun _ _=>.any),t.2.2.2) else (t.2.1,t.2.2.1,0))
def O353:Ora:=mkO (qc (ag (tc cS (tc (cL kF) (tc (cL kB) (tc (cL kI) (tc (cL kD) (t1 (cL kG)))))))) (qc (av (cL kE)) (qc (av ci) (q1 (av ci))))) (fun x=>F353 u x.1.1 x.1.2.1.1 x.1.2.1.2 x.1.2.2.1.1 x.1.2.2.1.2 x.1.2.2.2.1.1 x.1.2.2.2.1.2 x.1.2.2.2.2.1.1 x.1.2.2.2.2.1.2 x.1.2.2.2.2.2.1 x.1.2.2.2.2.2.2 x.2.1.1 x.2.1.2 x.2.2.1 x.2.2.2) fun t=>[.v (ro kL t.1 t.2.1),.v (vi t.2.2)]
theorem d353:DO (O353 u) (C38 u) 23 A23:=dW u (fun x=>by exact e353 u x.1.2.1.1 x.1.2.2.1.1 x.1.2.2.2.1.1 x.1.2.2.2.2.1.1 x.1.2.2.2.2.2.1 x.2.1.1 x.1.2.1.2 x.1.2.2.1.2 x.1.2.2.2.1.2 x.1.2.2.2.2.1.2 x.1.2.2.2.2.2.2 x.2.1.2 x.2.2.1 x.2.2.2 x.1.1) (fun _=>rfl) fun t=>by
 obtain ⟨b,t⟩:=t
 cases b with
 | true=>exact (.cons (WkA.v (Wk.ro (by rfl))) (.cons (WkA.v (Wk.refl _)) .nil))
 | false =>
  exact (.cons (WkA.v (Wk.refl _)) (.cons (WkA.v (Wk.refl _)) .nil))
def C39:Oracle:=(C38 u).add 23 (fun _=>true) (O353 u)
def A20v1:AC:=(.region 12 [o1 63 (bk .add 3 38 1),mv 38 63] 0 none)
def A20v2:AC:=(.seq (.block 3
 (.seq (.region 9 [mv 40 38,o1 12 (sg 40)] 0 none) []
  (.seq (.region 10 [o1 41 (lo 67 8),o1 42 (.nilCheck (tm 41)),o1 43 (fa 75 42 2 2),o1 44 (lo 72 43),mv 45 11,o1 46 (.indexAddr 72 71 1 (tm 44) (tm 45)),o1 47 (lo 71 46),mv 48 12,o1 49 (.indexAddr 71 4 1 (tm 47) (tm 48)),o1 50 (lo 4 49)] 0 none) []
  (.cond (tm 50)
  (.region 11 [o1 51 (lo 73 9),mv 52 11,o1 53 (lo 73 9),mv 54 11,o1 55 (.indexAddr 73 3 1 (tm 53) (tm 54)),o1 56 (lo 3 55),o1 57 (lo 73 9),mv 58 12,o1 59 (.indexAddr 73 3 1 (tm 57) (tm 58)),o1 60 (lo 3 59),o1 61 (.mm true [(tm 56),(tm 60)] [3,3]),o1 62 (.indexAddr 73 3 1 (tm 51) (tm 52)),o0 (.store 3 1 (tm 62) (tm 61))] 0 (some [[],[],[],[],[2,3],[2,3,4],[],[],[6,7],[6,7,8],(rl 2 8 []),(rl 0 11 []),(rl 0 12 [])]))
  .skip)))) (12 :: (rl 40 23 []))
 A20v1)
def A20v3:AC:=(.seq (.region 8 [o1 39 (bt .lss 3 38 37)] 0 none) []
 (.seq (.cond (tm 39)
 .skip
 (.exit 2 (0 :: 1 :: 3 :: 5 :: 6 :: 7 :: 10 :: (rl 12 105 [])))) []
 A20v2))
def A20v4:AC:=(.region 13 [o1 64 (lo 73 9),mv 65 11,o1 66 (.indexAddr 73 3 1 (tm 64) (tm 65)),o1 67 (lo 3 66),o1 68 (lo 29 4),mv 69 11,o1 70 (.indexAddr 29 53 3 (tm 68) (tm 69)),o1 71 (fa 53 70 1 1),o1 72 (lo 3 71),o1 73 (bt .add 3 67 72),o1 74 (.indexAddr 73 3 1 (tm 64) (tm 65)),o0 (.store 3 1 (tm 74) (tm 73))] 0 (some [[],[],[0,1],[0,1,2],[],[],[4,5],[4,5,6],(rl 4 4 []),(rl 0 9 []),(rl 0 10 []),(rl 0 11 [])]))
def A20v5:AC:=(.round [(4,1,0),(8,2,0),(9,4,0)] 32 34 35
 (.seq (.region 6 [o1 11 (sg 35)] 0 none) []
  (.block 1
  (.seq (.seq (.region 7 [o1 36 (lo 29 4),o1 37 (.len 29 false (tm 36)),o1 38 (.move (ic 0))] 0 none) []
   (.block 2
   (.loop [] (0 :: 1 :: 3 :: 5 :: 6 :: 7 :: 10 :: (rl 12 25 (rl 39 78 [])))
    A20v3))) (12 :: (rl 36 28 []))
   A20v4))))
def A20v6:AC:=(.region 23 [o1 115 (bk .add 3 79 1),mv 79 115] 0 none)
def A20v7:AC:=(.seq (.block 5
 (.seq (.region 18 [mv 81 79,o1 82 (.indexAddr 29 53 3 (tm 77) (tm 79)),o1 83 (ln 53 3 82),o1 15 (.alloc 0 53 [vcs ByteArray.empty,vci 0,vcn]),o1 14 (sg 81),o0 (.store 53 3 (tm 15) (tm 83))] 1 none) []
  (.seq (.region 19 [mv 84 6,mv 85 2,o1 86 (lo 73 9),mv 87 14,o1 88 (.indexAddr 73 3 1 (tm 86) (tm 87)),o1 89 (lo 3 88),o1 90 (bt .add 3 85 89),o1 91 (.mm true [(tm 84),(tm 90)] [3,3]),o1 6 (sg 91)] 0 none) []
  (.seq (.region 20 [o1 92 (fa 53 15 2 2),o1 93 (lo 51 92),o1 94 (.len 51 false (tm 93)),o1 95 (bk .eql 3 94 1)] 0 none) []
  (.cond (tm 95)
  (.seq (.region 21 [mv 96 13,o1 97 (fa 53 15 2 2),o1 98 (lo 51 97),o1 99 (.indexAddr 51 9 1 (tm 98) (ic 0)),o1 100 (lo 9 99),o1 101 (.lookupI 90 (tm 96) (tm 100)),o1 102 (fa 53 15 1 1),o1 103 (lo 3 102),o1 104 (bt .add 3 101 103),o0 (.mapPut 90 (tm 96) (tm 100) (tm 104))] 0 (some [[],[],[1],[1,2],[1,2,3],(rl 0 5 []),[],[6],(rl 0 8 []),(rl 0 9 [])])) []
   (.region 22 [mv 105 6,mv 106 2,mv 107 13,o1 108 (fa 53 15 2 2),o1 109 (lo 51 108),o1 110 (.indexAddr 51 9 1 (tm 109) (ic 0)),o1 111 (lo 9 110),o1 112 (.lookupI 90 (tm 107) (tm 111)),o1 113 (bt .add 3 106 112),o1 114 (.mm true [(tm 105),(tm 113)] [3,3]),o1 6 (sg 114)] 0 none))
  .skip))))) (14 :: 15 :: (rl 81 34 []))
 A20v6)
def A20v8:AC:=(.seq (.region 17 [o1 80 (bt .lss 3 79 78)] 0 none) []
 (.seq (.cond (tm 80)
 .skip
 (.exit 4 (rl 0 6 (rl 7 110 [])))) []
 A20v7))
def A20v9:AC:=(.seq (.region 24 [mv 116 6,o1 6 (sg 116),o1 7 (sk 0)] 0 none) []
 (.ret (rl 0 6 (rl 8 109 []))))
def A20v10:AC:=(.seq (.region 14 [mv 75 2,o1 6 (sg 75)] 0 none) []
 (.seq (.region 15 [o1 76 (.makeMap 0 90 true),o1 13 (sg 76)] 1 none) []
 (.seq (.seq (.region 16 [o1 77 (lo 29 4),o1 78 (.len 29 false (tm 77)),o1 79 (.move (ic 0))] 0 none) []
 (.block 4
 (.loop [] (0 :: 1 :: 3 :: 4 :: 5 :: 7 :: 8 :: 10 :: 11 :: 12 :: (rl 14 63 (rl 80 37 [])))
  A20v8))) (14 :: 15 :: (rl 77 39 []))
 A20v9)))
def A20v11:AC:=(.seq (.region 4 [o1 26 (lo 29 4),o1 27 (.len 29 false (tm 26)),o1 28 (.makeSlice 0 73 3 kM 8 [(vi 0)] (tm 27) (tm 27)),o1 9 (.alloc 1 73 [vcn]),o0 (.store 73 1 (tm 9) (tm 28))] 2 none) []
 (.seq (.back [o1 29 (lo 67 8),o1 30 (.nilCheck (tm 29)),o1 31 (fa 75 30 3 3),o1 32 (lo 73 31)] [2] (rl 0 4 (5 :: 6 :: 7 :: (rl 10 22 (rl 33 84 [])))) 32 33 34 48 73
 (.loop [] (rl 0 4 (5 :: 6 :: 7 :: (rl 10 22 (33 :: (rl 35 82 [])))))
  A20v5)) (11 :: 12 :: (rl 29 5 (rl 36 39 [])))
 A20v10))
def A20:AF:=⟨117,[.tmp 6,.tmp 7],
 (.seq (.region 0 [o1 3 (bx 0 28 0),o1 4 (bx 1 29 1),o1 6 (sk 0),o1 7 (sk 0)] 2 none) []
 (.seq (.region 1 [o1 17 (ln 28 6 3),o1 18 (lo 29 4),mv 19 2,o1 20 (cf 35 [17,18,19] [28,29,3]),mv 16 20,o1 21 (.extract (tm 16) 0),o1 22 (.extract (tm 16) 1),o1 8 (.alloc 0 67 [.u]),o0 (.store 67 1 (tm 8) (tm 21)),o1 7 (sg 22)] 1 none) []
 (.seq (.seq (.region 2 [mv 23 7,o1 24 (bk .neq 35 23 0)] 0 none) []
 (.cond (tm 24)
 (.seq (.region 3 [mv 25 7,o1 6 (sk 0),o1 7 (sg 25)] 0 none) []
  (.ret (rl 0 6 (rl 8 109 []))))
 .skip)) [6,7,23,24,25]
 A20v11)))⟩
def N354v1:St→Option St:=nN 5 (0 :: 1 :: 3 :: 5 :: 6 :: 7 :: 10 :: (rl 12 25 (rl 39 78 [])))
def s354v0:St:=⟨(us 4 (.x (.ptr 1 0) :: (us 3 (.x (.ptr 2 0) :: .x (.ptr 4 0) :: .u :: vxi i0 :: (us 25 (vxi i1 :: vxi i2 :: (us 78 []))))))),[.box [(vcs w0),(.c (ro kF n0 f0)),(.c (ro kB n1 f1)),(.c (ro kI n2 f2)),(.c (ro kD n3 f3)),(.c (ro kG n4 f4))],.box [(.c (ro kE n5 f5))],.box [(.c (.rp kC (listF [(ro kE n6 f6),(vi i3),(ro kJ n7 f7),(ro kM n8 f8)])))],.arr kM n9 f9,.box [(.own 3 0 n9)]]⟩
def s354v1:St:=⟨(us 4 (.x (.ptr 1 0) :: (us 3 (.x (.ptr 2 0) :: .x (.ptr 4 0) :: .u :: vxi i0 :: (us 105 []))))),[.box [(vcs w0),(.c (ro kF n0 f0)),(.c (ro kB n1 f1)),(.c (ro kI n2 f2)),(.c (ro kD n3 f3)),(.c (ro kG n4 f4))],.box [(.c (ro kE n5 f5))],.box [(.c (.rp kC (listF [(ro kE n6 f6),(vi i1),(ro kJ n7 f7),(ro kM n8 f8)])))],.arr kM n9 f9,.box [(.own 3 0 n9)]]⟩
def L354v1 {ρ:Type} (u:Nat) (x0 x1:Int) (x2:ByteArray) (x3:Nat) (x4:FF) (x5:Nat) (x6:FF) (x7:Nat) (x8:FF) (x9:Nat) (xA:FF) (xB:Nat) (xC:FF) (xD:Nat) (xE:FF) (xF:Nat) (xG:FF) (xH:Int) (xI:Nat) (xJ:FF) (xK:Nat) (xL:FF) (xM:Nat):Nat→Int→FF→(FF→Option ρ)→Option ρ
 | 0,_,_,_=>none
 | m+1,xN,xO,k0 =>
  (bif (decide (xN<x1)) then (bif (inb x0 xI) then (bif (inb xN (xJ x0.toNat 0).len) then (bif ((xJ x0.toNat 0).el xN.toNat 0).bool then (bif (inb x0 xM) then (bif (inb xN xM) then (bif (inb x0 xM) then (L354v1 u x0 x1 x2 x3 x4 x5 x6 x7 x8 x9 xA xB xC xD xE xF xG xH xI xJ xK xL xM m (w64 (xN+1)) (setF xO (0+x0.toNat) 0 1 (listF [(.i .i64 (if (xO (0+xN.toNat) 0).int>(xO (0+x0.toNat) 0).int then (xO (0+xN.toNat) 0).int else (xO (0+x0.toNat) 0).int))])) k0) else none) else none) else none) else (L354v1 u x0 x1 x2 x3 x4 x5 x6 x7 x8 x9 xA xB xC xD xE xF xG xH xI xJ xK xL xM m (w64 (xN+1)) xO k0)) else none) else none) else (k0 xO))
theorem nl354v1:∀ (m:Nat) (x0:Int) (x1:FF) (k0:FF→Option ρ),ob (L354v1 u i0 i1 w0 n0 f0 n1 f1 n2 f2 n3 f3 n4 f4 n5 f5 n6 f6 i2 n7 f7 n8 f8 n9 m x0 x1 k0) ng=L354v1 u i0 i1 w0 n0 f0 n1 f1 n2 f2 n3 f3 n4 f4 n5 f5 n6 f6 i2 n7 f7 n8 f8 n9 m x0 x1 (fun x2=>ob (k0 x2) ng)
 | 0,_,_,_=>rfl
 | m+1,x0,x1,k0=>by
  simp only [L354v1,ob_bif,ob_ob,ob_none,nl354v1 m]
theorem q354v1:∀ (m:Nat) (x0:Int) (x1:FF),
  loopH (eB A20v3 (C39 u) u) N354v1 m (s354v0 n0 n1 n2 n3 n4 n5 n6 n7 n8 n9 f0 f1 f2 f3 f4 f5 f6 f7 f8 x1 i0 i1 x0 i2 w0) k=L354v1 u i0 i1 w0 n0 f0 n1 f1 n2 f2 n3 f3 n4 f4 n5 f5 n6 f6 i2 n7 f7 n8 f8 n9 m x0 x1 (fun x2=>k (.exit 2) (s354v1 n0 n1 n2 n3 n4 n5 n6 n7 n8 n9 f0 f1 f2 f3 f4 f5 f6 f7 f8 x2 i0 i2 w0))
 | 0,_,_=>rfl
 | m+1,x0,x1=>by
  simp only [L354v1,← q354v1 m]
  kernel_rfl
def N354v2:St→Option St:=nN 5 (rl 0 4 (5 :: 6 :: 7 :: (rl 10 22 (33 :: (rl 35 82 [])))))
def s354v2:St:=⟨(us 4 (.x (.ptr 1 0) :: (us 3 (.x (.ptr 2 0) :: .x (.ptr 4 0) :: (us 22 (.x (.c (ro kM n0 f0)) :: .u :: vxi i0 :: (us 82 []))))))),[.box [(vcs w0),(.c (ro kF n1 f1)),(.c (ro kB n2 f2)),(.c (ro kI n3 f3)),(.c (ro kD n4 f4)),(.c (ro kG n5 f5))],.box [(.c (ro kE n6 f6))],.box [(.c (.rp kC (listF [(ro kE n7 f7),(vi i1),(ro kJ n8 f8),(ro kM n0 f0)])))],.arr kM n9 f9,.box [(.own 3 0 n9)]]⟩
def s354v3:St:=⟨(us 4 (.x (.ptr 1 0) :: (us 3 (.x (.ptr 2 0) :: .x (.ptr 4 0) :: (us 22 (.x (.c (ro kM n0 f0)) :: .u :: vxi i0 :: (us 82 []))))))),[.box [(vcs w0),(.c (ro kF n1 f1)),(.c (ro kB n2 f2)),(.c (ro kI n3 f3)),(.c (ro kD n4 f4)),(.c (ro kG n5 f5))],.box [(.c (ro kE n6 f6))],.box [(.c (.rp kC (listF [(ro kE n7 f7),(vi i1),(ro kJ n8 f8),(ro kM n0 f0)])))],.arr kM n9 f9,.box [(.own 3 0 n9)]]⟩
def L354v2 {ρ:Type} (u:Nat) (x0:Nat) (x1:FF) (x2:ByteArray) (x3:Nat) (x4:FF) (x5:Nat) (x6:FF) (x7:Nat) (x8:FF) (x9:Nat) (xA:FF) (xB:Nat) (xC:FF) (xD:Nat) (xE:FF) (xF:Nat) (xG:FF) (xH:Int) (xI:Nat) (xJ:FF) (xK:Nat):Nat→Int→FF→(Int→FF→Option ρ)→Option ρ
 | 0,_,_,_=>none
 | m+1,xL,xM,k0 =>
  (bif (decide (0<xL)) then (L354v1 u (CV.int (x1 (Int.toNat (xL-1)) 0)) (Int.ofNat xD) x2 x3 x4 x5 x6 x7 x8 x9 xA xB xC xD xE xF xG xH xI xJ x0 x1 xK u 0 xM
  (fun xN=>(bif (inb (CV.int (x1 (Int.toNat (xL-1)) 0)) xK) then (bif (inb (CV.int (x1 (Int.toNat (xL-1)) 0)) xD) then (bif (inb (CV.int (x1 (Int.toNat (xL-1)) 0)) xK) then (L354v2 u x0 x1 x2 x3 x4 x5 x6 x7 x8 x9 xA xB xC xD xE xF xG xH xI xJ xK m (xL-1) (setF xN (0+(Int.toNat (CV.int (x1 (Int.toNat (xL-1)) 0)))) 0 1 (listF [(.i .i64 (w64 ((CV.int (xN (0+(Int.toNat (CV.int (x1 (Int.toNat (xL-1)) 0)))) 0))+(CV.int (xE (Int.toNat (CV.int (x1 (Int.toNat (xL-1)) 0))) 1)))))])) k0) else none) else none) else none))) else (k0 xL xM))
theorem nl354v2:∀ (m:Nat) (x0:Int) (x1:FF) (k0:Int→FF→Option ρ),ob (L354v2 u n0 f0 w0 n1 f1 n2 f2 n3 f3 n4 f4 n5 f5 n6 f6 n7 f7 i0 n8 f8 n9 m x0 x1 k0) ng=L354v2 u n0 f0 w0 n1 f1 n2 f2 n3 f3 n4 f4 n5 f5 n6 f6 n7 f7 i0 n8 f8 n9 m x0 x1 (fun x2 x3=>ob (k0 x2 x3) ng)
 | 0,_,_,_=>rfl
 | m+1,x0,x1,k0=>by
  simp only [L354v2,ob_bif,ob_ob,ob_none,nl354v2 m,nl354v1]
def s354v4:St:=⟨(us 4 (.x (.ptr 1 0) :: (us 3 (.x (.ptr 2 0) :: .x (.ptr 4 0) :: .u :: vxi (CV.int (f0 (Int.toNat (i0-1)) 0)) :: (us 20 (.x (.c (ro kM n0 f0)) :: .u :: vxi (i0-1) :: vxi (CV.int (f0 (Int.toNat (i0-1)) 0)) :: .x (.c (ro kE n1 f1)) :: vxi (Int.ofNat n1) :: vxi 0 :: (us 78 []))))))),[.box [(vcs w0),(.c (ro kF n2 f2)),(.c (ro kB n3 f3)),(.c (ro kI n4 f4)),(.c (ro kD n5 f5)),(.c (ro kG n6 f6))],.box [(.c (ro kE n1 f1))],.box [(.c (.rp kC (listF [(ro kE n7 f7),(vi i1),(ro kJ n8 f8),(ro kM n0 f0)])))],.arr kM n9 f9,.box [(.own 3 0 n9)]]⟩
theorem r354v2 :
  loopH (eB A20v5 (C39 u) u) N354v2 (m+1) (s354v2 n0 n1 n2 n3 n4 n5 n6 n7 n8 n9 f0 f1 f2 f3 f4 f5 f6 f7 f8 f9 i1 i0 w0) k =
  (bif (decide (0<i1)) then (loopN (eB A20v3 (C39 u) u) N354v1 u (s354v4 n0 n6 n1 n2 n3 n4 n5 n7 n8 n9 f0 f6 f1 f2 f3 f4 f5 f7 f8 f9 i1 i0 w0) (kBlk 2 (kSeq (C39 u) u (12 :: (rl 36 28 [])) A20v4 (kBlk 1 (kRnd 117 32 34 (.x (.c (ro kM n0 f0))) (vxi (i1-1)) (kLoop (eB A20v5 (C39 u) u) N354v2 m k)))))) else (k (.exit 999999) (s354v3 n0 n1 n2 n3 n4 n5 n6 n7 n8 n9 f0 f1 f2 f3 f4 f5 f6 f7 f8 f9 i1 i0 w0))):=by kernel_rfl
theorem t354v1 :
  loopN (eB A20v3 (C39 u) u) N354v1 u (s354v4 n0 n1 n2 n3 n4 n5 n6 n7 n8 n9 f0 f1 f2 f3 f4 f5 f6 f7 f8 f9 i0 i1 w0) k =
  L354v1 u (CV.int (f0 (Int.toNat (i0-1)) 0)) (Int.ofNat n1) w0 n2 f2 n3 f3 n4 f4 n5 f5 n6 f6 n1 f1 n7 f7 i1 n8 f8 n0 f0 n9 u 0 f9 (fun x0=>k (.exit 2) (s354v1 n2 n3 n4 n5 n6 n1 n7 n8 n0 n9 f2 f3 f4 f5 f6 f1 f7 f8 f0 x0 (CV.int (f0 (Int.toNat (i0-1)) 0)) i1 w0)) :=
 Eq.trans (loopN_at (by kernel_rfl)) (q354v1 ..)
theorem g354v2 :
  (kBlk 2 (kSeq (C39 u) u (12 :: (rl 36 28 [])) A20v4 (kBlk 1 (kRnd 117 32 34 (.x (.c (ro kM n0 f0))) (vxi (i0-1)) (kLoop (eB A20v5 (C39 u) u) N354v2 m k))))) (.exit 2) (s354v1 n1 n2 n3 n4 n5 n6 n7 n8 n0 n9 f1 f2 f3 f4 f5 f6 f7 f8 f0 f9 (CV.int (f0 (Int.toNat (i0-1)) 0)) i1 w0) =
  (bif (inb (CV.int (f0 (Int.toNat (i0-1)) 0)) n9) then (bif (inb (CV.int (f0 (Int.toNat (i0-1)) 0)) n6) then (bif (inb (CV.int (f0 (Int.toNat (i0-1)) 0)) n9) then (loopH (eB A20v5 (C39 u) u) N354v2 m (s354v2 n0 n1 n2 n3 n4 n5 n6 n7 n8 n9 f0 f1 f2 f3 f4 f5 f6 f7 f8 (setF f9 (0+(Int.toNat (CV.int (f0 (Int.toNat (i0-1)) 0)))) 0 1 (listF [(vi (w64 ((CV.int (f9 (0+(Int.toNat (CV.int (f0 (Int.toNat (i0-1)) 0)))) 0))+(CV.int (f6 (Int.toNat (CV.int (f0 (Int.toNat (i0-1)) 0))) 1)))))])) (i0-1) i1 w0) k) else none) else none) else none):=by kernel_rfl
theorem q354v2:∀ (m:Nat) (x0:Int) (x1:FF),
  loopH (eB A20v5 (C39 u) u) N354v2 m (s354v2 n0 n1 n2 n3 n4 n5 n6 n7 n8 n9 f0 f1 f2 f3 f4 f5 f6 f7 f8 x1 x0 i0 w0) k=L354v2 u n0 f0 w0 n1 f1 n2 f2 n3 f3 n4 f4 n5 f5 n6 f6 n7 f7 i0 n8 f8 n9 m x0 x1 (fun x2 x3=>k (.exit 999999) (s354v3 n0 n1 n2 n3 n4 n5 n6 n7 n8 n9 f0 f1 f2 f3 f4 f5 f6 f7 f8 x3 x2 i0 w0))
 | 0,_,_=>rfl
 | m+1,x0,x1=>by
  rw [r354v2]
  simp only [L354v2,q354v2 m,t354v1,g354v2]
def N354v3:St→Option St:=nN 6 (0 :: 1 :: 3 :: 4 :: 5 :: 7 :: 8 :: 10 :: 11 :: 12 :: (rl 14 63 (rl 80 37 [])))
def s354v5:St:=⟨(.u :: .u :: vxi i0 :: (us 3 (vxi i1 :: .u :: .u :: .x (.ptr 4 0) :: (us 3 (.x (.own 5 0 0) :: (us 63 (.x (.c (ro kE n0 f0)) :: vxi i2 :: vxi i3 :: (us 37 [])))))))),[.box [(vcs w0),(.c (ro kF n1 f1)),(.c (ro kB n2 f2)),(.c (ro kI n3 f3)),(.c (ro kD n4 f4)),(.c (ro kG n5 f5))],.box [(.c (ro kE n0 f0))],.box [(.c (.rp kC (listF [(ro kE n6 f6),(vi i4),(ro kJ n7 f7),(ro kM n8 f8)])))],.arr kM n9 f9,.box [(.own 3 0 n9)],.set true nA fA]⟩
def s354v6:St:=⟨(us 6 (vxi i0 :: (us 110 []))),[.box [(vcs w0),(.c (ro kF n0 f0)),(.c (ro kB n1 f1)),(.c (ro kI n2 f2)),(.c (ro kD n3 f3)),(.c (ro kG n4 f4))],.box [(.c (ro kE n5 f5))],.box [(.c (.rp kC (listF [(ro kE n6 f6),(vi i1),(ro kJ n7 f7),(ro kM n8 f8)])))],.arr kM n9 f9,.box [(.own 3 0 n9)],.set true nA fA]⟩
def L354v3 {ρ:Type} (u:Nat) (x0:Int) (x1:Nat) (x2:FF) (x3:Int) (x4:ByteArray) (x5:Nat) (x6:FF) (x7:Nat) (x8:FF) (x9:Nat) (xA:FF) (xB:Nat) (xC:FF) (xD:Nat) (xE:FF) (xF:Nat) (xG:FF) (xH:Int) (xI:Nat) (xJ:FF) (xK:Nat) (xL:FF) (xM:Nat) (xN:FF):Nat→Int→Int→Nat→FF→(Int→Nat→FF→Option ρ)→Option ρ
 | 0,_,_,_,_,_=>none
 | m+1,xO,xP,xQ,xR,k0 =>
  (bif (decide (xP<x3)) then (bif (inb xP x1) then (bif (inb xP xM) then (bif ((Int.ofNat (x2 xP.toNat 2).len)==1) then (bif (inb 0 (x2 xP.toNat 2).len) then (bif (inb 0 (x2 xP.toNat 2).len) then (L354v3 u x0 x1 x2 x3 x4 x5 x6 x7 x8 x9 xA xB xC xD xE xF xG xH xI xJ xK xL xM xN m (if (w64 (x0+(mapG (mapN xQ xR ((x2 xP.toNat 2).el 0 0).str) (mapR xQ xR ((x2 xP.toNat 2).el 0 0).str (w64 ((mapG xQ xR ((x2 xP.toNat 2).el 0 0).str)+(x2 xP.toNat 1).int))) ((x2 xP.toNat 2).el 0 0).str)))>(if (w64 (x0+(xN (0+xP.toNat) 0).int))>xO then (w64 (x0+(xN (0+xP.toNat) 0).int)) else xO) then (w64 (x0+(mapG (mapN xQ xR ((x2 xP.toNat 2).el 0 0).str) (mapR xQ xR ((x2 xP.toNat 2).el 0 0).str (w64 ((mapG xQ xR ((x2 xP.toNat 2).el 0 0).str)+(x2 xP.toNat 1).int))) ((x2 xP.toNat 2).el 0 0).str))) else (if (w64 (x0+(xN (0+xP.toNat) 0).int))>xO then (w64 (x0+(xN (0+xP.toNat) 0).int)) else xO)) (w64 (xP+1)) (mapN xQ xR ((x2 xP.toNat 2).el 0 0).str) (mapR xQ xR ((x2 xP.toNat 2).el 0 0).str (w64 ((mapG xQ xR ((x2 xP.toNat 2).el 0 0).str)+(x2 xP.toNat 1).int))) k0) else none) else none) else (L354v3 u x0 x1 x2 x3 x4 x5 x6 x7 x8 x9 xA xB xC xD xE xF xG xH xI xJ xK xL xM xN m (if (w64 (x0+(xN (0+xP.toNat) 0).int))>xO then (w64 (x0+(xN (0+xP.toNat) 0).int)) else xO) (w64 (xP+1)) xQ xR k0)) else none) else none) else (k0 xO xQ xR))
theorem nl354v3:∀ (m:Nat) (x0 x1:Int) (x2:Nat) (x3:FF) (k0:Int→Nat→FF→Option ρ),ob (L354v3 u i0 n0 f0 i1 w0 n1 f1 n2 f2 n3 f3 n4 f4 n5 f5 n6 f6 i2 n7 f7 n8 f8 n9 f9 m x0 x1 x2 x3 k0) ng=L354v3 u i0 n0 f0 i1 w0 n1 f1 n2 f2 n3 f3 n4 f4 n5 f5 n6 f6 i2 n7 f7 n8 f8 n9 f9 m x0 x1 x2 x3 (fun x4 x5 x6=>ob (k0 x4 x5 x6) ng)
 | 0,_,_,_,_,_=>rfl
 | m+1,x0,x1,x2,x3,k0=>by
  simp only [L354v3,ob_bif,ob_ob,ob_none,nl354v3 m]
theorem q354v3:∀ (m:Nat) (x0 x1:Int) (x2:Nat) (x3:FF),
  loopH (eB A20v8 (C39 u) u) N354v3 m (s354v5 n0 n1 n2 n3 n4 n5 n6 n7 n8 n9 x2 f0 f1 f2 f3 f4 f5 f6 f7 f8 f9 x3 i0 x0 i1 x1 i2 w0) k=L354v3 u i0 n0 f0 i1 w0 n1 f1 n2 f2 n3 f3 n4 f4 n5 f5 n6 f6 i2 n7 f7 n8 f8 n9 f9 m x0 x1 x2 x3 (fun x4 x5 x6=>k (.exit 4) (s354v6 n1 n2 n3 n4 n5 n0 n6 n7 n8 n9 x5 f1 f2 f3 f4 f5 f0 f6 f7 f8 f9 x6 x4 i2 w0))
 | 0,_,_,_,_=>rfl
 | m+1,x0,x1,x2,x3=>by
  simp only [L354v3,← q354v3 m]
  kernel_rfl
def F354 (x0:ByteArray) (x1:Nat) (x2:FF) (x3:Nat) (x4:FF) (x5:Nat) (x6:FF) (x7:Nat) (x8:FF) (x9:Nat) (xA:FF) (xB:Nat) (xC:FF) (xD:Int):Option (Int × Int) :=
 (ob (F340 u x0 x1 x2 x3 x4 x5 x6 x7 x8 x9 xA xB xC xD) fun xE=>(bif xE.1 then (bif ((p8 xE) != 0) then (some (0,(p8 xE))) else (bif (decide (0≤(Int.ofNat xB))&&decide ((Int.ofNat xB)≤(Int.ofNat xB))&&decide ((Int.ofNat xB)≤1073741824)&&true) then none else none)) else (bif (decide (0≤(Int.ofNat xB))&&decide ((Int.ofNat xB)≤(Int.ofNat xB))&&decide ((Int.ofNat xB)≤1073741824)&&true) then (L354v2 u xE.2.2.2.2.2.2.1 xE.2.2.2.2.2.2.2.1 x0 x1 x2 x3 x4 x5 x6 x7 x8 x9 xA xB xC xE.2.1 xE.2.2.1 xE.2.2.2.1 xE.2.2.2.2.1 xE.2.2.2.2.2.1 (Int.toNat (Int.ofNat xB)) u (Int.ofNat xE.2.2.2.2.2.2.1) (fun _ j=>listF [(.i .i64 0)] j)
  (fun xF xG=>(L354v3 u xD xB xC (Int.ofNat xB) x0 x1 x2 x3 x4 x5 x6 x7 x8 x9 xA xE.2.1 xE.2.2.1 xE.2.2.2.1 xE.2.2.2.2.1 xE.2.2.2.2.2.1 xE.2.2.2.2.2.2.1 xE.2.2.2.2.2.2.2.1 (Int.toNat (Int.ofNat xB)) xG u xD 0 0 (fun _ _=>.any)
  (fun xH xI xJ=>(some (xH,0)))))) else none)))
def s354v7 (x0:Bool × Nat × FF × Int × Nat × FF × Nat × FF × Int):St:=⟨(us 4 (.x (.ptr 1 0) :: (us 3 (.x (.ptr 2 0) :: .x (.ptr 4 0) :: (us 22 (.x (.c (ro kM x0.2.2.2.2.2.2.1 x0.2.2.2.2.2.2.2.1)) :: .u :: vxi (Int.ofNat x0.2.2.2.2.2.2.1) :: (us 82 []))))))),[.box [(vcs w0),(.c (ro kF n0 f0)),(.c (ro kB n1 f1)),(.c (ro kI n2 f2)),(.c (ro kD n3 f3)),(.c (ro kG n4 f4))],.box [(.c (ro kE n5 f5))],.box [(.c (.rp kC (listF [(ro kE x0.2.1 x0.2.2.1),(vi x0.2.2.2.1),(ro kJ x0.2.2.2.2.1 x0.2.2.2.2.2.1),(ro kM x0.2.2.2.2.2.2.1 x0.2.2.2.2.2.2.2.1)])))],.arr kM (Int.toNat (Int.ofNat n5)) (fun _ j=>listF [(vi 0)] j),.box [(.own 3 0 (Int.toNat (Int.ofNat n5)))]]⟩
theorem t354v3 (x0:Bool × Nat × FF × Int × Nat × FF × Nat × FF × Int) :
  loopN (eB A20v5 (C39 u) u) N354v2 u (s354v7 n0 n1 n2 n3 n4 n5 f0 f1 f2 f3 f4 f5 w0 x0) k =
  L354v2 u x0.2.2.2.2.2.2.1 x0.2.2.2.2.2.2.2.1 w0 n0 f0 n1 f1 n2 f2 n3 f3 n4 f4 n5 f5 x0.2.1 x0.2.2.1 x0.2.2.2.1 x0.2.2.2.2.1 x0.2.2.2.2.2.1 (Int.toNat (Int.ofNat n5)) u (Int.ofNat x0.2.2.2.2.2.2.1) (fun _ j=>listF [(vi 0)] j) (fun x1 x2=>k (.exit 999999) (s354v3 x0.2.2.2.2.2.2.1 n0 n1 n2 n3 n4 n5 x0.2.1 x0.2.2.2.2.1 (Int.toNat (Int.ofNat n5)) x0.2.2.2.2.2.2.2.1 f0 f1 f2 f3 f4 f5 x0.2.2.1 x0.2.2.2.2.2.1 x2 x1 x0.2.2.2.1 w0)) :=
 Eq.trans (loopN_at (by kernel_rfl)) (q354v2 ..)
def s354v8 (x0:Bool × Nat × FF × Int × Nat × FF × Nat × FF × Int):St:=⟨(.u :: .u :: vxi i0 :: .u :: .x (.ptr 1 0) :: .u :: vxi i0 :: .u :: .x (.ptr 2 0) :: .x (.ptr 4 0) :: (us 3 (.x (.own 5 0 0) :: (us 61 (vxi i0 :: .x (.own 5 0 0) :: .x (.c (ro kE n0 f0)) :: vxi (Int.ofNat n0) :: vxi 0 :: (us 37 [])))))),[.box [(vcs w0),(.c (ro kF n1 f1)),(.c (ro kB n2 f2)),(.c (ro kI n3 f3)),(.c (ro kD n4 f4)),(.c (ro kG n5 f5))],.box [(.c (ro kE n0 f0))],.box [(.c (.rp kC (listF [(ro kE x0.2.1 x0.2.2.1),(vi x0.2.2.2.1),(ro kJ x0.2.2.2.2.1 x0.2.2.2.2.2.1),(ro kM x0.2.2.2.2.2.2.1 x0.2.2.2.2.2.2.2.1)])))],.arr kM (Int.toNat (Int.ofNat n0)) f6,.box [(.own 3 0 (Int.toNat (Int.ofNat n0)))],.set true 0 nilF]⟩
theorem g354v4 (x0:Bool × Nat × FF × Int × Nat × FF × Nat × FF × Int) :
  (kBack 32 34 [(2,(vi i0))] (kSeq (C39 u) u (11 :: 12 :: (rl 29 5 (rl 36 39 []))) A20v10 (finish A20))) (.exit 999999) (s354v3 x0.2.2.2.2.2.2.1 n0 n1 n2 n3 n4 n5 x0.2.1 x0.2.2.2.2.1 (Int.toNat (Int.ofNat n5)) x0.2.2.2.2.2.2.2.1 f0 f1 f2 f3 f4 f5 x0.2.2.1 x0.2.2.2.2.2.1 f6 i1 x0.2.2.2.1 w0) =
  (loopN (eB A20v8 (C39 u) u) N354v3 u (s354v8 n5 n0 n1 n2 n3 n4 f5 f0 f1 f2 f3 f4 f6 i0 w0 x0) (kBlk 4 (kSeq (C39 u) u (14 :: 15 :: (rl 77 39 [])) A20v9 (finish A20)))):=by kernel_rfl
theorem t354v5 (x0:Bool × Nat × FF × Int × Nat × FF × Nat × FF × Int) :
  loopN (eB A20v8 (C39 u) u) N354v3 u (s354v8 n0 n1 n2 n3 n4 n5 f0 f1 f2 f3 f4 f5 f6 i0 w0 x0) k =
  L354v3 u i0 n0 f0 (Int.ofNat n0) w0 n1 f1 n2 f2 n3 f3 n4 f4 n5 f5 x0.2.1 x0.2.2.1 x0.2.2.2.1 x0.2.2.2.2.1 x0.2.2.2.2.2.1 x0.2.2.2.2.2.2.1 x0.2.2.2.2.2.2.2.1 (Int.toNat (Int.ofNat n0)) f6 u i0 0 0 nilF (fun x1 x2 x3=>k (.exit 4) (s354v6 n1 n2 n3 n4 n5 n0 x0.2.1 x0.2.2.2.2.1 x0.2.2.2.2.2.2.1 (Int.toNat (Int.ofNat n0)) x2 f1 f2 f3 f4 f5 f0 x0.2.2.1 x0.2.2.2.2.2.1 x0.2.2.2.2.2.2.2.1 f6 x3 x1 x0.2.2.2.1 w0)) :=
 Eq.trans (loopN_at (by kernel_rfl)) (q354v3 ..)
theorem g354v6 (x0:Bool × Nat × FF × Int × Nat × FF × Nat × FF × Int) :
  (kBlk 4 (kSeq (C39 u) u (14 :: 15 :: (rl 77 39 [])) A20v9 (finish A20))) (.exit 4) (s354v6 n0 n1 n2 n3 n4 n5 x0.2.1 x0.2.2.2.2.1 x0.2.2.2.2.2.2.1 (Int.toNat (Int.ofNat n5)) n6 f0 f1 f2 f3 f4 f5 x0.2.2.1 x0.2.2.2.2.2.1 x0.2.2.2.2.2.2.2.1 f6 f7 i0 x0.2.2.2.1 w0) =
  (some [.v (vi i0),.v (vi 0)]):=by kernel_rfl
theorem e354:evalF (C39 u) u A20 [.agg [(.s w0),(ro kF n0 f0),(ro kB n1 f1),(ro kI n2 f2),(ro kD n3 f3),(ro kG n4 f4)],.v (ro kE n5 f5),.v (vi i0)]=ob (F354 u w0 n0 f0 n1 f1 n2 f2 n3 f3 n4 f4 n5 f5 i0) fun t=>some [.v (vi t.1),.v (vi t.2)]:=Eq.trans (b:=(ob (F340 u w0 n0 f0 n1 f1 n2 f2 n3 f3 n4 f4 n5 f5 i0) fun x0=>(bif x0.1 then (bif ((p8 x0) != 0) then (some [.v (vi 0),.v (vi (p8 x0))]) else (bif (decide (0≤(Int.ofNat n5))&&decide ((Int.ofNat n5)≤(Int.ofNat n5))&&decide ((Int.ofNat n5)≤1073741824)&&true) then none else none)) else (bif (decide (0≤(Int.ofNat n5))&&decide ((Int.ofNat n5)≤(Int.ofNat n5))&&decide ((Int.ofNat n5)≤1073741824)&&true) then (loopN (eB A20v5 (C39 u) u) N354v2 u (s354v7 n0 n1 n2 n3 n4 n5 f0 f1 f2 f3 f4 f5 w0 x0) (kBack 32 34 [(2,(vi i0))] (kSeq (C39 u) u (11 :: 12 :: (rl 29 5 (rl 36 39 []))) A20v10 (finish A20)))) else none)))) (by kernel_rfl) (by
 simp only [F354,ob_bif,ob_ob,ob_none,ob_some,nl354v2,nl354v3,t354v3,g354v4,t354v5,g354v6])
def O354:Ora:=mkO (qc (ag (tc cS (tc (cL kF) (tc (cL kB) (tc (cL kI) (tc (cL kD) (t1 (cL kG)))))))) (qc (av (cL kE)) (q1 (av ci)))) (fun x=>F354 u x.1.1 x.1.2.1.1 x.1.2.1.2 x.1.2.2.1.1 x.1.2.2.1.2 x.1.2.2.2.1.1 x.1.2.2.2.1.2 x.1.2.2.2.2.1.1 x.1.2.2.2.2.1.2 x.1.2.2.2.2.2.1 x.1.2.2.2.2.2.2 x.2.1.1 x.2.1.2 x.2.2) fun t=>[.v (vi t.1),.v (vi t.2)]
theorem d354:DOB 48 68 (O354 u) (C39 u) 20 A20:=dOB u (fun x=>by exact e354 u x.1.2.1.1 x.1.2.2.1.1 x.1.2.2.2.1.1 x.1.2.2.2.2.1.1 x.1.2.2.2.2.2.1 x.2.1.1 x.1.2.1.2 x.1.2.2.1.2 x.1.2.2.2.1.2 x.1.2.2.2.2.1.2 x.1.2.2.2.2.2.2 x.2.1.2 x.2.2 x.1.1)
def C40:Oracle:=(C39 u).add 20 (fun _=>true) (O354 u)
def A22v1:AC:=(.region 5 [mv 15 5,o1 16 (bk .add 3 15 1),o1 5 (sg 16)] 0 none)
def A22v2:AC:=(.seq (.block 1
 (.seq (.region 6 [mv 17 0,mv 18 5,o1 19 (.indexAddr 30 55 4 (tm 17) (tm 18)),o1 20 (ln 55 4 19),mv 21 1,mv 22 5,o1 23 (.indexAddr 30 55 4 (tm 21) (tm 22)),o1 24 (ln 55 4 23),o1 25 (.eqA true kL 55 (tm 20) (tm 24) 55)] 0 (some [[],[],[0,1],[0,1,2],[],[],[4,5],[4,5,6],(rl 0 8 [])])) []
  (.cond (tm 25)
  (.seq (.region 7 [o1 4 (sb false)] 0 none) []
   (.ret (rl 0 4 (rl 5 21 []))))
  .skip))) (4 :: (rl 17 9 []))
 A22v1)
def A22v3:AC:=(.seq (.seq (.region 4 [mv 11 5,mv 12 0,o1 13 (.len 30 false (tm 12)),o1 14 (bt .lss 3 11 13)] 0 none) []
 (.cond (tm 14)
 .skip
 (.exit 0 (rl 0 26 [])))) (rl 11 4 [])
 A22v2)
def A22v4:AC:=(.seq (.region 8 [o1 4 (sb true)] 0 none) []
 (.ret (rl 0 4 (rl 5 21 []))))
def A22v5:AC:=(.seq (.seq (.region 3 [o1 5 (sk 0)] 0 none) []
 (.block 0
 (.loop [] (2 :: 3 :: 4 :: (rl 6 20 []))
  A22v3))) (4 :: 5 :: (rl 11 15 []))
 A22v4)
def A22:AF:=⟨26,[.tmp 4],
 (.seq (.region 0 [o1 4 (sb false)] 0 none) []
 (.seq (.seq (.region 1 [mv 6 0,o1 7 (.len 30 false (tm 6)),mv 8 1,o1 9 (.len 30 false (tm 8)),o1 10 (bt .neq 3 7 9)] 0 none) []
 (.cond (tm 10)
 (.seq (.region 2 [o1 4 (sb false)] 0 none) []
  (.ret (rl 0 4 (rl 5 21 []))))
 .skip)) (4 :: (rl 6 5 []))
 A22v5))⟩
def N355v1:St→Option St:=nN 0 (2 :: 3 :: 4 :: (rl 6 20 []))
def s355v0:St:=⟨(.x (.c (ro kL n0 f0)) :: .x (.c (ro kL n1 f1)) :: (us 3 (vxi i0 :: (us 20 [])))),[]⟩
def s355v1:St:=⟨(us 4 (vxb false :: (us 21 []))),[]⟩
def s355v2:St:=⟨(us 26 []),[]⟩
def L355v1 {ρ:Type} (u:Nat) (x0:Nat) (x1:FF) (x2:Nat) (x3:FF):Nat→Int→(Option ρ)→(Option ρ)→Option ρ
 | 0,_,_,_=>none
 | m+1,x4,k0,k1 =>
  (bif (decide (x4<(Int.ofNat x0))) then (bif (inb x4 x0) then (bif (inb x4 x2) then (bif (!((ByteArray.toList (x1 x4.toNat 0).str==ByteArray.toList (x3 x4.toNat 0).str)&&((ByteArray.toList (x1 x4.toNat 1).str==ByteArray.toList (x3 x4.toNat 1).str)&&(((x1 x4.toNat 2).int==(x3 x4.toNat 2).int)&&(((x1 x4.toNat 3).int==(x3 x4.toNat 3).int)&&true))))) then k0 else (L355v1 u x0 x1 x2 x3 m (w64 (x4+1)) k0 k1)) else none) else none) else k1)
theorem nl355v1:∀ (m:Nat) (x0:Int) (k0:Option ρ) (k1:Option ρ),ob (L355v1 u n0 f0 n1 f1 m x0 k0 k1) ng=L355v1 u n0 f0 n1 f1 m x0 (ob k0 ng) (ob k1 ng)
 | 0,_,_,_=>rfl
 | m+1,x0,k0,k1=>by
  simp only [L355v1,ob_bif,ob_ob,ob_none,nl355v1 m]
theorem q355v1:∀ (m:Nat) (x0:Int),
  loopH (eB A22v3 (C40 u) u) N355v1 m (s355v0 n0 n1 f0 f1 x0) k=L355v1 u n0 f0 n1 f1 m x0 (k .ret s355v1) (k (.exit 0) s355v2)
 | 0,_=>rfl
 | m+1,x0=>by
  simp only [L355v1,← q355v1 m]
  kernel_rfl
def F355 (x0:Nat) (x1:FF) (x2:Nat) (x3:FF):Option (Bool) :=
 (bif ((Int.ofNat x0) != (Int.ofNat x2)) then (some false) else (L355v1 u x0 x1 x2 x3 u 0
  (some false)
  (some true)))
def s355v3:St:=⟨(.x (.c (ro kL n0 f0)) :: .x (.c (ro kL n1 f1)) :: uu :: uu :: .u :: vxi 0 :: (us 5 [uu,uu,uu,uu,uu,uu,uu,uu,uu,uu,uu,uu,uu,uu,uu])),[]⟩
theorem t355v1 :
  loopN (eB A22v3 (C40 u) u) N355v1 u (s355v3 n0 n1 f0 f1) k =
  L355v1 u n0 f0 n1 f1 u 0 (k .ret s355v1) (k (.exit 0) s355v2) :=
 Eq.trans (loopN_at (by kernel_rfl)) (q355v1 ..)
theorem g355v2 :
  (kBlk 0 (kSeq (C40 u) u (4 :: 5 :: (rl 11 15 [])) A22v4 (finish A22))) .ret s355v1 =
  (some [.v (.b false)]):=by kernel_rfl
theorem g355v3 :
  (kBlk 0 (kSeq (C40 u) u (4 :: 5 :: (rl 11 15 [])) A22v4 (finish A22))) (.exit 0) s355v2 =
  (some [.v (.b true)]):=by kernel_rfl
theorem e355:evalF (C40 u) u A22 [.v (ro kL n0 f0),.v (ro kL n1 f1)]=ob (F355 u n0 f0 n1 f1) fun t=>some [.v (.b t)]:=Eq.trans (b:=(bif ((Int.ofNat n0) != (Int.ofNat n1)) then (some [.v (.b false)]) else (loopN (eB A22v3 (C40 u) u) N355v1 u (s355v3 n0 n1 f0 f1) (kBlk 0 (kSeq (C40 u) u (4 :: 5 :: (rl 11 15 [])) A22v4 (finish A22)))))) (by kernel_rfl) (by
 simp only [F355,ob_bif,ob_ob,ob_none,ob_some,nl355v1,t355v1,g355v2,g355v3])
def O355:Ora:=mkO (qc (av (cL kL)) (q1 (av (cL kL)))) (fun x=>F355 u x.1.1 x.1.2 x.2.1 x.2.2) fun t=>[.v (.b t)]
theorem d355:DO (O355 u) (C40 u) 22 A22:=dO u (fun x=>by exact e355 u x.1.1 x.2.1 x.1.2 x.2.2)
def C41:Oracle:=(C40 u).add 22 (fun _=>true) (O355 u)
def A63:AF:=⟨9,[.tmp 3],
 (.seq (.region 0 [o1 2 (bx 0 55 0),o1 3 (sb false)] 1 none) []
 (.seq (.region 1 [o1 4 (fa 55 2 0 0),o1 5 (lo 9 4),o1 6 (fa 55 1 0 0),o1 7 (lo 9 6),o1 8 (bt .eql 9 5 7),o1 3 (sg 8)] 0 none) []
 (.ret (0 :: 1 :: 2 :: (rl 4 5 [])))))⟩
def F356 (u:Nat) (x0 x1:ByteArray) (x2 x3:Int) (x4:Nat→CV):Option (Bool) :=
 (some (ByteArray.toList x0==ByteArray.toList (x4 0).str))
theorem e356:evalF (C41 u) u A63 [.agg [(.s w0),(.s w1),(vi i0),(vi i1)],.v (.rp kL g0)]=ob (F356 u w0 w1 i0 i1 g0) fun t=>some [.v (.b t)]:=by
 simp only [F356,ob_bif,ob_ob,ob_none,ob_some]
 kernel_rfl
def O356:Ora:=mkO (qc (ag (tc cS (tc cS (tc ci (t1 ci))))) (q1 (av (cP kL)))) (fun x=>F356 u x.1.1 x.1.2.1 x.1.2.2.1 x.1.2.2.2 x.2) fun t=>[.v (.b t)]
theorem d356:DO (O356 u) (C41 u) 63 A63:=dO u (fun x=>by exact e356 u x.1.2.2.1 x.1.2.2.2 x.1.1 x.1.2.1 x.2)
def C42:Oracle:=(C41 u).add 63 (fun _=>true) (O356 u)
def N348bv1:St→Option St:=nN 0 (rl 2 5 (rl 9 10 []))
def s348bv0:St:=⟨(.x (.c (ro kL n0 f0)) :: .x (.c (.fn 63 1 (listF [(.rp kL g0)]))) :: (us 5 (vxi i0 :: vxi i1 :: (us 10 [])))),[]⟩
def s348bv1:St:=⟨(us 4 (vxi i0 :: (us 14 []))),[]⟩
def s348bv2:St:=⟨(us 19 []),[]⟩
def L348bv1 {ρ:Type} (u:Nat) (x0:Nat) (x1:FF) (x2:Nat→CV) (x3:Int):Nat→Int→(Int→Option ρ)→(Option ρ)→Option ρ
 | 0,_,_,_=>none
 | m+1,x4,k0,k1 =>
  (bif (decide (x4<x3)) then (bif (inb x4 x0) then (ob (F356 u (x1 x4.toNat 0).str (x1 x4.toNat 1).str (x1 x4.toNat 2).int (x1 x4.toNat 3).int x2) fun x5=>(bif x5 then (k0 x4) else (L348bv1 u x0 x1 x2 x3 m (w64 (x4+1)) k0 k1))) else none) else k1)
theorem nl348bv1:∀ (m:Nat) (x0:Int) (k0:Int→Option ρ) (k1:Option ρ),ob (L348bv1 u n0 f0 g0 i0 m x0 k0 k1) ng=L348bv1 u n0 f0 g0 i0 m x0 (fun x1=>ob (k0 x1) ng) (ob k1 ng)
 | 0,_,_,_=>rfl
 | m+1,x0,k0,k1=>by
  simp only [L348bv1,ob_bif,ob_ob,ob_none,nl348bv1 m]
theorem q348bv1:∀ (m:Nat) (x0:Int),
  loopH (eB A81v3 (C42 u) u) N348bv1 m (s348bv0 n0 f0 i0 x0 g0) k=L348bv1 u n0 f0 g0 i0 m x0 (fun x1=>k .ret (s348bv1 x1)) (k (.exit 0) s348bv2)
 | 0,_=>rfl
 | m+1,x0=>by
  simp only [L348bv1,← q348bv1 m]
  kernel_rfl
def F348b (x0:Nat) (x1:FF) (x2:Nat→CV):Option (Int) :=
 (L348bv1 u x0 x1 x2 (Int.ofNat x0) u 0
  (fun x3=>(some x3))
  (some (-1)))
def s348bv3:St:=⟨[.x (.c (ro kL n0 f0)),.x (.c (.fn 63 1 (listF [(.rp kL g0)]))),uu,uu,vxi 0,uu,.x (.c (ro kL n0 f0)),vxi (Int.ofNat n0),vxi 0,uu,uu,uu,uu,uu,uu,uu,uu,uu,uu],[]⟩
theorem t348bv1 :
  loopN (eB A81v3 (C42 u) u) N348bv1 u (s348bv3 n0 f0 g0) k =
  L348bv1 u n0 f0 g0 (Int.ofNat n0) u 0 (fun x0=>k .ret (s348bv1 x0)) (k (.exit 0) s348bv2) :=
 Eq.trans (loopN_at (by kernel_rfl)) (q348bv1 ..)
theorem g348bv2 :
  (kBlk 0 (kSeq (C42 u) u (rl 4 15 []) A81v4 (finish A81))) .ret (s348bv1 i0) =
  (some [.v (vi i0)]):=by kernel_rfl
theorem g348bv3 :
  (kBlk 0 (kSeq (C42 u) u (rl 4 15 []) A81v4 (finish A81))) (.exit 0) s348bv2 =
  (some [.v (vi (-1))]):=by kernel_rfl
theorem e348b:evalF (C42 u) u A81 [.v (ro kL n0 f0),.v (.fn 63 1 (listF [(.rp kL g0)]))]=ob (F348b u n0 f0 g0) fun t=>some [.v (vi t)]:=Eq.trans (b:=(loopN (eB A81v3 (C42 u) u) N348bv1 u (s348bv3 n0 f0 g0) (kBlk 0 (kSeq (C42 u) u (rl 4 15 []) A81v4 (finish A81))))) (by kernel_rfl) (by
 simp only [F348b,ob_bif,ob_ob,ob_none,ob_some,nl348bv1,t348bv1,g348bv2,g348bv3])
def O348b:Ora:=mkO (qc (av (cL kL)) (q1 (av (cF 63 1 (t1 (cP kL)))))) (fun x=>F348b u x.1.1 x.1.2 x.2) fun t=>[.v (vi t)]
theorem d348b:DO (O348b u) (C42 u) 81 A81:=dO u (fun x=>by exact e348b u x.1.1 x.1.2 x.2)
def C43:Oracle:=(C42 u).add 81 (fun l=>isFn 63 l 1) (O348b u)
def F349b (x0:Nat) (x1:FF) (x2:Nat→CV):Option (Bool) :=
 (ob (F348b u x0 x1 x2) fun x3=>(some (decide (x3≥0))))
theorem e349b:evalF (C43 u) u A62 [.v (ro kL n0 f0),.v (.fn 63 1 (listF [(.rp kL g0)]))]=ob (F349b u n0 f0 g0) fun t=>some [.v (.b t)]:=by
 simp only [F349b,ob_bif,ob_ob,ob_none,ob_some]
 kernel_rfl
def O349b:Ora:=mkO (qc (av (cL kL)) (q1 (av (cF 63 1 (t1 (cP kL)))))) (fun x=>F349b u x.1.1 x.1.2 x.2) fun t=>[.v (.b t)]
theorem d349b:DO (O349b u) (C43 u) 62 A62:=dO u (fun x=>by exact e349b u x.1.1 x.1.2 x.2)
def C44:Oracle:=(C43 u).add 62 (fun l=>isFn 63 l 1) (O349b u)
def A64:AF:=⟨23,[.tmp 3],
 (.seq (.region 0 [o1 2 (bx 0 55 0),o1 3 (sb false)] 1 none) []
 (.seq (.region 1 [o1 4 (fa 55 2 1 1),o1 5 (lo 9 4),o1 6 (fa 55 1 1 1),o1 7 (lo 9 6),o1 8 (bt .eql 9 5 7),mv 9 8,og 10 (fa 55 1 2 2) 9 true,og 11 (lo 3 10) 9 true,og 12 (fa 55 2 3 3) 9 true,og 13 (lo 3 12) 9 true,og 14 (bt .lss 3 11 13) 9 true,o1 15 (po 9 14),mv 16 15,og 17 (fa 55 2 2 2) 16 true,og 18 (lo 3 17) 16 true,og 19 (fa 55 1 3 3) 16 true,og 20 (lo 3 19) 16 true,og 21 (bt .lss 3 18 20) 16 true,o1 22 (po 16 21),o1 3 (sg 22)] 0 none) []
 (.ret (0 :: 1 :: 2 :: (rl 4 19 [])))))⟩
def F357 (u:Nat) (x0 x1:ByteArray) (x2 x3:Int) (x4:Nat→CV):Option (Bool) :=
 (bif ((ByteArray.toList x1==ByteArray.toList (x4 1).str)==true) then (bif ((decide ((x4 2).int<x3))==true) then (some (decide (x2<(x4 3).int))) else (some false)) else (some false))
theorem e357:evalF (C44 u) u A64 [.agg [(.s w0),(.s w1),(vi i0),(vi i1)],.v (.rp kL g0)]=ob (F357 u w0 w1 i0 i1 g0) fun t=>some [.v (.b t)]:=by
 simp only [F357,ob_bif,ob_ob,ob_none,ob_some]
 kernel_rfl
def O357:Ora:=mkO (qc (ag (tc cS (tc cS (tc ci (t1 ci))))) (q1 (av (cP kL)))) (fun x=>F357 u x.1.1 x.1.2.1 x.1.2.2.1 x.1.2.2.2 x.2) fun t=>[.v (.b t)]
theorem d357:DO (O357 u) (C44 u) 64 A64:=dO u (fun x=>by exact e357 u x.1.2.2.1 x.1.2.2.2 x.1.1 x.1.2.1 x.2)
def C45:Oracle:=(C44 u).add 64 (fun _=>true) (O357 u)
def N348cv1:St→Option St:=nN 0 (rl 2 5 (rl 9 10 []))
def s348cv0:St:=⟨(.x (.c (ro kL n0 f0)) :: .x (.c (.fn 64 1 (listF [(.rp kL g0)]))) :: (us 5 (vxi i0 :: vxi i1 :: (us 10 [])))),[]⟩
def s348cv1:St:=⟨(us 4 (vxi i0 :: (us 14 []))),[]⟩
def s348cv2:St:=⟨(us 19 []),[]⟩
def L348cv1 {ρ:Type} (u:Nat) (x0:Nat) (x1:FF) (x2:Nat→CV) (x3:Int):Nat→Int→(Int→Option ρ)→(Option ρ)→Option ρ
 | 0,_,_,_=>none
 | m+1,x4,k0,k1 =>
  (bif (decide (x4<x3)) then (bif (inb x4 x0) then (ob (F357 u (x1 x4.toNat 0).str (x1 x4.toNat 1).str (x1 x4.toNat 2).int (x1 x4.toNat 3).int x2) fun x5=>(bif x5 then (k0 x4) else (L348cv1 u x0 x1 x2 x3 m (w64 (x4+1)) k0 k1))) else none) else k1)
theorem nl348cv1:∀ (m:Nat) (x0:Int) (k0:Int→Option ρ) (k1:Option ρ),ob (L348cv1 u n0 f0 g0 i0 m x0 k0 k1) ng=L348cv1 u n0 f0 g0 i0 m x0 (fun x1=>ob (k0 x1) ng) (ob k1 ng)
 | 0,_,_,_=>rfl
 | m+1,x0,k0,k1=>by
  simp only [L348cv1,ob_bif,ob_ob,ob_none,nl348cv1 m]
theorem q348cv1:∀ (m:Nat) (x0:Int),
  loopH (eB A81v3 (C45 u) u) N348cv1 m (s348cv0 n0 f0 i0 x0 g0) k=L348cv1 u n0 f0 g0 i0 m x0 (fun x1=>k .ret (s348cv1 x1)) (k (.exit 0) s348cv2)
 | 0,_=>rfl
 | m+1,x0=>by
  simp only [L348cv1,← q348cv1 m]
  kernel_rfl
def F348c (x0:Nat) (x1:FF) (x2:Nat→CV):Option (Int) :=
 (L348cv1 u x0 x1 x2 (Int.ofNat x0) u 0
  (fun x3=>(some x3))
  (some (-1)))
def s348cv3:St:=⟨[.x (.c (ro kL n0 f0)),.x (.c (.fn 64 1 (listF [(.rp kL g0)]))),uu,uu,vxi 0,uu,.x (.c (ro kL n0 f0)),vxi (Int.ofNat n0),vxi 0,uu,uu,uu,uu,uu,uu,uu,uu,uu,uu],[]⟩
theorem t348cv1 :
  loopN (eB A81v3 (C45 u) u) N348cv1 u (s348cv3 n0 f0 g0) k =
  L348cv1 u n0 f0 g0 (Int.ofNat n0) u 0 (fun x0=>k .ret (s348cv1 x0)) (k (.exit 0) s348cv2) :=
 Eq.trans (loopN_at (by kernel_rfl)) (q348cv1 ..)
theorem g348cv2 :
  (kBlk 0 (kSeq (C45 u) u (rl 4 15 []) A81v4 (finish A81))) .ret (s348cv1 i0) =
  (some [.v (vi i0)]):=by kernel_rfl
theorem g348cv3 :
  (kBlk 0 (kSeq (C45 u) u (rl 4 15 []) A81v4 (finish A81))) (.exit 0) s348cv2 =
  (some [.v (vi (-1))]):=by kernel_rfl
theorem e348c:evalF (C45 u) u A81 [.v (ro kL n0 f0),.v (.fn 64 1 (listF [(.rp kL g0)]))]=ob (F348c u n0 f0 g0) fun t=>some [.v (vi t)]:=Eq.trans (b:=(loopN (eB A81v3 (C45 u) u) N348cv1 u (s348cv3 n0 f0 g0) (kBlk 0 (kSeq (C45 u) u (rl 4 15 []) A81v4 (finish A81))))) (by kernel_rfl) (by
 simp only [F348c,ob_bif,ob_ob,ob_none,ob_some,nl348cv1,t348cv1,g348cv2,g348cv3])
def O348c:Ora:=mkO (qc (av (cL kL)) (q1 (av (cF 64 1 (t1 (cP kL)))))) (fun x=>F348c u x.1.1 x.1.2 x.2) fun t=>[.v (vi t)]
theorem d348c:DO (O348c u) (C45 u) 81 A81:=dO u (fun x=>by exact e348c u x.1.1 x.1.2 x.2)
def C46:Oracle:=(C45 u).add 81 (fun l=>isFn 64 l 1) (O348c u)
def F349c (x0:Nat) (x1:FF) (x2:Nat→CV):Option (Bool) :=
 (ob (F348c u x0 x1 x2) fun x3=>(some (decide (x3≥0))))
theorem e349c:evalF (C46 u) u A62 [.v (ro kL n0 f0),.v (.fn 64 1 (listF [(.rp kL g0)]))]=ob (F349c u n0 f0 g0) fun t=>some [.v (.b t)]:=by
 simp only [F349c,ob_bif,ob_ob,ob_none,ob_some]
 kernel_rfl
def O349c:Ora:=mkO (qc (av (cL kL)) (q1 (av (cF 64 1 (t1 (cP kL)))))) (fun x=>F349c u x.1.1 x.1.2 x.2) fun t=>[.v (.b t)]
theorem d349c:DO (O349c u) (C46 u) 62 A62:=dO u (fun x=>by exact e349c u x.1.1 x.1.2 x.2)
def C47:Oracle:=(C46 u).add 62 (fun l=>isFn 64 l 1) (O349c u)
def A36v1:AC:=(.seq (.region 14 [o1 6 (sk 0)] 0 none) []
 (.ret (rl 0 6 (rl 7 57 []))))
def A36:AF:=⟨64,[.tmp 6],
 (.seq (.region 0 [o1 5 (bx 0 55 2),o1 6 (sk 0)] 1 none) []
 (.seq (.region 1 [mv 8 0,o1 9 (fa 55 5 0 0),o1 10 (lo 9 9),o1 11 (cs 37 [8,10] [67,9]),o1 7 (sg 11)] 0 none) []
 (.seq (.block 0
 (.seq (.region 2 [mv 13 7,o1 14 (bk .lss 3 13 0),o1 12 (sg 14)] 0 none) []
  (.cond (tm 12)
  (.seq (.region 3 [o1 6 (sk 8)] 0 none) []
   (.ret (rl 0 6 (rl 7 57 []))))
  (.seq (.region 4 [mv 16 1,o1 17 (.mkfn 63 [(tm 5)]),o1 18 (cs 62 [16,17] [30,108]),o1 15 (sg 18)] 0 none) []
   (.cond (tm 15)
   (.seq (.region 5 [o1 6 (sk 7)] 0 none) []
    (.ret (rl 0 6 (rl 7 57 []))))
   (.seq (.region 6 [mv 20 0,o1 21 (.nilCheck (tm 20)),o1 22 (fa 75 21 0 0),o1 23 (lo 29 22),mv 24 7,o1 25 (.indexAddr 29 53 3 (tm 23) (tm 24)),o1 26 (fa 53 25 2 2),o1 27 (lo 51 26),o1 28 (fa 55 5 1 1),o1 29 (lo 9 28),o1 30 (cs 30 [27,29] [51,9]),o1 31 (.unOp .not 4 (tm 30)),o1 19 (sg 31)] 0 (some [[],[0],[0,1],[0,1,2],[],(rl 0 5 []),(rl 0 6 []),(rl 0 7 []),[],[8],(rl 0 10 []),(rl 0 11 []),(rl 0 12 [])])) []
    (.cond (tm 19)
    (.seq (.region 7 [o1 6 (sk 25)] 0 none) []
     (.ret (rl 0 6 (rl 7 57 []))))
    (.seq (.region 8 [o1 33 (fa 55 5 2 2),o1 34 (lo 3 33),mv 35 0,o1 36 (.nilCheck (tm 35)),o1 37 (fa 75 36 1 1),o1 38 (lo 3 37),o1 39 (bt .lss 3 34 38),mv 40 39,og 41 (fa 55 5 2 2) 40 false,og 42 (lo 3 41) 40 false,og 43 (bk .gtr 3 42 1099511627776) 40 false,o1 44 (pa 40 43),o1 32 (sg 44)] 0 (some [[],[0],[],[2],[2,3],[2,3,4],(rl 0 6 []),(rl 0 7 []),(rl 0 8 []),(rl 0 9 []),(rl 0 10 []),(rl 0 11 []),(rl 0 12 [])])) []
     (.cond (tm 32)
     (.seq (.region 9 [o1 6 (sk 15)] 0 none) []
      (.ret (rl 0 6 (rl 7 57 []))))
     (.seq (.region 10 [o1 46 (fa 55 5 3 3),o1 47 (lo 3 46),o1 48 (fa 55 5 2 2),o1 49 (lo 3 48),mv 50 0,o1 51 (.nilCheck (tm 50)),o1 52 (fa 75 51 0 0),o1 53 (lo 29 52),mv 54 7,o1 55 (.indexAddr 29 53 3 (tm 53) (tm 54)),o1 56 (fa 53 55 1 1),o1 57 (lo 3 56),o1 58 (bt .add 3 49 57),o1 59 (bt .neq 3 47 58),o1 45 (sg 59)] 0 (some [[],[0],[],[2],[],[4],[4,5],[4,5,6],[],(rl 4 5 []),(rl 4 6 []),(rl 4 7 []),(rl 2 10 []),(rl 0 13 []),(rl 0 14 [])])) []
      (.cond (tm 45)
      (.seq (.region 11 [o1 6 (sk 17)] 0 none) []
       (.ret (rl 0 6 (rl 7 57 []))))
      (.seq (.region 12 [mv 61 1,o1 62 (.mkfn 64 [(tm 5)]),o1 63 (cs 62 [61,62] [30,108]),o1 60 (sg 63)] 0 none) []
       (.cond (tm 60)
       (.seq (.region 13 [o1 6 (sk 19)] 0 none) []
        (.ret (rl 0 6 (rl 7 57 []))))
       .skip))))))))))))) (6 :: (rl 12 52 []))
 A36v1)))⟩
def F358 (x0:Nat→CV) (x1:Nat) (x2:FF) (x3 x4:ByteArray) (x5 x6:Int):Option (Int) :=
 (ob (F337 u x0 x3) fun x7=>(bif (decide (x7<0)) then (some 8) else (ob (F349b u x1 x2 (listF [(.s x3),(.s x4),(.i .i64 x5),(.i .i64 x6)])) fun x8=>(bif x8 then (some 7) else (bif (inb x7 (x0 0).len) then (ob (F257 u ((x0 0).el x7.toNat 2).len ((x0 0).el x7.toNat 2).el x4) fun x9=>(bif (!x9) then (some 25) else (bif ((decide (x5<(x0 1).int))==false) then (bif (decide (x5>1099511627776)) then (some 15) else (bif (inb x7 (x0 0).len) then (bif (x6 != (w64 (x5+((x0 0).el x7.toNat 1).int))) then (some 17) else (ob (F349c u x1 x2 (listF [(.s x3),(.s x4),(.i .i64 x5),(.i .i64 x6)])) fun xA=>(bif xA then (some 19) else (some 0)))) else none)) else (some 15)))) else none)))))
theorem e358:evalF (C47 u) u A36 [.v (.rp kC g0),.v (ro kL n0 f0),.agg [(.s w0),(.s w1),(vi i0),(vi i1)]]=ob (F358 u g0 n0 f0 w0 w1 i0 i1) fun t=>some [.v (vi t)]:=by
 simp only [F358,ob_bif,ob_ob,ob_none,ob_some]
 kernel_rfl
def O358:Ora:=mkO (qc (av (cP kC)) (qc (av (cL kL)) (q1 (ag (tc cS (tc cS (tc ci (t1 ci)))))))) (fun x=>F358 u x.1 x.2.1.1 x.2.1.2 x.2.2.1 x.2.2.2.1 x.2.2.2.2.1 x.2.2.2.2.2) fun t=>[.v (vi t)]
theorem d358:DO (O358 u) (C47 u) 36 A36:=dO u (fun x=>by exact e358 u x.2.1.1 x.2.1.2 x.2.2.2.2.1 x.2.2.2.2.2 x.2.2.1 x.2.2.2.1 x.1)
def C48:Oracle:=(C47 u).add 36 (fun _=>true) (O358 u)
def A14v1:AC:=(.region 12 [o1 48 (bk .add 3 34 1),mv 34 48] 0 none)
def A14v2:AC:=(.seq (.block 1
 (.seq (.region 8 [mv 36 34,o1 37 (.indexAddr 30 55 4 (tm 32) (tm 34)),o1 38 (ln 55 4 37),o1 11 (.alloc 0 55 [vcs ByteArray.empty,vcs ByteArray.empty,vci 0,vci 0]),o1 10 (sg 36),o0 (.store 55 4 (tm 11) (tm 38))] 1 none) []
  (.seq (.region 9 [mv 39 9,mv 40 3,mv 41 10,o1 42 (.slice 30 55 4 (tm 40) none (some (tm 41)) none),o1 43 (ln 55 4 11),o1 44 (cs 36 [39,42,43] [67,30,55]),o1 12 (sg 44)] 0 (some [[],[],[],[1,2],[],(rl 0 5 []),(rl 0 6 [])])) []
  (.seq (.region 10 [mv 45 12,o1 46 (bk .neq 35 45 0)] 0 none) []
  (.cond (tm 46)
  (.seq (.region 11 [mv 47 12,o1 8 (sg 47)] 0 none) []
   (.ghost [0,1] (.ret (rl 0 8 (rl 9 82 [])))))
  .skip))))) (8 :: 10 :: 11 :: 12 :: (rl 36 12 []))
 A14v1)
def A14v3:AC:=(.seq (.region 7 [o1 35 (bt .lss 3 34 33)] 0 none) []
 (.seq (.cond (tm 35)
 .skip
 (.ghost [0] (.exit 0 (0 :: 2 :: (rl 4 5 (rl 10 81 [])))))) []
 A14v2))
def A14v4:AC:=(.region 23 [o1 89 (bk .add 3 62 1),mv 62 89] 0 none)
def A14v5:AC:=(.seq (.block 5
 (.seq (.region 20 [o1 64 (.indexAddr 30 55 4 (tm 60) (tm 62)),o1 65 (ln 55 4 64),o1 16 (.alloc 0 55 [vcs ByteArray.empty,vcs ByteArray.empty,vci 0,vci 0]),o0 (.store 55 4 (tm 16) (tm 65))] 1 none) []
  (.seq (.region 21 [mv 66 9,o1 67 (.nilCheck (tm 66)),o1 68 (fa 75 67 2 2),o1 69 (lo 72 68),mv 70 9,o1 71 (fa 55 14 0 0),o1 72 (lo 9 71),o1 73 (cs 37 [70,72] [67,9]),o1 74 (.indexAddr 72 71 1 (tm 69) (tm 73)),o1 75 (lo 71 74),mv 76 9,o1 77 (fa 55 16 0 0),o1 78 (lo 9 77),o1 79 (cs 37 [76,78] [67,9]),o1 80 (.indexAddr 71 4 1 (tm 75) (tm 79)),o1 81 (lo 4 80),mv 82 81,og 83 (fa 55 14 3 3) 82 true,og 84 (lo 3 83) 82 true,og 85 (fa 55 16 2 2) 82 true,og 86 (lo 3 85) 82 true,og 87 (bt .gtr 3 84 86) 82 true,o1 88 (po 82 87)] 0 (some [[],[0],[0,1],[0,1,2],[],[],[5],[4,5,6],(rl 0 8 []),(rl 0 9 []),[],[],[11],(rl 4 4 [10,11,12]),(rl 0 14 []),(rl 0 15 []),(rl 0 16 []),(rl 0 17 []),(rl 0 18 []),(rl 0 17 []),(rl 0 17 [19]),(rl 0 21 []),(rl 0 22 [])])) []
  (.cond (tm 88)
  (.seq (.region 22 [o1 8 (sk 11)] 0 none) []
   (.ghost [0,1,2] (.ret (rl 0 8 (rl 9 82 [])))))
  .skip)))) (8 :: 16 :: (rl 64 25 []))
 A14v4)
def A14v6:AC:=(.seq (.region 19 [o1 63 (bt .lss 3 62 61)] 0 none) []
 (.seq (.cond (tm 63)
 .skip
 (.ghost [0,1] (.exit 4 (0 :: 1 :: 2 :: (rl 4 5 (rl 10 44 (rl 57 34 []))))))) []
 A14v5))
def A14v7:AC:=(.region 24 [o1 90 (bk .add 3 56 1),mv 56 90] 0 none)
def A14v8:AC:=(.seq (.block 3
 (.seq (.region 17 [o1 58 (.indexAddr 30 55 4 (tm 54) (tm 56)),o1 59 (ln 55 4 58),o1 14 (.alloc 0 55 [vcs ByteArray.empty,vcs ByteArray.empty,vci 0,vci 0]),o0 (.store 55 4 (tm 14) (tm 59))] 1 none) []
  (.seq (.region 18 [mv 60 3,o1 61 (.len 30 false (tm 60)),o1 62 (.move (ic 0))] 0 none) []
  (.block 4
  (.ghost [0] (.loop [] (0 :: 1 :: 2 :: (rl 4 5 (rl 10 4 (rl 15 39 (57 :: 58 :: 59 :: (rl 63 28 []))))))
   A14v6)))))) (8 :: 14 :: 16 :: (rl 58 32 []))
 A14v7)
def A14v9:AC:=(.seq (.region 16 [o1 57 (bt .lss 3 56 55)] 0 none) []
 (.seq (.cond (tm 57)
 .skip
 (.ghost [0] (.exit 2 (rl 0 91 [])))) []
 A14v8))
def A14v10:AC:=(.seq (.region 25 [o1 8 (sk 0)] 0 none) []
 (.ghost [0] (.ret (rl 0 8 (rl 9 82 [])))))
def A14v11:AC:=(.seq (.seq (.region 15 [mv 54 3,o1 55 (.len 30 false (tm 54)),o1 56 (.move (ic 0))] 0 none) []
 (.block 2
 (.ghost [0] (.loop [] (0 :: 1 :: 2 :: (rl 4 5 (rl 10 44 (rl 57 34 []))))
  A14v9)))) (8 :: 14 :: 16 :: (rl 54 37 []))
 A14v10)
def A14v12:AC:=(.seq (.seq (.region 13 [mv 49 3,o1 50 (.len 30 false (tm 49)),mv 51 1,o1 52 (.len 29 false (tm 51)),o1 53 (bt .lss 3 50 52)] 0 none) []
 (.cond (tm 53)
 (.seq (.region 14 [o1 8 (sk 3)] 0 none) []
  (.ghost [0] (.ret (rl 0 8 (rl 9 82 [])))))
 .skip)) (8 :: (rl 49 5 []))
 A14v11)
def A14v13:AC:=(.seq (.seq (.region 6 [mv 32 3,o1 33 (.len 30 false (tm 32)),o1 34 (.move (ic 0))] 0 none) []
 (.block 0
 (.ghost [0] (.loop [] (0 :: 2 :: (rl 4 5 (rl 10 22 (rl 35 56 []))))
  A14v3)))) (8 :: 10 :: 11 :: 12 :: (rl 32 17 []))
 A14v12)
def A14v14:AC:=(.seq (.seq (.region 4 [mv 27 3,o1 28 (.len 30 false (tm 27)),mv 29 1,o1 30 (.len 29 false (tm 29)),o1 31 (bt .gtr 3 28 30)] 0 none) []
 (.cond (tm 31)
 (.seq (.region 5 [o1 8 (sk 4)] 0 none) []
  (.ghost [0] (.ret (rl 0 8 (rl 9 82 [])))))
 .skip)) (8 :: (rl 27 5 []))
 A14v13)
def A14:AF:=⟨91,[.tmp 8],
 (.seq (.region 0 [o1 4 (bx 0 28 0),o1 8 (sk 0)] 1 none) []
 (.seq (.region 1 [o1 18 (ln 28 6 4),mv 19 1,mv 20 2,o1 21 (cf 35 [18,19,20] [28,29,3]),mv 17 21,o1 22 (.extract (tm 17) 0),o1 23 (.extract (tm 17) 1),o1 9 (sg 22),o1 8 (sg 23)] 0 none) []
 (.seq (.seq (.region 2 [mv 24 8,o1 25 (bk .neq 35 24 0)] 0 none) []
 (.cond (tm 25)
 (.seq (.region 3 [mv 26 8,o1 8 (sg 26)] 0 none) []
  (.ghost [0] (.ret (rl 0 8 (rl 9 82 [])))))
 .skip)) [8,24,25,26]
 A14v14)))⟩
def N359v1:St→Option St:=nN 1 (0 :: 2 :: (rl 4 5 (rl 10 22 (rl 35 56 []))))
def s359v0:St:=⟨(.u :: .x (.c (ro kE n0 f0)) :: .u :: .x (.c (ro kL n1 f1)) :: (us 5 (.x (.c .any) :: (us 22 (.x (.c (ro kL n1 f1)) :: vxi i0 :: vxi 0 :: (us 56 [])))))),[.dead]⟩
def s359v1:St:=⟨(.u :: .x (.c (ro kE n0 f0)) :: .u :: .x (.c (ro kL n1 f1)) :: (us 5 (.x (.c .any) :: (us 81 [])))),[.dead]⟩
def L359v1 {ρ:Type} (u:Nat) (x0:Nat) (x1:FF) (x2:Nat) (x3:FF) (x4:Int):Nat→(Option ρ)→Option ρ
 | 0,_=>none
 | m+1,k0 =>
  (bif (decide (0<x4)) then (bif (inb 0 x2) then (bif (inbe 0 x2) then none else none) else none) else k0)
theorem nl359v1:∀ (m:Nat) (k0:Option ρ),ob (L359v1 u n0 f0 n1 f1 i0 m k0) ng=L359v1 u n0 f0 n1 f1 i0 m (ob k0 ng)
 | 0,_=>rfl
 | m+1,k0=>by
  simp only [L359v1,ob_bif,ob_ob,ob_none,nl359v1 m]
theorem q359v1:∀ (m:Nat),
  loopH (eB A14v3 (C48 u) u) N359v1 m (s359v0 n0 n1 f0 f1 i0) k=L359v1 u n0 f0 n1 f1 i0 m (k (.exit 0) (s359v1 n0 n1 f0 f1))
 | 0=>rfl
 | m+1=>by
  simp only [L359v1,← q359v1 m]
  kernel_rfl
def N359v3:St→Option St:=nN 2 (0 :: 1 :: 2 :: (rl 4 5 (rl 10 4 (rl 15 39 (57 :: 58 :: 59 :: (rl 63 28 []))))))
def s359v2:St:=⟨(us 3 (.x (.c (ro kL n0 f0)) :: (us 5 (.x (.c .any) :: (us 4 (.x (.ptr 1 0) :: (us 39 (.x (.c (ro kL n0 f0)) :: vxi i0 :: vxi i1 :: (us 3 (.x (.c (ro kL n0 f0)) :: vxi i2 :: vxi 0 :: (us 28 []))))))))))),[.dead,.box [(vcs w0),(vcs w1),(vci i3),(vci i4)]]⟩
def s359v3:St:=⟨(us 3 (.x (.c (ro kL n0 f0)) :: (us 5 (.x (.c .any) :: (us 44 (.x (.c (ro kL n0 f0)) :: vxi i0 :: vxi i1 :: (us 34 []))))))),[.dead,.dead]⟩
def L359v3 {ρ:Type} (u:Nat) (x0:Nat) (x1:FF) (x2 x3 x4:Int) (x5 x6:ByteArray) (x7 x8:Int):Nat→(Option ρ)→Option ρ
 | 0,_=>none
 | m+1,k0 =>
  (bif (decide (0<x4)) then (bif (inb 0 x0) then none else none) else k0)
theorem nl359v3:∀ (m:Nat) (k0:Option ρ),ob (L359v3 u n0 f0 i0 i1 i2 w0 w1 i3 i4 m k0) ng=L359v3 u n0 f0 i0 i1 i2 w0 w1 i3 i4 m (ob k0 ng)
 | 0,_=>rfl
 | m+1,k0=>by
  simp only [L359v3,ob_bif,ob_ob,ob_none,nl359v3 m]
theorem q359v3:∀ (m:Nat),
  loopH (eB A14v6 (C48 u) u) N359v3 m (s359v2 n0 f0 i0 i1 i2 i3 i4 w0 w1) k=L359v3 u n0 f0 i0 i1 i2 w0 w1 i3 i4 m (k (.exit 4) (s359v3 n0 f0 i0 i1))
 | 0=>rfl
 | m+1=>by
  simp only [L359v3,← q359v3 m]
  kernel_rfl
def N359v4:St→Option St:=nN 1 (0 :: 1 :: 2 :: (rl 4 5 (rl 10 44 (rl 57 34 []))))
def s359v4:St:=⟨(us 3 (.x (.c (ro kL n0 f0)) :: (us 5 (.x (.c .any) :: (us 44 (.x (.c (ro kL n0 f0)) :: vxi i0 :: vxi i1 :: (us 34 []))))))),[.dead]⟩
def s359v5:St:=⟨(us 91 []),[.dead]⟩
def L359v4 {ρ:Type} (u:Nat) (x0:Nat) (x1:FF) (x2:Int):Nat→Int→(Option ρ)→Option ρ
 | 0,_,_=>none
 | m+1,x3,k0 =>
  (bif (decide (x3<x2)) then (bif (inb x3 x0) then (L359v3 u x0 x1 x2 x3 (Int.ofNat x0) (x1 x3.toNat 0).str (x1 x3.toNat 1).str (x1 x3.toNat 2).int (x1 x3.toNat 3).int u
  (L359v4 u x0 x1 x2 m (w64 (x3+1)) k0)) else none) else k0)
theorem nl359v4:∀ (m:Nat) (x0:Int) (k0:Option ρ),ob (L359v4 u n0 f0 i0 m x0 k0) ng=L359v4 u n0 f0 i0 m x0 (ob k0 ng)
 | 0,_,_=>rfl
 | m+1,x0,k0=>by
  simp only [L359v4,ob_bif,ob_ob,ob_none,nl359v4 m,nl359v3]
def s359v6:St:=⟨(us 3 (.x (.c (ro kL n0 f0)) :: (us 5 (.x (.c .any) :: (us 4 (.x (.ptr 1 0) :: (us 39 (.x (.c (ro kL n0 f0)) :: vxi i0 :: vxi i1 :: vxb true :: .x (.c (.rp kL (f0 i1.toNat))) :: .agg [(vcs (f0 i1.toNat 0).str),(vcs (f0 i1.toNat 1).str),(vci (f0 i1.toNat 2).int),(vci (f0 i1.toNat 3).int)] :: .x (.c (ro kL n0 f0)) :: vxi (Int.ofNat n0) :: vxi 0 :: (us 28 []))))))))),[.dead,.box [(vcs (f0 i1.toNat 0).str),(vcs (f0 i1.toNat 1).str),(vci (f0 i1.toNat 2).int),(vci (f0 i1.toNat 3).int)]]⟩
theorem r359v4 :
  loopH (eB A14v9 (C48 u) u) N359v4 (m+1) (s359v4 n0 f0 i0 i1) k =
  (bif (decide (i1<i0)) then (bif (inb i1 n0) then (loopN (eB A14v6 (C48 u) u) N359v3 u (s359v6 n0 f0 i0 i1) (kBlk 4 (kBlk 3 (kSeq (C48 u) u (8 :: 14 :: 16 :: (rl 58 32 [])) A14v7 (kLoop (eB A14v9 (C48 u) u) N359v4 m k))))) else none) else (k (.exit 2) s359v5)):=by kernel_rfl
theorem t359v1 :
  loopN (eB A14v6 (C48 u) u) N359v3 u (s359v6 n0 f0 i0 i1) k =
  L359v3 u n0 f0 i0 i1 (Int.ofNat n0) (f0 i1.toNat 0).str (f0 i1.toNat 1).str (f0 i1.toNat 2).int (f0 i1.toNat 3).int u (k (.exit 4) (s359v3 n0 f0 i0 i1)) :=
 Eq.trans (loopN_at (by kernel_rfl)) (q359v3 ..)
theorem g359v2 :
  (kBlk 4 (kBlk 3 (kSeq (C48 u) u (8 :: 14 :: 16 :: (rl 58 32 [])) A14v7 (kLoop (eB A14v9 (C48 u) u) N359v4 m k)))) (.exit 4) (s359v3 n0 f0 i0 i1) =
  (loopH (eB A14v9 (C48 u) u) N359v4 m (s359v4 n0 f0 i0 (w64 (i1+1))) k):=by kernel_rfl
theorem q359v4:∀ (m:Nat) (x0:Int),
  loopH (eB A14v9 (C48 u) u) N359v4 m (s359v4 n0 f0 i0 x0) k=L359v4 u n0 f0 i0 m x0 (k (.exit 2) s359v5)
 | 0,_=>rfl
 | m+1,x0=>by
  rw [r359v4]
  simp only [L359v4,q359v4 m,t359v1,g359v2]
def N359v5:St→Option St:=nN 1 (0 :: 2 :: (rl 4 5 (rl 10 22 (rl 35 56 []))))
def s359v7:St:=⟨(.u :: .x (.c (ro kE n0 f0)) :: .u :: .x (.c (ro kL n1 f1)) :: (us 5 (.x (.c (.rp kC (listF [(ro kE n2 f2),(vi i0),(ro kJ n3 f3),(ro kM n4 f4)]))) :: (us 22 (.x (.c (ro kL n1 f1)) :: vxi i1 :: vxi i2 :: (us 56 [])))))),[.dead]⟩
def s359v8:St:=⟨(us 8 (vxi i0 :: (us 82 []))),[.dead,.dead]⟩
def s359v9:St:=⟨(.u :: .x (.c (ro kE n0 f0)) :: .u :: .x (.c (ro kL n1 f1)) :: (us 5 (.x (.c (.rp kC (listF [(ro kE n2 f2),(vi i0),(ro kJ n3 f3),(ro kM n4 f4)]))) :: (us 81 [])))),[.dead]⟩
def L359v5 {ρ:Type} (u:Nat) (x0:Nat) (x1:FF) (x2:Nat) (x3:FF) (x4:Nat) (x5:FF) (x6:Int) (x7:Nat) (x8:FF) (x9:Nat) (xA:FF) (xB:Int):Nat→Int→(Int→Option ρ)→(Option ρ)→Option ρ
 | 0,_,_,_=>none
 | m+1,xC,k0,k1 =>
  (bif (decide (xC<xB)) then (bif (inb xC x2) then (bif (inbe xC x2) then (ob (F358 u (listF [(.ro false (.pr .str (.pr (.int .i64) (.pr (.sl (.pr .str .nil)) .nil))) x4 x5),(.i .i64 x6),(.ro false (.pr (.sl (.pr .bool .nil)) .nil) x7 x8),(.ro false (.pr (.int .i64) .nil) x9 xA)]) (xC.toNat-0) x3 (x3 xC.toNat 0).str (x3 xC.toNat 1).str (x3 xC.toNat 2).int (x3 xC.toNat 3).int) fun xD=>(bif (xD != 0) then (k0 xD) else (L359v5 u x0 x1 x2 x3 x4 x5 x6 x7 x8 x9 xA xB m (w64 (xC+1)) k0 k1))) else none) else none) else k1)
theorem nl359v5:∀ (m:Nat) (x0:Int) (k0:Int→Option ρ) (k1:Option ρ),ob (L359v5 u n0 f0 n1 f1 n2 f2 i0 n3 f3 n4 f4 i1 m x0 k0 k1) ng=L359v5 u n0 f0 n1 f1 n2 f2 i0 n3 f3 n4 f4 i1 m x0 (fun x1=>ob (k0 x1) ng) (ob k1 ng)
 | 0,_,_,_=>rfl
 | m+1,x0,k0,k1=>by
  simp only [L359v5,ob_bif,ob_ob,ob_none,nl359v5 m]
theorem q359v5:∀ (m:Nat) (x0:Int),
  loopH (eB A14v3 (C48 u) u) N359v5 m (s359v7 n0 n1 n2 n3 n4 f0 f1 f2 f3 f4 i0 i1 x0) k=L359v5 u n0 f0 n1 f1 n2 f2 i0 n3 f3 n4 f4 i1 m x0 (fun x1=>k .ret (s359v8 x1)) (k (.exit 0) (s359v9 n0 n1 n2 n3 n4 f0 f1 f2 f3 f4 i0))
 | 0,_=>rfl
 | m+1,x0=>by
  simp only [L359v5,← q359v5 m]
  kernel_rfl
def N359v7:St→Option St:=nN 2 (0 :: 1 :: 2 :: (rl 4 5 (rl 10 4 (rl 15 39 (57 :: 58 :: 59 :: (rl 63 28 []))))))
def s359v10:St:=⟨(us 3 (.x (.c (ro kL n0 f0)) :: (us 5 (.x (.c (.rp kC (listF [(ro kE n1 f1),(vi i0),(ro kJ n2 f2),(ro kM n3 f3)]))) :: (us 4 (.x (.ptr 1 0) :: (us 39 (.x (.c (ro kL n0 f0)) :: vxi i1 :: vxi i2 :: (us 3 (.x (.c (ro kL n0 f0)) :: vxi i3 :: vxi i4 :: (us 28 []))))))))))),[.dead,.box [(vcs w0),(vcs w1),(vci i5),(vci i6)]]⟩
def s359v11:St:=⟨(us 8 (vxi 11 :: (us 82 []))),[.dead,.dead,.dead]⟩
def s359v12:St:=⟨(us 3 (.x (.c (ro kL n0 f0)) :: (us 5 (.x (.c (.rp kC (listF [(ro kE n1 f1),(vi i0),(ro kJ n2 f2),(ro kM n3 f3)]))) :: (us 44 (.x (.c (ro kL n0 f0)) :: vxi i1 :: vxi i2 :: (us 34 []))))))),[.dead,.dead]⟩
def L359v7 {ρ:Type} (u:Nat) (x0:Nat) (x1:FF) (x2:Nat) (x3:FF) (x4:Int) (x5:Nat) (x6:FF) (x7:Nat) (x8:FF) (x9 xA xB:Int) (xC xD:ByteArray) (xE xF:Int):Nat→Int→(Option ρ)→(Option ρ)→Option ρ
 | 0,_,_,_=>none
 | m+1,xG,k0,k1 =>
  (bif (decide (xG<xB)) then (bif (inb xG x0) then (ob (F337 u (listF [(.ro false (.pr .str (.pr (.int .i64) (.pr (.sl (.pr .str .nil)) .nil))) x2 x3),(.i .i64 x4),(.ro false (.pr (.sl (.pr .bool .nil)) .nil) x5 x6),(.ro false (.pr (.int .i64) .nil) x7 x8)]) xC) fun xH=>(bif (inb xH x5) then (ob (F337 u (listF [(.ro false (.pr .str (.pr (.int .i64) (.pr (.sl (.pr .str .nil)) .nil))) x2 x3),(.i .i64 x4),(.ro false (.pr (.sl (.pr .bool .nil)) .nil) x5 x6),(.ro false (.pr (.int .i64) .nil) x7 x8)]) (x1 xG.toNat 0).str) fun xI=>(bif (inb xI (x6 xH.toNat 0).len) then (bif (((x6 xH.toNat 0).el xI.toNat 0).bool==true) then (bif (decide (xF>(x1 xG.toNat 2).int)) then k0 else (L359v7 u x0 x1 x2 x3 x4 x5 x6 x7 x8 x9 xA xB xC xD xE xF m (w64 (xG+1)) k0 k1)) else (L359v7 u x0 x1 x2 x3 x4 x5 x6 x7 x8 x9 xA xB xC xD xE xF m (w64 (xG+1)) k0 k1)) else none)) else none)) else none) else k1)
theorem nl359v7:∀ (m:Nat) (x0:Int) (k0:Option ρ) (k1:Option ρ),ob (L359v7 u n0 f0 n1 f1 i0 n2 f2 n3 f3 i1 i2 i3 w0 w1 i4 i5 m x0 k0 k1) ng=L359v7 u n0 f0 n1 f1 i0 n2 f2 n3 f3 i1 i2 i3 w0 w1 i4 i5 m x0 (ob k0 ng) (ob k1 ng)
 | 0,_,_,_=>rfl
 | m+1,x0,k0,k1=>by
  simp only [L359v7,ob_bif,ob_ob,ob_none,nl359v7 m]
theorem q359v7:∀ (m:Nat) (x0:Int),
  loopH (eB A14v6 (C48 u) u) N359v7 m (s359v10 n0 n1 n2 n3 f0 f1 f2 f3 i0 i1 i2 i3 x0 i4 i5 w0 w1) k=L359v7 u n0 f0 n1 f1 i0 n2 f2 n3 f3 i1 i2 i3 w0 w1 i4 i5 m x0 (k .ret s359v11) (k (.exit 4) (s359v12 n0 n1 n2 n3 f0 f1 f2 f3 i0 i1 i2))
 | 0,_=>rfl
 | m+1,x0=>by
  simp only [L359v7,← q359v7 m]
  kernel_rfl
def N359v8:St→Option St:=nN 1 (0 :: 1 :: 2 :: (rl 4 5 (rl 10 44 (rl 57 34 []))))
def s359v13:St:=⟨(us 3 (.x (.c (ro kL n0 f0)) :: (us 5 (.x (.c (.rp kC (listF [(ro kE n1 f1),(vi i0),(ro kJ n2 f2),(ro kM n3 f3)]))) :: (us 44 (.x (.c (ro kL n0 f0)) :: vxi i1 :: vxi i2 :: (us 34 []))))))),[.dead]⟩
def L359v8 {ρ:Type} (u:Nat) (x0:Nat) (x1:FF) (x2:Nat) (x3:FF) (x4:Int) (x5:Nat) (x6:FF) (x7:Nat) (x8:FF) (x9:Int):Nat→Int→(Option ρ)→(Option ρ)→Option ρ
 | 0,_,_,_=>none
 | m+1,xA,k0,k1 =>
  (bif (decide (xA<x9)) then (bif (inb xA x0) then (L359v7 u x0 x1 x2 x3 x4 x5 x6 x7 x8 x9 xA (Int.ofNat x0) (x1 xA.toNat 0).str (x1 xA.toNat 1).str (x1 xA.toNat 2).int (x1 xA.toNat 3).int u 0
  k0
  (L359v8 u x0 x1 x2 x3 x4 x5 x6 x7 x8 x9 m (w64 (xA+1)) k0 k1)) else none) else k1)
theorem nl359v8:∀ (m:Nat) (x0:Int) (k0:Option ρ) (k1:Option ρ),ob (L359v8 u n0 f0 n1 f1 i0 n2 f2 n3 f3 i1 m x0 k0 k1) ng=L359v8 u n0 f0 n1 f1 i0 n2 f2 n3 f3 i1 m x0 (ob k0 ng) (ob k1 ng)
 | 0,_,_,_=>rfl
 | m+1,x0,k0,k1=>by
  simp only [L359v8,ob_bif,ob_ob,ob_none,nl359v8 m,nl359v7]
def s359v14:St:=⟨(us 3 (.x (.c (ro kL n0 f0)) :: (us 5 (.x (.c (.rp kC (listF [(ro kE n1 f1),(vi i0),(ro kJ n2 f2),(ro kM n3 f3)]))) :: (us 4 (.x (.ptr 1 0) :: (us 39 (.x (.c (ro kL n0 f0)) :: vxi i1 :: vxi i2 :: vxb true :: .x (.c (.rp kL (f0 i2.toNat))) :: .agg [(vcs (f0 i2.toNat 0).str),(vcs (f0 i2.toNat 1).str),(vci (f0 i2.toNat 2).int),(vci (f0 i2.toNat 3).int)] :: .x (.c (ro kL n0 f0)) :: vxi (Int.ofNat n0) :: vxi 0 :: (us 28 []))))))))),[.dead,.box [(vcs (f0 i2.toNat 0).str),(vcs (f0 i2.toNat 1).str),(vci (f0 i2.toNat 2).int),(vci (f0 i2.toNat 3).int)]]⟩
theorem r359v8 :
  loopH (eB A14v9 (C48 u) u) N359v8 (m+1) (s359v13 n0 n1 n2 n3 f0 f1 f2 f3 i0 i1 i2) k =
  (bif (decide (i2<i1)) then (bif (inb i2 n0) then (loopN (eB A14v6 (C48 u) u) N359v7 u (s359v14 n0 n1 n2 n3 f0 f1 f2 f3 i0 i1 i2) (kBlk 4 (kBlk 3 (kSeq (C48 u) u (8 :: 14 :: 16 :: (rl 58 32 [])) A14v7 (kLoop (eB A14v9 (C48 u) u) N359v8 m k))))) else none) else (k (.exit 2) s359v5)):=by kernel_rfl
theorem t359v3 :
  loopN (eB A14v6 (C48 u) u) N359v7 u (s359v14 n0 n1 n2 n3 f0 f1 f2 f3 i0 i1 i2) k =
  L359v7 u n0 f0 n1 f1 i0 n2 f2 n3 f3 i1 i2 (Int.ofNat n0) (f0 i2.toNat 0).str (f0 i2.toNat 1).str (f0 i2.toNat 2).int (f0 i2.toNat 3).int u 0 (k .ret s359v11) (k (.exit 4) (s359v12 n0 n1 n2 n3 f0 f1 f2 f3 i0 i1 i2)) :=
 Eq.trans (loopN_at (by kernel_rfl)) (q359v7 ..)
theorem g359v4 :
  (kBlk 4 (kBlk 3 (kSeq (C48 u) u (8 :: 14 :: 16 :: (rl 58 32 [])) A14v7 (kLoop (eB A14v9 (C48 u) u) N359v8 m k)))) .ret s359v11 =
  (k .ret s359v11):=by kernel_rfl
theorem g359v5 :
  (kBlk 4 (kBlk 3 (kSeq (C48 u) u (8 :: 14 :: 16 :: (rl 58 32 [])) A14v7 (kLoop (eB A14v9 (C48 u) u) N359v8 m k)))) (.exit 4) (s359v12 n0 n1 n2 n3 f0 f1 f2 f3 i0 i1 i2) =
  (loopH (eB A14v9 (C48 u) u) N359v8 m (s359v13 n0 n1 n2 n3 f0 f1 f2 f3 i0 i1 (w64 (i2+1))) k):=by kernel_rfl
theorem q359v8:∀ (m:Nat) (x0:Int),
  loopH (eB A14v9 (C48 u) u) N359v8 m (s359v13 n0 n1 n2 n3 f0 f1 f2 f3 i0 i1 x0) k=L359v8 u n0 f0 n1 f1 i0 n2 f2 n3 f3 i1 m x0 (k .ret s359v11) (k (.exit 2) s359v5)
 | 0,_=>rfl
 | m+1,x0=>by
  rw [r359v8]
  simp only [L359v8,q359v8 m,t359v3,g359v4,g359v5]
def F359 (x0:ByteArray) (x1:Nat) (x2:FF) (x3:Nat) (x4:FF) (x5:Nat) (x6:FF) (x7:Nat) (x8:FF) (x9:Nat) (xA:FF) (xB:Nat) (xC:FF) (xD:Int) (xE:Nat) (xF:FF):Option (Int) :=
 (ob (F340 u x0 x1 x2 x3 x4 x5 x6 x7 x8 x9 xA xB xC xD) fun xG=>(bif xG.1 then (bif ((p8 xG) != 0) then (some (p8 xG)) else (bif (decide ((Int.ofNat xE)>(Int.ofNat xB))) then (some 4) else (L359v1 u xB xC xE xF (Int.ofNat xE) u
  (bif (decide ((Int.ofNat xE)<(Int.ofNat xB))) then (some 3) else (L359v4 u xE xF (Int.ofNat xE) u 0
  (some 0)))))) else (bif (decide ((Int.ofNat xE)>(Int.ofNat xB))) then (some 4) else (L359v5 u xB xC xE xF xG.2.1 xG.2.2.1 xG.2.2.2.1 xG.2.2.2.2.1 xG.2.2.2.2.2.1 xG.2.2.2.2.2.2.1 xG.2.2.2.2.2.2.2.1 (Int.ofNat xE) u 0
  (fun xH=>(some xH))
  (bif (decide ((Int.ofNat xE)<(Int.ofNat xB))) then (some 3) else (L359v8 u xE xF xG.2.1 xG.2.2.1 xG.2.2.2.1 xG.2.2.2.2.1 xG.2.2.2.2.2.1 xG.2.2.2.2.2.2.1 xG.2.2.2.2.2.2.2.1 (Int.ofNat xE) u 0
  (some 11)
  (some 0)))))))
def s359v15 (x0:Bool × Nat × FF × Int × Nat × FF × Nat × FF × Int):St:=⟨(.agg [(vcs w0),(.c (ro kF n0 f0)),(.c (ro kB n1 f1)),(.c (ro kI n2 f2)),(.c (ro kD n3 f3)),(.c (ro kG n4 f4))] :: .x (.c (ro kE n5 f5)) :: vxi i0 :: .x (.c (ro kL n6 f6)) :: .x (.c (.rp kA (listF [(.s w0),(ro kF n0 f0),(ro kB n1 f1),(ro kI n2 f2),(ro kD n3 f3),(ro kG n4 f4)]))) :: uu :: uu :: uu :: .u :: .x (.c .any) :: uu :: uu :: uu :: uu :: uu :: uu :: uu :: .tup [.v .any,.v (vi (p8 x0))] :: .agg [(vcs w0),(.c (ro kF n0 f0)),(.c (ro kB n1 f1)),(.c (ro kI n2 f2)),(.c (ro kD n3 f3)),(.c (ro kG n4 f4))] :: .x (.c (ro kE n5 f5)) :: vxi i0 :: .tup [.v .any,.v (vi (p8 x0))] :: .x (.c .any) :: vxi (p8 x0) :: (us 8 [.x (.c (ro kL n6 f6)),vxi (Int.ofNat n6),vxi 0,uu,uu,uu,uu,uu,uu,uu,uu,uu,uu,uu,uu,uu,uu,uu,uu,uu,uu,uu,uu,uu,uu,uu,uu,uu,uu,uu,uu,uu,uu,uu,uu,uu,uu,uu,uu,uu,uu,uu,uu,uu,uu,uu,uu,uu,uu,uu,uu,uu,uu,uu,uu,uu,uu,uu,uu])),[.dead]⟩
def s359v16 (x0:Bool × Nat × FF × Int × Nat × FF × Nat × FF × Int):St:=⟨(.agg [(vcs w0),(.c (ro kF n0 f0)),(.c (ro kB n1 f1)),(.c (ro kI n2 f2)),(.c (ro kD n3 f3)),(.c (ro kG n4 f4))] :: .x (.c (ro kE n5 f5)) :: vxi i0 :: .x (.c (ro kL n6 f6)) :: .x (.c (.rp kA (listF [(.s w0),(ro kF n0 f0),(ro kB n1 f1),(ro kI n2 f2),(ro kD n3 f3),(ro kG n4 f4)]))) :: uu :: uu :: uu :: .u :: .x (.c (.rp kC (listF [(ro kE x0.2.1 x0.2.2.1),(vi x0.2.2.2.1),(ro kJ x0.2.2.2.2.1 x0.2.2.2.2.2.1),(ro kM x0.2.2.2.2.2.2.1 x0.2.2.2.2.2.2.2.1)]))) :: uu :: uu :: uu :: uu :: uu :: uu :: uu :: .tup [.v (.rp kC (listF [(ro kE x0.2.1 x0.2.2.1),(vi x0.2.2.2.1),(ro kJ x0.2.2.2.2.1 x0.2.2.2.2.2.1),(ro kM x0.2.2.2.2.2.2.1 x0.2.2.2.2.2.2.2.1)])),.v (vi 0)] :: .agg [(vcs w0),(.c (ro kF n0 f0)),(.c (ro kB n1 f1)),(.c (ro kI n2 f2)),(.c (ro kD n3 f3)),(.c (ro kG n4 f4))] :: .x (.c (ro kE n5 f5)) :: vxi i0 :: .tup [.v (.rp kC (listF [(ro kE x0.2.1 x0.2.2.1),(vi x0.2.2.2.1),(ro kJ x0.2.2.2.2.1 x0.2.2.2.2.2.1),(ro kM x0.2.2.2.2.2.2.1 x0.2.2.2.2.2.2.2.1)])),.v (vi 0)] :: .x (.c (.rp kC (listF [(ro kE x0.2.1 x0.2.2.1),(vi x0.2.2.2.1),(ro kJ x0.2.2.2.2.1 x0.2.2.2.2.2.1),(ro kM x0.2.2.2.2.2.2.1 x0.2.2.2.2.2.2.2.1)]))) :: vxi 0 :: (us 8 [.x (.c (ro kL n6 f6)),vxi (Int.ofNat n6),vxi 0,uu,uu,uu,uu,uu,uu,uu,uu,uu,uu,uu,uu,uu,uu,uu,uu,uu,uu,uu,uu,uu,uu,uu,uu,uu,uu,uu,uu,uu,uu,uu,uu,uu,uu,uu,uu,uu,uu,uu,uu,uu,uu,uu,uu,uu,uu,uu,uu,uu,uu,uu,uu,uu,uu,uu,uu])),[.dead]⟩
theorem t359v6 (x0:Bool × Nat × FF × Int × Nat × FF × Nat × FF × Int) :
  loopN (eB A14v3 (C48 u) u) N359v1 u (s359v15 n0 n1 n2 n3 n4 n5 n6 f0 f1 f2 f3 f4 f5 f6 i0 w0 x0) k =
  L359v1 u n5 f5 n6 f6 (Int.ofNat n6) u (k (.exit 0) (s359v1 n5 n6 f5 f6)) :=
 Eq.trans (loopN_at (by kernel_rfl)) (q359v1 ..)
def s359v17:St:=⟨(.u :: .x (.c (ro kE n0 f0)) :: .u :: .x (.c (ro kL n1 f1)) :: (us 5 (.x (.c .any) :: (us 44 (.x (.c (ro kL n1 f1)) :: vxi (Int.ofNat n1) :: vxi 0 :: (us 34 [])))))),[.dead]⟩
theorem g359v7 :
  (kBlk 0 (kSeq (C48 u) u (8 :: 10 :: 11 :: 12 :: (rl 32 17 [])) A14v12 (finish A14))) (.exit 0) (s359v1 n0 n1 f0 f1) =
  (bif (decide ((Int.ofNat n1)<(Int.ofNat n0))) then (some [.v (vi 3)]) else (loopN (eB A14v9 (C48 u) u) N359v4 u (s359v17 n0 n1 f0 f1) (kBlk 2 (kSeq (C48 u) u (8 :: 14 :: 16 :: (rl 54 37 [])) A14v10 (finish A14))))):=by kernel_rfl
theorem t359v8 :
  loopN (eB A14v9 (C48 u) u) N359v4 u (s359v17 n0 n1 f0 f1) k =
  L359v4 u n1 f1 (Int.ofNat n1) u 0 (k (.exit 2) s359v5) :=
 Eq.trans (loopN_at (by kernel_rfl)) (q359v4 ..)
theorem g359v9 :
  (kBlk 2 (kSeq (C48 u) u (8 :: 14 :: 16 :: (rl 54 37 [])) A14v10 (finish A14))) (.exit 2) s359v5 =
  (some [.v (vi 0)]):=by kernel_rfl
theorem t359v10 (x0:Bool × Nat × FF × Int × Nat × FF × Nat × FF × Int) :
  loopN (eB A14v3 (C48 u) u) N359v5 u (s359v16 n0 n1 n2 n3 n4 n5 n6 f0 f1 f2 f3 f4 f5 f6 i0 w0 x0) k =
  L359v5 u n5 f5 n6 f6 x0.2.1 x0.2.2.1 x0.2.2.2.1 x0.2.2.2.2.1 x0.2.2.2.2.2.1 x0.2.2.2.2.2.2.1 x0.2.2.2.2.2.2.2.1 (Int.ofNat n6) u 0 (fun x1=>k .ret (s359v8 x1)) (k (.exit 0) (s359v9 n5 n6 x0.2.1 x0.2.2.2.2.1 x0.2.2.2.2.2.2.1 f5 f6 x0.2.2.1 x0.2.2.2.2.2.1 x0.2.2.2.2.2.2.2.1 x0.2.2.2.1)) :=
 Eq.trans (loopN_at (by kernel_rfl)) (q359v5 ..)
theorem g359v11 :
  (kBlk 0 (kSeq (C48 u) u (8 :: 10 :: 11 :: 12 :: (rl 32 17 [])) A14v12 (finish A14))) .ret (s359v8 i0) =
  (some [.v (vi i0)]):=by kernel_rfl
def s359v18 (x0:Bool × Nat × FF × Int × Nat × FF × Nat × FF × Int):St:=⟨(.u :: .x (.c (ro kE n0 f0)) :: .u :: .x (.c (ro kL n1 f1)) :: (us 5 (.x (.c (.rp kC (listF [(ro kE x0.2.1 x0.2.2.1),(vi x0.2.2.2.1),(ro kJ x0.2.2.2.2.1 x0.2.2.2.2.2.1),(ro kM x0.2.2.2.2.2.2.1 x0.2.2.2.2.2.2.2.1)]))) :: (us 44 (.x (.c (ro kL n1 f1)) :: vxi (Int.ofNat n1) :: vxi 0 :: (us 34 [])))))),[.dead]⟩
theorem g359v12 (x0:Bool × Nat × FF × Int × Nat × FF × Nat × FF × Int) :
  (kBlk 0 (kSeq (C48 u) u (8 :: 10 :: 11 :: 12 :: (rl 32 17 [])) A14v12 (finish A14))) (.exit 0) (s359v9 n0 n1 x0.2.1 x0.2.2.2.2.1 x0.2.2.2.2.2.2.1 f0 f1 x0.2.2.1 x0.2.2.2.2.2.1 x0.2.2.2.2.2.2.2.1 x0.2.2.2.1) =
  (bif (decide ((Int.ofNat n1)<(Int.ofNat n0))) then (some [.v (vi 3)]) else (loopN (eB A14v9 (C48 u) u) N359v8 u (s359v18 n0 n1 f0 f1 x0) (kBlk 2 (kSeq (C48 u) u (8 :: 14 :: 16 :: (rl 54 37 [])) A14v10 (finish A14))))):=by kernel_rfl
theorem t359v13 (x0:Bool × Nat × FF × Int × Nat × FF × Nat × FF × Int) :
  loopN (eB A14v9 (C48 u) u) N359v8 u (s359v18 n0 n1 f0 f1 x0) k =
  L359v8 u n1 f1 x0.2.1 x0.2.2.1 x0.2.2.2.1 x0.2.2.2.2.1 x0.2.2.2.2.2.1 x0.2.2.2.2.2.2.1 x0.2.2.2.2.2.2.2.1 (Int.ofNat n1) u 0 (k .ret s359v11) (k (.exit 2) s359v5) :=
 Eq.trans (loopN_at (by kernel_rfl)) (q359v8 ..)
theorem g359v14 :
  (kBlk 2 (kSeq (C48 u) u (8 :: 14 :: 16 :: (rl 54 37 [])) A14v10 (finish A14))) .ret s359v11 =
  (some [.v (vi 11)]):=by kernel_rfl
theorem g359v15 :
  (kBlk 2 (kSeq (C48 u) u (8 :: 14 :: 16 :: (rl 54 37 [])) A14v10 (finish A14))) (.exit 2) s359v5 =
  (some [.v (vi 0)]):=by kernel_rfl
theorem e359:evalF (C48 u) u A14 [.agg [(.s w0),(ro kF n0 f0),(ro kB n1 f1),(ro kI n2 f2),(ro kD n3 f3),(ro kG n4 f4)],.v (ro kE n5 f5),.v (vi i0),.v (ro kL n6 f6)]=ob (F359 u w0 n0 f0 n1 f1 n2 f2 n3 f3 n4 f4 n5 f5 i0 n6 f6) fun t=>some [.v (vi t)]:=Eq.trans (b:=(ob (F340 u w0 n0 f0 n1 f1 n2 f2 n3 f3 n4 f4 n5 f5 i0) fun x0=>(bif x0.1 then (bif ((p8 x0) != 0) then (some [.v (vi (p8 x0))]) else (bif (decide ((Int.ofNat n6)>(Int.ofNat n5))) then (some [.v (vi 4)]) else (loopN (eB A14v3 (C48 u) u) N359v1 u (s359v15 n0 n1 n2 n3 n4 n5 n6 f0 f1 f2 f3 f4 f5 f6 i0 w0 x0) (kBlk 0 (kSeq (C48 u) u (8 :: 10 :: 11 :: 12 :: (rl 32 17 [])) A14v12 (finish A14)))))) else (bif (decide ((Int.ofNat n6)>(Int.ofNat n5))) then (some [.v (vi 4)]) else (loopN (eB A14v3 (C48 u) u) N359v5 u (s359v16 n0 n1 n2 n3 n4 n5 n6 f0 f1 f2 f3 f4 f5 f6 i0 w0 x0) (kBlk 0 (kSeq (C48 u) u (8 :: 10 :: 11 :: 12 :: (rl 32 17 [])) A14v12 (finish A14)))))))) (by kernel_rfl) (by
 simp only [F359,ob_bif,ob_ob,ob_none,ob_some,nl359v1,nl359v4,nl359v5,nl359v8,t359v6,g359v7,t359v8,g359v9,t359v10,g359v11,g359v12,t359v13,g359v14,g359v15])
def O359:Ora:=mkO (qc (ag (tc cS (tc (cL kF) (tc (cL kB) (tc (cL kI) (tc (cL kD) (t1 (cL kG)))))))) (qc (av (cL kE)) (qc (av ci) (q1 (av (cL kL)))))) (fun x=>F359 u x.1.1 x.1.2.1.1 x.1.2.1.2 x.1.2.2.1.1 x.1.2.2.1.2 x.1.2.2.2.1.1 x.1.2.2.2.1.2 x.1.2.2.2.2.1.1 x.1.2.2.2.2.1.2 x.1.2.2.2.2.2.1 x.1.2.2.2.2.2.2 x.2.1.1 x.2.1.2 x.2.2.1 x.2.2.2.1 x.2.2.2.2) fun t=>[.v (vi t)]
theorem d359:DO (O359 u) (C48 u) 14 A14:=dO u (fun x=>by exact e359 u x.1.2.1.1 x.1.2.2.1.1 x.1.2.2.2.1.1 x.1.2.2.2.2.1.1 x.1.2.2.2.2.2.1 x.2.1.1 x.2.2.2.1 x.1.2.1.2 x.1.2.2.1.2 x.1.2.2.2.1.2 x.1.2.2.2.2.1.2 x.1.2.2.2.2.2.2 x.2.1.2 x.2.2.2.2 x.2.2.1 x.1.1)
def C49:Oracle:=(C48 u).add 14 (fun _=>true) (O359 u)
def A11v1:AC:=(.seq (.region 9 [mv 88 3,o1 89 (.indexAddr 30 55 4 (tm 88) (ic 0)),o1 90 (ln 55 4 89),mv 91 3,o1 92 (.indexAddr 30 55 4 (tm 91) (ic 1)),o1 93 (ln 55 4 92),o1 94 (.build 55 [vcs ByteArray.empty,vcs ByteArray.empty,vci 0,vci 0] [(0,1),(1,1),(2,1),(3,1)] 0 [(0,(.const (.string (ByteArray.mk #[67])))),(1,(.const (.string (ByteArray.mk #[75])))),(2,(ic 1)),(3,(ic 2))]),o1 95 (.buildSlice 0 30 55 kL 3 [vcs ByteArray.empty,vcs ByteArray.empty,vci 0,vci 0] [(0,(tm 90)),(1,(tm 93)),(2,(tm 94))]),o1 12 (sg 95)] 1 (some [[],[0],[0,1],[],[3],[3,4],[],(rl 0 7 []),(rl 0 8 [])])) []
 (.seq (.region 10 [mv 96 3,o1 97 (.indexAddr 30 55 4 (tm 96) (ic 0)),o1 98 (ln 55 4 97),mv 99 3,o1 100 (.indexAddr 30 55 4 (tm 99) (ic 1)),o1 101 (ln 55 4 100),o1 102 (.build 55 [vcs ByteArray.empty,vcs ByteArray.empty,vci 0,vci 0] [(0,1),(1,1),(2,1),(3,1)] 0 [(0,(.const (.string (ByteArray.mk #[67])))),(1,(.const (.string (ByteArray.mk #[77])))),(2,(ic 2)),(3,(ic 3))]),o1 103 (.buildSlice 0 30 55 kL 3 [vcs ByteArray.empty,vcs ByteArray.empty,vci 0,vci 0] [(0,(tm 98)),(1,(tm 101)),(2,(tm 102))]),o1 13 (sg 103)] 1 (some [[],[0],[0,1],[],[3],[3,4],[],(rl 0 7 []),(rl 0 8 [])])) []
 (.seq (.region 11 [o1 104 (ln 28 6 1),mv 105 2,mv 106 3,o1 107 (.call 14 [(tm 104),(tm 105),(ic 0),(tm 106)] [28,29,3,30] .snap),o1 108 (bk .eql 35 107 0),mv 109 108,og 110 (ln 28 6 1) 109 true,og 111 (.move (tm 2)) 109 true,og 112 (.move (tm 3)) 109 true,og 113 (.call 14 [(tm 110),(tm 111),(ic 1),(tm 112)] [28,29,3,30] .snap) 109 true,og 114 (bk .eql 35 113 15) 109 true,o1 115 (po 109 114),mv 116 115,og 117 (ln 28 6 1) 116 true,og 118 (.move (tm 2)) 116 true,og 119 (.move (tm 12)) 116 true,og 120 (.call 14 [(tm 117),(tm 118),(ic 0),(tm 119)] [28,29,3,30] .snap) 116 true,og 121 (bk .eql 35 120 19) 116 true,o1 122 (po 116 121),mv 123 122,og 124 (ln 28 6 1) 123 true,og 125 (.move (tm 2)) 123 true,og 126 (.move (tm 13)) 123 true,og 127 (.call 14 [(tm 124),(tm 125),(ic 0),(tm 126)] [28,29,3,30] .snap) 123 true,og 128 (bk .eql 35 127 25) 123 true,o1 129 (po 123 128),mv 130 129,og 131 (ln 28 6 1) 130 true,og 132 (.move (tm 2)) 130 true,og 133 (.move (tm 3)) 130 true,og 134 (.slice 30 55 4 (tm 133) none (some (ic 2)) none) 130 true,og 135 (.call 14 [(tm 131),(tm 132),(ic 0),(tm 134)] [28,29,3,30] .snap) 130 true,og 136 (bk .eql 35 135 3) 130 true,o1 137 (po 130 136),o1 0 (sg 137)] 0 (some [[],[],[],[0,1,2],(rl 0 4 []),(rl 0 5 []),(rl 0 6 []),(rl 0 6 []),(rl 0 6 []),(rl 0 9 []),(rl 0 10 []),(rl 0 11 []),(rl 0 12 []),(rl 0 13 []),(rl 0 13 []),(rl 0 13 []),(rl 0 16 []),(rl 0 17 []),(rl 0 18 []),(rl 0 19 []),(rl 0 20 []),(rl 0 20 []),(rl 0 20 []),(rl 0 23 []),(rl 0 24 []),(rl 0 25 []),(rl 0 26 []),(rl 0 27 []),(rl 0 27 []),(rl 0 27 []),(rl 0 27 [29]),(rl 0 31 []),(rl 0 32 []),(rl 0 33 []),(rl 0 34 [])])) []
 (.ghost (rl 0 5 []) (.ret (rl 1 137 []))))))
def A11:AF:=⟨138,[.tmp 0],
 (.seq (.region 0 [o1 0 (sb false)] 0 none) []
 (.seq (.region 1 [o1 15 (cf 27 [] []),mv 14 15,o1 16 (.extract (tm 14) 0),o1 17 (.extract (tm 14) 1),o1 1 (.alloc 0 28 [vcs ByteArray.empty,vcn,vcn,vcn,vcn,vcn]),o0 (.store 28 6 (tm 1) (tm 16)),o1 2 (sg 17)] 1 none) []
 (.seq (.region 2 [o1 18 (.build 55 [vcs ByteArray.empty,vcs ByteArray.empty,vci 0,vci 0] [(0,1),(1,1),(2,1),(3,1)] 0 [(0,(.const (.string (ByteArray.mk #[65])))),(1,(.const (.string (ByteArray.mk #[75])))),(3,(ic 2))]),o1 19 (.build 55 [vcs ByteArray.empty,vcs ByteArray.empty,vci 0,vci 0] [(0,1),(1,1),(2,1),(3,1)] 0 [(0,(.const (.string (ByteArray.mk #[66])))),(1,(.const (.string (ByteArray.mk #[76])))),(3,(ic 3))]),o1 20 (.build 55 [vcs ByteArray.empty,vcs ByteArray.empty,vci 0,vci 0] [(0,1),(1,1),(2,1),(3,1)] 0 [(0,(.const (.string (ByteArray.mk #[67])))),(1,(.const (.string (ByteArray.mk #[75])))),(2,(ic 2)),(3,(ic 3))]),o1 21 (.buildSlice 0 30 55 kL 3 [vcs ByteArray.empty,vcs ByteArray.empty,vci 0,vci 0] [(0,(tm 18)),(1,(tm 19)),(2,(tm 20))]),o1 3 (sg 21)] 1 none) []
 (.seq (.region 3 [o1 23 (ln 28 6 1),mv 24 2,o1 25 (.call 18 [(tm 23),(tm 24),(ic 0)] [28,29,3] .freeze),mv 22 25,o1 26 (.extract (tm 22) 0),o1 27 (.extract (tm 22) 1),o1 4 (sg 26),o1 5 (sg 27)] 0 none) []
 (.seq (.region 4 [o1 29 (ln 28 6 1),mv 30 2,o1 31 (.call 23 [(tm 29),(tm 30),(ic 0),(ic 1000)] [28,29,3,3] .freeze),mv 28 31,o1 32 (.extract (tm 28) 0),o1 33 (.extract (tm 28) 1),o1 6 (sg 32),o1 7 (sg 33)] 0 none) []
 (.seq (.region 5 [o1 35 (ln 28 6 1),mv 36 2,o1 37 (.call 23 [(tm 35),(tm 36),(ic 0),(ic 0)] [28,29,3,3] .freeze),mv 34 37,o1 38 (.extract (tm 34) 0),o1 39 (.extract (tm 34) 1),o1 8 (sg 38),o1 9 (sg 39)] 0 none) []
 (.seq (.region 6 [o1 41 (ln 28 6 1),mv 42 2,o1 43 (.call 20 [(tm 41),(tm 42),(ic 7)] [28,29,3] .snap),mv 40 43,o1 44 (.extract (tm 40) 0),o1 45 (.extract (tm 40) 1),o1 10 (sg 44),o1 11 (sg 45)] 0 none) []
 (.seq (.seq (.region 7 [mv 46 5,o1 47 (bk .neq 35 46 0),mv 48 47,og 49 (.move (tm 7)) 48 false,og 50 (bk .neq 35 49 0) 48 false,o1 51 (pa 48 50),mv 52 51,og 53 (.move (tm 9)) 52 false,og 54 (bk .neq 35 53 29) 52 false,o1 55 (pa 52 54),mv 56 55,og 57 (.move (tm 11)) 56 false,og 58 (bk .neq 35 57 0) 56 false,o1 59 (pa 56 58),mv 60 59,og 61 (.move (tm 10)) 60 false,og 62 (bk .neq 3 61 10) 60 false,o1 63 (pa 60 62),mv 64 63,og 65 (.move (tm 4)) 64 false,og 66 (.move (tm 3)) 64 false,og 67 (cs 22 [65,66] [30,30]) 64 false,og 68 (.unOp .not 4 (tm 67)) 64 false,o1 69 (pa 64 68),mv 70 69,og 71 (.move (tm 6)) 70 false,og 72 (cs 16 [71] [30]) 70 false,og 73 (bk .neq 3 72 3) 70 false,o1 74 (pa 70 73),mv 75 74,og 76 (ln 28 6 1) 75 false,og 77 (.move (tm 2)) 75 false,og 78 (cs 12 [76,77] [28,29]) 75 false,og 79 (bk .neq 35 78 0) 75 false,o1 80 (pa 75 79),mv 81 80,og 82 (ln 28 6 1) 81 false,og 83 (.build 53 [vcs ByteArray.empty,vci 0,.c (.ro true kO 0 nilF)] [(0,1),(1,1),(2,1)] 0 [(0,(.const (.string (ByteArray.mk #[88]))))]) 81 false,og 84 (.buildSlice 0 29 53 kE 1 [vcs ByteArray.empty,vci 0,.c (.ro true kO 0 nilF)] [(0,(tm 83))]) 81 false,og 85 (cs 12 [82,84] [28,29]) 81 false,og 86 (bk .neq 35 85 8) 81 false,o1 87 (pa 81 86)] 1 none) []
 (.cond (tm 87)
 (.seq (.region 8 [o1 0 (sb false)] 0 none) []
  (.ghost [0,1,2] (.ret (rl 1 137 []))))
 .skip)) (0 :: (rl 46 42 []))
 A11v1))))))))⟩
def F360:Option (Bool) :=
 (ob (F331 u) fun x0=>(ob (F345 u x0.1 x0.2.1 x0.2.2.1 x0.2.2.2.1 x0.2.2.2.2.1 x0.2.2.2.2.2.1 x0.2.2.2.2.2.2.1 x0.2.2.2.2.2.2.2.1 (p8 x0).1 (p8 x0).2.1 (p8 x0).2.2.1 (p8 x0).2.2.2.1 (p8 x0).2.2.2.2 0) fun x1=>(ob (F353 u x0.1 x0.2.1 x0.2.2.1 x0.2.2.2.1 x0.2.2.2.2.1 x0.2.2.2.2.2.1 x0.2.2.2.2.2.2.1 x0.2.2.2.2.2.2.2.1 (p8 x0).1 (p8 x0).2.1 (p8 x0).2.2.1 (p8 x0).2.2.2.1 (p8 x0).2.2.2.2 0 1000) fun x2=>(ob (F353 u x0.1 x0.2.1 x0.2.2.1 x0.2.2.2.1 x0.2.2.2.2.1 x0.2.2.2.2.2.1 x0.2.2.2.2.2.2.1 x0.2.2.2.2.2.2.2.1 (p8 x0).1 (p8 x0).2.1 (p8 x0).2.2.1 (p8 x0).2.2.2.1 (p8 x0).2.2.2.2 0 0) fun x3=>(ob (F354 u x0.1 x0.2.1 x0.2.2.1 x0.2.2.2.1 x0.2.2.2.2.1 x0.2.2.2.2.2.1 x0.2.2.2.2.2.2.1 x0.2.2.2.2.2.2.2.1 (p8 x0).1 (p8 x0).2.1 (p8 x0).2.2.1 (p8 x0).2.2.2.1 (p8 x0).2.2.2.2 7) fun x4=>(bif ((x1.2.2 != 0)==false) then (bif ((x2.2.2 != 0)==false) then (bif ((x3.2.2 != 29)==false) then (bif ((x4.2 != 0)==false) then (bif ((x4.1 != 10)==false) then (ob (F355 u x1.1 x1.2.1 3 (rowsF 4 [(.s (ByteArray.mk #[65])),(.s (ByteArray.mk #[75])),(.i .i64 0),(.i .i64 2),(.s (ByteArray.mk #[66])),(.s (ByteArray.mk #[76])),(.i .i64 0),(.i .i64 3),(.s (ByteArray.mk #[67])),(.s (ByteArray.mk #[75])),(.i .i64 2),(.i .i64 3)])) fun x5=>(bif ((!x5)==false) then (ob (F346 u x2.1 x2.2.1) fun x6=>(bif ((x6 != 3)==false) then (ob (F333 u x0.1 x0.2.1 x0.2.2.1 x0.2.2.2.1 x0.2.2.2.2.1 x0.2.2.2.2.2.1 x0.2.2.2.2.2.2.1 x0.2.2.2.2.2.2.2.1 (p8 x0).1 (p8 x0).2.1 (p8 x0).2.2.1 (p8 x0).2.2.2.1 (p8 x0).2.2.2.2) fun x7=>(bif ((x7 != 0)==false) then (ob (F333 u x0.1 x0.2.1 x0.2.2.1 x0.2.2.2.1 x0.2.2.2.2.1 x0.2.2.2.2.2.1 x0.2.2.2.2.2.2.1 x0.2.2.2.2.2.2.2.1 (p8 x0).1 (p8 x0).2.1 (p8 x0).2.2.1 1 (rowsF 3 [(.s (ByteArray.mk #[88])),(.i .i64 0),(.ro true (.pr .str .nil) 0 (fun _ _=>.any))])) fun x8=>(bif (x8 != 8) then (some false) else (ob (F359 u x0.1 x0.2.1 x0.2.2.1 x0.2.2.2.1 x0.2.2.2.2.1 x0.2.2.2.2.2.1 x0.2.2.2.2.2.2.1 x0.2.2.2.2.2.2.2.1 (p8 x0).1 (p8 x0).2.1 (p8 x0).2.2.1 (p8 x0).2.2.2.1 (p8 x0).2.2.2.2 0 3 (rowsF 4 [(.s (ByteArray.mk #[65])),(.s (ByteArray.mk #[75])),(.i .i64 0),(.i .i64 2),(.s (ByteArray.mk #[66])),(.s (ByteArray.mk #[76])),(.i .i64 0),(.i .i64 3),(.s (ByteArray.mk #[67])),(.s (ByteArray.mk #[75])),(.i .i64 2),(.i .i64 3)])) fun x9=>(bif ((x9==0)==true) then (ob (F359 u x0.1 x0.2.1 x0.2.2.1 x0.2.2.2.1 x0.2.2.2.2.1 x0.2.2.2.2.2.1 x0.2.2.2.2.2.2.1 x0.2.2.2.2.2.2.2.1 (p8 x0).1 (p8 x0).2.1 (p8 x0).2.2.1 (p8 x0).2.2.2.1 (p8 x0).2.2.2.2 1 3 (rowsF 4 [(.s (ByteArray.mk #[65])),(.s (ByteArray.mk #[75])),(.i .i64 0),(.i .i64 2),(.s (ByteArray.mk #[66])),(.s (ByteArray.mk #[76])),(.i .i64 0),(.i .i64 3),(.s (ByteArray.mk #[67])),(.s (ByteArray.mk #[75])),(.i .i64 2),(.i .i64 3)])) fun xA=>(bif ((xA==15)==true) then (ob (F359 u x0.1 x0.2.1 x0.2.2.1 x0.2.2.2.1 x0.2.2.2.2.1 x0.2.2.2.2.2.1 x0.2.2.2.2.2.2.1 x0.2.2.2.2.2.2.2.1 (p8 x0).1 (p8 x0).2.1 (p8 x0).2.2.1 (p8 x0).2.2.2.1 (p8 x0).2.2.2.2 0 3 (rowsF 4 [(.s (CV.str ((rowsF 4 [(.s (ByteArray.mk #[65])),(.s (ByteArray.mk #[75])),(.i .i64 0),(.i .i64 2),(.s (ByteArray.mk #[66])),(.s (ByteArray.mk #[76])),(.i .i64 0),(.i .i64 3),(.s (ByteArray.mk #[67])),(.s (ByteArray.mk #[75])),(.i .i64 2),(.i .i64 3)]) 0 0))),(.s (CV.str ((rowsF 4 [(.s (ByteArray.mk #[65])),(.s (ByteArray.mk #[75])),(.i .i64 0),(.i .i64 2),(.s (ByteArray.mk #[66])),(.s (ByteArray.mk #[76])),(.i .i64 0),(.i .i64 3),(.s (ByteArray.mk #[67])),(.s (ByteArray.mk #[75])),(.i .i64 2),(.i .i64 3)]) 0 1))),(.i .i64 (CV.int ((rowsF 4 [(.s (ByteArray.mk #[65])),(.s (ByteArray.mk #[75])),(.i .i64 0),(.i .i64 2),(.s (ByteArray.mk #[66])),(.s (ByteArray.mk #[76])),(.i .i64 0),(.i .i64 3),(.s (ByteArray.mk #[67])),(.s (ByteArray.mk #[75])),(.i .i64 2),(.i .i64 3)]) 0 2))),(.i .i64 (CV.int ((rowsF 4 [(.s (ByteArray.mk #[65])),(.s (ByteArray.mk #[75])),(.i .i64 0),(.i .i64 2),(.s (ByteArray.mk #[66])),(.s (ByteArray.mk #[76])),(.i .i64 0),(.i .i64 3),(.s (ByteArray.mk #[67])),(.s (ByteArray.mk #[75])),(.i .i64 2),(.i .i64 3)]) 0 3))),(.s (CV.str ((rowsF 4 [(.s (ByteArray.mk #[65])),(.s (ByteArray.mk #[75])),(.i .i64 0),(.i .i64 2),(.s (ByteArray.mk #[66])),(.s (ByteArray.mk #[76])),(.i .i64 0),(.i .i64 3),(.s (ByteArray.mk #[67])),(.s (ByteArray.mk #[75])),(.i .i64 2),(.i .i64 3)]) 1 0))),(.s (CV.str ((rowsF 4 [(.s (ByteArray.mk #[65])),(.s (ByteArray.mk #[75])),(.i .i64 0),(.i .i64 2),(.s (ByteArray.mk #[66])),(.s (ByteArray.mk #[76])),(.i .i64 0),(.i .i64 3),(.s (ByteArray.mk #[67])),(.s (ByteArray.mk #[75])),(.i .i64 2),(.i .i64 3)]) 1 1))),(.i .i64 (CV.int ((rowsF 4 [(.s (ByteArray.mk #[65])),(.s (ByteArray.mk #[75])),(.i .i64 0),(.i .i64 2),(.s (ByteArray.mk #[66])),(.s (ByteArray.mk #[76])),(.i .i64 0),(.i .i64 3),(.s (ByteArray.mk #[67])),(.s (ByteArray.mk #[75])),(.i .i64 2),(.i .i64 3)]) 1 2))),(.i .i64 (CV.int ((rowsF 4 [(.s (ByteArray.mk #[65])),(.s (ByteArray.mk #[75])),(.i .i64 0),(.i .i64 2),(.s (ByteArray.mk #[66])),(.s (ByteArray.mk #[76])),(.i .i64 0),(.i .i64 3),(.s (ByteArray.mk #[67])),(.s (ByteArray.mk #[75])),(.i .i64 2),(.i .i64 3)]) 1 3))),(.s (ByteArray.mk #[67])),(.s (ByteArray.mk #[75])),(.i .i64 1),(.i .i64 2)])) fun xB=>(bif ((xB==19)==true) then (ob (F359 u x0.1 x0.2.1 x0.2.2.1 x0.2.2.2.1 x0.2.2.2.2.1 x0.2.2.2.2.2.1 x0.2.2.2.2.2.2.1 x0.2.2.2.2.2.2.2.1 (p8 x0).1 (p8 x0).2.1 (p8 x0).2.2.1 (p8 x0).2.2.2.1 (p8 x0).2.2.2.2 0 3 (rowsF 4 [(.s (CV.str ((rowsF 4 [(.s (ByteArray.mk #[65])),(.s (ByteArray.mk #[75])),(.i .i64 0),(.i .i64 2),(.s (ByteArray.mk #[66])),(.s (ByteArray.mk #[76])),(.i .i64 0),(.i .i64 3),(.s (ByteArray.mk #[67])),(.s (ByteArray.mk #[75])),(.i .i64 2),(.i .i64 3)]) 0 0))),(.s (CV.str ((rowsF 4 [(.s (ByteArray.mk #[65])),(.s (ByteArray.mk #[75])),(.i .i64 0),(.i .i64 2),(.s (ByteArray.mk #[66])),(.s (ByteArray.mk #[76])),(.i .i64 0),(.i .i64 3),(.s (ByteArray.mk #[67])),(.s (ByteArray.mk #[75])),(.i .i64 2),(.i .i64 3)]) 0 1))),(.i .i64 (CV.int ((rowsF 4 [(.s (ByteArray.mk #[65])),(.s (ByteArray.mk #[75])),(.i .i64 0),(.i .i64 2),(.s (ByteArray.mk #[66])),(.s (ByteArray.mk #[76])),(.i .i64 0),(.i .i64 3),(.s (ByteArray.mk #[67])),(.s (ByteArray.mk #[75])),(.i .i64 2),(.i .i64 3)]) 0 2))),(.i .i64 (CV.int ((rowsF 4 [(.s (ByteArray.mk #[65])),(.s (ByteArray.mk #[75])),(.i .i64 0),(.i .i64 2),(.s (ByteArray.mk #[66])),(.s (ByteArray.mk #[76])),(.i .i64 0),(.i .i64 3),(.s (ByteArray.mk #[67])),(.s (ByteArray.mk #[75])),(.i .i64 2),(.i .i64 3)]) 0 3))),(.s (CV.str ((rowsF 4 [(.s (ByteArray.mk #[65])),(.s (ByteArray.mk #[75])),(.i .i64 0),(.i .i64 2),(.s (ByteArray.mk #[66])),(.s (ByteArray.mk #[76])),(.i .i64 0),(.i .i64 3),(.s (ByteArray.mk #[67])),(.s (ByteArray.mk #[75])),(.i .i64 2),(.i .i64 3)]) 1 0))),(.s (CV.str ((rowsF 4 [(.s (ByteArray.mk #[65])),(.s (ByteArray.mk #[75])),(.i .i64 0),(.i .i64 2),(.s (ByteArray.mk #[66])),(.s (ByteArray.mk #[76])),(.i .i64 0),(.i .i64 3),(.s (ByteArray.mk #[67])),(.s (ByteArray.mk #[75])),(.i .i64 2),(.i .i64 3)]) 1 1))),(.i .i64 (CV.int ((rowsF 4 [(.s (ByteArray.mk #[65])),(.s (ByteArray.mk #[75])),(.i .i64 0),(.i .i64 2),(.s (ByteArray.mk #[66])),(.s (ByteArray.mk #[76])),(.i .i64 0),(.i .i64 3),(.s (ByteArray.mk #[67])),(.s (ByteArray.mk #[75])),(.i .i64 2),(.i .i64 3)]) 1 2))),(.i .i64 (CV.int ((rowsF 4 [(.s (ByteArray.mk #[65])),(.s (ByteArray.mk #[75])),(.i .i64 0),(.i .i64 2),(.s (ByteArray.mk #[66])),(.s (ByteArray.mk #[76])),(.i .i64 0),(.i .i64 3),(.s (ByteArray.mk #[67])),(.s (ByteArray.mk #[75])),(.i .i64 2),(.i .i64 3)]) 1 3))),(.s (ByteArray.mk #[67])),(.s (ByteArray.mk #[77])),(.i .i64 2),(.i .i64 3)])) fun xC=>(bif ((xC==25)==true) then (ob (F359 u x0.1 x0.2.1 x0.2.2.1 x0.2.2.2.1 x0.2.2.2.2.1 x0.2.2.2.2.2.1 x0.2.2.2.2.2.2.1 x0.2.2.2.2.2.2.2.1 (p8 x0).1 (p8 x0).2.1 (p8 x0).2.2.1 (p8 x0).2.2.2.1 (p8 x0).2.2.2.2 0 2 (rowsF 4 [(.s (ByteArray.mk #[65])),(.s (ByteArray.mk #[75])),(.i .i64 0),(.i .i64 2),(.s (ByteArray.mk #[66])),(.s (ByteArray.mk #[76])),(.i .i64 0),(.i .i64 3),(.s (ByteArray.mk #[67])),(.s (ByteArray.mk #[75])),(.i .i64 2),(.i .i64 3)])) fun xD=>(some (xD==3))) else (some false))) else (some false))) else (some false))) else (some false))))) else (some false))) else (some false))) else (some false))) else (some false)) else (some false)) else (some false)) else (some false)) else (some false)))))))
theorem e360:evalF (C49 u) u A11 []=ob (F360 u) fun t=>some [.v (.b t)]:=by
 simp only [F360,ob_bif,ob_ob,ob_none,ob_some]
 kernel_rfl
def O360:Ora:=mkO q0 (fun x=>F360 u) fun t=>[.v (.b t)]
theorem d360:DO (O360 u) (C49 u) 11 A11:=dO u (fun x=>by exact e360 u)
def C50:Oracle:=(C49 u).add 11 (fun _=>true) (O360 u)
def A33v1:AC:=(.region 4 [mv 10 4,o1 11 (bk .add 3 10 1),o1 4 (sg 11)] 0 none)
def A33v2:AC:=(.seq (.block 1
 (.seq (.region 5 [o1 12 (fa 28 1 1 1),o1 13 (lo 22 12),mv 14 4,o1 15 (.indexAddr 22 99 3 (tm 13) (tm 14)),o1 16 (fa 99 15 1 1),o1 17 (lo 3 16),o1 18 (bk .eql 3 17 1)] 0 none) []
  (.cond (tm 18)
  (.region 6 [mv 19 3,o1 20 (fa 28 1 1 1),o1 21 (lo 22 20),mv 22 4,o1 23 (.indexAddr 22 99 3 (tm 21) (tm 22)),o1 24 (fa 99 23 0 0),o1 25 (lo 9 24),o1 26 (.buildSlice 0 51 9 kO 1 [vcs ByteArray.empty] [(0,(tm 25))]),o1 27 (.append 1 51 9 kO 16 (tm 19) (tm 26)),o1 3 (sg 27)] 2 none)
  .skip))) (rl 12 16 [])
 A33v1)
def A33v3:AC:=(.seq (.seq (.region 3 [mv 5 4,o1 6 (fa 28 1 1 1),o1 7 (lo 22 6),o1 8 (.len 22 false (tm 7)),o1 9 (bt .lss 3 5 8)] 0 none) []
 (.cond (tm 9)
 .skip
 (.exit 0 (0 :: 1 :: 2 :: (rl 4 25 []))))) (rl 5 5 [])
 A33v2)
def A33v4:AC:=(.seq (.region 7 [mv 28 3,o1 2 (sg 28)] 0 none) []
 (.ret (0 :: 1 :: (rl 3 26 []))))
def A33:AF:=⟨29,[.tmp 2],
 (.seq (.region 0 [o1 1 (bx 0 28 0),o1 2 (.assign (.const (.slice none 0 0)))] 1 none) []
 (.seq (.region 1 [o1 3 (.assign (.const (.slice none 0 0)))] 0 none) []
 (.seq (.seq (.region 2 [o1 4 (sk 0)] 0 none) []
 (.block 0
 (.loop [.slot 3 kO] (0 :: 2 :: (rl 5 24 []))
  A33v3))) (rl 4 24 [])
 A33v4)))⟩
def N252v1:St→Option St:=nN 2 (0 :: 2 :: (rl 5 24 []))
def s252v0:St:=⟨(.u :: .x (.ptr 0 0) :: .u :: .x (.own 1 0 n0) :: vxi i0 :: (us 24 [])),[.box [(vcs w0),(.c (ro kF n1 f0)),(.c (ro kB n2 f1)),(.c (ro kI n3 f2)),(.c (ro kD n4 f3)),(.c (ro kG n5 f4))],.arr kO n0 f5]⟩
def s252v1:St:=⟨(us 3 (.x (.own 1 0 n0) :: (us 25 []))),[.box [(vcs w0),(.c (ro kF n1 f0)),(.c (ro kB n2 f1)),(.c (ro kI n3 f2)),(.c (ro kD n4 f3)),(.c (ro kG n5 f4))],.arr kO n0 f5]⟩
def L252v1 {ρ:Type} (u:Nat) (x0:ByteArray) (x1:Nat) (x2:FF) (x3:Nat) (x4:FF) (x5:Nat) (x6:FF) (x7:Nat) (x8:FF) (x9:Nat) (xA:FF):Nat→Nat→Int→FF→(Nat→FF→Option ρ)→Option ρ
 | 0,_,_,_,_=>none
 | m+1,xB,xC,xD,k0 =>
  (bif (decide (xC<(Int.ofNat x1))) then (bif (inb xC x1) then (bif ((x2 xC.toNat 1).int==1) then (bif (inb xC x1) then (bif (Nat.ble (xB+1) 1073741824) then (L252v1 u x0 x1 x2 x3 x4 x5 x6 x7 x8 x9 xA m (xB+1) (w64 (xC+1)) (joinF xB xD (rowsF 1 [(.s (x2 xC.toNat 0).str)])) k0) else none) else none) else (L252v1 u x0 x1 x2 x3 x4 x5 x6 x7 x8 x9 xA m xB (w64 (xC+1)) xD k0)) else none) else (k0 xB xD))
theorem nl252v1:∀ (m:Nat) (x0:Nat) (x1:Int) (x2:FF) (k0:Nat→FF→Option ρ),ob (L252v1 u w0 n0 f0 n1 f1 n2 f2 n3 f3 n4 f4 m x0 x1 x2 k0) ng=L252v1 u w0 n0 f0 n1 f1 n2 f2 n3 f3 n4 f4 m x0 x1 x2 (fun x3 x4=>ob (k0 x3 x4) ng)
 | 0,_,_,_,_=>rfl
 | m+1,x0,x1,x2,k0=>by
  simp only [L252v1,ob_bif,ob_ob,ob_none,nl252v1 m]
theorem q252v1:∀ (m:Nat) (x0:Nat) (x1:Int) (x2:FF),
  loopH (eB A33v3 (C50 u) u) N252v1 m (s252v0 x0 n0 n1 n2 n3 n4 f0 f1 f2 f3 f4 x2 x1 w0) k=L252v1 u w0 n0 f0 n1 f1 n2 f2 n3 f3 n4 f4 m x0 x1 x2 (fun x3 x4=>k (.exit 0) (s252v1 x3 n0 n1 n2 n3 n4 f0 f1 f2 f3 f4 x4 w0))
 | 0,_,_,_=>rfl
 | m+1,x0,x1,x2=>by
  simp only [L252v1,← q252v1 m]
  kernel_rfl
def F252 (x0:ByteArray) (x1:Nat) (x2:FF) (x3:Nat) (x4:FF) (x5:Nat) (x6:FF) (x7:Nat) (x8:FF) (x9:Nat) (xA:FF):Option (Nat × FF) :=
 (L252v1 u x0 x1 x2 x3 x4 x5 x6 x7 x8 x9 xA u 0 0 (fun _ _=>.any)
  (fun xB xC=>(some (xB,xC))))
def s252v2:St:=⟨[.agg [(vcs w0),(.c (ro kF n0 f0)),(.c (ro kB n1 f1)),(.c (ro kI n2 f2)),(.c (ro kD n3 f3)),(.c (ro kG n4 f4))],.x (.ptr 0 0),.x (vcn),.x (.own 1 0 0),vxi 0,uu,uu,uu,uu,uu,uu,uu,uu,uu,uu,uu,uu,uu,uu,uu,uu,uu,uu,uu,uu,uu,uu,uu,uu],[.box [(vcs w0),(.c (ro kF n0 f0)),(.c (ro kB n1 f1)),(.c (ro kI n2 f2)),(.c (ro kD n3 f3)),(.c (ro kG n4 f4))],.arr kO 0 nilF]⟩
theorem t252v1 :
  loopN (eB A33v3 (C50 u) u) N252v1 u (s252v2 n0 n1 n2 n3 n4 f0 f1 f2 f3 f4 w0) k =
  L252v1 u w0 n0 f0 n1 f1 n2 f2 n3 f3 n4 f4 u 0 0 nilF (fun x0 x1=>k (.exit 0) (s252v1 x0 n0 n1 n2 n3 n4 f0 f1 f2 f3 f4 x1 w0)) :=
 Eq.trans (loopN_at (by kernel_rfl)) (q252v1 ..)
theorem g252v2 :
  (kBlk 0 (kSeq (C50 u) u (rl 4 24 []) A33v4 (finish A33))) (.exit 0) (s252v1 n0 n1 n2 n3 n4 n5 f0 f1 f2 f3 f4 f5 w0) =
  (some [.v (ro kO n0 f5)]):=by kernel_rfl
theorem e252:evalF (C50 u) u A33 [.agg [(.s w0),(ro kF n0 f0),(ro kB n1 f1),(ro kI n2 f2),(ro kD n3 f3),(ro kG n4 f4)]]=ob (F252 u w0 n0 f0 n1 f1 n2 f2 n3 f3 n4 f4) fun t=>some [.v (ro kO t.1 t.2)]:=Eq.trans (b:=(loopN (eB A33v3 (C50 u) u) N252v1 u (s252v2 n0 n1 n2 n3 n4 f0 f1 f2 f3 f4 w0) (kBlk 0 (kSeq (C50 u) u (rl 4 24 []) A33v4 (finish A33))))) (by kernel_rfl) (by
 simp only [F252,ob_bif,ob_ob,ob_none,ob_some,nl252v1,t252v1,g252v2])
def O252:Ora:=mkO (q1 (ag (tc cS (tc (cL kF) (tc (cL kB) (tc (cL kI) (tc (cL kD) (t1 (cL kG))))))))) (fun x=>F252 u x.1 x.2.1.1 x.2.1.2 x.2.2.1.1 x.2.2.1.2 x.2.2.2.1.1 x.2.2.2.1.2 x.2.2.2.2.1.1 x.2.2.2.2.1.2 x.2.2.2.2.2.1 x.2.2.2.2.2.2) fun t=>[.v (ro kO t.1 t.2)]
theorem d252:DO (O252 u) (C50 u) 33 A33:=dO u (fun x=>by exact e252 u x.2.1.1 x.2.2.1.1 x.2.2.2.1.1 x.2.2.2.2.1.1 x.2.2.2.2.2.1 x.2.1.2 x.2.2.1.2 x.2.2.2.1.2 x.2.2.2.2.1.2 x.2.2.2.2.2.2 x.1)
def C51:Oracle:=(C50 u).add 33 (fun _=>true) (O252 u)
def A78v1:AC:=(.region 3 [mv 14 7,o1 15 (bk .add 3 14 1),o1 7 (sg 15)] 0 none)
def A78v2:AC:=(.seq (.block 1
 (.seq (.region 4 [o1 16 (fa 28 3 5 5),o1 17 (lo 26 16),mv 18 7,o1 19 (.indexAddr 26 58 3 (tm 17) (tm 18)),o1 20 (ln 58 3 19),o1 8 (.alloc 0 58 [vci 0,vcs ByteArray.empty,vcs ByteArray.empty]),o0 (.store 58 3 (tm 8) (tm 20))] 1 none) []
  (.seq (.region 5 [o1 21 (fa 58 8 0 0),o1 22 (lo 3 21),o1 23 (bk .eql 3 22 1),mv 24 23,og 25 (fa 58 8 1 1) 24 true,og 26 (lo 9 25) 24 true,og 27 (.move (tm 2)) 24 true,og 28 (bt .eql 9 26 27) 24 true,o1 29 (po 24 28),mv 30 29,og 31 (fa 58 8 2 2) 30 true,og 32 (lo 9 31) 30 true,og 33 (.move (tm 1)) 30 true,og 34 (bt .eql 9 32 33) 30 true,o1 35 (po 30 34),mv 36 35,og 37 (fa 58 8 0 0) 36 false,og 38 (lo 3 37) 36 false,og 39 (bk .eql 3 38 2) 36 false,og 40 (.move (tm 39)) 36 false,og 41 (fa 58 8 1 1) 40 true,og 42 (lo 9 41) 40 true,og 43 (.move (tm 1)) 40 true,og 44 (bt .eql 9 42 43) 40 true,og 45 (po 40 44) 36 false,og 46 (.move (tm 45)) 36 false,og 47 (fa 58 8 2 2) 46 true,og 48 (lo 9 47) 46 true,og 49 (.move (tm 2)) 46 true,og 50 (bt .eql 9 48 49) 46 true,og 51 (po 46 50) 36 false,o1 52 (pa 36 51)] 0 none) []
  (.cond (tm 52)
  (.seq (.region 6 [o1 6 (sb true)] 0 none) []
   (.ret (rl 0 6 (rl 7 46 []))))
  .skip)))) (6 :: 8 :: (rl 16 37 []))
 A78v1)
def A78v3:AC:=(.seq (.seq (.region 2 [mv 9 7,o1 10 (fa 28 3 5 5),o1 11 (lo 26 10),o1 12 (.len 26 false (tm 11)),o1 13 (bt .lss 3 9 12)] 0 none) []
 (.cond (tm 13)
 .skip
 (.exit 0 (rl 0 53 [])))) (rl 9 5 [])
 A78v2)
def A78v4:AC:=(.seq (.region 7 [o1 6 (sb false)] 0 none) []
 (.ret (rl 0 6 (rl 7 46 []))))
def A78:AF:=⟨53,[.tmp 6],
 (.seq (.region 0 [o1 3 (bx 0 28 0),o1 6 (sb false)] 1 none) []
 (.seq (.seq (.region 1 [o1 7 (sk 0)] 0 none) []
 (.block 0
 (.loop [] (0 :: 4 :: 5 :: 6 :: (rl 8 45 []))
  A78v3))) (rl 6 47 [])
 A78v4))⟩
def N253v1:St→Option St:=nN 1 (0 :: 4 :: 5 :: 6 :: (rl 8 45 []))
def s253v0:St:=⟨(.u :: vxs w0 :: vxs w1 :: .x (.ptr 0 0) :: (us 3 (vxi i0 :: (us 45 [])))),[.box [(vcs w2),(.c (ro kF n0 f0)),(.c (ro kB n1 f1)),(.c (ro kI n2 f2)),(.c (ro kD n3 f3)),(.c (ro kG n4 f4))]]⟩
def s253v1:St:=⟨(us 6 (vxb true :: (us 46 []))),[.box [(vcs w0),(.c (ro kF n0 f0)),(.c (ro kB n1 f1)),(.c (ro kI n2 f2)),(.c (ro kD n3 f3)),(.c (ro kG n4 f4))],.box [(vci i0),(vcs w1),(vcs w2)]]⟩
def s253v2:St:=⟨(us 53 []),[.box [(vcs w0),(.c (ro kF n0 f0)),(.c (ro kB n1 f1)),(.c (ro kI n2 f2)),(.c (ro kD n3 f3)),(.c (ro kG n4 f4))]]⟩
def L253v1 {ρ:Type} (u:Nat) (x0 x1 x2:ByteArray) (x3:Nat) (x4:FF) (x5:Nat) (x6:FF) (x7:Nat) (x8:FF) (x9:Nat) (xA:FF) (xB:Nat) (xC:FF):Nat→Int→(Int→ByteArray→ByteArray→Option ρ)→(Option ρ)→Option ρ
 | 0,_,_,_=>none
 | m+1,xD,k0,k1 =>
  (bif (decide (xD<(Int.ofNat xB))) then (bif (inb xD xB) then (bif (((xC xD.toNat 0).int==1)==true) then (bif ((ByteArray.toList (xC xD.toNat 1).str==ByteArray.toList x1)==true) then (bif ((ByteArray.toList (xC xD.toNat 2).str==ByteArray.toList x0)==false) then (bif (((xC xD.toNat 0).int==2)==true) then (bif ((ByteArray.toList (xC xD.toNat 1).str==ByteArray.toList x0)==true) then (bif (ByteArray.toList (xC xD.toNat 2).str==ByteArray.toList x1) then (k0 (xC xD.toNat 0).int (xC xD.toNat 1).str (xC xD.toNat 2).str) else (L253v1 u x0 x1 x2 x3 x4 x5 x6 x7 x8 x9 xA xB xC m (w64 (xD+1)) k0 k1)) else (L253v1 u x0 x1 x2 x3 x4 x5 x6 x7 x8 x9 xA xB xC m (w64 (xD+1)) k0 k1)) else (L253v1 u x0 x1 x2 x3 x4 x5 x6 x7 x8 x9 xA xB xC m (w64 (xD+1)) k0 k1)) else (k0 (xC xD.toNat 0).int (xC xD.toNat 1).str (xC xD.toNat 2).str)) else (bif (((xC xD.toNat 0).int==2)==true) then (bif ((ByteArray.toList (xC xD.toNat 1).str==ByteArray.toList x0)==true) then (bif (ByteArray.toList (xC xD.toNat 2).str==ByteArray.toList x1) then (k0 (xC xD.toNat 0).int (xC xD.toNat 1).str (xC xD.toNat 2).str) else (L253v1 u x0 x1 x2 x3 x4 x5 x6 x7 x8 x9 xA xB xC m (w64 (xD+1)) k0 k1)) else (L253v1 u x0 x1 x2 x3 x4 x5 x6 x7 x8 x9 xA xB xC m (w64 (xD+1)) k0 k1)) else (L253v1 u x0 x1 x2 x3 x4 x5 x6 x7 x8 x9 xA xB xC m (w64 (xD+1)) k0 k1))) else (bif (((xC xD.toNat 0).int==2)==true) then (bif ((ByteArray.toList (xC xD.toNat 1).str==ByteArray.toList x0)==true) then (bif (ByteArray.toList (xC xD.toNat 2).str==ByteArray.toList x1) then (k0 (xC xD.toNat 0).int (xC xD.toNat 1).str (xC xD.toNat 2).str) else (L253v1 u x0 x1 x2 x3 x4 x5 x6 x7 x8 x9 xA xB xC m (w64 (xD+1)) k0 k1)) else (L253v1 u x0 x1 x2 x3 x4 x5 x6 x7 x8 x9 xA xB xC m (w64 (xD+1)) k0 k1)) else (L253v1 u x0 x1 x2 x3 x4 x5 x6 x7 x8 x9 xA xB xC m (w64 (xD+1)) k0 k1))) else none) else k1)
theorem nl253v1:∀ (m:Nat) (x0:Int) (k0:Int→ByteArray→ByteArray→Option ρ) (k1:Option ρ),ob (L253v1 u w0 w1 w2 n0 f0 n1 f1 n2 f2 n3 f3 n4 f4 m x0 k0 k1) ng=L253v1 u w0 w1 w2 n0 f0 n1 f1 n2 f2 n3 f3 n4 f4 m x0 (fun x1 x2 x3=>ob (k0 x1 x2 x3) ng) (ob k1 ng)
 | 0,_,_,_=>rfl
 | m+1,x0,k0,k1=>by
  simp only [L253v1,ob_bif,ob_ob,ob_none,nl253v1 m]
theorem q253v1:∀ (m:Nat) (x0:Int),
  loopH (eB A78v3 (C51 u) u) N253v1 m (s253v0 n0 n1 n2 n3 n4 f0 f1 f2 f3 f4 x0 w0 w1 w2) k=L253v1 u w0 w1 w2 n0 f0 n1 f1 n2 f2 n3 f3 n4 f4 m x0 (fun x1 x2 x3=>k .ret (s253v1 n0 n1 n2 n3 n4 f0 f1 f2 f3 f4 x1 w2 x2 x3)) (k (.exit 0) (s253v2 n0 n1 n2 n3 n4 f0 f1 f2 f3 f4 w2))
 | 0,_=>rfl
 | m+1,x0=>by
  simp only [L253v1,← q253v1 m]
  kernel_rfl
def F253 (x0:ByteArray) (x1:Nat) (x2:FF) (x3:Nat) (x4:FF) (x5:Nat) (x6:FF) (x7:Nat) (x8:FF) (x9:Nat) (xA:FF) (xB xC:ByteArray):Option (Bool) :=
 (L253v1 u xB xC x0 x1 x2 x3 x4 x5 x6 x7 x8 x9 xA u 0
  (fun xD xE xF=>(some true))
  (some false))
def s253v3:St:=⟨[.agg [(vcs w0),(.c (ro kF n0 f0)),(.c (ro kB n1 f1)),(.c (ro kI n2 f2)),(.c (ro kD n3 f3)),(.c (ro kG n4 f4))],vxs w1,vxs w2,.x (.ptr 0 0),uu,uu,vxb false,vxi 0,uu,uu,uu,uu,uu,uu,uu,uu,uu,uu,uu,uu,uu,uu,uu,uu,uu,uu,uu,uu,uu,uu,uu,uu,uu,uu,uu,uu,uu,uu,uu,uu,uu,uu,uu,uu,uu,uu,uu,uu,uu,uu,uu,uu,uu],[.box [(vcs w0),(.c (ro kF n0 f0)),(.c (ro kB n1 f1)),(.c (ro kI n2 f2)),(.c (ro kD n3 f3)),(.c (ro kG n4 f4))]]⟩
theorem t253v1 :
  loopN (eB A78v3 (C51 u) u) N253v1 u (s253v3 n0 n1 n2 n3 n4 f0 f1 f2 f3 f4 w0 w1 w2) k =
  L253v1 u w1 w2 w0 n0 f0 n1 f1 n2 f2 n3 f3 n4 f4 u 0 (fun x0 x1 x2=>k .ret (s253v1 n0 n1 n2 n3 n4 f0 f1 f2 f3 f4 x0 w0 x1 x2)) (k (.exit 0) (s253v2 n0 n1 n2 n3 n4 f0 f1 f2 f3 f4 w0)) :=
 Eq.trans (loopN_at (by kernel_rfl)) (q253v1 ..)
theorem g253v2 :
  (kBlk 0 (kSeq (C51 u) u (rl 6 47 []) A78v4 (finish A78))) .ret (s253v1 n0 n1 n2 n3 n4 f0 f1 f2 f3 f4 i0 w0 w1 w2) =
  (some [.v (.b true)]):=by kernel_rfl
theorem g253v3 :
  (kBlk 0 (kSeq (C51 u) u (rl 6 47 []) A78v4 (finish A78))) (.exit 0) (s253v2 n0 n1 n2 n3 n4 f0 f1 f2 f3 f4 w0) =
  (some [.v (.b false)]):=by kernel_rfl
theorem e253:evalF (C51 u) u A78 [.agg [(.s w0),(ro kF n0 f0),(ro kB n1 f1),(ro kI n2 f2),(ro kD n3 f3),(ro kG n4 f4)],.v (.s w1),.v (.s w2)]=ob (F253 u w0 n0 f0 n1 f1 n2 f2 n3 f3 n4 f4 w1 w2) fun t=>some [.v (.b t)]:=Eq.trans (b:=(loopN (eB A78v3 (C51 u) u) N253v1 u (s253v3 n0 n1 n2 n3 n4 f0 f1 f2 f3 f4 w0 w1 w2) (kBlk 0 (kSeq (C51 u) u (rl 6 47 []) A78v4 (finish A78))))) (by kernel_rfl) (by
 simp only [F253,ob_bif,ob_ob,ob_none,ob_some,nl253v1,t253v1,g253v2,g253v3])
def O253:Ora:=mkO (qc (ag (tc cS (tc (cL kF) (tc (cL kB) (tc (cL kI) (tc (cL kD) (t1 (cL kG)))))))) (qc (av cS) (q1 (av cS)))) (fun x=>F253 u x.1.1 x.1.2.1.1 x.1.2.1.2 x.1.2.2.1.1 x.1.2.2.1.2 x.1.2.2.2.1.1 x.1.2.2.2.1.2 x.1.2.2.2.2.1.1 x.1.2.2.2.2.1.2 x.1.2.2.2.2.2.1 x.1.2.2.2.2.2.2 x.2.1 x.2.2) fun t=>[.v (.b t)]
theorem d253:DO (O253 u) (C51 u) 78 A78:=dO u (fun x=>by exact e253 u x.1.2.1.1 x.1.2.2.1.1 x.1.2.2.2.1.1 x.1.2.2.2.2.1.1 x.1.2.2.2.2.2.1 x.1.2.1.2 x.1.2.2.1.2 x.1.2.2.2.1.2 x.1.2.2.2.2.1.2 x.1.2.2.2.2.2.2 x.1.1 x.2.1 x.2.2)
def C52:Oracle:=(C51 u).add 78 (fun _=>true) (O253 u)
end Go.Eng.R13
