/-
 The functions of the program,run on symbols;printed by decomp.py.
-/
import Derived.Test.YtajhkinnmdlokaaGreatDecT1
set_option linter.all false
set_option maxRecDepth 1000000
set_option maxHeartbeats 4000000
namespace Go.Eng.R13
open Go Go.RowKit Go.Eng
variable {ρ σ : Type} (u m : Nat) (k : Ex → St → Option ρ) (ng : ρ → Option σ) (n0 n1 n2 n3 n4 n5 n6 n7 n8 : Nat) (f0 f1 f2 f3 f4 f5 f6 f7 f8 : FF) (i0 i1 i2 i3 i4 i5 i6 i7 i8 i9 iA iB iC iD iE iF iG iH iI iJ iK iL iM iN : Int) (b0 : Bool) (w0 w1 w2 w3 w4 w5 w6 w7 w8 : ByteArray) (g0 g1 : Nat → CV)
def A50v1:AC:=(.region 3 [mv 12 6,o1 13 (bk .add 3 12 1),o1 6 (sg 13)] 0 none)
def A50v2:AC:=(.seq (.block 1
 (.seq (.region 4 [o1 14 (fa 28 2 4 4),o1 15 (lo 25 14),mv 16 6,o1 17 (.indexAddr 25 62 5 (tm 15) (tm 16)),o1 18 (fa 62 17 0 0),o1 19 (lo 9 18),mv 20 1,o1 21 (bt .eql 9 19 20)] 0 none) []
  (.cond (tm 21)
  (.seq (.region 5 [o1 22 (fa 28 2 4 4),o1 23 (lo 25 22),mv 24 6,o1 25 (.indexAddr 25 62 5 (tm 23) (tm 24)),o1 26 (ln 62 5 25),o0 (.store 62 5 (tm 4) (tm 26)),o1 5 (sb true)] 0 none) []
   (.ret (rl 0 4 (rl 6 22 []))))
  .skip))) (5 :: (rl 14 13 []))
 A50v1)
def A50v3:AC:=(.seq (.seq (.region 2 [mv 7 6,o1 8 (fa 28 2 4 4),o1 9 (lo 25 8),o1 10 (.len 25 false (tm 9)),o1 11 (bt .lss 3 7 10)] 0 none) []
 (.cond (tm 11)
 .skip
 (.exit 0 (rl 0 4 (rl 5 23 []))))) (rl 7 5 [])
 A50v2)
def A50v4:AC:=(.seq (.region 6 [o1 27 (.build 62 [vcs ByteArray.empty,vcs ByteArray.empty,vcn,vci 0,vcn] [(0,1),(1,1),(2,1),(3,1),(4,1)] 0 []),o0 (.store 62 5 (tm 4) (tm 27)),o1 5 (sb false)] 0 none) []
 (.ret (rl 0 4 (rl 6 22 []))))
def A50:AF:=⟨28,[.cell 4 62 (some 5),.tmp 5],
 (.seq (.region 0 [o1 2 (bx 0 28 0),o1 4 (.alloc 1 62 [vcs ByteArray.empty,vcs ByteArray.empty,vcn,vci 0,vcn]),o1 5 (sb false)] 2 none) []
 (.seq (.seq (.region 1 [o1 6 (sk 0)] 0 none) []
 (.block 0
 (.loop [] (0 :: 3 :: 5 :: (rl 7 21 []))
  A50v3))) (rl 5 22 [])
 A50v4))⟩
def N319v1:St→Option St:=nN 2 (0 :: 3 :: 5 :: (rl 7 21 []))
def s319v0:St:=⟨(.u :: vxs w0 :: .x (.ptr 0 0) :: .u :: .x (.ptr 1 0) :: .u :: vxi i0 :: (us 21 [])),[.box [(vcs w1),(.c (ro kE n0 f0)),(.c (ro kA n1 f1)),(.c (ro kG n2 f2)),(.c (ro kC n3 f3)),(.c (ro kF n4 f4))],.box [(vcs ByteArray.empty),(vcs ByteArray.empty),(vcn),(vci 0),(vcn)]]⟩
def s319v1:St:=⟨(us 4 (.x (.ptr 1 0) :: vxb true :: (us 22 []))),[.box [(vcs w0),(.c (ro kE n0 f0)),(.c (ro kA n1 f1)),(.c (ro kG n2 f2)),(.c (ro kC n3 f3)),(.c (ro kF n4 f4))],.box [(vcs w1),(vcs w2),(.c (ro (.pr .str .nil) n5 f5)),(vci i0),(.c (ro (.pr .str .nil) n6 f6))]]⟩
def s319v2:St:=⟨(us 4 (.x (.ptr 1 0) :: (us 23 []))),[.box [(vcs w0),(.c (ro kE n0 f0)),(.c (ro kA n1 f1)),(.c (ro kG n2 f2)),(.c (ro kC n3 f3)),(.c (ro kF n4 f4))],.box [(vcs ByteArray.empty),(vcs ByteArray.empty),(vcn),(vci 0),(vcn)]]⟩
def L319v1 {ρ:Type} (u:Nat) (x0 x1:ByteArray) (x2:Nat) (x3:FF) (x4:Nat) (x5:FF) (x6:Nat) (x7:FF) (x8:Nat) (x9:FF) (xA:Nat) (xB:FF):Nat→Int→(ByteArray→ByteArray→Nat→FF→Int→Nat→FF→Option ρ)→(Option ρ)→Option ρ
 | 0,_,_,_=>none
 | m+1,xC,k0,k1 =>
  (bif (decide (xC<(Int.ofNat x8))) then (bif (inb xC x8) then (bif (ByteArray.toList (x9 xC.toNat 0).str==ByteArray.toList x0) then (bif (inb xC x8) then (k0 (x9 xC.toNat 0).str (x9 xC.toNat 1).str (x9 xC.toNat 2).len (x9 xC.toNat 2).el (x9 xC.toNat 3).int (x9 xC.toNat 4).len (x9 xC.toNat 4).el) else none) else (L319v1 u x0 x1 x2 x3 x4 x5 x6 x7 x8 x9 xA xB m (w64 (xC+1)) k0 k1)) else none) else k1)
theorem nl319v1:∀ (m:Nat) (x0:Int) (k0:ByteArray→ByteArray→Nat→FF→Int→Nat→FF→Option ρ) (k1:Option ρ),ob (L319v1 u w0 w1 n0 f0 n1 f1 n2 f2 n3 f3 n4 f4 m x0 k0 k1) ng=L319v1 u w0 w1 n0 f0 n1 f1 n2 f2 n3 f3 n4 f4 m x0 (fun x1 x2 x3 x4 x5 x6 x7=>ob (k0 x1 x2 x3 x4 x5 x6 x7) ng) (ob k1 ng)
 | 0,_,_,_=>rfl
 | m+1,x0,k0,k1=>by
  simp only [L319v1,ob_bif,ob_ob,ob_none,nl319v1 m]
theorem q319v1:∀ (m:Nat) (x0:Int),
  loopH (eB A50v3 (C51 u) u) N319v1 m (s319v0 n0 n1 n2 n3 n4 f0 f1 f2 f3 f4 x0 w0 w1) k=L319v1 u w0 w1 n0 f0 n1 f1 n2 f2 n3 f3 n4 f4 m x0 (fun x1 x2 x3 x4 x5 x6 x7=>k .ret (s319v1 n0 n1 n2 n3 n4 x3 x6 f0 f1 f2 f3 f4 x4 x7 x5 w1 x1 x2)) (k (.exit 0) (s319v2 n0 n1 n2 n3 n4 f0 f1 f2 f3 f4 w1))
 | 0,_=>rfl
 | m+1,x0=>by
  simp only [L319v1,← q319v1 m]
  kernel_rfl
def FT319 (x0:ByteArray) (x1:Nat) (x2:FF) (x3:Nat) (x4:FF) (x5:Nat) (x6:FF) (x7:Nat) (x8:FF) (x9:Nat) (xA:FF) (xB:ByteArray):Option (Bool × ByteArray × ByteArray × Nat × FF × Int × Nat × FF × Bool) :=
 (L319v1 u xB x0 x1 x2 x3 x4 x5 x6 x7 x8 x9 xA u 0
  (fun xC xD xE xF xG xH xI=>(some (true,xC,xD,xE,xF,xG,xH,xI,true)))
  (some (false,ByteArray.empty,ByteArray.empty,0,(fun _ _=>.any),0,0,(fun _ _=>.any),false)))
def s319v3:St:=⟨[.agg [(vcs w0),(.c (ro kE n0 f0)),(.c (ro kA n1 f1)),(.c (ro kG n2 f2)),(.c (ro kC n3 f3)),(.c (ro kF n4 f4))],vxs w1,.x (.ptr 0 0),uu,.x (.ptr 1 0),vxb false,vxi 0,uu,uu,uu,uu,uu,uu,uu,uu,uu,uu,uu,uu,uu,uu,uu,uu,uu,uu,uu,uu,uu],[.box [(vcs w0),(.c (ro kE n0 f0)),(.c (ro kA n1 f1)),(.c (ro kG n2 f2)),(.c (ro kC n3 f3)),(.c (ro kF n4 f4))],.box [(vcs ByteArray.empty),(vcs ByteArray.empty),(vcn),(vci 0),(vcn)]]⟩
theorem t319v1 :
  loopN (eB A50v3 (C51 u) u) N319v1 u (s319v3 n0 n1 n2 n3 n4 f0 f1 f2 f3 f4 w0 w1) k =
  L319v1 u w1 w0 n0 f0 n1 f1 n2 f2 n3 f3 n4 f4 u 0 (fun x0 x1 x2 x3 x4 x5 x6=>k .ret (s319v1 n0 n1 n2 n3 n4 x2 x5 f0 f1 f2 f3 f4 x3 x6 x4 w0 x0 x1)) (k (.exit 0) (s319v2 n0 n1 n2 n3 n4 f0 f1 f2 f3 f4 w0)) :=
 Eq.trans (loopN_at (by kernel_rfl)) (q319v1 ..)
theorem g319v2 :
  (kBlk 0 (kSeq (C51 u) u (rl 5 22 []) A50v4 (finish A50))) .ret (s319v1 n0 n1 n2 n3 n4 n5 n6 f0 f1 f2 f3 f4 f5 f6 i0 w0 w1 w2) =
  (some [.agg [(.s w1),(.s w2),(ro (.pr .str .nil) n5 f5),(vi i0),(ro (.pr .str .nil) n6 f6)],.v (.b true)]):=by kernel_rfl
theorem g319v3 :
  (kBlk 0 (kSeq (C51 u) u (rl 5 22 []) A50v4 (finish A50))) (.exit 0) (s319v2 n0 n1 n2 n3 n4 f0 f1 f2 f3 f4 w0) =
  (some [.agg [(.s ByteArray.empty),(.s ByteArray.empty),(.ro true .nil 0 nilF),(vi 0),(.ro true .nil 0 nilF)],.v (.b false)]):=by kernel_rfl
theorem e319:evalF (C51 u) u A50 [.agg [(.s w0),(ro kE n0 f0),(ro kA n1 f1),(ro kG n2 f2),(ro kC n3 f3),(ro kF n4 f4)],.v (.s w1)]=ob (FT319 u w0 n0 f0 n1 f1 n2 f2 n3 f3 n4 f4 w1) fun t=>some (bif t.1 then [.agg [(.s t.2.1),(.s t.2.2.1),(ro (.pr .str .nil) t.2.2.2.1 t.2.2.2.2.1),(vi t.2.2.2.2.2.1),(ro (.pr .str .nil) t.2.2.2.2.2.2.1 t.2.2.2.2.2.2.2.1)],.v (.b true)] else [.agg [(.s ByteArray.empty),(.s ByteArray.empty),(.ro true .nil 0 nilF),(vi 0),(.ro true .nil 0 nilF)],.v (.b false)]):=Eq.trans (b:=(loopN (eB A50v3 (C51 u) u) N319v1 u (s319v3 n0 n1 n2 n3 n4 f0 f1 f2 f3 f4 w0 w1) (kBlk 0 (kSeq (C51 u) u (rl 5 22 []) A50v4 (finish A50))))) (by kernel_rfl) (by
 simp only [FT319,ob_bif,ob_ob,ob_none,ob_some,nl319v1,t319v1,g319v2,g319v3,cond_true,cond_false])
def F319 (x0:ByteArray) (x1:Nat) (x2:FF) (x3:Nat) (x4:FF) (x5:Nat) (x6:FF) (x7:Nat) (x8:FF) (x9:Nat) (xA:FF) (xB:ByteArray):Option (ByteArray × ByteArray × Nat × FF × Int × Nat × FF × Bool):=ob (FT319 u x0 x1 x2 x3 x4 x5 x6 x7 x8 x9 xA xB) fun t=>some (bif t.1 then (t.2.1,t.2.2.1,t.2.2.2.1,t.2.2.2.2.1,t.2.2.2.2.2.1,t.2.2.2.2.2.2.1,t.2.2.2.2.2.2.2.1,true) else (ByteArray.empty,ByteArray.empty,0,(fun _ _=>.any),0,0,(fun _ _=>.any),false))
def O319:Ora:=mkO (qc (ag (tc cS (tc (cL kE) (tc (cL kA) (tc (cL kG) (tc (cL kC) (t1 (cL kF)))))))) (q1 (av cS))) (fun x=>F319 u x.1.1 x.1.2.1.1 x.1.2.1.2 x.1.2.2.1.1 x.1.2.2.1.2 x.1.2.2.2.1.1 x.1.2.2.2.1.2 x.1.2.2.2.2.1.1 x.1.2.2.2.2.1.2 x.1.2.2.2.2.2.1 x.1.2.2.2.2.2.2 x.2) fun t=>[.agg [(.s t.1),(.s t.2.1),(ro (.pr .str .nil) t.2.2.1 t.2.2.2.1),(vi t.2.2.2.2.1),(ro (.pr .str .nil) t.2.2.2.2.2.1 t.2.2.2.2.2.2.1)],.v (.b t.2.2.2.2.2.2.2)]
theorem d319:DO (O319 u) (C51 u) 50 A50:=dW u (fun x=>by exact e319 u x.1.2.1.1 x.1.2.2.1.1 x.1.2.2.2.1.1 x.1.2.2.2.2.1.1 x.1.2.2.2.2.2.1 x.1.2.1.2 x.1.2.2.1.2 x.1.2.2.2.1.2 x.1.2.2.2.2.1.2 x.1.2.2.2.2.2.2 x.1.1 x.2) (fun _=>rfl) fun t=>by
 obtain ⟨b,t⟩:=t
 cases b with
 | true=>exact (.cons (WkA.agg (.cons (Wk.refl _) (.cons (Wk.refl _) (.cons (Wk.refl _) (.cons (Wk.refl _) (.cons (Wk.refl _) .nil)))))) (.cons (WkA.v (Wk.refl _)) .nil))
 | false =>
  exact (.cons (WkA.agg (.cons (Wk.refl _) (.cons (Wk.refl _) (.cons (Wk.ro (by rfl)) (.cons (Wk.refl _) (.cons (Wk.ro (by rfl)) .nil)))))) (.cons (WkA.v (Wk.refl _)) .nil))
def C52:Oracle:=(C51 u).add 50 (fun _=>true) (O319 u)
def A72v1:AC:=(.seq (.region 12 [o1 56 (fa 62 11 1 1),o1 57 (lo 9 56),o1 4 (sg 57),o1 5 (sb true)] 0 none) []
 (.ret (rl 0 4 (rl 6 66 []))))
def A72v2:AC:=(.seq (.region 17 [mv 66 15,mv 67 15,o1 68 (.len 37 false (tm 67)),o1 69 (bk .sub 3 68 1),o1 70 (.indexAddr 37 9 1 (tm 66) (tm 69)),o1 71 (lo 9 70),o1 4 (sg 71),o1 5 (sb true)] 0 none) []
 (.ret (rl 0 4 (rl 6 66 []))))
def A72v3:AC:=(.seq (.region 14 [o1 59 (ln 28 6 2),mv 60 6,o1 61 (cf 41 [59,60] [28,9]),mv 58 61,o1 62 (.extract (tm 58) 0),o1 63 (.extract (tm 58) 1),o1 15 (sg 62),o1 16 (sg 63)] 0 none) []
 (.seq (.seq (.region 15 [mv 64 16,o1 65 (.unOp .not 4 (tm 64))] 0 none) []
 (.cond (tm 65)
 (.seq (.region 16 [o1 4 (.assign (.const (.string ByteArray.empty))),o1 5 (sb false)] 0 none) []
  (.ret (rl 0 4 (rl 6 66 []))))
 .skip)) [4,5,64,65]
 A72v2))
def A72:AF:=⟨72,[.tmp 4,.tmp 5],
 (.seq (.region 0 [o1 2 (bx 0 28 0),o1 4 (.assign (.const (.string ByteArray.empty))),o1 5 (sb false)] 1 none) []
 (.seq (.region 1 [mv 17 1,o1 6 (sg 17)] 0 none) []
 (.seq (.seq (.region 2 [o1 19 (ln 28 6 2),mv 20 1,o1 21 (cs 39 [19,20] [28,9]),mv 18 21,o1 22 (.extract (tm 18) 0),o1 23 (.extract (tm 18) 1),o1 7 (.alloc 0 60 [vcs ByteArray.empty,vci 0,vcs ByteArray.empty]),o0 (.store 60 3 (tm 7) (tm 22)),o1 8 (sg 23)] 1 none) []
 (.seq (.region 3 [mv 24 8,o1 25 (.unOp .not 4 (tm 24))] 0 none) []
 (.cond (tm 25)
 (.seq (.region 4 [o1 27 (ln 28 6 2),mv 28 1,o1 29 (cf 46 [27,28] [28,9]),mv 26 29,o1 30 (.extract (tm 26) 0),o1 31 (.extract (tm 26) 1),o1 9 (.alloc 0 92 [vcs ByteArray.empty,vci 0,vci 0,vcs ByteArray.empty,vcs ByteArray.empty,vci 0,vcn,vcn,vcs ByteArray.empty,vci 0,vci 0,vci 0,vci 0,vci 0,vci 0,vci 0,vci 0,vci 0]),o0 (.store 92 18 (tm 9) (tm 30)),o1 10 (sg 31)] 1 none) []
  (.seq (.region 5 [mv 32 10] 0 none) []
  (.cond (tm 32)
  (.region 6 [o1 33 (fa 92 9 3 3),o1 34 (lo 9 33),o1 6 (sg 34)] 0 none)
  (.seq (.region 7 [o1 36 (ln 28 6 2),mv 37 1,o1 38 (cf 50 [36,37] [28,9]),mv 35 38,o1 39 (.extract (tm 35) 0),o1 40 (.extract (tm 35) 1),o1 11 (.alloc 0 62 [vcs ByteArray.empty,vcs ByteArray.empty,vcn,vci 0,vcn]),o0 (.store 62 5 (tm 11) (tm 39)),o1 12 (sg 40)] 1 none) []
   (.seq (.region 8 [mv 41 12] 0 none) []
   (.cond (tm 41)
   (.seq (.region 9 [o1 43 (ln 28 6 2),o1 44 (fa 62 11 1 1),o1 45 (lo 9 44),o1 46 (cs 39 [43,45] [28,9]),mv 42 46,o1 47 (.extract (tm 42) 0),o1 48 (.extract (tm 42) 1),o1 13 (.alloc 0 60 [vcs ByteArray.empty,vci 0,vcs ByteArray.empty]),o0 (.store 60 3 (tm 13) (tm 47)),o1 14 (sg 48)] 1 none) []
    (.seq (.seq (.region 10 [mv 49 14,o1 50 (.unOp .not 4 (tm 49)),mv 51 50,og 52 (fa 60 13 1 1) 51 false,og 53 (lo 3 52) 51 false,og 54 (bk .neq 3 53 1) 51 false,o1 55 (pa 51 54)] 0 none) []
    (.cond (tm 55)
    (.seq (.region 11 [o1 4 (.assign (.const (.string ByteArray.empty))),o1 5 (sb false)] 0 none) []
     (.ret (rl 0 4 (rl 6 66 []))))
    .skip)) (4 :: 5 :: (rl 49 7 []))
    A72v1))
   (.seq (.region 13 [o1 4 (.assign (.const (.string ByteArray.empty))),o1 5 (sb false)] 0 none) []
    (.ret (rl 0 4 (rl 6 66 []))))))))))
 .skip))) (4 :: 5 :: (rl 7 8 (rl 18 40 [])))
 A72v3)))⟩
def F320 (x0:ByteArray) (x1:Nat) (x2:FF) (x3:Nat) (x4:FF) (x5:Nat) (x6:FF) (x7:Nat) (x8:FF) (x9:Nat) (xA:FF) (xB:ByteArray):Option (ByteArray × Bool) :=
 (ob (F294 u x0 x1 x2 x3 x4 x5 x6 x7 x8 x9 xA xB) fun xC=>(bif (!xC.2.2.2) then (ob (F303 u x0 x1 x2 x3 x4 x5 x6 x7 x8 x9 xA xB) fun xD=>(bif (pG xD).2.2.2.2 then (ob (F302 u x0 x1 x2 x3 x4 x5 x6 x7 x8 x9 xA xD.2.2.2.1) fun xE=>(bif (!xE.2.2) then (some (ByteArray.empty,false)) else (bif (inb (w64 ((Int.ofNat xE.1)-1)) xE.1) then (some ((CV.str (xE.2.1 (Int.toNat (w64 ((Int.ofNat xE.1)-1))) 0)),true)) else none))) else (ob (F319 u x0 x1 x2 x3 x4 x5 x6 x7 x8 x9 xA xB) fun xF=>(bif xF.2.2.2.2.2.2.2 then (ob (F294 u x0 x1 x2 x3 x4 x5 x6 x7 x8 x9 xA xF.2.1) fun xG=>(bif ((!xG.2.2.2)==false) then (bif (xG.2.1 != 1) then (some (ByteArray.empty,false)) else (some (xF.2.1,true))) else (some (ByteArray.empty,false)))) else (some (ByteArray.empty,false)))))) else (ob (F302 u x0 x1 x2 x3 x4 x5 x6 x7 x8 x9 xA xB) fun xH=>(bif (!xH.2.2) then (some (ByteArray.empty,false)) else (bif (inb (w64 ((Int.ofNat xH.1)-1)) xH.1) then (some ((CV.str (xH.2.1 (Int.toNat (w64 ((Int.ofNat xH.1)-1))) 0)),true)) else none)))))
theorem e320:evalF (C52 u) u A72 [.agg [(.s w0),(ro kE n0 f0),(ro kA n1 f1),(ro kG n2 f2),(ro kC n3 f3),(ro kF n4 f4)],.v (.s w1)]=ob (F320 u w0 n0 f0 n1 f1 n2 f2 n3 f3 n4 f4 w1) fun t=>some [.v (.s t.1),.v (.b t.2)]:=by
 simp only [F320,ob_bif,ob_ob,ob_none,ob_some]
 kernel_rfl
def O320:Ora:=mkO (qc (ag (tc cS (tc (cL kE) (tc (cL kA) (tc (cL kG) (tc (cL kC) (t1 (cL kF)))))))) (q1 (av cS))) (fun x=>F320 u x.1.1 x.1.2.1.1 x.1.2.1.2 x.1.2.2.1.1 x.1.2.2.1.2 x.1.2.2.2.1.1 x.1.2.2.2.1.2 x.1.2.2.2.2.1.1 x.1.2.2.2.2.1.2 x.1.2.2.2.2.2.1 x.1.2.2.2.2.2.2 x.2) fun t=>[.v (.s t.1),.v (.b t.2)]
theorem d320:DO (O320 u) (C52 u) 72 A72:=dO u (fun x=>by exact e320 u x.1.2.1.1 x.1.2.2.1.1 x.1.2.2.2.1.1 x.1.2.2.2.2.1.1 x.1.2.2.2.2.2.1 x.1.2.1.2 x.1.2.2.1.2 x.1.2.2.2.1.2 x.1.2.2.2.2.1.2 x.1.2.2.2.2.2.2 x.1.1 x.2)
def C53:Oracle:=(C52 u).add 72 (fun _=>true) (O320 u)
def A48v1:AC:=(.region 15 [mv 58 11,o1 59 (bk .add 3 58 1),o1 11 (sg 59)] 0 none)
def A48v2:AC:=(.seq (.block 3
 (.seq (.region 16 [o1 60 (fa 28 2 4 4),o1 61 (lo 25 60),mv 62 11,o1 63 (.indexAddr 25 62 5 (tm 61) (tm 62)),o1 64 (fa 62 63 2 2),o1 65 (lo 37 64),o1 66 (fa 92 7 0 0),o1 67 (lo 9 66),o1 68 (cs 38 [65,67] [37,9])] 0 (some [[],[0],[],[0,1,2],(rl 0 4 []),(rl 0 5 []),[],[6],(rl 0 8 [])])) []
  (.cond (tm 68)
  (.seq (.region 17 [o1 4 (sk 7)] 0 none) []
   (.ret (rl 0 4 (rl 5 64 []))))
  .skip))) (4 :: (rl 60 9 []))
 A48v1)
def A48v3:AC:=(.seq (.seq (.region 14 [mv 55 11,mv 56 1,o1 57 (bt .lss 3 55 56)] 0 none) []
 (.cond (tm 57)
 .skip
 (.exit 2 (0 :: 3 :: 4 :: (rl 7 62 []))))) [55,56,57]
 A48v2)
def A48v4:AC:=(.seq (.region 13 [o1 11 (sk 0)] 0 none) []
 (.block 2
 (.loop [] (0 :: 3 :: 4 :: 8 :: 9 :: 10 :: (rl 12 57 []))
  A48v3)))
def A48v5:AC:=(.seq (.seq (.region 10 [o1 45 (ln 28 6 2),o1 46 (fa 92 7 0 0),o1 47 (lo 9 46),o1 48 (cs 72 [45,47] [28,9]),mv 44 48,o1 49 (.extract (tm 44) 0),o1 50 (.extract (tm 44) 1),o1 9 (sg 49),o1 10 (sg 50)] 0 none) []
 (.seq (.region 11 [mv 51 9,o1 52 (fa 62 5 1 1),o1 53 (lo 9 52),o1 54 (bt .neq 9 51 53)] 0 none) []
 (.cond (tm 54)
 (.seq (.region 12 [o1 4 (sk 2)] 0 none) []
  (.ret (rl 0 4 (rl 5 64 []))))
 .skip))) (4 :: 9 :: 10 :: (rl 44 11 []))
 A48v4)
def A48v6:AC:=(.seq (.seq (.region 8 [o1 36 (fa 92 7 2 2),o1 37 (lo 3 36),o1 38 (bk .neq 3 37 4),mv 39 38,og 40 (fa 92 7 2 2) 39 true,og 41 (lo 3 40) 39 true,og 42 (bk .neq 3 41 3) 39 true,o1 43 (po 39 42)] 0 none) []
 (.cond (tm 43)
 (.seq (.region 9 [o1 4 (sk 10)] 0 none) []
  (.ret (rl 0 4 (rl 5 64 []))))
 .skip)) (4 :: (rl 36 8 []))
 A48v5)
def A48v7:AC:=(.region 4 [mv 22 6,o1 23 (bk .add 3 22 1),o1 6 (sg 23)] 0 none)
def A48v8:AC:=(.seq (.block 1
 (.seq (.region 5 [o1 25 (ln 28 6 2),o1 26 (fa 62 5 2 2),o1 27 (lo 37 26),mv 28 6,o1 29 (.indexAddr 37 9 1 (tm 27) (tm 28)),o1 30 (lo 9 29),o1 31 (cf 46 [25,30] [28,9]),mv 24 31,o1 32 (.extract (tm 24) 0),o1 33 (.extract (tm 24) 1),o1 7 (.alloc 0 92 [vcs ByteArray.empty,vci 0,vci 0,vcs ByteArray.empty,vcs ByteArray.empty,vci 0,vcn,vcn,vcs ByteArray.empty,vci 0,vci 0,vci 0,vci 0,vci 0,vci 0,vci 0,vci 0,vci 0]),o0 (.store 92 18 (tm 7) (tm 32)),o1 8 (sg 33)] 1 (some [[],[],[1],[],[1,2,3],(rl 1 4 []),(rl 0 6 []),(rl 0 7 []),(rl 0 8 []),(rl 0 8 []),[],(rl 0 9 [10]),(rl 0 12 [])])) []
  (.seq (.seq (.region 6 [mv 34 8,o1 35 (.unOp .not 4 (tm 34))] 0 none) []
  (.cond (tm 35)
  (.seq (.region 7 [o1 4 (sk 8)] 0 none) []
   (.ret (rl 0 4 (rl 5 64 []))))
  .skip)) [4,34,35]
  A48v6))) (4 :: (rl 7 5 (rl 24 45 [])))
 A48v7)
def A48v9:AC:=(.seq (.seq (.region 3 [mv 17 6,o1 18 (fa 62 5 2 2),o1 19 (lo 37 18),o1 20 (.len 37 false (tm 19)),o1 21 (bt .lss 3 17 20)] 0 none) []
 (.cond (tm 21)
 .skip
 (.exit 0 (rl 0 69 [])))) (rl 17 5 [])
 A48v8)
def A48v10:AC:=(.seq (.region 18 [o1 4 (sk 0)] 0 none) []
 (.ret (rl 0 4 (rl 5 64 []))))
def A48:AF:=⟨69,[.tmp 4],
 (.seq (.region 0 [o1 2 (bx 0 28 0),o1 4 (sk 0)] 1 none) []
 (.seq (.region 1 [o1 12 (fa 28 2 4 4),o1 13 (lo 25 12),mv 14 1,o1 15 (.indexAddr 25 62 5 (tm 13) (tm 14)),o1 16 (ln 62 5 15),o1 5 (.alloc 0 62 [vcs ByteArray.empty,vcs ByteArray.empty,vcn,vci 0,vcn]),o0 (.store 62 5 (tm 5) (tm 16))] 1 none) []
 (.seq (.seq (.region 2 [o1 6 (sk 0)] 0 none) []
 (.block 0
 (.loop [] (0 :: 3 :: 4 :: (rl 7 62 []))
  A48v9))) (4 :: (rl 6 6 (rl 17 52 [])))
 A48v10)))⟩
def N321v2:St→Option St:=nN 3 (0 :: 3 :: 4 :: 8 :: 9 :: 10 :: (rl 12 57 []))
def s321v0:St:=⟨(.u :: vxi i0 :: .x (.ptr 0 0) :: .u :: .u :: .x (.ptr 1 0) :: vxi i1 :: .x (.ptr 2 0) :: (us 3 (vxi i2 :: (us 57 [])))),[.box [(vcs w0),(.c (ro kE n0 f0)),(.c (ro kA n1 f1)),(.c (ro kG n2 f2)),(.c (ro kC n3 f3)),(.c (ro kF n4 f4))],.box [(vcs w1),(vcs w2),(.c (ro (.pr .str .nil) n5 f5)),(vci i3),(.c (ro (.pr .str .nil) n6 f6))],.box [(vcs w3),(vci i4),(vci i5),(vcs w4),(vcs w5),(vci i6),(.c (ro kP n7 f7)),(.c (ro (.pr (.sl kP) .nil) n8 f8)),(vcs w6),(vci i7),(vci i8),(vci i9),(vci iA),(vci iB),(vci iC),(vci iD),(vci iE),(vci iF)]]⟩
def s321v1:St:=⟨(us 4 (vxi 7 :: (us 64 []))),[.box [(vcs w0),(.c (ro kE n0 f0)),(.c (ro kA n1 f1)),(.c (ro kG n2 f2)),(.c (ro kC n3 f3)),(.c (ro kF n4 f4))],.box [(vcs w1),(vcs w2),(.c (ro (.pr .str .nil) n5 f5)),(vci i0),(.c (ro (.pr .str .nil) n6 f6))],.box [(vcs w3),(vci i1),(vci i2),(vcs w4),(vcs w5),(vci i3),(.c (ro kP n7 f7)),(.c (ro (.pr (.sl kP) .nil) n8 f8)),(vcs w6),(vci i4),(vci i5),(vci i6),(vci i7),(vci i8),(vci i9),(vci iA),(vci iB),(vci iC)]]⟩
def s321v2:St:=⟨(.u :: vxi i0 :: .x (.ptr 0 0) :: .u :: .u :: .x (.ptr 1 0) :: vxi i1 :: (us 62 [])),[.box [(vcs w0),(.c (ro kE n0 f0)),(.c (ro kA n1 f1)),(.c (ro kG n2 f2)),(.c (ro kC n3 f3)),(.c (ro kF n4 f4))],.box [(vcs w1),(vcs w2),(.c (ro (.pr .str .nil) n5 f5)),(vci i2),(.c (ro (.pr .str .nil) n6 f6))],.box [(vcs w3),(vci i3),(vci i4),(vcs w4),(vcs w5),(vci i5),(.c (ro kP n7 f7)),(.c (ro (.pr (.sl kP) .nil) n8 f8)),(vcs w6),(vci i6),(vci i7),(vci i8),(vci i9),(vci iA),(vci iB),(vci iC),(vci iD),(vci iE)]]⟩
def L321v2 {ρ:Type} (u:Nat) (x0 x1:Int) (x2:ByteArray) (x3:Nat) (x4:FF) (x5:Nat) (x6:FF) (x7:Nat) (x8:FF) (x9:Nat) (xA:FF) (xB:Nat) (xC:FF) (xD xE:ByteArray) (xF:Nat) (xG:FF) (xH:Int) (xI:Nat) (xJ:FF) (xK:ByteArray) (xL xM:Int) (xN xO:ByteArray) (xP:Int) (xQ:Nat) (xR:FF) (xS:Nat) (xT:FF) (xU:ByteArray) (xV xW xX xY xZ xa xb xc xd:Int):Nat→Int→(Option ρ)→(Option ρ)→Option ρ
 | 0,_,_,_=>none
 | m+1,xe,k0,k1 =>
  (bif (decide (xe<x0)) then (bif (inb xe x9) then (ob (F264 u (xA xe.toNat 2).len (xA xe.toNat 2).el xK) fun xf=>(bif xf then k0 else (L321v2 u x0 x1 x2 x3 x4 x5 x6 x7 x8 x9 xA xB xC xD xE xF xG xH xI xJ xK xL xM xN xO xP xQ xR xS xT xU xV xW xX xY xZ xa xb xc xd m (w64 (xe+1)) k0 k1))) else none) else k1)
theorem nl321v2:∀ (m:Nat) (x0:Int) (k0:Option ρ) (k1:Option ρ),ob (L321v2 u i0 i1 w0 n0 f0 n1 f1 n2 f2 n3 f3 n4 f4 w1 w2 n5 f5 i2 n6 f6 w3 i3 i4 w4 w5 i5 n7 f7 n8 f8 w6 i6 i7 i8 i9 iA iB iC iD iE m x0 k0 k1) ng=L321v2 u i0 i1 w0 n0 f0 n1 f1 n2 f2 n3 f3 n4 f4 w1 w2 n5 f5 i2 n6 f6 w3 i3 i4 w4 w5 i5 n7 f7 n8 f8 w6 i6 i7 i8 i9 iA iB iC iD iE m x0 (ob k0 ng) (ob k1 ng)
 | 0,_,_,_=>rfl
 | m+1,x0,k0,k1=>by
  simp only [L321v2,ob_bif,ob_ob,ob_none,nl321v2 m]
theorem q321v2:∀ (m:Nat) (x0:Int),
  loopH (eB A48v3 (C53 u) u) N321v2 m (s321v0 n0 n1 n2 n3 n4 n5 n6 n7 n8 f0 f1 f2 f3 f4 f5 f6 f7 f8 i0 i1 x0 i2 i3 i4 i5 i6 i7 i8 i9 iA iB iC iD iE w0 w1 w2 w3 w4 w5 w6) k=L321v2 u i0 i1 w0 n0 f0 n1 f1 n2 f2 n3 f3 n4 f4 w1 w2 n5 f5 i2 n6 f6 w3 i3 i4 w4 w5 i5 n7 f7 n8 f8 w6 i6 i7 i8 i9 iA iB iC iD iE m x0 (k .ret (s321v1 n0 n1 n2 n3 n4 n5 n6 n7 n8 f0 f1 f2 f3 f4 f5 f6 f7 f8 i2 i3 i4 i5 i6 i7 i8 i9 iA iB iC iD iE w0 w1 w2 w3 w4 w5 w6)) (k (.exit 2) (s321v2 n0 n1 n2 n3 n4 n5 n6 n7 n8 f0 f1 f2 f3 f4 f5 f6 f7 f8 i0 i1 i2 i3 i4 i5 i6 i7 i8 i9 iA iB iC iD iE w0 w1 w2 w3 w4 w5 w6))
 | 0,_=>rfl
 | m+1,x0=>by
  simp only [L321v2,← q321v2 m]
  kernel_rfl
def N321v3:St→Option St:=nN 2 (0 :: 3 :: 4 :: (rl 7 62 []))
def s321v3:St:=⟨(.u :: vxi i0 :: .x (.ptr 0 0) :: .u :: .u :: .x (.ptr 1 0) :: vxi i1 :: (us 62 [])),[.box [(vcs w0),(.c (ro kE n0 f0)),(.c (ro kA n1 f1)),(.c (ro kG n2 f2)),(.c (ro kC n3 f3)),(.c (ro kF n4 f4))],.box [(vcs w1),(vcs w2),(.c (ro (.pr .str .nil) n5 f5)),(vci i2),(.c (ro (.pr .str .nil) n6 f6))]]⟩
def s321v4:St:=⟨(us 4 (vxi i0 :: (us 64 []))),[.box [(vcs w0),(.c (ro kE n0 f0)),(.c (ro kA n1 f1)),(.c (ro kG n2 f2)),(.c (ro kC n3 f3)),(.c (ro kF n4 f4))],.box [(vcs w1),(vcs w2),(.c (ro (.pr .str .nil) n5 f5)),(vci i1),(.c (ro (.pr .str .nil) n6 f6))],.box [(vcs w3),(vci i2),(vci i3),(vcs w4),(vcs w5),(vci i4),(.c (ro kP n7 f7)),(.c (ro (.pr (.sl kP) .nil) n8 f8)),(vcs w6),(vci i5),(vci i6),(vci i7),(vci i8),(vci i9),(vci iA),(vci iB),(vci iC),(vci iD)]]⟩
def s321v5:St:=⟨(us 69 []),[.box [(vcs w0),(.c (ro kE n0 f0)),(.c (ro kA n1 f1)),(.c (ro kG n2 f2)),(.c (ro kC n3 f3)),(.c (ro kF n4 f4))],.box [(vcs w1),(vcs w2),(.c (ro (.pr .str .nil) n5 f5)),(vci i0),(.c (ro (.pr .str .nil) n6 f6))]]⟩
def L321v3 {ρ:Type} (u:Nat) (x0:Int) (x1:ByteArray) (x2:Nat) (x3:FF) (x4:Nat) (x5:FF) (x6:Nat) (x7:FF) (x8:Nat) (x9:FF) (xA:Nat) (xB:FF) (xC xD:ByteArray) (xE:Nat) (xF:FF) (xG:Int) (xH:Nat) (xI:FF):Nat→Int→(Int→ByteArray→Int→Int→ByteArray→ByteArray→Int→Nat→FF→Nat→FF→ByteArray→Int→Int→Int→Int→Int→Int→Int→Int→Int→Option ρ)→(Option ρ)→Option ρ
 | 0,_,_,_=>none
 | m+1,xJ,k0,k1 =>
  (bif (decide (xJ<(Int.ofNat xE))) then (bif (inb xJ xE) then (ob (F303 u x1 x2 x3 x4 x5 x6 x7 x8 x9 xA xB (xF xJ.toNat 0).str) fun xK=>(bif (!(pG xK).2.2.2.2) then (k0 8 xK.1 xK.2.1 xK.2.2.1 xK.2.2.2.1 xK.2.2.2.2.1 xK.2.2.2.2.2.1 xK.2.2.2.2.2.2.1 xK.2.2.2.2.2.2.2.1 (p8 xK).1 (p8 xK).2.1 (p8 xK).2.2.1 (p8 xK).2.2.2.1 (p8 xK).2.2.2.2.1 (p8 xK).2.2.2.2.2.1 (p8 xK).2.2.2.2.2.2.1 (p8 xK).2.2.2.2.2.2.2.1 (pG xK).1 (pG xK).2.1 (pG xK).2.2.1 (pG xK).2.2.2.1) else (bif ((xK.2.2.1 != 4)==true) then (bif (xK.2.2.1 != 3) then (k0 10 xK.1 xK.2.1 xK.2.2.1 xK.2.2.2.1 xK.2.2.2.2.1 xK.2.2.2.2.2.1 xK.2.2.2.2.2.2.1 xK.2.2.2.2.2.2.2.1 (p8 xK).1 (p8 xK).2.1 (p8 xK).2.2.1 (p8 xK).2.2.2.1 (p8 xK).2.2.2.2.1 (p8 xK).2.2.2.2.2.1 (p8 xK).2.2.2.2.2.2.1 (p8 xK).2.2.2.2.2.2.2.1 (pG xK).1 (pG xK).2.1 (pG xK).2.2.1 (pG xK).2.2.2.1) else (ob (F320 u x1 x2 x3 x4 x5 x6 x7 x8 x9 xA xB xK.1) fun xL=>(bif (!(ByteArray.toList xL.1==ByteArray.toList xD)) then (k0 2 xK.1 xK.2.1 xK.2.2.1 xK.2.2.2.1 xK.2.2.2.2.1 xK.2.2.2.2.2.1 xK.2.2.2.2.2.2.1 xK.2.2.2.2.2.2.2.1 (p8 xK).1 (p8 xK).2.1 (p8 xK).2.2.1 (p8 xK).2.2.2.1 (p8 xK).2.2.2.2.1 (p8 xK).2.2.2.2.2.1 (p8 xK).2.2.2.2.2.2.1 (p8 xK).2.2.2.2.2.2.2.1 (pG xK).1 (pG xK).2.1 (pG xK).2.2.1 (pG xK).2.2.2.1) else (L321v2 u x0 xJ x1 x2 x3 x4 x5 x6 x7 x8 x9 xA xB xC xD xE xF xG xH xI xK.1 xK.2.1 xK.2.2.1 xK.2.2.2.1 xK.2.2.2.2.1 xK.2.2.2.2.2.1 xK.2.2.2.2.2.2.1 xK.2.2.2.2.2.2.2.1 (p8 xK).1 (p8 xK).2.1 (p8 xK).2.2.1 (p8 xK).2.2.2.1 (p8 xK).2.2.2.2.1 (p8 xK).2.2.2.2.2.1 (p8 xK).2.2.2.2.2.2.1 (p8 xK).2.2.2.2.2.2.2.1 (pG xK).1 (pG xK).2.1 (pG xK).2.2.1 (pG xK).2.2.2.1 u 0
  (k0 7 xK.1 xK.2.1 xK.2.2.1 xK.2.2.2.1 xK.2.2.2.2.1 xK.2.2.2.2.2.1 xK.2.2.2.2.2.2.1 xK.2.2.2.2.2.2.2.1 (p8 xK).1 (p8 xK).2.1 (p8 xK).2.2.1 (p8 xK).2.2.2.1 (p8 xK).2.2.2.2.1 (p8 xK).2.2.2.2.2.1 (p8 xK).2.2.2.2.2.2.1 (p8 xK).2.2.2.2.2.2.2.1 (pG xK).1 (pG xK).2.1 (pG xK).2.2.1 (pG xK).2.2.2.1)
  (L321v3 u x0 x1 x2 x3 x4 x5 x6 x7 x8 x9 xA xB xC xD xE xF xG xH xI m (w64 (xJ+1)) k0 k1))))) else (ob (F320 u x1 x2 x3 x4 x5 x6 x7 x8 x9 xA xB xK.1) fun xM=>(bif (!(ByteArray.toList xM.1==ByteArray.toList xD)) then (k0 2 xK.1 xK.2.1 xK.2.2.1 xK.2.2.2.1 xK.2.2.2.2.1 xK.2.2.2.2.2.1 xK.2.2.2.2.2.2.1 xK.2.2.2.2.2.2.2.1 (p8 xK).1 (p8 xK).2.1 (p8 xK).2.2.1 (p8 xK).2.2.2.1 (p8 xK).2.2.2.2.1 (p8 xK).2.2.2.2.2.1 (p8 xK).2.2.2.2.2.2.1 (p8 xK).2.2.2.2.2.2.2.1 (pG xK).1 (pG xK).2.1 (pG xK).2.2.1 (pG xK).2.2.2.1) else (L321v2 u x0 xJ x1 x2 x3 x4 x5 x6 x7 x8 x9 xA xB xC xD xE xF xG xH xI xK.1 xK.2.1 xK.2.2.1 xK.2.2.2.1 xK.2.2.2.2.1 xK.2.2.2.2.2.1 xK.2.2.2.2.2.2.1 xK.2.2.2.2.2.2.2.1 (p8 xK).1 (p8 xK).2.1 (p8 xK).2.2.1 (p8 xK).2.2.2.1 (p8 xK).2.2.2.2.1 (p8 xK).2.2.2.2.2.1 (p8 xK).2.2.2.2.2.2.1 (p8 xK).2.2.2.2.2.2.2.1 (pG xK).1 (pG xK).2.1 (pG xK).2.2.1 (pG xK).2.2.2.1 u 0
  (k0 7 xK.1 xK.2.1 xK.2.2.1 xK.2.2.2.1 xK.2.2.2.2.1 xK.2.2.2.2.2.1 xK.2.2.2.2.2.2.1 xK.2.2.2.2.2.2.2.1 (p8 xK).1 (p8 xK).2.1 (p8 xK).2.2.1 (p8 xK).2.2.2.1 (p8 xK).2.2.2.2.1 (p8 xK).2.2.2.2.2.1 (p8 xK).2.2.2.2.2.2.1 (p8 xK).2.2.2.2.2.2.2.1 (pG xK).1 (pG xK).2.1 (pG xK).2.2.1 (pG xK).2.2.2.1)
  (L321v3 u x0 x1 x2 x3 x4 x5 x6 x7 x8 x9 xA xB xC xD xE xF xG xH xI m (w64 (xJ+1)) k0 k1))))))) else none) else k1)
theorem nl321v3:∀ (m:Nat) (x0:Int) (k0:Int→ByteArray→Int→Int→ByteArray→ByteArray→Int→Nat→FF→Nat→FF→ByteArray→Int→Int→Int→Int→Int→Int→Int→Int→Int→Option ρ) (k1:Option ρ),ob (L321v3 u i0 w0 n0 f0 n1 f1 n2 f2 n3 f3 n4 f4 w1 w2 n5 f5 i1 n6 f6 m x0 k0 k1) ng=L321v3 u i0 w0 n0 f0 n1 f1 n2 f2 n3 f3 n4 f4 w1 w2 n5 f5 i1 n6 f6 m x0 (fun x1 x2 x3 x4 x5 x6 x7 x8 x9 xA xB xC xD xE xF xG xH xI xJ xK xL=>ob (k0 x1 x2 x3 x4 x5 x6 x7 x8 x9 xA xB xC xD xE xF xG xH xI xJ xK xL) ng) (ob k1 ng)
 | 0,_,_,_=>rfl
 | m+1,x0,k0,k1=>by
  simp only [L321v3,ob_bif,ob_ob,ob_none,nl321v3 m,nl321v2]
def s321v6 (x0:ByteArray × Int × Int × ByteArray × ByteArray × Int × Nat × FF × Nat × FF × ByteArray × Int × Int × Int × Int × Int × Int × Int × Int × Int × Bool):St:=⟨(.u :: vxi i0 :: .x (.ptr 0 0) :: .u :: .u :: .x (.ptr 1 0) :: vxi i1 :: .x (.ptr 2 0) :: vxb (pG x0).2.2.2.2 :: .u :: .u :: vxi 0 :: (us 12 (.tup [.agg [(.s x0.1),(vi x0.2.1),(vi x0.2.2.1),(.s x0.2.2.2.1),(.s x0.2.2.2.2.1),(vi x0.2.2.2.2.2.1),(ro kP x0.2.2.2.2.2.2.1 x0.2.2.2.2.2.2.2.1),(ro (.pr (.sl kP) .nil) (p8 x0).1 (p8 x0).2.1),(.s (p8 x0).2.2.1),(vi (p8 x0).2.2.2.1),(vi (p8 x0).2.2.2.2.1),(vi (p8 x0).2.2.2.2.2.1),(vi (p8 x0).2.2.2.2.2.2.1),(vi (p8 x0).2.2.2.2.2.2.2.1),(vi (pG x0).1),(vi (pG x0).2.1),(vi (pG x0).2.2.1),(vi (pG x0).2.2.2.1)],.v (.b (pG x0).2.2.2.2)] :: .agg [(vcs w0),(.c (ro kE n0 f0)),(.c (ro kA n1 f1)),(.c (ro kG n2 f2)),(.c (ro kC n3 f3)),(.c (ro kF n4 f4))] :: .x (.ptr 1 2) :: .x (.c (ro (.pr .str .nil) n5 f5)) :: vxi i1 :: .x (.c (.rp (.pr .str .nil) (f5 i1.toNat))) :: vxs (f5 i1.toNat 0).str :: .tup [.agg [(.s x0.1),(vi x0.2.1),(vi x0.2.2.1),(.s x0.2.2.2.1),(.s x0.2.2.2.2.1),(vi x0.2.2.2.2.2.1),(ro kP x0.2.2.2.2.2.2.1 x0.2.2.2.2.2.2.2.1),(ro (.pr (.sl kP) .nil) (p8 x0).1 (p8 x0).2.1),(.s (p8 x0).2.2.1),(vi (p8 x0).2.2.2.1),(vi (p8 x0).2.2.2.2.1),(vi (p8 x0).2.2.2.2.2.1),(vi (p8 x0).2.2.2.2.2.2.1),(vi (p8 x0).2.2.2.2.2.2.2.1),(vi (pG x0).1),(vi (pG x0).2.1),(vi (pG x0).2.2.1),(vi (pG x0).2.2.2.1)],.v (.b (pG x0).2.2.2.2)] :: .agg [(vcs x0.1),(vci x0.2.1),(vci x0.2.2.1),(vcs x0.2.2.2.1),(vcs x0.2.2.2.2.1),(vci x0.2.2.2.2.2.1),(.c (ro kP x0.2.2.2.2.2.2.1 x0.2.2.2.2.2.2.2.1)),(.c (ro (.pr (.sl kP) .nil) (p8 x0).1 (p8 x0).2.1)),(vcs (p8 x0).2.2.1),(vci (p8 x0).2.2.2.1),(vci (p8 x0).2.2.2.2.1),(vci (p8 x0).2.2.2.2.2.1),(vci (p8 x0).2.2.2.2.2.2.1),(vci (p8 x0).2.2.2.2.2.2.2.1),(vci (pG x0).1),(vci (pG x0).2.1),(vci (pG x0).2.2.1),(vci (pG x0).2.2.2.1)] :: vxb (pG x0).2.2.2.2 :: (us 35 [])))),[.box [(vcs w0),(.c (ro kE n0 f0)),(.c (ro kA n1 f1)),(.c (ro kG n2 f2)),(.c (ro kC n3 f3)),(.c (ro kF n4 f4))],.box [(vcs w1),(vcs w2),(.c (ro (.pr .str .nil) n5 f5)),(vci i2),(.c (ro (.pr .str .nil) n6 f6))],.box [(vcs x0.1),(vci x0.2.1),(vci x0.2.2.1),(vcs x0.2.2.2.1),(vcs x0.2.2.2.2.1),(vci x0.2.2.2.2.2.1),(.c (ro kP x0.2.2.2.2.2.2.1 x0.2.2.2.2.2.2.2.1)),(.c (ro (.pr (.sl kP) .nil) (p8 x0).1 (p8 x0).2.1)),(vcs (p8 x0).2.2.1),(vci (p8 x0).2.2.2.1),(vci (p8 x0).2.2.2.2.1),(vci (p8 x0).2.2.2.2.2.1),(vci (p8 x0).2.2.2.2.2.2.1),(vci (p8 x0).2.2.2.2.2.2.2.1),(vci (pG x0).1),(vci (pG x0).2.1),(vci (pG x0).2.2.1),(vci (pG x0).2.2.2.1)]]⟩
theorem r321v3 :
  loopH (eB A48v9 (C53 u) u) N321v3 (m+1) (s321v3 n0 n1 n2 n3 n4 n5 n6 f0 f1 f2 f3 f4 f5 f6 i0 i2 i1 w0 w1 w2) k =
  (bif (decide (i2<(Int.ofNat n5))) then (bif (inb i2 n5) then (ob (F303 u w0 n0 f0 n1 f1 n2 f2 n3 f3 n4 f4 (f5 i2.toNat 0).str) fun x0=>(bif (!(pG x0).2.2.2.2) then (k .ret (s321v4 n0 n1 n2 n3 n4 n5 n6 x0.2.2.2.2.2.2.1 (p8 x0).1 f0 f1 f2 f3 f4 f5 f6 x0.2.2.2.2.2.2.2.1 (p8 x0).2.1 8 i1 x0.2.1 x0.2.2.1 x0.2.2.2.2.2.1 (p8 x0).2.2.2.1 (p8 x0).2.2.2.2.1 (p8 x0).2.2.2.2.2.1 (p8 x0).2.2.2.2.2.2.1 (p8 x0).2.2.2.2.2.2.2.1 (pG x0).1 (pG x0).2.1 (pG x0).2.2.1 (pG x0).2.2.2.1 w0 w1 w2 x0.1 x0.2.2.2.1 x0.2.2.2.2.1 (p8 x0).2.2.1)) else (bif ((x0.2.2.1 != 4)==true) then (bif (x0.2.2.1 != 3) then (k .ret (s321v4 n0 n1 n2 n3 n4 n5 n6 x0.2.2.2.2.2.2.1 (p8 x0).1 f0 f1 f2 f3 f4 f5 f6 x0.2.2.2.2.2.2.2.1 (p8 x0).2.1 10 i1 x0.2.1 x0.2.2.1 x0.2.2.2.2.2.1 (p8 x0).2.2.2.1 (p8 x0).2.2.2.2.1 (p8 x0).2.2.2.2.2.1 (p8 x0).2.2.2.2.2.2.1 (p8 x0).2.2.2.2.2.2.2.1 (pG x0).1 (pG x0).2.1 (pG x0).2.2.1 (pG x0).2.2.2.1 w0 w1 w2 x0.1 x0.2.2.2.1 x0.2.2.2.2.1 (p8 x0).2.2.1)) else (ob (F320 u w0 n0 f0 n1 f1 n2 f2 n3 f3 n4 f4 x0.1) fun x1=>(bif (!(ByteArray.toList x1.1==ByteArray.toList w2)) then (k .ret (s321v4 n0 n1 n2 n3 n4 n5 n6 x0.2.2.2.2.2.2.1 (p8 x0).1 f0 f1 f2 f3 f4 f5 f6 x0.2.2.2.2.2.2.2.1 (p8 x0).2.1 2 i1 x0.2.1 x0.2.2.1 x0.2.2.2.2.2.1 (p8 x0).2.2.2.1 (p8 x0).2.2.2.2.1 (p8 x0).2.2.2.2.2.1 (p8 x0).2.2.2.2.2.2.1 (p8 x0).2.2.2.2.2.2.2.1 (pG x0).1 (pG x0).2.1 (pG x0).2.2.1 (pG x0).2.2.2.1 w0 w1 w2 x0.1 x0.2.2.2.1 x0.2.2.2.2.1 (p8 x0).2.2.1)) else (loopN (eB A48v3 (C53 u) u) N321v2 u (s321v6 n0 n1 n2 n3 n4 n5 n6 f0 f1 f2 f3 f4 f5 f6 i0 i2 i1 w0 w1 w2 x0) (kBlk 2 (kBlk 1 (kSeq (C53 u) u (4 :: (rl 7 5 (rl 24 45 []))) A48v7 (kLoop (eB A48v9 (C53 u) u) N321v3 m k)))))))) else (ob (F320 u w0 n0 f0 n1 f1 n2 f2 n3 f3 n4 f4 x0.1) fun x2=>(bif (!(ByteArray.toList x2.1==ByteArray.toList w2)) then (k .ret (s321v4 n0 n1 n2 n3 n4 n5 n6 x0.2.2.2.2.2.2.1 (p8 x0).1 f0 f1 f2 f3 f4 f5 f6 x0.2.2.2.2.2.2.2.1 (p8 x0).2.1 2 i1 x0.2.1 x0.2.2.1 x0.2.2.2.2.2.1 (p8 x0).2.2.2.1 (p8 x0).2.2.2.2.1 (p8 x0).2.2.2.2.2.1 (p8 x0).2.2.2.2.2.2.1 (p8 x0).2.2.2.2.2.2.2.1 (pG x0).1 (pG x0).2.1 (pG x0).2.2.1 (pG x0).2.2.2.1 w0 w1 w2 x0.1 x0.2.2.2.1 x0.2.2.2.2.1 (p8 x0).2.2.1)) else (loopN (eB A48v3 (C53 u) u) N321v2 u (s321v6 n0 n1 n2 n3 n4 n5 n6 f0 f1 f2 f3 f4 f5 f6 i0 i2 i1 w0 w1 w2 x0) (kBlk 2 (kBlk 1 (kSeq (C53 u) u (4 :: (rl 7 5 (rl 24 45 []))) A48v7 (kLoop (eB A48v9 (C53 u) u) N321v3 m k)))))))))) else none) else (k (.exit 0) (s321v5 n0 n1 n2 n3 n4 n5 n6 f0 f1 f2 f3 f4 f5 f6 i1 w0 w1 w2))):=by kernel_rfl
theorem t321v1 (x0:ByteArray × Int × Int × ByteArray × ByteArray × Int × Nat × FF × Nat × FF × ByteArray × Int × Int × Int × Int × Int × Int × Int × Int × Int × Bool) :
  loopN (eB A48v3 (C53 u) u) N321v2 u (s321v6 n0 n1 n2 n3 n4 n5 n6 f0 f1 f2 f3 f4 f5 f6 i0 i1 i2 w0 w1 w2 x0) k =
  L321v2 u i0 i1 w0 n0 f0 n1 f1 n2 f2 n3 f3 n4 f4 w1 w2 n5 f5 i2 n6 f6 x0.1 x0.2.1 x0.2.2.1 x0.2.2.2.1 x0.2.2.2.2.1 x0.2.2.2.2.2.1 x0.2.2.2.2.2.2.1 x0.2.2.2.2.2.2.2.1 (p8 x0).1 (p8 x0).2.1 (p8 x0).2.2.1 (p8 x0).2.2.2.1 (p8 x0).2.2.2.2.1 (p8 x0).2.2.2.2.2.1 (p8 x0).2.2.2.2.2.2.1 (p8 x0).2.2.2.2.2.2.2.1 (pG x0).1 (pG x0).2.1 (pG x0).2.2.1 (pG x0).2.2.2.1 u 0 (k .ret (s321v1 n0 n1 n2 n3 n4 n5 n6 x0.2.2.2.2.2.2.1 (p8 x0).1 f0 f1 f2 f3 f4 f5 f6 x0.2.2.2.2.2.2.2.1 (p8 x0).2.1 i2 x0.2.1 x0.2.2.1 x0.2.2.2.2.2.1 (p8 x0).2.2.2.1 (p8 x0).2.2.2.2.1 (p8 x0).2.2.2.2.2.1 (p8 x0).2.2.2.2.2.2.1 (p8 x0).2.2.2.2.2.2.2.1 (pG x0).1 (pG x0).2.1 (pG x0).2.2.1 (pG x0).2.2.2.1 w0 w1 w2 x0.1 x0.2.2.2.1 x0.2.2.2.2.1 (p8 x0).2.2.1)) (k (.exit 2) (s321v2 n0 n1 n2 n3 n4 n5 n6 x0.2.2.2.2.2.2.1 (p8 x0).1 f0 f1 f2 f3 f4 f5 f6 x0.2.2.2.2.2.2.2.1 (p8 x0).2.1 i0 i1 i2 x0.2.1 x0.2.2.1 x0.2.2.2.2.2.1 (p8 x0).2.2.2.1 (p8 x0).2.2.2.2.1 (p8 x0).2.2.2.2.2.1 (p8 x0).2.2.2.2.2.2.1 (p8 x0).2.2.2.2.2.2.2.1 (pG x0).1 (pG x0).2.1 (pG x0).2.2.1 (pG x0).2.2.2.1 w0 w1 w2 x0.1 x0.2.2.2.1 x0.2.2.2.2.1 (p8 x0).2.2.1)) :=
 Eq.trans (loopN_at (by kernel_rfl)) (q321v2 ..)
theorem g321v2 (x0:ByteArray × Int × Int × ByteArray × ByteArray × Int × Nat × FF × Nat × FF × ByteArray × Int × Int × Int × Int × Int × Int × Int × Int × Int × Bool) :
  (kBlk 2 (kBlk 1 (kSeq (C53 u) u (4 :: (rl 7 5 (rl 24 45 []))) A48v7 (kLoop (eB A48v9 (C53 u) u) N321v3 m k)))) .ret (s321v1 n0 n1 n2 n3 n4 n5 n6 x0.2.2.2.2.2.2.1 (p8 x0).1 f0 f1 f2 f3 f4 f5 f6 x0.2.2.2.2.2.2.2.1 (p8 x0).2.1 i0 x0.2.1 x0.2.2.1 x0.2.2.2.2.2.1 (p8 x0).2.2.2.1 (p8 x0).2.2.2.2.1 (p8 x0).2.2.2.2.2.1 (p8 x0).2.2.2.2.2.2.1 (p8 x0).2.2.2.2.2.2.2.1 (pG x0).1 (pG x0).2.1 (pG x0).2.2.1 (pG x0).2.2.2.1 w0 w1 w2 x0.1 x0.2.2.2.1 x0.2.2.2.2.1 (p8 x0).2.2.1) =
  (k .ret (s321v4 n0 n1 n2 n3 n4 n5 n6 x0.2.2.2.2.2.2.1 (p8 x0).1 f0 f1 f2 f3 f4 f5 f6 x0.2.2.2.2.2.2.2.1 (p8 x0).2.1 7 i0 x0.2.1 x0.2.2.1 x0.2.2.2.2.2.1 (p8 x0).2.2.2.1 (p8 x0).2.2.2.2.1 (p8 x0).2.2.2.2.2.1 (p8 x0).2.2.2.2.2.2.1 (p8 x0).2.2.2.2.2.2.2.1 (pG x0).1 (pG x0).2.1 (pG x0).2.2.1 (pG x0).2.2.2.1 w0 w1 w2 x0.1 x0.2.2.2.1 x0.2.2.2.2.1 (p8 x0).2.2.1)):=by kernel_rfl
theorem g321v3 (x0:ByteArray × Int × Int × ByteArray × ByteArray × Int × Nat × FF × Nat × FF × ByteArray × Int × Int × Int × Int × Int × Int × Int × Int × Int × Bool) :
  (kBlk 2 (kBlk 1 (kSeq (C53 u) u (4 :: (rl 7 5 (rl 24 45 []))) A48v7 (kLoop (eB A48v9 (C53 u) u) N321v3 m k)))) (.exit 2) (s321v2 n0 n1 n2 n3 n4 n5 n6 x0.2.2.2.2.2.2.1 (p8 x0).1 f0 f1 f2 f3 f4 f5 f6 x0.2.2.2.2.2.2.2.1 (p8 x0).2.1 i0 i1 i2 x0.2.1 x0.2.2.1 x0.2.2.2.2.2.1 (p8 x0).2.2.2.1 (p8 x0).2.2.2.2.1 (p8 x0).2.2.2.2.2.1 (p8 x0).2.2.2.2.2.2.1 (p8 x0).2.2.2.2.2.2.2.1 (pG x0).1 (pG x0).2.1 (pG x0).2.2.1 (pG x0).2.2.2.1 w0 w1 w2 x0.1 x0.2.2.2.1 x0.2.2.2.2.1 (p8 x0).2.2.1) =
  (loopH (eB A48v9 (C53 u) u) N321v3 m (s321v3 n0 n1 n2 n3 n4 n5 n6 f0 f1 f2 f3 f4 f5 f6 i0 (w64 (i1+1)) i2 w0 w1 w2) k):=by kernel_rfl
theorem t321v4 (x0:ByteArray × Int × Int × ByteArray × ByteArray × Int × Nat × FF × Nat × FF × ByteArray × Int × Int × Int × Int × Int × Int × Int × Int × Int × Bool) :
  loopN (eB A48v3 (C53 u) u) N321v2 u (s321v6 n0 n1 n2 n3 n4 n5 n6 f0 f1 f2 f3 f4 f5 f6 i0 i1 i2 w0 w1 w2 x0) k =
  L321v2 u i0 i1 w0 n0 f0 n1 f1 n2 f2 n3 f3 n4 f4 w1 w2 n5 f5 i2 n6 f6 x0.1 x0.2.1 x0.2.2.1 x0.2.2.2.1 x0.2.2.2.2.1 x0.2.2.2.2.2.1 x0.2.2.2.2.2.2.1 x0.2.2.2.2.2.2.2.1 (p8 x0).1 (p8 x0).2.1 (p8 x0).2.2.1 (p8 x0).2.2.2.1 (p8 x0).2.2.2.2.1 (p8 x0).2.2.2.2.2.1 (p8 x0).2.2.2.2.2.2.1 (p8 x0).2.2.2.2.2.2.2.1 (pG x0).1 (pG x0).2.1 (pG x0).2.2.1 (pG x0).2.2.2.1 u 0 (k .ret (s321v1 n0 n1 n2 n3 n4 n5 n6 x0.2.2.2.2.2.2.1 (p8 x0).1 f0 f1 f2 f3 f4 f5 f6 x0.2.2.2.2.2.2.2.1 (p8 x0).2.1 i2 x0.2.1 x0.2.2.1 x0.2.2.2.2.2.1 (p8 x0).2.2.2.1 (p8 x0).2.2.2.2.1 (p8 x0).2.2.2.2.2.1 (p8 x0).2.2.2.2.2.2.1 (p8 x0).2.2.2.2.2.2.2.1 (pG x0).1 (pG x0).2.1 (pG x0).2.2.1 (pG x0).2.2.2.1 w0 w1 w2 x0.1 x0.2.2.2.1 x0.2.2.2.2.1 (p8 x0).2.2.1)) (k (.exit 2) (s321v2 n0 n1 n2 n3 n4 n5 n6 x0.2.2.2.2.2.2.1 (p8 x0).1 f0 f1 f2 f3 f4 f5 f6 x0.2.2.2.2.2.2.2.1 (p8 x0).2.1 i0 i1 i2 x0.2.1 x0.2.2.1 x0.2.2.2.2.2.1 (p8 x0).2.2.2.1 (p8 x0).2.2.2.2.1 (p8 x0).2.2.2.2.2.1 (p8 x0).2.2.2.2.2.2.1 (p8 x0).2.2.2.2.2.2.2.1 (pG x0).1 (pG x0).2.1 (pG x0).2.2.1 (pG x0).2.2.2.1 w0 w1 w2 x0.1 x0.2.2.2.1 x0.2.2.2.2.1 (p8 x0).2.2.1)) :=
 Eq.trans (loopN_at (by kernel_rfl)) (q321v2 ..)
theorem g321v5 (x0:ByteArray × Int × Int × ByteArray × ByteArray × Int × Nat × FF × Nat × FF × ByteArray × Int × Int × Int × Int × Int × Int × Int × Int × Int × Bool) :
  (kBlk 2 (kBlk 1 (kSeq (C53 u) u (4 :: (rl 7 5 (rl 24 45 []))) A48v7 (kLoop (eB A48v9 (C53 u) u) N321v3 m k)))) .ret (s321v1 n0 n1 n2 n3 n4 n5 n6 x0.2.2.2.2.2.2.1 (p8 x0).1 f0 f1 f2 f3 f4 f5 f6 x0.2.2.2.2.2.2.2.1 (p8 x0).2.1 i0 x0.2.1 x0.2.2.1 x0.2.2.2.2.2.1 (p8 x0).2.2.2.1 (p8 x0).2.2.2.2.1 (p8 x0).2.2.2.2.2.1 (p8 x0).2.2.2.2.2.2.1 (p8 x0).2.2.2.2.2.2.2.1 (pG x0).1 (pG x0).2.1 (pG x0).2.2.1 (pG x0).2.2.2.1 w0 w1 w2 x0.1 x0.2.2.2.1 x0.2.2.2.2.1 (p8 x0).2.2.1) =
  (k .ret (s321v4 n0 n1 n2 n3 n4 n5 n6 x0.2.2.2.2.2.2.1 (p8 x0).1 f0 f1 f2 f3 f4 f5 f6 x0.2.2.2.2.2.2.2.1 (p8 x0).2.1 7 i0 x0.2.1 x0.2.2.1 x0.2.2.2.2.2.1 (p8 x0).2.2.2.1 (p8 x0).2.2.2.2.1 (p8 x0).2.2.2.2.2.1 (p8 x0).2.2.2.2.2.2.1 (p8 x0).2.2.2.2.2.2.2.1 (pG x0).1 (pG x0).2.1 (pG x0).2.2.1 (pG x0).2.2.2.1 w0 w1 w2 x0.1 x0.2.2.2.1 x0.2.2.2.2.1 (p8 x0).2.2.1)):=by kernel_rfl
theorem g321v6 (x0:ByteArray × Int × Int × ByteArray × ByteArray × Int × Nat × FF × Nat × FF × ByteArray × Int × Int × Int × Int × Int × Int × Int × Int × Int × Bool) :
  (kBlk 2 (kBlk 1 (kSeq (C53 u) u (4 :: (rl 7 5 (rl 24 45 []))) A48v7 (kLoop (eB A48v9 (C53 u) u) N321v3 m k)))) (.exit 2) (s321v2 n0 n1 n2 n3 n4 n5 n6 x0.2.2.2.2.2.2.1 (p8 x0).1 f0 f1 f2 f3 f4 f5 f6 x0.2.2.2.2.2.2.2.1 (p8 x0).2.1 i0 i1 i2 x0.2.1 x0.2.2.1 x0.2.2.2.2.2.1 (p8 x0).2.2.2.1 (p8 x0).2.2.2.2.1 (p8 x0).2.2.2.2.2.1 (p8 x0).2.2.2.2.2.2.1 (p8 x0).2.2.2.2.2.2.2.1 (pG x0).1 (pG x0).2.1 (pG x0).2.2.1 (pG x0).2.2.2.1 w0 w1 w2 x0.1 x0.2.2.2.1 x0.2.2.2.2.1 (p8 x0).2.2.1) =
  (loopH (eB A48v9 (C53 u) u) N321v3 m (s321v3 n0 n1 n2 n3 n4 n5 n6 f0 f1 f2 f3 f4 f5 f6 i0 (w64 (i1+1)) i2 w0 w1 w2) k):=by kernel_rfl
theorem q321v3:∀ (m:Nat) (x0:Int),
  loopH (eB A48v9 (C53 u) u) N321v3 m (s321v3 n0 n1 n2 n3 n4 n5 n6 f0 f1 f2 f3 f4 f5 f6 i0 x0 i1 w0 w1 w2) k=L321v3 u i0 w0 n0 f0 n1 f1 n2 f2 n3 f3 n4 f4 w1 w2 n5 f5 i1 n6 f6 m x0 (fun x1 x2 x3 x4 x5 x6 x7 x8 x9 xA xB xC xD xE xF xG xH xI xJ xK xL=>k .ret (s321v4 n0 n1 n2 n3 n4 n5 n6 x8 xA f0 f1 f2 f3 f4 f5 f6 x9 xB x1 i1 x3 x4 x7 xD xE xF xG xH xI xJ xK xL w0 w1 w2 x2 x5 x6 xC)) (k (.exit 0) (s321v5 n0 n1 n2 n3 n4 n5 n6 f0 f1 f2 f3 f4 f5 f6 i1 w0 w1 w2))
 | 0,_=>rfl
 | m+1,x0=>by
  rw [r321v3]
  simp only [L321v3,q321v3 m,t321v1,g321v2,g321v3,t321v4,g321v5,g321v6]
def F321 (x0:ByteArray) (x1:Nat) (x2:FF) (x3:Nat) (x4:FF) (x5:Nat) (x6:FF) (x7:Nat) (x8:FF) (x9:Nat) (xA:FF) (xB:Int):Option (Int) :=
 (bif (inb xB x7) then (L321v3 u xB x0 x1 x2 x3 x4 x5 x6 x7 x8 x9 xA (x8 xB.toNat 0).str (x8 xB.toNat 1).str (x8 xB.toNat 2).len (x8 xB.toNat 2).el (x8 xB.toNat 3).int (x8 xB.toNat 4).len (x8 xB.toNat 4).el u 0
  (fun xC xD xE xF xG xH xI xJ xK xL xM xN xO xP xQ xR xS xT xU xV xW=>(some xC))
  (some 0)) else none)
def s321v7:St:=⟨[.agg [(vcs w0),(.c (ro kE n0 f0)),(.c (ro kA n1 f1)),(.c (ro kG n2 f2)),(.c (ro kC n3 f3)),(.c (ro kF n4 f4))],vxi i0,.x (.ptr 0 0),uu,vxi 0,.x (.ptr 1 0),vxi 0,uu,uu,uu,uu,uu,.x (.ptr 0 4),.x (.c (ro kC n3 f3)),vxi i0,.x (.c (.rp kC (f3 i0.toNat))),.agg [(vcs (f3 i0.toNat 0).str),(vcs (f3 i0.toNat 1).str),(.c (ro (.pr .str .nil) (f3 i0.toNat 2).len (f3 i0.toNat 2).el)),(vci (f3 i0.toNat 3).int),(.c (ro (.pr .str .nil) (f3 i0.toNat 4).len (f3 i0.toNat 4).el))],uu,uu,uu,uu,uu,uu,uu,uu,uu,uu,uu,uu,uu,uu,uu,uu,uu,uu,uu,uu,uu,uu,uu,uu,uu,uu,uu,uu,uu,uu,uu,uu,uu,uu,uu,uu,uu,uu,uu,uu,uu,uu,uu,uu,uu,uu,uu,uu,uu,uu,uu,uu],[.box [(vcs w0),(.c (ro kE n0 f0)),(.c (ro kA n1 f1)),(.c (ro kG n2 f2)),(.c (ro kC n3 f3)),(.c (ro kF n4 f4))],.box [(vcs (f3 i0.toNat 0).str),(vcs (f3 i0.toNat 1).str),(.c (ro (.pr .str .nil) (f3 i0.toNat 2).len (f3 i0.toNat 2).el)),(vci (f3 i0.toNat 3).int),(.c (ro (.pr .str .nil) (f3 i0.toNat 4).len (f3 i0.toNat 4).el))]]⟩
theorem t321v7 :
  loopN (eB A48v9 (C53 u) u) N321v3 u (s321v7 n0 n1 n2 n3 n4 f0 f1 f2 f3 f4 i0 w0) k =
  L321v3 u i0 w0 n0 f0 n1 f1 n2 f2 n3 f3 n4 f4 (f3 i0.toNat 0).str (f3 i0.toNat 1).str (f3 i0.toNat 2).len (f3 i0.toNat 2).el (f3 i0.toNat 3).int (f3 i0.toNat 4).len (f3 i0.toNat 4).el u 0 (fun x0 x1 x2 x3 x4 x5 x6 x7 x8 x9 xA xB xC xD xE xF xG xH xI xJ xK=>k .ret (s321v4 n0 n1 n2 n3 n4 (f3 i0.toNat 2).len (f3 i0.toNat 4).len x7 x9 f0 f1 f2 f3 f4 (f3 i0.toNat 2).el (f3 i0.toNat 4).el x8 xA x0 (f3 i0.toNat 3).int x2 x3 x6 xC xD xE xF xG xH xI xJ xK w0 (f3 i0.toNat 0).str (f3 i0.toNat 1).str x1 x4 x5 xB)) (k (.exit 0) (s321v5 n0 n1 n2 n3 n4 (f3 i0.toNat 2).len (f3 i0.toNat 4).len f0 f1 f2 f3 f4 (f3 i0.toNat 2).el (f3 i0.toNat 4).el (f3 i0.toNat 3).int w0 (f3 i0.toNat 0).str (f3 i0.toNat 1).str)) :=
 Eq.trans (loopN_at (by kernel_rfl)) (q321v3 ..)
theorem g321v8 :
  (kBlk 0 (kSeq (C53 u) u (4 :: (rl 6 6 (rl 17 52 []))) A48v10 (finish A48))) .ret (s321v4 n0 n1 n2 n3 n4 (f3 i1.toNat 2).len (f3 i1.toNat 4).len n5 n6 f0 f1 f2 f3 f4 (f3 i1.toNat 2).el (f3 i1.toNat 4).el f5 f6 i0 (f3 i1.toNat 3).int i2 i3 i4 i5 i6 i7 i8 i9 iA iB iC iD w0 (f3 i1.toNat 0).str (f3 i1.toNat 1).str w1 w2 w3 w4) =
  (some [.v (vi i0)]):=by kernel_rfl
theorem g321v9 :
  (kBlk 0 (kSeq (C53 u) u (4 :: (rl 6 6 (rl 17 52 []))) A48v10 (finish A48))) (.exit 0) (s321v5 n0 n1 n2 n3 n4 (f3 i0.toNat 2).len (f3 i0.toNat 4).len f0 f1 f2 f3 f4 (f3 i0.toNat 2).el (f3 i0.toNat 4).el (f3 i0.toNat 3).int w0 (f3 i0.toNat 0).str (f3 i0.toNat 1).str) =
  (some [.v (vi 0)]):=by kernel_rfl
theorem e321:evalF (C53 u) u A48 [.agg [(.s w0),(ro kE n0 f0),(ro kA n1 f1),(ro kG n2 f2),(ro kC n3 f3),(ro kF n4 f4)],.v (vi i0)]=ob (F321 u w0 n0 f0 n1 f1 n2 f2 n3 f3 n4 f4 i0) fun t=>some [.v (vi t)]:=Eq.trans (b:=(bif (inb i0 n3) then (loopN (eB A48v9 (C53 u) u) N321v3 u (s321v7 n0 n1 n2 n3 n4 f0 f1 f2 f3 f4 i0 w0) (kBlk 0 (kSeq (C53 u) u (4 :: (rl 6 6 (rl 17 52 []))) A48v10 (finish A48)))) else none)) (by kernel_rfl) (by
 simp only [F321,ob_bif,ob_ob,ob_none,ob_some,nl321v3,t321v7,g321v8,g321v9])
def O321:Ora:=mkO (qc (ag (tc cS (tc (cL kE) (tc (cL kA) (tc (cL kG) (tc (cL kC) (t1 (cL kF)))))))) (q1 (av ci))) (fun x=>F321 u x.1.1 x.1.2.1.1 x.1.2.1.2 x.1.2.2.1.1 x.1.2.2.1.2 x.1.2.2.2.1.1 x.1.2.2.2.1.2 x.1.2.2.2.2.1.1 x.1.2.2.2.2.1.2 x.1.2.2.2.2.2.1 x.1.2.2.2.2.2.2 x.2) fun t=>[.v (vi t)]
theorem d321:DO (O321 u) (C53 u) 48 A48:=dO u (fun x=>by exact e321 u x.1.2.1.1 x.1.2.2.1.1 x.1.2.2.2.1.1 x.1.2.2.2.2.1.1 x.1.2.2.2.2.2.1 x.1.2.1.2 x.1.2.2.1.2 x.1.2.2.2.1.2 x.1.2.2.2.2.1.2 x.1.2.2.2.2.2.2 x.2 x.1.1)
def C54:Oracle:=(C53 u).add 48 (fun _=>true) (O321 u)
def A73v1:AC:=(.seq (.region 7 [mv 40 6,mv 41 7,o1 42 (bt .eql 3 40 41)] 0 none) []
 (.cond (tm 42)
 (.seq (.region 8 [o1 4 (sk 2)] 0 none) []
  (.ret (rl 0 4 (rl 5 38 []))))
 .skip))
def A73v2:AC:=(.region 3 [mv 12 5,o1 13 (bk .add 3 12 1),o1 5 (sg 13)] 0 none)
def A73v3:AC:=(.seq (.block 1
 (.seq (.region 4 [mv 14 1,mv 15 5,o1 16 (.indexAddr 52 54 2 (tm 14) (tm 15)),o1 17 (.indexAddrA 54 3 2 1 (tm 16) (ic 0)),o1 18 (lo 3 17),mv 19 1,mv 20 5,o1 21 (.indexAddr 52 54 2 (tm 19) (tm 20)),o1 22 (.indexAddrA 54 3 2 1 (tm 21) (ic 1)),o1 23 (lo 3 22),o1 6 (sg 18),o1 7 (sg 23)] 0 (some [[],[],[0,1],[0,1,2],(rl 0 4 []),[],[],[5,6],[5,6,7],(rl 5 4 []),(rl 0 5 []),(rl 0 11 [])])) []
  (.seq (.seq (.region 5 [mv 24 6,o1 25 (bk .lss 3 24 0),mv 26 25,og 27 (.move (tm 6)) 26 false,og 28 (.move (tm 0)) 26 false,og 29 (bt .geq 3 27 28) 26 false,o1 30 (pa 26 29),mv 31 30,og 32 (.move (tm 7)) 31 false,og 33 (bk .lss 3 32 0) 31 false,o1 34 (pa 31 33),mv 35 34,og 36 (.move (tm 7)) 35 false,og 37 (.move (tm 0)) 35 false,og 38 (bt .geq 3 36 37) 35 false,o1 39 (pa 35 38)] 0 none) []
  (.cond (tm 39)
  (.seq (.region 6 [o1 4 (sk 9)] 0 none) []
   (.ret (rl 0 4 (rl 5 38 []))))
  .skip)) (4 :: (rl 24 16 []))
  A73v1))) (4 :: 6 :: 7 :: (rl 14 29 []))
 A73v2)
def A73v4:AC:=(.seq (.seq (.region 2 [mv 8 5,mv 9 1,o1 10 (.len 52 false (tm 9)),o1 11 (bt .lss 3 8 10)] 0 none) []
 (.cond (tm 11)
 .skip
 (.exit 0 (rl 0 43 [])))) (rl 8 4 [])
 A73v3)
def A73v5:AC:=(.seq (.region 9 [o1 4 (sk 0)] 0 none) []
 (.ret (rl 0 4 (rl 5 38 []))))
def A73:AF:=⟨43,[.tmp 4],
 (.seq (.region 0 [o1 4 (sk 0)] 0 none) []
 (.seq (.seq (.region 1 [o1 5 (sk 0)] 0 none) []
 (.block 0
 (.loop [] (2 :: 3 :: 4 :: (rl 6 37 []))
  A73v4))) (rl 4 39 [])
 A73v5))⟩
def N228v1:St→Option St:=nN 0 (2 :: 3 :: 4 :: (rl 6 37 []))
def s228v0:St:=⟨(vxi i0 :: .x (.c (ro kP n0 f0)) :: (us 3 (vxi i1 :: (us 37 [])))),[]⟩
def s228v1:St:=⟨(us 4 (vxi i0 :: (us 38 []))),[]⟩
def s228v2:St:=⟨(us 43 []),[]⟩
def L228v1 {ρ:Type} (u:Nat) (x0:Int) (x1:Nat) (x2:FF):Nat→Int→(Int→Option ρ)→(Option ρ)→Option ρ
 | 0,_,_,_=>none
 | m+1,x3,k0,k1 =>
  (bif (decide (x3<(Int.ofNat x1))) then (bif (inb x3 x1) then (bif (inb x3 x1) then (bif ((decide ((x2 x3.toNat 0).int<0))==false) then (bif ((decide ((x2 x3.toNat 0).int≥x0))==false) then (bif ((decide ((x2 x3.toNat 1).int<0))==false) then (bif (decide ((x2 x3.toNat 1).int≥x0)) then (k0 9) else (bif ((x2 x3.toNat 0).int==(x2 x3.toNat 1).int) then (k0 2) else (L228v1 u x0 x1 x2 m (w64 (x3+1)) k0 k1))) else (k0 9)) else (k0 9)) else (k0 9)) else none) else none) else k1)
theorem nl228v1:∀ (m:Nat) (x0:Int) (k0:Int→Option ρ) (k1:Option ρ),ob (L228v1 u i0 n0 f0 m x0 k0 k1) ng=L228v1 u i0 n0 f0 m x0 (fun x1=>ob (k0 x1) ng) (ob k1 ng)
 | 0,_,_,_=>rfl
 | m+1,x0,k0,k1=>by
  simp only [L228v1,ob_bif,ob_ob,ob_none,nl228v1 m]
theorem q228v1:∀ (m:Nat) (x0:Int),
  loopH (eB A73v4 (C54 u) u) N228v1 m (s228v0 n0 f0 i0 x0) k=L228v1 u i0 n0 f0 m x0 (fun x1=>k .ret (s228v1 x1)) (k (.exit 0) s228v2)
 | 0,_=>rfl
 | m+1,x0=>by
  simp only [L228v1,← q228v1 m]
  kernel_rfl
def F228 (x0:Int) (x1:Nat) (x2:FF):Option (Int) :=
 (L228v1 u x0 x1 x2 u 0
  (fun x3=>(some x3))
  (some 0))
def s228v3:St:=⟨[vxi i0,.x (.c (ro kP n0 f0)),uu,uu,vxi 0,vxi 0,uu,uu,uu,uu,uu,uu,uu,uu,uu,uu,uu,uu,uu,uu,uu,uu,uu,uu,uu,uu,uu,uu,uu,uu,uu,uu,uu,uu,uu,uu,uu,uu,uu,uu,uu,uu,uu],[]⟩
theorem t228v1 :
  loopN (eB A73v4 (C54 u) u) N228v1 u (s228v3 n0 f0 i0) k =
  L228v1 u i0 n0 f0 u 0 (fun x0=>k .ret (s228v1 x0)) (k (.exit 0) s228v2) :=
 Eq.trans (loopN_at (by kernel_rfl)) (q228v1 ..)
theorem g228v2 :
  (kBlk 0 (kSeq (C54 u) u (rl 4 39 []) A73v5 (finish A73))) .ret (s228v1 i0) =
  (some [.v (vi i0)]):=by kernel_rfl
theorem g228v3 :
  (kBlk 0 (kSeq (C54 u) u (rl 4 39 []) A73v5 (finish A73))) (.exit 0) s228v2 =
  (some [.v (vi 0)]):=by kernel_rfl
theorem e228:evalF (C54 u) u A73 [.v (vi i0),.v (ro kP n0 f0)]=ob (F228 u i0 n0 f0) fun t=>some [.v (vi t)]:=Eq.trans (b:=(loopN (eB A73v4 (C54 u) u) N228v1 u (s228v3 n0 f0 i0) (kBlk 0 (kSeq (C54 u) u (rl 4 39 []) A73v5 (finish A73))))) (by kernel_rfl) (by
 simp only [F228,ob_bif,ob_ob,ob_none,ob_some,nl228v1,t228v1,g228v2,g228v3])
def O228:Ora:=mkO (qc (av ci) (q1 (av (cL kP)))) (fun x=>F228 u x.1 x.2.1 x.2.2) fun t=>[.v (vi t)]
theorem d228:DO (O228 u) (C54 u) 73 A73:=dO u (fun x=>by exact e228 u x.2.1 x.2.2 x.1)
def C55:Oracle:=(C54 u).add 73 (fun _=>true) (O228 u)
def A49v1:AC:=(.region 12 [mv 37 10,o1 38 (bk .add 3 37 1),o1 10 (sg 38)] 0 none)
def A49v2:AC:=(.seq (.block 3
 (.seq (.region 13 [mv 39 8,mv 40 1,mv 41 10,o1 42 (.indexAddr 52 54 2 (tm 40) (tm 41)),o1 43 (.indexAddrA 54 3 2 1 (tm 42) (ic 0)),o1 44 (lo 3 43),o1 45 (.indexAddr 113 4 1 (tm 39) (tm 44)),o1 46 (lo 4 45),o1 47 (.unOp .not 4 (tm 46))] 0 none) []
  (.cond (tm 47)
  (.region 14 [mv 48 9,mv 49 1,mv 50 10,o1 51 (.indexAddr 52 54 2 (tm 49) (tm 50)),o1 52 (.indexAddrA 54 3 2 1 (tm 51) (ic 1)),o1 53 (lo 3 52),o1 54 (.indexAddr 113 4 1 (tm 48) (tm 53)),o0 (.store 4 1 (tm 54) (.const (.bool true)))] 0 none)
  .skip))) (rl 39 16 [])
 A49v1)
def A49v3:AC:=(.seq (.seq (.region 11 [mv 33 10,mv 34 1,o1 35 (.len 52 false (tm 34)),o1 36 (bt .lss 3 33 35)] 0 none) []
 (.cond (tm 36)
 .skip
 (.exit 2 (rl 2 5 (rl 10 74 []))))) (rl 33 4 [])
 A49v2)
def A49v4:AC:=(.region 18 [mv 59 12,o1 60 (bk .sub 3 59 1),o1 12 (sg 60)] 0 none)
def A49v5:AC:=(.seq (.block 5
 (.seq (.region 19 [mv 61 8,mv 62 12,o1 63 (.indexAddr 113 4 1 (tm 61) (tm 62)),o1 64 (lo 4 63),o1 65 (.unOp .not 4 (tm 64)),mv 66 65,og 67 (.move (tm 9)) 66 true,og 68 (.move (tm 12)) 66 true,og 69 (.indexAddr 113 4 1 (tm 67) (tm 68)) 66 true,og 70 (lo 4 69) 66 true,og 71 (.unOp .not 4 (tm 70)) 66 true,o1 72 (po 66 71)] 0 none) []
  (.cond (tm 72)
  (.region 20 [mv 73 12,o1 11 (sg 73)] 0 none)
  .skip))) (rl 61 13 [])
 A49v4)
def A49v6:AC:=(.seq (.seq (.region 17 [mv 57 12,o1 58 (bk .geq 3 57 0)] 0 none) []
 (.cond (tm 58)
 .skip
 (.exit 4 (rl 2 5 (9 :: 10 :: (rl 12 72 [])))))) [57,58]
 A49v5)
def A49v7:AC:=(.seq (.region 23 [mv 76 8,mv 77 11,o1 78 (.indexAddr 113 4 1 (tm 76) (tm 77)),o0 (.store 4 1 (tm 78) (.const (.bool true)))] 0 none) []
 (.region 24 [mv 79 7,mv 80 11,o1 81 (.buildSlice 0 56 3 (.pr (.int .i64) .nil) 1 [vci 0] [(0,(tm 80))]),o1 82 (.append 1 56 3 (.pr (.int .i64) .nil) 8 (tm 79) (tm 81)),o1 7 (sg 82)] 2 none))
def A49v8:AC:=(.seq (.seq (.region 21 [mv 74 11,o1 75 (bk .lss 3 74 0)] 0 none) []
 (.cond (tm 75)
 (.seq (.region 22 [o1 4 (.assign (.const (.slice none 0 0))),o1 5 (sk 20)] 0 none) []
  (.ret (rl 0 4 (rl 6 78 []))))
 .skip)) [4,5,74,75]
 A49v7)
def A49v9:AC:=(.seq (.region 15 [o1 11 (sk (-1))] 0 none) []
 (.seq (.seq (.region 16 [mv 55 0,o1 56 (bk .sub 3 55 1),o1 12 (sg 56)] 0 none) []
 (.block 4
 (.loop [] (rl 2 5 (10 :: (rl 13 71 [])))
  A49v6))) (12 :: (rl 55 19 []))
 A49v8))
def A49v10:AC:=(.block 1
 (.seq (.region 9 [mv 31 0,o1 32 (.makeSlice 0 113 4 (.pr .bool .nil) 1 [(.b false)] (tm 31) (tm 31)),o1 9 (sg 32)] 1 none) []
  (.seq (.seq (.region 10 [o1 10 (sk 0)] 0 none) []
  (.block 2
  (.loop [] (rl 2 5 (rl 11 73 []))
   A49v3))) (10 :: (rl 33 22 []))
  A49v9)))
def A49v11:AC:=(.seq (.seq (.region 8 [mv 27 7,o1 28 (.len 56 false (tm 27)),mv 29 0,o1 30 (bt .lss 3 28 29)] 0 none) []
 (.cond (tm 30)
 .skip
 (.exit 0 (rl 0 7 (rl 8 76 []))))) (rl 27 4 [])
 A49v10)
def A49v12:AC:=(.seq (.region 25 [mv 83 7,o1 4 (sg 83),o1 5 (sk 0)] 0 none) []
 (.ret (rl 0 4 (rl 6 78 []))))
def A49v13:AC:=(.seq (.region 6 [o1 7 (.assign (.const (.slice none 0 0)))] 0 none) []
 (.seq (.region 7 [mv 25 0,o1 26 (.makeSlice 0 113 4 (.pr .bool .nil) 1 [(.b false)] (tm 25) (tm 25)),o1 8 (sg 26)] 1 none) []
 (.seq (.block 0
 (.loop [.slot 7 (.pr (.int .i64) .nil)] (rl 2 5 (rl 9 75 []))
  A49v11)) (4 :: 5 :: (rl 9 4 (rl 27 56 [])))
 A49v12)))
def A49v14:AC:=(.seq (.seq (.region 3 [mv 19 0,mv 20 1,o1 21 (cs 73 [19,20] [3,52]),o1 6 (sg 21)] 0 none) []
 (.seq (.region 4 [mv 22 6,o1 23 (bk .neq 34 22 0)] 0 none) []
 (.cond (tm 23)
 (.seq (.region 5 [mv 24 6,o1 4 (.assign (.const (.slice none 0 0))),o1 5 (sg 24)] 0 none) []
  (.ret (rl 0 4 (rl 6 78 []))))
 .skip))) (4 :: 5 :: 6 :: (rl 19 6 []))
 A49v13)
def A49:AF:=⟨84,[.tmp 4,.tmp 5],
 (.seq (.region 0 [o1 4 (.assign (.const (.slice none 0 0))),o1 5 (sk 0)] 0 none) []
 (.seq (.seq (.region 1 [mv 13 0,o1 14 (bk .lss 3 13 0),mv 15 14,og 16 (.move (tm 0)) 15 false,og 17 (bk .gtr 3 16 256) 15 false,o1 18 (pa 15 17)] 0 none) []
 (.cond (tm 18)
 (.seq (.region 2 [o1 4 (.assign (.const (.slice none 0 0))),o1 5 (sk 9)] 0 none) []
  (.ret (rl 0 4 (rl 6 78 []))))
 .skip)) (4 :: 5 :: (rl 13 6 []))
 A49v14))⟩
def N229v3:St→Option St:=nN 3 (rl 2 5 (rl 11 73 []))
def s229v0:St:=⟨(vxi i0 :: .x (.c (ro kP n0 f0)) :: (us 5 (.x (.own 1 0 n1) :: .x (.own 0 0 n2) :: .x (.own 2 0 n3) :: vxi i1 :: (us 73 [])))),[.arr (.pr .bool .nil) n2 f1,.arr (.pr (.int .i64) .nil) n1 f2,.arr (.pr .bool .nil) n3 f3]⟩
def s229v1:St:=⟨(vxi i0 :: .x (.c (ro kP n0 f0)) :: (us 5 (.x (.own 1 0 n1) :: .x (.own 0 0 n2) :: .x (.own 2 0 n3) :: (us 74 [])))),[.arr (.pr .bool .nil) n2 f1,.arr (.pr (.int .i64) .nil) n1 f2,.arr (.pr .bool .nil) n3 f3]⟩
def L229v3 {ρ:Type} (u:Nat) (x0:Int) (x1:Nat) (x2:FF) (x3 x4 x5:Nat) (x6 x7:FF):Nat→Int→FF→(FF→Option ρ)→Option ρ
 | 0,_,_,_=>none
 | m+1,x8,x9,k0 =>
  (bif (decide (x8<(Int.ofNat x1))) then (bif (inb x8 x1) then (bif (inb (x2 x8.toNat 0).int x4) then (bif (!(CV.bool (x6 (0+(Int.toNat (x2 x8.toNat 0).int)) 0))) then (bif (inb x8 x1) then (bif (inb (x2 x8.toNat 1).int x5) then (L229v3 u x0 x1 x2 x3 x4 x5 x6 x7 m (w64 (x8+1)) (setF x9 (0+(Int.toNat (x2 x8.toNat 1).int)) 0 1 (listF [(.b true)])) k0) else none) else none) else (L229v3 u x0 x1 x2 x3 x4 x5 x6 x7 m (w64 (x8+1)) x9 k0)) else none) else none) else (k0 x9))
theorem nl229v3:∀ (m:Nat) (x0:Int) (x1:FF) (k0:FF→Option ρ),ob (L229v3 u i0 n0 f0 n1 n2 n3 f1 f2 m x0 x1 k0) ng=L229v3 u i0 n0 f0 n1 n2 n3 f1 f2 m x0 x1 (fun x2=>ob (k0 x2) ng)
 | 0,_,_,_=>rfl
 | m+1,x0,x1,k0=>by
  simp only [L229v3,ob_bif,ob_ob,ob_none,nl229v3 m]
theorem q229v3:∀ (m:Nat) (x0:Int) (x1:FF),
  loopH (eB A49v3 (C55 u) u) N229v3 m (s229v0 n0 n1 n2 n3 f0 f1 f2 x1 i0 x0) k=L229v3 u i0 n0 f0 n1 n2 n3 f1 f2 m x0 x1 (fun x2=>k (.exit 2) (s229v1 n0 n1 n2 n3 f0 f1 f2 x2 i0))
 | 0,_,_=>rfl
 | m+1,x0,x1=>by
  simp only [L229v3,← q229v3 m]
  kernel_rfl
def N229v4:St→Option St:=nN 3 (rl 2 5 (10 :: (rl 13 71 [])))
def s229v2:St:=⟨(vxi i0 :: .x (.c (ro kP n0 f0)) :: (us 5 (.x (.own 1 0 n1) :: .x (.own 0 0 n2) :: .x (.own 2 0 n3) :: .u :: vxi i1 :: vxi i2 :: (us 71 [])))),[.arr (.pr .bool .nil) n2 f1,.arr (.pr (.int .i64) .nil) n1 f2,.arr (.pr .bool .nil) n3 f3]⟩
def s229v3:St:=⟨(vxi i0 :: .x (.c (ro kP n0 f0)) :: (us 5 (.x (.own 1 0 n1) :: .x (.own 0 0 n2) :: .u :: .u :: vxi i1 :: (us 72 [])))),[.arr (.pr .bool .nil) n2 f1,.arr (.pr (.int .i64) .nil) n1 f2,.arr (.pr .bool .nil) n3 f3]⟩
def L229v4 {ρ:Type} (u:Nat) (x0:Int) (x1:Nat) (x2:FF) (x3 x4 x5:Nat) (x6 x7 x8:FF):Nat→Int→Int→(Int→Option ρ)→Option ρ
 | 0,_,_,_=>none
 | m+1,x9,xA,k0 =>
  (bif (decide (xA≥0)) then (bif (inb xA x4) then (bif ((!(x6 (0+xA.toNat) 0).bool)==true) then (bif (inb xA x5) then (bif (!(x8 (0+xA.toNat) 0).bool) then (L229v4 u x0 x1 x2 x3 x4 x5 x6 x7 x8 m xA (w64 (xA-1)) k0) else (L229v4 u x0 x1 x2 x3 x4 x5 x6 x7 x8 m x9 (w64 (xA-1)) k0)) else none) else (L229v4 u x0 x1 x2 x3 x4 x5 x6 x7 x8 m x9 (w64 (xA-1)) k0)) else none) else (k0 x9))
theorem nl229v4:∀ (m:Nat) (x0 x1:Int) (k0:Int→Option ρ),ob (L229v4 u i0 n0 f0 n1 n2 n3 f1 f2 f3 m x0 x1 k0) ng=L229v4 u i0 n0 f0 n1 n2 n3 f1 f2 f3 m x0 x1 (fun x2=>ob (k0 x2) ng)
 | 0,_,_,_=>rfl
 | m+1,x0,x1,k0=>by
  simp only [L229v4,ob_bif,ob_ob,ob_none,nl229v4 m]
theorem q229v4:∀ (m:Nat) (x0 x1:Int),
  loopH (eB A49v6 (C55 u) u) N229v4 m (s229v2 n0 n1 n2 n3 f0 f1 f2 f3 i0 x0 x1) k=L229v4 u i0 n0 f0 n1 n2 n3 f1 f2 f3 m x0 x1 (fun x2=>k (.exit 4) (s229v3 n0 n1 n2 n3 f0 f1 f2 f3 i0 x2))
 | 0,_,_=>rfl
 | m+1,x0,x1=>by
  simp only [L229v4,← q229v4 m]
  kernel_rfl
def N229v5:St→Option St:=nN 2 (rl 2 5 (rl 9 75 []))
def s229v4:St:=⟨(vxi i0 :: .x (.c (ro kP n0 f0)) :: (us 5 (.x (.own 1 0 n1) :: .x (.own 0 0 n2) :: (us 75 [])))),[.arr (.pr .bool .nil) n2 f1,.arr (.pr (.int .i64) .nil) n1 f2]⟩
def s229v5:St:=⟨(us 4 (.x (vcn) :: vxi 20 :: (us 78 []))),[.arr (.pr .bool .nil) n0 f0,.arr (.pr (.int .i64) .nil) n1 f1,.arr (.pr .bool .nil) i0.toNat f2]⟩
def s229v6:St:=⟨(us 7 (.x (.own 1 0 n0) :: (us 76 []))),[.arr (.pr .bool .nil) n1 f0,.arr (.pr (.int .i64) .nil) n0 f1]⟩
def L229v5 {ρ:Type} (u:Nat) (x0:Int) (x1:Nat) (x2:FF) (x3:Nat):Nat→Nat→FF→FF→(FF→Nat→FF→FF→Option ρ)→(Nat→FF→FF→Option ρ)→Option ρ
 | 0,_,_,_,_,_=>none
 | m+1,x4,x5,x6,k0,k1 =>
  (bif (decide ((Int.ofNat x4)<x0)) then (bif (decide (0≤x0)&&decide (x0≤x0)&&decide (x0≤1073741824)&&true) then (L229v3 u x0 x1 x2 x4 x3 x0.toNat x5 x6 u 0 (fun _ j=>listF [(.b false)] j)
  (fun x7=>(L229v4 u x0 x1 x2 x4 x3 x0.toNat x5 x6 x7 u (-1) (w64 (x0-1))
  (fun x8=>(bif (decide (x8<0)) then (k0 x5 x4 x6 x7) else (bif (inb x8 x3) then (bif (Nat.ble (x4+1) 1073741824) then (L229v5 u x0 x1 x2 x3 m (x4+1) (setF x5 (0+x8.toNat) 0 1 (listF [(.b true)])) (joinF x4 x6 (rowsF 1 [(.i .i64 x8)])) k0 k1) else none) else none)))))) else none) else (k1 x4 x5 x6))
theorem nl229v5:∀ (m:Nat) (x0:Nat) (x1 x2:FF) (k0:FF→Nat→FF→FF→Option ρ) (k1:Nat→FF→FF→Option ρ),ob (L229v5 u i0 n0 f0 n1 m x0 x1 x2 k0 k1) ng=L229v5 u i0 n0 f0 n1 m x0 x1 x2 (fun x3 x4 x5 x6=>ob (k0 x3 x4 x5 x6) ng) (fun x7 x8 x9=>ob (k1 x7 x8 x9) ng)
 | 0,_,_,_,_,_=>rfl
 | m+1,x0,x1,x2,k0,k1=>by
  simp only [L229v5,ob_bif,ob_ob,ob_none,nl229v5 m,nl229v3,nl229v4]
def s229v7:St:=⟨(vxi i0 :: .x (.c (ro kP n0 f0)) :: (us 5 (.x (.own 1 0 n1) :: .x (.own 0 0 n2) :: .x (.own 2 0 i0.toNat) :: vxi 0 :: (us 20 (vxi i0 :: .x (.own 2 0 i0.toNat) :: (us 51 [])))))),[.arr (.pr .bool .nil) n2 f1,.arr (.pr (.int .i64) .nil) n1 f2,.arr (.pr .bool .nil) i0.toNat (fun _ j=>listF [(.b false)] j)]⟩
theorem r229v5 :
  loopH (eB A49v11 (C55 u) u) N229v5 (m+1) (s229v4 n0 n2 n1 f0 f1 f2 i0) k =
  (bif (decide ((Int.ofNat n2)<i0)) then (bif (decide (0≤i0)&&decide (i0≤i0)&&decide (i0≤1073741824)&&true) then (loopN (eB A49v3 (C55 u) u) N229v3 u (s229v7 n0 n2 n1 f0 f1 f2 i0) (kBlk 2 (kSeq (C55 u) u (10 :: (rl 33 22 [])) A49v9 (kBlk 1 (kLoop (eB A49v11 (C55 u) u) N229v5 m k))))) else none) else (k (.exit 0) (s229v6 n2 n1 f1 f2))):=by kernel_rfl
theorem t229v1 :
  loopN (eB A49v3 (C55 u) u) N229v3 u (s229v7 n0 n1 n2 f0 f1 f2 i0) k =
  L229v3 u i0 n0 f0 n1 n2 i0.toNat f1 f2 u 0 (fun _ j=>listF [(.b false)] j) (fun x0=>k (.exit 2) (s229v1 n0 n1 n2 i0.toNat f0 f1 f2 x0 i0)) :=
 Eq.trans (loopN_at (by kernel_rfl)) (q229v3 ..)
def s229v8:St:=⟨(vxi i0 :: .x (.c (ro kP n0 f0)) :: (us 5 (.x (.own 1 0 n1) :: .x (.own 0 0 n2) :: .x (.own 2 0 i0.toNat) :: .u :: vxi (-1) :: vxi (w64 (i0-1)) :: (us 42 (vxi i0 :: vxi (w64 (i0-1)) :: (us 27 [])))))),[.arr (.pr .bool .nil) n2 f1,.arr (.pr (.int .i64) .nil) n1 f2,.arr (.pr .bool .nil) i0.toNat f3]⟩
theorem g229v2 :
  (kBlk 2 (kSeq (C55 u) u (10 :: (rl 33 22 [])) A49v9 (kBlk 1 (kLoop (eB A49v11 (C55 u) u) N229v5 m k)))) (.exit 2) (s229v1 n0 n1 n2 i0.toNat f0 f1 f2 f3 i0) =
  (loopN (eB A49v6 (C55 u) u) N229v4 u (s229v8 n0 n1 n2 f0 f1 f2 f3 i0) (kBlk 4 (kSeq (C55 u) u (12 :: (rl 55 19 [])) A49v8 (kBlk 1 (kLoop (eB A49v11 (C55 u) u) N229v5 m k))))):=by kernel_rfl
theorem t229v3 :
  loopN (eB A49v6 (C55 u) u) N229v4 u (s229v8 n0 n1 n2 f0 f1 f2 f3 i0) k =
  L229v4 u i0 n0 f0 n1 n2 i0.toNat f1 f2 f3 u (-1) (w64 (i0-1)) (fun x0=>k (.exit 4) (s229v3 n0 n1 n2 i0.toNat f0 f1 f2 f3 i0 x0)) :=
 Eq.trans (loopN_at (by kernel_rfl)) (q229v4 ..)
theorem g229v4 :
  (kBlk 4 (kSeq (C55 u) u (12 :: (rl 55 19 [])) A49v8 (kBlk 1 (kLoop (eB A49v11 (C55 u) u) N229v5 m k)))) (.exit 4) (s229v3 n0 n1 n2 i0.toNat f0 f1 f2 f3 i0 i1) =
  (bif (decide (i1<0)) then (k .ret (s229v5 n2 n1 f1 f2 f3 i0)) else (bif (inb i1 n2) then (bif (Nat.ble (n1+1) 1073741824) then (loopH (eB A49v11 (C55 u) u) N229v5 m (s229v4 n0 (n1+1) n2 f0 (setF f1 (0+i1.toNat) 0 1 (listF [(.b true)])) (joinF n1 f2 (rowsF 1 [(vi i1)])) i0) k) else none) else none)):=by kernel_rfl
theorem q229v5:∀ (m:Nat) (x0:Nat) (x1 x2:FF),
  loopH (eB A49v11 (C55 u) u) N229v5 m (s229v4 n0 x0 n1 f0 x1 x2 i0) k=L229v5 u i0 n0 f0 n1 m x0 x1 x2 (fun x3 x4 x5 x6=>k .ret (s229v5 n1 x4 x3 x5 x6 i0)) (fun x7 x8 x9=>k (.exit 0) (s229v6 x7 n1 x8 x9))
 | 0,_,_,_=>rfl
 | m+1,x0,x1,x2=>by
  rw [r229v5]
  simp only [L229v5,q229v5 m,t229v1,g229v2,t229v3,g229v4]
def FT229 (x0:Int) (x1:Nat) (x2:FF):Option (Bool × Nat × FF × Int) :=
 (bif ((decide (x0<0))==false) then (bif (decide (x0>256)) then (some (true,0,(fun _ _=>.any),9)) else (ob (F228 u x0 x1 x2) fun x3=>(bif (x3 != 0) then (some (true,0,(fun _ _=>.any),x3)) else (bif (decide (0≤x0)&&decide (x0≤x0)&&decide (x0≤1073741824)&&true) then (L229v5 u x0 x1 x2 x0.toNat u 0 (fun _ j=>listF [(.b false)] j) (fun _ _=>.any)
  (fun x4 x5 x6 x7=>(some (true,0,(fun _ _=>.any),20)))
  (fun x8 x9 xA=>(some (false,x8,xA,0)))) else none)))) else (some (true,0,(fun _ _=>.any),9)))
def s229v9:St:=⟨(vxi i0 :: .x (.c (ro kP n0 f0)) :: uu :: uu :: (us 3 (.x (.own 1 0 0) :: .x (.own 0 0 i0.toNat) :: uu :: uu :: uu :: uu :: (us 12 [vxi i0,.x (.own 0 0 i0.toNat),uu,uu,uu,uu,uu,uu,uu,uu,uu,uu,uu,uu,uu,uu,uu,uu,uu,uu,uu,uu,uu,uu,uu,uu,uu,uu,uu,uu,uu,uu,uu,uu,uu,uu,uu,uu,uu,uu,uu,uu,uu,uu,uu,uu,uu,uu,uu,uu,uu,uu,uu,uu,uu,uu,uu,uu,uu])))),[.arr (.pr .bool .nil) i0.toNat (fun _ j=>listF [(.b false)] j),.arr (.pr (.int .i64) .nil) 0 nilF]⟩
theorem t229v5 :
  loopN (eB A49v11 (C55 u) u) N229v5 u (s229v9 n0 f0 i0) k =
  L229v5 u i0 n0 f0 i0.toNat u 0 (fun _ j=>listF [(.b false)] j) nilF (fun x0 x1 x2 x3=>k .ret (s229v5 i0.toNat x1 x0 x2 x3 i0)) (fun x4 x5 x6=>k (.exit 0) (s229v6 x4 i0.toNat x5 x6)) :=
 Eq.trans (loopN_at (by kernel_rfl)) (q229v5 ..)
theorem g229v6 :
  (kBlk 0 (kSeq (C55 u) u (4 :: 5 :: (rl 9 4 (rl 27 56 []))) A49v12 (finish A49))) .ret (s229v5 i0.toNat n0 f0 f1 f2 i0) =
  (some [.v (.ro true .nil 0 nilF),.v (vi 20)]):=by kernel_rfl
theorem g229v7 :
  (kBlk 0 (kSeq (C55 u) u (4 :: 5 :: (rl 9 4 (rl 27 56 []))) A49v12 (finish A49))) (.exit 0) (s229v6 n0 i0.toNat f0 f1) =
  (some [.v (ro (.pr (.int .i64) .nil) n0 f1),.v (vi 0)]):=by kernel_rfl
theorem e229:evalF (C55 u) u A49 [.v (vi i0),.v (ro kP n0 f0)]=ob (FT229 u i0 n0 f0) fun t=>some (bif t.1 then [.v (.ro true .nil 0 nilF),.v (vi t.2.2.2)] else [.v (ro (.pr (.int .i64) .nil) t.2.1 t.2.2.1),.v (vi 0)]):=Eq.trans (b:=(bif ((decide (i0<0))==false) then (bif (decide (i0>256)) then (some [.v (.ro true .nil 0 nilF),.v (vi 9)]) else (ob (F228 u i0 n0 f0) fun x0=>(bif (x0 != 0) then (some [.v (.ro true .nil 0 nilF),.v (vi x0)]) else (bif (decide (0≤i0)&&decide (i0≤i0)&&decide (i0≤1073741824)&&true) then (loopN (eB A49v11 (C55 u) u) N229v5 u (s229v9 n0 f0 i0) (kBlk 0 (kSeq (C55 u) u (4 :: 5 :: (rl 9 4 (rl 27 56 []))) A49v12 (finish A49)))) else none)))) else (some [.v (.ro true .nil 0 nilF),.v (vi 9)]))) (by kernel_rfl) (by
 simp only [FT229,ob_bif,ob_ob,ob_none,ob_some,nl229v5,t229v5,g229v6,g229v7,cond_true,cond_false])
def F229 (x0:Int) (x1:Nat) (x2:FF):Option (Nat × FF × Int):=ob (FT229 u x0 x1 x2) fun t=>some (bif t.1 then (0,(fun _ _=>.any),t.2.2.2) else (t.2.1,t.2.2.1,0))
def O229:Ora:=mkO (qc (av ci) (q1 (av (cL kP)))) (fun x=>F229 u x.1 x.2.1 x.2.2) fun t=>[.v (ro (.pr (.int .i64) .nil) t.1 t.2.1),.v (vi t.2.2)]
theorem d229:DO (O229 u) (C55 u) 49 A49:=dW u (fun x=>by exact e229 u x.2.1 x.2.2 x.1) (fun _=>rfl) fun t=>by
 obtain ⟨b,t⟩:=t
 cases b with
 | true=>exact (.cons (WkA.v (Wk.ro (by rfl))) (.cons (WkA.v (Wk.refl _)) .nil))
 | false =>
  exact (.cons (WkA.v (Wk.refl _)) (.cons (WkA.v (Wk.refl _)) .nil))
def C56:Oracle:=(C55 u).add 49 (fun _=>true) (O229 u)
def A19v1:AC:=(.region 27 [mv 91 9,o1 92 (bk .add 3 91 1),o1 9 (sg 92)] 0 none)
def A19v2:AC:=(.seq (.block 6
 (.seq (.region 28 [mv 93 3,mv 94 9,o1 95 (.indexAddr 37 9 1 (tm 93) (tm 94)),o1 96 (lo 9 95),o1 97 (fa 62 6 4 4),o1 98 (lo 37 97),mv 99 8,o1 100 (.indexAddr 37 9 1 (tm 98) (tm 99)),o1 101 (lo 9 100),o1 102 (bt .eql 9 96 101)] 0 (some [[],[],[0,1],[0,1,2],[],[4],[],[4,5,6],(rl 4 4 []),(rl 0 9 [])])) []
  (.cond (tm 102)
  (.region 29 [mv 103 4,mv 104 9,mv 105 5,o1 106 (.build 54 [vci 0,vci 0] [] 1 [(0,(tm 104)),(1,(tm 105))]),o1 107 (.buildSlice 0 52 54 kP 1 [vci 0,vci 0] [(0,(tm 106))]),o1 108 (.append 1 52 54 kP 16 (tm 103) (tm 107)),o1 4 (sg 108)] 2 none)
  .skip))) (rl 93 16 [])
 A19v1)
def A19v3:AC:=(.seq (.seq (.region 26 [mv 87 9,mv 88 3,o1 89 (.len 37 false (tm 88)),o1 90 (bt .lss 3 87 89)] 0 none) []
 (.cond (tm 90)
 .skip
 (.exit 5 (0 :: 2 :: 7 :: (rl 9 109 []))))) (rl 87 4 [])
 A19v2)
def A19v4:AC:=(.seq (.region 25 [o1 9 (sk 0)] 0 none) []
 (.block 5
 (.loop [.slot 4 kP] (0 :: 2 :: 7 :: (rl 10 108 []))
  A19v3)))
def A19v5:AC:=(.seq (.seq (.region 23 [mv 79 3,o1 80 (fa 62 6 4 4),o1 81 (lo 37 80),mv 82 8,o1 83 (.indexAddr 37 9 1 (tm 81) (tm 82)),o1 84 (lo 9 83),o1 85 (cs 38 [79,84] [37,9]),o1 86 (.unOp .not 4 (tm 85))] 0 none) []
 (.cond (tm 86)
 (.seq (.region 24 [o1 2 (sk 8)] 0 none) []
  (.ret (0 :: 1 :: (rl 3 115 []))))
 .skip)) (2 :: (rl 79 8 []))
 A19v4)
def A19v6:AC:=(.region 20 [mv 69 8,o1 70 (bk .add 3 69 1),o1 8 (sg 70)] 0 none)
def A19v7:AC:=(.seq (.block 4
 (.seq (.seq (.region 21 [o1 71 (fa 62 6 4 4),o1 72 (lo 37 71),mv 73 8,o1 74 (.indexAddr 37 9 1 (tm 72) (tm 73)),o1 75 (lo 9 74),o1 76 (fa 62 6 0 0),o1 77 (lo 9 76),o1 78 (bt .eql 9 75 77)] 0 (some [[],[0],[],[0,1,2],(rl 0 4 []),[],[5],(rl 0 7 [])])) []
  (.cond (tm 78)
  (.seq (.region 22 [o1 2 (sk 2)] 0 none) []
   (.ret (0 :: 1 :: (rl 3 115 []))))
  .skip)) (2 :: (rl 71 8 []))
  A19v5)) (2 :: 9 :: (rl 71 38 []))
 A19v6)
def A19v8:AC:=(.seq (.seq (.region 19 [mv 64 8,o1 65 (fa 62 6 4 4),o1 66 (lo 37 65),o1 67 (.len 37 false (tm 66)),o1 68 (bt .lss 3 64 67)] 0 none) []
 (.cond (tm 68)
 .skip
 (.exit 3 (0 :: 2 :: (rl 6 112 []))))) (rl 64 5 [])
 A19v7)
def A19v9:AC:=(.seq (.region 18 [o1 8 (sk 0)] 0 none) []
 (.block 3
 (.loop [.slot 4 kP] (0 :: 2 :: 7 :: (rl 9 109 []))
  A19v8)))
def A19v10:AC:=(.seq (.seq (.region 15 [o1 58 (ln 28 6 1),mv 59 5,o1 60 (cs 48 [58,59] [28,3]),o1 7 (sg 60)] 0 none) []
 (.seq (.region 16 [mv 61 7,o1 62 (bk .neq 34 61 0)] 0 none) []
 (.cond (tm 62)
 (.seq (.region 17 [mv 63 7,o1 2 (sg 63)] 0 none) []
  (.ret (0 :: 1 :: (rl 3 115 []))))
 .skip))) (2 :: 7 :: (rl 58 6 []))
 A19v9)
def A19v11:AC:=(.region 5 [mv 20 5,o1 21 (bk .add 3 20 1),o1 5 (sg 21)] 0 none)
def A19v12:AC:=(.seq (.block 1
 (.seq (.region 6 [o1 22 (fa 28 1 4 4),o1 23 (lo 25 22),mv 24 5,o1 25 (.indexAddr 25 62 5 (tm 23) (tm 24)),o1 26 (ln 62 5 25),o1 6 (.alloc 0 62 [vcs ByteArray.empty,vcs ByteArray.empty,vcn,vci 0,vcn]),o0 (.store 62 5 (tm 6) (tm 26))] 1 none) []
  (.seq (.block 2
  (.seq (.region 7 [o1 28 (fa 62 6 0 0),o1 29 (lo 9 28),o1 30 (cs 40 [29] [9]),o1 31 (.unOp .not 4 (tm 30)),o1 27 (sg 31)] 0 none) []
   (.cond (tm 27)
   (.seq (.region 8 [o1 2 (sk 6)] 0 none) []
    (.ret (0 :: 1 :: (rl 3 115 []))))
   (.seq (.region 9 [o1 33 (ln 28 6 1),o1 34 (fa 62 6 1 1),o1 35 (lo 9 34),o1 36 (cs 47 [33,35] [28,9]),o1 37 (.unOp .not 4 (tm 36)),o1 32 (sg 37)] 0 none) []
    (.cond (tm 32)
    (.seq (.region 10 [o1 2 (sk 8)] 0 none) []
     (.ret (0 :: 1 :: (rl 3 115 []))))
    (.seq (.region 11 [o1 39 (fa 62 6 3 3),o1 40 (lo 3 39),o1 41 (bk .lss 3 40 1),mv 42 41,og 43 (fa 62 6 3 3) 42 false,og 44 (lo 3 43) 42 false,og 45 (bk .gtr 3 44 10000) 42 false,o1 46 (pa 42 45),o1 38 (sg 46)] 0 none) []
     (.cond (tm 38)
     (.seq (.region 12 [o1 2 (sk 9)] 0 none) []
      (.ret (0 :: 1 :: (rl 3 115 []))))
     (.seq (.region 13 [o1 48 (fa 62 6 2 2),o1 49 (lo 37 48),o1 50 (cs 36 [49] [37]),o1 51 (.unOp .not 4 (tm 50)),mv 52 51,og 53 (fa 62 6 4 4) 52 false,og 54 (lo 37 53) 52 false,og 55 (cs 36 [54] [37]) 52 false,og 56 (.unOp .not 4 (tm 55)) 52 false,o1 57 (pa 52 56),o1 47 (sg 57)] 0 none) []
      (.cond (tm 47)
      (.seq (.region 14 [o1 2 (sk 11)] 0 none) []
       (.ret (0 :: 1 :: (rl 3 115 []))))
      .skip))))))))) (2 :: (rl 27 31 []))
  A19v10))) (2 :: (rl 6 4 (rl 22 87 [])))
 A19v11)
def A19v13:AC:=(.seq (.seq (.region 4 [mv 15 5,o1 16 (fa 28 1 4 4),o1 17 (lo 25 16),o1 18 (.len 25 false (tm 17)),o1 19 (bt .lss 3 15 18)] 0 none) []
 (.cond (tm 19)
 .skip
 (.exit 0 (0 :: 2 :: 3 :: (rl 5 113 []))))) (rl 15 5 [])
 A19v12)
def A19v14:AC:=(.seq (.region 30 [o1 110 (fa 28 1 4 4),o1 111 (lo 25 110),o1 112 (.len 25 false (tm 111)),mv 113 4,o1 114 (cf 49 [112,113] [3,52]),mv 109 114,o1 115 (.extract (tm 109) 0),o1 116 (.extract (tm 109) 1),o1 10 (sg 115),o1 11 (sg 116)] 0 none) []
 (.seq (.region 31 [mv 117 11,o1 2 (sg 117)] 0 none) []
 (.ret (0 :: 1 :: (rl 3 115 [])))))
def A19:AF:=⟨118,[.tmp 2],
 (.seq (.region 0 [o1 1 (bx 0 28 0),o1 2 (sk 0)] 1 none) []
 (.seq (.region 1 [o1 12 (ln 28 6 1),o1 13 (cf 35 [12] [28]),o1 14 (.index 73 37 4 1 none (tm 13) (ic 3)),o1 3 (sg 14)] 0 none) []
 (.seq (.region 2 [o1 4 (.assign (.const (.slice none 0 0)))] 0 none) []
 (.seq (.seq (.region 3 [o1 5 (sk 0)] 0 none) []
 (.block 0
 (.loop [.slot 4 kP] (0 :: 2 :: (rl 6 112 []))
  A19v13))) (2 :: (rl 5 5 (rl 15 94 [])))
 A19v14))))⟩
def N322v5:St→Option St:=nN 3 (0 :: 2 :: 7 :: (rl 10 108 []))
def s322v0:St:=⟨(.u :: .x (.ptr 0 0) :: .u :: .x (.c (ro (.pr .str .nil) n0 f0)) :: .x (.own 1 0 n1) :: vxi i0 :: .x (.ptr 2 0) :: .u :: vxi i1 :: vxi i2 :: (us 108 [])),[.box [(vcs w0),(.c (ro kE n2 f1)),(.c (ro kA n3 f2)),(.c (ro kG n4 f3)),(.c (ro kC n5 f4)),(.c (ro kF n6 f5))],.arr kP n1 f6,.box [(vcs w1),(vcs w2),(.c (ro (.pr .str .nil) n7 f7)),(vci i3),(.c (ro (.pr .str .nil) n8 f8))]]⟩
def s322v1:St:=⟨(.u :: .x (.ptr 0 0) :: .u :: .x (.c (ro (.pr .str .nil) n0 f0)) :: .x (.own 1 0 n1) :: vxi i0 :: .x (.ptr 2 0) :: .u :: vxi i1 :: (us 109 [])),[.box [(vcs w0),(.c (ro kE n2 f1)),(.c (ro kA n3 f2)),(.c (ro kG n4 f3)),(.c (ro kC n5 f4)),(.c (ro kF n6 f5))],.arr kP n1 f6,.box [(vcs w1),(vcs w2),(.c (ro (.pr .str .nil) n7 f7)),(vci i2),(.c (ro (.pr .str .nil) n8 f8))]]⟩
def L322v5 {ρ:Type} (u:Nat) (x0:Nat) (x1:FF) (x2 x3:Int) (x4:ByteArray) (x5:Nat) (x6:FF) (x7:Nat) (x8:FF) (x9:Nat) (xA:FF) (xB:Nat) (xC:FF) (xD:Nat) (xE:FF) (xF xG:ByteArray) (xH:Nat) (xI:FF) (xJ:Int) (xK:Nat) (xL:FF):Nat→Nat→Int→FF→(Nat→FF→Option ρ)→Option ρ
 | 0,_,_,_,_=>none
 | m+1,xM,xN,xO,k0 =>
  (bif (decide (xN<(Int.ofNat x0))) then (bif (inb xN x0) then (bif (inb x3 xK) then (bif (ByteArray.toList (x1 xN.toNat 0).str==ByteArray.toList (xL x3.toNat 0).str) then (bif (Nat.ble (xM+1) 1073741824) then (L322v5 u x0 x1 x2 x3 x4 x5 x6 x7 x8 x9 xA xB xC xD xE xF xG xH xI xJ xK xL m (xM+1) (w64 (xN+1)) (joinF xM xO (rowsF 2 [(.i .i64 xN),(.i .i64 x2)])) k0) else none) else (L322v5 u x0 x1 x2 x3 x4 x5 x6 x7 x8 x9 xA xB xC xD xE xF xG xH xI xJ xK xL m xM (w64 (xN+1)) xO k0)) else none) else none) else (k0 xM xO))
theorem nl322v5:∀ (m:Nat) (x0:Nat) (x1:Int) (x2:FF) (k0:Nat→FF→Option ρ),ob (L322v5 u n0 f0 i0 i1 w0 n1 f1 n2 f2 n3 f3 n4 f4 n5 f5 w1 w2 n6 f6 i2 n7 f7 m x0 x1 x2 k0) ng=L322v5 u n0 f0 i0 i1 w0 n1 f1 n2 f2 n3 f3 n4 f4 n5 f5 w1 w2 n6 f6 i2 n7 f7 m x0 x1 x2 (fun x3 x4=>ob (k0 x3 x4) ng)
 | 0,_,_,_,_=>rfl
 | m+1,x0,x1,x2,k0=>by
  simp only [L322v5,ob_bif,ob_ob,ob_none,nl322v5 m]
theorem q322v5:∀ (m:Nat) (x0:Nat) (x1:Int) (x2:FF),
  loopH (eB A19v3 (C56 u) u) N322v5 m (s322v0 n0 x0 n1 n2 n3 n4 n5 n6 n7 f0 f1 f2 f3 f4 f5 x2 f6 f7 i0 i1 x1 i2 w0 w1 w2) k=L322v5 u n0 f0 i0 i1 w0 n1 f1 n2 f2 n3 f3 n4 f4 n5 f5 w1 w2 n6 f6 i2 n7 f7 m x0 x1 x2 (fun x3 x4=>k (.exit 5) (s322v1 n0 x3 n1 n2 n3 n4 n5 n6 n7 f0 f1 f2 f3 f4 f5 x4 f6 f7 i0 i1 i2 w0 w1 w2))
 | 0,_,_,_=>rfl
 | m+1,x0,x1,x2=>by
  simp only [L322v5,← q322v5 m]
  kernel_rfl
def N322v6:St→Option St:=nN 3 (0 :: 2 :: 7 :: (rl 9 109 []))
def s322v2:St:=⟨(.u :: .x (.ptr 0 0) :: .u :: .x (.c (ro (.pr .str .nil) n0 f0)) :: .x (.own 1 0 n1) :: vxi i0 :: .x (.ptr 2 0) :: .u :: vxi i1 :: (us 109 [])),[.box [(vcs w0),(.c (ro kE n2 f1)),(.c (ro kA n3 f2)),(.c (ro kG n4 f3)),(.c (ro kC n5 f4)),(.c (ro kF n6 f5))],.arr kP n1 f6,.box [(vcs w1),(vcs w2),(.c (ro (.pr .str .nil) n7 f7)),(vci i2),(.c (ro (.pr .str .nil) n8 f8))]]⟩
def s322v3:St:=⟨(.u :: .u :: vxi i0 :: (us 115 [])),[.box [(vcs w0),(.c (ro kE n0 f0)),(.c (ro kA n1 f1)),(.c (ro kG n2 f2)),(.c (ro kC n3 f3)),(.c (ro kF n4 f4))],.arr kP n5 f5,.box [(vcs w1),(vcs w2),(.c (ro (.pr .str .nil) n6 f6)),(vci i1),(.c (ro (.pr .str .nil) n7 f7))]]⟩
def s322v4:St:=⟨(.u :: .x (.ptr 0 0) :: .u :: .x (.c (ro (.pr .str .nil) n0 f0)) :: .x (.own 1 0 n1) :: vxi i0 :: (us 112 [])),[.box [(vcs w0),(.c (ro kE n2 f1)),(.c (ro kA n3 f2)),(.c (ro kG n4 f3)),(.c (ro kC n5 f4)),(.c (ro kF n6 f5))],.arr kP n1 f6,.box [(vcs w1),(vcs w2),(.c (ro (.pr .str .nil) n7 f7)),(vci i1),(.c (ro (.pr .str .nil) n8 f8))]]⟩
def L322v6 {ρ:Type} (u:Nat) (x0:Nat) (x1:FF) (x2:Int) (x3:ByteArray) (x4:Nat) (x5:FF) (x6:Nat) (x7:FF) (x8:Nat) (x9:FF) (xA:Nat) (xB:FF) (xC:Nat) (xD:FF) (xE xF:ByteArray) (xG:Nat) (xH:FF) (xI:Int) (xJ:Nat) (xK:FF):Nat→Nat→Int→FF→(Int→Nat→FF→Option ρ)→(Nat→FF→Option ρ)→Option ρ
 | 0,_,_,_,_,_=>none
 | m+1,xL,xM,xN,k0,k1 =>
  (bif (decide (xM<(Int.ofNat xJ))) then (bif (inb xM xJ) then (bif (ByteArray.toList (xK xM.toNat 0).str==ByteArray.toList xE) then (k0 2 xL xN) else (bif (inb xM xJ) then (ob (F264 u x0 x1 (xK xM.toNat 0).str) fun xO=>(bif (!xO) then (k0 8 xL xN) else (L322v5 u x0 x1 x2 xM x3 x4 x5 x6 x7 x8 x9 xA xB xC xD xE xF xG xH xI xJ xK u xL 0 xN
  (fun xP xQ=>(L322v6 u x0 x1 x2 x3 x4 x5 x6 x7 x8 x9 xA xB xC xD xE xF xG xH xI xJ xK m xP (w64 (xM+1)) xQ k0 k1))))) else none)) else none) else (k1 xL xN))
theorem nl322v6:∀ (m:Nat) (x0:Nat) (x1:Int) (x2:FF) (k0:Int→Nat→FF→Option ρ) (k1:Nat→FF→Option ρ),ob (L322v6 u n0 f0 i0 w0 n1 f1 n2 f2 n3 f3 n4 f4 n5 f5 w1 w2 n6 f6 i1 n7 f7 m x0 x1 x2 k0 k1) ng=L322v6 u n0 f0 i0 w0 n1 f1 n2 f2 n3 f3 n4 f4 n5 f5 w1 w2 n6 f6 i1 n7 f7 m x0 x1 x2 (fun x3 x4 x5=>ob (k0 x3 x4 x5) ng) (fun x6 x7=>ob (k1 x6 x7) ng)
 | 0,_,_,_,_,_=>rfl
 | m+1,x0,x1,x2,k0,k1=>by
  simp only [L322v6,ob_bif,ob_ob,ob_none,nl322v6 m,nl322v5]
def s322v5:St:=⟨(.u :: .x (.ptr 0 0) :: .u :: .x (.c (ro (.pr .str .nil) n0 f0)) :: .x (.own 1 0 n1) :: vxi i0 :: .x (.ptr 2 0) :: .u :: vxi i1 :: vxi 0 :: (us 108 [])),[.box [(vcs w0),(.c (ro kE n2 f1)),(.c (ro kA n3 f2)),(.c (ro kG n4 f3)),(.c (ro kC n5 f4)),(.c (ro kF n6 f5))],.arr kP n1 f6,.box [(vcs w1),(vcs w2),(.c (ro (.pr .str .nil) n7 f7)),(vci i2),(.c (ro (.pr .str .nil) n8 f8))]]⟩
theorem r322v6 :
  loopH (eB A19v8 (C56 u) u) N322v6 (m+1) (s322v2 n0 n8 n1 n2 n3 n4 n5 n6 n7 f0 f1 f2 f3 f4 f5 f8 f6 f7 i0 i2 i1 w0 w1 w2) k =
  (bif (decide (i2<(Int.ofNat n7))) then (bif (inb i2 n7) then (bif (ByteArray.toList (f7 i2.toNat 0).str==ByteArray.toList w1) then (k .ret (s322v3 n1 n2 n3 n4 n5 n8 n6 n7 f1 f2 f3 f4 f5 f8 f6 f7 2 i1 w0 w1 w2)) else (bif (inb i2 n7) then (ob (F264 u n0 f0 (f7 i2.toNat 0).str) fun x0=>(bif (!x0) then (k .ret (s322v3 n1 n2 n3 n4 n5 n8 n6 n7 f1 f2 f3 f4 f5 f8 f6 f7 8 i1 w0 w1 w2)) else (loopN (eB A19v3 (C56 u) u) N322v5 u (s322v5 n0 n8 n1 n2 n3 n4 n5 n6 n7 f0 f1 f2 f3 f4 f5 f8 f6 f7 i0 i2 i1 w0 w1 w2) (kBlk 5 (kBlk 4 (kSeq (C56 u) u (2 :: 9 :: (rl 71 38 [])) A19v6 (kLoop (eB A19v8 (C56 u) u) N322v6 m k))))))) else none)) else none) else (k (.exit 3) (s322v4 n0 n8 n1 n2 n3 n4 n5 n6 n7 f0 f1 f2 f3 f4 f5 f8 f6 f7 i0 i1 w0 w1 w2))):=by kernel_rfl
theorem t322v1 :
  loopN (eB A19v3 (C56 u) u) N322v5 u (s322v5 n0 n1 n2 n3 n4 n5 n6 n7 n8 f0 f1 f2 f3 f4 f5 f6 f7 f8 i0 i1 i2 w0 w1 w2) k =
  L322v5 u n0 f0 i0 i1 w0 n2 f1 n3 f2 n4 f3 n5 f4 n6 f5 w1 w2 n7 f7 i2 n8 f8 u n1 0 f6 (fun x0 x1=>k (.exit 5) (s322v1 n0 x0 n2 n3 n4 n5 n6 n7 n8 f0 f1 f2 f3 f4 f5 x1 f7 f8 i0 i1 i2 w0 w1 w2)) :=
 Eq.trans (loopN_at (by kernel_rfl)) (q322v5 ..)
theorem g322v2 :
  (kBlk 5 (kBlk 4 (kSeq (C56 u) u (2 :: 9 :: (rl 71 38 [])) A19v6 (kLoop (eB A19v8 (C56 u) u) N322v6 m k)))) (.exit 5) (s322v1 n0 n1 n2 n3 n4 n5 n6 n7 n8 f0 f1 f2 f3 f4 f5 f6 f7 f8 i0 i1 i2 w0 w1 w2) =
  (loopH (eB A19v8 (C56 u) u) N322v6 m (s322v2 n0 n1 n2 n3 n4 n5 n6 n7 n8 f0 f1 f2 f3 f4 f5 f6 f7 f8 i0 (w64 (i1+1)) i2 w0 w1 w2) k):=by kernel_rfl
theorem q322v6:∀ (m:Nat) (x0:Nat) (x1:Int) (x2:FF),
  loopH (eB A19v8 (C56 u) u) N322v6 m (s322v2 n0 x0 n1 n2 n3 n4 n5 n6 n7 f0 f1 f2 f3 f4 f5 x2 f6 f7 i0 x1 i1 w0 w1 w2) k=L322v6 u n0 f0 i0 w0 n1 f1 n2 f2 n3 f3 n4 f4 n5 f5 w1 w2 n6 f6 i1 n7 f7 m x0 x1 x2 (fun x3 x4 x5=>k .ret (s322v3 n1 n2 n3 n4 n5 x4 n6 n7 f1 f2 f3 f4 f5 x5 f6 f7 x3 i1 w0 w1 w2)) (fun x6 x7=>k (.exit 3) (s322v4 n0 x6 n1 n2 n3 n4 n5 n6 n7 f0 f1 f2 f3 f4 f5 x7 f6 f7 i0 i1 w0 w1 w2))
 | 0,_,_,_=>rfl
 | m+1,x0,x1,x2=>by
  rw [r322v6]
  simp only [L322v6,q322v6 m,t322v1,g322v2]
def N322v7:St→Option St:=nN 2 (0 :: 2 :: (rl 6 112 []))
def s322v6:St:=⟨(.u :: .x (.ptr 0 0) :: .u :: .x (.c (ro (.pr .str .nil) n0 f0)) :: .x (.own 1 0 n1) :: vxi i0 :: (us 112 [])),[.box [(vcs w0),(.c (ro kE n2 f1)),(.c (ro kA n3 f2)),(.c (ro kG n4 f3)),(.c (ro kC n5 f4)),(.c (ro kF n6 f5))],.arr kP n1 f6]⟩
def s322v7:St:=⟨(.u :: .u :: vxi i0 :: (us 115 [])),[.box [(vcs w0),(.c (ro kE n0 f0)),(.c (ro kA n1 f1)),(.c (ro kG n2 f2)),(.c (ro kC n3 f3)),(.c (ro kF n4 f4))],.arr kP n5 f5,.box [(vcs w1),(vcs w2),(.c (ro (.pr .str .nil) n6 f6)),(vci i1),(.c (ro (.pr .str .nil) n7 f7))]]⟩
def s322v8:St:=⟨(.u :: .x (.ptr 0 0) :: .u :: .u :: .x (.own 1 0 n0) :: (us 113 [])),[.box [(vcs w0),(.c (ro kE n1 f0)),(.c (ro kA n2 f1)),(.c (ro kG n3 f2)),(.c (ro kC n4 f3)),(.c (ro kF n5 f4))],.arr kP n0 f5]⟩
def L322v7 {ρ:Type} (u:Nat) (x0:Nat) (x1:FF) (x2:ByteArray) (x3:Nat) (x4:FF) (x5:Nat) (x6:FF) (x7:Nat) (x8:FF) (x9:Nat) (xA:FF) (xB:Nat) (xC:FF):Nat→Nat→Int→FF→(Int→Nat→FF→ByteArray→ByteArray→Nat→FF→Int→Nat→FF→Option ρ)→(Nat→FF→Option ρ)→Option ρ
 | 0,_,_,_,_,_=>none
 | m+1,xD,xE,xF,k0,k1 =>
  (bif (decide (xE<(Int.ofNat x9))) then (bif (inb xE x9) then (ob (F301 u (xA xE.toNat 0).str) fun xG=>(bif (!xG) then (k0 6 xD xF (xA xE.toNat 0).str (xA xE.toNat 1).str (xA xE.toNat 2).len (xA xE.toNat 2).el (xA xE.toNat 3).int (xA xE.toNat 4).len (xA xE.toNat 4).el) else (ob (F318 u x2 x3 x4 x5 x6 x7 x8 x9 xA xB xC (xA xE.toNat 1).str) fun xH=>(bif (!xH) then (k0 8 xD xF (xA xE.toNat 0).str (xA xE.toNat 1).str (xA xE.toNat 2).len (xA xE.toNat 2).el (xA xE.toNat 3).int (xA xE.toNat 4).len (xA xE.toNat 4).el) else (bif ((decide ((xA xE.toNat 3).int<1))==false) then (bif (decide ((xA xE.toNat 3).int>10000)) then (k0 9 xD xF (xA xE.toNat 0).str (xA xE.toNat 1).str (xA xE.toNat 2).len (xA xE.toNat 2).el (xA xE.toNat 3).int (xA xE.toNat 4).len (xA xE.toNat 4).el) else (ob (F291 u (xA xE.toNat 2).len (xA xE.toNat 2).el) fun xI=>(bif ((!xI)==false) then (ob (F291 u (xA xE.toNat 4).len (xA xE.toNat 4).el) fun xJ=>(bif (!xJ) then (k0 11 xD xF (xA xE.toNat 0).str (xA xE.toNat 1).str (xA xE.toNat 2).len (xA xE.toNat 2).el (xA xE.toNat 3).int (xA xE.toNat 4).len (xA xE.toNat 4).el) else (ob (F321 u x2 x3 x4 x5 x6 x7 x8 x9 xA xB xC xE) fun xK=>(bif (xK != 0) then (k0 xK xD xF (xA xE.toNat 0).str (xA xE.toNat 1).str (xA xE.toNat 2).len (xA xE.toNat 2).el (xA xE.toNat 3).int (xA xE.toNat 4).len (xA xE.toNat 4).el) else (L322v6 u x0 x1 xE x2 x3 x4 x5 x6 x7 x8 x9 xA xB xC (xA xE.toNat 0).str (xA xE.toNat 1).str (xA xE.toNat 2).len (xA xE.toNat 2).el (xA xE.toNat 3).int (xA xE.toNat 4).len (xA xE.toNat 4).el u xD 0 xF
  (fun xL xM xN=>(k0 xL xM xN (xA xE.toNat 0).str (xA xE.toNat 1).str (xA xE.toNat 2).len (xA xE.toNat 2).el (xA xE.toNat 3).int (xA xE.toNat 4).len (xA xE.toNat 4).el))
  (fun xO xP=>(L322v7 u x0 x1 x2 x3 x4 x5 x6 x7 x8 x9 xA xB xC m xO (w64 (xE+1)) xP k0 k1))))))) else (k0 11 xD xF (xA xE.toNat 0).str (xA xE.toNat 1).str (xA xE.toNat 2).len (xA xE.toNat 2).el (xA xE.toNat 3).int (xA xE.toNat 4).len (xA xE.toNat 4).el)))) else (k0 9 xD xF (xA xE.toNat 0).str (xA xE.toNat 1).str (xA xE.toNat 2).len (xA xE.toNat 2).el (xA xE.toNat 3).int (xA xE.toNat 4).len (xA xE.toNat 4).el)))))) else none) else (k1 xD xF))
theorem nl322v7:∀ (m:Nat) (x0:Nat) (x1:Int) (x2:FF) (k0:Int→Nat→FF→ByteArray→ByteArray→Nat→FF→Int→Nat→FF→Option ρ) (k1:Nat→FF→Option ρ),ob (L322v7 u n0 f0 w0 n1 f1 n2 f2 n3 f3 n4 f4 n5 f5 m x0 x1 x2 k0 k1) ng=L322v7 u n0 f0 w0 n1 f1 n2 f2 n3 f3 n4 f4 n5 f5 m x0 x1 x2 (fun x3 x4 x5 x6 x7 x8 x9 xA xB xC=>ob (k0 x3 x4 x5 x6 x7 x8 x9 xA xB xC) ng) (fun xD xE=>ob (k1 xD xE) ng)
 | 0,_,_,_,_,_=>rfl
 | m+1,x0,x1,x2,k0,k1=>by
  simp only [L322v7,ob_bif,ob_ob,ob_none,nl322v7 m,nl322v6]
def s322v9:St:=⟨(.u :: .x (.ptr 0 0) :: .u :: .x (.c (ro (.pr .str .nil) n0 f0)) :: .x (.own 1 0 n1) :: vxi i0 :: .x (.ptr 2 0) :: .u :: vxi 0 :: (us 13 (.x (.ptr 0 4) :: .x (.c (ro kC n2 f1)) :: vxi i0 :: .x (.c (.rp kC (f1 i0.toNat))) :: .agg [(vcs (f1 i0.toNat 0).str),(vcs (f1 i0.toNat 1).str),(.c (ro (.pr .str .nil) (f1 i0.toNat 2).len (f1 i0.toNat 2).el)),(vci (f1 i0.toNat 3).int),(.c (ro (.pr .str .nil) (f1 i0.toNat 4).len (f1 i0.toNat 4).el))] :: (us 91 [])))),[.box [(vcs w0),(.c (ro kE n3 f2)),(.c (ro kA n4 f3)),(.c (ro kG n5 f4)),(.c (ro kC n2 f1)),(.c (ro kF n6 f5))],.arr kP n1 f6,.box [(vcs (f1 i0.toNat 0).str),(vcs (f1 i0.toNat 1).str),(.c (ro (.pr .str .nil) (f1 i0.toNat 2).len (f1 i0.toNat 2).el)),(vci (f1 i0.toNat 3).int),(.c (ro (.pr .str .nil) (f1 i0.toNat 4).len (f1 i0.toNat 4).el))]]⟩
theorem r322v7 :
  loopH (eB A19v13 (C56 u) u) N322v7 (m+1) (s322v6 n0 n6 n1 n2 n3 n4 n5 f0 f1 f2 f3 f4 f5 f6 i0 w0) k =
  (bif (decide (i0<(Int.ofNat n4))) then (bif (inb i0 n4) then (ob (F301 u (f4 i0.toNat 0).str) fun x0=>(bif (!x0) then (k .ret (s322v7 n1 n2 n3 n4 n5 n6 (f4 i0.toNat 2).len (f4 i0.toNat 4).len f1 f2 f3 f4 f5 f6 (f4 i0.toNat 2).el (f4 i0.toNat 4).el 6 (f4 i0.toNat 3).int w0 (f4 i0.toNat 0).str (f4 i0.toNat 1).str)) else (ob (F318 u w0 n1 f1 n2 f2 n3 f3 n4 f4 n5 f5 (f4 i0.toNat 1).str) fun x1=>(bif (!x1) then (k .ret (s322v7 n1 n2 n3 n4 n5 n6 (f4 i0.toNat 2).len (f4 i0.toNat 4).len f1 f2 f3 f4 f5 f6 (f4 i0.toNat 2).el (f4 i0.toNat 4).el 8 (f4 i0.toNat 3).int w0 (f4 i0.toNat 0).str (f4 i0.toNat 1).str)) else (bif ((decide ((f4 i0.toNat 3).int<1))==false) then (bif (decide ((f4 i0.toNat 3).int>10000)) then (k .ret (s322v7 n1 n2 n3 n4 n5 n6 (f4 i0.toNat 2).len (f4 i0.toNat 4).len f1 f2 f3 f4 f5 f6 (f4 i0.toNat 2).el (f4 i0.toNat 4).el 9 (f4 i0.toNat 3).int w0 (f4 i0.toNat 0).str (f4 i0.toNat 1).str)) else (ob (F291 u (f4 i0.toNat 2).len (f4 i0.toNat 2).el) fun x2=>(bif ((!x2)==false) then (ob (F291 u (f4 i0.toNat 4).len (f4 i0.toNat 4).el) fun x3=>(bif (!x3) then (k .ret (s322v7 n1 n2 n3 n4 n5 n6 (f4 i0.toNat 2).len (f4 i0.toNat 4).len f1 f2 f3 f4 f5 f6 (f4 i0.toNat 2).el (f4 i0.toNat 4).el 11 (f4 i0.toNat 3).int w0 (f4 i0.toNat 0).str (f4 i0.toNat 1).str)) else (ob (F321 u w0 n1 f1 n2 f2 n3 f3 n4 f4 n5 f5 i0) fun x4=>(bif (x4 != 0) then (k .ret (s322v7 n1 n2 n3 n4 n5 n6 (f4 i0.toNat 2).len (f4 i0.toNat 4).len f1 f2 f3 f4 f5 f6 (f4 i0.toNat 2).el (f4 i0.toNat 4).el x4 (f4 i0.toNat 3).int w0 (f4 i0.toNat 0).str (f4 i0.toNat 1).str)) else (loopN (eB A19v8 (C56 u) u) N322v6 u (s322v9 n0 n6 n4 n1 n2 n3 n5 f0 f4 f1 f2 f3 f5 f6 i0 w0) (kBlk 3 (kBlk 1 (kSeq (C56 u) u (2 :: (rl 6 4 (rl 22 87 []))) A19v11 (kLoop (eB A19v13 (C56 u) u) N322v7 m k))))))))) else (k .ret (s322v7 n1 n2 n3 n4 n5 n6 (f4 i0.toNat 2).len (f4 i0.toNat 4).len f1 f2 f3 f4 f5 f6 (f4 i0.toNat 2).el (f4 i0.toNat 4).el 11 (f4 i0.toNat 3).int w0 (f4 i0.toNat 0).str (f4 i0.toNat 1).str))))) else (k .ret (s322v7 n1 n2 n3 n4 n5 n6 (f4 i0.toNat 2).len (f4 i0.toNat 4).len f1 f2 f3 f4 f5 f6 (f4 i0.toNat 2).el (f4 i0.toNat 4).el 9 (f4 i0.toNat 3).int w0 (f4 i0.toNat 0).str (f4 i0.toNat 1).str))))))) else none) else (k (.exit 0) (s322v8 n6 n1 n2 n3 n4 n5 f1 f2 f3 f4 f5 f6 w0))):=by kernel_rfl
theorem t322v3 :
  loopN (eB A19v8 (C56 u) u) N322v6 u (s322v9 n0 n1 n2 n3 n4 n5 n6 f0 f1 f2 f3 f4 f5 f6 i0 w0) k =
  L322v6 u n0 f0 i0 w0 n3 f2 n4 f3 n5 f4 n2 f1 n6 f5 (f1 i0.toNat 0).str (f1 i0.toNat 1).str (f1 i0.toNat 2).len (f1 i0.toNat 2).el (f1 i0.toNat 3).int (f1 i0.toNat 4).len (f1 i0.toNat 4).el u n1 0 f6 (fun x0 x1 x2=>k .ret (s322v3 n3 n4 n5 n2 n6 x1 (f1 i0.toNat 2).len (f1 i0.toNat 4).len f2 f3 f4 f1 f5 x2 (f1 i0.toNat 2).el (f1 i0.toNat 4).el x0 (f1 i0.toNat 3).int w0 (f1 i0.toNat 0).str (f1 i0.toNat 1).str)) (fun x3 x4=>k (.exit 3) (s322v4 n0 x3 n3 n4 n5 n2 n6 (f1 i0.toNat 2).len (f1 i0.toNat 4).len f0 f2 f3 f4 f1 f5 x4 (f1 i0.toNat 2).el (f1 i0.toNat 4).el i0 (f1 i0.toNat 3).int w0 (f1 i0.toNat 0).str (f1 i0.toNat 1).str)) :=
 Eq.trans (loopN_at (by kernel_rfl)) (q322v6 ..)
theorem g322v4 :
  (kBlk 3 (kBlk 1 (kSeq (C56 u) u (2 :: (rl 6 4 (rl 22 87 []))) A19v11 (kLoop (eB A19v13 (C56 u) u) N322v7 m k)))) .ret (s322v3 n0 n1 n2 n3 n4 n5 (f3 i1.toNat 2).len (f3 i1.toNat 4).len f0 f1 f2 f3 f4 f5 (f3 i1.toNat 2).el (f3 i1.toNat 4).el i0 (f3 i1.toNat 3).int w0 (f3 i1.toNat 0).str (f3 i1.toNat 1).str) =
  (k .ret (s322v7 n0 n1 n2 n3 n4 n5 (f3 i1.toNat 2).len (f3 i1.toNat 4).len f0 f1 f2 f3 f4 f5 (f3 i1.toNat 2).el (f3 i1.toNat 4).el i0 (f3 i1.toNat 3).int w0 (f3 i1.toNat 0).str (f3 i1.toNat 1).str)):=by kernel_rfl
theorem g322v5 :
  (kBlk 3 (kBlk 1 (kSeq (C56 u) u (2 :: (rl 6 4 (rl 22 87 []))) A19v11 (kLoop (eB A19v13 (C56 u) u) N322v7 m k)))) (.exit 3) (s322v4 n0 n1 n2 n3 n4 n5 n6 (f4 i0.toNat 2).len (f4 i0.toNat 4).len f0 f1 f2 f3 f4 f5 f6 (f4 i0.toNat 2).el (f4 i0.toNat 4).el i0 (f4 i0.toNat 3).int w0 (f4 i0.toNat 0).str (f4 i0.toNat 1).str) =
  (loopH (eB A19v13 (C56 u) u) N322v7 m (s322v6 n0 n1 n2 n3 n4 n5 n6 f0 f1 f2 f3 f4 f5 f6 (w64 (i0+1)) w0) k):=by kernel_rfl
theorem q322v7:∀ (m:Nat) (x0:Nat) (x1:Int) (x2:FF),
  loopH (eB A19v13 (C56 u) u) N322v7 m (s322v6 n0 x0 n1 n2 n3 n4 n5 f0 f1 f2 f3 f4 f5 x2 x1 w0) k=L322v7 u n0 f0 w0 n1 f1 n2 f2 n3 f3 n4 f4 n5 f5 m x0 x1 x2 (fun x3 x4 x5 x6 x7 x8 x9 xA xB xC=>k .ret (s322v7 n1 n2 n3 n4 n5 x4 x8 xB f1 f2 f3 f4 f5 x5 x9 xC x3 xA w0 x6 x7)) (fun xD xE=>k (.exit 0) (s322v8 xD n1 n2 n3 n4 n5 f1 f2 f3 f4 f5 xE w0))
 | 0,_,_,_=>rfl
 | m+1,x0,x1,x2=>by
  rw [r322v7]
  simp only [L322v7,q322v7 m,t322v3,g322v4,g322v5]
def F322 (x0:ByteArray) (x1:Nat) (x2:FF) (x3:Nat) (x4:FF) (x5:Nat) (x6:FF) (x7:Nat) (x8:FF) (x9:Nat) (xA:FF):Option (Int) :=
 (ob (F290 u x0 x1 x2 x3 x4 x5 x6 x7 x8 x9 xA) fun xB=>(L322v7 u xB.2.2.2.2.2.2.1 xB.2.2.2.2.2.2.2 x0 x1 x2 x3 x4 x5 x6 x7 x8 x9 xA u 0 0 (fun _ _=>.any)
  (fun xC xD xE xF xG xH xI xJ xK xL=>(some xC))
  (fun xM xN=>(ob (F229 u (Int.ofNat x7) xM xN) fun xO=>(some xO.2.2)))))
def s322v10 (x0:Nat × FF × Nat × FF × Nat × FF × Nat × FF):St:=⟨[.agg [(vcs w0),(.c (ro kE n0 f0)),(.c (ro kA n1 f1)),(.c (ro kG n2 f2)),(.c (ro kC n3 f3)),(.c (ro kF n4 f4))],.x (.ptr 0 0),vxi 0,.x (.c (ro (.pr .str .nil) x0.2.2.2.2.2.2.1 x0.2.2.2.2.2.2.2)),.x (.own 1 0 0),vxi 0,uu,uu,uu,uu,uu,uu,.agg [(vcs w0),(.c (ro kE n0 f0)),(.c (ro kA n1 f1)),(.c (ro kG n2 f2)),(.c (ro kC n3 f3)),(.c (ro kF n4 f4))],.agg [(.c (ro (.pr .str .nil) x0.1 x0.2.1)),(.c (ro (.pr .str .nil) x0.2.2.1 x0.2.2.2.1)),(.c (ro (.pr .str .nil) x0.2.2.2.2.1 x0.2.2.2.2.2.1)),(.c (ro (.pr .str .nil) x0.2.2.2.2.2.2.1 x0.2.2.2.2.2.2.2))],.x (.c (ro (.pr .str .nil) x0.2.2.2.2.2.2.1 x0.2.2.2.2.2.2.2)),uu,uu,uu,uu,uu,uu,uu,uu,uu,uu,uu,uu,uu,uu,uu,uu,uu,uu,uu,uu,uu,uu,uu,uu,uu,uu,uu,uu,uu,uu,uu,uu,uu,uu,uu,uu,uu,uu,uu,uu,uu,uu,uu,uu,uu,uu,uu,uu,uu,uu,uu,uu,uu,uu,uu,uu,uu,uu,uu,uu,uu,uu,uu,uu,uu,uu,uu,uu,uu,uu,uu,uu,uu,uu,uu,uu,uu,uu,uu,uu,uu,uu,uu,uu,uu,uu,uu,uu,uu,uu,uu,uu,uu,uu,uu,uu,uu,uu,uu,uu,uu,uu,uu],[.box [(vcs w0),(.c (ro kE n0 f0)),(.c (ro kA n1 f1)),(.c (ro kG n2 f2)),(.c (ro kC n3 f3)),(.c (ro kF n4 f4))],.arr kP 0 nilF]⟩
theorem t322v6 (x0:Nat × FF × Nat × FF × Nat × FF × Nat × FF) :
  loopN (eB A19v13 (C56 u) u) N322v7 u (s322v10 n0 n1 n2 n3 n4 f0 f1 f2 f3 f4 w0 x0) k =
  L322v7 u x0.2.2.2.2.2.2.1 x0.2.2.2.2.2.2.2 w0 n0 f0 n1 f1 n2 f2 n3 f3 n4 f4 u 0 0 nilF (fun x1 x2 x3 x4 x5 x6 x7 x8 x9 xA=>k .ret (s322v7 n0 n1 n2 n3 n4 x2 x6 x9 f0 f1 f2 f3 f4 x3 x7 xA x1 x8 w0 x4 x5)) (fun xB xC=>k (.exit 0) (s322v8 xB n0 n1 n2 n3 n4 f0 f1 f2 f3 f4 xC w0)) :=
 Eq.trans (loopN_at (by kernel_rfl)) (q322v7 ..)
theorem g322v7 :
  (kBlk 0 (kSeq (C56 u) u (2 :: (rl 5 5 (rl 15 94 []))) A19v14 (finish A19))) .ret (s322v7 n0 n1 n2 n3 n4 n5 n6 n7 f0 f1 f2 f3 f4 f5 f6 f7 i0 i1 w0 w1 w2) =
  (some [.v (vi i0)]):=by kernel_rfl
theorem g322v8 :
  (kBlk 0 (kSeq (C56 u) u (2 :: (rl 5 5 (rl 15 94 []))) A19v14 (finish A19))) (.exit 0) (s322v8 n0 n1 n2 n3 n4 n5 f0 f1 f2 f3 f4 f5 w0) =
  (ob (F229 u (Int.ofNat n4) n0 f5) fun x0=>(some [.v (vi x0.2.2)])):=by kernel_rfl
theorem e322:evalF (C56 u) u A19 [.agg [(.s w0),(ro kE n0 f0),(ro kA n1 f1),(ro kG n2 f2),(ro kC n3 f3),(ro kF n4 f4)]]=ob (F322 u w0 n0 f0 n1 f1 n2 f2 n3 f3 n4 f4) fun t=>some [.v (vi t)]:=Eq.trans (b:=(ob (F290 u w0 n0 f0 n1 f1 n2 f2 n3 f3 n4 f4) fun x0=>(loopN (eB A19v13 (C56 u) u) N322v7 u (s322v10 n0 n1 n2 n3 n4 f0 f1 f2 f3 f4 w0 x0) (kBlk 0 (kSeq (C56 u) u (2 :: (rl 5 5 (rl 15 94 []))) A19v14 (finish A19)))))) (by kernel_rfl) (by
 simp only [F322,ob_bif,ob_ob,ob_none,ob_some,nl322v7,t322v6,g322v7,g322v8])
def O322:Ora:=mkO (q1 (ag (tc cS (tc (cL kE) (tc (cL kA) (tc (cL kG) (tc (cL kC) (t1 (cL kF))))))))) (fun x=>F322 u x.1 x.2.1.1 x.2.1.2 x.2.2.1.1 x.2.2.1.2 x.2.2.2.1.1 x.2.2.2.1.2 x.2.2.2.2.1.1 x.2.2.2.2.1.2 x.2.2.2.2.2.1 x.2.2.2.2.2.2) fun t=>[.v (vi t)]
theorem d322:DO (O322 u) (C56 u) 19 A19:=dO u (fun x=>by exact e322 u x.2.1.1 x.2.2.1.1 x.2.2.2.1.1 x.2.2.2.2.1.1 x.2.2.2.2.2.1 x.2.1.2 x.2.2.1.2 x.2.2.2.1.2 x.2.2.2.2.1.2 x.2.2.2.2.2.2 x.1)
def C57:Oracle:=(C56 u).add 19 (fun _=>true) (O322 u)
def A20v1:AC:=(.seq (.region 9 [o1 34 (ln 28 6 1),o1 35 (fa 49 4 2 2),o1 36 (lo 9 35),o1 37 (cf 50 [34,36] [28,9]),mv 33 37,o1 38 (.extract (tm 33) 0),o1 39 (.extract (tm 33) 1),o1 5 (.alloc 0 62 [vcs ByteArray.empty,vcs ByteArray.empty,vcn,vci 0,vcn]),o0 (.store 62 5 (tm 5) (tm 38)),o1 6 (sg 39)] 1 none) []
 (.seq (.region 10 [o1 40 (fa 49 4 0 0),o1 41 (lo 3 40),o1 42 (bk .eql 3 41 1),mv 43 42,og 44 (fa 49 4 2 2) 43 true,og 45 (lo 9 44) 43 true,og 46 (.binOp .eql 9 (tm 45) (.const (.string ByteArray.empty)) 9) 43 true,og 47 (.move (tm 46)) 43 true,og 48 (ln 28 6 1) 47 false,og 49 (fa 49 4 2 2) 47 false,og 50 (lo 9 49) 47 false,og 51 (cs 47 [48,50] [28,9]) 47 false,og 52 (pa 47 51) 43 true,o1 53 (po 43 52),mv 54 53,og 55 (fa 49 4 0 0) 54 false,og 56 (lo 3 55) 54 false,og 57 (bk .eql 3 56 2) 54 false,og 58 (.move (tm 57)) 54 false,og 59 (ln 28 6 1) 58 true,og 60 (fa 49 4 2 2) 58 true,og 61 (lo 9 60) 58 true,og 62 (cs 47 [59,61] [28,9]) 58 true,og 63 (po 58 62) 54 false,o1 64 (pa 54 63),mv 65 64,og 66 (fa 49 4 0 0) 65 false,og 67 (lo 3 66) 65 false,og 68 (bk .eql 3 67 3) 65 false,og 69 (.move (tm 68)) 65 false,og 70 (.move (tm 6)) 69 true,og 71 (po 69 70) 65 false,o1 72 (pa 65 71),o1 7 (sg 72)] 0 none) []
 (.seq (.region 11 [o1 73 (ln 28 6 1),o1 74 (fa 49 4 1 1),o1 75 (lo 9 74),o1 76 (cs 47 [73,75] [28,9]),o1 77 (.unOp .not 4 (tm 76)),mv 78 77,og 79 (.move (tm 7)) 78 false,og 80 (.unOp .not 4 (tm 79)) 78 false,o1 81 (pa 78 80)] 0 none) []
 (.cond (tm 81)
 (.seq (.region 12 [o1 2 (sk 8)] 0 none) []
  (.ret (0 :: 1 :: (rl 3 79 []))))
 .skip))))
def A20v2:AC:=(.seq (.seq (.region 7 [o1 28 (fa 49 4 2 2),o1 29 (lo 9 28),o1 30 (fa 49 4 1 1),o1 31 (lo 9 30),o1 32 (bt .eql 9 29 31)] 0 none) []
 (.cond (tm 32)
 (.seq (.region 8 [o1 2 (sk 2)] 0 none) []
  (.ret (0 :: 1 :: (rl 3 79 []))))
 .skip)) (2 :: (rl 28 5 []))
 A20v1)
def A20v3:AC:=(.region 3 [mv 13 3,o1 14 (bk .add 3 13 1),o1 3 (sg 14)] 0 none)
def A20v4:AC:=(.seq (.block 1
 (.seq (.region 4 [o1 15 (fa 28 1 5 5),o1 16 (lo 26 15),mv 17 3,o1 18 (.indexAddr 26 49 3 (tm 16) (tm 17)),o1 19 (ln 49 3 18),o1 4 (.alloc 0 49 [vci 0,vcs ByteArray.empty,vcs ByteArray.empty]),o0 (.store 49 3 (tm 4) (tm 19))] 1 none) []
  (.seq (.seq (.region 5 [o1 20 (fa 49 4 0 0),o1 21 (lo 3 20),o1 22 (bk .lss 3 21 1),mv 23 22,og 24 (fa 49 4 0 0) 23 false,og 25 (lo 3 24) 23 false,og 26 (bk .gtr 3 25 3) 23 false,o1 27 (pa 23 26)] 0 none) []
  (.cond (tm 27)
  (.seq (.region 6 [o1 2 (sk 10)] 0 none) []
   (.ret (0 :: 1 :: (rl 3 79 []))))
  .skip)) (2 :: (rl 20 8 []))
  A20v2))) (2 :: (rl 4 4 (rl 15 67 [])))
 A20v3)
def A20v5:AC:=(.seq (.seq (.region 2 [mv 8 3,o1 9 (fa 28 1 5 5),o1 10 (lo 26 9),o1 11 (.len 26 false (tm 10)),o1 12 (bt .lss 3 8 11)] 0 none) []
 (.cond (tm 12)
 .skip
 (.exit 0 (rl 0 82 [])))) (rl 8 5 [])
 A20v4)
def A20v6:AC:=(.seq (.region 13 [o1 2 (sk 0)] 0 none) []
 (.ret (0 :: 1 :: (rl 3 79 []))))
def A20:AF:=⟨82,[.tmp 2],
 (.seq (.region 0 [o1 1 (bx 0 28 0),o1 2 (sk 0)] 1 none) []
 (.seq (.seq (.region 1 [o1 3 (sk 0)] 0 none) []
 (.block 0
 (.loop [] (0 :: 2 :: (rl 4 78 []))
  A20v5))) (rl 2 80 [])
 A20v6))⟩
def N323v1:St→Option St:=nN 1 (0 :: 2 :: (rl 4 78 []))
def s323v0:St:=⟨(.u :: .x (.ptr 0 0) :: .u :: vxi i0 :: (us 78 [])),[.box [(vcs w0),(.c (ro kE n0 f0)),(.c (ro kA n1 f1)),(.c (ro kG n2 f2)),(.c (ro kC n3 f3)),(.c (ro kF n4 f4))]]⟩
def s323v1:St:=⟨(.u :: .u :: vxi i0 :: (us 79 [])),[.box [(vcs w0),(.c (ro kE n0 f0)),(.c (ro kA n1 f1)),(.c (ro kG n2 f2)),(.c (ro kC n3 f3)),(.c (ro kF n4 f4))],.box [(vci i1),(vcs w1),(vcs w2)]]⟩
def s323v2:St:=⟨(.u :: .u :: vxi 8 :: (us 79 [])),[.box [(vcs w0),(.c (ro kE n0 f0)),(.c (ro kA n1 f1)),(.c (ro kG n2 f2)),(.c (ro kC n3 f3)),(.c (ro kF n4 f4))],.box [(vci i0),(vcs w1),(vcs w2)],.box [(vcs w3),(vcs w4),(.c (ro (.pr .str .nil) n5 f5)),(vci i1),(.c (ro (.pr .str .nil) n6 f6))]]⟩
def s323v3:St:=⟨(us 82 []),[.box [(vcs w0),(.c (ro kE n0 f0)),(.c (ro kA n1 f1)),(.c (ro kG n2 f2)),(.c (ro kC n3 f3)),(.c (ro kF n4 f4))]]⟩
def L323v1 {ρ:Type} (u:Nat) (x0:ByteArray) (x1:Nat) (x2:FF) (x3:Nat) (x4:FF) (x5:Nat) (x6:FF) (x7:Nat) (x8:FF) (x9:Nat) (xA:FF):Nat→Int→(Int→Int→ByteArray→ByteArray→Option ρ)→(Int→ByteArray→ByteArray→ByteArray→ByteArray→Nat→FF→Int→Nat→FF→Option ρ)→(Option ρ)→Option ρ
 | 0,_,_,_,_=>none
 | m+1,xB,k0,k1,k2 =>
  (bif (decide (xB<(Int.ofNat x9))) then (bif (inb xB x9) then (bif ((decide ((xA xB.toNat 0).int<1))==false) then (bif (decide ((xA xB.toNat 0).int>3)) then (k0 10 (xA xB.toNat 0).int (xA xB.toNat 1).str (xA xB.toNat 2).str) else (bif (ByteArray.toList (xA xB.toNat 2).str==ByteArray.toList (xA xB.toNat 1).str) then (k0 2 (xA xB.toNat 0).int (xA xB.toNat 1).str (xA xB.toNat 2).str) else (ob (F319 u x0 x1 x2 x3 x4 x5 x6 x7 x8 x9 xA (xA xB.toNat 2).str) fun xC=>(bif (((xA xB.toNat 0).int==1)==true) then (bif ((ByteArray.toList (xA xB.toNat 2).str==ByteArray.toList ByteArray.empty)==false) then (ob (F318 u x0 x1 x2 x3 x4 x5 x6 x7 x8 x9 xA (xA xB.toNat 2).str) fun xD=>(bif (xD==false) then (bif (((xA xB.toNat 0).int==2)==true) then (ob (F318 u x0 x1 x2 x3 x4 x5 x6 x7 x8 x9 xA (xA xB.toNat 2).str) fun xE=>(bif (xE==false) then (bif (((xA xB.toNat 0).int==3)==true) then (ob (F318 u x0 x1 x2 x3 x4 x5 x6 x7 x8 x9 xA (xA xB.toNat 1).str) fun xF=>(bif ((!xF)==false) then (bif (!xC.2.2.2.2.2.2.2) then (k1 (xA xB.toNat 0).int (xA xB.toNat 1).str (xA xB.toNat 2).str xC.1 xC.2.1 xC.2.2.1 xC.2.2.2.1 xC.2.2.2.2.1 xC.2.2.2.2.2.1 xC.2.2.2.2.2.2.1) else (L323v1 u x0 x1 x2 x3 x4 x5 x6 x7 x8 x9 xA m (w64 (xB+1)) k0 k1 k2)) else (k1 (xA xB.toNat 0).int (xA xB.toNat 1).str (xA xB.toNat 2).str xC.1 xC.2.1 xC.2.2.1 xC.2.2.2.1 xC.2.2.2.2.1 xC.2.2.2.2.2.1 xC.2.2.2.2.2.2.1))) else (ob (F318 u x0 x1 x2 x3 x4 x5 x6 x7 x8 x9 xA (xA xB.toNat 1).str) fun xG=>(bif ((!xG)==false) then (k1 (xA xB.toNat 0).int (xA xB.toNat 1).str (xA xB.toNat 2).str xC.1 xC.2.1 xC.2.2.1 xC.2.2.2.1 xC.2.2.2.2.1 xC.2.2.2.2.2.1 xC.2.2.2.2.2.2.1) else (k1 (xA xB.toNat 0).int (xA xB.toNat 1).str (xA xB.toNat 2).str xC.1 xC.2.1 xC.2.2.1 xC.2.2.2.1 xC.2.2.2.2.1 xC.2.2.2.2.2.1 xC.2.2.2.2.2.2.1)))) else (ob (F318 u x0 x1 x2 x3 x4 x5 x6 x7 x8 x9 xA (xA xB.toNat 1).str) fun xH=>(bif ((!xH)==false) then (L323v1 u x0 x1 x2 x3 x4 x5 x6 x7 x8 x9 xA m (w64 (xB+1)) k0 k1 k2) else (k1 (xA xB.toNat 0).int (xA xB.toNat 1).str (xA xB.toNat 2).str xC.1 xC.2.1 xC.2.2.1 xC.2.2.2.1 xC.2.2.2.2.1 xC.2.2.2.2.2.1 xC.2.2.2.2.2.2.1))))) else (bif (((xA xB.toNat 0).int==3)==true) then (ob (F318 u x0 x1 x2 x3 x4 x5 x6 x7 x8 x9 xA (xA xB.toNat 1).str) fun xI=>(bif ((!xI)==false) then (bif (!xC.2.2.2.2.2.2.2) then (k1 (xA xB.toNat 0).int (xA xB.toNat 1).str (xA xB.toNat 2).str xC.1 xC.2.1 xC.2.2.1 xC.2.2.2.1 xC.2.2.2.2.1 xC.2.2.2.2.2.1 xC.2.2.2.2.2.2.1) else (L323v1 u x0 x1 x2 x3 x4 x5 x6 x7 x8 x9 xA m (w64 (xB+1)) k0 k1 k2)) else (k1 (xA xB.toNat 0).int (xA xB.toNat 1).str (xA xB.toNat 2).str xC.1 xC.2.1 xC.2.2.1 xC.2.2.2.1 xC.2.2.2.2.1 xC.2.2.2.2.2.1 xC.2.2.2.2.2.2.1))) else (ob (F318 u x0 x1 x2 x3 x4 x5 x6 x7 x8 x9 xA (xA xB.toNat 1).str) fun xJ=>(bif ((!xJ)==false) then (k1 (xA xB.toNat 0).int (xA xB.toNat 1).str (xA xB.toNat 2).str xC.1 xC.2.1 xC.2.2.1 xC.2.2.2.1 xC.2.2.2.2.1 xC.2.2.2.2.2.1 xC.2.2.2.2.2.2.1) else (k1 (xA xB.toNat 0).int (xA xB.toNat 1).str (xA xB.toNat 2).str xC.1 xC.2.1 xC.2.2.1 xC.2.2.2.1 xC.2.2.2.2.1 xC.2.2.2.2.2.1 xC.2.2.2.2.2.2.1))))) else (ob (F318 u x0 x1 x2 x3 x4 x5 x6 x7 x8 x9 xA (xA xB.toNat 1).str) fun xK=>(bif ((!xK)==false) then (L323v1 u x0 x1 x2 x3 x4 x5 x6 x7 x8 x9 xA m (w64 (xB+1)) k0 k1 k2) else (k1 (xA xB.toNat 0).int (xA xB.toNat 1).str (xA xB.toNat 2).str xC.1 xC.2.1 xC.2.2.1 xC.2.2.2.1 xC.2.2.2.2.1 xC.2.2.2.2.2.1 xC.2.2.2.2.2.2.1))))) else (ob (F318 u x0 x1 x2 x3 x4 x5 x6 x7 x8 x9 xA (xA xB.toNat 1).str) fun xL=>(bif ((!xL)==false) then (L323v1 u x0 x1 x2 x3 x4 x5 x6 x7 x8 x9 xA m (w64 (xB+1)) k0 k1 k2) else (k1 (xA xB.toNat 0).int (xA xB.toNat 1).str (xA xB.toNat 2).str xC.1 xC.2.1 xC.2.2.1 xC.2.2.2.1 xC.2.2.2.2.1 xC.2.2.2.2.2.1 xC.2.2.2.2.2.2.1)))) else (bif (((xA xB.toNat 0).int==2)==true) then (ob (F318 u x0 x1 x2 x3 x4 x5 x6 x7 x8 x9 xA (xA xB.toNat 2).str) fun xM=>(bif (xM==false) then (bif (((xA xB.toNat 0).int==3)==true) then (ob (F318 u x0 x1 x2 x3 x4 x5 x6 x7 x8 x9 xA (xA xB.toNat 1).str) fun xN=>(bif ((!xN)==false) then (bif (!xC.2.2.2.2.2.2.2) then (k1 (xA xB.toNat 0).int (xA xB.toNat 1).str (xA xB.toNat 2).str xC.1 xC.2.1 xC.2.2.1 xC.2.2.2.1 xC.2.2.2.2.1 xC.2.2.2.2.2.1 xC.2.2.2.2.2.2.1) else (L323v1 u x0 x1 x2 x3 x4 x5 x6 x7 x8 x9 xA m (w64 (xB+1)) k0 k1 k2)) else (k1 (xA xB.toNat 0).int (xA xB.toNat 1).str (xA xB.toNat 2).str xC.1 xC.2.1 xC.2.2.1 xC.2.2.2.1 xC.2.2.2.2.1 xC.2.2.2.2.2.1 xC.2.2.2.2.2.2.1))) else (ob (F318 u x0 x1 x2 x3 x4 x5 x6 x7 x8 x9 xA (xA xB.toNat 1).str) fun xO=>(bif ((!xO)==false) then (k1 (xA xB.toNat 0).int (xA xB.toNat 1).str (xA xB.toNat 2).str xC.1 xC.2.1 xC.2.2.1 xC.2.2.2.1 xC.2.2.2.2.1 xC.2.2.2.2.2.1 xC.2.2.2.2.2.2.1) else (k1 (xA xB.toNat 0).int (xA xB.toNat 1).str (xA xB.toNat 2).str xC.1 xC.2.1 xC.2.2.1 xC.2.2.2.1 xC.2.2.2.2.1 xC.2.2.2.2.2.1 xC.2.2.2.2.2.2.1)))) else (ob (F318 u x0 x1 x2 x3 x4 x5 x6 x7 x8 x9 xA (xA xB.toNat 1).str) fun xP=>(bif ((!xP)==false) then (L323v1 u x0 x1 x2 x3 x4 x5 x6 x7 x8 x9 xA m (w64 (xB+1)) k0 k1 k2) else (k1 (xA xB.toNat 0).int (xA xB.toNat 1).str (xA xB.toNat 2).str xC.1 xC.2.1 xC.2.2.1 xC.2.2.2.1 xC.2.2.2.2.1 xC.2.2.2.2.2.1 xC.2.2.2.2.2.2.1))))) else (bif (((xA xB.toNat 0).int==3)==true) then (ob (F318 u x0 x1 x2 x3 x4 x5 x6 x7 x8 x9 xA (xA xB.toNat 1).str) fun xQ=>(bif ((!xQ)==false) then (bif (!xC.2.2.2.2.2.2.2) then (k1 (xA xB.toNat 0).int (xA xB.toNat 1).str (xA xB.toNat 2).str xC.1 xC.2.1 xC.2.2.1 xC.2.2.2.1 xC.2.2.2.2.1 xC.2.2.2.2.2.1 xC.2.2.2.2.2.2.1) else (L323v1 u x0 x1 x2 x3 x4 x5 x6 x7 x8 x9 xA m (w64 (xB+1)) k0 k1 k2)) else (k1 (xA xB.toNat 0).int (xA xB.toNat 1).str (xA xB.toNat 2).str xC.1 xC.2.1 xC.2.2.1 xC.2.2.2.1 xC.2.2.2.2.1 xC.2.2.2.2.2.1 xC.2.2.2.2.2.2.1))) else (ob (F318 u x0 x1 x2 x3 x4 x5 x6 x7 x8 x9 xA (xA xB.toNat 1).str) fun xR=>(bif ((!xR)==false) then (k1 (xA xB.toNat 0).int (xA xB.toNat 1).str (xA xB.toNat 2).str xC.1 xC.2.1 xC.2.2.1 xC.2.2.2.1 xC.2.2.2.2.1 xC.2.2.2.2.2.1 xC.2.2.2.2.2.2.1) else (k1 (xA xB.toNat 0).int (xA xB.toNat 1).str (xA xB.toNat 2).str xC.1 xC.2.1 xC.2.2.1 xC.2.2.2.1 xC.2.2.2.2.1 xC.2.2.2.2.2.1 xC.2.2.2.2.2.2.1))))))))) else (k0 10 (xA xB.toNat 0).int (xA xB.toNat 1).str (xA xB.toNat 2).str)) else none) else k2)
theorem nl323v1:∀ (m:Nat) (x0:Int) (k0:Int→Int→ByteArray→ByteArray→Option ρ) (k1:Int→ByteArray→ByteArray→ByteArray→ByteArray→Nat→FF→Int→Nat→FF→Option ρ) (k2:Option ρ),ob (L323v1 u w0 n0 f0 n1 f1 n2 f2 n3 f3 n4 f4 m x0 k0 k1 k2) ng=L323v1 u w0 n0 f0 n1 f1 n2 f2 n3 f3 n4 f4 m x0 (fun x1 x2 x3 x4=>ob (k0 x1 x2 x3 x4) ng) (fun x5 x6 x7 x8 x9 xA xB xC xD xE=>ob (k1 x5 x6 x7 x8 x9 xA xB xC xD xE) ng) (ob k2 ng)
 | 0,_,_,_,_=>rfl
 | m+1,x0,k0,k1,k2=>by
  simp only [L323v1,ob_bif,ob_ob,ob_none,nl323v1 m]
theorem q323v1:∀ (m:Nat) (x0:Int),
  loopH (eB A20v5 (C57 u) u) N323v1 m (s323v0 n0 n1 n2 n3 n4 f0 f1 f2 f3 f4 x0 w0) k=L323v1 u w0 n0 f0 n1 f1 n2 f2 n3 f3 n4 f4 m x0 (fun x1 x2 x3 x4=>k .ret (s323v1 n0 n1 n2 n3 n4 f0 f1 f2 f3 f4 x1 x2 w0 x3 x4)) (fun x5 x6 x7 x8 x9 xA xB xC xD xE=>k .ret (s323v2 n0 n1 n2 n3 n4 xA xD f0 f1 f2 f3 f4 xB xE x5 xC w0 x6 x7 x8 x9)) (k (.exit 0) (s323v3 n0 n1 n2 n3 n4 f0 f1 f2 f3 f4 w0))
 | 0,_=>rfl
 | m+1,x0=>by
  simp only [L323v1,← q323v1 m]
  kernel_rfl
def F323 (x0:ByteArray) (x1:Nat) (x2:FF) (x3:Nat) (x4:FF) (x5:Nat) (x6:FF) (x7:Nat) (x8:FF) (x9:Nat) (xA:FF):Option (Int) :=
 (L323v1 u x0 x1 x2 x3 x4 x5 x6 x7 x8 x9 xA u 0
  (fun xB xC xD xE=>(some xB))
  (fun xF xG xH xI xJ xK xL xM xN xO=>(some 8))
  (some 0))
def s323v4:St:=⟨[.agg [(vcs w0),(.c (ro kE n0 f0)),(.c (ro kA n1 f1)),(.c (ro kG n2 f2)),(.c (ro kC n3 f3)),(.c (ro kF n4 f4))],.x (.ptr 0 0),vxi 0,vxi 0,uu,uu,uu,uu,uu,uu,uu,uu,uu,uu,uu,uu,uu,uu,uu,uu,uu,uu,uu,uu,uu,uu,uu,uu,uu,uu,uu,uu,uu,uu,uu,uu,uu,uu,uu,uu,uu,uu,uu,uu,uu,uu,uu,uu,uu,uu,uu,uu,uu,uu,uu,uu,uu,uu,uu,uu,uu,uu,uu,uu,uu,uu,uu,uu,uu,uu,uu,uu,uu,uu,uu,uu,uu,uu,uu,uu,uu,uu],[.box [(vcs w0),(.c (ro kE n0 f0)),(.c (ro kA n1 f1)),(.c (ro kG n2 f2)),(.c (ro kC n3 f3)),(.c (ro kF n4 f4))]]⟩
theorem t323v1 :
  loopN (eB A20v5 (C57 u) u) N323v1 u (s323v4 n0 n1 n2 n3 n4 f0 f1 f2 f3 f4 w0) k =
  L323v1 u w0 n0 f0 n1 f1 n2 f2 n3 f3 n4 f4 u 0 (fun x0 x1 x2 x3=>k .ret (s323v1 n0 n1 n2 n3 n4 f0 f1 f2 f3 f4 x0 x1 w0 x2 x3)) (fun x4 x5 x6 x7 x8 x9 xA xB xC xD=>k .ret (s323v2 n0 n1 n2 n3 n4 x9 xC f0 f1 f2 f3 f4 xA xD x4 xB w0 x5 x6 x7 x8)) (k (.exit 0) (s323v3 n0 n1 n2 n3 n4 f0 f1 f2 f3 f4 w0)) :=
 Eq.trans (loopN_at (by kernel_rfl)) (q323v1 ..)
theorem g323v2 :
  (kBlk 0 (kSeq (C57 u) u (rl 2 80 []) A20v6 (finish A20))) .ret (s323v1 n0 n1 n2 n3 n4 f0 f1 f2 f3 f4 i0 i1 w0 w1 w2) =
  (some [.v (vi i0)]):=by kernel_rfl
theorem g323v3 :
  (kBlk 0 (kSeq (C57 u) u (rl 2 80 []) A20v6 (finish A20))) .ret (s323v2 n0 n1 n2 n3 n4 n5 n6 f0 f1 f2 f3 f4 f5 f6 i0 i1 w0 w1 w2 w3 w4) =
  (some [.v (vi 8)]):=by kernel_rfl
theorem g323v4 :
  (kBlk 0 (kSeq (C57 u) u (rl 2 80 []) A20v6 (finish A20))) (.exit 0) (s323v3 n0 n1 n2 n3 n4 f0 f1 f2 f3 f4 w0) =
  (some [.v (vi 0)]):=by kernel_rfl
theorem e323:evalF (C57 u) u A20 [.agg [(.s w0),(ro kE n0 f0),(ro kA n1 f1),(ro kG n2 f2),(ro kC n3 f3),(ro kF n4 f4)]]=ob (F323 u w0 n0 f0 n1 f1 n2 f2 n3 f3 n4 f4) fun t=>some [.v (vi t)]:=Eq.trans (b:=(loopN (eB A20v5 (C57 u) u) N323v1 u (s323v4 n0 n1 n2 n3 n4 f0 f1 f2 f3 f4 w0) (kBlk 0 (kSeq (C57 u) u (rl 2 80 []) A20v6 (finish A20))))) (by kernel_rfl) (by
 simp only [F323,ob_bif,ob_ob,ob_none,ob_some,nl323v1,t323v1,g323v2,g323v3,g323v4])
def O323:Ora:=mkO (q1 (ag (tc cS (tc (cL kE) (tc (cL kA) (tc (cL kG) (tc (cL kC) (t1 (cL kF))))))))) (fun x=>F323 u x.1 x.2.1.1 x.2.1.2 x.2.2.1.1 x.2.2.1.2 x.2.2.2.1.1 x.2.2.2.1.2 x.2.2.2.2.1.1 x.2.2.2.2.1.2 x.2.2.2.2.2.1 x.2.2.2.2.2.2) fun t=>[.v (vi t)]
theorem d323:DO (O323 u) (C57 u) 20 A20:=dO u (fun x=>by exact e323 u x.2.1.1 x.2.2.1.1 x.2.2.2.1.1 x.2.2.2.2.1.1 x.2.2.2.2.2.1 x.2.1.2 x.2.2.1.2 x.2.2.2.1.2 x.2.2.2.2.1.2 x.2.2.2.2.2.2 x.1)
def C58:Oracle:=(C57 u).add 20 (fun _=>true) (O323 u)
def A6v1:AC:=(.seq (.region 19 [o1 42 (ln 28 6 2),o1 43 (cs 20 [42] [28]),o1 4 (sg 43)] 0 none) []
 (.ret (rl 0 4 (rl 5 39 []))))
def A6v2:AC:=(.seq (.seq (.region 16 [o1 37 (ln 28 6 2),o1 38 (cs 19 [37] [28]),o1 10 (sg 38)] 0 none) []
 (.seq (.region 17 [mv 39 10,o1 40 (bk .neq 34 39 0)] 0 none) []
 (.cond (tm 40)
 (.seq (.region 18 [mv 41 10,o1 4 (sg 41)] 0 none) []
  (.ret (rl 0 4 (rl 5 39 []))))
 .skip))) (4 :: 10 :: (rl 37 5 []))
 A6v1)
def A6v3:AC:=(.seq (.seq (.region 13 [o1 32 (ln 28 6 2),o1 33 (cs 18 [32] [28]),o1 9 (sg 33)] 0 none) []
 (.seq (.region 14 [mv 34 9,o1 35 (bk .neq 34 34 0)] 0 none) []
 (.cond (tm 35)
 (.seq (.region 15 [mv 36 9,o1 4 (sg 36)] 0 none) []
  (.ret (rl 0 4 (rl 5 39 []))))
 .skip))) (4 :: 9 :: (rl 32 5 []))
 A6v2)
def A6v4:AC:=(.seq (.seq (.region 10 [o1 26 (ln 28 6 2),o1 27 (ln 32 2 3),o1 28 (cs 17 [26,27] [28,32]),o1 8 (sg 28)] 0 none) []
 (.seq (.region 11 [mv 29 8,o1 30 (bk .neq 34 29 0)] 0 none) []
 (.cond (tm 30)
 (.seq (.region 12 [mv 31 8,o1 4 (sg 31)] 0 none) []
  (.ret (rl 0 4 (rl 5 39 []))))
 .skip))) (4 :: 8 :: (rl 26 6 []))
 A6v3)
def A6v5:AC:=(.seq (.seq (.region 7 [o1 21 (ln 28 6 2),o1 22 (cs 16 [21] [28]),o1 7 (sg 22)] 0 none) []
 (.seq (.region 8 [mv 23 7,o1 24 (bk .neq 34 23 0)] 0 none) []
 (.cond (tm 24)
 (.seq (.region 9 [mv 25 7,o1 4 (sg 25)] 0 none) []
  (.ret (rl 0 4 (rl 5 39 []))))
 .skip))) (4 :: 7 :: (rl 21 5 []))
 A6v4)
def A6v6:AC:=(.seq (.seq (.region 4 [o1 16 (ln 28 6 2),o1 17 (cs 15 [16] [28]),o1 6 (sg 17)] 0 none) []
 (.seq (.region 5 [mv 18 6,o1 19 (bk .neq 34 18 0)] 0 none) []
 (.cond (tm 19)
 (.seq (.region 6 [mv 20 6,o1 4 (sg 20)] 0 none) []
  (.ret (rl 0 4 (rl 5 39 []))))
 .skip))) (4 :: 6 :: (rl 16 5 []))
 A6v5)
def A6:AF:=⟨44,[.tmp 4],
 (.seq (.region 0 [o1 2 (bx 0 28 0),o1 3 (bx 1 32 1),o1 4 (sk 0)] 2 none) []
 (.seq (.seq (.region 1 [o1 11 (ln 32 2 3),o1 12 (cs 14 [11] [32]),o1 5 (sg 12)] 0 none) []
 (.seq (.region 2 [mv 13 5,o1 14 (bk .neq 34 13 0)] 0 none) []
 (.cond (tm 14)
 (.seq (.region 3 [mv 15 5,o1 4 (sg 15)] 0 none) []
  (.ret (rl 0 4 (rl 5 39 []))))
 .skip))) (4 :: 5 :: (rl 11 5 []))
 A6v6))⟩
def F324 (x0:ByteArray) (x1:Nat) (x2:FF) (x3:Nat) (x4:FF) (x5:Nat) (x6:FF) (x7:Nat) (x8:FF) (x9:Nat) (xA:FF) (xB:Nat) (xC:FF) (xD:Nat) (xE:FF):Option (Int) :=
 (ob (F289 u xB xC xD xE) fun xF=>(bif (xF != 0) then (some xF) else (ob (F293 u x0 x1 x2 x3 x4 x5 x6 x7 x8 x9 xA) fun xG=>(bif (xG != 0) then (some xG) else (ob (F305 u x0 x1 x2 x3 x4 x5 x6 x7 x8 x9 xA) fun xH=>(bif (xH != 0) then (some xH) else (ob (F315 u x0 x1 x2 x3 x4 x5 x6 x7 x8 x9 xA xB xC xD xE) fun xI=>(bif (xI != 0) then (some xI) else (ob (F317 u x0 x1 x2 x3 x4 x5 x6 x7 x8 x9 xA) fun xJ=>(bif (xJ != 0) then (some xJ) else (ob (F322 u x0 x1 x2 x3 x4 x5 x6 x7 x8 x9 xA) fun xK=>(bif (xK != 0) then (some xK) else (ob (F323 u x0 x1 x2 x3 x4 x5 x6 x7 x8 x9 xA) fun xL=>(some xL))))))))))))))
theorem e324:evalF (C58 u) u A6 [.agg [(.s w0),(ro kE n0 f0),(ro kA n1 f1),(ro kG n2 f2),(ro kC n3 f3),(ro kF n4 f4)],.agg [(ro kD n5 f5),(ro (.pr .str kV) n6 f6)]]=ob (F324 u w0 n0 f0 n1 f1 n2 f2 n3 f3 n4 f4 n5 f5 n6 f6) fun t=>some [.v (vi t)]:=by
 simp only [F324,ob_bif,ob_ob,ob_none,ob_some]
 kernel_rfl
def O324:Ora:=mkO (qc (ag (tc cS (tc (cL kE) (tc (cL kA) (tc (cL kG) (tc (cL kC) (t1 (cL kF)))))))) (q1 (ag (tc (cL kD) (t1 (cL (.pr .str kV))))))) (fun x=>F324 u x.1.1 x.1.2.1.1 x.1.2.1.2 x.1.2.2.1.1 x.1.2.2.1.2 x.1.2.2.2.1.1 x.1.2.2.2.1.2 x.1.2.2.2.2.1.1 x.1.2.2.2.2.1.2 x.1.2.2.2.2.2.1 x.1.2.2.2.2.2.2 x.2.1.1 x.2.1.2 x.2.2.1 x.2.2.2) fun t=>[.v (vi t)]
theorem d324:DO (O324 u) (C58 u) 6 A6:=dO u (fun x=>by exact e324 u x.1.2.1.1 x.1.2.2.1.1 x.1.2.2.2.1.1 x.1.2.2.2.2.1.1 x.1.2.2.2.2.2.1 x.2.1.1 x.2.2.1 x.1.2.1.2 x.1.2.2.1.2 x.1.2.2.2.1.2 x.1.2.2.2.2.1.2 x.1.2.2.2.2.2.2 x.2.1.2 x.2.2.2 x.1.1)
def C59:Oracle:=(C58 u).add 6 (fun _=>true) (O324 u)
def A9v1:AC:=(.region 4 [mv 10 4,o1 11 (bk .add 3 10 1),o1 4 (sg 11)] 0 none)
def A9v2:AC:=(.seq (.block 1
 (.seq (.region 5 [o1 12 (fa 28 1 1 1),o1 13 (lo 22 12),mv 14 4,o1 15 (.indexAddr 22 60 3 (tm 13) (tm 14)),o1 16 (fa 60 15 1 1),o1 17 (lo 3 16),o1 18 (bk .eql 3 17 1)] 0 none) []
  (.cond (tm 18)
  (.region 6 [mv 19 3,o1 20 (fa 28 1 1 1),o1 21 (lo 22 20),mv 22 4,o1 23 (.indexAddr 22 60 3 (tm 21) (tm 22)),o1 24 (fa 60 23 0 0),o1 25 (lo 9 24),o1 26 (.buildSlice 0 37 9 (.pr .str .nil) 1 [vcs ByteArray.empty] [(0,(tm 25))]),o1 27 (.append 1 37 9 (.pr .str .nil) 16 (tm 19) (tm 26)),o1 3 (sg 27)] 2 none)
  .skip))) (rl 12 16 [])
 A9v1)
def A9v3:AC:=(.seq (.seq (.region 3 [mv 5 4,o1 6 (fa 28 1 1 1),o1 7 (lo 22 6),o1 8 (.len 22 false (tm 7)),o1 9 (bt .lss 3 5 8)] 0 none) []
 (.cond (tm 9)
 .skip
 (.exit 0 (0 :: 1 :: 2 :: (rl 4 25 []))))) (rl 5 5 [])
 A9v2)
def A9v4:AC:=(.seq (.region 7 [mv 28 3,o1 2 (sg 28)] 0 none) []
 (.ret (0 :: 1 :: (rl 3 26 []))))
def A9:AF:=⟨29,[.tmp 2],
 (.seq (.region 0 [o1 1 (bx 0 28 0),o1 2 (.assign (.const (.slice none 0 0)))] 1 none) []
 (.seq (.region 1 [o1 3 (.assign (.const (.slice none 0 0)))] 0 none) []
 (.seq (.seq (.region 2 [o1 4 (sk 0)] 0 none) []
 (.block 0
 (.loop [.slot 3 (.pr .str .nil)] (0 :: 2 :: (rl 5 24 []))
  A9v3))) (rl 4 24 [])
 A9v4)))⟩
def N252v1:St→Option St:=nN 2 (0 :: 2 :: (rl 5 24 []))
def s252v0:St:=⟨(.u :: .x (.ptr 0 0) :: .u :: .x (.own 1 0 n0) :: vxi i0 :: (us 24 [])),[.box [(vcs w0),(.c (ro kE n1 f0)),(.c (ro kA n2 f1)),(.c (ro kG n3 f2)),(.c (ro kC n4 f3)),(.c (ro kF n5 f4))],.arr (.pr .str .nil) n0 f5]⟩
def s252v1:St:=⟨(us 3 (.x (.own 1 0 n0) :: (us 25 []))),[.box [(vcs w0),(.c (ro kE n1 f0)),(.c (ro kA n2 f1)),(.c (ro kG n3 f2)),(.c (ro kC n4 f3)),(.c (ro kF n5 f4))],.arr (.pr .str .nil) n0 f5]⟩
def L252v1 {ρ:Type} (u:Nat) (x0:ByteArray) (x1:Nat) (x2:FF) (x3:Nat) (x4:FF) (x5:Nat) (x6:FF) (x7:Nat) (x8:FF) (x9:Nat) (xA:FF):Nat→Nat→Int→FF→(Nat→FF→Option ρ)→Option ρ
 | 0,_,_,_,_=>none
 | m+1,xB,xC,xD,k0 =>
  (bif (decide (xC<(Int.ofNat x1))) then (bif (inb xC x1) then (bif ((x2 xC.toNat 1).int==1) then (bif (inb xC x1) then (bif (Nat.ble (xB+1) 1073741824) then (L252v1 u x0 x1 x2 x3 x4 x5 x6 x7 x8 x9 xA m (xB+1) (w64 (xC+1)) (joinF xB xD (rowsF 1 [(.s (x2 xC.toNat 0).str)])) k0) else none) else none) else (L252v1 u x0 x1 x2 x3 x4 x5 x6 x7 x8 x9 xA m xB (w64 (xC+1)) xD k0)) else none) else (k0 xB xD))
theorem nl252v1:∀ (m:Nat) (x0:Nat) (x1:Int) (x2:FF) (k0:Nat→FF→Option ρ),ob (L252v1 u w0 n0 f0 n1 f1 n2 f2 n3 f3 n4 f4 m x0 x1 x2 k0) ng=L252v1 u w0 n0 f0 n1 f1 n2 f2 n3 f3 n4 f4 m x0 x1 x2 (fun x3 x4=>ob (k0 x3 x4) ng)
 | 0,_,_,_,_=>rfl
 | m+1,x0,x1,x2,k0=>by
  simp only [L252v1,ob_bif,ob_ob,ob_none,nl252v1 m]
theorem q252v1:∀ (m:Nat) (x0:Nat) (x1:Int) (x2:FF),
  loopH (eB A9v3 (C59 u) u) N252v1 m (s252v0 x0 n0 n1 n2 n3 n4 f0 f1 f2 f3 f4 x2 x1 w0) k=L252v1 u w0 n0 f0 n1 f1 n2 f2 n3 f3 n4 f4 m x0 x1 x2 (fun x3 x4=>k (.exit 0) (s252v1 x3 n0 n1 n2 n3 n4 f0 f1 f2 f3 f4 x4 w0))
 | 0,_,_,_=>rfl
 | m+1,x0,x1,x2=>by
  simp only [L252v1,← q252v1 m]
  kernel_rfl
def F252 (x0:ByteArray) (x1:Nat) (x2:FF) (x3:Nat) (x4:FF) (x5:Nat) (x6:FF) (x7:Nat) (x8:FF) (x9:Nat) (xA:FF):Option (Nat × FF) :=
 (L252v1 u x0 x1 x2 x3 x4 x5 x6 x7 x8 x9 xA u 0 0 (fun _ _=>.any)
  (fun xB xC=>(some (xB,xC))))
def s252v2:St:=⟨[.agg [(vcs w0),(.c (ro kE n0 f0)),(.c (ro kA n1 f1)),(.c (ro kG n2 f2)),(.c (ro kC n3 f3)),(.c (ro kF n4 f4))],.x (.ptr 0 0),.x (vcn),.x (.own 1 0 0),vxi 0,uu,uu,uu,uu,uu,uu,uu,uu,uu,uu,uu,uu,uu,uu,uu,uu,uu,uu,uu,uu,uu,uu,uu,uu],[.box [(vcs w0),(.c (ro kE n0 f0)),(.c (ro kA n1 f1)),(.c (ro kG n2 f2)),(.c (ro kC n3 f3)),(.c (ro kF n4 f4))],.arr (.pr .str .nil) 0 nilF]⟩
theorem t252v1 :
  loopN (eB A9v3 (C59 u) u) N252v1 u (s252v2 n0 n1 n2 n3 n4 f0 f1 f2 f3 f4 w0) k =
  L252v1 u w0 n0 f0 n1 f1 n2 f2 n3 f3 n4 f4 u 0 0 nilF (fun x0 x1=>k (.exit 0) (s252v1 x0 n0 n1 n2 n3 n4 f0 f1 f2 f3 f4 x1 w0)) :=
 Eq.trans (loopN_at (by kernel_rfl)) (q252v1 ..)
theorem g252v2 :
  (kBlk 0 (kSeq (C59 u) u (rl 4 24 []) A9v4 (finish A9))) (.exit 0) (s252v1 n0 n1 n2 n3 n4 n5 f0 f1 f2 f3 f4 f5 w0) =
  (some [.v (ro (.pr .str .nil) n0 f5)]):=by kernel_rfl
theorem e252:evalF (C59 u) u A9 [.agg [(.s w0),(ro kE n0 f0),(ro kA n1 f1),(ro kG n2 f2),(ro kC n3 f3),(ro kF n4 f4)]]=ob (F252 u w0 n0 f0 n1 f1 n2 f2 n3 f3 n4 f4) fun t=>some [.v (ro (.pr .str .nil) t.1 t.2)]:=Eq.trans (b:=(loopN (eB A9v3 (C59 u) u) N252v1 u (s252v2 n0 n1 n2 n3 n4 f0 f1 f2 f3 f4 w0) (kBlk 0 (kSeq (C59 u) u (rl 4 24 []) A9v4 (finish A9))))) (by kernel_rfl) (by
 simp only [F252,ob_bif,ob_ob,ob_none,ob_some,nl252v1,t252v1,g252v2])
def O252:Ora:=mkO (q1 (ag (tc cS (tc (cL kE) (tc (cL kA) (tc (cL kG) (tc (cL kC) (t1 (cL kF))))))))) (fun x=>F252 u x.1 x.2.1.1 x.2.1.2 x.2.2.1.1 x.2.2.1.2 x.2.2.2.1.1 x.2.2.2.1.2 x.2.2.2.2.1.1 x.2.2.2.2.1.2 x.2.2.2.2.2.1 x.2.2.2.2.2.2) fun t=>[.v (ro (.pr .str .nil) t.1 t.2)]
theorem d252:DO (O252 u) (C59 u) 9 A9:=dO u (fun x=>by exact e252 u x.2.1.1 x.2.2.1.1 x.2.2.2.1.1 x.2.2.2.2.1.1 x.2.2.2.2.2.1 x.2.1.2 x.2.2.1.2 x.2.2.2.1.2 x.2.2.2.2.1.2 x.2.2.2.2.2.2 x.1)
def C60:Oracle:=(C59 u).add 9 (fun _=>true) (O252 u)
def A21:AF:=⟨10,[.cell 0 28 (some 6)],
 (.seq (.region 0 [o1 0 (.alloc 0 28 [vcs ByteArray.empty,vcn,vcn,vcn,vcn,vcn])] 1 none) []
 (.seq (.region 1 [o1 1 (.build 60 [vcs ByteArray.empty,vci 0,vcs ByteArray.empty] [(0,1),(1,1),(2,1)] 0 [(0,(.const (.string (ByteArray.mk #[66,49])))),(1,(ic 1))]),o1 2 (.build 60 [vcs ByteArray.empty,vci 0,vcs ByteArray.empty] [(0,1),(1,1),(2,1)] 0 [(0,(.const (.string (ByteArray.mk #[66,50])))),(1,(ic 1))]),o1 3 (.build 60 [vcs ByteArray.empty,vci 0,vcs ByteArray.empty] [(0,1),(1,1),(2,1)] 0 [(0,(.const (.string (ByteArray.mk #[66,51])))),(1,(ic 1))]),o1 4 (.buildC 22 60 kE 3 [vcs ByteArray.empty,vci 0,vcs ByteArray.empty] [(0,(tm 1)),(1,(tm 2)),(2,(tm 3))]),o1 5 (.build 49 [vci 0,vcs ByteArray.empty,vcs ByteArray.empty] [(0,1),(1,1),(2,1)] 0 [(0,(ic 1)),(1,(.const (.string (ByteArray.mk #[66,50])))),(2,(.const (.string (ByteArray.mk #[66,49]))))]),o1 6 (.build 49 [vci 0,vcs ByteArray.empty,vcs ByteArray.empty] [(0,1),(1,1),(2,1)] 0 [(0,(ic 1)),(1,(.const (.string (ByteArray.mk #[66,51]))))]),o1 7 (.build 49 [vci 0,vcs ByteArray.empty,vcs ByteArray.empty] [(0,1),(1,1),(2,1)] 0 [(0,(ic 2)),(1,(.const (.string (ByteArray.mk #[66,51])))),(2,(.const (.string (ByteArray.mk #[66,50]))))]),o1 8 (.buildC 26 49 kF 3 [vci 0,vcs ByteArray.empty,vcs ByteArray.empty] [(0,(tm 5)),(1,(tm 6)),(2,(tm 7))]),o1 9 (.build 28 [vcs ByteArray.empty,vcn,vcn,vcn,vcn,vcn] [(0,1),(1,1),(2,1),(3,1),(4,1),(5,1)] 0 [(0,(.const (.string (ByteArray.mk #[72,49])))),(1,(tm 4)),(5,(tm 8))]),o0 (.store 28 6 (tm 0) (tm 9))] 0 none) []
 (.ret (rl 1 9 []))))⟩
def FT272 (u:Nat):Option (ByteArray × Nat × FF × Nat × FF × Nat × FF × Nat × FF × Nat × FF) :=
 (some ((ByteArray.mk #[72,49]),3,(rowsF 3 [(.s (ByteArray.mk #[66,49])),(.i .i64 1),(.s ByteArray.empty),(.s (ByteArray.mk #[66,50])),(.i .i64 1),(.s ByteArray.empty),(.s (ByteArray.mk #[66,51])),(.i .i64 1),(.s ByteArray.empty)]),0,(fun _ _=>.any),0,(fun _ _=>.any),0,(fun _ _=>.any),3,(rowsF 3 [(.i .i64 1),(.s (ByteArray.mk #[66,50])),(.s (ByteArray.mk #[66,49])),(.i .i64 1),(.s (ByteArray.mk #[66,51])),(.s ByteArray.empty),(.i .i64 2),(.s (ByteArray.mk #[66,51])),(.s (ByteArray.mk #[66,50]))])))
theorem e272:evalF (C60 u) u A21 []=ob (FT272 u) fun t=>some [.agg [(.s (ByteArray.mk #[72,49])),(.ro true kE 3 t.2.2.1),(.ro true .nil 0 nilF),(.ro true .nil 0 nilF),(.ro true .nil 0 nilF),(.ro true kF 3 (p8 t).2.2)]]:=by
 simp only [FT272,ob_bif,ob_ob,ob_none,ob_some]
 kernel_rfl
def F272:Option (ByteArray × Nat × FF × Nat × FF × Nat × FF × Nat × FF × Nat × FF):=ob (FT272 u) fun t=>some ((ByteArray.mk #[72,49]),3,t.2.2.1,0,(fun _ _=>.any),0,(fun _ _=>.any),0,(fun _ _=>.any),3,(p8 t).2.2)
def O272:Ora:=mkO q0 (fun x=>F272 u) fun t=>[.agg [(.s t.1),(.ro true kE t.2.1 t.2.2.1),(ro kA t.2.2.2.1 t.2.2.2.2.1),(ro kG t.2.2.2.2.2.1 t.2.2.2.2.2.2.1),(ro kC t.2.2.2.2.2.2.2.1 (p8 t).1),(.ro true kF (p8 t).2.1 (p8 t).2.2)]]
theorem d272:DO (O272 u) (C60 u) 21 A21:=dW u (fun x=>by exact e272 u) (fun _=>rfl) fun t=>by
 exact (.cons (WkA.agg (.cons (Wk.refl _) (.cons (Wk.refl _) (.cons (Wk.ro (by rfl)) (.cons (Wk.ro (by rfl)) (.cons (Wk.ro (by rfl)) (.cons (Wk.refl _) .nil))))))) .nil)
def C61:Oracle:=(C60 u).add 21 (fun _=>true) (O272 u)
def A26v1:AC:=(.region 6 [o1 20 (bk .add 3 8 1),mv 8 20] 0 none)
def A26v2:AC:=(.seq (.block 1
 (.seq (.region 3 [o1 10 (.indexAddr 22 60 3 (tm 6) (tm 8)),o1 11 (ln 60 3 10),o1 4 (.alloc 0 60 [vcs ByteArray.empty,vci 0,vcs ByteArray.empty]),o0 (.store 60 3 (tm 4) (tm 11))] 1 none) []
  (.seq (.region 4 [o1 12 (fa 60 4 1 1),o1 13 (lo 3 12),o1 14 (bk .eql 3 13 1)] 0 none) []
  (.cond (tm 14)
  (.region 5 [mv 15 2,o1 16 (fa 60 4 0 0),o1 17 (lo 9 16),o1 18 (.buildSlice 0 37 9 (.pr .str .nil) 1 [vcs ByteArray.empty] [(0,(tm 17))]),o1 19 (.append 1 37 9 (.pr .str .nil) 16 (tm 15) (tm 18)),o1 2 (sg 19)] 2 none)
  .skip)))) (4 :: (rl 10 10 []))
 A26v1)
def A26v3:AC:=(.seq (.region 2 [o1 9 (bt .lss 3 8 7)] 0 none) []
 (.seq (.cond (tm 9)
 .skip
 (.exit 0 (0 :: 1 :: (rl 3 19 [])))) []
 A26v2))
def A26v4:AC:=(.seq (.region 7 [mv 21 2,o1 2 (sg 21)] 0 none) []
 (.ret (0 :: 1 :: (rl 3 19 []))))
def A26:AF:=⟨22,[.tmp 2],
 (.seq (.region 0 [o1 1 (bx 0 28 0),o1 2 (.assign (.const (.slice none 0 0)))] 1 none) []
 (.seq (.seq (.region 1 [o1 5 (fa 28 1 1 1),o1 6 (lo 22 5),o1 7 (.len 22 false (tm 6)),o1 8 (.move (ic 0))] 0 none) []
 (.block 0
 (.loop [.slot 2 (.pr .str .nil)] (0 :: 1 :: 3 :: 4 :: 5 :: (rl 9 13 []))
  A26v3))) (rl 4 17 [])
 A26v4))⟩
def N251v1:St→Option St:=nN 2 (0 :: 1 :: 3 :: 4 :: 5 :: (rl 9 13 []))
def s251v0:St:=⟨(.u :: .u :: .x (.own 1 0 n0) :: (us 3 (.x (.c (ro kE n1 f0)) :: vxi i0 :: vxi i1 :: (us 13 [])))),[.box [(vcs w0),(.c (ro kE n1 f0)),(.c (ro kA n2 f1)),(.c (ro kG n3 f2)),(.c (ro kC n4 f3)),(.c (ro kF n5 f4))],.arr (.pr .str .nil) n0 f5]⟩
def s251v1:St:=⟨(.u :: .u :: .x (.own 1 0 n0) :: (us 19 [])),[.box [(vcs w0),(.c (ro kE n1 f0)),(.c (ro kA n2 f1)),(.c (ro kG n3 f2)),(.c (ro kC n4 f3)),(.c (ro kF n5 f4))],.arr (.pr .str .nil) n0 f5]⟩
def L251v1 {ρ:Type} (u:Nat) (x0:Nat) (x1:FF) (x2:Int) (x3:ByteArray) (x4:Nat) (x5:FF) (x6:Nat) (x7:FF) (x8:Nat) (x9:FF) (xA:Nat) (xB:FF):Nat→Nat→Int→FF→(Nat→FF→Option ρ)→Option ρ
 | 0,_,_,_,_=>none
 | m+1,xC,xD,xE,k0 =>
  (bif (decide (xD<x2)) then (bif (inb xD x0) then (bif ((x1 xD.toNat 1).int==1) then (bif (Nat.ble (xC+1) 1073741824) then (L251v1 u x0 x1 x2 x3 x4 x5 x6 x7 x8 x9 xA xB m (xC+1) (w64 (xD+1)) (joinF xC xE (rowsF 1 [(.s (x1 xD.toNat 0).str)])) k0) else none) else (L251v1 u x0 x1 x2 x3 x4 x5 x6 x7 x8 x9 xA xB m xC (w64 (xD+1)) xE k0)) else none) else (k0 xC xE))
theorem nl251v1:∀ (m:Nat) (x0:Nat) (x1:Int) (x2:FF) (k0:Nat→FF→Option ρ),ob (L251v1 u n0 f0 i0 w0 n1 f1 n2 f2 n3 f3 n4 f4 m x0 x1 x2 k0) ng=L251v1 u n0 f0 i0 w0 n1 f1 n2 f2 n3 f3 n4 f4 m x0 x1 x2 (fun x3 x4=>ob (k0 x3 x4) ng)
 | 0,_,_,_,_=>rfl
 | m+1,x0,x1,x2,k0=>by
  simp only [L251v1,ob_bif,ob_ob,ob_none,nl251v1 m]
theorem q251v1:∀ (m:Nat) (x0:Nat) (x1:Int) (x2:FF),
  loopH (eB A26v3 (C61 u) u) N251v1 m (s251v0 x0 n0 n1 n2 n3 n4 f0 f1 f2 f3 f4 x2 i0 x1 w0) k=L251v1 u n0 f0 i0 w0 n1 f1 n2 f2 n3 f3 n4 f4 m x0 x1 x2 (fun x3 x4=>k (.exit 0) (s251v1 x3 n0 n1 n2 n3 n4 f0 f1 f2 f3 f4 x4 w0))
 | 0,_,_,_=>rfl
 | m+1,x0,x1,x2=>by
  simp only [L251v1,← q251v1 m]
  kernel_rfl
def F251 (x0:ByteArray) (x1:Nat) (x2:FF) (x3:Nat) (x4:FF) (x5:Nat) (x6:FF) (x7:Nat) (x8:FF) (x9:Nat) (xA:FF):Option (Nat × FF) :=
 (L251v1 u x1 x2 (Int.ofNat x1) x0 x3 x4 x5 x6 x7 x8 x9 xA u 0 0 (fun _ _=>.any)
  (fun xB xC=>(some (xB,xC))))
def s251v2:St:=⟨[.agg [(vcs w0),(.c (ro kE n0 f0)),(.c (ro kA n1 f1)),(.c (ro kG n2 f2)),(.c (ro kC n3 f3)),(.c (ro kF n4 f4))],.x (.ptr 0 0),.x (.own 1 0 0),uu,uu,.x (.ptr 0 1),.x (.c (ro kE n0 f0)),vxi (Int.ofNat n0),vxi 0,uu,uu,uu,uu,uu,uu,uu,uu,uu,uu,uu,uu,uu],[.box [(vcs w0),(.c (ro kE n0 f0)),(.c (ro kA n1 f1)),(.c (ro kG n2 f2)),(.c (ro kC n3 f3)),(.c (ro kF n4 f4))],.arr (.pr .str .nil) 0 nilF]⟩
theorem t251v1 :
  loopN (eB A26v3 (C61 u) u) N251v1 u (s251v2 n0 n1 n2 n3 n4 f0 f1 f2 f3 f4 w0) k =
  L251v1 u n0 f0 (Int.ofNat n0) w0 n1 f1 n2 f2 n3 f3 n4 f4 u 0 0 nilF (fun x0 x1=>k (.exit 0) (s251v1 x0 n0 n1 n2 n3 n4 f0 f1 f2 f3 f4 x1 w0)) :=
 Eq.trans (loopN_at (by kernel_rfl)) (q251v1 ..)
theorem g251v2 :
  (kBlk 0 (kSeq (C61 u) u (rl 4 17 []) A26v4 (finish A26))) (.exit 0) (s251v1 n0 n1 n2 n3 n4 n5 f0 f1 f2 f3 f4 f5 w0) =
  (some [.v (ro (.pr .str .nil) n0 f5)]):=by kernel_rfl
theorem e251:evalF (C61 u) u A26 [.agg [(.s w0),(ro kE n0 f0),(ro kA n1 f1),(ro kG n2 f2),(ro kC n3 f3),(ro kF n4 f4)]]=ob (F251 u w0 n0 f0 n1 f1 n2 f2 n3 f3 n4 f4) fun t=>some [.v (ro (.pr .str .nil) t.1 t.2)]:=Eq.trans (b:=(loopN (eB A26v3 (C61 u) u) N251v1 u (s251v2 n0 n1 n2 n3 n4 f0 f1 f2 f3 f4 w0) (kBlk 0 (kSeq (C61 u) u (rl 4 17 []) A26v4 (finish A26))))) (by kernel_rfl) (by
 simp only [F251,ob_bif,ob_ob,ob_none,ob_some,nl251v1,t251v1,g251v2])
def O251:Ora:=mkO (q1 (ag (tc cS (tc (cL kE) (tc (cL kA) (tc (cL kG) (tc (cL kC) (t1 (cL kF))))))))) (fun x=>F251 u x.1 x.2.1.1 x.2.1.2 x.2.2.1.1 x.2.2.1.2 x.2.2.2.1.1 x.2.2.2.1.2 x.2.2.2.2.1.1 x.2.2.2.2.1.2 x.2.2.2.2.2.1 x.2.2.2.2.2.2) fun t=>[.v (ro (.pr .str .nil) t.1 t.2)]
theorem d251:DO (O251 u) (C61 u) 26 A26:=dO u (fun x=>by exact e251 u x.2.1.1 x.2.2.1.1 x.2.2.2.1.1 x.2.2.2.2.1.1 x.2.2.2.2.2.1 x.2.1.2 x.2.2.1.2 x.2.2.2.1.2 x.2.2.2.2.1.2 x.2.2.2.2.2.2 x.1)
def C62:Oracle:=(C61 u).add 26 (fun _=>true) (O251 u)
def F275 (u:Nat) (n:Nat) (g:FF):Option (Nat × FF):=bif Nat.ble n 1073741824 then some (n,g) else none
def O275:Ora:=mkO (q1 (av (cL strK))) (fun x=>F275 u x.1 x.2) fun t=>[.v (.mp t.1 t.2)]
def C63:Oracle:=(C62 u).add 51 (fun _=>true) (O275 u)
def A76:AF:=⟨6,[.tmp 2],
 (.seq (.region 0 [o1 2 (sb false)] 0 none) []
 (.seq (.region 1 [mv 3 0,mv 4 0,o1 5 (bt .neq 3 3 4),o1 2 (sg 5)] 0 none) []
 (.ret [0,1,3,4,5])))⟩
def F90 (u:Nat) (x0:Int):Option (Bool) :=
 (some (x0 != x0))
theorem e90:evalF (C63 u) u A76 [.v (vi i0)]=ob (F90 u i0) fun t=>some [.v (.b t)]:=by
 simp only [F90,ob_bif,ob_ob,ob_none,ob_some]
 kernel_rfl
def O90:Ora:=mkO (q1 (av ci)) (fun x=>F90 u x) fun t=>[.v (.b t)]
theorem d90:DO (O90 u) (C63 u) 76 A76:=dO u (fun x=>by exact e90 u x)
def C64:Oracle:=(C63 u).add 76 (fun _=>true) (O90 u)
def A55v1:AC:=(.seq (.region 6 [o1 4 (sk (-1))] 0 none) []
 (.ret (rl 0 4 (rl 5 15 []))))
def A55v2:AC:=(.seq (.region 13 [o1 4 (sk 0)] 0 none) []
 (.ret (rl 0 4 (rl 5 15 []))))
def A55v3:AC:=(.seq (.seq (.region 11 [mv 17 0,mv 18 1,o1 19 (bt .gtr 3 17 18)] 0 none) []
 (.cond (tm 19)
 (.seq (.region 12 [o1 4 (sk 1)] 0 none) []
  (.ret (rl 0 4 (rl 5 15 []))))
 .skip)) [4,17,18,19]
 A55v2)
def A55v4:AC:=(.seq (.seq (.region 9 [mv 14 0,mv 15 1,o1 16 (bt .lss 3 14 15)] 0 none) []
 (.cond (tm 16)
 (.seq (.region 10 [o1 4 (sk (-1))] 0 none) []
  (.ret (rl 0 4 (rl 5 15 []))))
 .skip)) [4,14,15,16]
 A55v3)
def A55v5:AC:=(.seq (.seq (.region 7 [mv 13 6] 0 none) []
 (.cond (tm 13)
 (.seq (.region 8 [o1 4 (sk 1)] 0 none) []
  (.ret (rl 0 4 (rl 5 15 []))))
 .skip)) [4,13]
 A55v4)
def A55:AF:=⟨20,[.tmp 4],
 (.seq (.region 0 [o1 4 (sk 0)] 0 none) []
 (.seq (.region 1 [mv 7 0,o1 8 (cs 76 [7] [3]),o1 5 (sg 8)] 0 none) []
 (.seq (.region 2 [mv 9 1,o1 10 (cs 76 [9] [3]),o1 6 (sg 10)] 0 none) []
 (.seq (.seq (.region 3 [mv 11 5] 0 none) []
 (.cond (tm 11)
 (.seq (.seq (.region 4 [mv 12 6] 0 none) []
  (.cond (tm 12)
  (.seq (.region 5 [o1 4 (sk 0)] 0 none) []
   (.ret (rl 0 4 (rl 5 15 []))))
  .skip)) [4,12]
  A55v1)
 .skip)) [4,11,12]
 A55v5))))⟩
def F89 (x0 x1:Int):Option (Int) :=
 (ob (F90 u x0) fun x2=>(ob (F90 u x1) fun x3=>(bif x2 then (bif x3 then (some 0) else (some (-1))) else (bif x3 then (some 1) else (bif (decide (x0<x1)) then (some (-1)) else (bif (decide (x0>x1)) then (some 1) else (some 0)))))))
theorem e89:evalF (C64 u) u A55 [.v (vi i0),.v (vi i1)]=ob (F89 u i0 i1) fun t=>some [.v (vi t)]:=by
 simp only [F89,ob_bif,ob_ob,ob_none,ob_some]
 kernel_rfl
def O89:Ora:=mkO (qc (av ci) (q1 (av ci))) (fun x=>F89 u x.1 x.2) fun t=>[.v (vi t)]
theorem d89:DO (O89 u) (C64 u) 55 A55:=dO u (fun x=>by exact e89 u x.1 x.2)
def C65:Oracle:=(C64 u).add 55 (fun _=>true) (O89 u)
def A54v1:AC:=(.region 7 [o1 16 (bk .add 3 8 1),mv 8 16] 0 none)
def A54v2:AC:=(.seq (.block 1
 (.seq (.region 4 [o1 10 (.indexAddr 56 3 1 (tm 6) (tm 8)),o1 11 (lo 3 10),o1 5 (sg 11)] 0 none) []
  (.seq (.region 5 [mv 12 5,mv 13 3,o1 14 (bt .neq 3 12 13)] 0 none) []
  (.cond (tm 14)
  (.seq (.region 6 [mv 15 5,o1 2 (sg 15)] 0 none) []
   (.ret (0 :: 1 :: (rl 3 15 []))))
  .skip)))) (2 :: 5 :: (rl 10 6 []))
 A54v1)
def A54v3:AC:=(.seq (.region 3 [o1 9 (bt .lss 3 8 7)] 0 none) []
 (.seq (.cond (tm 9)
 .skip
 (.exit 0 (0 :: 1 :: 2 :: (rl 4 14 [])))) []
 A54v2))
def A54v4:AC:=(.seq (.region 8 [mv 17 3,o1 2 (sg 17)] 0 none) []
 (.ret (0 :: 1 :: (rl 3 15 []))))
def A54:AF:=⟨18,[.tmp 2],
 (.seq (.region 0 [o1 2 (sk 0)] 0 none) []
 (.seq (.region 1 [o1 3 (sk 0)] 0 none) []
 (.seq (.seq (.region 2 [mv 6 0,o1 7 (.len 56 false (tm 6)),o1 8 (.move (ic 0))] 0 none) []
 (.block 0
 (.loop [] (0 :: 1 :: 2 :: 4 :: 5 :: (rl 9 9 []))
  A54v3))) (2 :: (rl 5 12 []))
 A54v4)))⟩
def N201v1:St→Option St:=nN 0 (0 :: 1 :: 2 :: 4 :: 5 :: (rl 9 9 []))
def s201v0:St:=⟨(us 3 (vxi 0 :: .u :: .u :: .x (.c (ro (.pr (.int .i64) .nil) n0 f0)) :: vxi i0 :: vxi i1 :: (us 9 []))),[]⟩
def s201v1:St:=⟨(.u :: .u :: vxi i0 :: (us 15 [])),[]⟩
def s201v2:St:=⟨(us 3 (vxi 0 :: (us 14 []))),[]⟩
def L201v1 {ρ:Type} (u:Nat) (x0:Nat) (x1:FF) (x2:Int):Nat→Int→(Int→Option ρ)→(Option ρ)→Option ρ
 | 0,_,_,_=>none
 | m+1,x3,k0,k1 =>
  (bif (decide (x3<x2)) then (bif (inb x3 x0) then (bif ((x1 x3.toNat 0).int != 0) then (k0 (x1 x3.toNat 0).int) else (L201v1 u x0 x1 x2 m (w64 (x3+1)) k0 k1)) else none) else k1)
theorem nl201v1:∀ (m:Nat) (x0:Int) (k0:Int→Option ρ) (k1:Option ρ),ob (L201v1 u n0 f0 i0 m x0 k0 k1) ng=L201v1 u n0 f0 i0 m x0 (fun x1=>ob (k0 x1) ng) (ob k1 ng)
 | 0,_,_,_=>rfl
 | m+1,x0,k0,k1=>by
  simp only [L201v1,ob_bif,ob_ob,ob_none,nl201v1 m]
theorem q201v1:∀ (m:Nat) (x0:Int),
  loopH (eB A54v3 (C65 u) u) N201v1 m (s201v0 n0 f0 i0 x0) k=L201v1 u n0 f0 i0 m x0 (fun x1=>k .ret (s201v1 x1)) (k (.exit 0) s201v2)
 | 0,_=>rfl
 | m+1,x0=>by
  simp only [L201v1,← q201v1 m]
  kernel_rfl
def F201 (x0:Nat) (x1:FF):Option (Int) :=
 (L201v1 u x0 x1 (Int.ofNat x0) u 0
  (fun x2=>(some x2))
  (some 0))
def s201v3:St:=⟨[.x (.c (ro (.pr (.int .i64) .nil) n0 f0)),uu,vxi 0,vxi 0,uu,uu,.x (.c (ro (.pr (.int .i64) .nil) n0 f0)),vxi (Int.ofNat n0),vxi 0,uu,uu,uu,uu,uu,uu,uu,uu,uu],[]⟩
theorem t201v1 :
  loopN (eB A54v3 (C65 u) u) N201v1 u (s201v3 n0 f0) k =
  L201v1 u n0 f0 (Int.ofNat n0) u 0 (fun x0=>k .ret (s201v1 x0)) (k (.exit 0) s201v2) :=
 Eq.trans (loopN_at (by kernel_rfl)) (q201v1 ..)
theorem g201v2 :
  (kBlk 0 (kSeq (C65 u) u (2 :: (rl 5 12 [])) A54v4 (finish A54))) .ret (s201v1 i0) =
  (some [.v (vi i0)]):=by kernel_rfl
theorem g201v3 :
  (kBlk 0 (kSeq (C65 u) u (2 :: (rl 5 12 [])) A54v4 (finish A54))) (.exit 0) s201v2 =
  (some [.v (vi 0)]):=by kernel_rfl
theorem e201:evalF (C65 u) u A54 [.v (ro (.pr (.int .i64) .nil) n0 f0)]=ob (F201 u n0 f0) fun t=>some [.v (vi t)]:=Eq.trans (b:=(loopN (eB A54v3 (C65 u) u) N201v1 u (s201v3 n0 f0) (kBlk 0 (kSeq (C65 u) u (2 :: (rl 5 12 [])) A54v4 (finish A54))))) (by kernel_rfl) (by
 simp only [F201,ob_bif,ob_ob,ob_none,ob_some,nl201v1,t201v1,g201v2,g201v3])
def O201:Ora:=mkO (q1 (av (cL (.pr (.int .i64) .nil)))) (fun x=>F201 u x.1 x.2) fun t=>[.v (vi t)]
theorem d201:DO (O201 u) (C65 u) 54 A54:=dO u (fun x=>by exact e201 u x.1 x.2)
def C66:Oracle:=(C65 u).add 54 (fun _=>true) (O201 u)
def A53:AF:=⟨17,[.tmp 4],
 (.seq (.region 0 [o1 2 (bx 0 54 0),o1 3 (bx 1 54 1),o1 4 (sk 0)] 2 none) []
 (.seq (.region 1 [o1 5 (.indexAddrA 54 3 2 1 (tm 2) (ic 0)),o1 6 (lo 3 5),o1 7 (.indexAddrA 54 3 2 1 (tm 3) (ic 0)),o1 8 (lo 3 7),o1 9 (cs 55 [6,8] [3,3]),o1 10 (.indexAddrA 54 3 2 1 (tm 2) (ic 1)),o1 11 (lo 3 10),o1 12 (.indexAddrA 54 3 2 1 (tm 3) (ic 1)),o1 13 (lo 3 12),o1 14 (cs 55 [11,13] [3,3]),o1 15 (.buildSlice 0 56 3 (.pr (.int .i64) .nil) 2 [vci 0] [(0,(tm 9)),(1,(tm 14))]),o1 16 (cs 54 [15] [56]),o1 4 (sg 16)] 1 (some [[],[0],[],[2],(rl 0 4 []),[],[5],[],[7],(rl 0 9 []),(rl 0 10 []),(rl 0 11 []),(rl 0 12 [])])) []
 (.ret (rl 0 4 (rl 5 12 [])))))⟩
def F273 (x0 x1 x2 x3:Int):Option (Int) :=
 (ob (F89 u x0 x2) fun x4=>(ob (F89 u x1 x3) fun x5=>(ob (F201 u 2 (rowsF 1 [(.i .i64 x4),(.i .i64 x5)])) fun x6=>(some x6))))
theorem e273:evalF (C66 u) u A53 [.agg [(vi i0),(vi i1)],.agg [(vi i2),(vi i3)]]=ob (F273 u i0 i1 i2 i3) fun t=>some [.v (vi t)]:=by
 simp only [F273,ob_bif,ob_ob,ob_none,ob_some]
 kernel_rfl
def O273:Ora:=mkO (qc (ag (tc ci (t1 ci))) (q1 (ag (tc ci (t1 ci))))) (fun x=>F273 u x.1.1 x.1.2 x.2.1 x.2.2) fun t=>[.v (vi t)]
theorem d273:DO (O273 u) (C66 u) 53 A53:=dO u (fun x=>by exact e273 u x.1.1 x.1.2 x.2.1 x.2.2)
def C67:Oracle:=(C66 u).add 53 (fun _=>true) (O273 u)
def F239b (u:Nat) (n:Nat) (g:FF):Option FF:=sortT n g
def C68:Oracle:=(C67 u).addT 52 (fun r n g rest=>bif r.beq kP&&isClo 53 rest then F239b u n g else none)
end Go.Eng.R13
