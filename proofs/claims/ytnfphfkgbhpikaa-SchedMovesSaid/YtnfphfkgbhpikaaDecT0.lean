/-
 The functions of the program,run on symbols;printed by decomp.py.
-/
import Derived.Test.YtnfphfkgbhpikaaEngS
import Derived.Test.YtnfphfkgbhpikaaEngX0
import Derived.Test.YtnfphfkgbhpikaaEngY
import Derived.Test.YtnfphfkgbhpikaaEngZ1
import Derived.Test.YtnfphfkgbhpikaaEngZ15
import Derived.Test.YtnfphfkgbhpikaaEngZ8
import Derived.Test.YtnfphfkgbhpikaaEngZ8
set_option linter.all false
set_option maxRecDepth 1000000
set_option maxHeartbeats 4000000
namespace Go.Eng.R13
open Go Go.RowKit Go.Eng
abbrev kA:Kd:=(.pr .str (.pr (.sl (.pr .str (.pr (.int .i64) (.pr .str .nil)))) (.pr (.sl (.pr .str (.pr (.int .i64) (.pr (.int .i64) (.pr .str (.pr .str (.pr (.int .i64) (.pr (.sl kP) (.pr (.sl (.pr (.sl kP) .nil)) (.pr .str (.pr (.int .i64) (.pr (.int .i64) (.pr (.int .i64) (.pr (.int .i64) (.pr (.int .i64) (.pr (.int .i64) kV)))))))))))))))) (.pr (.sl (.pr .str (.pr .str (.pr .str kV)))) (.pr (.sl (.pr .str (.pr .str (.pr (.sl (.pr .str .nil)) (.pr (.int .i64) (.pr (.sl (.pr .str .nil)) .nil)))))) (.pr (.sl (.pr (.int .i64) (.pr .str (.pr .str .nil)))) .nil))))))
abbrev kB:Kd:=(.pr .str (.pr (.int .i64) (.pr (.int .i64) (.pr .str (.pr .str (.pr (.int .i64) (.pr (.sl kP) (.pr (.sl (.pr (.sl kP) .nil)) (.pr .str (.pr (.int .i64) (.pr (.int .i64) (.pr (.int .i64) (.pr (.int .i64) (.pr (.int .i64) (.pr (.int .i64) kV)))))))))))))))
abbrev kC:Kd:=(.pr (.sl (.pr .str (.pr (.int .i64) (.pr (.sl (.pr .str .nil)) .nil)))) (.pr (.int .i64) (.pr (.sl (.pr (.sl (.pr .bool .nil)) .nil)) (.pr (.sl (.pr (.int .i64) .nil)) .nil))))
abbrev kD:Kd:=(.pr .str (.pr .str (.pr (.sl (.pr .str .nil)) (.pr (.int .i64) (.pr (.sl (.pr .str .nil)) .nil)))))
abbrev kE:Kd:=(.pr .str (.pr (.int .i64) (.pr (.sl (.pr .str .nil)) .nil)))
abbrev kF:Kd:=(.pr .str (.pr (.int .i64) (.pr .str .nil)))
abbrev kG:Kd:=(.pr (.int .i64) (.pr .str (.pr .str .nil)))
abbrev kH:Kd:=(.pr (.sl (.pr .str (.pr .str kP))) .nil)
abbrev kI:Kd:=(.pr .str (.pr .str (.pr .str kV)))
abbrev kJ:Kd:=(.pr (.sl (.pr .bool .nil)) .nil)
abbrev kK:Kd:=(.pr (.sl (.pr .str .nil)) .nil)
abbrev kL:Kd:=(.pr .str (.pr .str kP))
abbrev kM:Kd:=(.pr (.int .i64) .nil)
abbrev kN:Kd:=(.pr .bool .nil)
abbrev kO:Kd:=(.pr .str .nil)
abbrev kPq:Kd:=(.pr .oth .nil)
abbrev uu:V:=.undef
abbrev ro:Kd→Nat→FF→CV:=CV.ro false
variable {ρ σ : Type} (u m : Nat) (k : Ex → St → Option ρ) (ng : ρ → Option σ) (n0 n1 n2 n3 n4 n5 n6 n7 n8 n9 nA : Nat) (f0 f1 f2 f3 f4 f5 f6 f7 f8 f9 fA : FF) (i0 i1 i2 i3 i4 i5 i6 i7 : Int) (b0 b1 b2 : Bool) (w0 w1 w2 : ByteArray) (g0 g1 g2 : Nat → CV) (u0 u1 : Nat → Nat)
def C0 (u:Nat):Oracle:=⟨fun _ _ {_} _=>none,fun _ _ {_} _=>rfl,fun f r n g rest=>bif (false)&&rest.isEmpty then some (revF n g) else none,fun f r args=>match args with | [.v (.ro _ r1 n g)]=>bif ((Nat.beq f 51&&r.beq kL))&&r.beq r1 then some (n,g) else none | _=>none,fun f r n g rest=>bif (false)&&rest.isEmpty then some (cutN n g,cutF n g) else none,fun _ _ _ _ {_} _=>none,fun _ _ _ _ {_} _=>rfl⟩
def CE (u:Nat):Oracle:=⟨fun _ _ {_} _=>none,fun _ _ {_} _=>rfl,fun _ _ _ _ _=>none,fun _ _ _=>none,fun _ _ _ _ _=>none,fun _ _ _ _ {_} _=>none,fun _ _ _ _ {_} _=>rfl⟩
theorem soundE {P:Program}:Sound P (CE u):=⟨fun _ _ _ h=>(by cases h),fun _ _ _ _ _ _ h=>(by cases h),fun _ _ _ _ _ h=>(by cases h),fun _ _ _ _ _ _ _ h=>(by cases h),fun _ _ _ _ _ _ h=>(by cases h)⟩
def A10v1:AC:=(.region 3 [mv 14 5,o1 15 (bk .add 3 14 1),o1 5 (sg 15)] 0 none)
def A10v2:AC:=(.seq (.block 1
 (.seq (.region 4 [mv 16 1,mv 17 5,o1 18 (.indexAddr 29 53 3 (tm 16) (tm 17)),o1 19 (fa 53 18 2 2),o1 20 (lo 51 19),o1 21 (.len 51 false (tm 20)),o1 22 (bk .gtr 3 21 10)] 0 none) []
  (.cond (tm 22)
  (.seq (.region 5 [o1 4 (sb false)] 0 none) []
   (.ret (rl 0 4 (rl 5 33 []))))
  .skip))) (4 :: (rl 16 7 []))
 A10v1)
def A10v3:AC:=(.seq (.seq (.region 2 [mv 6 5,mv 7 1,o1 8 (.len 29 false (tm 7)),o1 9 (bt .lss 3 6 8),mv 10 9,og 11 (.move (tm 5)) 10 true,og 12 (bk .lss 3 11 71) 10 true,o1 13 (po 10 12)] 0 none) []
 (.cond (tm 13)
 .skip
 (.exit 0 (0 :: (rl 3 35 []))))) (rl 6 8 [])
 A10v2)
def A10v4:AC:=(.seq (.region 6 [o1 23 (fa 28 2 1 1),o1 24 (lo 22 23),o1 25 (.len 22 false (tm 24)),o1 26 (bk .leq 3 25 30),mv 27 26,og 28 (fa 28 2 5 5) 27 true,og 29 (lo 26 28) 27 true,og 30 (.len 26 false (tm 29)) 27 true,og 31 (bk .leq 3 30 60) 27 true,o1 32 (po 27 31),mv 33 32,og 34 (.move (tm 1)) 33 true,og 35 (.len 29 false (tm 34)) 33 true,og 36 (bk .leq 3 35 70) 33 true,o1 37 (po 33 36),o1 4 (sg 37)] 0 none) []
 (.ret (rl 0 4 (rl 5 33 []))))
def A10:AF:=⟨38,[.tmp 4],
 (.seq (.region 0 [o1 2 (bx 0 28 0),o1 4 (sb false)] 1 none) []
 (.seq (.seq (.region 1 [o1 5 (sk 0)] 0 none) []
 (.block 0
 (.loop [] (0 :: 3 :: 4 :: (rl 6 32 []))
  A10v3))) (rl 4 19 [])
 A10v4))⟩
def N330v1:St→Option St:=nN 1 (0 :: 3 :: 4 :: (rl 6 32 []))
def s330v0:St:=⟨(.u :: .x (.c (ro kE n0 f0)) :: .x (.ptr 0 0) :: .u :: .u :: vxi i0 :: (us 32 [])),[.box [(vcs w0),(.c (ro kF n1 f1)),(.c (ro kB n2 f2)),(.c (ro kI n3 f3)),(.c (ro kD n4 f4)),(.c (ro kG n5 f5))]]⟩
def s330v1:St:=⟨(us 4 (vxb false :: (us 33 []))),[.box [(vcs w0),(.c (ro kF n0 f0)),(.c (ro kB n1 f1)),(.c (ro kI n2 f2)),(.c (ro kD n3 f3)),(.c (ro kG n4 f4))]]⟩
def s330v2:St:=⟨(.u :: .x (.c (ro kE n0 f0)) :: .x (.ptr 0 0) :: (us 35 [])),[.box [(vcs w0),(.c (ro kF n1 f1)),(.c (ro kB n2 f2)),(.c (ro kI n3 f3)),(.c (ro kD n4 f4)),(.c (ro kG n5 f5))]]⟩
def L330v1 {ρ:Type} (u:Nat) (x0:Nat) (x1:FF) (x2:ByteArray) (x3:Nat) (x4:FF) (x5:Nat) (x6:FF) (x7:Nat) (x8:FF) (x9:Nat) (xA:FF) (xB:Nat) (xC:FF):Nat→Int→(Option ρ)→(Option ρ)→Option ρ
 | 0,_,_,_=>none
 | m+1,xD,k0,k1 =>
  (bif ((decide (xD<(Int.ofNat x0)))==true) then (bif (decide (xD<71)) then (bif (inb xD x0) then (bif (decide ((Int.ofNat (x1 xD.toNat 2).len)>10)) then k0 else (L330v1 u x0 x1 x2 x3 x4 x5 x6 x7 x8 x9 xA xB xC m (w64 (xD+1)) k0 k1)) else none) else k1) else k1)
theorem nl330v1:∀ (m:Nat) (x0:Int) (k0:Option ρ) (k1:Option ρ),ob (L330v1 u n0 f0 w0 n1 f1 n2 f2 n3 f3 n4 f4 n5 f5 m x0 k0 k1) ng=L330v1 u n0 f0 w0 n1 f1 n2 f2 n3 f3 n4 f4 n5 f5 m x0 (ob k0 ng) (ob k1 ng)
 | 0,_,_,_=>rfl
 | m+1,x0,k0,k1=>by
  simp only [L330v1,ob_bif,ob_ob,ob_none,nl330v1 m]
theorem q330v1:∀ (m:Nat) (x0:Int),
  loopH (eB A10v3 (C0 u) u) N330v1 m (s330v0 n0 n1 n2 n3 n4 n5 f0 f1 f2 f3 f4 f5 x0 w0) k=L330v1 u n0 f0 w0 n1 f1 n2 f2 n3 f3 n4 f4 n5 f5 m x0 (k .ret (s330v1 n1 n2 n3 n4 n5 f1 f2 f3 f4 f5 w0)) (k (.exit 0) (s330v2 n0 n1 n2 n3 n4 n5 f0 f1 f2 f3 f4 f5 w0))
 | 0,_=>rfl
 | m+1,x0=>by
  simp only [L330v1,← q330v1 m]
  kernel_rfl
def F330 (x0:ByteArray) (x1:Nat) (x2:FF) (x3:Nat) (x4:FF) (x5:Nat) (x6:FF) (x7:Nat) (x8:FF) (x9:Nat) (xA:FF) (xB:Nat) (xC:FF):Option (Bool) :=
 (L330v1 u xB xC x0 x1 x2 x3 x4 x5 x6 x7 x8 x9 xA u 0
  (some false)
  (bif ((decide ((Int.ofNat x1)≤30))==true) then (bif ((decide ((Int.ofNat x9)≤60))==true) then (some (decide ((Int.ofNat xB)≤70))) else (some false)) else (some false)))
def s330v3:St:=⟨[.agg [(vcs w0),(.c (ro kF n0 f0)),(.c (ro kB n1 f1)),(.c (ro kI n2 f2)),(.c (ro kD n3 f3)),(.c (ro kG n4 f4))],.x (.c (ro kE n5 f5)),.x (.ptr 0 0),uu,vxb false,vxi 0,uu,uu,uu,uu,uu,uu,uu,uu,uu,uu,uu,uu,uu,uu,uu,uu,uu,uu,uu,uu,uu,uu,uu,uu,uu,uu,uu,uu,uu,uu,uu,uu],[.box [(vcs w0),(.c (ro kF n0 f0)),(.c (ro kB n1 f1)),(.c (ro kI n2 f2)),(.c (ro kD n3 f3)),(.c (ro kG n4 f4))]]⟩
theorem t330v1 :
  loopN (eB A10v3 (C0 u) u) N330v1 u (s330v3 n0 n1 n2 n3 n4 n5 f0 f1 f2 f3 f4 f5 w0) k =
  L330v1 u n5 f5 w0 n0 f0 n1 f1 n2 f2 n3 f3 n4 f4 u 0 (k .ret (s330v1 n0 n1 n2 n3 n4 f0 f1 f2 f3 f4 w0)) (k (.exit 0) (s330v2 n5 n0 n1 n2 n3 n4 f5 f0 f1 f2 f3 f4 w0)) :=
 Eq.trans (loopN_at (by kernel_rfl)) (q330v1 ..)
theorem g330v2 :
  (kBlk 0 (kSeq (C0 u) u (rl 4 19 []) A10v4 (finish A10))) .ret (s330v1 n0 n1 n2 n3 n4 f0 f1 f2 f3 f4 w0) =
  (some [.v (.b false)]):=by kernel_rfl
theorem g330v3 :
  (kBlk 0 (kSeq (C0 u) u (rl 4 19 []) A10v4 (finish A10))) (.exit 0) (s330v2 n0 n1 n2 n3 n4 n5 f0 f1 f2 f3 f4 f5 w0) =
  (bif ((decide ((Int.ofNat n1)≤30))==true) then (bif ((decide ((Int.ofNat n5)≤60))==true) then (some [.v (.b (decide ((Int.ofNat n0)≤70)))]) else (some [.v (.b false)])) else (some [.v (.b false)])):=by kernel_rfl
theorem e330:evalF (C0 u) u A10 [.agg [(.s w0),(ro kF n0 f0),(ro kB n1 f1),(ro kI n2 f2),(ro kD n3 f3),(ro kG n4 f4)],.v (ro kE n5 f5)]=ob (F330 u w0 n0 f0 n1 f1 n2 f2 n3 f3 n4 f4 n5 f5) fun t=>some [.v (.b t)]:=Eq.trans (b:=(loopN (eB A10v3 (C0 u) u) N330v1 u (s330v3 n0 n1 n2 n3 n4 n5 f0 f1 f2 f3 f4 f5 w0) (kBlk 0 (kSeq (C0 u) u (rl 4 19 []) A10v4 (finish A10))))) (by kernel_rfl) (by
 simp only [F330,ob_bif,ob_ob,ob_none,ob_some,nl330v1,t330v1,g330v2,g330v3])
def O330:Ora:=mkO (qc (ag (tc cS (tc (cL kF) (tc (cL kB) (tc (cL kI) (tc (cL kD) (t1 (cL kG)))))))) (q1 (av (cL kE)))) (fun x=>F330 u x.1.1 x.1.2.1.1 x.1.2.1.2 x.1.2.2.1.1 x.1.2.2.1.2 x.1.2.2.2.1.1 x.1.2.2.2.1.2 x.1.2.2.2.2.1.1 x.1.2.2.2.2.1.2 x.1.2.2.2.2.2.1 x.1.2.2.2.2.2.2 x.2.1 x.2.2) fun t=>[.v (.b t)]
theorem d330:DO (O330 u) (C0 u) 10 A10:=dO u (fun x=>by exact e330 u x.1.2.1.1 x.1.2.2.1.1 x.1.2.2.2.1.1 x.1.2.2.2.2.1.1 x.1.2.2.2.2.2.1 x.2.1 x.1.2.1.2 x.1.2.2.1.2 x.1.2.2.2.1.2 x.1.2.2.2.2.1.2 x.1.2.2.2.2.2.2 x.2.2 x.1.1)
def C1:Oracle:=(C0 u).add 10 (fun _=>true) (O330 u)
def A27:AF:=⟨20,[.cell 0 28 (some 6),.tmp 1],
 (.seq (.region 0 [o1 0 (.alloc 0 28 [vcs ByteArray.empty,vcn,vcn,vcn,vcn,vcn]),o1 1 (.assign (.const (.slice none 0 0)))] 1 none) []
 (.seq (.region 1 [o1 4 (.build 99 [vcs ByteArray.empty,vci 0,vcs ByteArray.empty] [(0,1),(1,1),(2,1)] 0 [(0,(.const (.string (ByteArray.mk #[65])))),(1,(ic 1))]),o1 5 (.build 99 [vcs ByteArray.empty,vci 0,vcs ByteArray.empty] [(0,1),(1,1),(2,1)] 0 [(0,(.const (.string (ByteArray.mk #[66])))),(1,(ic 1))]),o1 6 (.build 99 [vcs ByteArray.empty,vci 0,vcs ByteArray.empty] [(0,1),(1,1),(2,1)] 0 [(0,(.const (.string (ByteArray.mk #[67])))),(1,(ic 1))]),o1 7 (.buildC 22 99 kF 3 [vcs ByteArray.empty,vci 0,vcs ByteArray.empty] [(0,(tm 4)),(1,(tm 5)),(2,(tm 6))]),o1 8 (.build 58 [vci 0,vcs ByteArray.empty,vcs ByteArray.empty] [(0,1),(1,1),(2,1)] 0 [(0,(ic 1)),(1,(.const (.string (ByteArray.mk #[67])))),(2,(.const (.string (ByteArray.mk #[65]))))]),o1 9 (.buildC 26 58 kG 1 [vci 0,vcs ByteArray.empty,vcs ByteArray.empty] [(0,(tm 8))]),o1 10 (.build 28 [vcs ByteArray.empty,.c (.ro true kF 0 nilF),.c (.ro true kB 0 nilF),.c (.ro true kI 0 nilF),.c (.ro true kD 0 nilF),.c (.ro true kG 0 nilF)] [(0,1),(1,1),(2,1),(3,1),(4,1),(5,1)] 0 [(1,(tm 7)),(5,(tm 9))]),o1 2 (.alloc 0 28 [vcs ByteArray.empty,vcn,vcn,vcn,vcn,vcn]),o0 (.store 28 6 (tm 2) (tm 10))] 1 none) []
 (.seq (.region 2 [o1 11 (.buildC 51 9 kO 2 [vcs ByteArray.empty] [(0,(.const (.string (ByteArray.mk #[75])))),(1,(.const (.string (ByteArray.mk #[76]))))]),o1 3 (sg 11)] 0 none) []
 (.seq (.region 3 [o1 12 (ln 28 6 2),mv 13 3,o1 14 (.build 53 [vcs ByteArray.empty,vci 0,.c (.ro true kO 0 nilF)] [(0,1),(1,1),(2,1)] 0 [(0,(.const (.string (ByteArray.mk #[65])))),(1,(ic 2)),(2,(tm 13))]),mv 15 3,o1 16 (.build 53 [vcs ByteArray.empty,vci 0,.c (.ro true kO 0 nilF)] [(0,1),(1,1),(2,1)] 0 [(0,(.const (.string (ByteArray.mk #[66])))),(1,(ic 3)),(2,(tm 15))]),mv 17 3,o1 18 (.build 53 [vcs ByteArray.empty,vci 0,.c (.ro true kO 0 nilF)] [(0,1),(1,1),(2,1)] 0 [(0,(.const (.string (ByteArray.mk #[67])))),(1,(ic 1)),(2,(tm 17))]),o1 19 (.buildC 29 53 kE 3 [vcs ByteArray.empty,vci 0,vcn] [(0,(tm 14)),(1,(tm 16)),(2,(tm 18))]),o0 (.store 28 6 (tm 0) (tm 12)),o1 1 (sg 19)] 0 none) []
 (.ghost [1] (.ret (rl 2 18 [])))))))⟩
def F331 (u:Nat):Option (ByteArray × Nat × FF × Nat × FF × Nat × FF × Nat × FF × Nat × FF × Nat × FF) :=
 (some (ByteArray.empty,3,(rowsF 3 [(.s (ByteArray.mk #[65])),(.i .i64 1),(.s ByteArray.empty),(.s (ByteArray.mk #[66])),(.i .i64 1),(.s ByteArray.empty),(.s (ByteArray.mk #[67])),(.i .i64 1),(.s ByteArray.empty)]),0,(fun _ _=>.any),0,(fun _ _=>.any),0,(fun _ _=>.any),1,(rowsF 3 [(.i .i64 1),(.s (ByteArray.mk #[67])),(.s (ByteArray.mk #[65]))]),3,(rowsF 3 [(.s (ByteArray.mk #[65])),(.i .i64 2),(.ro true (.pr .str .nil) 2 (rowsF 1 [(.s (ByteArray.mk #[75])),(.s (ByteArray.mk #[76]))])),(.s (ByteArray.mk #[66])),(.i .i64 3),(.ro true (.pr .str .nil) 2 (rowsF 1 [(.s (ByteArray.mk #[75])),(.s (ByteArray.mk #[76]))])),(.s (ByteArray.mk #[67])),(.i .i64 1),(.ro true (.pr .str .nil) 2 (rowsF 1 [(.s (ByteArray.mk #[75])),(.s (ByteArray.mk #[76]))]))])))
theorem e331:evalF (C1 u) u A27 []=ob (F331 u) fun t=>some [.agg [(.s t.1),(.ro true kF t.2.1 t.2.2.1),(.ro true kB t.2.2.2.1 t.2.2.2.2.1),(.ro true kI t.2.2.2.2.2.1 t.2.2.2.2.2.2.1),(.ro true kD t.2.2.2.2.2.2.2.1 (p8 t).1),(.ro true kG (p8 t).2.1 (p8 t).2.2.1)],.v (.ro true kE (p8 t).2.2.2.1 (p8 t).2.2.2.2)]:=by
 simp only [F331,ob_bif,ob_ob,ob_none,ob_some]
 kernel_rfl
def O331:Ora:=mkO q0 (fun x=>F331 u) fun t=>[.agg [(.s t.1),(.ro true kF t.2.1 t.2.2.1),(.ro true kB t.2.2.2.1 t.2.2.2.2.1),(.ro true kI t.2.2.2.2.2.1 t.2.2.2.2.2.2.1),(.ro true kD t.2.2.2.2.2.2.2.1 (p8 t).1),(.ro true kG (p8 t).2.1 (p8 t).2.2.1)],.v (.ro true kE (p8 t).2.2.2.1 (p8 t).2.2.2.2)]
theorem d331:DO (O331 u) (C1 u) 27 A27:=dO u (fun x=>by exact e331 u)
def C2:Oracle:=(C1 u).add 27 (fun _=>true) (O331 u)
def A29v1:AC:=(.region 6 [o1 20 (bk .add 3 8 1),mv 8 20] 0 none)
def A29v2:AC:=(.seq (.block 1
 (.seq (.region 3 [o1 10 (.indexAddr 22 99 3 (tm 6) (tm 8)),o1 11 (ln 99 3 10),o1 4 (.alloc 0 99 [vcs ByteArray.empty,vci 0,vcs ByteArray.empty]),o0 (.store 99 3 (tm 4) (tm 11))] 1 none) []
  (.seq (.region 4 [o1 12 (fa 99 4 1 1),o1 13 (lo 3 12),o1 14 (bk .eql 3 13 1)] 0 none) []
  (.cond (tm 14)
  (.region 5 [mv 15 2,o1 16 (fa 99 4 0 0),o1 17 (lo 9 16),o1 18 (.buildSlice 0 51 9 kO 1 [vcs ByteArray.empty] [(0,(tm 17))]),o1 19 (.append 1 51 9 kO 16 (tm 15) (tm 18)),o1 2 (sg 19)] 2 none)
  .skip)))) (4 :: (rl 10 10 []))
 A29v1)
def A29v3:AC:=(.seq (.region 2 [o1 9 (bt .lss 3 8 7)] 0 none) []
 (.seq (.cond (tm 9)
 .skip
 (.exit 0 (0 :: 1 :: (rl 3 19 [])))) []
 A29v2))
def A29v4:AC:=(.seq (.region 7 [mv 21 2,o1 2 (sg 21)] 0 none) []
 (.ret (0 :: 1 :: (rl 3 19 []))))
def A29:AF:=⟨22,[.tmp 2],
 (.seq (.region 0 [o1 1 (bx 0 28 0),o1 2 (.assign (.const (.slice none 0 0)))] 1 none) []
 (.seq (.seq (.region 1 [o1 5 (fa 28 1 1 1),o1 6 (lo 22 5),o1 7 (.len 22 false (tm 6)),o1 8 (.move (ic 0))] 0 none) []
 (.block 0
 (.loop [.slot 2 kO] (0 :: 1 :: 3 :: 4 :: 5 :: (rl 9 13 []))
  A29v3))) (rl 4 17 [])
 A29v4))⟩
def N251v1:St→Option St:=nN 2 (0 :: 1 :: 3 :: 4 :: 5 :: (rl 9 13 []))
def s251v0:St:=⟨(.u :: .u :: .x (.own 1 0 n0) :: (us 3 (.x (.c (ro kF n1 f0)) :: vxi i0 :: vxi i1 :: (us 13 [])))),[.box [(vcs w0),(.c (ro kF n1 f0)),(.c (ro kB n2 f1)),(.c (ro kI n3 f2)),(.c (ro kD n4 f3)),(.c (ro kG n5 f4))],.arr kO n0 f5]⟩
def s251v1:St:=⟨(.u :: .u :: .x (.own 1 0 n0) :: (us 19 [])),[.box [(vcs w0),(.c (ro kF n1 f0)),(.c (ro kB n2 f1)),(.c (ro kI n3 f2)),(.c (ro kD n4 f3)),(.c (ro kG n5 f4))],.arr kO n0 f5]⟩
def L251v1 {ρ:Type} (u:Nat) (x0:Nat) (x1:FF) (x2:Int) (x3:ByteArray) (x4:Nat) (x5:FF) (x6:Nat) (x7:FF) (x8:Nat) (x9:FF) (xA:Nat) (xB:FF):Nat→Nat→Int→FF→(Nat→FF→Option ρ)→Option ρ
 | 0,_,_,_,_=>none
 | m+1,xC,xD,xE,k0 =>
  (bif (decide (xD<x2)) then (bif (inb xD x0) then (bif ((x1 xD.toNat 1).int==1) then (bif (Nat.ble (xC+1) 1073741824) then (L251v1 u x0 x1 x2 x3 x4 x5 x6 x7 x8 x9 xA xB m (xC+1) (w64 (xD+1)) (joinF xC xE (rowsF 1 [(.s (x1 xD.toNat 0).str)])) k0) else none) else (L251v1 u x0 x1 x2 x3 x4 x5 x6 x7 x8 x9 xA xB m xC (w64 (xD+1)) xE k0)) else none) else (k0 xC xE))
theorem nl251v1:∀ (m:Nat) (x0:Nat) (x1:Int) (x2:FF) (k0:Nat→FF→Option ρ),ob (L251v1 u n0 f0 i0 w0 n1 f1 n2 f2 n3 f3 n4 f4 m x0 x1 x2 k0) ng=L251v1 u n0 f0 i0 w0 n1 f1 n2 f2 n3 f3 n4 f4 m x0 x1 x2 (fun x3 x4=>ob (k0 x3 x4) ng)
 | 0,_,_,_,_=>rfl
 | m+1,x0,x1,x2,k0=>by
  simp only [L251v1,ob_bif,ob_ob,ob_none,nl251v1 m]
theorem q251v1:∀ (m:Nat) (x0:Nat) (x1:Int) (x2:FF),
  loopH (eB A29v3 (C2 u) u) N251v1 m (s251v0 x0 n0 n1 n2 n3 n4 f0 f1 f2 f3 f4 x2 i0 x1 w0) k=L251v1 u n0 f0 i0 w0 n1 f1 n2 f2 n3 f3 n4 f4 m x0 x1 x2 (fun x3 x4=>k (.exit 0) (s251v1 x3 n0 n1 n2 n3 n4 f0 f1 f2 f3 f4 x4 w0))
 | 0,_,_,_=>rfl
 | m+1,x0,x1,x2=>by
  simp only [L251v1,← q251v1 m]
  kernel_rfl
def F251 (x0:ByteArray) (x1:Nat) (x2:FF) (x3:Nat) (x4:FF) (x5:Nat) (x6:FF) (x7:Nat) (x8:FF) (x9:Nat) (xA:FF):Option (Nat × FF) :=
 (L251v1 u x1 x2 (Int.ofNat x1) x0 x3 x4 x5 x6 x7 x8 x9 xA u 0 0 (fun _ _=>.any)
  (fun xB xC=>(some (xB,xC))))
def s251v2:St:=⟨[.agg [(vcs w0),(.c (ro kF n0 f0)),(.c (ro kB n1 f1)),(.c (ro kI n2 f2)),(.c (ro kD n3 f3)),(.c (ro kG n4 f4))],.x (.ptr 0 0),.x (.own 1 0 0),uu,uu,.x (.ptr 0 1),.x (.c (ro kF n0 f0)),vxi (Int.ofNat n0),vxi 0,uu,uu,uu,uu,uu,uu,uu,uu,uu,uu,uu,uu,uu],[.box [(vcs w0),(.c (ro kF n0 f0)),(.c (ro kB n1 f1)),(.c (ro kI n2 f2)),(.c (ro kD n3 f3)),(.c (ro kG n4 f4))],.arr kO 0 nilF]⟩
theorem t251v1 :
  loopN (eB A29v3 (C2 u) u) N251v1 u (s251v2 n0 n1 n2 n3 n4 f0 f1 f2 f3 f4 w0) k =
  L251v1 u n0 f0 (Int.ofNat n0) w0 n1 f1 n2 f2 n3 f3 n4 f4 u 0 0 nilF (fun x0 x1=>k (.exit 0) (s251v1 x0 n0 n1 n2 n3 n4 f0 f1 f2 f3 f4 x1 w0)) :=
 Eq.trans (loopN_at (by kernel_rfl)) (q251v1 ..)
theorem g251v2 :
  (kBlk 0 (kSeq (C2 u) u (rl 4 17 []) A29v4 (finish A29))) (.exit 0) (s251v1 n0 n1 n2 n3 n4 n5 f0 f1 f2 f3 f4 f5 w0) =
  (some [.v (ro kO n0 f5)]):=by kernel_rfl
theorem e251:evalF (C2 u) u A29 [.agg [(.s w0),(ro kF n0 f0),(ro kB n1 f1),(ro kI n2 f2),(ro kD n3 f3),(ro kG n4 f4)]]=ob (F251 u w0 n0 f0 n1 f1 n2 f2 n3 f3 n4 f4) fun t=>some [.v (ro kO t.1 t.2)]:=Eq.trans (b:=(loopN (eB A29v3 (C2 u) u) N251v1 u (s251v2 n0 n1 n2 n3 n4 f0 f1 f2 f3 f4 w0) (kBlk 0 (kSeq (C2 u) u (rl 4 17 []) A29v4 (finish A29))))) (by kernel_rfl) (by
 simp only [F251,ob_bif,ob_ob,ob_none,ob_some,nl251v1,t251v1,g251v2])
def O251:Ora:=mkO (q1 (ag (tc cS (tc (cL kF) (tc (cL kB) (tc (cL kI) (tc (cL kD) (t1 (cL kG))))))))) (fun x=>F251 u x.1 x.2.1.1 x.2.1.2 x.2.2.1.1 x.2.2.1.2 x.2.2.2.1.1 x.2.2.2.1.2 x.2.2.2.2.1.1 x.2.2.2.2.1.2 x.2.2.2.2.2.1 x.2.2.2.2.2.2) fun t=>[.v (ro kO t.1 t.2)]
theorem d251:DO (O251 u) (C2 u) 29 A29:=dO u (fun x=>by exact e251 u x.2.1.1 x.2.2.1.1 x.2.2.2.1.1 x.2.2.2.2.1.1 x.2.2.2.2.2.1 x.2.1.2 x.2.2.1.2 x.2.2.2.1.2 x.2.2.2.2.1.2 x.2.2.2.2.2.2 x.1)
def C3:Oracle:=(C2 u).add 29 (fun _=>true) (O251 u)
def F275 (u:Nat) (n:Nat) (g:FF):Option (Nat × FF):=bif Nat.ble n 1073741824 then some (n,g) else none
def O275:Ora:=mkO (q1 (av (cL strK))) (fun x=>F275 u x.1 x.2) fun t=>[.v (.mp t.1 t.2)]
def C4:Oracle:=(C3 u).add 72 (fun _=>true) (O275 u)
def A84:AF:=⟨6,[.tmp 2],
 (.seq (.region 0 [o1 2 (sb false)] 0 none) []
 (.seq (.region 1 [mv 3 0,mv 4 0,o1 5 (bt .neq 3 3 4),o1 2 (sg 5)] 0 none) []
 (.ret [0,1,3,4,5])))⟩
def F90 (u:Nat) (x0:Int):Option (Bool) :=
 (some (x0 != x0))
theorem e90:evalF (C4 u) u A84 [.v (vi i0)]=ob (F90 u i0) fun t=>some [.v (.b t)]:=by
 simp only [F90,ob_bif,ob_ob,ob_none,ob_some]
 kernel_rfl
def O90:Ora:=mkO (q1 (av ci)) (fun x=>F90 u x) fun t=>[.v (.b t)]
theorem d90:DO (O90 u) (C4 u) 84 A84:=dO u (fun x=>by exact e90 u x)
def C5:Oracle:=(C4 u).add 84 (fun _=>true) (O90 u)
def A76v1:AC:=(.seq (.region 6 [o1 4 (sk (-1))] 0 none) []
 (.ret (rl 0 4 (rl 5 15 []))))
def A76v2:AC:=(.seq (.region 13 [o1 4 (sk 0)] 0 none) []
 (.ret (rl 0 4 (rl 5 15 []))))
def A76v3:AC:=(.seq (.seq (.region 11 [mv 17 0,mv 18 1,o1 19 (bt .gtr 3 17 18)] 0 none) []
 (.cond (tm 19)
 (.seq (.region 12 [o1 4 (sk 1)] 0 none) []
  (.ret (rl 0 4 (rl 5 15 []))))
 .skip)) [4,17,18,19]
 A76v2)
def A76v4:AC:=(.seq (.seq (.region 9 [mv 14 0,mv 15 1,o1 16 (bt .lss 3 14 15)] 0 none) []
 (.cond (tm 16)
 (.seq (.region 10 [o1 4 (sk (-1))] 0 none) []
  (.ret (rl 0 4 (rl 5 15 []))))
 .skip)) [4,14,15,16]
 A76v3)
def A76v5:AC:=(.seq (.seq (.region 7 [mv 13 6] 0 none) []
 (.cond (tm 13)
 (.seq (.region 8 [o1 4 (sk 1)] 0 none) []
  (.ret (rl 0 4 (rl 5 15 []))))
 .skip)) [4,13]
 A76v4)
def A76:AF:=⟨20,[.tmp 4],
 (.seq (.region 0 [o1 4 (sk 0)] 0 none) []
 (.seq (.region 1 [mv 7 0,o1 8 (cs 84 [7] [3]),o1 5 (sg 8)] 0 none) []
 (.seq (.region 2 [mv 9 1,o1 10 (cs 84 [9] [3]),o1 6 (sg 10)] 0 none) []
 (.seq (.seq (.region 3 [mv 11 5] 0 none) []
 (.cond (tm 11)
 (.seq (.seq (.region 4 [mv 12 6] 0 none) []
  (.cond (tm 12)
  (.seq (.region 5 [o1 4 (sk 0)] 0 none) []
   (.ret (rl 0 4 (rl 5 15 []))))
  .skip)) [4,12]
  A76v1)
 .skip)) [4,11,12]
 A76v5))))⟩
def F89 (x0 x1:Int):Option (Int) :=
 (ob (F90 u x0) fun x2=>(ob (F90 u x1) fun x3=>(bif x2 then (bif x3 then (some 0) else (some (-1))) else (bif x3 then (some 1) else (bif (decide (x0<x1)) then (some (-1)) else (bif (decide (x0>x1)) then (some 1) else (some 0)))))))
theorem e89:evalF (C5 u) u A76 [.v (vi i0),.v (vi i1)]=ob (F89 u i0 i1) fun t=>some [.v (vi t)]:=by
 simp only [F89,ob_bif,ob_ob,ob_none,ob_some]
 kernel_rfl
def O89:Ora:=mkO (qc (av ci) (q1 (av ci))) (fun x=>F89 u x.1 x.2) fun t=>[.v (vi t)]
theorem d89:DO (O89 u) (C5 u) 76 A76:=dO u (fun x=>by exact e89 u x.1 x.2)
def C6:Oracle:=(C5 u).add 76 (fun _=>true) (O89 u)
def A75v1:AC:=(.region 7 [o1 16 (bk .add 3 8 1),mv 8 16] 0 none)
def A75v2:AC:=(.seq (.block 1
 (.seq (.region 4 [o1 10 (.indexAddr 73 3 1 (tm 6) (tm 8)),o1 11 (lo 3 10),o1 5 (sg 11)] 0 none) []
  (.seq (.region 5 [mv 12 5,mv 13 3,o1 14 (bt .neq 3 12 13)] 0 none) []
  (.cond (tm 14)
  (.seq (.region 6 [mv 15 5,o1 2 (sg 15)] 0 none) []
   (.ret (0 :: 1 :: (rl 3 15 []))))
  .skip)))) (2 :: 5 :: (rl 10 6 []))
 A75v1)
def A75v3:AC:=(.seq (.region 3 [o1 9 (bt .lss 3 8 7)] 0 none) []
 (.seq (.cond (tm 9)
 .skip
 (.exit 0 (0 :: 1 :: 2 :: (rl 4 14 [])))) []
 A75v2))
def A75v4:AC:=(.seq (.region 8 [mv 17 3,o1 2 (sg 17)] 0 none) []
 (.ret (0 :: 1 :: (rl 3 15 []))))
def A75:AF:=⟨18,[.tmp 2],
 (.seq (.region 0 [o1 2 (sk 0)] 0 none) []
 (.seq (.region 1 [o1 3 (sk 0)] 0 none) []
 (.seq (.seq (.region 2 [mv 6 0,o1 7 (.len 73 false (tm 6)),o1 8 (.move (ic 0))] 0 none) []
 (.block 0
 (.loop [] (0 :: 1 :: 2 :: 4 :: 5 :: (rl 9 9 []))
  A75v3))) (2 :: (rl 5 12 []))
 A75v4)))⟩
def N201v1:St→Option St:=nN 0 (0 :: 1 :: 2 :: 4 :: 5 :: (rl 9 9 []))
def s201v0:St:=⟨(us 3 (vxi 0 :: .u :: .u :: .x (.c (ro kM n0 f0)) :: vxi i0 :: vxi i1 :: (us 9 []))),[]⟩
def s201v1:St:=⟨(.u :: .u :: vxi i0 :: (us 15 [])),[]⟩
def s201v2:St:=⟨(us 3 (vxi 0 :: (us 14 []))),[]⟩
def L201v1 {ρ:Type} (u:Nat) (x0:Nat) (x1:FF) (x2:Int):Nat→Int→(Int→Option ρ)→(Option ρ)→Option ρ
 | 0,_,_,_=>none
 | m+1,x3,k0,k1 =>
  (bif (decide (x3<x2)) then (bif (inb x3 x0) then (bif ((x1 x3.toNat 0).int != 0) then (k0 (x1 x3.toNat 0).int) else (L201v1 u x0 x1 x2 m (w64 (x3+1)) k0 k1)) else none) else k1)
theorem nl201v1:∀ (m:Nat) (x0:Int) (k0:Int→Option ρ) (k1:Option ρ),ob (L201v1 u n0 f0 i0 m x0 k0 k1) ng=L201v1 u n0 f0 i0 m x0 (fun x1=>ob (k0 x1) ng) (ob k1 ng)
 | 0,_,_,_=>rfl
 | m+1,x0,k0,k1=>by
  simp only [L201v1,ob_bif,ob_ob,ob_none,nl201v1 m]
theorem q201v1:∀ (m:Nat) (x0:Int),
  loopH (eB A75v3 (C6 u) u) N201v1 m (s201v0 n0 f0 i0 x0) k=L201v1 u n0 f0 i0 m x0 (fun x1=>k .ret (s201v1 x1)) (k (.exit 0) s201v2)
 | 0,_=>rfl
 | m+1,x0=>by
  simp only [L201v1,← q201v1 m]
  kernel_rfl
def F201 (x0:Nat) (x1:FF):Option (Int) :=
 (L201v1 u x0 x1 (Int.ofNat x0) u 0
  (fun x2=>(some x2))
  (some 0))
def s201v3:St:=⟨[.x (.c (ro kM n0 f0)),uu,vxi 0,vxi 0,uu,uu,.x (.c (ro kM n0 f0)),vxi (Int.ofNat n0),vxi 0,uu,uu,uu,uu,uu,uu,uu,uu,uu],[]⟩
theorem t201v1 :
  loopN (eB A75v3 (C6 u) u) N201v1 u (s201v3 n0 f0) k =
  L201v1 u n0 f0 (Int.ofNat n0) u 0 (fun x0=>k .ret (s201v1 x0)) (k (.exit 0) s201v2) :=
 Eq.trans (loopN_at (by kernel_rfl)) (q201v1 ..)
theorem g201v2 :
  (kBlk 0 (kSeq (C6 u) u (2 :: (rl 5 12 [])) A75v4 (finish A75))) .ret (s201v1 i0) =
  (some [.v (vi i0)]):=by kernel_rfl
theorem g201v3 :
  (kBlk 0 (kSeq (C6 u) u (2 :: (rl 5 12 [])) A75v4 (finish A75))) (.exit 0) s201v2 =
  (some [.v (vi 0)]):=by kernel_rfl
theorem e201:evalF (C6 u) u A75 [.v (ro kM n0 f0)]=ob (F201 u n0 f0) fun t=>some [.v (vi t)]:=Eq.trans (b:=(loopN (eB A75v3 (C6 u) u) N201v1 u (s201v3 n0 f0) (kBlk 0 (kSeq (C6 u) u (2 :: (rl 5 12 [])) A75v4 (finish A75))))) (by kernel_rfl) (by
 simp only [F201,ob_bif,ob_ob,ob_none,ob_some,nl201v1,t201v1,g201v2,g201v3])
def O201:Ora:=mkO (q1 (av (cL kM))) (fun x=>F201 u x.1 x.2) fun t=>[.v (vi t)]
theorem d201:DO (O201 u) (C6 u) 75 A75:=dO u (fun x=>by exact e201 u x.1 x.2)
def C7:Oracle:=(C6 u).add 75 (fun _=>true) (O201 u)
def A74:AF:=⟨17,[.tmp 4],
 (.seq (.region 0 [o1 2 (bx 0 46 0),o1 3 (bx 1 46 1),o1 4 (sk 0)] 2 none) []
 (.seq (.region 1 [o1 5 (.indexAddrA 46 3 2 1 (tm 2) (ic 0)),o1 6 (lo 3 5),o1 7 (.indexAddrA 46 3 2 1 (tm 3) (ic 0)),o1 8 (lo 3 7),o1 9 (cs 76 [6,8] [3,3]),o1 10 (.indexAddrA 46 3 2 1 (tm 2) (ic 1)),o1 11 (lo 3 10),o1 12 (.indexAddrA 46 3 2 1 (tm 3) (ic 1)),o1 13 (lo 3 12),o1 14 (cs 76 [11,13] [3,3]),o1 15 (.buildSlice 0 73 3 kM 2 [vci 0] [(0,(tm 9)),(1,(tm 14))]),o1 16 (cs 75 [15] [73]),o1 4 (sg 16)] 1 (some [[],[0],[],[2],(rl 0 4 []),[],[5],[],[7],(rl 0 9 []),(rl 0 10 []),(rl 0 11 []),(rl 0 12 [])])) []
 (.ret (rl 0 4 (rl 5 12 [])))))⟩
def F273 (x0 x1 x2 x3:Int):Option (Int) :=
 (ob (F89 u x0 x2) fun x4=>(ob (F89 u x1 x3) fun x5=>(ob (F201 u 2 (rowsF 1 [(.i .i64 x4),(.i .i64 x5)])) fun x6=>(some x6))))
theorem e273:evalF (C7 u) u A74 [.agg [(vi i0),(vi i1)],.agg [(vi i2),(vi i3)]]=ob (F273 u i0 i1 i2 i3) fun t=>some [.v (vi t)]:=by
 simp only [F273,ob_bif,ob_ob,ob_none,ob_some]
 kernel_rfl
def O273:Ora:=mkO (qc (ag (tc ci (t1 ci))) (q1 (ag (tc ci (t1 ci))))) (fun x=>F273 u x.1.1 x.1.2 x.2.1 x.2.2) fun t=>[.v (vi t)]
theorem d273:DO (O273 u) (C7 u) 74 A74:=dO u (fun x=>by exact e273 u x.1.1 x.1.2 x.2.1 x.2.2)
def C8:Oracle:=(C7 u).add 74 (fun _=>true) (O273 u)
def F239b (u:Nat) (n:Nat) (g:FF):Option FF:=sortT n g
def C9:Oracle:=(C8 u).addT 73 (fun r n g rest=>bif r.beq kP&&isClo 74 rest then F239b u n g else none)
def A55v1:AC:=(.region 19 [o1 63 (bk .add 3 52 1),mv 52 63] 0 none)
def A55v2:AC:=(.seq (.block 6
 (.seq (.region 16 [o1 54 (.indexAddr 73 3 1 (tm 50) (tm 52)),o1 55 (lo 3 54),o1 12 (sg 55)] 0 none) []
  (.seq (.region 17 [mv 56 10,mv 57 12,o1 58 (bt .neq 3 56 57)] 0 none) []
  (.cond (tm 58)
  (.region 18 [mv 59 4,mv 60 10,mv 61 12,o1 62 (.build 46 [vci 0,vci 0] [] 1 [(0,(tm 60)),(1,(tm 61))]),o0 (.setPut 117 (tm 59) (tm 62))] 0 none)
  .skip)))) (12 :: (rl 54 9 []))
 A55v1)
def A55v3:AC:=(.seq (.region 15 [o1 53 (bt .lss 3 52 51)] 0 none) []
 (.seq (.cond (tm 53)
 .skip
 (.exit 5 (0 :: 1 :: 2 :: 5 :: 6 :: 7 :: (rl 9 11 (rl 23 19 (rl 45 34 [])))))) []
 A55v2))
def A55v4:AC:=(.region 20 [o1 64 (bk .add 3 44 1),mv 44 64] 0 none)
def A55v5:AC:=(.seq (.block 4
 (.seq (.region 13 [o1 46 (.indexAddr 73 3 1 (tm 42) (tm 44)),o1 47 (lo 3 46),o1 10 (sg 47)] 0 none) []
  (.seq (.region 14 [mv 48 3,mv 49 8,o1 50 (.lookup 115 (tm 48) (tm 49)),o1 51 (.len 73 false (tm 50)),o1 52 (.move (ic 0))] 0 none) []
  (.block 5
  (.loop [] (0 :: 1 :: 2 :: 5 :: 6 :: 7 :: 9 :: (rl 11 9 (rl 23 19 (rl 45 5 (rl 53 26 [])))))
   A55v3))))) (10 :: 12 :: (rl 46 18 []))
 A55v4)
def A55v6:AC:=(.seq (.region 12 [o1 45 (bt .lss 3 44 43)] 0 none) []
 (.seq (.cond (tm 45)
 .skip
 (.exit 3 (0 :: 1 :: 2 :: (rl 5 15 (rl 23 56 []))))) []
 A55v5))
def A55v7:AC:=(.seq (.region 11 [mv 40 3,mv 41 7,o1 42 (.lookup 115 (tm 40) (tm 41)),o1 43 (.len 73 false (tm 42)),o1 44 (.move (ic 0))] 0 none) []
 (.block 3
 (.loop [] (0 :: 1 :: 2 :: 5 :: 6 :: 7 :: (rl 9 11 (rl 23 19 (rl 45 34 []))))
  A55v6)))
def A55v8:AC:=(.region 21 [o1 65 (bk .add 3 22 1),mv 22 65] 0 none)
def A55v9:AC:=(.seq (.block 1
 (.seq (.region 5 [o1 24 (.indexAddr 26 58 3 (tm 20) (tm 22)),o1 25 (ln 58 3 24),o1 6 (.alloc 0 58 [vci 0,vcs ByteArray.empty,vcs ByteArray.empty]),o0 (.store 58 3 (tm 6) (tm 25))] 1 none) []
  (.seq (.region 6 [o1 26 (fa 58 6 2 2),o1 27 (lo 9 26),o1 28 (fa 58 6 1 1),o1 29 (lo 9 28),o1 7 (sg 27),o1 8 (sg 29)] 0 (some [[],[0],[],[2],[0,1],(rl 0 5 [])])) []
  (.seq (.seq (.region 7 [o1 30 (fa 58 6 0 0),o1 31 (lo 3 30)] 0 none) []
  (.block 2
  (.seq (.region 8 [o1 33 (bk .eql 3 31 1),o1 32 (sg 33)] 0 none) []
   (.cond (tm 32)
   .skip
   (.seq (.region 9 [o1 35 (bk .eql 3 31 2),o1 34 (sg 35)] 0 none) []
    (.cond (tm 34)
    (.region 10 [o1 36 (fa 58 6 1 1),o1 37 (lo 9 36),o1 38 (fa 58 6 2 2),o1 39 (lo 9 38),o1 7 (sg 37),o1 8 (sg 39)] 0 (some [[],[0],[],[2],[0,1],(rl 0 5 [])]))
    (.exit 1 (0 :: 1 :: 2 :: (rl 5 15 (rl 23 56 [])))))))))) (rl 30 10 [])
  A55v7)))) (6 :: 7 :: 8 :: 10 :: 12 :: (rl 24 41 []))
 A55v8)
def A55v10:AC:=(.seq (.region 4 [o1 23 (bt .lss 3 22 21)] 0 none) []
 (.seq (.cond (tm 23)
 .skip
 (.exit 0 (rl 0 4 (rl 5 74 [])))) []
 A55v9))
def A55v11:AC:=(.seq (.region 22 [o1 13 (.assign (.const (.slice none 0 0)))] 0 none) []
 (.label 0))
def A55:AF:=⟨79,[.set 4 13 79],
 (.seq (.region 0 [o1 1 (bx 0 28 0),o1 2 (.assign (.const (.slice none 0 0)))] 1 none) []
 (.seq (.region 1 [o1 15 (ln 28 6 1),o1 16 (cf 29 [15] [28]),o1 17 (cf 72 [16] [51]),o1 3 (sg 17)] 0 none) []
 (.seq (.region 2 [o1 18 (.makeMap 0 117 false),o1 4 (sg 18)] 1 none) []
 (.seq (.seq (.region 3 [o1 19 (fa 28 1 5 5),o1 20 (lo 26 19),o1 21 (.len 26 false (tm 20)),o1 22 (.move (ic 0))] 0 none) []
 (.block 0
 (.loop [] (0 :: 1 :: 2 :: (rl 5 15 (rl 23 56 [])))
  A55v10))) (6 :: 7 :: 8 :: 10 :: 12 :: (rl 19 47 []))
 A55v11))))⟩
def P55:AC :=
 (.seq (.region 27 [mv 76 13,o1 77 (.turn 73 (tm 76) [(.func 74)] [102,121])] 0 none) []
 (.seq (.region 28 [mv 78 13,o1 2 (sg 78)] 0 none) []
 (.ret (0 :: 1 :: (rl 3 76 [])))))
def N276v8:St→Option St:=nN 3 (0 :: 1 :: 2 :: 5 :: 6 :: 7 :: 9 :: (rl 11 9 (rl 23 19 (rl 45 5 (rl 53 26 [])))))
def s276v0:St:=⟨(us 3 (.x (.c (.mp n0 f0)) :: .x (.own 1 0 0) :: (us 3 (vxs w0 :: .u :: vxi i0 :: (us 9 (.x (.c (ro kG n1 f1)) :: vxi i1 :: vxi i2 :: (us 19 (.x (.c (ro kM n2 f2)) :: vxi i3 :: vxi i4 :: (us 5 (.x (.c (ro kM n3 f3)) :: vxi i5 :: vxi i6 :: (us 26 []))))))))))),[.box [(vcs w1),(.c (ro kF n4 f4)),(.c (ro kB n5 f5)),(.c (ro kI n6 f6)),(.c (ro kD n7 f7)),(.c (ro kG n1 f1))],.set false n8 f8,.box [(vci i7),(vcs w0),(vcs w2)]]⟩
def s276v1:St:=⟨(us 3 (.x (.c (.mp n0 f0)) :: .x (.own 1 0 0) :: (us 3 (vxs w0 :: (us 11 (.x (.c (ro kG n1 f1)) :: vxi i0 :: vxi i1 :: (us 19 (.x (.c (ro kM n2 f2)) :: vxi i2 :: vxi i3 :: (us 34 []))))))))),[.box [(vcs w1),(.c (ro kF n3 f3)),(.c (ro kB n4 f4)),(.c (ro kI n5 f5)),(.c (ro kD n6 f6)),(.c (ro kG n1 f1))],.set false n7 f7,.box [(vci i4),(vcs w0),(vcs w2)]]⟩
def L276v8 {ρ:Type} (u:Nat) (x0:Nat) (x1:FF) (x2:ByteArray) (x3:Int) (x4:Nat) (x5:FF) (x6 x7:Int) (x8:Nat) (x9:FF) (xA xB:Int) (xC:Nat) (xD:FF) (xE:Int) (xF:ByteArray) (xG:Nat) (xH:FF) (xI:Nat) (xJ:FF) (xK:Nat) (xL:FF) (xM:Nat) (xN:FF) (xO:Int) (xP:ByteArray):Nat→Int→Nat→FF→(Nat→FF→Option ρ)→Option ρ
 | 0,_,_,_,_=>none
 | m+1,xQ,xR,xS,k0 =>
  (bif (decide (xQ<xE)) then (bif (inb xQ xC) then (bif (x3 != (xD xQ.toNat 0).int) then (L276v8 u x0 x1 x2 x3 x4 x5 x6 x7 x8 x9 xA xB xC xD xE xF xG xH xI xJ xK xL xM xN xO xP m (w64 (xQ+1)) (putN xR xS x3 (xD xQ.toNat 0).int) (putR xR xS x3 (xD xQ.toNat 0).int) k0) else (L276v8 u x0 x1 x2 x3 x4 x5 x6 x7 x8 x9 xA xB xC xD xE xF xG xH xI xJ xK xL xM xN xO xP m (w64 (xQ+1)) xR xS k0)) else none) else (k0 xR xS))
theorem nl276v8:∀ (m:Nat) (x0:Int) (x1:Nat) (x2:FF) (k0:Nat→FF→Option ρ),ob (L276v8 u n0 f0 w0 i0 n1 f1 i1 i2 n2 f2 i3 i4 n3 f3 i5 w1 n4 f4 n5 f5 n6 f6 n7 f7 i6 w2 m x0 x1 x2 k0) ng=L276v8 u n0 f0 w0 i0 n1 f1 i1 i2 n2 f2 i3 i4 n3 f3 i5 w1 n4 f4 n5 f5 n6 f6 n7 f7 i6 w2 m x0 x1 x2 (fun x3 x4=>ob (k0 x3 x4) ng)
 | 0,_,_,_,_=>rfl
 | m+1,x0,x1,x2,k0=>by
  simp only [L276v8,ob_bif,ob_ob,ob_none,nl276v8 m]
theorem q276v8:∀ (m:Nat) (x0:Int) (x1:Nat) (x2:FF),
  loopH (eB A55v3 (C9 u) u) N276v8 m (s276v0 n0 n1 n2 n3 n4 n5 n6 n7 x1 f0 f1 f2 f3 f4 f5 f6 f7 x2 i0 i1 i2 i3 i4 i5 x0 i6 w0 w1 w2) k=L276v8 u n0 f0 w0 i0 n1 f1 i1 i2 n2 f2 i3 i4 n3 f3 i5 w1 n4 f4 n5 f5 n6 f6 n7 f7 i6 w2 m x0 x1 x2 (fun x3 x4=>k (.exit 5) (s276v1 n0 n1 n2 n4 n5 n6 n7 x3 f0 f1 f2 f4 f5 f6 f7 x4 i1 i2 i3 i4 i6 w0 w1 w2))
 | 0,_,_,_=>rfl
 | m+1,x0,x1,x2=>by
  simp only [L276v8,← q276v8 m]
  kernel_rfl
def N276v9:St→Option St:=nN 3 (0 :: 1 :: 2 :: 5 :: 6 :: 7 :: (rl 9 11 (rl 23 19 (rl 45 34 []))))
def s276v2:St:=⟨(us 3 (.x (.c (.mp n0 f0)) :: .x (.own 1 0 0) :: (us 3 (vxs w0 :: (us 11 (.x (.c (ro kG n1 f1)) :: vxi i0 :: vxi i1 :: (us 19 (.x (.c (ro kM n2 f2)) :: vxi i2 :: vxi i3 :: (us 34 []))))))))),[.box [(vcs w1),(.c (ro kF n3 f3)),(.c (ro kB n4 f4)),(.c (ro kI n5 f5)),(.c (ro kD n6 f6)),(.c (ro kG n1 f1))],.set false n7 f7,.box [(vci i4),(vcs w0),(vcs w2)]]⟩
def s276v3:St:=⟨(us 3 (.x (.c (.mp n0 f0)) :: .x (.own 1 0 0) :: (us 15 (.x (.c (ro kG n1 f1)) :: vxi i0 :: vxi i1 :: (us 56 []))))),[.box [(vcs w0),(.c (ro kF n2 f2)),(.c (ro kB n3 f3)),(.c (ro kI n4 f4)),(.c (ro kD n5 f5)),(.c (ro kG n1 f1))],.set false n6 f6,.box [(vci i2),(vcs w1),(vcs w2)]]⟩
def L276v9 {ρ:Type} (u:Nat) (x0:Nat) (x1:FF) (x2:ByteArray) (x3:Nat) (x4:FF) (x5 x6:Int) (x7:Nat) (x8:FF) (x9:Int) (xA:ByteArray) (xB:Nat) (xC:FF) (xD:Nat) (xE:FF) (xF:Nat) (xG:FF) (xH:Nat) (xI:FF) (xJ:Int) (xK:ByteArray):Nat→Int→Nat→FF→(Nat→FF→Option ρ)→Option ρ
 | 0,_,_,_,_=>none
 | m+1,xL,xM,xN,k0 =>
  (bif (decide (xL<x9)) then (bif (inb xL x7) then (L276v8 u x0 x1 x2 (x8 xL.toNat 0).int x3 x4 x5 x6 x7 x8 x9 xL (idxN x0 x1 x2) (idxF x0 x1 x2) (Int.ofNat (idxN x0 x1 x2)) xA xB xC xD xE xF xG xH xI xJ xK u 0 xM xN
  (fun xO xP=>(L276v9 u x0 x1 x2 x3 x4 x5 x6 x7 x8 x9 xA xB xC xD xE xF xG xH xI xJ xK m (w64 (xL+1)) xO xP k0))) else none) else (k0 xM xN))
theorem nl276v9:∀ (m:Nat) (x0:Int) (x1:Nat) (x2:FF) (k0:Nat→FF→Option ρ),ob (L276v9 u n0 f0 w0 n1 f1 i0 i1 n2 f2 i2 w1 n3 f3 n4 f4 n5 f5 n6 f6 i3 w2 m x0 x1 x2 k0) ng=L276v9 u n0 f0 w0 n1 f1 i0 i1 n2 f2 i2 w1 n3 f3 n4 f4 n5 f5 n6 f6 i3 w2 m x0 x1 x2 (fun x3 x4=>ob (k0 x3 x4) ng)
 | 0,_,_,_,_=>rfl
 | m+1,x0,x1,x2,k0=>by
  simp only [L276v9,ob_bif,ob_ob,ob_none,nl276v9 m,nl276v8]
def s276v4:St:=⟨(us 3 (.x (.c (.mp n0 f0)) :: .x (.own 1 0 0) :: (us 3 (vxs w0 :: .u :: vxi (f1 i0.toNat 0).int :: (us 9 (.x (.c (ro kG n1 f2)) :: vxi i1 :: vxi i2 :: (us 19 (.x (.c (ro kM n2 f1)) :: vxi i3 :: vxi i0 :: vxb true :: .x (.c (.rp kM (f1 i0.toNat))) :: vxi (f1 i0.toNat 0).int :: .x (.c (.mp n0 f0)) :: vxs w0 :: .x (.c (ro kM (idxN n0 f0 w0) (idxF n0 f0 w0))) :: vxi (Int.ofNat (idxN n0 f0 w0)) :: vxi 0 :: (us 26 []))))))))),[.box [(vcs w1),(.c (ro kF n3 f3)),(.c (ro kB n4 f4)),(.c (ro kI n5 f5)),(.c (ro kD n6 f6)),(.c (ro kG n1 f2))],.set false n7 f7,.box [(vci i4),(vcs w0),(vcs w2)]]⟩
theorem r276v9 :
  loopH (eB A55v6 (C9 u) u) N276v9 (m+1) (s276v2 n0 n1 n2 n3 n4 n5 n6 n7 f0 f1 f2 f3 f4 f5 f6 f7 i0 i1 i2 i4 i3 w0 w1 w2) k =
  (bif (decide (i4<i2)) then (bif (inb i4 n2) then (loopN (eB A55v3 (C9 u) u) N276v8 u (s276v4 n0 n1 n2 n3 n4 n5 n6 n7 f0 f2 f1 f3 f4 f5 f6 f7 i4 i0 i1 i2 i3 w0 w1 w2) (kBlk 5 (kBlk 4 (kSeq (C9 u) u (10 :: 12 :: (rl 46 18 [])) A55v4 (kLoop (eB A55v6 (C9 u) u) N276v9 m k))))) else none) else (k (.exit 3) (s276v3 n0 n1 n3 n4 n5 n6 n7 f0 f1 f3 f4 f5 f6 f7 i0 i1 i3 w1 w0 w2))):=by kernel_rfl
theorem t276v1 :
  loopN (eB A55v3 (C9 u) u) N276v8 u (s276v4 n0 n1 n2 n3 n4 n5 n6 n7 f0 f1 f2 f3 f4 f5 f6 f7 i0 i1 i2 i3 i4 w0 w1 w2) k =
  L276v8 u n0 f0 w0 (f1 i0.toNat 0).int n1 f2 i1 i2 n2 f1 i3 i0 (idxN n0 f0 w0) (idxF n0 f0 w0) (Int.ofNat (idxN n0 f0 w0)) w1 n3 f3 n4 f4 n5 f5 n6 f6 i4 w2 u 0 n7 f7 (fun x0 x1=>k (.exit 5) (s276v1 n0 n1 n2 n3 n4 n5 n6 x0 f0 f2 f1 f3 f4 f5 f6 x1 i1 i2 i3 i0 i4 w0 w1 w2)) :=
 Eq.trans (loopN_at (by kernel_rfl)) (q276v8 ..)
theorem g276v2 :
  (kBlk 5 (kBlk 4 (kSeq (C9 u) u (10 :: 12 :: (rl 46 18 [])) A55v4 (kLoop (eB A55v6 (C9 u) u) N276v9 m k)))) (.exit 5) (s276v1 n0 n1 n2 n3 n4 n5 n6 n7 f0 f1 f2 f3 f4 f5 f6 f7 i0 i1 i2 i3 i4 w0 w1 w2) =
  (loopH (eB A55v6 (C9 u) u) N276v9 m (s276v2 n0 n1 n2 n3 n4 n5 n6 n7 f0 f1 f2 f3 f4 f5 f6 f7 i0 i1 i2 (w64 (i3+1)) i4 w0 w1 w2) k):=by kernel_rfl
theorem q276v9:∀ (m:Nat) (x0:Int) (x1:Nat) (x2:FF),
  loopH (eB A55v6 (C9 u) u) N276v9 m (s276v2 n0 n1 n2 n3 n4 n5 n6 x1 f0 f1 f2 f3 f4 f5 f6 x2 i0 i1 i2 x0 i3 w0 w1 w2) k=L276v9 u n0 f0 w0 n1 f1 i0 i1 n2 f2 i2 w1 n3 f3 n4 f4 n5 f5 n6 f6 i3 w2 m x0 x1 x2 (fun x3 x4=>k (.exit 3) (s276v3 n0 n1 n3 n4 n5 n6 x3 f0 f1 f3 f4 f5 f6 x4 i0 i1 i3 w1 w0 w2))
 | 0,_,_,_=>rfl
 | m+1,x0,x1,x2=>by
  rw [r276v9]
  simp only [L276v9,q276v9 m,t276v1,g276v2]
def N276v11:St→Option St:=nN 3 (0 :: 1 :: 2 :: 5 :: 6 :: 7 :: 9 :: (rl 11 9 (rl 23 19 (rl 45 5 (rl 53 26 [])))))
def s276v5:St:=⟨(us 3 (.x (.c (.mp n0 f0)) :: .x (.own 1 0 0) :: (us 3 (vxs w0 :: .u :: vxi i0 :: (us 9 (.x (.c (ro kG n1 f1)) :: vxi i1 :: vxi i2 :: (us 19 (.x (.c (ro kM n2 f2)) :: vxi i3 :: vxi i4 :: (us 5 (.x (.c (ro kM n3 f3)) :: vxi i5 :: vxi i6 :: (us 26 []))))))))))),[.box [(vcs w1),(.c (ro kF n4 f4)),(.c (ro kB n5 f5)),(.c (ro kI n6 f6)),(.c (ro kD n7 f7)),(.c (ro kG n1 f1))],.set false n8 f8,.box [(vci i7),(vcs w2),(vcs w0)]]⟩
def s276v6:St:=⟨(us 3 (.x (.c (.mp n0 f0)) :: .x (.own 1 0 0) :: (us 3 (vxs w0 :: (us 11 (.x (.c (ro kG n1 f1)) :: vxi i0 :: vxi i1 :: (us 19 (.x (.c (ro kM n2 f2)) :: vxi i2 :: vxi i3 :: (us 34 []))))))))),[.box [(vcs w1),(.c (ro kF n3 f3)),(.c (ro kB n4 f4)),(.c (ro kI n5 f5)),(.c (ro kD n6 f6)),(.c (ro kG n1 f1))],.set false n7 f7,.box [(vci i4),(vcs w2),(vcs w0)]]⟩
def L276v11 {ρ:Type} (u:Nat) (x0:Nat) (x1:FF) (x2:ByteArray) (x3:Int) (x4:Nat) (x5:FF) (x6 x7:Int) (x8:Nat) (x9:FF) (xA xB:Int) (xC:Nat) (xD:FF) (xE:Int) (xF:ByteArray) (xG:Nat) (xH:FF) (xI:Nat) (xJ:FF) (xK:Nat) (xL:FF) (xM:Nat) (xN:FF) (xO:Int) (xP:ByteArray):Nat→Int→Nat→FF→(Nat→FF→Option ρ)→Option ρ
 | 0,_,_,_,_=>none
 | m+1,xQ,xR,xS,k0 =>
  (bif (decide (xQ<xE)) then (bif (inb xQ xC) then (bif (x3 != (xD xQ.toNat 0).int) then (L276v11 u x0 x1 x2 x3 x4 x5 x6 x7 x8 x9 xA xB xC xD xE xF xG xH xI xJ xK xL xM xN xO xP m (w64 (xQ+1)) (putN xR xS x3 (xD xQ.toNat 0).int) (putR xR xS x3 (xD xQ.toNat 0).int) k0) else (L276v11 u x0 x1 x2 x3 x4 x5 x6 x7 x8 x9 xA xB xC xD xE xF xG xH xI xJ xK xL xM xN xO xP m (w64 (xQ+1)) xR xS k0)) else none) else (k0 xR xS))
theorem nl276v11:∀ (m:Nat) (x0:Int) (x1:Nat) (x2:FF) (k0:Nat→FF→Option ρ),ob (L276v11 u n0 f0 w0 i0 n1 f1 i1 i2 n2 f2 i3 i4 n3 f3 i5 w1 n4 f4 n5 f5 n6 f6 n7 f7 i6 w2 m x0 x1 x2 k0) ng=L276v11 u n0 f0 w0 i0 n1 f1 i1 i2 n2 f2 i3 i4 n3 f3 i5 w1 n4 f4 n5 f5 n6 f6 n7 f7 i6 w2 m x0 x1 x2 (fun x3 x4=>ob (k0 x3 x4) ng)
 | 0,_,_,_,_=>rfl
 | m+1,x0,x1,x2,k0=>by
  simp only [L276v11,ob_bif,ob_ob,ob_none,nl276v11 m]
theorem q276v11:∀ (m:Nat) (x0:Int) (x1:Nat) (x2:FF),
  loopH (eB A55v3 (C9 u) u) N276v11 m (s276v5 n0 n1 n2 n3 n4 n5 n6 n7 x1 f0 f1 f2 f3 f4 f5 f6 f7 x2 i0 i1 i2 i3 i4 i5 x0 i6 w0 w1 w2) k=L276v11 u n0 f0 w0 i0 n1 f1 i1 i2 n2 f2 i3 i4 n3 f3 i5 w1 n4 f4 n5 f5 n6 f6 n7 f7 i6 w2 m x0 x1 x2 (fun x3 x4=>k (.exit 5) (s276v6 n0 n1 n2 n4 n5 n6 n7 x3 f0 f1 f2 f4 f5 f6 f7 x4 i1 i2 i3 i4 i6 w0 w1 w2))
 | 0,_,_,_=>rfl
 | m+1,x0,x1,x2=>by
  simp only [L276v11,← q276v11 m]
  kernel_rfl
def N276v12:St→Option St:=nN 3 (0 :: 1 :: 2 :: 5 :: 6 :: 7 :: (rl 9 11 (rl 23 19 (rl 45 34 []))))
def s276v7:St:=⟨(us 3 (.x (.c (.mp n0 f0)) :: .x (.own 1 0 0) :: (us 3 (vxs w0 :: (us 11 (.x (.c (ro kG n1 f1)) :: vxi i0 :: vxi i1 :: (us 19 (.x (.c (ro kM n2 f2)) :: vxi i2 :: vxi i3 :: (us 34 []))))))))),[.box [(vcs w1),(.c (ro kF n3 f3)),(.c (ro kB n4 f4)),(.c (ro kI n5 f5)),(.c (ro kD n6 f6)),(.c (ro kG n1 f1))],.set false n7 f7,.box [(vci i4),(vcs w2),(vcs w0)]]⟩
def s276v8:St:=⟨(us 3 (.x (.c (.mp n0 f0)) :: .x (.own 1 0 0) :: (us 15 (.x (.c (ro kG n1 f1)) :: vxi i0 :: vxi i1 :: (us 56 []))))),[.box [(vcs w0),(.c (ro kF n2 f2)),(.c (ro kB n3 f3)),(.c (ro kI n4 f4)),(.c (ro kD n5 f5)),(.c (ro kG n1 f1))],.set false n6 f6,.box [(vci i2),(vcs w1),(vcs w2)]]⟩
def L276v12 {ρ:Type} (u:Nat) (x0:Nat) (x1:FF) (x2:ByteArray) (x3:Nat) (x4:FF) (x5 x6:Int) (x7:Nat) (x8:FF) (x9:Int) (xA:ByteArray) (xB:Nat) (xC:FF) (xD:Nat) (xE:FF) (xF:Nat) (xG:FF) (xH:Nat) (xI:FF) (xJ:Int) (xK:ByteArray):Nat→Int→Nat→FF→(Nat→FF→Option ρ)→Option ρ
 | 0,_,_,_,_=>none
 | m+1,xL,xM,xN,k0 =>
  (bif (decide (xL<x9)) then (bif (inb xL x7) then (L276v11 u x0 x1 x2 (x8 xL.toNat 0).int x3 x4 x5 x6 x7 x8 x9 xL (idxN x0 x1 x2) (idxF x0 x1 x2) (Int.ofNat (idxN x0 x1 x2)) xA xB xC xD xE xF xG xH xI xJ xK u 0 xM xN
  (fun xO xP=>(L276v12 u x0 x1 x2 x3 x4 x5 x6 x7 x8 x9 xA xB xC xD xE xF xG xH xI xJ xK m (w64 (xL+1)) xO xP k0))) else none) else (k0 xM xN))
theorem nl276v12:∀ (m:Nat) (x0:Int) (x1:Nat) (x2:FF) (k0:Nat→FF→Option ρ),ob (L276v12 u n0 f0 w0 n1 f1 i0 i1 n2 f2 i2 w1 n3 f3 n4 f4 n5 f5 n6 f6 i3 w2 m x0 x1 x2 k0) ng=L276v12 u n0 f0 w0 n1 f1 i0 i1 n2 f2 i2 w1 n3 f3 n4 f4 n5 f5 n6 f6 i3 w2 m x0 x1 x2 (fun x3 x4=>ob (k0 x3 x4) ng)
 | 0,_,_,_,_=>rfl
 | m+1,x0,x1,x2,k0=>by
  simp only [L276v12,ob_bif,ob_ob,ob_none,nl276v12 m,nl276v11]
def s276v9:St:=⟨(us 3 (.x (.c (.mp n0 f0)) :: .x (.own 1 0 0) :: (us 3 (vxs w0 :: .u :: vxi (f1 i0.toNat 0).int :: (us 9 (.x (.c (ro kG n1 f2)) :: vxi i1 :: vxi i2 :: (us 19 (.x (.c (ro kM n2 f1)) :: vxi i3 :: vxi i0 :: vxb true :: .x (.c (.rp kM (f1 i0.toNat))) :: vxi (f1 i0.toNat 0).int :: .x (.c (.mp n0 f0)) :: vxs w0 :: .x (.c (ro kM (idxN n0 f0 w0) (idxF n0 f0 w0))) :: vxi (Int.ofNat (idxN n0 f0 w0)) :: vxi 0 :: (us 26 []))))))))),[.box [(vcs w1),(.c (ro kF n3 f3)),(.c (ro kB n4 f4)),(.c (ro kI n5 f5)),(.c (ro kD n6 f6)),(.c (ro kG n1 f2))],.set false n7 f7,.box [(vci i4),(vcs w2),(vcs w0)]]⟩
theorem r276v12 :
  loopH (eB A55v6 (C9 u) u) N276v12 (m+1) (s276v7 n0 n1 n2 n3 n4 n5 n6 n7 f0 f1 f2 f3 f4 f5 f6 f7 i0 i1 i2 i4 i3 w0 w1 w2) k =
  (bif (decide (i4<i2)) then (bif (inb i4 n2) then (loopN (eB A55v3 (C9 u) u) N276v11 u (s276v9 n0 n1 n2 n3 n4 n5 n6 n7 f0 f2 f1 f3 f4 f5 f6 f7 i4 i0 i1 i2 i3 w0 w1 w2) (kBlk 5 (kBlk 4 (kSeq (C9 u) u (10 :: 12 :: (rl 46 18 [])) A55v4 (kLoop (eB A55v6 (C9 u) u) N276v12 m k))))) else none) else (k (.exit 3) (s276v8 n0 n1 n3 n4 n5 n6 n7 f0 f1 f3 f4 f5 f6 f7 i0 i1 i3 w1 w2 w0))):=by kernel_rfl
theorem t276v3 :
  loopN (eB A55v3 (C9 u) u) N276v11 u (s276v9 n0 n1 n2 n3 n4 n5 n6 n7 f0 f1 f2 f3 f4 f5 f6 f7 i0 i1 i2 i3 i4 w0 w1 w2) k =
  L276v11 u n0 f0 w0 (f1 i0.toNat 0).int n1 f2 i1 i2 n2 f1 i3 i0 (idxN n0 f0 w0) (idxF n0 f0 w0) (Int.ofNat (idxN n0 f0 w0)) w1 n3 f3 n4 f4 n5 f5 n6 f6 i4 w2 u 0 n7 f7 (fun x0 x1=>k (.exit 5) (s276v6 n0 n1 n2 n3 n4 n5 n6 x0 f0 f2 f1 f3 f4 f5 f6 x1 i1 i2 i3 i0 i4 w0 w1 w2)) :=
 Eq.trans (loopN_at (by kernel_rfl)) (q276v11 ..)
theorem g276v4 :
  (kBlk 5 (kBlk 4 (kSeq (C9 u) u (10 :: 12 :: (rl 46 18 [])) A55v4 (kLoop (eB A55v6 (C9 u) u) N276v12 m k)))) (.exit 5) (s276v6 n0 n1 n2 n3 n4 n5 n6 n7 f0 f1 f2 f3 f4 f5 f6 f7 i0 i1 i2 i3 i4 w0 w1 w2) =
  (loopH (eB A55v6 (C9 u) u) N276v12 m (s276v7 n0 n1 n2 n3 n4 n5 n6 n7 f0 f1 f2 f3 f4 f5 f6 f7 i0 i1 i2 (w64 (i3+1)) i4 w0 w1 w2) k):=by kernel_rfl
theorem q276v12:∀ (m:Nat) (x0:Int) (x1:Nat) (x2:FF),
  loopH (eB A55v6 (C9 u) u) N276v12 m (s276v7 n0 n1 n2 n3 n4 n5 n6 x1 f0 f1 f2 f3 f4 f5 f6 x2 i0 i1 i2 x0 i3 w0 w1 w2) k=L276v12 u n0 f0 w0 n1 f1 i0 i1 n2 f2 i2 w1 n3 f3 n4 f4 n5 f5 n6 f6 i3 w2 m x0 x1 x2 (fun x3 x4=>k (.exit 3) (s276v8 n0 n1 n3 n4 n5 n6 x3 f0 f1 f3 f4 f5 f6 x4 i0 i1 i3 w1 w2 w0))
 | 0,_,_,_=>rfl
 | m+1,x0,x1,x2=>by
  rw [r276v12]
  simp only [L276v12,q276v12 m,t276v3,g276v4]
def N276v13:St→Option St:=nN 2 (0 :: 1 :: 2 :: (rl 5 15 (rl 23 56 [])))
def s276v10:St:=⟨(us 3 (.x (.c (.mp n0 f0)) :: .x (.own 1 0 0) :: (us 15 (.x (.c (ro kG n1 f1)) :: vxi i0 :: vxi i1 :: (us 56 []))))),[.box [(vcs w0),(.c (ro kF n2 f2)),(.c (ro kB n3 f3)),(.c (ro kI n4 f4)),(.c (ro kD n5 f5)),(.c (ro kG n1 f1))],.set false n6 f6]⟩
def s276v11:St:=⟨(us 4 (.x (.own 1 0 0) :: (us 74 []))),[.box [(vcs w0),(.c (ro kF n0 f0)),(.c (ro kB n1 f1)),(.c (ro kI n2 f2)),(.c (ro kD n3 f3)),(.c (ro kG n4 f4))],.set false n5 f5]⟩
def L276v13 {ρ:Type} (u:Nat) (x0:Nat) (x1:FF) (x2:Nat) (x3:FF) (x4:Int) (x5:ByteArray) (x6:Nat) (x7:FF) (x8:Nat) (x9:FF) (xA:Nat) (xB:FF) (xC:Nat) (xD:FF):Nat→Int→Nat→FF→(Nat→FF→Option ρ)→Option ρ
 | 0,_,_,_,_=>none
 | m+1,xE,xF,xG,k0 =>
  (bif (decide (xE<x4)) then (bif (inb xE x2) then (bif ((x3 xE.toNat 0).int==1) then (L276v9 u x0 x1 (x3 xE.toNat 1).str x2 x3 x4 xE (idxN x0 x1 (x3 xE.toNat 2).str) (idxF x0 x1 (x3 xE.toNat 2).str) (Int.ofNat (idxN x0 x1 (x3 xE.toNat 2).str)) x5 x6 x7 x8 x9 xA xB xC xD (x3 xE.toNat 0).int (x3 xE.toNat 2).str u 0 xF xG
  (fun xH xI=>(L276v13 u x0 x1 x2 x3 x4 x5 x6 x7 x8 x9 xA xB xC xD m (w64 (xE+1)) xH xI k0))) else (bif ((x3 xE.toNat 0).int==2) then (L276v12 u x0 x1 (x3 xE.toNat 2).str x2 x3 x4 xE (idxN x0 x1 (x3 xE.toNat 1).str) (idxF x0 x1 (x3 xE.toNat 1).str) (Int.ofNat (idxN x0 x1 (x3 xE.toNat 1).str)) x5 x6 x7 x8 x9 xA xB xC xD (x3 xE.toNat 0).int (x3 xE.toNat 1).str u 0 xF xG
  (fun xJ xK=>(L276v13 u x0 x1 x2 x3 x4 x5 x6 x7 x8 x9 xA xB xC xD m (w64 (xE+1)) xJ xK k0))) else (L276v13 u x0 x1 x2 x3 x4 x5 x6 x7 x8 x9 xA xB xC xD m (w64 (xE+1)) xF xG k0))) else none) else (k0 xF xG))
theorem nl276v13:∀ (m:Nat) (x0:Int) (x1:Nat) (x2:FF) (k0:Nat→FF→Option ρ),ob (L276v13 u n0 f0 n1 f1 i0 w0 n2 f2 n3 f3 n4 f4 n5 f5 m x0 x1 x2 k0) ng=L276v13 u n0 f0 n1 f1 i0 w0 n2 f2 n3 f3 n4 f4 n5 f5 m x0 x1 x2 (fun x3 x4=>ob (k0 x3 x4) ng)
 | 0,_,_,_,_=>rfl
 | m+1,x0,x1,x2,k0=>by
  simp only [L276v13,ob_bif,ob_ob,ob_none,nl276v13 m,nl276v9,nl276v12]
def s276v12:St:=⟨(us 3 (.x (.c (.mp n0 f0)) :: .x (.own 1 0 0) :: .u :: .x (.ptr 2 0) :: vxs (f1 i0.toNat 2).str :: vxs (f1 i0.toNat 1).str :: (us 11 (.x (.c (ro kG n1 f1)) :: vxi i1 :: vxi i0 :: vxb true :: .x (.c (.rp kG (f1 i0.toNat))) :: .agg [(vci (f1 i0.toNat 0).int),(vcs (f1 i0.toNat 1).str),(vcs (f1 i0.toNat 2).str)] :: .x (.ptr 2 2) :: vxs (f1 i0.toNat 2).str :: .x (.ptr 2 1) :: vxs (f1 i0.toNat 1).str :: (us 10 (.x (.c (.mp n0 f0)) :: vxs (f1 i0.toNat 2).str :: .x (.c (ro kM (idxN n0 f0 (f1 i0.toNat 2).str) (idxF n0 f0 (f1 i0.toNat 2).str))) :: vxi (Int.ofNat (idxN n0 f0 (f1 i0.toNat 2).str)) :: vxi 0 :: (us 34 []))))))),[.box [(vcs w0),(.c (ro kF n2 f2)),(.c (ro kB n3 f3)),(.c (ro kI n4 f4)),(.c (ro kD n5 f5)),(.c (ro kG n1 f1))],.set false n6 f6,.box [(vci (f1 i0.toNat 0).int),(vcs (f1 i0.toNat 1).str),(vcs (f1 i0.toNat 2).str)]]⟩
def s276v13:St:=⟨(us 3 (.x (.c (.mp n0 f0)) :: .x (.own 1 0 0) :: .u :: .x (.ptr 2 0) :: vxs (f1 i0.toNat 1).str :: vxs (f1 i0.toNat 2).str :: (us 11 (.x (.c (ro kG n1 f1)) :: vxi i1 :: vxi i0 :: vxb true :: .x (.c (.rp kG (f1 i0.toNat))) :: .agg [(vci (f1 i0.toNat 0).int),(vcs (f1 i0.toNat 1).str),(vcs (f1 i0.toNat 2).str)] :: .x (.ptr 2 2) :: vxs (f1 i0.toNat 2).str :: .x (.ptr 2 1) :: vxs (f1 i0.toNat 1).str :: (us 10 (.x (.c (.mp n0 f0)) :: vxs (f1 i0.toNat 1).str :: .x (.c (ro kM (idxN n0 f0 (f1 i0.toNat 1).str) (idxF n0 f0 (f1 i0.toNat 1).str))) :: vxi (Int.ofNat (idxN n0 f0 (f1 i0.toNat 1).str)) :: vxi 0 :: (us 34 []))))))),[.box [(vcs w0),(.c (ro kF n2 f2)),(.c (ro kB n3 f3)),(.c (ro kI n4 f4)),(.c (ro kD n5 f5)),(.c (ro kG n1 f1))],.set false n6 f6,.box [(vci (f1 i0.toNat 0).int),(vcs (f1 i0.toNat 1).str),(vcs (f1 i0.toNat 2).str)]]⟩
theorem r276v13 :
  loopH (eB A55v10 (C9 u) u) N276v13 (m+1) (s276v10 n0 n1 n2 n3 n4 n5 n6 f0 f1 f2 f3 f4 f5 f6 i0 i1 w0) k =
  (bif (decide (i1<i0)) then (bif (inb i1 n1) then (bif ((f1 i1.toNat 0).int==1) then (loopN (eB A55v6 (C9 u) u) N276v9 u (s276v12 n0 n1 n2 n3 n4 n5 n6 f0 f1 f2 f3 f4 f5 f6 i1 i0 w0) (kBlk 3 (kBlk 1 (kSeq (C9 u) u (6 :: 7 :: 8 :: 10 :: 12 :: (rl 24 41 [])) A55v8 (kLoop (eB A55v10 (C9 u) u) N276v13 m k))))) else (bif ((f1 i1.toNat 0).int==2) then (loopN (eB A55v6 (C9 u) u) N276v12 u (s276v13 n0 n1 n2 n3 n4 n5 n6 f0 f1 f2 f3 f4 f5 f6 i1 i0 w0) (kBlk 3 (kBlk 1 (kSeq (C9 u) u (6 :: 7 :: 8 :: 10 :: 12 :: (rl 24 41 [])) A55v8 (kLoop (eB A55v10 (C9 u) u) N276v13 m k))))) else (loopH (eB A55v10 (C9 u) u) N276v13 m (s276v10 n0 n1 n2 n3 n4 n5 n6 f0 f1 f2 f3 f4 f5 f6 i0 (w64 (i1+1)) w0) k))) else none) else (k (.exit 0) (s276v11 n2 n3 n4 n5 n1 n6 f2 f3 f4 f5 f1 f6 w0))):=by kernel_rfl
theorem t276v5 :
  loopN (eB A55v6 (C9 u) u) N276v9 u (s276v12 n0 n1 n2 n3 n4 n5 n6 f0 f1 f2 f3 f4 f5 f6 i0 i1 w0) k =
  L276v9 u n0 f0 (f1 i0.toNat 1).str n1 f1 i1 i0 (idxN n0 f0 (f1 i0.toNat 2).str) (idxF n0 f0 (f1 i0.toNat 2).str) (Int.ofNat (idxN n0 f0 (f1 i0.toNat 2).str)) w0 n2 f2 n3 f3 n4 f4 n5 f5 (f1 i0.toNat 0).int (f1 i0.toNat 2).str u 0 n6 f6 (fun x0 x1=>k (.exit 3) (s276v3 n0 n1 n2 n3 n4 n5 x0 f0 f1 f2 f3 f4 f5 x1 i1 i0 (f1 i0.toNat 0).int w0 (f1 i0.toNat 1).str (f1 i0.toNat 2).str)) :=
 Eq.trans (loopN_at (by kernel_rfl)) (q276v9 ..)
theorem g276v6 :
  (kBlk 3 (kBlk 1 (kSeq (C9 u) u (6 :: 7 :: 8 :: 10 :: 12 :: (rl 24 41 [])) A55v8 (kLoop (eB A55v10 (C9 u) u) N276v13 m k)))) (.exit 3) (s276v3 n0 n1 n2 n3 n4 n5 n6 f0 f1 f2 f3 f4 f5 f6 i0 i1 (f1 i1.toNat 0).int w0 (f1 i1.toNat 1).str (f1 i1.toNat 2).str) =
  (loopH (eB A55v10 (C9 u) u) N276v13 m (s276v10 n0 n1 n2 n3 n4 n5 n6 f0 f1 f2 f3 f4 f5 f6 i0 (w64 (i1+1)) w0) k):=by kernel_rfl
theorem t276v7 :
  loopN (eB A55v6 (C9 u) u) N276v12 u (s276v13 n0 n1 n2 n3 n4 n5 n6 f0 f1 f2 f3 f4 f5 f6 i0 i1 w0) k =
  L276v12 u n0 f0 (f1 i0.toNat 2).str n1 f1 i1 i0 (idxN n0 f0 (f1 i0.toNat 1).str) (idxF n0 f0 (f1 i0.toNat 1).str) (Int.ofNat (idxN n0 f0 (f1 i0.toNat 1).str)) w0 n2 f2 n3 f3 n4 f4 n5 f5 (f1 i0.toNat 0).int (f1 i0.toNat 1).str u 0 n6 f6 (fun x0 x1=>k (.exit 3) (s276v8 n0 n1 n2 n3 n4 n5 x0 f0 f1 f2 f3 f4 f5 x1 i1 i0 (f1 i0.toNat 0).int w0 (f1 i0.toNat 1).str (f1 i0.toNat 2).str)) :=
 Eq.trans (loopN_at (by kernel_rfl)) (q276v12 ..)
theorem g276v8 :
  (kBlk 3 (kBlk 1 (kSeq (C9 u) u (6 :: 7 :: 8 :: 10 :: 12 :: (rl 24 41 [])) A55v8 (kLoop (eB A55v10 (C9 u) u) N276v13 m k)))) (.exit 3) (s276v8 n0 n1 n2 n3 n4 n5 n6 f0 f1 f2 f3 f4 f5 f6 i0 i1 (f1 i1.toNat 0).int w0 (f1 i1.toNat 1).str (f1 i1.toNat 2).str) =
  (loopH (eB A55v10 (C9 u) u) N276v13 m (s276v10 n0 n1 n2 n3 n4 n5 n6 f0 f1 f2 f3 f4 f5 f6 i0 (w64 (i1+1)) w0) k):=by kernel_rfl
theorem q276v13:∀ (m:Nat) (x0:Int) (x1:Nat) (x2:FF),
  loopH (eB A55v10 (C9 u) u) N276v13 m (s276v10 n0 n1 n2 n3 n4 n5 x1 f0 f1 f2 f3 f4 f5 x2 i0 x0 w0) k=L276v13 u n0 f0 n1 f1 i0 w0 n2 f2 n3 f3 n4 f4 n5 f5 m x0 x1 x2 (fun x3 x4=>k (.exit 0) (s276v11 n2 n3 n4 n5 n1 x3 f2 f3 f4 f5 f1 x4 w0))
 | 0,_,_,_=>rfl
 | m+1,x0,x1,x2=>by
  rw [r276v13]
  simp only [L276v13,q276v13 m,t276v5,g276v6,t276v7,g276v8]
def FT276 (x0:ByteArray) (x1:Nat) (x2:FF) (x3:Nat) (x4:FF) (x5:Nat) (x6:FF) (x7:Nat) (x8:FF) (x9:Nat) (xA:FF):Option (Nat × FF) :=
 (ob (F251 u x0 x1 x2 x3 x4 x5 x6 x7 x8 x9 xA) fun xB=>(ob (F275 u xB.1 xB.2) fun xC=>(L276v13 u xC.1 xC.2 x9 xA (Int.ofNat x9) x0 x1 x2 x3 x4 x5 x6 x7 x8 u 0 0 (fun _ _=>.any)
  (fun xD xE=>(some (xD,xE))))))
def s276v14 (x0 x1:Nat × FF):St:=⟨[.agg [(vcs w0),(.c (ro kF n0 f0)),(.c (ro kB n1 f1)),(.c (ro kI n2 f2)),(.c (ro kD n3 f3)),(.c (ro kG n4 f4))],.x (.ptr 0 0),.x (vcn),.x (.c (.mp x0.1 x0.2)),.x (.own 1 0 0),uu,uu,uu,uu,uu,uu,uu,uu,uu,uu,.agg [(vcs w0),(.c (ro kF n0 f0)),(.c (ro kB n1 f1)),(.c (ro kI n2 f2)),(.c (ro kD n3 f3)),(.c (ro kG n4 f4))],.x (.c (ro kO x1.1 x1.2)),.x (.c (.mp x0.1 x0.2)),.x (.own 1 0 0),.x (.ptr 0 5),.x (.c (ro kG n4 f4)),vxi (Int.ofNat n4),vxi 0,uu,uu,uu,uu,uu,uu,uu,uu,uu,uu,uu,uu,uu,uu,uu,uu,uu,uu,uu,uu,uu,uu,uu,uu,uu,uu,uu,uu,uu,uu,uu,uu,uu,uu,uu,uu,uu,uu,uu,uu,uu,uu,uu,uu,uu,uu,uu,uu,uu,uu,uu,uu,uu,uu,uu,uu],[.box [(vcs w0),(.c (ro kF n0 f0)),(.c (ro kB n1 f1)),(.c (ro kI n2 f2)),(.c (ro kD n3 f3)),(.c (ro kG n4 f4))],.set false 0 nilF]⟩
theorem t276v9 (x0 x1:Nat × FF) :
  loopN (eB A55v10 (C9 u) u) N276v13 u (s276v14 n0 n1 n2 n3 n4 f0 f1 f2 f3 f4 w0 x0 x1) k =
  L276v13 u x0.1 x0.2 n4 f4 (Int.ofNat n4) w0 n0 f0 n1 f1 n2 f2 n3 f3 u 0 0 nilF (fun x2 x3=>k (.exit 0) (s276v11 n0 n1 n2 n3 n4 x2 f0 f1 f2 f3 f4 x3 w0)) :=
 Eq.trans (loopN_at (by kernel_rfl)) (q276v13 ..)
theorem g276v10 :
  (kBlk 0 (kSeq (C9 u) u (6 :: 7 :: 8 :: 10 :: 12 :: (rl 19 47 [])) A55v11 (finish A55))) (.exit 0) (s276v11 n0 n1 n2 n3 n4 n5 f0 f1 f2 f3 f4 f5 w0) =
  (some [.v (ro kP n5 f5)]):=by kernel_rfl
theorem e276:evalF (C9 u) u A55 [.agg [(.s w0),(ro kF n0 f0),(ro kB n1 f1),(ro kI n2 f2),(ro kD n3 f3),(ro kG n4 f4)]]=ob (FT276 u w0 n0 f0 n1 f1 n2 f2 n3 f3 n4 f4) fun t=>some [.v (ro kP t.1 t.2)]:=Eq.trans (b:=(ob (F251 u w0 n0 f0 n1 f1 n2 f2 n3 f3 n4 f4) fun x0=>(ob (F275 u x0.1 x0.2) fun x1=>(loopN (eB A55v10 (C9 u) u) N276v13 u (s276v14 n0 n1 n2 n3 n4 f0 f1 f2 f3 f4 w0 x1 x0) (kBlk 0 (kSeq (C9 u) u (6 :: 7 :: 8 :: 10 :: 12 :: (rl 19 47 [])) A55v11 (finish A55))))))) (by kernel_rfl) (by
 simp only [FT276,ob_bif,ob_ob,ob_none,ob_some,nl276v13,t276v9,g276v10])
def F276 (x0:ByteArray) (x1:Nat) (x2:FF) (x3:Nat) (x4:FF) (x5:Nat) (x6:FF) (x7:Nat) (x8:FF) (x9:Nat) (xA:FF):Option (Nat × FF):=sortX (FT276 u x0 x1 x2 x3 x4 x5 x6 x7 x8 x9 xA)
def O276:Ora:=mkO (q1 (ag (tc cS (tc (cL kF) (tc (cL kB) (tc (cL kI) (tc (cL kD) (t1 (cL kG))))))))) (fun x=>F276 u x.1 x.2.1.1 x.2.1.2 x.2.2.1.1 x.2.2.1.2 x.2.2.2.1.1 x.2.2.2.1.2 x.2.2.2.2.1.1 x.2.2.2.2.1.2 x.2.2.2.2.2.1 x.2.2.2.2.2.2) fun t=>[.v (ro kP t.1 t.2)]
theorem p276 (n:Nat) (g:FF):evalC (C9 u) u P55 ⟨colE n,[.arr prK n g]⟩ (finish ⟨79,[.tmp 2],P55⟩)=ob (sortT n g) fun g2=>bif Nat.beq n n then (bif Nat.beq n 0 then some [.v (ro prK n g)] else some [.v (ro prK n g2)]) else none:=by kernel_rfl
theorem d276:DOM 117 46 102 (O276 u) (C9 u) 55 A55 P55 [.tmp 2]:=dM u (fun x=>by exact e276 u x.2.1.1 x.2.2.1.1 x.2.2.2.1.1 x.2.2.2.2.1.1 x.2.2.2.2.2.1 x.2.1.2 x.2.2.1.2 x.2.2.2.1.2 x.2.2.2.2.1.2 x.2.2.2.2.2.2 x.1) (fun n g=>by exact p276 u n g)
def C10:Oracle:=(C9 u).add 55 (fun _=>true) (O276 u)
def A71v1:AC:=(.seq (.region 6 [o1 33 (.indexAddrA 46 3 2 1 (tm 6) (ic 0)),o1 34 (lo 3 33),o1 35 (.indexAddrA 46 3 2 1 (tm 6) (ic 1)),o1 36 (lo 3 35),o1 37 (bt .eql 3 34 36)] 0 none) []
 (.cond (tm 37)
 (.seq (.region 7 [o1 4 (sk 2)] 0 none) []
  (.ret (rl 0 4 (rl 5 34 []))))
 .skip))
def A71v2:AC:=(.region 8 [o1 38 (bk .add 3 9 1),mv 9 38] 0 none)
def A71v3:AC:=(.seq (.block 1
 (.seq (.region 3 [o1 11 (.indexAddr 102 46 2 (tm 7) (tm 9)),o1 12 (ln 46 2 11),o1 6 (.alloc 0 46 [vci 0,vci 0]),o0 (.store 46 2 (tm 6) (tm 12))] 1 none) []
  (.seq (.seq (.region 4 [o1 13 (.indexAddrA 46 3 2 1 (tm 6) (ic 0)),o1 14 (lo 3 13),o1 15 (bk .lss 3 14 0),mv 16 15,og 17 (.indexAddrA 46 3 2 1 (tm 6) (ic 0)) 16 false,og 18 (lo 3 17) 16 false,og 19 (.move (tm 0)) 16 false,og 20 (bt .geq 3 18 19) 16 false,o1 21 (pa 16 20),mv 22 21,og 23 (.indexAddrA 46 3 2 1 (tm 6) (ic 1)) 22 false,og 24 (lo 3 23) 22 false,og 25 (bk .lss 3 24 0) 22 false,o1 26 (pa 22 25),mv 27 26,og 28 (.indexAddrA 46 3 2 1 (tm 6) (ic 1)) 27 false,og 29 (lo 3 28) 27 false,og 30 (.move (tm 0)) 27 false,og 31 (bt .geq 3 29 30) 27 false,o1 32 (pa 27 31)] 0 none) []
  (.cond (tm 32)
  (.seq (.region 5 [o1 4 (sk 9)] 0 none) []
   (.ret (rl 0 4 (rl 5 34 []))))
  .skip)) (4 :: (rl 13 20 []))
  A71v1))) (4 :: 6 :: (rl 11 27 []))
 A71v2)
def A71v4:AC:=(.seq (.region 2 [o1 10 (bt .lss 3 9 8)] 0 none) []
 (.seq (.cond (tm 10)
 .skip
 (.exit 0 (rl 0 39 []))) []
 A71v3))
def A71v5:AC:=(.seq (.region 9 [o1 4 (sk 0)] 0 none) []
 (.ret (rl 0 4 (rl 5 34 []))))
def A71:AF:=⟨39,[.tmp 4],
 (.seq (.region 0 [o1 4 (sk 0)] 0 none) []
 (.seq (.seq (.region 1 [mv 7 1,o1 8 (.len 102 false (tm 7)),o1 9 (.move (ic 0))] 0 none) []
 (.block 0
 (.loop [] (rl 1 6 (rl 10 29 []))
  A71v4))) (4 :: (rl 6 33 []))
 A71v5))⟩
def N224v1:St→Option St:=nN 0 (rl 1 6 (rl 10 29 []))
def s224v0:St:=⟨(vxi i0 :: (us 6 (.x (.c (ro kP n0 f0)) :: vxi i1 :: vxi i2 :: (us 29 [])))),[]⟩
def s224v1:St:=⟨(us 4 (vxi i0 :: (us 34 []))),[.box [(vci i1),(vci i2)]]⟩
def s224v2:St:=⟨(us 39 []),[]⟩
def L224v1 {ρ:Type} (u:Nat) (x0:Int) (x1:Nat) (x2:FF) (x3:Int):Nat→Int→(Int→Int→Int→Option ρ)→(Option ρ)→Option ρ
 | 0,_,_,_=>none
 | m+1,x4,k0,k1 =>
  (bif (decide (x4<x3)) then (bif (inb x4 x1) then (bif ((decide ((x2 x4.toNat 0).int<0))==false) then (bif ((decide ((x2 x4.toNat 0).int≥x0))==false) then (bif ((decide ((x2 x4.toNat 1).int<0))==false) then (bif (decide ((x2 x4.toNat 1).int≥x0)) then (k0 9 (x2 x4.toNat 0).int (x2 x4.toNat 1).int) else (bif ((x2 x4.toNat 0).int==(x2 x4.toNat 1).int) then (k0 2 (x2 x4.toNat 0).int (x2 x4.toNat 1).int) else (L224v1 u x0 x1 x2 x3 m (w64 (x4+1)) k0 k1))) else (k0 9 (x2 x4.toNat 0).int (x2 x4.toNat 1).int)) else (k0 9 (x2 x4.toNat 0).int (x2 x4.toNat 1).int)) else (k0 9 (x2 x4.toNat 0).int (x2 x4.toNat 1).int)) else none) else k1)
theorem nl224v1:∀ (m:Nat) (x0:Int) (k0:Int→Int→Int→Option ρ) (k1:Option ρ),ob (L224v1 u i0 n0 f0 i1 m x0 k0 k1) ng=L224v1 u i0 n0 f0 i1 m x0 (fun x1 x2 x3=>ob (k0 x1 x2 x3) ng) (ob k1 ng)
 | 0,_,_,_=>rfl
 | m+1,x0,k0,k1=>by
  simp only [L224v1,ob_bif,ob_ob,ob_none,nl224v1 m]
theorem q224v1:∀ (m:Nat) (x0:Int),
  loopH (eB A71v4 (C10 u) u) N224v1 m (s224v0 n0 f0 i0 i1 x0) k=L224v1 u i0 n0 f0 i1 m x0 (fun x1 x2 x3=>k .ret (s224v1 x1 x2 x3)) (k (.exit 0) s224v2)
 | 0,_=>rfl
 | m+1,x0=>by
  simp only [L224v1,← q224v1 m]
  kernel_rfl
def F224 (x0:Int) (x1:Nat) (x2:FF):Option (Int) :=
 (L224v1 u x0 x1 x2 (Int.ofNat x1) u 0
  (fun x3 x4 x5=>(some x3))
  (some 0))
def s224v3:St:=⟨[vxi i0,.x (.c (ro kP n0 f0)),uu,uu,vxi 0,uu,uu,.x (.c (ro kP n0 f0)),vxi (Int.ofNat n0),vxi 0,uu,uu,uu,uu,uu,uu,uu,uu,uu,uu,uu,uu,uu,uu,uu,uu,uu,uu,uu,uu,uu,uu,uu,uu,uu,uu,uu,uu,uu],[]⟩
theorem t224v1 :
  loopN (eB A71v4 (C10 u) u) N224v1 u (s224v3 n0 f0 i0) k =
  L224v1 u i0 n0 f0 (Int.ofNat n0) u 0 (fun x0 x1 x2=>k .ret (s224v1 x0 x1 x2)) (k (.exit 0) s224v2) :=
 Eq.trans (loopN_at (by kernel_rfl)) (q224v1 ..)
theorem g224v2 :
  (kBlk 0 (kSeq (C10 u) u (4 :: (rl 6 33 [])) A71v5 (finish A71))) .ret (s224v1 i0 i1 i2) =
  (some [.v (vi i0)]):=by kernel_rfl
theorem g224v3 :
  (kBlk 0 (kSeq (C10 u) u (4 :: (rl 6 33 [])) A71v5 (finish A71))) (.exit 0) s224v2 =
  (some [.v (vi 0)]):=by kernel_rfl
theorem e224:evalF (C10 u) u A71 [.v (vi i0),.v (ro kP n0 f0)]=ob (F224 u i0 n0 f0) fun t=>some [.v (vi t)]:=Eq.trans (b:=(loopN (eB A71v4 (C10 u) u) N224v1 u (s224v3 n0 f0 i0) (kBlk 0 (kSeq (C10 u) u (4 :: (rl 6 33 [])) A71v5 (finish A71))))) (by kernel_rfl) (by
 simp only [F224,ob_bif,ob_ob,ob_none,ob_some,nl224v1,t224v1,g224v2,g224v3])
def O224:Ora:=mkO (qc (av ci) (q1 (av (cL kP)))) (fun x=>F224 u x.1 x.2.1 x.2.2) fun t=>[.v (vi t)]
theorem d224:DO (O224 u) (C10 u) 71 A71:=dO u (fun x=>by exact e224 u x.2.1 x.2.2 x.1)
def C11:Oracle:=(C10 u).add 71 (fun _=>true) (O224 u)
def A54v1:AC:=(.seq (.block 1
 (.seq (.region 9 [o1 33 (.indexAddr 102 46 2 (tm 29) (tm 31)),o1 34 (ln 46 2 33),o1 9 (.alloc 0 46 [vci 0,vci 0]),o0 (.store 46 2 (tm 9) (tm 34))] 1 none) []
  (.region 10 [mv 35 7,o1 36 (.indexAddrA 46 3 2 1 (tm 9) (ic 1)),o1 37 (lo 3 36),o1 38 (.indexAddr 73 3 1 (tm 35) (tm 37)),o1 39 (lo 3 38),o1 40 (bk .add 3 39 1),o1 41 (.indexAddr 73 3 1 (tm 35) (tm 37)),o0 (.store 3 1 (tm 41) (tm 40))] 0 none))) []
 (.region 11 [o1 42 (bk .add 3 31 1),mv 31 42] 0 none))
def A54v2:AC:=(.seq (.region 8 [o1 32 (bt .lss 3 31 30)] 0 none) []
 (.seq (.cond (tm 32)
 .skip
 (.exit 0 (rl 2 5 (rl 8 85 [])))) []
 A54v1))
def A54v3:AC:=(.region 26 [o1 90 (bk .add 3 75 1),mv 75 90] 0 none)
def A54v4:AC:=(.seq (.block 7
 (.seq (.region 23 [o1 77 (.indexAddr 102 46 2 (tm 73) (tm 75)),o1 78 (ln 46 2 77),o1 14 (.alloc 0 46 [vci 0,vci 0]),o0 (.store 46 2 (tm 14) (tm 78))] 1 none) []
  (.seq (.region 24 [o1 79 (.indexAddrA 46 3 2 1 (tm 14) (ic 0)),o1 80 (lo 3 79),mv 81 12,o1 82 (bt .eql 3 80 81)] 0 none) []
  (.cond (tm 82)
  (.region 25 [mv 83 7,o1 84 (.indexAddrA 46 3 2 1 (tm 14) (ic 1)),o1 85 (lo 3 84),o1 86 (.indexAddr 73 3 1 (tm 83) (tm 85)),o1 87 (lo 3 86),o1 88 (bk .sub 3 87 1),o1 89 (.indexAddr 73 3 1 (tm 83) (tm 85)),o0 (.store 3 1 (tm 89) (tm 88))] 0 none)
  .skip)))) (14 :: (rl 77 13 []))
 A54v3)
def A54v5:AC:=(.seq (.region 22 [o1 76 (bt .lss 3 75 74)] 0 none) []
 (.seq (.cond (tm 76)
 .skip
 (.exit 6 (rl 2 5 (8 :: 9 :: (rl 12 81 []))))) []
 A54v4))
def A54v6:AC:=(.seq (.region 19 [mv 66 11,mv 67 12,o1 68 (.indexAddr 71 4 1 (tm 66) (tm 67)),o0 (.store 4 1 (tm 68) (.const (.bool true)))] 0 none) []
 (.seq (.region 20 [mv 69 10,mv 70 12,o1 71 (.buildSlice 0 73 3 kM 1 [vci 0] [(0,(tm 70))]),o1 72 (.append 1 73 3 kM 8 (tm 69) (tm 71)),o1 10 (sg 72)] 2 none) []
 (.seq (.seq (.region 21 [mv 73 1,o1 74 (.len 102 false (tm 73)),o1 75 (.move (ic 0))] 0 none) []
 (.block 6
 (.loop [] (rl 2 5 (8 :: 9 :: (rl 13 60 (rl 76 17 []))))
  A54v5))) (14 :: (rl 73 18 []))
 (.exit 3 (rl 2 5 (8 :: 9 :: (rl 12 81 [])))))))
def A54v7:AC:=(.region 27 [o1 91 (bk .add 3 52 1),mv 52 91] 0 none)
def A54v8:AC:=(.seq (.block 5
 (.seq (.region 17 [mv 54 52,o1 12 (sg 54)] 0 none) []
  (.seq (.seq (.region 18 [mv 55 11,mv 56 12,o1 57 (.indexAddr 71 4 1 (tm 55) (tm 56)),o1 58 (lo 4 57),mv 59 58,og 60 (.move (tm 7)) 59 false,og 61 (.move (tm 12)) 59 false,og 62 (.indexAddr 73 3 1 (tm 60) (tm 61)) 59 false,og 63 (lo 3 62) 59 false,og 64 (bk .gtr 3 63 0) 59 false,o1 65 (pa 59 64)] 0 none) []
  (.cond (tm 65)
  (.exit 5 (rl 2 5 (8 :: 9 :: (rl 12 39 (rl 53 40 [])))))
  .skip)) (rl 55 11 [])
  A54v6))) (12 :: 14 :: (rl 54 37 []))
 A54v7)
def A54v9:AC:=(.seq (.region 16 [o1 53 (bt .lss 3 52 51)] 0 none) []
 (.seq (.cond (tm 53)
 .skip
 (.exit 4 (rl 0 93 []))) []
 A54v8))
def A54v10:AC:=(.seq (.region 28 [o1 4 (.assign (.const (.slice none 0 0))),o1 5 (sk 20)] 0 none) []
 (.ret (rl 0 4 (rl 6 87 []))))
def A54v11:AC:=(.block 3
 (.seq (.seq (.region 15 [mv 51 0,o1 52 (.move (ic 0))] 0 none) []
  (.block 4
  (.loop [.slot 10 kM] (rl 2 5 (8 :: 9 :: (rl 12 39 (rl 53 40 []))))
   A54v9))) (10 :: 12 :: 14 :: (rl 51 41 []))
  A54v10))
def A54v12:AC:=(.seq (.seq (.region 14 [mv 47 10,o1 48 (.len 73 false (tm 47)),mv 49 0,o1 50 (bt .lss 3 48 49)] 0 none) []
 (.cond (tm 50)
 .skip
 (.exit 2 (rl 0 10 (rl 11 82 []))))) (rl 47 4 [])
 A54v11)
def A54v13:AC:=(.seq (.region 29 [mv 92 10,o1 4 (sg 92),o1 5 (sk 0)] 0 none) []
 (.ret (rl 0 4 (rl 6 87 []))))
def A54v14:AC:=(.seq (.region 12 [mv 43 0,o1 44 (.makeSlice 0 73 3 kM 8 [(vi 0)] (ic 0) (tm 43)),o1 10 (sg 44)] 1 none) []
 (.seq (.region 13 [mv 45 0,o1 46 (.makeSlice 0 71 4 kN 1 [(.b false)] (tm 45) (tm 45)),o1 11 (sg 46)] 1 none) []
 (.seq (.label 0) []
 (.seq (.block 2
 (.loop [.slot 10 kM] (rl 2 5 (8 :: 9 :: (rl 12 81 [])))
  A54v12)) (4 :: 5 :: 12 :: 14 :: (rl 47 45 []))
 A54v13))))
def A54v15:AC:=(.seq (.region 6 [mv 27 0,o1 28 (.makeSlice 0 73 3 kM 8 [(vi 0)] (tm 27) (tm 27)),o1 7 (sg 28)] 1 none) []
 (.seq (.seq (.region 7 [mv 29 1,o1 30 (.len 102 false (tm 29)),o1 31 (.move (ic 0))] 0 none) []
 (.block 0
 (.loop [] (rl 2 5 (rl 8 21 (rl 32 61 [])))
  A54v2))) (9 :: (rl 29 14 []))
 A54v14))
def A54v16:AC:=(.seq (.seq (.region 3 [mv 21 0,mv 22 1,o1 23 (cs 71 [21,22] [3,102]),o1 6 (sg 23)] 0 none) []
 (.seq (.region 4 [mv 24 6,o1 25 (bk .neq 35 24 0)] 0 none) []
 (.cond (tm 25)
 (.seq (.region 5 [mv 26 6,o1 4 (.assign (.const (.slice none 0 0))),o1 5 (sg 26)] 0 none) []
  (.ret (rl 0 4 (rl 6 87 []))))
 .skip))) (4 :: 5 :: 6 :: (rl 21 6 []))
 A54v15)
def A54:AF:=⟨93,[.tmp 4,.tmp 5],
 (.seq (.region 0 [o1 4 (.assign (.const (.slice none 0 0))),o1 5 (sk 0)] 0 none) []
 (.scope
 (.seq (.seq (.region 1 [mv 15 0,o1 16 (bk .lss 3 15 0),mv 17 16,og 18 (.move (tm 0)) 17 false,og 19 (bk .gtr 3 18 256) 17 false,o1 20 (pa 17 19)] 0 none) []
  (.cond (tm 20)
  (.seq (.region 2 [o1 4 (.assign (.const (.slice none 0 0))),o1 5 (sk 9)] 0 none) []
   (.ret (rl 0 4 (rl 6 87 []))))
  .skip)) (4 :: 5 :: (rl 15 6 []))
  A54v16)))⟩
def N225v1:St→Option St:=nN 1 (rl 2 5 (rl 8 21 (rl 32 61 [])))
def s225v0:St:=⟨(vxi i0 :: .x (.c (ro kP n0 f0)) :: (us 5 (.x (.own 0 0 n1) :: (us 21 (.x (.c (ro kP n0 f0)) :: vxi i1 :: vxi i2 :: (us 61 [])))))),[.arr kM n1 f1]⟩
def s225v1:St:=⟨(vxi i0 :: .x (.c (ro kP n0 f0)) :: (us 5 (.x (.own 0 0 n1) :: (us 85 [])))),[.arr kM n1 f1]⟩
def L225v1 {ρ:Type} (u:Nat) (x0:Int) (x1:Nat) (x2:FF) (x3:Nat) (x4:Int):Nat→Int→FF→(FF→Option ρ)→Option ρ
 | 0,_,_,_=>none
 | m+1,x5,x6,k0 =>
  (bif (decide (x5<x4)) then (bif (inb x5 x1) then (bif (inb (x2 x5.toNat 1).int x3) then (bif (inb (x2 x5.toNat 1).int x3) then (L225v1 u x0 x1 x2 x3 x4 m (w64 (x5+1)) (setF x6 (0+(Int.toNat (x2 x5.toNat 1).int)) 0 1 (listF [(.i .i64 (w64 ((CV.int (x6 (0+(Int.toNat (x2 x5.toNat 1).int)) 0))+1)))])) k0) else none) else none) else none) else (k0 x6))
theorem nl225v1:∀ (m:Nat) (x0:Int) (x1:FF) (k0:FF→Option ρ),ob (L225v1 u i0 n0 f0 n1 i1 m x0 x1 k0) ng=L225v1 u i0 n0 f0 n1 i1 m x0 x1 (fun x2=>ob (k0 x2) ng)
 | 0,_,_,_=>rfl
 | m+1,x0,x1,k0=>by
  simp only [L225v1,ob_bif,ob_ob,ob_none,nl225v1 m]
theorem q225v1:∀ (m:Nat) (x0:Int) (x1:FF),
  loopH (eB A54v2 (C11 u) u) N225v1 m (s225v0 n0 n1 f0 x1 i0 i1 x0) k=L225v1 u i0 n0 f0 n1 i1 m x0 x1 (fun x2=>k (.exit 0) (s225v1 n0 n1 f0 x2 i0))
 | 0,_,_=>rfl
 | m+1,x0,x1=>by
  simp only [L225v1,← q225v1 m]
  kernel_rfl
def N225v6:St→Option St:=nN 5 (rl 2 5 (8 :: 9 :: (rl 13 60 (rl 76 17 []))))
def s225v2:St:=⟨(vxi i0 :: .x (.c (ro kP n0 f0)) :: (us 5 (.x (.own 0 0 n1) :: .u :: .u :: .x (.own 1 0 n2) :: .x (.own 2 0 n1) :: vxi i1 :: (us 60 (.x (.c (ro kP n0 f0)) :: vxi i2 :: vxi i3 :: (us 17 [])))))),[.arr kM n1 f1,.arr kM n2 f2,.arr kN n1 f3,.arr kM 1 f4,.rsv]⟩
def s225v3:St:=⟨(vxi i0 :: .x (.c (ro kP n0 f0)) :: (us 5 (.x (.own 0 0 n1) :: .u :: .u :: .x (.own 1 0 n2) :: .x (.own 2 0 n1) :: (us 81 [])))),[.arr kM n1 f1,.arr kM n2 f2,.arr kN n1 f3,.arr kM 1 f4,.rsv]⟩
def L225v6 {ρ:Type} (u:Nat) (x0:Int) (x1:Nat) (x2:FF) (x3 x4:Nat) (x5 x6:Int) (x7 x8 x9:FF):Nat→Int→FF→(FF→Option ρ)→Option ρ
 | 0,_,_,_=>none
 | m+1,xA,xB,k0 =>
  (bif (decide (xA<x6)) then (bif (inb xA x1) then (bif ((x2 xA.toNat 0).int==x5) then (bif (inb (x2 xA.toNat 1).int x3) then (bif (inb (x2 xA.toNat 1).int x3) then (L225v6 u x0 x1 x2 x3 x4 x5 x6 x7 x8 x9 m (w64 (xA+1)) (setF xB (0+(Int.toNat (x2 xA.toNat 1).int)) 0 1 (listF [(.i .i64 (w64 ((CV.int (xB (0+(Int.toNat (x2 xA.toNat 1).int)) 0))-1)))])) k0) else none) else none) else (L225v6 u x0 x1 x2 x3 x4 x5 x6 x7 x8 x9 m (w64 (xA+1)) xB k0)) else none) else (k0 xB))
theorem nl225v6:∀ (m:Nat) (x0:Int) (x1:FF) (k0:FF→Option ρ),ob (L225v6 u i0 n0 f0 n1 n2 i1 i2 f1 f2 f3 m x0 x1 k0) ng=L225v6 u i0 n0 f0 n1 n2 i1 i2 f1 f2 f3 m x0 x1 (fun x2=>ob (k0 x2) ng)
 | 0,_,_,_=>rfl
 | m+1,x0,x1,k0=>by
  simp only [L225v6,ob_bif,ob_ob,ob_none,nl225v6 m]
theorem q225v6:∀ (m:Nat) (x0:Int) (x1:FF),
  loopH (eB A54v5 (C11 u) u) N225v6 m (s225v2 n0 n1 n2 f0 x1 f1 f2 f3 i0 i1 i2 x0) k=L225v6 u i0 n0 f0 n1 n2 i1 i2 f1 f2 f3 m x0 x1 (fun x2=>k (.exit 6) (s225v3 n0 n1 n2 f0 x2 f1 f2 f3 i0))
 | 0,_,_=>rfl
 | m+1,x0,x1=>by
  simp only [L225v6,← q225v6 m]
  kernel_rfl
def N225v7:St→Option St:=nN 3 (rl 2 5 (8 :: 9 :: (rl 12 39 (rl 53 40 []))))
def s225v4:St:=⟨(vxi i0 :: .x (.c (ro kP n0 f0)) :: (us 5 (.x (.own 0 0 n1) :: .u :: .u :: .x (.own 1 0 n2) :: .x (.own 2 0 n1) :: (us 39 (vxi i0 :: vxi i1 :: (us 40 [])))))),[.arr kM n1 f1,.arr kM n2 f2,.arr kN n1 f3]⟩
def s225v5:St:=⟨(vxi i0 :: .x (.c (ro kP n0 f0)) :: (us 5 (.x (.own 0 0 n1) :: .u :: .u :: .x (.own 1 0 (n2+1)) :: .x (.own 2 0 n1) :: (us 81 [])))),[.arr kM n1 f1,.arr kM (n2+1) f2,.arr kN n1 f3,.arr kM 1 f4,.rsv]⟩
def s225v6:St:=⟨(us 93 []),[.arr kM n0 f0,.arr kM n1 f1,.arr kN n0 f2]⟩
def L225v7 {ρ:Type} (u:Nat) (x0:Int) (x1:Nat) (x2:FF) (x3 x4:Nat) (x5 x6 x7:FF):Nat→Int→(FF→FF→FF→FF→Option ρ)→(Option ρ)→Option ρ
 | 0,_,_,_=>none
 | m+1,x8,k0,k1 =>
  (bif (decide (x8<x0)) then (bif (inb x8 x3) then (bif ((x7 (0+x8.toNat) 0).bool==false) then (bif (inb x8 x3) then (bif (decide ((x5 (0+x8.toNat) 0).int>0)) then (L225v7 u x0 x1 x2 x3 x4 x5 x6 x7 m (w64 (x8+1)) k0 k1) else (bif (inb x8 x3) then (bif (Nat.ble (x4+1) 1073741824) then (L225v6 u x0 x1 x2 x3 (x4+1) x8 (Int.ofNat x1) (joinF x4 x6 (rowsF 1 [(.i .i64 x8)])) (setF x7 (0+x8.toNat) 0 1 (listF [(.b true)])) (rowsF 1 [(.i .i64 x8)]) u 0 x5
  (fun x9=>(k0 x9 (joinF x4 x6 (rowsF 1 [(.i .i64 x8)])) (setF x7 (0+x8.toNat) 0 1 (listF [(.b true)])) (rowsF 1 [(.i .i64 x8)])))) else none) else none)) else none) else (L225v7 u x0 x1 x2 x3 x4 x5 x6 x7 m (w64 (x8+1)) k0 k1)) else none) else k1)
theorem nl225v7:∀ (m:Nat) (x0:Int) (k0:FF→FF→FF→FF→Option ρ) (k1:Option ρ),ob (L225v7 u i0 n0 f0 n1 n2 f1 f2 f3 m x0 k0 k1) ng=L225v7 u i0 n0 f0 n1 n2 f1 f2 f3 m x0 (fun x1 x2 x3 x4=>ob (k0 x1 x2 x3 x4) ng) (ob k1 ng)
 | 0,_,_,_=>rfl
 | m+1,x0,k0,k1=>by
  simp only [L225v7,ob_bif,ob_ob,ob_none,nl225v7 m,nl225v6]
def s225v7:St:=⟨(vxi i0 :: .x (.c (ro kP n0 f0)) :: (us 5 (.x (.own 0 0 n1) :: .u :: .u :: .x (.own 1 0 (n2+1)) :: .x (.own 2 0 n1) :: vxi i1 :: (us 38 (vxi i0 :: vxi i1 :: vxb true :: vxi i1 :: (us 11 (.x (.own 2 0 n1) :: vxi i1 :: .x (.aptr 2 (0+i1.toNat) 0) :: .x .u :: vxi i1 :: .x (.own 3 0 1) :: .x (.own 1 0 (n2+1)) :: .x (.c (ro kP n0 f0)) :: vxi (Int.ofNat n0) :: vxi 0 :: (us 17 [])))))))),[.arr kM n1 f1,.arr kM (n2+1) (joinF n2 f2 (rowsF 1 [(vi i1)])),.arr kN n1 (setF f3 (0+i1.toNat) 0 1 (listF [(.b true)])),.arr kM 1 (rowsF 1 [(vi i1)]),.rsv]⟩
theorem r225v7 :
  loopH (eB A54v9 (C11 u) u) N225v7 (m+1) (s225v4 n0 n1 n2 f0 f1 f2 f3 i0 i1) k =
  (bif (decide (i1<i0)) then (bif (inb i1 n1) then (bif ((f3 (0+i1.toNat) 0).bool==false) then (bif (inb i1 n1) then (bif (decide ((f1 (0+i1.toNat) 0).int>0)) then (loopH (eB A54v9 (C11 u) u) N225v7 m (s225v4 n0 n1 n2 f0 f1 f2 f3 i0 (w64 (i1+1))) k) else (bif (inb i1 n1) then (bif (Nat.ble (n2+1) 1073741824) then (loopN (eB A54v5 (C11 u) u) N225v6 u (s225v7 n0 n1 n2 f0 f1 f2 f3 i0 i1) (kBlk 6 (kSeq (C11 u) u (14 :: (rl 73 18 [])) (.exit 3 (rl 2 5 (8 :: 9 :: (rl 12 81 [])))) (kBlk 5 (kSeq (C11 u) u (12 :: 14 :: (rl 54 37 [])) A54v7 (kLoop (eB A54v9 (C11 u) u) N225v7 m k)))))) else none) else none)) else none) else (loopH (eB A54v9 (C11 u) u) N225v7 m (s225v4 n0 n1 n2 f0 f1 f2 f3 i0 (w64 (i1+1))) k)) else none) else (k (.exit 4) (s225v6 n1 n2 f1 f2 f3))):=by kernel_rfl
theorem t225v1 :
  loopN (eB A54v5 (C11 u) u) N225v6 u (s225v7 n0 n1 n2 f0 f1 f2 f3 i0 i1) k =
  L225v6 u i0 n0 f0 n1 (n2+1) i1 (Int.ofNat n0) (joinF n2 f2 (rowsF 1 [(vi i1)])) (setF f3 (0+i1.toNat) 0 1 (listF [(.b true)])) (rowsF 1 [(vi i1)]) u 0 f1 (fun x0=>k (.exit 6) (s225v3 n0 n1 (n2+1) f0 x0 (joinF n2 f2 (rowsF 1 [(vi i1)])) (setF f3 (0+i1.toNat) 0 1 (listF [(.b true)])) (rowsF 1 [(vi i1)]) i0)) :=
 Eq.trans (loopN_at (by kernel_rfl)) (q225v6 ..)
theorem g225v2 :
  (kBlk 6 (kSeq (C11 u) u (14 :: (rl 73 18 [])) (.exit 3 (rl 2 5 (8 :: 9 :: (rl 12 81 [])))) (kBlk 5 (kSeq (C11 u) u (12 :: 14 :: (rl 54 37 [])) A54v7 (kLoop (eB A54v9 (C11 u) u) N225v7 m k))))) (.exit 6) (s225v3 n0 n1 (n2+1) f0 f1 (joinF n2 f2 (rowsF 1 [(vi i1)])) (setF f3 (0+i1.toNat) 0 1 (listF [(.b true)])) (rowsF 1 [(vi i1)]) i0) =
  (k (.exit 3) (s225v5 n0 n1 n2 f0 f1 (joinF n2 f2 (rowsF 1 [(vi i1)])) (setF f3 (0+i1.toNat) 0 1 (listF [(.b true)])) (rowsF 1 [(vi i1)]) i0)):=by kernel_rfl
theorem q225v7:∀ (m:Nat) (x0:Int),
  loopH (eB A54v9 (C11 u) u) N225v7 m (s225v4 n0 n1 n2 f0 f1 f2 f3 i0 x0) k=L225v7 u i0 n0 f0 n1 n2 f1 f2 f3 m x0 (fun x1 x2 x3 x4=>k (.exit 3) (s225v5 n0 n1 n2 f0 x1 x2 x3 x4 i0)) (k (.exit 4) (s225v6 n1 n2 f1 f2 f3))
 | 0,_=>rfl
 | m+1,x0=>by
  rw [r225v7]
  simp only [L225v7,q225v7 m,t225v1,g225v2]
def N225v8:St→Option St:=nN 3 (rl 2 5 (8 :: 9 :: (rl 12 81 [])))
def s225v8:St:=⟨(vxi i0 :: .x (.c (ro kP n0 f0)) :: (us 5 (.x (.own 0 0 n1) :: .u :: .u :: .x (.own 1 0 n2) :: .x (.own 2 0 n1) :: (us 81 [])))),[.arr kM n1 f1,.arr kM n2 f2,.arr kN n1 f3]⟩
def s225v9:St:=⟨(us 4 (.x (vcn) :: vxi 20 :: (us 87 []))),[.arr kM n0 f0,.arr kM n1 f1,.arr kN n0 f2]⟩
def s225v10:St:=⟨(us 10 (.x (.own 1 0 n0) :: (us 82 []))),[.arr kM n1 f0,.arr kM n0 f1,.arr kN n1 f2]⟩
def L225v8 {ρ:Type} (u:Nat) (x0:Int) (x1:Nat) (x2:FF) (x3:Nat):Nat→Nat→FF→FF→FF→(FF→Nat→FF→FF→Option ρ)→(Nat→FF→FF→FF→Option ρ)→Option ρ
 | 0,_,_,_,_,_,_=>none
 | m+1,x4,x5,x6,x7,k0,k1 =>
  (bif (decide ((Int.ofNat x4)<x0)) then (L225v7 u x0 x1 x2 x3 x4 x5 x6 x7 u 0
  (fun x8 x9 xA xB=>(L225v8 u x0 x1 x2 x3 m (x4+1) x8 x9 xA k0 k1))
  (k0 x5 x4 x6 x7)) else (k1 x4 x5 x6 x7))
theorem nl225v8:∀ (m:Nat) (x0:Nat) (x1 x2 x3:FF) (k0:FF→Nat→FF→FF→Option ρ) (k1:Nat→FF→FF→FF→Option ρ),ob (L225v8 u i0 n0 f0 n1 m x0 x1 x2 x3 k0 k1) ng=L225v8 u i0 n0 f0 n1 m x0 x1 x2 x3 (fun x4 x5 x6 x7=>ob (k0 x4 x5 x6 x7) ng) (fun x8 x9 xA xB=>ob (k1 x8 x9 xA xB) ng)
 | 0,_,_,_,_,_,_=>rfl
 | m+1,x0,x1,x2,x3,k0,k1=>by
  simp only [L225v8,ob_bif,ob_ob,ob_none,nl225v8 m,nl225v7]
def s225v11:St:=⟨(vxi i0 :: .x (.c (ro kP n0 f0)) :: (us 5 (.x (.own 0 0 n1) :: .u :: .u :: .x (.own 1 0 n2) :: .x (.own 2 0 n1) :: (us 39 (vxi i0 :: vxi 0 :: (us 40 [])))))),[.arr kM n1 f1,.arr kM n2 f2,.arr kN n1 f3]⟩
theorem r225v8 :
  loopH (eB A54v12 (C11 u) u) N225v8 (m+1) (s225v8 n0 n1 n2 f0 f1 f2 f3 i0) k =
  (bif (decide ((Int.ofNat n2)<i0)) then (loopN (eB A54v9 (C11 u) u) N225v7 u (s225v11 n0 n1 n2 f0 f1 f2 f3 i0) (kBlk 4 (kSeq (C11 u) u (10 :: 12 :: 14 :: (rl 51 41 [])) A54v10 (kBlk 3 (kLoop (eB A54v12 (C11 u) u) N225v8 m k))))) else (k (.exit 2) (s225v10 n2 n1 f1 f2 f3))):=by kernel_rfl
theorem t225v3 :
  loopN (eB A54v9 (C11 u) u) N225v7 u (s225v11 n0 n1 n2 f0 f1 f2 f3 i0) k =
  L225v7 u i0 n0 f0 n1 n2 f1 f2 f3 u 0 (fun x0 x1 x2 x3=>k (.exit 3) (s225v5 n0 n1 n2 f0 x0 x1 x2 x3 i0)) (k (.exit 4) (s225v6 n1 n2 f1 f2 f3)) :=
 Eq.trans (loopN_at (by kernel_rfl)) (q225v7 ..)
theorem g225v4 :
  (kBlk 4 (kSeq (C11 u) u (10 :: 12 :: 14 :: (rl 51 41 [])) A54v10 (kBlk 3 (kLoop (eB A54v12 (C11 u) u) N225v8 m k)))) (.exit 3) (s225v5 n0 n1 n2 f0 f1 f2 f3 f4 i0) =
  (loopH (eB A54v12 (C11 u) u) N225v8 m (s225v8 n0 n1 (n2+1) f0 f1 f2 f3 i0) k):=by kernel_rfl
theorem g225v5 :
  (kBlk 4 (kSeq (C11 u) u (10 :: 12 :: 14 :: (rl 51 41 [])) A54v10 (kBlk 3 (kLoop (eB A54v12 (C11 u) u) N225v8 m k)))) (.exit 4) (s225v6 n0 n1 f0 f1 f2) =
  (k .ret (s225v9 n0 n1 f0 f1 f2)):=by kernel_rfl
theorem q225v8:∀ (m:Nat) (x0:Nat) (x1 x2 x3:FF),
  loopH (eB A54v12 (C11 u) u) N225v8 m (s225v8 n0 n1 x0 f0 x1 x2 x3 i0) k=L225v8 u i0 n0 f0 n1 m x0 x1 x2 x3 (fun x4 x5 x6 x7=>k .ret (s225v9 n1 x5 x4 x6 x7)) (fun x8 x9 xA xB=>k (.exit 2) (s225v10 x8 n1 x9 xA xB))
 | 0,_,_,_,_=>rfl
 | m+1,x0,x1,x2,x3=>by
  rw [r225v8]
  simp only [L225v8,q225v8 m,t225v3,g225v4,g225v5]
def FT225 (x0:Int) (x1:Nat) (x2:FF):Option (Bool × Nat × FF × Int) :=
 (bif ((decide (x0<0))==false) then (bif (decide (x0>256)) then (some (true,0,(fun _ _=>.any),9)) else (ob (F224 u x0 x1 x2) fun x3=>(bif (x3 != 0) then (some (true,0,(fun _ _=>.any),x3)) else (bif (decide (0≤x0)&&decide (x0≤x0)&&decide (x0≤1073741824)&&true) then (L225v1 u x0 x1 x2 x0.toNat (Int.ofNat x1) u 0 (fun _ j=>listF [(.i .i64 0)] j)
  (fun x4=>(bif (decide (0≤0)&&decide (0≤x0)&&decide (x0≤1073741824)&&true) then (bif (decide (0≤x0)&&decide (x0≤x0)&&decide (x0≤1073741824)&&true) then (L225v8 u x0 x1 x2 x0.toNat u 0 x4 (fun _ j=>listF [(.i .i64 0)] j) (fun _ j=>listF [(.b false)] j)
  (fun x5 x6 x7 x8=>(some (true,0,(fun _ _=>.any),20)))
  (fun x9 xA xB xC=>(some (false,x9,xB,0)))) else none) else none))) else none)))) else (some (true,0,(fun _ _=>.any),9)))
def s225v12:St:=⟨(vxi i0 :: .x (.c (ro kP n0 f0)) :: uu :: uu :: (us 3 (.x (.own 0 0 i0.toNat) :: uu :: uu :: uu :: uu :: uu :: uu :: uu :: (us 12 [vxi i0,.x (.own 0 0 i0.toNat),.x (.c (ro kP n0 f0)),vxi (Int.ofNat n0),vxi 0,uu,uu,uu,uu,uu,uu,uu,uu,uu,uu,uu,uu,uu,uu,uu,uu,uu,uu,uu,uu,uu,uu,uu,uu,uu,uu,uu,uu,uu,uu,uu,uu,uu,uu,uu,uu,uu,uu,uu,uu,uu,uu,uu,uu,uu,uu,uu,uu,uu,uu,uu,uu,uu,uu,uu,uu,uu,uu,uu,uu,uu])))),[.arr kM i0.toNat (fun _ j=>listF [(vi 0)] j)]⟩
theorem t225v6 :
  loopN (eB A54v2 (C11 u) u) N225v1 u (s225v12 n0 f0 i0) k =
  L225v1 u i0 n0 f0 i0.toNat (Int.ofNat n0) u 0 (fun _ j=>listF [(vi 0)] j) (fun x0=>k (.exit 0) (s225v1 n0 i0.toNat f0 x0 i0)) :=
 Eq.trans (loopN_at (by kernel_rfl)) (q225v1 ..)
def s225v13:St:=⟨(vxi i0 :: .x (.c (ro kP n0 f0)) :: (us 5 (.x (.own 0 0 i0.toNat) :: .u :: .u :: .x (.own 1 0 0) :: .x (.own 2 0 i0.toNat) :: (us 31 (vxi i0 :: .x (.own 1 0 0) :: vxi i0 :: .x (.own 2 0 i0.toNat) :: (us 46 [])))))),[.arr kM i0.toNat f1,.arr kM 0 (fun _ j=>listF [(vi 0)] j),.arr kN i0.toNat (fun _ j=>listF [(.b false)] j)]⟩
theorem g225v7 :
  (kBlk 0 (kSeq (C11 u) u (9 :: (rl 29 14 [])) A54v14 (finish A54))) (.exit 0) (s225v1 n0 i0.toNat f0 f1 i0) =
  (bif (decide (0≤0)&&decide (0≤i0)&&decide (i0≤1073741824)&&true) then (bif (decide (0≤i0)&&decide (i0≤i0)&&decide (i0≤1073741824)&&true) then (loopN (eB A54v12 (C11 u) u) N225v8 u (s225v13 n0 f0 f1 i0) (kBlk 2 (kSeq (C11 u) u (4 :: 5 :: 12 :: 14 :: (rl 47 45 [])) A54v13 (finish A54)))) else none) else none):=by kernel_rfl
theorem t225v8 :
  loopN (eB A54v12 (C11 u) u) N225v8 u (s225v13 n0 f0 f1 i0) k =
  L225v8 u i0 n0 f0 i0.toNat u 0 f1 (fun _ j=>listF [(vi 0)] j) (fun _ j=>listF [(.b false)] j) (fun x0 x1 x2 x3=>k .ret (s225v9 i0.toNat x1 x0 x2 x3)) (fun x4 x5 x6 x7=>k (.exit 2) (s225v10 x4 i0.toNat x5 x6 x7)) :=
 Eq.trans (loopN_at (by kernel_rfl)) (q225v8 ..)
theorem g225v9 :
  (kBlk 2 (kSeq (C11 u) u (4 :: 5 :: 12 :: 14 :: (rl 47 45 [])) A54v13 (finish A54))) .ret (s225v9 i0.toNat n0 f0 f1 f2) =
  (some [.v (.ro true .nil 0 nilF),.v (vi 20)]):=by kernel_rfl
theorem g225v10 :
  (kBlk 2 (kSeq (C11 u) u (4 :: 5 :: 12 :: 14 :: (rl 47 45 [])) A54v13 (finish A54))) (.exit 2) (s225v10 n0 i0.toNat f0 f1 f2) =
  (some [.v (ro kM n0 f1),.v (vi 0)]):=by kernel_rfl
theorem e225:evalF (C11 u) u A54 [.v (vi i0),.v (ro kP n0 f0)]=ob (FT225 u i0 n0 f0) fun t=>some (bif t.1 then [.v (.ro true .nil 0 nilF),.v (vi t.2.2.2)] else [.v (ro kM t.2.1 t.2.2.1),.v (vi 0)]):=Eq.trans (b:=(bif ((decide (i0<0))==false) then (bif (decide (i0>256)) then (some [.v (.ro true .nil 0 nilF),.v (vi 9)]) else (ob (F224 u i0 n0 f0) fun x0=>(bif (x0 != 0) then (some [.v (.ro true .nil 0 nilF),.v (vi x0)]) else (bif (decide (0≤i0)&&decide (i0≤i0)&&decide (i0≤1073741824)&&true) then (loopN (eB A54v2 (C11 u) u) N225v1 u (s225v12 n0 f0 i0) (kBlk 0 (kSeq (C11 u) u (9 :: (rl 29 14 [])) A54v14 (finish A54)))) else none)))) else (some [.v (.ro true .nil 0 nilF),.v (vi 9)]))) (by kernel_rfl) (by
 simp only [FT225,ob_bif,ob_ob,ob_none,ob_some,nl225v1,nl225v8,t225v6,g225v7,t225v8,g225v9,g225v10,cond_true,cond_false])
def F225 (x0:Int) (x1:Nat) (x2:FF):Option (Nat × FF × Int):=ob (FT225 u x0 x1 x2) fun t=>some (bif t.1 then (0,(fun _ _=>.any),t.2.2.2) else (t.2.1,t.2.2.1,0))
def O225:Ora:=mkO (qc (av ci) (q1 (av (cL kP)))) (fun x=>F225 u x.1 x.2.1 x.2.2) fun t=>[.v (ro kM t.1 t.2.1),.v (vi t.2.2)]
theorem d225:DO (O225 u) (C11 u) 54 A54:=dW u (fun x=>by exact e225 u x.2.1 x.2.2 x.1) (fun _=>rfl) fun t=>by
 obtain ⟨b,t⟩:=t
 cases b with
 | true=>exact (.cons (WkA.v (Wk.ro (by rfl))) (.cons (WkA.v (Wk.refl _)) .nil))
 | false =>
  exact (.cons (WkA.v (Wk.refl _)) (.cons (WkA.v (Wk.refl _)) .nil))
def C12:Oracle:=(C11 u).add 54 (fun _=>true) (O225 u)
def A28v1:AC:=(.seq (.block 1
 (.seq (.region 8 [o1 27 (.indexAddr 73 3 1 (tm 23) (tm 25)),o1 28 (lo 3 27),o1 9 (sg 28)] 0 none) []
  (.region 9 [mv 29 7,mv 30 4,mv 31 9,o1 32 (.indexAddr 51 9 1 (tm 30) (tm 31)),o1 33 (lo 9 32),o1 34 (.buildSlice 0 51 9 kO 1 [vcs ByteArray.empty] [(0,(tm 33))]),o1 35 (.append 1 51 9 kO 16 (tm 29) (tm 34)),o1 7 (sg 35)] 2 none))) []
 (.region 10 [o1 36 (bk .add 3 25 1),mv 25 36] 0 none))
def A28v2:AC:=(.seq (.region 7 [o1 26 (bt .lss 3 25 24)] 0 none) []
 (.seq (.cond (tm 26)
 .skip
 (.exit 0 (rl 0 7 (rl 8 30 [])))) []
 A28v1))
def A28v3:AC:=(.seq (.region 11 [mv 37 7,o1 2 (sg 37),o1 3 (sk 0)] 0 none) []
 (.ret (0 :: 1 :: (rl 4 34 []))))
def A28v4:AC:=(.seq (.region 5 [o1 7 (.assign (.const (.slice none 0 0)))] 0 none) []
 (.seq (.seq (.region 6 [mv 23 5,o1 24 (.len 73 false (tm 23)),o1 25 (.move (ic 0))] 0 none) []
 (.block 0
 (.loop [.slot 7 kO] (rl 0 4 (5 :: 6 :: (rl 8 15 (rl 26 12 []))))
  A28v2))) (9 :: (rl 23 14 []))
 A28v3))
def A28:AF:=⟨38,[.tmp 2,.tmp 3],
 (.seq (.region 0 [o1 1 (bx 0 28 0),o1 2 (.assign (.const (.slice none 0 0))),o1 3 (sk 0)] 1 none) []
 (.seq (.region 1 [o1 10 (ln 28 6 1),o1 11 (cf 29 [10] [28]),o1 4 (sg 11)] 0 none) []
 (.seq (.region 2 [mv 13 4,o1 14 (.len 51 false (tm 13)),o1 15 (ln 28 6 1),o1 16 (cf 55 [15] [28]),o1 17 (cf 54 [14,16] [3,102]),mv 12 17,o1 18 (.extract (tm 12) 0),o1 19 (.extract (tm 12) 1),o1 5 (sg 18),o1 6 (sg 19)] 0 none) []
 (.seq (.seq (.region 3 [mv 20 6,o1 21 (bk .neq 35 20 0)] 0 none) []
 (.cond (tm 21)
 (.seq (.region 4 [mv 22 6,o1 2 (.assign (.const (.slice none 0 0))),o1 3 (sg 22)] 0 none) []
  (.ret (0 :: 1 :: (rl 4 34 []))))
 .skip)) [2,3,20,21,22]
 A28v4))))⟩
def N277v1:St→Option St:=nN 2 (rl 0 4 (5 :: 6 :: (rl 8 15 (rl 26 12 []))))
def s277v0:St:=⟨(us 4 (.x (.c (ro kO n0 f0)) :: .u :: .u :: .x (.own 1 0 n1) :: (us 15 (.x (.c (ro kM n2 f1)) :: vxi i0 :: vxi i1 :: (us 12 []))))),[.box [(vcs w0),(.c (ro kF n3 f2)),(.c (ro kB n4 f3)),(.c (ro kI n5 f4)),(.c (ro kD n6 f5)),(.c (ro kG n7 f6))],.arr kO n1 f7]⟩
def s277v1:St:=⟨(us 7 (.x (.own 1 0 n0) :: (us 30 []))),[.box [(vcs w0),(.c (ro kF n1 f0)),(.c (ro kB n2 f1)),(.c (ro kI n3 f2)),(.c (ro kD n4 f3)),(.c (ro kG n5 f4))],.arr kO n0 f5]⟩
def L277v1 {ρ:Type} (u:Nat) (x0:Nat) (x1:FF) (x2:Nat) (x3:FF) (x4:Int) (x5:ByteArray) (x6:Nat) (x7:FF) (x8:Nat) (x9:FF) (xA:Nat) (xB:FF) (xC:Nat) (xD:FF) (xE:Nat) (xF:FF):Nat→Nat→Int→FF→(Nat→FF→Option ρ)→Option ρ
 | 0,_,_,_,_=>none
 | m+1,xG,xH,xI,k0 =>
  (bif (decide (xH<x4)) then (bif (inb xH x2) then (bif (inb (x3 xH.toNat 0).int x0) then (bif (Nat.ble (xG+1) 1073741824) then (L277v1 u x0 x1 x2 x3 x4 x5 x6 x7 x8 x9 xA xB xC xD xE xF m (xG+1) (w64 (xH+1)) (joinF xG xI (rowsF 1 [(.s (CV.str (x1 (Int.toNat (x3 xH.toNat 0).int) 0)))])) k0) else none) else none) else none) else (k0 xG xI))
theorem nl277v1:∀ (m:Nat) (x0:Nat) (x1:Int) (x2:FF) (k0:Nat→FF→Option ρ),ob (L277v1 u n0 f0 n1 f1 i0 w0 n2 f2 n3 f3 n4 f4 n5 f5 n6 f6 m x0 x1 x2 k0) ng=L277v1 u n0 f0 n1 f1 i0 w0 n2 f2 n3 f3 n4 f4 n5 f5 n6 f6 m x0 x1 x2 (fun x3 x4=>ob (k0 x3 x4) ng)
 | 0,_,_,_,_=>rfl
 | m+1,x0,x1,x2,k0=>by
  simp only [L277v1,ob_bif,ob_ob,ob_none,nl277v1 m]
theorem q277v1:∀ (m:Nat) (x0:Nat) (x1:Int) (x2:FF),
  loopH (eB A28v2 (C12 u) u) N277v1 m (s277v0 n0 x0 n1 n2 n3 n4 n5 n6 f0 f1 f2 f3 f4 f5 f6 x2 i0 x1 w0) k=L277v1 u n0 f0 n1 f1 i0 w0 n2 f2 n3 f3 n4 f4 n5 f5 n6 f6 m x0 x1 x2 (fun x3 x4=>k (.exit 0) (s277v1 x3 n2 n3 n4 n5 n6 f2 f3 f4 f5 f6 x4 w0))
 | 0,_,_,_=>rfl
 | m+1,x0,x1,x2=>by
  simp only [L277v1,← q277v1 m]
  kernel_rfl
def FT277 (x0:ByteArray) (x1:Nat) (x2:FF) (x3:Nat) (x4:FF) (x5:Nat) (x6:FF) (x7:Nat) (x8:FF) (x9:Nat) (xA:FF):Option (Bool × Nat × FF × Int) :=
 (ob (F251 u x0 x1 x2 x3 x4 x5 x6 x7 x8 x9 xA) fun xB=>(ob (F276 u x0 x1 x2 x3 x4 x5 x6 x7 x8 x9 xA) fun xC=>(ob (F225 u (Int.ofNat xB.1) xC.1 xC.2) fun xD=>(bif (xD.2.2 != 0) then (some (true,0,(fun _ _=>.any),xD.2.2)) else (L277v1 u xB.1 xB.2 xD.1 xD.2.1 (Int.ofNat xD.1) x0 x1 x2 x3 x4 x5 x6 x7 x8 x9 xA u 0 0 (fun _ _=>.any)
  (fun xE xF=>(some (false,xE,xF,0))))))))
def s277v2 (x0:Nat × FF) (x1:Nat × FF × Int) (x2:Nat × FF):St:=⟨(.agg [(vcs w0),(.c (ro kF n0 f0)),(.c (ro kB n1 f1)),(.c (ro kI n2 f2)),(.c (ro kD n3 f3)),(.c (ro kG n4 f4))] :: .x (.ptr 0 0) :: .u :: .u :: .x (.c (ro kO x0.1 x0.2)) :: .x (.c (ro kM x1.1 x1.2.1)) :: vxi x1.2.2 :: .x (.own 1 0 0) :: uu :: uu :: .agg [(vcs w0),(.c (ro kF n0 f0)),(.c (ro kB n1 f1)),(.c (ro kI n2 f2)),(.c (ro kD n3 f3)),(.c (ro kG n4 f4))] :: .x (.c (ro kO x0.1 x0.2)) :: .tup [.v (ro kM x1.1 x1.2.1),.v (vi x1.2.2)] :: .x (.c (ro kO x0.1 x0.2)) :: vxi (Int.ofNat x0.1) :: .agg [(vcs w0),(.c (ro kF n0 f0)),(.c (ro kB n1 f1)),(.c (ro kI n2 f2)),(.c (ro kD n3 f3)),(.c (ro kG n4 f4))] :: .x (.c (ro kP x2.1 x2.2)) :: .tup [.v (ro kM x1.1 x1.2.1),.v (vi x1.2.2)] :: .x (.c (ro kM x1.1 x1.2.1)) :: vxi x1.2.2 :: (us 3 [.x (.c (ro kM x1.1 x1.2.1)),vxi (Int.ofNat x1.1),vxi 0,uu,uu,uu,uu,uu,uu,uu,uu,uu,uu,uu,uu])),[.box [(vcs w0),(.c (ro kF n0 f0)),(.c (ro kB n1 f1)),(.c (ro kI n2 f2)),(.c (ro kD n3 f3)),(.c (ro kG n4 f4))],.arr kO 0 nilF]⟩
theorem t277v1 (x0:Nat × FF) (x1:Nat × FF × Int) (x2:Nat × FF) :
  loopN (eB A28v2 (C12 u) u) N277v1 u (s277v2 n0 n1 n2 n3 n4 f0 f1 f2 f3 f4 w0 x0 x1 x2) k =
  L277v1 u x0.1 x0.2 x1.1 x1.2.1 (Int.ofNat x1.1) w0 n0 f0 n1 f1 n2 f2 n3 f3 n4 f4 u 0 0 nilF (fun x3 x4=>k (.exit 0) (s277v1 x3 n0 n1 n2 n3 n4 f0 f1 f2 f3 f4 x4 w0)) :=
 Eq.trans (loopN_at (by kernel_rfl)) (q277v1 ..)
theorem g277v2 :
  (kBlk 0 (kSeq (C12 u) u (9 :: (rl 23 14 [])) A28v3 (finish A28))) (.exit 0) (s277v1 n0 n1 n2 n3 n4 n5 f0 f1 f2 f3 f4 f5 w0) =
  (some [.v (ro kO n0 f5),.v (vi 0)]):=by kernel_rfl
theorem e277:evalF (C12 u) u A28 [.agg [(.s w0),(ro kF n0 f0),(ro kB n1 f1),(ro kI n2 f2),(ro kD n3 f3),(ro kG n4 f4)]]=ob (FT277 u w0 n0 f0 n1 f1 n2 f2 n3 f3 n4 f4) fun t=>some (bif t.1 then [.v (.ro true .nil 0 nilF),.v (vi t.2.2.2)] else [.v (ro kO t.2.1 t.2.2.1),.v (vi 0)]):=Eq.trans (b:=(ob (F251 u w0 n0 f0 n1 f1 n2 f2 n3 f3 n4 f4) fun x0=>(ob (F276 u w0 n0 f0 n1 f1 n2 f2 n3 f3 n4 f4) fun x1=>(ob (F225 u (Int.ofNat x0.1) x1.1 x1.2) fun x2=>(bif (x2.2.2 != 0) then (some [.v (.ro true .nil 0 nilF),.v (vi x2.2.2)]) else (loopN (eB A28v2 (C12 u) u) N277v1 u (s277v2 n0 n1 n2 n3 n4 f0 f1 f2 f3 f4 w0 x0 x2 x1) (kBlk 0 (kSeq (C12 u) u (9 :: (rl 23 14 [])) A28v3 (finish A28))))))))) (by kernel_rfl) (by
 simp only [FT277,ob_bif,ob_ob,ob_none,ob_some,nl277v1,t277v1,g277v2,cond_true,cond_false])
def F277 (x0:ByteArray) (x1:Nat) (x2:FF) (x3:Nat) (x4:FF) (x5:Nat) (x6:FF) (x7:Nat) (x8:FF) (x9:Nat) (xA:FF):Option (Nat × FF × Int):=ob (FT277 u x0 x1 x2 x3 x4 x5 x6 x7 x8 x9 xA) fun t=>some (bif t.1 then (0,(fun _ _=>.any),t.2.2.2) else (t.2.1,t.2.2.1,0))
def O277:Ora:=mkO (q1 (ag (tc cS (tc (cL kF) (tc (cL kB) (tc (cL kI) (tc (cL kD) (t1 (cL kG))))))))) (fun x=>F277 u x.1 x.2.1.1 x.2.1.2 x.2.2.1.1 x.2.2.1.2 x.2.2.2.1.1 x.2.2.2.1.2 x.2.2.2.2.1.1 x.2.2.2.2.1.2 x.2.2.2.2.2.1 x.2.2.2.2.2.2) fun t=>[.v (ro kO t.1 t.2.1),.v (vi t.2.2)]
theorem d277:DO (O277 u) (C12 u) 28 A28:=dW u (fun x=>by exact e277 u x.2.1.1 x.2.2.1.1 x.2.2.2.1.1 x.2.2.2.2.1.1 x.2.2.2.2.2.1 x.2.1.2 x.2.2.1.2 x.2.2.2.1.2 x.2.2.2.2.1.2 x.2.2.2.2.2.2 x.1) (fun _=>rfl) fun t=>by
 obtain ⟨b,t⟩:=t
 cases b with
 | true=>exact (.cons (WkA.v (Wk.ro (by rfl))) (.cons (WkA.v (Wk.refl _)) .nil))
 | false =>
  exact (.cons (WkA.v (Wk.refl _)) (.cons (WkA.v (Wk.refl _)) .nil))
def C13:Oracle:=(C12 u).add 28 (fun _=>true) (O277 u)
def A56v1:AC:=(.region 6 [o1 18 (bk .add 3 8 1),mv 8 18] 0 none)
def A56v2:AC:=(.seq (.block 1
 (.seq (.region 3 [mv 10 8,o1 5 (sg 10)] 0 none) []
  (.seq (.region 4 [mv 11 1,mv 12 0,mv 13 5,o1 14 (.indexAddr 51 9 1 (tm 12) (tm 13)),o1 15 (lo 9 14),o1 16 (bt .eql 9 11 15)] 0 none) []
  (.cond (tm 16)
  (.seq (.region 5 [mv 17 5,o1 4 (sg 17)] 0 none) []
   (.ret (rl 0 4 (rl 5 14 []))))
  .skip)))) (4 :: 5 :: (rl 10 8 []))
 A56v1)
def A56v3:AC:=(.seq (.region 2 [o1 9 (bt .lss 3 8 7)] 0 none) []
 (.seq (.cond (tm 9)
 .skip
 (.exit 0 (rl 0 19 []))) []
 A56v2))
def A56v4:AC:=(.seq (.region 7 [o1 4 (sk (-1))] 0 none) []
 (.ret (rl 0 4 (rl 5 14 []))))
def A56:AF:=⟨19,[.tmp 4],
 (.seq (.region 0 [o1 4 (sk 0)] 0 none) []
 (.seq (.seq (.region 1 [mv 6 0,o1 7 (.len 51 false (tm 6)),o1 8 (.move (ic 0))] 0 none) []
 (.block 0
 (.loop [] (rl 2 5 (rl 9 10 []))
  A56v3))) (rl 4 15 [])
 A56v4))⟩
def N256v1:St→Option St:=nN 0 (rl 2 5 (rl 9 10 []))
def s256v0:St:=⟨(.x (.c (ro kO n0 f0)) :: vxs w0 :: (us 5 (vxi i0 :: vxi i1 :: (us 10 [])))),[]⟩
def s256v1:St:=⟨(us 4 (vxi i0 :: (us 14 []))),[]⟩
def s256v2:St:=⟨(us 19 []),[]⟩
def L256v1 {ρ:Type} (u:Nat) (x0:Nat) (x1:FF) (x2:ByteArray) (x3:Int):Nat→Int→(Int→Option ρ)→(Option ρ)→Option ρ
 | 0,_,_,_=>none
 | m+1,x4,k0,k1 =>
  (bif (decide (x4<x3)) then (bif (inb x4 x0) then (bif (ByteArray.toList x2==ByteArray.toList (x1 x4.toNat 0).str) then (k0 x4) else (L256v1 u x0 x1 x2 x3 m (w64 (x4+1)) k0 k1)) else none) else k1)
theorem nl256v1:∀ (m:Nat) (x0:Int) (k0:Int→Option ρ) (k1:Option ρ),ob (L256v1 u n0 f0 w0 i0 m x0 k0 k1) ng=L256v1 u n0 f0 w0 i0 m x0 (fun x1=>ob (k0 x1) ng) (ob k1 ng)
 | 0,_,_,_=>rfl
 | m+1,x0,k0,k1=>by
  simp only [L256v1,ob_bif,ob_ob,ob_none,nl256v1 m]
theorem q256v1:∀ (m:Nat) (x0:Int),
  loopH (eB A56v3 (C13 u) u) N256v1 m (s256v0 n0 f0 i0 x0 w0) k=L256v1 u n0 f0 w0 i0 m x0 (fun x1=>k .ret (s256v1 x1)) (k (.exit 0) s256v2)
 | 0,_=>rfl
 | m+1,x0=>by
  simp only [L256v1,← q256v1 m]
  kernel_rfl
def F256 (x0:Nat) (x1:FF) (x2:ByteArray):Option (Int) :=
 (L256v1 u x0 x1 x2 (Int.ofNat x0) u 0
  (fun x3=>(some x3))
  (some (-1)))
def s256v3:St:=⟨[.x (.c (ro kO n0 f0)),vxs w0,uu,uu,vxi 0,uu,.x (.c (ro kO n0 f0)),vxi (Int.ofNat n0),vxi 0,uu,uu,uu,uu,uu,uu,uu,uu,uu,uu],[]⟩
theorem t256v1 :
  loopN (eB A56v3 (C13 u) u) N256v1 u (s256v3 n0 f0 w0) k =
  L256v1 u n0 f0 w0 (Int.ofNat n0) u 0 (fun x0=>k .ret (s256v1 x0)) (k (.exit 0) s256v2) :=
 Eq.trans (loopN_at (by kernel_rfl)) (q256v1 ..)
theorem g256v2 :
  (kBlk 0 (kSeq (C13 u) u (rl 4 15 []) A56v4 (finish A56))) .ret (s256v1 i0) =
  (some [.v (vi i0)]):=by kernel_rfl
theorem g256v3 :
  (kBlk 0 (kSeq (C13 u) u (rl 4 15 []) A56v4 (finish A56))) (.exit 0) s256v2 =
  (some [.v (vi (-1))]):=by kernel_rfl
theorem e256:evalF (C13 u) u A56 [.v (ro kO n0 f0),.v (.s w0)]=ob (F256 u n0 f0 w0) fun t=>some [.v (vi t)]:=Eq.trans (b:=(loopN (eB A56v3 (C13 u) u) N256v1 u (s256v3 n0 f0 w0) (kBlk 0 (kSeq (C13 u) u (rl 4 15 []) A56v4 (finish A56))))) (by kernel_rfl) (by
 simp only [F256,ob_bif,ob_ob,ob_none,ob_some,nl256v1,t256v1,g256v2,g256v3])
def O256:Ora:=mkO (qc (av (cL kO)) (q1 (av cS))) (fun x=>F256 u x.1.1 x.1.2 x.2) fun t=>[.v (vi t)]
theorem d256:DO (O256 u) (C13 u) 56 A56:=dO u (fun x=>by exact e256 u x.1.1 x.1.2 x.2)
def C14:Oracle:=(C13 u).add 56 (fun _=>true) (O256 u)
def A30:AF:=⟨9,[.tmp 4],
 (.seq (.region 0 [o1 4 (sb false)] 0 none) []
 (.seq (.region 1 [mv 5 0,mv 6 1,o1 7 (cs 56 [5,6] [51,9]),o1 8 (bk .geq 3 7 0),o1 4 (sg 8)] 0 none) []
 (.ret (rl 0 4 (rl 5 4 [])))))⟩
def F257 (x0:Nat) (x1:FF) (x2:ByteArray):Option (Bool) :=
 (ob (F256 u x0 x1 x2) fun x3=>(some (decide (x3≥0))))
theorem e257:evalF (C14 u) u A30 [.v (ro kO n0 f0),.v (.s w0)]=ob (F257 u n0 f0 w0) fun t=>some [.v (.b t)]:=by
 simp only [F257,ob_bif,ob_ob,ob_none,ob_some]
 kernel_rfl
def O257:Ora:=mkO (qc (av (cL kO)) (q1 (av cS))) (fun x=>F257 u x.1.1 x.1.2 x.2) fun t=>[.v (.b t)]
theorem d257:DO (O257 u) (C14 u) 30 A30:=dO u (fun x=>by exact e257 u x.1.1 x.1.2 x.2)
def C15:Oracle:=(C14 u).add 30 (fun _=>true) (O257 u)
def A31v1:AC:=(.region 3 [mv 8 3,o1 9 (bk .add 3 8 1),o1 3 (sg 9)] 0 none)
def A31v2:AC:=(.seq (.block 1
 (.seq (.region 4 [mv 10 0,mv 11 3,o1 12 (bk .sub 3 11 1),o1 13 (.indexAddr 51 9 1 (tm 10) (tm 12)),o1 14 (lo 9 13),mv 15 0,mv 16 3,o1 17 (.indexAddr 51 9 1 (tm 15) (tm 16)),o1 18 (lo 9 17),o1 19 (bt .geq 9 14 18)] 0 (some [[],[],[1],[0,1,2],(rl 0 4 []),[],[],[5,6],[5,6,7],(rl 0 9 [])])) []
  (.cond (tm 19)
  (.seq (.region 5 [o1 2 (sb false)] 0 none) []
   (.ret (0 :: 1 :: (rl 3 17 []))))
  .skip))) (2 :: (rl 10 10 []))
 A31v1)
def A31v3:AC:=(.seq (.seq (.region 2 [mv 4 3,mv 5 0,o1 6 (.len 51 false (tm 5)),o1 7 (bt .lss 3 4 6)] 0 none) []
 (.cond (tm 7)
 .skip
 (.exit 0 (rl 0 20 [])))) (rl 4 4 [])
 A31v2)
def A31v4:AC:=(.seq (.region 6 [o1 2 (sb true)] 0 none) []
 (.ret (0 :: 1 :: (rl 3 17 []))))
def A31:AF:=⟨20,[.tmp 2],
 (.seq (.region 0 [o1 2 (sb false)] 0 none) []
 (.seq (.seq (.region 1 [o1 3 (sk 1)] 0 none) []
 (.block 0
 (.loop [] (1 :: 2 :: (rl 4 16 []))
  A31v3))) (rl 2 18 [])
 A31v4))⟩
def N332v1:St→Option St:=nN 0 (1 :: 2 :: (rl 4 16 []))
def s332v0:St:=⟨(.x (.c (ro kO n0 f0)) :: .u :: .u :: vxi i0 :: (us 16 [])),[]⟩
def s332v1:St:=⟨(.u :: .u :: vxb false :: (us 17 [])),[]⟩
def s332v2:St:=⟨(us 20 []),[]⟩
def L332v1 {ρ:Type} (u:Nat) (x0:Nat) (x1:FF):Nat→Int→(Option ρ)→(Option ρ)→Option ρ
 | 0,_,_,_=>none
 | m+1,x2,k0,k1 =>
  (bif (decide (x2<(Int.ofNat x0))) then (bif (inb (w64 (x2-1)) x0) then (bif (inb x2 x0) then (bif (!(Op.bytesLess (ByteArray.toList (CV.str (x1 (Int.toNat (w64 (x2-1))) 0))) (ByteArray.toList (x1 x2.toNat 0).str))) then k0 else (L332v1 u x0 x1 m (w64 (x2+1)) k0 k1)) else none) else none) else k1)
theorem nl332v1:∀ (m:Nat) (x0:Int) (k0:Option ρ) (k1:Option ρ),ob (L332v1 u n0 f0 m x0 k0 k1) ng=L332v1 u n0 f0 m x0 (ob k0 ng) (ob k1 ng)
 | 0,_,_,_=>rfl
 | m+1,x0,k0,k1=>by
  simp only [L332v1,ob_bif,ob_ob,ob_none,nl332v1 m]
theorem q332v1:∀ (m:Nat) (x0:Int),
  loopH (eB A31v3 (C15 u) u) N332v1 m (s332v0 n0 f0 x0) k=L332v1 u n0 f0 m x0 (k .ret s332v1) (k (.exit 0) s332v2)
 | 0,_=>rfl
 | m+1,x0=>by
  simp only [L332v1,← q332v1 m]
  kernel_rfl
def F332 (x0:Nat) (x1:FF):Option (Bool) :=
 (L332v1 u x0 x1 u 1
  (some false)
  (some true))
def s332v3:St:=⟨[.x (.c (ro kO n0 f0)),uu,vxb false,vxi 1,uu,uu,uu,uu,uu,uu,uu,uu,uu,uu,uu,uu,uu,uu,uu,uu],[]⟩
theorem t332v1 :
  loopN (eB A31v3 (C15 u) u) N332v1 u (s332v3 n0 f0) k =
  L332v1 u n0 f0 u 1 (k .ret s332v1) (k (.exit 0) s332v2) :=
 Eq.trans (loopN_at (by kernel_rfl)) (q332v1 ..)
theorem g332v2 :
  (kBlk 0 (kSeq (C15 u) u (rl 2 18 []) A31v4 (finish A31))) .ret s332v1 =
  (some [.v (.b false)]):=by kernel_rfl
theorem g332v3 :
  (kBlk 0 (kSeq (C15 u) u (rl 2 18 []) A31v4 (finish A31))) (.exit 0) s332v2 =
  (some [.v (.b true)]):=by kernel_rfl
theorem e332:evalF (C15 u) u A31 [.v (ro kO n0 f0)]=ob (F332 u n0 f0) fun t=>some [.v (.b t)]:=Eq.trans (b:=(loopN (eB A31v3 (C15 u) u) N332v1 u (s332v3 n0 f0) (kBlk 0 (kSeq (C15 u) u (rl 2 18 []) A31v4 (finish A31))))) (by kernel_rfl) (by
 simp only [F332,ob_bif,ob_ob,ob_none,ob_some,nl332v1,t332v1,g332v2,g332v3])
def O332:Ora:=mkO (q1 (av (cL kO))) (fun x=>F332 u x.1 x.2) fun t=>[.v (.b t)]
theorem d332:DO (O332 u) (C15 u) 31 A31:=dO u (fun x=>by exact e332 u x.1 x.2)
def C16:Oracle:=(C15 u).add 31 (fun _=>true) (O332 u)
def A12v1:AC:=(.region 22 [o1 74 (bk .add 3 25 1),mv 25 74] 0 none)
def A12v2:AC:=(.seq (.block 1
 (.seq (.region 9 [mv 27 25,o1 28 (.indexAddr 29 53 3 (tm 23) (tm 25)),o1 29 (ln 53 3 28),o1 9 (.alloc 0 53 [vcs ByteArray.empty,vci 0,vcn]),o1 8 (sg 27),o0 (.store 53 3 (tm 9) (tm 29))] 1 none) []
  (.block 2
  (.seq (.region 10 [mv 31 7,o1 32 (fa 53 9 0 0),o1 33 (lo 9 32),o1 34 (cs 30 [31,33] [51,9]),o1 35 (.unOp .not 4 (tm 34)),o1 30 (sg 35)] 0 none) []
   (.cond (tm 30)
   (.seq (.region 11 [o1 4 (sk 8)] 0 none) []
    (.ghost [0,1] (.ret (rl 0 4 (rl 5 70 [])))))
   (.seq (.region 12 [mv 37 8,o1 38 (bk .gtr 3 37 0),mv 39 38,og 40 (fa 53 9 0 0) 39 true,og 41 (lo 9 40) 39 true,og 42 (.move (tm 1)) 39 true,og 43 (.move (tm 8)) 39 true,og 44 (bk .sub 3 43 1) 39 true,og 45 (.indexAddr 29 53 3 (tm 42) (tm 44)) 39 true,og 46 (fa 53 45 0 0) 39 true,og 47 (lo 9 46) 39 true,og 48 (bt .leq 9 41 47) 39 true,o1 49 (po 39 48),o1 36 (sg 49)] 0 (some [[],[0],[0,1],[0,1,2],(rl 0 4 []),[0,1,2],[0,1,2],[0,1,2,6],[0,1,2,5,6,7],(0 :: 1 :: 2 :: (rl 5 4 [])),(0 :: 1 :: 2 :: (rl 5 5 [])),(rl 0 11 []),(rl 0 12 []),(rl 0 13 [])])) []
    (.cond (tm 36)
    (.seq (.region 13 [o1 4 (sk 11)] 0 none) []
     (.ghost [0,1] (.ret (rl 0 4 (rl 5 70 [])))))
    (.seq (.region 14 [o1 51 (fa 53 9 1 1),o1 52 (lo 3 51),o1 53 (bk .lss 3 52 1),mv 54 53,og 55 (fa 53 9 1 1) 54 false,og 56 (lo 3 55) 54 false,og 57 (bk .gtr 3 56 10000) 54 false,o1 58 (pa 54 57),o1 50 (sg 58)] 0 none) []
     (.cond (tm 50)
     (.seq (.region 15 [o1 4 (sk 9)] 0 none) []
      (.ghost [0,1] (.ret (rl 0 4 (rl 5 70 [])))))
     (.seq (.region 16 [o1 60 (fa 53 9 2 2),o1 61 (lo 51 60),o1 62 (.len 51 false (tm 61)),o1 63 (bk .eql 3 62 0),o1 59 (sg 63)] 0 none) []
      (.cond (tm 59)
      (.seq (.region 17 [o1 4 (sk 3)] 0 none) []
       (.ghost [0,1] (.ret (rl 0 4 (rl 5 70 [])))))
      (.seq (.region 18 [o1 65 (fa 53 9 2 2),o1 66 (lo 51 65),o1 67 (.len 51 false (tm 66)),o1 68 (bk .gtr 3 67 8),o1 64 (sg 68)] 0 none) []
       (.cond (tm 64)
       (.seq (.region 19 [o1 4 (sk 4)] 0 none) []
        (.ghost [0,1] (.ret (rl 0 4 (rl 5 70 [])))))
       (.seq (.region 20 [o1 70 (fa 53 9 2 2),o1 71 (lo 51 70),o1 72 (cs 31 [71] [51]),o1 73 (.unOp .not 4 (tm 72)),o1 69 (sg 73)] 0 none) []
        (.cond (tm 69)
        (.seq (.region 21 [o1 4 (sk 11)] 0 none) []
         (.ghost [0,1] (.ret (rl 0 4 (rl 5 70 [])))))
        .skip))))))))))))))) (4 :: 8 :: 9 :: (rl 27 47 []))
 A12v1)
def A12v3:AC:=(.seq (.region 8 [o1 26 (bt .lss 3 25 24)] 0 none) []
 (.seq (.cond (tm 26)
 .skip
 (.ghost [0] (.exit 0 (rl 0 75 [])))) []
 A12v2))
def A12v4:AC:=(.seq (.region 23 [o1 4 (sk 0)] 0 none) []
 (.ghost [0] (.ret (rl 0 4 (rl 5 70 [])))))
def A12v5:AC:=(.seq (.region 6 [o1 21 (ln 28 6 2),o1 22 (cf 29 [21] [28]),o1 7 (sg 22)] 0 none) []
 (.seq (.seq (.region 7 [mv 23 1,o1 24 (.len 29 false (tm 23)),o1 25 (.move (ic 0))] 0 none) []
 (.block 0
 (.ghost [0] (.loop [] (0 :: (rl 2 5 (rl 8 15 (rl 26 49 []))))
  A12v3)))) (4 :: 8 :: 9 :: (rl 23 52 []))
 A12v4))
def A12v6:AC:=(.seq (.seq (.region 3 [o1 14 (ln 28 6 2),o1 15 (cf 28 [14] [28]),mv 13 15,o1 16 (.extract (tm 13) 0),o1 17 (.extract (tm 13) 1),o1 5 (sg 16),o1 6 (sg 17)] 0 none) []
 (.seq (.region 4 [mv 18 6,o1 19 (bk .neq 35 18 0)] 0 none) []
 (.cond (tm 19)
 (.seq (.region 5 [mv 20 6,o1 4 (sg 20)] 0 none) []
  (.ghost [0] (.ret (rl 0 4 (rl 5 70 [])))))
 .skip))) (4 :: 5 :: 6 :: (rl 13 8 []))
 A12v5)
def A12:AF:=⟨75,[.tmp 4],
 (.seq (.region 0 [o1 2 (bx 0 28 0),o1 4 (sk 0)] 1 none) []
 (.seq (.seq (.region 1 [mv 10 1,o1 11 (.len 29 false (tm 10)),o1 12 (bk .gtr 3 11 64)] 0 none) []
 (.cond (tm 12)
 (.seq (.region 2 [o1 4 (sk 4)] 0 none) []
  (.ghost [0] (.ret (rl 0 4 (rl 5 70 [])))))
 .skip)) [4,10,11,12]
 A12v6))⟩
def N333v1:St→Option St:=nN 1 (0 :: (rl 2 5 (rl 8 15 (rl 26 49 []))))
def s333v0:St:=⟨(.u :: .x (.c (ro kE n0 f0)) :: (us 5 (.x (.c (ro kO n1 f1)) :: (us 15 (.x (.c (ro kE n0 f0)) :: vxi i0 :: vxi i1 :: (us 49 [])))))),[.dead]⟩
def s333v1:St:=⟨(us 4 (vxi i0 :: (us 70 []))),[.dead,.dead]⟩
def s333v2:St:=⟨(us 75 []),[.dead]⟩
def L333v1 {ρ:Type} (u:Nat) (x0:Nat) (x1:FF) (x2:Nat) (x3:FF) (x4:Int):Nat→Int→(Int→Option ρ)→(Option ρ)→Option ρ
 | 0,_,_,_=>none
 | m+1,x5,k0,k1 =>
  (bif (decide (x5<x4)) then (bif (inb x5 x0) then (ob (F257 u x2 x3 (x1 x5.toNat 0).str) fun x6=>(bif (!x6) then (k0 8) else (bif ((decide (x5>0))==true) then (bif (inb (w64 (x5-1)) x0) then (bif ((Op.bytesLess (ByteArray.toList (x1 x5.toNat 0).str) (ByteArray.toList (CV.str (x1 (Int.toNat (w64 (x5-1))) 0))))||(ByteArray.toList (x1 x5.toNat 0).str==ByteArray.toList (CV.str (x1 (Int.toNat (w64 (x5-1))) 0)))) then (k0 11) else (bif ((decide ((x1 x5.toNat 1).int<1))==false) then (bif (decide ((x1 x5.toNat 1).int>10000)) then (k0 9) else (bif ((Int.ofNat (x1 x5.toNat 2).len)==0) then (k0 3) else (bif (decide ((Int.ofNat (x1 x5.toNat 2).len)>8)) then (k0 4) else (ob (F332 u (x1 x5.toNat 2).len (x1 x5.toNat 2).el) fun x7=>(bif (!x7) then (k0 11) else (L333v1 u x0 x1 x2 x3 x4 m (w64 (x5+1)) k0 k1)))))) else (k0 9))) else none) else (bif ((decide ((x1 x5.toNat 1).int<1))==false) then (bif (decide ((x1 x5.toNat 1).int>10000)) then (k0 9) else (bif ((Int.ofNat (x1 x5.toNat 2).len)==0) then (k0 3) else (bif (decide ((Int.ofNat (x1 x5.toNat 2).len)>8)) then (k0 4) else (ob (F332 u (x1 x5.toNat 2).len (x1 x5.toNat 2).el) fun x8=>(bif (!x8) then (k0 11) else (L333v1 u x0 x1 x2 x3 x4 m (w64 (x5+1)) k0 k1)))))) else (k0 9))))) else none) else k1)
theorem nl333v1:∀ (m:Nat) (x0:Int) (k0:Int→Option ρ) (k1:Option ρ),ob (L333v1 u n0 f0 n1 f1 i0 m x0 k0 k1) ng=L333v1 u n0 f0 n1 f1 i0 m x0 (fun x1=>ob (k0 x1) ng) (ob k1 ng)
 | 0,_,_,_=>rfl
 | m+1,x0,k0,k1=>by
  simp only [L333v1,ob_bif,ob_ob,ob_none,nl333v1 m]
theorem q333v1:∀ (m:Nat) (x0:Int),
  loopH (eB A12v3 (C16 u) u) N333v1 m (s333v0 n0 n1 f0 f1 i0 x0) k=L333v1 u n0 f0 n1 f1 i0 m x0 (fun x1=>k .ret (s333v1 x1)) (k (.exit 0) s333v2)
 | 0,_=>rfl
 | m+1,x0=>by
  simp only [L333v1,← q333v1 m]
  kernel_rfl
def F333 (x0:ByteArray) (x1:Nat) (x2:FF) (x3:Nat) (x4:FF) (x5:Nat) (x6:FF) (x7:Nat) (x8:FF) (x9:Nat) (xA:FF) (xB:Nat) (xC:FF):Option (Int) :=
 (bif (decide ((Int.ofNat xB)>64)) then (some 4) else (ob (F277 u x0 x1 x2 x3 x4 x5 x6 x7 x8 x9 xA) fun xD=>(bif (xD.2.2 != 0) then (some xD.2.2) else (ob (F251 u x0 x1 x2 x3 x4 x5 x6 x7 x8 x9 xA) fun xE=>(L333v1 u xB xC xE.1 xE.2 (Int.ofNat xB) u 0
  (fun xF=>(some xF))
  (some 0))))))
def s333v3 (x0:Nat × FF):St:=⟨(.agg [(vcs w0),(.c (ro kF n0 f0)),(.c (ro kB n1 f1)),(.c (ro kI n2 f2)),(.c (ro kD n3 f3)),(.c (ro kG n4 f4))] :: .x (.c (ro kE n5 f5)) :: .x (.c (.rp kA (listF [(.s w0),(ro kF n0 f0),(ro kB n1 f1),(ro kI n2 f2),(ro kD n3 f3),(ro kG n4 f4)]))) :: uu :: (us 3 (.x (.c (ro kO x0.1 x0.2)) :: uu :: uu :: (us 11 [.agg [(vcs w0),(.c (ro kF n0 f0)),(.c (ro kB n1 f1)),(.c (ro kI n2 f2)),(.c (ro kD n3 f3)),(.c (ro kG n4 f4))],.x (.c (ro kO x0.1 x0.2)),.x (.c (ro kE n5 f5)),vxi (Int.ofNat n5),vxi 0,uu,uu,uu,uu,uu,uu,uu,uu,uu,uu,uu,uu,uu,uu,uu,uu,uu,uu,uu,uu,uu,uu,uu,uu,uu,uu,uu,uu,uu,uu,uu,uu,uu,uu,uu,uu,uu,uu,uu,uu,uu,uu,uu,uu,uu,uu,uu,uu,uu])))),[.dead]⟩
theorem t333v1 (x0:Nat × FF) :
  loopN (eB A12v3 (C16 u) u) N333v1 u (s333v3 n0 n1 n2 n3 n4 n5 f0 f1 f2 f3 f4 f5 w0 x0) k =
  L333v1 u n5 f5 x0.1 x0.2 (Int.ofNat n5) u 0 (fun x1=>k .ret (s333v1 x1)) (k (.exit 0) s333v2) :=
 Eq.trans (loopN_at (by kernel_rfl)) (q333v1 ..)
theorem g333v2 :
  (kBlk 0 (kSeq (C16 u) u (4 :: 8 :: 9 :: (rl 23 52 [])) A12v4 (finish A12))) .ret (s333v1 i0) =
  (some [.v (vi i0)]):=by kernel_rfl
theorem g333v3 :
  (kBlk 0 (kSeq (C16 u) u (4 :: 8 :: 9 :: (rl 23 52 [])) A12v4 (finish A12))) (.exit 0) s333v2 =
  (some [.v (vi 0)]):=by kernel_rfl
theorem e333:evalF (C16 u) u A12 [.agg [(.s w0),(ro kF n0 f0),(ro kB n1 f1),(ro kI n2 f2),(ro kD n3 f3),(ro kG n4 f4)],.v (ro kE n5 f5)]=ob (F333 u w0 n0 f0 n1 f1 n2 f2 n3 f3 n4 f4 n5 f5) fun t=>some [.v (vi t)]:=Eq.trans (b:=(bif (decide ((Int.ofNat n5)>64)) then (some [.v (vi 4)]) else (ob (F277 u w0 n0 f0 n1 f1 n2 f2 n3 f3 n4 f4) fun x0=>(bif (x0.2.2 != 0) then (some [.v (vi x0.2.2)]) else (ob (F251 u w0 n0 f0 n1 f1 n2 f2 n3 f3 n4 f4) fun x1=>(loopN (eB A12v3 (C16 u) u) N333v1 u (s333v3 n0 n1 n2 n3 n4 n5 f0 f1 f2 f3 f4 f5 w0 x1) (kBlk 0 (kSeq (C16 u) u (4 :: 8 :: 9 :: (rl 23 52 [])) A12v4 (finish A12))))))))) (by kernel_rfl) (by
 simp only [F333,ob_bif,ob_ob,ob_none,ob_some,nl333v1,t333v1,g333v2,g333v3])
def O333:Ora:=mkO (qc (ag (tc cS (tc (cL kF) (tc (cL kB) (tc (cL kI) (tc (cL kD) (t1 (cL kG)))))))) (q1 (av (cL kE)))) (fun x=>F333 u x.1.1 x.1.2.1.1 x.1.2.1.2 x.1.2.2.1.1 x.1.2.2.1.2 x.1.2.2.2.1.1 x.1.2.2.2.1.2 x.1.2.2.2.2.1.1 x.1.2.2.2.2.1.2 x.1.2.2.2.2.2.1 x.1.2.2.2.2.2.2 x.2.1 x.2.2) fun t=>[.v (vi t)]
theorem d333:DO (O333 u) (C16 u) 12 A12:=dO u (fun x=>by exact e333 u x.1.2.1.1 x.1.2.2.1.1 x.1.2.2.2.1.1 x.1.2.2.2.2.1.1 x.1.2.2.2.2.2.1 x.2.1 x.1.2.1.2 x.1.2.2.1.2 x.1.2.2.2.1.2 x.1.2.2.2.2.1.2 x.1.2.2.2.2.2.2 x.2.2 x.1.1)
def C17:Oracle:=(C16 u).add 12 (fun _=>true) (O333 u)
def A59:AF:=⟨8,[.tmp 3],
 (.seq (.region 0 [o1 2 (bx 0 53 0),o1 3 (sk 0)] 1 none) []
 (.seq (.region 1 [o1 4 (lo 51 1),o1 5 (fa 53 2 0 0),o1 6 (lo 9 5),o1 7 (cs 56 [4,6] [51,9]),o1 3 (sg 7)] 0 none) []
 (.ghost [0] (.ret (0 :: 1 :: 2 :: (rl 4 4 []))))))⟩
def F334 (x0:ByteArray) (x1:Int) (x2:Nat) (x3:FF) (x4:Nat→CV):Option (Int) :=
 (ob (F256 u (x4 0).len (x4 0).el x0) fun x5=>(some x5))
theorem e334:evalF (C17 u) u A59 [.agg [(.s w0),(vi i0),(ro kO n0 f0)],.v (.rp kK g0)]=ob (F334 u w0 i0 n0 f0 g0) fun t=>some [.v (vi t)]:=by
 simp only [F334,ob_bif,ob_ob,ob_none,ob_some]
 kernel_rfl
def O334:Ora:=mkO (qc (ag (tc cS (tc ci (t1 (cL kO))))) (q1 (av (cP kK)))) (fun x=>F334 u x.1.1 x.1.2.1 x.1.2.2.1 x.1.2.2.2 x.2) fun t=>[.v (vi t)]
theorem d334:DO (O334 u) (C17 u) 59 A59:=dO u (fun x=>by exact e334 u x.1.2.2.1 x.1.2.2.2 x.1.2.1 x.1.1 x.2)
def C18:Oracle:=(C17 u).add 59 (fun _=>true) (O334 u)
def A79v1:AC:=(.region 12 [o1 57 (bk .add 3 32 1),mv 32 57] 0 none)
def A79v2:AC:=(.seq (.block 3
 (.seq (.region 8 [o1 34 (.indexAddr 102 46 2 (tm 30) (tm 32)),o1 35 (ln 46 2 34),o1 11 (.alloc 0 46 [vci 0,vci 0]),o0 (.store 46 2 (tm 11) (tm 35))] 1 none) []
  (.seq (.region 9 [o1 36 (.indexAddrA 46 3 2 1 (tm 11) (ic 0)),o1 37 (lo 3 36),mv 38 9,o1 39 (bt .eql 3 37 38),mv 40 39,og 41 (.move (tm 7)) 40 true,og 42 (.indexAddrA 46 3 2 1 (tm 11) (ic 1)) 40 true,og 43 (lo 3 42) 40 true,og 44 (.indexAddr 71 4 1 (tm 41) (tm 43)) 40 true,og 45 (lo 4 44) 40 true,og 46 (.unOp .not 4 (tm 45)) 40 true,o1 47 (po 40 46)] 0 none) []
  (.cond (tm 47)
  (.seq (.region 10 [mv 48 7,o1 49 (.indexAddrA 46 3 2 1 (tm 11) (ic 1)),o1 50 (lo 3 49),o1 51 (.indexAddr 71 4 1 (tm 48) (tm 50)),o0 (.store 4 1 (tm 51) (.const (.bool true)))] 0 none) []
   (.region 11 [mv 52 8,o1 53 (.indexAddrA 46 3 2 1 (tm 11) (ic 1)),o1 54 (lo 3 53),o1 55 (.buildSlice 0 73 3 kM 1 [vci 0] [(0,(tm 54))]),o1 56 (.append 1 73 3 kM 8 (tm 52) (tm 55)),o1 8 (sg 56)] 2 none))
  .skip)))) (11 :: (rl 34 23 []))
 A79v1)
def A79v3:AC:=(.seq (.region 7 [o1 33 (bt .lss 3 32 31)] 0 none) []
 (.seq (.cond (tm 33)
 .skip
 (.exit 2 (0 :: (rl 2 5 (rl 9 50 []))))) []
 A79v2))
def A79v4:AC:=(.block 1
 (.seq (.region 4 [mv 19 8,mv 20 8,o1 21 (.len 73 false (tm 20)),o1 22 (bk .sub 3 21 1),o1 23 (.indexAddr 73 3 1 (tm 19) (tm 22)),o1 24 (lo 3 23),o1 9 (sg 24)] 0 none) []
  (.seq (.region 5 [mv 25 8,mv 26 8,o1 27 (.len 73 false (tm 26)),o1 28 (bk .sub 3 27 1),o1 29 (.slice 73 3 1 (tm 25) none (some (tm 28)) none),o1 8 (sg 29)] 0 none) []
  (.seq (.region 6 [mv 30 1,o1 31 (.len 102 false (tm 30)),o1 32 (.move (ic 0))] 0 none) []
  (.block 2
  (.loop [.slot 8 kM] (0 :: (rl 2 5 (rl 10 20 (rl 33 26 []))))
   A79v3))))))
def A79v5:AC:=(.seq (.seq (.region 3 [mv 16 8,o1 17 (.len 73 false (tm 16)),o1 18 (bk .gtr 3 17 0)] 0 none) []
 (.cond (tm 18)
 .skip
 (.exit 0 (rl 0 7 (rl 8 51 []))))) [16,17,18]
 A79v4)
def A79v6:AC:=(.seq (.region 13 [mv 58 7,o1 6 (sg 58)] 0 none) []
 (.ret (rl 0 6 (rl 7 52 []))))
def A79:AF:=⟨59,[.tmp 6],
 (.seq (.region 0 [o1 6 (.assign (.const (.slice none 0 0)))] 0 none) []
 (.seq (.region 1 [mv 12 0,o1 13 (.makeSlice 0 71 4 kN 1 [(.b false)] (tm 12) (tm 12)),o1 7 (sg 13)] 1 none) []
 (.seq (.region 2 [mv 14 2,o1 15 (.buildSlice 0 73 3 kM 1 [vci 0] [(0,(tm 14))]),o1 8 (sg 15)] 1 none) []
 (.seq (.block 0
 (.loop [.slot 8 kM] (0 :: (rl 2 5 (rl 9 50 [])))
  A79v5)) (8 :: 9 :: 11 :: (rl 16 42 []))
 A79v6))))⟩
def N231v2:St→Option St:=nN 2 (0 :: (rl 2 5 (rl 10 20 (rl 33 26 []))))
def s231v0:St:=⟨(.u :: .x (.c (ro kP n0 f0)) :: (us 5 (.x (.own 0 0 n1) :: .x (.own 1 0 n2) :: vxi i0 :: (us 20 (.x (.c (ro kP n0 f0)) :: vxi i1 :: vxi i2 :: (us 26 [])))))),[.arr kN n1 f1,.arr kM n3 f2]⟩
def s231v1:St:=⟨(.u :: .x (.c (ro kP n0 f0)) :: (us 5 (.x (.own 0 0 n1) :: .x (.own 1 0 n2) :: (us 50 [])))),[.arr kN n1 f1,.arr kM n3 f2]⟩
def L231v2 {ρ:Type} (u:Nat) (x0:Nat) (x1:FF) (x2:Nat) (x3 x4:Int):Nat→Nat→Int→FF→Nat→FF→(Nat→FF→Nat→FF→Option ρ)→Option ρ
 | 0,_,_,_,_,_,_=>none
 | m+1,x5,x6,x7,x8,x9,k0 =>
  (bif (decide (x6<x4)) then (bif (inb x6 x0) then (bif (((x1 x6.toNat 0).int==x3)==true) then (bif (inb (x1 x6.toNat 1).int x2) then (bif (!(CV.bool (x7 (0+(Int.toNat (x1 x6.toNat 1).int)) 0))) then (bif (inb (x1 x6.toNat 1).int x2) then (bif (Nat.ble (x5+1) 1073741824) then (L231v2 u x0 x1 x2 x3 x4 m (x5+1) (w64 (x6+1)) (setF x7 (0+(Int.toNat (x1 x6.toNat 1).int)) 0 1 (listF [(.b true)])) (x5+1) (joinF x5 x9 (rowsF 1 [(.i .i64 (x1 x6.toNat 1).int)])) k0) else none) else none) else (L231v2 u x0 x1 x2 x3 x4 m x5 (w64 (x6+1)) x7 x8 x9 k0)) else none) else (L231v2 u x0 x1 x2 x3 x4 m x5 (w64 (x6+1)) x7 x8 x9 k0)) else none) else (k0 x5 x7 x8 x9))
theorem nl231v2:∀ (m:Nat) (x0:Nat) (x1:Int) (x2:FF) (x3:Nat) (x4:FF) (k0:Nat→FF→Nat→FF→Option ρ),ob (L231v2 u n0 f0 n1 i0 i1 m x0 x1 x2 x3 x4 k0) ng=L231v2 u n0 f0 n1 i0 i1 m x0 x1 x2 x3 x4 (fun x5 x6 x7 x8=>ob (k0 x5 x6 x7 x8) ng)
 | 0,_,_,_,_,_,_=>rfl
 | m+1,x0,x1,x2,x3,x4,k0=>by
  simp only [L231v2,ob_bif,ob_ob,ob_none,nl231v2 m]
theorem q231v2:∀ (m:Nat) (x0:Nat) (x1:Int) (x2:FF) (x3:Nat) (x4:FF),
  loopH (eB A79v3 (C18 u) u) N231v2 m (s231v0 n0 n1 x0 x3 f0 x2 x4 i0 i1 x1) k=L231v2 u n0 f0 n1 i0 i1 m x0 x1 x2 x3 x4 (fun x5 x6 x7 x8=>k (.exit 2) (s231v1 n0 n1 x5 x7 f0 x6 x8))
 | 0,_,_,_,_,_=>rfl
 | m+1,x0,x1,x2,x3,x4=>by
  simp only [L231v2,← q231v2 m]
  kernel_rfl
def N231v3:St→Option St:=nN 2 (0 :: (rl 2 5 (rl 9 50 [])))
def s231v2:St:=⟨(.u :: .x (.c (ro kP n0 f0)) :: (us 5 (.x (.own 0 0 n1) :: .x (.own 1 0 n2) :: (us 50 [])))),[.arr kN n1 f1,.arr kM n3 f2]⟩
def s231v3:St:=⟨(us 7 (.x (.own 0 0 n0) :: (us 51 []))),[.arr kN n0 f0,.arr kM n1 f1]⟩
def L231v3 {ρ:Type} (u:Nat) (x0:Nat) (x1:FF) (x2:Nat):Nat→Nat→FF→Nat→FF→(FF→Nat→FF→Option ρ)→Option ρ
 | 0,_,_,_,_,_=>none
 | m+1,x3,x4,x5,x6,k0 =>
  (bif (decide ((Int.ofNat x3)>0)) then (bif (inb (w64 ((Int.ofNat x3)-1)) x3) then (bif (inbe (w64 ((Int.ofNat x3)-1)) x3) then (L231v2 u x0 x1 x2 (CV.int (x6 (0+(Int.toNat (w64 ((Int.ofNat x3)-1)))) 0)) (Int.ofNat x0) u ((Int.toNat (w64 ((Int.ofNat x3)-1)))-0) 0 x4 x5 x6
  (fun x7 x8 x9 xA=>(L231v3 u x0 x1 x2 m x7 x8 x9 xA k0))) else none) else none) else (k0 x4 x5 x6))
theorem nl231v3:∀ (m:Nat) (x0:Nat) (x1:FF) (x2:Nat) (x3:FF) (k0:FF→Nat→FF→Option ρ),ob (L231v3 u n0 f0 n1 m x0 x1 x2 x3 k0) ng=L231v3 u n0 f0 n1 m x0 x1 x2 x3 (fun x4 x5 x6=>ob (k0 x4 x5 x6) ng)
 | 0,_,_,_,_,_=>rfl
 | m+1,x0,x1,x2,x3,k0=>by
  simp only [L231v3,ob_bif,ob_ob,ob_none,nl231v3 m,nl231v2]
def s231v4:St:=⟨(.u :: .x (.c (ro kP n0 f0)) :: (us 5 (.x (.own 0 0 n1) :: .x (.own 1 0 ((Int.toNat (w64 ((Int.ofNat n2)-1)))-0)) :: vxi (CV.int (f1 (0+(Int.toNat (w64 ((Int.ofNat n2)-1)))) 0)) :: (us 9 (.x (.own 1 0 n2) :: .x (.own 1 0 n2) :: vxi (Int.ofNat n2) :: vxi (w64 ((Int.ofNat n2)-1)) :: .x (.aptr 1 (0+(Int.toNat (w64 ((Int.ofNat n2)-1)))) 0) :: vxi (CV.int (f1 (0+(Int.toNat (w64 ((Int.ofNat n2)-1)))) 0)) :: .x (.own 1 0 n2) :: .x (.own 1 0 n2) :: vxi (Int.ofNat n2) :: vxi (w64 ((Int.ofNat n2)-1)) :: .x (.own 1 0 ((Int.toNat (w64 ((Int.ofNat n2)-1)))-0)) :: .x (.c (ro kP n0 f0)) :: vxi (Int.ofNat n0) :: vxi 0 :: (us 26 [])))))),[.arr kN n1 f2,.arr kM n3 f1]⟩
theorem r231v3 :
  loopH (eB A79v5 (C18 u) u) N231v3 (m+1) (s231v2 n0 n1 n2 n3 f0 f1 f2) k =
  (bif (decide ((Int.ofNat n2)>0)) then (bif (inb (w64 ((Int.ofNat n2)-1)) n2) then (bif (inbe (w64 ((Int.ofNat n2)-1)) n2) then (loopN (eB A79v3 (C18 u) u) N231v2 u (s231v4 n0 n1 n2 n3 f0 f2 f1) (kBlk 2 (kBlk 1 (kLoop (eB A79v5 (C18 u) u) N231v3 m k)))) else none) else none) else (k (.exit 0) (s231v3 n1 n3 f1 f2))):=by kernel_rfl
theorem t231v1 :
  loopN (eB A79v3 (C18 u) u) N231v2 u (s231v4 n0 n1 n2 n3 f0 f1 f2) k =
  L231v2 u n0 f0 n1 (CV.int (f1 (0+(Int.toNat (w64 ((Int.ofNat n2)-1)))) 0)) (Int.ofNat n0) u ((Int.toNat (w64 ((Int.ofNat n2)-1)))-0) 0 f2 n3 f1 (fun x0 x1 x2 x3=>k (.exit 2) (s231v1 n0 n1 x0 x2 f0 x1 x3)) :=
 Eq.trans (loopN_at (by kernel_rfl)) (q231v2 ..)
theorem g231v2 :
  (kBlk 2 (kBlk 1 (kLoop (eB A79v5 (C18 u) u) N231v3 m k))) (.exit 2) (s231v1 n0 n1 n2 n3 f0 f1 f2) =
  (loopH (eB A79v5 (C18 u) u) N231v3 m (s231v2 n0 n1 n2 n3 f0 f1 f2) k):=by kernel_rfl
theorem q231v3:∀ (m:Nat) (x0:Nat) (x1:FF) (x2:Nat) (x3:FF),
  loopH (eB A79v5 (C18 u) u) N231v3 m (s231v2 n0 n1 x0 x2 f0 x1 x3) k=L231v3 u n0 f0 n1 m x0 x1 x2 x3 (fun x4 x5 x6=>k (.exit 0) (s231v3 n1 x5 x4 x6))
 | 0,_,_,_,_=>rfl
 | m+1,x0,x1,x2,x3=>by
  rw [r231v3]
  simp only [L231v3,q231v3 m,t231v1,g231v2]
def F231 (x0:Int) (x1:Nat) (x2:FF) (x3:Int):Option (Nat × FF) :=
 (bif (decide (0≤x0)&&decide (x0≤x0)&&decide (x0≤1073741824)&&true) then (L231v3 u x1 x2 x0.toNat u 1 (fun _ j=>listF [(.b false)] j) 1 (rowsF 1 [(.i .i64 x3)])
  (fun x4 x5 x6=>(some (x0.toNat,x4)))) else none)
def s231v5:St:=⟨[vxi i0,.x (.c (ro kP n0 f0)),vxi i1,uu,uu,uu,.x (vcn),.x (.own 0 0 i0.toNat),.x (.own 1 0 1),uu,uu,uu,vxi i0,.x (.own 0 0 i0.toNat),vxi i1,.x (.own 1 0 1),uu,uu,uu,uu,uu,uu,uu,uu,uu,uu,uu,uu,uu,uu,uu,uu,uu,uu,uu,uu,uu,uu,uu,uu,uu,uu,uu,uu,uu,uu,uu,uu,uu,uu,uu,uu,uu,uu,uu,uu,uu,uu,uu],[.arr kN i0.toNat (fun _ j=>listF [(.b false)] j),.arr kM 1 (rowsF 1 [(vi i1)])]⟩
theorem t231v3 :
  loopN (eB A79v5 (C18 u) u) N231v3 u (s231v5 n0 f0 i0 i1) k =
  L231v3 u n0 f0 i0.toNat u 1 (fun _ j=>listF [(.b false)] j) 1 (rowsF 1 [(vi i1)]) (fun x0 x1 x2=>k (.exit 0) (s231v3 i0.toNat x1 x0 x2)) :=
 Eq.trans (loopN_at (by kernel_rfl)) (q231v3 ..)
theorem g231v4 :
  (kBlk 0 (kSeq (C18 u) u (8 :: 9 :: 11 :: (rl 16 42 [])) A79v6 (finish A79))) (.exit 0) (s231v3 i0.toNat n0 f0 f1) =
  (some [.v (ro kN i0.toNat f0)]):=by kernel_rfl
theorem e231:evalF (C18 u) u A79 [.v (vi i0),.v (ro kP n0 f0),.v (vi i1)]=ob (F231 u i0 n0 f0 i1) fun t=>some [.v (ro kN t.1 t.2)]:=Eq.trans (b:=(bif (decide (0≤i0)&&decide (i0≤i0)&&decide (i0≤1073741824)&&true) then (loopN (eB A79v5 (C18 u) u) N231v3 u (s231v5 n0 f0 i0 i1) (kBlk 0 (kSeq (C18 u) u (8 :: 9 :: 11 :: (rl 16 42 [])) A79v6 (finish A79)))) else none)) (by kernel_rfl) (by
 simp only [F231,ob_bif,ob_ob,ob_none,ob_some,nl231v3,t231v3,g231v4])
def O231:Ora:=mkO (qc (av ci) (qc (av (cL kP)) (q1 (av ci)))) (fun x=>F231 u x.1 x.2.1.1 x.2.1.2 x.2.2) fun t=>[.v (ro kN t.1 t.2)]
theorem d231:DO (O231 u) (C18 u) 79 A79:=dO u (fun x=>by exact e231 u x.2.1.1 x.2.1.2 x.1 x.2.2)
def C19:Oracle:=(C18 u).add 79 (fun _=>true) (O231 u)
def A60v1:AC:=(.seq (.region 4 [mv 37 0,mv 38 1,mv 39 2,o1 40 (cf 79 [37,38,39] [3,102,3]),mv 41 3,o1 42 (.indexAddr 71 4 1 (tm 40) (tm 41)),o1 43 (lo 4 42),o1 8 (sg 43)] 0 none) []
 (.ret (rl 0 8 (rl 9 35 []))))
def A60:AF:=⟨44,[.tmp 8],
 (.seq (.region 0 [o1 8 (sb false)] 0 none) []
 (.seq (.seq (.region 1 [mv 12 0,mv 13 1,o1 14 (cf 54 [12,13] [3,102]),mv 11 14,o1 15 (.extract (tm 11) 0),o1 16 (.extract (tm 11) 1),o1 9 (sg 15),o1 10 (sg 16)] 0 none) []
 (.seq (.region 2 [mv 17 10,o1 18 (bk .neq 35 17 0),mv 19 18,og 20 (.move (tm 2)) 19 false,og 21 (bk .lss 3 20 0) 19 false,o1 22 (pa 19 21),mv 23 22,og 24 (.move (tm 2)) 23 false,og 25 (.move (tm 0)) 23 false,og 26 (bt .geq 3 24 25) 23 false,o1 27 (pa 23 26),mv 28 27,og 29 (.move (tm 3)) 28 false,og 30 (bk .lss 3 29 0) 28 false,o1 31 (pa 28 30),mv 32 31,og 33 (.move (tm 3)) 32 false,og 34 (.move (tm 0)) 32 false,og 35 (bt .geq 3 33 34) 32 false,o1 36 (pa 32 35)] 0 none) []
 (.cond (tm 36)
 (.seq (.region 3 [o1 8 (sb false)] 0 none) []
  (.ret (rl 0 8 (rl 9 35 []))))
 .skip))) (rl 8 29 [])
 A60v1))⟩
def F232 (x0:Int) (x1:Nat) (x2:FF) (x3 x4:Int):Option (Bool) :=
 (ob (F225 u x0 x1 x2) fun x5=>(bif ((x5.2.2 != 0)==false) then (bif ((decide (x3<0))==false) then (bif ((decide (x3≥x0))==false) then (bif ((decide (x4<0))==false) then (bif (decide (x4≥x0)) then (some false) else (ob (F231 u x0 x1 x2 x3) fun x6=>(bif (inb x4 x6.1) then (some (x6.2 x4.toNat 0).bool) else none))) else (some false)) else (some false)) else (some false)) else (some false)))
theorem e232:evalF (C19 u) u A60 [.v (vi i0),.v (ro kP n0 f0),.v (vi i1),.v (vi i2)]=ob (F232 u i0 n0 f0 i1 i2) fun t=>some [.v (.b t)]:=by
 simp only [F232,ob_bif,ob_ob,ob_none,ob_some]
 kernel_rfl
def O232:Ora:=mkO (qc (av ci) (qc (av (cL kP)) (qc (av ci) (q1 (av ci))))) (fun x=>F232 u x.1 x.2.1.1 x.2.1.2 x.2.2.1 x.2.2.2) fun t=>[.v (.b t)]
theorem d232:DO (O232 u) (C19 u) 60 A60:=dO u (fun x=>by exact e232 u x.2.1.1 x.2.1.2 x.1 x.2.2.1 x.2.2.2)
def C20:Oracle:=(C19 u).add 60 (fun _=>true) (O232 u)
def A66:AF:=⟨8,[.tmp 3],
 (.seq (.region 0 [o1 2 (bx 0 53 0),o1 3 (sb false)] 1 none) []
 (.seq (.region 1 [o1 4 (fa 53 2 0 0),o1 5 (lo 9 4),o1 6 (lo 9 1),o1 7 (bt .eql 9 5 6),o1 3 (sg 7)] 0 none) []
 (.ret (0 :: 1 :: 2 :: (rl 4 4 [])))))⟩
def F335 (u:Nat) (x0:ByteArray) (x1:Int) (x2:Nat) (x3:FF) (x4:Nat→CV):Option (Bool) :=
 (some (ByteArray.toList x0==ByteArray.toList (x4 0).str))
theorem e335:evalF (C20 u) u A66 [.agg [(.s w0),(vi i0),(ro kO n0 f0)],.v (.rp kO g0)]=ob (F335 u w0 i0 n0 f0 g0) fun t=>some [.v (.b t)]:=by
 simp only [F335,ob_bif,ob_ob,ob_none,ob_some]
 kernel_rfl
def O335:Ora:=mkO (qc (ag (tc cS (tc ci (t1 (cL kO))))) (q1 (av (cP kO)))) (fun x=>F335 u x.1.1 x.1.2.1 x.1.2.2.1 x.1.2.2.2 x.2) fun t=>[.v (.b t)]
theorem d335:DO (O335 u) (C20 u) 66 A66:=dO u (fun x=>by exact e335 u x.1.2.2.1 x.1.2.2.2 x.1.2.1 x.1.1 x.2)
def C21:Oracle:=(C20 u).add 66 (fun _=>true) (O335 u)
def A65v1:AC:=(.region 6 [o1 18 (bk .add 3 8 1),mv 8 18] 0 none)
def A65v2:AC:=(.seq (.block 1
 (.seq (.region 3 [mv 10 8,o1 5 (sg 10)] 0 none) []
  (.seq (.region 4 [mv 11 1,mv 12 0,mv 13 5,o1 14 (.indexAddr 29 53 3 (tm 12) (tm 13)),o1 15 (ln 53 3 14),o1 16 (.callv (tm 11) [(tm 15)] [53] .snap)] 0 none) []
  (.cond (tm 16)
  (.seq (.region 5 [mv 17 5,o1 4 (sg 17)] 0 none) []
   (.ret (rl 0 4 (rl 5 14 []))))
  .skip)))) (4 :: 5 :: (rl 10 8 []))
 A65v1)
def A65v3:AC:=(.seq (.region 2 [o1 9 (bt .lss 3 8 7)] 0 none) []
 (.seq (.cond (tm 9)
 .skip
 (.exit 0 (rl 0 19 []))) []
 A65v2))
def A65v4:AC:=(.seq (.region 7 [o1 4 (sk (-1))] 0 none) []
 (.ret (rl 0 4 (rl 5 14 []))))
def A65:AF:=⟨19,[.tmp 4],
 (.seq (.region 0 [o1 4 (sk 0)] 0 none) []
 (.seq (.seq (.region 1 [mv 6 0,o1 7 (.len 29 false (tm 6)),o1 8 (.move (ic 0))] 0 none) []
 (.block 0
 (.loop [] (rl 2 5 (rl 9 10 []))
  A65v3))) (rl 4 15 [])
 A65v4))⟩
def N336v1:St→Option St:=nN 0 (rl 2 5 (rl 9 10 []))
def s336v0:St:=⟨(.x (.c (ro kE n0 f0)) :: .x (.c (.fn 66 1 (listF [(.rp kO g0)]))) :: (us 5 (vxi i0 :: vxi i1 :: (us 10 [])))),[]⟩
def s336v1:St:=⟨(us 4 (vxi i0 :: (us 14 []))),[]⟩
def s336v2:St:=⟨(us 19 []),[]⟩
def L336v1 {ρ:Type} (u:Nat) (x0:Nat) (x1:FF) (x2:Nat→CV) (x3:Int):Nat→Int→(Int→Option ρ)→(Option ρ)→Option ρ
 | 0,_,_,_=>none
 | m+1,x4,k0,k1 =>
  (bif (decide (x4<x3)) then (bif (inb x4 x0) then (ob (F335 u (x1 x4.toNat 0).str (x1 x4.toNat 1).int (x1 x4.toNat 2).len (x1 x4.toNat 2).el x2) fun x5=>(bif x5 then (k0 x4) else (L336v1 u x0 x1 x2 x3 m (w64 (x4+1)) k0 k1))) else none) else k1)
theorem nl336v1:∀ (m:Nat) (x0:Int) (k0:Int→Option ρ) (k1:Option ρ),ob (L336v1 u n0 f0 g0 i0 m x0 k0 k1) ng=L336v1 u n0 f0 g0 i0 m x0 (fun x1=>ob (k0 x1) ng) (ob k1 ng)
 | 0,_,_,_=>rfl
 | m+1,x0,k0,k1=>by
  simp only [L336v1,ob_bif,ob_ob,ob_none,nl336v1 m]
theorem q336v1:∀ (m:Nat) (x0:Int),
  loopH (eB A65v3 (C21 u) u) N336v1 m (s336v0 n0 f0 i0 x0 g0) k=L336v1 u n0 f0 g0 i0 m x0 (fun x1=>k .ret (s336v1 x1)) (k (.exit 0) s336v2)
 | 0,_=>rfl
 | m+1,x0=>by
  simp only [L336v1,← q336v1 m]
  kernel_rfl
def F336 (x0:Nat) (x1:FF) (x2:Nat→CV):Option (Int) :=
 (L336v1 u x0 x1 x2 (Int.ofNat x0) u 0
  (fun x3=>(some x3))
  (some (-1)))
def s336v3:St:=⟨[.x (.c (ro kE n0 f0)),.x (.c (.fn 66 1 (listF [(.rp kO g0)]))),uu,uu,vxi 0,uu,.x (.c (ro kE n0 f0)),vxi (Int.ofNat n0),vxi 0,uu,uu,uu,uu,uu,uu,uu,uu,uu,uu],[]⟩
theorem t336v1 :
  loopN (eB A65v3 (C21 u) u) N336v1 u (s336v3 n0 f0 g0) k =
  L336v1 u n0 f0 g0 (Int.ofNat n0) u 0 (fun x0=>k .ret (s336v1 x0)) (k (.exit 0) s336v2) :=
 Eq.trans (loopN_at (by kernel_rfl)) (q336v1 ..)
theorem g336v2 :
  (kBlk 0 (kSeq (C21 u) u (rl 4 15 []) A65v4 (finish A65))) .ret (s336v1 i0) =
  (some [.v (vi i0)]):=by kernel_rfl
theorem g336v3 :
  (kBlk 0 (kSeq (C21 u) u (rl 4 15 []) A65v4 (finish A65))) (.exit 0) s336v2 =
  (some [.v (vi (-1))]):=by kernel_rfl
theorem e336:evalF (C21 u) u A65 [.v (ro kE n0 f0),.v (.fn 66 1 (listF [(.rp kO g0)]))]=ob (F336 u n0 f0 g0) fun t=>some [.v (vi t)]:=Eq.trans (b:=(loopN (eB A65v3 (C21 u) u) N336v1 u (s336v3 n0 f0 g0) (kBlk 0 (kSeq (C21 u) u (rl 4 15 []) A65v4 (finish A65))))) (by kernel_rfl) (by
 simp only [F336,ob_bif,ob_ob,ob_none,ob_some,nl336v1,t336v1,g336v2,g336v3])
def O336:Ora:=mkO (qc (av (cL kE)) (q1 (av (cF 66 1 (t1 (cP kO)))))) (fun x=>F336 u x.1.1 x.1.2 x.2) fun t=>[.v (vi t)]
theorem d336:DO (O336 u) (C21 u) 65 A65:=dO u (fun x=>by exact e336 u x.1.1 x.1.2 x.2)
def C22:Oracle:=(C21 u).add 65 (fun l=>isFn 66 l 1) (O336 u)
def A37:AF:=⟨11,[.tmp 4],
 (.seq (.region 0 [o1 3 (bx 0 9 1),o1 4 (sk 0)] 1 none) []
 (.seq (.region 1 [mv 5 0,o1 6 (.nilCheck (tm 5)),o1 7 (fa 75 6 0 0),o1 8 (lo 29 7),o1 9 (.mkfn 66 [(tm 3)]),o1 10 (cs 65 [8,9] [29,110]),o1 4 (sg 10)] 0 none) []
 (.ret (rl 0 4 (rl 5 6 [])))))⟩
def F337 (x0:Nat→CV) (x1:ByteArray):Option (Int) :=
 (ob (F336 u (x0 0).len (x0 0).el (listF [(.s x1)])) fun x2=>(some x2))
theorem e337:evalF (C22 u) u A37 [.v (.rp kC g0),.v (.s w0)]=ob (F337 u g0 w0) fun t=>some [.v (vi t)]:=by
 simp only [F337,ob_bif,ob_ob,ob_none,ob_some]
 kernel_rfl
def O337:Ora:=mkO (qc (av (cP kC)) (q1 (av cS))) (fun x=>F337 u x.1 x.2) fun t=>[.v (vi t)]
theorem d337:DO (O337 u) (C22 u) 37 A37:=dO u (fun x=>by exact e337 u x.2 x.1)
def C23:Oracle:=(C22 u).add 37 (fun _=>true) (O337 u)
def A80v1:AC:=(.region 6 [o1 18 (bk .add 3 8 1),mv 8 18] 0 none)
def A80v2:AC:=(.seq (.block 1
 (.seq (.region 3 [mv 10 8,o1 5 (sg 10)] 0 none) []
  (.seq (.region 4 [mv 11 1,mv 12 0,mv 13 5,o1 14 (.indexAddr 73 3 1 (tm 12) (tm 13)),o1 15 (lo 3 14),o1 16 (bt .eql 3 11 15)] 0 none) []
  (.cond (tm 16)
  (.seq (.region 5 [mv 17 5,o1 4 (sg 17)] 0 none) []
   (.ret (rl 0 4 (rl 5 14 []))))
  .skip)))) (4 :: 5 :: (rl 10 8 []))
 A80v1)
def A80v3:AC:=(.seq (.region 2 [o1 9 (bt .lss 3 8 7)] 0 none) []
 (.seq (.cond (tm 9)
 .skip
 (.exit 0 (rl 0 19 []))) []
 A80v2))
def A80v4:AC:=(.seq (.region 7 [o1 4 (sk (-1))] 0 none) []
 (.ret (rl 0 4 (rl 5 14 []))))
def A80:AF:=⟨19,[.tmp 4],
 (.seq (.region 0 [o1 4 (sk 0)] 0 none) []
 (.seq (.seq (.region 1 [mv 6 0,o1 7 (.len 73 false (tm 6)),o1 8 (.move (ic 0))] 0 none) []
 (.block 0
 (.loop [] (rl 2 5 (rl 9 10 []))
  A80v3))) (rl 4 15 [])
 A80v4))⟩
def N338v1:St→Option St:=nN 0 (rl 2 5 (rl 9 10 []))
def s338v0:St:=⟨(.x (.c (ro kM n0 f0)) :: vxi i0 :: (us 5 (vxi i1 :: vxi i2 :: (us 10 [])))),[]⟩
def s338v1:St:=⟨(us 4 (vxi i0 :: (us 14 []))),[]⟩
def s338v2:St:=⟨(us 19 []),[]⟩
def L338v1 {ρ:Type} (u:Nat) (x0:Nat) (x1:FF) (x2 x3:Int):Nat→Int→(Int→Option ρ)→(Option ρ)→Option ρ
 | 0,_,_,_=>none
 | m+1,x4,k0,k1 =>
  (bif (decide (x4<x3)) then (bif (inb x4 x0) then (bif (x2==(x1 x4.toNat 0).int) then (k0 x4) else (L338v1 u x0 x1 x2 x3 m (w64 (x4+1)) k0 k1)) else none) else k1)
theorem nl338v1:∀ (m:Nat) (x0:Int) (k0:Int→Option ρ) (k1:Option ρ),ob (L338v1 u n0 f0 i0 i1 m x0 k0 k1) ng=L338v1 u n0 f0 i0 i1 m x0 (fun x1=>ob (k0 x1) ng) (ob k1 ng)
 | 0,_,_,_=>rfl
 | m+1,x0,k0,k1=>by
  simp only [L338v1,ob_bif,ob_ob,ob_none,nl338v1 m]
theorem q338v1:∀ (m:Nat) (x0:Int),
  loopH (eB A80v3 (C23 u) u) N338v1 m (s338v0 n0 f0 i0 i1 x0) k=L338v1 u n0 f0 i0 i1 m x0 (fun x1=>k .ret (s338v1 x1)) (k (.exit 0) s338v2)
 | 0,_=>rfl
 | m+1,x0=>by
  simp only [L338v1,← q338v1 m]
  kernel_rfl
def F338 (x0:Nat) (x1:FF) (x2:Int):Option (Int) :=
 (L338v1 u x0 x1 x2 (Int.ofNat x0) u 0
  (fun x3=>(some x3))
  (some (-1)))
def s338v3:St:=⟨[.x (.c (ro kM n0 f0)),vxi i0,uu,uu,vxi 0,uu,.x (.c (ro kM n0 f0)),vxi (Int.ofNat n0),vxi 0,uu,uu,uu,uu,uu,uu,uu,uu,uu,uu],[]⟩
theorem t338v1 :
  loopN (eB A80v3 (C23 u) u) N338v1 u (s338v3 n0 f0 i0) k =
  L338v1 u n0 f0 i0 (Int.ofNat n0) u 0 (fun x0=>k .ret (s338v1 x0)) (k (.exit 0) s338v2) :=
 Eq.trans (loopN_at (by kernel_rfl)) (q338v1 ..)
theorem g338v2 :
  (kBlk 0 (kSeq (C23 u) u (rl 4 15 []) A80v4 (finish A80))) .ret (s338v1 i0) =
  (some [.v (vi i0)]):=by kernel_rfl
theorem g338v3 :
  (kBlk 0 (kSeq (C23 u) u (rl 4 15 []) A80v4 (finish A80))) (.exit 0) s338v2 =
  (some [.v (vi (-1))]):=by kernel_rfl
theorem e338:evalF (C23 u) u A80 [.v (ro kM n0 f0),.v (vi i0)]=ob (F338 u n0 f0 i0) fun t=>some [.v (vi t)]:=Eq.trans (b:=(loopN (eB A80v3 (C23 u) u) N338v1 u (s338v3 n0 f0 i0) (kBlk 0 (kSeq (C23 u) u (rl 4 15 []) A80v4 (finish A80))))) (by kernel_rfl) (by
 simp only [F338,ob_bif,ob_ob,ob_none,ob_some,nl338v1,t338v1,g338v2,g338v3])
def O338:Ora:=mkO (qc (av (cL kM)) (q1 (av ci))) (fun x=>F338 u x.1.1 x.1.2 x.2) fun t=>[.v (vi t)]
theorem d338:DO (O338 u) (C23 u) 80 A80:=dO u (fun x=>by exact e338 u x.1.1 x.1.2 x.2)
def C24:Oracle:=(C23 u).add 80 (fun _=>true) (O338 u)
def A61:AF:=⟨9,[.tmp 4],
 (.seq (.region 0 [o1 4 (sb false)] 0 none) []
 (.seq (.region 1 [mv 5 0,mv 6 1,o1 7 (cs 80 [5,6] [73,3]),o1 8 (bk .geq 3 7 0),o1 4 (sg 8)] 0 none) []
 (.ret (rl 0 4 (rl 5 4 [])))))⟩
def F339 (x0:Nat) (x1:FF) (x2:Int):Option (Bool) :=
 (ob (F338 u x0 x1 x2) fun x3=>(some (decide (x3≥0))))
theorem e339:evalF (C24 u) u A61 [.v (ro kM n0 f0),.v (vi i0)]=ob (F339 u n0 f0 i0) fun t=>some [.v (.b t)]:=by
 simp only [F339,ob_bif,ob_ob,ob_none,ob_some]
 kernel_rfl
def O339:Ora:=mkO (qc (av (cL kM)) (q1 (av ci))) (fun x=>F339 u x.1.1 x.1.2 x.2) fun t=>[.v (.b t)]
theorem d339:DO (O339 u) (C24 u) 61 A61:=dO u (fun x=>by exact e339 u x.1.1 x.1.2 x.2)
def C25:Oracle:=(C24 u).add 61 (fun _=>true) (O339 u)
def A35v1:AC:=(.seq (.block 3
 (.seq (.region 15 [mv 57 55,o1 58 (.indexAddr 29 53 3 (tm 53) (tm 55)),o1 59 (ln 53 3 58),o1 17 (.alloc 0 53 [vcs ByteArray.empty,vci 0,vcn]),o1 16 (sg 57),o0 (.store 53 3 (tm 17) (tm 59))] 1 none) []
  (.region 16 [mv 60 15,mv 61 16,o1 62 (fa 53 14 0 0),o1 63 (lo 9 62),o1 64 (fa 53 17 0 0),o1 65 (lo 9 64),o1 66 (bt .neq 9 63 65),mv 67 66,og 68 (lo 51 10) 67 true,og 69 (.len 51 false (tm 68)) 67 true,og 70 (.move (tm 11)) 67 true,og 71 (.move (tm 12)) 67 true,og 72 (ln 53 3 14) 67 true,og 73 (.callv (tm 71) [(tm 72)] [53] .snap) 67 true,og 74 (.move (tm 12)) 67 true,og 75 (ln 53 3 17) 67 true,og 76 (.callv (tm 74) [(tm 75)] [53] .snap) 67 true,og 77 (cs 60 [69,70,73,76] [3,102,3,3]) 67 true,o1 78 (po 67 77),o1 79 (.indexAddr 71 4 1 (tm 60) (tm 61)),o0 (.store 4 1 (tm 79) (tm 78))] 0 (some [[],[],[],[2],[],[4],(rl 2 4 []),(rl 2 5 []),(rl 2 6 []),(rl 2 7 []),(rl 2 6 []),(rl 2 6 []),(rl 2 6 []),(rl 2 6 [11,12]),(rl 2 6 []),(rl 2 6 []),(rl 2 6 (rl 11 5 [])),(rl 2 15 []),(rl 2 16 []),(rl 0 19 []),(rl 0 20 [])])))) []
 (.region 17 [o1 80 (bk .add 3 55 1),mv 55 80] 0 none))
def A35v2:AC:=(.seq (.region 14 [o1 56 (bt .lss 3 55 54)] 0 none) []
 (.seq (.cond (tm 56)
 .skip
 (.ghost [4] (.exit 2 (0 :: 2 :: (rl 4 5 (13 :: 14 :: (rl 16 28 (rl 47 82 [])))))))) []
 A35v1))
def A35v3:AC:=(.region 18 [mv 81 9,mv 82 9,o1 83 (.nilCheck (tm 82)),o1 84 (fa 75 83 2 2),o1 85 (lo 72 84),mv 86 15,o1 87 (.buildSlice 0 72 71 kJ 1 [.c (.ro true kN 0 nilF)] [(0,(tm 86))]),o1 88 (.append 1 72 71 kJ 24 (tm 85) (tm 87)),o1 89 (.nilCheck (tm 81)),o1 90 (fa 75 89 2 2),o0 (.store 72 1 (tm 90) (tm 88))] 2 none)
def A35v4:AC:=(.region 19 [o1 91 (bk .add 3 46 1),mv 46 91] 0 none)
def A35v5:AC:=(.seq (.block 1
 (.seq (.region 11 [o1 48 (.indexAddr 29 53 3 (tm 44) (tm 46)),o1 49 (ln 53 3 48),o1 14 (.alloc 0 53 [vcs ByteArray.empty,vci 0,vcn]),o0 (.store 53 3 (tm 14) (tm 49))] 1 none) []
  (.seq (.region 12 [mv 50 1,o1 51 (.len 29 false (tm 50)),o1 52 (.makeSlice 0 71 4 kN 1 [(.b false)] (tm 51) (tm 51)),o1 15 (sg 52)] 1 none) []
  (.seq (.seq (.region 13 [mv 53 1,o1 54 (.len 29 false (tm 53)),o1 55 (.move (ic 0))] 0 none) []
  (.block 2
  (.loop [] (0 :: 2 :: (rl 4 5 (13 :: (rl 16 28 (rl 47 6 (rl 56 73 []))))))
   A35v2))) (16 :: 17 :: (rl 53 28 []))
  A35v3)))) (rl 14 4 (rl 48 43 []))
 A35v4)
def A35v6:AC:=(.seq (.region 10 [o1 47 (bt .lss 3 46 45)] 0 none) []
 (.seq (.cond (tm 47)
 .skip
 (.ghost [2] (.exit 0 (0 :: 1 :: 2 :: (rl 4 5 (rl 10 119 [])))))) []
 A35v5))
def A35v7:AC:=(.region 27 [o1 127 (bk .add 3 99 1),mv 99 127] 0 none)
def A35v8:AC:=(.seq (.block 5
 (.seq (.region 23 [o1 101 (.indexAddr 51 9 1 (tm 97) (tm 99)),o1 102 (lo 9 101),o1 21 (sg 102)] 0 none) []
  (.seq (.region 24 [mv 103 9,mv 104 21,o1 105 (cs 37 [103,104] [67,9]),o1 22 (sg 105)] 0 none) []
  (.seq (.region 25 [mv 106 22,o1 107 (bk .geq 3 106 0),mv 108 107,og 109 (.move (tm 9)) 108 true,og 110 (.nilCheck (tm 109)) 108 true,og 111 (fa 75 110 3 3) 108 true,og 112 (lo 73 111) 108 true,og 113 (.move (tm 22)) 108 true,og 114 (cs 61 [112,113] [73,3]) 108 true,og 115 (.unOp .not 4 (tm 114)) 108 true,o1 116 (po 108 115)] 0 none) []
  (.cond (tm 116)
  (.region 26 [mv 117 9,mv 118 9,o1 119 (.nilCheck (tm 118)),o1 120 (fa 75 119 3 3),o1 121 (lo 73 120),mv 122 22,o1 123 (.buildSlice 0 73 3 kM 1 [vci 0] [(0,(tm 122))]),o1 124 (.append 1 73 3 kM 8 (tm 121) (tm 123)),o1 125 (.nilCheck (tm 117)),o1 126 (fa 75 125 3 3),o0 (.store 73 1 (tm 126) (tm 124))] 2 none)
  .skip))))) (21 :: 22 :: (rl 101 26 []))
 A35v7)
def A35v9:AC:=(.seq (.region 22 [o1 100 (bt .lss 3 99 98)] 0 none) []
 (.seq (.cond (tm 100)
 .skip
 (.ghost [0,2] (.exit 4 (rl 0 9 (rl 10 119 []))))) []
 A35v8))
def A35v10:AC:=(.seq (.region 28 [mv 128 9,o1 6 (sg 128),o1 7 (sk 0)] 0 none) []
 (.ghost [0,2] (.ret (rl 0 6 (rl 8 121 [])))))
def A35v11:AC:=(.seq (.region 20 [o1 93 (ln 28 6 3),o1 94 (cf 28 [93] [28]),mv 92 94,o1 95 (.extract (tm 92) 0),o1 96 (.extract (tm 92) 1),o1 18 (sg 95),o1 19 (sg 96)] 0 none) []
 (.seq (.seq (.region 21 [mv 97 18,o1 98 (.len 51 false (tm 97)),o1 99 (.move (ic 0))] 0 none) []
 (.block 4
 (.ghost [0,2] (.loop [.cell 9 3 kM] (rl 0 9 (rl 10 87 (rl 100 29 [])))
  A35v9)))) (21 :: 22 :: (rl 97 31 []))
 A35v10))
def A35v12:AC:=(.seq (.region 6 [mv 35 1,mv 36 2,o1 37 (.build 75 [.c (.ro true kE 0 nilF),vci 0,.c (.ro true kJ 0 nilF),.c (.ro true kM 0 nilF)] [(0,1),(1,1),(2,1),(3,1)] 0 [(0,(tm 35)),(1,(tm 36))]),o1 38 (bx 0 75 37),o1 9 (sg 38)] 1 none) []
 (.seq (.region 7 [o1 39 (ln 28 6 3),o1 40 (cf 29 [39] [28]),o1 41 (ln 28 6 3),o1 42 (cf 55 [41] [28]),o1 10 (.alloc 0 51 [vcn]),o0 (.store 51 1 (tm 10) (tm 40)),o1 11 (sg 42)] 1 (some [[],[0],[],[0,1,2],[],(rl 0 5 []),(rl 0 6 [])])) []
 (.seq (.region 8 [o1 43 (.mkfn 59 [(tm 10)]),o1 12 (sg 43)] 0 none) []
 (.seq (.seq (.region 9 [mv 44 1,o1 45 (.len 29 false (tm 44)),o1 46 (.move (ic 0))] 0 none) []
 (.block 0
 (.loop [.cell 9 2 kJ] (0 :: 2 :: (rl 4 5 (rl 13 31 (rl 47 82 []))))
  A35v6))) (rl 14 4 (rl 44 48 []))
 A35v11))))
def A35v13:AC:=(.seq (.seq (.region 4 [mv 29 2,o1 30 (bk .lss 3 29 0),mv 31 30,og 32 (.move (tm 2)) 31 false,og 33 (bk .gtr 3 32 1048576) 31 false,o1 34 (pa 31 33)] 0 none) []
 (.cond (tm 34)
 (.seq (.region 5 [o1 6 (.assign (.const (.pointer none))),o1 7 (sk 15)] 0 none) []
  (.ghost [0] (.ret (rl 0 6 (rl 8 121 [])))))
 .skip)) (6 :: 7 :: (rl 29 6 []))
 A35v12)
def A35:AF:=⟨129,[.tmp 6,.tmp 7],
 (.seq (.region 0 [o1 3 (bx 0 28 0),o1 6 (.assign (.const (.pointer none))),o1 7 (sk 0)] 1 none) []
 (.seq (.seq (.region 1 [o1 23 (ln 28 6 3),mv 24 1,o1 25 (cs 12 [23,24] [28,29]),o1 8 (sg 25)] 0 none) []
 (.seq (.region 2 [mv 26 8,o1 27 (bk .neq 35 26 0)] 0 none) []
 (.cond (tm 27)
 (.seq (.region 3 [mv 28 8,o1 6 (.assign (.const (.pointer none))),o1 7 (sg 28)] 0 none) []
  (.ghost [0] (.ret (rl 0 6 (rl 8 121 [])))))
 .skip))) (6 :: 7 :: 8 :: (rl 23 6 []))
 A35v13))⟩
def N340v2:St→Option St:=nN 6 (0 :: 2 :: (rl 4 5 (13 :: (rl 16 28 (rl 47 6 (rl 56 73 []))))))
def s340v0:St:=⟨(.u :: .x (.c (ro kE n0 f0)) :: .u :: .x (.ptr 0 0) :: (us 5 (.x (.ptr 1 0) :: .x (.ptr 2 0) :: .x (.c (ro kP n1 f1)) :: .x (.fn 59 [.ptr 2 0]) :: .u :: .x (.ptr 4 0) :: .x (.own 5 0 n2) :: (us 28 (.x (.c (ro kE n0 f0)) :: vxi i0 :: vxi i1 :: (us 6 (.x (.c (ro kE n0 f0)) :: vxi i2 :: vxi i3 :: (us 73 [])))))))),[.box [(vcs w0),(.c (ro kF n3 f2)),(.c (ro kB n4 f3)),(.c (ro kI n5 f4)),(.c (ro kD n6 f5)),(.c (ro kG n7 f6))],.box [(.c (ro kE n0 f0)),(vci i4),(.own 3 0 n8),(.c (.ro true kM 0 nilF))],.box [(.c (ro kO n9 f7))],.arr kJ n8 f8,.box [(vcs w1),(vci i5),(.c (ro kO nA f9))],.arr kN n2 fA]⟩
def s340v1:St:=⟨(.u :: .x (.c (ro kE n0 f0)) :: .u :: .x (.ptr 0 0) :: (us 5 (.x (.ptr 1 0) :: .x (.ptr 2 0) :: .x (.c (ro kP n1 f1)) :: .x (.fn 59 [.ptr 2 0]) :: .u :: .u :: .x (.own 5 0 n2) :: (us 28 (.x (.c (ro kE n0 f0)) :: vxi i0 :: vxi i1 :: (us 82 [])))))),[.box [(vcs w0),(.c (ro kF n3 f2)),(.c (ro kB n4 f3)),(.c (ro kI n5 f4)),(.c (ro kD n6 f5)),(.c (ro kG n7 f6))],.box [(.c (ro kE n0 f0)),(vci i2),(.own 3 0 n8),(.c (.ro true kM 0 nilF))],.box [(.c (ro kO n9 f7))],.arr kJ n8 f8,.dead,.arr kN n2 f9]⟩
def L340v2 {ρ:Type} (u:Nat) (x0:Nat) (x1:FF) (x2:Nat) (x3:FF) (x4:Nat) (x5 x6 x7:Int) (x8:ByteArray) (x9:Nat) (xA:FF) (xB:Nat) (xC:FF) (xD:Nat) (xE:FF) (xF:Nat) (xG:FF) (xH:Nat) (xI:FF) (xJ:Int) (xK xL:Nat) (xM xN:FF) (xO:ByteArray) (xP:Int) (xQ:Nat) (xR:FF):Nat→Int→FF→(FF→Option ρ)→Option ρ
 | 0,_,_,_=>none
 | m+1,xS,xT,k0 =>
  (bif (decide (xS<x7)) then (bif (inb xS x0) then (bif ((!(ByteArray.toList xO==ByteArray.toList (x1 xS.toNat 0).str))==true) then (ob (F334 u xO xP xQ xR (listF [(.ro false (.pr .str .nil) xL xM)])) fun xU=>(ob (F334 u (x1 xS.toNat 0).str (x1 xS.toNat 1).int (x1 xS.toNat 2).len (x1 xS.toNat 2).el (listF [(.ro false (.pr .str .nil) xL xM)])) fun xV=>(ob (F232 u (Int.ofNat xL) x2 x3 xU xV) fun xW=>(bif (inb xS x4) then (L340v2 u x0 x1 x2 x3 x4 x5 x6 x7 x8 x9 xA xB xC xD xE xF xG xH xI xJ xK xL xM xN xO xP xQ xR m (w64 (xS+1)) (setF xT (0+xS.toNat) 0 1 (listF [(.b xW)])) k0) else none)))) else (bif (inb xS x4) then (L340v2 u x0 x1 x2 x3 x4 x5 x6 x7 x8 x9 xA xB xC xD xE xF xG xH xI xJ xK xL xM xN xO xP xQ xR m (w64 (xS+1)) (setF xT (0+xS.toNat) 0 1 (listF [(.b false)])) k0) else none)) else none) else (k0 xT))
theorem nl340v2:∀ (m:Nat) (x0:Int) (x1:FF) (k0:FF→Option ρ),ob (L340v2 u n0 f0 n1 f1 n2 i0 i1 i2 w0 n3 f2 n4 f3 n5 f4 n6 f5 n7 f6 i3 n8 n9 f7 f8 w1 i4 nA f9 m x0 x1 k0) ng=L340v2 u n0 f0 n1 f1 n2 i0 i1 i2 w0 n3 f2 n4 f3 n5 f4 n6 f5 n7 f6 i3 n8 n9 f7 f8 w1 i4 nA f9 m x0 x1 (fun x2=>ob (k0 x2) ng)
 | 0,_,_,_=>rfl
 | m+1,x0,x1,k0=>by
  simp only [L340v2,ob_bif,ob_ob,ob_none,nl340v2 m]
theorem q340v2:∀ (m:Nat) (x0:Int) (x1:FF),
  loopH (eB A35v2 (C25 u) u) N340v2 m (s340v0 n0 n1 n2 n3 n4 n5 n6 n7 n8 n9 nA f0 f1 f2 f3 f4 f5 f6 f7 f8 f9 x1 i0 i1 i2 x0 i3 i4 w0 w1) k=L340v2 u n0 f0 n1 f1 n2 i0 i1 i2 w0 n3 f2 n4 f3 n5 f4 n6 f5 n7 f6 i3 n8 n9 f7 f8 w1 i4 nA f9 m x0 x1 (fun x2=>k (.exit 2) (s340v1 n0 n1 n2 n3 n4 n5 n6 n7 n8 n9 f0 f1 f2 f3 f4 f5 f6 f7 f8 x2 i0 i1 i3 w0))
 | 0,_,_=>rfl
 | m+1,x0,x1=>by
  simp only [L340v2,← q340v2 m]
  kernel_rfl
def N340v3:St→Option St:=nN 4 (0 :: 2 :: (rl 4 5 (rl 13 31 (rl 47 82 []))))
def s340v2:St:=⟨(.u :: .x (.c (ro kE n0 f0)) :: .u :: .x (.ptr 0 0) :: (us 5 (.x (.ptr 1 0) :: .x (.ptr 2 0) :: .x (.c (ro kP n1 f1)) :: .x (.fn 59 [.ptr 2 0]) :: (us 31 (.x (.c (ro kE n0 f0)) :: vxi i0 :: vxi i1 :: (us 82 [])))))),[.box [(vcs w0),(.c (ro kF n2 f2)),(.c (ro kB n3 f3)),(.c (ro kI n4 f4)),(.c (ro kD n5 f5)),(.c (ro kG n6 f6))],.box [(.c (ro kE n0 f0)),(vci i2),(.own 3 0 n7),(.c (.ro true kM 0 nilF))],.box [(.c (ro kO n8 f7))],.arr kJ n7 f8]⟩
def s340v3:St:=⟨(us 3 (.x (.ptr 0 0) :: (us 5 (.x (.ptr 1 0) :: (us 119 []))))),[.box [(vcs w0),(.c (ro kF n0 f0)),(.c (ro kB n1 f1)),(.c (ro kI n2 f2)),(.c (ro kD n3 f3)),(.c (ro kG n4 f4))],.box [(.c (ro kE n5 f5)),(vci i0),(.own 3 0 n6),(.c (.ro true kM 0 nilF))],.dead,.arr kJ n6 f6]⟩
def L340v3 {ρ:Type} (u:Nat) (x0:Nat) (x1:FF) (x2:Nat) (x3:FF) (x4:Int) (x5:ByteArray) (x6:Nat) (x7:FF) (x8:Nat) (x9:FF) (xA:Nat) (xB:FF) (xC:Nat) (xD:FF) (xE:Nat) (xF:FF) (xG:Int) (xH:Nat) (xI:FF):Nat→Int→Nat→FF→(Nat→FF→Option ρ)→Option ρ
 | 0,_,_,_,_=>none
 | m+1,xJ,xK,xL,k0 =>
  (bif (decide (xJ<x4)) then (bif (inb xJ x0) then (bif (decide (0≤(Int.ofNat x0))&&decide ((Int.ofNat x0)≤(Int.ofNat x0))&&decide ((Int.ofNat x0)≤1073741824)&&true) then (L340v2 u x0 x1 x2 x3 (Int.toNat (Int.ofNat x0)) x4 xJ (Int.ofNat x0) x5 x6 x7 x8 x9 xA xB xC xD xE xF xG xK xH xI xL (x1 xJ.toNat 0).str (x1 xJ.toNat 1).int (x1 xJ.toNat 2).len (x1 xJ.toNat 2).el u 0 (fun _ j=>listF [(.b false)] j)
  (fun xM=>(bif (Nat.ble (xK+1) 1073741824) then (L340v3 u x0 x1 x2 x3 x4 x5 x6 x7 x8 x9 xA xB xC xD xE xF xG xH xI m (w64 (xJ+1)) (xK+1) (joinF xK xL (rowsF 1 [(.ro false (.pr .bool .nil) (Int.toNat (Int.ofNat x0)) xM)])) k0) else none))) else none) else none) else (k0 xK xL))
theorem nl340v3:∀ (m:Nat) (x0:Int) (x1:Nat) (x2:FF) (k0:Nat→FF→Option ρ),ob (L340v3 u n0 f0 n1 f1 i0 w0 n2 f2 n3 f3 n4 f4 n5 f5 n6 f6 i1 n7 f7 m x0 x1 x2 k0) ng=L340v3 u n0 f0 n1 f1 i0 w0 n2 f2 n3 f3 n4 f4 n5 f5 n6 f6 i1 n7 f7 m x0 x1 x2 (fun x3 x4=>ob (k0 x3 x4) ng)
 | 0,_,_,_,_=>rfl
 | m+1,x0,x1,x2,k0=>by
  simp only [L340v3,ob_bif,ob_ob,ob_none,nl340v3 m,nl340v2]
def s340v4:St:=⟨(.u :: .x (.c (ro kE n0 f0)) :: .u :: .x (.ptr 0 0) :: (us 5 (.x (.ptr 1 0) :: .x (.ptr 2 0) :: .x (.c (ro kP n1 f1)) :: .x (.fn 59 [.ptr 2 0]) :: .u :: .x (.ptr 4 0) :: .x (.own 5 0 (Int.toNat (Int.ofNat n0))) :: (us 28 (.x (.c (ro kE n0 f0)) :: vxi i0 :: vxi i1 :: vxb true :: .x (.c (.rp kE (f0 i1.toNat))) :: .agg [(vcs (f0 i1.toNat 0).str),(vci (f0 i1.toNat 1).int),(.c (ro kO (f0 i1.toNat 2).len (f0 i1.toNat 2).el))] :: .x (.c (ro kE n0 f0)) :: vxi (Int.ofNat n0) :: .x (.own 5 0 (Int.toNat (Int.ofNat n0))) :: .x (.c (ro kE n0 f0)) :: vxi (Int.ofNat n0) :: vxi 0 :: (us 73 [])))))),[.box [(vcs w0),(.c (ro kF n2 f2)),(.c (ro kB n3 f3)),(.c (ro kI n4 f4)),(.c (ro kD n5 f5)),(.c (ro kG n6 f6))],.box [(.c (ro kE n0 f0)),(vci i2),(.own 3 0 n7),(.c (.ro true kM 0 nilF))],.box [(.c (ro kO n8 f7))],.arr kJ n7 f8,.box [(vcs (f0 i1.toNat 0).str),(vci (f0 i1.toNat 1).int),(.c (ro kO (f0 i1.toNat 2).len (f0 i1.toNat 2).el))],.arr kN (Int.toNat (Int.ofNat n0)) (fun _ j=>listF [(.b false)] j)]⟩
theorem r340v3 :
  loopH (eB A35v6 (C25 u) u) N340v3 (m+1) (s340v2 n0 n1 n2 n3 n4 n5 n6 n8 n7 f0 f1 f2 f3 f4 f5 f6 f7 f8 i0 i2 i1 w0) k =
  (bif (decide (i2<i0)) then (bif (inb i2 n0) then (bif (decide (0≤(Int.ofNat n0))&&decide ((Int.ofNat n0)≤(Int.ofNat n0))&&decide ((Int.ofNat n0)≤1073741824)&&true) then (loopN (eB A35v2 (C25 u) u) N340v2 u (s340v4 n0 n1 n2 n3 n4 n5 n6 n8 n7 f0 f1 f2 f3 f4 f5 f6 f7 f8 i0 i2 i1 w0) (kBlk 2 (kSeq (C25 u) u (16 :: 17 :: (rl 53 28 [])) A35v3 (kBlk 1 (kSeq (C25 u) u (rl 14 4 (rl 48 43 [])) A35v4 (kLoop (eB A35v6 (C25 u) u) N340v3 m k)))))) else none) else none) else (k (.exit 0) (s340v3 n2 n3 n4 n5 n6 n0 n8 f2 f3 f4 f5 f6 f0 f8 i1 w0))):=by kernel_rfl
theorem t340v1 :
  loopN (eB A35v2 (C25 u) u) N340v2 u (s340v4 n0 n1 n2 n3 n4 n5 n6 n7 n8 f0 f1 f2 f3 f4 f5 f6 f7 f8 i0 i1 i2 w0) k =
  L340v2 u n0 f0 n1 f1 (Int.toNat (Int.ofNat n0)) i0 i1 (Int.ofNat n0) w0 n2 f2 n3 f3 n4 f4 n5 f5 n6 f6 i2 n7 n8 f7 f8 (f0 i1.toNat 0).str (f0 i1.toNat 1).int (f0 i1.toNat 2).len (f0 i1.toNat 2).el u 0 (fun _ j=>listF [(.b false)] j) (fun x0=>k (.exit 2) (s340v1 n0 n1 (Int.toNat (Int.ofNat n0)) n2 n3 n4 n5 n6 n7 n8 f0 f1 f2 f3 f4 f5 f6 f7 f8 x0 i0 i1 i2 w0)) :=
 Eq.trans (loopN_at (by kernel_rfl)) (q340v2 ..)
theorem g340v2 :
  (kBlk 2 (kSeq (C25 u) u (16 :: 17 :: (rl 53 28 [])) A35v3 (kBlk 1 (kSeq (C25 u) u (rl 14 4 (rl 48 43 [])) A35v4 (kLoop (eB A35v6 (C25 u) u) N340v3 m k))))) (.exit 2) (s340v1 n0 n1 (Int.toNat (Int.ofNat n0)) n2 n3 n4 n5 n6 n7 n8 f0 f1 f2 f3 f4 f5 f6 f7 f8 f9 i0 i1 i2 w0) =
  (bif (Nat.ble (n7+1) 1073741824) then (loopH (eB A35v6 (C25 u) u) N340v3 m (s340v2 n0 n1 n2 n3 n4 n5 n6 (n7+1) n8 f0 f1 f2 f3 f4 f5 f6 f7 (joinF n7 f8 (rowsF 1 [(ro kN (Int.toNat (Int.ofNat n0)) f9)])) i0 (w64 (i1+1)) i2 w0) k) else none):=by kernel_rfl
theorem q340v3:∀ (m:Nat) (x0:Int) (x1:Nat) (x2:FF),
  loopH (eB A35v6 (C25 u) u) N340v3 m (s340v2 n0 n1 n2 n3 n4 n5 n6 x1 n7 f0 f1 f2 f3 f4 f5 f6 f7 x2 i0 x0 i1 w0) k=L340v3 u n0 f0 n1 f1 i0 w0 n2 f2 n3 f3 n4 f4 n5 f5 n6 f6 i1 n7 f7 m x0 x1 x2 (fun x3 x4=>k (.exit 0) (s340v3 n2 n3 n4 n5 n6 n0 x3 f2 f3 f4 f5 f6 f0 x4 i1 w0))
 | 0,_,_,_=>rfl
 | m+1,x0,x1,x2=>by
  rw [r340v3]
  simp only [L340v3,q340v3 m,t340v1,g340v2]
def N340v4:St→Option St:=nN 5 (rl 0 9 (rl 10 87 (rl 100 29 [])))
def s340v5:St:=⟨(us 9 (.x (.ptr 1 0) :: (us 87 (.x (.c (ro kO n0 f0)) :: vxi i0 :: vxi i1 :: (us 29 []))))),[.dead,.box [(.c (ro kE n1 f1)),(vci i2),(.own 3 0 n2),(.own 4 0 n3)],.dead,.arr kJ n2 f2,.arr kM n3 f3]⟩
def s340v6:St:=⟨(us 9 (.x (.ptr 1 0) :: (us 119 []))),[.dead,.box [(.c (ro kE n0 f0)),(vci i0),(.own 3 0 n1),(.own 4 0 n2)],.dead,.arr kJ n1 f1,.arr kM n2 f2]⟩
def L340v4 {ρ:Type} (u:Nat) (x0:Nat) (x1:FF) (x2:Int) (x3:Nat) (x4:FF) (x5:Int) (x6:Nat) (x7:FF):Nat→Int→Nat→FF→(Nat→FF→Option ρ)→Option ρ
 | 0,_,_,_,_=>none
 | m+1,x8,x9,xA,k0 =>
  (bif (decide (x8<x2)) then (bif (inb x8 x0) then (ob (F337 u (listF [(.ro false (.pr .str (.pr (.int .i64) (.pr (.sl (.pr .str .nil)) .nil))) x3 x4),(.i .i64 x5),(.ro false (.pr (.sl (.pr .bool .nil)) .nil) x6 x7),(.ro false (.pr (.int .i64) .nil) x9 xA)]) (x1 x8.toNat 0).str) fun xB=>(bif ((decide (xB≥0))==true) then (ob (F339 u x9 xA xB) fun xC=>(bif (!xC) then (bif (Nat.ble (x9+1) 1073741824) then (L340v4 u x0 x1 x2 x3 x4 x5 x6 x7 m (w64 (x8+1)) (x9+1) (joinF x9 xA (rowsF 1 [(.i .i64 xB)])) k0) else none) else (L340v4 u x0 x1 x2 x3 x4 x5 x6 x7 m (w64 (x8+1)) x9 xA k0))) else (L340v4 u x0 x1 x2 x3 x4 x5 x6 x7 m (w64 (x8+1)) x9 xA k0))) else none) else (k0 x9 xA))
theorem nl340v4:∀ (m:Nat) (x0:Int) (x1:Nat) (x2:FF) (k0:Nat→FF→Option ρ),ob (L340v4 u n0 f0 i0 n1 f1 i1 n2 f2 m x0 x1 x2 k0) ng=L340v4 u n0 f0 i0 n1 f1 i1 n2 f2 m x0 x1 x2 (fun x3 x4=>ob (k0 x3 x4) ng)
 | 0,_,_,_,_=>rfl
 | m+1,x0,x1,x2,k0=>by
  simp only [L340v4,ob_bif,ob_ob,ob_none,nl340v4 m]
theorem q340v4:∀ (m:Nat) (x0:Int) (x1:Nat) (x2:FF),
  loopH (eB A35v9 (C25 u) u) N340v4 m (s340v5 n0 n1 n2 x1 f0 f1 f2 x2 i0 x0 i1) k=L340v4 u n0 f0 i0 n1 f1 i1 n2 f2 m x0 x1 x2 (fun x3 x4=>k (.exit 4) (s340v6 n1 n2 x3 f1 f2 x4 i1))
 | 0,_,_,_=>rfl
 | m+1,x0,x1,x2=>by
  simp only [L340v4,← q340v4 m]
  kernel_rfl
def F340 (x0:ByteArray) (x1:Nat) (x2:FF) (x3:Nat) (x4:FF) (x5:Nat) (x6:FF) (x7:Nat) (x8:FF) (x9:Nat) (xA:FF) (xB:Nat) (xC:FF) (xD:Int):Option (Bool × Nat × FF × Int × Nat × FF × Nat × FF × Int) :=
 (ob (F333 u x0 x1 x2 x3 x4 x5 x6 x7 x8 x9 xA xB xC) fun xE=>(bif (xE != 0) then (some (true,0,(fun _ _=>.any),0,0,(fun _ _=>.any),0,(fun _ _=>.any),xE)) else (bif ((decide (xD<0))==false) then (bif (decide (xD>1048576)) then (some (true,0,(fun _ _=>.any),0,0,(fun _ _=>.any),0,(fun _ _=>.any),15)) else (ob (F251 u x0 x1 x2 x3 x4 x5 x6 x7 x8 x9 xA) fun xF=>(ob (F276 u x0 x1 x2 x3 x4 x5 x6 x7 x8 x9 xA) fun xG=>(L340v3 u xB xC xG.1 xG.2 (Int.ofNat xB) x0 x1 x2 x3 x4 x5 x6 x7 x8 x9 xA xD xF.1 xF.2 u 0 0 (fun _ _=>.any)
  (fun xH xI=>(ob (F277 u x0 x1 x2 x3 x4 x5 x6 x7 x8 x9 xA) fun xJ=>(L340v4 u xJ.1 xJ.2.1 (Int.ofNat xJ.1) xB xC xD xH xI u 0 0 (fun _ _=>.any)
  (fun xK xL=>(some (false,xB,xC,xD,xH,xI,xK,xL,0)))))))))) else (some (true,0,(fun _ _=>.any),0,0,(fun _ _=>.any),0,(fun _ _=>.any),15)))))
def s340v7 (x0 x1:Nat × FF):St:=⟨(.agg [(vcs w0),(.c (ro kF n0 f0)),(.c (ro kB n1 f1)),(.c (ro kI n2 f2)),(.c (ro kD n3 f3)),(.c (ro kG n4 f4))] :: .x (.c (ro kE n5 f5)) :: vxi i0 :: .x (.ptr 0 0) :: uu :: uu :: (us 3 (.x (.ptr 1 0) :: .x (.ptr 2 0) :: .x (.c (ro kP x0.1 x0.2)) :: .x (.fn 59 [.ptr 2 0]) :: uu :: uu :: uu :: uu :: uu :: uu :: uu :: uu :: uu :: uu :: (us 12 [.x (.c (ro kE n5 f5)),vxi i0,.agg [(.c (ro kE n5 f5)),(vci i0),(.c (.ro true kJ 0 nilF)),(.c (.ro true kM 0 nilF))],.x (.ptr 1 0),.agg [(vcs w0),(.c (ro kF n0 f0)),(.c (ro kB n1 f1)),(.c (ro kI n2 f2)),(.c (ro kD n3 f3)),(.c (ro kG n4 f4))],.x (.c (ro kO x1.1 x1.2)),.agg [(vcs w0),(.c (ro kF n0 f0)),(.c (ro kB n1 f1)),(.c (ro kI n2 f2)),(.c (ro kD n3 f3)),(.c (ro kG n4 f4))],.x (.c (ro kP x0.1 x0.2)),.x (.fn 59 [.ptr 2 0]),.x (.c (ro kE n5 f5)),vxi (Int.ofNat n5),vxi 0,uu,uu,uu,uu,uu,uu,uu,uu,uu,uu,uu,uu,uu,uu,uu,uu,uu,uu,uu,uu,uu,uu,uu,uu,uu,uu,uu,uu,uu,uu,uu,uu,uu,uu,uu,uu,uu,uu,uu,uu,uu,uu,uu,uu,uu,uu,uu,uu,uu,uu,uu,uu,uu,uu,uu,uu,uu,uu,uu,uu,uu,uu,uu,uu,uu,uu,uu,uu,uu,uu,uu,uu,uu,uu,uu,uu,uu,uu,uu,uu,uu,uu])))),[.box [(vcs w0),(.c (ro kF n0 f0)),(.c (ro kB n1 f1)),(.c (ro kI n2 f2)),(.c (ro kD n3 f3)),(.c (ro kG n4 f4))],.box [(.c (ro kE n5 f5)),(vci i0),(.own 3 0 0),(.c (.ro true kM 0 nilF))],.box [(.c (ro kO x1.1 x1.2))],.arr kJ 0 nilF]⟩
theorem t340v3 (x0 x1:Nat × FF) :
  loopN (eB A35v6 (C25 u) u) N340v3 u (s340v7 n0 n1 n2 n3 n4 n5 f0 f1 f2 f3 f4 f5 i0 w0 x0 x1) k =
  L340v3 u n5 f5 x0.1 x0.2 (Int.ofNat n5) w0 n0 f0 n1 f1 n2 f2 n3 f3 n4 f4 i0 x1.1 x1.2 u 0 0 nilF (fun x2 x3=>k (.exit 0) (s340v3 n0 n1 n2 n3 n4 n5 x2 f0 f1 f2 f3 f4 f5 x3 i0 w0)) :=
 Eq.trans (loopN_at (by kernel_rfl)) (q340v3 ..)
def s340v8 (x0:Nat × FF × Int):St:=⟨(us 3 (.x (.c (.rp kA (listF [(.s w0),(ro kF n0 f0),(ro kB n1 f1),(ro kI n2 f2),(ro kD n3 f3),(ro kG n4 f4)]))) :: (us 5 (.x (.ptr 1 0) :: (us 8 (.x (.c (ro kO x0.1 x0.2.1)) :: vxi x0.2.2 :: (us 72 (.tup [.v (ro kO x0.1 x0.2.1),.v (vi x0.2.2)] :: .agg [(vcs w0),(.c (ro kF n0 f0)),(.c (ro kB n1 f1)),(.c (ro kI n2 f2)),(.c (ro kD n3 f3)),(.c (ro kG n4 f4))] :: .tup [.v (ro kO x0.1 x0.2.1),.v (vi x0.2.2)] :: .x (.c (ro kO x0.1 x0.2.1)) :: vxi x0.2.2 :: .x (.c (ro kO x0.1 x0.2.1)) :: vxi (Int.ofNat x0.1) :: vxi 0 :: (us 29 []))))))))),[.dead,.box [(.c (ro kE n5 f5)),(vci i0),(.own 3 0 n6),(.own 4 0 0)],.dead,.arr kJ n6 f6,.arr kM 0 nilF]⟩
theorem g340v4 :
  (kBlk 0 (kSeq (C25 u) u (rl 14 4 (rl 44 48 [])) A35v11 (finish A35))) (.exit 0) (s340v3 n0 n1 n2 n3 n4 n5 n6 f0 f1 f2 f3 f4 f5 f6 i0 w0) =
  (ob (F277 u w0 n0 f0 n1 f1 n2 f2 n3 f3 n4 f4) fun x0=>(loopN (eB A35v9 (C25 u) u) N340v4 u (s340v8 n0 n1 n2 n3 n4 n5 n6 f0 f1 f2 f3 f4 f5 f6 i0 w0 x0) (kBlk 4 (kSeq (C25 u) u (21 :: 22 :: (rl 97 31 [])) A35v10 (finish A35))))):=by kernel_rfl
theorem t340v5 (x0:Nat × FF × Int) :
  loopN (eB A35v9 (C25 u) u) N340v4 u (s340v8 n0 n1 n2 n3 n4 n5 n6 f0 f1 f2 f3 f4 f5 f6 i0 w0 x0) k =
  L340v4 u x0.1 x0.2.1 (Int.ofNat x0.1) n5 f5 i0 n6 f6 u 0 0 nilF (fun x1 x2=>k (.exit 4) (s340v6 n5 n6 x1 f5 f6 x2 i0)) :=
 Eq.trans (loopN_at (by kernel_rfl)) (q340v4 ..)
theorem g340v6 :
  (kBlk 4 (kSeq (C25 u) u (21 :: 22 :: (rl 97 31 [])) A35v10 (finish A35))) (.exit 4) (s340v6 n0 n1 n2 f0 f1 f2 i0) =
  (some [.v (.rp kC (listF [(ro kE n0 f0),(vi i0),(ro kJ n1 f1),(ro kM n2 f2)])),.v (vi 0)]):=by kernel_rfl
theorem e340:evalF (C25 u) u A35 [.agg [(.s w0),(ro kF n0 f0),(ro kB n1 f1),(ro kI n2 f2),(ro kD n3 f3),(ro kG n4 f4)],.v (ro kE n5 f5),.v (vi i0)]=ob (F340 u w0 n0 f0 n1 f1 n2 f2 n3 f3 n4 f4 n5 f5 i0) fun t=>some (bif t.1 then [.v .any,.v (vi (p8 t))] else [.v (.rp kC (listF [(ro kE t.2.1 t.2.2.1),(vi t.2.2.2.1),(ro kJ t.2.2.2.2.1 t.2.2.2.2.2.1),(ro kM t.2.2.2.2.2.2.1 t.2.2.2.2.2.2.2.1)])),.v (vi 0)]):=Eq.trans (b:=(ob (F333 u w0 n0 f0 n1 f1 n2 f2 n3 f3 n4 f4 n5 f5) fun x0=>(bif (x0 != 0) then (some [.v .any,.v (vi x0)]) else (bif ((decide (i0<0))==false) then (bif (decide (i0>1048576)) then (some [.v .any,.v (vi 15)]) else (ob (F251 u w0 n0 f0 n1 f1 n2 f2 n3 f3 n4 f4) fun x1=>(ob (F276 u w0 n0 f0 n1 f1 n2 f2 n3 f3 n4 f4) fun x2=>(loopN (eB A35v6 (C25 u) u) N340v3 u (s340v7 n0 n1 n2 n3 n4 n5 f0 f1 f2 f3 f4 f5 i0 w0 x2 x1) (kBlk 0 (kSeq (C25 u) u (rl 14 4 (rl 44 48 [])) A35v11 (finish A35))))))) else (some [.v .any,.v (vi 15)]))))) (by kernel_rfl) (by
 simp only [F340,ob_bif,ob_ob,ob_none,ob_some,nl340v3,nl340v4,t340v3,g340v4,t340v5,g340v6,cond_true,cond_false])
def O340:Ora:=mkS (qc (ag (tc cS (tc (cL kF) (tc (cL kB) (tc (cL kI) (tc (cL kD) (t1 (cL kG)))))))) (qc (av (cL kE)) (q1 (av ci)))) (fun x=>F340 u x.1.1 x.1.2.1.1 x.1.2.1.2 x.1.2.2.1.1 x.1.2.2.1.2 x.1.2.2.2.1.1 x.1.2.2.2.1.2 x.1.2.2.2.2.1.1 x.1.2.2.2.2.1.2 x.1.2.2.2.2.2.1 x.1.2.2.2.2.2.2 x.2.1.1 x.2.1.2 x.2.2) (fun t=>t.1) (fun t=>[.v .any,.v (vi (p8 t))]) fun t=>[.v (.rp kC (listF [(ro kE t.2.1 t.2.2.1),(vi t.2.2.2.1),(ro kJ t.2.2.2.2.1 t.2.2.2.2.2.1),(ro kM t.2.2.2.2.2.2.1 t.2.2.2.2.2.2.2.1)])),.v (vi 0)]
theorem d340:DO (O340 u) (C25 u) 35 A35:=dS u (fun x=>by exact e340 u x.1.2.1.1 x.1.2.2.1.1 x.1.2.2.2.1.1 x.1.2.2.2.2.1.1 x.1.2.2.2.2.2.1 x.2.1.1 x.1.2.1.2 x.1.2.2.1.2 x.1.2.2.2.1.2 x.1.2.2.2.2.1.2 x.1.2.2.2.2.2.2 x.2.1.2 x.2.2 x.1.1)
def C26:Oracle:=(C25 u).add 35 (fun _=>true) (O340 u)
def A44v1:AC:=(.region 7 [o1 45 (bk .add 3 18 1),mv 18 45] 0 none)
def A44v2:AC:=(.seq (.block 1
 (.seq (.region 4 [o1 20 (.indexAddr 30 55 4 (tm 16) (tm 18)),o1 21 (ln 55 4 20),o1 11 (.alloc 0 55 [vcs ByteArray.empty,vcs ByteArray.empty,vci 0,vci 0]),o0 (.store 55 4 (tm 11) (tm 21))] 1 none) []
  (.seq (.region 5 [o1 22 (fa 55 11 1 1),o1 23 (lo 9 22),mv 24 3,o1 25 (bt .eql 9 23 24),mv 26 25,og 27 (.move (tm 0)) 26 false,og 28 (.nilCheck (tm 27)) 26 false,og 29 (fa 75 28 2 2) 26 false,og 30 (lo 72 29) 26 false,og 31 (.move (tm 0)) 26 false,og 32 (fa 55 11 0 0) 26 false,og 33 (lo 9 32) 26 false,og 34 (cs 37 [31,33] [67,9]) 26 false,og 35 (.indexAddr 72 71 1 (tm 30) (tm 34)) 26 false,og 36 (lo 71 35) 26 false,og 37 (.move (tm 2)) 26 false,og 38 (.indexAddr 71 4 1 (tm 36) (tm 37)) 26 false,og 39 (lo 4 38) 26 false,o1 40 (pa 26 39)] 0 (some [[],[0],[],[0,1,2],(rl 0 4 []),(rl 0 5 []),(rl 0 6 []),(rl 0 7 []),(rl 0 8 []),(rl 0 5 []),(rl 0 5 []),(rl 0 5 [10]),(rl 0 5 [9,10,11]),(rl 0 13 []),(rl 0 14 []),(rl 0 5 []),(rl 0 16 []),(rl 0 17 []),(rl 0 18 [])])) []
  (.cond (tm 40)
  (.region 6 [mv 41 9,o1 42 (fa 55 11 3 3),o1 43 (lo 3 42),o1 44 (.mm true [(tm 41),(tm 43)] [3,3]),o1 9 (sg 44)] 0 none)
  .skip)))) (11 :: (rl 20 25 []))
 A44v1)
def A44v3:AC:=(.seq (.region 3 [o1 19 (bt .lss 3 18 17)] 0 none) []
 (.seq (.cond (tm 19)
 .skip
 (.exit 0 (rl 0 9 (rl 10 37 [])))) []
 A44v2))
def A44v4:AC:=(.seq (.region 8 [mv 46 9,o1 8 (sg 46)] 0 none) []
 (.ret (rl 0 8 (rl 9 38 []))))
def A44:AF:=⟨47,[.tmp 8],
 (.seq (.region 0 [o1 8 (sk 0)] 0 none) []
 (.seq (.region 1 [mv 12 0,o1 13 (.nilCheck (tm 12)),o1 14 (fa 75 13 1 1),o1 15 (lo 3 14),o1 9 (sg 15)] 0 none) []
 (.seq (.seq (.region 2 [mv 16 1,o1 17 (.len 30 false (tm 16)),o1 18 (.move (ic 0))] 0 none) []
 (.block 0
 (.loop [] (1 :: (rl 4 5 (rl 10 6 (rl 19 28 []))))
  A44v3))) (11 :: (rl 16 30 []))
 A44v4)))⟩
def N341v1:St→Option St:=nN 0 (1 :: (rl 4 5 (rl 10 6 (rl 19 28 []))))
def s341v0:St:=⟨(.x (.c (.rp kC g0)) :: .u :: vxi i0 :: vxs w0 :: (us 5 (vxi i1 :: (us 6 (.x (.c (ro kL n0 f0)) :: vxi i2 :: vxi i3 :: (us 28 [])))))),[]⟩
def s341v1:St:=⟨(us 9 (vxi i0 :: (us 37 []))),[]⟩
def L341v1 {ρ:Type} (u:Nat) (x0:Nat→CV) (x1:Int) (x2:ByteArray) (x3:Nat) (x4:FF) (x5:Int):Nat→Int→Int→(Int→Option ρ)→Option ρ
 | 0,_,_,_=>none
 | m+1,x6,x7,k0 =>
  (bif (decide (x7<x5)) then (bif (inb x7 x3) then (bif ((ByteArray.toList (x4 x7.toNat 1).str==ByteArray.toList x2)==false) then (ob (F337 u x0 (x4 x7.toNat 0).str) fun x8=>(bif (inb x8 (x0 2).len) then (bif (inb x1 ((x0 2).el x8.toNat 0).len) then (bif (CV.bool (((x0 2).el x8.toNat 0).el x1.toNat 0)) then (L341v1 u x0 x1 x2 x3 x4 x5 m (if (x4 x7.toNat 3).int>x6 then (x4 x7.toNat 3).int else x6) (w64 (x7+1)) k0) else (L341v1 u x0 x1 x2 x3 x4 x5 m x6 (w64 (x7+1)) k0)) else none) else none)) else (L341v1 u x0 x1 x2 x3 x4 x5 m (if (x4 x7.toNat 3).int>x6 then (x4 x7.toNat 3).int else x6) (w64 (x7+1)) k0)) else none) else (k0 x6))
theorem nl341v1:∀ (m:Nat) (x0 x1:Int) (k0:Int→Option ρ),ob (L341v1 u g0 i0 w0 n0 f0 i1 m x0 x1 k0) ng=L341v1 u g0 i0 w0 n0 f0 i1 m x0 x1 (fun x2=>ob (k0 x2) ng)
 | 0,_,_,_=>rfl
 | m+1,x0,x1,k0=>by
  simp only [L341v1,ob_bif,ob_ob,ob_none,nl341v1 m]
theorem q341v1:∀ (m:Nat) (x0 x1:Int),
  loopH (eB A44v3 (C26 u) u) N341v1 m (s341v0 n0 f0 i0 x0 i1 x1 w0 g0) k=L341v1 u g0 i0 w0 n0 f0 i1 m x0 x1 (fun x2=>k (.exit 0) (s341v1 x2))
 | 0,_,_=>rfl
 | m+1,x0,x1=>by
  simp only [L341v1,← q341v1 m]
  kernel_rfl
def F341 (x0:Nat→CV) (x1:Nat) (x2:FF) (x3:Int) (x4:ByteArray):Option (Int) :=
 (L341v1 u x0 x3 x4 x1 x2 (Int.ofNat x1) u (x0 1).int 0
  (fun x5=>(some x5)))
def s341v2:St:=⟨[.x (.c (.rp kC g0)),.x (.c (ro kL n0 f0)),vxi i0,vxs w0,uu,uu,uu,uu,vxi 0,vxi (g0 1).int,uu,uu,.x (.c (.rp kC g0)),.x (.c (.rp kC g0)),.x (.c (.rp (.pr (.int .i64) (.pr (.sl kJ) (.pr (.sl kM) .nil))) (fun j=>g0 (1+j)))),vxi (g0 1).int,.x (.c (ro kL n0 f0)),vxi (Int.ofNat n0),vxi 0,uu,uu,uu,uu,uu,uu,uu,uu,uu,uu,uu,uu,uu,uu,uu,uu,uu,uu,uu,uu,uu,uu,uu,uu,uu,uu,uu,uu],[]⟩
theorem t341v1 :
  loopN (eB A44v3 (C26 u) u) N341v1 u (s341v2 n0 f0 i0 w0 g0) k =
  L341v1 u g0 i0 w0 n0 f0 (Int.ofNat n0) u (g0 1).int 0 (fun x0=>k (.exit 0) (s341v1 x0)) :=
 Eq.trans (loopN_at (by kernel_rfl)) (q341v1 ..)
theorem g341v2 :
  (kBlk 0 (kSeq (C26 u) u (11 :: (rl 16 30 [])) A44v4 (finish A44))) (.exit 0) (s341v1 i0) =
  (some [.v (vi i0)]):=by kernel_rfl
theorem e341:evalF (C26 u) u A44 [.v (.rp kC g0),.v (ro kL n0 f0),.v (vi i0),.v (.s w0)]=ob (F341 u g0 n0 f0 i0 w0) fun t=>some [.v (vi t)]:=Eq.trans (b:=(loopN (eB A44v3 (C26 u) u) N341v1 u (s341v2 n0 f0 i0 w0 g0) (kBlk 0 (kSeq (C26 u) u (11 :: (rl 16 30 [])) A44v4 (finish A44))))) (by kernel_rfl) (by
 simp only [F341,ob_bif,ob_ob,ob_none,ob_some,nl341v1,t341v1,g341v2])
def O341:Ora:=mkO (qc (av (cP kC)) (qc (av (cL kL)) (qc (av ci) (q1 (av cS))))) (fun x=>F341 u x.1 x.2.1.1 x.2.1.2 x.2.2.1 x.2.2.2) fun t=>[.v (vi t)]
theorem d341:DO (O341 u) (C26 u) 44 A44:=dO u (fun x=>by exact e341 u x.2.1.1 x.2.1.2 x.2.2.1 x.2.2.2 x.1)
def C27:Oracle:=(C26 u).add 44 (fun _=>true) (O341 u)
def A43:AF:=⟨19,[.tmp 7],
 (.seq (.region 0 [o1 7 (sk 0)] 0 none) []
 (.seq (.region 1 [o1 8 (lo 67 2),o1 9 (lo 30 3),o1 10 (lo 3 4),mv 11 0,o1 12 (cs 44 [8,9,10,11] [67,30,3,9]),o1 13 (lo 67 2),o1 14 (lo 30 3),o1 15 (lo 3 4),mv 16 1,o1 17 (cs 44 [13,14,15,16] [67,30,3,9]),o1 18 (bt .sub 3 12 17),o1 7 (sg 18)] 0 (some [[],[],[],[],(rl 0 4 []),[],[],[],[],(rl 0 9 []),(rl 0 10 []),(rl 0 11 [])])) []
 (.ret (rl 0 7 (rl 8 11 [])))))⟩
def F342 (x0 x1:ByteArray) (x2 x3 x4:Nat→CV):Option (Int) :=
 (ob (F341 u x2 (x3 0).len (x3 0).el (x4 0).int x0) fun x5=>(ob (F341 u x2 (x3 0).len (x3 0).el (x4 0).int x1) fun x6=>(some (w64 (x5-x6)))))
theorem e342:evalF (C27 u) u A43 [.v (.s w0),.v (.s w1),.v (.rp kPq (listF [(.rp kC g0)])),.v (.rp kH g1),.v (.rp kM g2)]=ob (F342 u w0 w1 g0 g1 g2) fun t=>some [.v (vi t)]:=by
 simp only [F342,ob_bif,ob_ob,ob_none,ob_some]
 kernel_rfl
def O342:Ora:=mkO (qc (av cS) (qc (av cS) (qc (av (cR kPq (t1 (cP kC)))) (qc (av (cP kH)) (q1 (av (cP kM))))))) (fun x=>F342 u x.1 x.2.1 x.2.2.1 x.2.2.2.1 x.2.2.2.2) fun t=>[.v (vi t)]
theorem d342:DO (O342 u) (C27 u) 43 A43:=dO u (fun x=>by exact e342 u x.1 x.2.1 x.2.2.1 x.2.2.2.1 x.2.2.2.2)
def C28:Oracle:=(C27 u).add 43 (fun _=>true) (O342 u)
end Go.Eng.R13
