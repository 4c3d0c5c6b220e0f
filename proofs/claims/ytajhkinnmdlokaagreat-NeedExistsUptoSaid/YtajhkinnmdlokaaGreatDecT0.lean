/-
 The functions of the program,run on symbols;printed by decomp.py.
-/
import Derived.Test.YtajhkinnmdlokaaGreatEngS
import Derived.Test.YtajhkinnmdlokaaGreatEngX0
import Derived.Test.YtajhkinnmdlokaaGreatEngY
import Derived.Test.YtajhkinnmdlokaaGreatEngZ8
import Derived.Test.YtajhkinnmdlokaaGreatEngZ8
set_option linter.all false
set_option maxRecDepth 1000000
set_option maxHeartbeats 4000000
namespace Go.Eng.R13
open Go Go.RowKit Go.Eng
abbrev kA:Kd:=(.pr .str (.pr (.int .i64) (.pr (.int .i64) (.pr .str (.pr .str (.pr (.int .i64) (.pr (.sl kP) (.pr (.sl (.pr (.sl kP) .nil)) (.pr .str (.pr (.int .i64) (.pr (.int .i64) (.pr (.int .i64) (.pr (.int .i64) (.pr (.int .i64) (.pr (.int .i64) kV)))))))))))))))
abbrev kB:Kd:=(.pr (.sl (.pr .str .nil)) (.pr (.sl (.pr .str .nil)) (.pr (.sl (.pr .str .nil)) (.pr (.sl (.pr .str .nil)) .nil))))
abbrev kC:Kd:=(.pr .str (.pr .str (.pr (.sl (.pr .str .nil)) (.pr (.int .i64) (.pr (.sl (.pr .str .nil)) .nil)))))
abbrev kD:Kd:=(.pr .str (.pr (.int .i64) (.pr (.int .i64) (.pr (.sl (.pr (.int .i64) .nil)) .nil))))
abbrev kE:Kd:=(.pr .str (.pr (.int .i64) (.pr .str .nil)))
abbrev kF:Kd:=(.pr (.int .i64) (.pr .str (.pr .str .nil)))
abbrev kG:Kd:=(.pr .str (.pr .str (.pr .str kV)))
abbrev uu:V:=.undef
abbrev ro:Kd→Nat→FF→CV:=CV.ro false
variable {ρ σ : Type} (u m : Nat) (k : Ex → St → Option ρ) (ng : ρ → Option σ) (n0 n1 n2 n3 n4 n5 n6 n7 n8 : Nat) (f0 f1 f2 f3 f4 f5 f6 f7 f8 : FF) (i0 i1 i2 i3 i4 i5 i6 i7 i8 i9 iA iB iC iD iE iF iG iH iI iJ iK iL iM iN : Int) (b0 : Bool) (w0 w1 w2 w3 w4 w5 w6 w7 w8 : ByteArray) (g0 g1 : Nat → CV)
abbrev kR0:Kd:=(.pr .str (.pr (.int .i64) (.pr (.int .i64) (.pr .str (.pr .str (.pr (.int .i64) (.pr (.sl (.pr (.int .i64) (.pr (.int .i64) .nil))) (.pr (.sl (.pr (.sl (.pr (.int .i64) (.pr (.int .i64) .nil))) .nil)) (.pr .str (.pr (.int .i64) (.pr (.int .i64) (.pr (.int .i64) (.pr (.int .i64) (.pr (.int .i64) (.pr (.int .i64) (.pr (.int .i64) (.pr (.int .i64) (.pr (.int .i64) .nil))))))))))))))))))
def C0 (u:Nat):Oracle:=⟨fun _ _ {_} _=>none,fun _ _ {_} _=>rfl,fun f r n g rest=>bif (false)&&rest.isEmpty then some (revF n g) else none,fun f r args=>match args with | [.v (.ro _ r1 n g)]=>bif (false)&&r.beq r1 then some (n,g) else none | _=>none,fun f r n g rest=>bif (false)&&rest.isEmpty then some (cutN n g,cutF n g) else none⟩
def A12v1:AC:=(.region 5 [mv 44 5,o1 45 (bk .add 3 44 1),o1 5 (sg 45)] 0 none)
def A12v2:AC:=(.seq (.block 1
 (.seq (.region 6 [o1 46 (fa 28 2 4 4),o1 47 (lo 25 46),mv 48 5,o1 49 (.indexAddr 25 62 5 (tm 47) (tm 48)),o1 50 (fa 62 49 2 2),o1 51 (lo 37 50),o1 52 (.len 37 false (tm 51)),mv 53 1,o1 54 (bt .gtr 3 52 53),mv 55 54,og 56 (fa 28 2 4 4) 55 false,og 57 (lo 25 56) 55 false,og 58 (.move (tm 5)) 55 false,og 59 (.indexAddr 25 62 5 (tm 57) (tm 58)) 55 false,og 60 (fa 62 59 4 4) 55 false,og 61 (lo 37 60) 55 false,og 62 (.len 37 false (tm 61)) 55 false,og 63 (.move (tm 1)) 55 false,og 64 (bt .gtr 3 62 63) 55 false,o1 65 (pa 55 64)] 0 none) []
  (.cond (tm 65)
  (.seq (.region 7 [o1 4 (sb false)] 0 none) []
   (.ret (rl 0 4 (rl 5 61 []))))
  .skip))) (4 :: (rl 46 20 []))
 A12v1)
def A12v3:AC:=(.seq (.seq (.region 4 [mv 39 5,o1 40 (fa 28 2 4 4),o1 41 (lo 25 40),o1 42 (.len 25 false (tm 41)),o1 43 (bt .lss 3 39 42)] 0 none) []
 (.cond (tm 43)
 .skip
 (.exit 0 (rl 0 66 [])))) (rl 39 5 [])
 A12v2)
def A12v4:AC:=(.seq (.region 8 [o1 4 (sb true)] 0 none) []
 (.ret (rl 0 4 (rl 5 61 []))))
def A12v5:AC:=(.seq (.seq (.region 3 [o1 5 (sk 0)] 0 none) []
 (.block 0
 (.loop [] (0 :: 3 :: 4 :: (rl 6 60 []))
  A12v3))) (4 :: 5 :: (rl 39 27 []))
 A12v4)
def A12:AF:=⟨66,[.tmp 4],
 (.seq (.region 0 [o1 2 (bx 0 28 0),o1 4 (sb false)] 1 none) []
 (.seq (.seq (.region 1 [o1 6 (fa 28 2 1 1),o1 7 (lo 22 6),o1 8 (.len 22 false (tm 7)),mv 9 1,o1 10 (bt .gtr 3 8 9),mv 11 10,og 12 (fa 28 2 2 2) 11 false,og 13 (lo 23 12) 11 false,og 14 (.len 23 false (tm 13)) 11 false,og 15 (.move (tm 1)) 11 false,og 16 (bt .gtr 3 14 15) 11 false,o1 17 (pa 11 16),mv 18 17,og 19 (fa 28 2 3 3) 18 false,og 20 (lo 24 19) 18 false,og 21 (.len 24 false (tm 20)) 18 false,og 22 (.move (tm 1)) 18 false,og 23 (bt .gtr 3 21 22) 18 false,o1 24 (pa 18 23),mv 25 24,og 26 (fa 28 2 4 4) 25 false,og 27 (lo 25 26) 25 false,og 28 (.len 25 false (tm 27)) 25 false,og 29 (.move (tm 1)) 25 false,og 30 (bt .gtr 3 28 29) 25 false,o1 31 (pa 25 30),mv 32 31,og 33 (fa 28 2 5 5) 32 false,og 34 (lo 26 33) 32 false,og 35 (.len 26 false (tm 34)) 32 false,og 36 (.move (tm 1)) 32 false,og 37 (bt .gtr 3 35 36) 32 false,o1 38 (pa 32 37)] 0 none) []
 (.cond (tm 38)
 (.seq (.region 2 [o1 4 (sb false)] 0 none) []
  (.ret (rl 0 4 (rl 5 61 []))))
 .skip)) (4 :: (rl 6 33 []))
 A12v5))⟩
def N268v1:St→Option St:=nN 1 (0 :: 3 :: 4 :: (rl 6 60 []))
def s268v0:St:=⟨(.u :: vxi i0 :: .x (.ptr 0 0) :: .u :: .u :: vxi i1 :: (us 60 [])),[.box [(vcs w0),(.c (ro kE n0 f0)),(.c (ro kA n1 f1)),(.c (ro kG n2 f2)),(.c (ro kC n3 f3)),(.c (ro kF n4 f4))]]⟩
def s268v1:St:=⟨(us 4 (vxb false :: (us 61 []))),[.box [(vcs w0),(.c (ro kE n0 f0)),(.c (ro kA n1 f1)),(.c (ro kG n2 f2)),(.c (ro kC n3 f3)),(.c (ro kF n4 f4))]]⟩
def s268v2:St:=⟨(us 66 []),[.box [(vcs w0),(.c (ro kE n0 f0)),(.c (ro kA n1 f1)),(.c (ro kG n2 f2)),(.c (ro kC n3 f3)),(.c (ro kF n4 f4))]]⟩
def L268v1 {ρ:Type} (u:Nat) (x0:Int) (x1:ByteArray) (x2:Nat) (x3:FF) (x4:Nat) (x5:FF) (x6:Nat) (x7:FF) (x8:Nat) (x9:FF) (xA:Nat) (xB:FF):Nat→Int→(Option ρ)→(Option ρ)→Option ρ
 | 0,_,_,_=>none
 | m+1,xC,k0,k1 =>
  (bif (decide (xC<(Int.ofNat x8))) then (bif (inb xC x8) then (bif ((decide ((Int.ofNat (x9 xC.toNat 2).len)>x0))==false) then (bif (inb xC x8) then (bif (decide ((Int.ofNat (x9 xC.toNat 4).len)>x0)) then k0 else (L268v1 u x0 x1 x2 x3 x4 x5 x6 x7 x8 x9 xA xB m (w64 (xC+1)) k0 k1)) else none) else k0) else none) else k1)
theorem nl268v1:∀ (m:Nat) (x0:Int) (k0:Option ρ) (k1:Option ρ),ob (L268v1 u i0 w0 n0 f0 n1 f1 n2 f2 n3 f3 n4 f4 m x0 k0 k1) ng=L268v1 u i0 w0 n0 f0 n1 f1 n2 f2 n3 f3 n4 f4 m x0 (ob k0 ng) (ob k1 ng)
 | 0,_,_,_=>rfl
 | m+1,x0,k0,k1=>by
  simp only [L268v1,ob_bif,ob_ob,ob_none,nl268v1 m]
theorem q268v1:∀ (m:Nat) (x0:Int),
  loopH (eB A12v3 (C0 u) u) N268v1 m (s268v0 n0 n1 n2 n3 n4 f0 f1 f2 f3 f4 i0 x0 w0) k=L268v1 u i0 w0 n0 f0 n1 f1 n2 f2 n3 f3 n4 f4 m x0 (k .ret (s268v1 n0 n1 n2 n3 n4 f0 f1 f2 f3 f4 w0)) (k (.exit 0) (s268v2 n0 n1 n2 n3 n4 f0 f1 f2 f3 f4 w0))
 | 0,_=>rfl
 | m+1,x0=>by
  simp only [L268v1,← q268v1 m]
  kernel_rfl
def F268 (x0:ByteArray) (x1:Nat) (x2:FF) (x3:Nat) (x4:FF) (x5:Nat) (x6:FF) (x7:Nat) (x8:FF) (x9:Nat) (xA:FF) (xB:Int):Option (Bool) :=
 (bif ((decide ((Int.ofNat x1)>xB))==false) then (bif ((decide ((Int.ofNat x3)>xB))==false) then (bif ((decide ((Int.ofNat x5)>xB))==false) then (bif ((decide ((Int.ofNat x7)>xB))==false) then (bif (decide ((Int.ofNat x9)>xB)) then (some false) else (L268v1 u xB x0 x1 x2 x3 x4 x5 x6 x7 x8 x9 xA u 0
  (some false)
  (some true))) else (some false)) else (some false)) else (some false)) else (some false))
def s268v3:St:=⟨(.agg [(vcs w0),(.c (ro kE n0 f0)),(.c (ro kA n1 f1)),(.c (ro kG n2 f2)),(.c (ro kC n3 f3)),(.c (ro kF n4 f4))] :: vxi i0 :: .x (.ptr 0 0) :: uu :: .u :: vxi 0 :: (us 33 [uu,uu,uu,uu,uu,uu,uu,uu,uu,uu,uu,uu,uu,uu,uu,uu,uu,uu,uu,uu,uu,uu,uu,uu,uu,uu,uu])),[.box [(vcs w0),(.c (ro kE n0 f0)),(.c (ro kA n1 f1)),(.c (ro kG n2 f2)),(.c (ro kC n3 f3)),(.c (ro kF n4 f4))]]⟩
theorem t268v1 :
  loopN (eB A12v3 (C0 u) u) N268v1 u (s268v3 n0 n1 n2 n3 n4 f0 f1 f2 f3 f4 i0 w0) k =
  L268v1 u i0 w0 n0 f0 n1 f1 n2 f2 n3 f3 n4 f4 u 0 (k .ret (s268v1 n0 n1 n2 n3 n4 f0 f1 f2 f3 f4 w0)) (k (.exit 0) (s268v2 n0 n1 n2 n3 n4 f0 f1 f2 f3 f4 w0)) :=
 Eq.trans (loopN_at (by kernel_rfl)) (q268v1 ..)
theorem g268v2 :
  (kBlk 0 (kSeq (C0 u) u (4 :: 5 :: (rl 39 27 [])) A12v4 (finish A12))) .ret (s268v1 n0 n1 n2 n3 n4 f0 f1 f2 f3 f4 w0) =
  (some [.v (.b false)]):=by kernel_rfl
theorem g268v3 :
  (kBlk 0 (kSeq (C0 u) u (4 :: 5 :: (rl 39 27 [])) A12v4 (finish A12))) (.exit 0) (s268v2 n0 n1 n2 n3 n4 f0 f1 f2 f3 f4 w0) =
  (some [.v (.b true)]):=by kernel_rfl
theorem e268:evalF (C0 u) u A12 [.agg [(.s w0),(ro kE n0 f0),(ro kA n1 f1),(ro kG n2 f2),(ro kC n3 f3),(ro kF n4 f4)],.v (vi i0)]=ob (F268 u w0 n0 f0 n1 f1 n2 f2 n3 f3 n4 f4 i0) fun t=>some [.v (.b t)]:=Eq.trans (b:=(bif ((decide ((Int.ofNat n0)>i0))==false) then (bif ((decide ((Int.ofNat n1)>i0))==false) then (bif ((decide ((Int.ofNat n2)>i0))==false) then (bif ((decide ((Int.ofNat n3)>i0))==false) then (bif (decide ((Int.ofNat n4)>i0)) then (some [.v (.b false)]) else (loopN (eB A12v3 (C0 u) u) N268v1 u (s268v3 n0 n1 n2 n3 n4 f0 f1 f2 f3 f4 i0 w0) (kBlk 0 (kSeq (C0 u) u (4 :: 5 :: (rl 39 27 [])) A12v4 (finish A12))))) else (some [.v (.b false)])) else (some [.v (.b false)])) else (some [.v (.b false)])) else (some [.v (.b false)]))) (by kernel_rfl) (by
 simp only [F268,ob_bif,ob_ob,ob_none,ob_some,nl268v1,t268v1,g268v2,g268v3])
def O268:Ora:=mkO (qc (ag (tc cS (tc (cL kE) (tc (cL kA) (tc (cL kG) (tc (cL kC) (t1 (cL kF)))))))) (q1 (av ci))) (fun x=>F268 u x.1.1 x.1.2.1.1 x.1.2.1.2 x.1.2.2.1.1 x.1.2.2.1.2 x.1.2.2.2.1.1 x.1.2.2.2.1.2 x.1.2.2.2.2.1.1 x.1.2.2.2.2.1.2 x.1.2.2.2.2.2.1 x.1.2.2.2.2.2.2 x.2) fun t=>[.v (.b t)]
theorem d268:DO (O268 u) (C0 u) 12 A12:=dO u (fun x=>by exact e268 u x.1.2.1.1 x.1.2.2.1.1 x.1.2.2.2.1.1 x.1.2.2.2.2.1.1 x.1.2.2.2.2.2.1 x.1.2.1.2 x.1.2.2.1.2 x.1.2.2.2.1.2 x.1.2.2.2.2.1.2 x.1.2.2.2.2.2.2 x.2 x.1.1)
def C1:Oracle:=(C0 u).add 12 (fun _=>true) (O268 u)
def A61:AF:=⟨17,[.tmp 2],
 (.seq (.region 0 [o1 2 (sb false)] 0 none) []
 (.seq (.region 1 [mv 3 0,o1 4 (.binOp .geq 5 (tm 3) (.const (.int .u8 97)) 5),mv 5 4,og 6 (.move (tm 0)) 5 true,og 7 (.binOp .leq 5 (tm 6) (.const (.int .u8 122)) 5) 5 true,o1 8 (po 5 7),mv 9 8,og 10 (.move (tm 0)) 9 false,og 11 (.binOp .geq 5 (tm 10) (.const (.int .u8 65)) 5) 9 false,og 12 (.move (tm 11)) 9 false,og 13 (.move (tm 0)) 12 true,og 14 (.binOp .leq 5 (tm 13) (.const (.int .u8 90)) 5) 12 true,og 15 (po 12 14) 9 false,o1 16 (pa 9 15),o1 2 (sg 16)] 0 none) []
 (.ret (0 :: 1 :: (rl 3 14 [])))))⟩
def F283 (u:Nat) (x0:Int):Option (Bool) :=
 (bif ((decide (x0≥97))==true) then (bif ((decide (x0≤122))==false) then (bif ((decide (x0≥65))==true) then (some (decide (x0≤90))) else (some false)) else (some true)) else (bif ((decide (x0≥65))==true) then (some (decide (x0≤90))) else (some false)))
theorem e283:evalF (C1 u) u A61 [.v (.i .u8 i0)]=ob (F283 u i0) fun t=>some [.v (.b t)]:=by
 simp only [F283,ob_bif,ob_ob,ob_none,ob_some]
 kernel_rfl
def O283:Ora:=mkO (q1 (av (cI .u8))) (fun x=>F283 u x) fun t=>[.v (.b t)]
theorem d283:DO (O283 u) (C1 u) 61 A61:=dO u (fun x=>by exact e283 u x)
def C2:Oracle:=(C1 u).add 61 (fun _=>true) (O283 u)
def A62:AF:=⟨9,[.tmp 2],
 (.seq (.region 0 [o1 2 (sb false)] 0 none) []
 (.seq (.region 1 [mv 3 0,o1 4 (.binOp .geq 5 (tm 3) (.const (.int .u8 48)) 5),mv 5 4,og 6 (.move (tm 0)) 5 true,og 7 (.binOp .leq 5 (tm 6) (.const (.int .u8 57)) 5) 5 true,o1 8 (po 5 7),o1 2 (sg 8)] 0 none) []
 (.ret (0 :: 1 :: (rl 3 6 [])))))⟩
def F284 (u:Nat) (x0:Int):Option (Bool) :=
 (bif ((decide (x0≥48))==true) then (some (decide (x0≤57))) else (some false))
theorem e284:evalF (C2 u) u A62 [.v (.i .u8 i0)]=ob (F284 u i0) fun t=>some [.v (.b t)]:=by
 simp only [F284,ob_bif,ob_ob,ob_none,ob_some]
 kernel_rfl
def O284:Ora:=mkO (q1 (av (cI .u8))) (fun x=>F284 u x) fun t=>[.v (.b t)]
theorem d284:DO (O284 u) (C2 u) 62 A62:=dO u (fun x=>by exact e284 u x)
def C3:Oracle:=(C2 u).add 62 (fun _=>true) (O284 u)
def A33v1:AC:=(.region 5 [mv 21 3,o1 22 (bk .add 3 21 1),o1 3 (sg 22)] 0 none)
def A33v2:AC:=(.seq (.block 1
 (.seq (.region 6 [mv 23 0,mv 24 3,o1 25 (.indexS 9 (tm 23) (tm 24)),o1 26 (cs 61 [25] [5]),o1 27 (.unOp .not 4 (tm 26)),mv 28 27,og 29 (.move (tm 0)) 28 true,og 30 (.move (tm 3)) 28 true,og 31 (.indexS 9 (tm 29) (tm 30)) 28 true,og 32 (cs 62 [31] [5]) 28 true,og 33 (.unOp .not 4 (tm 32)) 28 true,o1 34 (po 28 33),mv 35 34,og 36 (.move (tm 0)) 35 true,og 37 (.move (tm 3)) 35 true,og 38 (.indexS 9 (tm 36) (tm 37)) 35 true,og 39 (.binOp .neq 5 (tm 38) (.const (.int .u8 95)) 5) 35 true,o1 40 (po 35 39),mv 41 40,og 42 (.move (tm 0)) 41 true,og 43 (.move (tm 3)) 41 true,og 44 (.indexS 9 (tm 42) (tm 43)) 41 true,og 45 (.binOp .neq 5 (tm 44) (.const (.int .u8 45)) 5) 41 true,o1 46 (po 41 45)] 0 none) []
  (.cond (tm 46)
  (.seq (.region 7 [o1 2 (sb false)] 0 none) []
   (.ret (0 :: 1 :: (rl 3 44 []))))
  .skip))) (2 :: (rl 23 24 []))
 A33v1)
def A33v3:AC:=(.seq (.seq (.region 4 [mv 17 3,mv 18 0,o1 19 (.len 9 true (tm 18)),o1 20 (bt .lss 3 17 19)] 0 none) []
 (.cond (tm 20)
 .skip
 (.exit 0 (rl 0 47 [])))) (rl 17 4 [])
 A33v2)
def A33v4:AC:=(.seq (.region 8 [o1 2 (sb true)] 0 none) []
 (.ret (0 :: 1 :: (rl 3 44 []))))
def A33v5:AC:=(.seq (.seq (.region 3 [o1 3 (sk 0)] 0 none) []
 (.block 0
 (.loop [] (1 :: 2 :: (rl 4 43 []))
  A33v3))) (2 :: 3 :: (rl 17 30 []))
 A33v4)
def A33:AF:=⟨47,[.tmp 2],
 (.seq (.region 0 [o1 2 (sb false)] 0 none) []
 (.seq (.seq (.region 1 [mv 4 0,o1 5 (.binOp .eql 9 (tm 4) (.const (.string ByteArray.empty)) 9),mv 6 5,og 7 (.move (tm 0)) 6 false,og 8 (.len 9 true (tm 7)) 6 false,og 9 (bk .gtr 3 8 16) 6 false,o1 10 (pa 6 9),mv 11 10,og 12 (.move (tm 0)) 11 false,og 13 (.indexS 9 (tm 12) (ic 0)) 11 false,og 14 (cs 61 [13] [5]) 11 false,og 15 (.unOp .not 4 (tm 14)) 11 false,o1 16 (pa 11 15)] 0 none) []
 (.cond (tm 16)
 (.seq (.region 2 [o1 2 (sb false)] 0 none) []
  (.ret (0 :: 1 :: (rl 3 44 []))))
 .skip)) (2 :: (rl 4 13 []))
 A33v5))⟩
def N285v1:St→Option St:=nN 0 (1 :: 2 :: (rl 4 43 []))
def s285v0:St:=⟨(vxs w0 :: .u :: .u :: vxi i0 :: (us 43 [])),[]⟩
def s285v1:St:=⟨(.u :: .u :: vxb false :: (us 44 [])),[]⟩
def s285v2:St:=⟨(us 47 []),[]⟩
def L285v1 {ρ:Type} (u:Nat) (x0:ByteArray):Nat→Int→(Option ρ)→(Option ρ)→Option ρ
 | 0,_,_,_=>none
 | m+1,x1,k0,k1 =>
  (bif (decide (x1<(Int.ofNat (ByteArray.size x0)))) then (bif (inb x1 (ByteArray.size x0)) then (ob (F283 u (Int.ofNat (UInt8.toNat (List.getD (Array.toList (ByteArray.data x0)) x1.toNat 0)))) fun x2=>(bif ((!x2)==true) then (bif (inb x1 (ByteArray.size x0)) then (ob (F284 u (Int.ofNat (UInt8.toNat (List.getD (Array.toList (ByteArray.data x0)) x1.toNat 0)))) fun x3=>(bif ((!x3)==true) then (bif (inb x1 (ByteArray.size x0)) then (bif (((Int.ofNat (UInt8.toNat (List.getD (Array.toList (ByteArray.data x0)) x1.toNat 0))) != 95)==true) then (bif (inb x1 (ByteArray.size x0)) then (bif ((Int.ofNat (UInt8.toNat (List.getD (Array.toList (ByteArray.data x0)) x1.toNat 0))) != 45) then k0 else (L285v1 u x0 m (w64 (x1+1)) k0 k1)) else none) else (L285v1 u x0 m (w64 (x1+1)) k0 k1)) else none) else (L285v1 u x0 m (w64 (x1+1)) k0 k1))) else none) else (L285v1 u x0 m (w64 (x1+1)) k0 k1))) else none) else k1)
theorem nl285v1:∀ (m:Nat) (x0:Int) (k0:Option ρ) (k1:Option ρ),ob (L285v1 u w0 m x0 k0 k1) ng=L285v1 u w0 m x0 (ob k0 ng) (ob k1 ng)
 | 0,_,_,_=>rfl
 | m+1,x0,k0,k1=>by
  simp only [L285v1,ob_bif,ob_ob,ob_none,nl285v1 m]
theorem q285v1:∀ (m:Nat) (x0:Int),
  loopH (eB A33v3 (C3 u) u) N285v1 m (s285v0 x0 w0) k=L285v1 u w0 m x0 (k .ret s285v1) (k (.exit 0) s285v2)
 | 0,_=>rfl
 | m+1,x0=>by
  simp only [L285v1,← q285v1 m]
  kernel_rfl
def F285 (x0:ByteArray):Option (Bool) :=
 (bif ((ByteArray.toList x0==ByteArray.toList ByteArray.empty)==false) then (bif ((decide ((Int.ofNat (ByteArray.size x0))>16))==false) then (bif (inb 0 (ByteArray.size x0)) then (ob (F283 u (Int.ofNat (UInt8.toNat (List.getD (Array.toList (ByteArray.data x0)) 0 0)))) fun x1=>(bif (!x1) then (some false) else (L285v1 u x0 u 0
  (some false)
  (some true)))) else none) else (some false)) else (some false))
def s285v3:St:=⟨(vxs w0 :: uu :: .u :: vxi 0 :: (us 13 [uu,uu,uu,uu,uu,uu,uu,uu,uu,uu,uu,uu,uu,uu,uu,uu,uu,uu,uu,uu,uu,uu,uu,uu,uu,uu,uu,uu,uu,uu])),[]⟩
theorem t285v1 :
  loopN (eB A33v3 (C3 u) u) N285v1 u (s285v3 w0) k =
  L285v1 u w0 u 0 (k .ret s285v1) (k (.exit 0) s285v2) :=
 Eq.trans (loopN_at (by kernel_rfl)) (q285v1 ..)
theorem g285v2 :
  (kBlk 0 (kSeq (C3 u) u (2 :: 3 :: (rl 17 30 [])) A33v4 (finish A33))) .ret s285v1 =
  (some [.v (.b false)]):=by kernel_rfl
theorem g285v3 :
  (kBlk 0 (kSeq (C3 u) u (2 :: 3 :: (rl 17 30 [])) A33v4 (finish A33))) (.exit 0) s285v2 =
  (some [.v (.b true)]):=by kernel_rfl
theorem e285:evalF (C3 u) u A33 [.v (.s w0)]=ob (F285 u w0) fun t=>some [.v (.b t)]:=Eq.trans (b:=(bif ((ByteArray.toList w0==ByteArray.toList ByteArray.empty)==false) then (bif ((decide ((Int.ofNat (ByteArray.size w0))>16))==false) then (bif (inb 0 (ByteArray.size w0)) then (ob (F283 u (Int.ofNat (UInt8.toNat (List.getD (Array.toList (ByteArray.data w0)) 0 0)))) fun x0=>(bif (!x0) then (some [.v (.b false)]) else (loopN (eB A33v3 (C3 u) u) N285v1 u (s285v3 w0) (kBlk 0 (kSeq (C3 u) u (2 :: 3 :: (rl 17 30 [])) A33v4 (finish A33)))))) else none) else (some [.v (.b false)])) else (some [.v (.b false)]))) (by kernel_rfl) (by
 simp only [F285,ob_bif,ob_ob,ob_none,ob_some,nl285v1,t285v1,g285v2,g285v3])
def O285:Ora:=mkO (q1 (av cS)) (fun x=>F285 u x) fun t=>[.v (.b t)]
theorem d285:DO (O285 u) (C3 u) 33 A33:=dO u (fun x=>by exact e285 u x)
def C4:Oracle:=(C3 u).add 33 (fun _=>true) (O285 u)
def A34:AF:=⟨15,[.tmp 6],
 (.seq (.region 0 [o1 6 (sb false)] 0 none) []
 (.seq (.region 1 [mv 7 0,mv 8 1,o1 9 (bt .geq 3 7 8),mv 10 9,og 11 (.move (tm 0)) 10 true,og 12 (.move (tm 2)) 10 true,og 13 (bt .leq 3 11 12) 10 true,o1 14 (po 10 13),o1 6 (sg 14)] 0 none) []
 (.ret (rl 0 6 (rl 7 8 [])))))⟩
def F286 (u:Nat) (x0 x1 x2:Int):Option (Bool) :=
 (bif ((decide (x0≥x1))==true) then (some (decide (x0≤x2))) else (some false))
theorem e286:evalF (C4 u) u A34 [.v (vi i0),.v (vi i1),.v (vi i2)]=ob (F286 u i0 i1 i2) fun t=>some [.v (.b t)]:=by
 simp only [F286,ob_bif,ob_ob,ob_none,ob_some]
 kernel_rfl
def O286:Ora:=mkO (qc (av ci) (qc (av ci) (q1 (av ci)))) (fun x=>F286 u x.1 x.2.1 x.2.2) fun t=>[.v (.b t)]
theorem d286:DO (O286 u) (C4 u) 34 A34:=dO u (fun x=>by exact e286 u x.1 x.2.1 x.2.2)
def C5:Oracle:=(C4 u).add 34 (fun _=>true) (O286 u)
def A60v1:AC:=(.seq (.region 10 [mv 22 3,o1 23 (bk .gtr 3 22 0),mv 24 23,og 25 (.move (tm 0)) 24 true,og 26 (.move (tm 3)) 24 true,og 27 (.indexAddr 56 3 1 (tm 25) (tm 26)) 24 true,og 28 (lo 3 27) 24 true,og 29 (.move (tm 0)) 24 true,og 30 (.move (tm 3)) 24 true,og 31 (bk .sub 3 30 1) 24 true,og 32 (.indexAddr 56 3 1 (tm 29) (tm 31)) 24 true,og 33 (lo 3 32) 24 true,og 34 (bt .leq 3 28 33) 24 true,o1 35 (po 24 34)] 0 (some [[],[0],[0,1],[0,1,2],[0,1,2],(rl 0 5 []),(rl 0 6 []),[0,1,2],[0,1,2],[0,1,2,8],[0,1,2,7,8,9],(0 :: 1 :: 2 :: (rl 7 4 [])),(rl 0 12 []),(rl 0 13 [])])) []
 (.cond (tm 35)
 (.seq (.region 11 [o1 2 (sk 11)] 0 none) []
  (.ret (0 :: 1 :: (rl 3 33 []))))
 .skip))
def A60v2:AC:=(.region 7 [mv 14 3,o1 15 (bk .add 3 14 1),o1 3 (sg 15)] 0 none)
def A60v3:AC:=(.seq (.block 1
 (.seq (.seq (.region 8 [mv 16 0,mv 17 3,o1 18 (.indexAddr 56 3 1 (tm 16) (tm 17)),o1 19 (lo 3 18),o1 20 (.call 34 [(tm 19),(ic 1),(ic 120)] [3,3,3] .snap),o1 21 (.unOp .not 4 (tm 20))] 0 none) []
  (.cond (tm 21)
  (.seq (.region 9 [o1 2 (sk 9)] 0 none) []
   (.ret (0 :: 1 :: (rl 3 33 []))))
  .skip)) (2 :: (rl 16 6 []))
  A60v1)) (2 :: (rl 16 20 []))
 A60v2)
def A60v4:AC:=(.seq (.seq (.region 6 [mv 10 3,mv 11 0,o1 12 (.len 56 false (tm 11)),o1 13 (bt .lss 3 10 12)] 0 none) []
 (.cond (tm 13)
 .skip
 (.exit 0 (rl 0 36 [])))) (rl 10 4 [])
 A60v3)
def A60v5:AC:=(.seq (.region 12 [o1 2 (sk 0)] 0 none) []
 (.ret (0 :: 1 :: (rl 3 33 []))))
def A60v6:AC:=(.seq (.seq (.region 5 [o1 3 (sk 0)] 0 none) []
 (.block 0
 (.loop [] (1 :: 2 :: (rl 4 32 []))
  A60v4))) (2 :: 3 :: (rl 10 26 []))
 A60v5)
def A60v7:AC:=(.seq (.seq (.region 3 [mv 7 0,o1 8 (.len 56 false (tm 7)),o1 9 (bk .gtr 3 8 16)] 0 none) []
 (.cond (tm 9)
 (.seq (.region 4 [o1 2 (sk 4)] 0 none) []
  (.ret (0 :: 1 :: (rl 3 33 []))))
 .skip)) [2,7,8,9]
 A60v6)
def A60:AF:=⟨36,[.tmp 2],
 (.seq (.region 0 [o1 2 (sk 0)] 0 none) []
 (.seq (.seq (.region 1 [mv 4 0,o1 5 (.len 56 false (tm 4)),o1 6 (bk .eql 3 5 0)] 0 none) []
 (.cond (tm 6)
 (.seq (.region 2 [o1 2 (sk 3)] 0 none) []
  (.ret (0 :: 1 :: (rl 3 33 []))))
 .skip)) [2,4,5,6]
 A60v7))⟩
def N287v1:St→Option St:=nN 0 (1 :: 2 :: (rl 4 32 []))
def s287v0:St:=⟨(.x (.c (ro (.pr (.int .i64) .nil) n0 f0)) :: .u :: .u :: vxi i0 :: (us 32 [])),[]⟩
def s287v1:St:=⟨(.u :: .u :: vxi i0 :: (us 33 [])),[]⟩
def s287v2:St:=⟨(us 36 []),[]⟩
def L287v1 {ρ:Type} (u:Nat) (x0:Nat) (x1:FF):Nat→Int→(Int→Option ρ)→(Option ρ)→Option ρ
 | 0,_,_,_=>none
 | m+1,x2,k0,k1 =>
  (bif (decide (x2<(Int.ofNat x0))) then (bif (inb x2 x0) then (ob (F286 u (x1 x2.toNat 0).int 1 120) fun x3=>(bif (!x3) then (k0 9) else (bif ((decide (x2>0))==true) then (bif (inb x2 x0) then (bif (inb (w64 (x2-1)) x0) then (bif (decide ((x1 x2.toNat 0).int≤(CV.int (x1 (Int.toNat (w64 (x2-1))) 0)))) then (k0 11) else (L287v1 u x0 x1 m (w64 (x2+1)) k0 k1)) else none) else none) else (L287v1 u x0 x1 m (w64 (x2+1)) k0 k1)))) else none) else k1)
theorem nl287v1:∀ (m:Nat) (x0:Int) (k0:Int→Option ρ) (k1:Option ρ),ob (L287v1 u n0 f0 m x0 k0 k1) ng=L287v1 u n0 f0 m x0 (fun x1=>ob (k0 x1) ng) (ob k1 ng)
 | 0,_,_,_=>rfl
 | m+1,x0,k0,k1=>by
  simp only [L287v1,ob_bif,ob_ob,ob_none,nl287v1 m]
theorem q287v1:∀ (m:Nat) (x0:Int),
  loopH (eB A60v4 (C5 u) u) N287v1 m (s287v0 n0 f0 x0) k=L287v1 u n0 f0 m x0 (fun x1=>k .ret (s287v1 x1)) (k (.exit 0) s287v2)
 | 0,_=>rfl
 | m+1,x0=>by
  simp only [L287v1,← q287v1 m]
  kernel_rfl
def F287 (x0:Nat) (x1:FF):Option (Int) :=
 (bif ((Int.ofNat x0)==0) then (some 3) else (bif (decide ((Int.ofNat x0)>16)) then (some 4) else (L287v1 u x0 x1 u 0
  (fun x2=>(some x2))
  (some 0))))
def s287v3:St:=⟨(.x (.c (ro (.pr (.int .i64) .nil) n0 f0)) :: uu :: .u :: vxi 0 :: (us 6 [uu,uu,uu,uu,uu,uu,uu,uu,uu,uu,uu,uu,uu,uu,uu,uu,uu,uu,uu,uu,uu,uu,uu,uu,uu,uu])),[]⟩
theorem t287v1 :
  loopN (eB A60v4 (C5 u) u) N287v1 u (s287v3 n0 f0) k =
  L287v1 u n0 f0 u 0 (fun x0=>k .ret (s287v1 x0)) (k (.exit 0) s287v2) :=
 Eq.trans (loopN_at (by kernel_rfl)) (q287v1 ..)
theorem g287v2 :
  (kBlk 0 (kSeq (C5 u) u (2 :: 3 :: (rl 10 26 [])) A60v5 (finish A60))) .ret (s287v1 i0) =
  (some [.v (vi i0)]):=by kernel_rfl
theorem g287v3 :
  (kBlk 0 (kSeq (C5 u) u (2 :: 3 :: (rl 10 26 [])) A60v5 (finish A60))) (.exit 0) s287v2 =
  (some [.v (vi 0)]):=by kernel_rfl
theorem e287:evalF (C5 u) u A60 [.v (ro (.pr (.int .i64) .nil) n0 f0)]=ob (F287 u n0 f0) fun t=>some [.v (vi t)]:=Eq.trans (b:=(bif ((Int.ofNat n0)==0) then (some [.v (vi 3)]) else (bif (decide ((Int.ofNat n0)>16)) then (some [.v (vi 4)]) else (loopN (eB A60v4 (C5 u) u) N287v1 u (s287v3 n0 f0) (kBlk 0 (kSeq (C5 u) u (2 :: 3 :: (rl 10 26 [])) A60v5 (finish A60))))))) (by kernel_rfl) (by
 simp only [F287,ob_bif,ob_ob,ob_none,ob_some,nl287v1,t287v1,g287v2,g287v3])
def O287:Ora:=mkO (q1 (av (cL (.pr (.int .i64) .nil)))) (fun x=>F287 u x.1 x.2) fun t=>[.v (vi t)]
theorem d287:DO (O287 u) (C5 u) 60 A60:=dO u (fun x=>by exact e287 u x.1 x.2)
def C6:Oracle:=(C5 u).add 60 (fun _=>true) (O287 u)
def A32v1:AC:=(.seq (.region 11 [mv 43 3,o1 44 (bk .gtr 3 43 0),mv 45 44,og 46 (.move (tm 0)) 45 true,og 47 (.move (tm 3)) 45 true,og 48 (.indexAddr 29 117 4 (tm 46) (tm 47)) 45 true,og 49 (fa 117 48 0 0) 45 true,og 50 (lo 9 49) 45 true,og 51 (.move (tm 0)) 45 true,og 52 (.move (tm 3)) 45 true,og 53 (bk .sub 3 52 1) 45 true,og 54 (.indexAddr 29 117 4 (tm 51) (tm 53)) 45 true,og 55 (fa 117 54 0 0) 45 true,og 56 (lo 9 55) 45 true,og 57 (bt .leq 9 50 56) 45 true,o1 58 (po 45 57)] 0 (some [[],[0],[0,1],[0,1,2],[0,1,2],(rl 0 5 []),(rl 0 6 []),(rl 0 7 []),[0,1,2],[0,1,2],[0,1,2,9],[0,1,2,8,9,10],(0 :: 1 :: 2 :: (rl 8 4 [])),(0 :: 1 :: 2 :: (rl 8 5 [])),(rl 0 14 []),(rl 0 15 [])])) []
 (.cond (tm 58)
 (.seq (.region 12 [o1 2 (sk 11)] 0 none) []
  (.ret (0 :: 1 :: (rl 3 56 []))))
 .skip))
def A32v2:AC:=(.seq (.seq (.region 8 [mv 34 0,mv 35 3,o1 36 (.indexAddr 29 117 4 (tm 34) (tm 35)),o1 37 (fa 117 36 3 3),o1 38 (lo 56 37),o1 39 (cs 60 [38] [56]),o1 4 (sg 39)] 0 none) []
 (.seq (.region 9 [mv 40 4,o1 41 (bk .neq 34 40 0)] 0 none) []
 (.cond (tm 41)
 (.seq (.region 10 [mv 42 4,o1 2 (sg 42)] 0 none) []
  (.ret (0 :: 1 :: (rl 3 56 []))))
 .skip))) (2 :: 4 :: (rl 34 9 []))
 A32v1)
def A32v3:AC:=(.seq (.seq (.region 6 [mv 18 0,mv 19 3,o1 20 (.indexAddr 29 117 4 (tm 18) (tm 19)),o1 21 (fa 117 20 1 1),o1 22 (lo 3 21),o1 23 (.call 34 [(tm 22),(ic 1000),(ic 20000)] [3,3,3] .snap),o1 24 (.unOp .not 4 (tm 23)),mv 25 24,og 26 (.move (tm 0)) 25 false,og 27 (.move (tm 3)) 25 false,og 28 (.indexAddr 29 117 4 (tm 26) (tm 27)) 25 false,og 29 (fa 117 28 2 2) 25 false,og 30 (lo 3 29) 25 false,og 31 (.call 34 [(tm 30),(ic 100),(ic 1500)] [3,3,3] .snap) 25 false,og 32 (.unOp .not 4 (tm 31)) 25 false,o1 33 (pa 25 32)] 0 none) []
 (.cond (tm 33)
 (.seq (.region 7 [o1 2 (sk 9)] 0 none) []
  (.ret (0 :: 1 :: (rl 3 56 []))))
 .skip)) (2 :: (rl 18 16 []))
 A32v2)
def A32v4:AC:=(.region 3 [mv 9 3,o1 10 (bk .add 3 9 1),o1 3 (sg 10)] 0 none)
def A32v5:AC:=(.seq (.block 1
 (.seq (.seq (.region 4 [mv 11 0,mv 12 3,o1 13 (.indexAddr 29 117 4 (tm 11) (tm 12)),o1 14 (fa 117 13 0 0),o1 15 (lo 9 14),o1 16 (cs 33 [15] [9]),o1 17 (.unOp .not 4 (tm 16))] 0 none) []
  (.cond (tm 17)
  (.seq (.region 5 [o1 2 (sk 6)] 0 none) []
   (.ret (0 :: 1 :: (rl 3 56 []))))
  .skip)) (2 :: (rl 11 7 []))
  A32v3)) (2 :: 4 :: (rl 11 48 []))
 A32v4)
def A32v6:AC:=(.seq (.seq (.region 2 [mv 5 3,mv 6 0,o1 7 (.len 29 false (tm 6)),o1 8 (bt .lss 3 5 7)] 0 none) []
 (.cond (tm 8)
 .skip
 (.exit 0 (rl 0 59 [])))) (rl 5 4 [])
 A32v5)
def A32v7:AC:=(.seq (.region 13 [o1 2 (sk 0)] 0 none) []
 (.ret (0 :: 1 :: (rl 3 56 []))))
def A32:AF:=⟨59,[.tmp 2],
 (.seq (.region 0 [o1 2 (sk 0)] 0 none) []
 (.seq (.seq (.region 1 [o1 3 (sk 0)] 0 none) []
 (.block 0
 (.loop [] (1 :: 2 :: (rl 4 55 []))
  A32v6))) (rl 2 57 [])
 A32v7))⟩
def N288v1:St→Option St:=nN 0 (1 :: 2 :: (rl 4 55 []))
def s288v0:St:=⟨(.x (.c (ro kD n0 f0)) :: .u :: .u :: vxi i0 :: (us 55 [])),[]⟩
def s288v1:St:=⟨(.u :: .u :: vxi i0 :: (us 56 [])),[]⟩
def s288v2:St:=⟨(us 59 []),[]⟩
def L288v1 {ρ:Type} (u:Nat) (x0:Nat) (x1:FF):Nat→Int→(Int→Option ρ)→(Option ρ)→Option ρ
 | 0,_,_,_=>none
 | m+1,x2,k0,k1 =>
  (bif (decide (x2<(Int.ofNat x0))) then (bif (inb x2 x0) then (ob (F285 u (x1 x2.toNat 0).str) fun x3=>(bif (!x3) then (k0 6) else (bif (inb x2 x0) then (ob (F286 u (x1 x2.toNat 1).int 1000 20000) fun x4=>(bif ((!x4)==false) then (bif (inb x2 x0) then (ob (F286 u (x1 x2.toNat 2).int 100 1500) fun x5=>(bif (!x5) then (k0 9) else (bif (inb x2 x0) then (ob (F287 u (x1 x2.toNat 3).len (x1 x2.toNat 3).el) fun x6=>(bif (x6 != 0) then (k0 x6) else (bif ((decide (x2>0))==true) then (bif (inb x2 x0) then (bif (inb (w64 (x2-1)) x0) then (bif ((Op.bytesLess (ByteArray.toList (x1 x2.toNat 0).str) (ByteArray.toList (CV.str (x1 (Int.toNat (w64 (x2-1))) 0))))||(ByteArray.toList (x1 x2.toNat 0).str==ByteArray.toList (CV.str (x1 (Int.toNat (w64 (x2-1))) 0)))) then (k0 11) else (L288v1 u x0 x1 m (w64 (x2+1)) k0 k1)) else none) else none) else (L288v1 u x0 x1 m (w64 (x2+1)) k0 k1)))) else none))) else none) else (k0 9))) else none))) else none) else k1)
theorem nl288v1:∀ (m:Nat) (x0:Int) (k0:Int→Option ρ) (k1:Option ρ),ob (L288v1 u n0 f0 m x0 k0 k1) ng=L288v1 u n0 f0 m x0 (fun x1=>ob (k0 x1) ng) (ob k1 ng)
 | 0,_,_,_=>rfl
 | m+1,x0,k0,k1=>by
  simp only [L288v1,ob_bif,ob_ob,ob_none,nl288v1 m]
theorem q288v1:∀ (m:Nat) (x0:Int),
  loopH (eB A32v6 (C6 u) u) N288v1 m (s288v0 n0 f0 x0) k=L288v1 u n0 f0 m x0 (fun x1=>k .ret (s288v1 x1)) (k (.exit 0) s288v2)
 | 0,_=>rfl
 | m+1,x0=>by
  simp only [L288v1,← q288v1 m]
  kernel_rfl
def F288 (x0:Nat) (x1:FF):Option (Int) :=
 (L288v1 u x0 x1 u 0
  (fun x2=>(some x2))
  (some 0))
def s288v3:St:=⟨[.x (.c (ro kD n0 f0)),uu,vxi 0,vxi 0,uu,uu,uu,uu,uu,uu,uu,uu,uu,uu,uu,uu,uu,uu,uu,uu,uu,uu,uu,uu,uu,uu,uu,uu,uu,uu,uu,uu,uu,uu,uu,uu,uu,uu,uu,uu,uu,uu,uu,uu,uu,uu,uu,uu,uu,uu,uu,uu,uu,uu,uu,uu,uu,uu,uu],[]⟩
theorem t288v1 :
  loopN (eB A32v6 (C6 u) u) N288v1 u (s288v3 n0 f0) k =
  L288v1 u n0 f0 u 0 (fun x0=>k .ret (s288v1 x0)) (k (.exit 0) s288v2) :=
 Eq.trans (loopN_at (by kernel_rfl)) (q288v1 ..)
theorem g288v2 :
  (kBlk 0 (kSeq (C6 u) u (rl 2 57 []) A32v7 (finish A32))) .ret (s288v1 i0) =
  (some [.v (vi i0)]):=by kernel_rfl
theorem g288v3 :
  (kBlk 0 (kSeq (C6 u) u (rl 2 57 []) A32v7 (finish A32))) (.exit 0) s288v2 =
  (some [.v (vi 0)]):=by kernel_rfl
theorem e288:evalF (C6 u) u A32 [.v (ro kD n0 f0)]=ob (F288 u n0 f0) fun t=>some [.v (vi t)]:=Eq.trans (b:=(loopN (eB A32v6 (C6 u) u) N288v1 u (s288v3 n0 f0) (kBlk 0 (kSeq (C6 u) u (rl 2 57 []) A32v7 (finish A32))))) (by kernel_rfl) (by
 simp only [F288,ob_bif,ob_ob,ob_none,ob_some,nl288v1,t288v1,g288v2,g288v3])
def O288:Ora:=mkO (q1 (av (cL kD))) (fun x=>F288 u x.1 x.2) fun t=>[.v (vi t)]
theorem d288:DO (O288 u) (C6 u) 32 A32:=dO u (fun x=>by exact e288 u x.1 x.2)
def C7:Oracle:=(C6 u).add 32 (fun _=>true) (O288 u)
def A14v1:AC:=(.seq (.region 14 [mv 54 4,o1 55 (bk .gtr 3 54 0),mv 56 55,og 57 (fa 70 5 0 0) 56 true,og 58 (lo 9 57) 56 true,og 59 (fa 32 1 1 1) 56 true,og 60 (lo 30 59) 56 true,og 61 (.move (tm 4)) 56 true,og 62 (bk .sub 3 61 1) 56 true,og 63 (.indexAddr 30 70 4 (tm 60) (tm 62)) 56 true,og 64 (fa 70 63 0 0) 56 true,og 65 (lo 9 64) 56 true,og 66 (bt .leq 9 58 65) 56 true,o1 67 (po 56 66)] 0 (some [[],[0],[0,1],[0,1,2],(rl 0 4 []),[0,1,2],[0,1,2,5],[0,1,2],[0,1,2,7],(0 :: 1 :: 2 :: (rl 5 4 [])),(0 :: 1 :: 2 :: (rl 5 5 [])),(0 :: 1 :: 2 :: (rl 5 6 [])),(rl 0 12 []),(rl 0 13 [])])) []
 (.cond (tm 67)
 (.seq (.region 15 [o1 2 (sk 11)] 0 none) []
  (.ret (0 :: 1 :: (rl 3 65 []))))
 .skip))
def A14v2:AC:=(.seq (.seq (.region 12 [o1 38 (fa 70 5 1 1),o1 39 (lo 3 38),o1 40 (.call 34 [(tm 39),(ic 1),(ic 1000000)] [3,3,3] .snap),o1 41 (.unOp .not 4 (tm 40)),mv 42 41,og 43 (fa 70 5 2 2) 42 false,og 44 (lo 3 43) 42 false,og 45 (.call 34 [(tm 44),(ic 1),(ic 2000)] [3,3,3] .snap) 42 false,og 46 (.unOp .not 4 (tm 45)) 42 false,o1 47 (pa 42 46),mv 48 47,og 49 (fa 70 5 3 3) 48 false,og 50 (lo 3 49) 48 false,og 51 (.call 34 [(tm 50),(ic 100),(ic 32768)] [3,3,3] .snap) 48 false,og 52 (.unOp .not 4 (tm 51)) 48 false,o1 53 (pa 48 52)] 0 none) []
 (.cond (tm 53)
 (.seq (.region 13 [o1 2 (sk 9)] 0 none) []
  (.ret (0 :: 1 :: (rl 3 65 []))))
 .skip)) (2 :: (rl 38 16 []))
 A14v1)
def A14v3:AC:=(.region 8 [mv 27 4,o1 28 (bk .add 3 27 1),o1 4 (sg 28)] 0 none)
def A14v4:AC:=(.seq (.block 1
 (.seq (.region 9 [o1 29 (fa 32 1 1 1),o1 30 (lo 30 29),mv 31 4,o1 32 (.indexAddr 30 70 4 (tm 30) (tm 31)),o1 33 (ln 70 4 32),o1 5 (.alloc 0 70 [vcs ByteArray.empty,vci 0,vci 0,vci 0]),o0 (.store 70 4 (tm 5) (tm 33))] 1 none) []
  (.seq (.seq (.region 10 [o1 34 (fa 70 5 0 0),o1 35 (lo 9 34),o1 36 (cs 33 [35] [9]),o1 37 (.unOp .not 4 (tm 36))] 0 none) []
  (.cond (tm 37)
  (.seq (.region 11 [o1 2 (sk 6)] 0 none) []
   (.ret (0 :: 1 :: (rl 3 65 []))))
  .skip)) (2 :: (rl 34 4 []))
  A14v2))) (2 :: 5 :: (rl 29 39 []))
 A14v3)
def A14v5:AC:=(.seq (.seq (.region 7 [mv 22 4,o1 23 (fa 32 1 1 1),o1 24 (lo 30 23),o1 25 (.len 30 false (tm 24)),o1 26 (bt .lss 3 22 25)] 0 none) []
 (.cond (tm 26)
 .skip
 (.exit 0 (rl 0 68 [])))) (rl 22 5 [])
 A14v4)
def A14v6:AC:=(.seq (.region 16 [o1 2 (sk 0)] 0 none) []
 (.ret (0 :: 1 :: (rl 3 65 []))))
def A14v7:AC:=(.seq (.seq (.region 6 [o1 4 (sk 0)] 0 none) []
 (.block 0
 (.loop [] (0 :: 2 :: 3 :: (rl 5 63 []))
  A14v5))) (2 :: 4 :: 5 :: (rl 22 46 []))
 A14v6)
def A14v8:AC:=(.seq (.seq (.region 3 [o1 16 (fa 32 1 0 0),o1 17 (lo 29 16),o1 18 (cs 32 [17] [29]),o1 3 (sg 18)] 0 none) []
 (.seq (.region 4 [mv 19 3,o1 20 (bk .neq 34 19 0)] 0 none) []
 (.cond (tm 20)
 (.seq (.region 5 [mv 21 3,o1 2 (sg 21)] 0 none) []
  (.ret (0 :: 1 :: (rl 3 65 []))))
 .skip))) (2 :: 3 :: (rl 16 6 []))
 A14v7)
def A14:AF:=⟨68,[.tmp 2],
 (.seq (.region 0 [o1 1 (bx 0 32 0),o1 2 (sk 0)] 1 none) []
 (.seq (.seq (.region 1 [o1 6 (fa 32 1 0 0),o1 7 (lo 29 6),o1 8 (.len 29 false (tm 7)),o1 9 (bk .gtr 3 8 16),mv 10 9,og 11 (fa 32 1 1 1) 10 false,og 12 (lo 30 11) 10 false,og 13 (.len 30 false (tm 12)) 10 false,og 14 (bk .gtr 3 13 32) 10 false,o1 15 (pa 10 14)] 0 none) []
 (.cond (tm 15)
 (.seq (.region 2 [o1 2 (sk 4)] 0 none) []
  (.ret (0 :: 1 :: (rl 3 65 []))))
 .skip)) (2 :: (rl 6 10 []))
 A14v8))⟩
def N289v1:St→Option St:=nN 1 (0 :: 2 :: 3 :: (rl 5 63 []))
def s289v0:St:=⟨(.u :: .x (.ptr 0 0) :: .u :: .u :: vxi i0 :: (us 63 [])),[.box [(.c (ro kD n0 f0)),(.c (ro (.pr .str kV) n1 f1))]]⟩
def s289v1:St:=⟨(.u :: .u :: vxi i0 :: (us 65 [])),[.box [(.c (ro kD n0 f0)),(.c (ro (.pr .str kV) n1 f1))],.box [(vcs w0),(vci i1),(vci i2),(vci i3)]]⟩
def s289v2:St:=⟨(us 68 []),[.box [(.c (ro kD n0 f0)),(.c (ro (.pr .str kV) n1 f1))]]⟩
def L289v1 {ρ:Type} (u:Nat) (x0:Nat) (x1:FF) (x2:Nat) (x3:FF):Nat→Int→(Int→ByteArray→Int→Int→Int→Option ρ)→(Option ρ)→Option ρ
 | 0,_,_,_=>none
 | m+1,x4,k0,k1 =>
  (bif (decide (x4<(Int.ofNat x2))) then (bif (inb x4 x2) then (ob (F285 u (x3 x4.toNat 0).str) fun x5=>(bif (!x5) then (k0 6 (x3 x4.toNat 0).str (x3 x4.toNat 1).int (x3 x4.toNat 2).int (x3 x4.toNat 3).int) else (ob (F286 u (x3 x4.toNat 1).int 1 1000000) fun x6=>(bif ((!x6)==false) then (ob (F286 u (x3 x4.toNat 2).int 1 2000) fun x7=>(bif ((!x7)==false) then (ob (F286 u (x3 x4.toNat 3).int 100 32768) fun x8=>(bif (!x8) then (k0 9 (x3 x4.toNat 0).str (x3 x4.toNat 1).int (x3 x4.toNat 2).int (x3 x4.toNat 3).int) else (bif ((decide (x4>0))==true) then (bif (inb (w64 (x4-1)) x2) then (bif ((Op.bytesLess (ByteArray.toList (x3 x4.toNat 0).str) (ByteArray.toList (CV.str (x3 (Int.toNat (w64 (x4-1))) 0))))||(ByteArray.toList (x3 x4.toNat 0).str==ByteArray.toList (CV.str (x3 (Int.toNat (w64 (x4-1))) 0)))) then (k0 11 (x3 x4.toNat 0).str (x3 x4.toNat 1).int (x3 x4.toNat 2).int (x3 x4.toNat 3).int) else (L289v1 u x0 x1 x2 x3 m (w64 (x4+1)) k0 k1)) else none) else (L289v1 u x0 x1 x2 x3 m (w64 (x4+1)) k0 k1)))) else (k0 9 (x3 x4.toNat 0).str (x3 x4.toNat 1).int (x3 x4.toNat 2).int (x3 x4.toNat 3).int))) else (k0 9 (x3 x4.toNat 0).str (x3 x4.toNat 1).int (x3 x4.toNat 2).int (x3 x4.toNat 3).int))))) else none) else k1)
theorem nl289v1:∀ (m:Nat) (x0:Int) (k0:Int→ByteArray→Int→Int→Int→Option ρ) (k1:Option ρ),ob (L289v1 u n0 f0 n1 f1 m x0 k0 k1) ng=L289v1 u n0 f0 n1 f1 m x0 (fun x1 x2 x3 x4 x5=>ob (k0 x1 x2 x3 x4 x5) ng) (ob k1 ng)
 | 0,_,_,_=>rfl
 | m+1,x0,k0,k1=>by
  simp only [L289v1,ob_bif,ob_ob,ob_none,nl289v1 m]
theorem q289v1:∀ (m:Nat) (x0:Int),
  loopH (eB A14v5 (C7 u) u) N289v1 m (s289v0 n0 n1 f0 f1 x0) k=L289v1 u n0 f0 n1 f1 m x0 (fun x1 x2 x3 x4 x5=>k .ret (s289v1 n0 n1 f0 f1 x1 x3 x4 x5 x2)) (k (.exit 0) (s289v2 n0 n1 f0 f1))
 | 0,_=>rfl
 | m+1,x0=>by
  simp only [L289v1,← q289v1 m]
  kernel_rfl
def F289 (x0:Nat) (x1:FF) (x2:Nat) (x3:FF):Option (Int) :=
 (bif ((decide ((Int.ofNat x0)>16))==false) then (bif (decide ((Int.ofNat x2)>32)) then (some 4) else (ob (F288 u x0 x1) fun x4=>(bif (x4 != 0) then (some x4) else (L289v1 u x0 x1 x2 x3 u 0
  (fun x5 x6 x7 x8 x9=>(some x5))
  (some 0))))) else (some 4))
def s289v3:St:=⟨(.agg [(.c (ro kD n0 f0)),(.c (ro (.pr .str kV) n1 f1))] :: .x (.ptr 0 0) :: .u :: .u :: vxi 0 :: uu :: (us 16 [uu,uu,uu,uu,uu,uu,uu,uu,uu,uu,uu,uu,uu,uu,uu,uu,uu,uu,uu,uu,uu,uu,uu,uu,uu,uu,uu,uu,uu,uu,uu,uu,uu,uu,uu,uu,uu,uu,uu,uu,uu,uu,uu,uu,uu,uu])),[.box [(.c (ro kD n0 f0)),(.c (ro (.pr .str kV) n1 f1))]]⟩
theorem t289v1 :
  loopN (eB A14v5 (C7 u) u) N289v1 u (s289v3 n0 n1 f0 f1) k =
  L289v1 u n0 f0 n1 f1 u 0 (fun x0 x1 x2 x3 x4=>k .ret (s289v1 n0 n1 f0 f1 x0 x2 x3 x4 x1)) (k (.exit 0) (s289v2 n0 n1 f0 f1)) :=
 Eq.trans (loopN_at (by kernel_rfl)) (q289v1 ..)
theorem g289v2 :
  (kBlk 0 (kSeq (C7 u) u (2 :: 4 :: 5 :: (rl 22 46 [])) A14v6 (finish A14))) .ret (s289v1 n0 n1 f0 f1 i0 i1 i2 i3 w0) =
  (some [.v (vi i0)]):=by kernel_rfl
theorem g289v3 :
  (kBlk 0 (kSeq (C7 u) u (2 :: 4 :: 5 :: (rl 22 46 [])) A14v6 (finish A14))) (.exit 0) (s289v2 n0 n1 f0 f1) =
  (some [.v (vi 0)]):=by kernel_rfl
theorem e289:evalF (C7 u) u A14 [.agg [(ro kD n0 f0),(ro (.pr .str kV) n1 f1)]]=ob (F289 u n0 f0 n1 f1) fun t=>some [.v (vi t)]:=Eq.trans (b:=(bif ((decide ((Int.ofNat n0)>16))==false) then (bif (decide ((Int.ofNat n1)>32)) then (some [.v (vi 4)]) else (ob (F288 u n0 f0) fun x0=>(bif (x0 != 0) then (some [.v (vi x0)]) else (loopN (eB A14v5 (C7 u) u) N289v1 u (s289v3 n0 n1 f0 f1) (kBlk 0 (kSeq (C7 u) u (2 :: 4 :: 5 :: (rl 22 46 [])) A14v6 (finish A14))))))) else (some [.v (vi 4)]))) (by kernel_rfl) (by
 simp only [F289,ob_bif,ob_ob,ob_none,ob_some,nl289v1,t289v1,g289v2,g289v3])
def O289:Ora:=mkO (q1 (ag (tc (cL kD) (t1 (cL (.pr .str kV)))))) (fun x=>F289 u x.1.1 x.1.2 x.2.1 x.2.2) fun t=>[.v (vi t)]
theorem d289:DO (O289 u) (C7 u) 14 A14:=dO u (fun x=>by exact e289 u x.1.1 x.2.1 x.1.2 x.2.2)
def C8:Oracle:=(C7 u).add 14 (fun _=>true) (O289 u)
def A35v1:AC:=(.seq (.block 1
 (.region 5 [o1 15 (.indexAddrA 73 37 4 1 (tm 3) (ic 0)),o1 16 (lo 37 15),o1 17 (fa 28 1 1 1),o1 18 (lo 22 17),mv 19 4,o1 20 (.indexAddr 22 60 3 (tm 18) (tm 19)),o1 21 (fa 60 20 0 0),o1 22 (lo 9 21),o1 23 (.buildSlice 0 37 9 (.pr .str .nil) 1 [vcs ByteArray.empty] [(0,(tm 22))]),o1 24 (.append 1 37 9 (.pr .str .nil) 16 (tm 16) (tm 23)),o1 25 (.indexAddrA 73 37 4 1 (tm 3) (ic 0)),o0 (.store 37 1 (tm 25) (tm 24))] 2 (some [[],[0],[],[2],[],[2,3,4],(rl 2 4 []),(rl 2 5 []),(rl 2 6 []),(rl 0 9 []),(rl 0 10 []),(rl 0 11 [])]))) []
 (.region 4 [mv 13 4,o1 14 (bk .add 3 13 1),o1 4 (sg 14)] 0 none))
def A35v2:AC:=(.seq (.seq (.region 3 [mv 8 4,o1 9 (fa 28 1 1 1),o1 10 (lo 22 9),o1 11 (.len 22 false (tm 10)),o1 12 (bt .lss 3 8 11)] 0 none) []
 (.cond (tm 12)
 .skip
 (.exit 0 (0 :: (rl 4 77 []))))) (rl 8 5 [])
 A35v1)
def A35v3:AC:=(.seq (.block 3
 (.region 9 [o1 33 (.indexAddrA 73 37 4 1 (tm 3) (ic 1)),o1 34 (lo 37 33),o1 35 (fa 28 1 2 2),o1 36 (lo 23 35),mv 37 5,o1 38 (.indexAddr 23 92 18 (tm 36) (tm 37)),o1 39 (fa 92 38 0 0),o1 40 (lo 9 39),o1 41 (.buildSlice 0 37 9 (.pr .str .nil) 1 [vcs ByteArray.empty] [(0,(tm 40))]),o1 42 (.append 1 37 9 (.pr .str .nil) 16 (tm 34) (tm 41)),o1 43 (.indexAddrA 73 37 4 1 (tm 3) (ic 1)),o0 (.store 37 1 (tm 43) (tm 42))] 2 (some [[],[0],[],[2],[],[2,3,4],(rl 2 4 []),(rl 2 5 []),(rl 2 6 []),(rl 0 9 []),(rl 0 10 []),(rl 0 11 [])]))) []
 (.region 8 [mv 31 5,o1 32 (bk .add 3 31 1),o1 5 (sg 32)] 0 none))
def A35v4:AC:=(.seq (.seq (.region 7 [mv 26 5,o1 27 (fa 28 1 2 2),o1 28 (lo 23 27),o1 29 (.len 23 false (tm 28)),o1 30 (bt .lss 3 26 29)] 0 none) []
 (.cond (tm 30)
 .skip
 (.exit 2 (0 :: (rl 4 77 []))))) (rl 26 5 [])
 A35v3)
def A35v5:AC:=(.seq (.block 5
 (.region 13 [o1 51 (.indexAddrA 73 37 4 1 (tm 3) (ic 2)),o1 52 (lo 37 51),o1 53 (fa 28 1 3 3),o1 54 (lo 24 53),mv 55 6,o1 56 (.indexAddr 24 97 6 (tm 54) (tm 55)),o1 57 (fa 97 56 0 0),o1 58 (lo 9 57),o1 59 (.buildSlice 0 37 9 (.pr .str .nil) 1 [vcs ByteArray.empty] [(0,(tm 58))]),o1 60 (.append 1 37 9 (.pr .str .nil) 16 (tm 52) (tm 59)),o1 61 (.indexAddrA 73 37 4 1 (tm 3) (ic 2)),o0 (.store 37 1 (tm 61) (tm 60))] 2 (some [[],[0],[],[2],[],[2,3,4],(rl 2 4 []),(rl 2 5 []),(rl 2 6 []),(rl 0 9 []),(rl 0 10 []),(rl 0 11 [])]))) []
 (.region 12 [mv 49 6,o1 50 (bk .add 3 49 1),o1 6 (sg 50)] 0 none))
def A35v6:AC:=(.seq (.seq (.region 11 [mv 44 6,o1 45 (fa 28 1 3 3),o1 46 (lo 24 45),o1 47 (.len 24 false (tm 46)),o1 48 (bt .lss 3 44 47)] 0 none) []
 (.cond (tm 48)
 .skip
 (.exit 4 (0 :: (rl 4 77 []))))) (rl 44 5 [])
 A35v5)
def A35v7:AC:=(.seq (.block 7
 (.region 17 [o1 69 (.indexAddrA 73 37 4 1 (tm 3) (ic 3)),o1 70 (lo 37 69),o1 71 (fa 28 1 4 4),o1 72 (lo 25 71),mv 73 7,o1 74 (.indexAddr 25 62 5 (tm 72) (tm 73)),o1 75 (fa 62 74 0 0),o1 76 (lo 9 75),o1 77 (.buildSlice 0 37 9 (.pr .str .nil) 1 [vcs ByteArray.empty] [(0,(tm 76))]),o1 78 (.append 1 37 9 (.pr .str .nil) 16 (tm 70) (tm 77)),o1 79 (.indexAddrA 73 37 4 1 (tm 3) (ic 3)),o0 (.store 37 1 (tm 79) (tm 78))] 2 (some [[],[0],[],[2],[],[2,3,4],(rl 2 4 []),(rl 2 5 []),(rl 2 6 []),(rl 0 9 []),(rl 0 10 []),(rl 0 11 [])]))) []
 (.region 16 [mv 67 7,o1 68 (bk .add 3 67 1),o1 7 (sg 68)] 0 none))
def A35v8:AC:=(.seq (.seq (.region 15 [mv 62 7,o1 63 (fa 28 1 4 4),o1 64 (lo 25 63),o1 65 (.len 25 false (tm 64)),o1 66 (bt .lss 3 62 65)] 0 none) []
 (.cond (tm 66)
 .skip
 (.exit 6 (0 :: 1 :: (rl 4 77 []))))) (rl 62 5 [])
 A35v7)
def A35v9:AC:=(.seq (.region 18 [o1 80 (ln 73 4 3),o0 (.store 73 4 (tm 2) (tm 80))] 0 none) []
 (.ret (0 :: 1 :: (rl 3 78 []))))
def A35v10:AC:=(.seq (.seq (.region 14 [o1 7 (sk 0)] 0 none) []
 (.block 6
 (.loop [.cell 3 3 (.pr .str .nil)] (0 :: 4 :: 5 :: 6 :: (rl 8 73 []))
  A35v8))) (7 :: (rl 62 18 []))
 A35v9)
def A35v11:AC:=(.seq (.seq (.region 10 [o1 6 (sk 0)] 0 none) []
 (.block 4
 (.loop [.cell 3 2 (.pr .str .nil)] (0 :: 4 :: 5 :: (rl 7 74 []))
  A35v6))) (6 :: (rl 44 18 []))
 A35v10)
def A35v12:AC:=(.seq (.seq (.region 6 [o1 5 (sk 0)] 0 none) []
 (.block 2
 (.loop [.cell 3 1 (.pr .str .nil)] (0 :: 4 :: (rl 6 75 []))
  A35v4))) (5 :: (rl 26 18 []))
 A35v11)
def A35:AF:=⟨81,[.cell 2 73 (some 4)],
 (.seq (.region 0 [o1 1 (bx 0 28 0),o1 2 (.alloc 1 73 [vcn,vcn,vcn,vcn])] 2 none) []
 (.seq (.region 1 [o1 3 (.alloc 0 73 [vcn,vcn,vcn,vcn])] 1 none) []
 (.seq (.seq (.region 2 [o1 4 (sk 0)] 0 none) []
 (.block 0
 (.loop [.cell 3 0 (.pr .str .nil)] (0 :: (rl 5 76 []))
  A35v2))) (4 :: (rl 8 18 []))
 A35v12)))⟩
def N290v1:St→Option St:=nN 4 (0 :: (rl 5 76 []))
def s290v0:St:=⟨(.u :: .x (.ptr 0 0) :: .x (.ptr 1 0) :: .x (.ptr 2 0) :: vxi i0 :: (us 76 [])),[.box [(vcs w0),(.c (ro kE n0 f0)),(.c (ro kA n1 f1)),(.c (ro kG n2 f2)),(.c (ro kC n3 f3)),(.c (ro kF n4 f4))],.box [(vcn),(vcn),(vcn),(vcn)],.box [(.own 3 0 n5),(vcn),(vcn),(vcn)],.arr (.pr .str .nil) n5 f5]⟩
def s290v1:St:=⟨(.u :: .x (.ptr 0 0) :: .x (.ptr 1 0) :: .x (.ptr 2 0) :: (us 77 [])),[.box [(vcs w0),(.c (ro kE n0 f0)),(.c (ro kA n1 f1)),(.c (ro kG n2 f2)),(.c (ro kC n3 f3)),(.c (ro kF n4 f4))],.box [(vcn),(vcn),(vcn),(vcn)],.box [(.own 3 0 n5),(vcn),(vcn),(vcn)],.arr (.pr .str .nil) n5 f5]⟩
def L290v1 {ρ:Type} (u:Nat) (x0:ByteArray) (x1:Nat) (x2:FF) (x3:Nat) (x4:FF) (x5:Nat) (x6:FF) (x7:Nat) (x8:FF) (x9:Nat) (xA:FF):Nat→Int→Nat→FF→(Nat→FF→Option ρ)→Option ρ
 | 0,_,_,_,_=>none
 | m+1,xB,xC,xD,k0 =>
  (bif (decide (xB<(Int.ofNat x1))) then (bif (inb xB x1) then (bif (Nat.ble (xC+1) 1073741824) then (L290v1 u x0 x1 x2 x3 x4 x5 x6 x7 x8 x9 xA m (w64 (xB+1)) (xC+1) (joinF xC xD (rowsF 1 [(.s (x2 xB.toNat 0).str)])) k0) else none) else none) else (k0 xC xD))
theorem nl290v1:∀ (m:Nat) (x0:Int) (x1:Nat) (x2:FF) (k0:Nat→FF→Option ρ),ob (L290v1 u w0 n0 f0 n1 f1 n2 f2 n3 f3 n4 f4 m x0 x1 x2 k0) ng=L290v1 u w0 n0 f0 n1 f1 n2 f2 n3 f3 n4 f4 m x0 x1 x2 (fun x3 x4=>ob (k0 x3 x4) ng)
 | 0,_,_,_,_=>rfl
 | m+1,x0,x1,x2,k0=>by
  simp only [L290v1,ob_bif,ob_ob,ob_none,nl290v1 m]
theorem q290v1:∀ (m:Nat) (x0:Int) (x1:Nat) (x2:FF),
  loopH (eB A35v2 (C8 u) u) N290v1 m (s290v0 n0 n1 n2 n3 n4 x1 f0 f1 f2 f3 f4 x2 x0 w0) k=L290v1 u w0 n0 f0 n1 f1 n2 f2 n3 f3 n4 f4 m x0 x1 x2 (fun x3 x4=>k (.exit 0) (s290v1 n0 n1 n2 n3 n4 x3 f0 f1 f2 f3 f4 x4 w0))
 | 0,_,_,_=>rfl
 | m+1,x0,x1,x2=>by
  simp only [L290v1,← q290v1 m]
  kernel_rfl
def N290v2:St→Option St:=nN 5 (0 :: 4 :: (rl 6 75 []))
def s290v2:St:=⟨(.u :: .x (.ptr 0 0) :: .x (.ptr 1 0) :: .x (.ptr 2 0) :: .u :: vxi i0 :: (us 75 [])),[.box [(vcs w0),(.c (ro kE n0 f0)),(.c (ro kA n1 f1)),(.c (ro kG n2 f2)),(.c (ro kC n3 f3)),(.c (ro kF n4 f4))],.box [(vcn),(vcn),(vcn),(vcn)],.box [(.own 3 0 n5),(.own 4 0 n6),(vcn),(vcn)],.arr (.pr .str .nil) n5 f5,.arr (.pr .str .nil) n6 f6]⟩
def s290v3:St:=⟨(.u :: .x (.ptr 0 0) :: .x (.ptr 1 0) :: .x (.ptr 2 0) :: (us 77 [])),[.box [(vcs w0),(.c (ro kE n0 f0)),(.c (ro kA n1 f1)),(.c (ro kG n2 f2)),(.c (ro kC n3 f3)),(.c (ro kF n4 f4))],.box [(vcn),(vcn),(vcn),(vcn)],.box [(.own 3 0 n5),(.own 4 0 n6),(vcn),(vcn)],.arr (.pr .str .nil) n5 f5,.arr (.pr .str .nil) n6 f6]⟩
def L290v2 {ρ:Type} (u:Nat) (x0:ByteArray) (x1:Nat) (x2:FF) (x3:Nat) (x4:FF) (x5:Nat) (x6:FF) (x7:Nat) (x8:FF) (x9:Nat) (xA:FF) (xB:Nat) (xC:FF):Nat→Int→Nat→FF→(Nat→FF→Option ρ)→Option ρ
 | 0,_,_,_,_=>none
 | m+1,xD,xE,xF,k0 =>
  (bif (decide (xD<(Int.ofNat x3))) then (bif (inb xD x3) then (bif (Nat.ble (xE+1) 1073741824) then (L290v2 u x0 x1 x2 x3 x4 x5 x6 x7 x8 x9 xA xB xC m (w64 (xD+1)) (xE+1) (joinF xE xF (rowsF 1 [(.s (x4 xD.toNat 0).str)])) k0) else none) else none) else (k0 xE xF))
theorem nl290v2:∀ (m:Nat) (x0:Int) (x1:Nat) (x2:FF) (k0:Nat→FF→Option ρ),ob (L290v2 u w0 n0 f0 n1 f1 n2 f2 n3 f3 n4 f4 n5 f5 m x0 x1 x2 k0) ng=L290v2 u w0 n0 f0 n1 f1 n2 f2 n3 f3 n4 f4 n5 f5 m x0 x1 x2 (fun x3 x4=>ob (k0 x3 x4) ng)
 | 0,_,_,_,_=>rfl
 | m+1,x0,x1,x2,k0=>by
  simp only [L290v2,ob_bif,ob_ob,ob_none,nl290v2 m]
theorem q290v2:∀ (m:Nat) (x0:Int) (x1:Nat) (x2:FF),
  loopH (eB A35v4 (C8 u) u) N290v2 m (s290v2 n0 n1 n2 n3 n4 n5 x1 f0 f1 f2 f3 f4 f5 x2 x0 w0) k=L290v2 u w0 n0 f0 n1 f1 n2 f2 n3 f3 n4 f4 n5 f5 m x0 x1 x2 (fun x3 x4=>k (.exit 2) (s290v3 n0 n1 n2 n3 n4 n5 x3 f0 f1 f2 f3 f4 f5 x4 w0))
 | 0,_,_,_=>rfl
 | m+1,x0,x1,x2=>by
  simp only [L290v2,← q290v2 m]
  kernel_rfl
def N290v3:St→Option St:=nN 6 (0 :: 4 :: 5 :: (rl 7 74 []))
def s290v4:St:=⟨(.u :: .x (.ptr 0 0) :: .x (.ptr 1 0) :: .x (.ptr 2 0) :: .u :: .u :: vxi i0 :: (us 74 [])),[.box [(vcs w0),(.c (ro kE n0 f0)),(.c (ro kA n1 f1)),(.c (ro kG n2 f2)),(.c (ro kC n3 f3)),(.c (ro kF n4 f4))],.box [(vcn),(vcn),(vcn),(vcn)],.box [(.own 3 0 n5),(.own 4 0 n6),(.own 5 0 n7),(vcn)],.arr (.pr .str .nil) n5 f5,.arr (.pr .str .nil) n6 f6,.arr (.pr .str .nil) n7 f7]⟩
def s290v5:St:=⟨(.u :: .x (.ptr 0 0) :: .x (.ptr 1 0) :: .x (.ptr 2 0) :: (us 77 [])),[.box [(vcs w0),(.c (ro kE n0 f0)),(.c (ro kA n1 f1)),(.c (ro kG n2 f2)),(.c (ro kC n3 f3)),(.c (ro kF n4 f4))],.box [(vcn),(vcn),(vcn),(vcn)],.box [(.own 3 0 n5),(.own 4 0 n6),(.own 5 0 n7),(vcn)],.arr (.pr .str .nil) n5 f5,.arr (.pr .str .nil) n6 f6,.arr (.pr .str .nil) n7 f7]⟩
def L290v3 {ρ:Type} (u:Nat) (x0:ByteArray) (x1:Nat) (x2:FF) (x3:Nat) (x4:FF) (x5:Nat) (x6:FF) (x7:Nat) (x8:FF) (x9:Nat) (xA:FF) (xB xC:Nat) (xD xE:FF):Nat→Int→Nat→FF→(Nat→FF→Option ρ)→Option ρ
 | 0,_,_,_,_=>none
 | m+1,xF,xG,xH,k0 =>
  (bif (decide (xF<(Int.ofNat x5))) then (bif (inb xF x5) then (bif (Nat.ble (xG+1) 1073741824) then (L290v3 u x0 x1 x2 x3 x4 x5 x6 x7 x8 x9 xA xB xC xD xE m (w64 (xF+1)) (xG+1) (joinF xG xH (rowsF 1 [(.s (x6 xF.toNat 0).str)])) k0) else none) else none) else (k0 xG xH))
theorem nl290v3:∀ (m:Nat) (x0:Int) (x1:Nat) (x2:FF) (k0:Nat→FF→Option ρ),ob (L290v3 u w0 n0 f0 n1 f1 n2 f2 n3 f3 n4 f4 n5 n6 f5 f6 m x0 x1 x2 k0) ng=L290v3 u w0 n0 f0 n1 f1 n2 f2 n3 f3 n4 f4 n5 n6 f5 f6 m x0 x1 x2 (fun x3 x4=>ob (k0 x3 x4) ng)
 | 0,_,_,_,_=>rfl
 | m+1,x0,x1,x2,k0=>by
  simp only [L290v3,ob_bif,ob_ob,ob_none,nl290v3 m]
theorem q290v3:∀ (m:Nat) (x0:Int) (x1:Nat) (x2:FF),
  loopH (eB A35v6 (C8 u) u) N290v3 m (s290v4 n0 n1 n2 n3 n4 n5 n6 x1 f0 f1 f2 f3 f4 f5 f6 x2 x0 w0) k=L290v3 u w0 n0 f0 n1 f1 n2 f2 n3 f3 n4 f4 n5 n6 f5 f6 m x0 x1 x2 (fun x3 x4=>k (.exit 4) (s290v5 n0 n1 n2 n3 n4 n5 n6 x3 f0 f1 f2 f3 f4 f5 f6 x4 w0))
 | 0,_,_,_=>rfl
 | m+1,x0,x1,x2=>by
  simp only [L290v3,← q290v3 m]
  kernel_rfl
def N290v4:St→Option St:=nN 7 (0 :: 4 :: 5 :: 6 :: (rl 8 73 []))
def s290v6:St:=⟨(.u :: .x (.ptr 0 0) :: .x (.ptr 1 0) :: .x (.ptr 2 0) :: (us 3 (vxi i0 :: (us 73 [])))),[.box [(vcs w0),(.c (ro kE n0 f0)),(.c (ro kA n1 f1)),(.c (ro kG n2 f2)),(.c (ro kC n3 f3)),(.c (ro kF n4 f4))],.box [(vcn),(vcn),(vcn),(vcn)],.box [(.own 3 0 n5),(.own 4 0 n6),(.own 5 0 n7),(.own 6 0 n8)],.arr (.pr .str .nil) n5 f5,.arr (.pr .str .nil) n6 f6,.arr (.pr .str .nil) n7 f7,.arr (.pr .str .nil) n8 f8]⟩
def s290v7:St:=⟨(.u :: .u :: .x (.ptr 1 0) :: .x (.ptr 2 0) :: (us 77 [])),[.box [(vcs w0),(.c (ro kE n0 f0)),(.c (ro kA n1 f1)),(.c (ro kG n2 f2)),(.c (ro kC n3 f3)),(.c (ro kF n4 f4))],.box [(vcn),(vcn),(vcn),(vcn)],.box [(.own 3 0 n5),(.own 4 0 n6),(.own 5 0 n7),(.own 6 0 n8)],.arr (.pr .str .nil) n5 f5,.arr (.pr .str .nil) n6 f6,.arr (.pr .str .nil) n7 f7,.arr (.pr .str .nil) n8 f8]⟩
def L290v4 {ρ:Type} (u:Nat) (x0:ByteArray) (x1:Nat) (x2:FF) (x3:Nat) (x4:FF) (x5:Nat) (x6:FF) (x7:Nat) (x8:FF) (x9:Nat) (xA:FF) (xB xC xD:Nat) (xE xF xG:FF):Nat→Int→Nat→FF→(Nat→FF→Option ρ)→Option ρ
 | 0,_,_,_,_=>none
 | m+1,xH,xI,xJ,k0 =>
  (bif (decide (xH<(Int.ofNat x7))) then (bif (inb xH x7) then (bif (Nat.ble (xI+1) 1073741824) then (L290v4 u x0 x1 x2 x3 x4 x5 x6 x7 x8 x9 xA xB xC xD xE xF xG m (w64 (xH+1)) (xI+1) (joinF xI xJ (rowsF 1 [(.s (x8 xH.toNat 0).str)])) k0) else none) else none) else (k0 xI xJ))
theorem nl290v4:∀ (m:Nat) (x0:Int) (x1:Nat) (x2:FF) (k0:Nat→FF→Option ρ),ob (L290v4 u w0 n0 f0 n1 f1 n2 f2 n3 f3 n4 f4 n5 n6 n7 f5 f6 f7 m x0 x1 x2 k0) ng=L290v4 u w0 n0 f0 n1 f1 n2 f2 n3 f3 n4 f4 n5 n6 n7 f5 f6 f7 m x0 x1 x2 (fun x3 x4=>ob (k0 x3 x4) ng)
 | 0,_,_,_,_=>rfl
 | m+1,x0,x1,x2,k0=>by
  simp only [L290v4,ob_bif,ob_ob,ob_none,nl290v4 m]
theorem q290v4:∀ (m:Nat) (x0:Int) (x1:Nat) (x2:FF),
  loopH (eB A35v8 (C8 u) u) N290v4 m (s290v6 n0 n1 n2 n3 n4 n5 n6 n7 x1 f0 f1 f2 f3 f4 f5 f6 f7 x2 x0 w0) k=L290v4 u w0 n0 f0 n1 f1 n2 f2 n3 f3 n4 f4 n5 n6 n7 f5 f6 f7 m x0 x1 x2 (fun x3 x4=>k (.exit 6) (s290v7 n0 n1 n2 n3 n4 n5 n6 n7 x3 f0 f1 f2 f3 f4 f5 f6 f7 x4 w0))
 | 0,_,_,_=>rfl
 | m+1,x0,x1,x2=>by
  simp only [L290v4,← q290v4 m]
  kernel_rfl
def F290 (x0:ByteArray) (x1:Nat) (x2:FF) (x3:Nat) (x4:FF) (x5:Nat) (x6:FF) (x7:Nat) (x8:FF) (x9:Nat) (xA:FF):Option (Nat × FF × Nat × FF × Nat × FF × Nat × FF) :=
 (L290v1 u x0 x1 x2 x3 x4 x5 x6 x7 x8 x9 xA u 0 0 (fun _ _=>.any)
  (fun xB xC=>(L290v2 u x0 x1 x2 x3 x4 x5 x6 x7 x8 x9 xA xB xC u 0 0 (fun _ _=>.any)
  (fun xD xE=>(L290v3 u x0 x1 x2 x3 x4 x5 x6 x7 x8 x9 xA xB xD xC xE u 0 0 (fun _ _=>.any)
  (fun xF xG=>(L290v4 u x0 x1 x2 x3 x4 x5 x6 x7 x8 x9 xA xB xD xF xC xE xG u 0 0 (fun _ _=>.any)
  (fun xH xI=>(some (xB,xC,xD,xE,xF,xG,xH,xI))))))))))
def s290v8:St:=⟨[.agg [(vcs w0),(.c (ro kE n0 f0)),(.c (ro kA n1 f1)),(.c (ro kG n2 f2)),(.c (ro kC n3 f3)),(.c (ro kF n4 f4))],.x (.ptr 0 0),.x (.ptr 1 0),.x (.ptr 2 0),vxi 0,uu,uu,uu,uu,uu,uu,uu,uu,uu,uu,uu,uu,uu,uu,uu,uu,uu,uu,uu,uu,uu,uu,uu,uu,uu,uu,uu,uu,uu,uu,uu,uu,uu,uu,uu,uu,uu,uu,uu,uu,uu,uu,uu,uu,uu,uu,uu,uu,uu,uu,uu,uu,uu,uu,uu,uu,uu,uu,uu,uu,uu,uu,uu,uu,uu,uu,uu,uu,uu,uu,uu,uu,uu,uu,uu,uu],[.box [(vcs w0),(.c (ro kE n0 f0)),(.c (ro kA n1 f1)),(.c (ro kG n2 f2)),(.c (ro kC n3 f3)),(.c (ro kF n4 f4))],.box [(vcn),(vcn),(vcn),(vcn)],.box [(.own 3 0 0),(vcn),(vcn),(vcn)],.arr (.pr .str .nil) 0 nilF]⟩
theorem t290v1 :
  loopN (eB A35v2 (C8 u) u) N290v1 u (s290v8 n0 n1 n2 n3 n4 f0 f1 f2 f3 f4 w0) k =
  L290v1 u w0 n0 f0 n1 f1 n2 f2 n3 f3 n4 f4 u 0 0 nilF (fun x0 x1=>k (.exit 0) (s290v1 n0 n1 n2 n3 n4 x0 f0 f1 f2 f3 f4 x1 w0)) :=
 Eq.trans (loopN_at (by kernel_rfl)) (q290v1 ..)
def s290v9:St:=⟨(.u :: .x (.ptr 0 0) :: .x (.ptr 1 0) :: .x (.ptr 2 0) :: .u :: vxi 0 :: (us 75 [])),[.box [(vcs w0),(.c (ro kE n0 f0)),(.c (ro kA n1 f1)),(.c (ro kG n2 f2)),(.c (ro kC n3 f3)),(.c (ro kF n4 f4))],.box [(vcn),(vcn),(vcn),(vcn)],.box [(.own 3 0 n5),(.own 4 0 0),(vcn),(vcn)],.arr (.pr .str .nil) n5 f5,.arr (.pr .str .nil) 0 nilF]⟩
theorem g290v2 :
  (kBlk 0 (kSeq (C8 u) u (4 :: (rl 8 18 [])) A35v12 (finish A35))) (.exit 0) (s290v1 n0 n1 n2 n3 n4 n5 f0 f1 f2 f3 f4 f5 w0) =
  (loopN (eB A35v4 (C8 u) u) N290v2 u (s290v9 n0 n1 n2 n3 n4 n5 f0 f1 f2 f3 f4 f5 w0) (kBlk 2 (kSeq (C8 u) u (5 :: (rl 26 18 [])) A35v11 (finish A35)))):=by kernel_rfl
theorem t290v3 :
  loopN (eB A35v4 (C8 u) u) N290v2 u (s290v9 n0 n1 n2 n3 n4 n5 f0 f1 f2 f3 f4 f5 w0) k =
  L290v2 u w0 n0 f0 n1 f1 n2 f2 n3 f3 n4 f4 n5 f5 u 0 0 nilF (fun x0 x1=>k (.exit 2) (s290v3 n0 n1 n2 n3 n4 n5 x0 f0 f1 f2 f3 f4 f5 x1 w0)) :=
 Eq.trans (loopN_at (by kernel_rfl)) (q290v2 ..)
def s290v10:St:=⟨(.u :: .x (.ptr 0 0) :: .x (.ptr 1 0) :: .x (.ptr 2 0) :: .u :: .u :: vxi 0 :: (us 74 [])),[.box [(vcs w0),(.c (ro kE n0 f0)),(.c (ro kA n1 f1)),(.c (ro kG n2 f2)),(.c (ro kC n3 f3)),(.c (ro kF n4 f4))],.box [(vcn),(vcn),(vcn),(vcn)],.box [(.own 3 0 n5),(.own 4 0 n6),(.own 5 0 0),(vcn)],.arr (.pr .str .nil) n5 f5,.arr (.pr .str .nil) n6 f6,.arr (.pr .str .nil) 0 nilF]⟩
theorem g290v4 :
  (kBlk 2 (kSeq (C8 u) u (5 :: (rl 26 18 [])) A35v11 (finish A35))) (.exit 2) (s290v3 n0 n1 n2 n3 n4 n5 n6 f0 f1 f2 f3 f4 f5 f6 w0) =
  (loopN (eB A35v6 (C8 u) u) N290v3 u (s290v10 n0 n1 n2 n3 n4 n5 n6 f0 f1 f2 f3 f4 f5 f6 w0) (kBlk 4 (kSeq (C8 u) u (6 :: (rl 44 18 [])) A35v10 (finish A35)))):=by kernel_rfl
theorem t290v5 :
  loopN (eB A35v6 (C8 u) u) N290v3 u (s290v10 n0 n1 n2 n3 n4 n5 n6 f0 f1 f2 f3 f4 f5 f6 w0) k =
  L290v3 u w0 n0 f0 n1 f1 n2 f2 n3 f3 n4 f4 n5 n6 f5 f6 u 0 0 nilF (fun x0 x1=>k (.exit 4) (s290v5 n0 n1 n2 n3 n4 n5 n6 x0 f0 f1 f2 f3 f4 f5 f6 x1 w0)) :=
 Eq.trans (loopN_at (by kernel_rfl)) (q290v3 ..)
def s290v11:St:=⟨(.u :: .x (.ptr 0 0) :: .x (.ptr 1 0) :: .x (.ptr 2 0) :: (us 3 (vxi 0 :: (us 73 [])))),[.box [(vcs w0),(.c (ro kE n0 f0)),(.c (ro kA n1 f1)),(.c (ro kG n2 f2)),(.c (ro kC n3 f3)),(.c (ro kF n4 f4))],.box [(vcn),(vcn),(vcn),(vcn)],.box [(.own 3 0 n5),(.own 4 0 n6),(.own 5 0 n7),(.own 6 0 0)],.arr (.pr .str .nil) n5 f5,.arr (.pr .str .nil) n6 f6,.arr (.pr .str .nil) n7 f7,.arr (.pr .str .nil) 0 nilF]⟩
theorem g290v6 :
  (kBlk 4 (kSeq (C8 u) u (6 :: (rl 44 18 [])) A35v10 (finish A35))) (.exit 4) (s290v5 n0 n1 n2 n3 n4 n5 n6 n7 f0 f1 f2 f3 f4 f5 f6 f7 w0) =
  (loopN (eB A35v8 (C8 u) u) N290v4 u (s290v11 n0 n1 n2 n3 n4 n5 n6 n7 f0 f1 f2 f3 f4 f5 f6 f7 w0) (kBlk 6 (kSeq (C8 u) u (7 :: (rl 62 18 [])) A35v9 (finish A35)))):=by kernel_rfl
theorem t290v7 :
  loopN (eB A35v8 (C8 u) u) N290v4 u (s290v11 n0 n1 n2 n3 n4 n5 n6 n7 f0 f1 f2 f3 f4 f5 f6 f7 w0) k =
  L290v4 u w0 n0 f0 n1 f1 n2 f2 n3 f3 n4 f4 n5 n6 n7 f5 f6 f7 u 0 0 nilF (fun x0 x1=>k (.exit 6) (s290v7 n0 n1 n2 n3 n4 n5 n6 n7 x0 f0 f1 f2 f3 f4 f5 f6 f7 x1 w0)) :=
 Eq.trans (loopN_at (by kernel_rfl)) (q290v4 ..)
theorem g290v8 :
  (kBlk 6 (kSeq (C8 u) u (7 :: (rl 62 18 [])) A35v9 (finish A35))) (.exit 6) (s290v7 n0 n1 n2 n3 n4 n5 n6 n7 n8 f0 f1 f2 f3 f4 f5 f6 f7 f8 w0) =
  (some [.agg [(ro (.pr .str .nil) n5 f5),(ro (.pr .str .nil) n6 f6),(ro (.pr .str .nil) n7 f7),(ro (.pr .str .nil) n8 f8)]]):=by kernel_rfl
theorem e290:evalF (C8 u) u A35 [.agg [(.s w0),(ro kE n0 f0),(ro kA n1 f1),(ro kG n2 f2),(ro kC n3 f3),(ro kF n4 f4)]]=ob (F290 u w0 n0 f0 n1 f1 n2 f2 n3 f3 n4 f4) fun t=>some [.agg [(ro (.pr .str .nil) t.1 t.2.1),(ro (.pr .str .nil) t.2.2.1 t.2.2.2.1),(ro (.pr .str .nil) t.2.2.2.2.1 t.2.2.2.2.2.1),(ro (.pr .str .nil) t.2.2.2.2.2.2.1 t.2.2.2.2.2.2.2)]]:=Eq.trans (b:=(loopN (eB A35v2 (C8 u) u) N290v1 u (s290v8 n0 n1 n2 n3 n4 f0 f1 f2 f3 f4 w0) (kBlk 0 (kSeq (C8 u) u (4 :: (rl 8 18 [])) A35v12 (finish A35))))) (by kernel_rfl) (by
 simp only [F290,ob_bif,ob_ob,ob_none,ob_some,nl290v1,nl290v2,nl290v3,nl290v4,t290v1,g290v2,t290v3,g290v4,t290v5,g290v6,t290v7,g290v8])
def O290:Ora:=mkO (q1 (ag (tc cS (tc (cL kE) (tc (cL kA) (tc (cL kG) (tc (cL kC) (t1 (cL kF))))))))) (fun x=>F290 u x.1 x.2.1.1 x.2.1.2 x.2.2.1.1 x.2.2.1.2 x.2.2.2.1.1 x.2.2.2.1.2 x.2.2.2.2.1.1 x.2.2.2.2.1.2 x.2.2.2.2.2.1 x.2.2.2.2.2.2) fun t=>[.agg [(ro (.pr .str .nil) t.1 t.2.1),(ro (.pr .str .nil) t.2.2.1 t.2.2.2.1),(ro (.pr .str .nil) t.2.2.2.2.1 t.2.2.2.2.2.1),(ro (.pr .str .nil) t.2.2.2.2.2.2.1 t.2.2.2.2.2.2.2)]]
theorem d290:DO (O290 u) (C8 u) 35 A35:=dO u (fun x=>by exact e290 u x.2.1.1 x.2.2.1.1 x.2.2.2.1.1 x.2.2.2.2.1.1 x.2.2.2.2.2.1 x.2.1.2 x.2.2.1.2 x.2.2.2.1.2 x.2.2.2.2.1.2 x.2.2.2.2.2.2 x.1)
def C9:Oracle:=(C8 u).add 35 (fun _=>true) (O290 u)
def A36v1:AC:=(.region 3 [mv 8 3,o1 9 (bk .add 3 8 1),o1 3 (sg 9)] 0 none)
def A36v2:AC:=(.seq (.block 1
 (.seq (.region 4 [mv 10 0,mv 11 3,o1 12 (bk .sub 3 11 1),o1 13 (.indexAddr 37 9 1 (tm 10) (tm 12)),o1 14 (lo 9 13),mv 15 0,mv 16 3,o1 17 (.indexAddr 37 9 1 (tm 15) (tm 16)),o1 18 (lo 9 17),o1 19 (bt .geq 9 14 18)] 0 (some [[],[],[1],[0,1,2],(rl 0 4 []),[],[],[5,6],[5,6,7],(rl 0 9 [])])) []
  (.cond (tm 19)
  (.seq (.region 5 [o1 2 (sb false)] 0 none) []
   (.ret (0 :: 1 :: (rl 3 17 []))))
  .skip))) (2 :: (rl 10 10 []))
 A36v1)
def A36v3:AC:=(.seq (.seq (.region 2 [mv 4 3,mv 5 0,o1 6 (.len 37 false (tm 5)),o1 7 (bt .lss 3 4 6)] 0 none) []
 (.cond (tm 7)
 .skip
 (.exit 0 (rl 0 20 [])))) (rl 4 4 [])
 A36v2)
def A36v4:AC:=(.seq (.region 6 [o1 2 (sb true)] 0 none) []
 (.ret (0 :: 1 :: (rl 3 17 []))))
def A36:AF:=⟨20,[.tmp 2],
 (.seq (.region 0 [o1 2 (sb false)] 0 none) []
 (.seq (.seq (.region 1 [o1 3 (sk 1)] 0 none) []
 (.block 0
 (.loop [] (1 :: 2 :: (rl 4 16 []))
  A36v3))) (rl 2 18 [])
 A36v4))⟩
def N291v1:St→Option St:=nN 0 (1 :: 2 :: (rl 4 16 []))
def s291v0:St:=⟨(.x (.c (ro (.pr .str .nil) n0 f0)) :: .u :: .u :: vxi i0 :: (us 16 [])),[]⟩
def s291v1:St:=⟨(.u :: .u :: vxb false :: (us 17 [])),[]⟩
def s291v2:St:=⟨(us 20 []),[]⟩
def L291v1 {ρ:Type} (u:Nat) (x0:Nat) (x1:FF):Nat→Int→(Option ρ)→(Option ρ)→Option ρ
 | 0,_,_,_=>none
 | m+1,x2,k0,k1 =>
  (bif (decide (x2<(Int.ofNat x0))) then (bif (inb (w64 (x2-1)) x0) then (bif (inb x2 x0) then (bif (!(Op.bytesLess (ByteArray.toList (CV.str (x1 (Int.toNat (w64 (x2-1))) 0))) (ByteArray.toList (x1 x2.toNat 0).str))) then k0 else (L291v1 u x0 x1 m (w64 (x2+1)) k0 k1)) else none) else none) else k1)
theorem nl291v1:∀ (m:Nat) (x0:Int) (k0:Option ρ) (k1:Option ρ),ob (L291v1 u n0 f0 m x0 k0 k1) ng=L291v1 u n0 f0 m x0 (ob k0 ng) (ob k1 ng)
 | 0,_,_,_=>rfl
 | m+1,x0,k0,k1=>by
  simp only [L291v1,ob_bif,ob_ob,ob_none,nl291v1 m]
theorem q291v1:∀ (m:Nat) (x0:Int),
  loopH (eB A36v3 (C9 u) u) N291v1 m (s291v0 n0 f0 x0) k=L291v1 u n0 f0 m x0 (k .ret s291v1) (k (.exit 0) s291v2)
 | 0,_=>rfl
 | m+1,x0=>by
  simp only [L291v1,← q291v1 m]
  kernel_rfl
def F291 (x0:Nat) (x1:FF):Option (Bool) :=
 (L291v1 u x0 x1 u 1
  (some false)
  (some true))
def s291v3:St:=⟨[.x (.c (ro (.pr .str .nil) n0 f0)),uu,vxb false,vxi 1,uu,uu,uu,uu,uu,uu,uu,uu,uu,uu,uu,uu,uu,uu,uu,uu],[]⟩
theorem t291v1 :
  loopN (eB A36v3 (C9 u) u) N291v1 u (s291v3 n0 f0) k =
  L291v1 u n0 f0 u 1 (k .ret s291v1) (k (.exit 0) s291v2) :=
 Eq.trans (loopN_at (by kernel_rfl)) (q291v1 ..)
theorem g291v2 :
  (kBlk 0 (kSeq (C9 u) u (rl 2 18 []) A36v4 (finish A36))) .ret s291v1 =
  (some [.v (.b false)]):=by kernel_rfl
theorem g291v3 :
  (kBlk 0 (kSeq (C9 u) u (rl 2 18 []) A36v4 (finish A36))) (.exit 0) s291v2 =
  (some [.v (.b true)]):=by kernel_rfl
theorem e291:evalF (C9 u) u A36 [.v (ro (.pr .str .nil) n0 f0)]=ob (F291 u n0 f0) fun t=>some [.v (.b t)]:=Eq.trans (b:=(loopN (eB A36v3 (C9 u) u) N291v1 u (s291v3 n0 f0) (kBlk 0 (kSeq (C9 u) u (rl 2 18 []) A36v4 (finish A36))))) (by kernel_rfl) (by
 simp only [F291,ob_bif,ob_ob,ob_none,ob_some,nl291v1,t291v1,g291v2,g291v3])
def O291:Ora:=mkO (q1 (av (cL (.pr .str .nil)))) (fun x=>F291 u x.1 x.2) fun t=>[.v (.b t)]
theorem d291:DO (O291 u) (C9 u) 36 A36:=dO u (fun x=>by exact e291 u x.1 x.2)
def C10:Oracle:=(C9 u).add 36 (fun _=>true) (O291 u)
def A37v1:AC:=(.seq (.region 5 [o1 25 (fa 49 2 2 2),o1 26 (lo 9 25),o1 27 (fa 49 3 2 2),o1 28 (lo 9 27),o1 29 (bt .lss 9 26 28),o1 4 (sg 29)] 0 none) []
 (.ret (rl 0 4 (rl 5 25 []))))
def A37v2:AC:=(.seq (.seq (.region 3 [o1 15 (fa 49 2 1 1),o1 16 (lo 9 15),o1 17 (fa 49 3 1 1),o1 18 (lo 9 17),o1 19 (bt .neq 9 16 18)] 0 none) []
 (.cond (tm 19)
 (.seq (.region 4 [o1 20 (fa 49 2 1 1),o1 21 (lo 9 20),o1 22 (fa 49 3 1 1),o1 23 (lo 9 22),o1 24 (bt .lss 9 21 23),o1 4 (sg 24)] 0 none) []
  (.ret (rl 0 4 (rl 5 25 []))))
 .skip)) (4 :: (rl 15 10 []))
 A37v1)
def A37:AF:=⟨30,[.tmp 4],
 (.seq (.region 0 [o1 2 (bx 0 49 0),o1 3 (bx 1 49 1),o1 4 (sb false)] 2 none) []
 (.seq (.seq (.region 1 [o1 5 (fa 49 2 0 0),o1 6 (lo 3 5),o1 7 (fa 49 3 0 0),o1 8 (lo 3 7),o1 9 (bt .neq 3 6 8)] 0 none) []
 (.cond (tm 9)
 (.seq (.region 2 [o1 10 (fa 49 2 0 0),o1 11 (lo 3 10),o1 12 (fa 49 3 0 0),o1 13 (lo 3 12),o1 14 (bt .lss 3 11 13),o1 4 (sg 14)] 0 none) []
  (.ret (rl 0 4 (rl 5 25 []))))
 .skip)) (rl 4 11 [])
 A37v2))⟩
def F292 (u:Nat) (x0:Int) (x1 x2:ByteArray) (x3:Int) (x4 x5:ByteArray):Option (Bool) :=
 (bif (x0 != x3) then (some (decide (x0<x3))) else (bif (!(ByteArray.toList x1==ByteArray.toList x4)) then (some (Op.bytesLess (ByteArray.toList x1) (ByteArray.toList x4))) else (some (Op.bytesLess (ByteArray.toList x2) (ByteArray.toList x5)))))
theorem e292:evalF (C10 u) u A37 [.agg [(vi i0),(.s w0),(.s w1)],.agg [(vi i1),(.s w2),(.s w3)]]=ob (F292 u i0 w0 w1 i1 w2 w3) fun t=>some [.v (.b t)]:=by
 simp only [F292,ob_bif,ob_ob,ob_none,ob_some]
 kernel_rfl
def O292:Ora:=mkO (qc (ag (tc ci (tc cS (t1 cS)))) (q1 (ag (tc ci (tc cS (t1 cS)))))) (fun x=>F292 u x.1.1 x.1.2.1 x.1.2.2 x.2.1 x.2.2.1 x.2.2.2) fun t=>[.v (.b t)]
theorem d292:DO (O292 u) (C10 u) 37 A37:=dO u (fun x=>by exact e292 u x.1.1 x.2.1 x.1.2.1 x.1.2.2 x.2.2.1 x.2.2.2)
def C11:Oracle:=(C10 u).add 37 (fun _=>true) (O292 u)
def A38v1:AC:=(.region 3 [mv 10 5,o1 11 (bk .add 3 10 1),o1 5 (sg 11)] 0 none)
def A38v2:AC:=(.seq (.block 1
 (.seq (.region 4 [mv 12 0,mv 13 5,o1 14 (.indexAddr 37 9 1 (tm 12) (tm 13)),o1 15 (lo 9 14),mv 16 1,o1 17 (bt .eql 9 15 16)] 0 none) []
  (.cond (tm 17)
  (.seq (.region 5 [o1 4 (sb true)] 0 none) []
   (.ret (rl 0 4 (rl 5 13 []))))
  .skip))) (4 :: (rl 12 6 []))
 A38v1)
def A38v3:AC:=(.seq (.seq (.region 2 [mv 6 5,mv 7 0,o1 8 (.len 37 false (tm 7)),o1 9 (bt .lss 3 6 8)] 0 none) []
 (.cond (tm 9)
 .skip
 (.exit 0 (rl 0 18 [])))) (rl 6 4 [])
 A38v2)
def A38v4:AC:=(.seq (.region 6 [o1 4 (sb false)] 0 none) []
 (.ret (rl 0 4 (rl 5 13 []))))
def A38:AF:=⟨18,[.tmp 4],
 (.seq (.region 0 [o1 4 (sb false)] 0 none) []
 (.seq (.seq (.region 1 [o1 5 (sk 0)] 0 none) []
 (.block 0
 (.loop [] (2 :: 3 :: 4 :: (rl 6 12 []))
  A38v3))) (rl 4 14 [])
 A38v4))⟩
def N264v1:St→Option St:=nN 0 (2 :: 3 :: 4 :: (rl 6 12 []))
def s264v0:St:=⟨(.x (.c (ro (.pr .str .nil) n0 f0)) :: vxs w0 :: (us 3 (vxi i0 :: (us 12 [])))),[]⟩
def s264v1:St:=⟨(us 4 (vxb true :: (us 13 []))),[]⟩
def s264v2:St:=⟨(us 18 []),[]⟩
def L264v1 {ρ:Type} (u:Nat) (x0:Nat) (x1:FF) (x2:ByteArray):Nat→Int→(Option ρ)→(Option ρ)→Option ρ
 | 0,_,_,_=>none
 | m+1,x3,k0,k1 =>
  (bif (decide (x3<(Int.ofNat x0))) then (bif (inb x3 x0) then (bif (ByteArray.toList (x1 x3.toNat 0).str==ByteArray.toList x2) then k0 else (L264v1 u x0 x1 x2 m (w64 (x3+1)) k0 k1)) else none) else k1)
theorem nl264v1:∀ (m:Nat) (x0:Int) (k0:Option ρ) (k1:Option ρ),ob (L264v1 u n0 f0 w0 m x0 k0 k1) ng=L264v1 u n0 f0 w0 m x0 (ob k0 ng) (ob k1 ng)
 | 0,_,_,_=>rfl
 | m+1,x0,k0,k1=>by
  simp only [L264v1,ob_bif,ob_ob,ob_none,nl264v1 m]
theorem q264v1:∀ (m:Nat) (x0:Int),
  loopH (eB A38v3 (C11 u) u) N264v1 m (s264v0 n0 f0 x0 w0) k=L264v1 u n0 f0 w0 m x0 (k .ret s264v1) (k (.exit 0) s264v2)
 | 0,_=>rfl
 | m+1,x0=>by
  simp only [L264v1,← q264v1 m]
  kernel_rfl
def F264 (x0:Nat) (x1:FF) (x2:ByteArray):Option (Bool) :=
 (L264v1 u x0 x1 x2 u 0
  (some true)
  (some false))
def s264v3:St:=⟨[.x (.c (ro (.pr .str .nil) n0 f0)),vxs w0,uu,uu,vxb false,vxi 0,uu,uu,uu,uu,uu,uu,uu,uu,uu,uu,uu,uu],[]⟩
theorem t264v1 :
  loopN (eB A38v3 (C11 u) u) N264v1 u (s264v3 n0 f0 w0) k =
  L264v1 u n0 f0 w0 u 0 (k .ret s264v1) (k (.exit 0) s264v2) :=
 Eq.trans (loopN_at (by kernel_rfl)) (q264v1 ..)
theorem g264v2 :
  (kBlk 0 (kSeq (C11 u) u (rl 4 14 []) A38v4 (finish A38))) .ret s264v1 =
  (some [.v (.b true)]):=by kernel_rfl
theorem g264v3 :
  (kBlk 0 (kSeq (C11 u) u (rl 4 14 []) A38v4 (finish A38))) (.exit 0) s264v2 =
  (some [.v (.b false)]):=by kernel_rfl
theorem e264:evalF (C11 u) u A38 [.v (ro (.pr .str .nil) n0 f0),.v (.s w0)]=ob (F264 u n0 f0 w0) fun t=>some [.v (.b t)]:=Eq.trans (b:=(loopN (eB A38v3 (C11 u) u) N264v1 u (s264v3 n0 f0 w0) (kBlk 0 (kSeq (C11 u) u (rl 4 14 []) A38v4 (finish A38))))) (by kernel_rfl) (by
 simp only [F264,ob_bif,ob_ob,ob_none,ob_some,nl264v1,t264v1,g264v2,g264v3])
def O264:Ora:=mkO (qc (av (cL (.pr .str .nil))) (q1 (av cS))) (fun x=>F264 u x.1.1 x.1.2 x.2) fun t=>[.v (.b t)]
theorem d264:DO (O264 u) (C11 u) 38 A38:=dO u (fun x=>by exact e264 u x.1.1 x.1.2 x.2)
def C12:Oracle:=(C11 u).add 38 (fun _=>true) (O264 u)
def A15v1:AC:=(.region 8 [mv 45 4,o1 46 (bk .add 3 45 1),o1 4 (sg 46)] 0 none)
def A15v2:AC:=(.seq (.block 1
 (.seq (.region 9 [mv 47 4,o1 48 (.indexAddrR 73 37 4 1 (tm 3) (tm 47)),o1 49 (.loadR 37 (.sl (.pr .str .nil)) (tm 48)),o1 50 (cs 36 [49] [37]),o1 51 (.unOp .not 4 (tm 50))] 0 none) []
  (.cond (tm 51)
  (.seq (.region 10 [o1 2 (sk 11)] 0 none) []
   (.ret (0 :: 1 :: (rl 3 96 []))))
  .skip))) (2 :: (rl 47 5 []))
 A15v1)
def A15v3:AC:=(.seq (.seq (.region 7 [mv 43 4,o1 44 (bk .lss 3 43 4)] 0 none) []
 (.cond (tm 44)
 .skip
 (.exit 0 (0 :: 2 :: (rl 4 95 []))))) [43,44]
 A15v2)
def A15v4:AC:=(.region 13 [mv 57 5,o1 58 (bk .add 3 57 1),o1 5 (sg 58)] 0 none)
def A15v5:AC:=(.seq (.block 3
 (.seq (.region 14 [o1 59 (fa 28 1 5 5),o1 60 (lo 26 59),mv 61 5,o1 62 (bk .sub 3 61 1),o1 63 (.indexAddr 26 49 3 (tm 60) (tm 62)),o1 64 (ln 49 3 63),o1 65 (fa 28 1 5 5),o1 66 (lo 26 65),mv 67 5,o1 68 (.indexAddr 26 49 3 (tm 66) (tm 67)),o1 69 (ln 49 3 68),o1 70 (cs 37 [64,69] [49,49]),o1 71 (.unOp .not 4 (tm 70))] 0 (some [[],[0],[],[2],(rl 0 4 []),(rl 0 5 []),[],[6],[],[6,7,8],(rl 6 4 []),(rl 0 11 []),(rl 0 12 [])])) []
  (.cond (tm 71)
  (.seq (.region 15 [o1 2 (sk 11)] 0 none) []
   (.ret (0 :: 1 :: (rl 3 96 []))))
  .skip))) (2 :: (rl 59 13 []))
 A15v4)
def A15v6:AC:=(.seq (.seq (.region 12 [mv 52 5,o1 53 (fa 28 1 5 5),o1 54 (lo 26 53),o1 55 (.len 26 false (tm 54)),o1 56 (bt .lss 3 52 55)] 0 none) []
 (.cond (tm 56)
 .skip
 (.exit 2 (0 :: 1 :: 2 :: (rl 4 95 []))))) (rl 52 5 [])
 A15v5)
def A15v7:AC:=(.region 24 [mv 87 8,o1 88 (bk .add 3 87 1),o1 8 (sg 88)] 0 none)
def A15v8:AC:=(.seq (.block 9
 (.seq (.region 25 [mv 89 7,o1 90 (.indexAddrR 73 37 4 1 (tm 3) (tm 89)),o1 91 (.loadR 37 (.sl (.pr .str .nil)) (tm 90)),mv 92 6,o1 93 (.indexAddrR 73 37 4 1 (tm 3) (tm 92)),o1 94 (.loadR 37 (.sl (.pr .str .nil)) (tm 93)),mv 95 8,o1 96 (.indexAddr 37 9 1 (tm 94) (tm 95)),o1 97 (lo 9 96),o1 98 (cs 38 [91,97] [37,9])] 0 (some [[],[0],[0,1],[],[3],[3,4],[],(rl 3 4 []),(rl 3 5 []),(rl 0 9 [])])) []
  (.cond (tm 98)
  (.seq (.region 26 [o1 2 (sk 7)] 0 none) []
   (.ret (0 :: 1 :: (rl 3 96 []))))
  .skip))) (2 :: (rl 89 10 []))
 A15v7)
def A15v9:AC:=(.seq (.seq (.region 23 [mv 81 8,mv 82 6,o1 83 (.indexAddrR 73 37 4 1 (tm 3) (tm 82)),o1 84 (.loadR 37 (.sl (.pr .str .nil)) (tm 83)),o1 85 (.len 37 false (tm 84)),o1 86 (bt .lss 3 81 85)] 0 none) []
 (.cond (tm 86)
 .skip
 (.exit 8 (0 :: 1 :: 2 :: 4 :: 5 :: (rl 8 91 []))))) (rl 81 6 [])
 A15v8)
def A15v10:AC:=(.region 21 [mv 79 7,o1 80 (bk .add 3 79 1),o1 7 (sg 80)] 0 none)
def A15v11:AC:=(.seq (.block 7
 (.seq (.region 22 [o1 8 (sk 0)] 0 none) []
  (.block 8
  (.loop [] (0 :: 1 :: 2 :: 4 :: 5 :: (rl 9 90 []))
   A15v9)))) (2 :: 8 :: (rl 81 18 []))
 A15v10)
def A15v12:AC:=(.seq (.seq (.region 20 [mv 76 7,mv 77 6,o1 78 (bt .lss 3 76 77)] 0 none) []
 (.cond (tm 78)
 .skip
 (.exit 6 (0 :: 1 :: 2 :: 4 :: 5 :: (rl 7 92 []))))) [76,77,78]
 A15v11)
def A15v13:AC:=(.region 18 [mv 74 6,o1 75 (bk .add 3 74 1),o1 6 (sg 75)] 0 none)
def A15v14:AC:=(.seq (.block 5
 (.seq (.region 19 [o1 7 (sk 0)] 0 none) []
  (.block 6
  (.loop [] (0 :: 1 :: 2 :: 4 :: 5 :: (rl 8 91 []))
   A15v12)))) (2 :: 7 :: 8 :: (rl 76 23 []))
 A15v13)
def A15v15:AC:=(.seq (.seq (.region 17 [mv 72 6,o1 73 (bk .lss 3 72 4)] 0 none) []
 (.cond (tm 73)
 .skip
 (.exit 4 (rl 0 99 [])))) [72,73]
 A15v14)
def A15v16:AC:=(.seq (.region 27 [o1 2 (sk 0)] 0 none) []
 (.ret (0 :: 1 :: (rl 3 96 []))))
def A15v17:AC:=(.seq (.seq (.region 16 [o1 6 (sk 0)] 0 none) []
 (.block 4
 (.loop [] (0 :: 1 :: 2 :: 4 :: 5 :: (rl 7 92 []))
  A15v15))) (2 :: 6 :: 7 :: 8 :: (rl 72 27 []))
 A15v16)
def A15v18:AC:=(.seq (.seq (.region 11 [o1 5 (sk 1)] 0 none) []
 (.block 2
 (.loop [] (0 :: 2 :: 4 :: (rl 6 93 []))
  A15v6))) (2 :: 5 :: (rl 52 20 []))
 A15v17)
def A15v19:AC:=(.seq (.region 5 [o1 41 (ln 28 6 1),o1 42 (cf 35 [41] [28]),o1 3 (.allocA 0 73 kB [(.ro true (.pr .str .nil) 0 nilF),(.ro true (.pr .str .nil) 0 nilF),(.ro true (.pr .str .nil) 0 nilF),(.ro true (.pr .str .nil) 0 nilF)]),o0 (.store 73 4 (tm 3) (tm 42))] 1 none) []
 (.seq (.seq (.region 6 [o1 4 (sk 0)] 0 none) []
 (.block 0
 (.loop [] (0 :: 2 :: (rl 5 94 []))
  A15v3))) (2 :: 4 :: (rl 43 9 []))
 A15v18))
def A15v20:AC:=(.seq (.seq (.region 3 [o1 13 (fa 28 1 1 1),o1 14 (lo 22 13),o1 15 (.len 22 false (tm 14)),o1 16 (bk .gtr 3 15 64),mv 17 16,og 18 (fa 28 1 2 2) 17 false,og 19 (lo 23 18) 17 false,og 20 (.len 23 false (tm 19)) 17 false,og 21 (bk .gtr 3 20 256) 17 false,o1 22 (pa 17 21),mv 23 22,og 24 (fa 28 1 3 3) 23 false,og 25 (lo 24 24) 23 false,og 26 (.len 24 false (tm 25)) 23 false,og 27 (bk .gtr 3 26 256) 23 false,o1 28 (pa 23 27),mv 29 28,og 30 (fa 28 1 4 4) 29 false,og 31 (lo 25 30) 29 false,og 32 (.len 25 false (tm 31)) 29 false,og 33 (bk .gtr 3 32 64) 29 false,o1 34 (pa 29 33),mv 35 34,og 36 (fa 28 1 5 5) 35 false,og 37 (lo 26 36) 35 false,og 38 (.len 26 false (tm 37)) 35 false,og 39 (bk .gtr 3 38 256) 35 false,o1 40 (pa 35 39)] 0 none) []
 (.cond (tm 40)
 (.seq (.region 4 [o1 2 (sk 4)] 0 none) []
  (.ret (0 :: 1 :: (rl 3 96 []))))
 .skip)) (2 :: (rl 13 28 []))
 A15v19)
def A15:AF:=⟨99,[.tmp 2],
 (.seq (.region 0 [o1 1 (bx 0 28 0),o1 2 (sk 0)] 1 none) []
 (.seq (.seq (.region 1 [o1 9 (fa 28 1 0 0),o1 10 (lo 9 9),o1 11 (cs 33 [10] [9]),o1 12 (.unOp .not 4 (tm 11))] 0 none) []
 (.cond (tm 12)
 (.seq (.region 2 [o1 2 (sk 6)] 0 none) []
  (.ret (0 :: 1 :: (rl 3 96 []))))
 .skip)) (2 :: (rl 9 4 []))
 A15v20))⟩
def N293v1:St→Option St:=nN 2 (0 :: 2 :: (rl 5 94 []))
def s293v0:St:=⟨(.u :: .x (.ptr 0 0) :: .u :: .x (.aptr 1 0 0) :: vxi i0 :: (us 94 [])),[.box [(vcs w0),(.c (ro kE n0 f0)),(.c (ro kA n1 f1)),(.c (ro kG n2 f2)),(.c (ro kC n3 f3)),(.c (ro kF n4 f4))],.arr kB 1 f5]⟩
def s293v1:St:=⟨(.u :: .u :: vxi 11 :: (us 96 [])),[.box [(vcs w0),(.c (ro kE n0 f0)),(.c (ro kA n1 f1)),(.c (ro kG n2 f2)),(.c (ro kC n3 f3)),(.c (ro kF n4 f4))],.arr kB 1 f5]⟩
def s293v2:St:=⟨(.u :: .x (.ptr 0 0) :: .u :: .x (.aptr 1 0 0) :: (us 95 [])),[.box [(vcs w0),(.c (ro kE n0 f0)),(.c (ro kA n1 f1)),(.c (ro kG n2 f2)),(.c (ro kC n3 f3)),(.c (ro kF n4 f4))],.arr kB 1 f5]⟩
def L293v1 {ρ:Type} (u:Nat) (x0:ByteArray) (x1:Nat) (x2:FF) (x3:Nat) (x4:FF) (x5:Nat) (x6:FF) (x7:Nat) (x8:FF) (x9:Nat) (xA xB:FF):Nat→Int→(Option ρ)→(Option ρ)→Option ρ
 | 0,_,_,_=>none
 | m+1,xC,k0,k1 =>
  (bif (decide (xC<4)) then (bif (inb xC 4) then (bif (Nat.blt (0+xC.toNat*1) 4) then (ob (F291 u (xB 0 (0+xC.toNat*1)).len (xB 0 (0+xC.toNat*1)).el) fun xD=>(bif (!xD) then k0 else (L293v1 u x0 x1 x2 x3 x4 x5 x6 x7 x8 x9 xA xB m (w64 (xC+1)) k0 k1))) else none) else none) else k1)
theorem nl293v1:∀ (m:Nat) (x0:Int) (k0:Option ρ) (k1:Option ρ),ob (L293v1 u w0 n0 f0 n1 f1 n2 f2 n3 f3 n4 f4 f5 m x0 k0 k1) ng=L293v1 u w0 n0 f0 n1 f1 n2 f2 n3 f3 n4 f4 f5 m x0 (ob k0 ng) (ob k1 ng)
 | 0,_,_,_=>rfl
 | m+1,x0,k0,k1=>by
  simp only [L293v1,ob_bif,ob_ob,ob_none,nl293v1 m]
theorem q293v1:∀ (m:Nat) (x0:Int),
  loopH (eB A15v3 (C12 u) u) N293v1 m (s293v0 n0 n1 n2 n3 n4 f0 f1 f2 f3 f4 f5 x0 w0) k=L293v1 u w0 n0 f0 n1 f1 n2 f2 n3 f3 n4 f4 f5 m x0 (k .ret (s293v1 n0 n1 n2 n3 n4 f0 f1 f2 f3 f4 f5 w0)) (k (.exit 0) (s293v2 n0 n1 n2 n3 n4 f0 f1 f2 f3 f4 f5 w0))
 | 0,_=>rfl
 | m+1,x0=>by
  simp only [L293v1,← q293v1 m]
  kernel_rfl
def N293v2:St→Option St:=nN 2 (0 :: 2 :: 4 :: (rl 6 93 []))
def s293v3:St:=⟨(.u :: .x (.ptr 0 0) :: .u :: .x (.aptr 1 0 0) :: .u :: vxi i0 :: (us 93 [])),[.box [(vcs w0),(.c (ro kE n0 f0)),(.c (ro kA n1 f1)),(.c (ro kG n2 f2)),(.c (ro kC n3 f3)),(.c (ro kF n4 f4))],.arr kB 1 f5]⟩
def s293v4:St:=⟨(.u :: .u :: vxi 11 :: (us 96 [])),[.box [(vcs w0),(.c (ro kE n0 f0)),(.c (ro kA n1 f1)),(.c (ro kG n2 f2)),(.c (ro kC n3 f3)),(.c (ro kF n4 f4))],.arr kB 1 f5]⟩
def s293v5:St:=⟨(us 3 (.x (.aptr 1 0 0) :: (us 95 []))),[.box [(vcs w0),(.c (ro kE n0 f0)),(.c (ro kA n1 f1)),(.c (ro kG n2 f2)),(.c (ro kC n3 f3)),(.c (ro kF n4 f4))],.arr kB 1 f5]⟩
def L293v2 {ρ:Type} (u:Nat) (x0:ByteArray) (x1:Nat) (x2:FF) (x3:Nat) (x4:FF) (x5:Nat) (x6:FF) (x7:Nat) (x8:FF) (x9:Nat) (xA xB:FF):Nat→Int→(Option ρ)→(Option ρ)→Option ρ
 | 0,_,_,_=>none
 | m+1,xC,k0,k1 =>
  (bif (decide (xC<(Int.ofNat x9))) then (bif (inb (w64 (xC-1)) x9) then (bif (inb xC x9) then (ob (F292 u (CV.int (xA (Int.toNat (w64 (xC-1))) 0)) (CV.str (xA (Int.toNat (w64 (xC-1))) 1)) (CV.str (xA (Int.toNat (w64 (xC-1))) 2)) (xA xC.toNat 0).int (xA xC.toNat 1).str (xA xC.toNat 2).str) fun xD=>(bif (!xD) then k0 else (L293v2 u x0 x1 x2 x3 x4 x5 x6 x7 x8 x9 xA xB m (w64 (xC+1)) k0 k1))) else none) else none) else k1)
theorem nl293v2:∀ (m:Nat) (x0:Int) (k0:Option ρ) (k1:Option ρ),ob (L293v2 u w0 n0 f0 n1 f1 n2 f2 n3 f3 n4 f4 f5 m x0 k0 k1) ng=L293v2 u w0 n0 f0 n1 f1 n2 f2 n3 f3 n4 f4 f5 m x0 (ob k0 ng) (ob k1 ng)
 | 0,_,_,_=>rfl
 | m+1,x0,k0,k1=>by
  simp only [L293v2,ob_bif,ob_ob,ob_none,nl293v2 m]
theorem q293v2:∀ (m:Nat) (x0:Int),
  loopH (eB A15v6 (C12 u) u) N293v2 m (s293v3 n0 n1 n2 n3 n4 f0 f1 f2 f3 f4 f5 x0 w0) k=L293v2 u w0 n0 f0 n1 f1 n2 f2 n3 f3 n4 f4 f5 m x0 (k .ret (s293v4 n0 n1 n2 n3 n4 f0 f1 f2 f3 f4 f5 w0)) (k (.exit 2) (s293v5 n0 n1 n2 n3 n4 f0 f1 f2 f3 f4 f5 w0))
 | 0,_=>rfl
 | m+1,x0=>by
  simp only [L293v2,← q293v2 m]
  kernel_rfl
def N293v5:St→Option St:=nN 2 (0 :: 1 :: 2 :: 4 :: 5 :: (rl 9 90 []))
def s293v6:St:=⟨(us 3 (.x (.aptr 1 0 0) :: .u :: .u :: vxi i0 :: vxi i1 :: vxi i2 :: (us 90 []))),[.box [(vcs w0),(.c (ro kE n0 f0)),(.c (ro kA n1 f1)),(.c (ro kG n2 f2)),(.c (ro kC n3 f3)),(.c (ro kF n4 f4))],.arr kB 1 f5]⟩
def s293v7:St:=⟨(.u :: .u :: vxi 7 :: (us 96 [])),[.box [(vcs w0),(.c (ro kE n0 f0)),(.c (ro kA n1 f1)),(.c (ro kG n2 f2)),(.c (ro kC n3 f3)),(.c (ro kF n4 f4))],.arr kB 1 f5]⟩
def s293v8:St:=⟨(us 3 (.x (.aptr 1 0 0) :: .u :: .u :: vxi i0 :: vxi i1 :: (us 91 []))),[.box [(vcs w0),(.c (ro kE n0 f0)),(.c (ro kA n1 f1)),(.c (ro kG n2 f2)),(.c (ro kC n3 f3)),(.c (ro kF n4 f4))],.arr kB 1 f5]⟩
def L293v5 {ρ:Type} (u:Nat) (x0 x1:Int) (x2:ByteArray) (x3:Nat) (x4:FF) (x5:Nat) (x6:FF) (x7:Nat) (x8:FF) (x9:Nat) (xA:FF) (xB:Nat) (xC xD:FF):Nat→Int→(Option ρ)→(Option ρ)→Option ρ
 | 0,_,_,_=>none
 | m+1,xE,k0,k1 =>
  (bif (inb x0 4) then (bif (Nat.blt (0+x0.toNat*1) 4) then (bif (decide (xE<(Int.ofNat (xD 0 (0+x0.toNat*1)).len))) then (bif (inb x1 4) then (bif (Nat.blt (0+x1.toNat*1) 4) then (bif (inb x0 4) then (bif (Nat.blt (0+x0.toNat*1) 4) then (bif (inb xE (xD 0 (0+x0.toNat*1)).len) then (ob (F264 u (xD 0 (0+x1.toNat*1)).len (xD 0 (0+x1.toNat*1)).el (CV.str ((xD 0 (0+x0.toNat*1)).el xE.toNat 0))) fun xF=>(bif xF then k0 else (L293v5 u x0 x1 x2 x3 x4 x5 x6 x7 x8 x9 xA xB xC xD m (w64 (xE+1)) k0 k1))) else none) else none) else none) else none) else none) else k1) else none) else none)
theorem nl293v5:∀ (m:Nat) (x0:Int) (k0:Option ρ) (k1:Option ρ),ob (L293v5 u i0 i1 w0 n0 f0 n1 f1 n2 f2 n3 f3 n4 f4 f5 m x0 k0 k1) ng=L293v5 u i0 i1 w0 n0 f0 n1 f1 n2 f2 n3 f3 n4 f4 f5 m x0 (ob k0 ng) (ob k1 ng)
 | 0,_,_,_=>rfl
 | m+1,x0,k0,k1=>by
  simp only [L293v5,ob_bif,ob_ob,ob_none,nl293v5 m]
theorem q293v5:∀ (m:Nat) (x0:Int),
  loopH (eB A15v9 (C12 u) u) N293v5 m (s293v6 n0 n1 n2 n3 n4 f0 f1 f2 f3 f4 f5 i0 i1 x0 w0) k=L293v5 u i0 i1 w0 n0 f0 n1 f1 n2 f2 n3 f3 n4 f4 f5 m x0 (k .ret (s293v7 n0 n1 n2 n3 n4 f0 f1 f2 f3 f4 f5 w0)) (k (.exit 8) (s293v8 n0 n1 n2 n3 n4 f0 f1 f2 f3 f4 f5 i0 i1 w0))
 | 0,_=>rfl
 | m+1,x0=>by
  simp only [L293v5,← q293v5 m]
  kernel_rfl
def N293v6:St→Option St:=nN 2 (0 :: 1 :: 2 :: 4 :: 5 :: (rl 8 91 []))
def s293v9:St:=⟨(us 3 (.x (.aptr 1 0 0) :: .u :: .u :: vxi i0 :: vxi i1 :: (us 91 []))),[.box [(vcs w0),(.c (ro kE n0 f0)),(.c (ro kA n1 f1)),(.c (ro kG n2 f2)),(.c (ro kC n3 f3)),(.c (ro kF n4 f4))],.arr kB 1 f5]⟩
def s293v10:St:=⟨(.u :: .u :: vxi 7 :: (us 96 [])),[.box [(vcs w0),(.c (ro kE n0 f0)),(.c (ro kA n1 f1)),(.c (ro kG n2 f2)),(.c (ro kC n3 f3)),(.c (ro kF n4 f4))],.arr kB 1 f5]⟩
def s293v11:St:=⟨(us 3 (.x (.aptr 1 0 0) :: .u :: .u :: vxi i0 :: (us 92 []))),[.box [(vcs w0),(.c (ro kE n0 f0)),(.c (ro kA n1 f1)),(.c (ro kG n2 f2)),(.c (ro kC n3 f3)),(.c (ro kF n4 f4))],.arr kB 1 f5]⟩
def L293v6 {ρ:Type} (u:Nat) (x0:Int) (x1:ByteArray) (x2:Nat) (x3:FF) (x4:Nat) (x5:FF) (x6:Nat) (x7:FF) (x8:Nat) (x9:FF) (xA:Nat) (xB xC:FF):Nat→Int→(Option ρ)→(Option ρ)→Option ρ
 | 0,_,_,_=>none
 | m+1,xD,k0,k1 =>
  (bif (decide (xD<x0)) then (L293v5 u x0 xD x1 x2 x3 x4 x5 x6 x7 x8 x9 xA xB xC u 0
  k0
  (L293v6 u x0 x1 x2 x3 x4 x5 x6 x7 x8 x9 xA xB xC m (w64 (xD+1)) k0 k1)) else k1)
theorem nl293v6:∀ (m:Nat) (x0:Int) (k0:Option ρ) (k1:Option ρ),ob (L293v6 u i0 w0 n0 f0 n1 f1 n2 f2 n3 f3 n4 f4 f5 m x0 k0 k1) ng=L293v6 u i0 w0 n0 f0 n1 f1 n2 f2 n3 f3 n4 f4 f5 m x0 (ob k0 ng) (ob k1 ng)
 | 0,_,_,_=>rfl
 | m+1,x0,k0,k1=>by
  simp only [L293v6,ob_bif,ob_ob,ob_none,nl293v6 m,nl293v5]
def s293v12:St:=⟨(us 3 (.x (.aptr 1 0 0) :: .u :: .u :: vxi i0 :: vxi i1 :: vxi 0 :: (us 90 []))),[.box [(vcs w0),(.c (ro kE n0 f0)),(.c (ro kA n1 f1)),(.c (ro kG n2 f2)),(.c (ro kC n3 f3)),(.c (ro kF n4 f4))],.arr kB 1 f5]⟩
theorem r293v6 :
  loopH (eB A15v12 (C12 u) u) N293v6 (m+1) (s293v9 n0 n1 n2 n3 n4 f0 f1 f2 f3 f4 f5 i0 i1 w0) k =
  (bif (decide (i1<i0)) then (loopN (eB A15v9 (C12 u) u) N293v5 u (s293v12 n0 n1 n2 n3 n4 f0 f1 f2 f3 f4 f5 i0 i1 w0) (kBlk 8 (kBlk 7 (kSeq (C12 u) u (2 :: 8 :: (rl 81 18 [])) A15v10 (kLoop (eB A15v12 (C12 u) u) N293v6 m k))))) else (k (.exit 6) (s293v11 n0 n1 n2 n3 n4 f0 f1 f2 f3 f4 f5 i0 w0))):=by kernel_rfl
theorem t293v1 :
  loopN (eB A15v9 (C12 u) u) N293v5 u (s293v12 n0 n1 n2 n3 n4 f0 f1 f2 f3 f4 f5 i0 i1 w0) k =
  L293v5 u i0 i1 w0 n0 f0 n1 f1 n2 f2 n3 f3 n4 f4 f5 u 0 (k .ret (s293v7 n0 n1 n2 n3 n4 f0 f1 f2 f3 f4 f5 w0)) (k (.exit 8) (s293v8 n0 n1 n2 n3 n4 f0 f1 f2 f3 f4 f5 i0 i1 w0)) :=
 Eq.trans (loopN_at (by kernel_rfl)) (q293v5 ..)
theorem g293v2 :
  (kBlk 8 (kBlk 7 (kSeq (C12 u) u (2 :: 8 :: (rl 81 18 [])) A15v10 (kLoop (eB A15v12 (C12 u) u) N293v6 m k)))) .ret (s293v7 n0 n1 n2 n3 n4 f0 f1 f2 f3 f4 f5 w0) =
  (k .ret (s293v10 n0 n1 n2 n3 n4 f0 f1 f2 f3 f4 f5 w0)):=by kernel_rfl
theorem g293v3 :
  (kBlk 8 (kBlk 7 (kSeq (C12 u) u (2 :: 8 :: (rl 81 18 [])) A15v10 (kLoop (eB A15v12 (C12 u) u) N293v6 m k)))) (.exit 8) (s293v8 n0 n1 n2 n3 n4 f0 f1 f2 f3 f4 f5 i0 i1 w0) =
  (loopH (eB A15v12 (C12 u) u) N293v6 m (s293v9 n0 n1 n2 n3 n4 f0 f1 f2 f3 f4 f5 i0 (w64 (i1+1)) w0) k):=by kernel_rfl
theorem q293v6:∀ (m:Nat) (x0:Int),
  loopH (eB A15v12 (C12 u) u) N293v6 m (s293v9 n0 n1 n2 n3 n4 f0 f1 f2 f3 f4 f5 i0 x0 w0) k=L293v6 u i0 w0 n0 f0 n1 f1 n2 f2 n3 f3 n4 f4 f5 m x0 (k .ret (s293v10 n0 n1 n2 n3 n4 f0 f1 f2 f3 f4 f5 w0)) (k (.exit 6) (s293v11 n0 n1 n2 n3 n4 f0 f1 f2 f3 f4 f5 i0 w0))
 | 0,_=>rfl
 | m+1,x0=>by
  rw [r293v6]
  simp only [L293v6,q293v6 m,t293v1,g293v2,g293v3]
def N293v7:St→Option St:=nN 2 (0 :: 1 :: 2 :: 4 :: 5 :: (rl 7 92 []))
def s293v13:St:=⟨(us 3 (.x (.aptr 1 0 0) :: .u :: .u :: vxi i0 :: (us 92 []))),[.box [(vcs w0),(.c (ro kE n0 f0)),(.c (ro kA n1 f1)),(.c (ro kG n2 f2)),(.c (ro kC n3 f3)),(.c (ro kF n4 f4))],.arr kB 1 f5]⟩
def s293v14:St:=⟨(.u :: .u :: vxi 7 :: (us 96 [])),[.box [(vcs w0),(.c (ro kE n0 f0)),(.c (ro kA n1 f1)),(.c (ro kG n2 f2)),(.c (ro kC n3 f3)),(.c (ro kF n4 f4))],.arr kB 1 f5]⟩
def s293v15:St:=⟨(us 99 []),[.box [(vcs w0),(.c (ro kE n0 f0)),(.c (ro kA n1 f1)),(.c (ro kG n2 f2)),(.c (ro kC n3 f3)),(.c (ro kF n4 f4))],.arr kB 1 f5]⟩
def L293v7 {ρ:Type} (u:Nat) (x0:ByteArray) (x1:Nat) (x2:FF) (x3:Nat) (x4:FF) (x5:Nat) (x6:FF) (x7:Nat) (x8:FF) (x9:Nat) (xA xB:FF):Nat→Int→(Option ρ)→(Option ρ)→Option ρ
 | 0,_,_,_=>none
 | m+1,xC,k0,k1 =>
  (bif (decide (xC<4)) then (L293v6 u xC x0 x1 x2 x3 x4 x5 x6 x7 x8 x9 xA xB u 0
  k0
  (L293v7 u x0 x1 x2 x3 x4 x5 x6 x7 x8 x9 xA xB m (w64 (xC+1)) k0 k1)) else k1)
theorem nl293v7:∀ (m:Nat) (x0:Int) (k0:Option ρ) (k1:Option ρ),ob (L293v7 u w0 n0 f0 n1 f1 n2 f2 n3 f3 n4 f4 f5 m x0 k0 k1) ng=L293v7 u w0 n0 f0 n1 f1 n2 f2 n3 f3 n4 f4 f5 m x0 (ob k0 ng) (ob k1 ng)
 | 0,_,_,_=>rfl
 | m+1,x0,k0,k1=>by
  simp only [L293v7,ob_bif,ob_ob,ob_none,nl293v7 m,nl293v6]
def s293v16:St:=⟨(us 3 (.x (.aptr 1 0 0) :: .u :: .u :: vxi i0 :: vxi 0 :: (us 91 []))),[.box [(vcs w0),(.c (ro kE n0 f0)),(.c (ro kA n1 f1)),(.c (ro kG n2 f2)),(.c (ro kC n3 f3)),(.c (ro kF n4 f4))],.arr kB 1 f5]⟩
theorem r293v7 :
  loopH (eB A15v15 (C12 u) u) N293v7 (m+1) (s293v13 n0 n1 n2 n3 n4 f0 f1 f2 f3 f4 f5 i0 w0) k =
  (bif (decide (i0<4)) then (loopN (eB A15v12 (C12 u) u) N293v6 u (s293v16 n0 n1 n2 n3 n4 f0 f1 f2 f3 f4 f5 i0 w0) (kBlk 6 (kBlk 5 (kSeq (C12 u) u (2 :: 7 :: 8 :: (rl 76 23 [])) A15v13 (kLoop (eB A15v15 (C12 u) u) N293v7 m k))))) else (k (.exit 4) (s293v15 n0 n1 n2 n3 n4 f0 f1 f2 f3 f4 f5 w0))):=by kernel_rfl
theorem t293v4 :
  loopN (eB A15v12 (C12 u) u) N293v6 u (s293v16 n0 n1 n2 n3 n4 f0 f1 f2 f3 f4 f5 i0 w0) k =
  L293v6 u i0 w0 n0 f0 n1 f1 n2 f2 n3 f3 n4 f4 f5 u 0 (k .ret (s293v10 n0 n1 n2 n3 n4 f0 f1 f2 f3 f4 f5 w0)) (k (.exit 6) (s293v11 n0 n1 n2 n3 n4 f0 f1 f2 f3 f4 f5 i0 w0)) :=
 Eq.trans (loopN_at (by kernel_rfl)) (q293v6 ..)
theorem g293v5 :
  (kBlk 6 (kBlk 5 (kSeq (C12 u) u (2 :: 7 :: 8 :: (rl 76 23 [])) A15v13 (kLoop (eB A15v15 (C12 u) u) N293v7 m k)))) .ret (s293v10 n0 n1 n2 n3 n4 f0 f1 f2 f3 f4 f5 w0) =
  (k .ret (s293v14 n0 n1 n2 n3 n4 f0 f1 f2 f3 f4 f5 w0)):=by kernel_rfl
theorem g293v6 :
  (kBlk 6 (kBlk 5 (kSeq (C12 u) u (2 :: 7 :: 8 :: (rl 76 23 [])) A15v13 (kLoop (eB A15v15 (C12 u) u) N293v7 m k)))) (.exit 6) (s293v11 n0 n1 n2 n3 n4 f0 f1 f2 f3 f4 f5 i0 w0) =
  (loopH (eB A15v15 (C12 u) u) N293v7 m (s293v13 n0 n1 n2 n3 n4 f0 f1 f2 f3 f4 f5 (w64 (i0+1)) w0) k):=by kernel_rfl
theorem q293v7:∀ (m:Nat) (x0:Int),
  loopH (eB A15v15 (C12 u) u) N293v7 m (s293v13 n0 n1 n2 n3 n4 f0 f1 f2 f3 f4 f5 x0 w0) k=L293v7 u w0 n0 f0 n1 f1 n2 f2 n3 f3 n4 f4 f5 m x0 (k .ret (s293v14 n0 n1 n2 n3 n4 f0 f1 f2 f3 f4 f5 w0)) (k (.exit 4) (s293v15 n0 n1 n2 n3 n4 f0 f1 f2 f3 f4 f5 w0))
 | 0,_=>rfl
 | m+1,x0=>by
  rw [r293v7]
  simp only [L293v7,q293v7 m,t293v4,g293v5,g293v6]
def F293 (x0:ByteArray) (x1:Nat) (x2:FF) (x3:Nat) (x4:FF) (x5:Nat) (x6:FF) (x7:Nat) (x8:FF) (x9:Nat) (xA:FF):Option (Int) :=
 (ob (F285 u x0) fun xB=>(bif (!xB) then (some 6) else (bif ((decide ((Int.ofNat x1)>64))==false) then (bif ((decide ((Int.ofNat x3)>256))==false) then (bif ((decide ((Int.ofNat x5)>256))==false) then (bif ((decide ((Int.ofNat x7)>64))==false) then (bif (decide ((Int.ofNat x9)>256)) then (some 4) else (ob (F290 u x0 x1 x2 x3 x4 x5 x6 x7 x8 x9 xA) fun xC=>(L293v1 u x0 x1 x2 x3 x4 x5 x6 x7 x8 x9 xA (setF (fun _ j=>listF [(.ro true (.pr .str .nil) 0 (fun _ _=>.any)),(.ro true (.pr .str .nil) 0 (fun _ _=>.any)),(.ro true (.pr .str .nil) 0 (fun _ _=>.any)),(.ro true (.pr .str .nil) 0 (fun _ _=>.any))] j) 0 0 4 (listF [(.ro false (.pr .str .nil) xC.1 xC.2.1),(.ro false (.pr .str .nil) xC.2.2.1 xC.2.2.2.1),(.ro false (.pr .str .nil) xC.2.2.2.2.1 xC.2.2.2.2.2.1),(.ro false (.pr .str .nil) xC.2.2.2.2.2.2.1 xC.2.2.2.2.2.2.2)])) u 0
  (some 11)
  (L293v2 u x0 x1 x2 x3 x4 x5 x6 x7 x8 x9 xA (setF (fun _ j=>listF [(.ro true (.pr .str .nil) 0 (fun _ _=>.any)),(.ro true (.pr .str .nil) 0 (fun _ _=>.any)),(.ro true (.pr .str .nil) 0 (fun _ _=>.any)),(.ro true (.pr .str .nil) 0 (fun _ _=>.any))] j) 0 0 4 (listF [(.ro false (.pr .str .nil) xC.1 xC.2.1),(.ro false (.pr .str .nil) xC.2.2.1 xC.2.2.2.1),(.ro false (.pr .str .nil) xC.2.2.2.2.1 xC.2.2.2.2.2.1),(.ro false (.pr .str .nil) xC.2.2.2.2.2.2.1 xC.2.2.2.2.2.2.2)])) u 1
  (some 11)
  (L293v7 u x0 x1 x2 x3 x4 x5 x6 x7 x8 x9 xA (setF (fun _ j=>listF [(.ro true (.pr .str .nil) 0 (fun _ _=>.any)),(.ro true (.pr .str .nil) 0 (fun _ _=>.any)),(.ro true (.pr .str .nil) 0 (fun _ _=>.any)),(.ro true (.pr .str .nil) 0 (fun _ _=>.any))] j) 0 0 4 (listF [(.ro false (.pr .str .nil) xC.1 xC.2.1),(.ro false (.pr .str .nil) xC.2.2.1 xC.2.2.2.1),(.ro false (.pr .str .nil) xC.2.2.2.2.1 xC.2.2.2.2.2.1),(.ro false (.pr .str .nil) xC.2.2.2.2.2.2.1 xC.2.2.2.2.2.2.2)])) u 0
  (some 7)
  (some 0)))))) else (some 4)) else (some 4)) else (some 4)) else (some 4))))
def s293v17 (x0:Nat × FF × Nat × FF × Nat × FF × Nat × FF):St:=⟨(.agg [(vcs w0),(.c (ro kE n0 f0)),(.c (ro kA n1 f1)),(.c (ro kG n2 f2)),(.c (ro kC n3 f3)),(.c (ro kF n4 f4))] :: .x (.ptr 0 0) :: .u :: .x (.aptr 1 0 0) :: vxi 0 :: uu :: uu :: uu :: uu :: (us 32 [.agg [(vcs w0),(.c (ro kE n0 f0)),(.c (ro kA n1 f1)),(.c (ro kG n2 f2)),(.c (ro kC n3 f3)),(.c (ro kF n4 f4))],.agg [(.c (ro (.pr .str .nil) x0.1 x0.2.1)),(.c (ro (.pr .str .nil) x0.2.2.1 x0.2.2.2.1)),(.c (ro (.pr .str .nil) x0.2.2.2.2.1 x0.2.2.2.2.2.1)),(.c (ro (.pr .str .nil) x0.2.2.2.2.2.2.1 x0.2.2.2.2.2.2.2))],uu,uu,uu,uu,uu,uu,uu,uu,uu,uu,uu,uu,uu,uu,uu,uu,uu,uu,uu,uu,uu,uu,uu,uu,uu,uu,uu,uu,uu,uu,uu,uu,uu,uu,uu,uu,uu,uu,uu,uu,uu,uu,uu,uu,uu,uu,uu,uu,uu,uu,uu,uu,uu,uu,uu,uu])),[.box [(vcs w0),(.c (ro kE n0 f0)),(.c (ro kA n1 f1)),(.c (ro kG n2 f2)),(.c (ro kC n3 f3)),(.c (ro kF n4 f4))],.arr kB 1 (setF (fun _ j=>listF [(.ro true (.pr .str .nil) 0 nilF),(.ro true (.pr .str .nil) 0 nilF),(.ro true (.pr .str .nil) 0 nilF),(.ro true (.pr .str .nil) 0 nilF)] j) 0 0 4 (listF [(ro (.pr .str .nil) x0.1 x0.2.1),(ro (.pr .str .nil) x0.2.2.1 x0.2.2.2.1),(ro (.pr .str .nil) x0.2.2.2.2.1 x0.2.2.2.2.2.1),(ro (.pr .str .nil) x0.2.2.2.2.2.2.1 x0.2.2.2.2.2.2.2)]))]⟩
theorem t293v7 (x0:Nat × FF × Nat × FF × Nat × FF × Nat × FF) :
  loopN (eB A15v3 (C12 u) u) N293v1 u (s293v17 n0 n1 n2 n3 n4 f0 f1 f2 f3 f4 w0 x0) k =
  L293v1 u w0 n0 f0 n1 f1 n2 f2 n3 f3 n4 f4 (setF (fun _ j=>listF [(.ro true (.pr .str .nil) 0 nilF),(.ro true (.pr .str .nil) 0 nilF),(.ro true (.pr .str .nil) 0 nilF),(.ro true (.pr .str .nil) 0 nilF)] j) 0 0 4 (listF [(ro (.pr .str .nil) x0.1 x0.2.1),(ro (.pr .str .nil) x0.2.2.1 x0.2.2.2.1),(ro (.pr .str .nil) x0.2.2.2.2.1 x0.2.2.2.2.2.1),(ro (.pr .str .nil) x0.2.2.2.2.2.2.1 x0.2.2.2.2.2.2.2)])) u 0 (k .ret (s293v1 n0 n1 n2 n3 n4 f0 f1 f2 f3 f4 (setF (fun _ j=>listF [(.ro true (.pr .str .nil) 0 nilF),(.ro true (.pr .str .nil) 0 nilF),(.ro true (.pr .str .nil) 0 nilF),(.ro true (.pr .str .nil) 0 nilF)] j) 0 0 4 (listF [(ro (.pr .str .nil) x0.1 x0.2.1),(ro (.pr .str .nil) x0.2.2.1 x0.2.2.2.1),(ro (.pr .str .nil) x0.2.2.2.2.1 x0.2.2.2.2.2.1),(ro (.pr .str .nil) x0.2.2.2.2.2.2.1 x0.2.2.2.2.2.2.2)])) w0)) (k (.exit 0) (s293v2 n0 n1 n2 n3 n4 f0 f1 f2 f3 f4 (setF (fun _ j=>listF [(.ro true (.pr .str .nil) 0 nilF),(.ro true (.pr .str .nil) 0 nilF),(.ro true (.pr .str .nil) 0 nilF),(.ro true (.pr .str .nil) 0 nilF)] j) 0 0 4 (listF [(ro (.pr .str .nil) x0.1 x0.2.1),(ro (.pr .str .nil) x0.2.2.1 x0.2.2.2.1),(ro (.pr .str .nil) x0.2.2.2.2.1 x0.2.2.2.2.2.1),(ro (.pr .str .nil) x0.2.2.2.2.2.2.1 x0.2.2.2.2.2.2.2)])) w0)) :=
 Eq.trans (loopN_at (by kernel_rfl)) (q293v1 ..)
theorem g293v8 (x0:Nat × FF × Nat × FF × Nat × FF × Nat × FF) :
  (kBlk 0 (kSeq (C12 u) u (2 :: 4 :: (rl 43 9 [])) A15v18 (finish A15))) .ret (s293v1 n0 n1 n2 n3 n4 f0 f1 f2 f3 f4 (setF (fun _ j=>listF [(.ro true (.pr .str .nil) 0 nilF),(.ro true (.pr .str .nil) 0 nilF),(.ro true (.pr .str .nil) 0 nilF),(.ro true (.pr .str .nil) 0 nilF)] j) 0 0 4 (listF [(ro (.pr .str .nil) x0.1 x0.2.1),(ro (.pr .str .nil) x0.2.2.1 x0.2.2.2.1),(ro (.pr .str .nil) x0.2.2.2.2.1 x0.2.2.2.2.2.1),(ro (.pr .str .nil) x0.2.2.2.2.2.2.1 x0.2.2.2.2.2.2.2)])) w0) =
  (some [.v (vi 11)]):=by kernel_rfl
def s293v18 (x0:Nat × FF × Nat × FF × Nat × FF × Nat × FF):St:=⟨(.u :: .x (.ptr 0 0) :: .u :: .x (.aptr 1 0 0) :: .u :: vxi 1 :: (us 93 [])),[.box [(vcs w0),(.c (ro kE n0 f0)),(.c (ro kA n1 f1)),(.c (ro kG n2 f2)),(.c (ro kC n3 f3)),(.c (ro kF n4 f4))],.arr kB 1 (setF (fun _ j=>listF [(.ro true (.pr .str .nil) 0 nilF),(.ro true (.pr .str .nil) 0 nilF),(.ro true (.pr .str .nil) 0 nilF),(.ro true (.pr .str .nil) 0 nilF)] j) 0 0 4 (listF [(ro (.pr .str .nil) x0.1 x0.2.1),(ro (.pr .str .nil) x0.2.2.1 x0.2.2.2.1),(ro (.pr .str .nil) x0.2.2.2.2.1 x0.2.2.2.2.2.1),(ro (.pr .str .nil) x0.2.2.2.2.2.2.1 x0.2.2.2.2.2.2.2)]))]⟩
theorem g293v9 (x0:Nat × FF × Nat × FF × Nat × FF × Nat × FF) :
  (kBlk 0 (kSeq (C12 u) u (2 :: 4 :: (rl 43 9 [])) A15v18 (finish A15))) (.exit 0) (s293v2 n0 n1 n2 n3 n4 f0 f1 f2 f3 f4 (setF (fun _ j=>listF [(.ro true (.pr .str .nil) 0 nilF),(.ro true (.pr .str .nil) 0 nilF),(.ro true (.pr .str .nil) 0 nilF),(.ro true (.pr .str .nil) 0 nilF)] j) 0 0 4 (listF [(ro (.pr .str .nil) x0.1 x0.2.1),(ro (.pr .str .nil) x0.2.2.1 x0.2.2.2.1),(ro (.pr .str .nil) x0.2.2.2.2.1 x0.2.2.2.2.2.1),(ro (.pr .str .nil) x0.2.2.2.2.2.2.1 x0.2.2.2.2.2.2.2)])) w0) =
  (loopN (eB A15v6 (C12 u) u) N293v2 u (s293v18 n0 n1 n2 n3 n4 f0 f1 f2 f3 f4 w0 x0) (kBlk 2 (kSeq (C12 u) u (2 :: 5 :: (rl 52 20 [])) A15v17 (finish A15)))):=by kernel_rfl
theorem t293v10 (x0:Nat × FF × Nat × FF × Nat × FF × Nat × FF) :
  loopN (eB A15v6 (C12 u) u) N293v2 u (s293v18 n0 n1 n2 n3 n4 f0 f1 f2 f3 f4 w0 x0) k =
  L293v2 u w0 n0 f0 n1 f1 n2 f2 n3 f3 n4 f4 (setF (fun _ j=>listF [(.ro true (.pr .str .nil) 0 nilF),(.ro true (.pr .str .nil) 0 nilF),(.ro true (.pr .str .nil) 0 nilF),(.ro true (.pr .str .nil) 0 nilF)] j) 0 0 4 (listF [(ro (.pr .str .nil) x0.1 x0.2.1),(ro (.pr .str .nil) x0.2.2.1 x0.2.2.2.1),(ro (.pr .str .nil) x0.2.2.2.2.1 x0.2.2.2.2.2.1),(ro (.pr .str .nil) x0.2.2.2.2.2.2.1 x0.2.2.2.2.2.2.2)])) u 1 (k .ret (s293v4 n0 n1 n2 n3 n4 f0 f1 f2 f3 f4 (setF (fun _ j=>listF [(.ro true (.pr .str .nil) 0 nilF),(.ro true (.pr .str .nil) 0 nilF),(.ro true (.pr .str .nil) 0 nilF),(.ro true (.pr .str .nil) 0 nilF)] j) 0 0 4 (listF [(ro (.pr .str .nil) x0.1 x0.2.1),(ro (.pr .str .nil) x0.2.2.1 x0.2.2.2.1),(ro (.pr .str .nil) x0.2.2.2.2.1 x0.2.2.2.2.2.1),(ro (.pr .str .nil) x0.2.2.2.2.2.2.1 x0.2.2.2.2.2.2.2)])) w0)) (k (.exit 2) (s293v5 n0 n1 n2 n3 n4 f0 f1 f2 f3 f4 (setF (fun _ j=>listF [(.ro true (.pr .str .nil) 0 nilF),(.ro true (.pr .str .nil) 0 nilF),(.ro true (.pr .str .nil) 0 nilF),(.ro true (.pr .str .nil) 0 nilF)] j) 0 0 4 (listF [(ro (.pr .str .nil) x0.1 x0.2.1),(ro (.pr .str .nil) x0.2.2.1 x0.2.2.2.1),(ro (.pr .str .nil) x0.2.2.2.2.1 x0.2.2.2.2.2.1),(ro (.pr .str .nil) x0.2.2.2.2.2.2.1 x0.2.2.2.2.2.2.2)])) w0)) :=
 Eq.trans (loopN_at (by kernel_rfl)) (q293v2 ..)
theorem g293v11 (x0:Nat × FF × Nat × FF × Nat × FF × Nat × FF) :
  (kBlk 2 (kSeq (C12 u) u (2 :: 5 :: (rl 52 20 [])) A15v17 (finish A15))) .ret (s293v4 n0 n1 n2 n3 n4 f0 f1 f2 f3 f4 (setF (fun _ j=>listF [(.ro true (.pr .str .nil) 0 nilF),(.ro true (.pr .str .nil) 0 nilF),(.ro true (.pr .str .nil) 0 nilF),(.ro true (.pr .str .nil) 0 nilF)] j) 0 0 4 (listF [(ro (.pr .str .nil) x0.1 x0.2.1),(ro (.pr .str .nil) x0.2.2.1 x0.2.2.2.1),(ro (.pr .str .nil) x0.2.2.2.2.1 x0.2.2.2.2.2.1),(ro (.pr .str .nil) x0.2.2.2.2.2.2.1 x0.2.2.2.2.2.2.2)])) w0) =
  (some [.v (vi 11)]):=by kernel_rfl
def s293v19 (x0:Nat × FF × Nat × FF × Nat × FF × Nat × FF):St:=⟨(us 3 (.x (.aptr 1 0 0) :: .u :: .u :: vxi 0 :: (us 92 []))),[.box [(vcs w0),(.c (ro kE n0 f0)),(.c (ro kA n1 f1)),(.c (ro kG n2 f2)),(.c (ro kC n3 f3)),(.c (ro kF n4 f4))],.arr kB 1 (setF (fun _ j=>listF [(.ro true (.pr .str .nil) 0 nilF),(.ro true (.pr .str .nil) 0 nilF),(.ro true (.pr .str .nil) 0 nilF),(.ro true (.pr .str .nil) 0 nilF)] j) 0 0 4 (listF [(ro (.pr .str .nil) x0.1 x0.2.1),(ro (.pr .str .nil) x0.2.2.1 x0.2.2.2.1),(ro (.pr .str .nil) x0.2.2.2.2.1 x0.2.2.2.2.2.1),(ro (.pr .str .nil) x0.2.2.2.2.2.2.1 x0.2.2.2.2.2.2.2)]))]⟩
theorem g293v12 (x0:Nat × FF × Nat × FF × Nat × FF × Nat × FF) :
  (kBlk 2 (kSeq (C12 u) u (2 :: 5 :: (rl 52 20 [])) A15v17 (finish A15))) (.exit 2) (s293v5 n0 n1 n2 n3 n4 f0 f1 f2 f3 f4 (setF (fun _ j=>listF [(.ro true (.pr .str .nil) 0 nilF),(.ro true (.pr .str .nil) 0 nilF),(.ro true (.pr .str .nil) 0 nilF),(.ro true (.pr .str .nil) 0 nilF)] j) 0 0 4 (listF [(ro (.pr .str .nil) x0.1 x0.2.1),(ro (.pr .str .nil) x0.2.2.1 x0.2.2.2.1),(ro (.pr .str .nil) x0.2.2.2.2.1 x0.2.2.2.2.2.1),(ro (.pr .str .nil) x0.2.2.2.2.2.2.1 x0.2.2.2.2.2.2.2)])) w0) =
  (loopN (eB A15v15 (C12 u) u) N293v7 u (s293v19 n0 n1 n2 n3 n4 f0 f1 f2 f3 f4 w0 x0) (kBlk 4 (kSeq (C12 u) u (2 :: 6 :: 7 :: 8 :: (rl 72 27 [])) A15v16 (finish A15)))):=by kernel_rfl
theorem t293v13 (x0:Nat × FF × Nat × FF × Nat × FF × Nat × FF) :
  loopN (eB A15v15 (C12 u) u) N293v7 u (s293v19 n0 n1 n2 n3 n4 f0 f1 f2 f3 f4 w0 x0) k =
  L293v7 u w0 n0 f0 n1 f1 n2 f2 n3 f3 n4 f4 (setF (fun _ j=>listF [(.ro true (.pr .str .nil) 0 nilF),(.ro true (.pr .str .nil) 0 nilF),(.ro true (.pr .str .nil) 0 nilF),(.ro true (.pr .str .nil) 0 nilF)] j) 0 0 4 (listF [(ro (.pr .str .nil) x0.1 x0.2.1),(ro (.pr .str .nil) x0.2.2.1 x0.2.2.2.1),(ro (.pr .str .nil) x0.2.2.2.2.1 x0.2.2.2.2.2.1),(ro (.pr .str .nil) x0.2.2.2.2.2.2.1 x0.2.2.2.2.2.2.2)])) u 0 (k .ret (s293v14 n0 n1 n2 n3 n4 f0 f1 f2 f3 f4 (setF (fun _ j=>listF [(.ro true (.pr .str .nil) 0 nilF),(.ro true (.pr .str .nil) 0 nilF),(.ro true (.pr .str .nil) 0 nilF),(.ro true (.pr .str .nil) 0 nilF)] j) 0 0 4 (listF [(ro (.pr .str .nil) x0.1 x0.2.1),(ro (.pr .str .nil) x0.2.2.1 x0.2.2.2.1),(ro (.pr .str .nil) x0.2.2.2.2.1 x0.2.2.2.2.2.1),(ro (.pr .str .nil) x0.2.2.2.2.2.2.1 x0.2.2.2.2.2.2.2)])) w0)) (k (.exit 4) (s293v15 n0 n1 n2 n3 n4 f0 f1 f2 f3 f4 (setF (fun _ j=>listF [(.ro true (.pr .str .nil) 0 nilF),(.ro true (.pr .str .nil) 0 nilF),(.ro true (.pr .str .nil) 0 nilF),(.ro true (.pr .str .nil) 0 nilF)] j) 0 0 4 (listF [(ro (.pr .str .nil) x0.1 x0.2.1),(ro (.pr .str .nil) x0.2.2.1 x0.2.2.2.1),(ro (.pr .str .nil) x0.2.2.2.2.1 x0.2.2.2.2.2.1),(ro (.pr .str .nil) x0.2.2.2.2.2.2.1 x0.2.2.2.2.2.2.2)])) w0)) :=
 Eq.trans (loopN_at (by kernel_rfl)) (q293v7 ..)
theorem g293v14 (x0:Nat × FF × Nat × FF × Nat × FF × Nat × FF) :
  (kBlk 4 (kSeq (C12 u) u (2 :: 6 :: 7 :: 8 :: (rl 72 27 [])) A15v16 (finish A15))) .ret (s293v14 n0 n1 n2 n3 n4 f0 f1 f2 f3 f4 (setF (fun _ j=>listF [(.ro true (.pr .str .nil) 0 nilF),(.ro true (.pr .str .nil) 0 nilF),(.ro true (.pr .str .nil) 0 nilF),(.ro true (.pr .str .nil) 0 nilF)] j) 0 0 4 (listF [(ro (.pr .str .nil) x0.1 x0.2.1),(ro (.pr .str .nil) x0.2.2.1 x0.2.2.2.1),(ro (.pr .str .nil) x0.2.2.2.2.1 x0.2.2.2.2.2.1),(ro (.pr .str .nil) x0.2.2.2.2.2.2.1 x0.2.2.2.2.2.2.2)])) w0) =
  (some [.v (vi 7)]):=by kernel_rfl
theorem g293v15 (x0:Nat × FF × Nat × FF × Nat × FF × Nat × FF) :
  (kBlk 4 (kSeq (C12 u) u (2 :: 6 :: 7 :: 8 :: (rl 72 27 [])) A15v16 (finish A15))) (.exit 4) (s293v15 n0 n1 n2 n3 n4 f0 f1 f2 f3 f4 (setF (fun _ j=>listF [(.ro true (.pr .str .nil) 0 nilF),(.ro true (.pr .str .nil) 0 nilF),(.ro true (.pr .str .nil) 0 nilF),(.ro true (.pr .str .nil) 0 nilF)] j) 0 0 4 (listF [(ro (.pr .str .nil) x0.1 x0.2.1),(ro (.pr .str .nil) x0.2.2.1 x0.2.2.2.1),(ro (.pr .str .nil) x0.2.2.2.2.1 x0.2.2.2.2.2.1),(ro (.pr .str .nil) x0.2.2.2.2.2.2.1 x0.2.2.2.2.2.2.2)])) w0) =
  (some [.v (vi 0)]):=by kernel_rfl
theorem e293:evalF (C12 u) u A15 [.agg [(.s w0),(ro kE n0 f0),(ro kA n1 f1),(ro kG n2 f2),(ro kC n3 f3),(ro kF n4 f4)]]=ob (F293 u w0 n0 f0 n1 f1 n2 f2 n3 f3 n4 f4) fun t=>some [.v (vi t)]:=Eq.trans (b:=(ob (F285 u w0) fun x0=>(bif (!x0) then (some [.v (vi 6)]) else (bif ((decide ((Int.ofNat n0)>64))==false) then (bif ((decide ((Int.ofNat n1)>256))==false) then (bif ((decide ((Int.ofNat n2)>256))==false) then (bif ((decide ((Int.ofNat n3)>64))==false) then (bif (decide ((Int.ofNat n4)>256)) then (some [.v (vi 4)]) else (ob (F290 u w0 n0 f0 n1 f1 n2 f2 n3 f3 n4 f4) fun x1=>(loopN (eB A15v3 (C12 u) u) N293v1 u (s293v17 n0 n1 n2 n3 n4 f0 f1 f2 f3 f4 w0 x1) (kBlk 0 (kSeq (C12 u) u (2 :: 4 :: (rl 43 9 [])) A15v18 (finish A15)))))) else (some [.v (vi 4)])) else (some [.v (vi 4)])) else (some [.v (vi 4)])) else (some [.v (vi 4)]))))) (by kernel_rfl) (by
 simp only [F293,ob_bif,ob_ob,ob_none,ob_some,nl293v1,nl293v2,nl293v7,t293v7,g293v8,g293v9,t293v10,g293v11,g293v12,t293v13,g293v14,g293v15])
def O293:Ora:=mkO (q1 (ag (tc cS (tc (cL kE) (tc (cL kA) (tc (cL kG) (tc (cL kC) (t1 (cL kF))))))))) (fun x=>F293 u x.1 x.2.1.1 x.2.1.2 x.2.2.1.1 x.2.2.1.2 x.2.2.2.1.1 x.2.2.2.1.2 x.2.2.2.2.1.1 x.2.2.2.2.1.2 x.2.2.2.2.2.1 x.2.2.2.2.2.2) fun t=>[.v (vi t)]
theorem d293:DO (O293 u) (C12 u) 15 A15:=dO u (fun x=>by exact e293 u x.2.1.1 x.2.2.1.1 x.2.2.2.1.1 x.2.2.2.2.1.1 x.2.2.2.2.2.1 x.2.1.2 x.2.2.1.2 x.2.2.2.1.2 x.2.2.2.2.1.2 x.2.2.2.2.2.2 x.1)
def C13:Oracle:=(C12 u).add 15 (fun _=>true) (O293 u)
def A39v1:AC:=(.region 3 [mv 12 6,o1 13 (bk .add 3 12 1),o1 6 (sg 13)] 0 none)
def A39v2:AC:=(.seq (.block 1
 (.seq (.region 4 [o1 14 (fa 28 2 1 1),o1 15 (lo 22 14),mv 16 6,o1 17 (.indexAddr 22 60 3 (tm 15) (tm 16)),o1 18 (fa 60 17 0 0),o1 19 (lo 9 18),mv 20 1,o1 21 (bt .eql 9 19 20)] 0 none) []
  (.cond (tm 21)
  (.seq (.region 5 [o1 22 (fa 28 2 1 1),o1 23 (lo 22 22),mv 24 6,o1 25 (.indexAddr 22 60 3 (tm 23) (tm 24)),o1 26 (ln 60 3 25),o0 (.store 60 3 (tm 4) (tm 26)),o1 5 (sb true)] 0 none) []
   (.ret (rl 0 4 (rl 6 22 []))))
  .skip))) (5 :: (rl 14 13 []))
 A39v1)
def A39v3:AC:=(.seq (.seq (.region 2 [mv 7 6,o1 8 (fa 28 2 1 1),o1 9 (lo 22 8),o1 10 (.len 22 false (tm 9)),o1 11 (bt .lss 3 7 10)] 0 none) []
 (.cond (tm 11)
 .skip
 (.exit 0 (rl 0 4 (rl 5 23 []))))) (rl 7 5 [])
 A39v2)
def A39v4:AC:=(.seq (.region 6 [o1 27 (.build 60 [vcs ByteArray.empty,vci 0,vcs ByteArray.empty] [(0,1),(1,1),(2,1)] 0 []),o0 (.store 60 3 (tm 4) (tm 27)),o1 5 (sb false)] 0 none) []
 (.ret (rl 0 4 (rl 6 22 []))))
def A39:AF:=⟨28,[.cell 4 60 (some 3),.tmp 5],
 (.seq (.region 0 [o1 2 (bx 0 28 0),o1 4 (.alloc 1 60 [vcs ByteArray.empty,vci 0,vcs ByteArray.empty]),o1 5 (sb false)] 2 none) []
 (.seq (.seq (.region 1 [o1 6 (sk 0)] 0 none) []
 (.block 0
 (.loop [] (0 :: 3 :: 5 :: (rl 7 21 []))
  A39v3))) (rl 5 22 [])
 A39v4))⟩
def N294v1:St→Option St:=nN 2 (0 :: 3 :: 5 :: (rl 7 21 []))
def s294v0:St:=⟨(.u :: vxs w0 :: .x (.ptr 0 0) :: .u :: .x (.ptr 1 0) :: .u :: vxi i0 :: (us 21 [])),[.box [(vcs w1),(.c (ro kE n0 f0)),(.c (ro kA n1 f1)),(.c (ro kG n2 f2)),(.c (ro kC n3 f3)),(.c (ro kF n4 f4))],.box [(vcs ByteArray.empty),(vci 0),(vcs ByteArray.empty)]]⟩
def s294v1:St:=⟨(us 4 (.x (.ptr 1 0) :: vxb true :: (us 22 []))),[.box [(vcs w0),(.c (ro kE n0 f0)),(.c (ro kA n1 f1)),(.c (ro kG n2 f2)),(.c (ro kC n3 f3)),(.c (ro kF n4 f4))],.box [(vcs w1),(vci i0),(vcs w2)]]⟩
def s294v2:St:=⟨(us 4 (.x (.ptr 1 0) :: (us 23 []))),[.box [(vcs w0),(.c (ro kE n0 f0)),(.c (ro kA n1 f1)),(.c (ro kG n2 f2)),(.c (ro kC n3 f3)),(.c (ro kF n4 f4))],.box [(vcs ByteArray.empty),(vci 0),(vcs ByteArray.empty)]]⟩
def L294v1 {ρ:Type} (u:Nat) (x0 x1:ByteArray) (x2:Nat) (x3:FF) (x4:Nat) (x5:FF) (x6:Nat) (x7:FF) (x8:Nat) (x9:FF) (xA:Nat) (xB:FF):Nat→Int→(ByteArray→Int→ByteArray→Option ρ)→(Option ρ)→Option ρ
 | 0,_,_,_=>none
 | m+1,xC,k0,k1 =>
  (bif (decide (xC<(Int.ofNat x2))) then (bif (inb xC x2) then (bif (ByteArray.toList (x3 xC.toNat 0).str==ByteArray.toList x0) then (bif (inb xC x2) then (k0 (x3 xC.toNat 0).str (x3 xC.toNat 1).int (x3 xC.toNat 2).str) else none) else (L294v1 u x0 x1 x2 x3 x4 x5 x6 x7 x8 x9 xA xB m (w64 (xC+1)) k0 k1)) else none) else k1)
theorem nl294v1:∀ (m:Nat) (x0:Int) (k0:ByteArray→Int→ByteArray→Option ρ) (k1:Option ρ),ob (L294v1 u w0 w1 n0 f0 n1 f1 n2 f2 n3 f3 n4 f4 m x0 k0 k1) ng=L294v1 u w0 w1 n0 f0 n1 f1 n2 f2 n3 f3 n4 f4 m x0 (fun x1 x2 x3=>ob (k0 x1 x2 x3) ng) (ob k1 ng)
 | 0,_,_,_=>rfl
 | m+1,x0,k0,k1=>by
  simp only [L294v1,ob_bif,ob_ob,ob_none,nl294v1 m]
theorem q294v1:∀ (m:Nat) (x0:Int),
  loopH (eB A39v3 (C13 u) u) N294v1 m (s294v0 n0 n1 n2 n3 n4 f0 f1 f2 f3 f4 x0 w0 w1) k=L294v1 u w0 w1 n0 f0 n1 f1 n2 f2 n3 f3 n4 f4 m x0 (fun x1 x2 x3=>k .ret (s294v1 n0 n1 n2 n3 n4 f0 f1 f2 f3 f4 x2 w1 x1 x3)) (k (.exit 0) (s294v2 n0 n1 n2 n3 n4 f0 f1 f2 f3 f4 w1))
 | 0,_=>rfl
 | m+1,x0=>by
  simp only [L294v1,← q294v1 m]
  kernel_rfl
def F294 (x0:ByteArray) (x1:Nat) (x2:FF) (x3:Nat) (x4:FF) (x5:Nat) (x6:FF) (x7:Nat) (x8:FF) (x9:Nat) (xA:FF) (xB:ByteArray):Option (ByteArray × Int × ByteArray × Bool) :=
 (L294v1 u xB x0 x1 x2 x3 x4 x5 x6 x7 x8 x9 xA u 0
  (fun xC xD xE=>(some (xC,xD,xE,true)))
  (some (ByteArray.empty,0,ByteArray.empty,false)))
def s294v3:St:=⟨[.agg [(vcs w0),(.c (ro kE n0 f0)),(.c (ro kA n1 f1)),(.c (ro kG n2 f2)),(.c (ro kC n3 f3)),(.c (ro kF n4 f4))],vxs w1,.x (.ptr 0 0),uu,.x (.ptr 1 0),vxb false,vxi 0,uu,uu,uu,uu,uu,uu,uu,uu,uu,uu,uu,uu,uu,uu,uu,uu,uu,uu,uu,uu,uu],[.box [(vcs w0),(.c (ro kE n0 f0)),(.c (ro kA n1 f1)),(.c (ro kG n2 f2)),(.c (ro kC n3 f3)),(.c (ro kF n4 f4))],.box [(vcs ByteArray.empty),(vci 0),(vcs ByteArray.empty)]]⟩
theorem t294v1 :
  loopN (eB A39v3 (C13 u) u) N294v1 u (s294v3 n0 n1 n2 n3 n4 f0 f1 f2 f3 f4 w0 w1) k =
  L294v1 u w1 w0 n0 f0 n1 f1 n2 f2 n3 f3 n4 f4 u 0 (fun x0 x1 x2=>k .ret (s294v1 n0 n1 n2 n3 n4 f0 f1 f2 f3 f4 x1 w0 x0 x2)) (k (.exit 0) (s294v2 n0 n1 n2 n3 n4 f0 f1 f2 f3 f4 w0)) :=
 Eq.trans (loopN_at (by kernel_rfl)) (q294v1 ..)
theorem g294v2 :
  (kBlk 0 (kSeq (C13 u) u (rl 5 22 []) A39v4 (finish A39))) .ret (s294v1 n0 n1 n2 n3 n4 f0 f1 f2 f3 f4 i0 w0 w1 w2) =
  (some [.agg [(.s w1),(vi i0),(.s w2)],.v (.b true)]):=by kernel_rfl
theorem g294v3 :
  (kBlk 0 (kSeq (C13 u) u (rl 5 22 []) A39v4 (finish A39))) (.exit 0) (s294v2 n0 n1 n2 n3 n4 f0 f1 f2 f3 f4 w0) =
  (some [.agg [(.s ByteArray.empty),(vi 0),(.s ByteArray.empty)],.v (.b false)]):=by kernel_rfl
theorem e294:evalF (C13 u) u A39 [.agg [(.s w0),(ro kE n0 f0),(ro kA n1 f1),(ro kG n2 f2),(ro kC n3 f3),(ro kF n4 f4)],.v (.s w1)]=ob (F294 u w0 n0 f0 n1 f1 n2 f2 n3 f3 n4 f4 w1) fun t=>some [.agg [(.s t.1),(vi t.2.1),(.s t.2.2.1)],.v (.b t.2.2.2)]:=Eq.trans (b:=(loopN (eB A39v3 (C13 u) u) N294v1 u (s294v3 n0 n1 n2 n3 n4 f0 f1 f2 f3 f4 w0 w1) (kBlk 0 (kSeq (C13 u) u (rl 5 22 []) A39v4 (finish A39))))) (by kernel_rfl) (by
 simp only [F294,ob_bif,ob_ob,ob_none,ob_some,nl294v1,t294v1,g294v2,g294v3])
def O294:Ora:=mkO (qc (ag (tc cS (tc (cL kE) (tc (cL kA) (tc (cL kG) (tc (cL kC) (t1 (cL kF)))))))) (q1 (av cS))) (fun x=>F294 u x.1.1 x.1.2.1.1 x.1.2.1.2 x.1.2.2.1.1 x.1.2.2.1.2 x.1.2.2.2.1.1 x.1.2.2.2.1.2 x.1.2.2.2.2.1.1 x.1.2.2.2.2.1.2 x.1.2.2.2.2.2.1 x.1.2.2.2.2.2.2 x.2) fun t=>[.agg [(.s t.1),(vi t.2.1),(.s t.2.2.1)],.v (.b t.2.2.2)]
theorem d294:DO (O294 u) (C13 u) 39 A39:=dO u (fun x=>by exact e294 u x.1.2.1.1 x.1.2.2.1.1 x.1.2.2.2.1.1 x.1.2.2.2.2.1.1 x.1.2.2.2.2.2.1 x.1.2.1.2 x.1.2.2.1.2 x.1.2.2.2.1.2 x.1.2.2.2.2.1.2 x.1.2.2.2.2.2.2 x.1.1 x.2)
def C14:Oracle:=(C13 u).add 39 (fun _=>true) (O294 u)
def A63v1:AC:=(.region 5 [mv 10 5,o1 11 (bk .add 3 10 1),o1 5 (sg 11)] 0 none)
def A63v2:AC:=(.seq (.block 1
 (.seq (.region 6 [mv 12 5,mv 13 0,o1 14 (.len 9 true (tm 13)),o1 15 (bt .eql 3 12 14),mv 16 15,og 17 (.move (tm 0)) 16 false,og 18 (.move (tm 5)) 16 false,og 19 (.indexS 9 (tm 17) (tm 18)) 16 false,og 20 (.binOp .eql 5 (tm 19) (.const (.int .u8 46)) 5) 16 false,o1 21 (pa 16 20)] 0 none) []
  (.cond (tm 21)
  (.seq (.region 7 [mv 22 3,mv 23 0,mv 24 4,mv 25 5,o1 26 (.sliceS 9 (tm 23) (some (tm 24)) (some (tm 25))),o1 27 (.buildSlice 0 37 9 (.pr .str .nil) 1 [vcs ByteArray.empty] [(0,(tm 26))]),o1 28 (.append 1 37 9 (.pr .str .nil) 16 (tm 22) (tm 27)),o1 3 (sg 28)] 2 none) []
   (.region 8 [mv 29 5,o1 30 (bk .add 3 29 1),o1 4 (sg 30)] 0 none))
  .skip))) (rl 12 19 [])
 A63v1)
def A63v3:AC:=(.seq (.seq (.region 4 [mv 6 5,mv 7 0,o1 8 (.len 9 true (tm 7)),o1 9 (bt .leq 3 6 8)] 0 none) []
 (.cond (tm 9)
 .skip
 (.exit 0 (0 :: 1 :: 2 :: (rl 4 28 []))))) (rl 6 4 [])
 A63v2)
def A63v4:AC:=(.seq (.region 9 [mv 31 3,o1 2 (sg 31)] 0 none) []
 (.ret (0 :: 1 :: (rl 3 29 []))))
def A63:AF:=⟨32,[.tmp 2],
 (.seq (.region 0 [o1 2 (.assign (.const (.slice none 0 0)))] 0 none) []
 (.seq (.region 1 [o1 3 (.assign (.const (.slice none 0 0)))] 0 none) []
 (.seq (.region 2 [o1 4 (sk 0)] 0 none) []
 (.seq (.seq (.region 3 [o1 5 (sk 0)] 0 none) []
 (.block 0
 (.loop [.slot 3 (.pr .str .nil)] (1 :: 2 :: (rl 6 26 []))
  A63v3))) (rl 4 27 [])
 A63v4))))⟩
def N300v1:St→Option St:=nN 1 (1 :: 2 :: (rl 6 26 []))
def s300v0:St:=⟨(vxs w0 :: .u :: .u :: .x (.own 0 0 n0) :: vxi i0 :: vxi i1 :: (us 26 [])),[.arr (.pr .str .nil) n0 f0]⟩
def s300v1:St:=⟨(us 3 (.x (.own 0 0 n0) :: (us 28 []))),[.arr (.pr .str .nil) n0 f0]⟩
def L300v1 {ρ:Type} (u:Nat) (x0:ByteArray):Nat→Nat→Int→Int→FF→(Nat→FF→Option ρ)→Option ρ
 | 0,_,_,_,_,_=>none
 | m+1,x1,x2,x3,x4,k0 =>
  (bif (decide (x3≤(Int.ofNat (ByteArray.size x0)))) then (bif ((x3==(Int.ofNat (ByteArray.size x0)))==false) then (bif (inb x3 (ByteArray.size x0)) then (bif ((Int.ofNat (UInt8.toNat (List.getD (Array.toList (ByteArray.data x0)) x3.toNat 0)))==46) then (bif (inbe x3 (ByteArray.size x0)) then (bif (inbe x2 x3.toNat) then (bif (Nat.ble (x1+1) 1073741824) then (L300v1 u x0 m (x1+1) (w64 (x3+1)) (w64 (x3+1)) (joinF x1 x4 (rowsF 1 [(.s (ByteArray.extract x0 x2.toNat x3.toNat))])) k0) else none) else none) else none) else (L300v1 u x0 m x1 x2 (w64 (x3+1)) x4 k0)) else none) else (bif (inbe x3 (ByteArray.size x0)) then (bif (inbe x2 x3.toNat) then (bif (Nat.ble (x1+1) 1073741824) then (L300v1 u x0 m (x1+1) (w64 (x3+1)) (w64 (x3+1)) (joinF x1 x4 (rowsF 1 [(.s (ByteArray.extract x0 x2.toNat x3.toNat))])) k0) else none) else none) else none)) else (k0 x1 x4))
theorem nl300v1:∀ (m:Nat) (x0:Nat) (x1 x2:Int) (x3:FF) (k0:Nat→FF→Option ρ),ob (L300v1 u w0 m x0 x1 x2 x3 k0) ng=L300v1 u w0 m x0 x1 x2 x3 (fun x4 x5=>ob (k0 x4 x5) ng)
 | 0,_,_,_,_,_=>rfl
 | m+1,x0,x1,x2,x3,k0=>by
  simp only [L300v1,ob_bif,ob_ob,ob_none,nl300v1 m]
theorem q300v1:∀ (m:Nat) (x0:Nat) (x1 x2:Int) (x3:FF),
  loopH (eB A63v3 (C14 u) u) N300v1 m (s300v0 x0 x3 x1 x2 w0) k=L300v1 u w0 m x0 x1 x2 x3 (fun x4 x5=>k (.exit 0) (s300v1 x4 x5))
 | 0,_,_,_,_=>rfl
 | m+1,x0,x1,x2,x3=>by
  simp only [L300v1,← q300v1 m]
  kernel_rfl
def F300 (x0:ByteArray):Option (Nat × FF) :=
 (L300v1 u x0 u 0 0 0 (fun _ _=>.any)
  (fun x1 x2=>(some (x1,x2))))
def s300v2:St:=⟨[vxs w0,uu,.x (vcn),.x (.own 0 0 0),vxi 0,vxi 0,uu,uu,uu,uu,uu,uu,uu,uu,uu,uu,uu,uu,uu,uu,uu,uu,uu,uu,uu,uu,uu,uu,uu,uu,uu,uu],[.arr (.pr .str .nil) 0 nilF]⟩
theorem t300v1 :
  loopN (eB A63v3 (C14 u) u) N300v1 u (s300v2 w0) k =
  L300v1 u w0 u 0 0 0 nilF (fun x0 x1=>k (.exit 0) (s300v1 x0 x1)) :=
 Eq.trans (loopN_at (by kernel_rfl)) (q300v1 ..)
theorem g300v2 :
  (kBlk 0 (kSeq (C14 u) u (rl 4 27 []) A63v4 (finish A63))) (.exit 0) (s300v1 n0 f0) =
  (some [.v (ro (.pr .str .nil) n0 f0)]):=by kernel_rfl
theorem e300:evalF (C14 u) u A63 [.v (.s w0)]=ob (F300 u w0) fun t=>some [.v (ro (.pr .str .nil) t.1 t.2)]:=Eq.trans (b:=(loopN (eB A63v3 (C14 u) u) N300v1 u (s300v2 w0) (kBlk 0 (kSeq (C14 u) u (rl 4 27 []) A63v4 (finish A63))))) (by kernel_rfl) (by
 simp only [F300,ob_bif,ob_ob,ob_none,ob_some,nl300v1,t300v1,g300v2])
def O300:Ora:=mkO (q1 (av cS)) (fun x=>F300 u x) fun t=>[.v (ro (.pr .str .nil) t.1 t.2)]
theorem d300:DO (O300 u) (C14 u) 63 A63:=dO u (fun x=>by exact e300 u x)
def C15:Oracle:=(C14 u).add 63 (fun _=>true) (O300 u)
def A40v1:AC:=(.region 6 [mv 19 4,o1 20 (bk .add 3 19 1),o1 4 (sg 20)] 0 none)
def A40v2:AC:=(.seq (.block 1
 (.seq (.region 7 [mv 21 3,mv 22 4,o1 23 (.indexAddr 37 9 1 (tm 21) (tm 22)),o1 24 (lo 9 23),o1 25 (cs 33 [24] [9]),o1 26 (.unOp .not 4 (tm 25))] 0 none) []
  (.cond (tm 26)
  (.seq (.region 8 [o1 2 (sb false)] 0 none) []
   (.ret (0 :: 1 :: (rl 3 24 []))))
  .skip))) (2 :: (rl 21 6 []))
 A40v1)
def A40v3:AC:=(.seq (.seq (.region 5 [mv 15 4,mv 16 3,o1 17 (.len 37 false (tm 16)),o1 18 (bt .lss 3 15 17)] 0 none) []
 (.cond (tm 18)
 .skip
 (.exit 0 (rl 0 27 [])))) (rl 15 4 [])
 A40v2)
def A40v4:AC:=(.seq (.region 9 [o1 2 (sb true)] 0 none) []
 (.ret (0 :: 1 :: (rl 3 24 []))))
def A40v5:AC:=(.seq (.seq (.region 4 [o1 4 (sk 0)] 0 none) []
 (.block 0
 (.loop [] (0 :: 1 :: 2 :: (rl 5 22 []))
  A40v3))) (2 :: 4 :: (rl 15 12 []))
 A40v4)
def A40:AF:=⟨27,[.tmp 2],
 (.seq (.region 0 [o1 2 (sb false)] 0 none) []
 (.seq (.region 1 [mv 5 0,o1 6 (cf 63 [5] [9]),o1 3 (sg 6)] 0 none) []
 (.seq (.seq (.region 2 [mv 7 0,o1 8 (.len 9 true (tm 7)),o1 9 (bk .gtr 3 8 64),mv 10 9,og 11 (.move (tm 3)) 10 false,og 12 (.len 37 false (tm 11)) 10 false,og 13 (bk .gtr 3 12 8) 10 false,o1 14 (pa 10 13)] 0 none) []
 (.cond (tm 14)
 (.seq (.region 3 [o1 2 (sb false)] 0 none) []
  (.ret (0 :: 1 :: (rl 3 24 []))))
 .skip)) (2 :: (rl 7 8 []))
 A40v5)))⟩
def N301v1:St→Option St:=nN 0 (0 :: 1 :: 2 :: (rl 5 22 []))
def s301v0:St:=⟨(us 3 (.x (.c (ro (.pr .str .nil) n0 f0)) :: vxi i0 :: (us 22 []))),[]⟩
def s301v1:St:=⟨(.u :: .u :: vxb false :: (us 24 [])),[]⟩
def s301v2:St:=⟨(us 27 []),[]⟩
def L301v1 {ρ:Type} (u:Nat) (x0:Nat) (x1:FF):Nat→Int→(Option ρ)→(Option ρ)→Option ρ
 | 0,_,_,_=>none
 | m+1,x2,k0,k1 =>
  (bif (decide (x2<(Int.ofNat x0))) then (bif (inb x2 x0) then (ob (F285 u (x1 x2.toNat 0).str) fun x3=>(bif (!x3) then k0 else (L301v1 u x0 x1 m (w64 (x2+1)) k0 k1))) else none) else k1)
theorem nl301v1:∀ (m:Nat) (x0:Int) (k0:Option ρ) (k1:Option ρ),ob (L301v1 u n0 f0 m x0 k0 k1) ng=L301v1 u n0 f0 m x0 (ob k0 ng) (ob k1 ng)
 | 0,_,_,_=>rfl
 | m+1,x0,k0,k1=>by
  simp only [L301v1,ob_bif,ob_ob,ob_none,nl301v1 m]
theorem q301v1:∀ (m:Nat) (x0:Int),
  loopH (eB A40v3 (C15 u) u) N301v1 m (s301v0 n0 f0 x0) k=L301v1 u n0 f0 m x0 (k .ret s301v1) (k (.exit 0) s301v2)
 | 0,_=>rfl
 | m+1,x0=>by
  simp only [L301v1,← q301v1 m]
  kernel_rfl
def F301 (x0:ByteArray):Option (Bool) :=
 (ob (F300 u x0) fun x1=>(bif ((decide ((Int.ofNat (ByteArray.size x0))>64))==false) then (bif (decide ((Int.ofNat x1.1)>8)) then (some false) else (L301v1 u x1.1 x1.2 u 0
  (some false)
  (some true))) else (some false)))
def s301v3 (x0:Nat × FF):St:=⟨(vxs w0 :: uu :: .u :: .x (.c (ro (.pr .str .nil) x0.1 x0.2)) :: vxi 0 :: vxs w0 :: .x (.c (ro (.pr .str .nil) x0.1 x0.2)) :: (us 8 [uu,uu,uu,uu,uu,uu,uu,uu,uu,uu,uu,uu])),[]⟩
theorem t301v1 (x0:Nat × FF) :
  loopN (eB A40v3 (C15 u) u) N301v1 u (s301v3 w0 x0) k =
  L301v1 u x0.1 x0.2 u 0 (k .ret s301v1) (k (.exit 0) s301v2) :=
 Eq.trans (loopN_at (by kernel_rfl)) (q301v1 ..)
theorem g301v2 :
  (kBlk 0 (kSeq (C15 u) u (2 :: 4 :: (rl 15 12 [])) A40v4 (finish A40))) .ret s301v1 =
  (some [.v (.b false)]):=by kernel_rfl
theorem g301v3 :
  (kBlk 0 (kSeq (C15 u) u (2 :: 4 :: (rl 15 12 [])) A40v4 (finish A40))) (.exit 0) s301v2 =
  (some [.v (.b true)]):=by kernel_rfl
theorem e301:evalF (C15 u) u A40 [.v (.s w0)]=ob (F301 u w0) fun t=>some [.v (.b t)]:=Eq.trans (b:=(ob (F300 u w0) fun x0=>(bif ((decide ((Int.ofNat (ByteArray.size w0))>64))==false) then (bif (decide ((Int.ofNat x0.1)>8)) then (some [.v (.b false)]) else (loopN (eB A40v3 (C15 u) u) N301v1 u (s301v3 w0 x0) (kBlk 0 (kSeq (C15 u) u (2 :: 4 :: (rl 15 12 [])) A40v4 (finish A40))))) else (some [.v (.b false)])))) (by kernel_rfl) (by
 simp only [F301,ob_bif,ob_ob,ob_none,ob_some,nl301v1,t301v1,g301v2,g301v3])
def O301:Ora:=mkO (q1 (av cS)) (fun x=>F301 u x) fun t=>[.v (.b t)]
theorem d301:DO (O301 u) (C15 u) 40 A40:=dO u (fun x=>by exact e301 u x)
def C16:Oracle:=(C15 u).add 40 (fun _=>true) (O301 u)
def A41v1:AC:=(.region 11 [o1 30 (fa 60 8 2 2),o1 31 (lo 9 30),o1 1 (sg 31)] 0 none)
def A41v2:AC:=(.seq (.region 8 [mv 22 6,mv 23 1,o1 24 (.buildSlice 0 37 9 (.pr .str .nil) 1 [vcs ByteArray.empty] [(0,(tm 23))]),o1 25 (.append 1 37 9 (.pr .str .nil) 16 (tm 22) (tm 24)),o1 6 (sg 25)] 2 none) []
 (.seq (.seq (.region 9 [o1 26 (fa 60 8 1 1),o1 27 (lo 3 26),o1 28 (bk .eql 3 27 1)] 0 none) []
 (.cond (tm 28)
 (.seq (.region 10 [mv 29 6,o1 4 (sg 29),o1 5 (sb true)] 0 none) []
  (.ret (rl 0 4 (rl 6 26 []))))
 .skip)) (4 :: 5 :: (rl 26 4 []))
 A41v1))
def A41v3:AC:=(.region 4 [mv 12 7,o1 13 (bk .add 3 12 1),o1 7 (sg 13)] 0 none)
def A41v4:AC:=(.seq (.block 1
 (.seq (.region 5 [o1 15 (ln 28 6 2),mv 16 1,o1 17 (cs 39 [15,16] [28,9]),mv 14 17,o1 18 (.extract (tm 14) 0),o1 19 (.extract (tm 14) 1),o1 8 (.alloc 0 60 [vcs ByteArray.empty,vci 0,vcs ByteArray.empty]),o0 (.store 60 3 (tm 8) (tm 18)),o1 9 (sg 19)] 1 none) []
  (.seq (.seq (.region 6 [mv 20 9,o1 21 (.unOp .not 4 (tm 20))] 0 none) []
  (.cond (tm 21)
  (.seq (.region 7 [o1 4 (.assign (.const (.slice none 0 0))),o1 5 (sb false)] 0 none) []
   (.ret (rl 0 4 (rl 6 26 []))))
  .skip)) [4,5,20,21]
  A41v2))) (4 :: 5 :: 8 :: 9 :: (rl 14 18 []))
 A41v3)
def A41v5:AC:=(.seq (.seq (.region 3 [mv 10 7,o1 11 (bk .leq 3 10 64)] 0 none) []
 (.cond (tm 11)
 .skip
 (.exit 0 (rl 0 32 [])))) [10,11]
 A41v4)
def A41v6:AC:=(.seq (.region 12 [o1 4 (.assign (.const (.slice none 0 0))),o1 5 (sb false)] 0 none) []
 (.ret (rl 0 4 (rl 6 26 []))))
def A41:AF:=⟨32,[.tmp 4,.tmp 5],
 (.seq (.region 0 [o1 2 (bx 0 28 0),o1 4 (.assign (.const (.slice none 0 0))),o1 5 (sb false)] 1 none) []
 (.seq (.region 1 [o1 6 (.assign (.const (.slice none 0 0)))] 0 none) []
 (.seq (.seq (.region 2 [o1 7 (sk 0)] 0 none) []
 (.block 0
 (.loop [.slot 6 (.pr .str .nil)] (0 :: 3 :: 4 :: 5 :: (rl 8 24 []))
  A41v5))) (1 :: (rl 4 28 []))
 A41v6)))⟩
def N302v1:St→Option St:=nN 2 (0 :: 3 :: 4 :: 5 :: (rl 8 24 []))
def s302v0:St:=⟨(.u :: vxs w0 :: .x (.ptr 0 0) :: (us 3 (.x (.own 1 0 n0) :: vxi i0 :: (us 24 [])))),[.box [(vcs w1),(.c (ro kE n1 f0)),(.c (ro kA n2 f1)),(.c (ro kG n3 f2)),(.c (ro kC n4 f3)),(.c (ro kF n5 f4))],.arr (.pr .str .nil) n0 f5]⟩
def s302v1:St:=⟨(us 4 (.x (vcn) :: vxb false :: (us 26 []))),[.box [(vcs w0),(.c (ro kE n0 f0)),(.c (ro kA n1 f1)),(.c (ro kG n2 f2)),(.c (ro kC n3 f3)),(.c (ro kF n4 f4))],.arr (.pr .str .nil) n5 f5,.box [(vcs w1),(vci i0),(vcs w2)]]⟩
def s302v2:St:=⟨(us 4 (.x (.own 1 0 n0) :: vxb true :: (us 26 []))),[.box [(vcs w0),(.c (ro kE n1 f0)),(.c (ro kA n2 f1)),(.c (ro kG n3 f2)),(.c (ro kC n4 f3)),(.c (ro kF n5 f4))],.arr (.pr .str .nil) n0 f5,.box [(vcs w1),(vci i0),(vcs w2)],.arr (.pr .str .nil) 1 f6,.rsv]⟩
def s302v3:St:=⟨(us 32 []),[.box [(vcs w0),(.c (ro kE n0 f0)),(.c (ro kA n1 f1)),(.c (ro kG n2 f2)),(.c (ro kC n3 f3)),(.c (ro kF n4 f4))],.arr (.pr .str .nil) n5 f5]⟩
def L302v1 {ρ:Type} (u:Nat) (x0:ByteArray) (x1:Nat) (x2:FF) (x3:Nat) (x4:FF) (x5:Nat) (x6:FF) (x7:Nat) (x8:FF) (x9:Nat) (xA:FF):Nat→ByteArray→Nat→Int→FF→(Nat→FF→ByteArray→Int→ByteArray→Option ρ)→(Nat→FF→ByteArray→Int→ByteArray→FF→Option ρ)→(Nat→FF→Option ρ)→Option ρ
 | 0,_,_,_,_,_,_,_=>none
 | m+1,xB,xC,xD,xE,k0,k1,k2 =>
  (bif (decide (xD≤64)) then (ob (F294 u x0 x1 x2 x3 x4 x5 x6 x7 x8 x9 xA xB) fun xF=>(bif (!xF.2.2.2) then (k0 xC xE xF.1 xF.2.1 xF.2.2.1) else (bif (Nat.ble (xC+1) 1073741824) then (bif (xF.2.1==1) then (k1 (xC+1) (joinF xC xE (rowsF 1 [(.s xB)])) xF.1 xF.2.1 xF.2.2.1 (rowsF 1 [(.s xB)])) else (L302v1 u x0 x1 x2 x3 x4 x5 x6 x7 x8 x9 xA m xF.2.2.1 (xC+1) (w64 (xD+1)) (joinF xC xE (rowsF 1 [(.s xB)])) k0 k1 k2)) else none))) else (k2 xC xE))
theorem nl302v1:∀ (m:Nat) (x0:ByteArray) (x1:Nat) (x2:Int) (x3:FF) (k0:Nat→FF→ByteArray→Int→ByteArray→Option ρ) (k1:Nat→FF→ByteArray→Int→ByteArray→FF→Option ρ) (k2:Nat→FF→Option ρ),ob (L302v1 u w0 n0 f0 n1 f1 n2 f2 n3 f3 n4 f4 m x0 x1 x2 x3 k0 k1 k2) ng=L302v1 u w0 n0 f0 n1 f1 n2 f2 n3 f3 n4 f4 m x0 x1 x2 x3 (fun x4 x5 x6 x7 x8=>ob (k0 x4 x5 x6 x7 x8) ng) (fun x9 xA xB xC xD xE=>ob (k1 x9 xA xB xC xD xE) ng) (fun xF xG=>ob (k2 xF xG) ng)
 | 0,_,_,_,_,_,_,_=>rfl
 | m+1,x0,x1,x2,x3,k0,k1,k2=>by
  simp only [L302v1,ob_bif,ob_ob,ob_none,nl302v1 m]
theorem q302v1:∀ (m:Nat) (x0:ByteArray) (x1:Nat) (x2:Int) (x3:FF),
  loopH (eB A41v5 (C16 u) u) N302v1 m (s302v0 x1 n0 n1 n2 n3 n4 f0 f1 f2 f3 f4 x3 x2 x0 w0) k=L302v1 u w0 n0 f0 n1 f1 n2 f2 n3 f3 n4 f4 m x0 x1 x2 x3 (fun x4 x5 x6 x7 x8=>k .ret (s302v1 n0 n1 n2 n3 n4 x4 f0 f1 f2 f3 f4 x5 x7 w0 x6 x8)) (fun x9 xA xB xC xD xE=>k .ret (s302v2 x9 n0 n1 n2 n3 n4 f0 f1 f2 f3 f4 xA xE xC w0 xB xD)) (fun xF xG=>k (.exit 0) (s302v3 n0 n1 n2 n3 n4 xF f0 f1 f2 f3 f4 xG w0))
 | 0,_,_,_,_=>rfl
 | m+1,x0,x1,x2,x3=>by
  simp only [L302v1,← q302v1 m]
  kernel_rfl
def FT302 (x0:ByteArray) (x1:Nat) (x2:FF) (x3:Nat) (x4:FF) (x5:Nat) (x6:FF) (x7:Nat) (x8:FF) (x9:Nat) (xA:FF) (xB:ByteArray):Option (Bool × Nat × FF × Bool) :=
 (L302v1 u x0 x1 x2 x3 x4 x5 x6 x7 x8 x9 xA u xB 0 0 (fun _ _=>.any)
  (fun xC xD xE xF xG=>(some (true,0,(fun _ _=>.any),false)))
  (fun xH xI xJ xK xL xM=>(some (false,xH,xI,true)))
  (fun xN xO=>(some (true,0,(fun _ _=>.any),false))))
def s302v4:St:=⟨[.agg [(vcs w0),(.c (ro kE n0 f0)),(.c (ro kA n1 f1)),(.c (ro kG n2 f2)),(.c (ro kC n3 f3)),(.c (ro kF n4 f4))],vxs w1,.x (.ptr 0 0),uu,.x (vcn),vxb false,.x (.own 1 0 0),vxi 0,uu,uu,uu,uu,uu,uu,uu,uu,uu,uu,uu,uu,uu,uu,uu,uu,uu,uu,uu,uu,uu,uu,uu,uu],[.box [(vcs w0),(.c (ro kE n0 f0)),(.c (ro kA n1 f1)),(.c (ro kG n2 f2)),(.c (ro kC n3 f3)),(.c (ro kF n4 f4))],.arr (.pr .str .nil) 0 nilF]⟩
theorem t302v1 :
  loopN (eB A41v5 (C16 u) u) N302v1 u (s302v4 n0 n1 n2 n3 n4 f0 f1 f2 f3 f4 w0 w1) k =
  L302v1 u w0 n0 f0 n1 f1 n2 f2 n3 f3 n4 f4 u w1 0 0 nilF (fun x0 x1 x2 x3 x4=>k .ret (s302v1 n0 n1 n2 n3 n4 x0 f0 f1 f2 f3 f4 x1 x3 w0 x2 x4)) (fun x5 x6 x7 x8 x9 xA=>k .ret (s302v2 x5 n0 n1 n2 n3 n4 f0 f1 f2 f3 f4 x6 xA x8 w0 x7 x9)) (fun xB xC=>k (.exit 0) (s302v3 n0 n1 n2 n3 n4 xB f0 f1 f2 f3 f4 xC w0)) :=
 Eq.trans (loopN_at (by kernel_rfl)) (q302v1 ..)
theorem g302v2 :
  (kBlk 0 (kSeq (C16 u) u (1 :: (rl 4 28 [])) A41v6 (finish A41))) .ret (s302v1 n0 n1 n2 n3 n4 n5 f0 f1 f2 f3 f4 f5 i0 w0 w1 w2) =
  (some [.v (.ro true .nil 0 nilF),.v (.b false)]):=by kernel_rfl
theorem g302v3 :
  (kBlk 0 (kSeq (C16 u) u (1 :: (rl 4 28 [])) A41v6 (finish A41))) .ret (s302v2 n0 n1 n2 n3 n4 n5 f0 f1 f2 f3 f4 f5 f6 i0 w0 w1 w2) =
  (some [.v (ro (.pr .str .nil) n0 f5),.v (.b true)]):=by kernel_rfl
theorem g302v4 :
  (kBlk 0 (kSeq (C16 u) u (1 :: (rl 4 28 [])) A41v6 (finish A41))) (.exit 0) (s302v3 n0 n1 n2 n3 n4 n5 f0 f1 f2 f3 f4 f5 w0) =
  (some [.v (.ro true .nil 0 nilF),.v (.b false)]):=by kernel_rfl
theorem e302:evalF (C16 u) u A41 [.agg [(.s w0),(ro kE n0 f0),(ro kA n1 f1),(ro kG n2 f2),(ro kC n3 f3),(ro kF n4 f4)],.v (.s w1)]=ob (FT302 u w0 n0 f0 n1 f1 n2 f2 n3 f3 n4 f4 w1) fun t=>some (bif t.1 then [.v (.ro true .nil 0 nilF),.v (.b false)] else [.v (ro (.pr .str .nil) t.2.1 t.2.2.1),.v (.b true)]):=Eq.trans (b:=(loopN (eB A41v5 (C16 u) u) N302v1 u (s302v4 n0 n1 n2 n3 n4 f0 f1 f2 f3 f4 w0 w1) (kBlk 0 (kSeq (C16 u) u (1 :: (rl 4 28 [])) A41v6 (finish A41))))) (by kernel_rfl) (by
 simp only [FT302,ob_bif,ob_ob,ob_none,ob_some,nl302v1,t302v1,g302v2,g302v3,g302v4,cond_true,cond_false])
def F302 (x0:ByteArray) (x1:Nat) (x2:FF) (x3:Nat) (x4:FF) (x5:Nat) (x6:FF) (x7:Nat) (x8:FF) (x9:Nat) (xA:FF) (xB:ByteArray):Option (Nat × FF × Bool):=ob (FT302 u x0 x1 x2 x3 x4 x5 x6 x7 x8 x9 xA xB) fun t=>some (bif t.1 then (0,(fun _ _=>.any),false) else (t.2.1,t.2.2.1,true))
def O302:Ora:=mkO (qc (ag (tc cS (tc (cL kE) (tc (cL kA) (tc (cL kG) (tc (cL kC) (t1 (cL kF)))))))) (q1 (av cS))) (fun x=>F302 u x.1.1 x.1.2.1.1 x.1.2.1.2 x.1.2.2.1.1 x.1.2.2.1.2 x.1.2.2.2.1.1 x.1.2.2.2.1.2 x.1.2.2.2.2.1.1 x.1.2.2.2.2.1.2 x.1.2.2.2.2.2.1 x.1.2.2.2.2.2.2 x.2) fun t=>[.v (ro (.pr .str .nil) t.1 t.2.1),.v (.b t.2.2)]
theorem d302:DO (O302 u) (C16 u) 41 A41:=dW u (fun x=>by exact e302 u x.1.2.1.1 x.1.2.2.1.1 x.1.2.2.2.1.1 x.1.2.2.2.2.1.1 x.1.2.2.2.2.2.1 x.1.2.1.2 x.1.2.2.1.2 x.1.2.2.2.1.2 x.1.2.2.2.2.1.2 x.1.2.2.2.2.2.2 x.1.1 x.2) (fun _=>rfl) fun t=>by
 obtain ⟨b,t⟩:=t
 cases b with
 | true=>exact (.cons (WkA.v (Wk.ro (by rfl))) (.cons (WkA.v (Wk.refl _)) .nil))
 | false =>
  exact (.cons (WkA.v (Wk.refl _)) (.cons (WkA.v (Wk.refl _)) .nil))
def C17:Oracle:=(C16 u).add 41 (fun _=>true) (O302 u)
def A46v1:AC:=(.region 3 [mv 12 6,o1 13 (bk .add 3 12 1),o1 6 (sg 13)] 0 none)
def A46v2:AC:=(.seq (.block 1
 (.seq (.region 4 [o1 14 (fa 28 2 2 2),o1 15 (lo 23 14),mv 16 6,o1 17 (.indexAddr 23 92 18 (tm 15) (tm 16)),o1 18 (fa 92 17 0 0),o1 19 (lo 9 18),mv 20 1,o1 21 (bt .eql 9 19 20)] 0 none) []
  (.cond (tm 21)
  (.seq (.region 5 [o1 22 (fa 28 2 2 2),o1 23 (lo 23 22),mv 24 6,o1 25 (.indexAddr 23 92 18 (tm 23) (tm 24)),o1 26 (ln 92 18 25),o0 (.store 92 18 (tm 4) (tm 26)),o1 5 (sb true)] 0 none) []
   (.ret (rl 0 4 (rl 6 22 []))))
  .skip))) (5 :: (rl 14 13 []))
 A46v1)
def A46v3:AC:=(.seq (.seq (.region 2 [mv 7 6,o1 8 (fa 28 2 2 2),o1 9 (lo 23 8),o1 10 (.len 23 false (tm 9)),o1 11 (bt .lss 3 7 10)] 0 none) []
 (.cond (tm 11)
 .skip
 (.exit 0 (rl 0 4 (rl 5 23 []))))) (rl 7 5 [])
 A46v2)
def A46v4:AC:=(.seq (.region 6 [o1 27 (.build 92 [vcs ByteArray.empty,vci 0,vci 0,vcs ByteArray.empty,vcs ByteArray.empty,vci 0,vcn,vcn,vcs ByteArray.empty,vci 0,vci 0,vci 0,vci 0,vci 0,vci 0,vci 0,vci 0,vci 0] [(0,1),(1,1),(2,1),(3,1),(4,1),(5,1),(6,2),(8,1),(9,1),(10,1),(11,3),(14,4)] 0 []),o0 (.store 92 18 (tm 4) (tm 27)),o1 5 (sb false)] 0 none) []
 (.ret (rl 0 4 (rl 6 22 []))))
def A46:AF:=⟨28,[.cell 4 92 (some 18),.tmp 5],
 (.seq (.region 0 [o1 2 (bx 0 28 0),o1 4 (.alloc 1 92 [vcs ByteArray.empty,vci 0,vci 0,vcs ByteArray.empty,vcs ByteArray.empty,vci 0,vcn,vcn,vcs ByteArray.empty,vci 0,vci 0,vci 0,vci 0,vci 0,vci 0,vci 0,vci 0,vci 0]),o1 5 (sb false)] 2 none) []
 (.seq (.seq (.region 1 [o1 6 (sk 0)] 0 none) []
 (.block 0
 (.loop [] (0 :: 3 :: 5 :: (rl 7 21 []))
  A46v3))) (rl 5 22 [])
 A46v4))⟩
def N303v1:St→Option St:=nN 2 (0 :: 3 :: 5 :: (rl 7 21 []))
def s303v0:St:=⟨(.u :: vxs w0 :: .x (.ptr 0 0) :: .u :: .x (.ptr 1 0) :: .u :: vxi i0 :: (us 21 [])),[.box [(vcs w1),(.c (ro kE n0 f0)),(.c (ro kA n1 f1)),(.c (ro kG n2 f2)),(.c (ro kC n3 f3)),(.c (ro kF n4 f4))],.box [(vcs ByteArray.empty),(vci 0),(vci 0),(vcs ByteArray.empty),(vcs ByteArray.empty),(vci 0),(vcn),(vcn),(vcs ByteArray.empty),(vci 0),(vci 0),(vci 0),(vci 0),(vci 0),(vci 0),(vci 0),(vci 0),(vci 0)]]⟩
def s303v1:St:=⟨(us 4 (.x (.ptr 1 0) :: vxb true :: (us 22 []))),[.box [(vcs w0),(.c (ro kE n0 f0)),(.c (ro kA n1 f1)),(.c (ro kG n2 f2)),(.c (ro kC n3 f3)),(.c (ro kF n4 f4))],.box [(vcs w1),(vci i0),(vci i1),(vcs w2),(vcs w3),(vci i2),(.c (ro kP n5 f5)),(.c (ro (.pr (.sl kP) .nil) n6 f6)),(vcs w4),(vci i3),(vci i4),(vci i5),(vci i6),(vci i7),(vci i8),(vci i9),(vci iA),(vci iB)]]⟩
def s303v2:St:=⟨(us 4 (.x (.ptr 1 0) :: (us 23 []))),[.box [(vcs w0),(.c (ro kE n0 f0)),(.c (ro kA n1 f1)),(.c (ro kG n2 f2)),(.c (ro kC n3 f3)),(.c (ro kF n4 f4))],.box [(vcs ByteArray.empty),(vci 0),(vci 0),(vcs ByteArray.empty),(vcs ByteArray.empty),(vci 0),(vcn),(vcn),(vcs ByteArray.empty),(vci 0),(vci 0),(vci 0),(vci 0),(vci 0),(vci 0),(vci 0),(vci 0),(vci 0)]]⟩
def L303v1 {ρ:Type} (u:Nat) (x0 x1:ByteArray) (x2:Nat) (x3:FF) (x4:Nat) (x5:FF) (x6:Nat) (x7:FF) (x8:Nat) (x9:FF) (xA:Nat) (xB:FF):Nat→Int→(ByteArray→Int→Int→ByteArray→ByteArray→Int→Nat→FF→Nat→FF→ByteArray→Int→Int→Int→Int→Int→Int→Int→Int→Int→Option ρ)→(Option ρ)→Option ρ
 | 0,_,_,_=>none
 | m+1,xC,k0,k1 =>
  (bif (decide (xC<(Int.ofNat x4))) then (bif (inb xC x4) then (bif (ByteArray.toList (x5 xC.toNat 0).str==ByteArray.toList x0) then (bif (inb xC x4) then (k0 (x5 xC.toNat 0).str (x5 xC.toNat 1).int (x5 xC.toNat 2).int (x5 xC.toNat 3).str (x5 xC.toNat 4).str (x5 xC.toNat 5).int (x5 xC.toNat 6).len (x5 xC.toNat 6).el (x5 xC.toNat 7).len (x5 xC.toNat 7).el (x5 xC.toNat 8).str (x5 xC.toNat 9).int (x5 xC.toNat 10).int (x5 xC.toNat 11).int (x5 xC.toNat 12).int (x5 xC.toNat 13).int (x5 xC.toNat 14).int (x5 xC.toNat 15).int (x5 xC.toNat 16).int (x5 xC.toNat 17).int) else none) else (L303v1 u x0 x1 x2 x3 x4 x5 x6 x7 x8 x9 xA xB m (w64 (xC+1)) k0 k1)) else none) else k1)
theorem nl303v1:∀ (m:Nat) (x0:Int) (k0:ByteArray→Int→Int→ByteArray→ByteArray→Int→Nat→FF→Nat→FF→ByteArray→Int→Int→Int→Int→Int→Int→Int→Int→Int→Option ρ) (k1:Option ρ),ob (L303v1 u w0 w1 n0 f0 n1 f1 n2 f2 n3 f3 n4 f4 m x0 k0 k1) ng=L303v1 u w0 w1 n0 f0 n1 f1 n2 f2 n3 f3 n4 f4 m x0 (fun x1 x2 x3 x4 x5 x6 x7 x8 x9 xA xB xC xD xE xF xG xH xI xJ xK=>ob (k0 x1 x2 x3 x4 x5 x6 x7 x8 x9 xA xB xC xD xE xF xG xH xI xJ xK) ng) (ob k1 ng)
 | 0,_,_,_=>rfl
 | m+1,x0,k0,k1=>by
  simp only [L303v1,ob_bif,ob_ob,ob_none,nl303v1 m]
theorem q303v1:∀ (m:Nat) (x0:Int),
  loopH (eB A46v3 (C17 u) u) N303v1 m (s303v0 n0 n1 n2 n3 n4 f0 f1 f2 f3 f4 x0 w0 w1) k=L303v1 u w0 w1 n0 f0 n1 f1 n2 f2 n3 f3 n4 f4 m x0 (fun x1 x2 x3 x4 x5 x6 x7 x8 x9 xA xB xC xD xE xF xG xH xI xJ xK=>k .ret (s303v1 n0 n1 n2 n3 n4 x7 x9 f0 f1 f2 f3 f4 x8 xA x2 x3 x6 xC xD xE xF xG xH xI xJ xK w1 x1 x4 x5 xB)) (k (.exit 0) (s303v2 n0 n1 n2 n3 n4 f0 f1 f2 f3 f4 w1))
 | 0,_=>rfl
 | m+1,x0=>by
  simp only [L303v1,← q303v1 m]
  kernel_rfl
def FT303 (x0:ByteArray) (x1:Nat) (x2:FF) (x3:Nat) (x4:FF) (x5:Nat) (x6:FF) (x7:Nat) (x8:FF) (x9:Nat) (xA:FF) (xB:ByteArray):Option (Bool × ByteArray × Int × Int × ByteArray × ByteArray × Int × Nat × FF × Nat × FF × ByteArray × Int × Int × Int × Int × Int × Int × Int × Int × Int × Bool) :=
 (L303v1 u xB x0 x1 x2 x3 x4 x5 x6 x7 x8 x9 xA u 0
  (fun xC xD xE xF xG xH xI xJ xK xL xM xN xO xP xQ xR xS xT xU xV=>(some (true,xC,xD,xE,xF,xG,xH,xI,xJ,xK,xL,xM,xN,xO,xP,xQ,xR,xS,xT,xU,xV,true)))
  (some (false,ByteArray.empty,0,0,ByteArray.empty,ByteArray.empty,0,0,(fun _ _=>.any),0,(fun _ _=>.any),ByteArray.empty,0,0,0,0,0,0,0,0,0,false)))
def s303v3:St:=⟨[.agg [(vcs w0),(.c (ro kE n0 f0)),(.c (ro kA n1 f1)),(.c (ro kG n2 f2)),(.c (ro kC n3 f3)),(.c (ro kF n4 f4))],vxs w1,.x (.ptr 0 0),uu,.x (.ptr 1 0),vxb false,vxi 0,uu,uu,uu,uu,uu,uu,uu,uu,uu,uu,uu,uu,uu,uu,uu,uu,uu,uu,uu,uu,uu],[.box [(vcs w0),(.c (ro kE n0 f0)),(.c (ro kA n1 f1)),(.c (ro kG n2 f2)),(.c (ro kC n3 f3)),(.c (ro kF n4 f4))],.box [(vcs ByteArray.empty),(vci 0),(vci 0),(vcs ByteArray.empty),(vcs ByteArray.empty),(vci 0),(vcn),(vcn),(vcs ByteArray.empty),(vci 0),(vci 0),(vci 0),(vci 0),(vci 0),(vci 0),(vci 0),(vci 0),(vci 0)]]⟩
theorem t303v1 :
  loopN (eB A46v3 (C17 u) u) N303v1 u (s303v3 n0 n1 n2 n3 n4 f0 f1 f2 f3 f4 w0 w1) k =
  L303v1 u w1 w0 n0 f0 n1 f1 n2 f2 n3 f3 n4 f4 u 0 (fun x0 x1 x2 x3 x4 x5 x6 x7 x8 x9 xA xB xC xD xE xF xG xH xI xJ=>k .ret (s303v1 n0 n1 n2 n3 n4 x6 x8 f0 f1 f2 f3 f4 x7 x9 x1 x2 x5 xB xC xD xE xF xG xH xI xJ w0 x0 x3 x4 xA)) (k (.exit 0) (s303v2 n0 n1 n2 n3 n4 f0 f1 f2 f3 f4 w0)) :=
 Eq.trans (loopN_at (by kernel_rfl)) (q303v1 ..)
theorem g303v2 :
  (kBlk 0 (kSeq (C17 u) u (rl 5 22 []) A46v4 (finish A46))) .ret (s303v1 n0 n1 n2 n3 n4 n5 n6 f0 f1 f2 f3 f4 f5 f6 i0 i1 i2 i3 i4 i5 i6 i7 i8 i9 iA iB w0 w1 w2 w3 w4) =
  (some [.agg [(.s w1),(vi i0),(vi i1),(.s w2),(.s w3),(vi i2),(ro kP n5 f5),(ro (.pr (.sl kP) .nil) n6 f6),(.s w4),(vi i3),(vi i4),(vi i5),(vi i6),(vi i7),(vi i8),(vi i9),(vi iA),(vi iB)],.v (.b true)]):=by kernel_rfl
theorem g303v3 :
  (kBlk 0 (kSeq (C17 u) u (rl 5 22 []) A46v4 (finish A46))) (.exit 0) (s303v2 n0 n1 n2 n3 n4 f0 f1 f2 f3 f4 w0) =
  (some [.agg [(.s ByteArray.empty),(vi 0),(vi 0),(.s ByteArray.empty),(.s ByteArray.empty),(vi 0),(.ro true .nil 0 nilF),(.ro true .nil 0 nilF),(.s ByteArray.empty),(vi 0),(vi 0),(vi 0),(vi 0),(vi 0),(vi 0),(vi 0),(vi 0),(vi 0)],.v (.b false)]):=by kernel_rfl
theorem e303:evalF (C17 u) u A46 [.agg [(.s w0),(ro kE n0 f0),(ro kA n1 f1),(ro kG n2 f2),(ro kC n3 f3),(ro kF n4 f4)],.v (.s w1)]=ob (FT303 u w0 n0 f0 n1 f1 n2 f2 n3 f3 n4 f4 w1) fun t=>some (bif t.1 then [.agg [(.s t.2.1),(vi t.2.2.1),(vi t.2.2.2.1),(.s t.2.2.2.2.1),(.s t.2.2.2.2.2.1),(vi t.2.2.2.2.2.2.1),(ro kP t.2.2.2.2.2.2.2.1 (p8 t).1),(ro (.pr (.sl kP) .nil) (p8 t).2.1 (p8 t).2.2.1),(.s (p8 t).2.2.2.1),(vi (p8 t).2.2.2.2.1),(vi (p8 t).2.2.2.2.2.1),(vi (p8 t).2.2.2.2.2.2.1),(vi (p8 t).2.2.2.2.2.2.2.1),(vi (pG t).1),(vi (pG t).2.1),(vi (pG t).2.2.1),(vi (pG t).2.2.2.1),(vi (pG t).2.2.2.2.1)],.v (.b true)] else [.agg [(.s ByteArray.empty),(vi 0),(vi 0),(.s ByteArray.empty),(.s ByteArray.empty),(vi 0),(.ro true .nil 0 nilF),(.ro true .nil 0 nilF),(.s ByteArray.empty),(vi 0),(vi 0),(vi 0),(vi 0),(vi 0),(vi 0),(vi 0),(vi 0),(vi 0)],.v (.b false)]):=Eq.trans (b:=(loopN (eB A46v3 (C17 u) u) N303v1 u (s303v3 n0 n1 n2 n3 n4 f0 f1 f2 f3 f4 w0 w1) (kBlk 0 (kSeq (C17 u) u (rl 5 22 []) A46v4 (finish A46))))) (by kernel_rfl) (by
 simp only [FT303,ob_bif,ob_ob,ob_none,ob_some,nl303v1,t303v1,g303v2,g303v3,cond_true,cond_false])
def F303 (x0:ByteArray) (x1:Nat) (x2:FF) (x3:Nat) (x4:FF) (x5:Nat) (x6:FF) (x7:Nat) (x8:FF) (x9:Nat) (xA:FF) (xB:ByteArray):Option (ByteArray × Int × Int × ByteArray × ByteArray × Int × Nat × FF × Nat × FF × ByteArray × Int × Int × Int × Int × Int × Int × Int × Int × Int × Bool):=ob (FT303 u x0 x1 x2 x3 x4 x5 x6 x7 x8 x9 xA xB) fun t=>some (bif t.1 then (t.2.1,t.2.2.1,t.2.2.2.1,t.2.2.2.2.1,t.2.2.2.2.2.1,t.2.2.2.2.2.2.1,t.2.2.2.2.2.2.2.1,(p8 t).1,(p8 t).2.1,(p8 t).2.2.1,(p8 t).2.2.2.1,(p8 t).2.2.2.2.1,(p8 t).2.2.2.2.2.1,(p8 t).2.2.2.2.2.2.1,(p8 t).2.2.2.2.2.2.2.1,(pG t).1,(pG t).2.1,(pG t).2.2.1,(pG t).2.2.2.1,(pG t).2.2.2.2.1,true) else (ByteArray.empty,0,0,ByteArray.empty,ByteArray.empty,0,0,(fun _ _=>.any),0,(fun _ _=>.any),ByteArray.empty,0,0,0,0,0,0,0,0,0,false))
def O303:Ora:=mkO (qc (ag (tc cS (tc (cL kE) (tc (cL kA) (tc (cL kG) (tc (cL kC) (t1 (cL kF)))))))) (q1 (av cS))) (fun x=>F303 u x.1.1 x.1.2.1.1 x.1.2.1.2 x.1.2.2.1.1 x.1.2.2.1.2 x.1.2.2.2.1.1 x.1.2.2.2.1.2 x.1.2.2.2.2.1.1 x.1.2.2.2.2.1.2 x.1.2.2.2.2.2.1 x.1.2.2.2.2.2.2 x.2) fun t=>[.agg [(.s t.1),(vi t.2.1),(vi t.2.2.1),(.s t.2.2.2.1),(.s t.2.2.2.2.1),(vi t.2.2.2.2.2.1),(ro kP t.2.2.2.2.2.2.1 t.2.2.2.2.2.2.2.1),(ro (.pr (.sl kP) .nil) (p8 t).1 (p8 t).2.1),(.s (p8 t).2.2.1),(vi (p8 t).2.2.2.1),(vi (p8 t).2.2.2.2.1),(vi (p8 t).2.2.2.2.2.1),(vi (p8 t).2.2.2.2.2.2.1),(vi (p8 t).2.2.2.2.2.2.2.1),(vi (pG t).1),(vi (pG t).2.1),(vi (pG t).2.2.1),(vi (pG t).2.2.2.1)],.v (.b (pG t).2.2.2.2)]
theorem d303:DO (O303 u) (C17 u) 46 A46:=dW u (fun x=>by exact e303 u x.1.2.1.1 x.1.2.2.1.1 x.1.2.2.2.1.1 x.1.2.2.2.2.1.1 x.1.2.2.2.2.2.1 x.1.2.1.2 x.1.2.2.1.2 x.1.2.2.2.1.2 x.1.2.2.2.2.1.2 x.1.2.2.2.2.2.2 x.1.1 x.2) (fun _=>rfl) fun t=>by
 obtain ⟨b,t⟩:=t
 cases b with
 | true=>exact (.cons (WkA.agg (.cons (Wk.refl _) (.cons (Wk.refl _) (.cons (Wk.refl _) (.cons (Wk.refl _) (.cons (Wk.refl _) (.cons (Wk.refl _) (.cons (Wk.refl _) (.cons (Wk.refl _) (.cons (Wk.refl _) (.cons (Wk.refl _) (.cons (Wk.refl _) (.cons (Wk.refl _) (.cons (Wk.refl _) (.cons (Wk.refl _) (.cons (Wk.refl _) (.cons (Wk.refl _) (.cons (Wk.refl _) (.cons (Wk.refl _) .nil))))))))))))))))))) (.cons (WkA.v (Wk.refl _)) .nil))
 | false =>
  exact (.cons (WkA.agg (.cons (Wk.refl _) (.cons (Wk.refl _) (.cons (Wk.refl _) (.cons (Wk.refl _) (.cons (Wk.refl _) (.cons (Wk.refl _) (.cons (Wk.ro (by rfl)) (.cons (Wk.ro (by rfl)) (.cons (Wk.refl _) (.cons (Wk.refl _) (.cons (Wk.refl _) (.cons (Wk.refl _) (.cons (Wk.refl _) (.cons (Wk.refl _) (.cons (Wk.refl _) (.cons (Wk.refl _) (.cons (Wk.refl _) (.cons (Wk.refl _) .nil))))))))))))))))))) (.cons (WkA.v (Wk.refl _)) .nil))
def C18:Oracle:=(C17 u).add 46 (fun _=>true) (O303 u)
def A42v1:AC:=(.region 7 [o1 31 (fa 92 8 3 3),o1 32 (lo 9 31),o1 5 (sg 32)] 0 none)
def A42v2:AC:=(.seq (.block 1
 (.region 13 [mv 46 12,mv 47 10,mv 48 13,o1 49 (.indexAddr 37 9 1 (tm 47) (tm 48)),o1 50 (lo 9 49),o1 51 (.buildSlice 0 37 9 (.pr .str .nil) 1 [vcs ByteArray.empty] [(0,(tm 50))]),o1 52 (.append 1 37 9 (.pr .str .nil) 16 (tm 46) (tm 51)),o1 12 (sg 52)] 2 none)) []
 (.region 12 [mv 44 13,o1 45 (bk .sub 3 44 1),o1 13 (sg 45)] 0 none))
def A42v3:AC:=(.seq (.seq (.region 11 [mv 42 13,o1 43 (bk .geq 3 42 0)] 0 none) []
 (.cond (tm 43)
 .skip
 (.exit 0 (rl 0 12 (rl 13 41 []))))) [42,43]
 A42v2)
def A42v4:AC:=(.seq (.region 14 [mv 53 12,o1 4 (sg 53)] 0 none) []
 (.ret (rl 0 4 (rl 5 49 []))))
def A42v5:AC:=(.seq (.region 8 [o1 34 (ln 28 6 2),mv 35 5,o1 36 (cf 41 [34,35] [28,9]),mv 33 36,o1 37 (.extract (tm 33) 0),o1 38 (.extract (tm 33) 1),o1 10 (sg 37),o1 11 (sg 38)] 0 none) []
 (.seq (.region 9 [o1 12 (.assign (.const (.slice none 0 0)))] 0 none) []
 (.seq (.seq (.region 10 [mv 39 10,o1 40 (.len 37 false (tm 39)),o1 41 (bk .sub 3 40 1),o1 13 (sg 41)] 0 none) []
 (.block 0
 (.loop [.slot 12 (.pr .str .nil)] (rl 0 10 (11 :: (rl 14 40 [])))
  A42v3))) (13 :: (rl 39 14 []))
 A42v4)))
def A42:AF:=⟨54,[.tmp 4],
 (.seq (.region 0 [o1 2 (bx 0 28 0),o1 4 (.assign (.const (.slice none 0 0)))] 1 none) []
 (.seq (.region 1 [mv 14 1,o1 5 (sg 14)] 0 none) []
 (.seq (.seq (.region 2 [o1 16 (ln 28 6 2),mv 17 1,o1 18 (cs 39 [16,17] [28,9]),mv 15 18,o1 19 (.extract (tm 15) 0),o1 20 (.extract (tm 15) 1),o1 6 (.alloc 0 60 [vcs ByteArray.empty,vci 0,vcs ByteArray.empty]),o0 (.store 60 3 (tm 6) (tm 19)),o1 7 (sg 20)] 1 none) []
 (.seq (.region 3 [mv 21 7,o1 22 (.unOp .not 4 (tm 21))] 0 none) []
 (.cond (tm 22)
 (.seq (.region 4 [o1 24 (ln 28 6 2),mv 25 1,o1 26 (cf 46 [24,25] [28,9]),mv 23 26,o1 27 (.extract (tm 23) 0),o1 28 (.extract (tm 23) 1),o1 8 (.alloc 0 92 [vcs ByteArray.empty,vci 0,vci 0,vcs ByteArray.empty,vcs ByteArray.empty,vci 0,vcn,vcn,vcs ByteArray.empty,vci 0,vci 0,vci 0,vci 0,vci 0,vci 0,vci 0,vci 0,vci 0]),o0 (.store 92 18 (tm 8) (tm 27)),o1 9 (sg 28)] 1 none) []
  (.seq (.seq (.region 5 [mv 29 9,o1 30 (.unOp .not 4 (tm 29))] 0 none) []
  (.cond (tm 30)
  (.seq (.region 6 [o1 4 (.assign (.const (.slice none 0 0)))] 0 none) []
   (.ret (rl 0 4 (rl 5 49 []))))
  .skip)) [4,29,30]
  A42v1))
 .skip))) (4 :: (rl 6 4 (rl 15 18 [])))
 A42v5)))⟩
def N304v1:St→Option St:=nN 4 (rl 0 10 (11 :: (rl 14 40 [])))
def s304v0:St:=⟨(us 10 (.x (.c (ro (.pr .str .nil) n0 f0)) :: .u :: .x (.own 3 0 n1) :: vxi i0 :: (us 40 []))),[.box [(vcs w0),(.c (ro kE n2 f1)),(.c (ro kA n3 f2)),(.c (ro kG n4 f3)),(.c (ro kC n5 f4)),(.c (ro kF n6 f5))],.box [(vcs w1),(vci i1),(vcs w2)],.box [(vcs w3),(vci i2),(vci i3),(vcs w4),(vcs w5),(vci i4),(.c (ro kP n7 f6)),(.c (ro (.pr (.sl kP) .nil) n8 f7)),(vcs w6),(vci i5),(vci i6),(vci i7),(vci i8),(vci i9),(vci iA),(vci iB),(vci iC),(vci iD)],.arr (.pr .str .nil) n1 f8]⟩
def s304v1:St:=⟨(us 12 (.x (.own 3 0 n0) :: (us 41 []))),[.box [(vcs w0),(.c (ro kE n1 f0)),(.c (ro kA n2 f1)),(.c (ro kG n3 f2)),(.c (ro kC n4 f3)),(.c (ro kF n5 f4))],.box [(vcs w1),(vci i0),(vcs w2)],.box [(vcs w3),(vci i1),(vci i2),(vcs w4),(vcs w5),(vci i3),(.c (ro kP n6 f5)),(.c (ro (.pr (.sl kP) .nil) n7 f6)),(vcs w6),(vci i4),(vci i5),(vci i6),(vci i7),(vci i8),(vci i9),(vci iA),(vci iB),(vci iC)],.arr (.pr .str .nil) n0 f7]⟩
def L304v1 {ρ:Type} (u:Nat) (x0:Nat) (x1:FF) (x2:ByteArray) (x3:Nat) (x4:FF) (x5:Nat) (x6:FF) (x7:Nat) (x8:FF) (x9:Nat) (xA:FF) (xB:Nat) (xC:FF) (xD:ByteArray) (xE:Int) (xF xG:ByteArray) (xH xI:Int) (xJ xK:ByteArray) (xL:Int) (xM:Nat) (xN:FF) (xO:Nat) (xP:FF) (xQ:ByteArray) (xR xS xT xU xV xW xX xY xZ:Int):Nat→Nat→Int→FF→(Nat→FF→Option ρ)→Option ρ
 | 0,_,_,_,_=>none
 | m+1,xa,xb,xc,k0 =>
  (bif (decide (xb≥0)) then (bif (inb xb x0) then (bif (Nat.ble (xa+1) 1073741824) then (L304v1 u x0 x1 x2 x3 x4 x5 x6 x7 x8 x9 xA xB xC xD xE xF xG xH xI xJ xK xL xM xN xO xP xQ xR xS xT xU xV xW xX xY xZ m (xa+1) (w64 (xb-1)) (joinF xa xc (rowsF 1 [(.s (x1 xb.toNat 0).str)])) k0) else none) else none) else (k0 xa xc))
theorem nl304v1:∀ (m:Nat) (x0:Nat) (x1:Int) (x2:FF) (k0:Nat→FF→Option ρ),ob (L304v1 u n0 f0 w0 n1 f1 n2 f2 n3 f3 n4 f4 n5 f5 w1 i0 w2 w3 i1 i2 w4 w5 i3 n6 f6 n7 f7 w6 i4 i5 i6 i7 i8 i9 iA iB iC m x0 x1 x2 k0) ng=L304v1 u n0 f0 w0 n1 f1 n2 f2 n3 f3 n4 f4 n5 f5 w1 i0 w2 w3 i1 i2 w4 w5 i3 n6 f6 n7 f7 w6 i4 i5 i6 i7 i8 i9 iA iB iC m x0 x1 x2 (fun x3 x4=>ob (k0 x3 x4) ng)
 | 0,_,_,_,_=>rfl
 | m+1,x0,x1,x2,k0=>by
  simp only [L304v1,ob_bif,ob_ob,ob_none,nl304v1 m]
theorem q304v1:∀ (m:Nat) (x0:Nat) (x1:Int) (x2:FF),
  loopH (eB A42v3 (C18 u) u) N304v1 m (s304v0 n0 x0 n1 n2 n3 n4 n5 n6 n7 f0 f1 f2 f3 f4 f5 f6 f7 x2 x1 i0 i1 i2 i3 i4 i5 i6 i7 i8 i9 iA iB iC w0 w1 w2 w3 w4 w5 w6) k=L304v1 u n0 f0 w0 n1 f1 n2 f2 n3 f3 n4 f4 n5 f5 w1 i0 w2 w3 i1 i2 w4 w5 i3 n6 f6 n7 f7 w6 i4 i5 i6 i7 i8 i9 iA iB iC m x0 x1 x2 (fun x3 x4=>k (.exit 0) (s304v1 x3 n1 n2 n3 n4 n5 n6 n7 f1 f2 f3 f4 f5 f6 f7 x4 i0 i1 i2 i3 i4 i5 i6 i7 i8 i9 iA iB iC w0 w1 w2 w3 w4 w5 w6))
 | 0,_,_,_=>rfl
 | m+1,x0,x1,x2=>by
  simp only [L304v1,← q304v1 m]
  kernel_rfl
def N304v2:St→Option St:=nN 3 (rl 0 10 (11 :: (rl 14 40 [])))
def s304v2:St:=⟨(us 10 (.x (.c (ro (.pr .str .nil) n0 f0)) :: .u :: .x (.own 2 0 n1) :: vxi i0 :: (us 40 []))),[.box [(vcs w0),(.c (ro kE n2 f1)),(.c (ro kA n3 f2)),(.c (ro kG n4 f3)),(.c (ro kC n5 f4)),(.c (ro kF n6 f5))],.box [(vcs w1),(vci i1),(vcs w2)],.arr (.pr .str .nil) n1 f6]⟩
def s304v3:St:=⟨(us 12 (.x (.own 2 0 n0) :: (us 41 []))),[.box [(vcs w0),(.c (ro kE n1 f0)),(.c (ro kA n2 f1)),(.c (ro kG n3 f2)),(.c (ro kC n4 f3)),(.c (ro kF n5 f4))],.box [(vcs w1),(vci i0),(vcs w2)],.arr (.pr .str .nil) n0 f5]⟩
def L304v2 {ρ:Type} (u:Nat) (x0:Nat) (x1:FF) (x2:ByteArray) (x3:Nat) (x4:FF) (x5:Nat) (x6:FF) (x7:Nat) (x8:FF) (x9:Nat) (xA:FF) (xB:Nat) (xC:FF) (xD:ByteArray) (xE:Int) (xF:ByteArray):Nat→Nat→Int→FF→(Nat→FF→Option ρ)→Option ρ
 | 0,_,_,_,_=>none
 | m+1,xG,xH,xI,k0 =>
  (bif (decide (xH≥0)) then (bif (inb xH x0) then (bif (Nat.ble (xG+1) 1073741824) then (L304v2 u x0 x1 x2 x3 x4 x5 x6 x7 x8 x9 xA xB xC xD xE xF m (xG+1) (w64 (xH-1)) (joinF xG xI (rowsF 1 [(.s (x1 xH.toNat 0).str)])) k0) else none) else none) else (k0 xG xI))
theorem nl304v2:∀ (m:Nat) (x0:Nat) (x1:Int) (x2:FF) (k0:Nat→FF→Option ρ),ob (L304v2 u n0 f0 w0 n1 f1 n2 f2 n3 f3 n4 f4 n5 f5 w1 i0 w2 m x0 x1 x2 k0) ng=L304v2 u n0 f0 w0 n1 f1 n2 f2 n3 f3 n4 f4 n5 f5 w1 i0 w2 m x0 x1 x2 (fun x3 x4=>ob (k0 x3 x4) ng)
 | 0,_,_,_,_=>rfl
 | m+1,x0,x1,x2,k0=>by
  simp only [L304v2,ob_bif,ob_ob,ob_none,nl304v2 m]
theorem q304v2:∀ (m:Nat) (x0:Nat) (x1:Int) (x2:FF),
  loopH (eB A42v3 (C18 u) u) N304v2 m (s304v2 n0 x0 n1 n2 n3 n4 n5 f0 f1 f2 f3 f4 f5 x2 x1 i0 w0 w1 w2) k=L304v2 u n0 f0 w0 n1 f1 n2 f2 n3 f3 n4 f4 n5 f5 w1 i0 w2 m x0 x1 x2 (fun x3 x4=>k (.exit 0) (s304v3 x3 n1 n2 n3 n4 n5 f1 f2 f3 f4 f5 x4 i0 w0 w1 w2))
 | 0,_,_,_=>rfl
 | m+1,x0,x1,x2=>by
  simp only [L304v2,← q304v2 m]
  kernel_rfl
def FT304 (x0:ByteArray) (x1:Nat) (x2:FF) (x3:Nat) (x4:FF) (x5:Nat) (x6:FF) (x7:Nat) (x8:FF) (x9:Nat) (xA:FF) (xB:ByteArray):Option (Bool × Nat × FF) :=
 (ob (F294 u x0 x1 x2 x3 x4 x5 x6 x7 x8 x9 xA xB) fun xC=>(bif (!xC.2.2.2) then (ob (F303 u x0 x1 x2 x3 x4 x5 x6 x7 x8 x9 xA xB) fun xD=>(bif (!(pG xD).2.2.2.2) then (some (true,0,(fun _ _=>.any))) else (ob (F302 u x0 x1 x2 x3 x4 x5 x6 x7 x8 x9 xA xD.2.2.2.1) fun xE=>(L304v1 u xE.1 xE.2.1 x0 x1 x2 x3 x4 x5 x6 x7 x8 x9 xA xC.1 xC.2.1 xC.2.2.1 xD.1 xD.2.1 xD.2.2.1 xD.2.2.2.1 xD.2.2.2.2.1 xD.2.2.2.2.2.1 xD.2.2.2.2.2.2.1 xD.2.2.2.2.2.2.2.1 (p8 xD).1 (p8 xD).2.1 (p8 xD).2.2.1 (p8 xD).2.2.2.1 (p8 xD).2.2.2.2.1 (p8 xD).2.2.2.2.2.1 (p8 xD).2.2.2.2.2.2.1 (p8 xD).2.2.2.2.2.2.2.1 (pG xD).1 (pG xD).2.1 (pG xD).2.2.1 (pG xD).2.2.2.1 u 0 (w64 ((Int.ofNat xE.1)-1)) (fun _ _=>.any)
  (fun xF xG=>(some (false,xF,xG))))))) else (ob (F302 u x0 x1 x2 x3 x4 x5 x6 x7 x8 x9 xA xB) fun xH=>(L304v2 u xH.1 xH.2.1 x0 x1 x2 x3 x4 x5 x6 x7 x8 x9 xA xC.1 xC.2.1 xC.2.2.1 u 0 (w64 ((Int.ofNat xH.1)-1)) (fun _ _=>.any)
  (fun xI xJ=>(some (false,xI,xJ)))))))
def s304v4 (x0:ByteArray × Int × Int × ByteArray × ByteArray × Int × Nat × FF × Nat × FF × ByteArray × Int × Int × Int × Int × Int × Int × Int × Int × Int × Bool) (x1:Nat × FF × Bool) (x2:ByteArray × Int × ByteArray × Bool):St:=⟨(.agg [(vcs w0),(.c (ro kE n0 f0)),(.c (ro kA n1 f1)),(.c (ro kG n2 f2)),(.c (ro kC n3 f3)),(.c (ro kF n4 f4))] :: vxs w1 :: .x (.ptr 0 0) :: uu :: .u :: vxs x0.2.2.2.1 :: (us 4 (.x (.c (ro (.pr .str .nil) x1.1 x1.2.1)) :: vxb x1.2.2 :: .x (.own 3 0 0) :: vxi (w64 ((Int.ofNat x1.1)-1)) :: vxs w1 :: (us 18 [.tup [.v (ro (.pr .str .nil) x1.1 x1.2.1),.v (.b x1.2.2)],.agg [(vcs w0),(.c (ro kE n0 f0)),(.c (ro kA n1 f1)),(.c (ro kG n2 f2)),(.c (ro kC n3 f3)),(.c (ro kF n4 f4))],vxs x0.2.2.2.1,.tup [.v (ro (.pr .str .nil) x1.1 x1.2.1),.v (.b x1.2.2)],.x (.c (ro (.pr .str .nil) x1.1 x1.2.1)),vxb x1.2.2,.x (.c (ro (.pr .str .nil) x1.1 x1.2.1)),vxi (Int.ofNat x1.1),vxi (w64 ((Int.ofNat x1.1)-1)),uu,uu,uu,uu,uu,uu,uu,uu,uu,uu,uu,uu])))),[.box [(vcs w0),(.c (ro kE n0 f0)),(.c (ro kA n1 f1)),(.c (ro kG n2 f2)),(.c (ro kC n3 f3)),(.c (ro kF n4 f4))],.box [(vcs x2.1),(vci x2.2.1),(vcs x2.2.2.1)],.box [(vcs x0.1),(vci x0.2.1),(vci x0.2.2.1),(vcs x0.2.2.2.1),(vcs x0.2.2.2.2.1),(vci x0.2.2.2.2.2.1),(.c (ro kP x0.2.2.2.2.2.2.1 x0.2.2.2.2.2.2.2.1)),(.c (ro (.pr (.sl kP) .nil) (p8 x0).1 (p8 x0).2.1)),(vcs (p8 x0).2.2.1),(vci (p8 x0).2.2.2.1),(vci (p8 x0).2.2.2.2.1),(vci (p8 x0).2.2.2.2.2.1),(vci (p8 x0).2.2.2.2.2.2.1),(vci (p8 x0).2.2.2.2.2.2.2.1),(vci (pG x0).1),(vci (pG x0).2.1),(vci (pG x0).2.2.1),(vci (pG x0).2.2.2.1)],.arr (.pr .str .nil) 0 nilF]⟩
def s304v5 (x0:Nat × FF × Bool) (x1:ByteArray × Int × ByteArray × Bool):St:=⟨(.agg [(vcs w0),(.c (ro kE n0 f0)),(.c (ro kA n1 f1)),(.c (ro kG n2 f2)),(.c (ro kC n3 f3)),(.c (ro kF n4 f4))] :: vxs w1 :: .x (.ptr 0 0) :: uu :: .u :: vxs w1 :: (us 4 (.x (.c (ro (.pr .str .nil) x0.1 x0.2.1)) :: vxb x0.2.2 :: .x (.own 2 0 0) :: vxi (w64 ((Int.ofNat x0.1)-1)) :: vxs w1 :: (us 18 [.tup [.v (ro (.pr .str .nil) x0.1 x0.2.1),.v (.b x0.2.2)],.agg [(vcs w0),(.c (ro kE n0 f0)),(.c (ro kA n1 f1)),(.c (ro kG n2 f2)),(.c (ro kC n3 f3)),(.c (ro kF n4 f4))],vxs w1,.tup [.v (ro (.pr .str .nil) x0.1 x0.2.1),.v (.b x0.2.2)],.x (.c (ro (.pr .str .nil) x0.1 x0.2.1)),vxb x0.2.2,.x (.c (ro (.pr .str .nil) x0.1 x0.2.1)),vxi (Int.ofNat x0.1),vxi (w64 ((Int.ofNat x0.1)-1)),uu,uu,uu,uu,uu,uu,uu,uu,uu,uu,uu,uu])))),[.box [(vcs w0),(.c (ro kE n0 f0)),(.c (ro kA n1 f1)),(.c (ro kG n2 f2)),(.c (ro kC n3 f3)),(.c (ro kF n4 f4))],.box [(vcs x1.1),(vci x1.2.1),(vcs x1.2.2.1)],.arr (.pr .str .nil) 0 nilF]⟩
theorem t304v1 (x0:ByteArray × Int × Int × ByteArray × ByteArray × Int × Nat × FF × Nat × FF × ByteArray × Int × Int × Int × Int × Int × Int × Int × Int × Int × Bool) (x1:Nat × FF × Bool) (x2:ByteArray × Int × ByteArray × Bool) :
  loopN (eB A42v3 (C18 u) u) N304v1 u (s304v4 n0 n1 n2 n3 n4 f0 f1 f2 f3 f4 w0 w1 x0 x1 x2) k =
  L304v1 u x1.1 x1.2.1 w0 n0 f0 n1 f1 n2 f2 n3 f3 n4 f4 x2.1 x2.2.1 x2.2.2.1 x0.1 x0.2.1 x0.2.2.1 x0.2.2.2.1 x0.2.2.2.2.1 x0.2.2.2.2.2.1 x0.2.2.2.2.2.2.1 x0.2.2.2.2.2.2.2.1 (p8 x0).1 (p8 x0).2.1 (p8 x0).2.2.1 (p8 x0).2.2.2.1 (p8 x0).2.2.2.2.1 (p8 x0).2.2.2.2.2.1 (p8 x0).2.2.2.2.2.2.1 (p8 x0).2.2.2.2.2.2.2.1 (pG x0).1 (pG x0).2.1 (pG x0).2.2.1 (pG x0).2.2.2.1 u 0 (w64 ((Int.ofNat x1.1)-1)) nilF (fun x3 x4=>k (.exit 0) (s304v1 x3 n0 n1 n2 n3 n4 x0.2.2.2.2.2.2.1 (p8 x0).1 f0 f1 f2 f3 f4 x0.2.2.2.2.2.2.2.1 (p8 x0).2.1 x4 x2.2.1 x0.2.1 x0.2.2.1 x0.2.2.2.2.2.1 (p8 x0).2.2.2.1 (p8 x0).2.2.2.2.1 (p8 x0).2.2.2.2.2.1 (p8 x0).2.2.2.2.2.2.1 (p8 x0).2.2.2.2.2.2.2.1 (pG x0).1 (pG x0).2.1 (pG x0).2.2.1 (pG x0).2.2.2.1 w0 x2.1 x2.2.2.1 x0.1 x0.2.2.2.1 x0.2.2.2.2.1 (p8 x0).2.2.1)) :=
 Eq.trans (loopN_at (by kernel_rfl)) (q304v1 ..)
theorem g304v2 (x0:ByteArray × Int × ByteArray × Bool) (x1:ByteArray × Int × Int × ByteArray × ByteArray × Int × Nat × FF × Nat × FF × ByteArray × Int × Int × Int × Int × Int × Int × Int × Int × Int × Bool) :
  (kBlk 0 (kSeq (C18 u) u (13 :: (rl 39 14 [])) A42v4 (finish A42))) (.exit 0) (s304v1 n0 n1 n2 n3 n4 n5 x1.2.2.2.2.2.2.1 (p8 x1).1 f0 f1 f2 f3 f4 x1.2.2.2.2.2.2.2.1 (p8 x1).2.1 f5 x0.2.1 x1.2.1 x1.2.2.1 x1.2.2.2.2.2.1 (p8 x1).2.2.2.1 (p8 x1).2.2.2.2.1 (p8 x1).2.2.2.2.2.1 (p8 x1).2.2.2.2.2.2.1 (p8 x1).2.2.2.2.2.2.2.1 (pG x1).1 (pG x1).2.1 (pG x1).2.2.1 (pG x1).2.2.2.1 w0 x0.1 x0.2.2.1 x1.1 x1.2.2.2.1 x1.2.2.2.2.1 (p8 x1).2.2.1) =
  (some [.v (ro (.pr .str .nil) n0 f5)]):=by kernel_rfl
theorem t304v3 (x0:Nat × FF × Bool) (x1:ByteArray × Int × ByteArray × Bool) :
  loopN (eB A42v3 (C18 u) u) N304v2 u (s304v5 n0 n1 n2 n3 n4 f0 f1 f2 f3 f4 w0 w1 x0 x1) k =
  L304v2 u x0.1 x0.2.1 w0 n0 f0 n1 f1 n2 f2 n3 f3 n4 f4 x1.1 x1.2.1 x1.2.2.1 u 0 (w64 ((Int.ofNat x0.1)-1)) nilF (fun x2 x3=>k (.exit 0) (s304v3 x2 n0 n1 n2 n3 n4 f0 f1 f2 f3 f4 x3 x1.2.1 w0 x1.1 x1.2.2.1)) :=
 Eq.trans (loopN_at (by kernel_rfl)) (q304v2 ..)
theorem g304v4 (x0:ByteArray × Int × ByteArray × Bool) :
  (kBlk 0 (kSeq (C18 u) u (13 :: (rl 39 14 [])) A42v4 (finish A42))) (.exit 0) (s304v3 n0 n1 n2 n3 n4 n5 f0 f1 f2 f3 f4 f5 x0.2.1 w0 x0.1 x0.2.2.1) =
  (some [.v (ro (.pr .str .nil) n0 f5)]):=by kernel_rfl
theorem e304:evalF (C18 u) u A42 [.agg [(.s w0),(ro kE n0 f0),(ro kA n1 f1),(ro kG n2 f2),(ro kC n3 f3),(ro kF n4 f4)],.v (.s w1)]=ob (FT304 u w0 n0 f0 n1 f1 n2 f2 n3 f3 n4 f4 w1) fun t=>some (bif t.1 then [.v (.ro true .nil 0 nilF)] else [.v (ro (.pr .str .nil) t.2.1 t.2.2)]):=Eq.trans (b:=(ob (F294 u w0 n0 f0 n1 f1 n2 f2 n3 f3 n4 f4 w1) fun x0=>(bif (!x0.2.2.2) then (ob (F303 u w0 n0 f0 n1 f1 n2 f2 n3 f3 n4 f4 w1) fun x1=>(bif (!(pG x1).2.2.2.2) then (some [.v (.ro true .nil 0 nilF)]) else (ob (F302 u w0 n0 f0 n1 f1 n2 f2 n3 f3 n4 f4 x1.2.2.2.1) fun x2=>(loopN (eB A42v3 (C18 u) u) N304v1 u (s304v4 n0 n1 n2 n3 n4 f0 f1 f2 f3 f4 w0 w1 x1 x2 x0) (kBlk 0 (kSeq (C18 u) u (13 :: (rl 39 14 [])) A42v4 (finish A42))))))) else (ob (F302 u w0 n0 f0 n1 f1 n2 f2 n3 f3 n4 f4 w1) fun x3=>(loopN (eB A42v3 (C18 u) u) N304v2 u (s304v5 n0 n1 n2 n3 n4 f0 f1 f2 f3 f4 w0 w1 x3 x0) (kBlk 0 (kSeq (C18 u) u (13 :: (rl 39 14 [])) A42v4 (finish A42)))))))) (by kernel_rfl) (by
 simp only [FT304,ob_bif,ob_ob,ob_none,ob_some,nl304v1,nl304v2,t304v1,g304v2,t304v3,g304v4,cond_true,cond_false])
def F304 (x0:ByteArray) (x1:Nat) (x2:FF) (x3:Nat) (x4:FF) (x5:Nat) (x6:FF) (x7:Nat) (x8:FF) (x9:Nat) (xA:FF) (xB:ByteArray):Option (Nat × FF):=ob (FT304 u x0 x1 x2 x3 x4 x5 x6 x7 x8 x9 xA xB) fun t=>some (bif t.1 then (0,(fun _ _=>.any)) else (t.2.1,t.2.2))
def O304:Ora:=mkO (qc (ag (tc cS (tc (cL kE) (tc (cL kA) (tc (cL kG) (tc (cL kC) (t1 (cL kF)))))))) (q1 (av cS))) (fun x=>F304 u x.1.1 x.1.2.1.1 x.1.2.1.2 x.1.2.2.1.1 x.1.2.2.1.2 x.1.2.2.2.1.1 x.1.2.2.2.1.2 x.1.2.2.2.2.1.1 x.1.2.2.2.2.1.2 x.1.2.2.2.2.2.1 x.1.2.2.2.2.2.2 x.2) fun t=>[.v (ro (.pr .str .nil) t.1 t.2)]
theorem d304:DO (O304 u) (C18 u) 42 A42:=dW u (fun x=>by exact e304 u x.1.2.1.1 x.1.2.2.1.1 x.1.2.2.2.1.1 x.1.2.2.2.2.1.1 x.1.2.2.2.2.2.1 x.1.2.1.2 x.1.2.2.1.2 x.1.2.2.2.1.2 x.1.2.2.2.2.1.2 x.1.2.2.2.2.2.2 x.1.1 x.2) (fun _=>rfl) fun t=>by
 obtain ⟨b,t⟩:=t
 cases b with
 | true=>exact (.cons (WkA.v (Wk.ro (by rfl))) .nil)
 | false =>
  exact (.cons (WkA.v (Wk.refl _)) .nil)
def C19:Oracle:=(C18 u).add 42 (fun _=>true) (O304 u)
end Go.Eng.R13
