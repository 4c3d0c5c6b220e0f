/-
 The functions of the program,run on symbols;printed by decomp.py.
-/
import Derived.Test.YtkknnlhhchielaaDoorEngS
import Derived.Test.YtkknnlhhchielaaDoorEngX0
import Derived.Test.YtkknnlhhchielaaDoorEngY
import Derived.Test.YtkknnlhhchielaaDoorEngIt1
import Derived.Test.YtkknnlhhchielaaDoorNsTurns
set_option linter.all false
set_option maxRecDepth 1000000
set_option maxHeartbeats 4000000
namespace Go.Eng.R13
open Go Go.RowKit Go.Eng
abbrev kA:Kd:=(.pr .str (.pr (.int .i64) (.pr (.int .i64) (.pr .str (.pr .str (.pr (.int .i64) (.pr (.sl kP) (.pr (.sl (.pr (.sl kP) .nil)) (.pr .str (.pr (.int .i64) (.pr (.int .i64) (.pr (.int .i64) (.pr (.int .i64) (.pr (.int .i64) (.pr (.int .i64) kV)))))))))))))))
abbrev kB:Kd:=(.pr .str (.pr (.int .i64) (.pr (.int .i64) (.pr (.int .i64) (.pr .bool .nil)))))
abbrev kC:Kd:=(.pr (.int .i64) (.pr (.int .i64) .bool))
abbrev kD:Kd:=(.pr (.int .i64) .nil)
abbrev kE:Kd:=(.pr (.int .i64) kV)
abbrev kF:Kd:=(.pr (.sl kP) .nil)
abbrev kG:Kd:=(.pr .str .nil)
abbrev uu:V:=.undef
abbrev ro:Kd→Nat→FF→CV:=CV.ro false
variable {ρ σ : Type} (u m : Nat) (k : Ex → St → Option ρ) (ng : ρ → Option σ) (n0 n1 n2 n3 n4 n5 : Nat) (f0 f1 f2 f3 f4 f5 : FF) (i0 i1 i2 i3 i4 i5 i6 i7 i8 i9 iA iB iC iD iE iF iG iH iI iJ iK iL : Int) (b0 : Bool) (w0 w1 w2 w3 w4 w5 w6 : ByteArray) (g0 g1 : Nat → CV)
abbrev kR0:Kd:=(.pr .str (.pr (.int .i64) (.pr (.int .i64) (.pr .str (.pr .str (.pr (.int .i64) (.pr (.sl (.pr (.int .i64) (.pr (.int .i64) .nil))) (.pr (.sl (.pr (.sl (.pr (.int .i64) (.pr (.int .i64) .nil))) .nil)) (.pr .str (.pr (.int .i64) (.pr (.int .i64) (.pr (.int .i64) (.pr (.int .i64) (.pr (.int .i64) (.pr (.int .i64) (.pr (.int .i64) (.pr (.int .i64) (.pr (.int .i64) .nil))))))))))))))))))
abbrev kR1:Kd:=(.pr .str (.pr .str (.pr (.int .i64) (.pr (.int .i64) (.pr (.int .i64) (.pr .str (.pr (.sl (.pr .str (.pr (.int .i64) (.pr (.int .i64) (.pr .str (.pr .str (.pr (.int .i64) (.pr (.sl (.pr (.int .i64) (.pr (.int .i64) .nil))) (.pr (.sl (.pr (.sl (.pr (.int .i64) (.pr (.int .i64) .nil))) .nil)) (.pr .str (.pr (.int .i64) (.pr (.int .i64) (.pr (.int .i64) (.pr (.int .i64) (.pr (.int .i64) (.pr (.int .i64) (.pr (.int .i64) (.pr (.int .i64) (.pr (.int .i64) .nil))))))))))))))))))) (.pr (.int .i64) .nil))))))))
def C0 (u:Nat):Oracle:=⟨fun _ _ {_} _=>none,fun _ _ {_} _=>rfl,fun f r n g rest=>bif ((Nat.beq f 57&&r.beq kP))&&rest.isEmpty then some (revF n g) else none,fun f r args=>match args with | [.v (.ro _ r1 n g)]=>bif ((Nat.beq f 35&&r.beq kD))&&r.beq r1 then some (n,g) else none | _=>none,fun f r n g rest=>bif (false)&&rest.isEmpty then some (cutN n g,cutF n g) else none,fun _ _ _ _ {_} _=>none,fun _ _ _ _ {_} _=>rfl⟩
def CE (u:Nat):Oracle:=⟨fun _ _ {_} _=>none,fun _ _ {_} _=>rfl,fun _ _ _ _ _=>none,fun _ _ _=>none,fun _ _ _ _ _=>none,fun _ _ _ _ {_} _=>none,fun _ _ _ _ {_} _=>rfl⟩
theorem soundE {P:Program}:Sound P (CE u):=⟨fun _ _ _ h=>(by cases h),fun _ _ _ _ _ _ h=>(by cases h),fun _ _ _ _ _ h=>(by cases h),fun _ _ _ _ _ _ _ h=>(by cases h),fun _ _ _ _ _ _ h=>(by cases h)⟩
def A57v1:AC:=(.seq (.block 1
 (.region 3 [mv 14 0,mv 15 2,mv 16 0,mv 17 3,mv 18 0,mv 19 3,o1 20 (.indexAddr 22 34 2 (tm 18) (tm 19)),o1 21 (ln 34 2 20),mv 22 0,mv 23 2,o1 24 (.indexAddr 22 34 2 (tm 22) (tm 23)),o1 25 (ln 34 2 24),o1 26 (.indexAddr 22 34 2 (tm 14) (tm 15)),o0 (.store 34 2 (tm 26) (tm 21)),o1 27 (.indexAddr 22 34 2 (tm 16) (tm 17)),o0 (.store 34 2 (tm 27) (tm 25))] 0 (some [[],[],[],[],[],[],[4,5],[4,5,6],[],[],[8,9],[8,9,10],(0 :: 1 :: (rl 4 8 [])),(0 :: 1 :: (rl 4 9 [])),(rl 0 14 []),(rl 0 15 [])]))) []
 (.region 2 [mv 10 2,o1 11 (bk .add 3 10 1),mv 12 3,o1 13 (bk .sub 3 12 1),o1 2 (sg 11),o1 3 (sg 13)] 0 none))
def A57v2:AC:=(.seq (.seq (.region 1 [mv 7 2,mv 8 3,o1 9 (bt .lss 3 7 8)] 0 none) []
 (.cond (tm 9)
 .skip
 (.exit 0 (rl 0 28 [])))) [7,8,9]
 A57v1)
def A57:AF:=⟨28,[],
 (.seq (.region 0 [mv 4 0,o1 5 (.len 22 false (tm 4)),o1 6 (bk .sub 3 5 1),o1 2 (sk 0),o1 3 (sg 6)] 0 none) []
 (.block 0
 (.loop [] (1 :: (rl 4 24 []))
  A57v2)))⟩
def N52v1:St→Option St:=nN 1 (1 :: (rl 4 24 []))
def s52v0:St:=⟨(.x (.own 0 0 n0) :: .u :: vxi i0 :: vxi i1 :: (us 24 [])),[.arr kC n0 f0]⟩
def s52v1:St:=⟨(us 28 []),[.arr kC n0 f0]⟩
def L52v1 {ρ:Type} (u:Nat) (x0:Nat):Nat→Int→Int→FF→(FF→Option ρ)→Option ρ
 | 0,_,_,_,_=>none
 | m+1,x1,x2,x3,k0 =>
  (bif (decide (x1<x2)) then (bif (inb x2 x0) then (bif (inb x1 x0) then (bif (inb x1 x0) then (bif (inb x2 x0) then (L52v1 u x0 m (w64 (x1+1)) (w64 (x2-1)) (setF (setF x3 (0+x1.toNat) 0 2 (listF [(.i .i64 (x3 (0+x2.toNat) 0).int),(.i .i64 (x3 (0+x2.toNat) 1).int)])) (0+x2.toNat) 0 2 (listF [(.i .i64 (x3 (0+x1.toNat) 0).int),(.i .i64 (x3 (0+x1.toNat) 1).int)])) k0) else none) else none) else none) else none) else (k0 x3))
theorem q52v1:∀ (m:Nat) (x0 x1:Int) (x2:FF),
  loopH (eB A57v2 (CE u) u) N52v1 m (s52v0 n0 x2 x0 x1) k=L52v1 u n0 m x0 x1 x2 (fun x3=>k (.exit 0) (s52v1 n0 x3))
 | 0,_,_,_=>rfl
 | m+1,x0,x1,x2=>by
  simp only [L52v1,← q52v1 m]
  kernel_rfl
def D52 (x0:Nat) (x1:FF) (k:(Nat × FF)→Option ρ):Option ρ :=
 (L52v1 u x0 u 0 (w64 ((Int.ofNat x0)-1)) x1
  (fun x2=>(k (x0,x2))))
def F52 (x0:Nat) (x1:FF):Option (Nat × FF):=D52 u x0 x1 some
def s52v2:St:=⟨[.x (.own 0 0 n0),uu,vxi 0,vxi (w64 ((Int.ofNat n0)-1)),.x (.own 0 0 n0),vxi (Int.ofNat n0),vxi (w64 ((Int.ofNat n0)-1)),uu,uu,uu,uu,uu,uu,uu,uu,uu,uu,uu,uu,uu,uu,uu,uu,uu,uu,uu,uu,uu],[.arr kC n0 f0]⟩
theorem walk52 (x0:Nat) (x1:FF) :
  evalT (CE u) u A57 kP x0 x1 [] =
  (loopN (eB A57v2 (CE u) u) N52v1 u (s52v2 x0 x1) (kBlk 0 (finishT (Kd.mark kP)))):=by kernel_rfl
theorem t52v1 :
  loopN (eB A57v2 (CE u) u) N52v1 u (s52v2 n0 f0) k =
  L52v1 u n0 u 0 (w64 ((Int.ofNat n0)-1)) f0 (fun x0=>k (.exit 0) (s52v1 n0 x0)) :=
 Eq.trans (loopN_at (by kernel_rfl)) (q52v1 ..)
theorem g52v2 :
  (kBlk 0 (finishT (Kd.mark kP))) (.exit 0) (s52v1 n0 f0) =
  (some (n0,f0)):=by kernel_rfl
theorem e52:evalT (CE u) u A57 kP n0 f0 []=F52 u n0 f0:=by
 rw [walk52]
 simp only [F52,D52,t52v1,g52v2]
def A5v1:AC:=(.region 5 [mv 46 3,o1 47 (bk .add 3 46 1),o1 3 (sg 47)] 0 none)
def A5v2:AC:=(.seq (.block 1
 (.seq (.region 6 [o1 48 (fa 31 1 6 6),o1 49 (fa 25 48 1 1),o1 50 (lo 23 49),mv 51 3,o1 52 (.indexAddr 23 22 1 (tm 50) (tm 51)),o1 53 (lo 22 52),o1 54 (.len 22 false (tm 53)),o1 55 (bk .gtr 3 54 40)] 0 none) []
  (.cond (tm 55)
  (.seq (.region 7 [o1 2 (sb false)] 0 none) []
   (.ret (0 :: 1 :: (rl 3 53 []))))
  .skip))) (2 :: (rl 48 8 []))
 A5v1)
def A5v3:AC:=(.seq (.seq (.region 4 [mv 40 3,o1 41 (fa 31 1 6 6),o1 42 (fa 25 41 1 1),o1 43 (lo 23 42),o1 44 (.len 23 false (tm 43)),o1 45 (bt .lss 3 40 44)] 0 none) []
 (.cond (tm 45)
 .skip
 (.exit 0 (rl 0 56 [])))) (rl 40 6 [])
 A5v2)
def A5v4:AC:=(.seq (.region 8 [o1 2 (sb true)] 0 none) []
 (.ret (0 :: 1 :: (rl 3 53 []))))
def A5v5:AC:=(.seq (.seq (.region 3 [o1 3 (sk 0)] 0 none) []
 (.block 0
 (.loop [] (0 :: 2 :: (rl 4 52 []))
  A5v3))) (2 :: 3 :: (rl 40 16 []))
 A5v4)
def A5:AF:=⟨56,[.tmp 2],
 (.seq (.region 0 [o1 1 (bx 0 31 0),o1 2 (sb false)] 1 none) []
 (.seq (.seq (.region 1 [o1 4 (fa 31 1 0 0),o1 5 (lo 9 4),o1 6 (.len 9 true (tm 5)),o1 7 (bk .gtr 3 6 200),mv 8 7,og 9 (fa 31 1 3 3) 8 false,og 10 (lo 9 9) 8 false,og 11 (.len 9 true (tm 10)) 8 false,og 12 (bk .gtr 3 11 200) 8 false,o1 13 (pa 8 12),mv 14 13,og 15 (fa 31 1 4 4) 14 false,og 16 (lo 9 15) 14 false,og 17 (.len 9 true (tm 16)) 14 false,og 18 (bk .gtr 3 17 200) 14 false,o1 19 (pa 14 18),mv 20 19,og 21 (fa 31 1 7 8) 20 false,og 22 (lo 9 21) 20 false,og 23 (.len 9 true (tm 22)) 20 false,og 24 (bk .gtr 3 23 200) 20 false,o1 25 (pa 20 24),mv 26 25,og 27 (fa 31 1 6 6) 26 false,og 28 (fa 25 27 0 0) 26 false,og 29 (lo 22 28) 26 false,og 30 (.len 22 false (tm 29)) 26 false,og 31 (bk .gtr 3 30 40) 26 false,o1 32 (pa 26 31),mv 33 32,og 34 (fa 31 1 6 6) 33 false,og 35 (fa 25 34 1 1) 33 false,og 36 (lo 23 35) 33 false,og 37 (.len 23 false (tm 36)) 33 false,og 38 (bk .gtr 3 37 12) 33 false,o1 39 (pa 33 38)] 0 none) []
 (.cond (tm 39)
 (.seq (.region 2 [o1 2 (sb false)] 0 none) []
  (.ret (0 :: 1 :: (rl 3 53 []))))
 .skip)) (2 :: (rl 4 36 []))
 A5v5))⟩
def N386v1:St→Option St:=nN 1 (0 :: 2 :: (rl 4 52 []))
def s386v0:St:=⟨(.u :: .x (.ptr 0 0) :: .u :: vxi i0 :: (us 52 [])),[.box (pjc kR0 g0)]⟩
def s386v1:St:=⟨(.u :: .u :: vxb false :: (us 53 [])),[.box (pjc kR0 g0)]⟩
def s386v2:St:=⟨(us 56 []),[.box (pjc kR0 g0)]⟩
def L386v1 {ρ:Type} (u:Nat) (x0:Nat→CV):Nat→Int→(Option ρ)→(Option ρ)→Option ρ
 | 0,_,_,_=>none
 | m+1,x1,k0,k1 =>
  (bif (decide (x1<(Int.ofNat (x0 7).len))) then (bif (inb x1 (x0 7).len) then (bif (decide ((Int.ofNat ((x0 7).el x1.toNat 0).len)>40)) then k0 else (L386v1 u x0 m (w64 (x1+1)) k0 k1)) else none) else k1)
theorem nl386v1:∀ (m:Nat) (x0:Int) (k0:Option ρ) (k1:Option ρ),ob (L386v1 u g0 m x0 k0 k1) ng=L386v1 u g0 m x0 (ob k0 ng) (ob k1 ng)
 | 0,_,_,_=>rfl
 | m+1,x0,k0,k1=>by
  simp only [L386v1,ob_bif,ob_ob,ob_none,nl386v1 m]
theorem q386v1:∀ (m:Nat) (x0:Int),
  loopH (eB A5v3 (C0 u) u) N386v1 m (s386v0 x0 g0) k=L386v1 u g0 m x0 (k .ret (s386v1 g0)) (k (.exit 0) (s386v2 g0))
 | 0,_=>rfl
 | m+1,x0=>by
  simp only [L386v1,← q386v1 m]
  kernel_rfl
def F386 (x0:Nat→CV):Option (Bool) :=
 (bif ((decide ((Int.ofNat (ByteArray.size (x0 0).str))>200))==false) then (bif ((decide ((Int.ofNat (ByteArray.size (x0 3).str))>200))==false) then (bif ((decide ((Int.ofNat (ByteArray.size (x0 4).str))>200))==false) then (bif ((decide ((Int.ofNat (ByteArray.size (x0 8).str))>200))==false) then (bif ((decide ((Int.ofNat (x0 6).len)>40))==false) then (bif (decide ((Int.ofNat (x0 7).len)>12)) then (some false) else (L386v1 u x0 u 0
  (some false)
  (some true))) else (some false)) else (some false)) else (some false)) else (some false)) else (some false))
def s386v3:St:=⟨(.agg (pjc kR0 g0) :: .x (.ptr 0 0) :: .u :: vxi 0 :: (us 36 [uu,uu,uu,uu,uu,uu,uu,uu,uu,uu,uu,uu,uu,uu,uu,uu])),[.box (pjc kR0 g0)]⟩
theorem t386v1 :
  loopN (eB A5v3 (C0 u) u) N386v1 u (s386v3 g0) k =
  L386v1 u g0 u 0 (k .ret (s386v1 g0)) (k (.exit 0) (s386v2 g0)) :=
 Eq.trans (loopN_at (by kernel_rfl)) (q386v1 ..)
theorem g386v2 :
  (kBlk 0 (kSeq (C0 u) u (2 :: 3 :: (rl 40 16 [])) A5v4 (finish A5))) .ret (s386v1 g0) =
  (some [.v (.b false)]):=by kernel_rfl
theorem g386v3 :
  (kBlk 0 (kSeq (C0 u) u (2 :: 3 :: (rl 40 16 [])) A5v4 (finish A5))) (.exit 0) (s386v2 g0) =
  (some [.v (.b true)]):=by kernel_rfl
theorem e386:evalF (C0 u) u A5 [.agg (pj kR0 g0)]=ob (F386 u g0) fun t=>some [.v (.b t)]:=Eq.trans (b:=(bif ((decide ((Int.ofNat (ByteArray.size (g0 0).str))>200))==false) then (bif ((decide ((Int.ofNat (ByteArray.size (g0 3).str))>200))==false) then (bif ((decide ((Int.ofNat (ByteArray.size (g0 4).str))>200))==false) then (bif ((decide ((Int.ofNat (ByteArray.size (g0 8).str))>200))==false) then (bif ((decide ((Int.ofNat (g0 6).len)>40))==false) then (bif (decide ((Int.ofNat (g0 7).len)>12)) then (some [.v (.b false)]) else (loopN (eB A5v3 (C0 u) u) N386v1 u (s386v3 g0) (kBlk 0 (kSeq (C0 u) u (2 :: 3 :: (rl 40 16 [])) A5v4 (finish A5))))) else (some [.v (.b false)])) else (some [.v (.b false)])) else (some [.v (.b false)])) else (some [.v (.b false)])) else (some [.v (.b false)]))) (by kernel_rfl) (by
 simp only [F386,ob_bif,ob_ob,ob_none,ob_some,nl386v1,t386v1,g386v2,g386v3])
def O386:Ora:=mkO (q1 (ar kR0)) (fun x=>F386 u x) fun t=>[.v (.b t)]
theorem d386:DO (O386 u) (C0 u) 5 A5:=dO u (fun x=>by exact e386 u x)
def C1:Oracle:=(C0 u).add 5 (fun _=>true) (O386 u)
def A15:AF:=⟨8,[.cell 4 44 (some 6)],
 (.seq (.region 0 [o1 4 (.alloc 0 44 [vcs ByteArray.empty,vcs ByteArray.empty,vci 0,vci 0,vci 0,vcs ByteArray.empty])] 1 none) []
 (.seq (.region 1 [mv 5 0,mv 6 1,o1 7 (.build 44 [vcs ByteArray.empty,vcs ByteArray.empty,vci 0,vci 0,vci 0,vcs ByteArray.empty] [(0,1),(1,1),(2,1),(3,1),(4,1),(5,1)] 0 [(0,(.const (.string (ByteArray.mk #[83,49])))),(1,(.const (.string (ByteArray.mk #[65])))),(2,(ic 10)),(3,(tm 5)),(4,(tm 6))]),o0 (.store 44 6 (tm 4) (tm 7))] 0 none) []
 (.ret (rl 0 4 [5,6,7]))))⟩
def F387 (u:Nat) (x0 x1:Int):Option (ByteArray × ByteArray × Int × Int × Int × ByteArray) :=
 (some ((ByteArray.mk #[83,49]),(ByteArray.mk #[65]),10,x0,x1,ByteArray.empty))
theorem e387:evalF (C1 u) u A15 [.v (vi i0),.v (vi i1)]=ob (F387 u i0 i1) fun t=>some [.agg [(.s t.1),(.s t.2.1),(vi t.2.2.1),(vi t.2.2.2.1),(vi t.2.2.2.2.1),(.s t.2.2.2.2.2)]]:=by
 simp only [F387,ob_bif,ob_ob,ob_none,ob_some]
 kernel_rfl
def O387:Ora:=mkO (qc (av ci) (q1 (av ci))) (fun x=>F387 u x.1 x.2) fun t=>[.agg [(.s t.1),(.s t.2.1),(vi t.2.2.1),(vi t.2.2.2.1),(vi t.2.2.2.2.1),(.s t.2.2.2.2.2)]]
theorem d387:DO (O387 u) (C1 u) 15 A15:=dO u (fun x=>by exact e387 u x.1 x.2)
def C2:Oracle:=(C1 u).add 15 (fun _=>true) (O387 u)
def A16:AF:=⟨19,[.cell 6 31 (some 18)],
 (.seq (.region 0 [o1 6 (.alloc 0 31 [vcs ByteArray.empty,vci 0,vci 0,vcs ByteArray.empty,vcs ByteArray.empty,vci 0,vcn,vcn,vcs ByteArray.empty,vci 0,vci 0,vci 0,vci 0,vci 0,vci 0,vci 0,vci 0,vci 0])] 1 none) []
 (.seq (.region 1 [mv 7 0,o1 8 (.build 34 [vci 0,vci 0] [(0,1),(1,1)] 0 []),mv 9 1,o1 10 (.build 34 [vci 0,vci 0] [(0,1),(1,1)] 0 [(0,(tm 9))]),mv 11 1,mv 12 2,o1 13 (.build 34 [vci 0,vci 0] [(0,1),(1,1)] 0 [(0,(tm 11)),(1,(tm 12))]),mv 14 2,o1 15 (.build 34 [vci 0,vci 0] [(0,1),(1,1)] 0 [(1,(tm 14))]),o1 16 (.buildSlice 0 22 34 kP 4 [vci 0,vci 0] [(0,(tm 8)),(1,(tm 10)),(2,(tm 13)),(3,(tm 15))]),o1 17 (.build 25 [.c (.ro true kP 0 nilF),.c (.ro true kF 0 nilF)] [(0,1),(1,1)] 0 [(0,(tm 16))]),o1 18 (.build 31 [vcs ByteArray.empty,vci 0,vci 0,vcs ByteArray.empty,vcs ByteArray.empty,vci 0,.c (.ro true kP 0 nilF),.c (.ro true kF 0 nilF),vcs ByteArray.empty,vci 0,vci 0,vci 0,vci 0,vci 0,vci 0,vci 0,vci 0,vci 0] [(0,1),(1,1),(2,1),(3,1),(4,1),(5,1),(6,2),(8,1),(9,1),(10,1),(11,3),(14,4)] 0 [(0,(tm 7)),(1,(ic 1)),(2,(ic 1)),(3,(.const (.string (ByteArray.mk #[66,49])))),(4,(.const (.string (ByteArray.mk #[65])))),(5,(ic 10)),(6,(tm 17))]),o0 (.store 31 18 (tm 6) (tm 18))] 1 none) []
 (.ret (rl 0 6 (rl 7 12 [])))))⟩
def F388 (u:Nat) (x0:ByteArray) (x1 x2:Int):Option (ByteArray × Int × Int × ByteArray × ByteArray × Int × Nat × FF × Nat × FF × ByteArray × Int × Int × Int × Int × Int × Int × Int × Int × Int) :=
 (some (x0,1,1,(ByteArray.mk #[66,49]),(ByteArray.mk #[65]),10,4,(rowsF 2 [(.i .i64 0),(.i .i64 0),(.i .i64 x1),(.i .i64 0),(.i .i64 x1),(.i .i64 x2),(.i .i64 0),(.i .i64 x2)]),0,(fun _ _=>.any),ByteArray.empty,0,0,0,0,0,0,0,0,0))
theorem e388:evalF (C2 u) u A16 [.v (.s w0),.v (vi i0),.v (vi i1)]=ob (F388 u w0 i0 i1) fun t=>some [.agg [(.s t.1),(vi t.2.1),(vi t.2.2.1),(.s t.2.2.2.1),(.s t.2.2.2.2.1),(vi t.2.2.2.2.2.1),(ro kP t.2.2.2.2.2.2.1 t.2.2.2.2.2.2.2.1),(.ro true kF (p8 t).1 (p8 t).2.1),(.s (p8 t).2.2.1),(vi (p8 t).2.2.2.1),(vi (p8 t).2.2.2.2.1),(vi (p8 t).2.2.2.2.2.1),(vi (p8 t).2.2.2.2.2.2.1),(vi (p8 t).2.2.2.2.2.2.2.1),(vi (pG t).1),(vi (pG t).2.1),(vi (pG t).2.2.1),(vi (pG t).2.2.2)]]:=by
 simp only [F388,ob_bif,ob_ob,ob_none,ob_some]
 kernel_rfl
def O388:Ora:=mkO (qc (av cS) (qc (av ci) (q1 (av ci)))) (fun x=>F388 u x.1 x.2.1 x.2.2) fun t=>[.agg [(.s t.1),(vi t.2.1),(vi t.2.2.1),(.s t.2.2.2.1),(.s t.2.2.2.2.1),(vi t.2.2.2.2.2.1),(ro kP t.2.2.2.2.2.2.1 t.2.2.2.2.2.2.2.1),(ro kF (p8 t).1 (p8 t).2.1),(.s (p8 t).2.2.1),(vi (p8 t).2.2.2.1),(vi (p8 t).2.2.2.2.1),(vi (p8 t).2.2.2.2.2.1),(vi (p8 t).2.2.2.2.2.2.1),(vi (p8 t).2.2.2.2.2.2.2.1),(vi (pG t).1),(vi (pG t).2.1),(vi (pG t).2.2.1),(vi (pG t).2.2.2)]]
theorem d388:DO (O388 u) (C2 u) 16 A16:=dN u (fun x=>by exact e388 u x.2.1 x.2.2 x.1) fun t=>(.cons (WkA.agg (.cons (Wk.refl _) (.cons (Wk.refl _) (.cons (Wk.refl _) (.cons (Wk.refl _) (.cons (Wk.refl _) (.cons (Wk.refl _) (.cons (Wk.refl _) (.cons (Wk.ro (by rfl)) (.cons (Wk.refl _) (.cons (Wk.refl _) (.cons (Wk.refl _) (.cons (Wk.refl _) (.cons (Wk.refl _) (.cons (Wk.refl _) (.cons (Wk.refl _) (.cons (Wk.refl _) (.cons (Wk.refl _) (.cons (Wk.refl _) .nil))))))))))))))))))) .nil)
def C3:Oracle:=(C2 u).add 16 (fun _=>true) (O388 u)
def A19:AF:=⟨15,[.tmp 6],
 (.seq (.region 0 [o1 6 (sb false)] 0 none) []
 (.seq (.region 1 [mv 7 0,mv 8 1,o1 9 (bt .geq 3 7 8),mv 10 9,og 11 (.move (tm 0)) 10 true,og 12 (.move (tm 2)) 10 true,og 13 (bt .leq 3 11 12) 10 true,o1 14 (po 10 13),o1 6 (sg 14)] 0 none) []
 (.ret (rl 0 6 (rl 7 8 [])))))⟩
def F389 (u:Nat) (x0 x1 x2:Int):Option (Bool) :=
 (bif ((decide (x0≥x1))==true) then (some (decide (x0≤x2))) else (some false))
theorem e389:evalF (C3 u) u A19 [.v (vi i0),.v (vi i1),.v (vi i2)]=ob (F389 u i0 i1 i2) fun t=>some [.v (.b t)]:=by
 simp only [F389,ob_bif,ob_ob,ob_none,ob_some]
 kernel_rfl
def O389:Ora:=mkO (qc (av ci) (qc (av ci) (q1 (av ci)))) (fun x=>F389 u x.1 x.2.1 x.2.2) fun t=>[.v (.b t)]
theorem d389:DO (O389 u) (C3 u) 19 A19:=dO u (fun x=>by exact e389 u x.1 x.2.1 x.2.2)
def C4:Oracle:=(C3 u).add 19 (fun _=>true) (O389 u)
def A58:AF:=⟨21,[.tmp 2],
 (.seq (.region 0 [o1 1 (bx 0 34 0),o1 2 (sb false)] 1 none) []
 (.seq (.region 1 [o1 3 (fa 34 1 0 0),o1 4 (lo 3 3),o1 5 (bk .lss 3 4 (-32768)),mv 6 5,og 7 (fa 34 1 0 0) 6 false,og 8 (lo 3 7) 6 false,og 9 (bk .gtr 3 8 32768) 6 false,o1 10 (pa 6 9),mv 11 10,og 12 (fa 34 1 1 1) 11 false,og 13 (lo 3 12) 11 false,og 14 (bk .lss 3 13 (-32768)) 11 false,o1 15 (pa 11 14),mv 16 15,og 17 (fa 34 1 1 1) 16 false,og 18 (lo 3 17) 16 false,og 19 (bk .gtr 3 18 32768) 16 false,o1 20 (pa 16 19),o1 2 (sg 20)] 0 none) []
 (.ret (0 :: 1 :: (rl 3 18 [])))))⟩
def F61 (u:Nat) (x0 x1:Int):Option (Bool) :=
 (bif ((decide (x0<(-32768)))==false) then (bif ((decide (x0>32768))==false) then (bif ((decide (x1<(-32768)))==false) then (some (decide (x1>32768))) else (some true)) else (some true)) else (some true))
theorem e61:evalF (C4 u) u A58 [.agg [(vi i0),(vi i1)]]=ob (F61 u i0 i1) fun t=>some [.v (.b t)]:=by
 simp only [F61,ob_bif,ob_ob,ob_none,ob_some]
 kernel_rfl
def O61:Ora:=mkO (q1 (ag (tc ci (t1 ci)))) (fun x=>F61 u x.1 x.2) fun t=>[.v (.b t)]
theorem d61:DO (O61 u) (C4 u) 58 A58:=dO u (fun x=>by exact e61 u x.1 x.2)
def C5:Oracle:=(C4 u).add 58 (fun _=>true) (O61 u)
def A75v1:AC:=(.region 6 [o1 18 (bk .add 3 8 1),mv 8 18] 0 none)
def A75v2:AC:=(.seq (.block 1
 (.seq (.region 3 [mv 10 8,o1 5 (sg 10)] 0 none) []
  (.seq (.region 4 [mv 11 1,mv 12 0,mv 13 5,o1 14 (.indexAddr 22 34 2 (tm 12) (tm 13)),o1 15 (ln 34 2 14),o1 16 (.callv (tm 11) [(tm 15)] [34] .snap)] 0 none) []
  (.cond (tm 16)
  (.seq (.region 5 [mv 17 5,o1 4 (sg 17)] 0 none) []
   (.ret (rl 0 4 (rl 5 14 []))))
  .skip)))) (4 :: 5 :: (rl 10 8 []))
 A75v1)
def A75v3:AC:=(.seq (.region 2 [o1 9 (bt .lss 3 8 7)] 0 none) []
 (.seq (.cond (tm 9)
 .skip
 (.exit 0 (rl 0 19 []))) []
 A75v2))
def A75v4:AC:=(.seq (.region 7 [o1 4 (sk (-1))] 0 none) []
 (.ret (rl 0 4 (rl 5 14 []))))
def A75:AF:=⟨19,[.tmp 4],
 (.seq (.region 0 [o1 4 (sk 0)] 0 none) []
 (.seq (.seq (.region 1 [mv 6 0,o1 7 (.len 22 false (tm 6)),o1 8 (.move (ic 0))] 0 none) []
 (.block 0
 (.loop [] (rl 2 5 (rl 9 10 []))
  A75v3))) (rl 4 15 [])
 A75v4))⟩
def N73v1:St→Option St:=nN 0 (rl 2 5 (rl 9 10 []))
def s73v0:St:=⟨(.x (.c (ro kP n0 f0)) :: .x (.c (.fn 58 0 (listF []))) :: (us 5 (vxi i0 :: vxi i1 :: (us 10 [])))),[]⟩
def s73v1:St:=⟨(us 4 (vxi i0 :: (us 14 []))),[]⟩
def s73v2:St:=⟨(us 19 []),[]⟩
def L73v1 {ρ:Type} (u:Nat) (x0:Nat) (x1:FF) (x2:Int):Nat→Int→(Int→Option ρ)→(Option ρ)→Option ρ
 | 0,_,_,_=>none
 | m+1,x3,k0,k1 =>
  (bif (decide (x3<x2)) then (bif (inb x3 x0) then (ob (F61 u (x1 x3.toNat 0).int (x1 x3.toNat 1).int) fun x4=>(bif x4 then (k0 x3) else (L73v1 u x0 x1 x2 m (w64 (x3+1)) k0 k1))) else none) else k1)
theorem nl73v1:∀ (m:Nat) (x0:Int) (k0:Int→Option ρ) (k1:Option ρ),ob (L73v1 u n0 f0 i0 m x0 k0 k1) ng=L73v1 u n0 f0 i0 m x0 (fun x1=>ob (k0 x1) ng) (ob k1 ng)
 | 0,_,_,_=>rfl
 | m+1,x0,k0,k1=>by
  simp only [L73v1,ob_bif,ob_ob,ob_none,nl73v1 m]
theorem q73v1:∀ (m:Nat) (x0:Int),
  loopH (eB A75v3 (C5 u) u) N73v1 m (s73v0 n0 f0 i0 x0) k=L73v1 u n0 f0 i0 m x0 (fun x1=>k .ret (s73v1 x1)) (k (.exit 0) s73v2)
 | 0,_=>rfl
 | m+1,x0=>by
  simp only [L73v1,← q73v1 m]
  kernel_rfl
def F73 (x0:Nat) (x1:FF):Option (Int) :=
 (L73v1 u x0 x1 (Int.ofNat x0) u 0
  (fun x2=>(some x2))
  (some (-1)))
def s73v3:St:=⟨[.x (.c (ro kP n0 f0)),.x (.c (.fn 58 0 (listF []))),uu,uu,vxi 0,uu,.x (.c (ro kP n0 f0)),vxi (Int.ofNat n0),vxi 0,uu,uu,uu,uu,uu,uu,uu,uu,uu,uu],[]⟩
theorem t73v1 :
  loopN (eB A75v3 (C5 u) u) N73v1 u (s73v3 n0 f0) k =
  L73v1 u n0 f0 (Int.ofNat n0) u 0 (fun x0=>k .ret (s73v1 x0)) (k (.exit 0) s73v2) :=
 Eq.trans (loopN_at (by kernel_rfl)) (q73v1 ..)
theorem g73v2 :
  (kBlk 0 (kSeq (C5 u) u (rl 4 15 []) A75v4 (finish A75))) .ret (s73v1 i0) =
  (some [.v (vi i0)]):=by kernel_rfl
theorem g73v3 :
  (kBlk 0 (kSeq (C5 u) u (rl 4 15 []) A75v4 (finish A75))) (.exit 0) s73v2 =
  (some [.v (vi (-1))]):=by kernel_rfl
theorem e73:evalF (C5 u) u A75 [.v (ro kP n0 f0),.v (.fn 58 0 (listF []))]=ob (F73 u n0 f0) fun t=>some [.v (vi t)]:=Eq.trans (b:=(loopN (eB A75v3 (C5 u) u) N73v1 u (s73v3 n0 f0) (kBlk 0 (kSeq (C5 u) u (rl 4 15 []) A75v4 (finish A75))))) (by kernel_rfl) (by
 simp only [F73,ob_bif,ob_ob,ob_none,ob_some,nl73v1,t73v1,g73v2,g73v3])
def O73:Ora:=mkO (qc (av (cL kP)) (q1 (av (cF 58 0 t0)))) (fun x=>F73 u x.1.1 x.1.2) fun t=>[.v (vi t)]
theorem d73:DO (O73 u) (C5 u) 75 A75:=dO u (fun x=>by exact e73 u x.1.1 x.1.2)
def C6:Oracle:=(C5 u).add 75 (fun l=>isFn 58 l 1) (O73 u)
def A55:AF:=⟨9,[.tmp 4],
 (.seq (.region 0 [o1 4 (sb false)] 0 none) []
 (.seq (.region 1 [mv 5 0,mv 6 1,o1 7 (cs 75 [5,6] [22,109]),o1 8 (bk .geq 3 7 0),o1 4 (sg 8)] 0 none) []
 (.ret (rl 0 4 (rl 5 4 [])))))⟩
def F50 (x0:Nat) (x1:FF):Option (Bool) :=
 (ob (F73 u x0 x1) fun x2=>(some (decide (x2≥0))))
theorem e50:evalF (C6 u) u A55 [.v (ro kP n0 f0),.v (.fn 58 0 (listF []))]=ob (F50 u n0 f0) fun t=>some [.v (.b t)]:=by
 simp only [F50,ob_bif,ob_ob,ob_none,ob_some]
 kernel_rfl
def O50:Ora:=mkO (qc (av (cL kP)) (q1 (av (cF 58 0 t0)))) (fun x=>F50 u x.1.1 x.1.2) fun t=>[.v (.b t)]
theorem d50:DO (O50 u) (C6 u) 55 A55:=dO u (fun x=>by exact e50 u x.1.1 x.1.2)
def C7:Oracle:=(C6 u).add 55 (fun l=>isFn 58 l 1) (O50 u)
def A76:AF:=⟨30,[.tmp 6],
 (.seq (.region 0 [o1 3 (bx 0 34 0),o1 4 (bx 1 34 1),o1 5 (bx 2 34 2),o1 6 (sk 0)] 3 none) []
 (.seq (.region 1 [o1 7 (fa 34 4 0 0),o1 8 (lo 3 7),o1 9 (fa 34 3 0 0),o1 10 (lo 3 9),o1 11 (bt .sub 3 8 10),o1 12 (fa 34 5 1 1),o1 13 (lo 3 12),o1 14 (fa 34 3 1 1),o1 15 (lo 3 14),o1 16 (bt .sub 3 13 15),o1 17 (bt .mul 3 11 16),o1 18 (fa 34 4 1 1),o1 19 (lo 3 18),o1 20 (fa 34 3 1 1),o1 21 (lo 3 20),o1 22 (bt .sub 3 19 21),o1 23 (fa 34 5 0 0),o1 24 (lo 3 23),o1 25 (fa 34 3 0 0),o1 26 (lo 3 25),o1 27 (bt .sub 3 24 26),o1 28 (bt .mul 3 22 27),o1 29 (bt .sub 3 17 28),o1 6 (sg 29)] 0 none) []
 (.ret (rl 0 6 (rl 7 23 [])))))⟩
def F79 (u:Nat) (x0 x1 x2 x3 x4 x5:Int):Option (Int) :=
 (some (w64 ((w64 ((w64 (x2-x0))*(w64 (x5-x1))))-(w64 ((w64 (x3-x1))*(w64 (x4-x0)))))))
theorem e79:evalF (C7 u) u A76 [.agg [(vi i0),(vi i1)],.agg [(vi i2),(vi i3)],.agg [(vi i4),(vi i5)]]=ob (F79 u i0 i1 i2 i3 i4 i5) fun t=>some [.v (vi t)]:=by
 simp only [F79,ob_bif,ob_ob,ob_none,ob_some]
 kernel_rfl
def O79:Ora:=mkO (qc (ag (tc ci (t1 ci))) (qc (ag (tc ci (t1 ci))) (q1 (ag (tc ci (t1 ci)))))) (fun x=>F79 u x.1.1 x.1.2 x.2.1.1 x.2.1.2 x.2.2.1 x.2.2.2) fun t=>[.v (vi t)]
theorem d79:DO (O79 u) (C7 u) 76 A76:=dO u (fun x=>by exact e79 u x.1.1 x.1.2 x.2.1.1 x.2.1.2 x.2.2.1 x.2.2.2)
def C8:Oracle:=(C7 u).add 76 (fun _=>true) (O79 u)
def A89:AF:=⟨45,[.tmp 6],
 (.seq (.region 0 [o1 3 (bx 0 34 0),o1 4 (bx 1 34 1),o1 5 (bx 2 34 2),o1 6 (sb false)] 3 none) []
 (.seq (.region 1 [o1 7 (fa 34 3 0 0),o1 8 (lo 3 7),o1 9 (fa 34 4 0 0),o1 10 (lo 3 9),o1 11 (.mm false [(tm 8),(tm 10)] [3,3]),o1 12 (fa 34 5 0 0),o1 13 (lo 3 12),o1 14 (bt .leq 3 11 13),mv 15 14,og 16 (fa 34 5 0 0) 15 true,og 17 (lo 3 16) 15 true,og 18 (fa 34 3 0 0) 15 true,og 19 (lo 3 18) 15 true,og 20 (fa 34 4 0 0) 15 true,og 21 (lo 3 20) 15 true,og 22 (.mm true [(tm 19),(tm 21)] [3,3]) 15 true,og 23 (bt .leq 3 17 22) 15 true,o1 24 (po 15 23),mv 25 24,og 26 (fa 34 3 1 1) 25 true,og 27 (lo 3 26) 25 true,og 28 (fa 34 4 1 1) 25 true,og 29 (lo 3 28) 25 true,og 30 (.mm false [(tm 27),(tm 29)] [3,3]) 25 true,og 31 (fa 34 5 1 1) 25 true,og 32 (lo 3 31) 25 true,og 33 (bt .leq 3 30 32) 25 true,o1 34 (po 25 33),mv 35 34,og 36 (fa 34 5 1 1) 35 true,og 37 (lo 3 36) 35 true,og 38 (fa 34 3 1 1) 35 true,og 39 (lo 3 38) 35 true,og 40 (fa 34 4 1 1) 35 true,og 41 (lo 3 40) 35 true,og 42 (.mm true [(tm 39),(tm 41)] [3,3]) 35 true,og 43 (bt .leq 3 37 42) 35 true,o1 44 (po 35 43),o1 6 (sg 44)] 0 none) []
 (.ret (rl 0 6 (rl 7 38 [])))))⟩
def F87 (u:Nat) (x0 x1 x2 x3 x4 x5:Int):Option (Bool) :=
 (bif ((decide ((if x2<x0 then x2 else x0)≤x4))==true) then (bif ((decide (x4≤(if x2>x0 then x2 else x0)))==true) then (bif ((decide ((if x3<x1 then x3 else x1)≤x5))==true) then (some (decide (x5≤(if x3>x1 then x3 else x1)))) else (some false)) else (some false)) else (some false))
theorem e87:evalF (C8 u) u A89 [.agg [(vi i0),(vi i1)],.agg [(vi i2),(vi i3)],.agg [(vi i4),(vi i5)]]=ob (F87 u i0 i1 i2 i3 i4 i5) fun t=>some [.v (.b t)]:=by
 simp only [F87,ob_bif,ob_ob,ob_none,ob_some]
 kernel_rfl
def O87:Ora:=mkO (qc (ag (tc ci (t1 ci))) (qc (ag (tc ci (t1 ci))) (q1 (ag (tc ci (t1 ci)))))) (fun x=>F87 u x.1.1 x.1.2 x.2.1.1 x.2.1.2 x.2.2.1 x.2.2.2) fun t=>[.v (.b t)]
theorem d87:DO (O87 u) (C8 u) 89 A89:=dO u (fun x=>by exact e87 u x.1.1 x.1.2 x.2.1.1 x.2.1.2 x.2.2.1 x.2.2.2)
def C9:Oracle:=(C8 u).add 89 (fun _=>true) (O87 u)
def A81:AF:=⟨18,[.tmp 6],
 (.seq (.region 0 [o1 3 (bx 0 34 0),o1 4 (bx 1 34 1),o1 5 (bx 2 34 2),o1 6 (sb false)] 3 none) []
 (.seq (.region 1 [o1 7 (ln 34 2 3),o1 8 (ln 34 2 4),o1 9 (ln 34 2 5),o1 10 (cs 76 [7,8,9] [34,34,34]),o1 11 (bk .eql 3 10 0),mv 12 11,og 13 (ln 34 2 3) 12 true,og 14 (ln 34 2 4) 12 true,og 15 (ln 34 2 5) 12 true,og 16 (cs 89 [13,14,15] [34,34,34]) 12 true,o1 17 (po 12 16),o1 6 (sg 17)] 0 none) []
 (.ret (rl 0 6 (rl 7 11 [])))))⟩
def F81 (x0 x1 x2 x3 x4 x5:Int):Option (Bool) :=
 (ob (F79 u x0 x1 x2 x3 x4 x5) fun x6=>(bif ((x6==0)==true) then (ob (F87 u x0 x1 x2 x3 x4 x5) fun x7=>(some x7)) else (some false)))
theorem e81:evalF (C9 u) u A81 [.agg [(vi i0),(vi i1)],.agg [(vi i2),(vi i3)],.agg [(vi i4),(vi i5)]]=ob (F81 u i0 i1 i2 i3 i4 i5) fun t=>some [.v (.b t)]:=by
 simp only [F81,ob_bif,ob_ob,ob_none,ob_some]
 kernel_rfl
def O81:Ora:=mkO (qc (ag (tc ci (t1 ci))) (qc (ag (tc ci (t1 ci))) (q1 (ag (tc ci (t1 ci)))))) (fun x=>F81 u x.1.1 x.1.2 x.2.1.1 x.2.1.2 x.2.2.1 x.2.2.2) fun t=>[.v (.b t)]
theorem d81:DO (O81 u) (C9 u) 81 A81:=dO u (fun x=>by exact e81 u x.1.1 x.1.2 x.2.1.1 x.2.1.2 x.2.2.1 x.2.2.2)
def C10:Oracle:=(C9 u).add 81 (fun _=>true) (O81 u)
def A87:AF:=⟨6,[.tmp 2],
 (.seq (.region 0 [o1 2 (sb false)] 0 none) []
 (.seq (.region 1 [mv 3 0,mv 4 0,o1 5 (bt .neq 3 3 4),o1 2 (sg 5)] 0 none) []
 (.ret [0,1,3,4,5])))⟩
def F90 (u:Nat) (x0:Int):Option (Bool) :=
 (some (x0 != x0))
theorem e90:evalF (C10 u) u A87 [.v (vi i0)]=ob (F90 u i0) fun t=>some [.v (.b t)]:=by
 simp only [F90,ob_bif,ob_ob,ob_none,ob_some]
 kernel_rfl
def O90:Ora:=mkO (q1 (av ci)) (fun x=>F90 u x) fun t=>[.v (.b t)]
theorem d90:DO (O90 u) (C10 u) 87 A87:=dO u (fun x=>by exact e90 u x)
def C11:Oracle:=(C10 u).add 87 (fun _=>true) (O90 u)
def A91v1:AC:=(.seq (.region 6 [o1 4 (sk (-1))] 0 none) []
 (.ret (rl 0 4 (rl 5 15 []))))
def A91v2:AC:=(.seq (.region 13 [o1 4 (sk 0)] 0 none) []
 (.ret (rl 0 4 (rl 5 15 []))))
def A91v3:AC:=(.seq (.seq (.region 11 [mv 17 0,mv 18 1,o1 19 (bt .gtr 3 17 18)] 0 none) []
 (.cond (tm 19)
 (.seq (.region 12 [o1 4 (sk 1)] 0 none) []
  (.ret (rl 0 4 (rl 5 15 []))))
 .skip)) [4,17,18,19]
 A91v2)
def A91v4:AC:=(.seq (.seq (.region 9 [mv 14 0,mv 15 1,o1 16 (bt .lss 3 14 15)] 0 none) []
 (.cond (tm 16)
 (.seq (.region 10 [o1 4 (sk (-1))] 0 none) []
  (.ret (rl 0 4 (rl 5 15 []))))
 .skip)) [4,14,15,16]
 A91v3)
def A91v5:AC:=(.seq (.seq (.region 7 [mv 13 6] 0 none) []
 (.cond (tm 13)
 (.seq (.region 8 [o1 4 (sk 1)] 0 none) []
  (.ret (rl 0 4 (rl 5 15 []))))
 .skip)) [4,13]
 A91v4)
def A91:AF:=⟨20,[.tmp 4],
 (.seq (.region 0 [o1 4 (sk 0)] 0 none) []
 (.seq (.region 1 [mv 7 0,o1 8 (cs 87 [7] [3]),o1 5 (sg 8)] 0 none) []
 (.seq (.region 2 [mv 9 1,o1 10 (cs 87 [9] [3]),o1 6 (sg 10)] 0 none) []
 (.seq (.seq (.region 3 [mv 11 5] 0 none) []
 (.cond (tm 11)
 (.seq (.seq (.region 4 [mv 12 6] 0 none) []
  (.cond (tm 12)
  (.seq (.region 5 [o1 4 (sk 0)] 0 none) []
   (.ret (rl 0 4 (rl 5 15 []))))
  .skip)) [4,12]
  A91v1)
 .skip)) [4,11,12]
 A91v5))))⟩
def F89 (x0 x1:Int):Option (Int) :=
 (ob (F90 u x0) fun x2=>(ob (F90 u x1) fun x3=>(bif x2 then (bif x3 then (some 0) else (some (-1))) else (bif x3 then (some 1) else (bif (decide (x0<x1)) then (some (-1)) else (bif (decide (x0>x1)) then (some 1) else (some 0)))))))
theorem e89:evalF (C11 u) u A91 [.v (vi i0),.v (vi i1)]=ob (F89 u i0 i1) fun t=>some [.v (vi t)]:=by
 simp only [F89,ob_bif,ob_ob,ob_none,ob_some]
 kernel_rfl
def O89:Ora:=mkO (qc (av ci) (q1 (av ci))) (fun x=>F89 u x.1 x.2) fun t=>[.v (vi t)]
theorem d89:DO (O89 u) (C11 u) 91 A91:=dO u (fun x=>by exact e89 u x.1 x.2)
def C12:Oracle:=(C11 u).add 91 (fun _=>true) (O89 u)
def A88:AF:=⟨5,[.tmp 2],
 (.seq (.region 0 [o1 2 (sk 0)] 0 none) []
 (.seq (.region 1 [mv 3 0,o1 4 (.call 91 [(tm 3),(ic 0)] [3,3] .snap),o1 2 (sg 4)] 0 none) []
 (.ret [0,1,3,4])))⟩
def F86 (x0:Int):Option (Int) :=
 (ob (F89 u x0 0) fun x1=>(some x1))
theorem e86:evalF (C12 u) u A88 [.v (vi i0)]=ob (F86 u i0) fun t=>some [.v (vi t)]:=by
 simp only [F86,ob_bif,ob_ob,ob_none,ob_some]
 kernel_rfl
def O86:Ora:=mkO (q1 (av ci)) (fun x=>F86 u x) fun t=>[.v (vi t)]
theorem d86:DO (O86 u) (C12 u) 88 A88:=dO u (fun x=>by exact e86 u x)
def C13:Oracle:=(C12 u).add 88 (fun _=>true) (O86 u)
def A77v1:AC:=(.seq (.region 3 [o1 31 (ln 34 2 4),o1 32 (ln 34 2 5),o1 33 (ln 34 2 6),o1 34 (cs 76 [31,32,33] [34,34,34]),o1 35 (cs 88 [34] [3]),o1 36 (ln 34 2 4),o1 37 (ln 34 2 5),o1 38 (ln 34 2 7),o1 39 (cs 76 [36,37,38] [34,34,34]),o1 40 (cs 88 [39] [3]),o1 41 (bt .mul 3 35 40),o1 42 (bk .lss 3 41 0),mv 43 42,og 44 (ln 34 2 6) 43 true,og 45 (ln 34 2 7) 43 true,og 46 (ln 34 2 4) 43 true,og 47 (cs 76 [44,45,46] [34,34,34]) 43 true,og 48 (cs 88 [47] [3]) 43 true,og 49 (ln 34 2 6) 43 true,og 50 (ln 34 2 7) 43 true,og 51 (ln 34 2 5) 43 true,og 52 (cs 76 [49,50,51] [34,34,34]) 43 true,og 53 (cs 88 [52] [3]) 43 true,og 54 (bt .mul 3 48 53) 43 true,og 55 (bk .lss 3 54 0) 43 true,o1 56 (po 43 55),o1 8 (sg 56)] 0 (some [[],[],[],[0,1,2],(rl 0 4 []),[],[],[],(rl 0 8 []),(rl 0 9 []),(rl 0 10 []),(rl 0 11 []),(rl 0 12 []),(rl 0 13 []),(rl 0 13 []),(rl 0 13 []),(rl 0 16 []),(rl 0 17 []),(rl 0 13 []),(rl 0 13 []),(rl 0 13 []),(rl 0 21 []),(rl 0 22 []),(rl 0 23 []),(rl 0 24 []),(rl 0 25 []),(rl 0 26 [])])) []
 (.ret (rl 0 8 (rl 9 48 []))))
def A77:AF:=⟨57,[.tmp 8],
 (.seq (.region 0 [o1 4 (bx 0 34 0),o1 5 (bx 1 34 1),o1 6 (bx 2 34 2),o1 7 (bx 3 34 3),o1 8 (sb false)] 4 none) []
 (.seq (.seq (.region 1 [o1 9 (ln 34 2 4),o1 10 (ln 34 2 5),o1 11 (ln 34 2 6),o1 12 (cs 81 [9,10,11] [34,34,34]),mv 13 12,og 14 (ln 34 2 4) 13 false,og 15 (ln 34 2 5) 13 false,og 16 (ln 34 2 7) 13 false,og 17 (cs 81 [14,15,16] [34,34,34]) 13 false,o1 18 (pa 13 17),mv 19 18,og 20 (ln 34 2 6) 19 false,og 21 (ln 34 2 7) 19 false,og 22 (ln 34 2 4) 19 false,og 23 (cs 81 [20,21,22] [34,34,34]) 19 false,o1 24 (pa 19 23),mv 25 24,og 26 (ln 34 2 6) 25 false,og 27 (ln 34 2 7) 25 false,og 28 (ln 34 2 5) 25 false,og 29 (cs 81 [26,27,28] [34,34,34]) 25 false,o1 30 (pa 25 29)] 0 none) []
 (.cond (tm 30)
 (.seq (.region 2 [o1 8 (sb true)] 0 none) []
  (.ret (rl 0 8 (rl 9 48 []))))
 .skip)) (rl 8 23 [])
 A77v1))⟩
def F80 (x0 x1 x2 x3 x4 x5 x6 x7:Int):Option (Bool) :=
 (ob (F81 u x0 x1 x2 x3 x4 x5) fun x8=>(bif (x8==false) then (ob (F81 u x0 x1 x2 x3 x6 x7) fun x9=>(bif (x9==false) then (ob (F81 u x4 x5 x6 x7 x0 x1) fun xA=>(bif (xA==false) then (ob (F81 u x4 x5 x6 x7 x2 x3) fun xB=>(bif xB then (some true) else (ob (F79 u x0 x1 x2 x3 x4 x5) fun xC=>(ob (F86 u xC) fun xD=>(ob (F79 u x0 x1 x2 x3 x6 x7) fun xE=>(ob (F86 u xE) fun xF=>(bif ((decide ((w64 (xD*xF))<0))==true) then (ob (F79 u x4 x5 x6 x7 x0 x1) fun xG=>(ob (F86 u xG) fun xH=>(ob (F79 u x4 x5 x6 x7 x2 x3) fun xI=>(ob (F86 u xI) fun xJ=>(some (decide ((w64 (xH*xJ))<0))))))) else (some false)))))))) else (some true))) else (some true))) else (some true)))
theorem e80:evalF (C13 u) u A77 [.agg [(vi i0),(vi i1)],.agg [(vi i2),(vi i3)],.agg [(vi i4),(vi i5)],.agg [(vi i6),(vi i7)]]=ob (F80 u i0 i1 i2 i3 i4 i5 i6 i7) fun t=>some [.v (.b t)]:=by
 simp only [F80,ob_bif,ob_ob,ob_none,ob_some]
 kernel_rfl
def O80:Ora:=mkO (qc (ag (tc ci (t1 ci))) (qc (ag (tc ci (t1 ci))) (qc (ag (tc ci (t1 ci))) (q1 (ag (tc ci (t1 ci))))))) (fun x=>F80 u x.1.1 x.1.2 x.2.1.1 x.2.1.2 x.2.2.1.1 x.2.2.1.2 x.2.2.2.1 x.2.2.2.2) fun t=>[.v (.b t)]
theorem d80:DO (O80 u) (C13 u) 77 A77:=dO u (fun x=>by exact e80 u x.1.1 x.1.2 x.2.1.1 x.2.1.2 x.2.2.1.1 x.2.2.1.2 x.2.2.2.1 x.2.2.2.2)
def C14:Oracle:=(C13 u).add 77 (fun _=>true) (O80 u)
def A59v1:AC:=(.region 13 [mv 73 8,o1 74 (bk .add 3 73 1),o1 8 (sg 74)] 0 none)
def A59v2:AC:=(.seq (.block 3
 (.seq (.region 14 [mv 75 8,o1 76 (bk .add 3 75 1),mv 77 3,o1 78 (bt .rem 3 76 77),mv 79 4,o1 80 (bt .neq 3 78 79),mv 81 80,og 82 (ln 34 2 5) 81 true,og 83 (ln 34 2 6) 81 true,og 84 (.move (tm 0)) 81 true,og 85 (.move (tm 8)) 81 true,og 86 (.indexAddr 22 34 2 (tm 84) (tm 85)) 81 true,og 87 (ln 34 2 86) 81 true,og 88 (.move (tm 0)) 81 true,og 89 (.move (tm 8)) 81 true,og 90 (bk .add 3 89 1) 81 true,og 91 (.move (tm 3)) 81 true,og 92 (bt .rem 3 90 91) 81 true,og 93 (.indexAddr 22 34 2 (tm 88) (tm 92)) 81 true,og 94 (ln 34 2 93) 81 true,og 95 (cs 77 [82,83,87,94] [34,34,34,34]) 81 true,o1 96 (po 81 95)] 0 (some [[],[0],[],[0,1,2],[],(rl 0 5 []),(rl 0 6 []),(rl 0 7 []),(rl 0 7 []),(rl 0 7 []),(rl 0 7 []),(rl 0 7 [9,10]),(rl 0 7 [9,10,11]),(rl 0 7 []),(rl 0 7 []),(rl 0 7 [14]),(rl 0 7 []),(rl 0 7 [14,15,16]),(rl 0 7 (rl 13 5 [])),(rl 0 7 (rl 13 6 [])),(rl 0 20 []),(rl 0 21 [])])) []
  (.cond (tm 96)
  (.seq (.region 15 [o1 2 (sb false)] 0 none) []
   (.ret (0 :: 1 :: (rl 3 95 []))))
  .skip))) (2 :: (rl 75 22 []))
 A59v1)
def A59v3:AC:=(.seq (.seq (.region 12 [mv 70 8,mv 71 3,o1 72 (bt .lss 3 70 71)] 0 none) []
 (.cond (tm 72)
 .skip
 (.exit 2 (1 :: 2 :: (rl 4 8 (rl 14 84 [])))))) [70,71,72]
 A59v2)
def A59v4:AC:=(.seq (.region 11 [mv 68 4,o1 69 (bk .add 3 68 2),o1 8 (sg 69)] 0 none) []
 (.block 2
 (.loop [] (1 :: 2 :: 7 :: 9 :: 10 :: 11 :: (rl 14 84 []))
  A59v3)))
def A59v5:AC:=(.seq (.region 8 [mv 30 0,mv 31 4,o1 32 (bk .add 3 31 2),mv 33 3,o1 34 (bt .rem 3 32 33),o1 35 (.indexAddr 22 34 2 (tm 30) (tm 34)),o1 36 (ln 34 2 35),o1 7 (.alloc 0 34 [vci 0,vci 0]),o0 (.store 34 2 (tm 7) (tm 36))] 1 none) []
 (.seq (.seq (.region 9 [o1 37 (ln 34 2 5),o1 38 (ln 34 2 6),o1 39 (ln 34 2 7),o1 40 (cs 76 [37,38,39] [34,34,34]),o1 41 (bk .eql 3 40 0),mv 42 41,og 43 (fa 34 5 0 0) 42 true,og 44 (lo 3 43) 42 true,og 45 (fa 34 6 0 0) 42 true,og 46 (lo 3 45) 42 true,og 47 (bt .sub 3 44 46) 42 true,og 48 (fa 34 7 0 0) 42 true,og 49 (lo 3 48) 42 true,og 50 (fa 34 6 0 0) 42 true,og 51 (lo 3 50) 42 true,og 52 (bt .sub 3 49 51) 42 true,og 53 (bt .mul 3 47 52) 42 true,og 54 (fa 34 5 1 1) 42 true,og 55 (lo 3 54) 42 true,og 56 (fa 34 6 1 1) 42 true,og 57 (lo 3 56) 42 true,og 58 (bt .sub 3 55 57) 42 true,og 59 (fa 34 7 1 1) 42 true,og 60 (lo 3 59) 42 true,og 61 (fa 34 6 1 1) 42 true,og 62 (lo 3 61) 42 true,og 63 (bt .sub 3 60 62) 42 true,og 64 (bt .mul 3 58 63) 42 true,og 65 (bt .add 3 53 64) 42 true,og 66 (bk .gtr 3 65 0) 42 true,o1 67 (po 42 66)] 0 none) []
 (.cond (tm 67)
 (.seq (.region 10 [o1 2 (sb false)] 0 none) []
  (.ret (0 :: 1 :: (rl 3 95 []))))
 .skip)) (2 :: (rl 37 31 []))
 A59v4))
def A59v6:AC:=(.region 16 [o1 97 (bk .add 3 13 1),mv 13 97] 0 none)
def A59v7:AC:=(.seq (.block 1
 (.seq (.region 4 [mv 15 13,o1 4 (sg 15)] 0 none) []
  (.seq (.region 5 [mv 16 0,mv 17 4,o1 18 (.indexAddr 22 34 2 (tm 16) (tm 17)),o1 19 (ln 34 2 18),mv 20 0,mv 21 4,o1 22 (bk .add 3 21 1),mv 23 3,o1 24 (bt .rem 3 22 23),o1 25 (.indexAddr 22 34 2 (tm 20) (tm 24)),o1 26 (ln 34 2 25),o1 5 (.alloc 0 34 [vci 0,vci 0]),o1 6 (.alloc 1 34 [vci 0,vci 0]),o0 (.store 34 2 (tm 5) (tm 19)),o0 (.store 34 2 (tm 6) (tm 26))] 2 (some [[],[],[0,1],[0,1,2],[],[],[5],[],[5,6,7],(rl 4 5 []),(rl 4 6 []),[],[],(rl 0 4 [11,12]),(rl 0 14 [])])) []
  (.seq (.seq (.region 6 [o1 27 (ln 34 2 5),o1 28 (ln 34 2 6),o1 29 (.eqA false kP 34 (tm 27) (tm 28) 34)] 0 none) []
  (.cond (tm 29)
  (.seq (.region 7 [o1 2 (sb false)] 0 none) []
   (.ret (0 :: 1 :: (rl 3 95 []))))
  .skip)) [2,27,28,29]
  A59v5)))) (2 :: (rl 4 5 (rl 15 82 [])))
 A59v6)
def A59v8:AC:=(.seq (.region 3 [o1 14 (bt .lss 3 13 12)] 0 none) []
 (.seq (.cond (tm 14)
 .skip
 (.exit 0 (rl 0 98 []))) []
 A59v7))
def A59v9:AC:=(.seq (.region 17 [o1 2 (sb true)] 0 none) []
 (.ret (0 :: 1 :: (rl 3 95 []))))
def A59:AF:=⟨98,[.tmp 2],
 (.seq (.region 0 [o1 2 (sb false)] 0 none) []
 (.seq (.region 1 [mv 9 0,o1 10 (.len 22 false (tm 9)),o1 3 (sg 10)] 0 none) []
 (.seq (.seq (.region 2 [mv 11 0,o1 12 (.len 22 false (tm 11)),o1 13 (.move (ic 0))] 0 none) []
 (.block 0
 (.loop [] (1 :: 2 :: (rl 4 8 (rl 14 84 [])))
  A59v8))) (2 :: (rl 4 5 (rl 11 87 [])))
 A59v9)))⟩
def N62v2:St→Option St:=nN 3 (1 :: 2 :: 7 :: 9 :: 10 :: 11 :: (rl 14 84 []))
def s62v0:St:=⟨(.x (.c (ro kP n0 f0)) :: .u :: .u :: vxi i0 :: vxi i1 :: .x (.ptr 0 0) :: .x (.ptr 1 0) :: .u :: vxi i2 :: (us 3 (vxi i0 :: vxi i1 :: (us 84 [])))),[.box [(vci i3),(vci i4)],.box [(vci i5),(vci i6)],.box [(vci i7),(vci i8)]]⟩
def s62v1:St:=⟨(.u :: .u :: vxb false :: (us 95 [])),[.box [(vci i0),(vci i1)],.box [(vci i2),(vci i3)],.box [(vci i4),(vci i5)]]⟩
def s62v2:St:=⟨(.x (.c (ro kP n0 f0)) :: .u :: .u :: vxi i0 :: (us 8 (vxi i0 :: vxi i1 :: (us 84 [])))),[.box [(vci i2),(vci i3)],.box [(vci i4),(vci i5)],.box [(vci i6),(vci i7)]]⟩
def L62v2 {ρ:Type} (u:Nat) (x0:Nat) (x1:FF) (x2 x3 x4 x5 x6 x7 x8 x9:Int):Nat→Int→(Option ρ)→(Option ρ)→Option ρ
 | 0,_,_,_=>none
 | m+1,xA,k0,k1 =>
  (bif (decide (xA<x2)) then (bif (x2==0) then none else (bif (((Int.tmod (w64 (xA+1)) x2) != x3)==true) then (bif (inb xA x0) then (bif (x2==0) then none else (bif (inb (Int.tmod (w64 (xA+1)) x2) x0) then (ob (F80 u x4 x5 x6 x7 (x1 xA.toNat 0).int (x1 xA.toNat 1).int (CV.int (x1 (Int.toNat (Int.tmod (w64 (xA+1)) x2)) 0)) (CV.int (x1 (Int.toNat (Int.tmod (w64 (xA+1)) x2)) 1))) fun xB=>(bif xB then k0 else (L62v2 u x0 x1 x2 x3 x4 x5 x6 x7 x8 x9 m (w64 (xA+1)) k0 k1))) else none)) else none) else (L62v2 u x0 x1 x2 x3 x4 x5 x6 x7 x8 x9 m (w64 (xA+1)) k0 k1))) else k1)
theorem nl62v2:∀ (m:Nat) (x0:Int) (k0:Option ρ) (k1:Option ρ),ob (L62v2 u n0 f0 i0 i1 i2 i3 i4 i5 i6 i7 m x0 k0 k1) ng=L62v2 u n0 f0 i0 i1 i2 i3 i4 i5 i6 i7 m x0 (ob k0 ng) (ob k1 ng)
 | 0,_,_,_=>rfl
 | m+1,x0,k0,k1=>by
  simp only [L62v2,ob_bif,ob_ob,ob_none,nl62v2 m]
theorem q62v2:∀ (m:Nat) (x0:Int),
  loopH (eB A59v3 (C14 u) u) N62v2 m (s62v0 n0 f0 i0 i1 x0 i2 i3 i4 i5 i6 i7) k=L62v2 u n0 f0 i0 i1 i2 i3 i4 i5 i6 i7 m x0 (k .ret (s62v1 i2 i3 i4 i5 i6 i7)) (k (.exit 2) (s62v2 n0 f0 i0 i1 i2 i3 i4 i5 i6 i7))
 | 0,_=>rfl
 | m+1,x0=>by
  simp only [L62v2,← q62v2 m]
  kernel_rfl
def N62v3:St→Option St:=nN 0 (1 :: 2 :: (rl 4 8 (rl 14 84 [])))
def s62v3:St:=⟨(.x (.c (ro kP n0 f0)) :: .u :: .u :: vxi i0 :: (us 8 (vxi i0 :: vxi i1 :: (us 84 [])))),[]⟩
def s62v4:St:=⟨(.u :: .u :: vxb false :: (us 95 [])),[.box [(vci i0),(vci i1)],.box [(vci i2),(vci i3)]]⟩
def s62v5:St:=⟨(.u :: .u :: vxb false :: (us 95 [])),[.box [(vci i0),(vci i1)],.box [(vci i2),(vci i3)],.box [(vci i4),(vci i5)]]⟩
def s62v6:St:=⟨(us 98 []),[]⟩
def L62v3 {ρ:Type} (u:Nat) (x0:Nat) (x1:FF) (x2:Int):Nat→Int→(Int→Int→Int→Int→Option ρ)→(Int→Int→Int→Int→Int→Int→Option ρ)→(Option ρ)→Option ρ
 | 0,_,_,_,_=>none
 | m+1,x3,k0,k1,k2 =>
  (bif (decide (x3<x2)) then (bif (inb x3 x0) then (bif (x2==0) then none else (bif (inb (Int.tmod (w64 (x3+1)) x2) x0) then (bif (((x1 x3.toNat 0).int==(CV.int (x1 (Int.toNat (Int.tmod (w64 (x3+1)) x2)) 0)))&&(((x1 x3.toNat 1).int==(CV.int (x1 (Int.toNat (Int.tmod (w64 (x3+1)) x2)) 1)))&&true)) then (k0 (x1 x3.toNat 0).int (x1 x3.toNat 1).int (CV.int (x1 (Int.toNat (Int.tmod (w64 (x3+1)) x2)) 0)) (CV.int (x1 (Int.toNat (Int.tmod (w64 (x3+1)) x2)) 1))) else (bif (x2==0) then none else (bif (inb (Int.tmod (w64 (x3+2)) x2) x0) then (ob (F79 u (x1 x3.toNat 0).int (x1 x3.toNat 1).int (CV.int (x1 (Int.toNat (Int.tmod (w64 (x3+1)) x2)) 0)) (CV.int (x1 (Int.toNat (Int.tmod (w64 (x3+1)) x2)) 1)) (CV.int (x1 (Int.toNat (Int.tmod (w64 (x3+2)) x2)) 0)) (CV.int (x1 (Int.toNat (Int.tmod (w64 (x3+2)) x2)) 1))) fun x4=>(bif ((x4==0)==true) then (bif (decide ((w64 ((w64 ((w64 ((x1 x3.toNat 0).int-(CV.int (x1 (Int.toNat (Int.tmod (w64 (x3+1)) x2)) 0))))*(w64 ((CV.int (x1 (Int.toNat (Int.tmod (w64 (x3+2)) x2)) 0))-(CV.int (x1 (Int.toNat (Int.tmod (w64 (x3+1)) x2)) 0))))))+(w64 ((w64 ((x1 x3.toNat 1).int-(CV.int (x1 (Int.toNat (Int.tmod (w64 (x3+1)) x2)) 1))))*(w64 ((CV.int (x1 (Int.toNat (Int.tmod (w64 (x3+2)) x2)) 1))-(CV.int (x1 (Int.toNat (Int.tmod (w64 (x3+1)) x2)) 1))))))))>0)) then (k1 (x1 x3.toNat 0).int (x1 x3.toNat 1).int (CV.int (x1 (Int.toNat (Int.tmod (w64 (x3+1)) x2)) 0)) (CV.int (x1 (Int.toNat (Int.tmod (w64 (x3+1)) x2)) 1)) (CV.int (x1 (Int.toNat (Int.tmod (w64 (x3+2)) x2)) 0)) (CV.int (x1 (Int.toNat (Int.tmod (w64 (x3+2)) x2)) 1))) else (L62v2 u x0 x1 x2 x3 (x1 x3.toNat 0).int (x1 x3.toNat 1).int (CV.int (x1 (Int.toNat (Int.tmod (w64 (x3+1)) x2)) 0)) (CV.int (x1 (Int.toNat (Int.tmod (w64 (x3+1)) x2)) 1)) (CV.int (x1 (Int.toNat (Int.tmod (w64 (x3+2)) x2)) 0)) (CV.int (x1 (Int.toNat (Int.tmod (w64 (x3+2)) x2)) 1)) u (w64 (x3+2))
  (k1 (x1 x3.toNat 0).int (x1 x3.toNat 1).int (CV.int (x1 (Int.toNat (Int.tmod (w64 (x3+1)) x2)) 0)) (CV.int (x1 (Int.toNat (Int.tmod (w64 (x3+1)) x2)) 1)) (CV.int (x1 (Int.toNat (Int.tmod (w64 (x3+2)) x2)) 0)) (CV.int (x1 (Int.toNat (Int.tmod (w64 (x3+2)) x2)) 1)))
  (L62v3 u x0 x1 x2 m (w64 (x3+1)) k0 k1 k2))) else (L62v2 u x0 x1 x2 x3 (x1 x3.toNat 0).int (x1 x3.toNat 1).int (CV.int (x1 (Int.toNat (Int.tmod (w64 (x3+1)) x2)) 0)) (CV.int (x1 (Int.toNat (Int.tmod (w64 (x3+1)) x2)) 1)) (CV.int (x1 (Int.toNat (Int.tmod (w64 (x3+2)) x2)) 0)) (CV.int (x1 (Int.toNat (Int.tmod (w64 (x3+2)) x2)) 1)) u (w64 (x3+2))
  (k1 (x1 x3.toNat 0).int (x1 x3.toNat 1).int (CV.int (x1 (Int.toNat (Int.tmod (w64 (x3+1)) x2)) 0)) (CV.int (x1 (Int.toNat (Int.tmod (w64 (x3+1)) x2)) 1)) (CV.int (x1 (Int.toNat (Int.tmod (w64 (x3+2)) x2)) 0)) (CV.int (x1 (Int.toNat (Int.tmod (w64 (x3+2)) x2)) 1)))
  (L62v3 u x0 x1 x2 m (w64 (x3+1)) k0 k1 k2)))) else none))) else none)) else none) else k2)
theorem nl62v3:∀ (m:Nat) (x0:Int) (k0:Int→Int→Int→Int→Option ρ) (k1:Int→Int→Int→Int→Int→Int→Option ρ) (k2:Option ρ),ob (L62v3 u n0 f0 i0 m x0 k0 k1 k2) ng=L62v3 u n0 f0 i0 m x0 (fun x1 x2 x3 x4=>ob (k0 x1 x2 x3 x4) ng) (fun x5 x6 x7 x8 x9 xA=>ob (k1 x5 x6 x7 x8 x9 xA) ng) (ob k2 ng)
 | 0,_,_,_,_=>rfl
 | m+1,x0,k0,k1,k2=>by
  simp only [L62v3,ob_bif,ob_ob,ob_none,nl62v3 m,nl62v2]
def s62v7:St:=⟨(.x (.c (ro kP n0 f0)) :: .u :: .u :: vxi i0 :: vxi i1 :: .x (.ptr 0 0) :: .x (.ptr 1 0) :: .x (.ptr 2 0) :: vxi (w64 (i1+2)) :: (us 3 (vxi i0 :: vxi i1 :: vxb true :: vxi i1 :: .x (.c (ro kP n0 f0)) :: vxi i1 :: .x (.c (.rp kP (f0 i1.toNat))) :: .agg [(vci (f0 i1.toNat 0).int),(vci (f0 i1.toNat 1).int)] :: .x (.c (ro kP n0 f0)) :: vxi i1 :: vxi (w64 (i1+1)) :: vxi i0 :: vxi (Int.tmod (w64 (i1+1)) i0) :: .x (.c (.rp kP (f0 (Int.toNat (Int.tmod (w64 (i1+1)) i0))))) :: .agg [(vci (CV.int (f0 (Int.toNat (Int.tmod (w64 (i1+1)) i0)) 0))),(vci (CV.int (f0 (Int.toNat (Int.tmod (w64 (i1+1)) i0)) 1)))] :: (us 3 (.x (.c (ro kP n0 f0)) :: vxi i1 :: vxi (w64 (i1+2)) :: vxi i0 :: vxi (Int.tmod (w64 (i1+2)) i0) :: .x (.c (.rp kP (f0 (Int.toNat (Int.tmod (w64 (i1+2)) i0))))) :: .agg [(vci (CV.int (f0 (Int.toNat (Int.tmod (w64 (i1+2)) i0)) 0))),(vci (CV.int (f0 (Int.toNat (Int.tmod (w64 (i1+2)) i0)) 1)))] :: (us 31 (vxi i1 :: vxi (w64 (i1+2)) :: (us 28 [])))))))),[.box [(vci (f0 i1.toNat 0).int),(vci (f0 i1.toNat 1).int)],.box [(vci (CV.int (f0 (Int.toNat (Int.tmod (w64 (i1+1)) i0)) 0))),(vci (CV.int (f0 (Int.toNat (Int.tmod (w64 (i1+1)) i0)) 1)))],.box [(vci (CV.int (f0 (Int.toNat (Int.tmod (w64 (i1+2)) i0)) 0))),(vci (CV.int (f0 (Int.toNat (Int.tmod (w64 (i1+2)) i0)) 1)))]]⟩
theorem r62v3 :
  loopH (eB A59v8 (C14 u) u) N62v3 (m+1) (s62v3 n0 f0 i0 i1) k =
  (bif (decide (i1<i0)) then (bif (inb i1 n0) then (bif (i0==0) then none else (bif (inb (Int.tmod (w64 (i1+1)) i0) n0) then (bif (((f0 i1.toNat 0).int==(CV.int (f0 (Int.toNat (Int.tmod (w64 (i1+1)) i0)) 0)))&&(((f0 i1.toNat 1).int==(CV.int (f0 (Int.toNat (Int.tmod (w64 (i1+1)) i0)) 1)))&&true)) then (k .ret (s62v4 (f0 i1.toNat 0).int (f0 i1.toNat 1).int (CV.int (f0 (Int.toNat (Int.tmod (w64 (i1+1)) i0)) 0)) (CV.int (f0 (Int.toNat (Int.tmod (w64 (i1+1)) i0)) 1)))) else (bif (i0==0) then none else (bif (inb (Int.tmod (w64 (i1+2)) i0) n0) then (ob (F79 u (f0 i1.toNat 0).int (f0 i1.toNat 1).int (CV.int (f0 (Int.toNat (Int.tmod (w64 (i1+1)) i0)) 0)) (CV.int (f0 (Int.toNat (Int.tmod (w64 (i1+1)) i0)) 1)) (CV.int (f0 (Int.toNat (Int.tmod (w64 (i1+2)) i0)) 0)) (CV.int (f0 (Int.toNat (Int.tmod (w64 (i1+2)) i0)) 1))) fun x0=>(bif ((x0==0)==true) then (bif (decide ((w64 ((w64 ((w64 ((f0 i1.toNat 0).int-(CV.int (f0 (Int.toNat (Int.tmod (w64 (i1+1)) i0)) 0))))*(w64 ((CV.int (f0 (Int.toNat (Int.tmod (w64 (i1+2)) i0)) 0))-(CV.int (f0 (Int.toNat (Int.tmod (w64 (i1+1)) i0)) 0))))))+(w64 ((w64 ((f0 i1.toNat 1).int-(CV.int (f0 (Int.toNat (Int.tmod (w64 (i1+1)) i0)) 1))))*(w64 ((CV.int (f0 (Int.toNat (Int.tmod (w64 (i1+2)) i0)) 1))-(CV.int (f0 (Int.toNat (Int.tmod (w64 (i1+1)) i0)) 1))))))))>0)) then (k .ret (s62v5 (f0 i1.toNat 0).int (f0 i1.toNat 1).int (CV.int (f0 (Int.toNat (Int.tmod (w64 (i1+1)) i0)) 0)) (CV.int (f0 (Int.toNat (Int.tmod (w64 (i1+1)) i0)) 1)) (CV.int (f0 (Int.toNat (Int.tmod (w64 (i1+2)) i0)) 0)) (CV.int (f0 (Int.toNat (Int.tmod (w64 (i1+2)) i0)) 1)))) else (loopN (eB A59v3 (C14 u) u) N62v2 u (s62v7 n0 f0 i0 i1) (kBlk 2 (kBlk 1 (kSeq (C14 u) u (2 :: (rl 4 5 (rl 15 82 []))) A59v6 (kLoop (eB A59v8 (C14 u) u) N62v3 m k)))))) else (loopN (eB A59v3 (C14 u) u) N62v2 u (s62v7 n0 f0 i0 i1) (kBlk 2 (kBlk 1 (kSeq (C14 u) u (2 :: (rl 4 5 (rl 15 82 []))) A59v6 (kLoop (eB A59v8 (C14 u) u) N62v3 m k))))))) else none))) else none)) else none) else (k (.exit 0) s62v6)):=by kernel_rfl
theorem t62v1 :
  loopN (eB A59v3 (C14 u) u) N62v2 u (s62v7 n0 f0 i0 i1) k =
  L62v2 u n0 f0 i0 i1 (f0 i1.toNat 0).int (f0 i1.toNat 1).int (CV.int (f0 (Int.toNat (Int.tmod (w64 (i1+1)) i0)) 0)) (CV.int (f0 (Int.toNat (Int.tmod (w64 (i1+1)) i0)) 1)) (CV.int (f0 (Int.toNat (Int.tmod (w64 (i1+2)) i0)) 0)) (CV.int (f0 (Int.toNat (Int.tmod (w64 (i1+2)) i0)) 1)) u (w64 (i1+2)) (k .ret (s62v1 (f0 i1.toNat 0).int (f0 i1.toNat 1).int (CV.int (f0 (Int.toNat (Int.tmod (w64 (i1+1)) i0)) 0)) (CV.int (f0 (Int.toNat (Int.tmod (w64 (i1+1)) i0)) 1)) (CV.int (f0 (Int.toNat (Int.tmod (w64 (i1+2)) i0)) 0)) (CV.int (f0 (Int.toNat (Int.tmod (w64 (i1+2)) i0)) 1)))) (k (.exit 2) (s62v2 n0 f0 i0 i1 (f0 i1.toNat 0).int (f0 i1.toNat 1).int (CV.int (f0 (Int.toNat (Int.tmod (w64 (i1+1)) i0)) 0)) (CV.int (f0 (Int.toNat (Int.tmod (w64 (i1+1)) i0)) 1)) (CV.int (f0 (Int.toNat (Int.tmod (w64 (i1+2)) i0)) 0)) (CV.int (f0 (Int.toNat (Int.tmod (w64 (i1+2)) i0)) 1)))) :=
 Eq.trans (loopN_at (by kernel_rfl)) (q62v2 ..)
theorem g62v2 :
  (kBlk 2 (kBlk 1 (kSeq (C14 u) u (2 :: (rl 4 5 (rl 15 82 []))) A59v6 (kLoop (eB A59v8 (C14 u) u) N62v3 m k)))) .ret (s62v1 (f0 i0.toNat 0).int (f0 i0.toNat 1).int (CV.int (f0 (Int.toNat (Int.tmod (w64 (i0+1)) i1)) 0)) (CV.int (f0 (Int.toNat (Int.tmod (w64 (i0+1)) i1)) 1)) (CV.int (f0 (Int.toNat (Int.tmod (w64 (i0+2)) i1)) 0)) (CV.int (f0 (Int.toNat (Int.tmod (w64 (i0+2)) i1)) 1))) =
  (k .ret (s62v5 (f0 i0.toNat 0).int (f0 i0.toNat 1).int (CV.int (f0 (Int.toNat (Int.tmod (w64 (i0+1)) i1)) 0)) (CV.int (f0 (Int.toNat (Int.tmod (w64 (i0+1)) i1)) 1)) (CV.int (f0 (Int.toNat (Int.tmod (w64 (i0+2)) i1)) 0)) (CV.int (f0 (Int.toNat (Int.tmod (w64 (i0+2)) i1)) 1)))):=by kernel_rfl
theorem g62v3 :
  (kBlk 2 (kBlk 1 (kSeq (C14 u) u (2 :: (rl 4 5 (rl 15 82 []))) A59v6 (kLoop (eB A59v8 (C14 u) u) N62v3 m k)))) (.exit 2) (s62v2 n0 f0 i0 i1 (f0 i1.toNat 0).int (f0 i1.toNat 1).int (CV.int (f0 (Int.toNat (Int.tmod (w64 (i1+1)) i0)) 0)) (CV.int (f0 (Int.toNat (Int.tmod (w64 (i1+1)) i0)) 1)) (CV.int (f0 (Int.toNat (Int.tmod (w64 (i1+2)) i0)) 0)) (CV.int (f0 (Int.toNat (Int.tmod (w64 (i1+2)) i0)) 1))) =
  (loopH (eB A59v8 (C14 u) u) N62v3 m (s62v3 n0 f0 i0 (w64 (i1+1))) k):=by kernel_rfl
theorem t62v4 :
  loopN (eB A59v3 (C14 u) u) N62v2 u (s62v7 n0 f0 i0 i1) k =
  L62v2 u n0 f0 i0 i1 (f0 i1.toNat 0).int (f0 i1.toNat 1).int (CV.int (f0 (Int.toNat (Int.tmod (w64 (i1+1)) i0)) 0)) (CV.int (f0 (Int.toNat (Int.tmod (w64 (i1+1)) i0)) 1)) (CV.int (f0 (Int.toNat (Int.tmod (w64 (i1+2)) i0)) 0)) (CV.int (f0 (Int.toNat (Int.tmod (w64 (i1+2)) i0)) 1)) u (w64 (i1+2)) (k .ret (s62v1 (f0 i1.toNat 0).int (f0 i1.toNat 1).int (CV.int (f0 (Int.toNat (Int.tmod (w64 (i1+1)) i0)) 0)) (CV.int (f0 (Int.toNat (Int.tmod (w64 (i1+1)) i0)) 1)) (CV.int (f0 (Int.toNat (Int.tmod (w64 (i1+2)) i0)) 0)) (CV.int (f0 (Int.toNat (Int.tmod (w64 (i1+2)) i0)) 1)))) (k (.exit 2) (s62v2 n0 f0 i0 i1 (f0 i1.toNat 0).int (f0 i1.toNat 1).int (CV.int (f0 (Int.toNat (Int.tmod (w64 (i1+1)) i0)) 0)) (CV.int (f0 (Int.toNat (Int.tmod (w64 (i1+1)) i0)) 1)) (CV.int (f0 (Int.toNat (Int.tmod (w64 (i1+2)) i0)) 0)) (CV.int (f0 (Int.toNat (Int.tmod (w64 (i1+2)) i0)) 1)))) :=
 Eq.trans (loopN_at (by kernel_rfl)) (q62v2 ..)
theorem g62v5 :
  (kBlk 2 (kBlk 1 (kSeq (C14 u) u (2 :: (rl 4 5 (rl 15 82 []))) A59v6 (kLoop (eB A59v8 (C14 u) u) N62v3 m k)))) .ret (s62v1 (f0 i0.toNat 0).int (f0 i0.toNat 1).int (CV.int (f0 (Int.toNat (Int.tmod (w64 (i0+1)) i1)) 0)) (CV.int (f0 (Int.toNat (Int.tmod (w64 (i0+1)) i1)) 1)) (CV.int (f0 (Int.toNat (Int.tmod (w64 (i0+2)) i1)) 0)) (CV.int (f0 (Int.toNat (Int.tmod (w64 (i0+2)) i1)) 1))) =
  (k .ret (s62v5 (f0 i0.toNat 0).int (f0 i0.toNat 1).int (CV.int (f0 (Int.toNat (Int.tmod (w64 (i0+1)) i1)) 0)) (CV.int (f0 (Int.toNat (Int.tmod (w64 (i0+1)) i1)) 1)) (CV.int (f0 (Int.toNat (Int.tmod (w64 (i0+2)) i1)) 0)) (CV.int (f0 (Int.toNat (Int.tmod (w64 (i0+2)) i1)) 1)))):=by kernel_rfl
theorem g62v6 :
  (kBlk 2 (kBlk 1 (kSeq (C14 u) u (2 :: (rl 4 5 (rl 15 82 []))) A59v6 (kLoop (eB A59v8 (C14 u) u) N62v3 m k)))) (.exit 2) (s62v2 n0 f0 i0 i1 (f0 i1.toNat 0).int (f0 i1.toNat 1).int (CV.int (f0 (Int.toNat (Int.tmod (w64 (i1+1)) i0)) 0)) (CV.int (f0 (Int.toNat (Int.tmod (w64 (i1+1)) i0)) 1)) (CV.int (f0 (Int.toNat (Int.tmod (w64 (i1+2)) i0)) 0)) (CV.int (f0 (Int.toNat (Int.tmod (w64 (i1+2)) i0)) 1))) =
  (loopH (eB A59v8 (C14 u) u) N62v3 m (s62v3 n0 f0 i0 (w64 (i1+1))) k):=by kernel_rfl
theorem q62v3:∀ (m:Nat) (x0:Int),
  loopH (eB A59v8 (C14 u) u) N62v3 m (s62v3 n0 f0 i0 x0) k=L62v3 u n0 f0 i0 m x0 (fun x1 x2 x3 x4=>k .ret (s62v4 x1 x2 x3 x4)) (fun x5 x6 x7 x8 x9 xA=>k .ret (s62v5 x5 x6 x7 x8 x9 xA)) (k (.exit 0) s62v6)
 | 0,_=>rfl
 | m+1,x0=>by
  rw [r62v3]
  simp only [L62v3,q62v3 m,t62v1,g62v2,g62v3,t62v4,g62v5,g62v6]
def F62 (x0:Nat) (x1:FF):Option (Bool) :=
 (L62v3 u x0 x1 (Int.ofNat x0) u 0
  (fun x2 x3 x4 x5=>(some false))
  (fun x6 x7 x8 x9 xA xB=>(some false))
  (some true))
def s62v8:St:=⟨[.x (.c (ro kP n0 f0)),uu,vxb false,vxi (Int.ofNat n0),uu,uu,uu,uu,uu,.x (.c (ro kP n0 f0)),vxi (Int.ofNat n0),.x (.c (ro kP n0 f0)),vxi (Int.ofNat n0),vxi 0,uu,uu,uu,uu,uu,uu,uu,uu,uu,uu,uu,uu,uu,uu,uu,uu,uu,uu,uu,uu,uu,uu,uu,uu,uu,uu,uu,uu,uu,uu,uu,uu,uu,uu,uu,uu,uu,uu,uu,uu,uu,uu,uu,uu,uu,uu,uu,uu,uu,uu,uu,uu,uu,uu,uu,uu,uu,uu,uu,uu,uu,uu,uu,uu,uu,uu,uu,uu,uu,uu,uu,uu,uu,uu,uu,uu,uu,uu,uu,uu,uu,uu,uu,uu],[]⟩
theorem t62v7 :
  loopN (eB A59v8 (C14 u) u) N62v3 u (s62v8 n0 f0) k =
  L62v3 u n0 f0 (Int.ofNat n0) u 0 (fun x0 x1 x2 x3=>k .ret (s62v4 x0 x1 x2 x3)) (fun x4 x5 x6 x7 x8 x9=>k .ret (s62v5 x4 x5 x6 x7 x8 x9)) (k (.exit 0) s62v6) :=
 Eq.trans (loopN_at (by kernel_rfl)) (q62v3 ..)
theorem g62v8 :
  (kBlk 0 (kSeq (C14 u) u (2 :: (rl 4 5 (rl 11 87 []))) A59v9 (finish A59))) .ret (s62v4 i0 i1 i2 i3) =
  (some [.v (.b false)]):=by kernel_rfl
theorem g62v9 :
  (kBlk 0 (kSeq (C14 u) u (2 :: (rl 4 5 (rl 11 87 []))) A59v9 (finish A59))) .ret (s62v5 i0 i1 i2 i3 i4 i5) =
  (some [.v (.b false)]):=by kernel_rfl
theorem g62v10 :
  (kBlk 0 (kSeq (C14 u) u (2 :: (rl 4 5 (rl 11 87 []))) A59v9 (finish A59))) (.exit 0) s62v6 =
  (some [.v (.b true)]):=by kernel_rfl
theorem e62:evalF (C14 u) u A59 [.v (ro kP n0 f0)]=ob (F62 u n0 f0) fun t=>some [.v (.b t)]:=Eq.trans (b:=(loopN (eB A59v8 (C14 u) u) N62v3 u (s62v8 n0 f0) (kBlk 0 (kSeq (C14 u) u (2 :: (rl 4 5 (rl 11 87 []))) A59v9 (finish A59))))) (by kernel_rfl) (by
 simp only [F62,ob_bif,ob_ob,ob_none,ob_some,nl62v3,t62v7,g62v8,g62v9,g62v10])
def O62:Ora:=mkO (q1 (av (cL kP))) (fun x=>F62 u x.1 x.2) fun t=>[.v (.b t)]
theorem d62:DO (O62 u) (C14 u) 59 A59:=dO u (fun x=>by exact e62 u x.1 x.2)
def C15:Oracle:=(C14 u).add 59 (fun _=>true) (O62 u)
def A51v1:AC:=(.seq (.block 1
 (.seq (.region 4 [mv 11 9,o1 12 (.indexAddr 22 34 2 (tm 7) (tm 9)),o1 13 (ln 34 2 12),o1 5 (.alloc 0 34 [vci 0,vci 0]),o1 4 (sg 11),o0 (.store 34 2 (tm 5) (tm 13))] 1 none) []
  (.seq (.region 5 [mv 14 0,mv 15 4,o1 16 (bk .add 3 15 1),mv 17 0,o1 18 (.len 22 false (tm 17)),o1 19 (bt .rem 3 16 18),o1 20 (.indexAddr 22 34 2 (tm 14) (tm 19)),o1 21 (ln 34 2 20),o1 6 (.alloc 0 34 [vci 0,vci 0]),o0 (.store 34 2 (tm 6) (tm 21))] 1 none) []
  (.region 6 [mv 22 3,o1 23 (fa 34 5 0 0),o1 24 (lo 3 23),o1 25 (fa 34 6 1 1),o1 26 (lo 3 25),o1 27 (bt .mul 3 24 26),o1 28 (fa 34 6 0 0),o1 29 (lo 3 28),o1 30 (fa 34 5 1 1),o1 31 (lo 3 30),o1 32 (bt .mul 3 29 31),o1 33 (bt .sub 3 27 32),o1 34 (bt .add 3 22 33),o1 3 (sg 34)] 0 none)))) []
 (.region 7 [o1 35 (bk .add 3 9 1),mv 9 35] 0 none))
def A51v2:AC:=(.seq (.region 3 [o1 10 (bt .lss 3 9 8)] 0 none) []
 (.seq (.cond (tm 10)
 .skip
 (.exit 0 (0 :: 1 :: 2 :: (rl 4 33 [])))) []
 A51v1))
def A51v3:AC:=(.seq (.region 8 [mv 36 3,o1 2 (sg 36)] 0 none) []
 (.ret (0 :: 1 :: (rl 3 34 []))))
def A51:AF:=⟨37,[.tmp 2],
 (.seq (.region 0 [o1 2 (sk 0)] 0 none) []
 (.seq (.region 1 [o1 3 (sk 0)] 0 none) []
 (.seq (.seq (.region 2 [mv 7 0,o1 8 (.len 22 false (tm 7)),o1 9 (.move (ic 0))] 0 none) []
 (.block 0
 (.loop [] (1 :: 2 :: 4 :: 5 :: 6 :: (rl 10 27 []))
  A51v2))) (rl 4 32 [])
 A51v3)))⟩
def N63v1:St→Option St:=nN 0 (1 :: 2 :: 4 :: 5 :: 6 :: (rl 10 27 []))
def s63v0:St:=⟨(.x (.c (ro kP n0 f0)) :: .u :: .u :: vxi i0 :: (us 3 (.x (.c (ro kP n0 f0)) :: vxi i1 :: vxi i2 :: (us 27 [])))),[]⟩
def s63v1:St:=⟨(us 3 (vxi i0 :: (us 33 []))),[]⟩
def L63v1 {ρ:Type} (u:Nat) (x0:Nat) (x1:FF) (x2:Int):Nat→Int→Int→(Int→Option ρ)→Option ρ
 | 0,_,_,_=>none
 | m+1,x3,x4,k0 =>
  (bif (decide (x4<x2)) then (bif (inb x4 x0) then (bif ((Int.ofNat x0)==0) then none else (bif (inb (Int.tmod (w64 (x4+1)) (Int.ofNat x0)) x0) then (L63v1 u x0 x1 x2 m (w64 (x3+(w64 ((w64 ((x1 x4.toNat 0).int*(CV.int (x1 (Int.toNat (Int.tmod (w64 (x4+1)) (Int.ofNat x0))) 1))))-(w64 ((CV.int (x1 (Int.toNat (Int.tmod (w64 (x4+1)) (Int.ofNat x0))) 0))*(x1 x4.toNat 1).int)))))) (w64 (x4+1)) k0) else none)) else none) else (k0 x3))
theorem nl63v1:∀ (m:Nat) (x0 x1:Int) (k0:Int→Option ρ),ob (L63v1 u n0 f0 i0 m x0 x1 k0) ng=L63v1 u n0 f0 i0 m x0 x1 (fun x2=>ob (k0 x2) ng)
 | 0,_,_,_=>rfl
 | m+1,x0,x1,k0=>by
  simp only [L63v1,ob_bif,ob_ob,ob_none,nl63v1 m]
theorem q63v1:∀ (m:Nat) (x0 x1:Int),
  loopH (eB A51v2 (C15 u) u) N63v1 m (s63v0 n0 f0 x0 i0 x1) k=L63v1 u n0 f0 i0 m x0 x1 (fun x2=>k (.exit 0) (s63v1 x2))
 | 0,_,_=>rfl
 | m+1,x0,x1=>by
  simp only [L63v1,← q63v1 m]
  kernel_rfl
def F63 (x0:Nat) (x1:FF):Option (Int) :=
 (L63v1 u x0 x1 (Int.ofNat x0) u 0 0
  (fun x2=>(some x2)))
def s63v2:St:=⟨[.x (.c (ro kP n0 f0)),uu,vxi 0,vxi 0,uu,uu,uu,.x (.c (ro kP n0 f0)),vxi (Int.ofNat n0),vxi 0,uu,uu,uu,uu,uu,uu,uu,uu,uu,uu,uu,uu,uu,uu,uu,uu,uu,uu,uu,uu,uu,uu,uu,uu,uu,uu,uu],[]⟩
theorem t63v1 :
  loopN (eB A51v2 (C15 u) u) N63v1 u (s63v2 n0 f0) k =
  L63v1 u n0 f0 (Int.ofNat n0) u 0 0 (fun x0=>k (.exit 0) (s63v1 x0)) :=
 Eq.trans (loopN_at (by kernel_rfl)) (q63v1 ..)
theorem g63v2 :
  (kBlk 0 (kSeq (C15 u) u (rl 4 32 []) A51v3 (finish A51))) (.exit 0) (s63v1 i0) =
  (some [.v (vi i0)]):=by kernel_rfl
theorem e63:evalF (C15 u) u A51 [.v (ro kP n0 f0)]=ob (F63 u n0 f0) fun t=>some [.v (vi t)]:=Eq.trans (b:=(loopN (eB A51v2 (C15 u) u) N63v1 u (s63v2 n0 f0) (kBlk 0 (kSeq (C15 u) u (rl 4 32 []) A51v3 (finish A51))))) (by kernel_rfl) (by
 simp only [F63,ob_bif,ob_ob,ob_none,ob_some,nl63v1,t63v1,g63v2])
def O63:Ora:=mkO (q1 (av (cL kP))) (fun x=>F63 u x.1 x.2) fun t=>[.v (vi t)]
theorem d63:DO (O63 u) (C15 u) 51 A51:=dO u (fun x=>by exact e63 u x.1 x.2)
def C16:Oracle:=(C15 u).add 51 (fun _=>true) (O63 u)
def A47v1:AC:=(.seq (.region 9 [o1 2 (sk 0)] 0 none) []
 (.ret (0 :: 1 :: (rl 3 20 []))))
def A47:AF:=⟨23,[.tmp 2],
 (.seq (.region 0 [o1 2 (sk 0)] 0 none) []
 (.seq (.block 0
 (.seq (.region 1 [mv 4 0,o1 5 (.len 22 false (tm 4)),o1 6 (bk .lss 3 5 3),o1 3 (sg 6)] 0 none) []
  (.cond (tm 3)
  (.seq (.region 2 [o1 2 (sk 3)] 0 none) []
   (.ret (0 :: 1 :: (rl 3 20 []))))
  (.seq (.region 3 [mv 8 0,o1 9 (.len 22 false (tm 8)),o1 10 (bk .gtr 3 9 32),o1 7 (sg 10)] 0 none) []
   (.cond (tm 7)
   (.seq (.region 4 [o1 2 (sk 4)] 0 none) []
    (.ret (0 :: 1 :: (rl 3 20 []))))
   (.seq (.region 5 [mv 12 0,o1 13 (.call 55 [(tm 12),(.func 58)] [22,109] .snap),o1 11 (sg 13)] 0 none) []
    (.cond (tm 11)
    (.seq (.region 6 [o1 2 (sk 9)] 0 none) []
     (.ret (0 :: 1 :: (rl 3 20 []))))
    (.seq (.region 7 [mv 15 0,o1 16 (cs 59 [15] [22]),o1 17 (.unOp .not 4 (tm 16)),mv 18 17,og 19 (.move (tm 0)) 18 false,og 20 (cs 51 [19] [22]) 18 false,og 21 (bk .eql 3 20 0) 18 false,o1 22 (pa 18 21),o1 14 (sg 22)] 0 none) []
     (.cond (tm 14)
     (.seq (.region 8 [o1 2 (sk 17)] 0 none) []
      (.ret (0 :: 1 :: (rl 3 20 []))))
     .skip))))))))) (rl 2 21 [])
 A47v1))⟩
def F33 (x0:Nat) (x1:FF):Option (Int) :=
 (bif (decide ((Int.ofNat x0)<3)) then (some 3) else (bif (decide ((Int.ofNat x0)>32)) then (some 4) else (ob (F50 u x0 x1) fun x2=>(bif x2 then (some 9) else (ob (F62 u x0 x1) fun x3=>(bif ((!x3)==false) then (ob (F63 u x0 x1) fun x4=>(bif (x4==0) then (some 17) else (some 0))) else (some 17)))))))
theorem e33:evalF (C16 u) u A47 [.v (ro kP n0 f0)]=ob (F33 u n0 f0) fun t=>some [.v (vi t)]:=by
 simp only [F33,ob_bif,ob_ob,ob_none,ob_some]
 kernel_rfl
def O33:Ora:=mkO (q1 (av (cL kP))) (fun x=>F33 u x.1 x.2) fun t=>[.v (vi t)]
theorem d33:DO (O33 u) (C16 u) 47 A47:=dO u (fun x=>by exact e33 u x.1 x.2)
def C17:Oracle:=(C16 u).add 47 (fun _=>true) (O33 u)
def A43v1:AC:=(.seq (.region 3 [mv 6 0,o1 7 (cs 51 [6] [22]),o1 2 (sg 7)] 0 none) []
 (.ret (0 :: 1 :: (rl 3 5 []))))
def A43:AF:=⟨8,[.tmp 2],
 (.seq (.region 0 [o1 2 (sk 0)] 0 none) []
 (.seq (.seq (.region 1 [mv 3 0,o1 4 (cs 47 [3] [22]),o1 5 (bk .neq 53 4 0)] 0 none) []
 (.cond (tm 5)
 (.seq (.region 2 [o1 2 (sk 0)] 0 none) []
  (.ret (0 :: 1 :: (rl 3 5 []))))
 .skip)) (rl 2 4 [])
 A43v1))⟩
def F34 (x0:Nat) (x1:FF):Option (Int) :=
 (ob (F33 u x0 x1) fun x2=>(bif (x2 != 0) then (some 0) else (ob (F63 u x0 x1) fun x3=>(some x3))))
theorem e34:evalF (C17 u) u A43 [.v (ro kP n0 f0)]=ob (F34 u n0 f0) fun t=>some [.v (vi t)]:=by
 simp only [F34,ob_bif,ob_ob,ob_none,ob_some]
 kernel_rfl
def O34:Ora:=mkO (q1 (av (cL kP))) (fun x=>F34 u x.1 x.2) fun t=>[.v (vi t)]
theorem d34:DO (O34 u) (C17 u) 43 A43:=dO u (fun x=>by exact e34 u x.1 x.2)
def C18:Oracle:=(C17 u).add 43 (fun _=>true) (O34 u)
def A79:AF:=⟨30,[.tmp 6],
 (.seq (.region 0 [o1 3 (bx 0 34 0),o1 4 (bx 1 34 1),o1 5 (bx 2 34 2),o1 6 (sk 0)] 3 none) []
 (.seq (.region 1 [o1 7 (fa 34 4 0 0),o1 8 (lo 3 7),o1 9 (fa 34 3 0 0),o1 10 (lo 3 9),o1 11 (bt .sub 3 8 10),o1 12 (fa 34 5 1 1),o1 13 (lo 3 12),o1 14 (fa 34 3 1 1),o1 15 (lo 3 14),o1 16 (bt .sub 3 13 15),o1 17 (bt .mul 3 11 16),o1 18 (fa 34 4 1 1),o1 19 (lo 3 18),o1 20 (fa 34 3 1 1),o1 21 (lo 3 20),o1 22 (bt .sub 3 19 21),o1 23 (fa 34 5 0 0),o1 24 (lo 3 23),o1 25 (fa 34 3 0 0),o1 26 (lo 3 25),o1 27 (bt .sub 3 24 26),o1 28 (bt .mul 3 22 27),o1 29 (bt .sub 3 17 28),o1 6 (sg 29)] 0 none) []
 (.ret (rl 0 6 (rl 7 23 [])))))⟩
def F75 (u:Nat) (x0 x1 x2 x3 x4 x5:Int):Option (Int) :=
 (some (w64 ((w64 ((w64 (x2-x0))*(w64 (x5-x1))))-(w64 ((w64 (x3-x1))*(w64 (x4-x0)))))))
theorem e75:evalF (C18 u) u A79 [.agg [(vi i0),(vi i1)],.agg [(vi i2),(vi i3)],.agg [(vi i4),(vi i5)]]=ob (F75 u i0 i1 i2 i3 i4 i5) fun t=>some [.v (vi t)]:=by
 simp only [F75,ob_bif,ob_ob,ob_none,ob_some]
 kernel_rfl
def O75:Ora:=mkO (qc (ag (tc ci (t1 ci))) (qc (ag (tc ci (t1 ci))) (q1 (ag (tc ci (t1 ci)))))) (fun x=>F75 u x.1.1 x.1.2 x.2.1.1 x.2.1.2 x.2.2.1 x.2.2.2) fun t=>[.v (vi t)]
theorem d75:DO (O75 u) (C18 u) 79 A79:=dO u (fun x=>by exact e75 u x.1.1 x.1.2 x.2.1.1 x.2.1.2 x.2.2.1 x.2.2.2)
def C19:Oracle:=(C18 u).add 79 (fun _=>true) (O75 u)
def A78:AF:=⟨6,[.tmp 2],
 (.seq (.region 0 [o1 2 (sk 0)] 0 none) []
 (.seq (.region 1 [mv 3 0,o1 4 (.mm true [(tm 3),(ic (-1))] [3,3]),o1 5 (.mm false [(tm 4),(ic 1)] [3,3]),o1 2 (sg 5)] 0 none) []
 (.ret [0,1,3,4,5])))⟩
def F74 (u:Nat) (x0:Int):Option (Int) :=
 (some (if 1<(if (-1)>x0 then (-1) else x0) then 1 else (if (-1)>x0 then (-1) else x0)))
theorem e74:evalF (C19 u) u A78 [.v (vi i0)]=ob (F74 u i0) fun t=>some [.v (vi t)]:=by
 simp only [F74,ob_bif,ob_ob,ob_none,ob_some]
 kernel_rfl
def O74:Ora:=mkO (q1 (av ci)) (fun x=>F74 u x) fun t=>[.v (vi t)]
theorem d74:DO (O74 u) (C19 u) 78 A78:=dO u (fun x=>by exact e74 u x)
def C20:Oracle:=(C19 u).add 78 (fun _=>true) (O74 u)
def A80:AF:=⟨45,[.tmp 6],
 (.seq (.region 0 [o1 3 (bx 0 34 0),o1 4 (bx 1 34 1),o1 5 (bx 2 34 2),o1 6 (sb false)] 3 none) []
 (.seq (.region 1 [o1 7 (fa 34 5 0 0),o1 8 (lo 3 7),o1 9 (fa 34 3 0 0),o1 10 (lo 3 9),o1 11 (fa 34 4 0 0),o1 12 (lo 3 11),o1 13 (.mm false [(tm 10),(tm 12)] [3,3]),o1 14 (bt .geq 3 8 13),mv 15 14,og 16 (fa 34 5 0 0) 15 true,og 17 (lo 3 16) 15 true,og 18 (fa 34 3 0 0) 15 true,og 19 (lo 3 18) 15 true,og 20 (fa 34 4 0 0) 15 true,og 21 (lo 3 20) 15 true,og 22 (.mm true [(tm 19),(tm 21)] [3,3]) 15 true,og 23 (bt .leq 3 17 22) 15 true,o1 24 (po 15 23),mv 25 24,og 26 (fa 34 5 1 1) 25 true,og 27 (lo 3 26) 25 true,og 28 (fa 34 3 1 1) 25 true,og 29 (lo 3 28) 25 true,og 30 (fa 34 4 1 1) 25 true,og 31 (lo 3 30) 25 true,og 32 (.mm false [(tm 29),(tm 31)] [3,3]) 25 true,og 33 (bt .geq 3 27 32) 25 true,o1 34 (po 25 33),mv 35 34,og 36 (fa 34 5 1 1) 35 true,og 37 (lo 3 36) 35 true,og 38 (fa 34 3 1 1) 35 true,og 39 (lo 3 38) 35 true,og 40 (fa 34 4 1 1) 35 true,og 41 (lo 3 40) 35 true,og 42 (.mm true [(tm 39),(tm 41)] [3,3]) 35 true,og 43 (bt .leq 3 37 42) 35 true,o1 44 (po 35 43),o1 6 (sg 44)] 0 none) []
 (.ret (rl 0 6 (rl 7 38 [])))))⟩
def F76 (u:Nat) (x0 x1 x2 x3 x4 x5:Int):Option (Bool) :=
 (bif ((decide (x4≥(if x2<x0 then x2 else x0)))==true) then (bif ((decide (x4≤(if x2>x0 then x2 else x0)))==true) then (bif ((decide (x5≥(if x3<x1 then x3 else x1)))==true) then (some (decide (x5≤(if x3>x1 then x3 else x1)))) else (some false)) else (some false)) else (some false))
theorem e76:evalF (C20 u) u A80 [.agg [(vi i0),(vi i1)],.agg [(vi i2),(vi i3)],.agg [(vi i4),(vi i5)]]=ob (F76 u i0 i1 i2 i3 i4 i5) fun t=>some [.v (.b t)]:=by
 simp only [F76,ob_bif,ob_ob,ob_none,ob_some]
 kernel_rfl
def O76:Ora:=mkO (qc (ag (tc ci (t1 ci))) (qc (ag (tc ci (t1 ci))) (q1 (ag (tc ci (t1 ci)))))) (fun x=>F76 u x.1.1 x.1.2 x.2.1.1 x.2.1.2 x.2.2.1 x.2.2.2) fun t=>[.v (.b t)]
theorem d76:DO (O76 u) (C20 u) 80 A80:=dO u (fun x=>by exact e76 u x.1.1 x.1.2 x.2.1.1 x.2.1.2 x.2.2.1 x.2.2.2)
def C21:Oracle:=(C20 u).add 80 (fun _=>true) (O76 u)
def A61v1:AC:=(.seq (.region 5 [mv 43 9,o1 44 (bk .eql 3 43 0),mv 45 44,og 46 (ln 34 2 4) 45 true,og 47 (ln 34 2 5) 45 true,og 48 (ln 34 2 6) 45 true,og 49 (cs 80 [46,47,48] [34,34,34]) 45 true,o1 50 (po 45 49),mv 51 50,og 52 (.move (tm 10)) 51 false,og 53 (bk .eql 3 52 0) 51 false,og 54 (.move (tm 53)) 51 false,og 55 (ln 34 2 4) 54 true,og 56 (ln 34 2 5) 54 true,og 57 (ln 34 2 7) 54 true,og 58 (cs 80 [55,56,57] [34,34,34]) 54 true,og 59 (po 54 58) 51 false,o1 60 (pa 51 59),mv 61 60,og 62 (.move (tm 11)) 61 false,og 63 (bk .eql 3 62 0) 61 false,og 64 (.move (tm 63)) 61 false,og 65 (ln 34 2 6) 64 true,og 66 (ln 34 2 7) 64 true,og 67 (ln 34 2 4) 64 true,og 68 (cs 80 [65,66,67] [34,34,34]) 64 true,og 69 (po 64 68) 61 false,o1 70 (pa 61 69),mv 71 70,og 72 (.move (tm 12)) 71 false,og 73 (bk .eql 3 72 0) 71 false,og 74 (.move (tm 73)) 71 false,og 75 (ln 34 2 6) 74 true,og 76 (ln 34 2 7) 74 true,og 77 (ln 34 2 5) 74 true,og 78 (cs 80 [75,76,77] [34,34,34]) 74 true,og 79 (po 74 78) 71 false,o1 80 (pa 71 79),o1 8 (sg 80)] 0 none) []
 (.ret (rl 0 8 (rl 9 72 []))))
def A61:AF:=⟨81,[.tmp 8],
 (.seq (.region 0 [o1 4 (bx 0 34 0),o1 5 (bx 1 34 1),o1 6 (bx 2 34 2),o1 7 (bx 3 34 3),o1 8 (sb false)] 4 none) []
 (.seq (.region 1 [o1 13 (ln 34 2 4),o1 14 (ln 34 2 5),o1 15 (ln 34 2 6),o1 16 (cs 79 [13,14,15] [34,34,34]),o1 17 (cs 78 [16] [3]),o1 18 (ln 34 2 4),o1 19 (ln 34 2 5),o1 20 (ln 34 2 7),o1 21 (cs 79 [18,19,20] [34,34,34]),o1 22 (cs 78 [21] [3]),o1 9 (sg 17),o1 10 (sg 22)] 0 (some [[],[],[],[0,1,2],(rl 0 4 []),[],[],[],(rl 0 8 []),(rl 0 9 []),(rl 0 10 []),(rl 0 11 [])])) []
 (.seq (.region 2 [o1 23 (ln 34 2 6),o1 24 (ln 34 2 7),o1 25 (ln 34 2 4),o1 26 (cs 79 [23,24,25] [34,34,34]),o1 27 (cs 78 [26] [3]),o1 28 (ln 34 2 6),o1 29 (ln 34 2 7),o1 30 (ln 34 2 5),o1 31 (cs 79 [28,29,30] [34,34,34]),o1 32 (cs 78 [31] [3]),o1 11 (sg 27),o1 12 (sg 32)] 0 (some [[],[],[],[0,1,2],(rl 0 4 []),[],[],[],(rl 0 8 []),(rl 0 9 []),(rl 0 10 []),(rl 0 11 [])])) []
 (.seq (.seq (.region 3 [mv 33 9,mv 34 10,o1 35 (bt .mul 3 33 34),o1 36 (bk .lss 3 35 0),mv 37 36,og 38 (.move (tm 11)) 37 true,og 39 (.move (tm 12)) 37 true,og 40 (bt .mul 3 38 39) 37 true,og 41 (bk .lss 3 40 0) 37 true,o1 42 (po 37 41)] 0 none) []
 (.cond (tm 42)
 (.seq (.region 4 [o1 8 (sb true)] 0 none) []
  (.ret (rl 0 8 (rl 9 72 []))))
 .skip)) (8 :: (rl 33 10 []))
 A61v1))))⟩
def F56 (x0 x1 x2 x3 x4 x5 x6 x7:Int):Option (Bool) :=
 (ob (F75 u x0 x1 x2 x3 x4 x5) fun x8=>(ob (F74 u x8) fun x9=>(ob (F75 u x0 x1 x2 x3 x6 x7) fun xA=>(ob (F74 u xA) fun xB=>(ob (F75 u x4 x5 x6 x7 x0 x1) fun xC=>(ob (F74 u xC) fun xD=>(ob (F75 u x4 x5 x6 x7 x2 x3) fun xE=>(ob (F74 u xE) fun xF=>(bif ((decide ((w64 (x9*xB))<0))==true) then (bif (decide ((w64 (xD*xF))<0)) then (some true) else (bif ((x9==0)==true) then (ob (F76 u x0 x1 x2 x3 x4 x5) fun xG=>(bif (xG==false) then (bif ((xB==0)==true) then (ob (F76 u x0 x1 x2 x3 x6 x7) fun xH=>(bif (xH==false) then (bif ((xD==0)==true) then (ob (F76 u x4 x5 x6 x7 x0 x1) fun xI=>(bif (xI==false) then (bif ((xF==0)==true) then (ob (F76 u x4 x5 x6 x7 x2 x3) fun xJ=>(some xJ)) else (some false)) else (some true))) else (bif ((xF==0)==true) then (ob (F76 u x4 x5 x6 x7 x2 x3) fun xK=>(some xK)) else (some false))) else (some true))) else (bif ((xD==0)==true) then (ob (F76 u x4 x5 x6 x7 x0 x1) fun xL=>(bif (xL==false) then (bif ((xF==0)==true) then (ob (F76 u x4 x5 x6 x7 x2 x3) fun xM=>(some xM)) else (some false)) else (some true))) else (bif ((xF==0)==true) then (ob (F76 u x4 x5 x6 x7 x2 x3) fun xN=>(some xN)) else (some false)))) else (some true))) else (bif ((xB==0)==true) then (ob (F76 u x0 x1 x2 x3 x6 x7) fun xO=>(bif (xO==false) then (bif ((xD==0)==true) then (ob (F76 u x4 x5 x6 x7 x0 x1) fun xP=>(bif (xP==false) then (bif ((xF==0)==true) then (ob (F76 u x4 x5 x6 x7 x2 x3) fun xQ=>(some xQ)) else (some false)) else (some true))) else (bif ((xF==0)==true) then (ob (F76 u x4 x5 x6 x7 x2 x3) fun xR=>(some xR)) else (some false))) else (some true))) else (bif ((xD==0)==true) then (ob (F76 u x4 x5 x6 x7 x0 x1) fun xS=>(bif (xS==false) then (bif ((xF==0)==true) then (ob (F76 u x4 x5 x6 x7 x2 x3) fun xT=>(some xT)) else (some false)) else (some true))) else (bif ((xF==0)==true) then (ob (F76 u x4 x5 x6 x7 x2 x3) fun xU=>(some xU)) else (some false)))))) else (bif ((x9==0)==true) then (ob (F76 u x0 x1 x2 x3 x4 x5) fun xV=>(bif (xV==false) then (bif ((xB==0)==true) then (ob (F76 u x0 x1 x2 x3 x6 x7) fun xW=>(bif (xW==false) then (bif ((xD==0)==true) then (ob (F76 u x4 x5 x6 x7 x0 x1) fun xX=>(bif (xX==false) then (bif ((xF==0)==true) then (ob (F76 u x4 x5 x6 x7 x2 x3) fun xY=>(some xY)) else (some false)) else (some true))) else (bif ((xF==0)==true) then (ob (F76 u x4 x5 x6 x7 x2 x3) fun xZ=>(some xZ)) else (some false))) else (some true))) else (bif ((xD==0)==true) then (ob (F76 u x4 x5 x6 x7 x0 x1) fun xa=>(bif (xa==false) then (bif ((xF==0)==true) then (ob (F76 u x4 x5 x6 x7 x2 x3) fun xb=>(some xb)) else (some false)) else (some true))) else (bif ((xF==0)==true) then (ob (F76 u x4 x5 x6 x7 x2 x3) fun xc=>(some xc)) else (some false)))) else (some true))) else (bif ((xB==0)==true) then (ob (F76 u x0 x1 x2 x3 x6 x7) fun xd=>(bif (xd==false) then (bif ((xD==0)==true) then (ob (F76 u x4 x5 x6 x7 x0 x1) fun xe=>(bif (xe==false) then (bif ((xF==0)==true) then (ob (F76 u x4 x5 x6 x7 x2 x3) fun xf=>(some xf)) else (some false)) else (some true))) else (bif ((xF==0)==true) then (ob (F76 u x4 x5 x6 x7 x2 x3) fun xg=>(some xg)) else (some false))) else (some true))) else (bif ((xD==0)==true) then (ob (F76 u x4 x5 x6 x7 x0 x1) fun xh=>(bif (xh==false) then (bif ((xF==0)==true) then (ob (F76 u x4 x5 x6 x7 x2 x3) fun xi=>(some xi)) else (some false)) else (some true))) else (bif ((xF==0)==true) then (ob (F76 u x4 x5 x6 x7 x2 x3) fun xj=>(some xj)) else (some false))))))))))))))
theorem e56:evalF (C21 u) u A61 [.agg [(vi i0),(vi i1)],.agg [(vi i2),(vi i3)],.agg [(vi i4),(vi i5)],.agg [(vi i6),(vi i7)]]=ob (F56 u i0 i1 i2 i3 i4 i5 i6 i7) fun t=>some [.v (.b t)]:=by
 simp only [F56,ob_bif,ob_ob,ob_none,ob_some]
 kernel_rfl
def O56:Ora:=mkO (qc (ag (tc ci (t1 ci))) (qc (ag (tc ci (t1 ci))) (qc (ag (tc ci (t1 ci))) (q1 (ag (tc ci (t1 ci))))))) (fun x=>F56 u x.1.1 x.1.2 x.2.1.1 x.2.1.2 x.2.2.1.1 x.2.2.1.2 x.2.2.2.1 x.2.2.2.2) fun t=>[.v (.b t)]
theorem d56:DO (O56 u) (C21 u) 61 A61:=dO u (fun x=>by exact e56 u x.1.1 x.1.2 x.2.1.1 x.2.1.2 x.2.2.1.1 x.2.2.1.2 x.2.2.2.1 x.2.2.2.2)
def C22:Oracle:=(C21 u).add 61 (fun _=>true) (O56 u)
def A60v1:AC:=(.region 9 [o1 45 (bk .add 3 20 1),mv 20 45] 0 none)
def A60v2:AC:=(.seq (.block 3
 (.seq (.region 6 [mv 22 20,o1 23 (.indexAddr 22 34 2 (tm 18) (tm 20)),o1 24 (ln 34 2 23),o1 10 (.alloc 0 34 [vci 0,vci 0]),o1 9 (sg 22),o0 (.store 34 2 (tm 10) (tm 24))] 1 none) []
  (.seq (.region 7 [mv 25 2,o1 26 (ln 34 2 8),mv 27 0,mv 28 7,o1 29 (bk .add 3 28 1),mv 30 0,o1 31 (.len 22 false (tm 30)),o1 32 (bt .rem 3 29 31),o1 33 (.indexAddr 22 34 2 (tm 27) (tm 32)),o1 34 (ln 34 2 33),o1 35 (ln 34 2 10),mv 36 1,mv 37 9,o1 38 (bk .add 3 37 1),mv 39 1,o1 40 (.len 22 false (tm 39)),o1 41 (bt .rem 3 38 40),o1 42 (.indexAddr 22 34 2 (tm 36) (tm 41)),o1 43 (ln 34 2 42),o1 44 (.callv (tm 25) [(tm 26),(tm 34),(tm 35),(tm 43)] [34,34,34,34] .snap)] 0 (some [[],[],[],[],[3],[],[5],(rl 3 4 []),(rl 2 6 []),(rl 2 7 []),[],[],[],[12],[],[14],(rl 12 4 []),(rl 11 6 []),(rl 11 7 []),(rl 0 19 [])])) []
  (.cond (tm 44)
  (.seq (.region 8 [o1 6 (sb true)] 0 none) []
   (.ret (rl 0 6 (rl 7 40 []))))
  .skip)))) (6 :: 9 :: 10 :: (rl 22 23 []))
 A60v1)
def A60v3:AC:=(.seq (.region 5 [o1 21 (bt .lss 3 20 19)] 0 none) []
 (.seq (.cond (tm 21)
 .skip
 (.exit 2 (rl 3 8 (rl 14 33 [])))) []
 A60v2))
def A60v4:AC:=(.region 10 [o1 46 (bk .add 3 13 1),mv 13 46] 0 none)
def A60v5:AC:=(.seq (.block 1
 (.seq (.region 3 [mv 15 13,o1 16 (.indexAddr 22 34 2 (tm 11) (tm 13)),o1 17 (ln 34 2 16),o1 8 (.alloc 0 34 [vci 0,vci 0]),o1 7 (sg 15),o0 (.store 34 2 (tm 8) (tm 17))] 1 none) []
  (.seq (.region 4 [mv 18 1,o1 19 (.len 22 false (tm 18)),o1 20 (.move (ic 0))] 0 none) []
  (.block 2
  (.loop [] (rl 3 4 (9 :: 10 :: (rl 14 4 (rl 21 26 []))))
   A60v3))))) (rl 6 5 (rl 15 31 []))
 A60v4)
def A60v6:AC:=(.seq (.region 2 [o1 14 (bt .lss 3 13 12)] 0 none) []
 (.seq (.cond (tm 14)
 .skip
 (.exit 0 (rl 0 47 []))) []
 A60v5))
def A60v7:AC:=(.seq (.region 11 [o1 6 (sb false)] 0 none) []
 (.ret (rl 0 6 (rl 7 40 []))))
def A60:AF:=⟨47,[.tmp 6],
 (.seq (.region 0 [o1 6 (sb false)] 0 none) []
 (.seq (.seq (.region 1 [mv 11 0,o1 12 (.len 22 false (tm 11)),o1 13 (.move (ic 0))] 0 none) []
 (.block 0
 (.loop [] (rl 3 8 (rl 14 33 []))
  A60v6))) (rl 6 41 [])
 A60v7))⟩
def N58v2:St→Option St:=nN 1 (rl 3 4 (9 :: 10 :: (rl 14 4 (rl 21 26 []))))
def s58v0:St:=⟨(.x (.c (ro kP n0 f0)) :: .x (.c (ro kP n1 f1)) :: .x (.c (.fn 61 0 (listF []))) :: (us 4 (vxi i0 :: .x (.ptr 0 0) :: .u :: .u :: .x (.c (ro kP n0 f0)) :: vxi i1 :: vxi i0 :: (us 4 (.x (.c (ro kP n1 f1)) :: vxi i2 :: vxi i3 :: (us 26 [])))))),[.box [(vci i4),(vci i5)]]⟩
def s58v1:St:=⟨(us 6 (vxb true :: (us 40 []))),[.box [(vci i0),(vci i1)],.box [(vci i2),(vci i3)]]⟩
def s58v2:St:=⟨(.x (.c (ro kP n0 f0)) :: .x (.c (ro kP n1 f1)) :: .x (.c (.fn 61 0 (listF []))) :: (us 8 (.x (.c (ro kP n0 f0)) :: vxi i0 :: vxi i1 :: (us 33 [])))),[.box [(vci i2),(vci i3)]]⟩
def L58v2 {ρ:Type} (u:Nat) (x0:Nat) (x1:FF) (x2:Nat) (x3:FF) (x4 x5 x6 x7 x8:Int):Nat→Int→(Int→Int→Option ρ)→(Option ρ)→Option ρ
 | 0,_,_,_=>none
 | m+1,x9,k0,k1 =>
  (bif (decide (x9<x6)) then (bif (inb x9 x2) then (bif ((Int.ofNat x0)==0) then none else (bif (inb (Int.tmod (w64 (x4+1)) (Int.ofNat x0)) x0) then (bif ((Int.ofNat x2)==0) then none else (bif (inb (Int.tmod (w64 (x9+1)) (Int.ofNat x2)) x2) then (ob (F56 u x7 x8 (CV.int (x1 (Int.toNat (Int.tmod (w64 (x4+1)) (Int.ofNat x0))) 0)) (CV.int (x1 (Int.toNat (Int.tmod (w64 (x4+1)) (Int.ofNat x0))) 1)) (x3 x9.toNat 0).int (x3 x9.toNat 1).int (CV.int (x3 (Int.toNat (Int.tmod (w64 (x9+1)) (Int.ofNat x2))) 0)) (CV.int (x3 (Int.toNat (Int.tmod (w64 (x9+1)) (Int.ofNat x2))) 1))) fun xA=>(bif xA then (k0 (x3 x9.toNat 0).int (x3 x9.toNat 1).int) else (L58v2 u x0 x1 x2 x3 x4 x5 x6 x7 x8 m (w64 (x9+1)) k0 k1))) else none)) else none)) else none) else k1)
theorem nl58v2:∀ (m:Nat) (x0:Int) (k0:Int→Int→Option ρ) (k1:Option ρ),ob (L58v2 u n0 f0 n1 f1 i0 i1 i2 i3 i4 m x0 k0 k1) ng=L58v2 u n0 f0 n1 f1 i0 i1 i2 i3 i4 m x0 (fun x1 x2=>ob (k0 x1 x2) ng) (ob k1 ng)
 | 0,_,_,_=>rfl
 | m+1,x0,k0,k1=>by
  simp only [L58v2,ob_bif,ob_ob,ob_none,nl58v2 m]
theorem q58v2:∀ (m:Nat) (x0:Int),
  loopH (eB A60v3 (C22 u) u) N58v2 m (s58v0 n0 n1 f0 f1 i0 i1 i2 x0 i3 i4) k=L58v2 u n0 f0 n1 f1 i0 i1 i2 i3 i4 m x0 (fun x1 x2=>k .ret (s58v1 i3 i4 x1 x2)) (k (.exit 2) (s58v2 n0 n1 f0 f1 i1 i0 i3 i4))
 | 0,_=>rfl
 | m+1,x0=>by
  simp only [L58v2,← q58v2 m]
  kernel_rfl
def N58v3:St→Option St:=nN 0 (rl 3 8 (rl 14 33 []))
def s58v3:St:=⟨(.x (.c (ro kP n0 f0)) :: .x (.c (ro kP n1 f1)) :: .x (.c (.fn 61 0 (listF []))) :: (us 8 (.x (.c (ro kP n0 f0)) :: vxi i0 :: vxi i1 :: (us 33 [])))),[]⟩
def s58v4:St:=⟨(us 6 (vxb true :: (us 40 []))),[.box [(vci i0),(vci i1)],.box [(vci i2),(vci i3)]]⟩
def s58v5:St:=⟨(us 47 []),[]⟩
def L58v3 {ρ:Type} (u:Nat) (x0:Nat) (x1:FF) (x2:Nat) (x3:FF) (x4:Int):Nat→Int→(Int→Int→Int→Int→Option ρ)→(Option ρ)→Option ρ
 | 0,_,_,_=>none
 | m+1,x5,k0,k1 =>
  (bif (decide (x5<x4)) then (bif (inb x5 x0) then (L58v2 u x0 x1 x2 x3 x5 x4 (Int.ofNat x2) (x1 x5.toNat 0).int (x1 x5.toNat 1).int u 0
  (fun x6 x7=>(k0 (x1 x5.toNat 0).int (x1 x5.toNat 1).int x6 x7))
  (L58v3 u x0 x1 x2 x3 x4 m (w64 (x5+1)) k0 k1)) else none) else k1)
theorem nl58v3:∀ (m:Nat) (x0:Int) (k0:Int→Int→Int→Int→Option ρ) (k1:Option ρ),ob (L58v3 u n0 f0 n1 f1 i0 m x0 k0 k1) ng=L58v3 u n0 f0 n1 f1 i0 m x0 (fun x1 x2 x3 x4=>ob (k0 x1 x2 x3 x4) ng) (ob k1 ng)
 | 0,_,_,_=>rfl
 | m+1,x0,k0,k1=>by
  simp only [L58v3,ob_bif,ob_ob,ob_none,nl58v3 m,nl58v2]
def s58v6:St:=⟨(.x (.c (ro kP n0 f0)) :: .x (.c (ro kP n1 f1)) :: .x (.c (.fn 61 0 (listF []))) :: (us 4 (vxi i0 :: .x (.ptr 0 0) :: .u :: .u :: .x (.c (ro kP n0 f0)) :: vxi i1 :: vxi i0 :: vxb true :: vxi i0 :: .x (.c (.rp kP (f0 i0.toNat))) :: .agg [(vci (f0 i0.toNat 0).int),(vci (f0 i0.toNat 1).int)] :: .x (.c (ro kP n1 f1)) :: vxi (Int.ofNat n1) :: vxi 0 :: (us 26 [])))),[.box [(vci (f0 i0.toNat 0).int),(vci (f0 i0.toNat 1).int)]]⟩
theorem r58v3 :
  loopH (eB A60v6 (C22 u) u) N58v3 (m+1) (s58v3 n0 n1 f0 f1 i0 i1) k =
  (bif (decide (i1<i0)) then (bif (inb i1 n0) then (loopN (eB A60v3 (C22 u) u) N58v2 u (s58v6 n0 n1 f0 f1 i1 i0) (kBlk 2 (kBlk 1 (kSeq (C22 u) u (rl 6 5 (rl 15 31 [])) A60v4 (kLoop (eB A60v6 (C22 u) u) N58v3 m k))))) else none) else (k (.exit 0) s58v5)):=by kernel_rfl
theorem t58v1 :
  loopN (eB A60v3 (C22 u) u) N58v2 u (s58v6 n0 n1 f0 f1 i0 i1) k =
  L58v2 u n0 f0 n1 f1 i0 i1 (Int.ofNat n1) (f0 i0.toNat 0).int (f0 i0.toNat 1).int u 0 (fun x0 x1=>k .ret (s58v1 (f0 i0.toNat 0).int (f0 i0.toNat 1).int x0 x1)) (k (.exit 2) (s58v2 n0 n1 f0 f1 i1 i0 (f0 i0.toNat 0).int (f0 i0.toNat 1).int)) :=
 Eq.trans (loopN_at (by kernel_rfl)) (q58v2 ..)
theorem g58v2 :
  (kBlk 2 (kBlk 1 (kSeq (C22 u) u (rl 6 5 (rl 15 31 [])) A60v4 (kLoop (eB A60v6 (C22 u) u) N58v3 m k)))) .ret (s58v1 (f0 i0.toNat 0).int (f0 i0.toNat 1).int i1 i2) =
  (k .ret (s58v4 (f0 i0.toNat 0).int (f0 i0.toNat 1).int i1 i2)):=by kernel_rfl
theorem g58v3 :
  (kBlk 2 (kBlk 1 (kSeq (C22 u) u (rl 6 5 (rl 15 31 [])) A60v4 (kLoop (eB A60v6 (C22 u) u) N58v3 m k)))) (.exit 2) (s58v2 n0 n1 f0 f1 i0 i1 (f0 i1.toNat 0).int (f0 i1.toNat 1).int) =
  (loopH (eB A60v6 (C22 u) u) N58v3 m (s58v3 n0 n1 f0 f1 i0 (w64 (i1+1))) k):=by kernel_rfl
theorem q58v3:∀ (m:Nat) (x0:Int),
  loopH (eB A60v6 (C22 u) u) N58v3 m (s58v3 n0 n1 f0 f1 i0 x0) k=L58v3 u n0 f0 n1 f1 i0 m x0 (fun x1 x2 x3 x4=>k .ret (s58v4 x1 x2 x3 x4)) (k (.exit 0) s58v5)
 | 0,_=>rfl
 | m+1,x0=>by
  rw [r58v3]
  simp only [L58v3,q58v3 m,t58v1,g58v2,g58v3]
def F58 (x0:Nat) (x1:FF) (x2:Nat) (x3:FF):Option (Bool) :=
 (L58v3 u x0 x1 x2 x3 (Int.ofNat x0) u 0
  (fun x4 x5 x6 x7=>(some true))
  (some false))
def s58v7:St:=⟨[.x (.c (ro kP n0 f0)),.x (.c (ro kP n1 f1)),.x (.c (.fn 61 0 (listF []))),uu,uu,uu,vxb false,uu,uu,uu,uu,.x (.c (ro kP n0 f0)),vxi (Int.ofNat n0),vxi 0,uu,uu,uu,uu,uu,uu,uu,uu,uu,uu,uu,uu,uu,uu,uu,uu,uu,uu,uu,uu,uu,uu,uu,uu,uu,uu,uu,uu,uu,uu,uu,uu,uu],[]⟩
theorem t58v4 :
  loopN (eB A60v6 (C22 u) u) N58v3 u (s58v7 n0 n1 f0 f1) k =
  L58v3 u n0 f0 n1 f1 (Int.ofNat n0) u 0 (fun x0 x1 x2 x3=>k .ret (s58v4 x0 x1 x2 x3)) (k (.exit 0) s58v5) :=
 Eq.trans (loopN_at (by kernel_rfl)) (q58v3 ..)
theorem g58v5 :
  (kBlk 0 (kSeq (C22 u) u (rl 6 41 []) A60v7 (finish A60))) .ret (s58v4 i0 i1 i2 i3) =
  (some [.v (.b true)]):=by kernel_rfl
theorem g58v6 :
  (kBlk 0 (kSeq (C22 u) u (rl 6 41 []) A60v7 (finish A60))) (.exit 0) s58v5 =
  (some [.v (.b false)]):=by kernel_rfl
theorem e58:evalF (C22 u) u A60 [.v (ro kP n0 f0),.v (ro kP n1 f1),.v (.fn 61 0 (listF []))]=ob (F58 u n0 f0 n1 f1) fun t=>some [.v (.b t)]:=Eq.trans (b:=(loopN (eB A60v6 (C22 u) u) N58v3 u (s58v7 n0 n1 f0 f1) (kBlk 0 (kSeq (C22 u) u (rl 6 41 []) A60v7 (finish A60))))) (by kernel_rfl) (by
 simp only [F58,ob_bif,ob_ob,ob_none,ob_some,nl58v3,t58v4,g58v5,g58v6])
def O58:Ora:=mkO (qc (av (cL kP)) (qc (av (cL kP)) (q1 (av (cF 61 0 t0))))) (fun x=>F58 u x.1.1 x.1.2 x.2.1.1 x.2.1.2) fun t=>[.v (.b t)]
theorem d58:DO (O58 u) (C22 u) 60 A60:=dO u (fun x=>by exact e58 u x.1.1 x.2.1.1 x.1.2 x.2.1.2)
def C23:Oracle:=(C22 u).add 60 (fun l=>isFn 61 l 2) (O58 u)
def A63v1:AC:=(.seq (.region 11 [o1 47 (ln 34 2 7),o1 48 (ln 34 2 8),o1 49 (ln 34 2 3),o1 50 (cs 76 [47,48,49] [34,34,34]),o1 51 (bk .gtr 3 50 0),o1 9 (sg 51)] 0 none) []
 (.seq (.region 12 [mv 52 9,o1 53 (fa 34 8 1 1),o1 54 (lo 3 53),o1 55 (fa 34 7 1 1),o1 56 (lo 3 55),o1 57 (bt .gtr 3 54 56),o1 58 (.eqB false 4 (tm 52) (tm 57) 4)] 0 none) []
 (.cond (tm 58)
 (.region 13 [mv 59 5,o1 60 (.unOp .not 4 (tm 59)),o1 5 (sg 60)] 0 none)
 .skip)))
def A63v2:AC:=(.seq (.seq (.region 10 [o1 36 (fa 34 7 1 1),o1 37 (lo 3 36),o1 38 (fa 34 3 1 1),o1 39 (lo 3 38),o1 40 (bt .gtr 3 37 39),o1 41 (fa 34 8 1 1),o1 42 (lo 3 41),o1 43 (fa 34 3 1 1),o1 44 (lo 3 43),o1 45 (bt .gtr 3 42 44),o1 46 (.eqB false 4 (tm 40) (tm 45) 4)] 0 none) []
 (.cond (tm 46)
 (.exit 1 (1 :: 2 :: 4 :: (rl 6 11 (rl 20 43 []))))
 .skip)) (rl 36 11 [])
 A63v1)
def A63v3:AC:=(.region 14 [o1 61 (bk .add 3 19 1),mv 19 61] 0 none)
def A63v4:AC:=(.seq (.block 1
 (.seq (.region 6 [mv 21 19,o1 22 (.indexAddr 22 34 2 (tm 17) (tm 19)),o1 23 (ln 34 2 22),o1 7 (.alloc 0 34 [vci 0,vci 0]),o1 6 (sg 21),o0 (.store 34 2 (tm 7) (tm 23))] 1 none) []
  (.seq (.region 7 [mv 24 0,mv 25 6,o1 26 (bk .add 3 25 1),mv 27 0,o1 28 (.len 22 false (tm 27)),o1 29 (bt .rem 3 26 28),o1 30 (.indexAddr 22 34 2 (tm 24) (tm 29)),o1 31 (ln 34 2 30),o1 8 (.alloc 0 34 [vci 0,vci 0]),o0 (.store 34 2 (tm 8) (tm 31))] 1 none) []
  (.seq (.seq (.region 8 [o1 32 (ln 34 2 7),o1 33 (ln 34 2 8),o1 34 (ln 34 2 3),o1 35 (cs 81 [32,33,34] [34,34,34])] 0 none) []
  (.cond (tm 35)
  (.seq (.region 9 [o1 4 (sk 0)] 0 none) []
   (.ret (rl 0 4 (rl 5 58 []))))
  .skip)) (4 :: (rl 32 4 []))
  A63v2)))) (4 :: (rl 6 4 (rl 21 40 [])))
 A63v3)
def A63v5:AC:=(.seq (.region 5 [o1 20 (bt .lss 3 19 18)] 0 none) []
 (.seq (.cond (tm 20)
 .skip
 (.exit 0 (rl 0 5 (rl 6 57 [])))) []
 A63v4))
def A63v6:AC:=(.seq (.region 17 [o1 4 (sk (-1))] 0 none) []
 (.ret (rl 0 4 (rl 5 58 []))))
def A63v7:AC:=(.seq (.seq (.region 15 [mv 62 5] 0 none) []
 (.cond (tm 62)
 (.seq (.region 16 [o1 4 (sk 1)] 0 none) []
  (.ret (rl 0 4 (rl 5 58 []))))
 .skip)) [4,62]
 A63v6)
def A63v8:AC:=(.seq (.region 3 [o1 5 (sb false)] 0 none) []
 (.seq (.seq (.region 4 [mv 17 0,o1 18 (.len 22 false (tm 17)),o1 19 (.move (ic 0))] 0 none) []
 (.block 0
 (.loop [] (1 :: 2 :: 4 :: (rl 6 11 (rl 20 43 [])))
  A63v5))) (4 :: (rl 6 4 (rl 17 45 [])))
 A63v7))
def A63:AF:=⟨63,[.tmp 4],
 (.seq (.region 0 [o1 3 (bx 0 34 1),o1 4 (sk 0)] 1 none) []
 (.seq (.seq (.region 1 [o1 10 (ln 34 2 3),o1 11 (cs 58 [10] [34]),mv 12 11,og 13 (.move (tm 0)) 12 false,og 14 (cs 47 [13] [22]) 12 false,og 15 (bk .neq 53 14 0) 12 false,o1 16 (pa 12 15)] 0 none) []
 (.cond (tm 16)
 (.seq (.region 2 [o1 4 (sk (-1))] 0 none) []
  (.ret (rl 0 4 (rl 5 58 []))))
 .skip)) (4 :: (rl 10 7 []))
 A63v8))⟩
def N65v1:St→Option St:=nN 1 (1 :: 2 :: 4 :: (rl 6 11 (rl 20 43 [])))
def s65v0:St:=⟨(.x (.c (ro kP n0 f0)) :: .u :: .u :: .x (.ptr 0 0) :: .u :: vxb b0 :: (us 11 (.x (.c (ro kP n0 f0)) :: vxi i0 :: vxi i1 :: (us 43 [])))),[.box [(vci i2),(vci i3)]]⟩
def s65v1:St:=⟨(us 4 (vxi 0 :: (us 58 []))),[.box [(vci i0),(vci i1)],.box [(vci i2),(vci i3)],.box [(vci i4),(vci i5)]]⟩
def s65v2:St:=⟨(us 5 (vxb b0 :: (us 57 []))),[.box [(vci i0),(vci i1)]]⟩
def L65v1 {ρ:Type} (u:Nat) (x0:Nat) (x1:FF) (x2 x3 x4:Int):Nat→Bool→Int→(Int→Int→Int→Int→Option ρ)→(Bool→Option ρ)→Option ρ
 | 0,_,_,_,_=>none
 | m+1,x5,x6,k0,k1 =>
  (bif (decide (x6<x2)) then (bif (inb x6 x0) then (bif ((Int.ofNat x0)==0) then none else (bif (inb (Int.tmod (w64 (x6+1)) (Int.ofNat x0)) x0) then (ob (F81 u (x1 x6.toNat 0).int (x1 x6.toNat 1).int (CV.int (x1 (Int.toNat (Int.tmod (w64 (x6+1)) (Int.ofNat x0))) 0)) (CV.int (x1 (Int.toNat (Int.tmod (w64 (x6+1)) (Int.ofNat x0))) 1)) x3 x4) fun x7=>(bif x7 then (k0 (x1 x6.toNat 0).int (x1 x6.toNat 1).int (CV.int (x1 (Int.toNat (Int.tmod (w64 (x6+1)) (Int.ofNat x0))) 0)) (CV.int (x1 (Int.toNat (Int.tmod (w64 (x6+1)) (Int.ofNat x0))) 1))) else (bif ((decide ((x1 x6.toNat 1).int>x4))==(decide ((CV.int (x1 (Int.toNat (Int.tmod (w64 (x6+1)) (Int.ofNat x0))) 1))>x4))) then (L65v1 u x0 x1 x2 x3 x4 m x5 (w64 (x6+1)) k0 k1) else (ob (F79 u (x1 x6.toNat 0).int (x1 x6.toNat 1).int (CV.int (x1 (Int.toNat (Int.tmod (w64 (x6+1)) (Int.ofNat x0))) 0)) (CV.int (x1 (Int.toNat (Int.tmod (w64 (x6+1)) (Int.ofNat x0))) 1)) x3 x4) fun x8=>(bif ((decide (x8>0))==(decide ((CV.int (x1 (Int.toNat (Int.tmod (w64 (x6+1)) (Int.ofNat x0))) 1))>(x1 x6.toNat 1).int))) then (L65v1 u x0 x1 x2 x3 x4 m (!x5) (w64 (x6+1)) k0 k1) else (L65v1 u x0 x1 x2 x3 x4 m x5 (w64 (x6+1)) k0 k1)))))) else none)) else none) else (k1 x5))
theorem nl65v1:∀ (m:Nat) (x0:Bool) (x1:Int) (k0:Int→Int→Int→Int→Option ρ) (k1:Bool→Option ρ),ob (L65v1 u n0 f0 i0 i1 i2 m x0 x1 k0 k1) ng=L65v1 u n0 f0 i0 i1 i2 m x0 x1 (fun x2 x3 x4 x5=>ob (k0 x2 x3 x4 x5) ng) (fun x6=>ob (k1 x6) ng)
 | 0,_,_,_,_=>rfl
 | m+1,x0,x1,k0,k1=>by
  simp only [L65v1,ob_bif,ob_ob,ob_none,nl65v1 m]
theorem q65v1:∀ (m:Nat) (x0:Bool) (x1:Int),
  loopH (eB A63v5 (C23 u) u) N65v1 m (s65v0 n0 f0 i0 x1 i1 i2 x0) k=L65v1 u n0 f0 i0 i1 i2 m x0 x1 (fun x2 x3 x4 x5=>k .ret (s65v1 i1 i2 x2 x3 x4 x5)) (fun x6=>k (.exit 0) (s65v2 i1 i2 x6))
 | 0,_,_=>rfl
 | m+1,x0,x1=>by
  simp only [L65v1,← q65v1 m]
  kernel_rfl
def F65 (x0:Nat) (x1:FF) (x2 x3:Int):Option (Int) :=
 (ob (F61 u x2 x3) fun x4=>(bif (x4==false) then (ob (F33 u x0 x1) fun x5=>(bif (x5 != 0) then (some (-1)) else (L65v1 u x0 x1 (Int.ofNat x0) x2 x3 u false 0
  (fun x6 x7 x8 x9=>(some 0))
  (fun xA=>(bif xA then (some 1) else (some (-1))))))) else (some (-1))))
def s65v3:St:=⟨(.x (.c (ro kP n0 f0)) :: .agg [(vci i0),(vci i1)] :: uu :: .x (.ptr 0 0) :: .u :: vxb false :: uu :: uu :: uu :: uu :: (us 7 [.x (.c (ro kP n0 f0)),vxi (Int.ofNat n0),vxi 0,uu,uu,uu,uu,uu,uu,uu,uu,uu,uu,uu,uu,uu,uu,uu,uu,uu,uu,uu,uu,uu,uu,uu,uu,uu,uu,uu,uu,uu,uu,uu,uu,uu,uu,uu,uu,uu,uu,uu,uu,uu,uu,uu])),[.box [(vci i0),(vci i1)]]⟩
theorem t65v1 :
  loopN (eB A63v5 (C23 u) u) N65v1 u (s65v3 n0 f0 i0 i1) k =
  L65v1 u n0 f0 (Int.ofNat n0) i0 i1 u false 0 (fun x0 x1 x2 x3=>k .ret (s65v1 i0 i1 x0 x1 x2 x3)) (fun x4=>k (.exit 0) (s65v2 i0 i1 x4)) :=
 Eq.trans (loopN_at (by kernel_rfl)) (q65v1 ..)
theorem g65v2 :
  (kBlk 0 (kSeq (C23 u) u (4 :: (rl 6 4 (rl 17 45 []))) A63v7 (finish A63))) .ret (s65v1 i0 i1 i2 i3 i4 i5) =
  (some [.v (vi 0)]):=by kernel_rfl
theorem g65v3 :
  (kBlk 0 (kSeq (C23 u) u (4 :: (rl 6 4 (rl 17 45 []))) A63v7 (finish A63))) (.exit 0) (s65v2 i0 i1 b0) =
  (bif b0 then (some [.v (vi 1)]) else (some [.v (vi (-1))])):=by kernel_rfl
theorem e65:evalF (C23 u) u A63 [.v (ro kP n0 f0),.agg [(vi i0),(vi i1)]]=ob (F65 u n0 f0 i0 i1) fun t=>some [.v (vi t)]:=Eq.trans (b:=(ob (F61 u i0 i1) fun x0=>(bif (x0==false) then (ob (F33 u n0 f0) fun x1=>(bif (x1 != 0) then (some [.v (vi (-1))]) else (loopN (eB A63v5 (C23 u) u) N65v1 u (s65v3 n0 f0 i0 i1) (kBlk 0 (kSeq (C23 u) u (4 :: (rl 6 4 (rl 17 45 []))) A63v7 (finish A63)))))) else (some [.v (vi (-1))])))) (by kernel_rfl) (by
 simp only [F65,ob_bif,ob_ob,ob_none,ob_some,nl65v1,t65v1,g65v2,g65v3])
def O65:Ora:=mkO (qc (av (cL kP)) (q1 (ag (tc ci (t1 ci))))) (fun x=>F65 u x.1.1 x.1.2 x.2.1 x.2.2) fun t=>[.v (vi t)]
theorem d65:DO (O65 u) (C23 u) 63 A63:=dO u (fun x=>by exact e65 u x.1.1 x.1.2 x.2.1 x.2.2)
def C24:Oracle:=(C23 u).add 63 (fun _=>true) (O65 u)
def A62:AF:=⟨8,[.tmp 3],
 (.seq (.region 0 [o1 2 (bx 0 34 0),o1 3 (sb false)] 1 none) []
 (.seq (.region 1 [o1 4 (lo 22 1),o1 5 (ln 34 2 2),o1 6 (cs 63 [4,5] [22,34]),o1 7 (bk .neq 3 6 1),o1 3 (sg 7)] 0 none) []
 (.ret (0 :: 1 :: 2 :: (rl 4 4 [])))))⟩
def F64 (x0 x1:Int) (x2:Nat→CV):Option (Bool) :=
 (ob (F65 u (x2 0).len (x2 0).el x0 x1) fun x3=>(some (x3 != 1)))
theorem e64:evalF (C24 u) u A62 [.agg [(vi i0),(vi i1)],.v (.rp kF g0)]=ob (F64 u i0 i1 g0) fun t=>some [.v (.b t)]:=by
 simp only [F64,ob_bif,ob_ob,ob_none,ob_some]
 kernel_rfl
def O64:Ora:=mkO (qc (ag (tc ci (t1 ci))) (q1 (av (cP kF)))) (fun x=>F64 u x.1.1 x.1.2 x.2) fun t=>[.v (.b t)]
theorem d64:DO (O64 u) (C24 u) 62 A62:=dO u (fun x=>by exact e64 u x.1.1 x.1.2 x.2)
def C25:Oracle:=(C24 u).add 62 (fun _=>true) (O64 u)
def N73bv1:St→Option St:=nN 0 (rl 2 5 (rl 9 10 []))
def s73bv0:St:=⟨(.x (.c (ro kP n0 f0)) :: .x (.c (.fn 62 1 (listF [(.rp kF g0)]))) :: (us 5 (vxi i0 :: vxi i1 :: (us 10 [])))),[]⟩
def s73bv1:St:=⟨(us 4 (vxi i0 :: (us 14 []))),[]⟩
def s73bv2:St:=⟨(us 19 []),[]⟩
def L73bv1 {ρ:Type} (u:Nat) (x0:Nat) (x1:FF) (x2:Nat→CV) (x3:Int):Nat→Int→(Int→Option ρ)→(Option ρ)→Option ρ
 | 0,_,_,_=>none
 | m+1,x4,k0,k1 =>
  (bif (decide (x4<x3)) then (bif (inb x4 x0) then (ob (F64 u (x1 x4.toNat 0).int (x1 x4.toNat 1).int x2) fun x5=>(bif x5 then (k0 x4) else (L73bv1 u x0 x1 x2 x3 m (w64 (x4+1)) k0 k1))) else none) else k1)
theorem nl73bv1:∀ (m:Nat) (x0:Int) (k0:Int→Option ρ) (k1:Option ρ),ob (L73bv1 u n0 f0 g0 i0 m x0 k0 k1) ng=L73bv1 u n0 f0 g0 i0 m x0 (fun x1=>ob (k0 x1) ng) (ob k1 ng)
 | 0,_,_,_=>rfl
 | m+1,x0,k0,k1=>by
  simp only [L73bv1,ob_bif,ob_ob,ob_none,nl73bv1 m]
theorem q73bv1:∀ (m:Nat) (x0:Int),
  loopH (eB A75v3 (C25 u) u) N73bv1 m (s73bv0 n0 f0 i0 x0 g0) k=L73bv1 u n0 f0 g0 i0 m x0 (fun x1=>k .ret (s73bv1 x1)) (k (.exit 0) s73bv2)
 | 0,_=>rfl
 | m+1,x0=>by
  simp only [L73bv1,← q73bv1 m]
  kernel_rfl
def F73b (x0:Nat) (x1:FF) (x2:Nat→CV):Option (Int) :=
 (L73bv1 u x0 x1 x2 (Int.ofNat x0) u 0
  (fun x3=>(some x3))
  (some (-1)))
def s73bv3:St:=⟨[.x (.c (ro kP n0 f0)),.x (.c (.fn 62 1 (listF [(.rp kF g0)]))),uu,uu,vxi 0,uu,.x (.c (ro kP n0 f0)),vxi (Int.ofNat n0),vxi 0,uu,uu,uu,uu,uu,uu,uu,uu,uu,uu],[]⟩
theorem t73bv1 :
  loopN (eB A75v3 (C25 u) u) N73bv1 u (s73bv3 n0 f0 g0) k =
  L73bv1 u n0 f0 g0 (Int.ofNat n0) u 0 (fun x0=>k .ret (s73bv1 x0)) (k (.exit 0) s73bv2) :=
 Eq.trans (loopN_at (by kernel_rfl)) (q73bv1 ..)
theorem g73bv2 :
  (kBlk 0 (kSeq (C25 u) u (rl 4 15 []) A75v4 (finish A75))) .ret (s73bv1 i0) =
  (some [.v (vi i0)]):=by kernel_rfl
theorem g73bv3 :
  (kBlk 0 (kSeq (C25 u) u (rl 4 15 []) A75v4 (finish A75))) (.exit 0) s73bv2 =
  (some [.v (vi (-1))]):=by kernel_rfl
theorem e73b:evalF (C25 u) u A75 [.v (ro kP n0 f0),.v (.fn 62 1 (listF [(.rp kF g0)]))]=ob (F73b u n0 f0 g0) fun t=>some [.v (vi t)]:=Eq.trans (b:=(loopN (eB A75v3 (C25 u) u) N73bv1 u (s73bv3 n0 f0 g0) (kBlk 0 (kSeq (C25 u) u (rl 4 15 []) A75v4 (finish A75))))) (by kernel_rfl) (by
 simp only [F73b,ob_bif,ob_ob,ob_none,ob_some,nl73bv1,t73bv1,g73bv2,g73bv3])
def O73b:Ora:=mkO (qc (av (cL kP)) (q1 (av (cF 62 1 (t1 (cP kF)))))) (fun x=>F73b u x.1.1 x.1.2 x.2) fun t=>[.v (vi t)]
theorem d73b:DO (O73b u) (C25 u) 75 A75:=dO u (fun x=>by exact e73b u x.1.1 x.1.2 x.2)
def C26:Oracle:=(C25 u).add 75 (fun l=>isFn 62 l 1) (O73b u)
def F50b (x0:Nat) (x1:FF) (x2:Nat→CV):Option (Bool) :=
 (ob (F73b u x0 x1 x2) fun x3=>(some (decide (x3≥0))))
theorem e50b:evalF (C26 u) u A55 [.v (ro kP n0 f0),.v (.fn 62 1 (listF [(.rp kF g0)]))]=ob (F50b u n0 f0 g0) fun t=>some [.v (.b t)]:=by
 simp only [F50b,ob_bif,ob_ob,ob_none,ob_some]
 kernel_rfl
def O50b:Ora:=mkO (qc (av (cL kP)) (q1 (av (cF 62 1 (t1 (cP kF)))))) (fun x=>F50b u x.1.1 x.1.2 x.2) fun t=>[.v (.b t)]
theorem d50b:DO (O50b u) (C26 u) 55 A55:=dO u (fun x=>by exact e50b u x.1.1 x.1.2 x.2)
def C27:Oracle:=(C26 u).add 55 (fun l=>isFn 62 l 1) (O50b u)
def A48:AF:=⟨15,[.tmp 4],
 (.seq (.region 0 [o1 3 (bx 0 22 1),o1 4 (sb false)] 1 none) []
 (.seq (.region 1 [mv 5 0,o1 6 (lo 22 3),o1 7 (.call 60 [(tm 5),(tm 6),(.func 61)] [22,22,115] .snap),o1 8 (.unOp .not 4 (tm 7)),mv 9 8,og 10 (.move (tm 0)) 9 true,og 11 (.mkfn 62 [(tm 3)]) 9 true,og 12 (cs 55 [10,11] [22,109]) 9 true,og 13 (.unOp .not 4 (tm 12)) 9 true,o1 14 (po 9 13),o1 4 (sg 14)] 0 none) []
 (.ret (rl 0 4 (rl 5 10 [])))))⟩
def F35 (x0:Nat) (x1:FF) (x2:Nat) (x3:FF):Option (Bool) :=
 (ob (F58 u x0 x1 x2 x3) fun x4=>(bif ((!x4)==true) then (ob (F50b u x0 x1 (listF [(.ro false (.pr (.int .i64) (.pr (.int .i64) .nil)) x2 x3)])) fun x5=>(some (!x5))) else (some false)))
theorem e35:evalF (C27 u) u A48 [.v (ro kP n0 f0),.v (ro kP n1 f1)]=ob (F35 u n0 f0 n1 f1) fun t=>some [.v (.b t)]:=by
 simp only [F35,ob_bif,ob_ob,ob_none,ob_some]
 kernel_rfl
def O35:Ora:=mkO (qc (av (cL kP)) (q1 (av (cL kP)))) (fun x=>F35 u x.1.1 x.1.2 x.2.1 x.2.2) fun t=>[.v (.b t)]
theorem d35:DO (O35 u) (C27 u) 48 A48:=dO u (fun x=>by exact e35 u x.1.1 x.2.1 x.1.2 x.2.2)
def C28:Oracle:=(C27 u).add 48 (fun _=>true) (O35 u)
def A49:AF:=⟨25,[.tmp 4],
 (.seq (.region 0 [o1 4 (sb false)] 0 none) []
 (.seq (.region 1 [mv 5 0,mv 6 1,o1 7 (.call 60 [(tm 5),(tm 6),(.func 61)] [22,22,115] .snap),o1 8 (.unOp .not 4 (tm 7)),mv 9 8,og 10 (.move (tm 0)) 9 true,og 11 (.move (tm 1)) 9 true,og 12 (.indexAddr 22 34 2 (tm 11) (ic 0)) 9 true,og 13 (ln 34 2 12) 9 true,og 14 (cs 63 [10,13] [22,34]) 9 true,og 15 (bk .lss 3 14 0) 9 true,o1 16 (po 9 15),mv 17 16,og 18 (.move (tm 1)) 17 true,og 19 (.move (tm 0)) 17 true,og 20 (.indexAddr 22 34 2 (tm 19) (ic 0)) 17 true,og 21 (ln 34 2 20) 17 true,og 22 (cs 63 [18,21] [22,34]) 17 true,og 23 (bk .lss 3 22 0) 17 true,o1 24 (po 17 23),o1 4 (sg 24)] 0 none) []
 (.ret (rl 0 4 (rl 5 20 [])))))⟩
def F36 (x0:Nat) (x1:FF) (x2:Nat) (x3:FF):Option (Bool) :=
 (ob (F58 u x0 x1 x2 x3) fun x4=>(bif ((!x4)==true) then (bif (inb 0 x2) then (ob (F65 u x0 x1 (x3 0 0).int (x3 0 1).int) fun x5=>(bif ((decide (x5<0))==true) then (bif (inb 0 x0) then (ob (F65 u x2 x3 (x1 0 0).int (x1 0 1).int) fun x6=>(some (decide (x6<0)))) else none) else (some false))) else none) else (some false)))
theorem e36:evalF (C28 u) u A49 [.v (ro kP n0 f0),.v (ro kP n1 f1)]=ob (F36 u n0 f0 n1 f1) fun t=>some [.v (.b t)]:=by
 simp only [F36,ob_bif,ob_ob,ob_none,ob_some]
 kernel_rfl
def O36:Ora:=mkO (qc (av (cL kP)) (q1 (av (cL kP)))) (fun x=>F36 u x.1.1 x.1.2 x.2.1 x.2.2) fun t=>[.v (.b t)]
theorem d36:DO (O36 u) (C28 u) 49 A49:=dO u (fun x=>by exact e36 u x.1.1 x.2.1 x.1.2 x.2.2)
def C29:Oracle:=(C28 u).add 49 (fun _=>true) (O36 u)
def A33v1:AC:=(.region 21 [o1 59 (bk .add 3 51 1),mv 51 59] 0 none)
def A33v2:AC:=(.seq (.block 3
 (.seq (.region 18 [o1 53 (.indexAddr 23 22 1 (tm 49) (tm 51)),o1 54 (lo 22 53),o1 8 (sg 54)] 0 none) []
  (.seq (.region 19 [mv 55 5,mv 56 8,o1 57 (cs 49 [55,56] [22,22]),o1 58 (.unOp .not 4 (tm 57))] 0 none) []
  (.cond (tm 58)
  (.seq (.region 20 [o1 2 (sk 17)] 0 none) []
   (.ret (0 :: 1 :: (rl 3 58 []))))
  .skip)))) (2 :: 8 :: (rl 53 6 []))
 A33v1)
def A33v3:AC:=(.seq (.region 17 [o1 52 (bt .lss 3 51 50)] 0 none) []
 (.seq (.cond (tm 52)
 .skip
 (.exit 2 (0 :: (rl 2 22 (rl 27 34 []))))) []
 A33v2))
def A33v4:AC:=(.seq (.region 16 [o1 46 (fa 25 1 1 1),o1 47 (lo 23 46),mv 48 4,o1 49 (.slice 23 22 1 (tm 47) none (some (tm 48)) none),o1 50 (.len 23 false (tm 49)),o1 51 (.move (ic 0))] 0 none) []
 (.block 2
 (.loop [] (0 :: 2 :: 3 :: 4 :: (rl 6 18 (rl 27 22 (rl 52 9 []))))
  A33v3)))
def A33v5:AC:=(.seq (.seq (.region 14 [mv 36 5,o1 37 (cs 43 [36] [22]),o1 38 (bk .geq 3 37 0),mv 39 38,og 40 (.move (tm 5)) 39 false,og 41 (fa 25 1 0 0) 39 false,og 42 (lo 22 41) 39 false,og 43 (cs 48 [40,42] [22,22]) 39 false,og 44 (.unOp .not 4 (tm 43)) 39 false,o1 45 (pa 39 44)] 0 none) []
 (.cond (tm 45)
 (.seq (.region 15 [o1 2 (sk 17)] 0 none) []
  (.ret (0 :: 1 :: (rl 3 58 []))))
 .skip)) (2 :: (rl 36 10 []))
 A33v4)
def A33v6:AC:=(.region 22 [o1 60 (bk .add 3 26 1),mv 26 60] 0 none)
def A33v7:AC:=(.seq (.block 1
 (.seq (.region 10 [mv 28 26,o1 29 (.indexAddr 23 22 1 (tm 24) (tm 26)),o1 30 (lo 22 29),o1 4 (sg 28),o1 5 (sg 30)] 0 none) []
  (.seq (.seq (.region 11 [mv 31 5,o1 32 (cs 47 [31] [22]),o1 6 (sg 32)] 0 none) []
  (.seq (.region 12 [mv 33 6,o1 34 (bk .neq 53 33 0)] 0 none) []
  (.cond (tm 34)
  (.seq (.region 13 [mv 35 6,o1 2 (sg 35)] 0 none) []
   (.ret (0 :: 1 :: (rl 3 58 []))))
  .skip))) (2 :: 6 :: (rl 31 5 []))
  A33v5))) (2 :: 4 :: 5 :: 6 :: 8 :: (rl 28 32 []))
 A33v6)
def A33v8:AC:=(.seq (.region 9 [o1 27 (bt .lss 3 26 25)] 0 none) []
 (.seq (.cond (tm 27)
 .skip
 (.exit 0 (rl 0 61 []))) []
 A33v7))
def A33v9:AC:=(.seq (.region 23 [o1 2 (sk 0)] 0 none) []
 (.ret (0 :: 1 :: (rl 3 58 []))))
def A33v10:AC:=(.seq (.seq (.region 8 [o1 23 (fa 25 1 1 1),o1 24 (lo 23 23),o1 25 (.len 23 false (tm 24)),o1 26 (.move (ic 0))] 0 none) []
 (.block 0
 (.loop [] (0 :: (rl 2 22 (rl 27 34 [])))
  A33v8))) (2 :: 4 :: 5 :: 6 :: 8 :: (rl 23 38 []))
 A33v9)
def A33v11:AC:=(.seq (.seq (.region 6 [o1 19 (fa 25 1 0 0),o1 20 (lo 22 19),o1 21 (cs 43 [20] [22]),o1 22 (bk .leq 3 21 0)] 0 none) []
 (.cond (tm 22)
 (.seq (.region 7 [o1 2 (sk 17)] 0 none) []
  (.ret (0 :: 1 :: (rl 3 58 []))))
 .skip)) (2 :: (rl 19 4 []))
 A33v10)
def A33v12:AC:=(.seq (.seq (.region 3 [o1 13 (fa 25 1 0 0),o1 14 (lo 22 13),o1 15 (cs 47 [14] [22]),o1 3 (sg 15)] 0 none) []
 (.seq (.region 4 [mv 16 3,o1 17 (bk .neq 53 16 0)] 0 none) []
 (.cond (tm 17)
 (.seq (.region 5 [mv 18 3,o1 2 (sg 18)] 0 none) []
  (.ret (0 :: 1 :: (rl 3 58 []))))
 .skip))) (2 :: 3 :: (rl 13 6 []))
 A33v11)
def A33:AF:=⟨61,[.tmp 2],
 (.seq (.region 0 [o1 1 (bx 0 25 0),o1 2 (sk 0)] 1 none) []
 (.seq (.seq (.region 1 [o1 9 (fa 25 1 1 1),o1 10 (lo 23 9),o1 11 (.len 23 false (tm 10)),o1 12 (bk .gtr 3 11 8)] 0 none) []
 (.cond (tm 12)
 (.seq (.region 2 [o1 2 (sk 12)] 0 none) []
  (.ret (0 :: 1 :: (rl 3 58 []))))
 .skip)) (2 :: (rl 9 4 []))
 A33v12))⟩
def N13v2:St→Option St:=nN 1 (0 :: 2 :: 3 :: 4 :: (rl 6 18 (rl 27 22 (rl 52 9 []))))
def s13v0:St:=⟨(.u :: .x (.ptr 0 0) :: (us 3 (.x (.c (ro kP n0 f0)) :: (us 18 (.x (.c (ro kF n1 f1)) :: vxi i0 :: vxi i1 :: (us 22 (.x (.c (ro kF n2 f1)) :: vxi i2 :: vxi i3 :: (us 9 [])))))))),[.box [(.c (ro kP n3 f2)),(.c (ro kF n1 f1))]]⟩
def s13v1:St:=⟨(.u :: .u :: vxi 17 :: (us 58 [])),[.box [(.c (ro kP n0 f0)),(.c (ro kF n1 f1))]]⟩
def s13v2:St:=⟨(.u :: .x (.ptr 0 0) :: (us 22 (.x (.c (ro kF n0 f0)) :: vxi i0 :: vxi i1 :: (us 34 [])))),[.box [(.c (ro kP n1 f1)),(.c (ro kF n0 f0))]]⟩
def L13v2 {ρ:Type} (u:Nat) (x0:Nat) (x1:FF) (x2:Nat) (x3:FF) (x4 x5:Int) (x6:Nat) (x7:Int) (x8:Nat) (x9:FF):Nat→Int→(Option ρ)→(Option ρ)→Option ρ
 | 0,_,_,_=>none
 | m+1,xA,k0,k1 =>
  (bif (decide (xA<x7)) then (bif (inb xA x6) then (ob (F36 u x0 x1 (x3 xA.toNat 0).len (x3 xA.toNat 0).el) fun xB=>(bif (!xB) then k0 else (L13v2 u x0 x1 x2 x3 x4 x5 x6 x7 x8 x9 m (w64 (xA+1)) k0 k1))) else none) else k1)
theorem nl13v2:∀ (m:Nat) (x0:Int) (k0:Option ρ) (k1:Option ρ),ob (L13v2 u n0 f0 n1 f1 i0 i1 n2 i2 n3 f2 m x0 k0 k1) ng=L13v2 u n0 f0 n1 f1 i0 i1 n2 i2 n3 f2 m x0 (ob k0 ng) (ob k1 ng)
 | 0,_,_,_=>rfl
 | m+1,x0,k0,k1=>by
  simp only [L13v2,ob_bif,ob_ob,ob_none,nl13v2 m]
theorem q13v2:∀ (m:Nat) (x0:Int),
  loopH (eB A33v3 (C29 u) u) N13v2 m (s13v0 n0 n1 n2 n3 f0 f1 f2 i0 i1 i2 x0) k=L13v2 u n0 f0 n1 f1 i0 i1 n2 i2 n3 f2 m x0 (k .ret (s13v1 n3 n1 f2 f1)) (k (.exit 2) (s13v2 n1 n3 f1 f2 i0 i1))
 | 0,_=>rfl
 | m+1,x0=>by
  simp only [L13v2,← q13v2 m]
  kernel_rfl
def N13v3:St→Option St:=nN 1 (0 :: (rl 2 22 (rl 27 34 [])))
def s13v3:St:=⟨(.u :: .x (.ptr 0 0) :: (us 22 (.x (.c (ro kF n0 f0)) :: vxi i0 :: vxi i1 :: (us 34 [])))),[.box [(.c (ro kP n1 f1)),(.c (ro kF n0 f0))]]⟩
def s13v4:St:=⟨(.u :: .u :: vxi i0 :: (us 58 [])),[.box [(.c (ro kP n0 f0)),(.c (ro kF n1 f1))]]⟩
def s13v5:St:=⟨(us 61 []),[.box [(.c (ro kP n0 f0)),(.c (ro kF n1 f1))]]⟩
def L13v3 {ρ:Type} (u:Nat) (x0:Nat) (x1:FF) (x2:Int) (x3:Nat) (x4:FF):Nat→Int→(Int→Option ρ)→(Option ρ)→Option ρ
 | 0,_,_,_=>none
 | m+1,x5,k0,k1 =>
  (bif (decide (x5<x2)) then (bif (inb x5 x0) then (ob (F33 u (x1 x5.toNat 0).len (x1 x5.toNat 0).el) fun x6=>(bif (x6 != 0) then (k0 x6) else (ob (F34 u (x1 x5.toNat 0).len (x1 x5.toNat 0).el) fun x7=>(bif ((decide (x7≥0))==false) then (ob (F35 u (x1 x5.toNat 0).len (x1 x5.toNat 0).el x3 x4) fun x8=>(bif (!x8) then (k0 17) else (bif (inbe x5 x0) then (L13v2 u (x1 x5.toNat 0).len (x1 x5.toNat 0).el x0 x1 x2 x5 (x5.toNat-0) (Int.ofNat (x5.toNat-0)) x3 x4 u 0
  (k0 17)
  (L13v3 u x0 x1 x2 x3 x4 m (w64 (x5+1)) k0 k1)) else none))) else (k0 17))))) else none) else k1)
theorem nl13v3:∀ (m:Nat) (x0:Int) (k0:Int→Option ρ) (k1:Option ρ),ob (L13v3 u n0 f0 i0 n1 f1 m x0 k0 k1) ng=L13v3 u n0 f0 i0 n1 f1 m x0 (fun x1=>ob (k0 x1) ng) (ob k1 ng)
 | 0,_,_,_=>rfl
 | m+1,x0,k0,k1=>by
  simp only [L13v3,ob_bif,ob_ob,ob_none,nl13v3 m,nl13v2]
def s13v6:St:=⟨(.u :: .x (.ptr 0 0) :: .u :: .u :: vxi i0 :: .x (.c (ro kP (f0 i0.toNat 0).len (f0 i0.toNat 0).el)) :: (us 18 (.x (.c (ro kF n0 f0)) :: vxi i1 :: vxi i0 :: vxb true :: vxi i0 :: .x (.c (.rp kF (f0 i0.toNat))) :: .x (.c (ro kP (f0 i0.toNat 0).len (f0 i0.toNat 0).el)) :: (us 15 (.x (.ptr 0 1) :: .x (.c (ro kF n0 f0)) :: vxi i0 :: .x (.c (ro kF (i0.toNat-0) f0)) :: vxi (Int.ofNat (i0.toNat-0)) :: vxi 0 :: (us 9 [])))))),[.box [(.c (ro kP n1 f1)),(.c (ro kF n0 f0))]]⟩
theorem r13v3 :
  loopH (eB A33v8 (C29 u) u) N13v3 (m+1) (s13v3 n0 n1 f0 f1 i0 i1) k =
  (bif (decide (i1<i0)) then (bif (inb i1 n0) then (ob (F33 u (f0 i1.toNat 0).len (f0 i1.toNat 0).el) fun x0=>(bif (x0 != 0) then (k .ret (s13v4 n1 n0 f1 f0 x0)) else (ob (F34 u (f0 i1.toNat 0).len (f0 i1.toNat 0).el) fun x1=>(bif ((decide (x1≥0))==false) then (ob (F35 u (f0 i1.toNat 0).len (f0 i1.toNat 0).el n1 f1) fun x2=>(bif (!x2) then (k .ret (s13v4 n1 n0 f1 f0 17)) else (bif (inbe i1 n0) then (loopN (eB A33v3 (C29 u) u) N13v2 u (s13v6 n0 n1 f0 f1 i1 i0) (kBlk 2 (kBlk 1 (kSeq (C29 u) u (2 :: 4 :: 5 :: 6 :: 8 :: (rl 28 32 [])) A33v6 (kLoop (eB A33v8 (C29 u) u) N13v3 m k))))) else none))) else (k .ret (s13v4 n1 n0 f1 f0 17)))))) else none) else (k (.exit 0) (s13v5 n1 n0 f1 f0))):=by kernel_rfl
theorem t13v1 :
  loopN (eB A33v3 (C29 u) u) N13v2 u (s13v6 n0 n1 f0 f1 i0 i1) k =
  L13v2 u (f0 i0.toNat 0).len (f0 i0.toNat 0).el n0 f0 i1 i0 (i0.toNat-0) (Int.ofNat (i0.toNat-0)) n1 f1 u 0 (k .ret (s13v1 n1 n0 f1 f0)) (k (.exit 2) (s13v2 n0 n1 f0 f1 i1 i0)) :=
 Eq.trans (loopN_at (by kernel_rfl)) (q13v2 ..)
theorem g13v2 :
  (kBlk 2 (kBlk 1 (kSeq (C29 u) u (2 :: 4 :: 5 :: 6 :: 8 :: (rl 28 32 [])) A33v6 (kLoop (eB A33v8 (C29 u) u) N13v3 m k)))) .ret (s13v1 n0 n1 f0 f1) =
  (k .ret (s13v4 n0 n1 f0 f1 17)):=by kernel_rfl
theorem g13v3 :
  (kBlk 2 (kBlk 1 (kSeq (C29 u) u (2 :: 4 :: 5 :: 6 :: 8 :: (rl 28 32 [])) A33v6 (kLoop (eB A33v8 (C29 u) u) N13v3 m k)))) (.exit 2) (s13v2 n0 n1 f0 f1 i0 i1) =
  (loopH (eB A33v8 (C29 u) u) N13v3 m (s13v3 n0 n1 f0 f1 i0 (w64 (i1+1))) k):=by kernel_rfl
theorem q13v3:∀ (m:Nat) (x0:Int),
  loopH (eB A33v8 (C29 u) u) N13v3 m (s13v3 n0 n1 f0 f1 i0 x0) k=L13v3 u n0 f0 i0 n1 f1 m x0 (fun x1=>k .ret (s13v4 n1 n0 f1 f0 x1)) (k (.exit 0) (s13v5 n1 n0 f1 f0))
 | 0,_=>rfl
 | m+1,x0=>by
  rw [r13v3]
  simp only [L13v3,q13v3 m,t13v1,g13v2,g13v3]
def F13 (x0:Nat) (x1:FF) (x2:Nat) (x3:FF):Option (Int) :=
 (bif (decide ((Int.ofNat x2)>8)) then (some 12) else (ob (F33 u x0 x1) fun x4=>(bif (x4 != 0) then (some x4) else (ob (F34 u x0 x1) fun x5=>(bif (decide (x5≤0)) then (some 17) else (L13v3 u x2 x3 (Int.ofNat x2) x0 x1 u 0
  (fun x6=>(some x6))
  (some 0)))))))
def s13v7:St:=⟨(.agg [(.c (ro kP n0 f0)),(.c (ro kF n1 f1))] :: .x (.ptr 0 0) :: .u :: .u :: uu :: uu :: uu :: uu :: uu :: (us 14 [.x (.ptr 0 1),.x (.c (ro kF n1 f1)),vxi (Int.ofNat n1),vxi 0,uu,uu,uu,uu,uu,uu,uu,uu,uu,uu,uu,uu,uu,uu,uu,uu,uu,uu,uu,uu,uu,uu,uu,uu,uu,uu,uu,uu,uu,uu,uu,uu,uu,uu])),[.box [(.c (ro kP n0 f0)),(.c (ro kF n1 f1))]]⟩
theorem t13v4 :
  loopN (eB A33v8 (C29 u) u) N13v3 u (s13v7 n0 n1 f0 f1) k =
  L13v3 u n1 f1 (Int.ofNat n1) n0 f0 u 0 (fun x0=>k .ret (s13v4 n0 n1 f0 f1 x0)) (k (.exit 0) (s13v5 n0 n1 f0 f1)) :=
 Eq.trans (loopN_at (by kernel_rfl)) (q13v3 ..)
theorem g13v5 :
  (kBlk 0 (kSeq (C29 u) u (2 :: 4 :: 5 :: 6 :: 8 :: (rl 23 38 [])) A33v9 (finish A33))) .ret (s13v4 n0 n1 f0 f1 i0) =
  (some [.v (vi i0)]):=by kernel_rfl
theorem g13v6 :
  (kBlk 0 (kSeq (C29 u) u (2 :: 4 :: 5 :: 6 :: 8 :: (rl 23 38 [])) A33v9 (finish A33))) (.exit 0) (s13v5 n0 n1 f0 f1) =
  (some [.v (vi 0)]):=by kernel_rfl
theorem e13:evalF (C29 u) u A33 [.agg [(ro kP n0 f0),(ro kF n1 f1)]]=ob (F13 u n0 f0 n1 f1) fun t=>some [.v (vi t)]:=Eq.trans (b:=(bif (decide ((Int.ofNat n1)>8)) then (some [.v (vi 12)]) else (ob (F33 u n0 f0) fun x0=>(bif (x0 != 0) then (some [.v (vi x0)]) else (ob (F34 u n0 f0) fun x1=>(bif (decide (x1≤0)) then (some [.v (vi 17)]) else (loopN (eB A33v8 (C29 u) u) N13v3 u (s13v7 n0 n1 f0 f1) (kBlk 0 (kSeq (C29 u) u (2 :: 4 :: 5 :: 6 :: 8 :: (rl 23 38 [])) A33v9 (finish A33)))))))))) (by kernel_rfl) (by
 simp only [F13,ob_bif,ob_ob,ob_none,ob_some,nl13v3,t13v4,g13v5,g13v6])
def O13:Ora:=mkO (q1 (ag (tc (cL kP) (t1 (cL kF))))) (fun x=>F13 u x.1.1 x.1.2 x.2.1 x.2.2) fun t=>[.v (vi t)]
theorem d13:DO (O13 u) (C29 u) 33 A33:=dO u (fun x=>by exact e13 u x.1.1 x.2.1 x.1.2 x.2.2)
def C30:Oracle:=(C29 u).add 33 (fun _=>true) (O13 u)
def A22v1:AC:=(.region 10 [o1 55 (bk .add 3 13 1),mv 13 55] 0 none)
def A22v2:AC:=(.seq (.block 1
 (.seq (.region 5 [o1 15 (.indexAddr 45 31 18 (tm 11) (tm 13)),o1 16 (ln 31 18 15),o1 8 (.alloc 0 31 [vcs ByteArray.empty,vci 0,vci 0,vcs ByteArray.empty,vcs ByteArray.empty,vci 0,vcn,vcn,vcs ByteArray.empty,vci 0,vci 0,vci 0,vci 0,vci 0,vci 0,vci 0,vci 0,vci 0]),o0 (.store 31 18 (tm 8) (tm 16))] 1 none) []
  (.seq (.region 6 [mv 17 6,o1 18 (fa 31 8 0 0),o1 19 (lo 9 18),o1 20 (.lookupB 89 (tm 17) (tm 19)),o1 21 (.unOp .not 4 (tm 20)),o1 9 (sg 21)] 0 none) []
  (.seq (.region 7 [mv 22 6,o1 23 (fa 31 8 0 0),o1 24 (lo 9 23),o0 (.mapPutT 89 (tm 22) (tm 24))] 0 none) []
  (.seq (.region 8 [mv 25 9,mv 26 25,og 27 (fa 31 8 2 2) 26 true,og 28 (lo 3 27) 26 true,og 29 (bk .eql 3 28 1) 26 true,o1 30 (po 26 29),mv 31 30,og 32 (fa 31 8 4 4) 31 true,og 33 (lo 9 32) 31 true,og 34 (fa 44 2 1 1) 31 true,og 35 (lo 9 34) 31 true,og 36 (bt .eql 9 33 35) 31 true,o1 37 (po 31 36),mv 38 37,og 39 (fa 31 8 5 5) 38 true,og 40 (lo 3 39) 38 true,og 41 (fa 44 2 2 2) 38 true,og 42 (lo 3 41) 38 true,og 43 (bt .eql 3 40 42) 38 true,o1 44 (po 38 43),mv 45 44,og 46 (fa 31 8 6 6) 45 true,og 47 (ln 25 2 46) 45 true,og 48 (cs 33 [47] [25]) 45 true,og 49 (bk .eql 53 48 0) 45 true,o1 50 (po 45 49)] 0 none) []
  (.cond (tm 50)
  (.region 9 [mv 51 5,o1 52 (ln 31 18 8),o1 53 (.buildSlice 0 45 31 kA 1 [vcs ByteArray.empty,vci 0,vci 0,vcs ByteArray.empty,vcs ByteArray.empty,vci 0,.c (.ro true kP 0 nilF),.c (.ro true kF 0 nilF),vcs ByteArray.empty,vci 0,vci 0,vci 0,vci 0,vci 0,vci 0,vci 0,vci 0,vci 0] [(0,(tm 52))]),o1 54 (.append 1 45 31 kA 208 (tm 51) (tm 53)),o1 5 (sg 54)] 2 none)
  .skip)))))) (8 :: 9 :: (rl 15 40 []))
 A22v1)
def A22v3:AC:=(.seq (.region 4 [o1 14 (bt .lss 3 13 12)] 0 none) []
 (.seq (.cond (tm 14)
 .skip
 (.ghost [0] (.exit 0 (rl 0 5 (rl 6 51 []))))) []
 A22v2))
def A22v4:AC:=(.seq (.region 11 [mv 56 5,o1 4 (sg 56)] 0 none) []
 (.ghost [0] (.ret (rl 0 4 (rl 5 52 [])))))
def A22:AF:=⟨57,[.tmp 4],
 (.seq (.region 0 [o1 2 (bx 0 44 0),o1 4 (.assign (.const (.slice none 0 0)))] 1 none) []
 (.seq (.region 1 [o1 5 (.assign (.const (.slice none 0 0)))] 0 none) []
 (.seq (.region 2 [o1 10 (.makeMap 0 89 2),o1 6 (sg 10)] 1 none) []
 (.seq (.seq (.region 3 [mv 11 1,o1 12 (.len 45 false (tm 11)),o1 13 (.move (ic 0))] 0 none) []
 (.block 0
 (.loop [.slot 5 kA] (0 :: 1 :: 3 :: 4 :: (rl 7 4 (rl 14 43 [])))
  A22v3))) (8 :: 9 :: (rl 11 45 []))
 A22v4))))⟩
def N391v1:St→Option St:=nN 3 (0 :: 1 :: 3 :: 4 :: (rl 7 4 (rl 14 43 [])))
def s391v0:St:=⟨(.u :: .u :: .x (.ptr 0 0) :: .u :: .u :: .x (.own 2 0 n0) :: .x (.own 1 0 0) :: (us 4 (.x (.c (ro kA n1 f0)) :: vxi i0 :: vxi i1 :: (us 43 [])))),[.box [(vcs w0),(vcs w1),(vci i2),(vci i3),(vci i4),(vcs w2)],.set 2 n2 f1,.arr kA n0 f2]⟩
def s391v1:St:=⟨(us 5 (.x (.own 2 0 n0) :: (us 51 []))),[.dead,.set 2 n1 f0,.arr kA n0 f1]⟩
def L391v1 {ρ:Type} (u:Nat) (x0:Nat) (x1:FF) (x2:Int) (x3 x4:ByteArray) (x5 x6 x7:Int) (x8:ByteArray):Nat→Nat→Int→Nat→FF→FF→(Nat→Nat→FF→FF→Option ρ)→Option ρ
 | 0,_,_,_,_,_,_=>none
 | m+1,x9,xA,xB,xC,xD,k0 =>
  (bif (decide (xA<x2)) then (bif (inb xA x0) then (bif ((!(mapG xB xC (x1 xA.toNat 0).str==1))==true) then (bif (((x1 xA.toNat 2).int==1)==true) then (bif ((ByteArray.toList (x1 xA.toNat 4).str==ByteArray.toList x4)==true) then (bif (((x1 xA.toNat 5).int==x5)==true) then (ob (F13 u (x1 xA.toNat 6).len (x1 xA.toNat 6).el (x1 xA.toNat 7).len (x1 xA.toNat 7).el) fun xE=>(bif (xE==0) then (bif (Nat.ble (x9+1) 1073741824) then (L391v1 u x0 x1 x2 x3 x4 x5 x6 x7 x8 m (x9+1) (w64 (xA+1)) (mapN xB xC (x1 xA.toNat 0).str) (mapR xB xC (x1 xA.toNat 0).str 1) (joinF x9 xD (rowsF 18 [(.s (x1 xA.toNat 0).str),(.i .i64 (x1 xA.toNat 1).int),(.i .i64 (x1 xA.toNat 2).int),(.s (x1 xA.toNat 3).str),(.s (x1 xA.toNat 4).str),(.i .i64 (x1 xA.toNat 5).int),(.ro false (.pr (.int .i64) (.pr (.int .i64) .nil)) (x1 xA.toNat 6).len (x1 xA.toNat 6).el),(.ro false (.pr (.sl (.pr (.int .i64) (.pr (.int .i64) .nil))) .nil) (x1 xA.toNat 7).len (x1 xA.toNat 7).el),(.s (x1 xA.toNat 8).str),(.i .i64 (x1 xA.toNat 9).int),(.i .i64 (x1 xA.toNat 10).int),(.i .i64 (x1 xA.toNat 11).int),(.i .i64 (x1 xA.toNat 12).int),(.i .i64 (x1 xA.toNat 13).int),(.i .i64 (x1 xA.toNat 14).int),(.i .i64 (x1 xA.toNat 15).int),(.i .i64 (x1 xA.toNat 16).int),(.i .i64 (x1 xA.toNat 17).int)])) k0) else none) else (L391v1 u x0 x1 x2 x3 x4 x5 x6 x7 x8 m x9 (w64 (xA+1)) (mapN xB xC (x1 xA.toNat 0).str) (mapR xB xC (x1 xA.toNat 0).str 1) xD k0))) else (L391v1 u x0 x1 x2 x3 x4 x5 x6 x7 x8 m x9 (w64 (xA+1)) (mapN xB xC (x1 xA.toNat 0).str) (mapR xB xC (x1 xA.toNat 0).str 1) xD k0)) else (L391v1 u x0 x1 x2 x3 x4 x5 x6 x7 x8 m x9 (w64 (xA+1)) (mapN xB xC (x1 xA.toNat 0).str) (mapR xB xC (x1 xA.toNat 0).str 1) xD k0)) else (L391v1 u x0 x1 x2 x3 x4 x5 x6 x7 x8 m x9 (w64 (xA+1)) (mapN xB xC (x1 xA.toNat 0).str) (mapR xB xC (x1 xA.toNat 0).str 1) xD k0)) else (L391v1 u x0 x1 x2 x3 x4 x5 x6 x7 x8 m x9 (w64 (xA+1)) (mapN xB xC (x1 xA.toNat 0).str) (mapR xB xC (x1 xA.toNat 0).str 1) xD k0)) else none) else (k0 x9 xB xC xD))
theorem nl391v1:∀ (m:Nat) (x0:Nat) (x1:Int) (x2:Nat) (x3 x4:FF) (k0:Nat→Nat→FF→FF→Option ρ),ob (L391v1 u n0 f0 i0 w0 w1 i1 i2 i3 w2 m x0 x1 x2 x3 x4 k0) ng=L391v1 u n0 f0 i0 w0 w1 i1 i2 i3 w2 m x0 x1 x2 x3 x4 (fun x5 x6 x7 x8=>ob (k0 x5 x6 x7 x8) ng)
 | 0,_,_,_,_,_,_=>rfl
 | m+1,x0,x1,x2,x3,x4,k0=>by
  simp only [L391v1,ob_bif,ob_ob,ob_none,nl391v1 m]
theorem q391v1:∀ (m:Nat) (x0:Nat) (x1:Int) (x2:Nat) (x3 x4:FF),
  loopH (eB A22v3 (C30 u) u) N391v1 m (s391v0 x0 n0 x2 f0 x3 x4 i0 x1 i1 i2 i3 w0 w1 w2) k=L391v1 u n0 f0 i0 w0 w1 i1 i2 i3 w2 m x0 x1 x2 x3 x4 (fun x5 x6 x7 x8=>k (.exit 0) (s391v1 x5 x6 x7 x8))
 | 0,_,_,_,_,_=>rfl
 | m+1,x0,x1,x2,x3,x4=>by
  simp only [L391v1,← q391v1 m]
  kernel_rfl
def F391 (x0 x1:ByteArray) (x2 x3 x4:Int) (x5:ByteArray) (x6:Nat) (x7:FF):Option (Nat × FF) :=
 (L391v1 u x6 x7 (Int.ofNat x6) x0 x1 x2 x3 x4 x5 u 0 0 0 (fun _ _=>.any) (fun _ _=>.any)
  (fun x8 x9 xA xB=>(some (x8,xB))))
def s391v2:St:=⟨[.agg [(vcs w0),(vcs w1),(vci i0),(vci i1),(vci i2),(vcs w2)],.x (.c (ro kA n0 f0)),.x (.ptr 0 0),uu,.x (vcn),.x (.own 2 0 0),.x (.own 1 0 0),uu,uu,uu,.x (.own 1 0 0),.x (.c (ro kA n0 f0)),vxi (Int.ofNat n0),vxi 0,uu,uu,uu,uu,uu,uu,uu,uu,uu,uu,uu,uu,uu,uu,uu,uu,uu,uu,uu,uu,uu,uu,uu,uu,uu,uu,uu,uu,uu,uu,uu,uu,uu,uu,uu,uu,uu,uu,uu,uu,uu,uu,uu],[.box [(vcs w0),(vcs w1),(vci i0),(vci i1),(vci i2),(vcs w2)],.set 2 0 nilF,.arr kA 0 nilF]⟩
theorem t391v1 :
  loopN (eB A22v3 (C30 u) u) N391v1 u (s391v2 n0 f0 i0 i1 i2 w0 w1 w2) k =
  L391v1 u n0 f0 (Int.ofNat n0) w0 w1 i0 i1 i2 w2 u 0 0 0 nilF nilF (fun x0 x1 x2 x3=>k (.exit 0) (s391v1 x0 x1 x2 x3)) :=
 Eq.trans (loopN_at (by kernel_rfl)) (q391v1 ..)
theorem g391v2 :
  (kBlk 0 (kSeq (C30 u) u (8 :: 9 :: (rl 11 45 [])) A22v4 (finish A22))) (.exit 0) (s391v1 n0 n1 f0 f1) =
  (some [.v (ro kA n0 f1)]):=by kernel_rfl
theorem e391:evalF (C30 u) u A22 [.agg [(.s w0),(.s w1),(vi i0),(vi i1),(vi i2),(.s w2)],.v (ro kA n0 f0)]=ob (F391 u w0 w1 i0 i1 i2 w2 n0 f0) fun t=>some [.v (ro kA t.1 t.2)]:=Eq.trans (b:=(loopN (eB A22v3 (C30 u) u) N391v1 u (s391v2 n0 f0 i0 i1 i2 w0 w1 w2) (kBlk 0 (kSeq (C30 u) u (8 :: 9 :: (rl 11 45 [])) A22v4 (finish A22))))) (by kernel_rfl) (by
 simp only [F391,ob_bif,ob_ob,ob_none,ob_some,nl391v1,t391v1,g391v2])
def O391:Ora:=mkO (qc (ag (tc cS (tc cS (tc ci (tc ci (tc ci (t1 cS))))))) (q1 (av (cL kA)))) (fun x=>F391 u x.1.1 x.1.2.1 x.1.2.2.1 x.1.2.2.2.1 x.1.2.2.2.2.1 x.1.2.2.2.2.2 x.2.1 x.2.2) fun t=>[.v (ro kA t.1 t.2)]
theorem d391:DO (O391 u) (C30 u) 22 A22:=dO u (fun x=>by exact e391 u x.2.1 x.2.2 x.1.2.2.1 x.1.2.2.2.1 x.1.2.2.2.2.1 x.1.1 x.1.2.1 x.1.2.2.2.2.2)
def C31:Oracle:=(C30 u).add 22 (fun _=>true) (O391 u)
def F392 (u:Nat) (n:Nat) (g:FF):Option FF:=sortIT n g
def C32:Oracle:=(C31 u).addT 44 (fun r n g rest=>bif r.beq kD&&rest.isEmpty then F392 u n g else none)
def A46v1:AC:=(.seq (.block 1
 (.seq (.region 4 [o1 14 (.indexAddr 75 3 1 (tm 10) (tm 12)),o1 15 (lo 3 14),o1 7 (sg 15)] 0 none) []
  (.region 5 [mv 16 4,mv 17 7,o1 18 (.mm false [(tm 16),(tm 17)] [3,3]),mv 19 5,mv 20 7,o1 21 (.mm true [(tm 19),(tm 20)] [3,3]),o1 4 (sg 18),o1 5 (sg 21)] 0 none))) []
 (.region 6 [o1 22 (bk .add 3 12 1),mv 12 22] 0 none))
def A46v2:AC:=(.seq (.region 3 [o1 13 (bt .lss 3 12 11)] 0 none) []
 (.seq (.cond (tm 13)
 .skip
 (.exit 0 (rl 0 4 (rl 6 19 [])))) []
 A46v1))
def A46v3:AC:=(.seq (.region 7 [mv 23 4,mv 24 5,o1 4 (sg 23),o1 5 (sg 24)] 0 none) []
 (.ret (rl 0 4 (rl 6 19 []))))
def A46:AF:=⟨25,[.tmp 4,.tmp 5],
 (.seq (.region 0 [o1 4 (sk 0),o1 5 (sk 0)] 0 none) []
 (.seq (.region 1 [mv 8 0,mv 9 0,o1 4 (sg 8),o1 5 (sg 9)] 0 none) []
 (.seq (.seq (.region 2 [mv 10 1,o1 11 (.len 75 false (tm 10)),o1 12 (.move (ic 0))] 0 none) []
 (.block 0
 (.loop [] (rl 0 4 (rl 6 4 (rl 13 12 [])))
  A46v2))) (7 :: (rl 10 13 []))
 A46v3)))⟩
def N72v1:St→Option St:=nN 0 (rl 0 4 (rl 6 4 (rl 13 12 [])))
def s72v0:St:=⟨(us 4 (vxi i0 :: vxi i1 :: (us 4 (.x (.c (ro kD n0 f0)) :: vxi i2 :: vxi i3 :: (us 12 []))))),[]⟩
def s72v1:St:=⟨(us 4 (vxi i0 :: vxi i1 :: (us 19 []))),[]⟩
def L72v1 {ρ:Type} (u:Nat) (x0:Nat) (x1:FF) (x2:Int):Nat→Int→Int→Int→(Int→Int→Option ρ)→Option ρ
 | 0,_,_,_,_=>none
 | m+1,x3,x4,x5,k0 =>
  (bif (decide (x5<x2)) then (bif (inb x5 x0) then (L72v1 u x0 x1 x2 m (if (x1 x5.toNat 0).int<x3 then (x1 x5.toNat 0).int else x3) (if (x1 x5.toNat 0).int>x4 then (x1 x5.toNat 0).int else x4) (w64 (x5+1)) k0) else none) else (k0 x3 x4))
theorem nl72v1:∀ (m:Nat) (x0 x1 x2:Int) (k0:Int→Int→Option ρ),ob (L72v1 u n0 f0 i0 m x0 x1 x2 k0) ng=L72v1 u n0 f0 i0 m x0 x1 x2 (fun x3 x4=>ob (k0 x3 x4) ng)
 | 0,_,_,_,_=>rfl
 | m+1,x0,x1,x2,k0=>by
  simp only [L72v1,ob_bif,ob_ob,ob_none,nl72v1 m]
theorem q72v1:∀ (m:Nat) (x0 x1 x2:Int),
  loopH (eB A46v2 (C32 u) u) N72v1 m (s72v0 n0 f0 x0 x1 i0 x2) k=L72v1 u n0 f0 i0 m x0 x1 x2 (fun x3 x4=>k (.exit 0) (s72v1 x3 x4))
 | 0,_,_,_=>rfl
 | m+1,x0,x1,x2=>by
  simp only [L72v1,← q72v1 m]
  kernel_rfl
def F72 (x0:Int) (x1:Nat) (x2:FF):Option (Int × Int) :=
 (L72v1 u x1 x2 (Int.ofNat x1) u x0 x0 0
  (fun x3 x4=>(some (x3,x4))))
def s72v2:St:=⟨[vxi i0,.x (.c (ro kD n0 f0)),uu,uu,vxi i0,vxi i0,uu,uu,vxi i0,vxi i0,.x (.c (ro kD n0 f0)),vxi (Int.ofNat n0),vxi 0,uu,uu,uu,uu,uu,uu,uu,uu,uu,uu,uu,uu],[]⟩
theorem t72v1 :
  loopN (eB A46v2 (C32 u) u) N72v1 u (s72v2 n0 f0 i0) k =
  L72v1 u n0 f0 (Int.ofNat n0) u i0 i0 0 (fun x0 x1=>k (.exit 0) (s72v1 x0 x1)) :=
 Eq.trans (loopN_at (by kernel_rfl)) (q72v1 ..)
theorem g72v2 :
  (kBlk 0 (kSeq (C32 u) u (7 :: (rl 10 13 [])) A46v3 (finish A46))) (.exit 0) (s72v1 i0 i1) =
  (some [.v (vi i0),.v (vi i1)]):=by kernel_rfl
theorem e72:evalF (C32 u) u A46 [.v (vi i0),.v (ro kD n0 f0)]=ob (F72 u i0 n0 f0) fun t=>some [.v (vi t.1),.v (vi t.2)]:=Eq.trans (b:=(loopN (eB A46v2 (C32 u) u) N72v1 u (s72v2 n0 f0 i0) (kBlk 0 (kSeq (C32 u) u (7 :: (rl 10 13 [])) A46v3 (finish A46))))) (by kernel_rfl) (by
 simp only [F72,ob_bif,ob_ob,ob_none,ob_some,nl72v1,t72v1,g72v2])
def O72:Ora:=mkO (qc (av ci) (q1 (av (cL kD)))) (fun x=>F72 u x.1 x.2.1 x.2.2) fun t=>[.v (vi t.1),.v (vi t.2)]
theorem d72:DO (O72 u) (C32 u) 46 A46:=dO u (fun x=>by exact e72 u x.2.1 x.2.2 x.1)
def C33:Oracle:=(C32 u).add 46 (fun _=>true) (O72 u)
def A32v1:AC:=(.seq (.block 1
 (.seq (.region 6 [o1 15 (.indexAddr 22 34 2 (tm 11) (tm 13)),o1 16 (ln 34 2 15),o1 6 (.alloc 0 34 [vci 0,vci 0]),o0 (.store 34 2 (tm 6) (tm 16))] 1 none) []
  (.region 7 [mv 17 3,o1 18 (fa 34 6 0 0),o1 19 (lo 3 18),o1 20 (.buildSlice 0 75 3 kD 1 [vci 0] [(0,(tm 19))]),o1 21 (.append 1 75 3 kD 8 (tm 17) (tm 20)),mv 22 4,o1 23 (fa 34 6 1 1),o1 24 (lo 3 23),o1 25 (.buildSlice 2 75 3 kD 1 [vci 0] [(0,(tm 24))]),o1 26 (.append 3 75 3 kD 8 (tm 22) (tm 25)),o1 3 (sg 21),o1 4 (sg 26)] 4 (some [[],[],[1],[1,2],(rl 0 4 []),[],[],[6],[6,7],(rl 0 9 []),(rl 0 10 []),(rl 0 11 [])])))) []
 (.region 8 [o1 27 (bk .add 3 13 1),mv 13 27] 0 none))
def A32v2:AC:=(.seq (.region 5 [o1 14 (bt .lss 3 13 12)] 0 none) []
 (.seq (.cond (tm 14)
 .skip
 (.exit 0 (0 :: 1 :: (rl 5 48 [])))) []
 A32v1))
def A32v3:AC:=(.seq (.region 9 [mv 29 3,o1 30 (.indexAddr 75 3 1 (tm 29) (ic 0)),o1 31 (lo 3 30),mv 32 3,o1 33 (cs 46 [31,32] [3,75]),mv 28 33,o1 34 (.extract (tm 28) 0),o1 35 (.extract (tm 28) 1),o1 36 (fa 65 2 0 0),o1 37 (fa 34 36 0 0),o0 (.store 3 1 (tm 37) (tm 34)),o1 38 (fa 65 2 1 2),o1 39 (fa 34 38 0 0),o0 (.store 3 1 (tm 39) (tm 35))] 0 none) []
 (.seq (.region 10 [mv 41 4,o1 42 (.indexAddr 75 3 1 (tm 41) (ic 0)),o1 43 (lo 3 42),mv 44 4,o1 45 (cs 46 [43,44] [3,75]),mv 40 45,o1 46 (.extract (tm 40) 0),o1 47 (.extract (tm 40) 1),o1 48 (fa 65 2 0 0),o1 49 (fa 34 48 1 1),o0 (.store 3 1 (tm 49) (tm 46)),o1 50 (fa 65 2 1 2),o1 51 (fa 34 50 1 1),o0 (.store 3 1 (tm 51) (tm 47))] 0 none) []
 (.seq (.region 11 [o1 52 (ln 65 4 2),o0 (.store 65 4 (tm 2) (tm 52))] 0 none) []
 (.ret (0 :: 1 :: (rl 3 50 []))))))
def A32v4:AC:=(.seq (.region 3 [o1 3 (.assign (.const (.slice none 0 0))),o1 4 (.assign (.const (.slice none 0 0)))] 0 none) []
 (.seq (.seq (.region 4 [mv 11 0,o1 12 (.len 22 false (tm 11)),o1 13 (.move (ic 0))] 0 none) []
 (.block 0
 (.loop [.slot 3 kD,.slot 4 kD] (0 :: 1 :: (rl 5 6 (rl 14 39 [])))
  A32v2))) (6 :: (rl 11 17 []))
 A32v3))
def A32:AF:=⟨53,[.cell 2 65 (some 4)],
 (.seq (.region 0 [o1 2 (.alloc 0 65 [vci 0,vci 0,vci 0,vci 0])] 1 none) []
 (.seq (.seq (.region 1 [mv 7 0,o1 8 (.len 22 false (tm 7)),o1 9 (bk .eql 3 8 0)] 0 none) []
 (.cond (tm 9)
 (.seq (.region 2 [o1 10 (ln 65 4 2),o0 (.store 65 4 (tm 2) (tm 10))] 0 none) []
  (.ret (0 :: 1 :: (rl 3 50 []))))
 .skip)) (rl 7 4 [])
 A32v4))⟩
def N46v1:St→Option St:=nN 3 (0 :: 1 :: (rl 5 6 (rl 14 39 [])))
def s46v0:St:=⟨(.u :: .u :: .x (.ptr 0 0) :: .x (.own 1 0 n0) :: .x (.own 2 0 n0) :: (us 6 (.x (.c (ro kP n1 f0)) :: vxi i0 :: vxi i1 :: (us 39 [])))),[.box [(vci 0),(vci 0),(vci 0),(vci 0)],.arr kD n0 f1,.arr kD n0 f2]⟩
def s46v1:St:=⟨(.u :: .u :: .x (.ptr 0 0) :: .x (.own 1 0 n0) :: .x (.own 2 0 n0) :: (us 48 [])),[.box [(vci 0),(vci 0),(vci 0),(vci 0)],.arr kD n0 f0,.arr kD n0 f1]⟩
def L46v1 {ρ:Type} (u:Nat) (x0:Nat) (x1:FF) (x2:Int):Nat→Nat→Int→FF→FF→(Nat→FF→FF→Option ρ)→Option ρ
 | 0,_,_,_,_,_=>none
 | m+1,x3,x4,x5,x6,k0 =>
  (bif (decide (x4<x2)) then (bif (inb x4 x0) then (bif (Nat.ble (x3+1) 1073741824) then (bif (Nat.ble (x3+1) 1073741824) then (L46v1 u x0 x1 x2 m (x3+1) (w64 (x4+1)) (joinF x3 x5 (rowsF 1 [(.i .i64 (x1 x4.toNat 0).int)])) (joinF x3 x6 (rowsF 1 [(.i .i64 (x1 x4.toNat 1).int)])) k0) else none) else none) else none) else (k0 x3 x5 x6))
theorem nl46v1:∀ (m:Nat) (x0:Nat) (x1:Int) (x2 x3:FF) (k0:Nat→FF→FF→Option ρ),ob (L46v1 u n0 f0 i0 m x0 x1 x2 x3 k0) ng=L46v1 u n0 f0 i0 m x0 x1 x2 x3 (fun x4 x5 x6=>ob (k0 x4 x5 x6) ng)
 | 0,_,_,_,_,_=>rfl
 | m+1,x0,x1,x2,x3,k0=>by
  simp only [L46v1,ob_bif,ob_ob,ob_none,nl46v1 m]
theorem q46v1:∀ (m:Nat) (x0:Nat) (x1:Int) (x2 x3:FF),
  loopH (eB A32v2 (C33 u) u) N46v1 m (s46v0 x0 n0 f0 x2 x3 i0 x1) k=L46v1 u n0 f0 i0 m x0 x1 x2 x3 (fun x4 x5 x6=>k (.exit 0) (s46v1 x4 x5 x6))
 | 0,_,_,_,_=>rfl
 | m+1,x0,x1,x2,x3=>by
  simp only [L46v1,← q46v1 m]
  kernel_rfl
def F46 (x0:Nat) (x1:FF):Option (Int × Int × Int × Int) :=
 (bif ((Int.ofNat x0)==0) then (some (0,0,0,0)) else (L46v1 u x0 x1 (Int.ofNat x0) u 0 0 (fun _ _=>.any) (fun _ _=>.any)
  (fun x2 x3 x4=>(bif (inb 0 x2) then (ob (F72 u (x3 0 0).int x2 x3) fun x5=>(bif (inb 0 x2) then (ob (F72 u (x4 0 0).int x2 x4) fun x6=>(some (x5.1,x6.1,x5.2,x6.2))) else none)) else none))))
def s46v2:St:=⟨(.x (.c (ro kP n0 f0)) :: uu :: .x (.ptr 0 0) :: .x (.own 1 0 0) :: .x (.own 2 0 0) :: uu :: uu :: (us 4 [.x (.c (ro kP n0 f0)),vxi (Int.ofNat n0),vxi 0,uu,uu,uu,uu,uu,uu,uu,uu,uu,uu,uu,uu,uu,uu,uu,uu,uu,uu,uu,uu,uu,uu,uu,uu,uu,uu,uu,uu,uu,uu,uu,uu,uu,uu,uu,uu,uu,uu,uu])),[.box [(vci 0),(vci 0),(vci 0),(vci 0)],.arr kD 0 nilF,.arr kD 0 nilF]⟩
theorem t46v1 :
  loopN (eB A32v2 (C33 u) u) N46v1 u (s46v2 n0 f0) k =
  L46v1 u n0 f0 (Int.ofNat n0) u 0 0 nilF nilF (fun x0 x1 x2=>k (.exit 0) (s46v1 x0 x1 x2)) :=
 Eq.trans (loopN_at (by kernel_rfl)) (q46v1 ..)
theorem g46v2 :
  (kBlk 0 (kSeq (C33 u) u (6 :: (rl 11 17 [])) A32v3 (finish A32))) (.exit 0) (s46v1 n0 f0 f1) =
  (bif (inb 0 n0) then (ob (F72 u (f0 0 0).int n0 f0) fun x0=>(bif (inb 0 n0) then (ob (F72 u (f1 0 0).int n0 f1) fun x1=>(some [.agg [(vi x0.1),(vi x1.1),(vi x0.2),(vi x1.2)]])) else none)) else none):=by kernel_rfl
theorem e46:evalF (C33 u) u A32 [.v (ro kP n0 f0)]=ob (F46 u n0 f0) fun t=>some [.agg [(vi t.1),(vi t.2.1),(vi t.2.2.1),(vi t.2.2.2)]]:=Eq.trans (b:=(bif ((Int.ofNat n0)==0) then (some [.agg [(vi 0),(vi 0),(vi 0),(vi 0)]]) else (loopN (eB A32v2 (C33 u) u) N46v1 u (s46v2 n0 f0) (kBlk 0 (kSeq (C33 u) u (6 :: (rl 11 17 [])) A32v3 (finish A32)))))) (by kernel_rfl) (by
 simp only [F46,ob_bif,ob_ob,ob_none,ob_some,nl46v1,t46v1,g46v2])
def O46:Ora:=mkO (q1 (av (cL kP))) (fun x=>F46 u x.1 x.2) fun t=>[.agg [(vi t.1),(vi t.2.1),(vi t.2.2.1),(vi t.2.2.2)]]
theorem d46:DO (O46 u) (C33 u) 32 A32:=dO u (fun x=>by exact e46 u x.1 x.2)
def C34:Oracle:=(C33 u).add 32 (fun _=>true) (O46 u)
def A18:AF:=⟨6,[.cell 2 65 (some 4)],
 (.seq (.region 0 [o1 1 (bx 0 25 0),o1 2 (.alloc 1 65 [vci 0,vci 0,vci 0,vci 0])] 2 none) []
 (.seq (.region 1 [o1 3 (fa 25 1 0 0),o1 4 (lo 22 3),o1 5 (cs 32 [4] [22]),o0 (.store 65 4 (tm 2) (tm 5))] 0 none) []
 (.ret [0,1,3,4,5])))⟩
def F20 (x0:Nat) (x1:FF) (x2:Nat) (x3:FF):Option (Int × Int × Int × Int) :=
 (ob (F46 u x0 x1) fun x4=>(some (x4.1,x4.2.1,x4.2.2.1,x4.2.2.2)))
theorem e20:evalF (C34 u) u A18 [.agg [(ro kP n0 f0),(ro kF n1 f1)]]=ob (F20 u n0 f0 n1 f1) fun t=>some [.agg [(vi t.1),(vi t.2.1),(vi t.2.2.1),(vi t.2.2.2)]]:=by
 simp only [F20,ob_bif,ob_ob,ob_none,ob_some]
 kernel_rfl
def O20:Ora:=mkO (q1 (ag (tc (cL kP) (t1 (cL kF))))) (fun x=>F20 u x.1.1 x.1.2 x.2.1 x.2.2) fun t=>[.agg [(vi t.1),(vi t.2.1),(vi t.2.2.1),(vi t.2.2.2)]]
theorem d20:DO (O20 u) (C34 u) 18 A18:=dO u (fun x=>by exact e20 u x.1.1 x.2.1 x.1.2 x.2.2)
def C35:Oracle:=(C34 u).add 18 (fun _=>true) (O20 u)
def A7v1:AC:=(.region 7 [o1 33 (bk .add 3 27 1),mv 27 33] 0 none)
def A7v2:AC:=(.seq (.block 1
 (.seq (.region 4 [o1 29 (.index 67 3 4 1 none (tm 26) (tm 27)),o1 8 (sg 29)] 0 none) []
  (.seq (.region 5 [mv 30 8,o1 31 (.call 19 [(tm 30),(ic (-1099511627776)),(ic 1099511627776)] [3,3,3] .snap),o1 32 (.unOp .not 4 (tm 31))] 0 none) []
  (.cond (tm 32)
  (.seq (.region 6 [o1 4 (sk 0),o1 5 (sk 0)] 0 none) []
   (.ghost [0,1] (.ret (rl 0 4 (rl 6 49 [])))))
  .skip)))) (4 :: 5 :: 8 :: (rl 29 4 []))
 A7v1)
def A7v3:AC:=(.seq (.region 3 [o1 28 (bk .lss 3 27 4)] 0 none) []
 (.seq (.cond (tm 28)
 .skip
 (.ghost [0] (.exit 0 (0 :: (rl 2 4 (rl 7 48 [])))))) []
 A7v2))
def A7v4:AC:=(.seq (.region 11 [mv 53 9,mv 54 10,o1 4 (sg 53),o1 5 (sg 54)] 0 none) []
 (.ghost [0,1] (.ret (rl 0 4 (rl 6 49 [])))))
def A7v5:AC:=(.seq (.region 8 [o1 34 (fa 65 6 1 2),o1 35 (fa 34 34 0 0),o1 36 (lo 3 35),o1 37 (fa 65 6 0 0),o1 38 (fa 34 37 0 0),o1 39 (lo 3 38),o1 40 (bt .sub 3 36 39),o1 41 (fa 65 6 1 2),o1 42 (fa 34 41 1 1),o1 43 (lo 3 42),o1 44 (fa 65 6 0 0),o1 45 (fa 34 44 1 1),o1 46 (lo 3 45),o1 47 (bt .sub 3 43 46),o1 9 (sg 40),o1 10 (sg 47)] 0 (some [[],[0],[0,1],[],[3],[3,4],(rl 0 6 []),[],[7],[7,8],[],[10],[10,11],(rl 7 6 []),(rl 0 7 []),(rl 0 15 [])])) []
 (.seq (.seq (.region 9 [mv 48 1,o1 49 (bk .rem 3 48 2),o1 50 (bk .neq 3 49 0)] 0 none) []
 (.cond (tm 50)
 (.seq (.region 10 [mv 51 10,mv 52 9,o1 4 (sg 51),o1 5 (sg 52)] 0 none) []
  (.ghost [0,1] (.ret (rl 0 4 (rl 6 49 [])))))
 .skip)) (4 :: 5 :: (rl 48 5 []))
 A7v4))
def A7:AF:=⟨55,[.tmp 4,.tmp 5],
 (.seq (.region 0 [o1 2 (bx 0 31 0),o1 4 (sk 0),o1 5 (sk 0)] 1 none) []
 (.seq (.region 1 [o1 11 (fa 31 2 6 6),o1 12 (ln 25 2 11),o1 13 (cs 18 [12] [25]),o1 6 (.alloc 0 65 [vci 0,vci 0,vci 0,vci 0]),o0 (.store 65 4 (tm 6) (tm 13))] 1 none) []
 (.seq (.seq (.region 2 [o1 14 (fa 65 6 0 0),o1 15 (fa 34 14 0 0),o1 16 (lo 3 15),o1 17 (fa 65 6 0 0),o1 18 (fa 34 17 1 1),o1 19 (lo 3 18),o1 20 (fa 65 6 1 2),o1 21 (fa 34 20 0 0),o1 22 (lo 3 21),o1 23 (fa 65 6 1 2),o1 24 (fa 34 23 1 1),o1 25 (lo 3 24),o1 26 (.build 67 [vci 0,vci 0,vci 0,vci 0] [] 1 [(0,(tm 16)),(1,(tm 19)),(2,(tm 22)),(3,(tm 25))]),o1 27 (.move (ic 0))] 0 none) []
 (.block 0
 (.ghost [0] (.loop [] (0 :: (rl 2 4 (rl 7 19 (rl 28 27 []))))
  A7v3)))) (4 :: 5 :: 8 :: (rl 14 20 []))
 A7v5)))⟩
def N393v1:St→Option St:=nN 2 (0 :: (rl 2 4 (rl 7 19 (rl 28 27 []))))
def s393v0:St:=⟨(.u :: vxi i0 :: (us 4 (.x (.ptr 1 0) :: (us 19 (.agg [(vci i1),(vci i2),(vci i3),(vci i4)] :: vxi i5 :: (us 27 [])))))),[.dead,.box [(vci i1),(vci i2),(vci i3),(vci i4)]]⟩
def s393v1:St:=⟨(us 4 (vxi 0 :: vxi 0 :: (us 49 []))),[.dead,.dead]⟩
def s393v2:St:=⟨(.u :: vxi i0 :: (us 4 (.x (.ptr 1 0) :: (us 48 [])))),[.dead,.box [(vci i1),(vci i2),(vci i3),(vci i4)]]⟩
def L393v1 {ρ:Type} (u:Nat) (x0 x1 x2 x3 x4:Int):Nat→Int→(Option ρ)→(Option ρ)→Option ρ
 | 0,_,_,_=>none
 | m+1,x5,k0,k1 =>
  (bif (decide (x5<4)) then (bif (x5==0) then (ob (F389 u x1 (-1099511627776) 1099511627776) fun x6=>(bif (!x6) then k0 else (L393v1 u x0 x1 x2 x3 x4 m (w64 (x5+1)) k0 k1))) else (bif (x5==1) then (ob (F389 u x2 (-1099511627776) 1099511627776) fun x7=>(bif (!x7) then k0 else (L393v1 u x0 x1 x2 x3 x4 m (w64 (x5+1)) k0 k1))) else (bif (x5==2) then (ob (F389 u x3 (-1099511627776) 1099511627776) fun x8=>(bif (!x8) then k0 else (L393v1 u x0 x1 x2 x3 x4 m (w64 (x5+1)) k0 k1))) else (bif (x5==3) then (ob (F389 u x4 (-1099511627776) 1099511627776) fun x9=>(bif (!x9) then k0 else (L393v1 u x0 x1 x2 x3 x4 m (w64 (x5+1)) k0 k1))) else none)))) else k1)
theorem nl393v1:∀ (m:Nat) (x0:Int) (k0:Option ρ) (k1:Option ρ),ob (L393v1 u i0 i1 i2 i3 i4 m x0 k0 k1) ng=L393v1 u i0 i1 i2 i3 i4 m x0 (ob k0 ng) (ob k1 ng)
 | 0,_,_,_=>rfl
 | m+1,x0,k0,k1=>by
  simp only [L393v1,ob_bif,ob_ob,ob_none,nl393v1 m]
theorem q393v1:∀ (m:Nat) (x0:Int),
  loopH (eB A7v3 (C35 u) u) N393v1 m (s393v0 i0 i1 i2 i3 i4 x0) k=L393v1 u i0 i1 i2 i3 i4 m x0 (k .ret s393v1) (k (.exit 0) (s393v2 i0 i1 i2 i3 i4))
 | 0,_=>rfl
 | m+1,x0=>by
  simp only [L393v1,← q393v1 m]
  kernel_rfl
def F393 (x0:Nat→CV) (x1:Int):Option (Int × Int) :=
 (ob (F20 u (x0 6).len (x0 6).el (x0 7).len (x0 7).el) fun x2=>(L393v1 u x1 x2.1 x2.2.1 x2.2.2.1 x2.2.2.2 u 0
  (some (0,0))
  (bif ((Int.tmod x1 2) != 0) then (some ((w64 (x2.2.2.2-x2.2.1)),(w64 (x2.2.2.1-x2.1)))) else (some ((w64 (x2.2.2.1-x2.1)),(w64 (x2.2.2.2-x2.2.1)))))))
def s393v3 (x0:Int × Int × Int × Int):St:=⟨[.agg (pjc kR0 g0),vxi i0,.x (.c (.rp kA (listF [(.s (g0 0).str),(vi (g0 1).int),(vi (g0 2).int),(.s (g0 3).str),(.s (g0 4).str),(vi (g0 5).int),(ro kP (g0 6).len (g0 6).el),(ro kF (g0 7).len (g0 7).el),(.s (g0 8).str),(vi (g0 9).int),(vi (g0 10).int),(vi (g0 11).int),(vi (g0 12).int),(vi (g0 13).int),(vi (g0 14).int),(vi (g0 15).int),(vi (g0 16).int),(vi (g0 17).int)]))),uu,vxi 0,vxi 0,.x (.ptr 1 0),uu,uu,uu,uu,.x (.c (.rp (.pr (.sl kP) (.pr (.sl kF) (.pr .str (.pr (.int .i64) (.pr (.int .i64) (.pr (.int .i64) (.pr (.int .i64) (.pr (.int .i64) kE)))))))) (listF [(ro kP (g0 6).len (g0 6).el),(ro kF (g0 7).len (g0 7).el),(.s (g0 8).str),(vi (g0 9).int),(vi (g0 10).int),(vi (g0 11).int),(vi (g0 12).int),(vi (g0 13).int),(vi (g0 14).int),(vi (g0 15).int),(vi (g0 16).int),(vi (g0 17).int)]))),.agg [(.c (ro kP (g0 6).len (g0 6).el)),(.c (ro kF (g0 7).len (g0 7).el))],.agg [(vci x0.1),(vci x0.2.1),(vci x0.2.2.1),(vci x0.2.2.2)],.x (.ptr 1 0),.x (.ptr 1 0),vxi x0.1,.x (.ptr 1 0),.x (.ptr 1 1),vxi x0.2.1,.x (.ptr 1 2),.x (.ptr 1 2),vxi x0.2.2.1,.x (.ptr 1 2),.x (.ptr 1 3),vxi x0.2.2.2,.agg [(vci x0.1),(vci x0.2.1),(vci x0.2.2.1),(vci x0.2.2.2)],vxi 0,uu,uu,uu,uu,uu,uu,uu,uu,uu,uu,uu,uu,uu,uu,uu,uu,uu,uu,uu,uu,uu,uu,uu,uu,uu,uu,uu],[.dead,.box [(vci x0.1),(vci x0.2.1),(vci x0.2.2.1),(vci x0.2.2.2)]]⟩
theorem t393v1 (x0:Int × Int × Int × Int) :
  loopN (eB A7v3 (C35 u) u) N393v1 u (s393v3 i0 g0 x0) k =
  L393v1 u i0 x0.1 x0.2.1 x0.2.2.1 x0.2.2.2 u 0 (k .ret s393v1) (k (.exit 0) (s393v2 i0 x0.1 x0.2.1 x0.2.2.1 x0.2.2.2)) :=
 Eq.trans (loopN_at (by kernel_rfl)) (q393v1 ..)
theorem g393v2 :
  (kBlk 0 (kSeq (C35 u) u (4 :: 5 :: 8 :: (rl 14 20 [])) A7v5 (finish A7))) .ret s393v1 =
  (some [.v (vi 0),.v (vi 0)]):=by kernel_rfl
theorem g393v3 (x0:Int × Int × Int × Int) :
  (kBlk 0 (kSeq (C35 u) u (4 :: 5 :: 8 :: (rl 14 20 [])) A7v5 (finish A7))) (.exit 0) (s393v2 i0 x0.1 x0.2.1 x0.2.2.1 x0.2.2.2) =
  (bif ((Int.tmod i0 2) != 0) then (some [.v (vi (w64 (x0.2.2.2-x0.2.1))),.v (vi (w64 (x0.2.2.1-x0.1)))]) else (some [.v (vi (w64 (x0.2.2.1-x0.1))),.v (vi (w64 (x0.2.2.2-x0.2.1)))])):=by kernel_rfl
theorem e393:evalF (C35 u) u A7 [.agg (pj kR0 g0),.v (vi i0)]=ob (F393 u g0 i0) fun t=>some [.v (vi t.1),.v (vi t.2)]:=Eq.trans (b:=(ob (F20 u (g0 6).len (g0 6).el (g0 7).len (g0 7).el) fun x0=>(loopN (eB A7v3 (C35 u) u) N393v1 u (s393v3 i0 g0 x0) (kBlk 0 (kSeq (C35 u) u (4 :: 5 :: 8 :: (rl 14 20 [])) A7v5 (finish A7)))))) (by kernel_rfl) (by
 simp only [F393,ob_bif,ob_ob,ob_none,ob_some,nl393v1,t393v1,g393v2,g393v3])
def O393:Ora:=mkO (qc (ar kR0) (q1 (av ci))) (fun x=>F393 u x.1 x.2) fun t=>[.v (vi t.1),.v (vi t.2)]
theorem d393:DO (O393 u) (C35 u) 7 A7:=dO u (fun x=>by exact e393 u x.2 x.1)
def C36:Oracle:=(C35 u).add 7 (fun _=>true) (O393 u)
def A54:AF:=⟨21,[.tmp 2],
 (.seq (.region 0 [o1 1 (bx 0 34 0),o1 2 (sb false)] 1 none) []
 (.seq (.region 1 [o1 3 (fa 34 1 0 0),o1 4 (lo 3 3),o1 5 (bk .lss 3 4 (-1099511627776)),mv 6 5,og 7 (fa 34 1 0 0) 6 false,og 8 (lo 3 7) 6 false,og 9 (bk .gtr 3 8 1099511627776) 6 false,o1 10 (pa 6 9),mv 11 10,og 12 (fa 34 1 1 1) 11 false,og 13 (lo 3 12) 11 false,og 14 (bk .lss 3 13 (-1099511627776)) 11 false,o1 15 (pa 11 14),mv 16 15,og 17 (fa 34 1 1 1) 16 false,og 18 (lo 3 17) 16 false,og 19 (bk .gtr 3 18 1099511627776) 16 false,o1 20 (pa 16 19),o1 2 (sg 20)] 0 none) []
 (.ret (0 :: 1 :: (rl 3 18 [])))))⟩
def F49 (u:Nat) (x0 x1:Int):Option (Bool) :=
 (bif ((decide (x0<(-1099511627776)))==false) then (bif ((decide (x0>1099511627776))==false) then (bif ((decide (x1<(-1099511627776)))==false) then (some (decide (x1>1099511627776))) else (some true)) else (some true)) else (some true))
theorem e49:evalF (C36 u) u A54 [.agg [(vi i0),(vi i1)]]=ob (F49 u i0 i1) fun t=>some [.v (.b t)]:=by
 simp only [F49,ob_bif,ob_ob,ob_none,ob_some]
 kernel_rfl
def O49:Ora:=mkO (q1 (ag (tc ci (t1 ci)))) (fun x=>F49 u x.1 x.2) fun t=>[.v (.b t)]
theorem d49:DO (O49 u) (C36 u) 54 A54:=dO u (fun x=>by exact e49 u x.1 x.2)
def C37:Oracle:=(C36 u).add 54 (fun _=>true) (O49 u)
def A42:AF:=⟨9,[.tmp 2],
 (.seq (.region 0 [o1 1 (bx 0 25 0),o1 2 (.assign (.const (.slice none 0 0)))] 1 none) []
 (.seq (.region 1 [o1 3 (fa 25 1 0 0),o1 4 (lo 22 3),o1 5 (.buildSlice 0 23 22 kF 1 [.c (.ro true kP 0 nilF)] [(0,(tm 4))]),o1 6 (fa 25 1 1 1),o1 7 (lo 23 6),o1 8 (.append 1 23 22 kF 24 (tm 5) (tm 7)),o1 2 (sg 8)] 2 none) []
 (.ret (0 :: 1 :: (rl 3 6 [])))))⟩
def F42 (u:Nat) (x0:Nat) (x1:FF) (x2:Nat) (x3:FF):Option (Nat × FF) :=
 (bif (Nat.ble (1+x2) 1073741824) then (some ((1+x2),(joinF 1 (rowsF 1 [(.ro false (.pr (.int .i64) (.pr (.int .i64) .nil)) x0 x1)]) x3))) else none)
theorem e42:evalF (C37 u) u A42 [.agg [(ro kP n0 f0),(ro kF n1 f1)]]=ob (F42 u n0 f0 n1 f1) fun t=>some [.v (ro kF t.1 t.2)]:=by
 simp only [F42,ob_bif,ob_ob,ob_none,ob_some]
 kernel_rfl
def O42:Ora:=mkO (q1 (ag (tc (cL kP) (t1 (cL kF))))) (fun x=>F42 u x.1.1 x.1.2 x.2.1 x.2.2) fun t=>[.v (ro kF t.1 t.2)]
theorem d42:DO (O42 u) (C37 u) 42 A42:=dO u (fun x=>by exact e42 u x.1.1 x.2.1 x.1.2 x.2.2)
def C38:Oracle:=(C37 u).add 42 (fun _=>true) (O42 u)
def N73cv1:St→Option St:=nN 0 (rl 2 5 (rl 9 10 []))
def s73cv0:St:=⟨(.x (.c (ro kP n0 f0)) :: .x (.c (.fn 54 0 (listF []))) :: (us 5 (vxi i0 :: vxi i1 :: (us 10 [])))),[]⟩
def s73cv1:St:=⟨(us 4 (vxi i0 :: (us 14 []))),[]⟩
def s73cv2:St:=⟨(us 19 []),[]⟩
def L73cv1 {ρ:Type} (u:Nat) (x0:Nat) (x1:FF) (x2:Int):Nat→Int→(Int→Option ρ)→(Option ρ)→Option ρ
 | 0,_,_,_=>none
 | m+1,x3,k0,k1 =>
  (bif (decide (x3<x2)) then (bif (inb x3 x0) then (ob (F49 u (x1 x3.toNat 0).int (x1 x3.toNat 1).int) fun x4=>(bif x4 then (k0 x3) else (L73cv1 u x0 x1 x2 m (w64 (x3+1)) k0 k1))) else none) else k1)
theorem nl73cv1:∀ (m:Nat) (x0:Int) (k0:Int→Option ρ) (k1:Option ρ),ob (L73cv1 u n0 f0 i0 m x0 k0 k1) ng=L73cv1 u n0 f0 i0 m x0 (fun x1=>ob (k0 x1) ng) (ob k1 ng)
 | 0,_,_,_=>rfl
 | m+1,x0,k0,k1=>by
  simp only [L73cv1,ob_bif,ob_ob,ob_none,nl73cv1 m]
theorem q73cv1:∀ (m:Nat) (x0:Int),
  loopH (eB A75v3 (C38 u) u) N73cv1 m (s73cv0 n0 f0 i0 x0) k=L73cv1 u n0 f0 i0 m x0 (fun x1=>k .ret (s73cv1 x1)) (k (.exit 0) s73cv2)
 | 0,_=>rfl
 | m+1,x0=>by
  simp only [L73cv1,← q73cv1 m]
  kernel_rfl
def F73c (x0:Nat) (x1:FF):Option (Int) :=
 (L73cv1 u x0 x1 (Int.ofNat x0) u 0
  (fun x2=>(some x2))
  (some (-1)))
def s73cv3:St:=⟨[.x (.c (ro kP n0 f0)),.x (.c (.fn 54 0 (listF []))),uu,uu,vxi 0,uu,.x (.c (ro kP n0 f0)),vxi (Int.ofNat n0),vxi 0,uu,uu,uu,uu,uu,uu,uu,uu,uu,uu],[]⟩
theorem t73cv1 :
  loopN (eB A75v3 (C38 u) u) N73cv1 u (s73cv3 n0 f0) k =
  L73cv1 u n0 f0 (Int.ofNat n0) u 0 (fun x0=>k .ret (s73cv1 x0)) (k (.exit 0) s73cv2) :=
 Eq.trans (loopN_at (by kernel_rfl)) (q73cv1 ..)
theorem g73cv2 :
  (kBlk 0 (kSeq (C38 u) u (rl 4 15 []) A75v4 (finish A75))) .ret (s73cv1 i0) =
  (some [.v (vi i0)]):=by kernel_rfl
theorem g73cv3 :
  (kBlk 0 (kSeq (C38 u) u (rl 4 15 []) A75v4 (finish A75))) (.exit 0) s73cv2 =
  (some [.v (vi (-1))]):=by kernel_rfl
theorem e73c:evalF (C38 u) u A75 [.v (ro kP n0 f0),.v (.fn 54 0 (listF []))]=ob (F73c u n0 f0) fun t=>some [.v (vi t)]:=Eq.trans (b:=(loopN (eB A75v3 (C38 u) u) N73cv1 u (s73cv3 n0 f0) (kBlk 0 (kSeq (C38 u) u (rl 4 15 []) A75v4 (finish A75))))) (by kernel_rfl) (by
 simp only [F73c,ob_bif,ob_ob,ob_none,ob_some,nl73cv1,t73cv1,g73cv2,g73cv3])
def O73c:Ora:=mkO (qc (av (cL kP)) (q1 (av (cF 54 0 t0)))) (fun x=>F73c u x.1.1 x.1.2) fun t=>[.v (vi t)]
theorem d73c:DO (O73c u) (C38 u) 75 A75:=dO u (fun x=>by exact e73c u x.1.1 x.1.2)
def C39:Oracle:=(C38 u).add 75 (fun l=>isFn 54 l 1) (O73c u)
def F50c (x0:Nat) (x1:FF):Option (Bool) :=
 (ob (F73c u x0 x1) fun x2=>(some (decide (x2≥0))))
theorem e50c:evalF (C39 u) u A55 [.v (ro kP n0 f0),.v (.fn 54 0 (listF []))]=ob (F50c u n0 f0) fun t=>some [.v (.b t)]:=by
 simp only [F50c,ob_bif,ob_ob,ob_none,ob_some]
 kernel_rfl
def O50c:Ora:=mkO (qc (av (cL kP)) (q1 (av (cF 54 0 t0)))) (fun x=>F50c u x.1.1 x.1.2) fun t=>[.v (.b t)]
theorem d50c:DO (O50c u) (C39 u) 55 A55:=dO u (fun x=>by exact e50c u x.1.1 x.1.2)
def C40:Oracle:=(C39 u).add 55 (fun l=>isFn 54 l 1) (O50c u)
def A56v1:AC:=(.seq (.block 3
 (.region 9 [o1 23 (fa 34 6 1 1),o1 24 (lo 3 23),o1 25 (.unOp .neg 3 (tm 24)),o1 26 (fa 34 6 0 0),o1 27 (lo 3 26),o1 28 (.build 34 [vci 0,vci 0] [(0,1),(1,1)] 0 [(0,(tm 25)),(1,(tm 27))]),o0 (.store 34 2 (tm 6) (tm 28))] 0 none)) []
 (.region 10 [o1 29 (bk .add 3 21 1),mv 21 29] 0 none))
def A56v2:AC:=(.seq (.region 8 [o1 22 (bt .lss 3 21 20)] 0 none) []
 (.seq (.cond (tm 22)
 .skip
 (.exit 2 (0 :: 2 :: 3 :: 5 :: (rl 10 42 [])))) []
 A56v1))
def A56v3:AC:=(.region 11 [mv 30 4,o1 31 (fa 34 6 0 0),o1 32 (lo 3 31),o1 33 (fa 63 1 1 1),o1 34 (fa 34 33 0 0),o1 35 (lo 3 34),o1 36 (bt .add 3 32 35),o1 37 (fa 34 6 1 1),o1 38 (lo 3 37),o1 39 (fa 63 1 1 1),o1 40 (fa 34 39 1 1),o1 41 (lo 3 40),o1 42 (bt .add 3 38 41),o1 43 (.build 34 [vci 0,vci 0] [(0,1),(1,1)] 0 [(0,(tm 36)),(1,(tm 42))]),o1 44 (.buildSlice 0 22 34 kP 1 [vci 0,vci 0] [(0,(tm 43))]),o1 45 (.append 1 22 34 kP 16 (tm 30) (tm 44)),o1 4 (sg 45)] 2 none)
def A56v4:AC:=(.seq (.seq (.region 7 [o1 19 (fa 63 1 2 3),o1 20 (lo 3 19),o1 21 (.move (ic 0))] 0 none) []
 (.block 2
 (.loop [] (0 :: 2 :: 3 :: 5 :: (rl 10 10 (rl 22 30 [])))
  A56v2))) (rl 19 11 [])
 A56v3)
def A56v5:AC:=(.region 12 [o1 46 (bk .add 3 9 1),mv 9 46] 0 none)
def A56v6:AC:=(.seq (.block 1
 (.seq (.region 4 [o1 11 (.indexAddr 22 34 2 (tm 7) (tm 9)),o1 12 (ln 34 2 11),o1 6 (.alloc 0 34 [vci 0,vci 0]),o0 (.store 34 2 (tm 6) (tm 12))] 1 none) []
  (.seq (.seq (.region 5 [o1 13 (fa 63 1 3 4),o1 14 (lo 4 13)] 0 none) []
  (.cond (tm 14)
  (.region 6 [o1 15 (fa 34 6 0 0),o1 16 (lo 3 15),o1 17 (.unOp .neg 3 (tm 16)),o1 18 (fa 34 6 0 0),o0 (.store 3 1 (tm 18) (tm 17))] 0 none)
  .skip)) (rl 13 6 [])
  A56v4))) (6 :: (rl 11 35 []))
 A56v5)
def A56v7:AC:=(.seq (.region 3 [o1 10 (bt .lss 3 9 8)] 0 none) []
 (.seq (.cond (tm 10)
 .skip
 (.exit 0 (0 :: 2 :: 3 :: (rl 5 47 [])))) []
 A56v6))
def A56v8:AC:=(.seq (.region 15 [mv 51 4,o1 3 (sg 51)] 0 none) []
 (.ret (0 :: 1 :: 2 :: (rl 4 48 []))))
def A56v9:AC:=(.seq (.seq (.region 13 [o1 47 (fa 63 1 3 4),o1 48 (lo 4 47)] 0 none) []
 (.cond (tm 48)
 (.region 14 [mv 49 4,o1 50 (.turn 57 (tm 49) [] [22])] 0 none)
 .skip)) (rl 47 4 [])
 A56v8)
def A56:AF:=⟨52,[.tmp 3],
 (.seq (.region 0 [o1 3 (.assign (.const (.slice none 0 0)))] 0 none) []
 (.seq (.region 1 [o1 4 (.assign (.const (.slice none 0 0)))] 0 none) []
 (.seq (.seq (.region 2 [mv 7 0,o1 8 (.len 22 false (tm 7)),o1 9 (.move (ic 0))] 0 none) []
 (.block 0
 (.loop [.slot 4 kP] (0 :: 2 :: 3 :: 5 :: 6 :: (rl 10 42 []))
  A56v7))) (rl 6 41 [])
 A56v9)))⟩
def N51v2:St→Option St:=nN 2 (0 :: 2 :: 3 :: 5 :: (rl 10 10 (rl 22 30 [])))
def s51v0:St:=⟨(.u :: .x (.c (.rp kB g0)) :: .u :: .u :: .x (.own 0 0 n0) :: .u :: .x (.ptr 1 0) :: .x (.c (ro kP n1 f0)) :: vxi i0 :: vxi i1 :: (us 10 (vxi (g1 3).int :: vxi i2 :: (us 30 [])))),[.arr kP n0 f1,.box [(vci i3),(vci i4)]]⟩
def s51v1:St:=⟨(.u :: .x (.c (.rp kB g0)) :: .u :: .u :: .x (.own 0 0 n0) :: .u :: .x (.ptr 1 0) :: .x (.c (ro kP n1 f0)) :: vxi i0 :: vxi i1 :: (us 42 [])),[.arr kP n0 f1,.box [(vci i2),(vci i3)]]⟩
def L51v2 {ρ:Type} (u:Nat) (x0:Nat→CV) (x1 x2:Nat) (x3:FF) (x4 x5:Int) (x6:Nat→CV) (x7:FF):Nat→Int→Int→Int→(Int→Int→Option ρ)→Option ρ
 | 0,_,_,_,_=>none
 | m+1,x8,x9,xA,k0 =>
  (bif (decide (x8<(x6 3).int)) then (L51v2 u x0 x1 x2 x3 x4 x5 x6 x7 m (w64 (x8+1)) (w64 (0-xA)) x9 k0) else (k0 x9 xA))
theorem nl51v2:∀ (m:Nat) (x0 x1 x2:Int) (k0:Int→Int→Option ρ),ob (L51v2 u g0 n0 n1 f0 i0 i1 g1 f1 m x0 x1 x2 k0) ng=L51v2 u g0 n0 n1 f0 i0 i1 g1 f1 m x0 x1 x2 (fun x3 x4=>ob (k0 x3 x4) ng)
 | 0,_,_,_,_=>rfl
 | m+1,x0,x1,x2,k0=>by
  simp only [L51v2,ob_bif,ob_ob,ob_none,nl51v2 m]
theorem q51v2:∀ (m:Nat) (x0 x1 x2:Int),
  loopH (eB A56v2 (C40 u) u) N51v2 m (s51v0 n0 n1 f0 f1 i0 i1 x0 x1 x2 g0 g1) k=L51v2 u g0 n0 n1 f0 i0 i1 g1 f1 m x0 x1 x2 (fun x3 x4=>k (.exit 2) (s51v1 n0 n1 f0 f1 i0 i1 x3 x4 g0))
 | 0,_,_,_=>rfl
 | m+1,x0,x1,x2=>by
  simp only [L51v2,← q51v2 m]
  kernel_rfl
def N51v3:St→Option St:=nN 1 (0 :: 2 :: 3 :: 5 :: 6 :: (rl 10 42 []))
def s51v2:St:=⟨(.u :: .x (.c (.rp kB g0)) :: .u :: .u :: .x (.own 0 0 n0) :: .u :: .u :: .x (.c (ro kP n1 f0)) :: vxi i0 :: vxi i1 :: (us 42 [])),[.arr kP n0 f1]⟩
def s51v3:St:=⟨(.u :: .x (.c (.rp kB g0)) :: .u :: .u :: .x (.own 0 0 n0) :: (us 47 [])),[.arr kP n0 f0]⟩
def L51v3 {ρ:Type} (u:Nat) (x0:Nat→CV) (x1:Nat) (x2:FF) (x3:Int):Nat→Nat→Int→FF→(Nat→FF→Option ρ)→Option ρ
 | 0,_,_,_,_=>none
 | m+1,x4,x5,x6,k0 =>
  (bif (decide (x5<x3)) then (bif (inb x5 x1) then (bif (x0 4).bool then (L51v2 u x0 x4 x1 x2 x3 x5 x0 x6 u 0 (w64 (0-(x2 x5.toNat 0).int)) (x2 x5.toNat 1).int
  (fun x7 x8=>(bif (Nat.ble (x4+1) 1073741824) then (L51v3 u x0 x1 x2 x3 m (x4+1) (w64 (x5+1)) (joinF x4 x6 (rowsF 2 [(.i .i64 (w64 (x7+(x0 1).int))),(.i .i64 (w64 (x8+(x0 2).int)))])) k0) else none))) else (L51v2 u x0 x4 x1 x2 x3 x5 x0 x6 u 0 (x2 x5.toNat 0).int (x2 x5.toNat 1).int
  (fun x9 xA=>(bif (Nat.ble (x4+1) 1073741824) then (L51v3 u x0 x1 x2 x3 m (x4+1) (w64 (x5+1)) (joinF x4 x6 (rowsF 2 [(.i .i64 (w64 (x9+(x0 1).int))),(.i .i64 (w64 (xA+(x0 2).int)))])) k0) else none)))) else none) else (k0 x4 x6))
theorem nl51v3:∀ (m:Nat) (x0:Nat) (x1:Int) (x2:FF) (k0:Nat→FF→Option ρ),ob (L51v3 u g0 n0 f0 i0 m x0 x1 x2 k0) ng=L51v3 u g0 n0 f0 i0 m x0 x1 x2 (fun x3 x4=>ob (k0 x3 x4) ng)
 | 0,_,_,_,_=>rfl
 | m+1,x0,x1,x2,k0=>by
  simp only [L51v3,ob_bif,ob_ob,ob_none,nl51v3 m,nl51v2]
def s51v4:St:=⟨(.u :: .x (.c (.rp kB g0)) :: .u :: .u :: .x (.own 0 0 n0) :: .u :: .x (.ptr 1 0) :: .x (.c (ro kP n1 f0)) :: vxi i0 :: vxi i1 :: vxb true :: .x (.c (.rp kP (f0 i1.toNat))) :: .agg [(vci (f0 i1.toNat 0).int),(vci (f0 i1.toNat 1).int)] :: (us 6 (.x (.c (.rp (.pr (.int .i64) (.pr .bool .nil)) (fun j=>g0 (3+j)))) :: vxi (g0 3).int :: vxi 0 :: (us 30 [])))),[.arr kP n0 f1,.box [(vci (w64 (0-(f0 i1.toNat 0).int))),(vci (f0 i1.toNat 1).int)]]⟩
def s51v5:St:=⟨(.u :: .x (.c (.rp kB g0)) :: .u :: .u :: .x (.own 0 0 n0) :: .u :: .x (.ptr 1 0) :: .x (.c (ro kP n1 f0)) :: vxi i0 :: vxi i1 :: vxb true :: .x (.c (.rp kP (f0 i1.toNat))) :: .agg [(vci (f0 i1.toNat 0).int),(vci (f0 i1.toNat 1).int)] :: (us 6 (.x (.c (.rp (.pr (.int .i64) (.pr .bool .nil)) (fun j=>g0 (3+j)))) :: vxi (g0 3).int :: vxi 0 :: (us 30 [])))),[.arr kP n0 f1,.box [(vci (f0 i1.toNat 0).int),(vci (f0 i1.toNat 1).int)]]⟩
theorem r51v3 :
  loopH (eB A56v7 (C40 u) u) N51v3 (m+1) (s51v2 n1 n0 f0 f1 i0 i1 g0) k =
  (bif (decide (i1<i0)) then (bif (inb i1 n0) then (bif (g0 4).bool then (loopN (eB A56v2 (C40 u) u) N51v2 u (s51v4 n1 n0 f0 f1 i0 i1 g0) (kBlk 2 (kSeq (C40 u) u (rl 19 11 []) A56v3 (kBlk 1 (kSeq (C40 u) u (6 :: (rl 11 35 [])) A56v5 (kLoop (eB A56v7 (C40 u) u) N51v3 m k)))))) else (loopN (eB A56v2 (C40 u) u) N51v2 u (s51v5 n1 n0 f0 f1 i0 i1 g0) (kBlk 2 (kSeq (C40 u) u (rl 19 11 []) A56v3 (kBlk 1 (kSeq (C40 u) u (6 :: (rl 11 35 [])) A56v5 (kLoop (eB A56v7 (C40 u) u) N51v3 m k))))))) else none) else (k (.exit 0) (s51v3 n1 f1 g0))):=by kernel_rfl
theorem t51v1 :
  loopN (eB A56v2 (C40 u) u) N51v2 u (s51v4 n0 n1 f0 f1 i0 i1 g0) k =
  L51v2 u g0 n0 n1 f0 i0 i1 g0 f1 u 0 (w64 (0-(f0 i1.toNat 0).int)) (f0 i1.toNat 1).int (fun x0 x1=>k (.exit 2) (s51v1 n0 n1 f0 f1 i0 i1 x0 x1 g0)) :=
 Eq.trans (loopN_at (by kernel_rfl)) (q51v2 ..)
theorem g51v2 :
  (kBlk 2 (kSeq (C40 u) u (rl 19 11 []) A56v3 (kBlk 1 (kSeq (C40 u) u (6 :: (rl 11 35 [])) A56v5 (kLoop (eB A56v7 (C40 u) u) N51v3 m k))))) (.exit 2) (s51v1 n0 n1 f0 f1 i0 i1 i2 i3 g0) =
  (bif (Nat.ble (n0+1) 1073741824) then (loopH (eB A56v7 (C40 u) u) N51v3 m (s51v2 (n0+1) n1 f0 (joinF n0 f1 (rowsF 2 [(vi (w64 (i2+(g0 1).int))),(vi (w64 (i3+(g0 2).int)))])) i0 (w64 (i1+1)) g0) k) else none):=by kernel_rfl
theorem t51v3 :
  loopN (eB A56v2 (C40 u) u) N51v2 u (s51v5 n0 n1 f0 f1 i0 i1 g0) k =
  L51v2 u g0 n0 n1 f0 i0 i1 g0 f1 u 0 (f0 i1.toNat 0).int (f0 i1.toNat 1).int (fun x0 x1=>k (.exit 2) (s51v1 n0 n1 f0 f1 i0 i1 x0 x1 g0)) :=
 Eq.trans (loopN_at (by kernel_rfl)) (q51v2 ..)
theorem g51v4 :
  (kBlk 2 (kSeq (C40 u) u (rl 19 11 []) A56v3 (kBlk 1 (kSeq (C40 u) u (6 :: (rl 11 35 [])) A56v5 (kLoop (eB A56v7 (C40 u) u) N51v3 m k))))) (.exit 2) (s51v1 n0 n1 f0 f1 i0 i1 i2 i3 g0) =
  (bif (Nat.ble (n0+1) 1073741824) then (loopH (eB A56v7 (C40 u) u) N51v3 m (s51v2 (n0+1) n1 f0 (joinF n0 f1 (rowsF 2 [(vi (w64 (i2+(g0 1).int))),(vi (w64 (i3+(g0 2).int)))])) i0 (w64 (i1+1)) g0) k) else none):=by kernel_rfl
theorem q51v3:∀ (m:Nat) (x0:Nat) (x1:Int) (x2:FF),
  loopH (eB A56v7 (C40 u) u) N51v3 m (s51v2 x0 n0 f0 x2 i0 x1 g0) k=L51v3 u g0 n0 f0 i0 m x0 x1 x2 (fun x3 x4=>k (.exit 0) (s51v3 x3 x4 g0))
 | 0,_,_,_=>rfl
 | m+1,x0,x1,x2=>by
  rw [r51v3]
  simp only [L51v3,q51v3 m,t51v1,g51v2,t51v3,g51v4]
def F51 (x0:Nat) (x1:FF) (x2:Nat→CV):Option (Nat × FF) :=
 (L51v3 u x2 x0 x1 (Int.ofNat x0) u 0 0 (fun _ _=>.any)
  (fun x3 x4=>(bif (x2 4).bool then (bif (Nat.beq x3 x3) then (bif (Nat.beq x3 0) then (some (x3,x4)) else (some (x3,(revF x3 x4)))) else none) else (some (x3,x4)))))
def s51v6:St:=⟨[.x (.c (ro kP n0 f0)),.x (.c (.rp kB g0)),uu,.x (vcn),.x (.own 0 0 0),uu,uu,.x (.c (ro kP n0 f0)),vxi (Int.ofNat n0),vxi 0,uu,uu,uu,uu,uu,uu,uu,uu,uu,uu,uu,uu,uu,uu,uu,uu,uu,uu,uu,uu,uu,uu,uu,uu,uu,uu,uu,uu,uu,uu,uu,uu,uu,uu,uu,uu,uu,uu,uu,uu,uu,uu],[.arr kP 0 nilF]⟩
theorem t51v5 :
  loopN (eB A56v7 (C40 u) u) N51v3 u (s51v6 n0 f0 g0) k =
  L51v3 u g0 n0 f0 (Int.ofNat n0) u 0 0 nilF (fun x0 x1=>k (.exit 0) (s51v3 x0 x1 g0)) :=
 Eq.trans (loopN_at (by kernel_rfl)) (q51v3 ..)
theorem g51v6 :
  (kBlk 0 (kSeq (C40 u) u (rl 6 41 []) A56v9 (finish A56))) (.exit 0) (s51v3 n0 f0 g0) =
  (bif (g0 4).bool then (bif (Nat.beq n0 n0) then (bif (Nat.beq n0 0) then (some [.v (ro kP n0 f0)]) else (some [.v (ro kP n0 (revF n0 f0))])) else none) else (some [.v (ro kP n0 f0)])):=by kernel_rfl
theorem e51:evalF (C40 u) u A56 [.v (ro kP n0 f0),.v (.rp kB g0)]=ob (F51 u n0 f0 g0) fun t=>some [.v (ro kP t.1 t.2)]:=Eq.trans (b:=(loopN (eB A56v7 (C40 u) u) N51v3 u (s51v6 n0 f0 g0) (kBlk 0 (kSeq (C40 u) u (rl 6 41 []) A56v9 (finish A56))))) (by kernel_rfl) (by
 simp only [F51,ob_bif,ob_ob,ob_none,ob_some,nl51v3,t51v5,g51v6])
def O51:Ora:=mkO (qc (av (cL kP)) (q1 (av (cP kB)))) (fun x=>F51 u x.1.1 x.1.2 x.2) fun t=>[.v (ro kP t.1 t.2)]
theorem d51:DO (O51 u) (C40 u) 56 A56:=dO u (fun x=>by exact e51 u x.1.1 x.1.2 x.2)
def C41:Oracle:=(C40 u).add 56 (fun _=>true) (O51 u)
def A45v1:AC:=(.region 8 [o1 35 (bk .add 3 28 1),mv 28 35] 0 none)
def A45v2:AC:=(.seq (.block 1
 (.seq (.region 5 [o1 30 (.indexAddr 23 22 1 (tm 26) (tm 28)),o1 31 (lo 22 30),o1 6 (sg 31)] 0 none) []
  (.seq (.region 6 [mv 32 6,o1 33 (.call 55 [(tm 32),(.func 54)] [22,109] .snap)] 0 none) []
  (.cond (tm 33)
  (.seq (.region 7 [o1 34 (.build 25 [.c (.ro true kP 0 nilF),.c (.ro true kF 0 nilF)] [(0,1),(1,1)] 0 []),o0 (.store 25 2 (tm 4) (tm 34))] 0 none) []
   (.ret (rl 0 4 (rl 5 54 []))))
  .skip)))) (6 :: (rl 30 5 []))
 A45v1)
def A45v3:AC:=(.seq (.region 4 [o1 29 (bt .lss 3 28 27)] 0 none) []
 (.seq (.cond (tm 29)
 .skip
 (.exit 0 (0 :: 1 :: (rl 5 54 [])))) []
 A45v2))
def A45v4:AC:=(.seq (.block 3
 (.seq (.region 13 [o1 47 (.indexAddr 23 22 1 (tm 43) (tm 45)),o1 48 (lo 22 47),o1 10 (sg 48)] 0 none) []
  (.region 14 [o1 49 (fa 25 8 1 1),o1 50 (lo 23 49),mv 51 7,mv 52 10,o1 53 (.callv (tm 51) [(tm 52)] [22] .freeze),o1 54 (.buildSlice 0 23 22 kF 1 [.c (.ro true kP 0 nilF)] [(0,(tm 53))]),o1 55 (.append 1 23 22 kF 24 (tm 50) (tm 54)),o1 56 (fa 25 8 1 1),o0 (.store 23 1 (tm 56) (tm 55))] 2 (some [[],[0],[],[],[2,3],[2,3,4],(rl 0 6 []),(rl 0 7 []),(rl 0 8 [])])))) []
 (.region 15 [o1 57 (bk .add 3 45 1),mv 45 57] 0 none))
def A45v5:AC:=(.seq (.region 12 [o1 46 (bt .lss 3 45 44)] 0 none) []
 (.seq (.cond (tm 46)
 .skip
 (.exit 2 (rl 0 4 (5 :: 6 :: 7 :: (rl 9 50 []))))) []
 A45v4))
def A45v6:AC:=(.seq (.region 16 [o1 58 (ln 25 2 8),o0 (.store 25 2 (tm 4) (tm 58))] 0 none) []
 (.ret (rl 0 4 (rl 5 54 []))))
def A45v7:AC:=(.seq (.region 9 [o1 36 (.mkfn 56 [(tm 3)]),o1 7 (sg 36)] 0 none) []
 (.seq (.region 10 [mv 37 7,o1 38 (fa 25 2 0 0),o1 39 (lo 22 38),o1 40 (.callv (tm 37) [(tm 39)] [22] .freeze),o1 41 (.build 25 [.c (.ro true kP 0 nilF),.c (.ro true kF 0 nilF)] [(0,1),(1,1)] 0 [(0,(tm 40))]),o1 8 (.alloc 0 25 [vcn,vcn]),o0 (.store 25 2 (tm 8) (tm 41))] 1 none) []
 (.seq (.seq (.region 11 [o1 42 (fa 25 2 1 1),o1 43 (lo 23 42),o1 44 (.len 23 false (tm 43)),o1 45 (.move (ic 0))] 0 none) []
 (.block 2
 (.loop [.cell 8 1 kF] (rl 0 4 (5 :: 6 :: (rl 9 34 (rl 46 13 []))))
  A45v5))) (10 :: (rl 42 16 []))
 A45v6)))
def A45v8:AC:=(.seq (.seq (.region 3 [o1 25 (ln 25 2 2),o1 26 (cf 42 [25] [25]),o1 27 (.len 23 false (tm 26)),o1 28 (.move (ic 0))] 0 none) []
 (.block 0
 (.loop [] (0 :: 1 :: (rl 5 21 (rl 29 30 [])))
  A45v3))) (6 :: (rl 25 11 []))
 A45v7)
def A45:AF:=⟨59,[.cell 4 25 (some 2)],
 (.seq (.region 0 [o1 2 (bx 0 25 0),o1 3 (bx 1 63 1),o1 4 (.alloc 2 25 [vcn,vcn])] 3 none) []
 (.seq (.seq (.region 1 [o1 11 (fa 63 3 2 3),o1 12 (lo 3 11),o1 13 (bk .lss 3 12 0),mv 14 13,og 15 (fa 63 3 2 3) 14 false,og 16 (lo 3 15) 14 false,og 17 (bk .gtr 3 16 3) 14 false,o1 18 (pa 14 17),mv 19 18,og 20 (fa 63 3 1 1) 19 false,og 21 (ln 34 2 20) 19 false,og 22 (cs 54 [21] [34]) 19 false,o1 23 (pa 19 22)] 0 none) []
 (.cond (tm 23)
 (.seq (.region 2 [o1 24 (.build 25 [.c (.ro true kP 0 nilF),.c (.ro true kF 0 nilF)] [(0,1),(1,1)] 0 []),o0 (.store 25 2 (tm 4) (tm 24))] 0 none) []
  (.ret (rl 0 4 (rl 5 54 []))))
 .skip)) (rl 11 14 [])
 A45v8))⟩
def N25v1:St→Option St:=nN 3 (0 :: 1 :: (rl 5 21 (rl 29 30 [])))
def s25v0:St:=⟨(.u :: .u :: .x (.ptr 0 0) :: .x (.ptr 1 0) :: .x (.ptr 2 0) :: (us 21 (.x (.c (ro kF n0 f0)) :: vxi i0 :: vxi i1 :: (us 30 [])))),[.box [(.c (ro kP n1 f1)),(.c (ro kF n2 f2))],.box [(vcs w0),(vci i2),(vci i3),(vci i4),(vcb b0)],.box [(vcn),(vcn)]]⟩
def s25v1:St:=⟨(us 4 (.x (.ptr 2 0) :: (us 54 []))),[.box [(.c (ro kP n0 f0)),(.c (ro kF n1 f1))],.box [(vcs w0),(vci i0),(vci i1),(vci i2),(vcb b0)],.box [(.c (.ro true kP 0 nilF)),(.c (.ro true kF 0 nilF))]]⟩
def s25v2:St:=⟨(.u :: .u :: .x (.ptr 0 0) :: .x (.ptr 1 0) :: .x (.ptr 2 0) :: (us 54 [])),[.box [(.c (ro kP n0 f0)),(.c (ro kF n1 f1))],.box [(vcs w0),(vci i0),(vci i1),(vci i2),(vcb b0)],.box [(vcn),(vcn)]]⟩
def L25v1 {ρ:Type} (u:Nat) (x0:Nat) (x1:FF) (x2:Int) (x3:Nat) (x4:FF) (x5:Nat) (x6:FF) (x7:ByteArray) (x8 x9 xA:Int) (xB:Bool):Nat→Int→(Option ρ)→(Option ρ)→Option ρ
 | 0,_,_,_=>none
 | m+1,xC,k0,k1 =>
  (bif (decide (xC<x2)) then (bif (inb xC x0) then (ob (F50c u (x1 xC.toNat 0).len (x1 xC.toNat 0).el) fun xD=>(bif xD then k0 else (L25v1 u x0 x1 x2 x3 x4 x5 x6 x7 x8 x9 xA xB m (w64 (xC+1)) k0 k1))) else none) else k1)
theorem nl25v1:∀ (m:Nat) (x0:Int) (k0:Option ρ) (k1:Option ρ),ob (L25v1 u n0 f0 i0 n1 f1 n2 f2 w0 i1 i2 i3 b0 m x0 k0 k1) ng=L25v1 u n0 f0 i0 n1 f1 n2 f2 w0 i1 i2 i3 b0 m x0 (ob k0 ng) (ob k1 ng)
 | 0,_,_,_=>rfl
 | m+1,x0,k0,k1=>by
  simp only [L25v1,ob_bif,ob_ob,ob_none,nl25v1 m]
theorem q25v1:∀ (m:Nat) (x0:Int),
  loopH (eB A45v3 (C41 u) u) N25v1 m (s25v0 n0 n1 n2 f0 f1 f2 i0 x0 i1 i2 i3 b0 w0) k=L25v1 u n0 f0 i0 n1 f1 n2 f2 w0 i1 i2 i3 b0 m x0 (k .ret (s25v1 n1 n2 f1 f2 i1 i2 i3 b0 w0)) (k (.exit 0) (s25v2 n1 n2 f1 f2 i1 i2 i3 b0 w0))
 | 0,_=>rfl
 | m+1,x0=>by
  simp only [L25v1,← q25v1 m]
  kernel_rfl
def N25v2:St→Option St:=nN 5 (rl 0 4 (5 :: 6 :: (rl 9 34 (rl 46 13 []))))
def s25v3:St:=⟨(us 4 (.x (.ptr 2 0) :: .u :: .u :: .x (.c (.fn 56 1 (listF [(.rp kB (listF [(.s w0),(vi i0),(vi i1),(vi i2),(.b b0)]))]))) :: .x (.ptr 3 0) :: (us 34 (.x (.c (ro kF n0 f0)) :: vxi i3 :: vxi i4 :: (us 13 []))))),[.box [(.c (ro kP n1 f1)),(.c (ro kF n0 f0))],.dead,.box [(vcn),(vcn)],.box [(.c (ro kP n2 f2)),(.own 4 0 n3)],.arr kF n3 f3]⟩
def s25v4:St:=⟨(us 4 (.x (.ptr 2 0) :: (us 3 (.x (.ptr 3 0) :: (us 50 []))))),[.box [(.c (ro kP n0 f0)),(.c (ro kF n1 f1))],.dead,.box [(vcn),(vcn)],.box [(.c (ro kP n2 f2)),(.own 4 0 n3)],.arr kF n3 f3]⟩
def L25v2 {ρ:Type} (u:Nat) (x0:ByteArray) (x1 x2 x3:Int) (x4:Bool) (x5:Nat) (x6:FF) (x7:Int) (x8:Nat) (x9:FF) (xA:Nat) (xB:FF):Nat→Int→Nat→FF→(Nat→FF→Option ρ)→Option ρ
 | 0,_,_,_,_=>none
 | m+1,xC,xD,xE,k0 =>
  (bif (decide (xC<x7)) then (bif (inb xC x5) then (ob (F51 u (x6 xC.toNat 0).len (x6 xC.toNat 0).el (listF [(.s x0),(.i .i64 x1),(.i .i64 x2),(.i .i64 x3),(.b x4)])) fun xF=>(bif (Nat.ble (xD+1) 1073741824) then (L25v2 u x0 x1 x2 x3 x4 x5 x6 x7 x8 x9 xA xB m (w64 (xC+1)) (xD+1) (joinF xD xE (rowsF 1 [(.ro false (.pr (.int .i64) (.pr (.int .i64) .nil)) xF.1 xF.2)])) k0) else none)) else none) else (k0 xD xE))
theorem nl25v2:∀ (m:Nat) (x0:Int) (x1:Nat) (x2:FF) (k0:Nat→FF→Option ρ),ob (L25v2 u w0 i0 i1 i2 b0 n0 f0 i3 n1 f1 n2 f2 m x0 x1 x2 k0) ng=L25v2 u w0 i0 i1 i2 b0 n0 f0 i3 n1 f1 n2 f2 m x0 x1 x2 (fun x3 x4=>ob (k0 x3 x4) ng)
 | 0,_,_,_,_=>rfl
 | m+1,x0,x1,x2,k0=>by
  simp only [L25v2,ob_bif,ob_ob,ob_none,nl25v2 m]
theorem q25v2:∀ (m:Nat) (x0:Int) (x1:Nat) (x2:FF),
  loopH (eB A45v5 (C41 u) u) N25v2 m (s25v3 n0 n1 n2 x1 f0 f1 f2 x2 i0 i1 i2 i3 x0 b0 w0) k=L25v2 u w0 i0 i1 i2 b0 n0 f0 i3 n1 f1 n2 f2 m x0 x1 x2 (fun x3 x4=>k (.exit 2) (s25v4 n1 n0 n2 x3 f1 f0 f2 x4))
 | 0,_,_,_=>rfl
 | m+1,x0,x1,x2=>by
  simp only [L25v2,← q25v2 m]
  kernel_rfl
def FT25 (x0:Nat) (x1:FF) (x2:Nat) (x3:FF) (x4:ByteArray) (x5 x6 x7:Int) (x8:Bool):Option (Bool × Nat × FF × Nat × FF) :=
 (bif ((decide (x7<0))==false) then (bif ((decide (x7>3))==false) then (ob (F49 u x5 x6) fun x9=>(bif x9 then (some (true,0,(fun _ _=>.any),0,(fun _ _=>.any))) else (ob (F42 u x0 x1 x2 x3) fun xA=>(L25v1 u xA.1 xA.2 (Int.ofNat xA.1) x0 x1 x2 x3 x4 x5 x6 x7 x8 u 0
  (some (true,0,(fun _ _=>.any),0,(fun _ _=>.any)))
  (ob (F51 u x0 x1 (listF [(.s x4),(.i .i64 x5),(.i .i64 x6),(.i .i64 x7),(.b x8)])) fun xB=>(L25v2 u x4 x5 x6 x7 x8 x2 x3 (Int.ofNat x2) x0 x1 xB.1 xB.2 u 0 0 (fun _ _=>.any)
  (fun xC xD=>(some (false,xB.1,xB.2,xC,xD))))))))) else (some (true,0,(fun _ _=>.any),0,(fun _ _=>.any)))) else (some (true,0,(fun _ _=>.any),0,(fun _ _=>.any))))
def s25v5 (x0:Nat × FF):St:=⟨(.agg [(.c (ro kP n0 f0)),(.c (ro kF n1 f1))] :: .agg [(vcs w0),(vci i0),(vci i1),(vci i2),(vcb b0)] :: .x (.ptr 0 0) :: .x (.ptr 1 0) :: .x (.ptr 2 0) :: uu :: uu :: uu :: uu :: uu :: uu :: (us 14 [.agg [(.c (ro kP n0 f0)),(.c (ro kF n1 f1))],.x (.c (ro kF x0.1 x0.2)),vxi (Int.ofNat x0.1),vxi 0,uu,uu,uu,uu,uu,uu,uu,uu,uu,uu,uu,uu,uu,uu,uu,uu,uu,uu,uu,uu,uu,uu,uu,uu,uu,uu,uu,uu,uu,uu])),[.box [(.c (ro kP n0 f0)),(.c (ro kF n1 f1))],.box [(vcs w0),(vci i0),(vci i1),(vci i2),(vcb b0)],.box [(vcn),(vcn)]]⟩
theorem t25v1 (x0:Nat × FF) :
  loopN (eB A45v3 (C41 u) u) N25v1 u (s25v5 n0 n1 f0 f1 i0 i1 i2 b0 w0 x0) k =
  L25v1 u x0.1 x0.2 (Int.ofNat x0.1) n0 f0 n1 f1 w0 i0 i1 i2 b0 u 0 (k .ret (s25v1 n0 n1 f0 f1 i0 i1 i2 b0 w0)) (k (.exit 0) (s25v2 n0 n1 f0 f1 i0 i1 i2 b0 w0)) :=
 Eq.trans (loopN_at (by kernel_rfl)) (q25v1 ..)
theorem g25v2 :
  (kBlk 0 (kSeq (C41 u) u (6 :: (rl 25 11 [])) A45v7 (finish A45))) .ret (s25v1 n0 n1 f0 f1 i0 i1 i2 b0 w0) =
  (some [.agg [(.ro true kP 0 nilF),(.ro true kF 0 nilF)]]):=by kernel_rfl
def s25v6 (x0:Nat × FF):St:=⟨(.u :: .u :: .x (.ptr 0 0) :: .x (.c (.rp kB (listF [(.s w0),(vi i0),(vi i1),(vi i2),(.b b0)]))) :: .x (.ptr 2 0) :: .u :: .u :: .x (.c (.fn 56 1 (listF [(.rp kB (listF [(.s w0),(vi i0),(vi i1),(vi i2),(.b b0)]))]))) :: .x (.ptr 3 0) :: (us 27 (.x (.c (.fn 56 1 (listF [(.rp kB (listF [(.s w0),(vi i0),(vi i1),(vi i2),(.b b0)]))]))) :: .x (.c (.fn 56 1 (listF [(.rp kB (listF [(.s w0),(vi i0),(vi i1),(vi i2),(.b b0)]))]))) :: .x (.ptr 0 0) :: .x (.c (ro kP n0 f0)) :: .x (.c (ro kP x0.1 x0.2)) :: .agg [(.c (ro kP x0.1 x0.2)),(.c (.ro true kF 0 nilF))] :: .x (.ptr 0 1) :: .x (.c (ro kF n1 f1)) :: vxi (Int.ofNat n1) :: vxi 0 :: (us 13 [])))),[.box [(.c (ro kP n0 f0)),(.c (ro kF n1 f1))],.dead,.box [(vcn),(vcn)],.box [(.c (ro kP x0.1 x0.2)),(.own 4 0 0)],.arr kF 0 nilF]⟩
theorem g25v3 :
  (kBlk 0 (kSeq (C41 u) u (6 :: (rl 25 11 [])) A45v7 (finish A45))) (.exit 0) (s25v2 n0 n1 f0 f1 i0 i1 i2 b0 w0) =
  (ob (F51 u n0 f0 (listF [(.s w0),(vi i0),(vi i1),(vi i2),(.b b0)])) fun x0=>(loopN (eB A45v5 (C41 u) u) N25v2 u (s25v6 n0 n1 f0 f1 i0 i1 i2 b0 w0 x0) (kBlk 2 (kSeq (C41 u) u (10 :: (rl 42 16 [])) A45v6 (finish A45))))):=by kernel_rfl
theorem t25v4 (x0:Nat × FF) :
  loopN (eB A45v5 (C41 u) u) N25v2 u (s25v6 n0 n1 f0 f1 i0 i1 i2 b0 w0 x0) k =
  L25v2 u w0 i0 i1 i2 b0 n1 f1 (Int.ofNat n1) n0 f0 x0.1 x0.2 u 0 0 nilF (fun x1 x2=>k (.exit 2) (s25v4 n0 n1 x0.1 x1 f0 f1 x0.2 x2)) :=
 Eq.trans (loopN_at (by kernel_rfl)) (q25v2 ..)
theorem g25v5 (x0:Nat × FF) :
  (kBlk 2 (kSeq (C41 u) u (10 :: (rl 42 16 [])) A45v6 (finish A45))) (.exit 2) (s25v4 n0 n1 x0.1 n2 f0 f1 x0.2 f2) =
  (some [.agg [(ro kP x0.1 x0.2),(ro kF n2 f2)]]):=by kernel_rfl
theorem e25:evalF (C41 u) u A45 [.agg [(ro kP n0 f0),(ro kF n1 f1)],.agg [(.s w0),(vi i0),(vi i1),(vi i2),(.b b0)]]=ob (FT25 u n0 f0 n1 f1 w0 i0 i1 i2 b0) fun t=>some (bif t.1 then [.agg [(.ro true kP 0 nilF),(.ro true kF 0 nilF)]] else [.agg [(ro kP t.2.1 t.2.2.1),(ro kF t.2.2.2.1 t.2.2.2.2)]]):=Eq.trans (b:=(bif ((decide (i2<0))==false) then (bif ((decide (i2>3))==false) then (ob (F49 u i0 i1) fun x0=>(bif x0 then (some [.agg [(.ro true kP 0 nilF),(.ro true kF 0 nilF)]]) else (ob (F42 u n0 f0 n1 f1) fun x1=>(loopN (eB A45v3 (C41 u) u) N25v1 u (s25v5 n0 n1 f0 f1 i0 i1 i2 b0 w0 x1) (kBlk 0 (kSeq (C41 u) u (6 :: (rl 25 11 [])) A45v7 (finish A45))))))) else (some [.agg [(.ro true kP 0 nilF),(.ro true kF 0 nilF)]])) else (some [.agg [(.ro true kP 0 nilF),(.ro true kF 0 nilF)]]))) (by kernel_rfl) (by
 simp only [FT25,ob_bif,ob_ob,ob_none,ob_some,nl25v1,nl25v2,t25v1,g25v2,g25v3,t25v4,g25v5,cond_true,cond_false])
def F25 (x0:Nat) (x1:FF) (x2:Nat) (x3:FF) (x4:ByteArray) (x5 x6 x7:Int) (x8:Bool):Option (Nat × FF × Nat × FF):=ob (FT25 u x0 x1 x2 x3 x4 x5 x6 x7 x8) fun t=>some (bif t.1 then (0,(fun _ _=>.any),0,(fun _ _=>.any)) else (t.2.1,t.2.2.1,t.2.2.2.1,t.2.2.2.2))
def O25:Ora:=mkO (qc (ag (tc (cL kP) (t1 (cL kF)))) (q1 (ag (tc cS (tc ci (tc ci (tc ci (t1 cB)))))))) (fun x=>F25 u x.1.1.1 x.1.1.2 x.1.2.1 x.1.2.2 x.2.1 x.2.2.1 x.2.2.2.1 x.2.2.2.2.1 x.2.2.2.2.2) fun t=>[.agg [(ro kP t.1 t.2.1),(ro kF t.2.2.1 t.2.2.2)]]
theorem d25:DO (O25 u) (C41 u) 45 A45:=dW u (fun x=>by exact e25 u x.1.1.1 x.1.2.1 x.1.1.2 x.1.2.2 x.2.2.1 x.2.2.2.1 x.2.2.2.2.1 x.2.2.2.2.2 x.2.1) (fun _=>rfl) fun t=>by
 obtain ⟨b,t⟩:=t
 cases b with
 | true=>exact (.cons (WkA.agg (.cons (Wk.ro (by rfl)) (.cons (Wk.ro (by rfl)) .nil))) .nil)
 | false =>
  exact (.cons (WkA.agg (.cons (Wk.refl _) (.cons (Wk.refl _) .nil))) .nil)
def C42:Oracle:=(C41 u).add 45 (fun _=>true) (O25 u)
def A30:AF:=⟨43,[.cell 6 63 (some 5),.tmp 7],
 (.seq (.region 0 [o1 3 (bx 0 31 0),o1 5 (bx 1 34 2),o1 6 (.alloc 2 63 [vcs ByteArray.empty,vci 0,vci 0,vci 0,vcb false]),o1 7 (sb false)] 3 none) []
 (.seq (.region 1 [o1 10 (fa 31 3 6 6),o1 11 (ln 25 2 10),mv 12 1,o1 13 (.build 63 [vcs ByteArray.empty,vci 0,vci 0,vci 0,vcb false] [(0,1),(1,2),(3,1),(4,1)] 0 [(2,(tm 12))]),o1 14 (cf 45 [11,13] [25,63]),o1 15 (cs 18 [14] [25]),o1 16 (.field 65 (tm 15) 0 0 (some 2)),o1 8 (.alloc 0 34 [vci 0,vci 0]),o0 (.store 34 2 (tm 8) (tm 16))] 1 none) []
 (.seq (.region 2 [o1 17 (fa 31 3 0 0),o1 18 (lo 9 17),o1 19 (fa 34 5 0 0),o1 20 (lo 3 19),o1 21 (fa 34 8 0 0),o1 22 (lo 3 21),o1 23 (bt .sub 3 20 22),o1 24 (fa 34 5 1 1),o1 25 (lo 3 24),o1 26 (fa 34 8 1 1),o1 27 (lo 3 26),o1 28 (bt .sub 3 25 27),o1 29 (.build 34 [vci 0,vci 0] [(0,1),(1,1)] 0 [(0,(tm 23)),(1,(tm 28))]),mv 30 1,o1 31 (.build 63 [vcs ByteArray.empty,vci 0,vci 0,vci 0,vcb false] [(0,1),(1,2),(3,1),(4,1)] 0 [(0,(tm 18)),(1,(tm 29)),(2,(tm 30))]),o1 9 (.alloc 0 63 [vcs ByteArray.empty,vci 0,vci 0,vci 0,vcb false]),o0 (.store 63 5 (tm 9) (tm 31))] 1 none) []
 (.seq (.region 3 [o1 32 (ln 63 5 9),o1 33 (fa 63 9 1 1),o1 34 (fa 34 33 0 0),o1 35 (lo 3 34),o1 36 (.call 19 [(tm 35),(ic (-32768)),(ic 32768)] [3,3,3] .snap),mv 37 36,og 38 (fa 63 9 1 1) 37 true,og 39 (fa 34 38 1 1) 37 true,og 40 (lo 3 39) 37 true,og 41 (.call 19 [(tm 40),(ic (-32768)),(ic 32768)] [3,3,3] .snap) 37 true,o1 42 (po 37 41),o0 (.store 63 5 (tm 6) (tm 32)),o1 7 (sg 42)] 0 (some [[],[],[1],[1,2],[1,2,3],(rl 1 4 []),(rl 1 5 []),(rl 1 6 []),(rl 1 7 []),(rl 1 8 []),(rl 1 9 []),(rl 0 10 []),(rl 0 12 [])])) []
 (.ghost [0,1,3,4] (.ret (rl 0 6 (rl 8 35 []))))))))⟩
def F394 (x0:Nat→CV) (x1 x2 x3:Int):Option (ByteArray × Int × Int × Int × Bool × Bool) :=
 (ob (F25 u (x0 6).len (x0 6).el (x0 7).len (x0 7).el ByteArray.empty 0 0 x1 false) fun x4=>(ob (F20 u x4.1 x4.2.1 x4.2.2.1 x4.2.2.2) fun x5=>(ob (F389 u (w64 (x2-x5.1)) (-32768) 32768) fun x6=>(bif (x6==true) then (ob (F389 u (w64 (x3-x5.2.1)) (-32768) 32768) fun x7=>(some ((x0 0).str,(w64 (x2-x5.1)),(w64 (x3-x5.2.1)),x1,false,x7))) else (some ((x0 0).str,(w64 (x2-x5.1)),(w64 (x3-x5.2.1)),x1,false,false))))))
theorem e394:evalF (C42 u) u A30 [.agg (pj kR0 g0),.v (vi i0),.agg [(vi i1),(vi i2)]]=ob (F394 u g0 i0 i1 i2) fun t=>some [.agg [(.s t.1),(vi t.2.1),(vi t.2.2.1),(vi t.2.2.2.1),(.b t.2.2.2.2.1)],.v (.b t.2.2.2.2.2)]:=by
 simp only [F394,ob_bif,ob_ob,ob_none,ob_some]
 kernel_rfl
def O394:Ora:=mkO (qc (ar kR0) (qc (av ci) (q1 (ag (tc ci (t1 ci)))))) (fun x=>F394 u x.1 x.2.1 x.2.2.1 x.2.2.2) fun t=>[.agg [(.s t.1),(vi t.2.1),(vi t.2.2.1),(vi t.2.2.2.1),(.b t.2.2.2.2.1)],.v (.b t.2.2.2.2.2)]
theorem d394:DO (O394 u) (C42 u) 30 A30:=dO u (fun x=>by exact e394 u x.2.1 x.2.2.1 x.2.2.2 x.1)
def C43:Oracle:=(C42 u).add 30 (fun _=>true) (O394 u)
def A9v1:AC:=(.region 11 [o1 82 (bk .add 3 76 1),mv 76 82] 0 none)
def A9v2:AC:=(.seq (.block 3
 (.seq (.region 8 [o1 78 (.index 67 3 4 1 none (tm 75) (tm 76)),o1 18 (sg 78)] 0 none) []
  (.seq (.region 9 [mv 79 18,o1 80 (.call 19 [(tm 79),(ic (-1099511627776)),(ic 1099511627776)] [3,3,3] .snap),o1 81 (.unOp .not 4 (tm 80))] 0 none) []
  (.cond (tm 81)
  (.seq (.region 10 [o1 14 (sb false)] 0 none) []
   (.ghost [0,1] (.ret (rl 0 14 (rl 15 150 [])))))
  .skip)))) (14 :: 18 :: (rl 78 4 []))
 A9v1)
def A9v3:AC:=(.seq (.region 7 [o1 77 (bk .lss 3 76 4)] 0 none) []
 (.seq (.cond (tm 77)
 .skip
 (.ghost [1] (.exit 2 (3 :: 7 :: 8 :: 9 :: (rl 11 46 (rl 60 105 [])))))) []
 A9v2))
def A9v4:AC:=(.region 12 [o1 83 (bk .add 3 59 1),mv 59 83] 0 none)
def A9v5:AC:=(.seq (.block 1
 (.seq (.region 5 [o1 61 (.indexAddr 32 65 4 (tm 57) (tm 59)),o1 62 (ln 65 4 61),o1 16 (.alloc 0 65 [vci 0,vci 0,vci 0,vci 0]),o0 (.store 65 4 (tm 16) (tm 62))] 1 none) []
  (.seq (.region 6 [o1 63 (fa 65 16 0 0),o1 64 (fa 34 63 0 0),o1 65 (lo 3 64),o1 66 (fa 65 16 0 0),o1 67 (fa 34 66 1 1),o1 68 (lo 3 67),o1 69 (fa 65 16 1 2),o1 70 (fa 34 69 0 0),o1 71 (lo 3 70),o1 72 (fa 65 16 1 2),o1 73 (fa 34 72 1 1),o1 74 (lo 3 73),o1 75 (.build 67 [vci 0,vci 0,vci 0,vci 0] [] 1 [(0,(tm 65)),(1,(tm 68)),(2,(tm 71)),(3,(tm 74))]),o1 76 (.move (ic 0))] 0 none) []
  (.block 2
  (.ghost [1] (.loop [] (3 :: 7 :: 8 :: 9 :: (rl 11 46 (rl 60 15 (rl 77 88 []))))
   A9v3)))))) (14 :: 16 :: 18 :: (rl 61 22 []))
 A9v4)
def A9v6:AC:=(.seq (.region 4 [o1 60 (bt .lss 3 59 58)] 0 none) []
 (.seq (.cond (tm 60)
 .skip
 (.exit 0 (3 :: 7 :: 8 :: 9 :: (rl 11 154 [])))) []
 A9v5))
def A9v7:AC:=(.region 21 [o1 164 (bk .add 3 118 1),mv 118 164] 0 none)
def A9v8:AC:=(.seq (.block 5
 (.seq (.region 18 [o1 120 (.indexAddr 32 65 4 (tm 116) (tm 118)),o1 121 (ln 65 4 120),o1 21 (.alloc 0 65 [vci 0,vci 0,vci 0,vci 0]),o0 (.store 65 4 (tm 21) (tm 121))] 1 none) []
  (.seq (.region 19 [o1 122 (fa 34 10 0 0),o1 123 (lo 3 122),o1 124 (fa 65 21 1 2),o1 125 (fa 34 124 0 0),o1 126 (lo 3 125),mv 127 19,o1 128 (bt .add 3 126 127),o1 129 (bt .lss 3 123 128),mv 130 129,og 131 (fa 34 10 0 0) 130 true,og 132 (lo 3 131) 130 true,og 133 (.move (tm 4)) 130 true,og 134 (bt .add 3 132 133) 130 true,og 135 (.move (tm 19)) 130 true,og 136 (bt .add 3 134 135) 130 true,og 137 (fa 65 21 0 0) 130 true,og 138 (fa 34 137 0 0) 130 true,og 139 (lo 3 138) 130 true,og 140 (bt .gtr 3 136 139) 130 true,o1 141 (po 130 140),mv 142 141,og 143 (fa 34 10 1 1) 142 true,og 144 (lo 3 143) 142 true,og 145 (fa 65 21 1 2) 142 true,og 146 (fa 34 145 1 1) 142 true,og 147 (lo 3 146) 142 true,og 148 (.move (tm 19)) 142 true,og 149 (bt .add 3 147 148) 142 true,og 150 (bt .lss 3 144 149) 142 true,o1 151 (po 142 150),mv 152 151,og 153 (fa 34 10 1 1) 152 true,og 154 (lo 3 153) 152 true,og 155 (.move (tm 5)) 152 true,og 156 (bt .add 3 154 155) 152 true,og 157 (.move (tm 19)) 152 true,og 158 (bt .add 3 156 157) 152 true,og 159 (fa 65 21 0 0) 152 true,og 160 (fa 34 159 1 1) 152 true,og 161 (lo 3 160) 152 true,og 162 (bt .gtr 3 158 161) 152 true,o1 163 (po 152 162)] 0 none) []
  (.cond (tm 163)
  (.seq (.region 20 [o1 14 (sb false)] 0 none) []
   (.ghost [0,1] (.ret (rl 0 14 (rl 15 150 [])))))
  .skip)))) (14 :: 21 :: (rl 120 44 []))
 A9v7)
def A9v9:AC:=(.seq (.region 17 [o1 119 (bt .lss 3 118 117)] 0 none) []
 (.seq (.cond (tm 119)
 .skip
 (.ghost [0] (.exit 4 (rl 0 165 [])))) []
 A9v8))
def A9v10:AC:=(.seq (.region 22 [o1 14 (sb true)] 0 none) []
 (.ghost [0] (.ret (rl 0 14 (rl 15 150 [])))))
def A9v11:AC:=(.seq (.region 15 [mv 114 6,o1 115 (.mm true [(tm 114),(ic 1)] [3,3]),o1 19 (sg 115)] 0 none) []
 (.seq (.seq (.region 16 [mv 116 2,o1 117 (.len 32 false (tm 116)),o1 118 (.move (ic 0))] 0 none) []
 (.block 4
 (.loop [] (rl 0 4 (rl 6 4 (rl 11 8 (rl 20 96 (rl 119 46 [])))))
  A9v9))) (14 :: 21 :: (rl 116 49 []))
 A9v10))
def A9v12:AC:=(.seq (.seq (.region 13 [o1 84 (fa 34 10 0 0),o1 85 (lo 3 84),mv 86 6,o1 87 (bt .lss 3 85 86),mv 88 87,og 89 (fa 34 10 1 1) 88 false,og 90 (lo 3 89) 88 false,og 91 (.move (tm 6)) 88 false,og 92 (bt .lss 3 90 91) 88 false,o1 93 (pa 88 92),mv 94 93,og 95 (fa 34 10 0 0) 94 false,og 96 (lo 3 95) 94 false,og 97 (.move (tm 4)) 94 false,og 98 (bt .add 3 96 97) 94 false,og 99 (.move (tm 0)) 94 false,og 100 (.move (tm 6)) 94 false,og 101 (bt .sub 3 99 100) 94 false,og 102 (bt .gtr 3 98 101) 94 false,o1 103 (pa 94 102),mv 104 103,og 105 (fa 34 10 1 1) 104 false,og 106 (lo 3 105) 104 false,og 107 (.move (tm 5)) 104 false,og 108 (bt .add 3 106 107) 104 false,og 109 (.move (tm 1)) 104 false,og 110 (.move (tm 6)) 104 false,og 111 (bt .sub 3 109 110) 104 false,og 112 (bt .gtr 3 108 111) 104 false,o1 113 (pa 104 112)] 0 none) []
 (.cond (tm 113)
 (.seq (.region 14 [o1 14 (sb false)] 0 none) []
  (.ghost [0] (.ret (rl 0 14 (rl 15 150 [])))))
 .skip)) (14 :: (rl 84 30 []))
 A9v11)
def A9v13:AC:=(.seq (.seq (.region 3 [mv 57 2,o1 58 (.len 32 false (tm 57)),o1 59 (.move (ic 0))] 0 none) []
 (.block 0
 (.loop [] (3 :: 7 :: 8 :: 9 :: (rl 11 46 (rl 60 105 [])))
  A9v6))) (14 :: 16 :: 18 :: (rl 57 27 []))
 A9v12)
def A9:AF:=⟨165,[.tmp 14],
 (.seq (.region 0 [o1 10 (bx 0 34 3),o1 14 (sb false)] 1 none) []
 (.seq (.seq (.region 1 [mv 22 0,o1 23 (.call 19 [(tm 22),(ic 0),(ic 32768)] [3,3,3] .snap),o1 24 (.unOp .not 4 (tm 23)),mv 25 24,og 26 (.move (tm 1)) 25 false,og 27 (.call 19 [(tm 26),(ic 0),(ic 32768)] [3,3,3] .snap) 25 false,og 28 (.unOp .not 4 (tm 27)) 25 false,o1 29 (pa 25 28),mv 30 29,og 31 (.move (tm 6)) 30 false,og 32 (.call 19 [(tm 31),(ic 0),(ic 500)] [3,3,3] .snap) 30 false,og 33 (.unOp .not 4 (tm 32)) 30 false,o1 34 (pa 30 33),mv 35 34,og 36 (.move (tm 4)) 35 false,og 37 (.call 19 [(tm 36),(ic 1),(ic 32768)] [3,3,3] .snap) 35 false,og 38 (.unOp .not 4 (tm 37)) 35 false,o1 39 (pa 35 38),mv 40 39,og 41 (.move (tm 5)) 40 false,og 42 (.call 19 [(tm 41),(ic 1),(ic 32768)] [3,3,3] .snap) 40 false,og 43 (.unOp .not 4 (tm 42)) 40 false,o1 44 (pa 40 43),mv 45 44,og 46 (fa 34 10 0 0) 45 false,og 47 (lo 3 46) 45 false,og 48 (.call 19 [(tm 47),(ic (-32768)),(ic 32768)] [3,3,3] .snap) 45 false,og 49 (.unOp .not 4 (tm 48)) 45 false,o1 50 (pa 45 49),mv 51 50,og 52 (fa 34 10 1 1) 51 false,og 53 (lo 3 52) 51 false,og 54 (.call 19 [(tm 53),(ic (-32768)),(ic 32768)] [3,3,3] .snap) 51 false,og 55 (.unOp .not 4 (tm 54)) 51 false,o1 56 (pa 51 55)] 0 none) []
 (.cond (tm 56)
 (.seq (.region 2 [o1 14 (sb false)] 0 none) []
  (.ghost [0] (.ret (rl 0 14 (rl 15 150 [])))))
 .skip)) (14 :: (rl 22 35 []))
 A9v13))⟩
def N395v2:St→Option St:=nN 2 (3 :: 7 :: 8 :: 9 :: (rl 11 46 (rl 60 15 (rl 77 88 []))))
def s395v0:St:=⟨(vxi i0 :: vxi i1 :: .x (.c (ro kE n0 f0)) :: .u :: vxi i2 :: vxi i3 :: vxi i4 :: (us 3 (.x (.ptr 0 0) :: (us 46 (.x (.c (ro kE n0 f0)) :: vxi i5 :: vxi i6 :: (us 15 (.agg [(vci i7),(vci i8),(vci i9),(vci iA)] :: vxi iB :: (us 88 [])))))))),[.box [(vci iC),(vci iD)],.dead]⟩
def s395v1:St:=⟨(us 14 (vxb false :: (us 150 []))),[.dead,.dead]⟩
def s395v2:St:=⟨(vxi i0 :: vxi i1 :: .x (.c (ro kE n0 f0)) :: .u :: vxi i2 :: vxi i3 :: vxi i4 :: (us 3 (.x (.ptr 0 0) :: (us 46 (.x (.c (ro kE n0 f0)) :: vxi i5 :: vxi i6 :: (us 105 [])))))),[.box [(vci i7),(vci i8)],.dead]⟩
def L395v2 {ρ:Type} (u:Nat) (x0 x1:Int) (x2:Nat) (x3:FF) (x4 x5 x6 x7 x8 x9 xA xB xC xD xE:Int):Nat→Int→(Option ρ)→(Option ρ)→Option ρ
 | 0,_,_,_=>none
 | m+1,xF,k0,k1 =>
  (bif (decide (xF<4)) then (bif (xF==0) then (ob (F389 u x9 (-1099511627776) 1099511627776) fun xG=>(bif (!xG) then k0 else (L395v2 u x0 x1 x2 x3 x4 x5 x6 x7 x8 x9 xA xB xC xD xE m (w64 (xF+1)) k0 k1))) else (bif (xF==1) then (ob (F389 u xA (-1099511627776) 1099511627776) fun xH=>(bif (!xH) then k0 else (L395v2 u x0 x1 x2 x3 x4 x5 x6 x7 x8 x9 xA xB xC xD xE m (w64 (xF+1)) k0 k1))) else (bif (xF==2) then (ob (F389 u xB (-1099511627776) 1099511627776) fun xI=>(bif (!xI) then k0 else (L395v2 u x0 x1 x2 x3 x4 x5 x6 x7 x8 x9 xA xB xC xD xE m (w64 (xF+1)) k0 k1))) else (bif (xF==3) then (ob (F389 u xC (-1099511627776) 1099511627776) fun xJ=>(bif (!xJ) then k0 else (L395v2 u x0 x1 x2 x3 x4 x5 x6 x7 x8 x9 xA xB xC xD xE m (w64 (xF+1)) k0 k1))) else none)))) else k1)
theorem nl395v2:∀ (m:Nat) (x0:Int) (k0:Option ρ) (k1:Option ρ),ob (L395v2 u i0 i1 n0 f0 i2 i3 i4 i5 i6 i7 i8 i9 iA iB iC m x0 k0 k1) ng=L395v2 u i0 i1 n0 f0 i2 i3 i4 i5 i6 i7 i8 i9 iA iB iC m x0 (ob k0 ng) (ob k1 ng)
 | 0,_,_,_=>rfl
 | m+1,x0,k0,k1=>by
  simp only [L395v2,ob_bif,ob_ob,ob_none,nl395v2 m]
theorem q395v2:∀ (m:Nat) (x0:Int),
  loopH (eB A9v3 (C43 u) u) N395v2 m (s395v0 n0 f0 i0 i1 i2 i3 i4 i5 i6 i7 i8 i9 iA x0 iB iC) k=L395v2 u i0 i1 n0 f0 i2 i3 i4 i5 i6 i7 i8 i9 iA iB iC m x0 (k .ret s395v1) (k (.exit 2) (s395v2 n0 f0 i0 i1 i2 i3 i4 i5 i6 iB iC))
 | 0,_=>rfl
 | m+1,x0=>by
  simp only [L395v2,← q395v2 m]
  kernel_rfl
def N395v3:St→Option St:=nN 1 (3 :: 7 :: 8 :: 9 :: (rl 11 46 (rl 60 105 [])))
def s395v3:St:=⟨(vxi i0 :: vxi i1 :: .x (.c (ro kE n0 f0)) :: .u :: vxi i2 :: vxi i3 :: vxi i4 :: (us 3 (.x (.ptr 0 0) :: (us 46 (.x (.c (ro kE n0 f0)) :: vxi i5 :: vxi i6 :: (us 105 [])))))),[.box [(vci i7),(vci i8)]]⟩
def s395v4:St:=⟨(vxi i0 :: vxi i1 :: .x (.c (ro kE n0 f0)) :: .u :: vxi i2 :: vxi i3 :: vxi i4 :: (us 3 (.x (.ptr 0 0) :: (us 154 [])))),[.box [(vci i5),(vci i6)]]⟩
def L395v3 {ρ:Type} (u:Nat) (x0 x1:Int) (x2:Nat) (x3:FF) (x4 x5 x6 x7 x8 x9:Int):Nat→Int→(Option ρ)→(Option ρ)→Option ρ
 | 0,_,_,_=>none
 | m+1,xA,k0,k1 =>
  (bif (decide (xA<x7)) then (bif (inb xA x2) then (L395v2 u x0 x1 x2 x3 x4 x5 x6 x7 xA (x3 xA.toNat 0).int (x3 xA.toNat 1).int (x3 xA.toNat 2).int (x3 xA.toNat 3).int x8 x9 u 0
  k0
  (L395v3 u x0 x1 x2 x3 x4 x5 x6 x7 x8 x9 m (w64 (xA+1)) k0 k1)) else none) else k1)
theorem nl395v3:∀ (m:Nat) (x0:Int) (k0:Option ρ) (k1:Option ρ),ob (L395v3 u i0 i1 n0 f0 i2 i3 i4 i5 i6 i7 m x0 k0 k1) ng=L395v3 u i0 i1 n0 f0 i2 i3 i4 i5 i6 i7 m x0 (ob k0 ng) (ob k1 ng)
 | 0,_,_,_=>rfl
 | m+1,x0,k0,k1=>by
  simp only [L395v3,ob_bif,ob_ob,ob_none,nl395v3 m,nl395v2]
def s395v5:St:=⟨(vxi i0 :: vxi i1 :: .x (.c (ro kE n0 f0)) :: .u :: vxi i2 :: vxi i3 :: vxi i4 :: (us 3 (.x (.ptr 0 0) :: (us 5 (.x (.c (.rp kE (listF [(vi (f0 i5.toNat 0).int),(vi (f0 i5.toNat 1).int),(vi (f0 i5.toNat 2).int),(vi (f0 i5.toNat 3).int)]))) :: (us 40 (.x (.c (ro kE n0 f0)) :: vxi i6 :: vxi i5 :: vxb true :: .x (.c (.rp kE (f0 i5.toNat))) :: .agg [(vci (f0 i5.toNat 0).int),(vci (f0 i5.toNat 1).int),(vci (f0 i5.toNat 2).int),(vci (f0 i5.toNat 3).int)] :: .x (.c (.rp kE (listF [(vi (f0 i5.toNat 0).int),(vi (f0 i5.toNat 1).int),(vi (f0 i5.toNat 2).int),(vi (f0 i5.toNat 3).int)]))) :: .x (.c (.rp kE (listF [(vi (f0 i5.toNat 0).int),(vi (f0 i5.toNat 1).int),(vi (f0 i5.toNat 2).int),(vi (f0 i5.toNat 3).int)]))) :: vxi (f0 i5.toNat 0).int :: .x (.c (.rp kE (listF [(vi (f0 i5.toNat 0).int),(vi (f0 i5.toNat 1).int),(vi (f0 i5.toNat 2).int),(vi (f0 i5.toNat 3).int)]))) :: .x (.c (.rp kV (listF [(vi (f0 i5.toNat 1).int),(vi (f0 i5.toNat 2).int),(vi (f0 i5.toNat 3).int)]))) :: vxi (f0 i5.toNat 1).int :: .x (.c (.rp kP (listF [(vi (f0 i5.toNat 2).int),(vi (f0 i5.toNat 3).int)]))) :: .x (.c (.rp kP (listF [(vi (f0 i5.toNat 2).int),(vi (f0 i5.toNat 3).int)]))) :: vxi (f0 i5.toNat 2).int :: .x (.c (.rp kP (listF [(vi (f0 i5.toNat 2).int),(vi (f0 i5.toNat 3).int)]))) :: .x (.c (.rp kD (listF [(vi (f0 i5.toNat 3).int)]))) :: vxi (f0 i5.toNat 3).int :: .agg [(vci (f0 i5.toNat 0).int),(vci (f0 i5.toNat 1).int),(vci (f0 i5.toNat 2).int),(vci (f0 i5.toNat 3).int)] :: vxi 0 :: (us 88 [])))))))),[.box [(vci i7),(vci i8)],.dead]⟩
theorem r395v3 :
  loopH (eB A9v6 (C43 u) u) N395v3 (m+1) (s395v3 n0 f0 i0 i1 i2 i3 i4 i5 i8 i6 i7) k =
  (bif (decide (i8<i5)) then (bif (inb i8 n0) then (loopN (eB A9v3 (C43 u) u) N395v2 u (s395v5 n0 f0 i0 i1 i2 i3 i4 i8 i5 i6 i7) (kBlk 2 (kBlk 1 (kSeq (C43 u) u (14 :: 16 :: 18 :: (rl 61 22 [])) A9v4 (kLoop (eB A9v6 (C43 u) u) N395v3 m k))))) else none) else (k (.exit 0) (s395v4 n0 f0 i0 i1 i2 i3 i4 i6 i7))):=by kernel_rfl
theorem t395v1 :
  loopN (eB A9v3 (C43 u) u) N395v2 u (s395v5 n0 f0 i0 i1 i2 i3 i4 i5 i6 i7 i8) k =
  L395v2 u i0 i1 n0 f0 i2 i3 i4 i6 i5 (f0 i5.toNat 0).int (f0 i5.toNat 1).int (f0 i5.toNat 2).int (f0 i5.toNat 3).int i7 i8 u 0 (k .ret s395v1) (k (.exit 2) (s395v2 n0 f0 i0 i1 i2 i3 i4 i6 i5 i7 i8)) :=
 Eq.trans (loopN_at (by kernel_rfl)) (q395v2 ..)
theorem g395v2 :
  (kBlk 2 (kBlk 1 (kSeq (C43 u) u (14 :: 16 :: 18 :: (rl 61 22 [])) A9v4 (kLoop (eB A9v6 (C43 u) u) N395v3 m k)))) .ret s395v1 =
  (k .ret s395v1):=by kernel_rfl
theorem g395v3 :
  (kBlk 2 (kBlk 1 (kSeq (C43 u) u (14 :: 16 :: 18 :: (rl 61 22 [])) A9v4 (kLoop (eB A9v6 (C43 u) u) N395v3 m k)))) (.exit 2) (s395v2 n0 f0 i0 i1 i2 i3 i4 i5 i6 i7 i8) =
  (loopH (eB A9v6 (C43 u) u) N395v3 m (s395v3 n0 f0 i0 i1 i2 i3 i4 i5 (w64 (i6+1)) i7 i8) k):=by kernel_rfl
theorem q395v3:∀ (m:Nat) (x0:Int),
  loopH (eB A9v6 (C43 u) u) N395v3 m (s395v3 n0 f0 i0 i1 i2 i3 i4 i5 x0 i6 i7) k=L395v3 u i0 i1 n0 f0 i2 i3 i4 i5 i6 i7 m x0 (k .ret s395v1) (k (.exit 0) (s395v4 n0 f0 i0 i1 i2 i3 i4 i6 i7))
 | 0,_=>rfl
 | m+1,x0=>by
  rw [r395v3]
  simp only [L395v3,q395v3 m,t395v1,g395v2,g395v3]
def N395v4:St→Option St:=nN 1 (rl 0 4 (rl 6 4 (rl 11 8 (rl 20 96 (rl 119 46 [])))))
def s395v6:St:=⟨(us 4 (vxi i0 :: vxi i1 :: (us 4 (.x (.ptr 0 0) :: (us 8 (vxi i2 :: (us 96 (.x (.c (ro kE n0 f0)) :: vxi i3 :: vxi i4 :: (us 46 []))))))))),[.box [(vci i5),(vci i6)]]⟩
def s395v7:St:=⟨(us 165 []),[.dead]⟩
def L395v4 {ρ:Type} (u:Nat) (x0 x1 x2:Int) (x3:Nat) (x4:FF) (x5 x6 x7:Int):Nat→Int→(Option ρ)→(Option ρ)→Option ρ
 | 0,_,_,_=>none
 | m+1,x8,k0,k1 =>
  (bif (decide (x8<x5)) then (bif (inb x8 x3) then (bif ((decide (x6<(w64 ((x4 x8.toNat 2).int+x2))))==true) then (bif ((decide ((w64 ((w64 (x6+x0))+x2))>(x4 x8.toNat 0).int))==true) then (bif ((decide (x7<(w64 ((x4 x8.toNat 3).int+x2))))==true) then (bif (decide ((w64 ((w64 (x7+x1))+x2))>(x4 x8.toNat 1).int)) then k0 else (L395v4 u x0 x1 x2 x3 x4 x5 x6 x7 m (w64 (x8+1)) k0 k1)) else (L395v4 u x0 x1 x2 x3 x4 x5 x6 x7 m (w64 (x8+1)) k0 k1)) else (L395v4 u x0 x1 x2 x3 x4 x5 x6 x7 m (w64 (x8+1)) k0 k1)) else (L395v4 u x0 x1 x2 x3 x4 x5 x6 x7 m (w64 (x8+1)) k0 k1)) else none) else k1)
theorem nl395v4:∀ (m:Nat) (x0:Int) (k0:Option ρ) (k1:Option ρ),ob (L395v4 u i0 i1 i2 n0 f0 i3 i4 i5 m x0 k0 k1) ng=L395v4 u i0 i1 i2 n0 f0 i3 i4 i5 m x0 (ob k0 ng) (ob k1 ng)
 | 0,_,_,_=>rfl
 | m+1,x0,k0,k1=>by
  simp only [L395v4,ob_bif,ob_ob,ob_none,nl395v4 m]
theorem q395v4:∀ (m:Nat) (x0:Int),
  loopH (eB A9v9 (C43 u) u) N395v4 m (s395v6 n0 f0 i0 i1 i2 i3 x0 i4 i5) k=L395v4 u i0 i1 i2 n0 f0 i3 i4 i5 m x0 (k .ret s395v1) (k (.exit 4) s395v7)
 | 0,_=>rfl
 | m+1,x0=>by
  simp only [L395v4,← q395v4 m]
  kernel_rfl
def F395 (x0 x1:Int) (x2:Nat) (x3:FF) (x4 x5 x6 x7 x8:Int):Option (Bool) :=
 (ob (F389 u x0 0 32768) fun x9=>(bif ((!x9)==false) then (ob (F389 u x1 0 32768) fun xA=>(bif ((!xA)==false) then (ob (F389 u x8 0 500) fun xB=>(bif ((!xB)==false) then (ob (F389 u x6 1 32768) fun xC=>(bif ((!xC)==false) then (ob (F389 u x7 1 32768) fun xD=>(bif ((!xD)==false) then (ob (F389 u x4 (-32768) 32768) fun xE=>(bif ((!xE)==false) then (ob (F389 u x5 (-32768) 32768) fun xF=>(bif (!xF) then (some false) else (L395v3 u x0 x1 x2 x3 x6 x7 x8 (Int.ofNat x2) x4 x5 u 0
  (some false)
  (bif ((decide (x4<x8))==false) then (bif ((decide (x5<x8))==false) then (bif ((decide ((w64 (x4+x6))>(w64 (x0-x8))))==false) then (bif (decide ((w64 (x5+x7))>(w64 (x1-x8)))) then (some false) else (L395v4 u x6 x7 (if 1>x8 then 1 else x8) x2 x3 (Int.ofNat x2) x4 x5 u 0
  (some false)
  (some true))) else (some false)) else (some false)) else (some false))))) else (some false))) else (some false))) else (some false))) else (some false))) else (some false))) else (some false)))
def s395v8:St:=⟨(vxi i0 :: vxi i1 :: .x (.c (ro kE n0 f0)) :: .agg [(vci i2),(vci i3)] :: vxi i4 :: vxi i5 :: vxi i6 :: uu :: uu :: uu :: .x (.ptr 0 0) :: uu :: uu :: uu :: .u :: uu :: uu :: uu :: uu :: uu :: uu :: uu :: (us 35 [.x (.c (ro kE n0 f0)),vxi (Int.ofNat n0),vxi 0,uu,uu,uu,uu,uu,uu,uu,uu,uu,uu,uu,uu,uu,uu,uu,uu,uu,uu,uu,uu,uu,uu,uu,uu,uu,uu,uu,uu,uu,uu,uu,uu,uu,uu,uu,uu,uu,uu,uu,uu,uu,uu,uu,uu,uu,uu,uu,uu,uu,uu,uu,uu,uu,uu,uu,uu,uu,uu,uu,uu,uu,uu,uu,uu,uu,uu,uu,uu,uu,uu,uu,uu,uu,uu,uu,uu,uu,uu,uu,uu,uu,uu,uu,uu,uu,uu,uu,uu,uu,uu,uu,uu,uu,uu,uu,uu,uu,uu,uu,uu,uu,uu,uu,uu,uu])),[.box [(vci i2),(vci i3)]]⟩
theorem t395v4 :
  loopN (eB A9v6 (C43 u) u) N395v3 u (s395v8 n0 f0 i0 i1 i2 i3 i4 i5 i6) k =
  L395v3 u i0 i1 n0 f0 i4 i5 i6 (Int.ofNat n0) i2 i3 u 0 (k .ret s395v1) (k (.exit 0) (s395v4 n0 f0 i0 i1 i4 i5 i6 i2 i3)) :=
 Eq.trans (loopN_at (by kernel_rfl)) (q395v3 ..)
theorem g395v5 :
  (kBlk 0 (kSeq (C43 u) u (14 :: 16 :: 18 :: (rl 57 27 [])) A9v12 (finish A9))) .ret s395v1 =
  (some [.v (.b false)]):=by kernel_rfl
def s395v9:St:=⟨(vxi i0 :: vxi i1 :: .x (.c (ro kE n0 f0)) :: .u :: vxi i2 :: vxi i3 :: vxi i4 :: (us 3 (.x (.ptr 0 0) :: (us 8 (vxi (if 1>i4 then 1 else i4) :: (us 94 (vxi i4 :: vxi (if 1>i4 then 1 else i4) :: .x (.c (ro kE n0 f0)) :: vxi (Int.ofNat n0) :: vxi 0 :: (us 46 [])))))))),[.box [(vci i5),(vci i6)]]⟩
theorem g395v6 :
  (kBlk 0 (kSeq (C43 u) u (14 :: 16 :: 18 :: (rl 57 27 [])) A9v12 (finish A9))) (.exit 0) (s395v4 n0 f0 i0 i1 i2 i3 i4 i5 i6) =
  (bif ((decide (i5<i4))==false) then (bif ((decide (i6<i4))==false) then (bif ((decide ((w64 (i5+i2))>(w64 (i0-i4))))==false) then (bif (decide ((w64 (i6+i3))>(w64 (i1-i4)))) then (some [.v (.b false)]) else (loopN (eB A9v9 (C43 u) u) N395v4 u (s395v9 n0 f0 i0 i1 i2 i3 i4 i5 i6) (kBlk 4 (kSeq (C43 u) u (14 :: 21 :: (rl 116 49 [])) A9v10 (finish A9))))) else (some [.v (.b false)])) else (some [.v (.b false)])) else (some [.v (.b false)])):=by kernel_rfl
theorem t395v7 :
  loopN (eB A9v9 (C43 u) u) N395v4 u (s395v9 n0 f0 i0 i1 i2 i3 i4 i5 i6) k =
  L395v4 u i2 i3 (if 1>i4 then 1 else i4) n0 f0 (Int.ofNat n0) i5 i6 u 0 (k .ret s395v1) (k (.exit 4) s395v7) :=
 Eq.trans (loopN_at (by kernel_rfl)) (q395v4 ..)
theorem g395v8 :
  (kBlk 4 (kSeq (C43 u) u (14 :: 21 :: (rl 116 49 [])) A9v10 (finish A9))) .ret s395v1 =
  (some [.v (.b false)]):=by kernel_rfl
theorem g395v9 :
  (kBlk 4 (kSeq (C43 u) u (14 :: 21 :: (rl 116 49 [])) A9v10 (finish A9))) (.exit 4) s395v7 =
  (some [.v (.b true)]):=by kernel_rfl
theorem e395:evalF (C43 u) u A9 [.v (vi i0),.v (vi i1),.v (ro kE n0 f0),.agg [(vi i2),(vi i3)],.v (vi i4),.v (vi i5),.v (vi i6)]=ob (F395 u i0 i1 n0 f0 i2 i3 i4 i5 i6) fun t=>some [.v (.b t)]:=Eq.trans (b:=(ob (F389 u i0 0 32768) fun x0=>(bif ((!x0)==false) then (ob (F389 u i1 0 32768) fun x1=>(bif ((!x1)==false) then (ob (F389 u i6 0 500) fun x2=>(bif ((!x2)==false) then (ob (F389 u i4 1 32768) fun x3=>(bif ((!x3)==false) then (ob (F389 u i5 1 32768) fun x4=>(bif ((!x4)==false) then (ob (F389 u i2 (-32768) 32768) fun x5=>(bif ((!x5)==false) then (ob (F389 u i3 (-32768) 32768) fun x6=>(bif (!x6) then (some [.v (.b false)]) else (loopN (eB A9v6 (C43 u) u) N395v3 u (s395v8 n0 f0 i0 i1 i2 i3 i4 i5 i6) (kBlk 0 (kSeq (C43 u) u (14 :: 16 :: 18 :: (rl 57 27 [])) A9v12 (finish A9)))))) else (some [.v (.b false)]))) else (some [.v (.b false)]))) else (some [.v (.b false)]))) else (some [.v (.b false)]))) else (some [.v (.b false)]))) else (some [.v (.b false)])))) (by kernel_rfl) (by
 simp only [F395,ob_bif,ob_ob,ob_none,ob_some,nl395v3,nl395v4,t395v4,g395v5,g395v6,t395v7,g395v8,g395v9])
def O395:Ora:=mkO (qc (av ci) (qc (av ci) (qc (av (cL kE)) (qc (ag (tc ci (t1 ci))) (qc (av ci) (qc (av ci) (q1 (av ci)))))))) (fun x=>F395 u x.1 x.2.1 x.2.2.1.1 x.2.2.1.2 x.2.2.2.1.1 x.2.2.2.1.2 x.2.2.2.2.1 x.2.2.2.2.2.1 x.2.2.2.2.2.2) fun t=>[.v (.b t)]
theorem d395:DO (O395 u) (C43 u) 9 A9:=dO u (fun x=>by exact e395 u x.2.2.1.1 x.2.2.1.2 x.1 x.2.1 x.2.2.2.1.1 x.2.2.2.1.2 x.2.2.2.2.1 x.2.2.2.2.2.1 x.2.2.2.2.2.2)
def C44:Oracle:=(C43 u).add 9 (fun _=>true) (O395 u)
end Go.Eng.R13
