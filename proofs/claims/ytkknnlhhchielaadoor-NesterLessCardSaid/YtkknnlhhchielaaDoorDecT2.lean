/-
 The functions of the program,run on symbols;printed by decomp.py.
-/
import Derived.Test.YtkknnlhhchielaaDoorDecT1
set_option linter.all false
set_option maxRecDepth 1000000
set_option maxHeartbeats 4000000
namespace Go.Eng.R13
open Go Go.RowKit Go.Eng
variable {ρ σ : Type} (u m : Nat) (k : Ex → St → Option ρ) (ng : ρ → Option σ) (n0 n1 n2 n3 n4 n5 : Nat) (f0 f1 f2 f3 f4 f5 : FF) (i0 i1 i2 i3 i4 i5 i6 i7 i8 i9 iA iB iC iD iE iF iG iH iI iJ iK iL : Int) (b0 : Bool) (w0 w1 w2 w3 w4 w5 w6 : ByteArray) (g0 g1 : Nat → CV)
def A4v1:AC:=(.seq (.region 12 [o1 106 (ln 52 3 8),o1 107 (fa 47 2 1 6),o1 108 (lo 45 107),o1 109 (cs 13 [106,108] [52,45]),o1 110 (ln 52 3 5),o1 111 (fa 47 2 1 6),o1 112 (lo 45 111),o1 113 (cs 13 [110,112] [52,45]),o1 114 (bt .leq 3 109 113),mv 115 114,og 116 (cs 6 [] []) 115 true,o1 117 (po 115 116),o1 4 (sg 117)] 0 (some [[],[],[1],[0,1,2],[],[],[5],(rl 0 7 []),(rl 0 8 []),(rl 0 9 []),(rl 0 10 []),(rl 0 11 []),(rl 0 12 [])])) []
 (.ghost (rl 0 5 []) (.ret (rl 0 4 (rl 5 113 [])))))
def A4v2:AC:=(.seq (.seq (.region 10 [o1 89 (fa 47 2 0 0),o1 90 (fa 44 89 3 3),o1 91 (lo 3 90),o1 92 (bk .gtr 3 91 32768),mv 93 92,og 94 (fa 47 2 0 0) 93 false,og 95 (fa 44 94 4 4) 93 false,og 96 (lo 3 95) 93 false,og 97 (bk .gtr 3 96 32768) 93 false,o1 98 (pa 93 97)] 0 none) []
 (.cond (tm 98)
 (.seq (.region 11 [o1 99 (fa 52 5 2 2),o1 100 (lo 50 99),o1 101 (.len 50 false (tm 100)),o1 102 (bk .eql 3 101 0),mv 103 102,og 104 (cs 6 [] []) 103 true,o1 105 (po 103 104),o1 4 (sg 105)] 0 none) []
  (.ghost (rl 0 5 []) (.ret (rl 0 4 (rl 5 113 [])))))
 .skip)) (4 :: (rl 89 17 []))
 A4v1)
def A4v3:AC:=(.seq (.region 3 [o1 38 (fa 47 2 0 0),o1 39 (ln 44 6 38),o1 40 (fa 47 2 1 6),o1 41 (lo 45 40),o1 42 (fa 47 2 2 7),o1 43 (lo 3 42),o1 44 (.call 12 [(tm 39),(tm 41),(tm 43),(ic 10473)] [44,45,3,3] .freeze),mv 37 44,o1 45 (.extract (tm 37) 0),o1 46 (.extract (tm 37) 1),o1 5 (.alloc 0 52 [vcs ByteArray.empty,vci 0,vcn]),o0 (.store 52 3 (tm 5) (tm 45)),o1 6 (sg 46)] 1 none) []
 (.seq (.region 4 [o1 47 (fa 47 2 0 0),o1 48 (ln 44 6 47),o1 7 (.alloc 0 44 [vcs ByteArray.empty,vcs ByteArray.empty,vci 0,vci 0,vci 0,vcs ByteArray.empty]),o0 (.store 44 6 (tm 7) (tm 48))] 1 none) []
 (.seq (.region 5 [o1 49 (fa 44 7 3 3),o1 50 (lo 3 49),o1 51 (fa 44 7 3 3),o1 52 (lo 3 51),o1 53 (.indexAddrA 48 5 3 1 (tm 3) (ic 1)),o1 54 (lo 5 53),o1 55 (.convert 5 3 .i64 (tm 54)),o1 56 (.mm false [(tm 52),(tm 55)] [3,3]),o1 57 (bt .sub 3 50 56),o1 58 (fa 44 7 3 3),o0 (.store 3 1 (tm 58) (tm 57))] 0 none) []
 (.seq (.region 6 [o1 59 (fa 44 7 4 4),o1 60 (lo 3 59),o1 61 (fa 44 7 4 4),o1 62 (lo 3 61),o1 63 (.indexAddrA 48 5 3 1 (tm 3) (ic 2)),o1 64 (lo 5 63),o1 65 (.convert 5 3 .i64 (tm 64)),o1 66 (.mm false [(tm 62),(tm 65)] [3,3]),o1 67 (bt .sub 3 60 66),o1 68 (fa 44 7 4 4),o0 (.store 3 1 (tm 68) (tm 67))] 0 none) []
 (.seq (.region 7 [o1 70 (ln 44 6 7),o1 71 (fa 47 2 1 6),o1 72 (lo 45 71),o1 73 (fa 47 2 2 7),o1 74 (lo 3 73),o1 75 (.indexAddrA 48 5 3 1 (tm 3) (ic 0)),o1 76 (lo 5 75),o1 77 (.convert 5 3 .i64 (tm 76)),o1 78 (bt .add 3 74 77),o1 79 (.mm false [(ic 500),(tm 78)] [3,3]),o1 80 (.call 12 [(tm 70),(tm 72),(tm 79),(ic 10473)] [44,45,3,3] .freeze),mv 69 80,o1 81 (.extract (tm 69) 0),o1 82 (.extract (tm 69) 1),o1 8 (.alloc 0 52 [vcs ByteArray.empty,vci 0,vcn]),o0 (.store 52 3 (tm 8) (tm 81)),o1 9 (sg 82)] 1 none) []
 (.seq (.seq (.region 8 [mv 83 6,o1 84 (bk .neq 53 83 0),mv 85 84,og 86 (.move (tm 9)) 85 false,og 87 (bk .neq 53 86 0) 85 false,o1 88 (pa 85 87)] 0 none) []
 (.cond (tm 88)
 (.seq (.region 9 [o1 4 (sb false)] 0 none) []
  (.ghost (rl 0 5 []) (.ret (rl 0 4 (rl 5 113 [])))))
 .skip)) (4 :: (rl 83 6 []))
 A4v2))))))
def A4:AF:=⟨118,[.tmp 4],
 (.seq (.region 0 [o1 2 (bx 0 47 0),o1 3 (bx 1 48 1),o1 4 (sb false)] 2 none) []
 (.seq (.seq (.region 1 [o1 10 (fa 47 2 1 6),o1 11 (lo 45 10),o1 12 (.call 11 [(tm 11),(ic 4)] [45,3] .snap),o1 13 (.unOp .not 4 (tm 12)),mv 14 13,og 15 (fa 47 2 2 7) 14 false,og 16 (lo 3 15) 14 false,og 17 (bk .lss 3 16 0) 14 false,o1 18 (pa 14 17),mv 19 18,og 20 (fa 47 2 2 7) 19 false,og 21 (lo 3 20) 19 false,og 22 (bk .gtr 3 21 500) 19 false,o1 23 (pa 19 22),mv 24 23,og 25 (fa 47 2 0 0) 24 false,og 26 (fa 44 25 3 3) 24 false,og 27 (lo 3 26) 24 false,og 28 (bk .lss 3 27 0) 24 false,o1 29 (pa 24 28),mv 30 29,og 31 (fa 47 2 0 0) 30 false,og 32 (fa 44 31 4 4) 30 false,og 33 (lo 3 32) 30 false,og 34 (bk .lss 3 33 0) 30 false,o1 35 (pa 30 34)] 0 none) []
 (.cond (tm 35)
 (.seq (.region 2 [o1 36 (cs 6 [] []),o1 4 (sg 36)] 0 none) []
  (.ghost [0,1] (.ret (rl 0 4 (rl 5 113 [])))))
 .skip)) (4 :: (rl 10 27 []))
 A4v3))⟩
def F408 (x0:Nat→CV) (x1 x2 x3:Int):Option (Bool) :=
 (ob (F390 u (x0 6).len (x0 6).el 4) fun x4=>(bif ((!x4)==false) then (bif ((decide ((x0 7).int<0))==false) then (bif ((decide ((x0 7).int>500))==false) then (bif ((decide ((x0 3).int<0))==false) then (bif (decide ((x0 4).int<0)) then (ob (F403 u) fun x5=>(some x5)) else (ob (F401 u (x0 0).str (x0 1).str (x0 2).int (x0 3).int (x0 4).int (x0 5).str (x0 6).len (x0 6).el (x0 7).int 10473) fun x6=>(ob (F401 u (x0 0).str (x0 1).str (x0 2).int (w64 ((x0 3).int-(if (w64 x2)<(x0 3).int then (w64 x2) else (x0 3).int))) (w64 ((x0 4).int-(if (w64 x3)<(x0 4).int then (w64 x3) else (x0 4).int))) (x0 5).str (x0 6).len (x0 6).el (if (w64 ((x0 7).int+(w64 x1)))<500 then (w64 ((x0 7).int+(w64 x1))) else 500) 10473) fun x7=>(bif ((x6.2.2.2.2 != 0)==false) then (bif (x7.2.2.2.2 != 0) then (some false) else (bif ((decide ((x0 3).int>32768))==false) then (bif (decide ((x0 4).int>32768)) then (bif (((Int.ofNat x6.2.2.1)==0)==true) then (ob (F403 u) fun x8=>(some x8)) else (some false)) else (ob (F183 u x7.1 x7.2.1 x7.2.2.1 x7.2.2.2.1 (x0 6).len (x0 6).el) fun x9=>(ob (F183 u x6.1 x6.2.1 x6.2.2.1 x6.2.2.2.1 (x0 6).len (x0 6).el) fun xA=>(bif ((decide (x9≤xA))==true) then (ob (F403 u) fun xB=>(some xB)) else (some false))))) else (bif (((Int.ofNat x6.2.2.1)==0)==true) then (ob (F403 u) fun xC=>(some xC)) else (some false)))) else (some false))))) else (ob (F403 u) fun xD=>(some xD))) else (ob (F403 u) fun xE=>(some xE))) else (ob (F403 u) fun xF=>(some xF))) else (ob (F403 u) fun xG=>(some xG))))
theorem e408:evalF (C59 u) u A4 [.agg (pj kR1 g0),.agg [(.i .u8 i0),(.i .u8 i1),(.i .u8 i2)]]=ob (F408 u g0 i0 i1 i2) fun t=>some [.v (.b t)]:=by
 simp only [F408,ob_bif,ob_ob,ob_none,ob_some]
 kernel_rfl
def O408:Ora:=mkO (qc (ar kR1) (q1 (ag (tc (cI .u8) (tc (cI .u8) (t1 (cI .u8))))))) (fun x=>F408 u x.1 x.2.1 x.2.2.1 x.2.2.2) fun t=>[.v (.b t)]
theorem d408:DO (O408 u) (C59 u) 4 A4:=dO u (fun x=>by exact e408 u x.2.1 x.2.2.1 x.2.2.2 x.1)
/- Functions that the plain texts alone name. -/
def L21v1 {ρ:Type} (u:Nat) (x0:Nat) (x1:FF) (x2:Nat) (x3:FF):Nat→Int→Int→Int→Int→Int→(Int→Int→Int→Int→Option ρ)→Option ρ
 | 0,_,_,_,_,_,_=>none
 | m+1,x4,x5,x6,x7,x8,k0 =>
  (bif (decide (x4<(Int.ofNat x0))) then (bif (inb x4 x0) then (bif (x4==0) then (L21v1 u x0 x1 x2 x3 m (w64 (x4+1)) (if (x1 x4.toNat 0).int<(x1 x4.toNat 0).int then (x1 x4.toNat 0).int else (x1 x4.toNat 0).int) (if (x1 x4.toNat 1).int<(x1 x4.toNat 1).int then (x1 x4.toNat 1).int else (x1 x4.toNat 1).int) (if (x1 x4.toNat 0).int>(x1 x4.toNat 0).int then (x1 x4.toNat 0).int else (x1 x4.toNat 0).int) (if (x1 x4.toNat 1).int>(x1 x4.toNat 1).int then (x1 x4.toNat 1).int else (x1 x4.toNat 1).int) k0) else (L21v1 u x0 x1 x2 x3 m (w64 (x4+1)) (if (x1 x4.toNat 0).int<x5 then (x1 x4.toNat 0).int else x5) (if (x1 x4.toNat 1).int<x6 then (x1 x4.toNat 1).int else x6) (if (x1 x4.toNat 0).int>x7 then (x1 x4.toNat 0).int else x7) (if (x1 x4.toNat 1).int>x8 then (x1 x4.toNat 1).int else x8) k0)) else none) else (k0 x5 x6 x7 x8))
def F21 (x0:Nat) (x1:FF) (x2:Nat) (x3:FF):Option (Int × Int × Int × Int) :=
 (L21v1 u x0 x1 x2 x3 u 0 0 0 0 0
  (fun x4 x5 x6 x7=>(some (x4,x5,x6,x7))))
end Go.Eng.R13
