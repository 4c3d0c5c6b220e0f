/-
 The functions of the program,run on symbols; printed by decomp.py.
-/
import Derived.Test.YtbjfmobjdipehaaGreatDoorDecT1
set_option linter.all false
set_option maxRecDepth 1000000
set_option maxHeartbeats 4000000
namespace Go.Eng.R13
open Go Go.RowKit Go.Eng
variable {ρ : Type} (u : Nat)
def A5 : AF := ⟨75,[.tmp 0],
 (.seq (.region 0 [o1 0 (sb false)] 0 none) []
 (.seq (.region 1 [o1 10 (cf 12 [] []),o1 1 (.alloc 0 46 [vcs ByteArray.empty,vci 0,vci 0,vcs ByteArray.empty,vcs ByteArray.empty,vci 0,vcn,vcn,vcs ByteArray.empty,vci 0,vci 0,vci 0,vci 0,vci 0,vci 0,vci 0,vci 0,vci 0]),o0 (.store 46 18 (tm 1) (tm 10))] 1 none) []
 (.seq (.region 2 [o1 11 (.build 42 [vci 0,vci 0,vci 0] [(0,1),(1,1),(2,1)] 0 [(0,(ic 300)),(1,(ic 200))]),o1 12 (.build 42 [vci 0,vci 0,vci 0] [(0,1),(1,1),(2,1)] 0 [(0,(ic 300)),(1,(ic 200)),(2,(ic 5000))]),o1 13 (.buildSlice 0 29 42 kV 2 [vci 0,vci 0,vci 0] [(0,(tm 11)),(1,(tm 12))]),o1 2 (sg 13)] 1 none) []
 (.seq (.region 3 [o1 14 (.build 49 [vci 0,vci 0] [(0,1),(1,1)] 0 [(0,(ic 300)),(1,(ic 200))]),o1 15 (.build 51 [vcs ByteArray.empty,vci 0,vci 0,vci 0] [(0,1),(1,2),(3,1)] 0 [(0,(.const (.string (ByteArray.mk #[80,49])))),(1,(tm 14)),(2,(ic 80))]),o1 3 (.alloc 0 51 [vcs ByteArray.empty,vci 0,vci 0,vci 0]),o0 (.store 51 4 (tm 3) (tm 15))] 1 none) []
 (.seq (.region 4 [o1 16 (ln 46 18 1),o1 17 (.buildSlice 0 23 46 kA 1 [vcs ByteArray.empty,vci 0,vci 0,vcs ByteArray.empty,vcs ByteArray.empty,vci 0,vcn,vcn,vcs ByteArray.empty,vci 0,vci 0,vci 0,vci 0,vci 0,vci 0,vci 0,vci 0,vci 0] [(0,(tm 16))]),o1 18 (.build 28 [vcs ByteArray.empty,vcn,vcn,vcn,vcn,vcn] [(0,1),(1,1),(2,1),(3,1),(4,1),(5,1)] 0 [(2,(tm 17))]),o1 4 (.alloc 1 28 [vcs ByteArray.empty,vcn,vcn,vcn,vcn,vcn]),o0 (.store 28 6 (tm 4) (tm 18))] 2 none) []
 (.seq (.ghost [1,3] (.region 5 [o1 19 (ln 46 18 1),mv 20 2,o1 21 (.call 13 [(tm 19),(tm 20),(ic 80)] [46,29,3] .freeze),o1 22 (ln 28 6 4),mv 23 2,o1 24 (.call 7 [(tm 22),(tm 23),(ic 80)] [28,29,3] .freeze),o1 25 (ln 28 6 4),mv 26 2,o1 27 (.call 9 [(tm 25),(tm 26),(ic 80)] [28,29,3] .freeze),o1 5 (sg 21),o1 6 (sg 24),o1 7 (sg 27)] 0 (some [[],[],[0,1],[],[],(rl 0 5 []),[],[],(rl 0 8 []),(rl 0 9 []),(rl 0 10 []),(rl 0 11 [])]))) []
 (.seq (.region 6 [o1 28 (.build 49 [vci 0,vci 0] [(0,1),(1,1)] 0 [(0,(ic 250)),(1,(ic 150))]),o1 29 (.build 49 [vci 0,vci 0] [(0,1),(1,1)] 0 [(0,(ic 250)),(1,(ic 250))]),o1 30 (.build 49 [vci 0,vci 0] [(0,1),(1,1)] 0 [(0,(ic 350)),(1,(ic 250))]),o1 31 (.build 49 [vci 0,vci 0] [(0,1),(1,1)] 0 [(0,(ic 350)),(1,(ic 150))]),o1 32 (.buildSlice 0 37 49 kP 4 [vci 0,vci 0] [(0,(tm 28)),(1,(tm 29)),(2,(tm 30)),(3,(tm 31))]),o1 33 (.buildSlice 1 38 37 (.pr (.sl kP) .nil) 1 [vcn] [(0,(tm 32))]),o1 34 (fa 46 1 6 6),o1 35 (fa 40 34 1 1),o0 (.store 38 1 (tm 35) (tm 33))] 2 none) []
 (.seq (.region 7 [o1 36 (ln 46 18 1),o1 37 (.buildSlice 0 23 46 kA 1 [vcs ByteArray.empty,vci 0,vci 0,vcs ByteArray.empty,vcs ByteArray.empty,vci 0,vcn,vcn,vcs ByteArray.empty,vci 0,vci 0,vci 0,vci 0,vci 0,vci 0,vci 0,vci 0,vci 0] [(0,(tm 36))]),o1 38 (.build 28 [vcs ByteArray.empty,vcn,vcn,vcn,vcn,vcn] [(0,1),(1,1),(2,1),(3,1),(4,1),(5,1)] 0 [(2,(tm 37))]),mv 39 2,o1 40 (.call 9 [(tm 38),(tm 39),(ic 100)] [28,29,3] .freeze),o1 8 (sg 40)] 1 none) []
 (.seq (.region 8 [o1 41 (ln 51 4 3),o1 42 (.buildSlice 0 33 51 (.pr .str kV) 1 [vcs ByteArray.empty,vci 0,vci 0,vci 0] [(0,(tm 41))]),o1 9 (sg 42)] 1 none) []
 (.seq (.region 9 [o1 43 (fa 51 3 2 3),o0 (.store 3 1 (tm 43) (ic 101))] 0 none) []
 (.seq (.region 10 [mv 44 5,mv 45 9,o1 46 (cs 6 [44,45] [33,33]),mv 47 46,og 48 (.move (tm 6)) 47 true,og 49 (.move (tm 9)) 47 true,og 50 (cs 6 [48,49] [33,33]) 47 true,o1 51 (po 47 50),mv 52 51,og 53 (.move (tm 7)) 52 true,og 54 (.move (tm 9)) 52 true,og 55 (cs 6 [53,54] [33,33]) 52 true,o1 56 (po 52 55),mv 57 56,og 58 (.move (tm 8)) 57 true,og 59 (.len 33 false (tm 58)) 57 true,og 60 (bk .eql 3 59 0) 57 true,o1 61 (po 57 60),mv 62 61,og 63 (ln 46 18 1) 62 true,og 64 (.move (tm 9)) 62 true,og 65 (.indexAddr 33 51 4 (tm 64) (ic 0)) 62 true,og 66 (ln 51 4 65) 62 true,og 67 (cs 14 [63,66] [46,51]) 62 true,o1 68 (po 62 67),mv 69 68,og 70 (ln 46 18 1) 69 true,og 71 (ln 51 4 3) 69 true,og 72 (cs 14 [70,71] [46,51]) 69 true,og 73 (.unOp .not 4 (tm 72)) 69 true,o1 74 (po 69 73),o1 0 (sg 74)] 0 (some [[],[],[0,1],[0,1,2],(rl 0 4 []),(rl 0 4 []),(rl 0 6 []),(rl 0 7 []),(rl 0 8 []),(rl 0 9 []),(rl 0 9 []),(rl 0 11 []),(rl 0 12 []),(rl 0 13 []),(rl 0 14 []),(rl 0 15 []),(rl 0 16 []),(rl 0 17 []),(rl 0 18 []),(rl 0 19 []),(rl 0 19 []),(rl 0 19 [20]),(rl 0 19 [20,21]),(rl 0 23 []),(rl 0 24 []),(rl 0 25 []),(rl 0 26 []),(rl 0 26 []),(rl 0 28 []),(rl 0 29 []),(rl 0 30 []),(rl 0 31 [])])) []
 (.ret (rl 1 74 [])))))))))))))⟩
def D132 (k : Bool → Option ρ) : Option ρ :=
 (ob (F101 100) fun x0 => (ob (F121 100 (listF [(.s x0.1),(.i .i64 x0.2.1),(.i .i64 x0.2.2.1),(.s x0.2.2.2.1),(.s x0.2.2.2.2.1),(.i .i64 x0.2.2.2.2.2.1),(.ro false (.pr (.int .i64) (.pr (.int .i64) .nil)) x0.2.2.2.2.2.2.1 x0.2.2.2.2.2.2.2.1),(.ro false (.pr (.sl (.pr (.int .i64) (.pr (.int .i64) .nil))) .nil) x0.2.2.2.2.2.2.2.2.1 x0.2.2.2.2.2.2.2.2.2.1),(.s x0.2.2.2.2.2.2.2.2.2.2.1),(.i .i64 x0.2.2.2.2.2.2.2.2.2.2.2.1),(.i .i64 x0.2.2.2.2.2.2.2.2.2.2.2.2.1),(.i .i64 x0.2.2.2.2.2.2.2.2.2.2.2.2.2.1),(.i .i64 x0.2.2.2.2.2.2.2.2.2.2.2.2.2.2.1),(.i .i64 x0.2.2.2.2.2.2.2.2.2.2.2.2.2.2.2.1),(.i .i64 x0.2.2.2.2.2.2.2.2.2.2.2.2.2.2.2.2.1),(.i .i64 x0.2.2.2.2.2.2.2.2.2.2.2.2.2.2.2.2.2.1),(.i .i64 x0.2.2.2.2.2.2.2.2.2.2.2.2.2.2.2.2.2.2.1),(.i .i64 x0.2.2.2.2.2.2.2.2.2.2.2.2.2.2.2.2.2.2.2)]) 2 (rowsF 3 [(.i .i64 300),(.i .i64 200),(.i .i64 0),(.i .i64 300),(.i .i64 200),(.i .i64 5000)]) 80) fun x1 => (ob (F122 100 ByteArray.empty 0 (fun _ _ => .any) 1 (rowsF 18 [(.s x0.1),(.i .i64 x0.2.1),(.i .i64 x0.2.2.1),(.s x0.2.2.2.1),(.s x0.2.2.2.2.1),(.i .i64 x0.2.2.2.2.2.1),(.ro false (.pr (.int .i64) (.pr (.int .i64) .nil)) x0.2.2.2.2.2.2.1 x0.2.2.2.2.2.2.2.1),(.ro false (.pr (.sl (.pr (.int .i64) (.pr (.int .i64) .nil))) .nil) x0.2.2.2.2.2.2.2.2.1 x0.2.2.2.2.2.2.2.2.2.1),(.s x0.2.2.2.2.2.2.2.2.2.2.1),(.i .i64 x0.2.2.2.2.2.2.2.2.2.2.2.1),(.i .i64 x0.2.2.2.2.2.2.2.2.2.2.2.2.1),(.i .i64 x0.2.2.2.2.2.2.2.2.2.2.2.2.2.1),(.i .i64 x0.2.2.2.2.2.2.2.2.2.2.2.2.2.2.1),(.i .i64 x0.2.2.2.2.2.2.2.2.2.2.2.2.2.2.2.1),(.i .i64 x0.2.2.2.2.2.2.2.2.2.2.2.2.2.2.2.2.1),(.i .i64 x0.2.2.2.2.2.2.2.2.2.2.2.2.2.2.2.2.2.1),(.i .i64 x0.2.2.2.2.2.2.2.2.2.2.2.2.2.2.2.2.2.2.1),(.i .i64 x0.2.2.2.2.2.2.2.2.2.2.2.2.2.2.2.2.2.2.2)]) 0 (fun _ _ => .any) 0 (fun _ _ => .any) 0 (fun _ _ => .any) 2 (rowsF 3 [(.i .i64 300),(.i .i64 200),(.i .i64 0),(.i .i64 300),(.i .i64 200),(.i .i64 5000)]) 80) fun x2 => (ob (F130 100 ByteArray.empty 0 (fun _ _ => .any) 1 (rowsF 18 [(.s x0.1),(.i .i64 x0.2.1),(.i .i64 x0.2.2.1),(.s x0.2.2.2.1),(.s x0.2.2.2.2.1),(.i .i64 x0.2.2.2.2.2.1),(.ro false (.pr (.int .i64) (.pr (.int .i64) .nil)) x0.2.2.2.2.2.2.1 x0.2.2.2.2.2.2.2.1),(.ro false (.pr (.sl (.pr (.int .i64) (.pr (.int .i64) .nil))) .nil) x0.2.2.2.2.2.2.2.2.1 x0.2.2.2.2.2.2.2.2.2.1),(.s x0.2.2.2.2.2.2.2.2.2.2.1),(.i .i64 x0.2.2.2.2.2.2.2.2.2.2.2.1),(.i .i64 x0.2.2.2.2.2.2.2.2.2.2.2.2.1),(.i .i64 x0.2.2.2.2.2.2.2.2.2.2.2.2.2.1),(.i .i64 x0.2.2.2.2.2.2.2.2.2.2.2.2.2.2.1),(.i .i64 x0.2.2.2.2.2.2.2.2.2.2.2.2.2.2.2.1),(.i .i64 x0.2.2.2.2.2.2.2.2.2.2.2.2.2.2.2.2.1),(.i .i64 x0.2.2.2.2.2.2.2.2.2.2.2.2.2.2.2.2.2.1),(.i .i64 x0.2.2.2.2.2.2.2.2.2.2.2.2.2.2.2.2.2.2.1),(.i .i64 x0.2.2.2.2.2.2.2.2.2.2.2.2.2.2.2.2.2.2.2)]) 0 (fun _ _ => .any) 0 (fun _ _ => .any) 0 (fun _ _ => .any) 2 (rowsF 3 [(.i .i64 300),(.i .i64 200),(.i .i64 0),(.i .i64 300),(.i .i64 200),(.i .i64 5000)]) 80) fun x3 => (ob (F130 100 ByteArray.empty 0 (fun _ _ => .any) 1 (rowsF 18 [(.s x0.1),(.i .i64 x0.2.1),(.i .i64 x0.2.2.1),(.s x0.2.2.2.1),(.s x0.2.2.2.2.1),(.i .i64 x0.2.2.2.2.2.1),(.ro false (.pr (.int .i64) (.pr (.int .i64) .nil)) x0.2.2.2.2.2.2.1 x0.2.2.2.2.2.2.2.1),(.ro false (.pr (.sl (.pr (.int .i64) (.pr (.int .i64) .nil))) .nil) 1 (rowsF 1 [(.ro false (.pr (.int .i64) (.pr (.int .i64) .nil)) 4 (rowsF 2 [(.i .i64 250),(.i .i64 150),(.i .i64 250),(.i .i64 250),(.i .i64 350),(.i .i64 250),(.i .i64 350),(.i .i64 150)]))])),(.s x0.2.2.2.2.2.2.2.2.2.2.1),(.i .i64 x0.2.2.2.2.2.2.2.2.2.2.2.1),(.i .i64 x0.2.2.2.2.2.2.2.2.2.2.2.2.1),(.i .i64 x0.2.2.2.2.2.2.2.2.2.2.2.2.2.1),(.i .i64 x0.2.2.2.2.2.2.2.2.2.2.2.2.2.2.1),(.i .i64 x0.2.2.2.2.2.2.2.2.2.2.2.2.2.2.2.1),(.i .i64 x0.2.2.2.2.2.2.2.2.2.2.2.2.2.2.2.2.1),(.i .i64 x0.2.2.2.2.2.2.2.2.2.2.2.2.2.2.2.2.2.1),(.i .i64 x0.2.2.2.2.2.2.2.2.2.2.2.2.2.2.2.2.2.2.1),(.i .i64 x0.2.2.2.2.2.2.2.2.2.2.2.2.2.2.2.2.2.2.2)]) 0 (fun _ _ => .any) 0 (fun _ _ => .any) 0 (fun _ _ => .any) 2 (rowsF 3 [(.i .i64 300),(.i .i64 200),(.i .i64 0),(.i .i64 300),(.i .i64 200),(.i .i64 5000)]) 100) fun x4 => (ob (F131 u x1.1 x1.2 1 (rowsF 4 [(.s (ByteArray.mk #[80,49])),(.i .i64 300),(.i .i64 200),(.i .i64 80)])) fun x5 => (bif (x5 == true) then (ob (F131 u x2.1 x2.2 1 (rowsF 4 [(.s (ByteArray.mk #[80,49])),(.i .i64 300),(.i .i64 200),(.i .i64 80)])) fun x6 => (bif (x6 == true) then (ob (F131 u x3.1 x3.2 1 (rowsF 4 [(.s (ByteArray.mk #[80,49])),(.i .i64 300),(.i .i64 200),(.i .i64 80)])) fun x7 => (bif (x7 == true) then (bif (((Int.ofNat x4.1) == 0) == true) then (ob (F129 100 (listF [(.s x0.1),(.i .i64 x0.2.1),(.i .i64 x0.2.2.1),(.s x0.2.2.2.1),(.s x0.2.2.2.2.1),(.i .i64 x0.2.2.2.2.2.1),(.ro false (.pr (.int .i64) (.pr (.int .i64) .nil)) x0.2.2.2.2.2.2.1 x0.2.2.2.2.2.2.2.1),(.ro false (.pr (.sl (.pr (.int .i64) (.pr (.int .i64) .nil))) .nil) 1 (rowsF 1 [(.ro false (.pr (.int .i64) (.pr (.int .i64) .nil)) 4 (rowsF 2 [(.i .i64 250),(.i .i64 150),(.i .i64 250),(.i .i64 250),(.i .i64 350),(.i .i64 250),(.i .i64 350),(.i .i64 150)]))])),(.s x0.2.2.2.2.2.2.2.2.2.2.1),(.i .i64 x0.2.2.2.2.2.2.2.2.2.2.2.1),(.i .i64 x0.2.2.2.2.2.2.2.2.2.2.2.2.1),(.i .i64 x0.2.2.2.2.2.2.2.2.2.2.2.2.2.1),(.i .i64 x0.2.2.2.2.2.2.2.2.2.2.2.2.2.2.1),(.i .i64 x0.2.2.2.2.2.2.2.2.2.2.2.2.2.2.2.1),(.i .i64 x0.2.2.2.2.2.2.2.2.2.2.2.2.2.2.2.2.1),(.i .i64 x0.2.2.2.2.2.2.2.2.2.2.2.2.2.2.2.2.2.1),(.i .i64 x0.2.2.2.2.2.2.2.2.2.2.2.2.2.2.2.2.2.2.1),(.i .i64 x0.2.2.2.2.2.2.2.2.2.2.2.2.2.2.2.2.2.2.2)]) (CV.str ((rowsF 4 [(.s (ByteArray.mk #[80,49])),(.i .i64 300),(.i .i64 200),(.i .i64 80)]) 0 0)) (CV.int ((rowsF 4 [(.s (ByteArray.mk #[80,49])),(.i .i64 300),(.i .i64 200),(.i .i64 80)]) 0 1)) (CV.int ((rowsF 4 [(.s (ByteArray.mk #[80,49])),(.i .i64 300),(.i .i64 200),(.i .i64 80)]) 0 2)) (CV.int ((rowsF 4 [(.s (ByteArray.mk #[80,49])),(.i .i64 300),(.i .i64 200),(.i .i64 80)]) 0 3))) fun x8 => (bif (x8 == true) then (ob (F129 100 (listF [(.s x0.1),(.i .i64 x0.2.1),(.i .i64 x0.2.2.1),(.s x0.2.2.2.1),(.s x0.2.2.2.2.1),(.i .i64 x0.2.2.2.2.2.1),(.ro false (.pr (.int .i64) (.pr (.int .i64) .nil)) x0.2.2.2.2.2.2.1 x0.2.2.2.2.2.2.2.1),(.ro false (.pr (.sl (.pr (.int .i64) (.pr (.int .i64) .nil))) .nil) 1 (rowsF 1 [(.ro false (.pr (.int .i64) (.pr (.int .i64) .nil)) 4 (rowsF 2 [(.i .i64 250),(.i .i64 150),(.i .i64 250),(.i .i64 250),(.i .i64 350),(.i .i64 250),(.i .i64 350),(.i .i64 150)]))])),(.s x0.2.2.2.2.2.2.2.2.2.2.1),(.i .i64 x0.2.2.2.2.2.2.2.2.2.2.2.1),(.i .i64 x0.2.2.2.2.2.2.2.2.2.2.2.2.1),(.i .i64 x0.2.2.2.2.2.2.2.2.2.2.2.2.2.1),(.i .i64 x0.2.2.2.2.2.2.2.2.2.2.2.2.2.2.1),(.i .i64 x0.2.2.2.2.2.2.2.2.2.2.2.2.2.2.2.1),(.i .i64 x0.2.2.2.2.2.2.2.2.2.2.2.2.2.2.2.2.1),(.i .i64 x0.2.2.2.2.2.2.2.2.2.2.2.2.2.2.2.2.2.1),(.i .i64 x0.2.2.2.2.2.2.2.2.2.2.2.2.2.2.2.2.2.2.1),(.i .i64 x0.2.2.2.2.2.2.2.2.2.2.2.2.2.2.2.2.2.2.2)]) (ByteArray.mk #[80,49]) 300 200 101) fun x9 => (k (!x9))) else (k false))) else (k false)) else (k false))) else (k false))) else (k false))))))))
def F132 : Option (Bool) := D132 u some
theorem f132 (k : (Bool) → Option ρ) : D132 u k = ob (F132 u) k := by
 simp only [F132,D132,ob_bif,ob_ob,ob_none,ob_some]
theorem e132 : evalF (C61 u) u A5 [] = ob (F132 u) fun t => some [.v (.b t)] := Eq.trans (b := (ob (F101 100) fun x0 => (ob (F121 100 (listF [(.s x0.1),(vi x0.2.1),(vi x0.2.2.1),(.s x0.2.2.2.1),(.s x0.2.2.2.2.1),(vi x0.2.2.2.2.2.1),(ro kP x0.2.2.2.2.2.2.1 x0.2.2.2.2.2.2.2.1),(ro (.pr (.sl kP) .nil) x0.2.2.2.2.2.2.2.2.1 x0.2.2.2.2.2.2.2.2.2.1),(.s x0.2.2.2.2.2.2.2.2.2.2.1),(vi x0.2.2.2.2.2.2.2.2.2.2.2.1),(vi x0.2.2.2.2.2.2.2.2.2.2.2.2.1),(vi x0.2.2.2.2.2.2.2.2.2.2.2.2.2.1),(vi x0.2.2.2.2.2.2.2.2.2.2.2.2.2.2.1),(vi x0.2.2.2.2.2.2.2.2.2.2.2.2.2.2.2.1),(vi x0.2.2.2.2.2.2.2.2.2.2.2.2.2.2.2.2.1),(vi x0.2.2.2.2.2.2.2.2.2.2.2.2.2.2.2.2.2.1),(vi x0.2.2.2.2.2.2.2.2.2.2.2.2.2.2.2.2.2.2.1),(vi x0.2.2.2.2.2.2.2.2.2.2.2.2.2.2.2.2.2.2.2)]) 2 (rowsF 3 [(vi 300),(vi 200),(vi 0),(vi 300),(vi 200),(vi 5000)]) 80) fun x1 => (ob (F122 100 ByteArray.empty 0 nilF 1 (rowsF 18 [(.s x0.1),(vi x0.2.1),(vi x0.2.2.1),(.s x0.2.2.2.1),(.s x0.2.2.2.2.1),(vi x0.2.2.2.2.2.1),(ro kP x0.2.2.2.2.2.2.1 x0.2.2.2.2.2.2.2.1),(ro (.pr (.sl kP) .nil) x0.2.2.2.2.2.2.2.2.1 x0.2.2.2.2.2.2.2.2.2.1),(.s x0.2.2.2.2.2.2.2.2.2.2.1),(vi x0.2.2.2.2.2.2.2.2.2.2.2.1),(vi x0.2.2.2.2.2.2.2.2.2.2.2.2.1),(vi x0.2.2.2.2.2.2.2.2.2.2.2.2.2.1),(vi x0.2.2.2.2.2.2.2.2.2.2.2.2.2.2.1),(vi x0.2.2.2.2.2.2.2.2.2.2.2.2.2.2.2.1),(vi x0.2.2.2.2.2.2.2.2.2.2.2.2.2.2.2.2.1),(vi x0.2.2.2.2.2.2.2.2.2.2.2.2.2.2.2.2.2.1),(vi x0.2.2.2.2.2.2.2.2.2.2.2.2.2.2.2.2.2.2.1),(vi x0.2.2.2.2.2.2.2.2.2.2.2.2.2.2.2.2.2.2.2)]) 0 nilF 0 nilF 0 nilF 2 (rowsF 3 [(vi 300),(vi 200),(vi 0),(vi 300),(vi 200),(vi 5000)]) 80) fun x2 => (ob (F130 100 ByteArray.empty 0 nilF 1 (rowsF 18 [(.s x0.1),(vi x0.2.1),(vi x0.2.2.1),(.s x0.2.2.2.1),(.s x0.2.2.2.2.1),(vi x0.2.2.2.2.2.1),(ro kP x0.2.2.2.2.2.2.1 x0.2.2.2.2.2.2.2.1),(ro (.pr (.sl kP) .nil) x0.2.2.2.2.2.2.2.2.1 x0.2.2.2.2.2.2.2.2.2.1),(.s x0.2.2.2.2.2.2.2.2.2.2.1),(vi x0.2.2.2.2.2.2.2.2.2.2.2.1),(vi x0.2.2.2.2.2.2.2.2.2.2.2.2.1),(vi x0.2.2.2.2.2.2.2.2.2.2.2.2.2.1),(vi x0.2.2.2.2.2.2.2.2.2.2.2.2.2.2.1),(vi x0.2.2.2.2.2.2.2.2.2.2.2.2.2.2.2.1),(vi x0.2.2.2.2.2.2.2.2.2.2.2.2.2.2.2.2.1),(vi x0.2.2.2.2.2.2.2.2.2.2.2.2.2.2.2.2.2.1),(vi x0.2.2.2.2.2.2.2.2.2.2.2.2.2.2.2.2.2.2.1),(vi x0.2.2.2.2.2.2.2.2.2.2.2.2.2.2.2.2.2.2.2)]) 0 nilF 0 nilF 0 nilF 2 (rowsF 3 [(vi 300),(vi 200),(vi 0),(vi 300),(vi 200),(vi 5000)]) 80) fun x3 => (ob (F130 100 ByteArray.empty 0 nilF 1 (rowsF 18 [(.s x0.1),(vi x0.2.1),(vi x0.2.2.1),(.s x0.2.2.2.1),(.s x0.2.2.2.2.1),(vi x0.2.2.2.2.2.1),(ro kP x0.2.2.2.2.2.2.1 x0.2.2.2.2.2.2.2.1),(ro (.pr (.sl kP) .nil) 1 (rowsF 1 [(ro kP 4 (rowsF 2 [(vi 250),(vi 150),(vi 250),(vi 250),(vi 350),(vi 250),(vi 350),(vi 150)]))])),(.s x0.2.2.2.2.2.2.2.2.2.2.1),(vi x0.2.2.2.2.2.2.2.2.2.2.2.1),(vi x0.2.2.2.2.2.2.2.2.2.2.2.2.1),(vi x0.2.2.2.2.2.2.2.2.2.2.2.2.2.1),(vi x0.2.2.2.2.2.2.2.2.2.2.2.2.2.2.1),(vi x0.2.2.2.2.2.2.2.2.2.2.2.2.2.2.2.1),(vi x0.2.2.2.2.2.2.2.2.2.2.2.2.2.2.2.2.1),(vi x0.2.2.2.2.2.2.2.2.2.2.2.2.2.2.2.2.2.1),(vi x0.2.2.2.2.2.2.2.2.2.2.2.2.2.2.2.2.2.2.1),(vi x0.2.2.2.2.2.2.2.2.2.2.2.2.2.2.2.2.2.2.2)]) 0 nilF 0 nilF 0 nilF 2 (rowsF 3 [(vi 300),(vi 200),(vi 0),(vi 300),(vi 200),(vi 5000)]) 100) fun x4 => (ob (F131 u x1.1 x1.2 1 (rowsF 4 [(.s (ByteArray.mk #[80,49])),(vi 300),(vi 200),(vi 80)])) fun x5 => (bif (x5 == true) then (ob (F131 u x2.1 x2.2 1 (rowsF 4 [(.s (ByteArray.mk #[80,49])),(vi 300),(vi 200),(vi 80)])) fun x6 => (bif (x6 == true) then (ob (F131 u x3.1 x3.2 1 (rowsF 4 [(.s (ByteArray.mk #[80,49])),(vi 300),(vi 200),(vi 80)])) fun x7 => (bif (x7 == true) then (bif (((Int.ofNat x4.1) == 0) == true) then (ob (F129 100 (listF [(.s x0.1),(vi x0.2.1),(vi x0.2.2.1),(.s x0.2.2.2.1),(.s x0.2.2.2.2.1),(vi x0.2.2.2.2.2.1),(ro kP x0.2.2.2.2.2.2.1 x0.2.2.2.2.2.2.2.1),(ro (.pr (.sl kP) .nil) 1 (rowsF 1 [(ro kP 4 (rowsF 2 [(vi 250),(vi 150),(vi 250),(vi 250),(vi 350),(vi 250),(vi 350),(vi 150)]))])),(.s x0.2.2.2.2.2.2.2.2.2.2.1),(vi x0.2.2.2.2.2.2.2.2.2.2.2.1),(vi x0.2.2.2.2.2.2.2.2.2.2.2.2.1),(vi x0.2.2.2.2.2.2.2.2.2.2.2.2.2.1),(vi x0.2.2.2.2.2.2.2.2.2.2.2.2.2.2.1),(vi x0.2.2.2.2.2.2.2.2.2.2.2.2.2.2.2.1),(vi x0.2.2.2.2.2.2.2.2.2.2.2.2.2.2.2.2.1),(vi x0.2.2.2.2.2.2.2.2.2.2.2.2.2.2.2.2.2.1),(vi x0.2.2.2.2.2.2.2.2.2.2.2.2.2.2.2.2.2.2.1),(vi x0.2.2.2.2.2.2.2.2.2.2.2.2.2.2.2.2.2.2.2)]) (CV.str ((rowsF 4 [(.s (ByteArray.mk #[80,49])),(vi 300),(vi 200),(vi 80)]) 0 0)) (CV.int ((rowsF 4 [(.s (ByteArray.mk #[80,49])),(vi 300),(vi 200),(vi 80)]) 0 1)) (CV.int ((rowsF 4 [(.s (ByteArray.mk #[80,49])),(vi 300),(vi 200),(vi 80)]) 0 2)) (CV.int ((rowsF 4 [(.s (ByteArray.mk #[80,49])),(vi 300),(vi 200),(vi 80)]) 0 3))) fun x8 => (bif (x8 == true) then (ob (F129 100 (listF [(.s x0.1),(vi x0.2.1),(vi x0.2.2.1),(.s x0.2.2.2.1),(.s x0.2.2.2.2.1),(vi x0.2.2.2.2.2.1),(ro kP x0.2.2.2.2.2.2.1 x0.2.2.2.2.2.2.2.1),(ro (.pr (.sl kP) .nil) 1 (rowsF 1 [(ro kP 4 (rowsF 2 [(vi 250),(vi 150),(vi 250),(vi 250),(vi 350),(vi 250),(vi 350),(vi 150)]))])),(.s x0.2.2.2.2.2.2.2.2.2.2.1),(vi x0.2.2.2.2.2.2.2.2.2.2.2.1),(vi x0.2.2.2.2.2.2.2.2.2.2.2.2.1),(vi x0.2.2.2.2.2.2.2.2.2.2.2.2.2.1),(vi x0.2.2.2.2.2.2.2.2.2.2.2.2.2.2.1),(vi x0.2.2.2.2.2.2.2.2.2.2.2.2.2.2.2.1),(vi x0.2.2.2.2.2.2.2.2.2.2.2.2.2.2.2.2.1),(vi x0.2.2.2.2.2.2.2.2.2.2.2.2.2.2.2.2.2.1),(vi x0.2.2.2.2.2.2.2.2.2.2.2.2.2.2.2.2.2.2.1),(vi x0.2.2.2.2.2.2.2.2.2.2.2.2.2.2.2.2.2.2.2)]) (ByteArray.mk #[80,49]) 300 200 101) fun x9 => (some [.v (.b (!x9))])) else (some [.v (.b false)]))) else (some [.v (.b false)])) else (some [.v (.b false)]))) else (some [.v (.b false)]))) else (some [.v (.b false)]))))))))) (by kernel_rfl) (by
 rw [← f132]
 simp only [D132])
def O132 : Ora where
 o := fun args {ρ} K =>
  wn args <|
  (ob (F132 u) fun t => K [.v (.b t)])
 nat := fun args {ρ} K => by
  simp only [bind_wn,bind_ob,Option.bind_some]
theorem d132 : DO (O132 u) (C61 u) 5 A5 := by
 intro P hmix hC hF args res h
 obtain ⟨hn,z0⟩ := inv_wn h
 cases hn
 exact Den.weaken .nil (evalF_sound hmix hC hF ((e132 u).trans z0))
def C62 : Oracle := (C61 u).add 5 (fun _ => true) (O132 100)
def A53 : AF := ⟨49,[.tmp 2],
 (.seq (.region 0 [o1 1 (bx 0 44 0),o1 2 (sb false)] 1 none) []
 (.seq (.region 1 [o1 4 (fa 44 1 0 0),o1 5 (fa 42 4 0 0),o1 6 (lo 3 5),o1 7 (bk .geq 3 6 (-524288)),mv 8 7,og 9 (fa 44 1 0 0) 8 true,og 10 (fa 42 9 0 0) 8 true,og 11 (lo 3 10) 8 true,og 12 (bk .leq 3 11 524288) 8 true,o1 13 (po 8 12),mv 14 13,og 15 (fa 44 1 0 0) 14 true,og 16 (fa 42 15 1 1) 14 true,og 17 (lo 3 16) 14 true,og 18 (bk .geq 3 17 (-524288)) 14 true,o1 19 (po 14 18),mv 20 19,og 21 (fa 44 1 0 0) 20 true,og 22 (fa 42 21 1 1) 20 true,og 23 (lo 3 22) 20 true,og 24 (bk .leq 3 23 524288) 20 true,o1 25 (po 20 24),mv 26 25,og 27 (fa 44 1 0 0) 26 true,og 28 (fa 42 27 2 2) 26 true,og 29 (lo 3 28) 26 true,og 30 (bk .geq 3 29 (-524288)) 26 true,o1 31 (po 26 30),mv 32 31,og 33 (fa 44 1 0 0) 32 true,og 34 (fa 42 33 2 2) 32 true,og 35 (lo 3 34) 32 true,og 36 (bk .leq 3 35 524288) 32 true,o1 37 (po 32 36),o1 3 (sg 37)] 0 none) []
 (.seq (.region 2 [mv 38 3,mv 39 38,og 40 (fa 44 1 1 3) 39 true,og 41 (lo 3 40) 39 true,og 42 (bk .geq 3 41 0) 39 true,o1 43 (po 39 42),mv 44 43,og 45 (fa 44 1 1 3) 44 true,og 46 (lo 3 45) 44 true,og 47 (bk .leq 3 46 23) 44 true,o1 48 (po 44 47),o1 2 (sg 48)] 0 none) []
 (.ret (0 :: 1 :: (rl 3 46 []))))))⟩
def D133 (u : Nat) (x0 x1 x2 x3 : Int) (k : Bool → Option ρ) : Option ρ :=
 (bif ((decide (x0 ≥ (-524288))) == true) then (bif ((decide (x0 ≤ 524288)) == true) then (bif ((decide (x1 ≥ (-524288))) == true) then (bif ((decide (x1 ≤ 524288)) == true) then (bif ((decide (x2 ≥ (-524288))) == true) then (bif ((decide (x2 ≤ 524288)) == true) then (bif ((decide (x3 ≥ 0)) == true) then (k (decide (x3 ≤ 23))) else (k false)) else (k false)) else (k false)) else (k false)) else (k false)) else (k false)) else (k false))
def F133 (x0 x1 x2 x3 : Int) : Option (Bool) := D133 u x0 x1 x2 x3 some
theorem f133 (x0 x1 x2 x3 : Int) (k : (Bool) → Option ρ) : D133 u x0 x1 x2 x3 k = ob (F133 u x0 x1 x2 x3) k := by
 simp only [F133,D133,ob_bif,ob_ob,ob_none,ob_some]
theorem e133 (x0 x1 x2 x3 : Int) : evalF (C62 u) u A53 [.agg [(vi x0),(vi x1),(vi x2),(vi x3)]] = ob (F133 u x0 x1 x2 x3) fun t => some [.v (.b t)] := Eq.trans (b := (bif ((decide (x0 ≥ (-524288))) == true) then (bif ((decide (x0 ≤ 524288)) == true) then (bif ((decide (x1 ≥ (-524288))) == true) then (bif ((decide (x1 ≤ 524288)) == true) then (bif ((decide (x2 ≥ (-524288))) == true) then (bif ((decide (x2 ≤ 524288)) == true) then (bif ((decide (x3 ≥ 0)) == true) then (some [.v (.b (decide (x3 ≤ 23)))]) else (some [.v (.b false)])) else (some [.v (.b false)])) else (some [.v (.b false)])) else (some [.v (.b false)])) else (some [.v (.b false)])) else (some [.v (.b false)])) else (some [.v (.b false)]))) (by kernel_rfl) (by
 rw [← f133]
 simp only [D133])
def O133 : Ora where
 o := fun args {ρ} K =>
  wc args fun a1 l2 =>
  wagg a1 fun l3 =>
  wdI .i64 l3 fun y7 l5 =>
  wdI .i64 l5 fun y11 l9 =>
  wdI .i64 l9 fun y15 l13 =>
  wdI .i64 l13 fun y19 l17 =>
  wn l17 <|
  wn l2 <|
  (ob (F133 u y7 y11 y15 y19) fun t => K [.v (.b t)])
 nat := fun args {ρ} K => by
  simp only [bind_wagg,bind_wc,bind_wdI,bind_wn,bind_ob,Option.bind_some]
theorem d133 : DO (O133 u) (C62 u) 53 A53 := by
 intro P hmix hC hF args res h
 obtain ⟨a1,l2,rfl,z0⟩ := inv_wc h
 obtain ⟨l3,rfl,z1⟩ := inv_wagg z0
 obtain ⟨a4,y7,l5,rfl,h6,z2⟩ := inv_wdI z1
 obtain ⟨a8,y11,l9,rfl,h10,z3⟩ := inv_wdI z2
 obtain ⟨a12,y15,l13,rfl,h14,z4⟩ := inv_wdI z3
 obtain ⟨a16,y19,l17,rfl,h18,z5⟩ := inv_wdI z4
 obtain ⟨hn,z6⟩ := inv_wn z5
 cases hn
 obtain ⟨hn,z7⟩ := inv_wn z6
 cases hn
 exact Den.weaken (.cons (WkA.agg (.cons h6 (.cons h10 (.cons h14 (.cons h18 .nil))))) .nil) (evalF_sound hmix hC hF ((e133 u y7 y11 y15 y19).trans z7))
def C63 : Oracle := (C62 u).add 53 (fun _ => true) (O133 100)
def A33 : AF := ⟨7,[.cell 2 40 (some 2)],
 (.seq (.region 0 [o1 1 (bx 0 46 0),o1 2 (.alloc 1 40 [vcn,vcn])] 2 none) []
 (.seq (.region 1 [o1 3 (fa 46 1 6 6),o1 4 (fa 40 3 0 0),o1 5 (lo 37 4),o1 6 (.build 40 [vcn,vcn] [(0,1),(1,1)] 0 [(0,(tm 5))]),o0 (.store 40 2 (tm 2) (tm 6))] 0 none) []
 (.ret (0 :: 1 :: (rl 3 4 [])))))⟩
def D134 (u : Nat) (x0 : Nat → CV) (k : (Nat × FF × Nat × FF) → Option ρ) : Option ρ :=
 (k ((x0 6).len,(x0 6).el,0,(fun _ _ => .any)))
def FT134 (x0 : Nat → CV) : Option (Nat × FF × Nat × FF) := D134 u x0 some
theorem f134 (x0 : Nat → CV) (k : (Nat × FF × Nat × FF) → Option ρ) : D134 u x0 k = ob (FT134 u x0) k := by
 simp only [FT134,D134,ob_bif,ob_ob,ob_none,ob_some]
theorem e134 (x0 : Nat → CV) : evalF (C63 u) u A33 [.agg (pj kR0 x0)] = ob (FT134 u x0) fun t => some [.agg [(ro kP t.1 t.2.1),(.ro true .nil 0 nilF)]] := Eq.trans (b := (some [.agg [(ro kP (x0 6).len (x0 6).el),(.ro true .nil 0 nilF)]])) (by kernel_rfl) (by
 rw [← f134]
 simp only [D134])
def F134 (x0 : Nat → CV) : Option (Nat × FF × Nat × FF) := ob (FT134 u x0) fun t => some (t.1,t.2.1,0,(fun _ _ => .any))
def O134 : Ora where
 o := fun args {ρ} K =>
  wc args fun a1 l2 =>
  wrow kR0 a1 fun y3 =>
  wn l2 <|
  (ob (F134 u y3) fun t => K [.agg [(ro kP t.1 t.2.1),(ro (.pr (.sl kP) .nil) t.2.2.1 t.2.2.2)]])
 nat := fun args {ρ} K => by
  simp only [bind_wc,bind_wn,bind_wrow,bind_ob,Option.bind_some]
theorem d134 (fuel : Nat) : DO (O134 fuel) (C63 fuel) 33 A33 := by
 intro P hmix hC hF args res h
 obtain ⟨a1,l2,rfl,z0⟩ := inv_wc h
 obtain ⟨y3,h4,z1⟩ := inv_wrow z0
 obtain ⟨hn,z2⟩ := inv_wn z1
 cases hn
 obtain ⟨u,hu,hr⟩ := ob_inv z2
 cases hr
 obtain ⟨t,ht,hv⟩ := ob_inv (show ob (FT134 fuel y3) _ = some u from hu)
 cases hv
 refine Den.results ?_ (Den.weaken (.cons h4 .nil) (evalF_sound hmix hC hF ((e134 fuel y3).trans (by rw [ht]; rfl))))
 exact (.cons (WkA.agg (.cons (Wk.refl _) (.cons (Wk.ro (by rfl)) .nil))) .nil)
def C64 : Oracle := (C63 u).add 33 (fun _ => true) (O134 100)
def A77 : AF := ⟨21,[.tmp 2],
 (.seq (.region 0 [o1 1 (bx 0 49 0),o1 2 (sb false)] 1 none) []
 (.seq (.region 1 [o1 3 (fa 49 1 0 0),o1 4 (lo 3 3),o1 5 (bk .geq 3 4 (-32768)),mv 6 5,og 7 (fa 49 1 0 0) 6 true,og 8 (lo 3 7) 6 true,og 9 (bk .leq 3 8 32768) 6 true,o1 10 (po 6 9),mv 11 10,og 12 (fa 49 1 1 1) 11 true,og 13 (lo 3 12) 11 true,og 14 (bk .geq 3 13 (-32768)) 11 true,o1 15 (po 11 14),mv 16 15,og 17 (fa 49 1 1 1) 16 true,og 18 (lo 3 17) 16 true,og 19 (bk .leq 3 18 32768) 16 true,o1 20 (po 16 19),o1 2 (sg 20)] 0 none) []
 (.ret (0 :: 1 :: (rl 3 18 [])))))⟩
def D69 (u : Nat) (x0 x1 : Int) (k : Bool → Option ρ) : Option ρ :=
 (bif ((decide (x0 ≥ (-32768))) == true) then (bif ((decide (x0 ≤ 32768)) == true) then (bif ((decide (x1 ≥ (-32768))) == true) then (k (decide (x1 ≤ 32768))) else (k false)) else (k false)) else (k false))
def F69 (x0 x1 : Int) : Option (Bool) := D69 u x0 x1 some
theorem f69 (x0 x1 : Int) (k : (Bool) → Option ρ) : D69 u x0 x1 k = ob (F69 u x0 x1) k := by
 simp only [F69,D69,ob_bif,ob_ob,ob_none,ob_some]
theorem e69 (x0 x1 : Int) : evalF (C64 u) u A77 [.agg [(vi x0),(vi x1)]] = ob (F69 u x0 x1) fun t => some [.v (.b t)] := Eq.trans (b := (bif ((decide (x0 ≥ (-32768))) == true) then (bif ((decide (x0 ≤ 32768)) == true) then (bif ((decide (x1 ≥ (-32768))) == true) then (some [.v (.b (decide (x1 ≤ 32768)))]) else (some [.v (.b false)])) else (some [.v (.b false)])) else (some [.v (.b false)]))) (by kernel_rfl) (by
 rw [← f69]
 simp only [D69])
def O69 : Ora where
 o := fun args {ρ} K =>
  wc args fun a1 l2 =>
  wagg a1 fun l3 =>
  wdI .i64 l3 fun y7 l5 =>
  wdI .i64 l5 fun y11 l9 =>
  wn l9 <|
  wn l2 <|
  (ob (F69 u y7 y11) fun t => K [.v (.b t)])
 nat := fun args {ρ} K => by
  simp only [bind_wagg,bind_wc,bind_wdI,bind_wn,bind_ob,Option.bind_some]
theorem d69 : DO (O69 u) (C64 u) 77 A77 := by
 intro P hmix hC hF args res h
 obtain ⟨a1,l2,rfl,z0⟩ := inv_wc h
 obtain ⟨l3,rfl,z1⟩ := inv_wagg z0
 obtain ⟨a4,y7,l5,rfl,h6,z2⟩ := inv_wdI z1
 obtain ⟨a8,y11,l9,rfl,h10,z3⟩ := inv_wdI z2
 obtain ⟨hn,z4⟩ := inv_wn z3
 cases hn
 obtain ⟨hn,z5⟩ := inv_wn z4
 cases hn
 exact Den.weaken (.cons (WkA.agg (.cons h6 (.cons h10 .nil))) .nil) (evalF_sound hmix hC hF ((e69 u y7 y11).trans z5))
def C65 : Oracle := (C64 u).add 77 (fun _ => true) (O69 100)
def A90v1 : AC := (.region 3 [mv 8 3,o1 9 (bk .add 3 8 1),o1 3 (sg 9)] 0 none)
def A90v2 : AC := (.seq (.block 1
 (.seq (.region 4 [mv 10 0,mv 11 3,o1 12 (.indexAddr 37 49 2 (tm 10) (tm 11)),o1 13 (ln 49 2 12),o1 14 (cs 77 [13] [49]),o1 15 (.unOp .not 4 (tm 14))] 0 none) []
  (.cond (tm 15)
  (.seq (.region 5 [o1 2 (sb false)] 0 none) []
   (.ret (0 :: 1 :: (rl 3 13 []))))
  .skip))) (2 :: (rl 10 6 []))
 A90v1)
def A90v3 : AC := (.seq (.seq (.region 2 [mv 4 3,mv 5 0,o1 6 (.len 37 false (tm 5)),o1 7 (bt .lss 3 4 6)] 0 none) []
 (.cond (tm 7)
 .skip
 (.exit 0 (rl 0 16 [])))) (rl 4 4 [])
 A90v2)
def A90v4 : AC := (.seq (.region 6 [o1 2 (sb true)] 0 none) []
 (.ret (0 :: 1 :: (rl 3 13 []))))
def A90 : AF := ⟨16,[.tmp 2],
 (.seq (.region 0 [o1 2 (sb false)] 0 none) []
 (.seq (.seq (.region 1 [o1 3 (sk 0)] 0 none) []
 (.block 0
 (.loop [] (1 :: 2 :: (rl 4 12 []))
  A90v3))) (rl 2 14 [])
 A90v4))⟩
def B66v1 (C : Oracle) (u : Nat) : St → (Ex → St → Option ρ) → Option ρ := fun st k => evalC C u A90v3 st k
def N66v1 : St → Option St := fun s => s.norm (1 :: 2 :: (rl 4 12 [])) 0
def s66v0 (x0 : Nat) (x1 : FF) (x2 : Int) : St := ⟨(.x (.c (ro kP x0 x1)) :: .u :: .u :: vxi x2 :: (us 12 [])),[]⟩
def s66v1 : St := ⟨(.u :: .u :: vxb false :: (us 13 [])),[]⟩
def s66v2 : St := ⟨(us 16 []),[]⟩
def L66v1 {ρ : Type} (u : Nat) (x0 : Nat) (x1 : FF) : Nat → Int → (Option ρ) → (Option ρ) → Option ρ
 | 0,_,_,_ => none
 | m + 1,x2,k0,k1 =>
  (bif (decide (x2 < (Int.ofNat x0))) then (bif (inb x2 x0) then (ob (F69 100 (x1 x2.toNat 0).int (x1 x2.toNat 1).int) fun x3 => (bif (!x3) then k0 else (L66v1 u x0 x1 m (w64 (x2 + 1)) k0 k1))) else none) else k1)
theorem nl66v1 {ρ σ : Type} (u : Nat) (x0 : Nat) (x1 : FF) (g : ρ → Option σ) : ∀ (m : Nat) (x2 : Int) (k0 : Option ρ) (k1 : Option ρ),ob (L66v1 u x0 x1 m x2 k0 k1) g = L66v1 u x0 x1 m x2 (ob k0 g) (ob k1 g)
 | 0,_,_,_ => rfl
 | m + 1,x2,k0,k1 => by
  simp only [L66v1,ob_bif,ob_ob,ob_none,nl66v1 u x0 x1 g m]
theorem r66v1 (m : Nat) (k : Ex → St → Option ρ) (x0 : Nat) (x1 : FF) (x2 : Int) :
  loopH (B66v1 (C65 u) u) N66v1 (m + 1) (s66v0 x0 x1 x2) k =
  (bif (decide (x2 < (Int.ofNat x0))) then (bif (inb x2 x0) then (ob (F69 100 (x1 x2.toNat 0).int (x1 x2.toNat 1).int) fun x3 => (bif (!x3) then (k .ret s66v1) else (loopH (B66v1 (C65 u) u) N66v1 m (s66v0 x0 x1 (w64 (x2 + 1))) k))) else none) else (k (.exit 0) s66v2)) := by kernel_rfl
theorem q66v1 (u : Nat) (x0 : Nat) (x1 : FF) {ρ : Type} (k : Ex → St → Option ρ) : ∀ (m : Nat) (x2 : Int),
  loopH (B66v1 (C65 u) u) N66v1 m (s66v0 x0 x1 x2) k = L66v1 u x0 x1 m x2 (k .ret s66v1) (k (.exit 0) s66v2)
 | 0,_ => rfl
 | m + 1,x2 => by
  rw [r66v1]
  simp only [L66v1,q66v1 u x0 x1 k m]
def D66 (x0 : Nat) (x1 : FF) (k : Bool → Option ρ) : Option ρ :=
 (L66v1 u x0 x1 u 0
  (k false)
  (k true))
def F66 (x0 : Nat) (x1 : FF) : Option (Bool) := D66 u x0 x1 some
theorem f66 (x0 : Nat) (x1 : FF) (k : (Bool) → Option ρ) : D66 u x0 x1 k = ob (F66 u x0 x1) k := by
 simp only [F66,D66,ob_bif,ob_ob,ob_none,ob_some,nl66v1]
def s66v3 (x0 : Nat) (x1 : FF) : St := ⟨[.x (.c (ro kP x0 x1)),uu,vxb false,vxi 0,uu,uu,uu,uu,uu,uu,uu,uu,uu,uu,uu,uu],[]⟩
theorem t66v1 (k : Ex → St → Option ρ) (x0 : Nat) (x1 : FF) :
  loopN (B66v1 (C65 u) u) N66v1 u (s66v3 x0 x1) k =
  L66v1 u x0 x1 u 0 (k .ret s66v1) (k (.exit 0) s66v2) :=
 (loopN_at (st' := (s66v0 x0 x1 0)) (by kernel_rfl)).trans (q66v1 u x0 x1 k u 0)
theorem g66v2 :
  (kBlk 0 (kSeq (C65 u) u (rl 2 14 []) A90v4 (finish A90))) .ret s66v1 =
  (some [.v (.b false)]) := by kernel_rfl
theorem g66v3 :
  (kBlk 0 (kSeq (C65 u) u (rl 2 14 []) A90v4 (finish A90))) (.exit 0) s66v2 =
  (some [.v (.b true)]) := by kernel_rfl
theorem e66 (x0 : Nat) (x1 : FF) : evalF (C65 u) u A90 [.v (ro kP x0 x1)] = ob (F66 u x0 x1) fun t => some [.v (.b t)] := Eq.trans (b := (loopN (B66v1 (C65 u) u) N66v1 u (s66v3 x0 x1) (kBlk 0 (kSeq (C65 u) u (rl 2 14 []) A90v4 (finish A90))))) (by kernel_rfl) (by
 rw [← f66]
 simp only [D66,t66v1,g66v2,g66v3])
def O66 : Ora where
 o := fun args {ρ} K =>
  wcL kP args fun y4 y5 l2 =>
  wn l2 <|
  (ob (F66 u y4 y5) fun t => K [.v (.b t)])
 nat := fun args {ρ} K => by
  simp only [bind_wcL,bind_wn,bind_ob,Option.bind_some]
theorem d66 : DO (O66 u) (C65 u) 90 A90 := by
 intro P hmix hC hF args res h
 obtain ⟨a1,y4,y5,l2,rfl,h3,z0⟩ := inv_wcL h
 obtain ⟨hn,z1⟩ := inv_wn z0
 cases hn
 exact Den.weaken (.cons h3 .nil) (evalF_sound hmix hC hF ((e66 u y4 y5).trans z1))
def C66 : Oracle := (C65 u).add 90 (fun _ => true) (O66 100)
def A79 : AF := ⟨30,[.tmp 6],
 (.seq (.region 0 [o1 3 (bx 0 49 0),o1 4 (bx 1 49 1),o1 5 (bx 2 49 2),o1 6 (sk 0)] 3 none) []
 (.seq (.region 1 [o1 7 (fa 49 4 0 0),o1 8 (lo 3 7),o1 9 (fa 49 3 0 0),o1 10 (lo 3 9),o1 11 (bt .sub 3 8 10),o1 12 (fa 49 5 1 1),o1 13 (lo 3 12),o1 14 (fa 49 3 1 1),o1 15 (lo 3 14),o1 16 (bt .sub 3 13 15),o1 17 (bt .mul 3 11 16),o1 18 (fa 49 4 1 1),o1 19 (lo 3 18),o1 20 (fa 49 3 1 1),o1 21 (lo 3 20),o1 22 (bt .sub 3 19 21),o1 23 (fa 49 5 0 0),o1 24 (lo 3 23),o1 25 (fa 49 3 0 0),o1 26 (lo 3 25),o1 27 (bt .sub 3 24 26),o1 28 (bt .mul 3 22 27),o1 29 (bt .sub 3 17 28),o1 6 (sg 29)] 0 none) []
 (.ret (rl 0 6 (rl 7 23 [])))))⟩
def D71 (u : Nat) (x0 x1 x2 x3 x4 x5 : Int) (k : Int → Option ρ) : Option ρ :=
 (k (w64 ((w64 ((w64 (x2 - x0)) * (w64 (x5 - x1)))) - (w64 ((w64 (x3 - x1)) * (w64 (x4 - x0)))))))
def F71 (x0 x1 x2 x3 x4 x5 : Int) : Option (Int) := D71 u x0 x1 x2 x3 x4 x5 some
theorem f71 (x0 x1 x2 x3 x4 x5 : Int) (k : (Int) → Option ρ) : D71 u x0 x1 x2 x3 x4 x5 k = ob (F71 u x0 x1 x2 x3 x4 x5) k := by
 simp only [F71,D71,ob_bif,ob_ob,ob_none,ob_some]
theorem e71 (x0 x1 x2 x3 x4 x5 : Int) : evalF (C66 u) u A79 [.agg [(vi x0),(vi x1)],.agg [(vi x2),(vi x3)],.agg [(vi x4),(vi x5)]] = ob (F71 u x0 x1 x2 x3 x4 x5) fun t => some [.v (vi t)] := Eq.trans (b := (some [.v (vi (w64 ((w64 ((w64 (x2 - x0)) * (w64 (x5 - x1)))) - (w64 ((w64 (x3 - x1)) * (w64 (x4 - x0)))))))])) (by kernel_rfl) (by
 rw [← f71]
 simp only [D71])
def O71 : Ora where
 o := fun args {ρ} K =>
  wc args fun a1 l2 =>
  wagg a1 fun l3 =>
  wdI .i64 l3 fun y7 l5 =>
  wdI .i64 l5 fun y11 l9 =>
  wn l9 <|
  wc l2 fun a12 l13 =>
  wagg a12 fun l14 =>
  wdI .i64 l14 fun y18 l16 =>
  wdI .i64 l16 fun y22 l20 =>
  wn l20 <|
  wc l13 fun a23 l24 =>
  wagg a23 fun l25 =>
  wdI .i64 l25 fun y29 l27 =>
  wdI .i64 l27 fun y33 l31 =>
  wn l31 <|
  wn l24 <|
  (ob (F71 u y7 y11 y18 y22 y29 y33) fun t => K [.v (vi t)])
 nat := fun args {ρ} K => by
  simp only [bind_wagg,bind_wc,bind_wdI,bind_wn,bind_ob,Option.bind_some]
theorem d71 : DO (O71 u) (C66 u) 79 A79 := by
 intro P hmix hC hF args res h
 obtain ⟨a1,l2,rfl,z0⟩ := inv_wc h
 obtain ⟨l3,rfl,z1⟩ := inv_wagg z0
 obtain ⟨a4,y7,l5,rfl,h6,z2⟩ := inv_wdI z1
 obtain ⟨a8,y11,l9,rfl,h10,z3⟩ := inv_wdI z2
 obtain ⟨hn,z4⟩ := inv_wn z3
 cases hn
 obtain ⟨a12,l13,rfl,z5⟩ := inv_wc z4
 obtain ⟨l14,rfl,z6⟩ := inv_wagg z5
 obtain ⟨a15,y18,l16,rfl,h17,z7⟩ := inv_wdI z6
 obtain ⟨a19,y22,l20,rfl,h21,z8⟩ := inv_wdI z7
 obtain ⟨hn,z9⟩ := inv_wn z8
 cases hn
 obtain ⟨a23,l24,rfl,z10⟩ := inv_wc z9
 obtain ⟨l25,rfl,z11⟩ := inv_wagg z10
 obtain ⟨a26,y29,l27,rfl,h28,z12⟩ := inv_wdI z11
 obtain ⟨a30,y33,l31,rfl,h32,z13⟩ := inv_wdI z12
 obtain ⟨hn,z14⟩ := inv_wn z13
 cases hn
 obtain ⟨hn,z15⟩ := inv_wn z14
 cases hn
 exact Den.weaken (.cons (WkA.agg (.cons h6 (.cons h10 .nil))) (.cons (WkA.agg (.cons h17 (.cons h21 .nil))) (.cons (WkA.agg (.cons h28 (.cons h32 .nil))) .nil))) (evalF_sound hmix hC hF ((e71 u y7 y11 y18 y22 y29 y33).trans z15))
def C67 : Oracle := (C66 u).add 79 (fun _ => true) (O71 100)
def A78 : AF := ⟨52,[.tmp 6],
 (.seq (.region 0 [o1 3 (bx 0 49 0),o1 4 (bx 1 49 1),o1 5 (bx 2 49 2),o1 6 (sb false)] 3 none) []
 (.seq (.region 1 [o1 7 (ln 49 2 4),o1 8 (ln 49 2 5),o1 9 (ln 49 2 3),o1 10 (cs 79 [7,8,9] [49,49,49]),o1 11 (bk .eql 3 10 0),mv 12 11,og 13 (fa 49 4 0 0) 12 true,og 14 (lo 3 13) 12 true,og 15 (fa 49 5 0 0) 12 true,og 16 (lo 3 15) 12 true,og 17 (.mm false [(tm 14),(tm 16)] [3,3]) 12 true,og 18 (fa 49 3 0 0) 12 true,og 19 (lo 3 18) 12 true,og 20 (bt .leq 3 17 19) 12 true,o1 21 (po 12 20),mv 22 21,og 23 (fa 49 3 0 0) 22 true,og 24 (lo 3 23) 22 true,og 25 (fa 49 4 0 0) 22 true,og 26 (lo 3 25) 22 true,og 27 (fa 49 5 0 0) 22 true,og 28 (lo 3 27) 22 true,og 29 (.mm true [(tm 26),(tm 28)] [3,3]) 22 true,og 30 (bt .leq 3 24 29) 22 true,o1 31 (po 22 30),mv 32 31,og 33 (fa 49 4 1 1) 32 true,og 34 (lo 3 33) 32 true,og 35 (fa 49 5 1 1) 32 true,og 36 (lo 3 35) 32 true,og 37 (.mm false [(tm 34),(tm 36)] [3,3]) 32 true,og 38 (fa 49 3 1 1) 32 true,og 39 (lo 3 38) 32 true,og 40 (bt .leq 3 37 39) 32 true,o1 41 (po 32 40),mv 42 41,og 43 (fa 49 3 1 1) 42 true,og 44 (lo 3 43) 42 true,og 45 (fa 49 4 1 1) 42 true,og 46 (lo 3 45) 42 true,og 47 (fa 49 5 1 1) 42 true,og 48 (lo 3 47) 42 true,og 49 (.mm true [(tm 46),(tm 48)] [3,3]) 42 true,og 50 (bt .leq 3 44 49) 42 true,o1 51 (po 42 50),o1 6 (sg 51)] 0 none) []
 (.ret (rl 0 6 (rl 7 45 [])))))⟩
def D70 (u : Nat) (x0 x1 x2 x3 x4 x5 : Int) (k : Bool → Option ρ) : Option ρ :=
 (ob (F71 100 x2 x3 x4 x5 x0 x1) fun x6 => (bif ((x6 == 0) == true) then (bif ((decide ((if x4 < x2 then x4 else x2) ≤ x0)) == true) then (bif ((decide (x0 ≤ (if x4 > x2 then x4 else x2))) == true) then (bif ((decide ((if x5 < x3 then x5 else x3) ≤ x1)) == true) then (k (decide (x1 ≤ (if x5 > x3 then x5 else x3)))) else (k false)) else (k false)) else (k false)) else (k false)))
def F70 (x0 x1 x2 x3 x4 x5 : Int) : Option (Bool) := D70 u x0 x1 x2 x3 x4 x5 some
theorem f70 (x0 x1 x2 x3 x4 x5 : Int) (k : (Bool) → Option ρ) : D70 u x0 x1 x2 x3 x4 x5 k = ob (F70 u x0 x1 x2 x3 x4 x5) k := by
 simp only [F70,D70,ob_bif,ob_ob,ob_none,ob_some]
theorem e70 (x0 x1 x2 x3 x4 x5 : Int) : evalF (C67 u) u A78 [.agg [(vi x0),(vi x1)],.agg [(vi x2),(vi x3)],.agg [(vi x4),(vi x5)]] = ob (F70 u x0 x1 x2 x3 x4 x5) fun t => some [.v (.b t)] := Eq.trans (b := (ob (F71 100 x2 x3 x4 x5 x0 x1) fun x6 => (bif ((x6 == 0) == true) then (bif ((decide ((if x4 < x2 then x4 else x2) ≤ x0)) == true) then (bif ((decide (x0 ≤ (if x4 > x2 then x4 else x2))) == true) then (bif ((decide ((if x5 < x3 then x5 else x3) ≤ x1)) == true) then (some [.v (.b (decide (x1 ≤ (if x5 > x3 then x5 else x3))))]) else (some [.v (.b false)])) else (some [.v (.b false)])) else (some [.v (.b false)])) else (some [.v (.b false)])))) (by kernel_rfl) (by
 rw [← f70]
 simp only [D70])
def O70 : Ora where
 o := fun args {ρ} K =>
  wc args fun a1 l2 =>
  wagg a1 fun l3 =>
  wdI .i64 l3 fun y7 l5 =>
  wdI .i64 l5 fun y11 l9 =>
  wn l9 <|
  wc l2 fun a12 l13 =>
  wagg a12 fun l14 =>
  wdI .i64 l14 fun y18 l16 =>
  wdI .i64 l16 fun y22 l20 =>
  wn l20 <|
  wc l13 fun a23 l24 =>
  wagg a23 fun l25 =>
  wdI .i64 l25 fun y29 l27 =>
  wdI .i64 l27 fun y33 l31 =>
  wn l31 <|
  wn l24 <|
  (ob (F70 u y7 y11 y18 y22 y29 y33) fun t => K [.v (.b t)])
 nat := fun args {ρ} K => by
  simp only [bind_wagg,bind_wc,bind_wdI,bind_wn,bind_ob,Option.bind_some]
theorem d70 : DO (O70 u) (C67 u) 78 A78 := by
 intro P hmix hC hF args res h
 obtain ⟨a1,l2,rfl,z0⟩ := inv_wc h
 obtain ⟨l3,rfl,z1⟩ := inv_wagg z0
 obtain ⟨a4,y7,l5,rfl,h6,z2⟩ := inv_wdI z1
 obtain ⟨a8,y11,l9,rfl,h10,z3⟩ := inv_wdI z2
 obtain ⟨hn,z4⟩ := inv_wn z3
 cases hn
 obtain ⟨a12,l13,rfl,z5⟩ := inv_wc z4
 obtain ⟨l14,rfl,z6⟩ := inv_wagg z5
 obtain ⟨a15,y18,l16,rfl,h17,z7⟩ := inv_wdI z6
 obtain ⟨a19,y22,l20,rfl,h21,z8⟩ := inv_wdI z7
 obtain ⟨hn,z9⟩ := inv_wn z8
 cases hn
 obtain ⟨a23,l24,rfl,z10⟩ := inv_wc z9
 obtain ⟨l25,rfl,z11⟩ := inv_wagg z10
 obtain ⟨a26,y29,l27,rfl,h28,z12⟩ := inv_wdI z11
 obtain ⟨a30,y33,l31,rfl,h32,z13⟩ := inv_wdI z12
 obtain ⟨hn,z14⟩ := inv_wn z13
 cases hn
 obtain ⟨hn,z15⟩ := inv_wn z14
 cases hn
 exact Den.weaken (.cons (WkA.agg (.cons h6 (.cons h10 .nil))) (.cons (WkA.agg (.cons h17 (.cons h21 .nil))) (.cons (WkA.agg (.cons h28 (.cons h32 .nil))) .nil))) (evalF_sound hmix hC hF ((e70 u y7 y11 y18 y22 y29 y33).trans z15))
def C68 : Oracle := (C67 u).add 78 (fun _ => true) (O70 100)
def A103v1 : AC := (.seq (.region 5 [o1 2 (sk 0)] 0 none) []
 (.ret (0 :: 1 :: (rl 3 6 []))))
def A103 : AF := ⟨9,[.tmp 2],
 (.seq (.region 0 [o1 2 (sk 0)] 0 none) []
 (.seq (.block 0
 (.seq (.region 1 [mv 4 0,o1 5 (bk .lss 3 4 0),o1 3 (sg 5)] 0 none) []
  (.cond (tm 3)
  (.seq (.region 2 [o1 2 (sk (-1))] 0 none) []
   (.ret (0 :: 1 :: (rl 3 6 []))))
  (.seq (.region 3 [mv 7 0,o1 8 (bk .gtr 3 7 0),o1 6 (sg 8)] 0 none) []
   (.cond (tm 6)
   (.seq (.region 4 [o1 2 (sk 1)] 0 none) []
    (.ret (0 :: 1 :: (rl 3 6 []))))
   .skip))))) (rl 2 7 [])
 A103v1))⟩
def D88 (u : Nat) (x0 : Int) (k : Int → Option ρ) : Option ρ :=
 (bif (decide (x0 < 0)) then (k (-1)) else (bif (decide (x0 > 0)) then (k 1) else (k 0)))
def F88 (x0 : Int) : Option (Int) := D88 u x0 some
theorem f88 (x0 : Int) (k : (Int) → Option ρ) : D88 u x0 k = ob (F88 u x0) k := by
 simp only [F88,D88,ob_bif,ob_ob,ob_none,ob_some]
theorem e88 (x0 : Int) : evalF (C68 u) u A103 [.v (vi x0)] = ob (F88 u x0) fun t => some [.v (vi t)] := Eq.trans (b := (bif (decide (x0 < 0)) then (some [.v (vi (-1))]) else (bif (decide (x0 > 0)) then (some [.v (vi 1)]) else (some [.v (vi 0)])))) (by kernel_rfl) (by
 rw [← f88]
 simp only [D88])
def O88 : Ora where
 o := fun args {ρ} K =>
  wcI .i64 args fun y4 l2 =>
  wn l2 <|
  (ob (F88 u y4) fun t => K [.v (vi t)])
 nat := fun args {ρ} K => by
  simp only [bind_wcI,bind_wn,bind_ob,Option.bind_some]
theorem d88 : DO (O88 u) (C68 u) 103 A103 := by
 intro P hmix hC hF args res h
 obtain ⟨a1,y4,l2,rfl,h3,z0⟩ := inv_wcI h
 obtain ⟨hn,z1⟩ := inv_wn z0
 cases hn
 exact Den.weaken (.cons h3 .nil) (evalF_sound hmix hC hF ((e88 u y4).trans z1))
def C69 : Oracle := (C68 u).add 103 (fun _ => true) (O88 100)
def A99v1 : AC := (.seq (.region 3 [o1 31 (ln 49 2 4),o1 32 (ln 49 2 5),o1 33 (ln 49 2 6),o1 34 (cs 79 [31,32,33] [49,49,49]),o1 35 (cs 103 [34] [3]),o1 36 (ln 49 2 4),o1 37 (ln 49 2 5),o1 38 (ln 49 2 7),o1 39 (cs 79 [36,37,38] [49,49,49]),o1 40 (cs 103 [39] [3]),o1 41 (bt .mul 3 35 40),o1 42 (bk .lss 3 41 0),mv 43 42,og 44 (ln 49 2 6) 43 true,og 45 (ln 49 2 7) 43 true,og 46 (ln 49 2 4) 43 true,og 47 (cs 79 [44,45,46] [49,49,49]) 43 true,og 48 (cs 103 [47] [3]) 43 true,og 49 (ln 49 2 6) 43 true,og 50 (ln 49 2 7) 43 true,og 51 (ln 49 2 5) 43 true,og 52 (cs 79 [49,50,51] [49,49,49]) 43 true,og 53 (cs 103 [52] [3]) 43 true,og 54 (bt .mul 3 48 53) 43 true,og 55 (bk .lss 3 54 0) 43 true,o1 56 (po 43 55),o1 8 (sg 56)] 0 (some [[],[],[],[0,1,2],(rl 0 4 []),[],[],[],(rl 0 8 []),(rl 0 9 []),(rl 0 10 []),(rl 0 11 []),(rl 0 12 []),(rl 0 13 []),(rl 0 13 []),(rl 0 13 []),(rl 0 16 []),(rl 0 17 []),(rl 0 13 []),(rl 0 13 []),(rl 0 13 []),(rl 0 21 []),(rl 0 22 []),(rl 0 23 []),(rl 0 24 []),(rl 0 25 []),(rl 0 26 [])])) []
 (.ret (rl 0 8 (rl 9 48 []))))
def A99 : AF := ⟨57,[.tmp 8],
 (.seq (.region 0 [o1 4 (bx 0 49 0),o1 5 (bx 1 49 1),o1 6 (bx 2 49 2),o1 7 (bx 3 49 3),o1 8 (sb false)] 4 none) []
 (.seq (.seq (.region 1 [o1 9 (ln 49 2 4),o1 10 (ln 49 2 6),o1 11 (ln 49 2 7),o1 12 (cs 78 [9,10,11] [49,49,49]),mv 13 12,og 14 (ln 49 2 5) 13 false,og 15 (ln 49 2 6) 13 false,og 16 (ln 49 2 7) 13 false,og 17 (cs 78 [14,15,16] [49,49,49]) 13 false,o1 18 (pa 13 17),mv 19 18,og 20 (ln 49 2 6) 19 false,og 21 (ln 49 2 4) 19 false,og 22 (ln 49 2 5) 19 false,og 23 (cs 78 [20,21,22] [49,49,49]) 19 false,o1 24 (pa 19 23),mv 25 24,og 26 (ln 49 2 7) 25 false,og 27 (ln 49 2 4) 25 false,og 28 (ln 49 2 5) 25 false,og 29 (cs 78 [26,27,28] [49,49,49]) 25 false,o1 30 (pa 25 29)] 0 none) []
 (.cond (tm 30)
 (.seq (.region 2 [o1 8 (sb true)] 0 none) []
  (.ret (rl 0 8 (rl 9 48 []))))
 .skip)) (rl 8 23 [])
 A99v1))⟩
def D82 (u : Nat) (x0 x1 x2 x3 x4 x5 x6 x7 : Int) (k : Bool → Option ρ) : Option ρ :=
 (ob (F70 100 x0 x1 x4 x5 x6 x7) fun x8 => (bif (x8 == false) then (ob (F70 100 x2 x3 x4 x5 x6 x7) fun x9 => (bif (x9 == false) then (ob (F70 100 x4 x5 x0 x1 x2 x3) fun xA => (bif (xA == false) then (ob (F70 100 x6 x7 x0 x1 x2 x3) fun xB => (bif xB then (k true) else (ob (F71 100 x0 x1 x2 x3 x4 x5) fun xC => (ob (F88 100 xC) fun xD => (ob (F71 100 x0 x1 x2 x3 x6 x7) fun xE => (ob (F88 100 xE) fun xF => (bif ((decide ((w64 (xD * xF)) < 0)) == true) then (ob (F71 100 x4 x5 x6 x7 x0 x1) fun xG => (ob (F88 100 xG) fun xH => (ob (F71 100 x4 x5 x6 x7 x2 x3) fun xI => (ob (F88 100 xI) fun xJ => (k (decide ((w64 (xH * xJ)) < 0))))))) else (k false)))))))) else (k true))) else (k true))) else (k true)))
def F82 (x0 x1 x2 x3 x4 x5 x6 x7 : Int) : Option (Bool) := D82 u x0 x1 x2 x3 x4 x5 x6 x7 some
theorem f82 (x0 x1 x2 x3 x4 x5 x6 x7 : Int) (k : (Bool) → Option ρ) : D82 u x0 x1 x2 x3 x4 x5 x6 x7 k = ob (F82 u x0 x1 x2 x3 x4 x5 x6 x7) k := by
 simp only [F82,D82,ob_bif,ob_ob,ob_none,ob_some]
theorem e82 (x0 x1 x2 x3 x4 x5 x6 x7 : Int) : evalF (C69 u) u A99 [.agg [(vi x0),(vi x1)],.agg [(vi x2),(vi x3)],.agg [(vi x4),(vi x5)],.agg [(vi x6),(vi x7)]] = ob (F82 u x0 x1 x2 x3 x4 x5 x6 x7) fun t => some [.v (.b t)] := Eq.trans (b := (ob (F70 100 x0 x1 x4 x5 x6 x7) fun x8 => (bif (x8 == false) then (ob (F70 100 x2 x3 x4 x5 x6 x7) fun x9 => (bif (x9 == false) then (ob (F70 100 x4 x5 x0 x1 x2 x3) fun xA => (bif (xA == false) then (ob (F70 100 x6 x7 x0 x1 x2 x3) fun xB => (bif xB then (some [.v (.b true)]) else (ob (F71 100 x0 x1 x2 x3 x4 x5) fun xC => (ob (F88 100 xC) fun xD => (ob (F71 100 x0 x1 x2 x3 x6 x7) fun xE => (ob (F88 100 xE) fun xF => (bif ((decide ((w64 (xD * xF)) < 0)) == true) then (ob (F71 100 x4 x5 x6 x7 x0 x1) fun xG => (ob (F88 100 xG) fun xH => (ob (F71 100 x4 x5 x6 x7 x2 x3) fun xI => (ob (F88 100 xI) fun xJ => (some [.v (.b (decide ((w64 (xH * xJ)) < 0)))]))))) else (some [.v (.b false)])))))))) else (some [.v (.b true)]))) else (some [.v (.b true)]))) else (some [.v (.b true)])))) (by kernel_rfl) (by
 rw [← f82]
 simp only [D82])
def O82 : Ora where
 o := fun args {ρ} K =>
  wc args fun a1 l2 =>
  wagg a1 fun l3 =>
  wdI .i64 l3 fun y7 l5 =>
  wdI .i64 l5 fun y11 l9 =>
  wn l9 <|
  wc l2 fun a12 l13 =>
  wagg a12 fun l14 =>
  wdI .i64 l14 fun y18 l16 =>
  wdI .i64 l16 fun y22 l20 =>
  wn l20 <|
  wc l13 fun a23 l24 =>
  wagg a23 fun l25 =>
  wdI .i64 l25 fun y29 l27 =>
  wdI .i64 l27 fun y33 l31 =>
  wn l31 <|
  wc l24 fun a34 l35 =>
  wagg a34 fun l36 =>
  wdI .i64 l36 fun y40 l38 =>
  wdI .i64 l38 fun y44 l42 =>
  wn l42 <|
  wn l35 <|
  (ob (F82 u y7 y11 y18 y22 y29 y33 y40 y44) fun t => K [.v (.b t)])
 nat := fun args {ρ} K => by
  simp only [bind_wagg,bind_wc,bind_wdI,bind_wn,bind_ob,Option.bind_some]
theorem d82 : DO (O82 u) (C69 u) 99 A99 := by
 intro P hmix hC hF args res h
 obtain ⟨a1,l2,rfl,z0⟩ := inv_wc h
 obtain ⟨l3,rfl,z1⟩ := inv_wagg z0
 obtain ⟨a4,y7,l5,rfl,h6,z2⟩ := inv_wdI z1
 obtain ⟨a8,y11,l9,rfl,h10,z3⟩ := inv_wdI z2
 obtain ⟨hn,z4⟩ := inv_wn z3
 cases hn
 obtain ⟨a12,l13,rfl,z5⟩ := inv_wc z4
 obtain ⟨l14,rfl,z6⟩ := inv_wagg z5
 obtain ⟨a15,y18,l16,rfl,h17,z7⟩ := inv_wdI z6
 obtain ⟨a19,y22,l20,rfl,h21,z8⟩ := inv_wdI z7
 obtain ⟨hn,z9⟩ := inv_wn z8
 cases hn
 obtain ⟨a23,l24,rfl,z10⟩ := inv_wc z9
 obtain ⟨l25,rfl,z11⟩ := inv_wagg z10
 obtain ⟨a26,y29,l27,rfl,h28,z12⟩ := inv_wdI z11
 obtain ⟨a30,y33,l31,rfl,h32,z13⟩ := inv_wdI z12
 obtain ⟨hn,z14⟩ := inv_wn z13
 cases hn
 obtain ⟨a34,l35,rfl,z15⟩ := inv_wc z14
 obtain ⟨l36,rfl,z16⟩ := inv_wagg z15
 obtain ⟨a37,y40,l38,rfl,h39,z17⟩ := inv_wdI z16
 obtain ⟨a41,y44,l42,rfl,h43,z18⟩ := inv_wdI z17
 obtain ⟨hn,z19⟩ := inv_wn z18
 cases hn
 obtain ⟨hn,z20⟩ := inv_wn z19
 cases hn
 exact Den.weaken (.cons (WkA.agg (.cons h6 (.cons h10 .nil))) (.cons (WkA.agg (.cons h17 (.cons h21 .nil))) (.cons (WkA.agg (.cons h28 (.cons h32 .nil))) (.cons (WkA.agg (.cons h39 (.cons h43 .nil))) .nil)))) (evalF_sound hmix hC hF ((e82 u y7 y11 y18 y22 y29 y33 y40 y44).trans z20))
def C70 : Oracle := (C69 u).add 99 (fun _ => true) (O82 100)
def A91v1 : AC := (.region 7 [mv 21 5,o1 22 (bk .add 3 21 1),o1 5 (sg 22)] 0 none)
def A91v2 : AC := (.seq (.block 3
 (.seq (.region 8 [mv 23 0,mv 24 4,o1 25 (.indexAddr 37 49 2 (tm 23) (tm 24)),o1 26 (ln 49 2 25),mv 27 0,mv 28 5,o1 29 (.indexAddr 37 49 2 (tm 27) (tm 28)),o1 30 (ln 49 2 29),o1 31 (.eqA false kP 49 (tm 26) (tm 30) 49)] 0 (some [[],[],[0,1],[0,1,2],[],[],[4,5],[4,5,6],(rl 0 8 [])])) []
  (.cond (tm 31)
  (.seq (.region 9 [o1 2 (sb false)] 0 none) []
   (.ret (0 :: 1 :: (rl 3 91 []))))
  .skip))) (2 :: (rl 23 9 []))
 A91v1)
def A91v3 : AC := (.seq (.seq (.region 6 [mv 18 5,mv 19 4,o1 20 (bt .lss 3 18 19)] 0 none) []
 (.cond (tm 20)
 .skip
 (.exit 2 (1 :: 2 :: (rl 5 89 []))))) [18,19,20]
 A91v2)
def A91v4 : AC := (.region 4 [mv 16 4,o1 17 (bk .add 3 16 1),o1 4 (sg 17)] 0 none)
def A91v5 : AC := (.seq (.block 1
 (.seq (.region 5 [o1 5 (sk 0)] 0 none) []
  (.block 2
  (.loop [] (1 :: 2 :: (rl 6 88 []))
   A91v3)))) (2 :: 5 :: (rl 18 14 []))
 A91v4)
def A91v6 : AC := (.seq (.seq (.region 3 [mv 13 4,mv 14 3,o1 15 (bt .lss 3 13 14)] 0 none) []
 (.cond (tm 15)
 .skip
 (.exit 0 (1 :: 2 :: (rl 4 90 []))))) [13,14,15]
 A91v5)
def A91v7 : AC := (.region 18 [mv 70 10,o1 71 (bk .add 3 70 1),o1 10 (sg 71)] 0 none)
def A91v8 : AC := (.seq (.block 7
 (.seq (.region 19 [mv 72 10,o1 73 (bk .add 3 72 1),mv 74 3,o1 75 (bt .rem 3 73 74),mv 76 6,o1 77 (bt .neq 3 75 76),mv 78 77,og 79 (ln 49 2 7) 78 true,og 80 (ln 49 2 8) 78 true,og 81 (.move (tm 0)) 78 true,og 82 (.move (tm 10)) 78 true,og 83 (.indexAddr 37 49 2 (tm 81) (tm 82)) 78 true,og 84 (ln 49 2 83) 78 true,og 85 (.move (tm 0)) 78 true,og 86 (.move (tm 10)) 78 true,og 87 (bk .add 3 86 1) 78 true,og 88 (.move (tm 3)) 78 true,og 89 (bt .rem 3 87 88) 78 true,og 90 (.indexAddr 37 49 2 (tm 85) (tm 89)) 78 true,og 91 (ln 49 2 90) 78 true,og 92 (cs 99 [79,80,84,91] [49,49,49,49]) 78 true,o1 93 (po 78 92)] 0 (some [[],[0],[],[0,1,2],[],(rl 0 5 []),(rl 0 6 []),(rl 0 7 []),(rl 0 7 []),(rl 0 7 []),(rl 0 7 []),(rl 0 7 [9,10]),(rl 0 7 [9,10,11]),(rl 0 7 []),(rl 0 7 []),(rl 0 7 [14]),(rl 0 7 []),(rl 0 7 [14,15,16]),(rl 0 7 (rl 13 5 [])),(rl 0 7 (rl 13 6 [])),(rl 0 20 []),(rl 0 21 [])])) []
  (.cond (tm 93)
  (.seq (.region 20 [o1 2 (sb false)] 0 none) []
   (.ret (0 :: 1 :: (rl 3 91 []))))
  .skip))) (2 :: (rl 72 22 []))
 A91v7)
def A91v9 : AC := (.seq (.seq (.region 17 [mv 67 10,mv 68 3,o1 69 (bt .lss 3 67 68)] 0 none) []
 (.cond (tm 69)
 .skip
 (.exit 6 (1 :: 2 :: 4 :: 5 :: (rl 7 87 []))))) [67,68,69]
 A91v8)
def A91v10 : AC := (.seq (.region 16 [mv 65 6,o1 66 (bk .add 3 65 2),o1 10 (sg 66)] 0 none) []
 (.block 6
 (.loop [] (1 :: 2 :: 4 :: 5 :: 9 :: (rl 11 83 []))
  A91v9)))
def A91v11 : AC := (.region 12 [mv 35 6,o1 36 (bk .add 3 35 1),o1 6 (sg 36)] 0 none)
def A91v12 : AC := (.seq (.block 5
 (.seq (.region 13 [mv 37 0,mv 38 6,o1 39 (.indexAddr 37 49 2 (tm 37) (tm 38)),o1 40 (ln 49 2 39),mv 41 0,mv 42 6,o1 43 (bk .add 3 42 1),mv 44 3,o1 45 (bt .rem 3 43 44),o1 46 (.indexAddr 37 49 2 (tm 41) (tm 45)),o1 47 (ln 49 2 46),mv 48 0,mv 49 6,o1 50 (bk .add 3 49 2),mv 51 3,o1 52 (bt .rem 3 50 51),o1 53 (.indexAddr 37 49 2 (tm 48) (tm 52)),o1 54 (ln 49 2 53),o1 7 (.alloc 0 49 [vci 0,vci 0]),o1 8 (.alloc 1 49 [vci 0,vci 0]),o1 9 (.alloc 2 49 [vci 0,vci 0]),o0 (.store 49 2 (tm 7) (tm 40)),o0 (.store 49 2 (tm 8) (tm 47)),o0 (.store 49 2 (tm 9) (tm 54))] 3 (some [[],[],[0,1],[0,1,2],[],[],[5],[],[5,6,7],(rl 4 5 []),(rl 4 6 []),[],[],[12],[],[12,13,14],(rl 11 5 []),(rl 11 6 []),[],[],[],(rl 0 4 [18,19,20]),(rl 0 11 (rl 18 4 [])),(rl 0 23 [])])) []
  (.seq (.seq (.region 14 [o1 55 (ln 49 2 7),o1 56 (ln 49 2 8),o1 57 (ln 49 2 9),o1 58 (cs 78 [55,56,57] [49,49,49]),mv 59 58,og 60 (ln 49 2 9) 59 false,og 61 (ln 49 2 7) 59 false,og 62 (ln 49 2 8) 59 false,og 63 (cs 78 [60,61,62] [49,49,49]) 59 false,o1 64 (pa 59 63)] 0 none) []
  (.cond (tm 64)
  (.seq (.region 15 [o1 2 (sb false)] 0 none) []
   (.ret (0 :: 1 :: (rl 3 91 []))))
  .skip)) (2 :: (rl 55 10 []))
  A91v10))) (2 :: (rl 7 4 (rl 37 57 [])))
 A91v11)
def A91v13 : AC := (.seq (.seq (.region 11 [mv 32 6,mv 33 3,o1 34 (bt .lss 3 32 33)] 0 none) []
 (.cond (tm 34)
 .skip
 (.exit 4 (rl 0 94 [])))) [32,33,34]
 A91v12)
def A91v14 : AC := (.seq (.region 21 [o1 2 (sb true)] 0 none) []
 (.ret (0 :: 1 :: (rl 3 91 []))))
def A91v15 : AC := (.seq (.seq (.region 10 [o1 6 (sk 0)] 0 none) []
 (.block 4
 (.loop [] (1 :: 2 :: 4 :: 5 :: (rl 7 87 []))
  A91v13))) (2 :: (rl 6 5 (rl 32 62 [])))
 A91v14)
def A91 : AF := ⟨94,[.tmp 2],
 (.seq (.region 0 [o1 2 (sb false)] 0 none) []
 (.seq (.region 1 [mv 11 0,o1 12 (.len 37 false (tm 11)),o1 3 (sg 12)] 0 none) []
 (.seq (.seq (.region 2 [o1 4 (sk 0)] 0 none) []
 (.block 0
 (.loop [] (1 :: 2 :: (rl 5 89 []))
  A91v6))) (2 :: 4 :: 5 :: (rl 13 19 []))
 A91v15)))⟩
def B67v2 (C : Oracle) (u : Nat) : St → (Ex → St → Option ρ) → Option ρ := fun st k => evalC C u A91v3 st k
def N67v2 : St → Option St := fun s => s.norm (1 :: 2 :: (rl 6 88 [])) 0
def s67v0 (x0 : Nat) (x1 : FF) (x2 x3 x4 : Int) : St := ⟨(.x (.c (ro kP x0 x1)) :: .u :: .u :: vxi x2 :: vxi x3 :: vxi x4 :: (us 88 [])),[]⟩
def s67v1 : St := ⟨(.u :: .u :: vxb false :: (us 91 [])),[]⟩
def s67v2 (x0 : Nat) (x1 : FF) (x2 x3 : Int) : St := ⟨(.x (.c (ro kP x0 x1)) :: .u :: .u :: vxi x2 :: vxi x3 :: (us 89 [])),[]⟩
def L67v2 {ρ : Type} (u : Nat) (x0 : Nat) (x1 : FF) (x2 x3 : Int) : Nat → Int → (Option ρ) → (Option ρ) → Option ρ
 | 0,_,_,_ => none
 | m + 1,x4,k0,k1 =>
  (bif (decide (x4 < x3)) then (bif (inb x3 x0) then (bif (inb x4 x0) then (bif (((x1 x3.toNat 0).int == (x1 x4.toNat 0).int) && (((x1 x3.toNat 1).int == (x1 x4.toNat 1).int) && true)) then k0 else (L67v2 u x0 x1 x2 x3 m (w64 (x4 + 1)) k0 k1)) else none) else none) else k1)
theorem nl67v2 {ρ σ : Type} (u : Nat) (x0 : Nat) (x1 : FF) (x2 x3 : Int) (g : ρ → Option σ) : ∀ (m : Nat) (x4 : Int) (k0 : Option ρ) (k1 : Option ρ),ob (L67v2 u x0 x1 x2 x3 m x4 k0 k1) g = L67v2 u x0 x1 x2 x3 m x4 (ob k0 g) (ob k1 g)
 | 0,_,_,_ => rfl
 | m + 1,x4,k0,k1 => by
  simp only [L67v2,ob_bif,ob_ob,ob_none,nl67v2 u x0 x1 x2 x3 g m]
theorem r67v2 (m : Nat) (k : Ex → St → Option ρ) (x0 : Nat) (x1 : FF) (x2 x3 x4 : Int) :
  loopH (B67v2 (C70 u) u) N67v2 (m + 1) (s67v0 x0 x1 x2 x3 x4) k =
  (bif (decide (x4 < x3)) then (bif (inb x3 x0) then (bif (inb x4 x0) then (bif (((x1 x3.toNat 0).int == (x1 x4.toNat 0).int) && (((x1 x3.toNat 1).int == (x1 x4.toNat 1).int) && true)) then (k .ret s67v1) else (loopH (B67v2 (C70 u) u) N67v2 m (s67v0 x0 x1 x2 x3 (w64 (x4 + 1))) k)) else none) else none) else (k (.exit 2) (s67v2 x0 x1 x2 x3))) := by kernel_rfl
theorem q67v2 (u : Nat) (x0 : Nat) (x1 : FF) (x2 x3 : Int) {ρ : Type} (k : Ex → St → Option ρ) : ∀ (m : Nat) (x4 : Int),
  loopH (B67v2 (C70 u) u) N67v2 m (s67v0 x0 x1 x2 x3 x4) k = L67v2 u x0 x1 x2 x3 m x4 (k .ret s67v1) (k (.exit 2) (s67v2 x0 x1 x2 x3))
 | 0,_ => rfl
 | m + 1,x4 => by
  rw [r67v2]
  simp only [L67v2,q67v2 u x0 x1 x2 x3 k m]
def B67v3 (C : Oracle) (u : Nat) : St → (Ex → St → Option ρ) → Option ρ := fun st k => evalC C u A91v6 st k
def N67v3 : St → Option St := fun s => s.norm (1 :: 2 :: (rl 5 89 [])) 0
def s67v3 (x0 : Nat) (x1 : FF) (x2 x3 : Int) : St := ⟨(.x (.c (ro kP x0 x1)) :: .u :: .u :: vxi x2 :: vxi x3 :: (us 89 [])),[]⟩
def s67v4 (x0 : Nat) (x1 : FF) (x2 : Int) : St := ⟨(.x (.c (ro kP x0 x1)) :: .u :: .u :: vxi x2 :: (us 90 [])),[]⟩
def L67v3 {ρ : Type} (u : Nat) (x0 : Nat) (x1 : FF) (x2 : Int) : Nat → Int → (Option ρ) → (Option ρ) → Option ρ
 | 0,_,_,_ => none
 | m + 1,x3,k0,k1 =>
  (bif (decide (x3 < x2)) then (L67v2 u x0 x1 x2 x3 u 0
  k0
  (L67v3 u x0 x1 x2 m (w64 (x3 + 1)) k0 k1)) else k1)
theorem nl67v3 {ρ σ : Type} (u : Nat) (x0 : Nat) (x1 : FF) (x2 : Int) (g : ρ → Option σ) : ∀ (m : Nat) (x3 : Int) (k0 : Option ρ) (k1 : Option ρ),ob (L67v3 u x0 x1 x2 m x3 k0 k1) g = L67v3 u x0 x1 x2 m x3 (ob k0 g) (ob k1 g)
 | 0,_,_,_ => rfl
 | m + 1,x3,k0,k1 => by
  simp only [L67v3,ob_bif,ob_ob,ob_none,nl67v3 u x0 x1 x2 g m,nl67v2]
def s67v5 (x0 : Nat) (x1 : FF) (x2 x3 : Int) : St := ⟨(.x (.c (ro kP x0 x1)) :: .u :: .u :: vxi x2 :: vxi x3 :: vxi 0 :: (us 88 [])),[]⟩
theorem r67v3 (m : Nat) (k : Ex → St → Option ρ) (x0 : Nat) (x1 : FF) (x2 x3 : Int) :
  loopH (B67v3 (C70 u) u) N67v3 (m + 1) (s67v3 x0 x1 x2 x3) k =
  (bif (decide (x3 < x2)) then (loopN (B67v2 (C70 u) u) N67v2 u (s67v5 x0 x1 x2 x3) (kBlk 2 (kBlk 1 (kSeq (C70 u) u (2 :: 5 :: (rl 18 14 [])) A91v4 (kLoop (B67v3 (C70 u) u) N67v3 m k))))) else (k (.exit 0) (s67v4 x0 x1 x2))) := by kernel_rfl
theorem t67v1 (k : Ex → St → Option ρ) (x0 : Nat) (x1 : FF) (x2 x3 : Int) :
  loopN (B67v2 (C70 u) u) N67v2 u (s67v5 x0 x1 x2 x3) k =
  L67v2 u x0 x1 x2 x3 u 0 (k .ret s67v1) (k (.exit 2) (s67v2 x0 x1 x2 x3)) :=
 (loopN_at (st' := (s67v0 x0 x1 x2 x3 0)) (by kernel_rfl)).trans (q67v2 u x0 x1 x2 x3 k u 0)
theorem g67v2 (m : Nat) (k : Ex → St → Option ρ) :
  (kBlk 2 (kBlk 1 (kSeq (C70 u) u (2 :: 5 :: (rl 18 14 [])) A91v4 (kLoop (B67v3 (C70 u) u) N67v3 m k)))) .ret s67v1 =
  (k .ret s67v1) := by kernel_rfl
theorem g67v3 (m : Nat) (k : Ex → St → Option ρ) (x0 : Nat) (x1 : FF) (x2 x3 : Int) :
  (kBlk 2 (kBlk 1 (kSeq (C70 u) u (2 :: 5 :: (rl 18 14 [])) A91v4 (kLoop (B67v3 (C70 u) u) N67v3 m k)))) (.exit 2) (s67v2 x0 x1 x2 x3) =
  (loopH (B67v3 (C70 u) u) N67v3 m (s67v3 x0 x1 x2 (w64 (x3 + 1))) k) := by kernel_rfl
theorem q67v3 (u : Nat) (x0 : Nat) (x1 : FF) (x2 : Int) {ρ : Type} (k : Ex → St → Option ρ) : ∀ (m : Nat) (x3 : Int),
  loopH (B67v3 (C70 u) u) N67v3 m (s67v3 x0 x1 x2 x3) k = L67v3 u x0 x1 x2 m x3 (k .ret s67v1) (k (.exit 0) (s67v4 x0 x1 x2))
 | 0,_ => rfl
 | m + 1,x3 => by
  rw [r67v3]
  simp only [L67v3,q67v3 u x0 x1 x2 k m,t67v1,g67v2,g67v3]
def B67v5 (C : Oracle) (u : Nat) : St → (Ex → St → Option ρ) → Option ρ := fun st k => evalC C u A91v9 st k
def N67v5 : St → Option St := fun s => s.norm (1 :: 2 :: 4 :: 5 :: 9 :: (rl 11 83 [])) 3
def s67v6 (x0 : Nat) (x1 : FF) (x2 x3 x4 x5 x6 x7 x8 x9 xA : Int) : St := ⟨(.x (.c (ro kP x0 x1)) :: .u :: .u :: vxi x2 :: .u :: .u :: vxi x3 :: .x (.ptr 0 0) :: .x (.ptr 1 0) :: .u :: vxi x4 :: (us 83 [])),[.box [(vci x5),(vci x6)],.box [(vci x7),(vci x8)],.box [(vci x9),(vci xA)]]⟩
def s67v7 (x0 x1 x2 x3 x4 x5 : Int) : St := ⟨(.u :: .u :: vxb false :: (us 91 [])),[.box [(vci x0),(vci x1)],.box [(vci x2),(vci x3)],.box [(vci x4),(vci x5)]]⟩
def s67v8 (x0 : Nat) (x1 : FF) (x2 x3 x4 x5 x6 x7 x8 x9 : Int) : St := ⟨(.x (.c (ro kP x0 x1)) :: .u :: .u :: vxi x2 :: .u :: .u :: vxi x3 :: (us 87 [])),[.box [(vci x4),(vci x5)],.box [(vci x6),(vci x7)],.box [(vci x8),(vci x9)]]⟩
def L67v5 {ρ : Type} (u : Nat) (x0 : Nat) (x1 : FF) (x2 x3 x4 x5 x6 x7 x8 x9 : Int) : Nat → Int → (Option ρ) → (Option ρ) → Option ρ
 | 0,_,_,_ => none
 | m + 1,xA,k0,k1 =>
  (bif (decide (xA < x2)) then (bif (x2 == 0) then none else (bif (((Int.tmod (w64 (xA + 1)) x2) != x3) == true) then (bif (inb xA x0) then (bif (x2 == 0) then none else (bif (inb (Int.tmod (w64 (xA + 1)) x2) x0) then (ob (F82 100 x4 x5 x6 x7 (x1 xA.toNat 0).int (x1 xA.toNat 1).int (CV.int (x1 (Int.toNat (Int.tmod (w64 (xA + 1)) x2)) 0)) (CV.int (x1 (Int.toNat (Int.tmod (w64 (xA + 1)) x2)) 1))) fun xB => (bif xB then k0 else (L67v5 u x0 x1 x2 x3 x4 x5 x6 x7 x8 x9 m (w64 (xA + 1)) k0 k1))) else none)) else none) else (L67v5 u x0 x1 x2 x3 x4 x5 x6 x7 x8 x9 m (w64 (xA + 1)) k0 k1))) else k1)
theorem nl67v5 {ρ σ : Type} (u : Nat) (x0 : Nat) (x1 : FF) (x2 x3 x4 x5 x6 x7 x8 x9 : Int) (g : ρ → Option σ) : ∀ (m : Nat) (xA : Int) (k0 : Option ρ) (k1 : Option ρ),ob (L67v5 u x0 x1 x2 x3 x4 x5 x6 x7 x8 x9 m xA k0 k1) g = L67v5 u x0 x1 x2 x3 x4 x5 x6 x7 x8 x9 m xA (ob k0 g) (ob k1 g)
 | 0,_,_,_ => rfl
 | m + 1,xA,k0,k1 => by
  simp only [L67v5,ob_bif,ob_ob,ob_none,nl67v5 u x0 x1 x2 x3 x4 x5 x6 x7 x8 x9 g m]
theorem r67v5 (m : Nat) (k : Ex → St → Option ρ) (x0 : Nat) (x1 : FF) (x2 x3 x4 x5 x6 x7 x8 x9 xA : Int) :
  loopH (B67v5 (C70 u) u) N67v5 (m + 1) (s67v6 x0 x1 x2 x3 xA x4 x5 x6 x7 x8 x9) k =
  (bif (decide (xA < x2)) then (bif (x2 == 0) then none else (bif (((Int.tmod (w64 (xA + 1)) x2) != x3) == true) then (bif (inb xA x0) then (bif (x2 == 0) then none else (bif (inb (Int.tmod (w64 (xA + 1)) x2) x0) then (ob (F82 100 x4 x5 x6 x7 (x1 xA.toNat 0).int (x1 xA.toNat 1).int (CV.int (x1 (Int.toNat (Int.tmod (w64 (xA + 1)) x2)) 0)) (CV.int (x1 (Int.toNat (Int.tmod (w64 (xA + 1)) x2)) 1))) fun xB => (bif xB then (k .ret (s67v7 x4 x5 x6 x7 x8 x9)) else (loopH (B67v5 (C70 u) u) N67v5 m (s67v6 x0 x1 x2 x3 (w64 (xA + 1)) x4 x5 x6 x7 x8 x9) k))) else none)) else none) else (loopH (B67v5 (C70 u) u) N67v5 m (s67v6 x0 x1 x2 x3 (w64 (xA + 1)) x4 x5 x6 x7 x8 x9) k))) else (k (.exit 6) (s67v8 x0 x1 x2 x3 x4 x5 x6 x7 x8 x9))) := by kernel_rfl
theorem q67v5 (u : Nat) (x0 : Nat) (x1 : FF) (x2 x3 x4 x5 x6 x7 x8 x9 : Int) {ρ : Type} (k : Ex → St → Option ρ) : ∀ (m : Nat) (xA : Int),
  loopH (B67v5 (C70 u) u) N67v5 m (s67v6 x0 x1 x2 x3 xA x4 x5 x6 x7 x8 x9) k = L67v5 u x0 x1 x2 x3 x4 x5 x6 x7 x8 x9 m xA (k .ret (s67v7 x4 x5 x6 x7 x8 x9)) (k (.exit 6) (s67v8 x0 x1 x2 x3 x4 x5 x6 x7 x8 x9))
 | 0,_ => rfl
 | m + 1,xA => by
  rw [r67v5]
  simp only [L67v5,q67v5 u x0 x1 x2 x3 x4 x5 x6 x7 x8 x9 k m]
def B67v6 (C : Oracle) (u : Nat) : St → (Ex → St → Option ρ) → Option ρ := fun st k => evalC C u A91v13 st k
def N67v6 : St → Option St := fun s => s.norm (1 :: 2 :: 4 :: 5 :: (rl 7 87 [])) 0
def s67v9 (x0 : Nat) (x1 : FF) (x2 x3 : Int) : St := ⟨(.x (.c (ro kP x0 x1)) :: .u :: .u :: vxi x2 :: .u :: .u :: vxi x3 :: (us 87 [])),[]⟩
def s67v10 (x0 x1 x2 x3 x4 x5 : Int) : St := ⟨(.u :: .u :: vxb false :: (us 91 [])),[.box [(vci x0),(vci x1)],.box [(vci x2),(vci x3)],.box [(vci x4),(vci x5)]]⟩
def s67v11 : St := ⟨(us 94 []),[]⟩
def L67v6 {ρ : Type} (u : Nat) (x0 : Nat) (x1 : FF) (x2 : Int) : Nat → Int → (Int → Int → Int → Int → Int → Int → Option ρ) → (Option ρ) → Option ρ
 | 0,_,_,_ => none
 | m + 1,x3,k0,k1 =>
  (bif (decide (x3 < x2)) then (bif (inb x3 x0) then (bif (x2 == 0) then none else (bif (inb (Int.tmod (w64 (x3 + 1)) x2) x0) then (bif (x2 == 0) then none else (bif (inb (Int.tmod (w64 (x3 + 2)) x2) x0) then (ob (F70 100 (x1 x3.toNat 0).int (x1 x3.toNat 1).int (CV.int (x1 (Int.toNat (Int.tmod (w64 (x3 + 1)) x2)) 0)) (CV.int (x1 (Int.toNat (Int.tmod (w64 (x3 + 1)) x2)) 1)) (CV.int (x1 (Int.toNat (Int.tmod (w64 (x3 + 2)) x2)) 0)) (CV.int (x1 (Int.toNat (Int.tmod (w64 (x3 + 2)) x2)) 1))) fun x4 => (bif (x4 == false) then (ob (F70 100 (CV.int (x1 (Int.toNat (Int.tmod (w64 (x3 + 2)) x2)) 0)) (CV.int (x1 (Int.toNat (Int.tmod (w64 (x3 + 2)) x2)) 1)) (x1 x3.toNat 0).int (x1 x3.toNat 1).int (CV.int (x1 (Int.toNat (Int.tmod (w64 (x3 + 1)) x2)) 0)) (CV.int (x1 (Int.toNat (Int.tmod (w64 (x3 + 1)) x2)) 1))) fun x5 => (bif x5 then (k0 (x1 x3.toNat 0).int (x1 x3.toNat 1).int (CV.int (x1 (Int.toNat (Int.tmod (w64 (x3 + 1)) x2)) 0)) (CV.int (x1 (Int.toNat (Int.tmod (w64 (x3 + 1)) x2)) 1)) (CV.int (x1 (Int.toNat (Int.tmod (w64 (x3 + 2)) x2)) 0)) (CV.int (x1 (Int.toNat (Int.tmod (w64 (x3 + 2)) x2)) 1))) else (L67v5 u x0 x1 x2 x3 (x1 x3.toNat 0).int (x1 x3.toNat 1).int (CV.int (x1 (Int.toNat (Int.tmod (w64 (x3 + 1)) x2)) 0)) (CV.int (x1 (Int.toNat (Int.tmod (w64 (x3 + 1)) x2)) 1)) (CV.int (x1 (Int.toNat (Int.tmod (w64 (x3 + 2)) x2)) 0)) (CV.int (x1 (Int.toNat (Int.tmod (w64 (x3 + 2)) x2)) 1)) u (w64 (x3 + 2))
  (k0 (x1 x3.toNat 0).int (x1 x3.toNat 1).int (CV.int (x1 (Int.toNat (Int.tmod (w64 (x3 + 1)) x2)) 0)) (CV.int (x1 (Int.toNat (Int.tmod (w64 (x3 + 1)) x2)) 1)) (CV.int (x1 (Int.toNat (Int.tmod (w64 (x3 + 2)) x2)) 0)) (CV.int (x1 (Int.toNat (Int.tmod (w64 (x3 + 2)) x2)) 1)))
  (L67v6 u x0 x1 x2 m (w64 (x3 + 1)) k0 k1)))) else (k0 (x1 x3.toNat 0).int (x1 x3.toNat 1).int (CV.int (x1 (Int.toNat (Int.tmod (w64 (x3 + 1)) x2)) 0)) (CV.int (x1 (Int.toNat (Int.tmod (w64 (x3 + 1)) x2)) 1)) (CV.int (x1 (Int.toNat (Int.tmod (w64 (x3 + 2)) x2)) 0)) (CV.int (x1 (Int.toNat (Int.tmod (w64 (x3 + 2)) x2)) 1))))) else none)) else none)) else none) else k1)
theorem nl67v6 {ρ σ : Type} (u : Nat) (x0 : Nat) (x1 : FF) (x2 : Int) (g : ρ → Option σ) : ∀ (m : Nat) (x3 : Int) (k0 : Int → Int → Int → Int → Int → Int → Option ρ) (k1 : Option ρ),ob (L67v6 u x0 x1 x2 m x3 k0 k1) g = L67v6 u x0 x1 x2 m x3 (fun x4 x5 x6 x7 x8 x9 => ob (k0 x4 x5 x6 x7 x8 x9) g) (ob k1 g)
 | 0,_,_,_ => rfl
 | m + 1,x3,k0,k1 => by
  simp only [L67v6,ob_bif,ob_ob,ob_none,nl67v6 u x0 x1 x2 g m,nl67v5]
def s67v12 (x0 : Nat) (x1 : FF) (x2 x3 : Int) : St := ⟨(.x (.c (ro kP x0 x1)) :: .u :: .u :: vxi x2 :: .u :: .u :: vxi x3 :: .x (.ptr 0 0) :: .x (.ptr 1 0) :: .x (.ptr 2 0) :: vxi (w64 (x3 + 2)) :: (us 26 (.x (.c (ro kP x0 x1)) :: vxi x3 :: .x (.c (.rp kP (x1 x3.toNat))) :: .agg [(vci (x1 x3.toNat 0).int),(vci (x1 x3.toNat 1).int)] :: .x (.c (ro kP x0 x1)) :: vxi x3 :: vxi (w64 (x3 + 1)) :: vxi x2 :: vxi (Int.tmod (w64 (x3 + 1)) x2) :: .x (.c (.rp kP (x1 (Int.toNat (Int.tmod (w64 (x3 + 1)) x2))))) :: .agg [(vci (CV.int (x1 (Int.toNat (Int.tmod (w64 (x3 + 1)) x2)) 0))),(vci (CV.int (x1 (Int.toNat (Int.tmod (w64 (x3 + 1)) x2)) 1)))] :: .x (.c (ro kP x0 x1)) :: vxi x3 :: vxi (w64 (x3 + 2)) :: vxi x2 :: vxi (Int.tmod (w64 (x3 + 2)) x2) :: .x (.c (.rp kP (x1 (Int.toNat (Int.tmod (w64 (x3 + 2)) x2))))) :: .agg [(vci (CV.int (x1 (Int.toNat (Int.tmod (w64 (x3 + 2)) x2)) 0))),(vci (CV.int (x1 (Int.toNat (Int.tmod (w64 (x3 + 2)) x2)) 1)))] :: (us 10 (vxi x3 :: vxi (w64 (x3 + 2)) :: (us 27 [])))))),[.box [(vci (x1 x3.toNat 0).int),(vci (x1 x3.toNat 1).int)],.box [(vci (CV.int (x1 (Int.toNat (Int.tmod (w64 (x3 + 1)) x2)) 0))),(vci (CV.int (x1 (Int.toNat (Int.tmod (w64 (x3 + 1)) x2)) 1)))],.box [(vci (CV.int (x1 (Int.toNat (Int.tmod (w64 (x3 + 2)) x2)) 0))),(vci (CV.int (x1 (Int.toNat (Int.tmod (w64 (x3 + 2)) x2)) 1)))]]⟩
theorem r67v6 (m : Nat) (k : Ex → St → Option ρ) (x0 : Nat) (x1 : FF) (x2 x3 : Int) :
  loopH (B67v6 (C70 u) u) N67v6 (m + 1) (s67v9 x0 x1 x2 x3) k =
  (bif (decide (x3 < x2)) then (bif (inb x3 x0) then (bif (x2 == 0) then none else (bif (inb (Int.tmod (w64 (x3 + 1)) x2) x0) then (bif (x2 == 0) then none else (bif (inb (Int.tmod (w64 (x3 + 2)) x2) x0) then (ob (F70 100 (x1 x3.toNat 0).int (x1 x3.toNat 1).int (CV.int (x1 (Int.toNat (Int.tmod (w64 (x3 + 1)) x2)) 0)) (CV.int (x1 (Int.toNat (Int.tmod (w64 (x3 + 1)) x2)) 1)) (CV.int (x1 (Int.toNat (Int.tmod (w64 (x3 + 2)) x2)) 0)) (CV.int (x1 (Int.toNat (Int.tmod (w64 (x3 + 2)) x2)) 1))) fun x4 => (bif (x4 == false) then (ob (F70 100 (CV.int (x1 (Int.toNat (Int.tmod (w64 (x3 + 2)) x2)) 0)) (CV.int (x1 (Int.toNat (Int.tmod (w64 (x3 + 2)) x2)) 1)) (x1 x3.toNat 0).int (x1 x3.toNat 1).int (CV.int (x1 (Int.toNat (Int.tmod (w64 (x3 + 1)) x2)) 0)) (CV.int (x1 (Int.toNat (Int.tmod (w64 (x3 + 1)) x2)) 1))) fun x5 => (bif x5 then (k .ret (s67v10 (x1 x3.toNat 0).int (x1 x3.toNat 1).int (CV.int (x1 (Int.toNat (Int.tmod (w64 (x3 + 1)) x2)) 0)) (CV.int (x1 (Int.toNat (Int.tmod (w64 (x3 + 1)) x2)) 1)) (CV.int (x1 (Int.toNat (Int.tmod (w64 (x3 + 2)) x2)) 0)) (CV.int (x1 (Int.toNat (Int.tmod (w64 (x3 + 2)) x2)) 1)))) else (loopN (B67v5 (C70 u) u) N67v5 u (s67v12 x0 x1 x2 x3) (kBlk 6 (kBlk 5 (kSeq (C70 u) u (2 :: (rl 7 4 (rl 37 57 []))) A91v11 (kLoop (B67v6 (C70 u) u) N67v6 m k))))))) else (k .ret (s67v10 (x1 x3.toNat 0).int (x1 x3.toNat 1).int (CV.int (x1 (Int.toNat (Int.tmod (w64 (x3 + 1)) x2)) 0)) (CV.int (x1 (Int.toNat (Int.tmod (w64 (x3 + 1)) x2)) 1)) (CV.int (x1 (Int.toNat (Int.tmod (w64 (x3 + 2)) x2)) 0)) (CV.int (x1 (Int.toNat (Int.tmod (w64 (x3 + 2)) x2)) 1)))))) else none)) else none)) else none) else (k (.exit 4) s67v11)) := by kernel_rfl
theorem t67v4 (k : Ex → St → Option ρ) (x0 : Nat) (x1 : FF) (x2 x3 : Int) :
  loopN (B67v5 (C70 u) u) N67v5 u (s67v12 x0 x1 x2 x3) k =
  L67v5 u x0 x1 x2 x3 (x1 x3.toNat 0).int (x1 x3.toNat 1).int (CV.int (x1 (Int.toNat (Int.tmod (w64 (x3 + 1)) x2)) 0)) (CV.int (x1 (Int.toNat (Int.tmod (w64 (x3 + 1)) x2)) 1)) (CV.int (x1 (Int.toNat (Int.tmod (w64 (x3 + 2)) x2)) 0)) (CV.int (x1 (Int.toNat (Int.tmod (w64 (x3 + 2)) x2)) 1)) u (w64 (x3 + 2)) (k .ret (s67v7 (x1 x3.toNat 0).int (x1 x3.toNat 1).int (CV.int (x1 (Int.toNat (Int.tmod (w64 (x3 + 1)) x2)) 0)) (CV.int (x1 (Int.toNat (Int.tmod (w64 (x3 + 1)) x2)) 1)) (CV.int (x1 (Int.toNat (Int.tmod (w64 (x3 + 2)) x2)) 0)) (CV.int (x1 (Int.toNat (Int.tmod (w64 (x3 + 2)) x2)) 1)))) (k (.exit 6) (s67v8 x0 x1 x2 x3 (x1 x3.toNat 0).int (x1 x3.toNat 1).int (CV.int (x1 (Int.toNat (Int.tmod (w64 (x3 + 1)) x2)) 0)) (CV.int (x1 (Int.toNat (Int.tmod (w64 (x3 + 1)) x2)) 1)) (CV.int (x1 (Int.toNat (Int.tmod (w64 (x3 + 2)) x2)) 0)) (CV.int (x1 (Int.toNat (Int.tmod (w64 (x3 + 2)) x2)) 1)))) :=
 (loopN_at (st' := (s67v6 x0 x1 x2 x3 (w64 (x3 + 2)) (x1 x3.toNat 0).int (x1 x3.toNat 1).int (CV.int (x1 (Int.toNat (Int.tmod (w64 (x3 + 1)) x2)) 0)) (CV.int (x1 (Int.toNat (Int.tmod (w64 (x3 + 1)) x2)) 1)) (CV.int (x1 (Int.toNat (Int.tmod (w64 (x3 + 2)) x2)) 0)) (CV.int (x1 (Int.toNat (Int.tmod (w64 (x3 + 2)) x2)) 1)))) (by kernel_rfl)).trans (q67v5 u x0 x1 x2 x3 (x1 x3.toNat 0).int (x1 x3.toNat 1).int (CV.int (x1 (Int.toNat (Int.tmod (w64 (x3 + 1)) x2)) 0)) (CV.int (x1 (Int.toNat (Int.tmod (w64 (x3 + 1)) x2)) 1)) (CV.int (x1 (Int.toNat (Int.tmod (w64 (x3 + 2)) x2)) 0)) (CV.int (x1 (Int.toNat (Int.tmod (w64 (x3 + 2)) x2)) 1)) k u (w64 (x3 + 2)))
theorem g67v5 (m : Nat) (k : Ex → St → Option ρ) (x0 : FF) (x1 x2 : Int) :
  (kBlk 6 (kBlk 5 (kSeq (C70 u) u (2 :: (rl 7 4 (rl 37 57 []))) A91v11 (kLoop (B67v6 (C70 u) u) N67v6 m k)))) .ret (s67v7 (x0 x1.toNat 0).int (x0 x1.toNat 1).int (CV.int (x0 (Int.toNat (Int.tmod (w64 (x1 + 1)) x2)) 0)) (CV.int (x0 (Int.toNat (Int.tmod (w64 (x1 + 1)) x2)) 1)) (CV.int (x0 (Int.toNat (Int.tmod (w64 (x1 + 2)) x2)) 0)) (CV.int (x0 (Int.toNat (Int.tmod (w64 (x1 + 2)) x2)) 1))) =
  (k .ret (s67v10 (x0 x1.toNat 0).int (x0 x1.toNat 1).int (CV.int (x0 (Int.toNat (Int.tmod (w64 (x1 + 1)) x2)) 0)) (CV.int (x0 (Int.toNat (Int.tmod (w64 (x1 + 1)) x2)) 1)) (CV.int (x0 (Int.toNat (Int.tmod (w64 (x1 + 2)) x2)) 0)) (CV.int (x0 (Int.toNat (Int.tmod (w64 (x1 + 2)) x2)) 1)))) := by kernel_rfl
theorem g67v6 (m : Nat) (k : Ex → St → Option ρ) (x0 : Nat) (x1 : FF) (x2 x3 : Int) :
  (kBlk 6 (kBlk 5 (kSeq (C70 u) u (2 :: (rl 7 4 (rl 37 57 []))) A91v11 (kLoop (B67v6 (C70 u) u) N67v6 m k)))) (.exit 6) (s67v8 x0 x1 x2 x3 (x1 x3.toNat 0).int (x1 x3.toNat 1).int (CV.int (x1 (Int.toNat (Int.tmod (w64 (x3 + 1)) x2)) 0)) (CV.int (x1 (Int.toNat (Int.tmod (w64 (x3 + 1)) x2)) 1)) (CV.int (x1 (Int.toNat (Int.tmod (w64 (x3 + 2)) x2)) 0)) (CV.int (x1 (Int.toNat (Int.tmod (w64 (x3 + 2)) x2)) 1))) =
  (loopH (B67v6 (C70 u) u) N67v6 m (s67v9 x0 x1 x2 (w64 (x3 + 1))) k) := by kernel_rfl
theorem q67v6 (u : Nat) (x0 : Nat) (x1 : FF) (x2 : Int) {ρ : Type} (k : Ex → St → Option ρ) : ∀ (m : Nat) (x3 : Int),
  loopH (B67v6 (C70 u) u) N67v6 m (s67v9 x0 x1 x2 x3) k = L67v6 u x0 x1 x2 m x3 (fun x4 x5 x6 x7 x8 x9 => k .ret (s67v10 x4 x5 x6 x7 x8 x9)) (k (.exit 4) s67v11)
 | 0,_ => rfl
 | m + 1,x3 => by
  rw [r67v6]
  simp only [L67v6,q67v6 u x0 x1 x2 k m,t67v4,g67v5,g67v6]
def D67 (x0 : Nat) (x1 : FF) (k : Bool → Option ρ) : Option ρ :=
 (L67v3 u x0 x1 (Int.ofNat x0) u 0
  (k false)
  (L67v6 u x0 x1 (Int.ofNat x0) u 0
  (fun x2 x3 x4 x5 x6 x7 => (k false))
  (k true)))
def F67 (x0 : Nat) (x1 : FF) : Option (Bool) := D67 u x0 x1 some
theorem f67 (x0 : Nat) (x1 : FF) (k : (Bool) → Option ρ) : D67 u x0 x1 k = ob (F67 u x0 x1) k := by
 simp only [F67,D67,ob_bif,ob_ob,ob_none,ob_some,nl67v3,nl67v6]
def s67v13 (x0 : Nat) (x1 : FF) : St := ⟨[.x (.c (ro kP x0 x1)),uu,vxb false,vxi (Int.ofNat x0),vxi 0,uu,uu,uu,uu,uu,uu,.x (.c (ro kP x0 x1)),vxi (Int.ofNat x0),uu,uu,uu,uu,uu,uu,uu,uu,uu,uu,uu,uu,uu,uu,uu,uu,uu,uu,uu,uu,uu,uu,uu,uu,uu,uu,uu,uu,uu,uu,uu,uu,uu,uu,uu,uu,uu,uu,uu,uu,uu,uu,uu,uu,uu,uu,uu,uu,uu,uu,uu,uu,uu,uu,uu,uu,uu,uu,uu,uu,uu,uu,uu,uu,uu,uu,uu,uu,uu,uu,uu,uu,uu,uu,uu,uu,uu,uu,uu,uu,uu],[]⟩
theorem t67v7 (k : Ex → St → Option ρ) (x0 : Nat) (x1 : FF) :
  loopN (B67v3 (C70 u) u) N67v3 u (s67v13 x0 x1) k =
  L67v3 u x0 x1 (Int.ofNat x0) u 0 (k .ret s67v1) (k (.exit 0) (s67v4 x0 x1 (Int.ofNat x0))) :=
 (loopN_at (st' := (s67v3 x0 x1 (Int.ofNat x0) 0)) (by kernel_rfl)).trans (q67v3 u x0 x1 (Int.ofNat x0) k u 0)
theorem g67v8 :
  (kBlk 0 (kSeq (C70 u) u (2 :: 4 :: 5 :: (rl 13 19 [])) A91v15 (finish A91))) .ret s67v1 =
  (some [.v (.b false)]) := by kernel_rfl
def s67v14 (x0 : Nat) (x1 : FF) : St := ⟨(.x (.c (ro kP x0 x1)) :: .u :: .u :: vxi (Int.ofNat x0) :: .u :: .u :: vxi 0 :: (us 87 [])),[]⟩
theorem g67v9 (x0 : Nat) (x1 : FF) :
  (kBlk 0 (kSeq (C70 u) u (2 :: 4 :: 5 :: (rl 13 19 [])) A91v15 (finish A91))) (.exit 0) (s67v4 x0 x1 (Int.ofNat x0)) =
  (loopN (B67v6 (C70 u) u) N67v6 u (s67v14 x0 x1) (kBlk 4 (kSeq (C70 u) u (2 :: (rl 6 5 (rl 32 62 []))) A91v14 (finish A91)))) := by kernel_rfl
theorem t67v10 (k : Ex → St → Option ρ) (x0 : Nat) (x1 : FF) :
  loopN (B67v6 (C70 u) u) N67v6 u (s67v14 x0 x1) k =
  L67v6 u x0 x1 (Int.ofNat x0) u 0 (fun x2 x3 x4 x5 x6 x7 => k .ret (s67v10 x2 x3 x4 x5 x6 x7)) (k (.exit 4) s67v11) :=
 (loopN_at (st' := (s67v9 x0 x1 (Int.ofNat x0) 0)) (by kernel_rfl)).trans (q67v6 u x0 x1 (Int.ofNat x0) k u 0)
theorem g67v11 (x0 x1 x2 x3 x4 x5 : Int) :
  (kBlk 4 (kSeq (C70 u) u (2 :: (rl 6 5 (rl 32 62 []))) A91v14 (finish A91))) .ret (s67v10 x0 x1 x2 x3 x4 x5) =
  (some [.v (.b false)]) := by kernel_rfl
theorem g67v12 :
  (kBlk 4 (kSeq (C70 u) u (2 :: (rl 6 5 (rl 32 62 []))) A91v14 (finish A91))) (.exit 4) s67v11 =
  (some [.v (.b true)]) := by kernel_rfl
theorem e67 (x0 : Nat) (x1 : FF) : evalF (C70 u) u A91 [.v (ro kP x0 x1)] = ob (F67 u x0 x1) fun t => some [.v (.b t)] := Eq.trans (b := (loopN (B67v3 (C70 u) u) N67v3 u (s67v13 x0 x1) (kBlk 0 (kSeq (C70 u) u (2 :: 4 :: 5 :: (rl 13 19 [])) A91v15 (finish A91))))) (by kernel_rfl) (by
 rw [← f67]
 simp only [D67,t67v7,g67v8,g67v9,t67v10,g67v11,g67v12])
def O67 : Ora where
 o := fun args {ρ} K =>
  wcL kP args fun y4 y5 l2 =>
  wn l2 <|
  (ob (F67 u y4 y5) fun t => K [.v (.b t)])
 nat := fun args {ρ} K => by
  simp only [bind_wcL,bind_wn,bind_ob,Option.bind_some]
theorem d67 : DO (O67 u) (C70 u) 91 A91 := by
 intro P hmix hC hF args res h
 obtain ⟨a1,y4,y5,l2,rfl,h3,z0⟩ := inv_wcL h
 obtain ⟨hn,z1⟩ := inv_wn z0
 cases hn
 exact Den.weaken (.cons h3 .nil) (evalF_sound hmix hC hF ((e67 u y4 y5).trans z1))
def C71 : Oracle := (C70 u).add 91 (fun _ => true) (O67 100)
def A71v1 : AC := (.seq (.region 9 [o1 2 (sk 0)] 0 none) []
 (.ret (0 :: 1 :: (rl 3 12 []))))
def A71v2 : AC := (.seq (.seq (.region 7 [mv 12 0,o1 13 (cs 91 [12] [37]),o1 14 (.unOp .not 4 (tm 13))] 0 none) []
 (.cond (tm 14)
 (.seq (.region 8 [o1 2 (sk 17)] 0 none) []
  (.ret (0 :: 1 :: (rl 3 12 []))))
 .skip)) [2,12,13,14]
 A71v1)
def A71v3 : AC := (.seq (.seq (.region 5 [mv 9 0,o1 10 (cs 90 [9] [37]),o1 11 (.unOp .not 4 (tm 10))] 0 none) []
 (.cond (tm 11)
 (.seq (.region 6 [o1 2 (sk 9)] 0 none) []
  (.ret (0 :: 1 :: (rl 3 12 []))))
 .skip)) [2,9,10,11]
 A71v2)
def A71v4 : AC := (.seq (.seq (.region 3 [mv 6 0,o1 7 (.len 37 false (tm 6)),o1 8 (bk .gtr 3 7 32)] 0 none) []
 (.cond (tm 8)
 (.seq (.region 4 [o1 2 (sk 4)] 0 none) []
  (.ret (0 :: 1 :: (rl 3 12 []))))
 .skip)) [2,6,7,8]
 A71v3)
def A71 : AF := ⟨15,[.tmp 2],
 (.seq (.region 0 [o1 2 (sk 0)] 0 none) []
 (.seq (.seq (.region 1 [mv 3 0,o1 4 (.len 37 false (tm 3)),o1 5 (bk .lss 3 4 3)] 0 none) []
 (.cond (tm 5)
 (.seq (.region 2 [o1 2 (sk 3)] 0 none) []
  (.ret (0 :: 1 :: (rl 3 12 []))))
 .skip)) (rl 2 4 [])
 A71v4))⟩
def D37 (u : Nat) (x0 : Nat) (x1 : FF) (k : Int → Option ρ) : Option ρ :=
 (bif (decide ((Int.ofNat x0) < 3)) then (k 3) else (bif (decide ((Int.ofNat x0) > 32)) then (k 4) else (ob (F66 100 x0 x1) fun x2 => (bif (!x2) then (k 9) else (ob (F67 100 x0 x1) fun x3 => (bif (!x3) then (k 17) else (k 0)))))))
def F37 (x0 : Nat) (x1 : FF) : Option (Int) := D37 u x0 x1 some
theorem f37 (x0 : Nat) (x1 : FF) (k : (Int) → Option ρ) : D37 u x0 x1 k = ob (F37 u x0 x1) k := by
 simp only [F37,D37,ob_bif,ob_ob,ob_none,ob_some]
theorem e37 (x0 : Nat) (x1 : FF) : evalF (C71 u) u A71 [.v (ro kP x0 x1)] = ob (F37 u x0 x1) fun t => some [.v (vi t)] := Eq.trans (b := (bif (decide ((Int.ofNat x0) < 3)) then (some [.v (vi 3)]) else (bif (decide ((Int.ofNat x0) > 32)) then (some [.v (vi 4)]) else (ob (F66 100 x0 x1) fun x2 => (bif (!x2) then (some [.v (vi 9)]) else (ob (F67 100 x0 x1) fun x3 => (bif (!x3) then (some [.v (vi 17)]) else (some [.v (vi 0)])))))))) (by kernel_rfl) (by
 rw [← f37]
 simp only [D37])
def O37 : Ora where
 o := fun args {ρ} K =>
  wcL kP args fun y4 y5 l2 =>
  wn l2 <|
  (ob (F37 u y4 y5) fun t => K [.v (vi t)])
 nat := fun args {ρ} K => by
  simp only [bind_wcL,bind_wn,bind_ob,Option.bind_some]
theorem d37 : DO (O37 u) (C71 u) 71 A71 := by
 intro P hmix hC hF args res h
 obtain ⟨a1,y4,y5,l2,rfl,h3,z0⟩ := inv_wcL h
 obtain ⟨hn,z1⟩ := inv_wn z0
 cases hn
 exact Den.weaken (.cons h3 .nil) (evalF_sound hmix hC hF ((e37 u y4 y5).trans z1))
def C72 : Oracle := (C71 u).add 71 (fun _ => true) (O37 100)
def A72v1 : AC := (.seq (.block 1
 (.seq (.region 7 [mv 16 0,mv 17 4,o1 18 (.indexAddr 37 49 2 (tm 16) (tm 17)),o1 19 (ln 49 2 18),mv 20 0,mv 21 4,o1 22 (bk .add 3 21 1),mv 23 0,o1 24 (.len 37 false (tm 23)),o1 25 (bt .rem 3 22 24),o1 26 (.indexAddr 37 49 2 (tm 20) (tm 25)),o1 27 (ln 49 2 26),o1 5 (.alloc 0 49 [vci 0,vci 0]),o1 6 (.alloc 1 49 [vci 0,vci 0]),o0 (.store 49 2 (tm 5) (tm 19)),o0 (.store 49 2 (tm 6) (tm 27))] 2 (some [[],[],[0,1],[0,1,2],[],[],[5],[],[7],(rl 5 4 []),(rl 4 6 []),(rl 4 7 []),[],[],(rl 0 4 [12,13]),(rl 0 15 [])])) []
  (.region 8 [mv 28 3,o1 29 (fa 49 5 0 0),o1 30 (lo 3 29),o1 31 (fa 49 6 1 1),o1 32 (lo 3 31),o1 33 (bt .mul 3 30 32),o1 34 (bt .add 3 28 33),o1 35 (fa 49 5 1 1),o1 36 (lo 3 35),o1 37 (fa 49 6 0 0),o1 38 (lo 3 37),o1 39 (bt .mul 3 36 38),o1 40 (bt .sub 3 34 39),o1 3 (sg 40)] 0 none))) []
 (.region 6 [mv 14 4,o1 15 (bk .add 3 14 1),o1 4 (sg 15)] 0 none))
def A72v2 : AC := (.seq (.seq (.region 5 [mv 10 4,mv 11 0,o1 12 (.len 37 false (tm 11)),o1 13 (bt .lss 3 10 12)] 0 none) []
 (.cond (tm 13)
 .skip
 (.exit 0 (0 :: 1 :: 2 :: (rl 4 38 []))))) (rl 10 4 [])
 A72v1)
def A72v3 : AC := (.seq (.region 9 [mv 41 3,o1 2 (sg 41)] 0 none) []
 (.ret (0 :: 1 :: (rl 3 39 []))))
def A72v4 : AC := (.seq (.region 3 [o1 3 (sk 0)] 0 none) []
 (.seq (.seq (.region 4 [o1 4 (sk 0)] 0 none) []
 (.block 0
 (.loop [] (1 :: 2 :: (rl 5 37 []))
  A72v2))) (4 :: 5 :: 6 :: (rl 10 31 []))
 A72v3))
def A72 : AF := ⟨42,[.tmp 2],
 (.seq (.region 0 [o1 2 (sk 0)] 0 none) []
 (.seq (.seq (.region 1 [mv 7 0,o1 8 (cs 71 [7] [37]),o1 9 (bk .neq 73 8 0)] 0 none) []
 (.cond (tm 9)
 (.seq (.region 2 [o1 2 (sk 0)] 0 none) []
  (.ret (0 :: 1 :: (rl 3 39 []))))
 .skip)) [2,7,8,9]
 A72v4))⟩
def B38v1 (C : Oracle) (u : Nat) : St → (Ex → St → Option ρ) → Option ρ := fun st k => evalC C u A72v2 st k
def N38v1 : St → Option St := fun s => s.norm (1 :: 2 :: (rl 5 37 [])) 0
def s38v0 (x0 : Nat) (x1 : FF) (x2 x3 : Int) : St := ⟨(.x (.c (ro kP x0 x1)) :: .u :: .u :: vxi x2 :: vxi x3 :: (us 37 [])),[]⟩
def s38v1 (x0 : Int) : St := ⟨(us 3 (vxi x0 :: (us 38 []))),[]⟩
def L38v1 {ρ : Type} (u : Nat) (x0 : Nat) (x1 : FF) : Nat → Int → Int → (Int → Option ρ) → Option ρ
 | 0,_,_,_ => none
 | m + 1,x2,x3,k0 =>
  (bif (decide (x3 < (Int.ofNat x0))) then (bif (inb x3 x0) then (bif ((Int.ofNat x0) == 0) then none else (bif (inb (Int.tmod (w64 (x3 + 1)) (Int.ofNat x0)) x0) then (L38v1 u x0 x1 m (w64 ((w64 (x2 + (w64 ((x1 x3.toNat 0).int * (CV.int (x1 (Int.toNat (Int.tmod (w64 (x3 + 1)) (Int.ofNat x0))) 1)))))) - (w64 ((x1 x3.toNat 1).int * (CV.int (x1 (Int.toNat (Int.tmod (w64 (x3 + 1)) (Int.ofNat x0))) 0)))))) (w64 (x3 + 1)) k0) else none)) else none) else (k0 x2))
theorem nl38v1 {ρ σ : Type} (u : Nat) (x0 : Nat) (x1 : FF) (g : ρ → Option σ) : ∀ (m : Nat) (x2 x3 : Int) (k0 : Int → Option ρ),ob (L38v1 u x0 x1 m x2 x3 k0) g = L38v1 u x0 x1 m x2 x3 (fun x4 => ob (k0 x4) g)
 | 0,_,_,_ => rfl
 | m + 1,x2,x3,k0 => by
  simp only [L38v1,ob_bif,ob_ob,ob_none,nl38v1 u x0 x1 g m]
theorem r38v1 (m : Nat) (k : Ex → St → Option ρ) (x0 : Nat) (x1 : FF) (x2 x3 : Int) :
  loopH (B38v1 (C72 u) u) N38v1 (m + 1) (s38v0 x0 x1 x2 x3) k =
  (bif (decide (x3 < (Int.ofNat x0))) then (bif (inb x3 x0) then (bif ((Int.ofNat x0) == 0) then none else (bif (inb (Int.tmod (w64 (x3 + 1)) (Int.ofNat x0)) x0) then (loopH (B38v1 (C72 u) u) N38v1 m (s38v0 x0 x1 (w64 ((w64 (x2 + (w64 ((x1 x3.toNat 0).int * (CV.int (x1 (Int.toNat (Int.tmod (w64 (x3 + 1)) (Int.ofNat x0))) 1)))))) - (w64 ((x1 x3.toNat 1).int * (CV.int (x1 (Int.toNat (Int.tmod (w64 (x3 + 1)) (Int.ofNat x0))) 0)))))) (w64 (x3 + 1))) k) else none)) else none) else (k (.exit 0) (s38v1 x2))) := by kernel_rfl
theorem q38v1 (u : Nat) (x0 : Nat) (x1 : FF) {ρ : Type} (k : Ex → St → Option ρ) : ∀ (m : Nat) (x2 x3 : Int),
  loopH (B38v1 (C72 u) u) N38v1 m (s38v0 x0 x1 x2 x3) k = L38v1 u x0 x1 m x2 x3 (fun x4 => k (.exit 0) (s38v1 x4))
 | 0,_,_ => rfl
 | m + 1,x2,x3 => by
  rw [r38v1]
  simp only [L38v1,q38v1 u x0 x1 k m]
def D38 (x0 : Nat) (x1 : FF) (k : Int → Option ρ) : Option ρ :=
 (ob (F37 100 x0 x1) fun x2 => (bif (x2 != 0) then (k 0) else (L38v1 u x0 x1 u 0 0
  (fun x3 => (k x3)))))
def F38 (x0 : Nat) (x1 : FF) : Option (Int) := D38 u x0 x1 some
theorem f38 (x0 : Nat) (x1 : FF) (k : (Int) → Option ρ) : D38 u x0 x1 k = ob (F38 u x0 x1) k := by
 simp only [F38,D38,ob_bif,ob_ob,ob_none,ob_some,nl38v1]
def s38v2 (x0 : Nat) (x1 : FF) : St := ⟨(.x (.c (ro kP x0 x1)) :: uu :: .u :: vxi 0 :: vxi 0 :: uu :: uu :: (us 3 [uu,uu,uu,uu,uu,uu,uu,uu,uu,uu,uu,uu,uu,uu,uu,uu,uu,uu,uu,uu,uu,uu,uu,uu,uu,uu,uu,uu,uu,uu,uu,uu])),[]⟩
theorem t38v1 (k : Ex → St → Option ρ) (x0 : Nat) (x1 : FF) :
  loopN (B38v1 (C72 u) u) N38v1 u (s38v2 x0 x1) k =
  L38v1 u x0 x1 u 0 0 (fun x2 => k (.exit 0) (s38v1 x2)) :=
 (loopN_at (st' := (s38v0 x0 x1 0 0)) (by kernel_rfl)).trans (q38v1 u x0 x1 k u 0 0)
theorem g38v2 (x0 : Int) :
  (kBlk 0 (kSeq (C72 u) u (4 :: 5 :: 6 :: (rl 10 31 [])) A72v3 (finish A72))) (.exit 0) (s38v1 x0) =
  (some [.v (vi x0)]) := by kernel_rfl
theorem e38 (x0 : Nat) (x1 : FF) : evalF (C72 u) u A72 [.v (ro kP x0 x1)] = ob (F38 u x0 x1) fun t => some [.v (vi t)] := Eq.trans (b := (ob (F37 100 x0 x1) fun x2 => (bif (x2 != 0) then (some [.v (vi 0)]) else (loopN (B38v1 (C72 u) u) N38v1 u (s38v2 x0 x1) (kBlk 0 (kSeq (C72 u) u (4 :: 5 :: 6 :: (rl 10 31 [])) A72v3 (finish A72))))))) (by kernel_rfl) (by
 rw [← f38]
 simp only [D38,t38v1,g38v2])
def O38 : Ora where
 o := fun args {ρ} K =>
  wcL kP args fun y4 y5 l2 =>
  wn l2 <|
  (ob (F38 u y4 y5) fun t => K [.v (vi t)])
 nat := fun args {ρ} K => by
  simp only [bind_wcL,bind_wn,bind_ob,Option.bind_some]
theorem d38 : DO (O38 u) (C72 u) 72 A72 := by
 intro P hmix hC hF args res h
 obtain ⟨a1,y4,y5,l2,rfl,h3,z0⟩ := inv_wcL h
 obtain ⟨hn,z1⟩ := inv_wn z0
 cases hn
 exact Den.weaken (.cons h3 .nil) (evalF_sound hmix hC hF ((e38 u y4 y5).trans z1))
def C73 : Oracle := (C72 u).add 72 (fun _ => true) (O38 100)
def A101v1 : AC := (.seq (.region 6 [o1 6 (sk 0)] 0 none) []
 (.ret (rl 0 6 (rl 7 28 []))))
def A101v2 : AC := (.seq (.seq (.region 4 [mv 33 7,o1 34 (bk .lss 3 33 0)] 0 none) []
 (.cond (tm 34)
 (.seq (.region 5 [o1 6 (sk (-1))] 0 none) []
  (.ret (rl 0 6 (rl 7 28 []))))
 .skip)) [6,33,34]
 A101v1)
def A101 : AF := ⟨35,[.tmp 6],
 (.seq (.region 0 [o1 3 (bx 0 49 0),o1 4 (bx 1 49 1),o1 5 (bx 2 49 2),o1 6 (sk 0)] 3 none) []
 (.seq (.region 1 [o1 8 (fa 49 4 0 0),o1 9 (lo 3 8),o1 10 (fa 49 3 0 0),o1 11 (lo 3 10),o1 12 (bt .sub 3 9 11),o1 13 (fa 49 5 1 1),o1 14 (lo 3 13),o1 15 (fa 49 3 1 1),o1 16 (lo 3 15),o1 17 (bt .sub 3 14 16),o1 18 (bt .mul 3 12 17),o1 19 (fa 49 4 1 1),o1 20 (lo 3 19),o1 21 (fa 49 3 1 1),o1 22 (lo 3 21),o1 23 (bt .sub 3 20 22),o1 24 (fa 49 5 0 0),o1 25 (lo 3 24),o1 26 (fa 49 3 0 0),o1 27 (lo 3 26),o1 28 (bt .sub 3 25 27),o1 29 (bt .mul 3 23 28),o1 30 (bt .sub 3 18 29),o1 7 (sg 30)] 0 none) []
 (.seq (.seq (.region 2 [mv 31 7,o1 32 (bk .gtr 3 31 0)] 0 none) []
 (.cond (tm 32)
 (.seq (.region 3 [o1 6 (sk 1)] 0 none) []
  (.ret (rl 0 6 (rl 7 28 []))))
 .skip)) [6,31,32]
 A101v2)))⟩
def D84 (u : Nat) (x0 x1 x2 x3 x4 x5 : Int) (k : Int → Option ρ) : Option ρ :=
 (bif (decide ((w64 ((w64 ((w64 (x2 - x0)) * (w64 (x5 - x1)))) - (w64 ((w64 (x3 - x1)) * (w64 (x4 - x0)))))) > 0)) then (k 1) else (bif (decide ((w64 ((w64 ((w64 (x2 - x0)) * (w64 (x5 - x1)))) - (w64 ((w64 (x3 - x1)) * (w64 (x4 - x0)))))) < 0)) then (k (-1)) else (k 0)))
def F84 (x0 x1 x2 x3 x4 x5 : Int) : Option (Int) := D84 u x0 x1 x2 x3 x4 x5 some
theorem f84 (x0 x1 x2 x3 x4 x5 : Int) (k : (Int) → Option ρ) : D84 u x0 x1 x2 x3 x4 x5 k = ob (F84 u x0 x1 x2 x3 x4 x5) k := by
 simp only [F84,D84,ob_bif,ob_ob,ob_none,ob_some]
theorem e84 (x0 x1 x2 x3 x4 x5 : Int) : evalF (C73 u) u A101 [.agg [(vi x0),(vi x1)],.agg [(vi x2),(vi x3)],.agg [(vi x4),(vi x5)]] = ob (F84 u x0 x1 x2 x3 x4 x5) fun t => some [.v (vi t)] := Eq.trans (b := (bif (decide ((w64 ((w64 ((w64 (x2 - x0)) * (w64 (x5 - x1)))) - (w64 ((w64 (x3 - x1)) * (w64 (x4 - x0)))))) > 0)) then (some [.v (vi 1)]) else (bif (decide ((w64 ((w64 ((w64 (x2 - x0)) * (w64 (x5 - x1)))) - (w64 ((w64 (x3 - x1)) * (w64 (x4 - x0)))))) < 0)) then (some [.v (vi (-1))]) else (some [.v (vi 0)])))) (by kernel_rfl) (by
 rw [← f84]
 simp only [D84])
def O84 : Ora where
 o := fun args {ρ} K =>
  wc args fun a1 l2 =>
  wagg a1 fun l3 =>
  wdI .i64 l3 fun y7 l5 =>
  wdI .i64 l5 fun y11 l9 =>
  wn l9 <|
  wc l2 fun a12 l13 =>
  wagg a12 fun l14 =>
  wdI .i64 l14 fun y18 l16 =>
  wdI .i64 l16 fun y22 l20 =>
  wn l20 <|
  wc l13 fun a23 l24 =>
  wagg a23 fun l25 =>
  wdI .i64 l25 fun y29 l27 =>
  wdI .i64 l27 fun y33 l31 =>
  wn l31 <|
  wn l24 <|
  (ob (F84 u y7 y11 y18 y22 y29 y33) fun t => K [.v (vi t)])
 nat := fun args {ρ} K => by
  simp only [bind_wagg,bind_wc,bind_wdI,bind_wn,bind_ob,Option.bind_some]
theorem d84 : DO (O84 u) (C73 u) 101 A101 := by
 intro P hmix hC hF args res h
 obtain ⟨a1,l2,rfl,z0⟩ := inv_wc h
 obtain ⟨l3,rfl,z1⟩ := inv_wagg z0
 obtain ⟨a4,y7,l5,rfl,h6,z2⟩ := inv_wdI z1
 obtain ⟨a8,y11,l9,rfl,h10,z3⟩ := inv_wdI z2
 obtain ⟨hn,z4⟩ := inv_wn z3
 cases hn
 obtain ⟨a12,l13,rfl,z5⟩ := inv_wc z4
 obtain ⟨l14,rfl,z6⟩ := inv_wagg z5
 obtain ⟨a15,y18,l16,rfl,h17,z7⟩ := inv_wdI z6
 obtain ⟨a19,y22,l20,rfl,h21,z8⟩ := inv_wdI z7
 obtain ⟨hn,z9⟩ := inv_wn z8
 cases hn
 obtain ⟨a23,l24,rfl,z10⟩ := inv_wc z9
 obtain ⟨l25,rfl,z11⟩ := inv_wagg z10
 obtain ⟨a26,y29,l27,rfl,h28,z12⟩ := inv_wdI z11
 obtain ⟨a30,y33,l31,rfl,h32,z13⟩ := inv_wdI z12
 obtain ⟨hn,z14⟩ := inv_wn z13
 cases hn
 obtain ⟨hn,z15⟩ := inv_wn z14
 cases hn
 exact Den.weaken (.cons (WkA.agg (.cons h6 (.cons h10 .nil))) (.cons (WkA.agg (.cons h17 (.cons h21 .nil))) (.cons (WkA.agg (.cons h28 (.cons h32 .nil))) .nil))) (evalF_sound hmix hC hF ((e84 u y7 y11 y18 y22 y29 y33).trans z15))
def C74 : Oracle := (C73 u).add 101 (fun _ => true) (O84 100)
def A100 : AF := ⟨52,[.tmp 6],
 (.seq (.region 0 [o1 3 (bx 0 49 0),o1 4 (bx 1 49 1),o1 5 (bx 2 49 2),o1 6 (sb false)] 3 none) []
 (.seq (.region 1 [o1 7 (ln 49 2 3),o1 8 (ln 49 2 4),o1 9 (ln 49 2 5),o1 10 (cs 101 [7,8,9] [49,49,49]),o1 11 (bk .eql 3 10 0),mv 12 11,og 13 (fa 49 5 0 0) 12 true,og 14 (lo 3 13) 12 true,og 15 (fa 49 3 0 0) 12 true,og 16 (lo 3 15) 12 true,og 17 (fa 49 4 0 0) 12 true,og 18 (lo 3 17) 12 true,og 19 (.mm false [(tm 16),(tm 18)] [3,3]) 12 true,og 20 (bt .geq 3 14 19) 12 true,o1 21 (po 12 20),mv 22 21,og 23 (fa 49 5 0 0) 22 true,og 24 (lo 3 23) 22 true,og 25 (fa 49 3 0 0) 22 true,og 26 (lo 3 25) 22 true,og 27 (fa 49 4 0 0) 22 true,og 28 (lo 3 27) 22 true,og 29 (.mm true [(tm 26),(tm 28)] [3,3]) 22 true,og 30 (bt .leq 3 24 29) 22 true,o1 31 (po 22 30),mv 32 31,og 33 (fa 49 5 1 1) 32 true,og 34 (lo 3 33) 32 true,og 35 (fa 49 3 1 1) 32 true,og 36 (lo 3 35) 32 true,og 37 (fa 49 4 1 1) 32 true,og 38 (lo 3 37) 32 true,og 39 (.mm false [(tm 36),(tm 38)] [3,3]) 32 true,og 40 (bt .geq 3 34 39) 32 true,o1 41 (po 32 40),mv 42 41,og 43 (fa 49 5 1 1) 42 true,og 44 (lo 3 43) 42 true,og 45 (fa 49 3 1 1) 42 true,og 46 (lo 3 45) 42 true,og 47 (fa 49 4 1 1) 42 true,og 48 (lo 3 47) 42 true,og 49 (.mm true [(tm 46),(tm 48)] [3,3]) 42 true,og 50 (bt .leq 3 44 49) 42 true,o1 51 (po 42 50),o1 6 (sg 51)] 0 none) []
 (.ret (rl 0 6 (rl 7 45 [])))))⟩
def D83 (u : Nat) (x0 x1 x2 x3 x4 x5 : Int) (k : Bool → Option ρ) : Option ρ :=
 (ob (F84 100 x0 x1 x2 x3 x4 x5) fun x6 => (bif ((x6 == 0) == true) then (bif ((decide (x4 ≥ (if x2 < x0 then x2 else x0))) == true) then (bif ((decide (x4 ≤ (if x2 > x0 then x2 else x0))) == true) then (bif ((decide (x5 ≥ (if x3 < x1 then x3 else x1))) == true) then (k (decide (x5 ≤ (if x3 > x1 then x3 else x1)))) else (k false)) else (k false)) else (k false)) else (k false)))
def F83 (x0 x1 x2 x3 x4 x5 : Int) : Option (Bool) := D83 u x0 x1 x2 x3 x4 x5 some
theorem f83 (x0 x1 x2 x3 x4 x5 : Int) (k : (Bool) → Option ρ) : D83 u x0 x1 x2 x3 x4 x5 k = ob (F83 u x0 x1 x2 x3 x4 x5) k := by
 simp only [F83,D83,ob_bif,ob_ob,ob_none,ob_some]
theorem e83 (x0 x1 x2 x3 x4 x5 : Int) : evalF (C74 u) u A100 [.agg [(vi x0),(vi x1)],.agg [(vi x2),(vi x3)],.agg [(vi x4),(vi x5)]] = ob (F83 u x0 x1 x2 x3 x4 x5) fun t => some [.v (.b t)] := Eq.trans (b := (ob (F84 100 x0 x1 x2 x3 x4 x5) fun x6 => (bif ((x6 == 0) == true) then (bif ((decide (x4 ≥ (if x2 < x0 then x2 else x0))) == true) then (bif ((decide (x4 ≤ (if x2 > x0 then x2 else x0))) == true) then (bif ((decide (x5 ≥ (if x3 < x1 then x3 else x1))) == true) then (some [.v (.b (decide (x5 ≤ (if x3 > x1 then x3 else x1))))]) else (some [.v (.b false)])) else (some [.v (.b false)])) else (some [.v (.b false)])) else (some [.v (.b false)])))) (by kernel_rfl) (by
 rw [← f83]
 simp only [D83])
def O83 : Ora where
 o := fun args {ρ} K =>
  wc args fun a1 l2 =>
  wagg a1 fun l3 =>
  wdI .i64 l3 fun y7 l5 =>
  wdI .i64 l5 fun y11 l9 =>
  wn l9 <|
  wc l2 fun a12 l13 =>
  wagg a12 fun l14 =>
  wdI .i64 l14 fun y18 l16 =>
  wdI .i64 l16 fun y22 l20 =>
  wn l20 <|
  wc l13 fun a23 l24 =>
  wagg a23 fun l25 =>
  wdI .i64 l25 fun y29 l27 =>
  wdI .i64 l27 fun y33 l31 =>
  wn l31 <|
  wn l24 <|
  (ob (F83 u y7 y11 y18 y22 y29 y33) fun t => K [.v (.b t)])
 nat := fun args {ρ} K => by
  simp only [bind_wagg,bind_wc,bind_wdI,bind_wn,bind_ob,Option.bind_some]
theorem d83 : DO (O83 u) (C74 u) 100 A100 := by
 intro P hmix hC hF args res h
 obtain ⟨a1,l2,rfl,z0⟩ := inv_wc h
 obtain ⟨l3,rfl,z1⟩ := inv_wagg z0
 obtain ⟨a4,y7,l5,rfl,h6,z2⟩ := inv_wdI z1
 obtain ⟨a8,y11,l9,rfl,h10,z3⟩ := inv_wdI z2
 obtain ⟨hn,z4⟩ := inv_wn z3
 cases hn
 obtain ⟨a12,l13,rfl,z5⟩ := inv_wc z4
 obtain ⟨l14,rfl,z6⟩ := inv_wagg z5
 obtain ⟨a15,y18,l16,rfl,h17,z7⟩ := inv_wdI z6
 obtain ⟨a19,y22,l20,rfl,h21,z8⟩ := inv_wdI z7
 obtain ⟨hn,z9⟩ := inv_wn z8
 cases hn
 obtain ⟨a23,l24,rfl,z10⟩ := inv_wc z9
 obtain ⟨l25,rfl,z11⟩ := inv_wagg z10
 obtain ⟨a26,y29,l27,rfl,h28,z12⟩ := inv_wdI z11
 obtain ⟨a30,y33,l31,rfl,h32,z13⟩ := inv_wdI z12
 obtain ⟨hn,z14⟩ := inv_wn z13
 cases hn
 obtain ⟨hn,z15⟩ := inv_wn z14
 cases hn
 exact Den.weaken (.cons (WkA.agg (.cons h6 (.cons h10 .nil))) (.cons (WkA.agg (.cons h17 (.cons h21 .nil))) (.cons (WkA.agg (.cons h28 (.cons h32 .nil))) .nil))) (evalF_sound hmix hC hF ((e83 u y7 y11 y18 y22 y29 y33).trans z15))
def C75 : Oracle := (C74 u).add 100 (fun _ => true) (O83 100)
def A92v1 : AC := (.seq (.region 3 [o1 31 (ln 49 2 4),o1 32 (ln 49 2 5),o1 33 (ln 49 2 6),o1 34 (cs 101 [31,32,33] [49,49,49]),o1 35 (ln 49 2 4),o1 36 (ln 49 2 5),o1 37 (ln 49 2 7),o1 38 (cs 101 [35,36,37] [49,49,49]),o1 39 (bt .mul 3 34 38),o1 40 (bk .lss 3 39 0),mv 41 40,og 42 (ln 49 2 6) 41 true,og 43 (ln 49 2 7) 41 true,og 44 (ln 49 2 4) 41 true,og 45 (cs 101 [42,43,44] [49,49,49]) 41 true,og 46 (ln 49 2 6) 41 true,og 47 (ln 49 2 7) 41 true,og 48 (ln 49 2 5) 41 true,og 49 (cs 101 [46,47,48] [49,49,49]) 41 true,og 50 (bt .mul 3 45 49) 41 true,og 51 (bk .lss 3 50 0) 41 true,o1 52 (po 41 51),o1 8 (sg 52)] 0 (some [[],[],[],[0,1,2],[],[],[],(rl 0 7 []),(rl 0 8 []),(rl 0 9 []),(rl 0 10 []),(rl 0 11 []),(rl 0 11 []),(rl 0 11 []),(rl 0 14 []),(rl 0 11 []),(rl 0 11 []),(rl 0 11 []),(rl 0 18 []),(rl 0 19 []),(rl 0 20 []),(rl 0 21 []),(rl 0 22 [])])) []
 (.ret (rl 0 8 (rl 9 44 []))))
def A92 : AF := ⟨53,[.tmp 8],
 (.seq (.region 0 [o1 4 (bx 0 49 0),o1 5 (bx 1 49 1),o1 6 (bx 2 49 2),o1 7 (bx 3 49 3),o1 8 (sb false)] 4 none) []
 (.seq (.seq (.region 1 [o1 9 (ln 49 2 4),o1 10 (ln 49 2 5),o1 11 (ln 49 2 6),o1 12 (cs 100 [9,10,11] [49,49,49]),mv 13 12,og 14 (ln 49 2 4) 13 false,og 15 (ln 49 2 5) 13 false,og 16 (ln 49 2 7) 13 false,og 17 (cs 100 [14,15,16] [49,49,49]) 13 false,o1 18 (pa 13 17),mv 19 18,og 20 (ln 49 2 6) 19 false,og 21 (ln 49 2 7) 19 false,og 22 (ln 49 2 4) 19 false,og 23 (cs 100 [20,21,22] [49,49,49]) 19 false,o1 24 (pa 19 23),mv 25 24,og 26 (ln 49 2 6) 25 false,og 27 (ln 49 2 7) 25 false,og 28 (ln 49 2 5) 25 false,og 29 (cs 100 [26,27,28] [49,49,49]) 25 false,o1 30 (pa 25 29)] 0 none) []
 (.cond (tm 30)
 (.seq (.region 2 [o1 8 (sb true)] 0 none) []
  (.ret (rl 0 8 (rl 9 44 []))))
 .skip)) (rl 8 23 [])
 A92v1))⟩
def D68 (u : Nat) (x0 x1 x2 x3 x4 x5 x6 x7 : Int) (k : Bool → Option ρ) : Option ρ :=
 (ob (F83 100 x0 x1 x2 x3 x4 x5) fun x8 => (bif (x8 == false) then (ob (F83 100 x0 x1 x2 x3 x6 x7) fun x9 => (bif (x9 == false) then (ob (F83 100 x4 x5 x6 x7 x0 x1) fun xA => (bif (xA == false) then (ob (F83 100 x4 x5 x6 x7 x2 x3) fun xB => (bif xB then (k true) else (ob (F84 100 x0 x1 x2 x3 x4 x5) fun xC => (ob (F84 100 x0 x1 x2 x3 x6 x7) fun xD => (bif ((decide ((w64 (xC * xD)) < 0)) == true) then (ob (F84 100 x4 x5 x6 x7 x0 x1) fun xE => (ob (F84 100 x4 x5 x6 x7 x2 x3) fun xF => (k (decide ((w64 (xE * xF)) < 0))))) else (k false)))))) else (k true))) else (k true))) else (k true)))
def F68 (x0 x1 x2 x3 x4 x5 x6 x7 : Int) : Option (Bool) := D68 u x0 x1 x2 x3 x4 x5 x6 x7 some
theorem f68 (x0 x1 x2 x3 x4 x5 x6 x7 : Int) (k : (Bool) → Option ρ) : D68 u x0 x1 x2 x3 x4 x5 x6 x7 k = ob (F68 u x0 x1 x2 x3 x4 x5 x6 x7) k := by
 simp only [F68,D68,ob_bif,ob_ob,ob_none,ob_some]
theorem e68 (x0 x1 x2 x3 x4 x5 x6 x7 : Int) : evalF (C75 u) u A92 [.agg [(vi x0),(vi x1)],.agg [(vi x2),(vi x3)],.agg [(vi x4),(vi x5)],.agg [(vi x6),(vi x7)]] = ob (F68 u x0 x1 x2 x3 x4 x5 x6 x7) fun t => some [.v (.b t)] := Eq.trans (b := (ob (F83 100 x0 x1 x2 x3 x4 x5) fun x8 => (bif (x8 == false) then (ob (F83 100 x0 x1 x2 x3 x6 x7) fun x9 => (bif (x9 == false) then (ob (F83 100 x4 x5 x6 x7 x0 x1) fun xA => (bif (xA == false) then (ob (F83 100 x4 x5 x6 x7 x2 x3) fun xB => (bif xB then (some [.v (.b true)]) else (ob (F84 100 x0 x1 x2 x3 x4 x5) fun xC => (ob (F84 100 x0 x1 x2 x3 x6 x7) fun xD => (bif ((decide ((w64 (xC * xD)) < 0)) == true) then (ob (F84 100 x4 x5 x6 x7 x0 x1) fun xE => (ob (F84 100 x4 x5 x6 x7 x2 x3) fun xF => (some [.v (.b (decide ((w64 (xE * xF)) < 0)))]))) else (some [.v (.b false)])))))) else (some [.v (.b true)]))) else (some [.v (.b true)]))) else (some [.v (.b true)])))) (by kernel_rfl) (by
 rw [← f68]
 simp only [D68])
def O68 : Ora where
 o := fun args {ρ} K =>
  wc args fun a1 l2 =>
  wagg a1 fun l3 =>
  wdI .i64 l3 fun y7 l5 =>
  wdI .i64 l5 fun y11 l9 =>
  wn l9 <|
  wc l2 fun a12 l13 =>
  wagg a12 fun l14 =>
  wdI .i64 l14 fun y18 l16 =>
  wdI .i64 l16 fun y22 l20 =>
  wn l20 <|
  wc l13 fun a23 l24 =>
  wagg a23 fun l25 =>
  wdI .i64 l25 fun y29 l27 =>
  wdI .i64 l27 fun y33 l31 =>
  wn l31 <|
  wc l24 fun a34 l35 =>
  wagg a34 fun l36 =>
  wdI .i64 l36 fun y40 l38 =>
  wdI .i64 l38 fun y44 l42 =>
  wn l42 <|
  wn l35 <|
  (ob (F68 u y7 y11 y18 y22 y29 y33 y40 y44) fun t => K [.v (.b t)])
 nat := fun args {ρ} K => by
  simp only [bind_wagg,bind_wc,bind_wdI,bind_wn,bind_ob,Option.bind_some]
theorem d68 : DO (O68 u) (C75 u) 92 A92 := by
 intro P hmix hC hF args res h
 obtain ⟨a1,l2,rfl,z0⟩ := inv_wc h
 obtain ⟨l3,rfl,z1⟩ := inv_wagg z0
 obtain ⟨a4,y7,l5,rfl,h6,z2⟩ := inv_wdI z1
 obtain ⟨a8,y11,l9,rfl,h10,z3⟩ := inv_wdI z2
 obtain ⟨hn,z4⟩ := inv_wn z3
 cases hn
 obtain ⟨a12,l13,rfl,z5⟩ := inv_wc z4
 obtain ⟨l14,rfl,z6⟩ := inv_wagg z5
 obtain ⟨a15,y18,l16,rfl,h17,z7⟩ := inv_wdI z6
 obtain ⟨a19,y22,l20,rfl,h21,z8⟩ := inv_wdI z7
 obtain ⟨hn,z9⟩ := inv_wn z8
 cases hn
 obtain ⟨a23,l24,rfl,z10⟩ := inv_wc z9
 obtain ⟨l25,rfl,z11⟩ := inv_wagg z10
 obtain ⟨a26,y29,l27,rfl,h28,z12⟩ := inv_wdI z11
 obtain ⟨a30,y33,l31,rfl,h32,z13⟩ := inv_wdI z12
 obtain ⟨hn,z14⟩ := inv_wn z13
 cases hn
 obtain ⟨a34,l35,rfl,z15⟩ := inv_wc z14
 obtain ⟨l36,rfl,z16⟩ := inv_wagg z15
 obtain ⟨a37,y40,l38,rfl,h39,z17⟩ := inv_wdI z16
 obtain ⟨a41,y44,l42,rfl,h43,z18⟩ := inv_wdI z17
 obtain ⟨hn,z19⟩ := inv_wn z18
 cases hn
 obtain ⟨hn,z20⟩ := inv_wn z19
 cases hn
 exact Den.weaken (.cons (WkA.agg (.cons h6 (.cons h10 .nil))) (.cons (WkA.agg (.cons h17 (.cons h21 .nil))) (.cons (WkA.agg (.cons h28 (.cons h32 .nil))) (.cons (WkA.agg (.cons h39 (.cons h43 .nil))) .nil)))) (evalF_sound hmix hC hF ((e68 u y7 y11 y18 y22 y29 y33 y40 y44).trans z20))
def C76 : Oracle := (C75 u).add 92 (fun _ => true) (O68 100)
def A73v1 : AC := (.region 6 [mv 17 6,o1 18 (bk .add 3 17 1),o1 6 (sg 18)] 0 none)
def A73v2 : AC := (.seq (.block 3
 (.seq (.region 7 [mv 19 0,mv 20 5,o1 21 (.indexAddr 37 49 2 (tm 19) (tm 20)),o1 22 (ln 49 2 21),mv 23 0,mv 24 5,o1 25 (bk .add 3 24 1),mv 26 0,o1 27 (.len 37 false (tm 26)),o1 28 (bt .rem 3 25 27),o1 29 (.indexAddr 37 49 2 (tm 23) (tm 28)),o1 30 (ln 49 2 29),mv 31 1,mv 32 6,o1 33 (.indexAddr 37 49 2 (tm 31) (tm 32)),o1 34 (ln 49 2 33),mv 35 1,mv 36 6,o1 37 (bk .add 3 36 1),mv 38 1,o1 39 (.len 37 false (tm 38)),o1 40 (bt .rem 3 37 39),o1 41 (.indexAddr 37 49 2 (tm 35) (tm 40)),o1 42 (ln 49 2 41),o1 43 (cs 92 [22,30,34,42] [49,49,49,49])] 0 (some [[],[],[0,1],[0,1,2],[],[],[5],[],[7],(rl 5 4 []),(rl 4 6 []),(rl 4 7 []),[],[],[12,13],[12,13,14],[],[],[17],[],[19],(rl 17 4 []),(rl 16 6 []),(rl 16 7 []),(rl 0 24 [])])) []
  (.cond (tm 43)
  (.seq (.region 8 [o1 4 (sb true)] 0 none) []
   (.ret (rl 0 4 (rl 5 39 []))))
  .skip))) (4 :: (rl 19 25 []))
 A73v1)
def A73v3 : AC := (.seq (.seq (.region 5 [mv 13 6,mv 14 1,o1 15 (.len 37 false (tm 14)),o1 16 (bt .lss 3 13 15)] 0 none) []
 (.cond (tm 16)
 .skip
 (.exit 2 (2 :: 3 :: 4 :: (rl 6 38 []))))) (rl 13 4 [])
 A73v2)
def A73v4 : AC := (.region 3 [mv 11 5,o1 12 (bk .add 3 11 1),o1 5 (sg 12)] 0 none)
def A73v5 : AC := (.seq (.block 1
 (.seq (.region 4 [o1 6 (sk 0)] 0 none) []
  (.block 2
  (.loop [] (2 :: 3 :: 4 :: (rl 7 37 []))
   A73v3)))) (4 :: 6 :: (rl 13 31 []))
 A73v4)
def A73v6 : AC := (.seq (.seq (.region 2 [mv 7 5,mv 8 0,o1 9 (.len 37 false (tm 8)),o1 10 (bt .lss 3 7 9)] 0 none) []
 (.cond (tm 10)
 .skip
 (.exit 0 (rl 0 44 [])))) (rl 7 4 [])
 A73v5)
def A73v7 : AC := (.seq (.region 9 [o1 4 (sb false)] 0 none) []
 (.ret (rl 0 4 (rl 5 39 []))))
def A73 : AF := ⟨44,[.tmp 4],
 (.seq (.region 0 [o1 4 (sb false)] 0 none) []
 (.seq (.seq (.region 1 [o1 5 (sk 0)] 0 none) []
 (.block 0
 (.loop [] (2 :: 3 :: 4 :: (rl 6 38 []))
  A73v6))) (rl 4 40 [])
 A73v7))⟩
def B39v2 (C : Oracle) (u : Nat) : St → (Ex → St → Option ρ) → Option ρ := fun st k => evalC C u A73v3 st k
def N39v2 : St → Option St := fun s => s.norm (2 :: 3 :: 4 :: (rl 7 37 [])) 0
def s39v0 (x0 : Nat) (x1 : FF) (x2 : Nat) (x3 : FF) (x4 x5 : Int) : St := ⟨(.x (.c (ro kP x0 x1)) :: .x (.c (ro kP x2 x3)) :: (us 3 (vxi x4 :: vxi x5 :: (us 37 [])))),[]⟩
def s39v1 : St := ⟨(us 4 (vxb true :: (us 39 []))),[]⟩
def s39v2 (x0 : Nat) (x1 : FF) (x2 : Nat) (x3 : FF) (x4 : Int) : St := ⟨(.x (.c (ro kP x0 x1)) :: .x (.c (ro kP x2 x3)) :: (us 3 (vxi x4 :: (us 38 [])))),[]⟩
def L39v2 {ρ : Type} (u : Nat) (x0 : Nat) (x1 : FF) (x2 : Nat) (x3 : FF) (x4 : Int) : Nat → Int → (Option ρ) → (Option ρ) → Option ρ
 | 0,_,_,_ => none
 | m + 1,x5,k0,k1 =>
  (bif (decide (x5 < (Int.ofNat x2))) then (bif (inb x4 x0) then (bif ((Int.ofNat x0) == 0) then none else (bif (inb (Int.tmod (w64 (x4 + 1)) (Int.ofNat x0)) x0) then (bif (inb x5 x2) then (bif ((Int.ofNat x2) == 0) then none else (bif (inb (Int.tmod (w64 (x5 + 1)) (Int.ofNat x2)) x2) then (ob (F68 100 (x1 x4.toNat 0).int (x1 x4.toNat 1).int (CV.int (x1 (Int.toNat (Int.tmod (w64 (x4 + 1)) (Int.ofNat x0))) 0)) (CV.int (x1 (Int.toNat (Int.tmod (w64 (x4 + 1)) (Int.ofNat x0))) 1)) (x3 x5.toNat 0).int (x3 x5.toNat 1).int (CV.int (x3 (Int.toNat (Int.tmod (w64 (x5 + 1)) (Int.ofNat x2))) 0)) (CV.int (x3 (Int.toNat (Int.tmod (w64 (x5 + 1)) (Int.ofNat x2))) 1))) fun x6 => (bif x6 then k0 else (L39v2 u x0 x1 x2 x3 x4 m (w64 (x5 + 1)) k0 k1))) else none)) else none) else none)) else none) else k1)
theorem nl39v2 {ρ σ : Type} (u : Nat) (x0 : Nat) (x1 : FF) (x2 : Nat) (x3 : FF) (x4 : Int) (g : ρ → Option σ) : ∀ (m : Nat) (x5 : Int) (k0 : Option ρ) (k1 : Option ρ),ob (L39v2 u x0 x1 x2 x3 x4 m x5 k0 k1) g = L39v2 u x0 x1 x2 x3 x4 m x5 (ob k0 g) (ob k1 g)
 | 0,_,_,_ => rfl
 | m + 1,x5,k0,k1 => by
  simp only [L39v2,ob_bif,ob_ob,ob_none,nl39v2 u x0 x1 x2 x3 x4 g m]
theorem r39v2 (m : Nat) (k : Ex → St → Option ρ) (x0 : Nat) (x1 : FF) (x2 : Nat) (x3 : FF) (x4 x5 : Int) :
  loopH (B39v2 (C76 u) u) N39v2 (m + 1) (s39v0 x0 x1 x2 x3 x4 x5) k =
  (bif (decide (x5 < (Int.ofNat x2))) then (bif (inb x4 x0) then (bif ((Int.ofNat x0) == 0) then none else (bif (inb (Int.tmod (w64 (x4 + 1)) (Int.ofNat x0)) x0) then (bif (inb x5 x2) then (bif ((Int.ofNat x2) == 0) then none else (bif (inb (Int.tmod (w64 (x5 + 1)) (Int.ofNat x2)) x2) then (ob (F68 100 (x1 x4.toNat 0).int (x1 x4.toNat 1).int (CV.int (x1 (Int.toNat (Int.tmod (w64 (x4 + 1)) (Int.ofNat x0))) 0)) (CV.int (x1 (Int.toNat (Int.tmod (w64 (x4 + 1)) (Int.ofNat x0))) 1)) (x3 x5.toNat 0).int (x3 x5.toNat 1).int (CV.int (x3 (Int.toNat (Int.tmod (w64 (x5 + 1)) (Int.ofNat x2))) 0)) (CV.int (x3 (Int.toNat (Int.tmod (w64 (x5 + 1)) (Int.ofNat x2))) 1))) fun x6 => (bif x6 then (k .ret s39v1) else (loopH (B39v2 (C76 u) u) N39v2 m (s39v0 x0 x1 x2 x3 x4 (w64 (x5 + 1))) k))) else none)) else none) else none)) else none) else (k (.exit 2) (s39v2 x0 x1 x2 x3 x4))) := by kernel_rfl
theorem q39v2 (u : Nat) (x0 : Nat) (x1 : FF) (x2 : Nat) (x3 : FF) (x4 : Int) {ρ : Type} (k : Ex → St → Option ρ) : ∀ (m : Nat) (x5 : Int),
  loopH (B39v2 (C76 u) u) N39v2 m (s39v0 x0 x1 x2 x3 x4 x5) k = L39v2 u x0 x1 x2 x3 x4 m x5 (k .ret s39v1) (k (.exit 2) (s39v2 x0 x1 x2 x3 x4))
 | 0,_ => rfl
 | m + 1,x5 => by
  rw [r39v2]
  simp only [L39v2,q39v2 u x0 x1 x2 x3 x4 k m]
def B39v3 (C : Oracle) (u : Nat) : St → (Ex → St → Option ρ) → Option ρ := fun st k => evalC C u A73v6 st k
def N39v3 : St → Option St := fun s => s.norm (2 :: 3 :: 4 :: (rl 6 38 [])) 0
def s39v3 (x0 : Nat) (x1 : FF) (x2 : Nat) (x3 : FF) (x4 : Int) : St := ⟨(.x (.c (ro kP x0 x1)) :: .x (.c (ro kP x2 x3)) :: (us 3 (vxi x4 :: (us 38 [])))),[]⟩
def s39v4 : St := ⟨(us 44 []),[]⟩
def L39v3 {ρ : Type} (u : Nat) (x0 : Nat) (x1 : FF) (x2 : Nat) (x3 : FF) : Nat → Int → (Option ρ) → (Option ρ) → Option ρ
 | 0,_,_,_ => none
 | m + 1,x4,k0,k1 =>
  (bif (decide (x4 < (Int.ofNat x0))) then (L39v2 u x0 x1 x2 x3 x4 u 0
  k0
  (L39v3 u x0 x1 x2 x3 m (w64 (x4 + 1)) k0 k1)) else k1)
theorem nl39v3 {ρ σ : Type} (u : Nat) (x0 : Nat) (x1 : FF) (x2 : Nat) (x3 : FF) (g : ρ → Option σ) : ∀ (m : Nat) (x4 : Int) (k0 : Option ρ) (k1 : Option ρ),ob (L39v3 u x0 x1 x2 x3 m x4 k0 k1) g = L39v3 u x0 x1 x2 x3 m x4 (ob k0 g) (ob k1 g)
 | 0,_,_,_ => rfl
 | m + 1,x4,k0,k1 => by
  simp only [L39v3,ob_bif,ob_ob,ob_none,nl39v3 u x0 x1 x2 x3 g m,nl39v2]
def s39v5 (x0 : Nat) (x1 : FF) (x2 : Nat) (x3 : FF) (x4 : Int) : St := ⟨(.x (.c (ro kP x0 x1)) :: .x (.c (ro kP x2 x3)) :: (us 3 (vxi x4 :: vxi 0 :: (us 37 [])))),[]⟩
theorem r39v3 (m : Nat) (k : Ex → St → Option ρ) (x0 : Nat) (x1 : FF) (x2 : Nat) (x3 : FF) (x4 : Int) :
  loopH (B39v3 (C76 u) u) N39v3 (m + 1) (s39v3 x0 x1 x2 x3 x4) k =
  (bif (decide (x4 < (Int.ofNat x0))) then (loopN (B39v2 (C76 u) u) N39v2 u (s39v5 x0 x1 x2 x3 x4) (kBlk 2 (kBlk 1 (kSeq (C76 u) u (4 :: 6 :: (rl 13 31 [])) A73v4 (kLoop (B39v3 (C76 u) u) N39v3 m k))))) else (k (.exit 0) s39v4)) := by kernel_rfl
theorem t39v1 (k : Ex → St → Option ρ) (x0 : Nat) (x1 : FF) (x2 : Nat) (x3 : FF) (x4 : Int) :
  loopN (B39v2 (C76 u) u) N39v2 u (s39v5 x0 x1 x2 x3 x4) k =
  L39v2 u x0 x1 x2 x3 x4 u 0 (k .ret s39v1) (k (.exit 2) (s39v2 x0 x1 x2 x3 x4)) :=
 (loopN_at (st' := (s39v0 x0 x1 x2 x3 x4 0)) (by kernel_rfl)).trans (q39v2 u x0 x1 x2 x3 x4 k u 0)
theorem g39v2 (m : Nat) (k : Ex → St → Option ρ) :
  (kBlk 2 (kBlk 1 (kSeq (C76 u) u (4 :: 6 :: (rl 13 31 [])) A73v4 (kLoop (B39v3 (C76 u) u) N39v3 m k)))) .ret s39v1 =
  (k .ret s39v1) := by kernel_rfl
theorem g39v3 (m : Nat) (k : Ex → St → Option ρ) (x0 : Nat) (x1 : FF) (x2 : Nat) (x3 : FF) (x4 : Int) :
  (kBlk 2 (kBlk 1 (kSeq (C76 u) u (4 :: 6 :: (rl 13 31 [])) A73v4 (kLoop (B39v3 (C76 u) u) N39v3 m k)))) (.exit 2) (s39v2 x0 x1 x2 x3 x4) =
  (loopH (B39v3 (C76 u) u) N39v3 m (s39v3 x0 x1 x2 x3 (w64 (x4 + 1))) k) := by kernel_rfl
theorem q39v3 (u : Nat) (x0 : Nat) (x1 : FF) (x2 : Nat) (x3 : FF) {ρ : Type} (k : Ex → St → Option ρ) : ∀ (m : Nat) (x4 : Int),
  loopH (B39v3 (C76 u) u) N39v3 m (s39v3 x0 x1 x2 x3 x4) k = L39v3 u x0 x1 x2 x3 m x4 (k .ret s39v1) (k (.exit 0) s39v4)
 | 0,_ => rfl
 | m + 1,x4 => by
  rw [r39v3]
  simp only [L39v3,q39v3 u x0 x1 x2 x3 k m,t39v1,g39v2,g39v3]
def D39 (x0 : Nat) (x1 : FF) (x2 : Nat) (x3 : FF) (k : Bool → Option ρ) : Option ρ :=
 (L39v3 u x0 x1 x2 x3 u 0
  (k true)
  (k false))
def F39 (x0 : Nat) (x1 : FF) (x2 : Nat) (x3 : FF) : Option (Bool) := D39 u x0 x1 x2 x3 some
theorem f39 (x0 : Nat) (x1 : FF) (x2 : Nat) (x3 : FF) (k : (Bool) → Option ρ) : D39 u x0 x1 x2 x3 k = ob (F39 u x0 x1 x2 x3) k := by
 simp only [F39,D39,ob_bif,ob_ob,ob_none,ob_some,nl39v3]
def s39v6 (x0 : Nat) (x1 : FF) (x2 : Nat) (x3 : FF) : St := ⟨[.x (.c (ro kP x0 x1)),.x (.c (ro kP x2 x3)),uu,uu,vxb false,vxi 0,uu,uu,uu,uu,uu,uu,uu,uu,uu,uu,uu,uu,uu,uu,uu,uu,uu,uu,uu,uu,uu,uu,uu,uu,uu,uu,uu,uu,uu,uu,uu,uu,uu,uu,uu,uu,uu,uu],[]⟩
theorem t39v4 (k : Ex → St → Option ρ) (x0 : Nat) (x1 : FF) (x2 : Nat) (x3 : FF) :
  loopN (B39v3 (C76 u) u) N39v3 u (s39v6 x0 x1 x2 x3) k =
  L39v3 u x0 x1 x2 x3 u 0 (k .ret s39v1) (k (.exit 0) s39v4) :=
 (loopN_at (st' := (s39v3 x0 x1 x2 x3 0)) (by kernel_rfl)).trans (q39v3 u x0 x1 x2 x3 k u 0)
theorem g39v5 :
  (kBlk 0 (kSeq (C76 u) u (rl 4 40 []) A73v7 (finish A73))) .ret s39v1 =
  (some [.v (.b true)]) := by kernel_rfl
theorem g39v6 :
  (kBlk 0 (kSeq (C76 u) u (rl 4 40 []) A73v7 (finish A73))) (.exit 0) s39v4 =
  (some [.v (.b false)]) := by kernel_rfl
theorem e39 (x0 : Nat) (x1 : FF) (x2 : Nat) (x3 : FF) : evalF (C76 u) u A73 [.v (ro kP x0 x1),.v (ro kP x2 x3)] = ob (F39 u x0 x1 x2 x3) fun t => some [.v (.b t)] := Eq.trans (b := (loopN (B39v3 (C76 u) u) N39v3 u (s39v6 x0 x1 x2 x3) (kBlk 0 (kSeq (C76 u) u (rl 4 40 []) A73v7 (finish A73))))) (by kernel_rfl) (by
 rw [← f39]
 simp only [D39,t39v4,g39v5,g39v6])
def O39 : Ora where
 o := fun args {ρ} K =>
  wcL kP args fun y4 y5 l2 =>
  wcL kP l2 fun y9 y10 l7 =>
  wn l7 <|
  (ob (F39 u y4 y5 y9 y10) fun t => K [.v (.b t)])
 nat := fun args {ρ} K => by
  simp only [bind_wcL,bind_wn,bind_ob,Option.bind_some]
theorem d39 : DO (O39 u) (C76 u) 73 A73 := by
 intro P hmix hC hF args res h
 obtain ⟨a1,y4,y5,l2,rfl,h3,z0⟩ := inv_wcL h
 obtain ⟨a6,y9,y10,l7,rfl,h8,z1⟩ := inv_wcL z0
 obtain ⟨hn,z2⟩ := inv_wn z1
 cases hn
 exact Den.weaken (.cons h3 (.cons h8 .nil)) (evalF_sound hmix hC hF ((e39 u y4 y5 y9 y10).trans z2))
def C77 : Oracle := (C76 u).add 73 (fun _ => true) (O39 100)
def A62v1 : AC := (.seq (.region 10 [o1 41 (fa 49 7 1 1),o1 42 (lo 3 41),o1 43 (fa 49 3 1 1),o1 44 (lo 3 43),o1 45 (bt .leq 3 42 44),mv 46 45,og 47 (fa 49 3 1 1) 46 true,og 48 (lo 3 47) 46 true,og 49 (fa 49 8 1 1) 46 true,og 50 (lo 3 49) 46 true,og 51 (bt .lss 3 48 50) 46 true,o1 52 (po 46 51),mv 53 52,og 54 (ln 49 2 7) 53 true,og 55 (ln 49 2 8) 53 true,og 56 (ln 49 2 3) 53 true,og 57 (cs 79 [54,55,56] [49,49,49]) 53 true,og 58 (bk .gtr 3 57 0) 53 true,o1 59 (po 53 58),o1 9 (sg 59)] 0 none) []
 (.seq (.region 11 [o1 60 (fa 49 8 1 1),o1 61 (lo 3 60),o1 62 (fa 49 3 1 1),o1 63 (lo 3 62),o1 64 (bt .leq 3 61 63),mv 65 64,og 66 (fa 49 3 1 1) 65 true,og 67 (lo 3 66) 65 true,og 68 (fa 49 7 1 1) 65 true,og 69 (lo 3 68) 65 true,og 70 (bt .lss 3 67 69) 65 true,o1 71 (po 65 70),mv 72 71,og 73 (ln 49 2 7) 72 true,og 74 (ln 49 2 8) 72 true,og 75 (ln 49 2 3) 72 true,og 76 (cs 79 [73,74,75] [49,49,49]) 72 true,og 77 (bk .lss 3 76 0) 72 true,o1 78 (po 72 77),o1 10 (sg 78)] 0 none) []
 (.seq (.region 12 [mv 79 9,mv 80 79,og 81 (.move (tm 10)) 80 false,o1 82 (pa 80 81)] 0 none) []
 (.cond (tm 82)
 (.region 13 [mv 83 5,o1 84 (.unOp .not 4 (tm 83)),o1 5 (sg 84)] 0 none)
 .skip))))
def A62v2 : AC := (.region 6 [mv 23 6,o1 24 (bk .add 3 23 1),o1 6 (sg 24)] 0 none)
def A62v3 : AC := (.seq (.block 1
 (.seq (.region 7 [mv 25 0,mv 26 6,o1 27 (.indexAddr 37 49 2 (tm 25) (tm 26)),o1 28 (ln 49 2 27),mv 29 0,mv 30 6,o1 31 (bk .add 3 30 1),mv 32 0,o1 33 (.len 37 false (tm 32)),o1 34 (bt .rem 3 31 33),o1 35 (.indexAddr 37 49 2 (tm 29) (tm 34)),o1 36 (ln 49 2 35),o1 7 (.alloc 0 49 [vci 0,vci 0]),o1 8 (.alloc 1 49 [vci 0,vci 0]),o0 (.store 49 2 (tm 7) (tm 28)),o0 (.store 49 2 (tm 8) (tm 36))] 2 (some [[],[],[0,1],[0,1,2],[],[],[5],[],[7],(rl 5 4 []),(rl 4 6 []),(rl 4 7 []),[],[],(rl 0 4 [12,13]),(rl 0 15 [])])) []
  (.seq (.seq (.region 8 [o1 37 (ln 49 2 3),o1 38 (ln 49 2 7),o1 39 (ln 49 2 8),o1 40 (cs 78 [37,38,39] [49,49,49])] 0 none) []
  (.cond (tm 40)
  (.seq (.region 9 [o1 4 (sk 0)] 0 none) []
   (.ret (rl 0 4 (rl 5 81 []))))
  .skip)) (4 :: (rl 37 4 []))
  A62v1))) (4 :: (rl 7 4 (rl 25 60 [])))
 A62v2)
def A62v4 : AC := (.seq (.seq (.region 5 [mv 19 6,mv 20 0,o1 21 (.len 37 false (tm 20)),o1 22 (bt .lss 3 19 21)] 0 none) []
 (.cond (tm 22)
 .skip
 (.exit 0 (rl 0 5 (rl 6 80 []))))) (rl 19 4 [])
 A62v3)
def A62v5 : AC := (.seq (.region 16 [o1 4 (sk (-1))] 0 none) []
 (.ret (rl 0 4 (rl 5 81 []))))
def A62v6 : AC := (.seq (.seq (.region 14 [mv 85 5] 0 none) []
 (.cond (tm 85)
 (.seq (.region 15 [o1 4 (sk 1)] 0 none) []
  (.ret (rl 0 4 (rl 5 81 []))))
 .skip)) [4,85]
 A62v5)
def A62v7 : AC := (.seq (.region 3 [o1 5 (sb false)] 0 none) []
 (.seq (.seq (.region 4 [o1 6 (sk 0)] 0 none) []
 (.block 0
 (.loop [] (1 :: 2 :: 4 :: (rl 7 79 []))
  A62v4))) (4 :: (rl 6 5 (rl 19 66 [])))
 A62v6))
def A62 : AF := ⟨86,[.tmp 4],
 (.seq (.region 0 [o1 3 (bx 0 49 1),o1 4 (sk 0)] 1 none) []
 (.seq (.seq (.region 1 [mv 11 0,o1 12 (cs 71 [11] [37]),o1 13 (bk .neq 73 12 0),mv 14 13,og 15 (ln 49 2 3) 14 false,og 16 (cs 77 [15] [49]) 14 false,og 17 (.unOp .not 4 (tm 16)) 14 false,o1 18 (pa 14 17)] 0 none) []
 (.cond (tm 18)
 (.seq (.region 2 [o1 4 (sk (-1))] 0 none) []
  (.ret (rl 0 4 (rl 5 81 []))))
 .skip)) (4 :: (rl 11 8 []))
 A62v7))⟩
def B40v1 (C : Oracle) (u : Nat) : St → (Ex → St → Option ρ) → Option ρ := fun st k => evalC C u A62v4 st k
def N40v1 : St → Option St := fun s => s.norm (1 :: 2 :: 4 :: (rl 7 79 [])) 1
def s40v0 (x0 : Nat) (x1 : FF) (x2 : Bool) (x3 x4 x5 : Int) : St := ⟨(.x (.c (ro kP x0 x1)) :: .u :: .u :: .x (.ptr 0 0) :: .u :: vxb x2 :: vxi x3 :: (us 79 [])),[.box [(vci x4),(vci x5)]]⟩
def s40v1 (x0 x1 x2 x3 x4 x5 : Int) : St := ⟨(us 4 (vxi 0 :: (us 81 []))),[.box [(vci x0),(vci x1)],.box [(vci x2),(vci x3)],.box [(vci x4),(vci x5)]]⟩
def s40v2 (x0 : Bool) (x1 x2 : Int) : St := ⟨(us 5 (vxb x0 :: (us 80 []))),[.box [(vci x1),(vci x2)]]⟩
def L40v1 {ρ : Type} (u : Nat) (x0 : Nat) (x1 : FF) (x2 x3 : Int) : Nat → Bool → Int → (Int → Int → Int → Int → Option ρ) → (Bool → Option ρ) → Option ρ
 | 0,_,_,_,_ => none
 | m + 1,x4,x5,k0,k1 =>
  (bif (decide (x5 < (Int.ofNat x0))) then (bif (inb x5 x0) then (bif ((Int.ofNat x0) == 0) then none else (bif (inb (Int.tmod (w64 (x5 + 1)) (Int.ofNat x0)) x0) then (ob (F70 100 x2 x3 (x1 x5.toNat 0).int (x1 x5.toNat 1).int (CV.int (x1 (Int.toNat (Int.tmod (w64 (x5 + 1)) (Int.ofNat x0))) 0)) (CV.int (x1 (Int.toNat (Int.tmod (w64 (x5 + 1)) (Int.ofNat x0))) 1))) fun x6 => (bif x6 then (k0 (x1 x5.toNat 0).int (x1 x5.toNat 1).int (CV.int (x1 (Int.toNat (Int.tmod (w64 (x5 + 1)) (Int.ofNat x0))) 0)) (CV.int (x1 (Int.toNat (Int.tmod (w64 (x5 + 1)) (Int.ofNat x0))) 1))) else (bif ((decide ((x1 x5.toNat 1).int ≤ x3)) == true) then (bif ((decide (x3 < (CV.int (x1 (Int.toNat (Int.tmod (w64 (x5 + 1)) (Int.ofNat x0))) 1)))) == true) then (ob (F71 100 (x1 x5.toNat 0).int (x1 x5.toNat 1).int (CV.int (x1 (Int.toNat (Int.tmod (w64 (x5 + 1)) (Int.ofNat x0))) 0)) (CV.int (x1 (Int.toNat (Int.tmod (w64 (x5 + 1)) (Int.ofNat x0))) 1)) x2 x3) fun x7 => (bif ((decide ((CV.int (x1 (Int.toNat (Int.tmod (w64 (x5 + 1)) (Int.ofNat x0))) 1)) ≤ x3)) == true) then (bif ((decide (x3 < (x1 x5.toNat 1).int)) == true) then (ob (F71 100 (x1 x5.toNat 0).int (x1 x5.toNat 1).int (CV.int (x1 (Int.toNat (Int.tmod (w64 (x5 + 1)) (Int.ofNat x0))) 0)) (CV.int (x1 (Int.toNat (Int.tmod (w64 (x5 + 1)) (Int.ofNat x0))) 1)) x2 x3) fun x8 => (bif ((decide (x7 > 0)) == false) then (bif (decide (x8 < 0)) then (L40v1 u x0 x1 x2 x3 m (!x4) (w64 (x5 + 1)) k0 k1) else (L40v1 u x0 x1 x2 x3 m x4 (w64 (x5 + 1)) k0 k1)) else (L40v1 u x0 x1 x2 x3 m (!x4) (w64 (x5 + 1)) k0 k1))) else (bif ((decide (x7 > 0)) == false) then (L40v1 u x0 x1 x2 x3 m x4 (w64 (x5 + 1)) k0 k1) else (L40v1 u x0 x1 x2 x3 m (!x4) (w64 (x5 + 1)) k0 k1))) else (bif ((decide (x7 > 0)) == false) then (L40v1 u x0 x1 x2 x3 m x4 (w64 (x5 + 1)) k0 k1) else (L40v1 u x0 x1 x2 x3 m (!x4) (w64 (x5 + 1)) k0 k1)))) else (bif ((decide ((CV.int (x1 (Int.toNat (Int.tmod (w64 (x5 + 1)) (Int.ofNat x0))) 1)) ≤ x3)) == true) then (bif ((decide (x3 < (x1 x5.toNat 1).int)) == true) then (ob (F71 100 (x1 x5.toNat 0).int (x1 x5.toNat 1).int (CV.int (x1 (Int.toNat (Int.tmod (w64 (x5 + 1)) (Int.ofNat x0))) 0)) (CV.int (x1 (Int.toNat (Int.tmod (w64 (x5 + 1)) (Int.ofNat x0))) 1)) x2 x3) fun x9 => (bif (decide (x9 < 0)) then (L40v1 u x0 x1 x2 x3 m (!x4) (w64 (x5 + 1)) k0 k1) else (L40v1 u x0 x1 x2 x3 m x4 (w64 (x5 + 1)) k0 k1))) else (L40v1 u x0 x1 x2 x3 m x4 (w64 (x5 + 1)) k0 k1)) else (L40v1 u x0 x1 x2 x3 m x4 (w64 (x5 + 1)) k0 k1))) else (bif ((decide ((CV.int (x1 (Int.toNat (Int.tmod (w64 (x5 + 1)) (Int.ofNat x0))) 1)) ≤ x3)) == true) then (bif ((decide (x3 < (x1 x5.toNat 1).int)) == true) then (ob (F71 100 (x1 x5.toNat 0).int (x1 x5.toNat 1).int (CV.int (x1 (Int.toNat (Int.tmod (w64 (x5 + 1)) (Int.ofNat x0))) 0)) (CV.int (x1 (Int.toNat (Int.tmod (w64 (x5 + 1)) (Int.ofNat x0))) 1)) x2 x3) fun xA => (bif (decide (xA < 0)) then (L40v1 u x0 x1 x2 x3 m (!x4) (w64 (x5 + 1)) k0 k1) else (L40v1 u x0 x1 x2 x3 m x4 (w64 (x5 + 1)) k0 k1))) else (L40v1 u x0 x1 x2 x3 m x4 (w64 (x5 + 1)) k0 k1)) else (L40v1 u x0 x1 x2 x3 m x4 (w64 (x5 + 1)) k0 k1))))) else none)) else none) else (k1 x4))
theorem nl40v1 {ρ σ : Type} (u : Nat) (x0 : Nat) (x1 : FF) (x2 x3 : Int) (g : ρ → Option σ) : ∀ (m : Nat) (x4 : Bool) (x5 : Int) (k0 : Int → Int → Int → Int → Option ρ) (k1 : Bool → Option ρ),ob (L40v1 u x0 x1 x2 x3 m x4 x5 k0 k1) g = L40v1 u x0 x1 x2 x3 m x4 x5 (fun x6 x7 x8 x9 => ob (k0 x6 x7 x8 x9) g) (fun xA => ob (k1 xA) g)
 | 0,_,_,_,_ => rfl
 | m + 1,x4,x5,k0,k1 => by
  simp only [L40v1,ob_bif,ob_ob,ob_none,nl40v1 u x0 x1 x2 x3 g m]
theorem r40v1 (m : Nat) (k : Ex → St → Option ρ) (x0 : Nat) (x1 : FF) (x2 x3 : Int) (x4 : Bool) (x5 : Int) :
  loopH (B40v1 (C77 u) u) N40v1 (m + 1) (s40v0 x0 x1 x4 x5 x2 x3) k =
  (bif (decide (x5 < (Int.ofNat x0))) then (bif (inb x5 x0) then (bif ((Int.ofNat x0) == 0) then none else (bif (inb (Int.tmod (w64 (x5 + 1)) (Int.ofNat x0)) x0) then (ob (F70 100 x2 x3 (x1 x5.toNat 0).int (x1 x5.toNat 1).int (CV.int (x1 (Int.toNat (Int.tmod (w64 (x5 + 1)) (Int.ofNat x0))) 0)) (CV.int (x1 (Int.toNat (Int.tmod (w64 (x5 + 1)) (Int.ofNat x0))) 1))) fun x6 => (bif x6 then (k .ret (s40v1 x2 x3 (x1 x5.toNat 0).int (x1 x5.toNat 1).int (CV.int (x1 (Int.toNat (Int.tmod (w64 (x5 + 1)) (Int.ofNat x0))) 0)) (CV.int (x1 (Int.toNat (Int.tmod (w64 (x5 + 1)) (Int.ofNat x0))) 1)))) else (bif ((decide ((x1 x5.toNat 1).int ≤ x3)) == true) then (bif ((decide (x3 < (CV.int (x1 (Int.toNat (Int.tmod (w64 (x5 + 1)) (Int.ofNat x0))) 1)))) == true) then (ob (F71 100 (x1 x5.toNat 0).int (x1 x5.toNat 1).int (CV.int (x1 (Int.toNat (Int.tmod (w64 (x5 + 1)) (Int.ofNat x0))) 0)) (CV.int (x1 (Int.toNat (Int.tmod (w64 (x5 + 1)) (Int.ofNat x0))) 1)) x2 x3) fun x7 => (bif ((decide ((CV.int (x1 (Int.toNat (Int.tmod (w64 (x5 + 1)) (Int.ofNat x0))) 1)) ≤ x3)) == true) then (bif ((decide (x3 < (x1 x5.toNat 1).int)) == true) then (ob (F71 100 (x1 x5.toNat 0).int (x1 x5.toNat 1).int (CV.int (x1 (Int.toNat (Int.tmod (w64 (x5 + 1)) (Int.ofNat x0))) 0)) (CV.int (x1 (Int.toNat (Int.tmod (w64 (x5 + 1)) (Int.ofNat x0))) 1)) x2 x3) fun x8 => (bif ((decide (x7 > 0)) == false) then (bif (decide (x8 < 0)) then (loopH (B40v1 (C77 u) u) N40v1 m (s40v0 x0 x1 (!x4) (w64 (x5 + 1)) x2 x3) k) else (loopH (B40v1 (C77 u) u) N40v1 m (s40v0 x0 x1 x4 (w64 (x5 + 1)) x2 x3) k)) else (loopH (B40v1 (C77 u) u) N40v1 m (s40v0 x0 x1 (!x4) (w64 (x5 + 1)) x2 x3) k))) else (bif ((decide (x7 > 0)) == false) then (loopH (B40v1 (C77 u) u) N40v1 m (s40v0 x0 x1 x4 (w64 (x5 + 1)) x2 x3) k) else (loopH (B40v1 (C77 u) u) N40v1 m (s40v0 x0 x1 (!x4) (w64 (x5 + 1)) x2 x3) k))) else (bif ((decide (x7 > 0)) == false) then (loopH (B40v1 (C77 u) u) N40v1 m (s40v0 x0 x1 x4 (w64 (x5 + 1)) x2 x3) k) else (loopH (B40v1 (C77 u) u) N40v1 m (s40v0 x0 x1 (!x4) (w64 (x5 + 1)) x2 x3) k)))) else (bif ((decide ((CV.int (x1 (Int.toNat (Int.tmod (w64 (x5 + 1)) (Int.ofNat x0))) 1)) ≤ x3)) == true) then (bif ((decide (x3 < (x1 x5.toNat 1).int)) == true) then (ob (F71 100 (x1 x5.toNat 0).int (x1 x5.toNat 1).int (CV.int (x1 (Int.toNat (Int.tmod (w64 (x5 + 1)) (Int.ofNat x0))) 0)) (CV.int (x1 (Int.toNat (Int.tmod (w64 (x5 + 1)) (Int.ofNat x0))) 1)) x2 x3) fun x9 => (bif (decide (x9 < 0)) then (loopH (B40v1 (C77 u) u) N40v1 m (s40v0 x0 x1 (!x4) (w64 (x5 + 1)) x2 x3) k) else (loopH (B40v1 (C77 u) u) N40v1 m (s40v0 x0 x1 x4 (w64 (x5 + 1)) x2 x3) k))) else (loopH (B40v1 (C77 u) u) N40v1 m (s40v0 x0 x1 x4 (w64 (x5 + 1)) x2 x3) k)) else (loopH (B40v1 (C77 u) u) N40v1 m (s40v0 x0 x1 x4 (w64 (x5 + 1)) x2 x3) k))) else (bif ((decide ((CV.int (x1 (Int.toNat (Int.tmod (w64 (x5 + 1)) (Int.ofNat x0))) 1)) ≤ x3)) == true) then (bif ((decide (x3 < (x1 x5.toNat 1).int)) == true) then (ob (F71 100 (x1 x5.toNat 0).int (x1 x5.toNat 1).int (CV.int (x1 (Int.toNat (Int.tmod (w64 (x5 + 1)) (Int.ofNat x0))) 0)) (CV.int (x1 (Int.toNat (Int.tmod (w64 (x5 + 1)) (Int.ofNat x0))) 1)) x2 x3) fun xA => (bif (decide (xA < 0)) then (loopH (B40v1 (C77 u) u) N40v1 m (s40v0 x0 x1 (!x4) (w64 (x5 + 1)) x2 x3) k) else (loopH (B40v1 (C77 u) u) N40v1 m (s40v0 x0 x1 x4 (w64 (x5 + 1)) x2 x3) k))) else (loopH (B40v1 (C77 u) u) N40v1 m (s40v0 x0 x1 x4 (w64 (x5 + 1)) x2 x3) k)) else (loopH (B40v1 (C77 u) u) N40v1 m (s40v0 x0 x1 x4 (w64 (x5 + 1)) x2 x3) k))))) else none)) else none) else (k (.exit 0) (s40v2 x4 x2 x3))) := by kernel_rfl
theorem q40v1 (u : Nat) (x0 : Nat) (x1 : FF) (x2 x3 : Int) {ρ : Type} (k : Ex → St → Option ρ) : ∀ (m : Nat) (x4 : Bool) (x5 : Int),
  loopH (B40v1 (C77 u) u) N40v1 m (s40v0 x0 x1 x4 x5 x2 x3) k = L40v1 u x0 x1 x2 x3 m x4 x5 (fun x6 x7 x8 x9 => k .ret (s40v1 x2 x3 x6 x7 x8 x9)) (fun xA => k (.exit 0) (s40v2 xA x2 x3))
 | 0,_,_ => rfl
 | m + 1,x4,x5 => by
  rw [r40v1]
  simp only [L40v1,q40v1 u x0 x1 x2 x3 k m]
def D40 (x0 : Nat) (x1 : FF) (x2 x3 : Int) (k : Int → Option ρ) : Option ρ :=
 (ob (F37 100 x0 x1) fun x4 => (bif ((x4 != 0) == false) then (ob (F69 100 x2 x3) fun x5 => (bif (!x5) then (k (-1)) else (L40v1 u x0 x1 x2 x3 u false 0
  (fun x6 x7 x8 x9 => (k 0))
  (fun xA => (bif xA then (k 1) else (k (-1))))))) else (k (-1))))
def F40 (x0 : Nat) (x1 : FF) (x2 x3 : Int) : Option (Int) := D40 u x0 x1 x2 x3 some
theorem f40 (x0 : Nat) (x1 : FF) (x2 x3 : Int) (k : (Int) → Option ρ) : D40 u x0 x1 x2 x3 k = ob (F40 u x0 x1 x2 x3) k := by
 simp only [F40,D40,ob_bif,ob_ob,ob_none,ob_some,nl40v1]
def s40v3 (x0 : Nat) (x1 : FF) (x2 x3 : Int) : St := ⟨(.x (.c (ro kP x0 x1)) :: .agg [(vci x2),(vci x3)] :: uu :: .x (.ptr 0 0) :: .u :: vxb false :: vxi 0 :: uu :: uu :: uu :: uu :: (us 8 [uu,uu,uu,uu,uu,uu,uu,uu,uu,uu,uu,uu,uu,uu,uu,uu,uu,uu,uu,uu,uu,uu,uu,uu,uu,uu,uu,uu,uu,uu,uu,uu,uu,uu,uu,uu,uu,uu,uu,uu,uu,uu,uu,uu,uu,uu,uu,uu,uu,uu,uu,uu,uu,uu,uu,uu,uu,uu,uu,uu,uu,uu,uu,uu,uu,uu,uu])),[.box [(vci x2),(vci x3)]]⟩
theorem t40v1 (k : Ex → St → Option ρ) (x0 : Nat) (x1 : FF) (x2 x3 : Int) :
  loopN (B40v1 (C77 u) u) N40v1 u (s40v3 x0 x1 x2 x3) k =
  L40v1 u x0 x1 x2 x3 u false 0 (fun x4 x5 x6 x7 => k .ret (s40v1 x2 x3 x4 x5 x6 x7)) (fun x8 => k (.exit 0) (s40v2 x8 x2 x3)) :=
 (loopN_at (st' := (s40v0 x0 x1 false 0 x2 x3)) (by kernel_rfl)).trans (q40v1 u x0 x1 x2 x3 k u false 0)
theorem g40v2 (x0 x1 x2 x3 x4 x5 : Int) :
  (kBlk 0 (kSeq (C77 u) u (4 :: (rl 6 5 (rl 19 66 []))) A62v6 (finish A62))) .ret (s40v1 x0 x1 x2 x3 x4 x5) =
  (some [.v (vi 0)]) := by kernel_rfl
theorem g40v3 (x0 : Bool) (x1 x2 : Int) :
  (kBlk 0 (kSeq (C77 u) u (4 :: (rl 6 5 (rl 19 66 []))) A62v6 (finish A62))) (.exit 0) (s40v2 x0 x1 x2) =
  (bif x0 then (some [.v (vi 1)]) else (some [.v (vi (-1))])) := by kernel_rfl
theorem e40 (x0 : Nat) (x1 : FF) (x2 x3 : Int) : evalF (C77 u) u A62 [.v (ro kP x0 x1),.agg [(vi x2),(vi x3)]] = ob (F40 u x0 x1 x2 x3) fun t => some [.v (vi t)] := Eq.trans (b := (ob (F37 100 x0 x1) fun x4 => (bif ((x4 != 0) == false) then (ob (F69 100 x2 x3) fun x5 => (bif (!x5) then (some [.v (vi (-1))]) else (loopN (B40v1 (C77 u) u) N40v1 u (s40v3 x0 x1 x2 x3) (kBlk 0 (kSeq (C77 u) u (4 :: (rl 6 5 (rl 19 66 []))) A62v6 (finish A62)))))) else (some [.v (vi (-1))])))) (by kernel_rfl) (by
 rw [← f40]
 simp only [D40,t40v1,g40v2,g40v3])
def O40 : Ora where
 o := fun args {ρ} K =>
  wcL kP args fun y4 y5 l2 =>
  wc l2 fun a6 l7 =>
  wagg a6 fun l8 =>
  wdI .i64 l8 fun y12 l10 =>
  wdI .i64 l10 fun y16 l14 =>
  wn l14 <|
  wn l7 <|
  (ob (F40 u y4 y5 y12 y16) fun t => K [.v (vi t)])
 nat := fun args {ρ} K => by
  simp only [bind_wagg,bind_wc,bind_wcL,bind_wdI,bind_wn,bind_ob,Option.bind_some]
theorem d40 : DO (O40 u) (C77 u) 62 A62 := by
 intro P hmix hC hF args res h
 obtain ⟨a1,y4,y5,l2,rfl,h3,z0⟩ := inv_wcL h
 obtain ⟨a6,l7,rfl,z1⟩ := inv_wc z0
 obtain ⟨l8,rfl,z2⟩ := inv_wagg z1
 obtain ⟨a9,y12,l10,rfl,h11,z3⟩ := inv_wdI z2
 obtain ⟨a13,y16,l14,rfl,h15,z4⟩ := inv_wdI z3
 obtain ⟨hn,z5⟩ := inv_wn z4
 cases hn
 obtain ⟨hn,z6⟩ := inv_wn z5
 cases hn
 exact Den.weaken (.cons h3 (.cons (WkA.agg (.cons h11 (.cons h15 .nil))) .nil)) (evalF_sound hmix hC hF ((e40 u y4 y5 y12 y16).trans z6))
def C78 : Oracle := (C77 u).add 62 (fun _ => true) (O40 100)
def A54v1 : AC := (.region 19 [mv 60 7,o1 61 (bk .add 3 60 1),o1 7 (sg 61)] 0 none)
def A54v2 : AC := (.seq (.block 3
 (.seq (.region 20 [mv 62 5,o1 63 (fa 40 1 1 1),o1 64 (lo 38 63),mv 65 7,o1 66 (.indexAddr 38 37 1 (tm 64) (tm 65)),o1 67 (lo 37 66),o1 68 (cs 73 [62,67] [37,37]),mv 69 68,og 70 (.move (tm 5)) 69 false,og 71 (fa 40 1 1 1) 69 false,og 72 (lo 38 71) 69 false,og 73 (.move (tm 7)) 69 false,og 74 (.indexAddr 38 37 1 (tm 72) (tm 73)) 69 false,og 75 (lo 37 74) 69 false,og 76 (.indexAddr 37 49 2 (tm 75) (ic 0)) 69 false,og 77 (ln 49 2 76) 69 false,og 78 (cs 62 [70,77] [37,49]) 69 false,og 79 (bk .neq 3 78 (-1)) 69 false,o1 80 (pa 69 79),mv 81 80,og 82 (fa 40 1 1 1) 81 false,og 83 (lo 38 82) 81 false,og 84 (.move (tm 7)) 81 false,og 85 (.indexAddr 38 37 1 (tm 83) (tm 84)) 81 false,og 86 (lo 37 85) 81 false,og 87 (.move (tm 5)) 81 false,og 88 (.indexAddr 37 49 2 (tm 87) (ic 0)) 81 false,og 89 (ln 49 2 88) 81 false,og 90 (cs 62 [86,89] [37,49]) 81 false,og 91 (bk .neq 3 90 (-1)) 81 false,o1 92 (pa 81 91)] 0 (some [[],[],[1],[],[1,2,3],(rl 1 4 []),(rl 0 6 []),(rl 0 7 []),(rl 0 8 []),(rl 0 8 []),(rl 0 8 [9]),(rl 0 8 []),(rl 0 8 [9,10,11]),(rl 0 8 (rl 9 4 [])),(rl 0 8 (rl 9 5 [])),(rl 0 8 (rl 9 6 [])),(rl 0 16 []),(rl 0 17 []),(rl 0 18 []),(rl 0 19 []),(rl 0 20 []),(rl 0 21 []),(rl 0 20 []),(rl 0 23 []),(rl 0 24 []),(rl 0 20 []),(rl 0 20 [25]),(rl 0 20 [25,26]),(rl 0 28 []),(rl 0 29 []),(rl 0 30 [])])) []
  (.cond (tm 92)
  (.seq (.region 21 [o1 2 (sk 17)] 0 none) []
   (.ret (0 :: 1 :: (rl 3 90 []))))
  .skip))) (2 :: (rl 62 31 []))
 A54v1)
def A54v3 : AC := (.seq (.seq (.region 18 [mv 57 7,mv 58 4,o1 59 (bt .lss 3 57 58)] 0 none) []
 (.cond (tm 59)
 .skip
 (.exit 2 (0 :: 2 :: 3 :: (rl 5 88 []))))) [57,58,59]
 A54v2)
def A54v4 : AC := (.seq (.region 17 [o1 7 (sk 0)] 0 none) []
 (.block 2
 (.loop [] (0 :: 2 :: 3 :: 6 :: (rl 8 85 []))
  A54v3)))
def A54v5 : AC := (.seq (.seq (.region 15 [mv 39 5,o1 40 (cs 72 [39] [37]),o1 41 (bk .geq 3 40 0),mv 42 41,og 43 (fa 40 1 0 0) 42 false,og 44 (lo 37 43) 42 false,og 45 (.move (tm 5)) 42 false,og 46 (cs 73 [44,45] [37,37]) 42 false,o1 47 (pa 42 46),mv 48 47,og 49 (fa 40 1 0 0) 48 false,og 50 (lo 37 49) 48 false,og 51 (.move (tm 5)) 48 false,og 52 (.indexAddr 37 49 2 (tm 51) (ic 0)) 48 false,og 53 (ln 49 2 52) 48 false,og 54 (cs 62 [50,53] [37,49]) 48 false,og 55 (bk .neq 3 54 1) 48 false,o1 56 (pa 48 55)] 0 (some [[],[0],[0,1],[0,1,2],(rl 0 4 []),(rl 0 5 []),(rl 0 4 []),(rl 0 7 []),(rl 0 8 []),(rl 0 9 []),(rl 0 10 []),(rl 0 11 []),(rl 0 10 []),(rl 0 10 [12]),(rl 0 10 [12,13]),(rl 0 15 []),(rl 0 16 []),(rl 0 17 [])])) []
 (.cond (tm 56)
 (.seq (.region 16 [o1 2 (sk 17)] 0 none) []
  (.ret (0 :: 1 :: (rl 3 90 []))))
 .skip)) (2 :: (rl 39 18 []))
 A54v4)
def A54v6 : AC := (.region 10 [mv 27 4,o1 28 (bk .add 3 27 1),o1 4 (sg 28)] 0 none)
def A54v7 : AC := (.seq (.block 1
 (.seq (.region 11 [o1 29 (fa 40 1 1 1),o1 30 (lo 38 29),mv 31 4,o1 32 (.indexAddr 38 37 1 (tm 30) (tm 31)),o1 33 (lo 37 32),o1 5 (sg 33)] 0 none) []
  (.seq (.seq (.region 12 [mv 34 5,o1 35 (cs 71 [34] [37]),o1 6 (sg 35)] 0 none) []
  (.seq (.region 13 [mv 36 6,o1 37 (bk .neq 73 36 0)] 0 none) []
  (.cond (tm 37)
  (.seq (.region 14 [mv 38 6,o1 2 (sg 38)] 0 none) []
   (.ret (0 :: 1 :: (rl 3 90 []))))
  .skip))) (2 :: 6 :: (rl 34 5 []))
  A54v5))) (2 :: 5 :: 6 :: 7 :: (rl 29 64 []))
 A54v6)
def A54v8 : AC := (.seq (.seq (.region 9 [mv 22 4,o1 23 (fa 40 1 1 1),o1 24 (lo 38 23),o1 25 (.len 38 false (tm 24)),o1 26 (bt .lss 3 22 25)] 0 none) []
 (.cond (tm 26)
 .skip
 (.exit 0 (rl 0 93 [])))) (rl 22 5 [])
 A54v7)
def A54v9 : AC := (.seq (.region 22 [o1 2 (sk 0)] 0 none) []
 (.ret (0 :: 1 :: (rl 3 90 []))))
def A54v10 : AC := (.seq (.seq (.region 8 [o1 4 (sk 0)] 0 none) []
 (.block 0
 (.loop [] (0 :: 2 :: 3 :: (rl 5 88 []))
  A54v8))) (2 :: (rl 4 4 (rl 22 71 [])))
 A54v9)
def A54v11 : AC := (.seq (.seq (.region 6 [o1 18 (fa 40 1 0 0),o1 19 (lo 37 18),o1 20 (cs 72 [19] [37]),o1 21 (bk .leq 3 20 0)] 0 none) []
 (.cond (tm 21)
 (.seq (.region 7 [o1 2 (sk 17)] 0 none) []
  (.ret (0 :: 1 :: (rl 3 90 []))))
 .skip)) (2 :: (rl 18 4 []))
 A54v10)
def A54v12 : AC := (.seq (.seq (.region 3 [o1 12 (fa 40 1 0 0),o1 13 (lo 37 12),o1 14 (cs 71 [13] [37]),o1 3 (sg 14)] 0 none) []
 (.seq (.region 4 [mv 15 3,o1 16 (bk .neq 73 15 0)] 0 none) []
 (.cond (tm 16)
 (.seq (.region 5 [mv 17 3,o1 2 (sg 17)] 0 none) []
  (.ret (0 :: 1 :: (rl 3 90 []))))
 .skip))) (2 :: 3 :: (rl 12 6 []))
 A54v11)
def A54 : AF := ⟨93,[.tmp 2],
 (.seq (.region 0 [o1 1 (bx 0 40 0),o1 2 (sk 0)] 1 none) []
 (.seq (.seq (.region 1 [o1 8 (fa 40 1 1 1),o1 9 (lo 38 8),o1 10 (.len 38 false (tm 9)),o1 11 (bk .gtr 3 10 8)] 0 none) []
 (.cond (tm 11)
 (.seq (.region 2 [o1 2 (sk 12)] 0 none) []
  (.ret (0 :: 1 :: (rl 3 90 []))))
 .skip)) (2 :: (rl 8 4 []))
 A54v12))⟩
def B14v2 (C : Oracle) (u : Nat) : St → (Ex → St → Option ρ) → Option ρ := fun st k => evalC C u A54v3 st k
def N14v2 : St → Option St := fun s => s.norm (0 :: 2 :: 3 :: 6 :: (rl 8 85 [])) 1
def s14v0 (x0 : Int) (x1 : Nat) (x2 : FF) (x3 : Int) (x4 : Nat) (x5 : FF) (x6 : Nat) (x7 : FF) : St := ⟨(.u :: .x (.ptr 0 0) :: .u :: .u :: vxi x0 :: .x (.c (ro kP x1 x2)) :: .u :: vxi x3 :: (us 85 [])),[.box [(.c (ro kP x4 x5)),(.c (ro (.pr (.sl kP) .nil) x6 x7))]]⟩
def s14v1 (x0 : Nat) (x1 : FF) (x2 : Nat) (x3 : FF) : St := ⟨(.u :: .u :: vxi 17 :: (us 90 [])),[.box [(.c (ro kP x0 x1)),(.c (ro (.pr (.sl kP) .nil) x2 x3))]]⟩
def s14v2 (x0 : Int) (x1 : Nat) (x2 : FF) (x3 : Nat) (x4 : FF) : St := ⟨(.u :: .x (.ptr 0 0) :: .u :: .u :: vxi x0 :: (us 88 [])),[.box [(.c (ro kP x1 x2)),(.c (ro (.pr (.sl kP) .nil) x3 x4))]]⟩
def L14v2 {ρ : Type} (u : Nat) (x0 : Int) (x1 : Nat) (x2 : FF) (x3 : Nat) (x4 : FF) (x5 : Nat) (x6 : FF) : Nat → Int → (Option ρ) → (Option ρ) → Option ρ
 | 0,_,_,_ => none
 | m + 1,x7,k0,k1 =>
  (bif (decide (x7 < x0)) then (bif (inb x7 x5) then (ob (F39 100 x1 x2 (x6 x7.toNat 0).len (x6 x7.toNat 0).el) fun x8 => (bif (x8 == false) then (bif (inb x7 x5) then (bif (inb 0 (x6 x7.toNat 0).len) then (ob (F40 100 x1 x2 ((x6 x7.toNat 0).el 0 0).int ((x6 x7.toNat 0).el 0 1).int) fun x9 => (bif ((x9 != (-1)) == false) then (bif (inb x7 x5) then (bif (inb 0 x1) then (ob (F40 100 (x6 x7.toNat 0).len (x6 x7.toNat 0).el (x2 0 0).int (x2 0 1).int) fun xA => (bif (xA != (-1)) then k0 else (L14v2 u x0 x1 x2 x3 x4 x5 x6 m (w64 (x7 + 1)) k0 k1))) else none) else none) else k0)) else none) else none) else k0)) else none) else k1)
theorem nl14v2 {ρ σ : Type} (u : Nat) (x0 : Int) (x1 : Nat) (x2 : FF) (x3 : Nat) (x4 : FF) (x5 : Nat) (x6 : FF) (g : ρ → Option σ) : ∀ (m : Nat) (x7 : Int) (k0 : Option ρ) (k1 : Option ρ),ob (L14v2 u x0 x1 x2 x3 x4 x5 x6 m x7 k0 k1) g = L14v2 u x0 x1 x2 x3 x4 x5 x6 m x7 (ob k0 g) (ob k1 g)
 | 0,_,_,_ => rfl
 | m + 1,x7,k0,k1 => by
  simp only [L14v2,ob_bif,ob_ob,ob_none,nl14v2 u x0 x1 x2 x3 x4 x5 x6 g m]
theorem r14v2 (m : Nat) (k : Ex → St → Option ρ) (x0 : Int) (x1 : Nat) (x2 : FF) (x3 : Nat) (x4 : FF) (x5 : Nat) (x6 : FF) (x7 : Int) :
  loopH (B14v2 (C78 u) u) N14v2 (m + 1) (s14v0 x0 x1 x2 x7 x3 x4 x5 x6) k =
  (bif (decide (x7 < x0)) then (bif (inb x7 x5) then (ob (F39 100 x1 x2 (x6 x7.toNat 0).len (x6 x7.toNat 0).el) fun x8 => (bif (x8 == false) then (bif (inb x7 x5) then (bif (inb 0 (x6 x7.toNat 0).len) then (ob (F40 100 x1 x2 ((x6 x7.toNat 0).el 0 0).int ((x6 x7.toNat 0).el 0 1).int) fun x9 => (bif ((x9 != (-1)) == false) then (bif (inb x7 x5) then (bif (inb 0 x1) then (ob (F40 100 (x6 x7.toNat 0).len (x6 x7.toNat 0).el (x2 0 0).int (x2 0 1).int) fun xA => (bif (xA != (-1)) then (k .ret (s14v1 x3 x4 x5 x6)) else (loopH (B14v2 (C78 u) u) N14v2 m (s14v0 x0 x1 x2 (w64 (x7 + 1)) x3 x4 x5 x6) k))) else none) else none) else (k .ret (s14v1 x3 x4 x5 x6)))) else none) else none) else (k .ret (s14v1 x3 x4 x5 x6)))) else none) else (k (.exit 2) (s14v2 x0 x3 x4 x5 x6))) := by kernel_rfl
theorem q14v2 (u : Nat) (x0 : Int) (x1 : Nat) (x2 : FF) (x3 : Nat) (x4 : FF) (x5 : Nat) (x6 : FF) {ρ : Type} (k : Ex → St → Option ρ) : ∀ (m : Nat) (x7 : Int),
  loopH (B14v2 (C78 u) u) N14v2 m (s14v0 x0 x1 x2 x7 x3 x4 x5 x6) k = L14v2 u x0 x1 x2 x3 x4 x5 x6 m x7 (k .ret (s14v1 x3 x4 x5 x6)) (k (.exit 2) (s14v2 x0 x3 x4 x5 x6))
 | 0,_ => rfl
 | m + 1,x7 => by
  rw [r14v2]
  simp only [L14v2,q14v2 u x0 x1 x2 x3 x4 x5 x6 k m]
def B14v3 (C : Oracle) (u : Nat) : St → (Ex → St → Option ρ) → Option ρ := fun st k => evalC C u A54v8 st k
def N14v3 : St → Option St := fun s => s.norm (0 :: 2 :: 3 :: (rl 5 88 [])) 1
def s14v3 (x0 : Int) (x1 : Nat) (x2 : FF) (x3 : Nat) (x4 : FF) : St := ⟨(.u :: .x (.ptr 0 0) :: .u :: .u :: vxi x0 :: (us 88 [])),[.box [(.c (ro kP x1 x2)),(.c (ro (.pr (.sl kP) .nil) x3 x4))]]⟩
def s14v4 (x0 : Int) (x1 : Nat) (x2 : FF) (x3 : Nat) (x4 : FF) : St := ⟨(.u :: .u :: vxi x0 :: (us 90 [])),[.box [(.c (ro kP x1 x2)),(.c (ro (.pr (.sl kP) .nil) x3 x4))]]⟩
def s14v5 (x0 : Nat) (x1 : FF) (x2 : Nat) (x3 : FF) : St := ⟨(us 93 []),[.box [(.c (ro kP x0 x1)),(.c (ro (.pr (.sl kP) .nil) x2 x3))]]⟩
def L14v3 {ρ : Type} (u : Nat) (x0 : Nat) (x1 : FF) (x2 : Nat) (x3 : FF) : Nat → Int → (Int → Option ρ) → (Option ρ) → Option ρ
 | 0,_,_,_ => none
 | m + 1,x4,k0,k1 =>
  (bif (decide (x4 < (Int.ofNat x2))) then (bif (inb x4 x2) then (ob (F37 100 (x3 x4.toNat 0).len (x3 x4.toNat 0).el) fun x5 => (bif (x5 != 0) then (k0 x5) else (ob (F38 100 (x3 x4.toNat 0).len (x3 x4.toNat 0).el) fun x6 => (bif ((decide (x6 ≥ 0)) == false) then (ob (F39 100 x0 x1 (x3 x4.toNat 0).len (x3 x4.toNat 0).el) fun x7 => (bif (x7 == false) then (bif (inb 0 (x3 x4.toNat 0).len) then (ob (F40 100 x0 x1 ((x3 x4.toNat 0).el 0 0).int ((x3 x4.toNat 0).el 0 1).int) fun x8 => (bif (x8 != 1) then (k0 17) else (L14v2 u x4 (x3 x4.toNat 0).len (x3 x4.toNat 0).el x0 x1 x2 x3 u 0
  (k0 17)
  (L14v3 u x0 x1 x2 x3 m (w64 (x4 + 1)) k0 k1)))) else none) else (k0 17))) else (k0 17))))) else none) else k1)
theorem nl14v3 {ρ σ : Type} (u : Nat) (x0 : Nat) (x1 : FF) (x2 : Nat) (x3 : FF) (g : ρ → Option σ) : ∀ (m : Nat) (x4 : Int) (k0 : Int → Option ρ) (k1 : Option ρ),ob (L14v3 u x0 x1 x2 x3 m x4 k0 k1) g = L14v3 u x0 x1 x2 x3 m x4 (fun x5 => ob (k0 x5) g) (ob k1 g)
 | 0,_,_,_ => rfl
 | m + 1,x4,k0,k1 => by
  simp only [L14v3,ob_bif,ob_ob,ob_none,nl14v3 u x0 x1 x2 x3 g m,nl14v2]
def s14v6 (x0 : Int) (x1 : FF) (x2 x3 : Nat) (x4 : FF) : St := ⟨(.u :: .x (.ptr 0 0) :: .u :: .u :: vxi x0 :: .x (.c (ro kP (x1 x0.toNat 0).len (x1 x0.toNat 0).el)) :: .u :: vxi 0 :: (us 21 (.x (.ptr 0 1) :: .x (.c (ro (.pr (.sl kP) .nil) x2 x1)) :: vxi x0 :: .x (.c (.rp (.pr (.sl kP) .nil) (x1 x0.toNat))) :: .x (.c (ro kP (x1 x0.toNat 0).len (x1 x0.toNat 0).el)) :: (us 59 [])))),[.box [(.c (ro kP x3 x4)),(.c (ro (.pr (.sl kP) .nil) x2 x1))]]⟩
theorem r14v3 (m : Nat) (k : Ex → St → Option ρ) (x0 : Nat) (x1 : FF) (x2 : Nat) (x3 : FF) (x4 : Int) :
  loopH (B14v3 (C78 u) u) N14v3 (m + 1) (s14v3 x4 x0 x1 x2 x3) k =
  (bif (decide (x4 < (Int.ofNat x2))) then (bif (inb x4 x2) then (ob (F37 100 (x3 x4.toNat 0).len (x3 x4.toNat 0).el) fun x5 => (bif (x5 != 0) then (k .ret (s14v4 x5 x0 x1 x2 x3)) else (ob (F38 100 (x3 x4.toNat 0).len (x3 x4.toNat 0).el) fun x6 => (bif ((decide (x6 ≥ 0)) == false) then (ob (F39 100 x0 x1 (x3 x4.toNat 0).len (x3 x4.toNat 0).el) fun x7 => (bif (x7 == false) then (bif (inb 0 (x3 x4.toNat 0).len) then (ob (F40 100 x0 x1 ((x3 x4.toNat 0).el 0 0).int ((x3 x4.toNat 0).el 0 1).int) fun x8 => (bif (x8 != 1) then (k .ret (s14v4 17 x0 x1 x2 x3)) else (loopN (B14v2 (C78 u) u) N14v2 u (s14v6 x4 x3 x2 x0 x1) (kBlk 2 (kBlk 1 (kSeq (C78 u) u (2 :: 5 :: 6 :: 7 :: (rl 29 64 [])) A54v6 (kLoop (B14v3 (C78 u) u) N14v3 m k))))))) else none) else (k .ret (s14v4 17 x0 x1 x2 x3)))) else (k .ret (s14v4 17 x0 x1 x2 x3)))))) else none) else (k (.exit 0) (s14v5 x0 x1 x2 x3))) := by kernel_rfl
theorem t14v1 (k : Ex → St → Option ρ) (x0 : Int) (x1 : FF) (x2 x3 : Nat) (x4 : FF) :
  loopN (B14v2 (C78 u) u) N14v2 u (s14v6 x0 x1 x2 x3 x4) k =
  L14v2 u x0 (x1 x0.toNat 0).len (x1 x0.toNat 0).el x3 x4 x2 x1 u 0 (k .ret (s14v1 x3 x4 x2 x1)) (k (.exit 2) (s14v2 x0 x3 x4 x2 x1)) :=
 (loopN_at (st' := (s14v0 x0 (x1 x0.toNat 0).len (x1 x0.toNat 0).el 0 x3 x4 x2 x1)) (by kernel_rfl)).trans (q14v2 u x0 (x1 x0.toNat 0).len (x1 x0.toNat 0).el x3 x4 x2 x1 k u 0)
theorem g14v2 (m : Nat) (k : Ex → St → Option ρ) (x0 : Nat) (x1 : FF) (x2 : Nat) (x3 : FF) :
  (kBlk 2 (kBlk 1 (kSeq (C78 u) u (2 :: 5 :: 6 :: 7 :: (rl 29 64 [])) A54v6 (kLoop (B14v3 (C78 u) u) N14v3 m k)))) .ret (s14v1 x0 x1 x2 x3) =
  (k .ret (s14v4 17 x0 x1 x2 x3)) := by kernel_rfl
theorem g14v3 (m : Nat) (k : Ex → St → Option ρ) (x0 : Int) (x1 : Nat) (x2 : FF) (x3 : Nat) (x4 : FF) :
  (kBlk 2 (kBlk 1 (kSeq (C78 u) u (2 :: 5 :: 6 :: 7 :: (rl 29 64 [])) A54v6 (kLoop (B14v3 (C78 u) u) N14v3 m k)))) (.exit 2) (s14v2 x0 x1 x2 x3 x4) =
  (loopH (B14v3 (C78 u) u) N14v3 m (s14v3 (w64 (x0 + 1)) x1 x2 x3 x4) k) := by kernel_rfl
theorem q14v3 (u : Nat) (x0 : Nat) (x1 : FF) (x2 : Nat) (x3 : FF) {ρ : Type} (k : Ex → St → Option ρ) : ∀ (m : Nat) (x4 : Int),
  loopH (B14v3 (C78 u) u) N14v3 m (s14v3 x4 x0 x1 x2 x3) k = L14v3 u x0 x1 x2 x3 m x4 (fun x5 => k .ret (s14v4 x5 x0 x1 x2 x3)) (k (.exit 0) (s14v5 x0 x1 x2 x3))
 | 0,_ => rfl
 | m + 1,x4 => by
  rw [r14v3]
  simp only [L14v3,q14v3 u x0 x1 x2 x3 k m,t14v1,g14v2,g14v3]
def D14 (x0 : Nat) (x1 : FF) (x2 : Nat) (x3 : FF) (k : Int → Option ρ) : Option ρ :=
 (bif (decide ((Int.ofNat x2) > 8)) then (k 12) else (ob (F37 100 x0 x1) fun x4 => (bif (x4 != 0) then (k x4) else (ob (F38 100 x0 x1) fun x5 => (bif (decide (x5 ≤ 0)) then (k 17) else (L14v3 u x0 x1 x2 x3 u 0
  (fun x6 => (k x6))
  (k 0)))))))
def F14 (x0 : Nat) (x1 : FF) (x2 : Nat) (x3 : FF) : Option (Int) := D14 u x0 x1 x2 x3 some
theorem f14 (x0 : Nat) (x1 : FF) (x2 : Nat) (x3 : FF) (k : (Int) → Option ρ) : D14 u x0 x1 x2 x3 k = ob (F14 u x0 x1 x2 x3) k := by
 simp only [F14,D14,ob_bif,ob_ob,ob_none,ob_some,nl14v3]
def s14v7 (x0 : Nat) (x1 : FF) (x2 : Nat) (x3 : FF) : St := ⟨(.agg [(.c (ro kP x0 x1)),(.c (ro (.pr (.sl kP) .nil) x2 x3))] :: .x (.ptr 0 0) :: .u :: .u :: vxi 0 :: uu :: uu :: uu :: (us 14 [uu,uu,uu,uu,uu,uu,uu,uu,uu,uu,uu,uu,uu,uu,uu,uu,uu,uu,uu,uu,uu,uu,uu,uu,uu,uu,uu,uu,uu,uu,uu,uu,uu,uu,uu,uu,uu,uu,uu,uu,uu,uu,uu,uu,uu,uu,uu,uu,uu,uu,uu,uu,uu,uu,uu,uu,uu,uu,uu,uu,uu,uu,uu,uu,uu,uu,uu,uu,uu,uu,uu])),[.box [(.c (ro kP x0 x1)),(.c (ro (.pr (.sl kP) .nil) x2 x3))]]⟩
theorem t14v4 (k : Ex → St → Option ρ) (x0 : Nat) (x1 : FF) (x2 : Nat) (x3 : FF) :
  loopN (B14v3 (C78 u) u) N14v3 u (s14v7 x0 x1 x2 x3) k =
  L14v3 u x0 x1 x2 x3 u 0 (fun x4 => k .ret (s14v4 x4 x0 x1 x2 x3)) (k (.exit 0) (s14v5 x0 x1 x2 x3)) :=
 (loopN_at (st' := (s14v3 0 x0 x1 x2 x3)) (by kernel_rfl)).trans (q14v3 u x0 x1 x2 x3 k u 0)
theorem g14v5 (x0 : Int) (x1 : Nat) (x2 : FF) (x3 : Nat) (x4 : FF) :
  (kBlk 0 (kSeq (C78 u) u (2 :: (rl 4 4 (rl 22 71 []))) A54v9 (finish A54))) .ret (s14v4 x0 x1 x2 x3 x4) =
  (some [.v (vi x0)]) := by kernel_rfl
theorem g14v6 (x0 : Nat) (x1 : FF) (x2 : Nat) (x3 : FF) :
  (kBlk 0 (kSeq (C78 u) u (2 :: (rl 4 4 (rl 22 71 []))) A54v9 (finish A54))) (.exit 0) (s14v5 x0 x1 x2 x3) =
  (some [.v (vi 0)]) := by kernel_rfl
theorem e14 (x0 : Nat) (x1 : FF) (x2 : Nat) (x3 : FF) : evalF (C78 u) u A54 [.agg [(ro kP x0 x1),(ro (.pr (.sl kP) .nil) x2 x3)]] = ob (F14 u x0 x1 x2 x3) fun t => some [.v (vi t)] := Eq.trans (b := (bif (decide ((Int.ofNat x2) > 8)) then (some [.v (vi 12)]) else (ob (F37 100 x0 x1) fun x4 => (bif (x4 != 0) then (some [.v (vi x4)]) else (ob (F38 100 x0 x1) fun x5 => (bif (decide (x5 ≤ 0)) then (some [.v (vi 17)]) else (loopN (B14v3 (C78 u) u) N14v3 u (s14v7 x0 x1 x2 x3) (kBlk 0 (kSeq (C78 u) u (2 :: (rl 4 4 (rl 22 71 []))) A54v9 (finish A54)))))))))) (by kernel_rfl) (by
 rw [← f14]
 simp only [D14,t14v4,g14v5,g14v6])
def O14 : Ora where
 o := fun args {ρ} K =>
  wc args fun a1 l2 =>
  wagg a1 fun l3 =>
  wdL kP l3 fun y7 y8 l5 =>
  wdL (.pr (.sl kP) .nil) l5 fun y12 y13 l10 =>
  wn l10 <|
  wn l2 <|
  (ob (F14 u y7 y8 y12 y13) fun t => K [.v (vi t)])
 nat := fun args {ρ} K => by
  simp only [bind_wagg,bind_wc,bind_wdL,bind_wn,bind_ob,Option.bind_some]
theorem d14 : DO (O14 u) (C78 u) 54 A54 := by
 intro P hmix hC hF args res h
 obtain ⟨a1,l2,rfl,z0⟩ := inv_wc h
 obtain ⟨l3,rfl,z1⟩ := inv_wagg z0
 obtain ⟨a4,y7,y8,l5,rfl,h6,z2⟩ := inv_wdL z1
 obtain ⟨a9,y12,y13,l10,rfl,h11,z3⟩ := inv_wdL z2
 obtain ⟨hn,z4⟩ := inv_wn z3
 cases hn
 obtain ⟨hn,z5⟩ := inv_wn z4
 cases hn
 exact Den.weaken (.cons (WkA.agg (.cons h6 (.cons h11 .nil))) .nil) (evalF_sound hmix hC hF ((e14 u y7 y8 y12 y13).trans z5))
def C79 : Oracle := (C78 u).add 54 (fun _ => true) (O14 100)
def A28 : AF := ⟨17,[.tmp 2],
 (.seq (.region 0 [o1 1 (bx 0 46 0),o1 2 (sb false)] 1 none) []
 (.seq (.region 1 [o1 3 (fa 46 1 2 2),o1 4 (lo 3 3),o1 5 (bk .eql 3 4 1),mv 6 5,og 7 (fa 46 1 11 14) 6 true,og 8 (ln 44 4 7) 6 true,og 9 (cs 53 [8] [44]) 6 true,o1 10 (po 6 9),mv 11 10,og 12 (ln 46 18 1) 11 true,og 13 (cf 33 [12] [46]) 11 true,og 14 (cs 54 [13] [40]) 11 true,og 15 (bk .eql 73 14 0) 11 true,o1 16 (po 11 15),o1 2 (sg 16)] 0 none) []
 (.ret (0 :: 1 :: (rl 3 14 [])))))⟩
def D135 (u : Nat) (x0 : Nat → CV) (k : Bool → Option ρ) : Option ρ :=
 (bif (((x0 2).int == 1) == true) then (ob (F133 100 (x0 14).int (x0 15).int (x0 16).int (x0 17).int) fun x1 => (bif (x1 == true) then (ob (F134 100 (listF (pj kR0 x0))) fun x2 => (ob (F14 100 x2.1 x2.2.1 x2.2.2.1 x2.2.2.2) fun x3 => (k (x3 == 0)))) else (k false))) else (k false))
def F135 (x0 : Nat → CV) : Option (Bool) := D135 u x0 some
theorem f135 (x0 : Nat → CV) (k : (Bool) → Option ρ) : D135 u x0 k = ob (F135 u x0) k := by
 simp only [F135,D135,ob_bif,ob_ob,ob_none,ob_some]
theorem e135 (x0 : Nat → CV) : evalF (C79 u) u A28 [.agg (pj kR0 x0)] = ob (F135 u x0) fun t => some [.v (.b t)] := Eq.trans (b := (bif (((x0 2).int == 1) == true) then (ob (F133 100 (x0 14).int (x0 15).int (x0 16).int (x0 17).int) fun x1 => (bif (x1 == true) then (ob (F134 100 (listF (pj kR0 x0))) fun x2 => (ob (F14 100 x2.1 x2.2.1 x2.2.2.1 x2.2.2.2) fun x3 => (some [.v (.b (x3 == 0))]))) else (some [.v (.b false)]))) else (some [.v (.b false)]))) (by kernel_rfl) (by
 rw [← f135]
 simp only [D135])
def O135 : Ora where
 o := fun args {ρ} K =>
  wc args fun a1 l2 =>
  wrow kR0 a1 fun y3 =>
  wn l2 <|
  (ob (F135 u y3) fun t => K [.v (.b t)])
 nat := fun args {ρ} K => by
  simp only [bind_wc,bind_wn,bind_wrow,bind_ob,Option.bind_some]
theorem d135 : DO (O135 u) (C79 u) 28 A28 := by
 intro P hmix hC hF args res h
 obtain ⟨a1,l2,rfl,z0⟩ := inv_wc h
 obtain ⟨y3,h4,z1⟩ := inv_wrow z0
 obtain ⟨hn,z2⟩ := inv_wn z1
 cases hn
 exact Den.weaken (.cons h4 .nil) (evalF_sound hmix hC hF ((e135 u y3).trans z2))
def C80 : Oracle := (C79 u).add 28 (fun _ => true) (O135 100)
def A56 : AF := ⟨31,[.tmp 2],
 (.seq (.region 0 [o1 1 (bx 0 42 0),o1 2 (sb false)] 1 none) []
 (.seq (.region 1 [o1 3 (fa 42 1 0 0),o1 4 (lo 3 3),o1 5 (bk .geq 3 4 (-1099511627776)),mv 6 5,og 7 (fa 42 1 0 0) 6 true,og 8 (lo 3 7) 6 true,og 9 (bk .leq 3 8 1099511627776) 6 true,o1 10 (po 6 9),mv 11 10,og 12 (fa 42 1 1 1) 11 true,og 13 (lo 3 12) 11 true,og 14 (bk .geq 3 13 (-1099511627776)) 11 true,o1 15 (po 11 14),mv 16 15,og 17 (fa 42 1 1 1) 16 true,og 18 (lo 3 17) 16 true,og 19 (bk .leq 3 18 1099511627776) 16 true,o1 20 (po 16 19),mv 21 20,og 22 (fa 42 1 2 2) 21 true,og 23 (lo 3 22) 21 true,og 24 (bk .geq 3 23 (-1099511627776)) 21 true,o1 25 (po 21 24),mv 26 25,og 27 (fa 42 1 2 2) 26 true,og 28 (lo 3 27) 26 true,og 29 (bk .leq 3 28 1099511627776) 26 true,o1 30 (po 26 29),o1 2 (sg 30)] 0 none) []
 (.ret (0 :: 1 :: (rl 3 28 [])))))⟩
def D136 (u : Nat) (x0 x1 x2 : Int) (k : Bool → Option ρ) : Option ρ :=
 (bif ((decide (x0 ≥ (-1099511627776))) == true) then (bif ((decide (x0 ≤ 1099511627776)) == true) then (bif ((decide (x1 ≥ (-1099511627776))) == true) then (bif ((decide (x1 ≤ 1099511627776)) == true) then (bif ((decide (x2 ≥ (-1099511627776))) == true) then (k (decide (x2 ≤ 1099511627776))) else (k false)) else (k false)) else (k false)) else (k false)) else (k false))
def F136 (x0 x1 x2 : Int) : Option (Bool) := D136 u x0 x1 x2 some
theorem f136 (x0 x1 x2 : Int) (k : (Bool) → Option ρ) : D136 u x0 x1 x2 k = ob (F136 u x0 x1 x2) k := by
 simp only [F136,D136,ob_bif,ob_ob,ob_none,ob_some]
theorem e136 (x0 x1 x2 : Int) : evalF (C80 u) u A56 [.agg [(vi x0),(vi x1),(vi x2)]] = ob (F136 u x0 x1 x2) fun t => some [.v (.b t)] := Eq.trans (b := (bif ((decide (x0 ≥ (-1099511627776))) == true) then (bif ((decide (x0 ≤ 1099511627776)) == true) then (bif ((decide (x1 ≥ (-1099511627776))) == true) then (bif ((decide (x1 ≤ 1099511627776)) == true) then (bif ((decide (x2 ≥ (-1099511627776))) == true) then (some [.v (.b (decide (x2 ≤ 1099511627776)))]) else (some [.v (.b false)])) else (some [.v (.b false)])) else (some [.v (.b false)])) else (some [.v (.b false)])) else (some [.v (.b false)]))) (by kernel_rfl) (by
 rw [← f136]
 simp only [D136])
def O136 : Ora where
 o := fun args {ρ} K =>
  wc args fun a1 l2 =>
  wagg a1 fun l3 =>
  wdI .i64 l3 fun y7 l5 =>
  wdI .i64 l5 fun y11 l9 =>
  wdI .i64 l9 fun y15 l13 =>
  wn l13 <|
  wn l2 <|
  (ob (F136 u y7 y11 y15) fun t => K [.v (.b t)])
 nat := fun args {ρ} K => by
  simp only [bind_wagg,bind_wc,bind_wdI,bind_wn,bind_ob,Option.bind_some]
theorem d136 : DO (O136 u) (C80 u) 56 A56 := by
 intro P hmix hC hF args res h
 obtain ⟨a1,l2,rfl,z0⟩ := inv_wc h
 obtain ⟨l3,rfl,z1⟩ := inv_wagg z0
 obtain ⟨a4,y7,l5,rfl,h6,z2⟩ := inv_wdI z1
 obtain ⟨a8,y11,l9,rfl,h10,z3⟩ := inv_wdI z2
 obtain ⟨a12,y15,l13,rfl,h14,z4⟩ := inv_wdI z3
 obtain ⟨hn,z5⟩ := inv_wn z4
 cases hn
 obtain ⟨hn,z6⟩ := inv_wn z5
 cases hn
 exact Den.weaken (.cons (WkA.agg (.cons h6 (.cons h10 (.cons h14 .nil)))) .nil) (evalF_sound hmix hC hF ((e136 u y7 y11 y15).trans z6))
def C81 : Oracle := (C80 u).add 56 (fun _ => true) (O136 100)
def A58 : AF := ⟨21,[.cell 4 42 (some 3)],
 (.seq (.region 0 [o1 2 (bx 0 42 0),o1 3 (bx 1 42 1),o1 4 (.alloc 2 42 [vci 0,vci 0,vci 0])] 3 none) []
 (.seq (.region 1 [o1 5 (fa 42 2 0 0),o1 6 (lo 3 5),o1 7 (fa 42 3 0 0),o1 8 (lo 3 7),o1 9 (bt .sub 3 6 8),o1 10 (fa 42 2 1 1),o1 11 (lo 3 10),o1 12 (fa 42 3 1 1),o1 13 (lo 3 12),o1 14 (bt .sub 3 11 13),o1 15 (fa 42 2 2 2),o1 16 (lo 3 15),o1 17 (fa 42 3 2 2),o1 18 (lo 3 17),o1 19 (bt .sub 3 16 18),o1 20 (.build 42 [vci 0,vci 0,vci 0] [(0,1),(1,1),(2,1)] 0 [(0,(tm 9)),(1,(tm 14)),(2,(tm 19))]),o0 (.store 42 3 (tm 4) (tm 20))] 0 none) []
 (.ret (rl 0 4 (rl 5 16 [])))))⟩
def D137 (u : Nat) (x0 x1 x2 x3 x4 x5 : Int) (k : (Int × Int × Int) → Option ρ) : Option ρ :=
 (k ((w64 (x0 - x3)),(w64 (x1 - x4)),(w64 (x2 - x5))))
def F137 (x0 x1 x2 x3 x4 x5 : Int) : Option (Int × Int × Int) := D137 u x0 x1 x2 x3 x4 x5 some
theorem f137 (x0 x1 x2 x3 x4 x5 : Int) (k : (Int × Int × Int) → Option ρ) : D137 u x0 x1 x2 x3 x4 x5 k = ob (F137 u x0 x1 x2 x3 x4 x5) k := by
 simp only [F137,D137,ob_bif,ob_ob,ob_none,ob_some]
theorem e137 (x0 x1 x2 x3 x4 x5 : Int) : evalF (C81 u) u A58 [.agg [(vi x0),(vi x1),(vi x2)],.agg [(vi x3),(vi x4),(vi x5)]] = ob (F137 u x0 x1 x2 x3 x4 x5) fun t => some [.agg [(vi t.1),(vi t.2.1),(vi t.2.2)]] := Eq.trans (b := (some [.agg [(vi (w64 (x0 - x3))),(vi (w64 (x1 - x4))),(vi (w64 (x2 - x5)))]])) (by kernel_rfl) (by
 rw [← f137]
 simp only [D137])
def O137 : Ora where
 o := fun args {ρ} K =>
  wc args fun a1 l2 =>
  wagg a1 fun l3 =>
  wdI .i64 l3 fun y7 l5 =>
  wdI .i64 l5 fun y11 l9 =>
  wdI .i64 l9 fun y15 l13 =>
  wn l13 <|
  wc l2 fun a16 l17 =>
  wagg a16 fun l18 =>
  wdI .i64 l18 fun y22 l20 =>
  wdI .i64 l20 fun y26 l24 =>
  wdI .i64 l24 fun y30 l28 =>
  wn l28 <|
  wn l17 <|
  (ob (F137 u y7 y11 y15 y22 y26 y30) fun t => K [.agg [(vi t.1),(vi t.2.1),(vi t.2.2)]])
 nat := fun args {ρ} K => by
  simp only [bind_wagg,bind_wc,bind_wdI,bind_wn,bind_ob,Option.bind_some]
theorem d137 : DO (O137 u) (C81 u) 58 A58 := by
 intro P hmix hC hF args res h
 obtain ⟨a1,l2,rfl,z0⟩ := inv_wc h
 obtain ⟨l3,rfl,z1⟩ := inv_wagg z0
 obtain ⟨a4,y7,l5,rfl,h6,z2⟩ := inv_wdI z1
 obtain ⟨a8,y11,l9,rfl,h10,z3⟩ := inv_wdI z2
 obtain ⟨a12,y15,l13,rfl,h14,z4⟩ := inv_wdI z3
 obtain ⟨hn,z5⟩ := inv_wn z4
 cases hn
 obtain ⟨a16,l17,rfl,z6⟩ := inv_wc z5
 obtain ⟨l18,rfl,z7⟩ := inv_wagg z6
 obtain ⟨a19,y22,l20,rfl,h21,z8⟩ := inv_wdI z7
 obtain ⟨a23,y26,l24,rfl,h25,z9⟩ := inv_wdI z8
 obtain ⟨a27,y30,l28,rfl,h29,z10⟩ := inv_wdI z9
 obtain ⟨hn,z11⟩ := inv_wn z10
 cases hn
 obtain ⟨hn,z12⟩ := inv_wn z11
 cases hn
 exact Den.weaken (.cons (WkA.agg (.cons h6 (.cons h10 (.cons h14 .nil)))) (.cons (WkA.agg (.cons h21 (.cons h25 (.cons h29 .nil)))) .nil)) (evalF_sound hmix hC hF ((e137 u y7 y11 y15 y22 y26 y30).trans z12))
def C82 : Oracle := (C81 u).add 58 (fun _ => true) (O137 100)
def A55v1 : AC := (.seq (.region 3 [o1 14 (ln 42 3 2),o1 15 (ln 42 3 3),o1 16 (cs 58 [14,15] [42,42]),o0 (.store 42 3 (tm 4) (tm 16))] 0 none) []
 (.ret (rl 0 4 (rl 5 12 []))))
def A55 : AF := ⟨17,[.cell 4 42 (some 3)],
 (.seq (.region 0 [o1 2 (bx 0 42 0),o1 3 (bx 1 42 1),o1 4 (.alloc 2 42 [vci 0,vci 0,vci 0])] 3 none) []
 (.seq (.seq (.region 1 [o1 5 (ln 42 3 2),o1 6 (cs 56 [5] [42]),o1 7 (.unOp .not 4 (tm 6)),mv 8 7,og 9 (ln 42 3 3) 8 false,og 10 (cs 56 [9] [42]) 8 false,og 11 (.unOp .not 4 (tm 10)) 8 false,o1 12 (pa 8 11)] 0 none) []
 (.cond (tm 12)
 (.seq (.region 2 [o1 13 (.build 42 [vci 0,vci 0,vci 0] [(0,1),(1,1),(2,1)] 0 []),o0 (.store 42 3 (tm 4) (tm 13))] 0 none) []
  (.ret (rl 0 4 (rl 5 12 []))))
 .skip)) (rl 5 9 [])
 A55v1))⟩
def D138 (u : Nat) (x0 x1 x2 x3 x4 x5 : Int) (k : (Int × Int × Int) → Option ρ) : Option ρ :=
 (ob (F136 100 x0 x1 x2) fun x6 => (bif ((!x6) == false) then (ob (F136 100 x3 x4 x5) fun x7 => (bif (!x7) then (k (0,0,0)) else (ob (F137 100 x0 x1 x2 x3 x4 x5) fun x8 => (k (x8.1,x8.2.1,x8.2.2))))) else (k (0,0,0))))
def F138 (x0 x1 x2 x3 x4 x5 : Int) : Option (Int × Int × Int) := D138 u x0 x1 x2 x3 x4 x5 some
theorem f138 (x0 x1 x2 x3 x4 x5 : Int) (k : (Int × Int × Int) → Option ρ) : D138 u x0 x1 x2 x3 x4 x5 k = ob (F138 u x0 x1 x2 x3 x4 x5) k := by
 simp only [F138,D138,ob_bif,ob_ob,ob_none,ob_some]
theorem e138 (x0 x1 x2 x3 x4 x5 : Int) : evalF (C82 u) u A55 [.agg [(vi x0),(vi x1),(vi x2)],.agg [(vi x3),(vi x4),(vi x5)]] = ob (F138 u x0 x1 x2 x3 x4 x5) fun t => some [.agg [(vi t.1),(vi t.2.1),(vi t.2.2)]] := Eq.trans (b := (ob (F136 100 x0 x1 x2) fun x6 => (bif ((!x6) == false) then (ob (F136 100 x3 x4 x5) fun x7 => (bif (!x7) then (some [.agg [(vi 0),(vi 0),(vi 0)]]) else (ob (F137 100 x0 x1 x2 x3 x4 x5) fun x8 => (some [.agg [(vi x8.1),(vi x8.2.1),(vi x8.2.2)]])))) else (some [.agg [(vi 0),(vi 0),(vi 0)]])))) (by kernel_rfl) (by
 rw [← f138]
 simp only [D138])
def O138 : Ora where
 o := fun args {ρ} K =>
  wc args fun a1 l2 =>
  wagg a1 fun l3 =>
  wdI .i64 l3 fun y7 l5 =>
  wdI .i64 l5 fun y11 l9 =>
  wdI .i64 l9 fun y15 l13 =>
  wn l13 <|
  wc l2 fun a16 l17 =>
  wagg a16 fun l18 =>
  wdI .i64 l18 fun y22 l20 =>
  wdI .i64 l20 fun y26 l24 =>
  wdI .i64 l24 fun y30 l28 =>
  wn l28 <|
  wn l17 <|
  (ob (F138 u y7 y11 y15 y22 y26 y30) fun t => K [.agg [(vi t.1),(vi t.2.1),(vi t.2.2)]])
 nat := fun args {ρ} K => by
  simp only [bind_wagg,bind_wc,bind_wdI,bind_wn,bind_ob,Option.bind_some]
theorem d138 : DO (O138 u) (C82 u) 55 A55 := by
 intro P hmix hC hF args res h
 obtain ⟨a1,l2,rfl,z0⟩ := inv_wc h
 obtain ⟨l3,rfl,z1⟩ := inv_wagg z0
 obtain ⟨a4,y7,l5,rfl,h6,z2⟩ := inv_wdI z1
 obtain ⟨a8,y11,l9,rfl,h10,z3⟩ := inv_wdI z2
 obtain ⟨a12,y15,l13,rfl,h14,z4⟩ := inv_wdI z3
 obtain ⟨hn,z5⟩ := inv_wn z4
 cases hn
 obtain ⟨a16,l17,rfl,z6⟩ := inv_wc z5
 obtain ⟨l18,rfl,z7⟩ := inv_wagg z6
 obtain ⟨a19,y22,l20,rfl,h21,z8⟩ := inv_wdI z7
 obtain ⟨a23,y26,l24,rfl,h25,z9⟩ := inv_wdI z8
 obtain ⟨a27,y30,l28,rfl,h29,z10⟩ := inv_wdI z9
 obtain ⟨hn,z11⟩ := inv_wn z10
 cases hn
 obtain ⟨hn,z12⟩ := inv_wn z11
 cases hn
 exact Den.weaken (.cons (WkA.agg (.cons h6 (.cons h10 (.cons h14 .nil)))) (.cons (WkA.agg (.cons h21 (.cons h25 (.cons h29 .nil)))) .nil)) (evalF_sound hmix hC hF ((e138 u y7 y11 y15 y22 y26 y30).trans z12))
def C83 : Oracle := (C82 u).add 55 (fun _ => true) (O138 100)
def A29v1 : AC := (.region 5 [mv 29 5,o1 30 (bk .add 3 29 1),o1 5 (sg 30)] 0 none)
def A29v2 : AC := (.seq (.block 1
 (.seq (.region 6 [mv 31 0,mv 32 5,o1 33 (.indexAddr 29 42 3 (tm 31) (tm 32)),o1 34 (ln 42 3 33),o1 35 (.build 44 [vci 0,vci 0,vci 0,vci 0] [(0,3),(3,1)] 0 [(0,(tm 34))]),o1 36 (cs 53 [35] [44]),o1 37 (.unOp .not 4 (tm 36))] 0 none) []
  (.cond (tm 37)
  (.seq (.region 7 [o1 4 (sb false)] 0 none) []
   (.ret (rl 0 4 (rl 5 66 []))))
  .skip))) (4 :: (rl 31 7 []))
 A29v1)
def A29v3 : AC := (.seq (.seq (.region 4 [mv 25 5,mv 26 0,o1 27 (.len 29 false (tm 26)),o1 28 (bt .lss 3 25 27)] 0 none) []
 (.cond (tm 28)
 .skip
 (.exit 0 (rl 1 70 [])))) (rl 25 4 [])
 A29v2)
def A29v4 : AC := (.seq (.region 19 [mv 69 8,o1 70 (bk .neq 3 69 1)] 0 none) []
 (.cond (tm 70)
 (.seq (.region 20 [o1 4 (sb false)] 0 none) []
  (.ret (rl 0 4 (rl 5 66 []))))
 .skip))
def A29v5 : AC := (.seq (.seq (.region 17 [o1 64 (fa 42 7 2 2),o1 65 (lo 3 64),o1 66 (bk .neq 3 65 0)] 0 none) []
 (.cond (tm 66)
 (.region 18 [mv 67 8,o1 68 (bk .add 3 67 1),o1 8 (sg 68)] 0 none)
 .skip)) (rl 64 5 [])
 A29v4)
def A29v6 : AC := (.seq (.seq (.region 15 [o1 59 (fa 42 7 1 1),o1 60 (lo 3 59),o1 61 (bk .neq 3 60 0)] 0 none) []
 (.cond (tm 61)
 (.region 16 [mv 62 8,o1 63 (bk .add 3 62 1),o1 8 (sg 63)] 0 none)
 .skip)) (rl 59 5 [])
 A29v5)
def A29v7 : AC := (.region 10 [mv 42 6,o1 43 (bk .add 3 42 1),o1 6 (sg 43)] 0 none)
def A29v8 : AC := (.seq (.block 3
 (.seq (.region 11 [mv 44 0,mv 45 6,o1 46 (.indexAddr 29 42 3 (tm 44) (tm 45)),o1 47 (ln 42 3 46),mv 48 0,mv 49 6,o1 50 (bk .sub 3 49 1),o1 51 (.indexAddr 29 42 3 (tm 48) (tm 50)),o1 52 (ln 42 3 51),o1 53 (cs 55 [47,52] [42,42]),o1 7 (.alloc 0 42 [vci 0,vci 0,vci 0]),o0 (.store 42 3 (tm 7) (tm 53))] 1 (some [[],[],[0,1],[0,1,2],[],[],[5],[4,5,6],(rl 4 4 []),(rl 0 9 []),[],(rl 0 11 [])])) []
  (.seq (.region 12 [o1 8 (sk 0)] 0 none) []
  (.seq (.seq (.region 13 [o1 54 (fa 42 7 0 0),o1 55 (lo 3 54),o1 56 (bk .neq 3 55 0)] 0 none) []
  (.cond (tm 56)
  (.region 14 [mv 57 8,o1 58 (bk .add 3 57 1),o1 8 (sg 58)] 0 none)
  .skip)) (rl 54 5 [])
  A29v6)))) (4 :: 7 :: 8 :: (rl 44 27 []))
 A29v7)
def A29v9 : AC := (.seq (.seq (.region 9 [mv 38 6,mv 39 0,o1 40 (.len 29 false (tm 39)),o1 41 (bt .lss 3 38 40)] 0 none) []
 (.cond (tm 41)
 .skip
 (.exit 2 (rl 0 71 [])))) (rl 38 4 [])
 A29v8)
def A29v10 : AC := (.seq (.region 21 [o1 4 (sb true)] 0 none) []
 (.ret (rl 0 4 (rl 5 66 []))))
def A29v11 : AC := (.seq (.seq (.region 8 [o1 6 (sk 1)] 0 none) []
 (.block 2
 (.loop [] (rl 1 5 (rl 7 64 []))
  A29v9))) (4 :: 6 :: 7 :: 8 :: (rl 38 33 []))
 A29v10)
def A29v12 : AC := (.seq (.seq (.region 3 [o1 5 (sk 0)] 0 none) []
 (.block 0
 (.loop [] (rl 1 4 (rl 6 65 []))
  A29v3))) (4 :: 5 :: (rl 25 13 []))
 A29v11)
def A29 : AF := ⟨71,[.tmp 4],
 (.seq (.region 0 [o1 4 (sb false)] 0 none) []
 (.seq (.seq (.region 1 [mv 9 0,o1 10 (.len 29 false (tm 9)),o1 11 (bk .lss 3 10 2),mv 12 11,og 13 (.move (tm 0)) 12 false,og 14 (.len 29 false (tm 13)) 12 false,og 15 (bk .gtr 3 14 32) 12 false,o1 16 (pa 12 15),mv 17 16,og 18 (.move (tm 1)) 17 false,og 19 (bk .lss 3 18 1) 17 false,o1 20 (pa 17 19),mv 21 20,og 22 (.move (tm 1)) 21 false,og 23 (bk .gtr 3 22 10000) 21 false,o1 24 (pa 21 23)] 0 none) []
 (.cond (tm 24)
 (.seq (.region 2 [o1 4 (sb false)] 0 none) []
  (.ret (rl 0 4 (rl 5 66 []))))
 .skip)) (4 :: (rl 9 16 []))
 A29v12))⟩
def B139v1 (C : Oracle) (u : Nat) : St → (Ex → St → Option ρ) → Option ρ := fun st k => evalC C u A29v3 st k
def N139v1 : St → Option St := fun s => s.norm (rl 1 4 (rl 6 65 [])) 0
def s139v0 (x0 : Nat) (x1 : FF) (x2 : Int) : St := ⟨(.x (.c (ro kV x0 x1)) :: (us 4 (vxi x2 :: (us 65 [])))),[]⟩
def s139v1 : St := ⟨(us 4 (vxb false :: (us 66 []))),[]⟩
def s139v2 (x0 : Nat) (x1 : FF) : St := ⟨(.x (.c (ro kV x0 x1)) :: (us 70 [])),[]⟩
def L139v1 {ρ : Type} (u : Nat) (x0 : Nat) (x1 : FF) : Nat → Int → (Option ρ) → (Option ρ) → Option ρ
 | 0,_,_,_ => none
 | m + 1,x2,k0,k1 =>
  (bif (decide (x2 < (Int.ofNat x0))) then (bif (inb x2 x0) then (ob (F133 100 (x1 x2.toNat 0).int (x1 x2.toNat 1).int (x1 x2.toNat 2).int 0) fun x3 => (bif (!x3) then k0 else (L139v1 u x0 x1 m (w64 (x2 + 1)) k0 k1))) else none) else k1)
theorem nl139v1 {ρ σ : Type} (u : Nat) (x0 : Nat) (x1 : FF) (g : ρ → Option σ) : ∀ (m : Nat) (x2 : Int) (k0 : Option ρ) (k1 : Option ρ),ob (L139v1 u x0 x1 m x2 k0 k1) g = L139v1 u x0 x1 m x2 (ob k0 g) (ob k1 g)
 | 0,_,_,_ => rfl
 | m + 1,x2,k0,k1 => by
  simp only [L139v1,ob_bif,ob_ob,ob_none,nl139v1 u x0 x1 g m]
theorem r139v1 (m : Nat) (k : Ex → St → Option ρ) (x0 : Nat) (x1 : FF) (x2 : Int) :
  loopH (B139v1 (C83 u) u) N139v1 (m + 1) (s139v0 x0 x1 x2) k =
  (bif (decide (x2 < (Int.ofNat x0))) then (bif (inb x2 x0) then (ob (F133 100 (x1 x2.toNat 0).int (x1 x2.toNat 1).int (x1 x2.toNat 2).int 0) fun x3 => (bif (!x3) then (k .ret s139v1) else (loopH (B139v1 (C83 u) u) N139v1 m (s139v0 x0 x1 (w64 (x2 + 1))) k))) else none) else (k (.exit 0) (s139v2 x0 x1))) := by kernel_rfl
theorem q139v1 (u : Nat) (x0 : Nat) (x1 : FF) {ρ : Type} (k : Ex → St → Option ρ) : ∀ (m : Nat) (x2 : Int),
  loopH (B139v1 (C83 u) u) N139v1 m (s139v0 x0 x1 x2) k = L139v1 u x0 x1 m x2 (k .ret s139v1) (k (.exit 0) (s139v2 x0 x1))
 | 0,_ => rfl
 | m + 1,x2 => by
  rw [r139v1]
  simp only [L139v1,q139v1 u x0 x1 k m]
def B139v2 (C : Oracle) (u : Nat) : St → (Ex → St → Option ρ) → Option ρ := fun st k => evalC C u A29v9 st k
def N139v2 : St → Option St := fun s => s.norm (rl 1 5 (rl 7 64 [])) 0
def s139v3 (x0 : Nat) (x1 : FF) (x2 : Int) : St := ⟨(.x (.c (ro kV x0 x1)) :: (us 5 (vxi x2 :: (us 64 [])))),[]⟩
def s139v4 (x0 x1 x2 : Int) : St := ⟨(us 4 (vxb false :: (us 66 []))),[.box [(vci x0),(vci x1),(vci x2)]]⟩
def s139v5 : St := ⟨(us 71 []),[]⟩
def L139v2 {ρ : Type} (u : Nat) (x0 : Nat) (x1 : FF) : Nat → Int → (Int → Int → Int → Option ρ) → (Option ρ) → Option ρ
 | 0,_,_,_ => none
 | m + 1,x2,k0,k1 =>
  (bif (decide (x2 < (Int.ofNat x0))) then (bif (inb x2 x0) then (bif (inb (w64 (x2 - 1)) x0) then (ob (F138 100 (x1 x2.toNat 0).int (x1 x2.toNat 1).int (x1 x2.toNat 2).int (CV.int (x1 (Int.toNat (w64 (x2 - 1))) 0)) (CV.int (x1 (Int.toNat (w64 (x2 - 1))) 1)) (CV.int (x1 (Int.toNat (w64 (x2 - 1))) 2))) fun x3 => (bif (x3.1 != 0) then (bif (x3.2.1 != 0) then (bif (x3.2.2 != 0) then (k0 x3.1 x3.2.1 x3.2.2) else (k0 x3.1 x3.2.1 x3.2.2)) else (bif (x3.2.2 != 0) then (k0 x3.1 x3.2.1 x3.2.2) else (L139v2 u x0 x1 m (w64 (x2 + 1)) k0 k1))) else (bif (x3.2.1 != 0) then (bif (x3.2.2 != 0) then (k0 x3.1 x3.2.1 x3.2.2) else (L139v2 u x0 x1 m (w64 (x2 + 1)) k0 k1)) else (bif (x3.2.2 != 0) then (L139v2 u x0 x1 m (w64 (x2 + 1)) k0 k1) else (k0 x3.1 x3.2.1 x3.2.2))))) else none) else none) else k1)
theorem nl139v2 {ρ σ : Type} (u : Nat) (x0 : Nat) (x1 : FF) (g : ρ → Option σ) : ∀ (m : Nat) (x2 : Int) (k0 : Int → Int → Int → Option ρ) (k1 : Option ρ),ob (L139v2 u x0 x1 m x2 k0 k1) g = L139v2 u x0 x1 m x2 (fun x3 x4 x5 => ob (k0 x3 x4 x5) g) (ob k1 g)
 | 0,_,_,_ => rfl
 | m + 1,x2,k0,k1 => by
  simp only [L139v2,ob_bif,ob_ob,ob_none,nl139v2 u x0 x1 g m]
theorem r139v2 (m : Nat) (k : Ex → St → Option ρ) (x0 : Nat) (x1 : FF) (x2 : Int) :
  loopH (B139v2 (C83 u) u) N139v2 (m + 1) (s139v3 x0 x1 x2) k =
  (bif (decide (x2 < (Int.ofNat x0))) then (bif (inb x2 x0) then (bif (inb (w64 (x2 - 1)) x0) then (ob (F138 100 (x1 x2.toNat 0).int (x1 x2.toNat 1).int (x1 x2.toNat 2).int (CV.int (x1 (Int.toNat (w64 (x2 - 1))) 0)) (CV.int (x1 (Int.toNat (w64 (x2 - 1))) 1)) (CV.int (x1 (Int.toNat (w64 (x2 - 1))) 2))) fun x3 => (bif (x3.1 != 0) then (bif (x3.2.1 != 0) then (bif (x3.2.2 != 0) then (k .ret (s139v4 x3.1 x3.2.1 x3.2.2)) else (k .ret (s139v4 x3.1 x3.2.1 x3.2.2))) else (bif (x3.2.2 != 0) then (k .ret (s139v4 x3.1 x3.2.1 x3.2.2)) else (loopH (B139v2 (C83 u) u) N139v2 m (s139v3 x0 x1 (w64 (x2 + 1))) k))) else (bif (x3.2.1 != 0) then (bif (x3.2.2 != 0) then (k .ret (s139v4 x3.1 x3.2.1 x3.2.2)) else (loopH (B139v2 (C83 u) u) N139v2 m (s139v3 x0 x1 (w64 (x2 + 1))) k)) else (bif (x3.2.2 != 0) then (loopH (B139v2 (C83 u) u) N139v2 m (s139v3 x0 x1 (w64 (x2 + 1))) k) else (k .ret (s139v4 x3.1 x3.2.1 x3.2.2)))))) else none) else none) else (k (.exit 2) s139v5)) := by kernel_rfl
theorem q139v2 (u : Nat) (x0 : Nat) (x1 : FF) {ρ : Type} (k : Ex → St → Option ρ) : ∀ (m : Nat) (x2 : Int),
  loopH (B139v2 (C83 u) u) N139v2 m (s139v3 x0 x1 x2) k = L139v2 u x0 x1 m x2 (fun x3 x4 x5 => k .ret (s139v4 x3 x4 x5)) (k (.exit 2) s139v5)
 | 0,_ => rfl
 | m + 1,x2 => by
  rw [r139v2]
  simp only [L139v2,q139v2 u x0 x1 k m]
def D139 (x0 : Nat) (x1 : FF) (x2 : Int) (k : Bool → Option ρ) : Option ρ :=
 (bif ((decide ((Int.ofNat x0) < 2)) == false) then (bif ((decide ((Int.ofNat x0) > 32)) == false) then (bif ((decide (x2 < 1)) == false) then (bif (decide (x2 > 10000)) then (k false) else (L139v1 u x0 x1 u 0
  (k false)
  (L139v2 u x0 x1 u 1
  (fun x3 x4 x5 => (k false))
  (k true)))) else (k false)) else (k false)) else (k false))
def F139 (x0 : Nat) (x1 : FF) (x2 : Int) : Option (Bool) := D139 u x0 x1 x2 some
theorem f139 (x0 : Nat) (x1 : FF) (x2 : Int) (k : (Bool) → Option ρ) : D139 u x0 x1 x2 k = ob (F139 u x0 x1 x2) k := by
 simp only [F139,D139,ob_bif,ob_ob,ob_none,ob_some,nl139v1,nl139v2]
def s139v6 (x0 : Nat) (x1 : FF) (x2 : Int) : St := ⟨(.x (.c (ro kV x0 x1)) :: vxi x2 :: uu :: uu :: .u :: vxi 0 :: uu :: uu :: uu :: (us 16 [uu,uu,uu,uu,uu,uu,uu,uu,uu,uu,uu,uu,uu,uu,uu,uu,uu,uu,uu,uu,uu,uu,uu,uu,uu,uu,uu,uu,uu,uu,uu,uu,uu,uu,uu,uu,uu,uu,uu,uu,uu,uu,uu,uu,uu,uu])),[]⟩
theorem t139v1 (k : Ex → St → Option ρ) (x0 : Nat) (x1 : FF) (x2 : Int) :
  loopN (B139v1 (C83 u) u) N139v1 u (s139v6 x0 x1 x2) k =
  L139v1 u x0 x1 u 0 (k .ret s139v1) (k (.exit 0) (s139v2 x0 x1)) :=
 (loopN_at (st' := (s139v0 x0 x1 0)) (by kernel_rfl)).trans (q139v1 u x0 x1 k u 0)
theorem g139v2 :
  (kBlk 0 (kSeq (C83 u) u (4 :: 5 :: (rl 25 13 [])) A29v11 (finish A29))) .ret s139v1 =
  (some [.v (.b false)]) := by kernel_rfl
def s139v7 (x0 : Nat) (x1 : FF) : St := ⟨(.x (.c (ro kV x0 x1)) :: (us 5 (vxi 1 :: (us 64 [])))),[]⟩
theorem g139v3 (x0 : Nat) (x1 : FF) :
  (kBlk 0 (kSeq (C83 u) u (4 :: 5 :: (rl 25 13 [])) A29v11 (finish A29))) (.exit 0) (s139v2 x0 x1) =
  (loopN (B139v2 (C83 u) u) N139v2 u (s139v7 x0 x1) (kBlk 2 (kSeq (C83 u) u (4 :: 6 :: 7 :: 8 :: (rl 38 33 [])) A29v10 (finish A29)))) := by kernel_rfl
theorem t139v4 (k : Ex → St → Option ρ) (x0 : Nat) (x1 : FF) :
  loopN (B139v2 (C83 u) u) N139v2 u (s139v7 x0 x1) k =
  L139v2 u x0 x1 u 1 (fun x2 x3 x4 => k .ret (s139v4 x2 x3 x4)) (k (.exit 2) s139v5) :=
 (loopN_at (st' := (s139v3 x0 x1 1)) (by kernel_rfl)).trans (q139v2 u x0 x1 k u 1)
theorem g139v5 (x0 x1 x2 : Int) :
  (kBlk 2 (kSeq (C83 u) u (4 :: 6 :: 7 :: 8 :: (rl 38 33 [])) A29v10 (finish A29))) .ret (s139v4 x0 x1 x2) =
  (some [.v (.b false)]) := by kernel_rfl
theorem g139v6 :
  (kBlk 2 (kSeq (C83 u) u (4 :: 6 :: 7 :: 8 :: (rl 38 33 [])) A29v10 (finish A29))) (.exit 2) s139v5 =
  (some [.v (.b true)]) := by kernel_rfl
theorem e139 (x0 : Nat) (x1 : FF) (x2 : Int) : evalF (C83 u) u A29 [.v (ro kV x0 x1),.v (vi x2)] = ob (F139 u x0 x1 x2) fun t => some [.v (.b t)] := Eq.trans (b := (bif ((decide ((Int.ofNat x0) < 2)) == false) then (bif ((decide ((Int.ofNat x0) > 32)) == false) then (bif ((decide (x2 < 1)) == false) then (bif (decide (x2 > 10000)) then (some [.v (.b false)]) else (loopN (B139v1 (C83 u) u) N139v1 u (s139v6 x0 x1 x2) (kBlk 0 (kSeq (C83 u) u (4 :: 5 :: (rl 25 13 [])) A29v11 (finish A29))))) else (some [.v (.b false)])) else (some [.v (.b false)])) else (some [.v (.b false)]))) (by kernel_rfl) (by
 rw [← f139]
 simp only [D139,t139v1,g139v2,g139v3,t139v4,g139v5,g139v6])
def O139 : Ora where
 o := fun args {ρ} K =>
  wcL kV args fun y4 y5 l2 =>
  wcI .i64 l2 fun y9 l7 =>
  wn l7 <|
  (ob (F139 u y4 y5 y9) fun t => K [.v (.b t)])
 nat := fun args {ρ} K => by
  simp only [bind_wcI,bind_wcL,bind_wn,bind_ob,Option.bind_some]
theorem d139 : DO (O139 u) (C83 u) 29 A29 := by
 intro P hmix hC hF args res h
 obtain ⟨a1,y4,y5,l2,rfl,h3,z0⟩ := inv_wcL h
 obtain ⟨a6,y9,l7,rfl,h8,z1⟩ := inv_wcI z0
 obtain ⟨hn,z2⟩ := inv_wn z1
 cases hn
 exact Den.weaken (.cons h3 (.cons h8 .nil)) (evalF_sound hmix hC hF ((e139 u y4 y5 y9).trans z2))
def C84 : Oracle := (C83 u).add 29 (fun _ => true) (O139 100)
def A61v1 : AC := (.seq (.region 3 [mv 9 0,o1 2 (sg 9)] 0 none) []
 (.ret (0 :: 1 :: (rl 3 7 []))))
def A61 : AF := ⟨10,[.tmp 2],
 (.seq (.region 0 [o1 2 (sk 0)] 0 none) []
 (.seq (.seq (.region 1 [mv 3 0,o1 4 (bk .lss 3 3 0),mv 5 4,og 6 (.move (tm 0)) 5 false,og 7 (bk .gtr 3 6 23) 5 false,o1 8 (pa 5 7)] 0 none) []
 (.cond (tm 8)
 (.seq (.region 2 [o1 2 (sk 0)] 0 none) []
  (.ret (0 :: 1 :: (rl 3 7 []))))
 .skip)) (rl 2 7 [])
 A61v1))⟩
def D140 (u : Nat) (x0 : Int) (k : Int → Option ρ) : Option ρ :=
 (bif ((decide (x0 < 0)) == false) then (bif (decide (x0 > 23)) then (k 0) else (k x0)) else (k 0))
def F140 (x0 : Int) : Option (Int) := D140 u x0 some
theorem f140 (x0 : Int) (k : (Int) → Option ρ) : D140 u x0 k = ob (F140 u x0) k := by
 simp only [F140,D140,ob_bif,ob_ob,ob_none,ob_some]
theorem e140 (x0 : Int) : evalF (C84 u) u A61 [.v (vi x0)] = ob (F140 u x0) fun t => some [.v (vi t)] := Eq.trans (b := (bif ((decide (x0 < 0)) == false) then (bif (decide (x0 > 23)) then (some [.v (vi 0)]) else (some [.v (vi x0)])) else (some [.v (vi 0)]))) (by kernel_rfl) (by
 rw [← f140]
 simp only [D140])
def O140 : Ora where
 o := fun args {ρ} K =>
  wcI .i64 args fun y4 l2 =>
  wn l2 <|
  (ob (F140 u y4) fun t => K [.v (vi t)])
 nat := fun args {ρ} K => by
  simp only [bind_wcI,bind_wn,bind_ob,Option.bind_some]
theorem d140 : DO (O140 u) (C84 u) 61 A61 := by
 intro P hmix hC hF args res h
 obtain ⟨a1,y4,l2,rfl,h3,z0⟩ := inv_wcI h
 obtain ⟨hn,z1⟩ := inv_wn z0
 cases hn
 exact Den.weaken (.cons h3 .nil) (evalF_sound hmix hC hF ((e140 u y4).trans z1))
def C85 : Oracle := (C84 u).add 61 (fun _ => true) (O140 100)
def A76v1 : AC := (.seq (.block 1
 (.region 4 [o1 11 (fa 42 2 1 1),o1 12 (lo 3 11),o1 13 (.unOp .neg 3 (tm 12)),o1 14 (fa 42 2 0 0),o1 15 (lo 3 14),o1 16 (fa 42 2 2 2),o1 17 (lo 3 16),o1 18 (.build 42 [vci 0,vci 0,vci 0] [(0,1),(1,1),(2,1)] 0 [(0,(tm 13)),(1,(tm 15)),(2,(tm 17))]),o0 (.store 42 3 (tm 2) (tm 18))] 0 none)) []
 (.region 3 [mv 9 5,o1 10 (bk .add 3 9 1),o1 5 (sg 10)] 0 none))
def A76v2 : AC := (.seq (.seq (.region 2 [mv 6 5,mv 7 1,o1 8 (bt .lss 3 6 7)] 0 none) []
 (.cond (tm 8)
 .skip
 (.exit 0 (0 :: 1 :: 3 :: (rl 5 15 []))))) [6,7,8]
 A76v1)
def A76v3 : AC := (.seq (.region 5 [o1 19 (ln 42 3 2),o0 (.store 42 3 (tm 4) (tm 19))] 0 none) []
 (.ret (rl 0 4 (rl 5 15 []))))
def A76 : AF := ⟨20,[.cell 4 42 (some 3)],
 (.seq (.region 0 [o1 2 (bx 0 42 0),o1 4 (.alloc 1 42 [vci 0,vci 0,vci 0])] 2 none) []
 (.seq (.seq (.region 1 [o1 5 (sk 0)] 0 none) []
 (.block 0
 (.loop [] (0 :: 3 :: (rl 6 14 []))
  A76v2))) (rl 5 14 [])
 A76v3))⟩
def B141v1 (C : Oracle) (u : Nat) : St → (Ex → St → Option ρ) → Option ρ := fun st k => evalC C u A76v2 st k
def N141v1 : St → Option St := fun s => s.norm (0 :: 3 :: (rl 6 14 [])) 2
def s141v0 (x0 x1 x2 x3 x4 : Int) : St := ⟨(.u :: vxi x0 :: .x (.ptr 0 0) :: .u :: .x (.ptr 1 0) :: vxi x1 :: (us 14 [])),[.box [(vci x2),(vci x3),(vci x4)],.box [(vci 0),(vci 0),(vci 0)]]⟩
def s141v1 (x0 x1 x2 : Int) : St := ⟨(.u :: .u :: .x (.ptr 0 0) :: .u :: .x (.ptr 1 0) :: (us 15 [])),[.box [(vci x0),(vci x1),(vci x2)],.box [(vci 0),(vci 0),(vci 0)]]⟩
def L141v1 {ρ : Type} (u : Nat) (x0 x1 : Int) : Nat → Int → Int → Int → (Int → Int → Option ρ) → Option ρ
 | 0,_,_,_,_ => none
 | m + 1,x2,x3,x4,k0 =>
  (bif (decide (x2 < x0)) then (L141v1 u x0 x1 m (w64 (x2 + 1)) (w64 (0 - x4)) x3 k0) else (k0 x3 x4))
theorem nl141v1 {ρ σ : Type} (u : Nat) (x0 x1 : Int) (g : ρ → Option σ) : ∀ (m : Nat) (x2 x3 x4 : Int) (k0 : Int → Int → Option ρ),ob (L141v1 u x0 x1 m x2 x3 x4 k0) g = L141v1 u x0 x1 m x2 x3 x4 (fun x5 x6 => ob (k0 x5 x6) g)
 | 0,_,_,_,_ => rfl
 | m + 1,x2,x3,x4,k0 => by
  simp only [L141v1,ob_bif,ob_ob,ob_none,nl141v1 u x0 x1 g m]
theorem r141v1 (m : Nat) (k : Ex → St → Option ρ) (x0 x1 x2 x3 x4 : Int) :
  loopH (B141v1 (C85 u) u) N141v1 (m + 1) (s141v0 x0 x2 x3 x4 x1) k =
  (bif (decide (x2 < x0)) then (loopH (B141v1 (C85 u) u) N141v1 m (s141v0 x0 (w64 (x2 + 1)) (w64 (0 - x4)) x3 x1) k) else (k (.exit 0) (s141v1 x3 x4 x1))) := by kernel_rfl
theorem q141v1 (u : Nat) (x0 x1 : Int) {ρ : Type} (k : Ex → St → Option ρ) : ∀ (m : Nat) (x2 x3 x4 : Int),
  loopH (B141v1 (C85 u) u) N141v1 m (s141v0 x0 x2 x3 x4 x1) k = L141v1 u x0 x1 m x2 x3 x4 (fun x5 x6 => k (.exit 0) (s141v1 x5 x6 x1))
 | 0,_,_,_ => rfl
 | m + 1,x2,x3,x4 => by
  rw [r141v1]
  simp only [L141v1,q141v1 u x0 x1 k m]
def D141 (x0 x1 x2 x3 : Int) (k : (Int × Int × Int) → Option ρ) : Option ρ :=
 (L141v1 u x3 x2 u 0 x0 x1
  (fun x4 x5 => (k (x4,x5,x2))))
def F141 (x0 x1 x2 x3 : Int) : Option (Int × Int × Int) := D141 u x0 x1 x2 x3 some
theorem f141 (x0 x1 x2 x3 : Int) (k : (Int × Int × Int) → Option ρ) : D141 u x0 x1 x2 x3 k = ob (F141 u x0 x1 x2 x3) k := by
 simp only [F141,D141,ob_bif,ob_ob,ob_none,ob_some,nl141v1]
def s141v2 (x0 x1 x2 x3 : Int) : St := ⟨[.agg [(vci x0),(vci x1),(vci x2)],vxi x3,.x (.ptr 0 0),uu,.x (.ptr 1 0),vxi 0,uu,uu,uu,uu,uu,uu,uu,uu,uu,uu,uu,uu,uu,uu],[.box [(vci x0),(vci x1),(vci x2)],.box [(vci 0),(vci 0),(vci 0)]]⟩
theorem t141v1 (k : Ex → St → Option ρ) (x0 x1 x2 x3 : Int) :
  loopN (B141v1 (C85 u) u) N141v1 u (s141v2 x0 x1 x2 x3) k =
  L141v1 u x3 x2 u 0 x0 x1 (fun x4 x5 => k (.exit 0) (s141v1 x4 x5 x2)) :=
 (loopN_at (st' := (s141v0 x3 0 x0 x1 x2)) (by kernel_rfl)).trans (q141v1 u x3 x2 k u 0 x0 x1)
theorem g141v2 (x0 x1 x2 : Int) :
  (kBlk 0 (kSeq (C85 u) u (rl 5 14 []) A76v3 (finish A76))) (.exit 0) (s141v1 x0 x1 x2) =
  (some [.agg [(vi x0),(vi x1),(vi x2)]]) := by kernel_rfl
theorem e141 (x0 x1 x2 x3 : Int) : evalF (C85 u) u A76 [.agg [(vi x0),(vi x1),(vi x2)],.v (vi x3)] = ob (F141 u x0 x1 x2 x3) fun t => some [.agg [(vi t.1),(vi t.2.1),(vi t.2.2)]] := Eq.trans (b := (loopN (B141v1 (C85 u) u) N141v1 u (s141v2 x0 x1 x2 x3) (kBlk 0 (kSeq (C85 u) u (rl 5 14 []) A76v3 (finish A76))))) (by kernel_rfl) (by
 rw [← f141]
 simp only [D141,t141v1,g141v2])
def O141 : Ora where
 o := fun args {ρ} K =>
  wc args fun a1 l2 =>
  wagg a1 fun l3 =>
  wdI .i64 l3 fun y7 l5 =>
  wdI .i64 l5 fun y11 l9 =>
  wdI .i64 l9 fun y15 l13 =>
  wn l13 <|
  wcI .i64 l2 fun y19 l17 =>
  wn l17 <|
  (ob (F141 u y7 y11 y15 y19) fun t => K [.agg [(vi t.1),(vi t.2.1),(vi t.2.2)]])
 nat := fun args {ρ} K => by
  simp only [bind_wagg,bind_wc,bind_wcI,bind_wdI,bind_wn,bind_ob,Option.bind_some]
theorem d141 : DO (O141 u) (C85 u) 76 A76 := by
 intro P hmix hC hF args res h
 obtain ⟨a1,l2,rfl,z0⟩ := inv_wc h
 obtain ⟨l3,rfl,z1⟩ := inv_wagg z0
 obtain ⟨a4,y7,l5,rfl,h6,z2⟩ := inv_wdI z1
 obtain ⟨a8,y11,l9,rfl,h10,z3⟩ := inv_wdI z2
 obtain ⟨a12,y15,l13,rfl,h14,z4⟩ := inv_wdI z3
 obtain ⟨hn,z5⟩ := inv_wn z4
 cases hn
 obtain ⟨a16,y19,l17,rfl,h18,z6⟩ := inv_wcI z5
 obtain ⟨hn,z7⟩ := inv_wn z6
 cases hn
 exact Den.weaken (.cons (WkA.agg (.cons h6 (.cons h10 (.cons h14 .nil)))) (.cons h18 .nil)) (evalF_sound hmix hC hF ((e141 u y7 y11 y15 y19).trans z7))
def C86 : Oracle := (C85 u).add 76 (fun _ => true) (O141 100)
def A75v1 : AC := (.seq (.region 12 [o1 57 (ln 42 3 2),o0 (.store 42 3 (tm 4) (tm 57))] 0 none) []
 (.ret (rl 0 4 (rl 5 53 []))))
def A75 : AF := ⟨58,[.cell 4 42 (some 3)],
 (.seq (.region 0 [o1 2 (bx 0 42 0),o1 4 (.alloc 1 42 [vci 0,vci 0,vci 0])] 2 none) []
 (.seq (.seq (.region 1 [mv 5 1] 0 none) []
 (.block 0
 (.seq (.region 2 [o1 7 (bk .eql 3 5 1),o1 6 (sg 7)] 0 none) []
  (.cond (tm 6)
  (.seq (.region 3 [o1 8 (fa 42 2 0 0),o1 9 (lo 3 8),o1 10 (fa 42 2 2 2),o1 11 (lo 3 10),o1 12 (.unOp .neg 3 (tm 11)),o1 13 (fa 42 2 1 1),o1 14 (lo 3 13),o1 15 (.build 42 [vci 0,vci 0,vci 0] [(0,1),(1,1),(2,1)] 0 [(0,(tm 9)),(1,(tm 12)),(2,(tm 14))]),o0 (.store 42 3 (tm 4) (tm 15))] 0 none) []
   (.ret (rl 0 4 (rl 5 53 []))))
  (.seq (.region 4 [o1 17 (bk .eql 3 5 2),o1 16 (sg 17)] 0 none) []
   (.cond (tm 16)
   (.seq (.region 5 [o1 18 (fa 42 2 0 0),o1 19 (lo 3 18),o1 20 (fa 42 2 1 1),o1 21 (lo 3 20),o1 22 (.unOp .neg 3 (tm 21)),o1 23 (fa 42 2 2 2),o1 24 (lo 3 23),o1 25 (.unOp .neg 3 (tm 24)),o1 26 (.build 42 [vci 0,vci 0,vci 0] [(0,1),(1,1),(2,1)] 0 [(0,(tm 19)),(1,(tm 22)),(2,(tm 25))]),o0 (.store 42 3 (tm 4) (tm 26))] 0 none) []
    (.ret (rl 0 4 (rl 5 53 []))))
   (.seq (.region 6 [o1 28 (bk .eql 3 5 3),o1 27 (sg 28)] 0 none) []
    (.cond (tm 27)
    (.seq (.region 7 [o1 29 (fa 42 2 0 0),o1 30 (lo 3 29),o1 31 (fa 42 2 2 2),o1 32 (lo 3 31),o1 33 (fa 42 2 1 1),o1 34 (lo 3 33),o1 35 (.unOp .neg 3 (tm 34)),o1 36 (.build 42 [vci 0,vci 0,vci 0] [(0,1),(1,1),(2,1)] 0 [(0,(tm 30)),(1,(tm 32)),(2,(tm 35))]),o0 (.store 42 3 (tm 4) (tm 36))] 0 none) []
     (.ret (rl 0 4 (rl 5 53 []))))
    (.seq (.region 8 [o1 38 (bk .eql 3 5 4),o1 37 (sg 38)] 0 none) []
     (.cond (tm 37)
     (.seq (.region 9 [o1 39 (fa 42 2 2 2),o1 40 (lo 3 39),o1 41 (fa 42 2 1 1),o1 42 (lo 3 41),o1 43 (fa 42 2 0 0),o1 44 (lo 3 43),o1 45 (.unOp .neg 3 (tm 44)),o1 46 (.build 42 [vci 0,vci 0,vci 0] [(0,1),(1,1),(2,1)] 0 [(0,(tm 40)),(1,(tm 42)),(2,(tm 45))]),o0 (.store 42 3 (tm 4) (tm 46))] 0 none) []
      (.ret (rl 0 4 (rl 5 53 []))))
     (.seq (.region 10 [o1 48 (bk .eql 3 5 5),o1 47 (sg 48)] 0 none) []
      (.cond (tm 47)
      (.seq (.region 11 [o1 49 (fa 42 2 2 2),o1 50 (lo 3 49),o1 51 (.unOp .neg 3 (tm 50)),o1 52 (fa 42 2 1 1),o1 53 (lo 3 52),o1 54 (fa 42 2 0 0),o1 55 (lo 3 54),o1 56 (.build 42 [vci 0,vci 0,vci 0] [(0,1),(1,1),(2,1)] 0 [(0,(tm 51)),(1,(tm 53)),(2,(tm 55))]),o0 (.store 42 3 (tm 4) (tm 56))] 0 none) []
       (.ret (rl 0 4 (rl 5 53 []))))
      .skip)))))))))))) (rl 5 52 [])
 A75v1))⟩
def D142 (u : Nat) (x0 x1 x2 x3 : Int) (k : (Int × Int × Int) → Option ρ) : Option ρ :=
 (bif (x3 == 1) then (k (x0,(w64 (0 - x2)),x1)) else (bif (x3 == 2) then (k (x0,(w64 (0 - x1)),(w64 (0 - x2)))) else (bif (x3 == 3) then (k (x0,x2,(w64 (0 - x1)))) else (bif (x3 == 4) then (k (x2,x1,(w64 (0 - x0)))) else (bif (x3 == 5) then (k ((w64 (0 - x2)),x1,x0)) else (k (x0,x1,x2)))))))
def F142 (x0 x1 x2 x3 : Int) : Option (Int × Int × Int) := D142 u x0 x1 x2 x3 some
theorem f142 (x0 x1 x2 x3 : Int) (k : (Int × Int × Int) → Option ρ) : D142 u x0 x1 x2 x3 k = ob (F142 u x0 x1 x2 x3) k := by
 simp only [F142,D142,ob_bif,ob_ob,ob_none,ob_some]
theorem e142 (x0 x1 x2 x3 : Int) : evalF (C86 u) u A75 [.agg [(vi x0),(vi x1),(vi x2)],.v (vi x3)] = ob (F142 u x0 x1 x2 x3) fun t => some [.agg [(vi t.1),(vi t.2.1),(vi t.2.2)]] := Eq.trans (b := (bif (x3 == 1) then (some [.agg [(vi x0),(vi (w64 (0 - x2))),(vi x1)]]) else (bif (x3 == 2) then (some [.agg [(vi x0),(vi (w64 (0 - x1))),(vi (w64 (0 - x2)))]]) else (bif (x3 == 3) then (some [.agg [(vi x0),(vi x2),(vi (w64 (0 - x1)))]]) else (bif (x3 == 4) then (some [.agg [(vi x2),(vi x1),(vi (w64 (0 - x0)))]]) else (bif (x3 == 5) then (some [.agg [(vi (w64 (0 - x2))),(vi x1),(vi x0)]]) else (some [.agg [(vi x0),(vi x1),(vi x2)]]))))))) (by kernel_rfl) (by
 rw [← f142]
 simp only [D142])
def O142 : Ora where
 o := fun args {ρ} K =>
  wc args fun a1 l2 =>
  wagg a1 fun l3 =>
  wdI .i64 l3 fun y7 l5 =>
  wdI .i64 l5 fun y11 l9 =>
  wdI .i64 l9 fun y15 l13 =>
  wn l13 <|
  wcI .i64 l2 fun y19 l17 =>
  wn l17 <|
  (ob (F142 u y7 y11 y15 y19) fun t => K [.agg [(vi t.1),(vi t.2.1),(vi t.2.2)]])
 nat := fun args {ρ} K => by
  simp only [bind_wagg,bind_wc,bind_wcI,bind_wdI,bind_wn,bind_ob,Option.bind_some]
theorem d142 : DO (O142 u) (C86 u) 75 A75 := by
 intro P hmix hC hF args res h
 obtain ⟨a1,l2,rfl,z0⟩ := inv_wc h
 obtain ⟨l3,rfl,z1⟩ := inv_wagg z0
 obtain ⟨a4,y7,l5,rfl,h6,z2⟩ := inv_wdI z1
 obtain ⟨a8,y11,l9,rfl,h10,z3⟩ := inv_wdI z2
 obtain ⟨a12,y15,l13,rfl,h14,z4⟩ := inv_wdI z3
 obtain ⟨hn,z5⟩ := inv_wn z4
 cases hn
 obtain ⟨a16,y19,l17,rfl,h18,z6⟩ := inv_wcI z5
 obtain ⟨hn,z7⟩ := inv_wn z6
 cases hn
 exact Den.weaken (.cons (WkA.agg (.cons h6 (.cons h10 (.cons h14 .nil)))) (.cons h18 .nil)) (evalF_sound hmix hC hF ((e142 u y7 y11 y15 y19).trans z7))
def C87 : Oracle := (C86 u).add 75 (fun _ => true) (O142 100)
def A59 : AF := ⟨12,[.cell 4 42 (some 3)],
 (.seq (.region 0 [o1 2 (bx 0 42 0),o1 4 (.alloc 1 42 [vci 0,vci 0,vci 0])] 2 none) []
 (.seq (.region 1 [o1 5 (ln 42 3 2),mv 6 1,o1 7 (bk .rem 3 6 4),o1 8 (cs 76 [5,7] [42,3]),mv 9 1,o1 10 (bk .quo 3 9 4),o1 11 (cs 75 [8,10] [42,3]),o0 (.store 42 3 (tm 4) (tm 11))] 0 none) []
 (.ret (rl 0 4 (rl 5 7 [])))))⟩
def D143 (u : Nat) (x0 x1 x2 x3 : Int) (k : (Int × Int × Int) → Option ρ) : Option ρ :=
 (ob (F141 100 x0 x1 x2 (Int.tmod x3 4)) fun x4 => (ob (F142 100 x4.1 x4.2.1 x4.2.2 (w64 (Int.tdiv x3 4))) fun x5 => (k (x5.1,x5.2.1,x5.2.2))))
def F143 (x0 x1 x2 x3 : Int) : Option (Int × Int × Int) := D143 u x0 x1 x2 x3 some
theorem f143 (x0 x1 x2 x3 : Int) (k : (Int × Int × Int) → Option ρ) : D143 u x0 x1 x2 x3 k = ob (F143 u x0 x1 x2 x3) k := by
 simp only [F143,D143,ob_bif,ob_ob,ob_none,ob_some]
theorem e143 (x0 x1 x2 x3 : Int) : evalF (C87 u) u A59 [.agg [(vi x0),(vi x1),(vi x2)],.v (vi x3)] = ob (F143 u x0 x1 x2 x3) fun t => some [.agg [(vi t.1),(vi t.2.1),(vi t.2.2)]] := Eq.trans (b := (ob (F141 100 x0 x1 x2 (Int.tmod x3 4)) fun x4 => (ob (F142 100 x4.1 x4.2.1 x4.2.2 (w64 (Int.tdiv x3 4))) fun x5 => (some [.agg [(vi x5.1),(vi x5.2.1),(vi x5.2.2)]])))) (by kernel_rfl) (by
 rw [← f143]
 simp only [D143])
def O143 : Ora where
 o := fun args {ρ} K =>
  wc args fun a1 l2 =>
  wagg a1 fun l3 =>
  wdI .i64 l3 fun y7 l5 =>
  wdI .i64 l5 fun y11 l9 =>
  wdI .i64 l9 fun y15 l13 =>
  wn l13 <|
  wcI .i64 l2 fun y19 l17 =>
  wn l17 <|
  (ob (F143 u y7 y11 y15 y19) fun t => K [.agg [(vi t.1),(vi t.2.1),(vi t.2.2)]])
 nat := fun args {ρ} K => by
  simp only [bind_wagg,bind_wc,bind_wcI,bind_wdI,bind_wn,bind_ob,Option.bind_some]
theorem d143 : DO (O143 u) (C87 u) 59 A59 := by
 intro P hmix hC hF args res h
 obtain ⟨a1,l2,rfl,z0⟩ := inv_wc h
 obtain ⟨l3,rfl,z1⟩ := inv_wagg z0
 obtain ⟨a4,y7,l5,rfl,h6,z2⟩ := inv_wdI z1
 obtain ⟨a8,y11,l9,rfl,h10,z3⟩ := inv_wdI z2
 obtain ⟨a12,y15,l13,rfl,h14,z4⟩ := inv_wdI z3
 obtain ⟨hn,z5⟩ := inv_wn z4
 cases hn
 obtain ⟨a16,y19,l17,rfl,h18,z6⟩ := inv_wcI z5
 obtain ⟨hn,z7⟩ := inv_wn z6
 cases hn
 exact Den.weaken (.cons (WkA.agg (.cons h6 (.cons h10 (.cons h14 .nil)))) (.cons h18 .nil)) (evalF_sound hmix hC hF ((e143 u y7 y11 y15 y19).trans z7))
def C88 : Oracle := (C87 u).add 59 (fun _ => true) (O143 100)
def A74v1 : AC := (.region 5 [mv 18 7,o1 19 (bk .add 3 18 1),o1 7 (sg 19)] 0 none)
def A74v2 : AC := (.seq (.block 1
 (.seq (.region 6 [o1 20 (ln 42 3 5),mv 21 7,o1 22 (cs 59 [20,21] [42,3]),o1 23 (ln 42 3 6),o1 24 (.eqA false kV 42 (tm 22) (tm 23) 42)] 0 (some [[],[],[0,1],[],(rl 0 4 [])])) []
  (.cond (tm 24)
  (.seq (.region 7 [mv 25 7,o1 4 (sg 25)] 0 none) []
   (.ret (rl 0 4 (rl 5 21 []))))
  .skip))) (4 :: (rl 20 6 []))
 A74v1)
def A74v3 : AC := (.seq (.seq (.region 4 [mv 16 7,o1 17 (bk .lss 3 16 24)] 0 none) []
 (.cond (tm 17)
 .skip
 (.exit 0 (rl 0 26 [])))) [16,17]
 A74v2)
def A74v4 : AC := (.seq (.region 8 [o1 4 (sk 0)] 0 none) []
 (.ret (rl 0 4 (rl 5 21 []))))
def A74 : AF := ⟨26,[.tmp 4],
 (.seq (.region 0 [o1 4 (sk 0)] 0 none) []
 (.seq (.region 1 [o1 8 (.build 42 [vci 0,vci 0,vci 0] [(0,1),(1,1),(2,1)] 0 [(0,(ic 1)),(1,(ic 2)),(2,(ic 3))]),o1 5 (.alloc 0 42 [vci 0,vci 0,vci 0]),o0 (.store 42 3 (tm 5) (tm 8))] 1 none) []
 (.seq (.region 2 [o1 9 (ln 42 3 5),mv 10 0,o1 11 (cs 61 [10] [3]),o1 12 (cs 59 [9,11] [42,3]),mv 13 1,o1 14 (cs 61 [13] [3]),o1 15 (cs 59 [12,14] [42,3]),o1 6 (.alloc 0 42 [vci 0,vci 0,vci 0]),o0 (.store 42 3 (tm 6) (tm 15))] 1 (some [[],[],[1],[0,1,2],[],(rl 0 5 []),(rl 0 6 []),[],(rl 0 8 [])])) []
 (.seq (.seq (.region 3 [o1 7 (sk 0)] 0 none) []
 (.block 0
 (.loop [] (rl 0 5 (rl 8 18 []))
  A74v3))) (4 :: 7 :: (rl 16 10 []))
 A74v4))))⟩
def B144v1 (C : Oracle) (u : Nat) : St → (Ex → St → Option ρ) → Option ρ := fun st k => evalC C u A74v3 st k
def N144v1 : St → Option St := fun s => s.norm (rl 0 5 (rl 8 18 [])) 2
def s144v0 (x0 x1 x2 x3 : Int) : St := ⟨(us 5 (.x (.ptr 0 0) :: .x (.ptr 1 0) :: vxi x0 :: (us 18 []))),[.box [(vci 1),(vci 2),(vci 3)],.box [(vci x1),(vci x2),(vci x3)]]⟩
def s144v1 (x0 x1 x2 x3 : Int) : St := ⟨(us 4 (vxi x0 :: (us 21 []))),[.box [(vci 1),(vci 2),(vci 3)],.box [(vci x1),(vci x2),(vci x3)]]⟩
def s144v2 (x0 x1 x2 : Int) : St := ⟨(us 26 []),[.box [(vci 1),(vci 2),(vci 3)],.box [(vci x0),(vci x1),(vci x2)]]⟩
def L144v1 {ρ : Type} (u : Nat) (x0 x1 x2 : Int) : Nat → Int → (Int → Option ρ) → (Option ρ) → Option ρ
 | 0,_,_,_ => none
 | m + 1,x3,k0,k1 =>
  (bif (decide (x3 < 24)) then (ob (F143 100 1 2 3 x3) fun x4 => (bif ((x4.1 == x0) && ((x4.2.1 == x1) && ((x4.2.2 == x2) && true))) then (k0 x3) else (L144v1 u x0 x1 x2 m (w64 (x3 + 1)) k0 k1))) else k1)
theorem nl144v1 {ρ σ : Type} (u : Nat) (x0 x1 x2 : Int) (g : ρ → Option σ) : ∀ (m : Nat) (x3 : Int) (k0 : Int → Option ρ) (k1 : Option ρ),ob (L144v1 u x0 x1 x2 m x3 k0 k1) g = L144v1 u x0 x1 x2 m x3 (fun x4 => ob (k0 x4) g) (ob k1 g)
 | 0,_,_,_ => rfl
 | m + 1,x3,k0,k1 => by
  simp only [L144v1,ob_bif,ob_ob,ob_none,nl144v1 u x0 x1 x2 g m]
theorem r144v1 (m : Nat) (k : Ex → St → Option ρ) (x0 x1 x2 x3 : Int) :
  loopH (B144v1 (C88 u) u) N144v1 (m + 1) (s144v0 x3 x0 x1 x2) k =
  (bif (decide (x3 < 24)) then (ob (F143 100 1 2 3 x3) fun x4 => (bif ((x4.1 == x0) && ((x4.2.1 == x1) && ((x4.2.2 == x2) && true))) then (k .ret (s144v1 x3 x0 x1 x2)) else (loopH (B144v1 (C88 u) u) N144v1 m (s144v0 (w64 (x3 + 1)) x0 x1 x2) k))) else (k (.exit 0) (s144v2 x0 x1 x2))) := by kernel_rfl
theorem q144v1 (u : Nat) (x0 x1 x2 : Int) {ρ : Type} (k : Ex → St → Option ρ) : ∀ (m : Nat) (x3 : Int),
  loopH (B144v1 (C88 u) u) N144v1 m (s144v0 x3 x0 x1 x2) k = L144v1 u x0 x1 x2 m x3 (fun x4 => k .ret (s144v1 x4 x0 x1 x2)) (k (.exit 0) (s144v2 x0 x1 x2))
 | 0,_ => rfl
 | m + 1,x3 => by
  rw [r144v1]
  simp only [L144v1,q144v1 u x0 x1 x2 k m]
def D144 (x0 x1 : Int) (k : Int → Option ρ) : Option ρ :=
 (ob (F140 100 x0) fun x2 => (ob (F143 100 1 2 3 x2) fun x3 => (ob (F140 100 x1) fun x4 => (ob (F143 100 x3.1 x3.2.1 x3.2.2 x4) fun x5 => (L144v1 u x5.1 x5.2.1 x5.2.2 u 0
  (fun x6 => (k x6))
  (k 0))))))
def F144 (x0 x1 : Int) : Option (Int) := D144 u x0 x1 some
theorem f144 (x0 x1 : Int) (k : (Int) → Option ρ) : D144 u x0 x1 k = ob (F144 u x0 x1) k := by
 simp only [F144,D144,ob_bif,ob_ob,ob_none,ob_some,nl144v1]
def s144v3 (x0 x1 x2 : Int) (x3 : Int × Int × Int) (x4 : Int) (x5 : Int × Int × Int) : St := ⟨[vxi x0,vxi x1,uu,uu,vxi 0,.x (.ptr 0 0),.x (.ptr 1 0),vxi 0,.agg [(vci 1),(vci 2),(vci 3)],.agg [(vci 1),(vci 2),(vci 3)],vxi x0,vxi x2,.agg [(vci x3.1),(vci x3.2.1),(vci x3.2.2)],vxi x1,vxi x4,.agg [(vci x5.1),(vci x5.2.1),(vci x5.2.2)],uu,uu,uu,uu,uu,uu,uu,uu,uu,uu],[.box [(vci 1),(vci 2),(vci 3)],.box [(vci x5.1),(vci x5.2.1),(vci x5.2.2)]]⟩
theorem t144v1 (k : Ex → St → Option ρ) (x0 x1 x2 : Int) (x3 : Int × Int × Int) (x4 : Int) (x5 : Int × Int × Int) :
  loopN (B144v1 (C88 u) u) N144v1 u (s144v3 x0 x1 x2 x3 x4 x5) k =
  L144v1 u x5.1 x5.2.1 x5.2.2 u 0 (fun x6 => k .ret (s144v1 x6 x5.1 x5.2.1 x5.2.2)) (k (.exit 0) (s144v2 x5.1 x5.2.1 x5.2.2)) :=
 (loopN_at (st' := (s144v0 0 x5.1 x5.2.1 x5.2.2)) (by kernel_rfl)).trans (q144v1 u x5.1 x5.2.1 x5.2.2 k u 0)
theorem g144v2 (x0 : Int) (x1 : Int × Int × Int) :
  (kBlk 0 (kSeq (C88 u) u (4 :: 7 :: (rl 16 10 [])) A74v4 (finish A74))) .ret (s144v1 x0 x1.1 x1.2.1 x1.2.2) =
  (some [.v (vi x0)]) := by kernel_rfl
theorem g144v3 (x0 : Int × Int × Int) :
  (kBlk 0 (kSeq (C88 u) u (4 :: 7 :: (rl 16 10 [])) A74v4 (finish A74))) (.exit 0) (s144v2 x0.1 x0.2.1 x0.2.2) =
  (some [.v (vi 0)]) := by kernel_rfl
theorem e144 (x0 x1 : Int) : evalF (C88 u) u A74 [.v (vi x0),.v (vi x1)] = ob (F144 u x0 x1) fun t => some [.v (vi t)] := Eq.trans (b := (ob (F140 100 x0) fun x2 => (ob (F143 100 1 2 3 x2) fun x3 => (ob (F140 100 x1) fun x4 => (ob (F143 100 x3.1 x3.2.1 x3.2.2 x4) fun x5 => (loopN (B144v1 (C88 u) u) N144v1 u (s144v3 x0 x1 x2 x3 x4 x5) (kBlk 0 (kSeq (C88 u) u (4 :: 7 :: (rl 16 10 [])) A74v4 (finish A74))))))))) (by kernel_rfl) (by
 rw [← f144]
 simp only [D144,t144v1,g144v2,g144v3])
def O144 : Ora where
 o := fun args {ρ} K =>
  wcI .i64 args fun y4 l2 =>
  wcI .i64 l2 fun y8 l6 =>
  wn l6 <|
  (ob (F144 u y4 y8) fun t => K [.v (vi t)])
 nat := fun args {ρ} K => by
  simp only [bind_wcI,bind_wn,bind_ob,Option.bind_some]
theorem d144 : DO (O144 u) (C88 u) 74 A74 := by
 intro P hmix hC hF args res h
 obtain ⟨a1,y4,l2,rfl,h3,z0⟩ := inv_wcI h
 obtain ⟨a5,y8,l6,rfl,h7,z1⟩ := inv_wcI z0
 obtain ⟨hn,z2⟩ := inv_wn z1
 cases hn
 exact Den.weaken (.cons h3 (.cons h7 .nil)) (evalF_sound hmix hC hF ((e144 u y4 y8).trans z2))
def C89 : Oracle := (C88 u).add 74 (fun _ => true) (O144 100)
def A57v1 : AC := (.region 3 [mv 6 3,o1 7 (bk .add 3 6 1),o1 3 (sg 7)] 0 none)
def A57v2 : AC := (.seq (.block 1
 (.seq (.region 4 [mv 8 0,o1 9 (cs 61 [8] [3]),mv 10 3,o1 11 (cs 74 [9,10] [3,3]),o1 12 (bk .eql 3 11 0)] 0 none) []
  (.cond (tm 12)
  (.seq (.region 5 [mv 13 3,o1 2 (sg 13)] 0 none) []
   (.ret (0 :: 1 :: (rl 3 11 []))))
  .skip))) (2 :: (rl 8 6 []))
 A57v1)
def A57v3 : AC := (.seq (.seq (.region 2 [mv 4 3,o1 5 (bk .lss 3 4 24)] 0 none) []
 (.cond (tm 5)
 .skip
 (.exit 0 (rl 0 14 [])))) [4,5]
 A57v2)
def A57v4 : AC := (.seq (.region 6 [o1 2 (sk 0)] 0 none) []
 (.ret (0 :: 1 :: (rl 3 11 []))))
def A57 : AF := ⟨14,[.tmp 2],
 (.seq (.region 0 [o1 2 (sk 0)] 0 none) []
 (.seq (.seq (.region 1 [o1 3 (sk 0)] 0 none) []
 (.block 0
 (.loop [] (1 :: 2 :: (rl 4 10 []))
  A57v3))) (rl 2 12 [])
 A57v4))⟩
def B145v1 (C : Oracle) (u : Nat) : St → (Ex → St → Option ρ) → Option ρ := fun st k => evalC C u A57v3 st k
def N145v1 : St → Option St := fun s => s.norm (1 :: 2 :: (rl 4 10 [])) 0
def s145v0 (x0 x1 : Int) : St := ⟨(vxi x0 :: .u :: .u :: vxi x1 :: (us 10 [])),[]⟩
def s145v1 (x0 : Int) : St := ⟨(.u :: .u :: vxi x0 :: (us 11 [])),[]⟩
def s145v2 : St := ⟨(us 14 []),[]⟩
def L145v1 {ρ : Type} (u : Nat) (x0 : Int) : Nat → Int → (Int → Option ρ) → (Option ρ) → Option ρ
 | 0,_,_,_ => none
 | m + 1,x1,k0,k1 =>
  (bif (decide (x1 < 24)) then (ob (F140 100 x0) fun x2 => (ob (F144 100 x2 x1) fun x3 => (bif (x3 == 0) then (k0 x1) else (L145v1 u x0 m (w64 (x1 + 1)) k0 k1)))) else k1)
theorem nl145v1 {ρ σ : Type} (u : Nat) (x0 : Int) (g : ρ → Option σ) : ∀ (m : Nat) (x1 : Int) (k0 : Int → Option ρ) (k1 : Option ρ),ob (L145v1 u x0 m x1 k0 k1) g = L145v1 u x0 m x1 (fun x2 => ob (k0 x2) g) (ob k1 g)
 | 0,_,_,_ => rfl
 | m + 1,x1,k0,k1 => by
  simp only [L145v1,ob_bif,ob_ob,ob_none,nl145v1 u x0 g m]
theorem r145v1 (m : Nat) (k : Ex → St → Option ρ) (x0 x1 : Int) :
  loopH (B145v1 (C89 u) u) N145v1 (m + 1) (s145v0 x0 x1) k =
  (bif (decide (x1 < 24)) then (ob (F140 100 x0) fun x2 => (ob (F144 100 x2 x1) fun x3 => (bif (x3 == 0) then (k .ret (s145v1 x1)) else (loopH (B145v1 (C89 u) u) N145v1 m (s145v0 x0 (w64 (x1 + 1))) k)))) else (k (.exit 0) s145v2)) := by kernel_rfl
theorem q145v1 (u : Nat) (x0 : Int) {ρ : Type} (k : Ex → St → Option ρ) : ∀ (m : Nat) (x1 : Int),
  loopH (B145v1 (C89 u) u) N145v1 m (s145v0 x0 x1) k = L145v1 u x0 m x1 (fun x2 => k .ret (s145v1 x2)) (k (.exit 0) s145v2)
 | 0,_ => rfl
 | m + 1,x1 => by
  rw [r145v1]
  simp only [L145v1,q145v1 u x0 k m]
def D145 (x0 : Int) (k : Int → Option ρ) : Option ρ :=
 (L145v1 u x0 u 0
  (fun x1 => (k x1))
  (k 0))
def F145 (x0 : Int) : Option (Int) := D145 u x0 some
theorem f145 (x0 : Int) (k : (Int) → Option ρ) : D145 u x0 k = ob (F145 u x0) k := by
 simp only [F145,D145,ob_bif,ob_ob,ob_none,ob_some,nl145v1]
def s145v3 (x0 : Int) : St := ⟨[vxi x0,uu,vxi 0,vxi 0,uu,uu,uu,uu,uu,uu,uu,uu,uu,uu],[]⟩
theorem t145v1 (k : Ex → St → Option ρ) (x0 : Int) :
  loopN (B145v1 (C89 u) u) N145v1 u (s145v3 x0) k =
  L145v1 u x0 u 0 (fun x1 => k .ret (s145v1 x1)) (k (.exit 0) s145v2) :=
 (loopN_at (st' := (s145v0 x0 0)) (by kernel_rfl)).trans (q145v1 u x0 k u 0)
theorem g145v2 (x0 : Int) :
  (kBlk 0 (kSeq (C89 u) u (rl 2 12 []) A57v4 (finish A57))) .ret (s145v1 x0) =
  (some [.v (vi x0)]) := by kernel_rfl
theorem g145v3 :
  (kBlk 0 (kSeq (C89 u) u (rl 2 12 []) A57v4 (finish A57))) (.exit 0) s145v2 =
  (some [.v (vi 0)]) := by kernel_rfl
theorem e145 (x0 : Int) : evalF (C89 u) u A57 [.v (vi x0)] = ob (F145 u x0) fun t => some [.v (vi t)] := Eq.trans (b := (loopN (B145v1 (C89 u) u) N145v1 u (s145v3 x0) (kBlk 0 (kSeq (C89 u) u (rl 2 12 []) A57v4 (finish A57))))) (by kernel_rfl) (by
 rw [← f145]
 simp only [D145,t145v1,g145v2,g145v3])
def O145 : Ora where
 o := fun args {ρ} K =>
  wcI .i64 args fun y4 l2 =>
  wn l2 <|
  (ob (F145 u y4) fun t => K [.v (vi t)])
 nat := fun args {ρ} K => by
  simp only [bind_wcI,bind_wn,bind_ob,Option.bind_some]
theorem d145 : DO (O145 u) (C89 u) 57 A57 := by
 intro P hmix hC hF args res h
 obtain ⟨a1,y4,l2,rfl,h3,z0⟩ := inv_wcI h
 obtain ⟨hn,z1⟩ := inv_wn z0
 cases hn
 exact Den.weaken (.cons h3 .nil) (evalF_sound hmix hC hF ((e145 u y4).trans z1))
def C90 : Oracle := (C89 u).add 57 (fun _ => true) (O145 100)
def A30v1 : AC := (.seq (.region 3 [o1 9 (fa 44 1 1 3),o1 10 (lo 3 9),o1 11 (cs 57 [10] [3]),o1 3 (sg 11)] 0 none) []
 (.seq (.region 4 [o1 12 (.build 42 [vci 0,vci 0,vci 0] [(0,1),(1,1),(2,1)] 0 []),o1 13 (fa 44 1 0 0),o1 14 (ln 42 3 13),mv 15 3,o1 16 (cs 59 [14,15] [42,3]),o1 17 (cs 58 [12,16] [42,42]),mv 18 3,o1 19 (.build 44 [vci 0,vci 0,vci 0,vci 0] [(0,3),(3,1)] 0 [(0,(tm 17)),(1,(tm 18))]),o0 (.store 44 4 (tm 2) (tm 19))] 0 none) []
 (.ret (0 :: 1 :: (rl 3 17 [])))))
def A30 : AF := ⟨20,[.cell 2 44 (some 4)],
 (.seq (.region 0 [o1 1 (bx 0 44 0),o1 2 (.alloc 1 44 [vci 0,vci 0,vci 0,vci 0])] 2 none) []
 (.seq (.seq (.region 1 [o1 4 (fa 44 1 0 0),o1 5 (ln 42 3 4),o1 6 (cs 56 [5] [42]),o1 7 (.unOp .not 4 (tm 6))] 0 none) []
 (.cond (tm 7)
 (.seq (.region 2 [o1 8 (.build 44 [vci 0,vci 0,vci 0,vci 0] [(0,3),(3,1)] 0 []),o0 (.store 44 4 (tm 2) (tm 8))] 0 none) []
  (.ret (0 :: 1 :: (rl 3 17 []))))
 .skip)) (rl 4 5 [])
 A30v1))⟩
def D146 (u : Nat) (x0 x1 x2 x3 : Int) (k : (Int × Int × Int × Int) → Option ρ) : Option ρ :=
 (ob (F136 100 x0 x1 x2) fun x4 => (bif (!x4) then (k (0,0,0,0)) else (ob (F145 100 x3) fun x5 => (ob (F143 100 x0 x1 x2 x5) fun x6 => (ob (F137 100 0 0 0 x6.1 x6.2.1 x6.2.2) fun x7 => (k (x7.1,x7.2.1,x7.2.2,x5)))))))
def F146 (x0 x1 x2 x3 : Int) : Option (Int × Int × Int × Int) := D146 u x0 x1 x2 x3 some
theorem f146 (x0 x1 x2 x3 : Int) (k : (Int × Int × Int × Int) → Option ρ) : D146 u x0 x1 x2 x3 k = ob (F146 u x0 x1 x2 x3) k := by
 simp only [F146,D146,ob_bif,ob_ob,ob_none,ob_some]
theorem e146 (x0 x1 x2 x3 : Int) : evalF (C90 u) u A30 [.agg [(vi x0),(vi x1),(vi x2),(vi x3)]] = ob (F146 u x0 x1 x2 x3) fun t => some [.agg [(vi t.1),(vi t.2.1),(vi t.2.2.1),(vi t.2.2.2)]] := Eq.trans (b := (ob (F136 100 x0 x1 x2) fun x4 => (bif (!x4) then (some [.agg [(vi 0),(vi 0),(vi 0),(vi 0)]]) else (ob (F145 100 x3) fun x5 => (ob (F143 100 x0 x1 x2 x5) fun x6 => (ob (F137 100 0 0 0 x6.1 x6.2.1 x6.2.2) fun x7 => (some [.agg [(vi x7.1),(vi x7.2.1),(vi x7.2.2),(vi x5)]]))))))) (by kernel_rfl) (by
 rw [← f146]
 simp only [D146])
def O146 : Ora where
 o := fun args {ρ} K =>
  wc args fun a1 l2 =>
  wagg a1 fun l3 =>
  wdI .i64 l3 fun y7 l5 =>
  wdI .i64 l5 fun y11 l9 =>
  wdI .i64 l9 fun y15 l13 =>
  wdI .i64 l13 fun y19 l17 =>
  wn l17 <|
  wn l2 <|
  (ob (F146 u y7 y11 y15 y19) fun t => K [.agg [(vi t.1),(vi t.2.1),(vi t.2.2.1),(vi t.2.2.2)]])
 nat := fun args {ρ} K => by
  simp only [bind_wagg,bind_wc,bind_wdI,bind_wn,bind_ob,Option.bind_some]
theorem d146 : DO (O146 u) (C90 u) 30 A30 := by
 intro P hmix hC hF args res h
 obtain ⟨a1,l2,rfl,z0⟩ := inv_wc h
 obtain ⟨l3,rfl,z1⟩ := inv_wagg z0
 obtain ⟨a4,y7,l5,rfl,h6,z2⟩ := inv_wdI z1
 obtain ⟨a8,y11,l9,rfl,h10,z3⟩ := inv_wdI z2
 obtain ⟨a12,y15,l13,rfl,h14,z4⟩ := inv_wdI z3
 obtain ⟨a16,y19,l17,rfl,h18,z5⟩ := inv_wdI z4
 obtain ⟨hn,z6⟩ := inv_wn z5
 cases hn
 obtain ⟨hn,z7⟩ := inv_wn z6
 cases hn
 exact Den.weaken (.cons (WkA.agg (.cons h6 (.cons h10 (.cons h14 (.cons h18 .nil))))) .nil) (evalF_sound hmix hC hF ((e146 u y7 y11 y15 y19).trans z7))
def C91 : Oracle := (C90 u).add 30 (fun _ => true) (O146 100)
def A60 : AF := ⟨21,[.cell 4 42 (some 3)],
 (.seq (.region 0 [o1 2 (bx 0 42 0),o1 3 (bx 1 42 1),o1 4 (.alloc 2 42 [vci 0,vci 0,vci 0])] 3 none) []
 (.seq (.region 1 [o1 5 (fa 42 2 0 0),o1 6 (lo 3 5),o1 7 (fa 42 3 0 0),o1 8 (lo 3 7),o1 9 (bt .add 3 6 8),o1 10 (fa 42 2 1 1),o1 11 (lo 3 10),o1 12 (fa 42 3 1 1),o1 13 (lo 3 12),o1 14 (bt .add 3 11 13),o1 15 (fa 42 2 2 2),o1 16 (lo 3 15),o1 17 (fa 42 3 2 2),o1 18 (lo 3 17),o1 19 (bt .add 3 16 18),o1 20 (.build 42 [vci 0,vci 0,vci 0] [(0,1),(1,1),(2,1)] 0 [(0,(tm 9)),(1,(tm 14)),(2,(tm 19))]),o0 (.store 42 3 (tm 4) (tm 20))] 0 none) []
 (.ret (rl 0 4 (rl 5 16 [])))))⟩
def D147 (u : Nat) (x0 x1 x2 x3 x4 x5 : Int) (k : (Int × Int × Int) → Option ρ) : Option ρ :=
 (k ((w64 (x0 + x3)),(w64 (x1 + x4)),(w64 (x2 + x5))))
def F147 (x0 x1 x2 x3 x4 x5 : Int) : Option (Int × Int × Int) := D147 u x0 x1 x2 x3 x4 x5 some
theorem f147 (x0 x1 x2 x3 x4 x5 : Int) (k : (Int × Int × Int) → Option ρ) : D147 u x0 x1 x2 x3 x4 x5 k = ob (F147 u x0 x1 x2 x3 x4 x5) k := by
 simp only [F147,D147,ob_bif,ob_ob,ob_none,ob_some]
theorem e147 (x0 x1 x2 x3 x4 x5 : Int) : evalF (C91 u) u A60 [.agg [(vi x0),(vi x1),(vi x2)],.agg [(vi x3),(vi x4),(vi x5)]] = ob (F147 u x0 x1 x2 x3 x4 x5) fun t => some [.agg [(vi t.1),(vi t.2.1),(vi t.2.2)]] := Eq.trans (b := (some [.agg [(vi (w64 (x0 + x3))),(vi (w64 (x1 + x4))),(vi (w64 (x2 + x5)))]])) (by kernel_rfl) (by
 rw [← f147]
 simp only [D147])
def O147 : Ora where
 o := fun args {ρ} K =>
  wc args fun a1 l2 =>
  wagg a1 fun l3 =>
  wdI .i64 l3 fun y7 l5 =>
  wdI .i64 l5 fun y11 l9 =>
  wdI .i64 l9 fun y15 l13 =>
  wn l13 <|
  wc l2 fun a16 l17 =>
  wagg a16 fun l18 =>
  wdI .i64 l18 fun y22 l20 =>
  wdI .i64 l20 fun y26 l24 =>
  wdI .i64 l24 fun y30 l28 =>
  wn l28 <|
  wn l17 <|
  (ob (F147 u y7 y11 y15 y22 y26 y30) fun t => K [.agg [(vi t.1),(vi t.2.1),(vi t.2.2)]])
 nat := fun args {ρ} K => by
  simp only [bind_wagg,bind_wc,bind_wdI,bind_wn,bind_ob,Option.bind_some]
theorem d147 : DO (O147 u) (C91 u) 60 A60 := by
 intro P hmix hC hF args res h
 obtain ⟨a1,l2,rfl,z0⟩ := inv_wc h
 obtain ⟨l3,rfl,z1⟩ := inv_wagg z0
 obtain ⟨a4,y7,l5,rfl,h6,z2⟩ := inv_wdI z1
 obtain ⟨a8,y11,l9,rfl,h10,z3⟩ := inv_wdI z2
 obtain ⟨a12,y15,l13,rfl,h14,z4⟩ := inv_wdI z3
 obtain ⟨hn,z5⟩ := inv_wn z4
 cases hn
 obtain ⟨a16,l17,rfl,z6⟩ := inv_wc z5
 obtain ⟨l18,rfl,z7⟩ := inv_wagg z6
 obtain ⟨a19,y22,l20,rfl,h21,z8⟩ := inv_wdI z7
 obtain ⟨a23,y26,l24,rfl,h25,z9⟩ := inv_wdI z8
 obtain ⟨a27,y30,l28,rfl,h29,z10⟩ := inv_wdI z9
 obtain ⟨hn,z11⟩ := inv_wn z10
 cases hn
 obtain ⟨hn,z12⟩ := inv_wn z11
 cases hn
 exact Den.weaken (.cons (WkA.agg (.cons h6 (.cons h10 (.cons h14 .nil)))) (.cons (WkA.agg (.cons h21 (.cons h25 (.cons h29 .nil)))) .nil)) (evalF_sound hmix hC hF ((e147 u y7 y11 y15 y22 y26 y30).trans z12))
def C92 : Oracle := (C91 u).add 60 (fun _ => true) (O147 100)
end Go.Eng.R13
