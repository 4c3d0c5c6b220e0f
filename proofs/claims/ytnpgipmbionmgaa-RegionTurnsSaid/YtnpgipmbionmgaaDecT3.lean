/-
  The functions of the program, run on symbols; printed by decomp.py.
-/
import Derived.Test.YtnpgipmbionmgaaDecT2
set_option linter.all false
set_option maxRecDepth 1000000
set_option maxHeartbeats 4000000
namespace Go.Eng.R13
open Go Go.RowKit Go.Eng
def A15v1 : AC := (.seq (.region 7 [o1 54 (.load 25 (some 2) (tm 1)), o1 55 (.build 34 [.c (.i .i64 0), .c (.i .i64 0)] [(0, 1), (1, 1)] 0 [(0, (ic 3)), (1, (ic 3))]), o1 56 (.call 22 [(tm 54), (tm 55)] [25, 34] .snap), o1 57 (.binOp .eql 3 (tm 56) (ic (-1)) 3), mv 58 57, og 59 (.load 25 (some 2) (tm 1)) 58 true, og 60 (.build 34 [.c (.i .i64 0), .c (.i .i64 0)] [(0, 1), (1, 1)] 0 [(0, (ic 2)), (1, (ic 3))]) 58 true, og 61 (.call 22 [(tm 59), (tm 60)] [25, 34] .snap) 58 true, og 62 (.binOp .eql 3 (tm 61) (ic 0) 3) 58 true, o1 63 (.pick (tm 58) (tm 62) (.const (.bool false))), mv 64 63, og 65 (.load 25 (some 2) (tm 1)) 64 true, og 66 (.build 34 [.c (.i .i64 0), .c (.i .i64 0)] [(0, 1), (1, 1)] 0 [(0, (ic 1)), (1, (ic 1))]) 64 true, og 67 (.call 22 [(tm 65), (tm 66)] [25, 34] .snap) 64 true, og 68 (.binOp .eql 3 (tm 67) (ic 1) 3) 64 true, o1 69 (.pick (tm 64) (tm 68) (.const (.bool false))), mv 70 69, og 71 (.load 25 (some 2) (tm 2)) 70 true, og 72 (.load 25 (some 2) (tm 3)) 70 true, og 73 (.call 27 [(tm 71), (tm 72), (ic 5)] [25, 25, 3] .snap) 70 true, o1 74 (.pick (tm 70) (tm 73) (.const (.bool false))), mv 75 74, og 76 (.load 25 (some 2) (tm 2)) 75 true, og 77 (.load 25 (some 2) (tm 3)) 75 true, og 78 (.call 27 [(tm 76), (tm 77), (ic 6)] [25, 25, 3] .snap) 75 true, og 79 (.unOp .not 4 (tm 78)) 75 true, o1 80 (.pick (tm 75) (tm 79) (.const (.bool false))), mv 81 80, og 82 (.load 25 (some 2) (tm 2)) 81 true, og 83 (.call 29 [(tm 82), (ic 12), (ic 13), (ic 0)] [25, 3, 3, 3] .snap) 81 true, o1 84 (.pick (tm 81) (tm 83) (.const (.bool false))), mv 85 84, og 86 (.load 25 (some 2) (tm 2)) 85 true, og 87 (.call 29 [(tm 86), (ic 12), (ic 13), (ic 1)] [25, 3, 3, 3] .snap) 85 true, og 88 (.unOp .not 4 (tm 87)) 85 true, o1 89 (.pick (tm 85) (tm 88) (.const (.bool false))), mv 90 89, og 91 (.load 25 (some 2) (tm 3)) 90 true, og 92 (.call 20 [(tm 91)] [25] .snap) 90 true, og 93 (.build 34 [.c (.i .i64 0), .c (.i .i64 0)] [(0, 1), (1, 1)] 0 [(0, (ic 15))]) 90 true, og 94 (.build 34 [.c (.i .i64 0), .c (.i .i64 0)] [(0, 1), (1, 1)] 0 [(0, (ic 20)), (1, (ic 5))]) 90 true, og 95 (.build 36 [.c (.i .i64 0), .c (.i .i64 0), .c (.i .i64 0), .c (.i .i64 0)] [(0, 2), (2, 2)] 0 [(0, (tm 93)), (1, (tm 94))]) 90 true, og 96 (.eqA false (.pr (.int .i64) (.pr (.int .i64) (.pr (.int .i64) (.pr (.int .i64) .nil)))) 36 (tm 92) (tm 95) 36) 90 true, o1 97 (.pick (tm 90) (tm 96) (.const (.bool false))), o1 0 (.assign (tm 97))] 0 none) []
  (.ret (rl 1 97 [])))
def A15 : AF := ⟨98, [.tmp 0],
  (.seq (.region 0 [o1 0 (.assign (.const (.bool false)))] 0 none) []
  (.seq (.region 1 [o1 7 (.call 41 [(ic 0), (ic 0), (ic 10)] [3, 3, 3] .freeze), o1 8 (.build 34 [.c (.i .i64 0), .c (.i .i64 0)] [(0, 1), (1, 1)] 0 [(0, (ic 2)), (1, (ic 2))]), o1 9 (.build 34 [.c (.i .i64 0), .c (.i .i64 0)] [(0, 1), (1, 1)] 0 [(0, (ic 2)), (1, (ic 4))]), o1 10 (.build 34 [.c (.i .i64 0), .c (.i .i64 0)] [(0, 1), (1, 1)] 0 [(0, (ic 4)), (1, (ic 4))]), o1 11 (.build 34 [.c (.i .i64 0), .c (.i .i64 0)] [(0, 1), (1, 1)] 0 [(0, (ic 4)), (1, (ic 2))]), o1 12 (.buildSlice 0 22 34 (.pr (.int .i64) (.pr (.int .i64) .nil)) 4 [.c (.i .i64 0), .c (.i .i64 0)] [(0, (tm 8)), (1, (tm 9)), (2, (tm 10)), (3, (tm 11))]), o1 13 (.buildSlice 1 23 22 (.pr (.sl (.pr (.int .i64) (.pr (.int .i64) .nil))) .nil) 1 [.c (.ro true .nil 0 (fun _ _ => .any))] [(0, (tm 12))]), o1 14 (.build 25 [.c (.ro true .nil 0 (fun _ _ => .any)), .c (.ro true .nil 0 (fun _ _ => .any))] [(0, 1), (1, 1)] 0 [(0, (tm 7)), (1, (tm 13))]), o1 1 (.alloc 2 25 [.c (.ro true .nil 0 (fun _ _ => .any)), .c (.ro true .nil 0 (fun _ _ => .any))]), o0 (.store 25 2 (tm 1) (tm 14))] 3 none) []
  (.seq (.region 2 [o1 15 (.call 41 [(ic 0), (ic 0), (ic 10)] [3, 3, 3] .freeze), o1 16 (.build 25 [.c (.ro true .nil 0 (fun _ _ => .any)), .c (.ro true .nil 0 (fun _ _ => .any))] [(0, 1), (1, 1)] 0 [(0, (tm 15))]), o1 17 (.call 41 [(ic 15), (ic 0), (ic 5)] [3, 3, 3] .freeze), o1 18 (.build 25 [.c (.ro true .nil 0 (fun _ _ => .any)), .c (.ro true .nil 0 (fun _ _ => .any))] [(0, 1), (1, 1)] 0 [(0, (tm 17))]), o1 2 (.alloc 0 25 [.c (.ro true .nil 0 (fun _ _ => .any)), .c (.ro true .nil 0 (fun _ _ => .any))]), o1 3 (.alloc 1 25 [.c (.ro true .nil 0 (fun _ _ => .any)), .c (.ro true .nil 0 (fun _ _ => .any))]), o0 (.store 25 2 (tm 2) (tm 16)), o0 (.store 25 2 (tm 3) (tm 18))] 2 none) []
  (.seq (.region 3 [o1 19 (.build 34 [.c (.i .i64 0), .c (.i .i64 0)] [(0, 1), (1, 1)] 0 [(0, (ic 3)), (1, (ic 1))]), o1 20 (.buildSlice 0 22 34 (.pr (.int .i64) (.pr (.int .i64) .nil)) 1 [.c (.i .i64 0), .c (.i .i64 0)] [(0, (tm 19))]), o1 21 (.build 25 [.c (.ro true .nil 0 (fun _ _ => .any)), .c (.ro true .nil 0 (fun _ _ => .any))] [(0, 1), (1, 1)] 0 [(0, (tm 20))]), o1 22 (.build 34 [.c (.i .i64 0), .c (.i .i64 0)] [(0, 1), (1, 1)] 0 [(0, (ic 10))]), o1 23 (.build 41 [.c (.s ByteArray.empty), .c (.i .i64 0), .c (.i .i64 0), .c (.i .i64 0), .c (.b false)] [(0, 1), (1, 2), (3, 1), (4, 1)] 0 [(1, (tm 22)), (2, (ic 1)), (3, (.const (.bool true)))]), o1 24 (.call 25 [(tm 21), (tm 23)] [25, 41] .freeze), o1 4 (.alloc 1 25 [.c (.ro true .nil 0 (fun _ _ => .any)), .c (.ro true .nil 0 (fun _ _ => .any))]), o0 (.store 25 2 (tm 4) (tm 24))] 2 none) []
  (.seq (.region 4 [o1 26 (.load 25 (some 2) (tm 2)), o1 27 (.call 16 [(tm 26)] [25] .snap), mv 25 27, o1 28 (.extract (tm 25) 0), o1 29 (.extract (tm 25) 1), o1 5 (.assign (tm 28)), o1 6 (.assign (tm 29))] 0 none) []
  (.seq (.seq (.region 5 [o1 30 (.load 25 (some 2) (tm 1)), o1 31 (.call 13 [(tm 30)] [25] .snap), o1 32 (.binOp .neq 27 (tm 31) (ic 0) 27), mv 33 32, og 34 (.load 25 (some 2) (tm 1)) 33 false, og 35 (.call 18 [(tm 34)] [25] .snap) 33 false, og 36 (.binOp .neq 3 (tm 35) (ic 192) 3) 33 false, o1 37 (.pick (tm 33) (.const (.bool true)) (tm 36)), mv 38 37, og 39 (.move (tm 5)) 38 false, og 40 (.binOp .neq 3 (tm 39) (ic 3000) 3) 38 false, o1 41 (.pick (tm 38) (.const (.bool true)) (tm 40)), mv 42 41, og 43 (.move (tm 6)) 42 false, og 44 (.binOp .neq 3 (tm 43) (ic 3000) 3) 42 false, o1 45 (.pick (tm 42) (.const (.bool true)) (tm 44)), mv 46 45, og 47 (.load 25 (some 2) (tm 4)) 46 false, og 48 (.build 34 [.c (.i .i64 0), .c (.i .i64 0)] [(0, 1), (1, 1)] 0 [(0, (ic 9)), (1, (ic (-3)))]) 46 false, og 49 (.buildSlice 0 22 34 (.pr (.int .i64) (.pr (.int .i64) .nil)) 1 [.c (.i .i64 0), .c (.i .i64 0)] [(0, (tm 48))]) 46 false, og 50 (.build 25 [.c (.ro true .nil 0 (fun _ _ => .any)), .c (.ro true .nil 0 (fun _ _ => .any))] [(0, 1), (1, 1)] 0 [(0, (tm 49))]) 46 false, og 51 (.call 24 [(tm 47), (tm 50)] [25, 25] .snap) 46 false, og 52 (.unOp .not 4 (tm 51)) 46 false, o1 53 (.pick (tm 46) (.const (.bool true)) (tm 52))] 1 none) []
  (.cond (tm 53)
  (.seq (.region 6 [o1 0 (.assign (.const (.bool false)))] 0 none) []
    (.ret (rl 1 97 [])))
  .skip)) (0 :: (rl 30 24 []))
  A15v1))))))⟩
def D15 {ρ : Type} (fuel : Nat) (k : Bool → Option ρ) : Option ρ :=
  (ob (F41 fuel 0 0 10) fun x1 => (ob (F41 fuel 0 0 10) fun x2 => (ob (F41 fuel 15 0 5) fun x3 => (ob (F25 fuel 1 (rowsF 2 [(.i .i64 3), (.i .i64 1)]) 0 (fun _ _ => .any) ByteArray.empty 10 0 1 true) fun x4 => (ob (F16 fuel x2.1 x2.2 0 (fun _ _ => .any)) fun x5 => (ob (F13 fuel x1.1 x1.2 1 (rowsF 1 [(.ro false (.pr (.int .i64) (.pr (.int .i64) .nil)) 4 (rowsF 2 [(.i .i64 2), (.i .i64 2), (.i .i64 2), (.i .i64 4), (.i .i64 4), (.i .i64 4), (.i .i64 4), (.i .i64 2)]))])) fun x6 => (bif ((x6 != 0) == false) then (ob (F18 fuel x1.1 x1.2 1 (rowsF 1 [(.ro false (.pr (.int .i64) (.pr (.int .i64) .nil)) 4 (rowsF 2 [(.i .i64 2), (.i .i64 2), (.i .i64 2), (.i .i64 4), (.i .i64 4), (.i .i64 4), (.i .i64 4), (.i .i64 2)]))])) fun x7 => (bif ((x7 != 192) == false) then (bif ((x5.1 != 3000) == false) then (bif ((x5.2 != 3000) == false) then (ob (F24 fuel x4.1 x4.2.1 x4.2.2.1 x4.2.2.2 1 (rowsF 2 [(.i .i64 9), (.i .i64 (-3))]) 0 (fun _ _ => .any)) fun x8 => (bif (!x8) then (k false) else (ob (F22 fuel x1.1 x1.2 1 (rowsF 1 [(.ro false (.pr (.int .i64) (.pr (.int .i64) .nil)) 4 (rowsF 2 [(.i .i64 2), (.i .i64 2), (.i .i64 2), (.i .i64 4), (.i .i64 4), (.i .i64 4), (.i .i64 4), (.i .i64 2)]))]) 3 3) fun x9 => (bif ((x9 == (-1)) == true) then (ob (F22 fuel x1.1 x1.2 1 (rowsF 1 [(.ro false (.pr (.int .i64) (.pr (.int .i64) .nil)) 4 (rowsF 2 [(.i .i64 2), (.i .i64 2), (.i .i64 2), (.i .i64 4), (.i .i64 4), (.i .i64 4), (.i .i64 4), (.i .i64 2)]))]) 2 3) fun x10 => (bif ((x10 == 0) == true) then (ob (F22 fuel x1.1 x1.2 1 (rowsF 1 [(.ro false (.pr (.int .i64) (.pr (.int .i64) .nil)) 4 (rowsF 2 [(.i .i64 2), (.i .i64 2), (.i .i64 2), (.i .i64 4), (.i .i64 4), (.i .i64 4), (.i .i64 4), (.i .i64 2)]))]) 1 1) fun x11 => (bif ((x11 == 1) == true) then (ob (F27 fuel x2.1 x2.2 0 (fun _ _ => .any) x3.1 x3.2 0 (fun _ _ => .any) 5) fun x12 => (bif (x12 == true) then (ob (F27 fuel x2.1 x2.2 0 (fun _ _ => .any) x3.1 x3.2 0 (fun _ _ => .any) 6) fun x13 => (bif ((!x13) == true) then (ob (F29 fuel x2.1 x2.2 0 (fun _ _ => .any) 12 13 0) fun x14 => (bif (x14 == true) then (ob (F29 fuel x2.1 x2.2 0 (fun _ _ => .any) 12 13 1) fun x15 => (bif ((!x15) == true) then (ob (F20 fuel x3.1 x3.2 0 (fun _ _ => .any)) fun x16 => (k ((x16.1 == 15) && ((x16.2.1 == 0) && ((x16.2.2.1 == 20) && ((x16.2.2.2 == 5) && true)))))) else (k false))) else (k false))) else (k false))) else (k false))) else (k false))) else (k false))) else (k false))))) else (k false)) else (k false)) else (k false))) else (k false))))))))
def F15 (fuel : Nat) : Option (Bool) := D15 fuel some
theorem n15 {ρ σ : Type} (fuel : Nat) (k : (Bool) → Option ρ) (g : ρ → Option σ) : ob (D15 fuel k) g = D15 fuel fun t => ob (k t) g := by
  simp only [D15, ob_bif, ob_ob, ob_none]
theorem f15 {ρ : Type} (fuel : Nat) (k : (Bool) → Option ρ) : D15 fuel k = ob (F15 fuel) k := by
  unfold F15
  rw [n15]
  simp only [ob_some]
theorem walk15 (fuel : Nat) :
    evalF (C67 fuel) fuel A15 [] =
    (ob (F41 fuel 0 0 10) fun x1 => (ob (F41 fuel 0 0 10) fun x2 => (ob (F41 fuel 15 0 5) fun x3 => (ob (F25 fuel 1 (rowsF 2 [(.i .i64 3), (.i .i64 1)]) 0 (fun _ _ => .any) ByteArray.empty 10 0 1 true) fun x4 => (ob (F16 fuel x2.1 x2.2 0 (fun _ _ => .any)) fun x5 => (ob (F13 fuel x1.1 x1.2 1 (rowsF 1 [(.ro false (.pr (.int .i64) (.pr (.int .i64) .nil)) 4 (rowsF 2 [(.i .i64 2), (.i .i64 2), (.i .i64 2), (.i .i64 4), (.i .i64 4), (.i .i64 4), (.i .i64 4), (.i .i64 2)]))])) fun x6 => (bif ((x6 != 0) == false) then (ob (F18 fuel x1.1 x1.2 1 (rowsF 1 [(.ro false (.pr (.int .i64) (.pr (.int .i64) .nil)) 4 (rowsF 2 [(.i .i64 2), (.i .i64 2), (.i .i64 2), (.i .i64 4), (.i .i64 4), (.i .i64 4), (.i .i64 4), (.i .i64 2)]))])) fun x7 => (bif ((x7 != 192) == false) then (bif ((x5.1 != 3000) == false) then (bif ((x5.2 != 3000) == false) then (ob (F24 fuel x4.1 x4.2.1 x4.2.2.1 x4.2.2.2 1 (rowsF 2 [(.i .i64 9), (.i .i64 (-3))]) 0 (fun _ _ => .any)) fun x8 => (bif (!x8) then (some [.v (.b false)]) else (ob (F22 fuel x1.1 x1.2 1 (rowsF 1 [(.ro false (.pr (.int .i64) (.pr (.int .i64) .nil)) 4 (rowsF 2 [(.i .i64 2), (.i .i64 2), (.i .i64 2), (.i .i64 4), (.i .i64 4), (.i .i64 4), (.i .i64 4), (.i .i64 2)]))]) 3 3) fun x9 => (bif ((x9 == (-1)) == true) then (ob (F22 fuel x1.1 x1.2 1 (rowsF 1 [(.ro false (.pr (.int .i64) (.pr (.int .i64) .nil)) 4 (rowsF 2 [(.i .i64 2), (.i .i64 2), (.i .i64 2), (.i .i64 4), (.i .i64 4), (.i .i64 4), (.i .i64 4), (.i .i64 2)]))]) 2 3) fun x10 => (bif ((x10 == 0) == true) then (ob (F22 fuel x1.1 x1.2 1 (rowsF 1 [(.ro false (.pr (.int .i64) (.pr (.int .i64) .nil)) 4 (rowsF 2 [(.i .i64 2), (.i .i64 2), (.i .i64 2), (.i .i64 4), (.i .i64 4), (.i .i64 4), (.i .i64 4), (.i .i64 2)]))]) 1 1) fun x11 => (bif ((x11 == 1) == true) then (ob (F27 fuel x2.1 x2.2 0 (fun _ _ => .any) x3.1 x3.2 0 (fun _ _ => .any) 5) fun x12 => (bif (x12 == true) then (ob (F27 fuel x2.1 x2.2 0 (fun _ _ => .any) x3.1 x3.2 0 (fun _ _ => .any) 6) fun x13 => (bif ((!x13) == true) then (ob (F29 fuel x2.1 x2.2 0 (fun _ _ => .any) 12 13 0) fun x14 => (bif (x14 == true) then (ob (F29 fuel x2.1 x2.2 0 (fun _ _ => .any) 12 13 1) fun x15 => (bif ((!x15) == true) then (ob (F20 fuel x3.1 x3.2 0 (fun _ _ => .any)) fun x16 => (some [.v (.b ((x16.1 == 15) && ((x16.2.1 == 0) && ((x16.2.2.1 == 20) && ((x16.2.2.2 == 5) && true)))))])) else (some [.v (.b false)]))) else (some [.v (.b false)]))) else (some [.v (.b false)]))) else (some [.v (.b false)]))) else (some [.v (.b false)]))) else (some [.v (.b false)]))) else (some [.v (.b false)]))))) else (some [.v (.b false)])) else (some [.v (.b false)])) else (some [.v (.b false)]))) else (some [.v (.b false)])))))))) := by kernel_rfl
theorem e15 (fuel : Nat) : evalF (C67 fuel) fuel A15 [] = ob (F15 fuel) fun t => some [.v (.b t)] := by
  rw [walk15, ← f15]
  simp only [D15]
def O15 (fuel : Nat) : Ora where
  o := fun args {ρ} K =>
    wn args <|
    (ob (F15 fuel) fun t => K [.v (.b t)])
  nat := fun args {ρ} K => by
    simp only [bind_wc, bind_wn, bind_wv, bind_wagg, bind_wI, bind_wB, bind_wS, bind_wL, bind_wP, bind_wFn, bind_ob, Option.bind_some]
theorem d15 {P : Program} (fuel : Nat) (hmix : P.follows .mixedOrders = true) (hC : Sound P (C67 fuel)) (hF : FFits P 15 A15) (args res : List A) (h : (O15 fuel).o args some = some res) : Den P 15 args res := by
  obtain ⟨hn, z0⟩ := inv_wn h
  cases hn
  exact Den.weaken .nil (evalF_sound hmix hC hF ((e15 fuel).trans z0))
def C68 (fuel : Nat) : Oracle := (C67 fuel).add 15 (fun _ => true) (O15 fuel)
def A23v1 : AC := (.seq (.block 1
  (.region 7 [mv 21 5, o1 22 (.fieldAddr 25 (tm 2) 1 1), o1 23 (.load 23 none (tm 22)), mv 24 6, o1 25 (.indexAddr 23 22 1 (tm 23) (tm 24)), o1 26 (.load 22 none (tm 25)), o1 27 (.load 34 (some 2) (tm 3)), o1 28 (.call 40 [(tm 26), (tm 27)] [22, 34] .snap), o1 29 (.unOp .neg 3 (tm 28)), o1 30 (.mm false [(tm 21), (tm 29)] [3, 3]), o1 5 (.assign (tm 30))] 0 (some [[], [], [1], [], [1, 2, 3], (rl 1 4 []), [], (rl 1 6 []), (rl 1 7 []), (rl 0 9 []), (rl 0 10 [])]))) []
  (.region 6 [mv 19 6, o1 20 (.binOp .add 3 (tm 19) (ic 1) 3), o1 6 (.assign (tm 20))] 0 none))
def A23v2 : AC := (.seq (.seq (.region 5 [mv 14 6, o1 15 (.fieldAddr 25 (tm 2) 1 1), o1 16 (.load 23 none (tm 15)), o1 17 (.len 23 false (tm 16)), o1 18 (.binOp .lss 3 (tm 14) (tm 17) 3)] 0 none) []
  (.cond (tm 18)
  .skip
  (.exit 0 (rl 0 5 (rl 6 26 []))))) (rl 14 5 [])
  A23v1)
def A23v3 : AC := (.seq (.region 8 [mv 31 5, o1 4 (.assign (tm 31))] 0 none) []
  (.ret (rl 0 4 (rl 5 27 []))))
def A23v4 : AC := (.seq (.region 3 [o1 10 (.fieldAddr 25 (tm 2) 0 0), o1 11 (.load 22 none (tm 10)), o1 12 (.load 34 (some 2) (tm 3)), o1 13 (.call 40 [(tm 11), (tm 12)] [22, 34] .snap), o1 5 (.assign (tm 13))] 0 none) []
  (.seq (.seq (.region 4 [o1 6 (.assign (ic 0))] 0 none) []
  (.block 0
  (.loop [] (0 :: 1 :: 4 :: (rl 7 25 []))
    A23v2))) (6 :: (rl 14 17 []))
  A23v3))
def A23 : AF := ⟨32, [.tmp 4],
  (.seq (.region 0 [o1 2 (.box 0 25 (tm 0)), o1 3 (.box 1 34 (tm 1)), o1 4 (.assign (ic 0))] 2 none) []
  (.seq (.seq (.region 1 [o1 7 (.load 25 (some 2) (tm 2)), o1 8 (.call 14 [(tm 7)] [25] .snap), o1 9 (.binOp .neq 27 (tm 8) (ic 0) 27)] 0 none) []
  (.cond (tm 9)
  (.seq (.region 2 [o1 4 (.assign (ic (-1)))] 0 none) []
    (.ret (rl 0 4 (rl 5 27 []))))
  .skip)) [4, 7, 8, 9]
  A23v4))⟩
def B23v1 (C : Oracle) (fuel : Nat) {ρ : Type} : St → (Ex → St → Option ρ) → Option ρ := fun st k => evalC C fuel A23v2 st k
def N23v1 : St → Option St := fun s => s.norm (0 :: 1 :: 4 :: (rl 7 25 [])) 2
def s23v0 (x17 : Int) (x18 : Int) (x19 : Nat) (x20 : Nat → Nat → CV) (x21 : Nat) (x22 : Nat → Nat → CV) (x23 : Int) (x24 : Int) : St := ⟨(.u :: .u :: .x (.ptr 0 0) :: .x (.ptr 1 0) :: .u :: .x (.c (.i .i64 x17)) :: .x (.c (.i .i64 x18)) :: (us 25 [])), [.box [(.c (.ro false (.pr (.int .i64) (.pr (.int .i64) .nil)) x19 x20)), (.c (.ro false (.pr (.sl (.pr (.int .i64) (.pr (.int .i64) .nil))) .nil) x21 x22))], .box [(.c (.i .i64 x23)), (.c (.i .i64 x24))]]⟩
def s23v1 (x26 : Int) (x19 : Nat) (x20 : Nat → Nat → CV) (x21 : Nat) (x22 : Nat → Nat → CV) (x23 : Int) (x24 : Int) : St := ⟨(us 5 (.x (.c (.i .i64 x26)) :: (us 26 []))), [.box [(.c (.ro false (.pr (.int .i64) (.pr (.int .i64) .nil)) x19 x20)), (.c (.ro false (.pr (.sl (.pr (.int .i64) (.pr (.int .i64) .nil))) .nil) x21 x22))], .box [(.c (.i .i64 x23)), (.c (.i .i64 x24))]]⟩
def L23v1 {ρ : Type} (fuel : Nat) (x19 : Nat) (x20 : Nat → Nat → CV) (x21 : Nat) (x22 : Nat → Nat → CV) (x23 : Int) (x24 : Int) : Nat → Int → Int → (Int → Option ρ) → Option ρ
  | 0, _, _, _ => none
  | m + 1, x17, x18, k0 =>
    (bif (decide (x18 < (Int.ofNat x21))) then (bif (inb x18 x21) then (ob (F40 fuel (CV.len (x22 (Int.toNat x18) 0)) (CV.el (x22 (Int.toNat x18) 0)) x23 x24) fun x25 => (L23v1 fuel x19 x20 x21 x22 x23 x24 m (if (w64 (0 - x25)) < x17 then (w64 (0 - x25)) else x17) (w64 (x18 + 1)) k0)) else none) else (k0 x17))
theorem nl23v1 {ρ σ : Type} (fuel : Nat) (x19 : Nat) (x20 : Nat → Nat → CV) (x21 : Nat) (x22 : Nat → Nat → CV) (x23 : Int) (x24 : Int) (g : ρ → Option σ) : ∀ (m : Nat) (x17 : Int) (x18 : Int) (k0 : Int → Option ρ), ob (L23v1 fuel x19 x20 x21 x22 x23 x24 m x17 x18 k0) g = L23v1 fuel x19 x20 x21 x22 x23 x24 m x17 x18 (fun x26 => ob (k0 x26) g)
  | 0, _, _, _ => rfl
  | m + 1, x17, x18, k0 => by
    simp only [L23v1, ob_bif, ob_ob, ob_none, nl23v1 fuel x19 x20 x21 x22 x23 x24 g m]
theorem r23v1 (fuel : Nat) (m : Nat) {ρ : Type} (k : Ex → St → Option ρ) (x19 : Nat) (x20 : Nat → Nat → CV) (x21 : Nat) (x22 : Nat → Nat → CV) (x23 : Int) (x24 : Int) (x17 : Int) (x18 : Int) :
    loopH (B23v1 (C68 fuel) fuel) N23v1 (m + 1) (s23v0 x17 x18 x19 x20 x21 x22 x23 x24) k =
    (bif (decide (x18 < (Int.ofNat x21))) then (bif (inb x18 x21) then (ob (F40 fuel (CV.len (x22 (Int.toNat x18) 0)) (CV.el (x22 (Int.toNat x18) 0)) x23 x24) fun x25 => (loopH (B23v1 (C68 fuel) fuel) N23v1 m (s23v0 (if (w64 (0 - x25)) < x17 then (w64 (0 - x25)) else x17) (w64 (x18 + 1)) x19 x20 x21 x22 x23 x24) k)) else none) else (k (.exit 0) (s23v1 x17 x19 x20 x21 x22 x23 x24))) := by kernel_rfl
theorem q23v1 (fuel : Nat) (x19 : Nat) (x20 : Nat → Nat → CV) (x21 : Nat) (x22 : Nat → Nat → CV) (x23 : Int) (x24 : Int) {ρ : Type} (k : Ex → St → Option ρ) : ∀ (m : Nat) (x17 : Int) (x18 : Int),
    loopH (B23v1 (C68 fuel) fuel) N23v1 m (s23v0 x17 x18 x19 x20 x21 x22 x23 x24) k = L23v1 fuel x19 x20 x21 x22 x23 x24 m x17 x18 (fun x26 => k (.exit 0) (s23v1 x26 x19 x20 x21 x22 x23 x24))
  | 0, _, _ => rfl
  | m + 1, x17, x18 => by
    rw [r23v1]
    simp only [L23v1, q23v1 fuel x19 x20 x21 x22 x23 x24 k m]
def D23 {ρ : Type} (fuel : Nat) (x1 : Nat) (x2 : Nat → Nat → CV) (x3 : Nat) (x4 : Nat → Nat → CV) (x5 : Int) (x6 : Int) (k : Int → Option ρ) : Option ρ :=
  (ob (F14 fuel x1 x2 x3 x4) fun x7 => (bif (x7 != 0) then (k (-1)) else (ob (F40 fuel x1 x2 x5 x6) fun x8 => (L23v1 fuel x1 x2 x3 x4 x5 x6 fuel x8 0
    (fun x27 => (k x27))))))
def F23 (fuel : Nat) (x1 : Nat) (x2 : Nat → Nat → CV) (x3 : Nat) (x4 : Nat → Nat → CV) (x5 : Int) (x6 : Int) : Option (Int) := D23 fuel x1 x2 x3 x4 x5 x6 some
theorem n23 {ρ σ : Type} (fuel : Nat) (x1 : Nat) (x2 : Nat → Nat → CV) (x3 : Nat) (x4 : Nat → Nat → CV) (x5 : Int) (x6 : Int) (k : (Int) → Option ρ) (g : ρ → Option σ) : ob (D23 fuel x1 x2 x3 x4 x5 x6 k) g = D23 fuel x1 x2 x3 x4 x5 x6 fun t => ob (k t) g := by
  simp only [D23, ob_bif, ob_ob, ob_none, nl23v1]
theorem f23 {ρ : Type} (fuel : Nat) (x1 : Nat) (x2 : Nat → Nat → CV) (x3 : Nat) (x4 : Nat → Nat → CV) (x5 : Int) (x6 : Int) (k : (Int) → Option ρ) : D23 fuel x1 x2 x3 x4 x5 x6 k = ob (F23 fuel x1 x2 x3 x4 x5 x6) k := by
  unfold F23
  rw [n23]
  simp only [ob_some]
def s23v2 (x1 : Nat) (x2 : Nat → Nat → CV) (x3 : Nat) (x4 : Nat → Nat → CV) (x5 : Int) (x6 : Int) (x8 : Int) : St := ⟨(.agg [(.c (.ro false (.pr (.int .i64) (.pr (.int .i64) .nil)) x1 x2)), (.c (.ro false (.pr (.sl (.pr (.int .i64) (.pr (.int .i64) .nil))) .nil) x3 x4))] :: .agg [(.c (.i .i64 x5)), (.c (.i .i64 x6))] :: .x (.ptr 0 0) :: .x (.ptr 1 0) :: .u :: .x (.c (.i .i64 x8)) :: .x (.c (.i .i64 0)) :: (us 3 [.x (.ptr 0 0), .x (.c (.ro false (.pr (.int .i64) (.pr (.int .i64) .nil)) x1 x2)), .agg [(.c (.i .i64 x5)), (.c (.i .i64 x6))], .x (.c (.i .i64 x8)), .undef, .undef, .undef, .undef, .undef, .undef, .undef, .undef, .undef, .undef, .undef, .undef, .undef, .undef, .undef, .undef, .undef, .undef])), [.box [(.c (.ro false (.pr (.int .i64) (.pr (.int .i64) .nil)) x1 x2)), (.c (.ro false (.pr (.sl (.pr (.int .i64) (.pr (.int .i64) .nil))) .nil) x3 x4))], .box [(.c (.i .i64 x5)), (.c (.i .i64 x6))]]⟩
theorem walk23 (fuel : Nat) (x1 : Nat) (x2 : Nat → Nat → CV) (x3 : Nat) (x4 : Nat → Nat → CV) (x5 : Int) (x6 : Int) :
    evalF (C68 fuel) fuel A23 [.agg [(.ro false (.pr (.int .i64) (.pr (.int .i64) .nil)) x1 x2), (.ro false (.pr (.sl (.pr (.int .i64) (.pr (.int .i64) .nil))) .nil) x3 x4)], .agg [(.i .i64 x5), (.i .i64 x6)]] =
    (ob (F14 fuel x1 x2 x3 x4) fun x7 => (bif (x7 != 0) then (some [.v (.i .i64 (-1))]) else (ob (F40 fuel x1 x2 x5 x6) fun x8 => (loopN (B23v1 (C68 fuel) fuel) N23v1 fuel (s23v2 x1 x2 x3 x4 x5 x6 x8) (kBlk 0 (kSeq (C68 fuel) fuel (6 :: (rl 14 17 [])) A23v3 (finish A23))))))) := by kernel_rfl
theorem t23v1 (fuel : Nat) {ρ : Type} (k : Ex → St → Option ρ) (x1 : Nat) (x2 : Nat → Nat → CV) (x3 : Nat) (x4 : Nat → Nat → CV) (x5 : Int) (x6 : Int) (x8 : Int) :
    loopN (B23v1 (C68 fuel) fuel) N23v1 fuel (s23v2 x1 x2 x3 x4 x5 x6 x8) k =
    L23v1 fuel x1 x2 x3 x4 x5 x6 fuel x8 0 (fun x26 => k (.exit 0) (s23v1 x26 x1 x2 x3 x4 x5 x6)) :=
  (loopN_at (st' := (s23v0 x8 0 x1 x2 x3 x4 x5 x6)) (by kernel_rfl)).trans (q23v1 fuel x1 x2 x3 x4 x5 x6 k fuel x8 0)
theorem g23v2 (fuel : Nat) (x27 : Int) (x1 : Nat) (x2 : Nat → Nat → CV) (x3 : Nat) (x4 : Nat → Nat → CV) (x5 : Int) (x6 : Int) :
    (kBlk 0 (kSeq (C68 fuel) fuel (6 :: (rl 14 17 [])) A23v3 (finish A23))) (.exit 0) (s23v1 x27 x1 x2 x3 x4 x5 x6) =
    (some [.v (.i .i64 x27)]) := by kernel_rfl
theorem e23 (fuel : Nat) (x1 : Nat) (x2 : Nat → Nat → CV) (x3 : Nat) (x4 : Nat → Nat → CV) (x5 : Int) (x6 : Int) : evalF (C68 fuel) fuel A23 [.agg [(.ro false (.pr (.int .i64) (.pr (.int .i64) .nil)) x1 x2), (.ro false (.pr (.sl (.pr (.int .i64) (.pr (.int .i64) .nil))) .nil) x3 x4)], .agg [(.i .i64 x5), (.i .i64 x6)]] = ob (F23 fuel x1 x2 x3 x4 x5 x6) fun t => some [.v (.i .i64 t)] := by
  rw [walk23, ← f23]
  simp only [D23, t23v1, g23v2]
def O23 (fuel : Nat) : Ora where
  o := fun args {ρ} K =>
    wc args fun a1 l2 =>
    wagg a1 fun l3 =>
    wc l3 fun c4 l5 =>
    wL (.pr (.int .i64) (.pr (.int .i64) .nil)) c4 fun y6 y7 =>
    wc l5 fun c9 l10 =>
    wL (.pr (.sl (.pr (.int .i64) (.pr (.int .i64) .nil))) .nil) c9 fun y11 y12 =>
    wn l10 <|
    wc l2 fun a14 l15 =>
    wagg a14 fun l16 =>
    wc l16 fun c17 l18 =>
    wI .i64 c17 fun y19 =>
    wc l18 fun c21 l22 =>
    wI .i64 c21 fun y23 =>
    wn l22 <|
    wn l15 <|
    (ob (F23 fuel y6 y7 y11 y12 y19 y23) fun t => K [.v (.i .i64 t)])
  nat := fun args {ρ} K => by
    simp only [bind_wc, bind_wn, bind_wv, bind_wagg, bind_wI, bind_wB, bind_wS, bind_wL, bind_wP, bind_wFn, bind_ob, Option.bind_some]
theorem d23 {P : Program} (fuel : Nat) (hmix : P.follows .mixedOrders = true) (hC : Sound P (C68 fuel)) (hF : FFits P 23 A23) (args res : List A) (h : (O23 fuel).o args some = some res) : Den P 23 args res := by
  obtain ⟨a1, l2, rfl, z0⟩ := inv_wc h
  obtain ⟨l3, rfl, z1⟩ := inv_wagg z0
  obtain ⟨c4, l5, rfl, z2⟩ := inv_wc z1
  obtain ⟨y6, y7, h8, z3⟩ := inv_wL z2
  obtain ⟨c9, l10, rfl, z4⟩ := inv_wc z3
  obtain ⟨y11, y12, h13, z5⟩ := inv_wL z4
  obtain ⟨hn, z6⟩ := inv_wn z5
  cases hn
  obtain ⟨a14, l15, rfl, z7⟩ := inv_wc z6
  obtain ⟨l16, rfl, z8⟩ := inv_wagg z7
  obtain ⟨c17, l18, rfl, z9⟩ := inv_wc z8
  obtain ⟨y19, h20, z10⟩ := inv_wI z9
  obtain ⟨c21, l22, rfl, z11⟩ := inv_wc z10
  obtain ⟨y23, h24, z12⟩ := inv_wI z11
  obtain ⟨hn, z13⟩ := inv_wn z12
  cases hn
  obtain ⟨hn, z14⟩ := inv_wn z13
  cases hn
  exact Den.weaken (.cons (WkA.agg (.cons h8 (.cons h13 .nil))) (.cons (WkA.agg (.cons (Wk.i h20) (.cons (Wk.i h24) .nil))) .nil)) (evalF_sound hmix hC hF ((e23 fuel y6 y7 y11 y12 y19 y23).trans z14))
def C69 (fuel : Nat) : Oracle := (C68 fuel).add 23 (fun _ => true) (O23 fuel)
def A5 : AF := ⟨19, [.tmp 4],
  (.seq (.region 0 [o1 2 (.box 0 25 (tm 0)), o1 3 (.box 1 34 (tm 1)), o1 4 (.assign (.const (.bool false)))] 2 none) []
  (.seq (.region 1 [o1 5 (.load 25 (some 2) (tm 2)), o1 6 (.call 12 [(tm 5)] [25] .snap), mv 7 6, og 8 (.load 25 (some 2) (tm 2)) 7 false, og 9 (.load 34 (some 2) (tm 3)) 7 false, og 10 (.call 22 [(tm 8), (tm 9)] [25, 34] .snap) 7 false, og 11 (.load 25 (some 2) (tm 2)) 7 false, og 12 (.load 34 (some 2) (tm 3)) 7 false, og 13 (.call 23 [(tm 11), (tm 12)] [25, 34] .snap) 7 false, og 14 (.binOp .eql 3 (tm 10) (tm 13) 3) 7 false, o1 15 (.pick (tm 7) (.const (.bool true)) (tm 14)), mv 16 15, og 17 (.call 15 [] [] .snap) 16 true, o1 18 (.pick (tm 16) (tm 17) (.const (.bool false))), o1 4 (.assign (tm 18))] 0 (some [[], [0], [0, 1], [0, 1, 2], [0, 1, 2], (rl 0 5 []), [0, 1, 2], [0, 1, 2], (rl 0 8 []), (rl 0 9 []), (rl 0 10 []), (rl 0 11 []), (rl 0 12 []), (rl 0 13 []), (rl 0 14 [])])) []
  (.ret (rl 0 4 (rl 5 14 [])))))⟩
def D5 {ρ : Type} (fuel : Nat) (x1 : Nat) (x2 : Nat → Nat → CV) (x3 : Nat) (x4 : Nat → Nat → CV) (x5 : Int) (x6 : Int) (k : Bool → Option ρ) : Option ρ :=
  (ob (F12 fuel x1 x2 x3 x4) fun x7 => (bif (x7 == false) then (ob (F22 fuel x1 x2 x3 x4 x5 x6) fun x8 => (ob (F23 fuel x1 x2 x3 x4 x5 x6) fun x9 => (bif ((x8 == x9) == true) then (ob (F15 fuel) fun x10 => (k x10)) else (k false)))) else (ob (F15 fuel) fun x11 => (k x11))))
def F5 (fuel : Nat) (x1 : Nat) (x2 : Nat → Nat → CV) (x3 : Nat) (x4 : Nat → Nat → CV) (x5 : Int) (x6 : Int) : Option (Bool) := D5 fuel x1 x2 x3 x4 x5 x6 some
theorem n5 {ρ σ : Type} (fuel : Nat) (x1 : Nat) (x2 : Nat → Nat → CV) (x3 : Nat) (x4 : Nat → Nat → CV) (x5 : Int) (x6 : Int) (k : (Bool) → Option ρ) (g : ρ → Option σ) : ob (D5 fuel x1 x2 x3 x4 x5 x6 k) g = D5 fuel x1 x2 x3 x4 x5 x6 fun t => ob (k t) g := by
  simp only [D5, ob_bif, ob_ob, ob_none]
theorem f5 {ρ : Type} (fuel : Nat) (x1 : Nat) (x2 : Nat → Nat → CV) (x3 : Nat) (x4 : Nat → Nat → CV) (x5 : Int) (x6 : Int) (k : (Bool) → Option ρ) : D5 fuel x1 x2 x3 x4 x5 x6 k = ob (F5 fuel x1 x2 x3 x4 x5 x6) k := by
  unfold F5
  rw [n5]
  simp only [ob_some]
theorem walk5 (fuel : Nat) (x1 : Nat) (x2 : Nat → Nat → CV) (x3 : Nat) (x4 : Nat → Nat → CV) (x5 : Int) (x6 : Int) :
    evalF (C69 fuel) fuel A5 [.agg [(.ro false (.pr (.int .i64) (.pr (.int .i64) .nil)) x1 x2), (.ro false (.pr (.sl (.pr (.int .i64) (.pr (.int .i64) .nil))) .nil) x3 x4)], .agg [(.i .i64 x5), (.i .i64 x6)]] =
    (ob (F12 fuel x1 x2 x3 x4) fun x7 => (bif (x7 == false) then (ob (F22 fuel x1 x2 x3 x4 x5 x6) fun x8 => (ob (F23 fuel x1 x2 x3 x4 x5 x6) fun x9 => (bif ((x8 == x9) == true) then (ob (F15 fuel) fun x10 => (some [.v (.b x10)])) else (some [.v (.b false)])))) else (ob (F15 fuel) fun x11 => (some [.v (.b x11)])))) := by kernel_rfl
theorem e5 (fuel : Nat) (x1 : Nat) (x2 : Nat → Nat → CV) (x3 : Nat) (x4 : Nat → Nat → CV) (x5 : Int) (x6 : Int) : evalF (C69 fuel) fuel A5 [.agg [(.ro false (.pr (.int .i64) (.pr (.int .i64) .nil)) x1 x2), (.ro false (.pr (.sl (.pr (.int .i64) (.pr (.int .i64) .nil))) .nil) x3 x4)], .agg [(.i .i64 x5), (.i .i64 x6)]] = ob (F5 fuel x1 x2 x3 x4 x5 x6) fun t => some [.v (.b t)] := by
  rw [walk5, ← f5]
  simp only [D5]
def O5 (fuel : Nat) : Ora where
  o := fun args {ρ} K =>
    wc args fun a1 l2 =>
    wagg a1 fun l3 =>
    wc l3 fun c4 l5 =>
    wL (.pr (.int .i64) (.pr (.int .i64) .nil)) c4 fun y6 y7 =>
    wc l5 fun c9 l10 =>
    wL (.pr (.sl (.pr (.int .i64) (.pr (.int .i64) .nil))) .nil) c9 fun y11 y12 =>
    wn l10 <|
    wc l2 fun a14 l15 =>
    wagg a14 fun l16 =>
    wc l16 fun c17 l18 =>
    wI .i64 c17 fun y19 =>
    wc l18 fun c21 l22 =>
    wI .i64 c21 fun y23 =>
    wn l22 <|
    wn l15 <|
    (ob (F5 fuel y6 y7 y11 y12 y19 y23) fun t => K [.v (.b t)])
  nat := fun args {ρ} K => by
    simp only [bind_wc, bind_wn, bind_wv, bind_wagg, bind_wI, bind_wB, bind_wS, bind_wL, bind_wP, bind_wFn, bind_ob, Option.bind_some]
theorem d5 {P : Program} (fuel : Nat) (hmix : P.follows .mixedOrders = true) (hC : Sound P (C69 fuel)) (hF : FFits P 5 A5) (args res : List A) (h : (O5 fuel).o args some = some res) : Den P 5 args res := by
  obtain ⟨a1, l2, rfl, z0⟩ := inv_wc h
  obtain ⟨l3, rfl, z1⟩ := inv_wagg z0
  obtain ⟨c4, l5, rfl, z2⟩ := inv_wc z1
  obtain ⟨y6, y7, h8, z3⟩ := inv_wL z2
  obtain ⟨c9, l10, rfl, z4⟩ := inv_wc z3
  obtain ⟨y11, y12, h13, z5⟩ := inv_wL z4
  obtain ⟨hn, z6⟩ := inv_wn z5
  cases hn
  obtain ⟨a14, l15, rfl, z7⟩ := inv_wc z6
  obtain ⟨l16, rfl, z8⟩ := inv_wagg z7
  obtain ⟨c17, l18, rfl, z9⟩ := inv_wc z8
  obtain ⟨y19, h20, z10⟩ := inv_wI z9
  obtain ⟨c21, l22, rfl, z11⟩ := inv_wc z10
  obtain ⟨y23, h24, z12⟩ := inv_wI z11
  obtain ⟨hn, z13⟩ := inv_wn z12
  cases hn
  obtain ⟨hn, z14⟩ := inv_wn z13
  cases hn
  exact Den.weaken (.cons (WkA.agg (.cons h8 (.cons h13 .nil))) (.cons (WkA.agg (.cons (Wk.i h20) (.cons (Wk.i h24) .nil))) .nil)) (evalF_sound hmix hC hF ((e5 fuel y6 y7 y11 y12 y19 y23).trans z14))
def C70 (fuel : Nat) : Oracle := (C69 fuel).add 5 (fun _ => true) (O5 fuel)
def A32v1 : AC := (.seq (.block 1
  (.region 6 [o1 18 (.fieldAddr 34 (tm 2) 1 1), o1 19 (.load 3 none (tm 18)), o1 20 (.unOp .neg 3 (tm 19)), o1 21 (.fieldAddr 34 (tm 2) 0 0), o1 22 (.load 3 none (tm 21)), o1 23 (.build 34 [.c (.i .i64 0), .c (.i .i64 0)] [(0, 1), (1, 1)] 0 [(0, (tm 20)), (1, (tm 22))]), o0 (.store 34 2 (tm 2) (tm 23))] 0 none)) []
  (.region 5 [mv 16 5, o1 17 (.binOp .add 3 (tm 16) (ic 1) 3), o1 5 (.assign (tm 17))] 0 none))
def A32v2 : AC := (.seq (.seq (.region 4 [mv 12 5, o1 13 (.fieldAddr 41 (tm 3) 2 3), o1 14 (.load 3 none (tm 13)), o1 15 (.binOp .lss 3 (tm 12) (tm 14) 3)] 0 none) []
  (.cond (tm 15)
  .skip
  (.exit 0 (0 :: 1 :: (rl 5 32 []))))) (rl 12 4 [])
  A32v1)
def A32v3 : AC := (.seq (.region 7 [o1 24 (.fieldAddr 34 (tm 2) 0 0), o1 25 (.load 3 none (tm 24)), o1 26 (.fieldAddr 41 (tm 3) 1 1), o1 27 (.fieldAddr 34 (tm 26) 0 0), o1 28 (.load 3 none (tm 27)), o1 29 (.binOp .add 3 (tm 25) (tm 28) 3), o1 30 (.fieldAddr 34 (tm 2) 1 1), o1 31 (.load 3 none (tm 30)), o1 32 (.fieldAddr 41 (tm 3) 1 1), o1 33 (.fieldAddr 34 (tm 32) 1 1), o1 34 (.load 3 none (tm 33)), o1 35 (.binOp .add 3 (tm 31) (tm 34) 3), o1 36 (.build 34 [.c (.i .i64 0), .c (.i .i64 0)] [(0, 1), (1, 1)] 0 [(0, (tm 29)), (1, (tm 35))]), o0 (.store 34 2 (tm 4) (tm 36))] 0 none) []
  (.ret (rl 0 4 (rl 5 32 []))))
def A32v4 : AC := (.seq (.seq (.region 3 [o1 5 (.assign (ic 0))] 0 none) []
  (.block 0
  (.loop [] (0 :: 1 :: (rl 6 31 []))
    A32v2))) (5 :: (rl 12 12 []))
  A32v3)
def A32 : AF := ⟨37, [.cell 4 34 (some 2)],
  (.seq (.region 0 [o1 2 (.box 0 34 (tm 0)), o1 3 (.box 1 41 (tm 1)), o1 4 (.alloc 2 34 [.c (.i .i64 0), .c (.i .i64 0)])] 3 none) []
  (.seq (.seq (.region 1 [o1 6 (.fieldAddr 41 (tm 3) 3 4), o1 7 (.load 4 none (tm 6))] 0 none) []
  (.cond (tm 7)
  (.region 2 [o1 8 (.fieldAddr 34 (tm 2) 0 0), o1 9 (.load 3 none (tm 8)), o1 10 (.unOp .neg 3 (tm 9)), o1 11 (.fieldAddr 34 (tm 2) 0 0), o0 (.store 3 1 (tm 11) (tm 10))] 0 none)
  .skip)) (rl 6 6 [])
  A32v4))⟩
def B32v1 (C : Oracle) (fuel : Nat) {ρ : Type} : St → (Ex → St → Option ρ) → Option ρ := fun st k => evalC C fuel A32v2 st k
def N32v1 : St → Option St := fun s => s.norm (0 :: 1 :: (rl 6 31 [])) 3
def s32v0 (x15 : Int) (x16 : Int) (x17 : Int) (x18 : ByteArray) (x19 : Int) (x20 : Int) (x21 : Int) (x22 : Bool) : St := ⟨(.u :: .u :: .x (.ptr 0 0) :: .x (.ptr 1 0) :: .x (.ptr 2 0) :: .x (.c (.i .i64 x15)) :: (us 31 [])), [.box [(.c (.i .i64 x16)), (.c (.i .i64 x17))], .box [(.c (.s x18)), (.c (.i .i64 x19)), (.c (.i .i64 x20)), (.c (.i .i64 x21)), (.c (.b x22))], .box [(.c (.i .i64 0)), (.c (.i .i64 0))]]⟩
def s32v1 (x23 : Int) (x24 : Int) (x18 : ByteArray) (x19 : Int) (x20 : Int) (x21 : Int) (x22 : Bool) : St := ⟨(.u :: .u :: .x (.ptr 0 0) :: .x (.ptr 1 0) :: .x (.ptr 2 0) :: (us 32 [])), [.box [(.c (.i .i64 x23)), (.c (.i .i64 x24))], .box [(.c (.s x18)), (.c (.i .i64 x19)), (.c (.i .i64 x20)), (.c (.i .i64 x21)), (.c (.b x22))], .box [(.c (.i .i64 0)), (.c (.i .i64 0))]]⟩
def L32v1 {ρ : Type} (fuel : Nat) (x18 : ByteArray) (x19 : Int) (x20 : Int) (x21 : Int) (x22 : Bool) : Nat → Int → Int → Int → (Int → Int → Option ρ) → Option ρ
  | 0, _, _, _, _ => none
  | m + 1, x15, x16, x17, k0 =>
    (bif (decide (x15 < x21)) then (L32v1 fuel x18 x19 x20 x21 x22 m (w64 (x15 + 1)) (w64 (0 - x17)) x16 k0) else (k0 x16 x17))
theorem nl32v1 {ρ σ : Type} (fuel : Nat) (x18 : ByteArray) (x19 : Int) (x20 : Int) (x21 : Int) (x22 : Bool) (g : ρ → Option σ) : ∀ (m : Nat) (x15 : Int) (x16 : Int) (x17 : Int) (k0 : Int → Int → Option ρ), ob (L32v1 fuel x18 x19 x20 x21 x22 m x15 x16 x17 k0) g = L32v1 fuel x18 x19 x20 x21 x22 m x15 x16 x17 (fun x23 x24 => ob (k0 x23 x24) g)
  | 0, _, _, _, _ => rfl
  | m + 1, x15, x16, x17, k0 => by
    simp only [L32v1, ob_bif, ob_ob, ob_none, nl32v1 fuel x18 x19 x20 x21 x22 g m]
theorem r32v1 (fuel : Nat) (m : Nat) {ρ : Type} (k : Ex → St → Option ρ) (x18 : ByteArray) (x19 : Int) (x20 : Int) (x21 : Int) (x22 : Bool) (x15 : Int) (x16 : Int) (x17 : Int) :
    loopH (B32v1 (C70 fuel) fuel) N32v1 (m + 1) (s32v0 x15 x16 x17 x18 x19 x20 x21 x22) k =
    (bif (decide (x15 < x21)) then (loopH (B32v1 (C70 fuel) fuel) N32v1 m (s32v0 (w64 (x15 + 1)) (w64 (0 - x17)) x16 x18 x19 x20 x21 x22) k) else (k (.exit 0) (s32v1 x16 x17 x18 x19 x20 x21 x22))) := by kernel_rfl
theorem q32v1 (fuel : Nat) (x18 : ByteArray) (x19 : Int) (x20 : Int) (x21 : Int) (x22 : Bool) {ρ : Type} (k : Ex → St → Option ρ) : ∀ (m : Nat) (x15 : Int) (x16 : Int) (x17 : Int),
    loopH (B32v1 (C70 fuel) fuel) N32v1 m (s32v0 x15 x16 x17 x18 x19 x20 x21 x22) k = L32v1 fuel x18 x19 x20 x21 x22 m x15 x16 x17 (fun x23 x24 => k (.exit 0) (s32v1 x23 x24 x18 x19 x20 x21 x22))
  | 0, _, _, _ => rfl
  | m + 1, x15, x16, x17 => by
    rw [r32v1]
    simp only [L32v1, q32v1 fuel x18 x19 x20 x21 x22 k m]
def D32 {ρ : Type} (fuel : Nat) (x1 : Int) (x2 : Int) (x3 : ByteArray) (x4 : Int) (x5 : Int) (x6 : Int) (x7 : Bool) (k : (Int × Int) → Option ρ) : Option ρ :=
  (bif x7 then (L32v1 fuel x3 x4 x5 x6 x7 fuel 0 (w64 (0 - x1)) x2
    (fun x25 x26 => (k ((w64 (x25 + x4)), (w64 (x26 + x5)))))) else (L32v1 fuel x3 x4 x5 x6 x7 fuel 0 x1 x2
    (fun x27 x28 => (k ((w64 (x27 + x4)), (w64 (x28 + x5)))))))
def F32 (fuel : Nat) (x1 : Int) (x2 : Int) (x3 : ByteArray) (x4 : Int) (x5 : Int) (x6 : Int) (x7 : Bool) : Option (Int × Int) := D32 fuel x1 x2 x3 x4 x5 x6 x7 some
theorem n32 {ρ σ : Type} (fuel : Nat) (x1 : Int) (x2 : Int) (x3 : ByteArray) (x4 : Int) (x5 : Int) (x6 : Int) (x7 : Bool) (k : (Int × Int) → Option ρ) (g : ρ → Option σ) : ob (D32 fuel x1 x2 x3 x4 x5 x6 x7 k) g = D32 fuel x1 x2 x3 x4 x5 x6 x7 fun t => ob (k t) g := by
  simp only [D32, ob_bif, ob_ob, ob_none, nl32v1]
theorem f32 {ρ : Type} (fuel : Nat) (x1 : Int) (x2 : Int) (x3 : ByteArray) (x4 : Int) (x5 : Int) (x6 : Int) (x7 : Bool) (k : (Int × Int) → Option ρ) : D32 fuel x1 x2 x3 x4 x5 x6 x7 k = ob (F32 fuel x1 x2 x3 x4 x5 x6 x7) k := by
  unfold F32
  rw [n32]
  simp only [ob_some]
def s32v2 (x1 : Int) (x2 : Int) (x3 : ByteArray) (x4 : Int) (x5 : Int) (x6 : Int) (x7 : Bool) : St := ⟨(.agg [(.c (.i .i64 x1)), (.c (.i .i64 x2))] :: .agg [(.c (.s x3)), (.c (.i .i64 x4)), (.c (.i .i64 x5)), (.c (.i .i64 x6)), (.c (.b x7))] :: .x (.ptr 0 0) :: .x (.ptr 1 0) :: .x (.ptr 2 0) :: .x (.c (.i .i64 0)) :: (us 6 [.undef, .undef, .undef, .undef, .undef, .undef, .undef, .undef, .undef, .undef, .undef, .undef, .undef, .undef, .undef, .undef, .undef, .undef, .undef, .undef, .undef, .undef, .undef, .undef, .undef])), [.box [(.c (.i .i64 (w64 (0 - x1)))), (.c (.i .i64 x2))], .box [(.c (.s x3)), (.c (.i .i64 x4)), (.c (.i .i64 x5)), (.c (.i .i64 x6)), (.c (.b x7))], .box [(.c (.i .i64 0)), (.c (.i .i64 0))]]⟩
def s32v3 (x1 : Int) (x2 : Int) (x3 : ByteArray) (x4 : Int) (x5 : Int) (x6 : Int) (x7 : Bool) : St := ⟨(.agg [(.c (.i .i64 x1)), (.c (.i .i64 x2))] :: .agg [(.c (.s x3)), (.c (.i .i64 x4)), (.c (.i .i64 x5)), (.c (.i .i64 x6)), (.c (.b x7))] :: .x (.ptr 0 0) :: .x (.ptr 1 0) :: .x (.ptr 2 0) :: .x (.c (.i .i64 0)) :: (us 6 [.undef, .undef, .undef, .undef, .undef, .undef, .undef, .undef, .undef, .undef, .undef, .undef, .undef, .undef, .undef, .undef, .undef, .undef, .undef, .undef, .undef, .undef, .undef, .undef, .undef])), [.box [(.c (.i .i64 x1)), (.c (.i .i64 x2))], .box [(.c (.s x3)), (.c (.i .i64 x4)), (.c (.i .i64 x5)), (.c (.i .i64 x6)), (.c (.b x7))], .box [(.c (.i .i64 0)), (.c (.i .i64 0))]]⟩
theorem walk32 (fuel : Nat) (x1 : Int) (x2 : Int) (x3 : ByteArray) (x4 : Int) (x5 : Int) (x6 : Int) (x7 : Bool) :
    evalF (C70 fuel) fuel A32 [.agg [(.i .i64 x1), (.i .i64 x2)], .agg [(.s x3), (.i .i64 x4), (.i .i64 x5), (.i .i64 x6), (.b x7)]] =
    (bif x7 then (loopN (B32v1 (C70 fuel) fuel) N32v1 fuel (s32v2 x1 x2 x3 x4 x5 x6 x7) (kBlk 0 (kSeq (C70 fuel) fuel (5 :: (rl 12 12 [])) A32v3 (finish A32)))) else (loopN (B32v1 (C70 fuel) fuel) N32v1 fuel (s32v3 x1 x2 x3 x4 x5 x6 x7) (kBlk 0 (kSeq (C70 fuel) fuel (5 :: (rl 12 12 [])) A32v3 (finish A32))))) := by kernel_rfl
theorem t32v1 (fuel : Nat) {ρ : Type} (k : Ex → St → Option ρ) (x1 : Int) (x2 : Int) (x3 : ByteArray) (x4 : Int) (x5 : Int) (x6 : Int) (x7 : Bool) :
    loopN (B32v1 (C70 fuel) fuel) N32v1 fuel (s32v2 x1 x2 x3 x4 x5 x6 x7) k =
    L32v1 fuel x3 x4 x5 x6 x7 fuel 0 (w64 (0 - x1)) x2 (fun x23 x24 => k (.exit 0) (s32v1 x23 x24 x3 x4 x5 x6 x7)) :=
  (loopN_at (st' := (s32v0 0 (w64 (0 - x1)) x2 x3 x4 x5 x6 x7)) (by kernel_rfl)).trans (q32v1 fuel x3 x4 x5 x6 x7 k fuel 0 (w64 (0 - x1)) x2)
theorem g32v2 (fuel : Nat) (x25 : Int) (x26 : Int) (x3 : ByteArray) (x4 : Int) (x5 : Int) (x6 : Int) (x7 : Bool) :
    (kBlk 0 (kSeq (C70 fuel) fuel (5 :: (rl 12 12 [])) A32v3 (finish A32))) (.exit 0) (s32v1 x25 x26 x3 x4 x5 x6 x7) =
    (some [.agg [(.i .i64 (w64 (x25 + x4))), (.i .i64 (w64 (x26 + x5)))]]) := by kernel_rfl
theorem t32v3 (fuel : Nat) {ρ : Type} (k : Ex → St → Option ρ) (x1 : Int) (x2 : Int) (x3 : ByteArray) (x4 : Int) (x5 : Int) (x6 : Int) (x7 : Bool) :
    loopN (B32v1 (C70 fuel) fuel) N32v1 fuel (s32v3 x1 x2 x3 x4 x5 x6 x7) k =
    L32v1 fuel x3 x4 x5 x6 x7 fuel 0 x1 x2 (fun x23 x24 => k (.exit 0) (s32v1 x23 x24 x3 x4 x5 x6 x7)) :=
  (loopN_at (st' := (s32v0 0 x1 x2 x3 x4 x5 x6 x7)) (by kernel_rfl)).trans (q32v1 fuel x3 x4 x5 x6 x7 k fuel 0 x1 x2)
theorem g32v4 (fuel : Nat) (x27 : Int) (x28 : Int) (x3 : ByteArray) (x4 : Int) (x5 : Int) (x6 : Int) (x7 : Bool) :
    (kBlk 0 (kSeq (C70 fuel) fuel (5 :: (rl 12 12 [])) A32v3 (finish A32))) (.exit 0) (s32v1 x27 x28 x3 x4 x5 x6 x7) =
    (some [.agg [(.i .i64 (w64 (x27 + x4))), (.i .i64 (w64 (x28 + x5)))]]) := by kernel_rfl
theorem e32 (fuel : Nat) (x1 : Int) (x2 : Int) (x3 : ByteArray) (x4 : Int) (x5 : Int) (x6 : Int) (x7 : Bool) : evalF (C70 fuel) fuel A32 [.agg [(.i .i64 x1), (.i .i64 x2)], .agg [(.s x3), (.i .i64 x4), (.i .i64 x5), (.i .i64 x6), (.b x7)]] = ob (F32 fuel x1 x2 x3 x4 x5 x6 x7) fun t => some [.agg [(.i .i64 t.1), (.i .i64 t.2)]] := by
  rw [walk32, ← f32]
  simp only [D32, t32v1, g32v2, t32v3, g32v4]
def O32 (fuel : Nat) : Ora where
  o := fun args {ρ} K =>
    wc args fun a1 l2 =>
    wagg a1 fun l3 =>
    wc l3 fun c4 l5 =>
    wI .i64 c4 fun y6 =>
    wc l5 fun c8 l9 =>
    wI .i64 c8 fun y10 =>
    wn l9 <|
    wc l2 fun a12 l13 =>
    wagg a12 fun l14 =>
    wc l14 fun c15 l16 =>
    wS c15 fun y17 =>
    wc l16 fun c19 l20 =>
    wI .i64 c19 fun y21 =>
    wc l20 fun c23 l24 =>
    wI .i64 c23 fun y25 =>
    wc l24 fun c27 l28 =>
    wI .i64 c27 fun y29 =>
    wc l28 fun c31 l32 =>
    wB c31 fun y33 =>
    wn l32 <|
    wn l13 <|
    (ob (F32 fuel y6 y10 y17 y21 y25 y29 y33) fun t => K [.agg [(.i .i64 t.1), (.i .i64 t.2)]])
  nat := fun args {ρ} K => by
    simp only [bind_wc, bind_wn, bind_wv, bind_wagg, bind_wI, bind_wB, bind_wS, bind_wL, bind_wP, bind_wFn, bind_ob, Option.bind_some]
theorem d32 {P : Program} (fuel : Nat) (hmix : P.follows .mixedOrders = true) (hC : Sound P (C70 fuel)) (hF : FFits P 32 A32) (args res : List A) (h : (O32 fuel).o args some = some res) : Den P 32 args res := by
  obtain ⟨a1, l2, rfl, z0⟩ := inv_wc h
  obtain ⟨l3, rfl, z1⟩ := inv_wagg z0
  obtain ⟨c4, l5, rfl, z2⟩ := inv_wc z1
  obtain ⟨y6, h7, z3⟩ := inv_wI z2
  obtain ⟨c8, l9, rfl, z4⟩ := inv_wc z3
  obtain ⟨y10, h11, z5⟩ := inv_wI z4
  obtain ⟨hn, z6⟩ := inv_wn z5
  cases hn
  obtain ⟨a12, l13, rfl, z7⟩ := inv_wc z6
  obtain ⟨l14, rfl, z8⟩ := inv_wagg z7
  obtain ⟨c15, l16, rfl, z9⟩ := inv_wc z8
  obtain ⟨y17, h18, z10⟩ := inv_wS z9
  obtain ⟨c19, l20, rfl, z11⟩ := inv_wc z10
  obtain ⟨y21, h22, z12⟩ := inv_wI z11
  obtain ⟨c23, l24, rfl, z13⟩ := inv_wc z12
  obtain ⟨y25, h26, z14⟩ := inv_wI z13
  obtain ⟨c27, l28, rfl, z15⟩ := inv_wc z14
  obtain ⟨y29, h30, z16⟩ := inv_wI z15
  obtain ⟨c31, l32, rfl, z17⟩ := inv_wc z16
  obtain ⟨y33, h34, z18⟩ := inv_wB z17
  obtain ⟨hn, z19⟩ := inv_wn z18
  cases hn
  obtain ⟨hn, z20⟩ := inv_wn z19
  cases hn
  exact Den.weaken (.cons (WkA.agg (.cons (Wk.i h7) (.cons (Wk.i h11) .nil))) (.cons (WkA.agg (.cons (Wk.s h18) (.cons (Wk.i h22) (.cons (Wk.i h26) (.cons (Wk.i h30) (.cons (Wk.b h34) .nil)))))) .nil)) (evalF_sound hmix hC hF ((e32 fuel y6 y10 y17 y21 y25 y29 y33).trans z20))
def C71 (fuel : Nat) : Oracle := (C70 fuel).add 32 (fun _ => true) (O32 fuel)
def A31v1 : AC := (.region 7 [mv 26 5, o1 27 (.binOp .add 3 (tm 26) (ic 1) 3), o1 5 (.assign (tm 27))] 0 none)
def A31v2 : AC := (.seq (.block 3
  (.seq (.region 8 [mv 28 3, mv 29 4, o1 30 (.indexAddr 23 22 1 (tm 28) (tm 29)), o1 31 (.load 22 none (tm 30)), mv 32 5, o1 33 (.indexAddr 22 34 2 (tm 31) (tm 32)), o1 34 (.load 34 (some 2) (tm 33)), o1 6 (.alloc 0 34 [.c (.i .i64 0), .c (.i .i64 0)]), o0 (.store 34 2 (tm 6) (tm 34))] 1 none) []
    (.seq (.region 9 [o1 35 (.fieldAddr 34 (tm 6) 0 0), o1 36 (.load 3 none (tm 35)), o1 37 (.binOp .lss 3 (tm 36) (ic (-32768)) 3), mv 38 37, og 39 (.fieldAddr 34 (tm 6) 0 0) 38 false, og 40 (.load 3 none (tm 39)) 38 false, og 41 (.binOp .gtr 3 (tm 40) (ic 32768) 3) 38 false, o1 42 (.pick (tm 38) (.const (.bool true)) (tm 41)), mv 43 42, og 44 (.fieldAddr 34 (tm 6) 1 1) 43 false, og 45 (.load 3 none (tm 44)) 43 false, og 46 (.binOp .lss 3 (tm 45) (ic (-32768)) 3) 43 false, o1 47 (.pick (tm 43) (.const (.bool true)) (tm 46)), mv 48 47, og 49 (.fieldAddr 34 (tm 6) 1 1) 48 false, og 50 (.load 3 none (tm 49)) 48 false, og 51 (.binOp .gtr 3 (tm 50) (ic 32768) 3) 48 false, o1 52 (.pick (tm 48) (.const (.bool true)) (tm 51))] 0 none) []
    (.cond (tm 52)
    (.seq (.region 10 [o1 2 (.assign (.const (.bool false)))] 0 none) []
      (.ret (0 :: 1 :: (rl 3 50 []))))
    .skip)))) (2 :: 6 :: (rl 28 25 []))
  A31v1)
def A31v3 : AC := (.seq (.seq (.region 6 [mv 19 5, mv 20 3, mv 21 4, o1 22 (.indexAddr 23 22 1 (tm 20) (tm 21)), o1 23 (.load 22 none (tm 22)), o1 24 (.len 22 false (tm 23)), o1 25 (.binOp .lss 3 (tm 19) (tm 24) 3)] 0 none) []
  (.cond (tm 25)
  .skip
  (.exit 2 (0 :: 1 :: 2 :: (rl 5 48 []))))) (rl 19 7 [])
  A31v2)
def A31v4 : AC := (.region 4 [mv 17 4, o1 18 (.binOp .add 3 (tm 17) (ic 1) 3), o1 4 (.assign (tm 18))] 0 none)
def A31v5 : AC := (.seq (.block 1
  (.seq (.region 5 [o1 5 (.assign (ic 0))] 0 none) []
    (.block 2
    (.loop [] (0 :: 1 :: 2 :: (rl 6 47 []))
      A31v3)))) (2 :: 5 :: 6 :: (rl 19 34 []))
  A31v4)
def A31v6 : AC := (.seq (.seq (.region 3 [mv 13 4, mv 14 3, o1 15 (.len 23 false (tm 14)), o1 16 (.binOp .lss 3 (tm 13) (tm 15) 3)] 0 none) []
  (.cond (tm 16)
  .skip
  (.exit 0 (rl 0 53 [])))) (rl 13 4 [])
  A31v5)
def A31v7 : AC := (.seq (.region 11 [o1 2 (.assign (.const (.bool true)))] 0 none) []
  (.ret (0 :: 1 :: (rl 3 50 []))))
def A31 : AF := ⟨53, [.tmp 2],
  (.seq (.region 0 [o1 1 (.box 0 25 (tm 0)), o1 2 (.assign (.const (.bool false)))] 1 none) []
  (.seq (.region 1 [o1 7 (.fieldAddr 25 (tm 1) 0 0), o1 8 (.load 22 none (tm 7)), o1 9 (.buildSlice 0 23 22 (.pr (.sl (.pr (.int .i64) (.pr (.int .i64) .nil))) .nil) 1 [.c (.ro true .nil 0 (fun _ _ => .any))] [(0, (tm 8))]), o1 10 (.fieldAddr 25 (tm 1) 1 1), o1 11 (.load 23 none (tm 10)), o1 12 (.append 1 23 22 (.pr (.sl (.pr (.int .i64) (.pr (.int .i64) .nil))) .nil) 24 (tm 9) (tm 11)), o1 3 (.assign (tm 12))] 2 none) []
  (.seq (.seq (.region 2 [o1 4 (.assign (ic 0))] 0 none) []
  (.block 0
  (.loop [] (0 :: 1 :: 2 :: (rl 5 48 []))
    A31v6))) (2 :: 4 :: 5 :: 6 :: (rl 13 40 []))
  A31v7)))⟩
def B31v2 (C : Oracle) (fuel : Nat) {ρ : Type} : St → (Ex → St → Option ρ) → Option ρ := fun st k => evalC C fuel A31v3 st k
def N31v2 : St → Option St := fun s => s.norm (0 :: 1 :: 2 :: (rl 6 47 [])) 3
def s31v0 (x42 : Nat) (x43 : Int) (x44 : Int) (x45 : Nat) (x46 : Nat → Nat → CV) (x47 : Nat) (x48 : Nat → Nat → CV) (x49 : Nat → Nat → CV) : St := ⟨(us 3 (.x (.own 1 0 x42) :: .x (.c (.i .i64 x43)) :: .x (.c (.i .i64 x44)) :: (us 47 []))), [.box [(.c (.ro false (.pr (.int .i64) (.pr (.int .i64) .nil)) x45 x46)), (.c (.ro false (.pr (.sl (.pr (.int .i64) (.pr (.int .i64) .nil))) .nil) x47 x48))], .arr (.pr (.sl (.pr (.int .i64) (.pr (.int .i64) .nil))) .nil) x42 x49, .rsv]⟩
def s31v1 (x45 : Nat) (x46 : Nat → Nat → CV) (x47 : Nat) (x48 : Nat → Nat → CV) (x42 : Nat) (x49 : Nat → Nat → CV) (x50 : Int) (x51 : Int) : St := ⟨(.u :: .u :: .x (.c (.b false)) :: (us 50 [])), [.box [(.c (.ro false (.pr (.int .i64) (.pr (.int .i64) .nil)) x45 x46)), (.c (.ro false (.pr (.sl (.pr (.int .i64) (.pr (.int .i64) .nil))) .nil) x47 x48))], .arr (.pr (.sl (.pr (.int .i64) (.pr (.int .i64) .nil))) .nil) x42 x49, .rsv, .box [(.c (.i .i64 x50)), (.c (.i .i64 x51))]]⟩
def s31v2 (x42 : Nat) (x43 : Int) (x45 : Nat) (x46 : Nat → Nat → CV) (x47 : Nat) (x48 : Nat → Nat → CV) (x49 : Nat → Nat → CV) : St := ⟨(us 3 (.x (.own 1 0 x42) :: .x (.c (.i .i64 x43)) :: (us 48 []))), [.box [(.c (.ro false (.pr (.int .i64) (.pr (.int .i64) .nil)) x45 x46)), (.c (.ro false (.pr (.sl (.pr (.int .i64) (.pr (.int .i64) .nil))) .nil) x47 x48))], .arr (.pr (.sl (.pr (.int .i64) (.pr (.int .i64) .nil))) .nil) x42 x49, .rsv]⟩
def L31v2 {ρ : Type} (fuel : Nat) (x42 : Nat) (x43 : Int) (x45 : Nat) (x46 : Nat → Nat → CV) (x47 : Nat) (x48 : Nat → Nat → CV) (x49 : Nat → Nat → CV) : Nat → Int → (Int → Int → Option ρ) → (Option ρ) → Option ρ
  | 0, _, _, _ => none
  | m + 1, x44, k0, k1 =>
    (bif (inb x43 x42) then (bif (decide (x44 < (Int.ofNat (CV.len (x49 (0 + (Int.toNat x43)) 0))))) then (bif (inb x43 x42) then (bif (inb x44 (CV.len (x49 (0 + (Int.toNat x43)) 0))) then (bif ((decide ((CV.int ((CV.el (x49 (0 + (Int.toNat x43)) 0)) (Int.toNat x44) 0)) < (-32768))) == false) then (bif ((decide ((CV.int ((CV.el (x49 (0 + (Int.toNat x43)) 0)) (Int.toNat x44) 0)) > 32768)) == false) then (bif ((decide ((CV.int ((CV.el (x49 (0 + (Int.toNat x43)) 0)) (Int.toNat x44) 1)) < (-32768))) == false) then (bif (decide ((CV.int ((CV.el (x49 (0 + (Int.toNat x43)) 0)) (Int.toNat x44) 1)) > 32768)) then (k0 (CV.int ((CV.el (x49 (0 + (Int.toNat x43)) 0)) (Int.toNat x44) 0)) (CV.int ((CV.el (x49 (0 + (Int.toNat x43)) 0)) (Int.toNat x44) 1))) else (L31v2 fuel x42 x43 x45 x46 x47 x48 x49 m (w64 (x44 + 1)) k0 k1)) else (k0 (CV.int ((CV.el (x49 (0 + (Int.toNat x43)) 0)) (Int.toNat x44) 0)) (CV.int ((CV.el (x49 (0 + (Int.toNat x43)) 0)) (Int.toNat x44) 1)))) else (k0 (CV.int ((CV.el (x49 (0 + (Int.toNat x43)) 0)) (Int.toNat x44) 0)) (CV.int ((CV.el (x49 (0 + (Int.toNat x43)) 0)) (Int.toNat x44) 1)))) else (k0 (CV.int ((CV.el (x49 (0 + (Int.toNat x43)) 0)) (Int.toNat x44) 0)) (CV.int ((CV.el (x49 (0 + (Int.toNat x43)) 0)) (Int.toNat x44) 1)))) else none) else none) else k1) else none)
theorem nl31v2 {ρ σ : Type} (fuel : Nat) (x42 : Nat) (x43 : Int) (x45 : Nat) (x46 : Nat → Nat → CV) (x47 : Nat) (x48 : Nat → Nat → CV) (x49 : Nat → Nat → CV) (g : ρ → Option σ) : ∀ (m : Nat) (x44 : Int) (k0 : Int → Int → Option ρ) (k1 : Option ρ), ob (L31v2 fuel x42 x43 x45 x46 x47 x48 x49 m x44 k0 k1) g = L31v2 fuel x42 x43 x45 x46 x47 x48 x49 m x44 (fun x50 x51 => ob (k0 x50 x51) g) (ob k1 g)
  | 0, _, _, _ => rfl
  | m + 1, x44, k0, k1 => by
    simp only [L31v2, ob_bif, ob_ob, ob_none, nl31v2 fuel x42 x43 x45 x46 x47 x48 x49 g m]
theorem r31v2 (fuel : Nat) (m : Nat) {ρ : Type} (k : Ex → St → Option ρ) (x42 : Nat) (x43 : Int) (x45 : Nat) (x46 : Nat → Nat → CV) (x47 : Nat) (x48 : Nat → Nat → CV) (x49 : Nat → Nat → CV) (x44 : Int) :
    loopH (B31v2 (C71 fuel) fuel) N31v2 (m + 1) (s31v0 x42 x43 x44 x45 x46 x47 x48 x49) k =
    (bif (inb x43 x42) then (bif (decide (x44 < (Int.ofNat (CV.len (x49 (0 + (Int.toNat x43)) 0))))) then (bif (inb x43 x42) then (bif (inb x44 (CV.len (x49 (0 + (Int.toNat x43)) 0))) then (bif ((decide ((CV.int ((CV.el (x49 (0 + (Int.toNat x43)) 0)) (Int.toNat x44) 0)) < (-32768))) == false) then (bif ((decide ((CV.int ((CV.el (x49 (0 + (Int.toNat x43)) 0)) (Int.toNat x44) 0)) > 32768)) == false) then (bif ((decide ((CV.int ((CV.el (x49 (0 + (Int.toNat x43)) 0)) (Int.toNat x44) 1)) < (-32768))) == false) then (bif (decide ((CV.int ((CV.el (x49 (0 + (Int.toNat x43)) 0)) (Int.toNat x44) 1)) > 32768)) then (k .ret (s31v1 x45 x46 x47 x48 x42 x49 (CV.int ((CV.el (x49 (0 + (Int.toNat x43)) 0)) (Int.toNat x44) 0)) (CV.int ((CV.el (x49 (0 + (Int.toNat x43)) 0)) (Int.toNat x44) 1)))) else (loopH (B31v2 (C71 fuel) fuel) N31v2 m (s31v0 x42 x43 (w64 (x44 + 1)) x45 x46 x47 x48 x49) k)) else (k .ret (s31v1 x45 x46 x47 x48 x42 x49 (CV.int ((CV.el (x49 (0 + (Int.toNat x43)) 0)) (Int.toNat x44) 0)) (CV.int ((CV.el (x49 (0 + (Int.toNat x43)) 0)) (Int.toNat x44) 1))))) else (k .ret (s31v1 x45 x46 x47 x48 x42 x49 (CV.int ((CV.el (x49 (0 + (Int.toNat x43)) 0)) (Int.toNat x44) 0)) (CV.int ((CV.el (x49 (0 + (Int.toNat x43)) 0)) (Int.toNat x44) 1))))) else (k .ret (s31v1 x45 x46 x47 x48 x42 x49 (CV.int ((CV.el (x49 (0 + (Int.toNat x43)) 0)) (Int.toNat x44) 0)) (CV.int ((CV.el (x49 (0 + (Int.toNat x43)) 0)) (Int.toNat x44) 1))))) else none) else none) else (k (.exit 2) (s31v2 x42 x43 x45 x46 x47 x48 x49))) else none) := by kernel_rfl
theorem q31v2 (fuel : Nat) (x42 : Nat) (x43 : Int) (x45 : Nat) (x46 : Nat → Nat → CV) (x47 : Nat) (x48 : Nat → Nat → CV) (x49 : Nat → Nat → CV) {ρ : Type} (k : Ex → St → Option ρ) : ∀ (m : Nat) (x44 : Int),
    loopH (B31v2 (C71 fuel) fuel) N31v2 m (s31v0 x42 x43 x44 x45 x46 x47 x48 x49) k = L31v2 fuel x42 x43 x45 x46 x47 x48 x49 m x44 (fun x50 x51 => k .ret (s31v1 x45 x46 x47 x48 x42 x49 x50 x51)) (k (.exit 2) (s31v2 x42 x43 x45 x46 x47 x48 x49))
  | 0, _ => rfl
  | m + 1, x44 => by
    rw [r31v2]
    simp only [L31v2, q31v2 fuel x42 x43 x45 x46 x47 x48 x49 k m]
def B31v3 (C : Oracle) (fuel : Nat) {ρ : Type} : St → (Ex → St → Option ρ) → Option ρ := fun st k => evalC C fuel A31v6 st k
def N31v3 : St → Option St := fun s => s.norm (0 :: 1 :: 2 :: (rl 5 48 [])) 3
def s31v3 (x28 : Nat) (x29 : Int) (x30 : Nat) (x31 : Nat → Nat → CV) (x32 : Nat) (x33 : Nat → Nat → CV) (x34 : Nat → Nat → CV) : St := ⟨(us 3 (.x (.own 1 0 x28) :: .x (.c (.i .i64 x29)) :: (us 48 []))), [.box [(.c (.ro false (.pr (.int .i64) (.pr (.int .i64) .nil)) x30 x31)), (.c (.ro false (.pr (.sl (.pr (.int .i64) (.pr (.int .i64) .nil))) .nil) x32 x33))], .arr (.pr (.sl (.pr (.int .i64) (.pr (.int .i64) .nil))) .nil) x28 x34, .rsv]⟩
def s31v4 (x30 : Nat) (x31 : Nat → Nat → CV) (x32 : Nat) (x33 : Nat → Nat → CV) (x28 : Nat) (x34 : Nat → Nat → CV) (x54 : Int) (x55 : Int) : St := ⟨(.u :: .u :: .x (.c (.b false)) :: (us 50 [])), [.box [(.c (.ro false (.pr (.int .i64) (.pr (.int .i64) .nil)) x30 x31)), (.c (.ro false (.pr (.sl (.pr (.int .i64) (.pr (.int .i64) .nil))) .nil) x32 x33))], .arr (.pr (.sl (.pr (.int .i64) (.pr (.int .i64) .nil))) .nil) x28 x34, .rsv, .box [(.c (.i .i64 x54)), (.c (.i .i64 x55))]]⟩
def s31v5 (x30 : Nat) (x31 : Nat → Nat → CV) (x32 : Nat) (x33 : Nat → Nat → CV) (x28 : Nat) (x34 : Nat → Nat → CV) : St := ⟨(us 53 []), [.box [(.c (.ro false (.pr (.int .i64) (.pr (.int .i64) .nil)) x30 x31)), (.c (.ro false (.pr (.sl (.pr (.int .i64) (.pr (.int .i64) .nil))) .nil) x32 x33))], .arr (.pr (.sl (.pr (.int .i64) (.pr (.int .i64) .nil))) .nil) x28 x34, .rsv]⟩
def L31v3 {ρ : Type} (fuel : Nat) (x28 : Nat) (x30 : Nat) (x31 : Nat → Nat → CV) (x32 : Nat) (x33 : Nat → Nat → CV) (x34 : Nat → Nat → CV) : Nat → Int → (Int → Int → Option ρ) → (Option ρ) → Option ρ
  | 0, _, _, _ => none
  | m + 1, x29, k0, k1 =>
    (bif (decide (x29 < (Int.ofNat x28))) then (L31v2 fuel x28 x29 x30 x31 x32 x33 x34 fuel 0
    (fun x52 x53 => (k0 x52 x53))
    (L31v3 fuel x28 x30 x31 x32 x33 x34 m (w64 (x29 + 1)) k0 k1)) else k1)
theorem nl31v3 {ρ σ : Type} (fuel : Nat) (x28 : Nat) (x30 : Nat) (x31 : Nat → Nat → CV) (x32 : Nat) (x33 : Nat → Nat → CV) (x34 : Nat → Nat → CV) (g : ρ → Option σ) : ∀ (m : Nat) (x29 : Int) (k0 : Int → Int → Option ρ) (k1 : Option ρ), ob (L31v3 fuel x28 x30 x31 x32 x33 x34 m x29 k0 k1) g = L31v3 fuel x28 x30 x31 x32 x33 x34 m x29 (fun x54 x55 => ob (k0 x54 x55) g) (ob k1 g)
  | 0, _, _, _ => rfl
  | m + 1, x29, k0, k1 => by
    simp only [L31v3, ob_bif, ob_ob, ob_none, nl31v3 fuel x28 x30 x31 x32 x33 x34 g m, nl31v2]
def s31v6 (x28 : Nat) (x29 : Int) (x30 : Nat) (x31 : Nat → Nat → CV) (x32 : Nat) (x33 : Nat → Nat → CV) (x34 : Nat → Nat → CV) : St := ⟨(us 3 (.x (.own 1 0 x28) :: .x (.c (.i .i64 x29)) :: .x (.c (.i .i64 0)) :: (us 47 []))), [.box [(.c (.ro false (.pr (.int .i64) (.pr (.int .i64) .nil)) x30 x31)), (.c (.ro false (.pr (.sl (.pr (.int .i64) (.pr (.int .i64) .nil))) .nil) x32 x33))], .arr (.pr (.sl (.pr (.int .i64) (.pr (.int .i64) .nil))) .nil) x28 x34, .rsv]⟩
theorem r31v3 (fuel : Nat) (m : Nat) {ρ : Type} (k : Ex → St → Option ρ) (x28 : Nat) (x30 : Nat) (x31 : Nat → Nat → CV) (x32 : Nat) (x33 : Nat → Nat → CV) (x34 : Nat → Nat → CV) (x29 : Int) :
    loopH (B31v3 (C71 fuel) fuel) N31v3 (m + 1) (s31v3 x28 x29 x30 x31 x32 x33 x34) k =
    (bif (decide (x29 < (Int.ofNat x28))) then (loopN (B31v2 (C71 fuel) fuel) N31v2 fuel (s31v6 x28 x29 x30 x31 x32 x33 x34) (kBlk 2 (kBlk 1 (kSeq (C71 fuel) fuel (2 :: 5 :: 6 :: (rl 19 34 [])) A31v4 (kLoop (B31v3 (C71 fuel) fuel) N31v3 m k))))) else (k (.exit 0) (s31v5 x30 x31 x32 x33 x28 x34))) := by kernel_rfl
theorem t31v1 (fuel : Nat) {ρ : Type} (k : Ex → St → Option ρ) (x28 : Nat) (x29 : Int) (x30 : Nat) (x31 : Nat → Nat → CV) (x32 : Nat) (x33 : Nat → Nat → CV) (x34 : Nat → Nat → CV) :
    loopN (B31v2 (C71 fuel) fuel) N31v2 fuel (s31v6 x28 x29 x30 x31 x32 x33 x34) k =
    L31v2 fuel x28 x29 x30 x31 x32 x33 x34 fuel 0 (fun x50 x51 => k .ret (s31v1 x30 x31 x32 x33 x28 x34 x50 x51)) (k (.exit 2) (s31v2 x28 x29 x30 x31 x32 x33 x34)) :=
  (loopN_at (st' := (s31v0 x28 x29 0 x30 x31 x32 x33 x34)) (by kernel_rfl)).trans (q31v2 fuel x28 x29 x30 x31 x32 x33 x34 k fuel 0)
theorem g31v2 (fuel : Nat) (m : Nat) {ρ : Type} (k : Ex → St → Option ρ) (x30 : Nat) (x31 : Nat → Nat → CV) (x32 : Nat) (x33 : Nat → Nat → CV) (x28 : Nat) (x34 : Nat → Nat → CV) (x52 : Int) (x53 : Int) :
    (kBlk 2 (kBlk 1 (kSeq (C71 fuel) fuel (2 :: 5 :: 6 :: (rl 19 34 [])) A31v4 (kLoop (B31v3 (C71 fuel) fuel) N31v3 m k)))) .ret (s31v1 x30 x31 x32 x33 x28 x34 x52 x53) =
    (k .ret (s31v4 x30 x31 x32 x33 x28 x34 x52 x53)) := by kernel_rfl
theorem g31v3 (fuel : Nat) (m : Nat) {ρ : Type} (k : Ex → St → Option ρ) (x28 : Nat) (x29 : Int) (x30 : Nat) (x31 : Nat → Nat → CV) (x32 : Nat) (x33 : Nat → Nat → CV) (x34 : Nat → Nat → CV) :
    (kBlk 2 (kBlk 1 (kSeq (C71 fuel) fuel (2 :: 5 :: 6 :: (rl 19 34 [])) A31v4 (kLoop (B31v3 (C71 fuel) fuel) N31v3 m k)))) (.exit 2) (s31v2 x28 x29 x30 x31 x32 x33 x34) =
    (loopH (B31v3 (C71 fuel) fuel) N31v3 m (s31v3 x28 (w64 (x29 + 1)) x30 x31 x32 x33 x34) k) := by kernel_rfl
theorem q31v3 (fuel : Nat) (x28 : Nat) (x30 : Nat) (x31 : Nat → Nat → CV) (x32 : Nat) (x33 : Nat → Nat → CV) (x34 : Nat → Nat → CV) {ρ : Type} (k : Ex → St → Option ρ) : ∀ (m : Nat) (x29 : Int),
    loopH (B31v3 (C71 fuel) fuel) N31v3 m (s31v3 x28 x29 x30 x31 x32 x33 x34) k = L31v3 fuel x28 x30 x31 x32 x33 x34 m x29 (fun x54 x55 => k .ret (s31v4 x30 x31 x32 x33 x28 x34 x54 x55)) (k (.exit 0) (s31v5 x30 x31 x32 x33 x28 x34))
  | 0, _ => rfl
  | m + 1, x29 => by
    rw [r31v3]
    simp only [L31v3, q31v3 fuel x28 x30 x31 x32 x33 x34 k m, t31v1, g31v2, g31v3]
def D31 {ρ : Type} (fuel : Nat) (x1 : Nat) (x2 : Nat → Nat → CV) (x3 : Nat) (x4 : Nat → Nat → CV) (k : Bool → Option ρ) : Option ρ :=
  (bif (Nat.ble (1 + x3) 1073741824) then (L31v3 fuel (1 + x3) x1 x2 x3 x4 (joinF 1 (rowsF 1 [(.ro false (.pr (.int .i64) (.pr (.int .i64) .nil)) x1 x2)]) x4) fuel 0
    (fun x56 x57 => (k false))
    (k true)) else none)
def F31 (fuel : Nat) (x1 : Nat) (x2 : Nat → Nat → CV) (x3 : Nat) (x4 : Nat → Nat → CV) : Option (Bool) := D31 fuel x1 x2 x3 x4 some
theorem n31 {ρ σ : Type} (fuel : Nat) (x1 : Nat) (x2 : Nat → Nat → CV) (x3 : Nat) (x4 : Nat → Nat → CV) (k : (Bool) → Option ρ) (g : ρ → Option σ) : ob (D31 fuel x1 x2 x3 x4 k) g = D31 fuel x1 x2 x3 x4 fun t => ob (k t) g := by
  simp only [D31, ob_bif, ob_ob, ob_none, nl31v3]
theorem f31 {ρ : Type} (fuel : Nat) (x1 : Nat) (x2 : Nat → Nat → CV) (x3 : Nat) (x4 : Nat → Nat → CV) (k : (Bool) → Option ρ) : D31 fuel x1 x2 x3 x4 k = ob (F31 fuel x1 x2 x3 x4) k := by
  unfold F31
  rw [n31]
  simp only [ob_some]
def s31v7 (x1 : Nat) (x2 : Nat → Nat → CV) (x3 : Nat) (x4 : Nat → Nat → CV) : St := ⟨[.agg [(.c (.ro false (.pr (.int .i64) (.pr (.int .i64) .nil)) x1 x2)), (.c (.ro false (.pr (.sl (.pr (.int .i64) (.pr (.int .i64) .nil))) .nil) x3 x4))], .x (.ptr 0 0), .x (.c (.b false)), .x (.own 1 0 (1 + x3)), .x (.c (.i .i64 0)), .undef, .undef, .x (.ptr 0 0), .x (.c (.ro false (.pr (.int .i64) (.pr (.int .i64) .nil)) x1 x2)), .x .u, .x (.ptr 0 1), .x (.c (.ro false (.pr (.sl (.pr (.int .i64) (.pr (.int .i64) .nil))) .nil) x3 x4)), .x (.own 1 0 (1 + x3)), .undef, .undef, .undef, .undef, .undef, .undef, .undef, .undef, .undef, .undef, .undef, .undef, .undef, .undef, .undef, .undef, .undef, .undef, .undef, .undef, .undef, .undef, .undef, .undef, .undef, .undef, .undef, .undef, .undef, .undef, .undef, .undef, .undef, .undef, .undef, .undef, .undef, .undef, .undef, .undef], [.box [(.c (.ro false (.pr (.int .i64) (.pr (.int .i64) .nil)) x1 x2)), (.c (.ro false (.pr (.sl (.pr (.int .i64) (.pr (.int .i64) .nil))) .nil) x3 x4))], .arr (.pr (.sl (.pr (.int .i64) (.pr (.int .i64) .nil))) .nil) (1 + x3) (joinF 1 (rowsF 1 [(.ro false (.pr (.int .i64) (.pr (.int .i64) .nil)) x1 x2)]) x4), .rsv]⟩
theorem walk31 (fuel : Nat) (x1 : Nat) (x2 : Nat → Nat → CV) (x3 : Nat) (x4 : Nat → Nat → CV) :
    evalF (C71 fuel) fuel A31 [.agg [(.ro false (.pr (.int .i64) (.pr (.int .i64) .nil)) x1 x2), (.ro false (.pr (.sl (.pr (.int .i64) (.pr (.int .i64) .nil))) .nil) x3 x4)]] =
    (bif (Nat.ble (1 + x3) 1073741824) then (loopN (B31v3 (C71 fuel) fuel) N31v3 fuel (s31v7 x1 x2 x3 x4) (kBlk 0 (kSeq (C71 fuel) fuel (2 :: 4 :: 5 :: 6 :: (rl 13 40 [])) A31v7 (finish A31)))) else none) := by kernel_rfl
theorem t31v4 (fuel : Nat) {ρ : Type} (k : Ex → St → Option ρ) (x1 : Nat) (x2 : Nat → Nat → CV) (x3 : Nat) (x4 : Nat → Nat → CV) :
    loopN (B31v3 (C71 fuel) fuel) N31v3 fuel (s31v7 x1 x2 x3 x4) k =
    L31v3 fuel (1 + x3) x1 x2 x3 x4 (joinF 1 (rowsF 1 [(.ro false (.pr (.int .i64) (.pr (.int .i64) .nil)) x1 x2)]) x4) fuel 0 (fun x54 x55 => k .ret (s31v4 x1 x2 x3 x4 (1 + x3) (joinF 1 (rowsF 1 [(.ro false (.pr (.int .i64) (.pr (.int .i64) .nil)) x1 x2)]) x4) x54 x55)) (k (.exit 0) (s31v5 x1 x2 x3 x4 (1 + x3) (joinF 1 (rowsF 1 [(.ro false (.pr (.int .i64) (.pr (.int .i64) .nil)) x1 x2)]) x4))) :=
  (loopN_at (st' := (s31v3 (1 + x3) 0 x1 x2 x3 x4 (joinF 1 (rowsF 1 [(.ro false (.pr (.int .i64) (.pr (.int .i64) .nil)) x1 x2)]) x4))) (by kernel_rfl)).trans (q31v3 fuel (1 + x3) x1 x2 x3 x4 (joinF 1 (rowsF 1 [(.ro false (.pr (.int .i64) (.pr (.int .i64) .nil)) x1 x2)]) x4) k fuel 0)
theorem g31v5 (fuel : Nat) (x1 : Nat) (x2 : Nat → Nat → CV) (x3 : Nat) (x4 : Nat → Nat → CV) (x56 : Int) (x57 : Int) :
    (kBlk 0 (kSeq (C71 fuel) fuel (2 :: 4 :: 5 :: 6 :: (rl 13 40 [])) A31v7 (finish A31))) .ret (s31v4 x1 x2 x3 x4 (1 + x3) (joinF 1 (rowsF 1 [(.ro false (.pr (.int .i64) (.pr (.int .i64) .nil)) x1 x2)]) x4) x56 x57) =
    (some [.v (.b false)]) := by kernel_rfl
theorem g31v6 (fuel : Nat) (x1 : Nat) (x2 : Nat → Nat → CV) (x3 : Nat) (x4 : Nat → Nat → CV) :
    (kBlk 0 (kSeq (C71 fuel) fuel (2 :: 4 :: 5 :: 6 :: (rl 13 40 [])) A31v7 (finish A31))) (.exit 0) (s31v5 x1 x2 x3 x4 (1 + x3) (joinF 1 (rowsF 1 [(.ro false (.pr (.int .i64) (.pr (.int .i64) .nil)) x1 x2)]) x4)) =
    (some [.v (.b true)]) := by kernel_rfl
theorem e31 (fuel : Nat) (x1 : Nat) (x2 : Nat → Nat → CV) (x3 : Nat) (x4 : Nat → Nat → CV) : evalF (C71 fuel) fuel A31 [.agg [(.ro false (.pr (.int .i64) (.pr (.int .i64) .nil)) x1 x2), (.ro false (.pr (.sl (.pr (.int .i64) (.pr (.int .i64) .nil))) .nil) x3 x4)]] = ob (F31 fuel x1 x2 x3 x4) fun t => some [.v (.b t)] := by
  rw [walk31, ← f31]
  simp only [D31, t31v4, g31v5, g31v6]
def O31 (fuel : Nat) : Ora where
  o := fun args {ρ} K =>
    wc args fun a1 l2 =>
    wagg a1 fun l3 =>
    wc l3 fun c4 l5 =>
    wL (.pr (.int .i64) (.pr (.int .i64) .nil)) c4 fun y6 y7 =>
    wc l5 fun c9 l10 =>
    wL (.pr (.sl (.pr (.int .i64) (.pr (.int .i64) .nil))) .nil) c9 fun y11 y12 =>
    wn l10 <|
    wn l2 <|
    (ob (F31 fuel y6 y7 y11 y12) fun t => K [.v (.b t)])
  nat := fun args {ρ} K => by
    simp only [bind_wc, bind_wn, bind_wv, bind_wagg, bind_wI, bind_wB, bind_wS, bind_wL, bind_wP, bind_wFn, bind_ob, Option.bind_some]
theorem d31 {P : Program} (fuel : Nat) (hmix : P.follows .mixedOrders = true) (hC : Sound P (C71 fuel)) (hF : FFits P 31 A31) (args res : List A) (h : (O31 fuel).o args some = some res) : Den P 31 args res := by
  obtain ⟨a1, l2, rfl, z0⟩ := inv_wc h
  obtain ⟨l3, rfl, z1⟩ := inv_wagg z0
  obtain ⟨c4, l5, rfl, z2⟩ := inv_wc z1
  obtain ⟨y6, y7, h8, z3⟩ := inv_wL z2
  obtain ⟨c9, l10, rfl, z4⟩ := inv_wc z3
  obtain ⟨y11, y12, h13, z5⟩ := inv_wL z4
  obtain ⟨hn, z6⟩ := inv_wn z5
  cases hn
  obtain ⟨hn, z7⟩ := inv_wn z6
  cases hn
  exact Den.weaken (.cons (WkA.agg (.cons h8 (.cons h13 .nil))) .nil) (evalF_sound hmix hC hF ((e31 fuel y6 y7 y11 y12).trans z7))
def C72 (fuel : Nat) : Oracle := (C71 fuel).add 31 (fun _ => true) (O31 fuel)
def A9v1 : AC := (.seq (.region 6 [o1 69 (.load 25 (some 2) (tm 7)), o1 70 (.call 13 [(tm 69)] [25] .snap), o1 71 (.load 25 (some 2) (tm 3)), o1 72 (.call 13 [(tm 71)] [25] .snap), o1 73 (.binOp .eql 27 (tm 70) (tm 72) 27), mv 74 73, og 75 (.load 25 (some 2) (tm 7)) 74 true, og 76 (.call 18 [(tm 75)] [25] .snap) 74 true, og 77 (.load 25 (some 2) (tm 3)) 74 true, og 78 (.call 18 [(tm 77)] [25] .snap) 74 true, og 79 (.binOp .eql 3 (tm 76) (tm 78) 3) 74 true, o1 80 (.pick (tm 74) (tm 79) (.const (.bool false))), mv 81 80, og 82 (.load 25 (some 2) (tm 7)) 81 true, og 83 (.load 34 (some 2) (tm 5)) 81 true, og 84 (.load 41 (some 5) (tm 4)) 81 true, og 85 (.call 32 [(tm 83), (tm 84)] [34, 41] .snap) 81 true, og 86 (.call 22 [(tm 82), (tm 85)] [25, 34] .snap) 81 true, og 87 (.load 25 (some 2) (tm 3)) 81 true, og 88 (.load 34 (some 2) (tm 5)) 81 true, og 89 (.call 22 [(tm 87), (tm 88)] [25, 34] .snap) 81 true, og 90 (.binOp .eql 3 (tm 86) (tm 89) 3) 81 true, o1 91 (.pick (tm 81) (tm 90) (.const (.bool false))), mv 92 91, og 93 (.call 15 [] [] .snap) 92 true, o1 94 (.pick (tm 92) (tm 93) (.const (.bool false))), o1 6 (.assign (tm 94))] 0 (some [[], [0], [], [0, 1, 2], (rl 0 4 []), (rl 0 5 []), (rl 0 6 []), (rl 0 7 []), (rl 0 6 []), (rl 0 9 []), (rl 0 10 []), (rl 0 11 []), (rl 0 12 []), (rl 0 13 []), (rl 0 13 []), (rl 0 13 []), (rl 0 13 [14, 15]), (rl 0 17 []), (rl 0 13 []), (rl 0 13 []), (rl 0 20 []), (rl 0 21 []), (rl 0 22 []), (rl 0 23 []), (rl 0 24 []), (rl 0 25 []), (rl 0 26 [])])) []
  (.ret (rl 0 6 (rl 7 88 []))))
def A9v2 : AC := (.seq (.region 3 [o1 33 (.load 25 (some 2) (tm 3)), o1 34 (.load 41 (some 5) (tm 4)), o1 35 (.call 25 [(tm 33), (tm 34)] [25, 41] .freeze), o1 7 (.alloc 0 25 [.c (.ro true .nil 0 (fun _ _ => .any)), .c (.ro true .nil 0 (fun _ _ => .any))]), o0 (.store 25 2 (tm 7) (tm 35))] 1 none) []
  (.seq (.seq (.region 4 [o1 36 (.load 25 (some 2) (tm 7)), o1 37 (.call 31 [(tm 36)] [25] .snap), o1 38 (.unOp .not 4 (tm 37)), mv 39 38, og 40 (.fieldAddr 25 (tm 7) 0 0) 39 false, og 41 (.load 22 none (tm 40)) 39 false, og 42 (.len 22 false (tm 41)) 39 false, og 43 (.fieldAddr 25 (tm 3) 0 0) 39 false, og 44 (.load 22 none (tm 43)) 39 false, og 45 (.len 22 false (tm 44)) 39 false, og 46 (.binOp .neq 3 (tm 42) (tm 45) 3) 39 false, o1 47 (.pick (tm 39) (.const (.bool true)) (tm 46)), mv 48 47, og 49 (.fieldAddr 25 (tm 7) 1 1) 48 false, og 50 (.load 23 none (tm 49)) 48 false, og 51 (.len 23 false (tm 50)) 48 false, og 52 (.fieldAddr 25 (tm 3) 1 1) 48 false, og 53 (.load 23 none (tm 52)) 48 false, og 54 (.len 23 false (tm 53)) 48 false, og 55 (.binOp .neq 3 (tm 51) (tm 54) 3) 48 false, o1 56 (.pick (tm 48) (.const (.bool true)) (tm 55))] 0 none) []
  (.cond (tm 56)
  (.seq (.region 5 [o1 57 (.fieldAddr 41 (tm 4) 1 1), o1 58 (.load 34 (some 2) (tm 57)), o1 59 (.build 34 [.c (.i .i64 0), .c (.i .i64 0)] [(0, 1), (1, 1)] 0 []), o1 60 (.eqA true (.pr (.int .i64) (.pr (.int .i64) .nil)) 34 (tm 58) (tm 59) 34), mv 61 60, og 62 (.load 25 (some 2) (tm 7)) 61 false, og 63 (.call 31 [(tm 62)] [25] .snap) 61 false, og 64 (.unOp .not 4 (tm 63)) 61 false, o1 65 (.pick (tm 61) (.const (.bool true)) (tm 64)), mv 66 65, og 67 (.call 15 [] [] .snap) 66 true, o1 68 (.pick (tm 66) (tm 67) (.const (.bool false))), o1 6 (.assign (tm 68))] 0 none) []
    (.ret (rl 0 6 (rl 7 88 []))))
  .skip)) (6 :: (rl 36 33 []))
  A9v1))
def A9 : AF := ⟨95, [.tmp 6],
  (.seq (.region 0 [o1 3 (.box 0 25 (tm 0)), o1 4 (.box 1 41 (tm 1)), o1 5 (.box 2 34 (tm 2)), o1 6 (.assign (.const (.bool false)))] 3 none) []
  (.seq (.seq (.region 1 [o1 8 (.load 25 (some 2) (tm 3)), o1 9 (.call 12 [(tm 8)] [25] .snap), mv 10 9, og 11 (.fieldAddr 41 (tm 4) 2 3) 10 false, og 12 (.load 3 none (tm 11)) 10 false, og 13 (.binOp .lss 3 (tm 12) (ic 0) 3) 10 false, o1 14 (.pick (tm 10) (.const (.bool true)) (tm 13)), mv 15 14, og 16 (.fieldAddr 41 (tm 4) 2 3) 15 false, og 17 (.load 3 none (tm 16)) 15 false, og 18 (.binOp .gtr 3 (tm 17) (ic 3) 3) 15 false, o1 19 (.pick (tm 15) (.const (.bool true)) (tm 18)), mv 20 19, og 21 (.load 25 (some 2) (tm 3)) 20 false, og 22 (.call 31 [(tm 21)] [25] .snap) 20 false, og 23 (.unOp .not 4 (tm 22)) 20 false, o1 24 (.pick (tm 20) (.const (.bool true)) (tm 23)), mv 25 24, og 26 (.load 34 (some 2) (tm 5)) 25 false, og 27 (.buildSlice 0 22 34 (.pr (.int .i64) (.pr (.int .i64) .nil)) 1 [.c (.i .i64 0), .c (.i .i64 0)] [(0, (tm 26))]) 25 false, og 28 (.build 25 [.c (.ro true .nil 0 (fun _ _ => .any)), .c (.ro true .nil 0 (fun _ _ => .any))] [(0, 1), (1, 1)] 0 [(0, (tm 27))]) 25 false, og 29 (.call 31 [(tm 28)] [25] .snap) 25 false, og 30 (.unOp .not 4 (tm 29)) 25 false, o1 31 (.pick (tm 25) (.const (.bool true)) (tm 30))] 1 none) []
  (.cond (tm 31)
  (.seq (.region 2 [o1 32 (.call 15 [] [] .snap), o1 6 (.assign (tm 32))] 0 none) []
    (.ret (rl 0 6 (rl 7 88 []))))
  .skip)) (6 :: (rl 8 25 []))
  A9v2))⟩
def D9 {ρ : Type} (fuel : Nat) (x1 : Nat) (x2 : Nat → Nat → CV) (x3 : Nat) (x4 : Nat → Nat → CV) (x5 : ByteArray) (x6 : Int) (x7 : Int) (x8 : Int) (x9 : Bool) (x10 : Int) (x11 : Int) (k : Bool → Option ρ) : Option ρ :=
  (ob (F12 fuel x1 x2 x3 x4) fun x12 => (bif (x12 == false) then (bif ((decide (x8 < 0)) == false) then (bif ((decide (x8 > 3)) == false) then (ob (F31 fuel x1 x2 x3 x4) fun x13 => (bif ((!x13) == false) then (ob (F31 fuel 1 (rowsF 2 [(.i .i64 x10), (.i .i64 x11)]) 0 (fun _ _ => .any)) fun x14 => (bif (!x14) then (ob (F15 fuel) fun x15 => (k x15)) else (ob (F25 fuel x1 x2 x3 x4 x5 x6 x7 x8 x9) fun x16 => (ob (F31 fuel x16.1 x16.2.1 x16.2.2.1 x16.2.2.2) fun x17 => (bif ((!x17) == false) then (bif (((Int.ofNat x16.1) != (Int.ofNat x1)) == false) then (bif ((Int.ofNat x16.2.2.1) != (Int.ofNat x3)) then (bif ((!((x6 == 0) && ((x7 == 0) && true))) == false) then (ob (F31 fuel x16.1 x16.2.1 x16.2.2.1 x16.2.2.2) fun x18 => (bif ((!x18) == true) then (ob (F15 fuel) fun x19 => (k x19)) else (k false))) else (ob (F15 fuel) fun x20 => (k x20))) else (ob (F13 fuel x16.1 x16.2.1 x16.2.2.1 x16.2.2.2) fun x21 => (ob (F13 fuel x1 x2 x3 x4) fun x22 => (bif ((x21 == x22) == true) then (ob (F18 fuel x16.1 x16.2.1 x16.2.2.1 x16.2.2.2) fun x23 => (ob (F18 fuel x1 x2 x3 x4) fun x24 => (bif ((x23 == x24) == true) then (ob (F32 fuel x10 x11 x5 x6 x7 x8 x9) fun x25 => (ob (F22 fuel x16.1 x16.2.1 x16.2.2.1 x16.2.2.2 x25.1 x25.2) fun x26 => (ob (F22 fuel x1 x2 x3 x4 x10 x11) fun x27 => (bif ((x26 == x27) == true) then (ob (F15 fuel) fun x28 => (k x28)) else (k false))))) else (k false)))) else (k false))))) else (bif ((!((x6 == 0) && ((x7 == 0) && true))) == false) then (ob (F31 fuel x16.1 x16.2.1 x16.2.2.1 x16.2.2.2) fun x29 => (bif ((!x29) == true) then (ob (F15 fuel) fun x30 => (k x30)) else (k false))) else (ob (F15 fuel) fun x31 => (k x31)))) else (bif ((!((x6 == 0) && ((x7 == 0) && true))) == false) then (ob (F31 fuel x16.1 x16.2.1 x16.2.2.1 x16.2.2.2) fun x32 => (bif ((!x32) == true) then (ob (F15 fuel) fun x33 => (k x33)) else (k false))) else (ob (F15 fuel) fun x34 => (k x34)))))))) else (ob (F15 fuel) fun x35 => (k x35)))) else (ob (F15 fuel) fun x36 => (k x36))) else (ob (F15 fuel) fun x37 => (k x37))) else (ob (F15 fuel) fun x38 => (k x38))))
def F9 (fuel : Nat) (x1 : Nat) (x2 : Nat → Nat → CV) (x3 : Nat) (x4 : Nat → Nat → CV) (x5 : ByteArray) (x6 : Int) (x7 : Int) (x8 : Int) (x9 : Bool) (x10 : Int) (x11 : Int) : Option (Bool) := D9 fuel x1 x2 x3 x4 x5 x6 x7 x8 x9 x10 x11 some
theorem n9 {ρ σ : Type} (fuel : Nat) (x1 : Nat) (x2 : Nat → Nat → CV) (x3 : Nat) (x4 : Nat → Nat → CV) (x5 : ByteArray) (x6 : Int) (x7 : Int) (x8 : Int) (x9 : Bool) (x10 : Int) (x11 : Int) (k : (Bool) → Option ρ) (g : ρ → Option σ) : ob (D9 fuel x1 x2 x3 x4 x5 x6 x7 x8 x9 x10 x11 k) g = D9 fuel x1 x2 x3 x4 x5 x6 x7 x8 x9 x10 x11 fun t => ob (k t) g := by
  simp only [D9, ob_bif, ob_ob, ob_none]
theorem f9 {ρ : Type} (fuel : Nat) (x1 : Nat) (x2 : Nat → Nat → CV) (x3 : Nat) (x4 : Nat → Nat → CV) (x5 : ByteArray) (x6 : Int) (x7 : Int) (x8 : Int) (x9 : Bool) (x10 : Int) (x11 : Int) (k : (Bool) → Option ρ) : D9 fuel x1 x2 x3 x4 x5 x6 x7 x8 x9 x10 x11 k = ob (F9 fuel x1 x2 x3 x4 x5 x6 x7 x8 x9 x10 x11) k := by
  unfold F9
  rw [n9]
  simp only [ob_some]
theorem walk9 (fuel : Nat) (x1 : Nat) (x2 : Nat → Nat → CV) (x3 : Nat) (x4 : Nat → Nat → CV) (x5 : ByteArray) (x6 : Int) (x7 : Int) (x8 : Int) (x9 : Bool) (x10 : Int) (x11 : Int) :
    evalF (C72 fuel) fuel A9 [.agg [(.ro false (.pr (.int .i64) (.pr (.int .i64) .nil)) x1 x2), (.ro false (.pr (.sl (.pr (.int .i64) (.pr (.int .i64) .nil))) .nil) x3 x4)], .agg [(.s x5), (.i .i64 x6), (.i .i64 x7), (.i .i64 x8), (.b x9)], .agg [(.i .i64 x10), (.i .i64 x11)]] =
    (ob (F12 fuel x1 x2 x3 x4) fun x12 => (bif (x12 == false) then (bif ((decide (x8 < 0)) == false) then (bif ((decide (x8 > 3)) == false) then (ob (F31 fuel x1 x2 x3 x4) fun x13 => (bif ((!x13) == false) then (ob (F31 fuel 1 (rowsF 2 [(.i .i64 x10), (.i .i64 x11)]) 0 (fun _ _ => .any)) fun x14 => (bif (!x14) then (ob (F15 fuel) fun x15 => (some [.v (.b x15)])) else (ob (F25 fuel x1 x2 x3 x4 x5 x6 x7 x8 x9) fun x16 => (ob (F31 fuel x16.1 x16.2.1 x16.2.2.1 x16.2.2.2) fun x17 => (bif ((!x17) == false) then (bif (((Int.ofNat x16.1) != (Int.ofNat x1)) == false) then (bif ((Int.ofNat x16.2.2.1) != (Int.ofNat x3)) then (bif ((!((x6 == 0) && ((x7 == 0) && true))) == false) then (ob (F31 fuel x16.1 x16.2.1 x16.2.2.1 x16.2.2.2) fun x18 => (bif ((!x18) == true) then (ob (F15 fuel) fun x19 => (some [.v (.b x19)])) else (some [.v (.b false)]))) else (ob (F15 fuel) fun x20 => (some [.v (.b x20)]))) else (ob (F13 fuel x16.1 x16.2.1 x16.2.2.1 x16.2.2.2) fun x21 => (ob (F13 fuel x1 x2 x3 x4) fun x22 => (bif ((x21 == x22) == true) then (ob (F18 fuel x16.1 x16.2.1 x16.2.2.1 x16.2.2.2) fun x23 => (ob (F18 fuel x1 x2 x3 x4) fun x24 => (bif ((x23 == x24) == true) then (ob (F32 fuel x10 x11 x5 x6 x7 x8 x9) fun x25 => (ob (F22 fuel x16.1 x16.2.1 x16.2.2.1 x16.2.2.2 x25.1 x25.2) fun x26 => (ob (F22 fuel x1 x2 x3 x4 x10 x11) fun x27 => (bif ((x26 == x27) == true) then (ob (F15 fuel) fun x28 => (some [.v (.b x28)])) else (some [.v (.b false)]))))) else (some [.v (.b false)])))) else (some [.v (.b false)]))))) else (bif ((!((x6 == 0) && ((x7 == 0) && true))) == false) then (ob (F31 fuel x16.1 x16.2.1 x16.2.2.1 x16.2.2.2) fun x29 => (bif ((!x29) == true) then (ob (F15 fuel) fun x30 => (some [.v (.b x30)])) else (some [.v (.b false)]))) else (ob (F15 fuel) fun x31 => (some [.v (.b x31)])))) else (bif ((!((x6 == 0) && ((x7 == 0) && true))) == false) then (ob (F31 fuel x16.1 x16.2.1 x16.2.2.1 x16.2.2.2) fun x32 => (bif ((!x32) == true) then (ob (F15 fuel) fun x33 => (some [.v (.b x33)])) else (some [.v (.b false)]))) else (ob (F15 fuel) fun x34 => (some [.v (.b x34)])))))))) else (ob (F15 fuel) fun x35 => (some [.v (.b x35)])))) else (ob (F15 fuel) fun x36 => (some [.v (.b x36)]))) else (ob (F15 fuel) fun x37 => (some [.v (.b x37)]))) else (ob (F15 fuel) fun x38 => (some [.v (.b x38)])))) := by kernel_rfl
theorem e9 (fuel : Nat) (x1 : Nat) (x2 : Nat → Nat → CV) (x3 : Nat) (x4 : Nat → Nat → CV) (x5 : ByteArray) (x6 : Int) (x7 : Int) (x8 : Int) (x9 : Bool) (x10 : Int) (x11 : Int) : evalF (C72 fuel) fuel A9 [.agg [(.ro false (.pr (.int .i64) (.pr (.int .i64) .nil)) x1 x2), (.ro false (.pr (.sl (.pr (.int .i64) (.pr (.int .i64) .nil))) .nil) x3 x4)], .agg [(.s x5), (.i .i64 x6), (.i .i64 x7), (.i .i64 x8), (.b x9)], .agg [(.i .i64 x10), (.i .i64 x11)]] = ob (F9 fuel x1 x2 x3 x4 x5 x6 x7 x8 x9 x10 x11) fun t => some [.v (.b t)] := by
  rw [walk9, ← f9]
  simp only [D9]
def O9 (fuel : Nat) : Ora where
  o := fun args {ρ} K =>
    wc args fun a1 l2 =>
    wagg a1 fun l3 =>
    wc l3 fun c4 l5 =>
    wL (.pr (.int .i64) (.pr (.int .i64) .nil)) c4 fun y6 y7 =>
    wc l5 fun c9 l10 =>
    wL (.pr (.sl (.pr (.int .i64) (.pr (.int .i64) .nil))) .nil) c9 fun y11 y12 =>
    wn l10 <|
    wc l2 fun a14 l15 =>
    wagg a14 fun l16 =>
    wc l16 fun c17 l18 =>
    wS c17 fun y19 =>
    wc l18 fun c21 l22 =>
    wI .i64 c21 fun y23 =>
    wc l22 fun c25 l26 =>
    wI .i64 c25 fun y27 =>
    wc l26 fun c29 l30 =>
    wI .i64 c29 fun y31 =>
    wc l30 fun c33 l34 =>
    wB c33 fun y35 =>
    wn l34 <|
    wc l15 fun a37 l38 =>
    wagg a37 fun l39 =>
    wc l39 fun c40 l41 =>
    wI .i64 c40 fun y42 =>
    wc l41 fun c44 l45 =>
    wI .i64 c44 fun y46 =>
    wn l45 <|
    wn l38 <|
    (ob (F9 fuel y6 y7 y11 y12 y19 y23 y27 y31 y35 y42 y46) fun t => K [.v (.b t)])
  nat := fun args {ρ} K => by
    simp only [bind_wc, bind_wn, bind_wv, bind_wagg, bind_wI, bind_wB, bind_wS, bind_wL, bind_wP, bind_wFn, bind_ob, Option.bind_some]
theorem d9 {P : Program} (fuel : Nat) (hmix : P.follows .mixedOrders = true) (hC : Sound P (C72 fuel)) (hF : FFits P 9 A9) (args res : List A) (h : (O9 fuel).o args some = some res) : Den P 9 args res := by
  obtain ⟨a1, l2, rfl, z0⟩ := inv_wc h
  obtain ⟨l3, rfl, z1⟩ := inv_wagg z0
  obtain ⟨c4, l5, rfl, z2⟩ := inv_wc z1
  obtain ⟨y6, y7, h8, z3⟩ := inv_wL z2
  obtain ⟨c9, l10, rfl, z4⟩ := inv_wc z3
  obtain ⟨y11, y12, h13, z5⟩ := inv_wL z4
  obtain ⟨hn, z6⟩ := inv_wn z5
  cases hn
  obtain ⟨a14, l15, rfl, z7⟩ := inv_wc z6
  obtain ⟨l16, rfl, z8⟩ := inv_wagg z7
  obtain ⟨c17, l18, rfl, z9⟩ := inv_wc z8
  obtain ⟨y19, h20, z10⟩ := inv_wS z9
  obtain ⟨c21, l22, rfl, z11⟩ := inv_wc z10
  obtain ⟨y23, h24, z12⟩ := inv_wI z11
  obtain ⟨c25, l26, rfl, z13⟩ := inv_wc z12
  obtain ⟨y27, h28, z14⟩ := inv_wI z13
  obtain ⟨c29, l30, rfl, z15⟩ := inv_wc z14
  obtain ⟨y31, h32, z16⟩ := inv_wI z15
  obtain ⟨c33, l34, rfl, z17⟩ := inv_wc z16
  obtain ⟨y35, h36, z18⟩ := inv_wB z17
  obtain ⟨hn, z19⟩ := inv_wn z18
  cases hn
  obtain ⟨a37, l38, rfl, z20⟩ := inv_wc z19
  obtain ⟨l39, rfl, z21⟩ := inv_wagg z20
  obtain ⟨c40, l41, rfl, z22⟩ := inv_wc z21
  obtain ⟨y42, h43, z23⟩ := inv_wI z22
  obtain ⟨c44, l45, rfl, z24⟩ := inv_wc z23
  obtain ⟨y46, h47, z25⟩ := inv_wI z24
  obtain ⟨hn, z26⟩ := inv_wn z25
  cases hn
  obtain ⟨hn, z27⟩ := inv_wn z26
  cases hn
  exact Den.weaken (.cons (WkA.agg (.cons h8 (.cons h13 .nil))) (.cons (WkA.agg (.cons (Wk.s h20) (.cons (Wk.i h24) (.cons (Wk.i h28) (.cons (Wk.i h32) (.cons (Wk.b h36) .nil)))))) (.cons (WkA.agg (.cons (Wk.i h43) (.cons (Wk.i h47) .nil))) .nil))) (evalF_sound hmix hC hF ((e9 fuel y6 y7 y11 y12 y19 y23 y27 y31 y35 y42 y46).trans z27))
def C73 (fuel : Nat) : Oracle := (C72 fuel).add 9 (fun _ => true) (O9 fuel)
end Go.Eng.R13
