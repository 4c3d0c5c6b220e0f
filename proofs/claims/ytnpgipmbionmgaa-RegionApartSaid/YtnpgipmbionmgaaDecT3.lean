/-
  The functions of the program, run on symbols; printed by decomp.py.
-/
import Derived.Test.YtnpgipmbionmgaaDecT2
set_option linter.all false
set_option maxRecDepth 1000000
set_option maxHeartbeats 4000000
namespace Go.Eng.R13
open Go Go.RowKit Go.Eng
/-- shipyard/shipyardlaw13.alive -/
def A15v1 : AC := (.seq (.region 7 [o1 54 (.load 25 (some 2) (tm 1)), o1 55 (.build 34 [.c (.i .i64 0), .c (.i .i64 0)] [(0, 1), (1, 1)] 0 [(0, (ic 3)), (1, (ic 3))]), o1 56 (.call 22 [(tm 54), (tm 55)] [25, 34] .snap), o1 57 (.binOp .eql 3 (tm 56) (ic (-1)) 3), mv 58 57, og 59 (.load 25 (some 2) (tm 1)) 58 true, og 60 (.build 34 [.c (.i .i64 0), .c (.i .i64 0)] [(0, 1), (1, 1)] 0 [(0, (ic 2)), (1, (ic 3))]) 58 true, og 61 (.call 22 [(tm 59), (tm 60)] [25, 34] .snap) 58 true, og 62 (.binOp .eql 3 (tm 61) (ic 0) 3) 58 true, o1 63 (.pick (tm 58) (tm 62) (.const (.bool false))), mv 64 63, og 65 (.load 25 (some 2) (tm 1)) 64 true, og 66 (.build 34 [.c (.i .i64 0), .c (.i .i64 0)] [(0, 1), (1, 1)] 0 [(0, (ic 1)), (1, (ic 1))]) 64 true, og 67 (.call 22 [(tm 65), (tm 66)] [25, 34] .snap) 64 true, og 68 (.binOp .eql 3 (tm 67) (ic 1) 3) 64 true, o1 69 (.pick (tm 64) (tm 68) (.const (.bool false))), mv 70 69, og 71 (.load 25 (some 2) (tm 2)) 70 true, og 72 (.load 25 (some 2) (tm 3)) 70 true, og 73 (.call 27 [(tm 71), (tm 72), (ic 5)] [25, 25, 3] .snap) 70 true, o1 74 (.pick (tm 70) (tm 73) (.const (.bool false))), mv 75 74, og 76 (.load 25 (some 2) (tm 2)) 75 true, og 77 (.load 25 (some 2) (tm 3)) 75 true, og 78 (.call 27 [(tm 76), (tm 77), (ic 6)] [25, 25, 3] .snap) 75 true, og 79 (.unOp .not 4 (tm 78)) 75 true, o1 80 (.pick (tm 75) (tm 79) (.const (.bool false))), mv 81 80, og 82 (.load 25 (some 2) (tm 2)) 81 true, og 83 (.call 29 [(tm 82), (ic 12), (ic 13), (ic 0)] [25, 3, 3, 3] .snap) 81 true, o1 84 (.pick (tm 81) (tm 83) (.const (.bool false))), mv 85 84, og 86 (.load 25 (some 2) (tm 2)) 85 true, og 87 (.call 29 [(tm 86), (ic 12), (ic 13), (ic 1)] [25, 3, 3, 3] .snap) 85 true, og 88 (.unOp .not 4 (tm 87)) 85 true, o1 89 (.pick (tm 85) (tm 88) (.const (.bool false))), mv 90 89, og 91 (.load 25 (some 2) (tm 3)) 90 true, og 92 (.call 20 [(tm 91)] [25] .snap) 90 true, og 93 (.build 34 [.c (.i .i64 0), .c (.i .i64 0)] [(0, 1), (1, 1)] 0 [(0, (ic 15))]) 90 true, og 94 (.build 34 [.c (.i .i64 0), .c (.i .i64 0)] [(0, 1), (1, 1)] 0 [(0, (ic 20)), (1, (ic 5))]) 90 true, og 95 (.build 36 [.c (.i .i64 0), .c (.i .i64 0), .c (.i .i64 0), .c (.i .i64 0)] [(0, 2), (2, 2)] 0 [(0, (tm 93)), (1, (tm 94))]) 90 true, og 96 (.eqA false (.pr (.int .i64) (.pr (.int .i64) (.pr (.int .i64) (.pr (.int .i64) .nil)))) 36 (tm 92) (tm 95) 36) 90 true, o1 97 (.pick (tm 90) (tm 96) (.const (.bool false))), o1 0 (.assign (tm 97))] 0 none) []
  (.ret (rl 1 97 [])))
def A15 : AF := ⟨98, [.tmp 0],
  (.seq (.region 0 [o1 0 (.assign (.const (.bool false)))] 0 none) []
  (.seq (.region 1 [o1 7 (.call 41 [(ic 0), (ic 0), (ic 10)] [3, 3, 3] .freeze), o1 8 (.build 34 [.c (.i .i64 0), .c (.i .i64 0)] [(0, 1), (1, 1)] 0 [(0, (ic 2)), (1, (ic 2))]), o1 9 (.build 34 [.c (.i .i64 0), .c (.i .i64 0)] [(0, 1), (1, 1)] 0 [(0, (ic 2)), (1, (ic 4))]), o1 10 (.build 34 [.c (.i .i64 0), .c (.i .i64 0)] [(0, 1), (1, 1)] 0 [(0, (ic 4)), (1, (ic 4))]), o1 11 (.build 34 [.c (.i .i64 0), .c (.i .i64 0)] [(0, 1), (1, 1)] 0 [(0, (ic 4)), (1, (ic 2))]), o1 12 (.buildSlice 0 22 34 (.pr (.int .i64) (.pr (.int .i64) .nil)) 4 [.c (.i .i64 0), .c (.i .i64 0)] [(0, (tm 8)), (1, (tm 9)), (2, (tm 10)), (3, (tm 11))]), o1 13 (.buildSlice 1 23 22 (.pr (.sl (.pr (.int .i64) (.pr (.int .i64) .nil))) .nil) 1 [.c (.ro true .nil 0 (fun _ _ => .any))] [(0, (tm 12))]), o1 14 (.build 25 [.c (.ro true .nil 0 (fun _ _ => .any)), .c (.ro true .nil 0 (fun _ _ => .any))] [(0, 1), (1, 1)] 0 [(0, (tm 7)), (1, (tm 13))]), o1 1 (.alloc 2 25 [.c (.ro true .nil 0 (fun _ _ => .any)), .c (.ro true .nil 0 (fun _ _ => .any))]), o0 (.store 25 2 (tm 1) (tm 14))] 3 none) []
  (.seq (.region 2 [o1 15 (.call 41 [(ic 0), (ic 0), (ic 10)] [3, 3, 3] .freeze), o1 16 (.build 25 [.c (.ro true .nil 0 (fun _ _ => .any)), .c (.ro true .nil 0 (fun _ _ => .any))] [(0, 1), (1, 1)] 0 [(0, (tm 15))]), o1 17 (.call 41 [(ic 15), (ic 0), (ic 5)] [3, 3, 3] .freeze), o1 18 (.build 25 [.c (.ro true .nil 0 (fun _ _ => .any)), .c (.ro true .nil 0 (fun _ _ => .any))] [(0, 1), (1, 1)] 0 [(0, (tm 17))]), o1 2 (.alloc 0 25 [.c (.ro true .nil 0 (fun _ _ => .any)), .c (.ro true .nil 0 (fun _ _ => .any))]), o1 3 (.alloc 1 25 [.c (.ro true .nil 0 (fun _ _ => .any)), .c (.ro true .nil 0 (fun _ _ => .any))]), o0 (.store 25 2 (tm 2) (tm 16)), o0 (.store 25 2 (tm 3) (tm 18))] 2 none) []
  (.seq (.region 3 [o1 19 (.build 34 [.c (.i .i64 0), .c (.i .i64 0)] [(0, 1), (1, 1)] 0 [(0, (ic 3)), (1, (ic 1))]), o1 20 (.buildSlice 0 22 34 (.pr (.int .i64) (.pr (.int .i64) .nil)) 1 [.c (.i .i64 0), .c (.i .i64 0)] [(0, (tm 19))]), o1 21 (.build 25 [.c (.ro true .nil 0 (fun _ _ => .any)), .c (.ro true .nil 0 (fun _ _ => .any))] [(0, 1), (1, 1)] 0 [(0, (tm 20))]), o1 22 (.build 34 [.c (.i .i64 0), .c (.i .i64 0)] [(0, 1), (1, 1)] 0 [(0, (ic 10))]), o1 23 (.build 41 [.c (.s ByteArray.empty), .c (.i .i64 0), .c (.i .i64 0), .c (.i .i64 0), .c (.b false)] [(0, 1), (1, 2), (3, 1), (4, 1)] 0 [(1, (tm 22)), (2, (ic 1)), (3, (.const (.bool true)))]), o1 24 (.call 25 [(tm 21), (tm 23)] [25, 41] .freeze), o1 4 (.alloc 1 25 [.c (.ro true .nil 0 (fun _ _ => .any)), .c (.ro true .nil 0 (fun _ _ => .any))]), o0 (.store 25 2 (tm 4) (tm 24))] 2 none) []
  (.seq (.region 4 [o1 26 (.load 25 (some 2) (tm 2)), o1 27 (.call 16 [(tm 26)] [25] .snap), mv 25 27, o1 28 (.extract (tm 25) 0), o1 29 (.extract (tm 25) 1), o1 5 (.assign (tm 28)), o1 6 (.assign (tm 29))] 0 none) []
  (.seq (.seq (.region 5 [o1 30 (.load 25 (some 2) (tm 1)), o1 31 (.call 13 [(tm 30)] [25] .snap), o1 32 (.binOp .neq 27 (tm 31) (ic 0) 27), mv 33 32, og 34 (.load 25 (some 2) (tm 1)) 33 false, og 35 (.call 18 [(tm 34)] [25] .snap) 33 false, og 36 (.binOp .neq 3 (tm 35) (ic 192) 3) 33 false, o1 37 (.pick (tm 33) (.const (.bool true)) (tm 36)), mv 38 37, og 39 (.move (tm 5)) 38 false, og 40 (.binOp .neq 3 (tm 39) (ic 3000) 3) 38 false, o1 41 (.pick (tm 38) (.const (.bool true)) (tm 40)), mv 42 41, og 43 (.move (tm 6)) 42 false, og 44 (.binOp .neq 3 (tm 43) (ic 3000) 3) 42 false, o1 45 (.pick (tm 42) (.const (.bool true)) (tm 44)), mv 46 45, og 47 (.load 25 (some 2) (tm 4)) 46 false, og 48 (.build 34 [.c (.i .i64 0), .c (.i .i64 0)] [(0, 1), (1, 1)] 0 [(0, (ic 9)), (1, (ic (-3)))]) 46 false, og 49 (.buildSlice 0 22 34 (.pr (.int .i64) (.pr (.int .i64) .nil)) 1 [.c (.i .i64 0), .c (.i .i64 0)] [(0, (tm 48))]) 46 false, og 50 (.build 25 [.c (.ro true .nil 0 (fun _ _ => .any)), .c (.ro true .nil 0 (fun _ _ => .any))] [(0, 1), (1, 1)] 0 [(0, (tm 49))]) 46 false, og 51 (.call 24 [(tm 47), (tm 50)] [25, 25] .snap) 46 false, og 52 (.unOp .not 4 (tm 51)) 46 false, o1 53 (.pick (tm 46) (.const (.bool true)) (tm 52))] 1 none) []
  (.cond (tm 53)
  (.seq (.region 6 [o1 0 (.assign (.const (.bool false)))] 0 none) []
    (.ret (rl 1 97 [])))
  .skip)) (0 :: (rl 30 24 []))
  A15v1))))))⟩

def D15 {ρ : Type} (fuel : Nat) (k : Bool → Option ρ) : Option ρ :=
  (ob (F41 fuel 0 0 10) fun x1 => (ob (F41 fuel 0 0 10) fun x2 => (ob (F41 fuel 15 0 5) fun x3 => (ob (F25 fuel 1 (rowsF 2 [(.i .i64 3), (.i .i64 1)]) 0 (fun _ _ => .any) ByteArray.empty 10 0 1 true) fun x4 => (ob (F16 fuel x2.1 x2.2 0 (fun _ _ => .any)) fun x5 => (ob (F13 fuel x1.1 x1.2 1 (rowsF 1 [(.ro false (.pr (.int .i64) (.pr (.int .i64) .nil)) 4 (rowsF 2 [(.i .i64 2), (.i .i64 2), (.i .i64 2), (.i .i64 4), (.i .i64 4), (.i .i64 4), (.i .i64 4), (.i .i64 2)]))])) fun x6 => (bif ((x6 != 0) == false) then (ob (F18 fuel x1.1 x1.2 1 (rowsF 1 [(.ro false (.pr (.int .i64) (.pr (.int .i64) .nil)) 4 (rowsF 2 [(.i .i64 2), (.i .i64 2), (.i .i64 2), (.i .i64 4), (.i .i64 4), (.i .i64 4), (.i .i64 4), (.i .i64 2)]))])) fun x7 => (bif ((x7 != 192) == false) then (bif ((x5.1 != 3000) == false) then (bif ((x5.2 != 3000) == false) then (ob (F24 fuel x4.1 x4.2.1 x4.2.2.1 x4.2.2.2 1 (rowsF 2 [(.i .i64 9), (.i .i64 (-3))]) 0 (fun _ _ => .any)) fun x8 => (bif (!x8) then (k false) else (ob (F22 fuel x1.1 x1.2 1 (rowsF 1 [(.ro false (.pr (.int .i64) (.pr (.int .i64) .nil)) 4 (rowsF 2 [(.i .i64 2), (.i .i64 2), (.i .i64 2), (.i .i64 4), (.i .i64 4), (.i .i64 4), (.i .i64 4), (.i .i64 2)]))]) 3 3) fun x9 => (bif ((x9 == (-1)) == true) then (ob (F22 fuel x1.1 x1.2 1 (rowsF 1 [(.ro false (.pr (.int .i64) (.pr (.int .i64) .nil)) 4 (rowsF 2 [(.i .i64 2), (.i .i64 2), (.i .i64 2), (.i .i64 4), (.i .i64 4), (.i .i64 4), (.i .i64 4), (.i .i64 2)]))]) 2 3) fun x10 => (bif ((x10 == 0) == true) then (ob (F22 fuel x1.1 x1.2 1 (rowsF 1 [(.ro false (.pr (.int .i64) (.pr (.int .i64) .nil)) 4 (rowsF 2 [(.i .i64 2), (.i .i64 2), (.i .i64 2), (.i .i64 4), (.i .i64 4), (.i .i64 4), (.i .i64 4), (.i .i64 2)]))]) 1 1) fun x11 => (bif ((x11 == 1) == true) then (ob (F27 fuel x2.1 x2.2 0 (fun _ _ => .any) x3.1 x3.2 0 (fun _ _ => .any) 5) fun x12 => (bif (x12 == true) then (ob (F27 fuel x2.1 x2.2 0 (fun _ _ => .any) x3.1 x3.2 0 (fun _ _ => .any) 6) fun x13 => (bif ((!x13) == true) then (ob (F29 fuel x2.1 x2.2 0 (fun _ _ => .any) 12 13 0) fun x14 => (bif (x14 == true) then (ob (F29 fuel x2.1 x2.2 0 (fun _ _ => .any) 12 13 1) fun x15 => (bif ((!x15) == true) then (ob (F20 fuel x3.1 x3.2 0 (fun _ _ => .any)) fun x16 => (k ((x16.1 == 15) && ((x16.2.1 == 0) && ((x16.2.2.1 == 20) && ((x16.2.2.2 == 5) && true)))))) else (k false))) else (k false))) else (k false))) else (k false))) else (k false))) else (k false))) else (k false))))) else (k false)) else (k false)) else (k false))) else (k false))))))))

def F15 (fuel : Nat) : Option (Bool) := D15 fuel some

theorem n15 {ρ σ : Type} (fuel : Nat) (k : (Bool) → Option ρ) (g : ρ → Option σ) : ob (D15 fuel k) g = D15 fuel fun t => ob (k t) g := by
  simp only [D15, ob_bif, ob_ob, ob_none]

theorem f15 {ρ : Type} (fuel : Nat) (k : (Bool) → Option ρ) : D15 fuel k = ob (F15 fuel) k := by
  unfold F15
  rw [n15]
  simp only [ob_some]

theorem walk15 (fuel : Nat) :
    evalF (C67 fuel) fuel A15 [] =
    (ob (F41 fuel 0 0 10) fun x1 => (ob (F41 fuel 0 0 10) fun x2 => (ob (F41 fuel 15 0 5) fun x3 => (ob (F25 fuel 1 (rowsF 2 [(.i .i64 3), (.i .i64 1)]) 0 (fun _ _ => .any) ByteArray.empty 10 0 1 true) fun x4 => (ob (F16 fuel x2.1 x2.2 0 (fun _ _ => .any)) fun x5 => (ob (F13 fuel x1.1 x1.2 1 (rowsF 1 [(.ro false (.pr (.int .i64) (.pr (.int .i64) .nil)) 4 (rowsF 2 [(.i .i64 2), (.i .i64 2), (.i .i64 2), (.i .i64 4), (.i .i64 4), (.i .i64 4), (.i .i64 4), (.i .i64 2)]))])) fun x6 => (bif ((x6 != 0) == false) then (ob (F18 fuel x1.1 x1.2 1 (rowsF 1 [(.ro false (.pr (.int .i64) (.pr (.int .i64) .nil)) 4 (rowsF 2 [(.i .i64 2), (.i .i64 2), (.i .i64 2), (.i .i64 4), (.i .i64 4), (.i .i64 4), (.i .i64 4), (.i .i64 2)]))])) fun x7 => (bif ((x7 != 192) == false) then (bif ((x5.1 != 3000) == false) then (bif ((x5.2 != 3000) == false) then (ob (F24 fuel x4.1 x4.2.1 x4.2.2.1 x4.2.2.2 1 (rowsF 2 [(.i .i64 9), (.i .i64 (-3))]) 0 (fun _ _ => .any)) fun x8 => (bif (!x8) then (some [.v (.b false)]) else (ob (F22 fuel x1.1 x1.2 1 (rowsF 1 [(.ro false (.pr (.int .i64) (.pr (.int .i64) .nil)) 4 (rowsF 2 [(.i .i64 2), (.i .i64 2), (.i .i64 2), (.i .i64 4), (.i .i64 4), (.i .i64 4), (.i .i64 4), (.i .i64 2)]))]) 3 3) fun x9 => (bif ((x9 == (-1)) == true) then (ob (F22 fuel x1.1 x1.2 1 (rowsF 1 [(.ro false (.pr (.int .i64) (.pr (.int .i64) .nil)) 4 (rowsF 2 [(.i .i64 2), (.i .i64 2), (.i .i64 2), (.i .i64 4), (.i .i64 4), (.i .i64 4), (.i .i64 4), (.i .i64 2)]))]) 2 3) fun x10 => (bif ((x10 == 0) == true) then (ob (F22 fuel x1.1 x1.2 1 (rowsF 1 [(.ro false (.pr (.int .i64) (.pr (.int .i64) .nil)) 4 (rowsF 2 [(.i .i64 2), (.i .i64 2), (.i .i64 2), (.i .i64 4), (.i .i64 4), (.i .i64 4), (.i .i64 4), (.i .i64 2)]))]) 1 1) fun x11 => (bif ((x11 == 1) == true) then (ob (F27 fuel x2.1 x2.2 0 (fun _ _ => .any) x3.1 x3.2 0 (fun _ _ => .any) 5) fun x12 => (bif (x12 == true) then (ob (F27 fuel x2.1 x2.2 0 (fun _ _ => .any) x3.1 x3.2 0 (fun _ _ => .any) 6) fun x13 => (bif ((!x13) == true) then (ob (F29 fuel x2.1 x2.2 0 (fun _ _ => .any) 12 13 0) fun x14 => (bif (x14 == true) then (ob (F29 fuel x2.1 x2.2 0 (fun _ _ => .any) 12 13 1) fun x15 => (bif ((!x15) == true) then (ob (F20 fuel x3.1 x3.2 0 (fun _ _ => .any)) fun x16 => (some [.v (.b ((x16.1 == 15) && ((x16.2.1 == 0) && ((x16.2.2.1 == 20) && ((x16.2.2.2 == 5) && true)))))])) else (some [.v (.b false)]))) else (some [.v (.b false)]))) else (some [.v (.b false)]))) else (some [.v (.b false)]))) else (some [.v (.b false)]))) else (some [.v (.b false)]))) else (some [.v (.b false)]))))) else (some [.v (.b false)])) else (some [.v (.b false)])) else (some [.v (.b false)]))) else (some [.v (.b false)])))))))) := by kernel_rfl

theorem e15 (fuel : Nat) : evalF (C67 fuel) fuel A15 [] = ob (F15 fuel) fun t => some [.v (.b t)] := by
  rw [walk15, ← f15]
  simp only [D15]

def O15 (fuel : Nat) : Ora where
  o := fun args {ρ} K =>
    wn args <|
    (ob (F15 fuel) fun t => K [.v (.b t)])
  nat := fun args {ρ} K => by
    simp only [bind_wc, bind_wn, bind_wv, bind_wagg, bind_wI, bind_wB, bind_wS, bind_wL, bind_wP, bind_wFn, bind_ob, Option.bind_some]

theorem d15 {P : Program} (fuel : Nat) (hmix : P.follows .mixedOrders = true) (hC : Sound P (C67 fuel)) (hF : FFits P 15 A15) (args res : List A) (h : (O15 fuel).o args some = some res) : Den P 15 args res := by
  obtain ⟨hn, z0⟩ := inv_wn h
  cases hn
  exact Den.weaken .nil (evalF_sound hmix hC hF ((e15 fuel).trans z0))

def C68 (fuel : Nat) : Oracle := (C67 fuel).add 15 (fun _ => true) (O15 fuel)

/-- shipyard/shipyardref13.Where -/
def A23v1 : AC := (.seq (.block 1
  (.region 7 [mv 21 5, o1 22 (.fieldAddr 25 (tm 2) 1 1), o1 23 (.load 23 none (tm 22)), mv 24 6, o1 25 (.indexAddr 23 22 1 (tm 23) (tm 24)), o1 26 (.load 22 none (tm 25)), o1 27 (.load 34 (some 2) (tm 3)), o1 28 (.call 40 [(tm 26), (tm 27)] [22, 34] .snap), o1 29 (.unOp .neg 3 (tm 28)), o1 30 (.mm false [(tm 21), (tm 29)] [3, 3]), o1 5 (.assign (tm 30))] 0 (some [[], [], [1], [], [1, 2, 3], (rl 1 4 []), [], (rl 1 6 []), (rl 1 7 []), (rl 0 9 []), (rl 0 10 [])]))) []
  (.region 6 [mv 19 6, o1 20 (.binOp .add 3 (tm 19) (ic 1) 3), o1 6 (.assign (tm 20))] 0 none))
def A23v2 : AC := (.seq (.seq (.region 5 [mv 14 6, o1 15 (.fieldAddr 25 (tm 2) 1 1), o1 16 (.load 23 none (tm 15)), o1 17 (.len 23 false (tm 16)), o1 18 (.binOp .lss 3 (tm 14) (tm 17) 3)] 0 none) []
  (.cond (tm 18)
  .skip
  (.exit 0 (rl 0 5 (rl 6 26 []))))) (rl 14 5 [])
  A23v1)
def A23v3 : AC := (.seq (.region 8 [mv 31 5, o1 4 (.assign (tm 31))] 0 none) []
  (.ret (rl 0 4 (rl 5 27 []))))
def A23v4 : AC := (.seq (.region 3 [o1 10 (.fieldAddr 25 (tm 2) 0 0), o1 11 (.load 22 none (tm 10)), o1 12 (.load 34 (some 2) (tm 3)), o1 13 (.call 40 [(tm 11), (tm 12)] [22, 34] .snap), o1 5 (.assign (tm 13))] 0 none) []
  (.seq (.seq (.region 4 [o1 6 (.assign (ic 0))] 0 none) []
  (.block 0
  (.loop [] (0 :: 1 :: 4 :: (rl 7 25 []))
    A23v2))) (6 :: (rl 14 17 []))
  A23v3))
def A23 : AF := ⟨32, [.tmp 4],
  (.seq (.region 0 [o1 2 (.box 0 25 (tm 0)), o1 3 (.box 1 34 (tm 1)), o1 4 (.assign (ic 0))] 2 none) []
  (.seq (.seq (.region 1 [o1 7 (.load 25 (some 2) (tm 2)), o1 8 (.call 14 [(tm 7)] [25] .snap), o1 9 (.binOp .neq 27 (tm 8) (ic 0) 27)] 0 none) []
  (.cond (tm 9)
  (.seq (.region 2 [o1 4 (.assign (ic (-1)))] 0 none) []
    (.ret (rl 0 4 (rl 5 27 []))))
  .skip)) [4, 7, 8, 9]
  A23v4))⟩

def B23v1 (C : Oracle) (fuel : Nat) {ρ : Type} : St → (Ex → St → Option ρ) → Option ρ := fun st k => evalC C fuel A23v2 st k
def N23v1 : St → Option St := fun s => s.norm (0 :: 1 :: 4 :: (rl 7 25 [])) 2

def s23v0 (x17 : Int) (x18 : Int) (x19 : Nat) (x20 : Nat → Nat → CV) (x21 : Nat) (x22 : Nat → Nat → CV) (x23 : Int) (x24 : Int) : St := ⟨(.u :: .u :: .x (.ptr 0 0) :: .x (.ptr 1 0) :: .u :: .x (.c (.i .i64 x17)) :: .x (.c (.i .i64 x18)) :: (us 25 [])), [.box [(.c (.ro false (.pr (.int .i64) (.pr (.int .i64) .nil)) x19 x20)), (.c (.ro false (.pr (.sl (.pr (.int .i64) (.pr (.int .i64) .nil))) .nil) x21 x22))], .box [(.c (.i .i64 x23)), (.c (.i .i64 x24))]]⟩

def s23v1 (x26 : Int) (x19 : Nat) (x20 : Nat → Nat → CV) (x21 : Nat) (x22 : Nat → Nat → CV) (x23 : Int) (x24 : Int) : St := ⟨(us 5 (.x (.c (.i .i64 x26)) :: (us 26 []))), [.box [(.c (.ro false (.pr (.int .i64) (.pr (.int .i64) .nil)) x19 x20)), (.c (.ro false (.pr (.sl (.pr (.int .i64) (.pr (.int .i64) .nil))) .nil) x21 x22))], .box [(.c (.i .i64 x23)), (.c (.i .i64 x24))]]⟩

def L23v1 {ρ : Type} (fuel : Nat) (x19 : Nat) (x20 : Nat → Nat → CV) (x21 : Nat) (x22 : Nat → Nat → CV) (x23 : Int) (x24 : Int) : Nat → Int → Int → (Int → Option ρ) → Option ρ
  | 0, _, _, _ => none
  | m + 1, x17, x18, k0 =>
    (bif (decide (x18 < (Int.ofNat x21))) then (bif (inb x18 x21) then (ob (F40 fuel (CV.len (x22 (Int.toNat x18) 0)) (CV.el (x22 (Int.toNat x18) 0)) x23 x24) fun x25 => (L23v1 fuel x19 x20 x21 x22 x23 x24 m (if (w64 (0 - x25)) < x17 then (w64 (0 - x25)) else x17) (w64 (x18 + 1)) k0)) else none) else (k0 x17))

theorem nl23v1 {ρ σ : Type} (fuel : Nat) (x19 : Nat) (x20 : Nat → Nat → CV) (x21 : Nat) (x22 : Nat → Nat → CV) (x23 : Int) (x24 : Int) (g : ρ → Option σ) : ∀ (m : Nat) (x17 : Int) (x18 : Int) (k0 : Int → Option ρ), ob (L23v1 fuel x19 x20 x21 x22 x23 x24 m x17 x18 k0) g = L23v1 fuel x19 x20 x21 x22 x23 x24 m x17 x18 (fun x26 => ob (k0 x26) g)
  | 0, _, _, _ => rfl
  | m + 1, x17, x18, k0 => by
    simp only [L23v1, ob_bif, ob_ob, ob_none, nl23v1 fuel x19 x20 x21 x22 x23 x24 g m]

theorem r23v1 (fuel : Nat) (m : Nat) {ρ : Type} (k : Ex → St → Option ρ) (x19 : Nat) (x20 : Nat → Nat → CV) (x21 : Nat) (x22 : Nat → Nat → CV) (x23 : Int) (x24 : Int) (x17 : Int) (x18 : Int) :
    loopH (B23v1 (C68 fuel) fuel) N23v1 (m + 1) (s23v0 x17 x18 x19 x20 x21 x22 x23 x24) k =
    (bif (decide (x18 < (Int.ofNat x21))) then (bif (inb x18 x21) then (ob (F40 fuel (CV.len (x22 (Int.toNat x18) 0)) (CV.el (x22 (Int.toNat x18) 0)) x23 x24) fun x25 => (loopH (B23v1 (C68 fuel) fuel) N23v1 m (s23v0 (if (w64 (0 - x25)) < x17 then (w64 (0 - x25)) else x17) (w64 (x18 + 1)) x19 x20 x21 x22 x23 x24) k)) else none) else (k (.exit 0) (s23v1 x17 x19 x20 x21 x22 x23 x24))) := by kernel_rfl

theorem q23v1 (fuel : Nat) (x19 : Nat) (x20 : Nat → Nat → CV) (x21 : Nat) (x22 : Nat → Nat → CV) (x23 : Int) (x24 : Int) {ρ : Type} (k : Ex → St → Option ρ) : ∀ (m : Nat) (x17 : Int) (x18 : Int),
    loopH (B23v1 (C68 fuel) fuel) N23v1 m (s23v0 x17 x18 x19 x20 x21 x22 x23 x24) k = L23v1 fuel x19 x20 x21 x22 x23 x24 m x17 x18 (fun x26 => k (.exit 0) (s23v1 x26 x19 x20 x21 x22 x23 x24))
  | 0, _, _ => rfl
  | m + 1, x17, x18 => by
    rw [r23v1]
    simp only [L23v1, q23v1 fuel x19 x20 x21 x22 x23 x24 k m]

def D23 {ρ : Type} (fuel : Nat) (x1 : Nat) (x2 : Nat → Nat → CV) (x3 : Nat) (x4 : Nat → Nat → CV) (x5 : Int) (x6 : Int) (k : Int → Option ρ) : Option ρ :=
  (ob (F14 fuel x1 x2 x3 x4) fun x7 => (bif (x7 != 0) then (k (-1)) else (ob (F40 fuel x1 x2 x5 x6) fun x8 => (L23v1 fuel x1 x2 x3 x4 x5 x6 fuel x8 0
    (fun x27 => (k x27))))))

def F23 (fuel : Nat) (x1 : Nat) (x2 : Nat → Nat → CV) (x3 : Nat) (x4 : Nat → Nat → CV) (x5 : Int) (x6 : Int) : Option (Int) := D23 fuel x1 x2 x3 x4 x5 x6 some

theorem n23 {ρ σ : Type} (fuel : Nat) (x1 : Nat) (x2 : Nat → Nat → CV) (x3 : Nat) (x4 : Nat → Nat → CV) (x5 : Int) (x6 : Int) (k : (Int) → Option ρ) (g : ρ → Option σ) : ob (D23 fuel x1 x2 x3 x4 x5 x6 k) g = D23 fuel x1 x2 x3 x4 x5 x6 fun t => ob (k t) g := by
  simp only [D23, ob_bif, ob_ob, ob_none, nl23v1]

theorem f23 {ρ : Type} (fuel : Nat) (x1 : Nat) (x2 : Nat → Nat → CV) (x3 : Nat) (x4 : Nat → Nat → CV) (x5 : Int) (x6 : Int) (k : (Int) → Option ρ) : D23 fuel x1 x2 x3 x4 x5 x6 k = ob (F23 fuel x1 x2 x3 x4 x5 x6) k := by
  unfold F23
  rw [n23]
  simp only [ob_some]

def s23v2 (x1 : Nat) (x2 : Nat → Nat → CV) (x3 : Nat) (x4 : Nat → Nat → CV) (x5 : Int) (x6 : Int) (x8 : Int) : St := ⟨(.agg [(.c (.ro false (.pr (.int .i64) (.pr (.int .i64) .nil)) x1 x2)), (.c (.ro false (.pr (.sl (.pr (.int .i64) (.pr (.int .i64) .nil))) .nil) x3 x4))] :: .agg [(.c (.i .i64 x5)), (.c (.i .i64 x6))] :: .x (.ptr 0 0) :: .x (.ptr 1 0) :: .u :: .x (.c (.i .i64 x8)) :: .x (.c (.i .i64 0)) :: (us 3 [.x (.ptr 0 0), .x (.c (.ro false (.pr (.int .i64) (.pr (.int .i64) .nil)) x1 x2)), .agg [(.c (.i .i64 x5)), (.c (.i .i64 x6))], .x (.c (.i .i64 x8)), .undef, .undef, .undef, .undef, .undef, .undef, .undef, .undef, .undef, .undef, .undef, .undef, .undef, .undef, .undef, .undef, .undef, .undef])), [.box [(.c (.ro false (.pr (.int .i64) (.pr (.int .i64) .nil)) x1 x2)), (.c (.ro false (.pr (.sl (.pr (.int .i64) (.pr (.int .i64) .nil))) .nil) x3 x4))], .box [(.c (.i .i64 x5)), (.c (.i .i64 x6))]]⟩

theorem walk23 (fuel : Nat) (x1 : Nat) (x2 : Nat → Nat → CV) (x3 : Nat) (x4 : Nat → Nat → CV) (x5 : Int) (x6 : Int) :
    evalF (C68 fuel) fuel A23 [.agg [(.ro false (.pr (.int .i64) (.pr (.int .i64) .nil)) x1 x2), (.ro false (.pr (.sl (.pr (.int .i64) (.pr (.int .i64) .nil))) .nil) x3 x4)], .agg [(.i .i64 x5), (.i .i64 x6)]] =
    (ob (F14 fuel x1 x2 x3 x4) fun x7 => (bif (x7 != 0) then (some [.v (.i .i64 (-1))]) else (ob (F40 fuel x1 x2 x5 x6) fun x8 => (loopN (B23v1 (C68 fuel) fuel) N23v1 fuel (s23v2 x1 x2 x3 x4 x5 x6 x8) (kBlk 0 (kSeq (C68 fuel) fuel (6 :: (rl 14 17 [])) A23v3 (finish A23))))))) := by kernel_rfl

theorem t23v1 (fuel : Nat) {ρ : Type} (k : Ex → St → Option ρ) (x1 : Nat) (x2 : Nat → Nat → CV) (x3 : Nat) (x4 : Nat → Nat → CV) (x5 : Int) (x6 : Int) (x8 : Int) :
    loopN (B23v1 (C68 fuel) fuel) N23v1 fuel (s23v2 x1 x2 x3 x4 x5 x6 x8) k =
    L23v1 fuel x1 x2 x3 x4 x5 x6 fuel x8 0 (fun x26 => k (.exit 0) (s23v1 x26 x1 x2 x3 x4 x5 x6)) :=
  (loopN_at (st' := (s23v0 x8 0 x1 x2 x3 x4 x5 x6)) (by kernel_rfl)).trans (q23v1 fuel x1 x2 x3 x4 x5 x6 k fuel x8 0)

theorem g23v2 (fuel : Nat) (x27 : Int) (x1 : Nat) (x2 : Nat → Nat → CV) (x3 : Nat) (x4 : Nat → Nat → CV) (x5 : Int) (x6 : Int) :
    (kBlk 0 (kSeq (C68 fuel) fuel (6 :: (rl 14 17 [])) A23v3 (finish A23))) (.exit 0) (s23v1 x27 x1 x2 x3 x4 x5 x6) =
    (some [.v (.i .i64 x27)]) := by kernel_rfl

theorem e23 (fuel : Nat) (x1 : Nat) (x2 : Nat → Nat → CV) (x3 : Nat) (x4 : Nat → Nat → CV) (x5 : Int) (x6 : Int) : evalF (C68 fuel) fuel A23 [.agg [(.ro false (.pr (.int .i64) (.pr (.int .i64) .nil)) x1 x2), (.ro false (.pr (.sl (.pr (.int .i64) (.pr (.int .i64) .nil))) .nil) x3 x4)], .agg [(.i .i64 x5), (.i .i64 x6)]] = ob (F23 fuel x1 x2 x3 x4 x5 x6) fun t => some [.v (.i .i64 t)] := by
  rw [walk23, ← f23]
  simp only [D23, t23v1, g23v2]

def O23 (fuel : Nat) : Ora where
  o := fun args {ρ} K =>
    wc args fun a1 l2 =>
    wagg a1 fun l3 =>
    wc l3 fun c4 l5 =>
    wL (.pr (.int .i64) (.pr (.int .i64) .nil)) c4 fun y6 y7 =>
    wc l5 fun c9 l10 =>
    wL (.pr (.sl (.pr (.int .i64) (.pr (.int .i64) .nil))) .nil) c9 fun y11 y12 =>
    wn l10 <|
    wc l2 fun a14 l15 =>
    wagg a14 fun l16 =>
    wc l16 fun c17 l18 =>
    wI .i64 c17 fun y19 =>
    wc l18 fun c21 l22 =>
    wI .i64 c21 fun y23 =>
    wn l22 <|
    wn l15 <|
    (ob (F23 fuel y6 y7 y11 y12 y19 y23) fun t => K [.v (.i .i64 t)])
  nat := fun args {ρ} K => by
    simp only [bind_wc, bind_wn, bind_wv, bind_wagg, bind_wI, bind_wB, bind_wS, bind_wL, bind_wP, bind_wFn, bind_ob, Option.bind_some]

theorem d23 {P : Program} (fuel : Nat) (hmix : P.follows .mixedOrders = true) (hC : Sound P (C68 fuel)) (hF : FFits P 23 A23) (args res : List A) (h : (O23 fuel).o args some = some res) : Den P 23 args res := by
  obtain ⟨a1, l2, rfl, z0⟩ := inv_wc h
  obtain ⟨l3, rfl, z1⟩ := inv_wagg z0
  obtain ⟨c4, l5, rfl, z2⟩ := inv_wc z1
  obtain ⟨y6, y7, h8, z3⟩ := inv_wL z2
  obtain ⟨c9, l10, rfl, z4⟩ := inv_wc z3
  obtain ⟨y11, y12, h13, z5⟩ := inv_wL z4
  obtain ⟨hn, z6⟩ := inv_wn z5
  cases hn
  obtain ⟨a14, l15, rfl, z7⟩ := inv_wc z6
  obtain ⟨l16, rfl, z8⟩ := inv_wagg z7
  obtain ⟨c17, l18, rfl, z9⟩ := inv_wc z8
  obtain ⟨y19, h20, z10⟩ := inv_wI z9
  obtain ⟨c21, l22, rfl, z11⟩ := inv_wc z10
  obtain ⟨y23, h24, z12⟩ := inv_wI z11
  obtain ⟨hn, z13⟩ := inv_wn z12
  cases hn
  obtain ⟨hn, z14⟩ := inv_wn z13
  cases hn
  exact Den.weaken (.cons (WkA.agg (.cons h8 (.cons h13 .nil))) (.cons (WkA.agg (.cons (Wk.i h20) (.cons (Wk.i h24) .nil))) .nil)) (evalF_sound hmix hC hF ((e23 fuel y6 y7 y11 y12 y19 y23).trans z14))

def C69 (fuel : Nat) : Oracle := (C68 fuel).add 23 (fun _ => true) (O23 fuel)

/-- shipyard/shipyardlaw13.RegionWheres -/
def A5 : AF := ⟨19, [.tmp 4],
  (.seq (.region 0 [o1 2 (.box 0 25 (tm 0)), o1 3 (.box 1 34 (tm 1)), o1 4 (.assign (.const (.bool false)))] 2 none) []
  (.seq (.region 1 [o1 5 (.load 25 (some 2) (tm 2)), o1 6 (.call 12 [(tm 5)] [25] .snap), mv 7 6, og 8 (.load 25 (some 2) (tm 2)) 7 false, og 9 (.load 34 (some 2) (tm 3)) 7 false, og 10 (.call 22 [(tm 8), (tm 9)] [25, 34] .snap) 7 false, og 11 (.load 25 (some 2) (tm 2)) 7 false, og 12 (.load 34 (some 2) (tm 3)) 7 false, og 13 (.call 23 [(tm 11), (tm 12)] [25, 34] .snap) 7 false, og 14 (.binOp .eql 3 (tm 10) (tm 13) 3) 7 false, o1 15 (.pick (tm 7) (.const (.bool true)) (tm 14)), mv 16 15, og 17 (.call 15 [] [] .snap) 16 true, o1 18 (.pick (tm 16) (tm 17) (.const (.bool false))), o1 4 (.assign (tm 18))] 0 (some [[], [0], [0, 1], [0, 1, 2], [0, 1, 2], (rl 0 5 []), [0, 1, 2], [0, 1, 2], (rl 0 8 []), (rl 0 9 []), (rl 0 10 []), (rl 0 11 []), (rl 0 12 []), (rl 0 13 []), (rl 0 14 [])])) []
  (.ret (rl 0 4 (rl 5 14 [])))))⟩

def D5 {ρ : Type} (fuel : Nat) (x1 : Nat) (x2 : Nat → Nat → CV) (x3 : Nat) (x4 : Nat → Nat → CV) (x5 : Int) (x6 : Int) (k : Bool → Option ρ) : Option ρ :=
  (ob (F12 fuel x1 x2 x3 x4) fun x7 => (bif (x7 == false) then (ob (F22 fuel x1 x2 x3 x4 x5 x6) fun x8 => (ob (F23 fuel x1 x2 x3 x4 x5 x6) fun x9 => (bif ((x8 == x9) == true) then (ob (F15 fuel) fun x10 => (k x10)) else (k false)))) else (ob (F15 fuel) fun x11 => (k x11))))

def F5 (fuel : Nat) (x1 : Nat) (x2 : Nat → Nat → CV) (x3 : Nat) (x4 : Nat → Nat → CV) (x5 : Int) (x6 : Int) : Option (Bool) := D5 fuel x1 x2 x3 x4 x5 x6 some

theorem n5 {ρ σ : Type} (fuel : Nat) (x1 : Nat) (x2 : Nat → Nat → CV) (x3 : Nat) (x4 : Nat → Nat → CV) (x5 : Int) (x6 : Int) (k : (Bool) → Option ρ) (g : ρ → Option σ) : ob (D5 fuel x1 x2 x3 x4 x5 x6 k) g = D5 fuel x1 x2 x3 x4 x5 x6 fun t => ob (k t) g := by
  simp only [D5, ob_bif, ob_ob, ob_none]

theorem f5 {ρ : Type} (fuel : Nat) (x1 : Nat) (x2 : Nat → Nat → CV) (x3 : Nat) (x4 : Nat → Nat → CV) (x5 : Int) (x6 : Int) (k : (Bool) → Option ρ) : D5 fuel x1 x2 x3 x4 x5 x6 k = ob (F5 fuel x1 x2 x3 x4 x5 x6) k := by
  unfold F5
  rw [n5]
  simp only [ob_some]

theorem walk5 (fuel : Nat) (x1 : Nat) (x2 : Nat → Nat → CV) (x3 : Nat) (x4 : Nat → Nat → CV) (x5 : Int) (x6 : Int) :
    evalF (C69 fuel) fuel A5 [.agg [(.ro false (.pr (.int .i64) (.pr (.int .i64) .nil)) x1 x2), (.ro false (.pr (.sl (.pr (.int .i64) (.pr (.int .i64) .nil))) .nil) x3 x4)], .agg [(.i .i64 x5), (.i .i64 x6)]] =
    (ob (F12 fuel x1 x2 x3 x4) fun x7 => (bif (x7 == false) then (ob (F22 fuel x1 x2 x3 x4 x5 x6) fun x8 => (ob (F23 fuel x1 x2 x3 x4 x5 x6) fun x9 => (bif ((x8 == x9) == true) then (ob (F15 fuel) fun x10 => (some [.v (.b x10)])) else (some [.v (.b false)])))) else (ob (F15 fuel) fun x11 => (some [.v (.b x11)])))) := by kernel_rfl

theorem e5 (fuel : Nat) (x1 : Nat) (x2 : Nat → Nat → CV) (x3 : Nat) (x4 : Nat → Nat → CV) (x5 : Int) (x6 : Int) : evalF (C69 fuel) fuel A5 [.agg [(.ro false (.pr (.int .i64) (.pr (.int .i64) .nil)) x1 x2), (.ro false (.pr (.sl (.pr (.int .i64) (.pr (.int .i64) .nil))) .nil) x3 x4)], .agg [(.i .i64 x5), (.i .i64 x6)]] = ob (F5 fuel x1 x2 x3 x4 x5 x6) fun t => some [.v (.b t)] := by
  rw [walk5, ← f5]
  simp only [D5]

def O5 (fuel : Nat) : Ora where
  o := fun args {ρ} K =>
    wc args fun a1 l2 =>
    wagg a1 fun l3 =>
    wc l3 fun c4 l5 =>
    wL (.pr (.int .i64) (.pr (.int .i64) .nil)) c4 fun y6 y7 =>
    wc l5 fun c9 l10 =>
    wL (.pr (.sl (.pr (.int .i64) (.pr (.int .i64) .nil))) .nil) c9 fun y11 y12 =>
    wn l10 <|
    wc l2 fun a14 l15 =>
    wagg a14 fun l16 =>
    wc l16 fun c17 l18 =>
    wI .i64 c17 fun y19 =>
    wc l18 fun c21 l22 =>
    wI .i64 c21 fun y23 =>
    wn l22 <|
    wn l15 <|
    (ob (F5 fuel y6 y7 y11 y12 y19 y23) fun t => K [.v (.b t)])
  nat := fun args {ρ} K => by
    simp only [bind_wc, bind_wn, bind_wv, bind_wagg, bind_wI, bind_wB, bind_wS, bind_wL, bind_wP, bind_wFn, bind_ob, Option.bind_some]

theorem d5 {P : Program} (fuel : Nat) (hmix : P.follows .mixedOrders = true) (hC : Sound P (C69 fuel)) (hF : FFits P 5 A5) (args res : List A) (h : (O5 fuel).o args some = some res) : Den P 5 args res := by
  obtain ⟨a1, l2, rfl, z0⟩ := inv_wc h
  obtain ⟨l3, rfl, z1⟩ := inv_wagg z0
  obtain ⟨c4, l5, rfl, z2⟩ := inv_wc z1
  obtain ⟨y6, y7, h8, z3⟩ := inv_wL z2
  obtain ⟨c9, l10, rfl, z4⟩ := inv_wc z3
  obtain ⟨y11, y12, h13, z5⟩ := inv_wL z4
  obtain ⟨hn, z6⟩ := inv_wn z5
  cases hn
  obtain ⟨a14, l15, rfl, z7⟩ := inv_wc z6
  obtain ⟨l16, rfl, z8⟩ := inv_wagg z7
  obtain ⟨c17, l18, rfl, z9⟩ := inv_wc z8
  obtain ⟨y19, h20, z10⟩ := inv_wI z9
  obtain ⟨c21, l22, rfl, z11⟩ := inv_wc z10
  obtain ⟨y23, h24, z12⟩ := inv_wI z11
  obtain ⟨hn, z13⟩ := inv_wn z12
  cases hn
  obtain ⟨hn, z14⟩ := inv_wn z13
  cases hn
  exact Den.weaken (.cons (WkA.agg (.cons h8 (.cons h13 .nil))) (.cons (WkA.agg (.cons (Wk.i h20) (.cons (Wk.i h24) .nil))) .nil)) (evalF_sound hmix hC hF ((e5 fuel y6 y7 y11 y12 y19 y23).trans z14))

def C70 (fuel : Nat) : Oracle := (C69 fuel).add 5 (fun _ => true) (O5 fuel)

/-- shipyard/shipyardlaw13.RegionApart -/
def A10v1 : AC := (.seq (.region 12 [o1 54 (.load 25 (some 2) (tm 3)), o1 55 (.load 34 (some 2) (tm 10)), o1 56 (.call 22 [(tm 54), (tm 55)] [25, 34] .snap), o1 57 (.binOp .lss 3 (tm 56) (ic 0) 3), mv 58 57, og 59 (.load 25 (some 2) (tm 4)) 58 false, og 60 (.load 34 (some 2) (tm 10)) 58 false, og 61 (.call 22 [(tm 59), (tm 60)] [25, 34] .snap) 58 false, og 62 (.binOp .lss 3 (tm 61) (ic 0) 3) 58 false, o1 63 (.pick (tm 58) (.const (.bool true)) (tm 62)), mv 64 63, og 65 (.call 15 [] [] .snap) 64 true, o1 66 (.pick (tm 64) (tm 65) (.const (.bool false))), o1 6 (.assign (tm 66))] 0 none) []
  (.ret (rl 0 6 (rl 7 60 []))))
def A10v2 : AC := (.seq (.region 9 [o1 35 (.indexAddrA 51 3 4 1 (tm 5) (ic 2)), o1 36 (.load 3 none (tm 35)), o1 37 (.indexAddrA 51 3 4 1 (tm 5) (ic 3)), o1 38 (.load 3 none (tm 37)), o1 39 (.build 34 [.c (.i .i64 0), .c (.i .i64 0)] [(0, 1), (1, 1)] 0 [(0, (tm 36)), (1, (tm 38))]), o1 10 (.alloc 0 34 [.c (.i .i64 0), .c (.i .i64 0)]), o0 (.store 34 2 (tm 10) (tm 39))] 1 none) []
  (.seq (.seq (.region 10 [mv 40 8, o1 41 (.binOp .geq 3 (tm 40) (ic 0) 3), mv 42 41, og 43 (.move (tm 8)) 42 true, og 44 (.move (tm 7)) 42 true, og 45 (.binOp .leq 3 (tm 43) (tm 44) 3) 42 true, o1 46 (.pick (tm 42) (tm 45) (.const (.bool false))), mv 47 46, og 48 (.load 25 (some 2) (tm 3)) 47 true, og 49 (.load 25 (some 2) (tm 4)) 47 true, og 50 (.move (tm 8)) 47 true, og 51 (.call 27 [(tm 48), (tm 49), (tm 50)] [25, 25, 3] .snap) 47 true, og 52 (.unOp .not 4 (tm 51)) 47 true, o1 53 (.pick (tm 47) (tm 52) (.const (.bool false)))] 0 none) []
  (.cond (tm 53)
  (.seq (.region 11 [o1 6 (.assign (.const (.bool false)))] 0 none) []
    (.ret (rl 0 6 (rl 7 60 []))))
  .skip)) (6 :: (rl 40 14 []))
  A10v1))
def A10v3 : AC := (.seq (.seq (.region 7 [mv 32 9, o1 33 (.unOp .not 4 (tm 32))] 0 none) []
  (.cond (tm 33)
  (.seq (.region 8 [o1 34 (.call 15 [] [] .snap), o1 6 (.assign (tm 34))] 0 none) []
    (.ret (rl 0 6 (rl 7 60 []))))
  .skip)) [6, 32, 33, 34]
  A10v2)
def A10v4 : AC := (.seq (.region 3 [o1 18 (.indexAddrA 51 3 4 1 (tm 5) (ic 0)), o1 19 (.load 3 none (tm 18)), o1 20 (.indexAddrA 51 3 4 1 (tm 5) (ic 1)), o1 21 (.load 3 none (tm 20)), o1 7 (.assign (tm 19)), o1 8 (.assign (tm 21))] 0 (some [[], [0], [], [2], [0, 1], (rl 0 5 [])])) []
  (.seq (.region 4 [o1 22 (.load 25 (some 2) (tm 3)), o1 23 (.load 25 (some 2) (tm 4)), mv 24 7, o1 25 (.call 27 [(tm 22), (tm 23), (tm 24)] [25, 25, 3] .snap), o1 9 (.assign (tm 25))] 0 none) []
  (.seq (.seq (.region 5 [o1 26 (.load 25 (some 2) (tm 4)), o1 27 (.load 25 (some 2) (tm 3)), mv 28 7, o1 29 (.call 27 [(tm 26), (tm 27), (tm 28)] [25, 25, 3] .snap), mv 30 9, o1 31 (.eqB true 4 (tm 29) (tm 30) 4)] 0 none) []
  (.cond (tm 31)
  (.seq (.region 6 [o1 6 (.assign (.const (.bool false)))] 0 none) []
    (.ret (rl 0 6 (rl 7 60 []))))
  .skip)) (6 :: (rl 26 6 []))
  A10v3)))
def A10 : AF := ⟨67, [.tmp 6],
  (.seq (.region 0 [o1 3 (.box 0 25 (tm 0)), o1 4 (.box 1 25 (tm 1)), o1 5 (.box 2 51 (tm 2)), o1 6 (.assign (.const (.bool false)))] 3 none) []
  (.seq (.seq (.region 1 [o1 11 (.load 25 (some 2) (tm 3)), o1 12 (.call 12 [(tm 11)] [25] .snap), mv 13 12, og 14 (.load 25 (some 2) (tm 4)) 13 false, og 15 (.call 12 [(tm 14)] [25] .snap) 13 false, o1 16 (.pick (tm 13) (.const (.bool true)) (tm 15))] 0 none) []
  (.cond (tm 16)
  (.seq (.region 2 [o1 17 (.call 15 [] [] .snap), o1 6 (.assign (tm 17))] 0 none) []
    (.ret (rl 0 6 (rl 7 60 []))))
  .skip)) (6 :: (rl 11 7 []))
  A10v4))⟩

def D10 {ρ : Type} (fuel : Nat) (x1 : Nat) (x2 : Nat → Nat → CV) (x3 : Nat) (x4 : Nat → Nat → CV) (x5 : Nat) (x6 : Nat → Nat → CV) (x7 : Nat) (x8 : Nat → Nat → CV) (x9 : Int) (x10 : Int) (x11 : Int) (x12 : Int) (k : Bool → Option ρ) : Option ρ :=
  (ob (F12 fuel x1 x2 x3 x4) fun x13 => (bif (x13 == false) then (ob (F12 fuel x5 x6 x7 x8) fun x14 => (bif x14 then (ob (F15 fuel) fun x15 => (k x15)) else (ob (F27 fuel x1 x2 x3 x4 x5 x6 x7 x8 x9) fun x16 => (ob (F27 fuel x5 x6 x7 x8 x1 x2 x3 x4 x9) fun x17 => (bif (!(x17 == x16)) then (k false) else (bif (!x16) then (ob (F15 fuel) fun x18 => (k x18)) else (bif ((decide (x10 ≥ 0)) == true) then (bif ((decide (x10 ≤ x9)) == true) then (ob (F27 fuel x1 x2 x3 x4 x5 x6 x7 x8 x10) fun x19 => (bif (!x19) then (k false) else (ob (F22 fuel x1 x2 x3 x4 x11 x12) fun x20 => (bif ((decide (x20 < 0)) == false) then (ob (F22 fuel x5 x6 x7 x8 x11 x12) fun x21 => (bif ((decide (x21 < 0)) == true) then (ob (F15 fuel) fun x22 => (k x22)) else (k false))) else (ob (F15 fuel) fun x23 => (k x23)))))) else (ob (F22 fuel x1 x2 x3 x4 x11 x12) fun x24 => (bif ((decide (x24 < 0)) == false) then (ob (F22 fuel x5 x6 x7 x8 x11 x12) fun x25 => (bif ((decide (x25 < 0)) == true) then (ob (F15 fuel) fun x26 => (k x26)) else (k false))) else (ob (F15 fuel) fun x27 => (k x27))))) else (ob (F22 fuel x1 x2 x3 x4 x11 x12) fun x28 => (bif ((decide (x28 < 0)) == false) then (ob (F22 fuel x5 x6 x7 x8 x11 x12) fun x29 => (bif ((decide (x29 < 0)) == true) then (ob (F15 fuel) fun x30 => (k x30)) else (k false))) else (ob (F15 fuel) fun x31 => (k x31))))))))))) else (ob (F15 fuel) fun x32 => (k x32))))

def F10 (fuel : Nat) (x1 : Nat) (x2 : Nat → Nat → CV) (x3 : Nat) (x4 : Nat → Nat → CV) (x5 : Nat) (x6 : Nat → Nat → CV) (x7 : Nat) (x8 : Nat → Nat → CV) (x9 : Int) (x10 : Int) (x11 : Int) (x12 : Int) : Option (Bool) := D10 fuel x1 x2 x3 x4 x5 x6 x7 x8 x9 x10 x11 x12 some

theorem n10 {ρ σ : Type} (fuel : Nat) (x1 : Nat) (x2 : Nat → Nat → CV) (x3 : Nat) (x4 : Nat → Nat → CV) (x5 : Nat) (x6 : Nat → Nat → CV) (x7 : Nat) (x8 : Nat → Nat → CV) (x9 : Int) (x10 : Int) (x11 : Int) (x12 : Int) (k : (Bool) → Option ρ) (g : ρ → Option σ) : ob (D10 fuel x1 x2 x3 x4 x5 x6 x7 x8 x9 x10 x11 x12 k) g = D10 fuel x1 x2 x3 x4 x5 x6 x7 x8 x9 x10 x11 x12 fun t => ob (k t) g := by
  simp only [D10, ob_bif, ob_ob, ob_none]

theorem f10 {ρ : Type} (fuel : Nat) (x1 : Nat) (x2 : Nat → Nat → CV) (x3 : Nat) (x4 : Nat → Nat → CV) (x5 : Nat) (x6 : Nat → Nat → CV) (x7 : Nat) (x8 : Nat → Nat → CV) (x9 : Int) (x10 : Int) (x11 : Int) (x12 : Int) (k : (Bool) → Option ρ) : D10 fuel x1 x2 x3 x4 x5 x6 x7 x8 x9 x10 x11 x12 k = ob (F10 fuel x1 x2 x3 x4 x5 x6 x7 x8 x9 x10 x11 x12) k := by
  unfold F10
  rw [n10]
  simp only [ob_some]

theorem walk10 (fuel : Nat) (x1 : Nat) (x2 : Nat → Nat → CV) (x3 : Nat) (x4 : Nat → Nat → CV) (x5 : Nat) (x6 : Nat → Nat → CV) (x7 : Nat) (x8 : Nat → Nat → CV) (x9 : Int) (x10 : Int) (x11 : Int) (x12 : Int) :
    evalF (C70 fuel) fuel A10 [.agg [(.ro false (.pr (.int .i64) (.pr (.int .i64) .nil)) x1 x2), (.ro false (.pr (.sl (.pr (.int .i64) (.pr (.int .i64) .nil))) .nil) x3 x4)], .agg [(.ro false (.pr (.int .i64) (.pr (.int .i64) .nil)) x5 x6), (.ro false (.pr (.sl (.pr (.int .i64) (.pr (.int .i64) .nil))) .nil) x7 x8)], .agg [(.i .i64 x9), (.i .i64 x10), (.i .i64 x11), (.i .i64 x12)]] =
    (ob (F12 fuel x1 x2 x3 x4) fun x13 => (bif (x13 == false) then (ob (F12 fuel x5 x6 x7 x8) fun x14 => (bif x14 then (ob (F15 fuel) fun x15 => (some [.v (.b x15)])) else (ob (F27 fuel x1 x2 x3 x4 x5 x6 x7 x8 x9) fun x16 => (ob (F27 fuel x5 x6 x7 x8 x1 x2 x3 x4 x9) fun x17 => (bif (!(x17 == x16)) then (some [.v (.b false)]) else (bif (!x16) then (ob (F15 fuel) fun x18 => (some [.v (.b x18)])) else (bif ((decide (x10 ≥ 0)) == true) then (bif ((decide (x10 ≤ x9)) == true) then (ob (F27 fuel x1 x2 x3 x4 x5 x6 x7 x8 x10) fun x19 => (bif (!x19) then (some [.v (.b false)]) else (ob (F22 fuel x1 x2 x3 x4 x11 x12) fun x20 => (bif ((decide (x20 < 0)) == false) then (ob (F22 fuel x5 x6 x7 x8 x11 x12) fun x21 => (bif ((decide (x21 < 0)) == true) then (ob (F15 fuel) fun x22 => (some [.v (.b x22)])) else (some [.v (.b false)]))) else (ob (F15 fuel) fun x23 => (some [.v (.b x23)])))))) else (ob (F22 fuel x1 x2 x3 x4 x11 x12) fun x24 => (bif ((decide (x24 < 0)) == false) then (ob (F22 fuel x5 x6 x7 x8 x11 x12) fun x25 => (bif ((decide (x25 < 0)) == true) then (ob (F15 fuel) fun x26 => (some [.v (.b x26)])) else (some [.v (.b false)]))) else (ob (F15 fuel) fun x27 => (some [.v (.b x27)]))))) else (ob (F22 fuel x1 x2 x3 x4 x11 x12) fun x28 => (bif ((decide (x28 < 0)) == false) then (ob (F22 fuel x5 x6 x7 x8 x11 x12) fun x29 => (bif ((decide (x29 < 0)) == true) then (ob (F15 fuel) fun x30 => (some [.v (.b x30)])) else (some [.v (.b false)]))) else (ob (F15 fuel) fun x31 => (some [.v (.b x31)]))))))))))) else (ob (F15 fuel) fun x32 => (some [.v (.b x32)])))) := by kernel_rfl

theorem e10 (fuel : Nat) (x1 : Nat) (x2 : Nat → Nat → CV) (x3 : Nat) (x4 : Nat → Nat → CV) (x5 : Nat) (x6 : Nat → Nat → CV) (x7 : Nat) (x8 : Nat → Nat → CV) (x9 : Int) (x10 : Int) (x11 : Int) (x12 : Int) : evalF (C70 fuel) fuel A10 [.agg [(.ro false (.pr (.int .i64) (.pr (.int .i64) .nil)) x1 x2), (.ro false (.pr (.sl (.pr (.int .i64) (.pr (.int .i64) .nil))) .nil) x3 x4)], .agg [(.ro false (.pr (.int .i64) (.pr (.int .i64) .nil)) x5 x6), (.ro false (.pr (.sl (.pr (.int .i64) (.pr (.int .i64) .nil))) .nil) x7 x8)], .agg [(.i .i64 x9), (.i .i64 x10), (.i .i64 x11), (.i .i64 x12)]] = ob (F10 fuel x1 x2 x3 x4 x5 x6 x7 x8 x9 x10 x11 x12) fun t => some [.v (.b t)] := by
  rw [walk10, ← f10]
  simp only [D10]

def O10 (fuel : Nat) : Ora where
  o := fun args {ρ} K =>
    wc args fun a1 l2 =>
    wagg a1 fun l3 =>
    wc l3 fun c4 l5 =>
    wL (.pr (.int .i64) (.pr (.int .i64) .nil)) c4 fun y6 y7 =>
    wc l5 fun c9 l10 =>
    wL (.pr (.sl (.pr (.int .i64) (.pr (.int .i64) .nil))) .nil) c9 fun y11 y12 =>
    wn l10 <|
    wc l2 fun a14 l15 =>
    wagg a14 fun l16 =>
    wc l16 fun c17 l18 =>
    wL (.pr (.int .i64) (.pr (.int .i64) .nil)) c17 fun y19 y20 =>
    wc l18 fun c22 l23 =>
    wL (.pr (.sl (.pr (.int .i64) (.pr (.int .i64) .nil))) .nil) c22 fun y24 y25 =>
    wn l23 <|
    wc l15 fun a27 l28 =>
    wagg a27 fun l29 =>
    wc l29 fun c30 l31 =>
    wI .i64 c30 fun y32 =>
    wc l31 fun c34 l35 =>
    wI .i64 c34 fun y36 =>
    wc l35 fun c38 l39 =>
    wI .i64 c38 fun y40 =>
    wc l39 fun c42 l43 =>
    wI .i64 c42 fun y44 =>
    wn l43 <|
    wn l28 <|
    (ob (F10 fuel y6 y7 y11 y12 y19 y20 y24 y25 y32 y36 y40 y44) fun t => K [.v (.b t)])
  nat := fun args {ρ} K => by
    simp only [bind_wc, bind_wn, bind_wv, bind_wagg, bind_wI, bind_wB, bind_wS, bind_wL, bind_wP, bind_wFn, bind_ob, Option.bind_some]

theorem d10 {P : Program} (fuel : Nat) (hmix : P.follows .mixedOrders = true) (hC : Sound P (C70 fuel)) (hF : FFits P 10 A10) (args res : List A) (h : (O10 fuel).o args some = some res) : Den P 10 args res := by
  obtain ⟨a1, l2, rfl, z0⟩ := inv_wc h
  obtain ⟨l3, rfl, z1⟩ := inv_wagg z0
  obtain ⟨c4, l5, rfl, z2⟩ := inv_wc z1
  obtain ⟨y6, y7, h8, z3⟩ := inv_wL z2
  obtain ⟨c9, l10, rfl, z4⟩ := inv_wc z3
  obtain ⟨y11, y12, h13, z5⟩ := inv_wL z4
  obtain ⟨hn, z6⟩ := inv_wn z5
  cases hn
  obtain ⟨a14, l15, rfl, z7⟩ := inv_wc z6
  obtain ⟨l16, rfl, z8⟩ := inv_wagg z7
  obtain ⟨c17, l18, rfl, z9⟩ := inv_wc z8
  obtain ⟨y19, y20, h21, z10⟩ := inv_wL z9
  obtain ⟨c22, l23, rfl, z11⟩ := inv_wc z10
  obtain ⟨y24, y25, h26, z12⟩ := inv_wL z11
  obtain ⟨hn, z13⟩ := inv_wn z12
  cases hn
  obtain ⟨a27, l28, rfl, z14⟩ := inv_wc z13
  obtain ⟨l29, rfl, z15⟩ := inv_wagg z14
  obtain ⟨c30, l31, rfl, z16⟩ := inv_wc z15
  obtain ⟨y32, h33, z17⟩ := inv_wI z16
  obtain ⟨c34, l35, rfl, z18⟩ := inv_wc z17
  obtain ⟨y36, h37, z19⟩ := inv_wI z18
  obtain ⟨c38, l39, rfl, z20⟩ := inv_wc z19
  obtain ⟨y40, h41, z21⟩ := inv_wI z20
  obtain ⟨c42, l43, rfl, z22⟩ := inv_wc z21
  obtain ⟨y44, h45, z23⟩ := inv_wI z22
  obtain ⟨hn, z24⟩ := inv_wn z23
  cases hn
  obtain ⟨hn, z25⟩ := inv_wn z24
  cases hn
  exact Den.weaken (.cons (WkA.agg (.cons h8 (.cons h13 .nil))) (.cons (WkA.agg (.cons h21 (.cons h26 .nil))) (.cons (WkA.agg (.cons (Wk.i h33) (.cons (Wk.i h37) (.cons (Wk.i h41) (.cons (Wk.i h45) .nil))))) .nil))) (evalF_sound hmix hC hF ((e10 fuel y6 y7 y11 y12 y19 y20 y24 y25 y32 y36 y40 y44).trans z25))

def C71 (fuel : Nat) : Oracle := (C70 fuel).add 10 (fun _ => true) (O10 fuel)

end Go.Eng.R13
