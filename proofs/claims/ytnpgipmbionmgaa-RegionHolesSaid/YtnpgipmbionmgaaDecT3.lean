/-
  The functions of the program, run on symbols; printed by decomp.py.
-/
import Derived.Test.YtnpgipmbionmgaaDecT2
set_option linter.all false
set_option maxRecDepth 1000000
set_option maxHeartbeats 4000000
namespace Go.Eng.R13
open Go Go.RowKit Go.Eng
/-- shipyard/shipyardlaw13.alive -/
def A15v1 : AC := (.seq (.region 7 [o1 54 (.load 25 (some 2) (tm 1)), o1 55 (.build 34 [.c (.i .i64 0), .c (.i .i64 0)] [(0, 1), (1, 1)] 0 [(0, (ic 3)), (1, (ic 3))]), o1 56 (.call 22 [(tm 54), (tm 55)] [25, 34] .snap), o1 57 (.binOp .eql 3 (tm 56) (ic (-1)) 3), mv 58 57, og 59 (.load 25 (some 2) (tm 1)) 58 true, og 60 (.build 34 [.c (.i .i64 0), .c (.i .i64 0)] [(0, 1), (1, 1)] 0 [(0, (ic 2)), (1, (ic 3))]) 58 true, og 61 (.call 22 [(tm 59), (tm 60)] [25, 34] .snap) 58 true, og 62 (.binOp .eql 3 (tm 61) (ic 0) 3) 58 true, o1 63 (.pick (tm 58) (tm 62) (.const (.bool false))), mv 64 63, og 65 (.load 25 (some 2) (tm 1)) 64 true, og 66 (.build 34 [.c (.i .i64 0), .c (.i .i64 0)] [(0, 1), (1, 1)] 0 [(0, (ic 1)), (1, (ic 1))]) 64 true, og 67 (.call 22 [(tm 65), (tm 66)] [25, 34] .snap) 64 true, og 68 (.binOp .eql 3 (tm 67) (ic 1) 3) 64 true, o1 69 (.pick (tm 64) (tm 68) (.const (.bool false))), mv 70 69, og 71 (.load 25 (some 2) (tm 2)) 70 true, og 72 (.load 25 (some 2) (tm 3)) 70 true, og 73 (.call 27 [(tm 71), (tm 72), (ic 5)] [25, 25, 3] .snap) 70 true, o1 74 (.pick (tm 70) (tm 73) (.const (.bool false))), mv 75 74, og 76 (.load 25 (some 2) (tm 2)) 75 true, og 77 (.load 25 (some 2) (tm 3)) 75 true, og 78 (.call 27 [(tm 76), (tm 77), (ic 6)] [25, 25, 3] .snap) 75 true, og 79 (.unOp .not 4 (tm 78)) 75 true, o1 80 (.pick (tm 75) (tm 79) (.const (.bool false))), mv 81 80, og 82 (.load 25 (some 2) (tm 2)) 81 true, og 83 (.call 29 [(tm 82), (ic 12), (ic 13), (ic 0)] [25, 3, 3, 3] .snap) 81 true, o1 84 (.pick (tm 81) (tm 83) (.const (.bool false))), mv 85 84, og 86 (.load 25 (some 2) (tm 2)) 85 true, og 87 (.call 29 [(tm 86), (ic 12), (ic 13), (ic 1)] [25, 3, 3, 3] .snap) 85 true, og 88 (.unOp .not 4 (tm 87)) 85 true, o1 89 (.pick (tm 85) (tm 88) (.const (.bool false))), mv 90 89, og 91 (.load 25 (some 2) (tm 3)) 90 true, og 92 (.call 20 [(tm 91)] [25] .snap) 90 true, og 93 (.build 34 [.c (.i .i64 0), .c (.i .i64 0)] [(0, 1), (1, 1)] 0 [(0, (ic 15))]) 90 true, og 94 (.build 34 [.c (.i .i64 0), .c (.i .i64 0)] [(0, 1), (1, 1)] 0 [(0, (ic 20)), (1, (ic 5))]) 90 true, og 95 (.build 36 [.c (.i .i64 0), .c (.i .i64 0), .c (.i .i64 0), .c (.i .i64 0)] [(0, 2), (2, 2)] 0 [(0, (tm 93)), (1, (tm 94))]) 90 true, og 96 (.eqA false (.pr (.int .i64) (.pr (.int .i64) (.pr (.int .i64) (.pr (.int .i64) .nil)))) 36 (tm 92) (tm 95) 36) 90 true, o1 97 (.pick (tm 90) (tm 96) (.const (.bool false))), o1 0 (.assign (tm 97))] 0 none) []
  (.ret (rl 1 97 [])))
def A15 : AF := ⟨98, [.tmp 0],
  (.seq (.region 0 [o1 0 (.assign (.const (.bool false)))] 0 none) []
  (.seq (.region 1 [o1 7 (.call 41 [(ic 0), (ic 0), (ic 10)] [3, 3, 3] .freeze), o1 8 (.build 34 [.c (.i .i64 0), .c (.i .i64 0)] [(0, 1), (1, 1)] 0 [(0, (ic 2)), (1, (ic 2))]), o1 9 (.build 34 [.c (.i .i64 0), .c (.i .i64 0)] [(0, 1), (1, 1)] 0 [(0, (ic 2)), (1, (ic 4))]), o1 10 (.build 34 [.c (.i .i64 0), .c (.i .i64 0)] [(0, 1), (1, 1)] 0 [(0, (ic 4)), (1, (ic 4))]), o1 11 (.build 34 [.c (.i .i64 0), .c (.i .i64 0)] [(0, 1), (1, 1)] 0 [(0, (ic 4)), (1, (ic 2))]), o1 12 (.buildSlice 0 22 34 (.pr (.int .i64) (.pr (.int .i64) .nil)) 4 [.c (.i .i64 0), .c (.i .i64 0)] [(0, (tm 8)), (1, (tm 9)), (2, (tm 10)), (3, (tm 11))]), o1 13 (.buildSlice 1 23 22 (.pr (.sl (.pr (.int .i64) (.pr (.int .i64) .nil))) .nil) 1 [.c (.ro true .nil 0 (fun _ _ => .any))] [(0, (tm 12))]), o1 14 (.build 25 [.c (.ro true .nil 0 (fun _ _ => .any)), .c (.ro true .nil 0 (fun _ _ => .any))] [(0, 1), (1, 1)] 0 [(0, (tm 7)), (1, (tm 13))]), o1 1 (.alloc 2 25 [.c (.ro true .nil 0 (fun _ _ => .any)), .c (.ro true .nil 0 (fun _ _ => .any))]), o0 (.store 25 2 (tm 1) (tm 14))] 3 none) []
  (.seq (.region 2 [o1 15 (.call 41 [(ic 0), (ic 0), (ic 10)] [3, 3, 3] .freeze), o1 16 (.build 25 [.c (.ro true .nil 0 (fun _ _ => .any)), .c (.ro true .nil 0 (fun _ _ => .any))] [(0, 1), (1, 1)] 0 [(0, (tm 15))]), o1 17 (.call 41 [(ic 15), (ic 0), (ic 5)] [3, 3, 3] .freeze), o1 18 (.build 25 [.c (.ro true .nil 0 (fun _ _ => .any)), .c (.ro true .nil 0 (fun _ _ => .any))] [(0, 1), (1, 1)] 0 [(0, (tm 17))]), o1 2 (.alloc 0 25 [.c (.ro true .nil 0 (fun _ _ => .any)), .c (.ro true .nil 0 (fun _ _ => .any))]), o1 3 (.alloc 1 25 [.c (.ro true .nil 0 (fun _ _ => .any)), .c (.ro true .nil 0 (fun _ _ => .any))]), o0 (.store 25 2 (tm 2) (tm 16)), o0 (.store 25 2 (tm 3) (tm 18))] 2 none) []
  (.seq (.region 3 [o1 19 (.build 34 [.c (.i .i64 0), .c (.i .i64 0)] [(0, 1), (1, 1)] 0 [(0, (ic 3)), (1, (ic 1))]), o1 20 (.buildSlice 0 22 34 (.pr (.int .i64) (.pr (.int .i64) .nil)) 1 [.c (.i .i64 0), .c (.i .i64 0)] [(0, (tm 19))]), o1 21 (.build 25 [.c (.ro true .nil 0 (fun _ _ => .any)), .c (.ro true .nil 0 (fun _ _ => .any))] [(0, 1), (1, 1)] 0 [(0, (tm 20))]), o1 22 (.build 34 [.c (.i .i64 0), .c (.i .i64 0)] [(0, 1), (1, 1)] 0 [(0, (ic 10))]), o1 23 (.build 41 [.c (.s ByteArray.empty), .c (.i .i64 0), .c (.i .i64 0), .c (.i .i64 0), .c (.b false)] [(0, 1), (1, 2), (3, 1), (4, 1)] 0 [(1, (tm 22)), (2, (ic 1)), (3, (.const (.bool true)))]), o1 24 (.call 25 [(tm 21), (tm 23)] [25, 41] .freeze), o1 4 (.alloc 1 25 [.c (.ro true .nil 0 (fun _ _ => .any)), .c (.ro true .nil 0 (fun _ _ => .any))]), o0 (.store 25 2 (tm 4) (tm 24))] 2 none) []
  (.seq (.region 4 [o1 26 (.load 25 (some 2) (tm 2)), o1 27 (.call 16 [(tm 26)] [25] .snap), mv 25 27, o1 28 (.extract (tm 25) 0), o1 29 (.extract (tm 25) 1), o1 5 (.assign (tm 28)), o1 6 (.assign (tm 29))] 0 none) []
  (.seq (.seq (.region 5 [o1 30 (.load 25 (some 2) (tm 1)), o1 31 (.call 13 [(tm 30)] [25] .snap), o1 32 (.binOp .neq 27 (tm 31) (ic 0) 27), mv 33 32, og 34 (.load 25 (some 2) (tm 1)) 33 false, og 35 (.call 18 [(tm 34)] [25] .snap) 33 false, og 36 (.binOp .neq 3 (tm 35) (ic 192) 3) 33 false, o1 37 (.pick (tm 33) (.const (.bool true)) (tm 36)), mv 38 37, og 39 (.move (tm 5)) 38 false, og 40 (.binOp .neq 3 (tm 39) (ic 3000) 3) 38 false, o1 41 (.pick (tm 38) (.const (.bool true)) (tm 40)), mv 42 41, og 43 (.move (tm 6)) 42 false, og 44 (.binOp .neq 3 (tm 43) (ic 3000) 3) 42 false, o1 45 (.pick (tm 42) (.const (.bool true)) (tm 44)), mv 46 45, og 47 (.load 25 (some 2) (tm 4)) 46 false, og 48 (.build 34 [.c (.i .i64 0), .c (.i .i64 0)] [(0, 1), (1, 1)] 0 [(0, (ic 9)), (1, (ic (-3)))]) 46 false, og 49 (.buildSlice 0 22 34 (.pr (.int .i64) (.pr (.int .i64) .nil)) 1 [.c (.i .i64 0), .c (.i .i64 0)] [(0, (tm 48))]) 46 false, og 50 (.build 25 [.c (.ro true .nil 0 (fun _ _ => .any)), .c (.ro true .nil 0 (fun _ _ => .any))] [(0, 1), (1, 1)] 0 [(0, (tm 49))]) 46 false, og 51 (.call 24 [(tm 47), (tm 50)] [25, 25] .snap) 46 false, og 52 (.unOp .not 4 (tm 51)) 46 false, o1 53 (.pick (tm 46) (.const (.bool true)) (tm 52))] 1 none) []
  (.cond (tm 53)
  (.seq (.region 6 [o1 0 (.assign (.const (.bool false)))] 0 none) []
    (.ret (rl 1 97 [])))
  .skip)) (0 :: (rl 30 24 []))
  A15v1))))))⟩

def D15 {ρ : Type} (fuel : Nat) (k : Bool → Option ρ) : Option ρ :=
  (ob (F41 fuel 0 0 10) fun x1 => (ob (F41 fuel 0 0 10) fun x2 => (ob (F41 fuel 15 0 5) fun x3 => (ob (F25 fuel 1 (rowsF 2 [(.i .i64 3), (.i .i64 1)]) 0 (fun _ _ => .any) ByteArray.empty 10 0 1 true) fun x4 => (ob (F16 fuel x2.1 x2.2 0 (fun _ _ => .any)) fun x5 => (ob (F13 fuel x1.1 x1.2 1 (rowsF 1 [(.ro false (.pr (.int .i64) (.pr (.int .i64) .nil)) 4 (rowsF 2 [(.i .i64 2), (.i .i64 2), (.i .i64 2), (.i .i64 4), (.i .i64 4), (.i .i64 4), (.i .i64 4), (.i .i64 2)]))])) fun x6 => (bif ((x6 != 0) == false) then (ob (F18 fuel x1.1 x1.2 1 (rowsF 1 [(.ro false (.pr (.int .i64) (.pr (.int .i64) .nil)) 4 (rowsF 2 [(.i .i64 2), (.i .i64 2), (.i .i64 2), (.i .i64 4), (.i .i64 4), (.i .i64 4), (.i .i64 4), (.i .i64 2)]))])) fun x7 => (bif ((x7 != 192) == false) then (bif ((x5.1 != 3000) == false) then (bif ((x5.2 != 3000) == false) then (ob (F24 fuel x4.1 x4.2.1 x4.2.2.1 x4.2.2.2 1 (rowsF 2 [(.i .i64 9), (.i .i64 (-3))]) 0 (fun _ _ => .any)) fun x8 => (bif (!x8) then (k false) else (ob (F22 fuel x1.1 x1.2 1 (rowsF 1 [(.ro false (.pr (.int .i64) (.pr (.int .i64) .nil)) 4 (rowsF 2 [(.i .i64 2), (.i .i64 2), (.i .i64 2), (.i .i64 4), (.i .i64 4), (.i .i64 4), (.i .i64 4), (.i .i64 2)]))]) 3 3) fun x9 => (bif ((x9 == (-1)) == true) then (ob (F22 fuel x1.1 x1.2 1 (rowsF 1 [(.ro false (.pr (.int .i64) (.pr (.int .i64) .nil)) 4 (rowsF 2 [(.i .i64 2), (.i .i64 2), (.i .i64 2), (.i .i64 4), (.i .i64 4), (.i .i64 4), (.i .i64 4), (.i .i64 2)]))]) 2 3) fun x10 => (bif ((x10 == 0) == true) then (ob (F22 fuel x1.1 x1.2 1 (rowsF 1 [(.ro false (.pr (.int .i64) (.pr (.int .i64) .nil)) 4 (rowsF 2 [(.i .i64 2), (.i .i64 2), (.i .i64 2), (.i .i64 4), (.i .i64 4), (.i .i64 4), (.i .i64 4), (.i .i64 2)]))]) 1 1) fun x11 => (bif ((x11 == 1) == true) then (ob (F27 fuel x2.1 x2.2 0 (fun _ _ => .any) x3.1 x3.2 0 (fun _ _ => .any) 5) fun x12 => (bif (x12 == true) then (ob (F27 fuel x2.1 x2.2 0 (fun _ _ => .any) x3.1 x3.2 0 (fun _ _ => .any) 6) fun x13 => (bif ((!x13) == true) then (ob (F29 fuel x2.1 x2.2 0 (fun _ _ => .any) 12 13 0) fun x14 => (bif (x14 == true) then (ob (F29 fuel x2.1 x2.2 0 (fun _ _ => .any) 12 13 1) fun x15 => (bif ((!x15) == true) then (ob (F20 fuel x3.1 x3.2 0 (fun _ _ => .any)) fun x16 => (k ((x16.1 == 15) && ((x16.2.1 == 0) && ((x16.2.2.1 == 20) && ((x16.2.2.2 == 5) && true)))))) else (k false))) else (k false))) else (k false))) else (k false))) else (k false))) else (k false))) else (k false))))) else (k false)) else (k false)) else (k false))) else (k false))))))))

def F15 (fuel : Nat) : Option (Bool) := D15 fuel some

theorem n15 {ρ σ : Type} (fuel : Nat) (k : (Bool) → Option ρ) (g : ρ → Option σ) : ob (D15 fuel k) g = D15 fuel fun t => ob (k t) g := by
  simp only [D15, ob_bif, ob_ob, ob_none]

theorem f15 {ρ : Type} (fuel : Nat) (k : (Bool) → Option ρ) : D15 fuel k = ob (F15 fuel) k := by
  unfold F15
  rw [n15]
  simp only [ob_some]

theorem walk15 (fuel : Nat) :
    evalF (C67 fuel) fuel A15 [] =
    (ob (F41 fuel 0 0 10) fun x1 => (ob (F41 fuel 0 0 10) fun x2 => (ob (F41 fuel 15 0 5) fun x3 => (ob (F25 fuel 1 (rowsF 2 [(.i .i64 3), (.i .i64 1)]) 0 (fun _ _ => .any) ByteArray.empty 10 0 1 true) fun x4 => (ob (F16 fuel x2.1 x2.2 0 (fun _ _ => .any)) fun x5 => (ob (F13 fuel x1.1 x1.2 1 (rowsF 1 [(.ro false (.pr (.int .i64) (.pr (.int .i64) .nil)) 4 (rowsF 2 [(.i .i64 2), (.i .i64 2), (.i .i64 2), (.i .i64 4), (.i .i64 4), (.i .i64 4), (.i .i64 4), (.i .i64 2)]))])) fun x6 => (bif ((x6 != 0) == false) then (ob (F18 fuel x1.1 x1.2 1 (rowsF 1 [(.ro false (.pr (.int .i64) (.pr (.int .i64) .nil)) 4 (rowsF 2 [(.i .i64 2), (.i .i64 2), (.i .i64 2), (.i .i64 4), (.i .i64 4), (.i .i64 4), (.i .i64 4), (.i .i64 2)]))])) fun x7 => (bif ((x7 != 192) == false) then (bif ((x5.1 != 3000) == false) then (bif ((x5.2 != 3000) == false) then (ob (F24 fuel x4.1 x4.2.1 x4.2.2.1 x4.2.2.2 1 (rowsF 2 [(.i .i64 9), (.i .i64 (-3))]) 0 (fun _ _ => .any)) fun x8 => (bif (!x8) then (some [.v (.b false)]) else (ob (F22 fuel x1.1 x1.2 1 (rowsF 1 [(.ro false (.pr (.int .i64) (.pr (.int .i64) .nil)) 4 (rowsF 2 [(.i .i64 2), (.i .i64 2), (.i .i64 2), (.i .i64 4), (.i .i64 4), (.i .i64 4), (.i .i64 4), (.i .i64 2)]))]) 3 3) fun x9 => (bif ((x9 == (-1)) == true) then (ob (F22 fuel x1.1 x1.2 1 (rowsF 1 [(.ro false (.pr (.int .i64) (.pr (.int .i64) .nil)) 4 (rowsF 2 [(.i .i64 2), (.i .i64 2), (.i .i64 2), (.i .i64 4), (.i .i64 4), (.i .i64 4), (.i .i64 4), (.i .i64 2)]))]) 2 3) fun x10 => (bif ((x10 == 0) == true) then (ob (F22 fuel x1.1 x1.2 1 (rowsF 1 [(.ro false (.pr (.int .i64) (.pr (.int .i64) .nil)) 4 (rowsF 2 [(.i .i64 2), (.i .i64 2), (.i .i64 2), (.i .i64 4), (.i .i64 4), (.i .i64 4), (.i .i64 4), (.i .i64 2)]))]) 1 1) fun x11 => (bif ((x11 == 1) == true) then (ob (F27 fuel x2.1 x2.2 0 (fun _ _ => .any) x3.1 x3.2 0 (fun _ _ => .any) 5) fun x12 => (bif (x12 == true) then (ob (F27 fuel x2.1 x2.2 0 (fun _ _ => .any) x3.1 x3.2 0 (fun _ _ => .any) 6) fun x13 => (bif ((!x13) == true) then (ob (F29 fuel x2.1 x2.2 0 (fun _ _ => .any) 12 13 0) fun x14 => (bif (x14 == true) then (ob (F29 fuel x2.1 x2.2 0 (fun _ _ => .any) 12 13 1) fun x15 => (bif ((!x15) == true) then (ob (F20 fuel x3.1 x3.2 0 (fun _ _ => .any)) fun x16 => (some [.v (.b ((x16.1 == 15) && ((x16.2.1 == 0) && ((x16.2.2.1 == 20) && ((x16.2.2.2 == 5) && true)))))])) else (some [.v (.b false)]))) else (some [.v (.b false)]))) else (some [.v (.b false)]))) else (some [.v (.b false)]))) else (some [.v (.b false)]))) else (some [.v (.b false)]))) else (some [.v (.b false)]))))) else (some [.v (.b false)])) else (some [.v (.b false)])) else (some [.v (.b false)]))) else (some [.v (.b false)])))))))) := by kernel_rfl

theorem e15 (fuel : Nat) : evalF (C67 fuel) fuel A15 [] = ob (F15 fuel) fun t => some [.v (.b t)] := by
  rw [walk15, ← f15]
  simp only [D15]

def O15 (fuel : Nat) : Ora where
  o := fun args {ρ} K =>
    wn args <|
    (ob (F15 fuel) fun t => K [.v (.b t)])
  nat := fun args {ρ} K => by
    simp only [bind_wc, bind_wn, bind_wv, bind_wagg, bind_wI, bind_wB, bind_wS, bind_wL, bind_wP, bind_wFn, bind_ob, Option.bind_some]

theorem d15 {P : Program} (fuel : Nat) (hmix : P.follows .mixedOrders = true) (hC : Sound P (C67 fuel)) (hF : FFits P 15 A15) (args res : List A) (h : (O15 fuel).o args some = some res) : Den P 15 args res := by
  obtain ⟨hn, z0⟩ := inv_wn h
  cases hn
  exact Den.weaken .nil (evalF_sound hmix hC hF ((e15 fuel).trans z0))

def C68 (fuel : Nat) : Oracle := (C67 fuel).add 15 (fun _ => true) (O15 fuel)

/-- shipyard/shipyardref13.Where -/
def A23v1 : AC := (.seq (.block 1
  (.region 7 [mv 21 5, o1 22 (.fieldAddr 25 (tm 2) 1 1), o1 23 (.load 23 none (tm 22)), mv 24 6, o1 25 (.indexAddr 23 22 1 (tm 23) (tm 24)), o1 26 (.load 22 none (tm 25)), o1 27 (.load 34 (some 2) (tm 3)), o1 28 (.call 40 [(tm 26), (tm 27)] [22, 34] .snap), o1 29 (.unOp .neg 3 (tm 28)), o1 30 (.mm false [(tm 21), (tm 29)] [3, 3]), o1 5 (.assign (tm 30))] 0 (some [[], [], [1], [], [1, 2, 3], (rl 1 4 []), [], (rl 1 6 []), (rl 1 7 []), (rl 0 9 []), (rl 0 10 [])]))) []
  (.region 6 [mv 19 6, o1 20 (.binOp .add 3 (tm 19) (ic 1) 3), o1 6 (.assign (tm 20))] 0 none))
def A23v2 : AC := (.seq (.seq (.region 5 [mv 14 6, o1 15 (.fieldAddr 25 (tm 2) 1 1), o1 16 (.load 23 none (tm 15)), o1 17 (.len 23 false (tm 16)), o1 18 (.binOp .lss 3 (tm 14) (tm 17) 3)] 0 none) []
  (.cond (tm 18)
  .skip
  (.exit 0 (rl 0 5 (rl 6 26 []))))) (rl 14 5 [])
  A23v1)
def A23v3 : AC := (.seq (.region 8 [mv 31 5, o1 4 (.assign (tm 31))] 0 none) []
  (.ret (rl 0 4 (rl 5 27 []))))
def A23v4 : AC := (.seq (.region 3 [o1 10 (.fieldAddr 25 (tm 2) 0 0), o1 11 (.load 22 none (tm 10)), o1 12 (.load 34 (some 2) (tm 3)), o1 13 (.call 40 [(tm 11), (tm 12)] [22, 34] .snap), o1 5 (.assign (tm 13))] 0 none) []
  (.seq (.seq (.region 4 [o1 6 (.assign (ic 0))] 0 none) []
  (.block 0
  (.loop [] (0 :: 1 :: 4 :: (rl 7 25 []))
    A23v2))) (6 :: (rl 14 17 []))
  A23v3))
def A23 : AF := ⟨32, [.tmp 4],
  (.seq (.region 0 [o1 2 (.box 0 25 (tm 0)), o1 3 (.box 1 34 (tm 1)), o1 4 (.assign (ic 0))] 2 none) []
  (.seq (.seq (.region 1 [o1 7 (.load 25 (some 2) (tm 2)), o1 8 (.call 14 [(tm 7)] [25] .snap), o1 9 (.binOp .neq 27 (tm 8) (ic 0) 27)] 0 none) []
  (.cond (tm 9)
  (.seq (.region 2 [o1 4 (.assign (ic (-1)))] 0 none) []
    (.ret (rl 0 4 (rl 5 27 []))))
  .skip)) [4, 7, 8, 9]
  A23v4))⟩

def B23v1 (C : Oracle) (fuel : Nat) {ρ : Type} : St → (Ex → St → Option ρ) → Option ρ := fun st k => evalC C fuel A23v2 st k
def N23v1 : St → Option St := fun s => s.norm (0 :: 1 :: 4 :: (rl 7 25 [])) 2

def s23v0 (x17 : Int) (x18 : Int) (x19 : Nat) (x20 : Nat → Nat → CV) (x21 : Nat) (x22 : Nat → Nat → CV) (x23 : Int) (x24 : Int) : St := ⟨(.u :: .u :: .x (.ptr 0 0) :: .x (.ptr 1 0) :: .u :: .x (.c (.i .i64 x17)) :: .x (.c (.i .i64 x18)) :: (us 25 [])), [.box [(.c (.ro false (.pr (.int .i64) (.pr (.int .i64) .nil)) x19 x20)), (.c (.ro false (.pr (.sl (.pr (.int .i64) (.pr (.int .i64) .nil))) .nil) x21 x22))], .box [(.c (.i .i64 x23)), (.c (.i .i64 x24))]]⟩

def s23v1 (x26 : Int) (x19 : Nat) (x20 : Nat → Nat → CV) (x21 : Nat) (x22 : Nat → Nat → CV) (x23 : Int) (x24 : Int) : St := ⟨(us 5 (.x (.c (.i .i64 x26)) :: (us 26 []))), [.box [(.c (.ro false (.pr (.int .i64) (.pr (.int .i64) .nil)) x19 x20)), (.c (.ro false (.pr (.sl (.pr (.int .i64) (.pr (.int .i64) .nil))) .nil) x21 x22))], .box [(.c (.i .i64 x23)), (.c (.i .i64 x24))]]⟩

def L23v1 {ρ : Type} (fuel : Nat) (x19 : Nat) (x20 : Nat → Nat → CV) (x21 : Nat) (x22 : Nat → Nat → CV) (x23 : Int) (x24 : Int) : Nat → Int → Int → (Int → Option ρ) → Option ρ
  | 0, _, _, _ => none
  | m + 1, x17, x18, k0 =>
    (bif (decide (x18 < (Int.ofNat x21))) then (bif (inb x18 x21) then (ob (F40 fuel (CV.len (x22 (Int.toNat x18) 0)) (CV.el (x22 (Int.toNat x18) 0)) x23 x24) fun x25 => (L23v1 fuel x19 x20 x21 x22 x23 x24 m (if (w64 (0 - x25)) < x17 then (w64 (0 - x25)) else x17) (w64 (x18 + 1)) k0)) else none) else (k0 x17))

theorem nl23v1 {ρ σ : Type} (fuel : Nat) (x19 : Nat) (x20 : Nat → Nat → CV) (x21 : Nat) (x22 : Nat → Nat → CV) (x23 : Int) (x24 : Int) (g : ρ → Option σ) : ∀ (m : Nat) (x17 : Int) (x18 : Int) (k0 : Int → Option ρ), ob (L23v1 fuel x19 x20 x21 x22 x23 x24 m x17 x18 k0) g = L23v1 fuel x19 x20 x21 x22 x23 x24 m x17 x18 (fun x26 => ob (k0 x26) g)
  | 0, _, _, _ => rfl
  | m + 1, x17, x18, k0 => by
    simp only [L23v1, ob_bif, ob_ob, ob_none, nl23v1 fuel x19 x20 x21 x22 x23 x24 g m]

theorem r23v1 (fuel : Nat) (m : Nat) {ρ : Type} (k : Ex → St → Option ρ) (x19 : Nat) (x20 : Nat → Nat → CV) (x21 : Nat) (x22 : Nat → Nat → CV) (x23 : Int) (x24 : Int) (x17 : Int) (x18 : Int) :
    loopH (B23v1 (C68 fuel) fuel) N23v1 (m + 1) (s23v0 x17 x18 x19 x20 x21 x22 x23 x24) k =
    (bif (decide (x18 < (Int.ofNat x21))) then (bif (inb x18 x21) then (ob (F40 fuel (CV.len (x22 (Int.toNat x18) 0)) (CV.el (x22 (Int.toNat x18) 0)) x23 x24) fun x25 => (loopH (B23v1 (C68 fuel) fuel) N23v1 m (s23v0 (if (w64 (0 - x25)) < x17 then (w64 (0 - x25)) else x17) (w64 (x18 + 1)) x19 x20 x21 x22 x23 x24) k)) else none) else (k (.exit 0) (s23v1 x17 x19 x20 x21 x22 x23 x24))) := by kernel_rfl

theorem q23v1 (fuel : Nat) (x19 : Nat) (x20 : Nat → Nat → CV) (x21 : Nat) (x22 : Nat → Nat → CV) (x23 : Int) (x24 : Int) {ρ : Type} (k : Ex → St → Option ρ) : ∀ (m : Nat) (x17 : Int) (x18 : Int),
    loopH (B23v1 (C68 fuel) fuel) N23v1 m (s23v0 x17 x18 x19 x20 x21 x22 x23 x24) k = L23v1 fuel x19 x20 x21 x22 x23 x24 m x17 x18 (fun x26 => k (.exit 0) (s23v1 x26 x19 x20 x21 x22 x23 x24))
  | 0, _, _ => rfl
  | m + 1, x17, x18 => by
    rw [r23v1]
    simp only [L23v1, q23v1 fuel x19 x20 x21 x22 x23 x24 k m]

def D23 {ρ : Type} (fuel : Nat) (x1 : Nat) (x2 : Nat → Nat → CV) (x3 : Nat) (x4 : Nat → Nat → CV) (x5 : Int) (x6 : Int) (k : Int → Option ρ) : Option ρ :=
  (ob (F14 fuel x1 x2 x3 x4) fun x7 => (bif (x7 != 0) then (k (-1)) else (ob (F40 fuel x1 x2 x5 x6) fun x8 => (L23v1 fuel x1 x2 x3 x4 x5 x6 fuel x8 0
    (fun x27 => (k x27))))))

def F23 (fuel : Nat) (x1 : Nat) (x2 : Nat → Nat → CV) (x3 : Nat) (x4 : Nat → Nat → CV) (x5 : Int) (x6 : Int) : Option (Int) := D23 fuel x1 x2 x3 x4 x5 x6 some

theorem n23 {ρ σ : Type} (fuel : Nat) (x1 : Nat) (x2 : Nat → Nat → CV) (x3 : Nat) (x4 : Nat → Nat → CV) (x5 : Int) (x6 : Int) (k : (Int) → Option ρ) (g : ρ → Option σ) : ob (D23 fuel x1 x2 x3 x4 x5 x6 k) g = D23 fuel x1 x2 x3 x4 x5 x6 fun t => ob (k t) g := by
  simp only [D23, ob_bif, ob_ob, ob_none, nl23v1]

theorem f23 {ρ : Type} (fuel : Nat) (x1 : Nat) (x2 : Nat → Nat → CV) (x3 : Nat) (x4 : Nat → Nat → CV) (x5 : Int) (x6 : Int) (k : (Int) → Option ρ) : D23 fuel x1 x2 x3 x4 x5 x6 k = ob (F23 fuel x1 x2 x3 x4 x5 x6) k := by
  unfold F23
  rw [n23]
  simp only [ob_some]

def s23v2 (x1 : Nat) (x2 : Nat → Nat → CV) (x3 : Nat) (x4 : Nat → Nat → CV) (x5 : Int) (x6 : Int) (x8 : Int) : St := ⟨(.agg [(.c (.ro false (.pr (.int .i64) (.pr (.int .i64) .nil)) x1 x2)), (.c (.ro false (.pr (.sl (.pr (.int .i64) (.pr (.int .i64) .nil))) .nil) x3 x4))] :: .agg [(.c (.i .i64 x5)), (.c (.i .i64 x6))] :: .x (.ptr 0 0) :: .x (.ptr 1 0) :: .u :: .x (.c (.i .i64 x8)) :: .x (.c (.i .i64 0)) :: (us 3 [.x (.ptr 0 0), .x (.c (.ro false (.pr (.int .i64) (.pr (.int .i64) .nil)) x1 x2)), .agg [(.c (.i .i64 x5)), (.c (.i .i64 x6))], .x (.c (.i .i64 x8)), .undef, .undef, .undef, .undef, .undef, .undef, .undef, .undef, .undef, .undef, .undef, .undef, .undef, .undef, .undef, .undef, .undef, .undef])), [.box [(.c (.ro false (.pr (.int .i64) (.pr (.int .i64) .nil)) x1 x2)), (.c (.ro false (.pr (.sl (.pr (.int .i64) (.pr (.int .i64) .nil))) .nil) x3 x4))], .box [(.c (.i .i64 x5)), (.c (.i .i64 x6))]]⟩

theorem walk23 (fuel : Nat) (x1 : Nat) (x2 : Nat → Nat → CV) (x3 : Nat) (x4 : Nat → Nat → CV) (x5 : Int) (x6 : Int) :
    evalF (C68 fuel) fuel A23 [.agg [(.ro false (.pr (.int .i64) (.pr (.int .i64) .nil)) x1 x2), (.ro false (.pr (.sl (.pr (.int .i64) (.pr (.int .i64) .nil))) .nil) x3 x4)], .agg [(.i .i64 x5), (.i .i64 x6)]] =
    (ob (F14 fuel x1 x2 x3 x4) fun x7 => (bif (x7 != 0) then (some [.v (.i .i64 (-1))]) else (ob (F40 fuel x1 x2 x5 x6) fun x8 => (loopN (B23v1 (C68 fuel) fuel) N23v1 fuel (s23v2 x1 x2 x3 x4 x5 x6 x8) (kBlk 0 (kSeq (C68 fuel) fuel (6 :: (rl 14 17 [])) A23v3 (finish A23))))))) := by kernel_rfl

theorem t23v1 (fuel : Nat) {ρ : Type} (k : Ex → St → Option ρ) (x1 : Nat) (x2 : Nat → Nat → CV) (x3 : Nat) (x4 : Nat → Nat → CV) (x5 : Int) (x6 : Int) (x8 : Int) :
    loopN (B23v1 (C68 fuel) fuel) N23v1 fuel (s23v2 x1 x2 x3 x4 x5 x6 x8) k =
    L23v1 fuel x1 x2 x3 x4 x5 x6 fuel x8 0 (fun x26 => k (.exit 0) (s23v1 x26 x1 x2 x3 x4 x5 x6)) :=
  (loopN_at (st' := (s23v0 x8 0 x1 x2 x3 x4 x5 x6)) (by kernel_rfl)).trans (q23v1 fuel x1 x2 x3 x4 x5 x6 k fuel x8 0)

theorem g23v2 (fuel : Nat) (x27 : Int) (x1 : Nat) (x2 : Nat → Nat → CV) (x3 : Nat) (x4 : Nat → Nat → CV) (x5 : Int) (x6 : Int) :
    (kBlk 0 (kSeq (C68 fuel) fuel (6 :: (rl 14 17 [])) A23v3 (finish A23))) (.exit 0) (s23v1 x27 x1 x2 x3 x4 x5 x6) =
    (some [.v (.i .i64 x27)]) := by kernel_rfl

theorem e23 (fuel : Nat) (x1 : Nat) (x2 : Nat → Nat → CV) (x3 : Nat) (x4 : Nat → Nat → CV) (x5 : Int) (x6 : Int) : evalF (C68 fuel) fuel A23 [.agg [(.ro false (.pr (.int .i64) (.pr (.int .i64) .nil)) x1 x2), (.ro false (.pr (.sl (.pr (.int .i64) (.pr (.int .i64) .nil))) .nil) x3 x4)], .agg [(.i .i64 x5), (.i .i64 x6)]] = ob (F23 fuel x1 x2 x3 x4 x5 x6) fun t => some [.v (.i .i64 t)] := by
  rw [walk23, ← f23]
  simp only [D23, t23v1, g23v2]

def O23 (fuel : Nat) : Ora where
  o := fun args {ρ} K =>
    wc args fun a1 l2 =>
    wagg a1 fun l3 =>
    wc l3 fun c4 l5 =>
    wL (.pr (.int .i64) (.pr (.int .i64) .nil)) c4 fun y6 y7 =>
    wc l5 fun c9 l10 =>
    wL (.pr (.sl (.pr (.int .i64) (.pr (.int .i64) .nil))) .nil) c9 fun y11 y12 =>
    wn l10 <|
    wc l2 fun a14 l15 =>
    wagg a14 fun l16 =>
    wc l16 fun c17 l18 =>
    wI .i64 c17 fun y19 =>
    wc l18 fun c21 l22 =>
    wI .i64 c21 fun y23 =>
    wn l22 <|
    wn l15 <|
    (ob (F23 fuel y6 y7 y11 y12 y19 y23) fun t => K [.v (.i .i64 t)])
  nat := fun args {ρ} K => by
    simp only [bind_wc, bind_wn, bind_wv, bind_wagg, bind_wI, bind_wB, bind_wS, bind_wL, bind_wP, bind_wFn, bind_ob, Option.bind_some]

theorem d23 {P : Program} (fuel : Nat) (hmix : P.follows .mixedOrders = true) (hC : Sound P (C68 fuel)) (hF : FFits P 23 A23) (args res : List A) (h : (O23 fuel).o args some = some res) : Den P 23 args res := by
  obtain ⟨a1, l2, rfl, z0⟩ := inv_wc h
  obtain ⟨l3, rfl, z1⟩ := inv_wagg z0
  obtain ⟨c4, l5, rfl, z2⟩ := inv_wc z1
  obtain ⟨y6, y7, h8, z3⟩ := inv_wL z2
  obtain ⟨c9, l10, rfl, z4⟩ := inv_wc z3
  obtain ⟨y11, y12, h13, z5⟩ := inv_wL z4
  obtain ⟨hn, z6⟩ := inv_wn z5
  cases hn
  obtain ⟨a14, l15, rfl, z7⟩ := inv_wc z6
  obtain ⟨l16, rfl, z8⟩ := inv_wagg z7
  obtain ⟨c17, l18, rfl, z9⟩ := inv_wc z8
  obtain ⟨y19, h20, z10⟩ := inv_wI z9
  obtain ⟨c21, l22, rfl, z11⟩ := inv_wc z10
  obtain ⟨y23, h24, z12⟩ := inv_wI z11
  obtain ⟨hn, z13⟩ := inv_wn z12
  cases hn
  obtain ⟨hn, z14⟩ := inv_wn z13
  cases hn
  exact Den.weaken (.cons (WkA.agg (.cons h8 (.cons h13 .nil))) (.cons (WkA.agg (.cons (Wk.i h20) (.cons (Wk.i h24) .nil))) .nil)) (evalF_sound hmix hC hF ((e23 fuel y6 y7 y11 y12 y19 y23).trans z14))

def C69 (fuel : Nat) : Oracle := (C68 fuel).add 23 (fun _ => true) (O23 fuel)

/-- shipyard/shipyardlaw13.RegionWheres -/
def A5 : AF := ⟨19, [.tmp 4],
  (.seq (.region 0 [o1 2 (.box 0 25 (tm 0)), o1 3 (.box 1 34 (tm 1)), o1 4 (.assign (.const (.bool false)))] 2 none) []
  (.seq (.region 1 [o1 5 (.load 25 (some 2) (tm 2)), o1 6 (.call 12 [(tm 5)] [25] .snap), mv 7 6, og 8 (.load 25 (some 2) (tm 2)) 7 false, og 9 (.load 34 (some 2) (tm 3)) 7 false, og 10 (.call 22 [(tm 8), (tm 9)] [25, 34] .snap) 7 false, og 11 (.load 25 (some 2) (tm 2)) 7 false, og 12 (.load 34 (some 2) (tm 3)) 7 false, og 13 (.call 23 [(tm 11), (tm 12)] [25, 34] .snap) 7 false, og 14 (.binOp .eql 3 (tm 10) (tm 13) 3) 7 false, o1 15 (.pick (tm 7) (.const (.bool true)) (tm 14)), mv 16 15, og 17 (.call 15 [] [] .snap) 16 true, o1 18 (.pick (tm 16) (tm 17) (.const (.bool false))), o1 4 (.assign (tm 18))] 0 (some [[], [0], [0, 1], [0, 1, 2], [0, 1, 2], (rl 0 5 []), [0, 1, 2], [0, 1, 2], (rl 0 8 []), (rl 0 9 []), (rl 0 10 []), (rl 0 11 []), (rl 0 12 []), (rl 0 13 []), (rl 0 14 [])])) []
  (.ret (rl 0 4 (rl 5 14 [])))))⟩

def D5 {ρ : Type} (fuel : Nat) (x1 : Nat) (x2 : Nat → Nat → CV) (x3 : Nat) (x4 : Nat → Nat → CV) (x5 : Int) (x6 : Int) (k : Bool → Option ρ) : Option ρ :=
  (ob (F12 fuel x1 x2 x3 x4) fun x7 => (bif (x7 == false) then (ob (F22 fuel x1 x2 x3 x4 x5 x6) fun x8 => (ob (F23 fuel x1 x2 x3 x4 x5 x6) fun x9 => (bif ((x8 == x9) == true) then (ob (F15 fuel) fun x10 => (k x10)) else (k false)))) else (ob (F15 fuel) fun x11 => (k x11))))

def F5 (fuel : Nat) (x1 : Nat) (x2 : Nat → Nat → CV) (x3 : Nat) (x4 : Nat → Nat → CV) (x5 : Int) (x6 : Int) : Option (Bool) := D5 fuel x1 x2 x3 x4 x5 x6 some

theorem n5 {ρ σ : Type} (fuel : Nat) (x1 : Nat) (x2 : Nat → Nat → CV) (x3 : Nat) (x4 : Nat → Nat → CV) (x5 : Int) (x6 : Int) (k : (Bool) → Option ρ) (g : ρ → Option σ) : ob (D5 fuel x1 x2 x3 x4 x5 x6 k) g = D5 fuel x1 x2 x3 x4 x5 x6 fun t => ob (k t) g := by
  simp only [D5, ob_bif, ob_ob, ob_none]

theorem f5 {ρ : Type} (fuel : Nat) (x1 : Nat) (x2 : Nat → Nat → CV) (x3 : Nat) (x4 : Nat → Nat → CV) (x5 : Int) (x6 : Int) (k : (Bool) → Option ρ) : D5 fuel x1 x2 x3 x4 x5 x6 k = ob (F5 fuel x1 x2 x3 x4 x5 x6) k := by
  unfold F5
  rw [n5]
  simp only [ob_some]

theorem walk5 (fuel : Nat) (x1 : Nat) (x2 : Nat → Nat → CV) (x3 : Nat) (x4 : Nat → Nat → CV) (x5 : Int) (x6 : Int) :
    evalF (C69 fuel) fuel A5 [.agg [(.ro false (.pr (.int .i64) (.pr (.int .i64) .nil)) x1 x2), (.ro false (.pr (.sl (.pr (.int .i64) (.pr (.int .i64) .nil))) .nil) x3 x4)], .agg [(.i .i64 x5), (.i .i64 x6)]] =
    (ob (F12 fuel x1 x2 x3 x4) fun x7 => (bif (x7 == false) then (ob (F22 fuel x1 x2 x3 x4 x5 x6) fun x8 => (ob (F23 fuel x1 x2 x3 x4 x5 x6) fun x9 => (bif ((x8 == x9) == true) then (ob (F15 fuel) fun x10 => (some [.v (.b x10)])) else (some [.v (.b false)])))) else (ob (F15 fuel) fun x11 => (some [.v (.b x11)])))) := by kernel_rfl

theorem e5 (fuel : Nat) (x1 : Nat) (x2 : Nat → Nat → CV) (x3 : Nat) (x4 : Nat → Nat → CV) (x5 : Int) (x6 : Int) : evalF (C69 fuel) fuel A5 [.agg [(.ro false (.pr (.int .i64) (.pr (.int .i64) .nil)) x1 x2), (.ro false (.pr (.sl (.pr (.int .i64) (.pr (.int .i64) .nil))) .nil) x3 x4)], .agg [(.i .i64 x5), (.i .i64 x6)]] = ob (F5 fuel x1 x2 x3 x4 x5 x6) fun t => some [.v (.b t)] := by
  rw [walk5, ← f5]
  simp only [D5]

def O5 (fuel : Nat) : Ora where
  o := fun args {ρ} K =>
    wc args fun a1 l2 =>
    wagg a1 fun l3 =>
    wc l3 fun c4 l5 =>
    wL (.pr (.int .i64) (.pr (.int .i64) .nil)) c4 fun y6 y7 =>
    wc l5 fun c9 l10 =>
    wL (.pr (.sl (.pr (.int .i64) (.pr (.int .i64) .nil))) .nil) c9 fun y11 y12 =>
    wn l10 <|
    wc l2 fun a14 l15 =>
    wagg a14 fun l16 =>
    wc l16 fun c17 l18 =>
    wI .i64 c17 fun y19 =>
    wc l18 fun c21 l22 =>
    wI .i64 c21 fun y23 =>
    wn l22 <|
    wn l15 <|
    (ob (F5 fuel y6 y7 y11 y12 y19 y23) fun t => K [.v (.b t)])
  nat := fun args {ρ} K => by
    simp only [bind_wc, bind_wn, bind_wv, bind_wagg, bind_wI, bind_wB, bind_wS, bind_wL, bind_wP, bind_wFn, bind_ob, Option.bind_some]

theorem d5 {P : Program} (fuel : Nat) (hmix : P.follows .mixedOrders = true) (hC : Sound P (C69 fuel)) (hF : FFits P 5 A5) (args res : List A) (h : (O5 fuel).o args some = some res) : Den P 5 args res := by
  obtain ⟨a1, l2, rfl, z0⟩ := inv_wc h
  obtain ⟨l3, rfl, z1⟩ := inv_wagg z0
  obtain ⟨c4, l5, rfl, z2⟩ := inv_wc z1
  obtain ⟨y6, y7, h8, z3⟩ := inv_wL z2
  obtain ⟨c9, l10, rfl, z4⟩ := inv_wc z3
  obtain ⟨y11, y12, h13, z5⟩ := inv_wL z4
  obtain ⟨hn, z6⟩ := inv_wn z5
  cases hn
  obtain ⟨a14, l15, rfl, z7⟩ := inv_wc z6
  obtain ⟨l16, rfl, z8⟩ := inv_wagg z7
  obtain ⟨c17, l18, rfl, z9⟩ := inv_wc z8
  obtain ⟨y19, h20, z10⟩ := inv_wI z9
  obtain ⟨c21, l22, rfl, z11⟩ := inv_wc z10
  obtain ⟨y23, h24, z12⟩ := inv_wI z11
  obtain ⟨hn, z13⟩ := inv_wn z12
  cases hn
  obtain ⟨hn, z14⟩ := inv_wn z13
  cases hn
  exact Den.weaken (.cons (WkA.agg (.cons h8 (.cons h13 .nil))) (.cons (WkA.agg (.cons (Wk.i h20) (.cons (Wk.i h24) .nil))) .nil)) (evalF_sound hmix hC hF ((e5 fuel y6 y7 y11 y12 y19 y23).trans z14))

def C70 (fuel : Nat) : Oracle := (C69 fuel).add 5 (fun _ => true) (O5 fuel)

/-- shipyard/shipyardlaw13.RegionHoles -/
def A11v1 : AC := (.region 6 [mv 39 8, o1 40 (.binOp .add 3 (tm 39) (ic 1) 3), o1 8 (.assign (tm 40))] 0 none)
def A11v2 : AC := (.seq (.block 1
  (.seq (.region 7 [mv 41 8, mv 42 1, o1 43 (.binOp .neq 3 (tm 41) (tm 42) 3)] 0 none) []
    (.cond (tm 43)
    (.region 8 [o1 44 (.fieldAddr 25 (tm 7) 1 1), o1 45 (.load 23 none (tm 44)), o1 46 (.fieldAddr 25 (tm 3) 1 1), o1 47 (.load 23 none (tm 46)), mv 48 8, o1 49 (.indexAddr 23 22 1 (tm 47) (tm 48)), o1 50 (.load 22 none (tm 49)), o1 51 (.buildSlice 0 23 22 (.pr (.sl (.pr (.int .i64) (.pr (.int .i64) .nil))) .nil) 1 [.c (.ro true .nil 0 (fun _ _ => .any))] [(0, (tm 50))]), o1 52 (.append 1 23 22 (.pr (.sl (.pr (.int .i64) (.pr (.int .i64) .nil))) .nil) 24 (tm 45) (tm 51)), o1 53 (.fieldAddr 25 (tm 7) 1 1), o0 (.store 23 1 (tm 53) (tm 52))] 2 (some [[], [0], [], [2], [], [2, 3, 4], (rl 2 4 []), (rl 2 5 []), (rl 0 8 []), (rl 0 9 []), (rl 0 10 [])]))
    .skip))) (rl 41 13 [])
  A11v1)
def A11v3 : AC := (.seq (.seq (.region 5 [mv 34 8, o1 35 (.fieldAddr 25 (tm 3) 1 1), o1 36 (.load 23 none (tm 35)), o1 37 (.len 23 false (tm 36)), o1 38 (.binOp .lss 3 (tm 34) (tm 37) 3)] 0 none) []
  (.cond (tm 38)
  .skip
  (.exit 0 (0 :: 2 :: 4 :: 6 :: (rl 8 123 []))))) (rl 34 5 [])
  A11v2)
def A11v4 : AC := (.seq (.block 3
  (.region 13 [o1 66 (.fieldAddr 25 (tm 9) 0 0), o1 67 (.load 22 none (tm 66)), o1 68 (.fieldAddr 25 (tm 3) 1 1), o1 69 (.load 23 none (tm 68)), mv 70 1, o1 71 (.indexAddr 23 22 1 (tm 69) (tm 70)), o1 72 (.load 22 none (tm 71)), mv 73 10, o1 74 (.indexAddr 22 34 2 (tm 72) (tm 73)), o1 75 (.load 34 (some 2) (tm 74)), o1 76 (.buildSlice 0 22 34 (.pr (.int .i64) (.pr (.int .i64) .nil)) 1 [.c (.i .i64 0), .c (.i .i64 0)] [(0, (tm 75))]), o1 77 (.append 1 22 34 (.pr (.int .i64) (.pr (.int .i64) .nil)) 16 (tm 67) (tm 76)), o1 78 (.fieldAddr 25 (tm 9) 0 0), o0 (.store 22 1 (tm 78) (tm 77))] 2 (some [[], [0], [], [2], [], [2, 3, 4], (rl 2 4 []), [], (rl 2 6 []), (rl 2 7 []), (rl 2 8 []), (rl 0 11 []), (rl 0 12 []), (rl 0 13 [])]))) []
  (.region 12 [mv 64 10, o1 65 (.binOp .sub 3 (tm 64) (ic 1) 3), o1 10 (.assign (tm 65))] 0 none))
def A11v5 : AC := (.seq (.seq (.region 11 [mv 62 10, o1 63 (.binOp .geq 3 (tm 62) (ic 0) 3)] 0 none) []
  (.cond (tm 63)
  .skip
  (.exit 2 (0 :: 1 :: 2 :: 4 :: 6 :: 8 :: (rl 10 121 []))))) [62, 63]
  A11v4)
def A11v6 : AC := (.seq (.region 16 [o1 97 (.load 25 (some 2) (tm 9)), o1 98 (.load 34 (some 2) (tm 5)), o1 99 (.call 22 [(tm 97), (tm 98)] [25, 34] .snap), o1 11 (.assign (tm 99))] 0 none) []
  (.seq (.region 17 [mv 100 11, o1 101 (.binOp .lss 3 (tm 100) (ic 0) 3), mv 102 101, og 103 (.load 25 (some 2) (tm 7)) 102 false, og 104 (.load 34 (some 2) (tm 5)) 102 false, og 105 (.call 22 [(tm 103), (tm 104)] [25, 34] .snap) 102 false, og 106 (.binOp .eql 3 (tm 105) (ic 1) 3) 102 false, o1 107 (.pick (tm 102) (.const (.bool true)) (tm 106)), mv 108 107, og 109 (.move (tm 11)) 108 true, og 110 (.binOp .leq 3 (tm 109) (ic 0) 3) 108 true, og 111 (.move (tm 110)) 108 true, og 112 (.load 25 (some 2) (tm 3)) 111 false, og 113 (.load 34 (some 2) (tm 5)) 111 false, og 114 (.call 22 [(tm 112), (tm 113)] [25, 34] .snap) 111 false, og 115 (.binOp .eql 3 (tm 114) (ic (-1)) 3) 111 false, og 116 (.pick (tm 111) (.const (.bool true)) (tm 115)) 108 true, o1 117 (.pick (tm 108) (tm 116) (.const (.bool false))), mv 118 117, og 119 (.move (tm 11)) 118 true, og 120 (.binOp .neq 3 (tm 119) (ic 0) 3) 118 true, og 121 (.move (tm 120)) 118 true, og 122 (.load 25 (some 2) (tm 3)) 121 false, og 123 (.load 34 (some 2) (tm 5)) 121 false, og 124 (.call 22 [(tm 122), (tm 123)] [25, 34] .snap) 121 false, og 125 (.binOp .eql 3 (tm 124) (ic 0) 3) 121 false, og 126 (.pick (tm 121) (.const (.bool true)) (tm 125)) 118 true, o1 127 (.pick (tm 118) (tm 126) (.const (.bool false))), mv 128 127, og 129 (.call 15 [] [] .snap) 128 true, o1 130 (.pick (tm 128) (tm 129) (.const (.bool false))), o1 6 (.assign (tm 130))] 0 none) []
  (.ret (rl 0 6 (rl 7 124 [])))))
def A11v7 : AC := (.seq (.seq (.region 14 [o1 79 (.load 25 (some 2) (tm 7)), o1 80 (.call 13 [(tm 79)] [25] .snap), o1 81 (.binOp .neq 27 (tm 80) (ic 0) 27), mv 82 81, og 83 (.load 25 (some 2) (tm 9)) 82 false, og 84 (.call 13 [(tm 83)] [25] .snap) 82 false, og 85 (.binOp .neq 27 (tm 84) (ic 0) 27) 82 false, o1 86 (.pick (tm 82) (.const (.bool true)) (tm 85)), mv 87 86, og 88 (.load 25 (some 2) (tm 7)) 87 false, og 89 (.call 18 [(tm 88)] [25] .snap) 87 false, og 90 (.load 25 (some 2) (tm 3)) 87 false, og 91 (.call 18 [(tm 90)] [25] .snap) 87 false, og 92 (.load 25 (some 2) (tm 9)) 87 false, og 93 (.call 18 [(tm 92)] [25] .snap) 87 false, og 94 (.binOp .add 3 (tm 91) (tm 93) 3) 87 false, og 95 (.binOp .neq 3 (tm 89) (tm 94) 3) 87 false, o1 96 (.pick (tm 87) (.const (.bool true)) (tm 95))] 0 (some [[], [0], [0, 1], [0, 1, 2], (rl 0 4 []), (rl 0 5 []), (rl 0 6 []), (rl 0 7 []), (rl 0 8 []), (rl 0 9 []), (rl 0 10 []), (rl 0 9 []), (rl 0 12 []), (rl 0 9 []), (rl 0 14 []), (rl 0 15 []), (rl 0 16 []), (rl 0 17 [])])) []
  (.cond (tm 96)
  (.seq (.region 15 [o1 6 (.assign (.const (.bool false)))] 0 none) []
    (.ret (rl 0 6 (rl 7 124 []))))
  .skip)) (6 :: (rl 79 18 []))
  A11v6)
def A11v8 : AC := (.seq (.region 9 [o1 54 (.build 25 [.c (.ro true .nil 0 (fun _ _ => .any)), .c (.ro true .nil 0 (fun _ _ => .any))] [(0, 1), (1, 1)] 0 []), o1 9 (.alloc 0 25 [.c (.ro true .nil 0 (fun _ _ => .any)), .c (.ro true .nil 0 (fun _ _ => .any))]), o0 (.store 25 2 (tm 9) (tm 54))] 1 none) []
  (.seq (.seq (.region 10 [o1 55 (.fieldAddr 25 (tm 3) 1 1), o1 56 (.load 23 none (tm 55)), mv 57 1, o1 58 (.indexAddr 23 22 1 (tm 56) (tm 57)), o1 59 (.load 22 none (tm 58)), o1 60 (.len 22 false (tm 59)), o1 61 (.binOp .sub 3 (tm 60) (ic 1) 3), o1 10 (.assign (tm 61))] 0 none) []
  (.block 2
  (.loop [.cell 9 0 (.pr (.int .i64) (.pr (.int .i64) .nil))] (0 :: 2 :: 4 :: 6 :: 8 :: (rl 11 120 []))
    A11v5))) (10 :: (rl 55 24 []))
  A11v7))
def A11v9 : AC := (.seq (.region 3 [o1 31 (.fieldAddr 25 (tm 3) 0 0), o1 32 (.load 22 none (tm 31)), o1 33 (.build 25 [.c (.ro true .nil 0 (fun _ _ => .any)), .c (.ro true .nil 0 (fun _ _ => .any))] [(0, 1), (1, 1)] 0 [(0, (tm 32))]), o1 7 (.alloc 0 25 [.c (.ro true .nil 0 (fun _ _ => .any)), .c (.ro true .nil 0 (fun _ _ => .any))]), o0 (.store 25 2 (tm 7) (tm 33))] 1 none) []
  (.seq (.seq (.region 4 [o1 8 (.assign (ic 0))] 0 none) []
  (.block 0
  (.loop [.cell 7 1 (.pr (.sl (.pr (.int .i64) (.pr (.int .i64) .nil))) .nil)] (0 :: 2 :: 4 :: 6 :: (rl 9 122 []))
    A11v3))) (8 :: (rl 34 20 []))
  A11v8))
def A11 : AF := ⟨131, [.tmp 6],
  (.seq (.region 0 [o1 3 (.box 0 25 (tm 0)), o1 5 (.box 1 34 (tm 2)), o1 6 (.assign (.const (.bool false)))] 2 none) []
  (.seq (.seq (.region 1 [o1 12 (.load 25 (some 2) (tm 3)), o1 13 (.call 12 [(tm 12)] [25] .snap), mv 14 13, og 15 (.load 25 (some 2) (tm 3)) 14 false, og 16 (.call 13 [(tm 15)] [25] .snap) 14 false, og 17 (.binOp .neq 27 (tm 16) (ic 0) 27) 14 false, o1 18 (.pick (tm 14) (.const (.bool true)) (tm 17)), mv 19 18, og 20 (.move (tm 1)) 19 false, og 21 (.binOp .lss 3 (tm 20) (ic 0) 3) 19 false, o1 22 (.pick (tm 19) (.const (.bool true)) (tm 21)), mv 23 22, og 24 (.move (tm 1)) 23 false, og 25 (.fieldAddr 25 (tm 3) 1 1) 23 false, og 26 (.load 23 none (tm 25)) 23 false, og 27 (.len 23 false (tm 26)) 23 false, og 28 (.binOp .geq 3 (tm 24) (tm 27) 3) 23 false, o1 29 (.pick (tm 23) (.const (.bool true)) (tm 28))] 0 none) []
  (.cond (tm 29)
  (.seq (.region 2 [o1 30 (.call 15 [] [] .snap), o1 6 (.assign (tm 30))] 0 none) []
    (.ret (rl 0 6 (rl 7 124 []))))
  .skip)) (6 :: (rl 12 19 []))
  A11v9))⟩

def B11v1 (C : Oracle) (fuel : Nat) {ρ : Type} : St → (Ex → St → Option ρ) → Option ρ := fun st k => evalC C fuel A11v3 st k
def N11v1 : St → Option St := fun s => s.norm (0 :: 2 :: 4 :: 6 :: (rl 9 122 [])) 4

def s11v0 (x18 : Int) (x19 : Int) (x20 : Nat) (x21 : Nat → Nat → CV) (x22 : Nat) (x23 : Nat → Nat → CV) (x24 : Int) (x25 : Int) (x26 : Nat) (x27 : Nat → Nat → CV) : St := ⟨(.u :: .x (.c (.i .i64 x18)) :: .u :: .x (.ptr 0 0) :: .u :: .x (.ptr 1 0) :: .u :: .x (.ptr 2 0) :: .x (.c (.i .i64 x19)) :: (us 122 [])), [.box [(.c (.ro false (.pr (.int .i64) (.pr (.int .i64) .nil)) x20 x21)), (.c (.ro false (.pr (.sl (.pr (.int .i64) (.pr (.int .i64) .nil))) .nil) x22 x23))], .box [(.c (.i .i64 x24)), (.c (.i .i64 x25))], .box [(.c (.ro false (.pr (.int .i64) (.pr (.int .i64) .nil)) x20 x21)), (.own 3 0 x26)], .arr (.pr (.sl (.pr (.int .i64) (.pr (.int .i64) .nil))) .nil) x26 x27]⟩

def s11v1 (x18 : Int) (x20 : Nat) (x21 : Nat → Nat → CV) (x22 : Nat) (x23 : Nat → Nat → CV) (x24 : Int) (x25 : Int) (x28 : Nat) (x29 : Nat → Nat → CV) : St := ⟨(.u :: .x (.c (.i .i64 x18)) :: .u :: .x (.ptr 0 0) :: .u :: .x (.ptr 1 0) :: .u :: .x (.ptr 2 0) :: (us 123 [])), [.box [(.c (.ro false (.pr (.int .i64) (.pr (.int .i64) .nil)) x20 x21)), (.c (.ro false (.pr (.sl (.pr (.int .i64) (.pr (.int .i64) .nil))) .nil) x22 x23))], .box [(.c (.i .i64 x24)), (.c (.i .i64 x25))], .box [(.c (.ro false (.pr (.int .i64) (.pr (.int .i64) .nil)) x20 x21)), (.own 3 0 x28)], .arr (.pr (.sl (.pr (.int .i64) (.pr (.int .i64) .nil))) .nil) x28 x29]⟩

def L11v1 {ρ : Type} (fuel : Nat) (x18 : Int) (x20 : Nat) (x21 : Nat → Nat → CV) (x22 : Nat) (x23 : Nat → Nat → CV) (x24 : Int) (x25 : Int) : Nat → Int → Nat → (Nat → Nat → CV) → (Nat → (Nat → Nat → CV) → Option ρ) → Option ρ
  | 0, _, _, _, _ => none
  | m + 1, x19, x26, x27, k0 =>
    (bif (decide (x19 < (Int.ofNat x22))) then (bif (x19 != x18) then (bif (inb x19 x22) then (bif (Nat.ble (x26 + 1) 1073741824) then (L11v1 fuel x18 x20 x21 x22 x23 x24 x25 m (w64 (x19 + 1)) (x26 + 1) (joinF x26 x27 (rowsF 1 [(.ro false (.pr (.int .i64) (.pr (.int .i64) .nil)) (CV.len (x23 (Int.toNat x19) 0)) (CV.el (x23 (Int.toNat x19) 0)))])) k0) else none) else none) else (L11v1 fuel x18 x20 x21 x22 x23 x24 x25 m (w64 (x19 + 1)) x26 x27 k0)) else (k0 x26 x27))

theorem nl11v1 {ρ σ : Type} (fuel : Nat) (x18 : Int) (x20 : Nat) (x21 : Nat → Nat → CV) (x22 : Nat) (x23 : Nat → Nat → CV) (x24 : Int) (x25 : Int) (g : ρ → Option σ) : ∀ (m : Nat) (x19 : Int) (x26 : Nat) (x27 : Nat → Nat → CV) (k0 : Nat → (Nat → Nat → CV) → Option ρ), ob (L11v1 fuel x18 x20 x21 x22 x23 x24 x25 m x19 x26 x27 k0) g = L11v1 fuel x18 x20 x21 x22 x23 x24 x25 m x19 x26 x27 (fun x28 x29 => ob (k0 x28 x29) g)
  | 0, _, _, _, _ => rfl
  | m + 1, x19, x26, x27, k0 => by
    simp only [L11v1, ob_bif, ob_ob, ob_none, nl11v1 fuel x18 x20 x21 x22 x23 x24 x25 g m]

theorem r11v1 (fuel : Nat) (m : Nat) {ρ : Type} (k : Ex → St → Option ρ) (x18 : Int) (x20 : Nat) (x21 : Nat → Nat → CV) (x22 : Nat) (x23 : Nat → Nat → CV) (x24 : Int) (x25 : Int) (x19 : Int) (x26 : Nat) (x27 : Nat → Nat → CV) :
    loopH (B11v1 (C70 fuel) fuel) N11v1 (m + 1) (s11v0 x18 x19 x20 x21 x22 x23 x24 x25 x26 x27) k =
    (bif (decide (x19 < (Int.ofNat x22))) then (bif (x19 != x18) then (bif (inb x19 x22) then (bif (Nat.ble (x26 + 1) 1073741824) then (loopH (B11v1 (C70 fuel) fuel) N11v1 m (s11v0 x18 (w64 (x19 + 1)) x20 x21 x22 x23 x24 x25 (x26 + 1) (joinF x26 x27 (rowsF 1 [(.ro false (.pr (.int .i64) (.pr (.int .i64) .nil)) (CV.len (x23 (Int.toNat x19) 0)) (CV.el (x23 (Int.toNat x19) 0)))]))) k) else none) else none) else (loopH (B11v1 (C70 fuel) fuel) N11v1 m (s11v0 x18 (w64 (x19 + 1)) x20 x21 x22 x23 x24 x25 x26 x27) k)) else (k (.exit 0) (s11v1 x18 x20 x21 x22 x23 x24 x25 x26 x27))) := by kernel_rfl

theorem q11v1 (fuel : Nat) (x18 : Int) (x20 : Nat) (x21 : Nat → Nat → CV) (x22 : Nat) (x23 : Nat → Nat → CV) (x24 : Int) (x25 : Int) {ρ : Type} (k : Ex → St → Option ρ) : ∀ (m : Nat) (x19 : Int) (x26 : Nat) (x27 : Nat → Nat → CV),
    loopH (B11v1 (C70 fuel) fuel) N11v1 m (s11v0 x18 x19 x20 x21 x22 x23 x24 x25 x26 x27) k = L11v1 fuel x18 x20 x21 x22 x23 x24 x25 m x19 x26 x27 (fun x28 x29 => k (.exit 0) (s11v1 x18 x20 x21 x22 x23 x24 x25 x28 x29))
  | 0, _, _, _ => rfl
  | m + 1, x19, x26, x27 => by
    rw [r11v1]
    simp only [L11v1, q11v1 fuel x18 x20 x21 x22 x23 x24 x25 k m]

def B11v2 (C : Oracle) (fuel : Nat) {ρ : Type} : St → (Ex → St → Option ρ) → Option ρ := fun st k => evalC C fuel A11v5 st k
def N11v2 : St → Option St := fun s => s.norm (0 :: 2 :: 4 :: 6 :: 8 :: (rl 11 120 [])) 6

def s11v2 (x42 : Int) (x43 : Int) (x44 : Nat) (x45 : Nat → Nat → CV) (x46 : Nat) (x47 : Nat → Nat → CV) (x48 : Int) (x49 : Int) (x50 : Nat) (x51 : Nat → Nat → CV) (x52 : Nat) (x53 : Nat → Nat → CV) : St := ⟨(.u :: .x (.c (.i .i64 x42)) :: .u :: .x (.ptr 0 0) :: .u :: .x (.ptr 1 0) :: .u :: .x (.ptr 2 0) :: .u :: .x (.ptr 4 0) :: .x (.c (.i .i64 x43)) :: (us 120 [])), [.box [(.c (.ro false (.pr (.int .i64) (.pr (.int .i64) .nil)) x44 x45)), (.c (.ro false (.pr (.sl (.pr (.int .i64) (.pr (.int .i64) .nil))) .nil) x46 x47))], .box [(.c (.i .i64 x48)), (.c (.i .i64 x49))], .box [(.c (.ro false (.pr (.int .i64) (.pr (.int .i64) .nil)) x44 x45)), (.own 3 0 x50)], .arr (.pr (.sl (.pr (.int .i64) (.pr (.int .i64) .nil))) .nil) x50 x51, .box [(.own 5 0 x52), (.c (.ro true .nil 0 (fun _ _ => .any)))], .arr (.pr (.int .i64) (.pr (.int .i64) .nil)) x52 x53]⟩

def s11v3 (x44 : Nat) (x45 : Nat → Nat → CV) (x46 : Nat) (x47 : Nat → Nat → CV) (x48 : Int) (x49 : Int) (x50 : Nat) (x51 : Nat → Nat → CV) (x54 : Nat) (x55 : Nat → Nat → CV) : St := ⟨(us 3 (.x (.ptr 0 0) :: .u :: .x (.ptr 1 0) :: .u :: .x (.ptr 2 0) :: .u :: .x (.ptr 4 0) :: (us 121 []))), [.box [(.c (.ro false (.pr (.int .i64) (.pr (.int .i64) .nil)) x44 x45)), (.c (.ro false (.pr (.sl (.pr (.int .i64) (.pr (.int .i64) .nil))) .nil) x46 x47))], .box [(.c (.i .i64 x48)), (.c (.i .i64 x49))], .box [(.c (.ro false (.pr (.int .i64) (.pr (.int .i64) .nil)) x44 x45)), (.own 3 0 x50)], .arr (.pr (.sl (.pr (.int .i64) (.pr (.int .i64) .nil))) .nil) x50 x51, .box [(.own 5 0 x54), (.c (.ro true .nil 0 (fun _ _ => .any)))], .arr (.pr (.int .i64) (.pr (.int .i64) .nil)) x54 x55]⟩

def L11v2 {ρ : Type} (fuel : Nat) (x42 : Int) (x44 : Nat) (x45 : Nat → Nat → CV) (x46 : Nat) (x47 : Nat → Nat → CV) (x48 : Int) (x49 : Int) (x50 : Nat) (x51 : Nat → Nat → CV) : Nat → Int → Nat → (Nat → Nat → CV) → (Nat → (Nat → Nat → CV) → Option ρ) → Option ρ
  | 0, _, _, _, _ => none
  | m + 1, x43, x52, x53, k0 =>
    (bif (decide (x43 ≥ 0)) then (bif (inb x42 x46) then (bif (inb x43 (CV.len (x47 (Int.toNat x42) 0))) then (bif (Nat.ble (x52 + 1) 1073741824) then (L11v2 fuel x42 x44 x45 x46 x47 x48 x49 x50 x51 m (w64 (x43 - 1)) (x52 + 1) (joinF x52 x53 (rowsF 2 [(.i .i64 (CV.int ((CV.el (x47 (Int.toNat x42) 0)) (Int.toNat x43) 0))), (.i .i64 (CV.int ((CV.el (x47 (Int.toNat x42) 0)) (Int.toNat x43) 1)))])) k0) else none) else none) else none) else (k0 x52 x53))

theorem nl11v2 {ρ σ : Type} (fuel : Nat) (x42 : Int) (x44 : Nat) (x45 : Nat → Nat → CV) (x46 : Nat) (x47 : Nat → Nat → CV) (x48 : Int) (x49 : Int) (x50 : Nat) (x51 : Nat → Nat → CV) (g : ρ → Option σ) : ∀ (m : Nat) (x43 : Int) (x52 : Nat) (x53 : Nat → Nat → CV) (k0 : Nat → (Nat → Nat → CV) → Option ρ), ob (L11v2 fuel x42 x44 x45 x46 x47 x48 x49 x50 x51 m x43 x52 x53 k0) g = L11v2 fuel x42 x44 x45 x46 x47 x48 x49 x50 x51 m x43 x52 x53 (fun x54 x55 => ob (k0 x54 x55) g)
  | 0, _, _, _, _ => rfl
  | m + 1, x43, x52, x53, k0 => by
    simp only [L11v2, ob_bif, ob_ob, ob_none, nl11v2 fuel x42 x44 x45 x46 x47 x48 x49 x50 x51 g m]

theorem r11v2 (fuel : Nat) (m : Nat) {ρ : Type} (k : Ex → St → Option ρ) (x42 : Int) (x44 : Nat) (x45 : Nat → Nat → CV) (x46 : Nat) (x47 : Nat → Nat → CV) (x48 : Int) (x49 : Int) (x50 : Nat) (x51 : Nat → Nat → CV) (x43 : Int) (x52 : Nat) (x53 : Nat → Nat → CV) :
    loopH (B11v2 (C70 fuel) fuel) N11v2 (m + 1) (s11v2 x42 x43 x44 x45 x46 x47 x48 x49 x50 x51 x52 x53) k =
    (bif (decide (x43 ≥ 0)) then (bif (inb x42 x46) then (bif (inb x43 (CV.len (x47 (Int.toNat x42) 0))) then (bif (Nat.ble (x52 + 1) 1073741824) then (loopH (B11v2 (C70 fuel) fuel) N11v2 m (s11v2 x42 (w64 (x43 - 1)) x44 x45 x46 x47 x48 x49 x50 x51 (x52 + 1) (joinF x52 x53 (rowsF 2 [(.i .i64 (CV.int ((CV.el (x47 (Int.toNat x42) 0)) (Int.toNat x43) 0))), (.i .i64 (CV.int ((CV.el (x47 (Int.toNat x42) 0)) (Int.toNat x43) 1)))]))) k) else none) else none) else none) else (k (.exit 2) (s11v3 x44 x45 x46 x47 x48 x49 x50 x51 x52 x53))) := by kernel_rfl

theorem q11v2 (fuel : Nat) (x42 : Int) (x44 : Nat) (x45 : Nat → Nat → CV) (x46 : Nat) (x47 : Nat → Nat → CV) (x48 : Int) (x49 : Int) (x50 : Nat) (x51 : Nat → Nat → CV) {ρ : Type} (k : Ex → St → Option ρ) : ∀ (m : Nat) (x43 : Int) (x52 : Nat) (x53 : Nat → Nat → CV),
    loopH (B11v2 (C70 fuel) fuel) N11v2 m (s11v2 x42 x43 x44 x45 x46 x47 x48 x49 x50 x51 x52 x53) k = L11v2 fuel x42 x44 x45 x46 x47 x48 x49 x50 x51 m x43 x52 x53 (fun x54 x55 => k (.exit 2) (s11v3 x44 x45 x46 x47 x48 x49 x50 x51 x54 x55))
  | 0, _, _, _ => rfl
  | m + 1, x43, x52, x53 => by
    rw [r11v2]
    simp only [L11v2, q11v2 fuel x42 x44 x45 x46 x47 x48 x49 x50 x51 k m]

def D11 {ρ : Type} (fuel : Nat) (x1 : Nat) (x2 : Nat → Nat → CV) (x3 : Nat) (x4 : Nat → Nat → CV) (x5 : Int) (x6 : Int) (x7 : Int) (k : Bool → Option ρ) : Option ρ :=
  (ob (F12 fuel x1 x2 x3 x4) fun x8 => (bif (x8 == false) then (ob (F13 fuel x1 x2 x3 x4) fun x9 => (bif ((x9 != 0) == false) then (bif ((decide (x5 < 0)) == false) then (bif (decide (x5 ≥ (Int.ofNat x3))) then (ob (F15 fuel) fun x10 => (k x10)) else (L11v1 fuel x5 x1 x2 x3 x4 x6 x7 fuel 0 0 (fun _ _ => .any)
    (fun x30 x31 => (bif (inb x5 x3) then (L11v2 fuel x5 x1 x2 x3 x4 x6 x7 x30 x31 fuel (w64 ((Int.ofNat (CV.len (x4 (Int.toNat x5) 0))) - 1)) 0 (fun _ _ => .any)
    (fun x56 x57 => (ob (F13 fuel x1 x2 x30 x31) fun x58 => (bif ((x58 != 0) == false) then (ob (F13 fuel x56 x57 0 (fun _ _ => .any)) fun x59 => (bif ((x59 != 0) == false) then (ob (F18 fuel x1 x2 x30 x31) fun x60 => (ob (F18 fuel x1 x2 x3 x4) fun x61 => (ob (F18 fuel x56 x57 0 (fun _ _ => .any)) fun x62 => (bif (x60 != (w64 (x61 + x62))) then (k false) else (ob (F22 fuel x56 x57 0 (fun _ _ => .any) x6 x7) fun x63 => (bif ((decide (x63 < 0)) == false) then (ob (F22 fuel x1 x2 x30 x31 x6 x7) fun x64 => (bif ((x64 == 1) == true) then (bif ((decide (x63 ≤ 0)) == false) then (ob (F22 fuel x1 x2 x3 x4 x6 x7) fun x65 => (bif ((x65 == (-1)) == true) then (bif ((x63 != 0) == false) then (ob (F22 fuel x1 x2 x3 x4 x6 x7) fun x66 => (bif ((x66 == 0) == true) then (ob (F15 fuel) fun x67 => (k x67)) else (k false))) else (ob (F15 fuel) fun x68 => (k x68))) else (k false))) else (bif ((x63 != 0) == false) then (ob (F22 fuel x1 x2 x3 x4 x6 x7) fun x69 => (bif ((x69 == 0) == true) then (ob (F15 fuel) fun x70 => (k x70)) else (k false))) else (ob (F15 fuel) fun x71 => (k x71)))) else (k false))) else (bif ((decide (x63 ≤ 0)) == false) then (ob (F22 fuel x1 x2 x3 x4 x6 x7) fun x72 => (bif ((x72 == (-1)) == true) then (bif ((x63 != 0) == false) then (ob (F22 fuel x1 x2 x3 x4 x6 x7) fun x73 => (bif ((x73 == 0) == true) then (ob (F15 fuel) fun x74 => (k x74)) else (k false))) else (ob (F15 fuel) fun x75 => (k x75))) else (k false))) else (bif ((x63 != 0) == false) then (ob (F22 fuel x1 x2 x3 x4 x6 x7) fun x76 => (bif ((x76 == 0) == true) then (ob (F15 fuel) fun x77 => (k x77)) else (k false))) else (ob (F15 fuel) fun x78 => (k x78)))))))))) else (k false))) else (k false))))) else none)))) else (ob (F15 fuel) fun x79 => (k x79))) else (ob (F15 fuel) fun x80 => (k x80)))) else (ob (F15 fuel) fun x81 => (k x81))))

def F11 (fuel : Nat) (x1 : Nat) (x2 : Nat → Nat → CV) (x3 : Nat) (x4 : Nat → Nat → CV) (x5 : Int) (x6 : Int) (x7 : Int) : Option (Bool) := D11 fuel x1 x2 x3 x4 x5 x6 x7 some

theorem n11 {ρ σ : Type} (fuel : Nat) (x1 : Nat) (x2 : Nat → Nat → CV) (x3 : Nat) (x4 : Nat → Nat → CV) (x5 : Int) (x6 : Int) (x7 : Int) (k : (Bool) → Option ρ) (g : ρ → Option σ) : ob (D11 fuel x1 x2 x3 x4 x5 x6 x7 k) g = D11 fuel x1 x2 x3 x4 x5 x6 x7 fun t => ob (k t) g := by
  simp only [D11, ob_bif, ob_ob, ob_none, nl11v1, nl11v2]

theorem f11 {ρ : Type} (fuel : Nat) (x1 : Nat) (x2 : Nat → Nat → CV) (x3 : Nat) (x4 : Nat → Nat → CV) (x5 : Int) (x6 : Int) (x7 : Int) (k : (Bool) → Option ρ) : D11 fuel x1 x2 x3 x4 x5 x6 x7 k = ob (F11 fuel x1 x2 x3 x4 x5 x6 x7) k := by
  unfold F11
  rw [n11]
  simp only [ob_some]

def s11v4 (x1 : Nat) (x2 : Nat → Nat → CV) (x3 : Nat) (x4 : Nat → Nat → CV) (x5 : Int) (x6 : Int) (x7 : Int) : St := ⟨(.agg [(.c (.ro false (.pr (.int .i64) (.pr (.int .i64) .nil)) x1 x2)), (.c (.ro false (.pr (.sl (.pr (.int .i64) (.pr (.int .i64) .nil))) .nil) x3 x4))] :: .x (.c (.i .i64 x5)) :: .agg [(.c (.i .i64 x6)), (.c (.i .i64 x7))] :: .x (.ptr 0 0) :: .undef :: .x (.ptr 1 0) :: .u :: .x (.ptr 2 0) :: .x (.c (.i .i64 0)) :: .undef :: .undef :: .undef :: (us 19 [.x (.ptr 0 0), .x (.c (.ro false (.pr (.int .i64) (.pr (.int .i64) .nil)) x1 x2)), .agg [(.c (.ro false (.pr (.int .i64) (.pr (.int .i64) .nil)) x1 x2)), (.c (.ro true .nil 0 (fun _ _ => .any)))], .undef, .undef, .undef, .undef, .undef, .undef, .undef, .undef, .undef, .undef, .undef, .undef, .undef, .undef, .undef, .undef, .undef, .undef, .undef, .undef, .undef, .undef, .undef, .undef, .undef, .undef, .undef, .undef, .undef, .undef, .undef, .undef, .undef, .undef, .undef, .undef, .undef, .undef, .undef, .undef, .undef, .undef, .undef, .undef, .undef, .undef, .undef, .undef, .undef, .undef, .undef, .undef, .undef, .undef, .undef, .undef, .undef, .undef, .undef, .undef, .undef, .undef, .undef, .undef, .undef, .undef, .undef, .undef, .undef, .undef, .undef, .undef, .undef, .undef, .undef, .undef, .undef, .undef, .undef, .undef, .undef, .undef, .undef, .undef, .undef, .undef, .undef, .undef, .undef, .undef, .undef, .undef, .undef, .undef, .undef, .undef, .undef])), [.box [(.c (.ro false (.pr (.int .i64) (.pr (.int .i64) .nil)) x1 x2)), (.c (.ro false (.pr (.sl (.pr (.int .i64) (.pr (.int .i64) .nil))) .nil) x3 x4))], .box [(.c (.i .i64 x6)), (.c (.i .i64 x7))], .box [(.c (.ro false (.pr (.int .i64) (.pr (.int .i64) .nil)) x1 x2)), (.own 3 0 0)], .arr (.pr (.sl (.pr (.int .i64) (.pr (.int .i64) .nil))) .nil) 0 (fun _ _ => .any)]⟩

theorem walk11 (fuel : Nat) (x1 : Nat) (x2 : Nat → Nat → CV) (x3 : Nat) (x4 : Nat → Nat → CV) (x5 : Int) (x6 : Int) (x7 : Int) :
    evalF (C70 fuel) fuel A11 [.agg [(.ro false (.pr (.int .i64) (.pr (.int .i64) .nil)) x1 x2), (.ro false (.pr (.sl (.pr (.int .i64) (.pr (.int .i64) .nil))) .nil) x3 x4)], .v (.i .i64 x5), .agg [(.i .i64 x6), (.i .i64 x7)]] =
    (ob (F12 fuel x1 x2 x3 x4) fun x8 => (bif (x8 == false) then (ob (F13 fuel x1 x2 x3 x4) fun x9 => (bif ((x9 != 0) == false) then (bif ((decide (x5 < 0)) == false) then (bif (decide (x5 ≥ (Int.ofNat x3))) then (ob (F15 fuel) fun x10 => (some [.v (.b x10)])) else (loopN (B11v1 (C70 fuel) fuel) N11v1 fuel (s11v4 x1 x2 x3 x4 x5 x6 x7) (kBlk 0 (kSeq (C70 fuel) fuel (8 :: (rl 34 20 [])) A11v8 (finish A11))))) else (ob (F15 fuel) fun x79 => (some [.v (.b x79)]))) else (ob (F15 fuel) fun x80 => (some [.v (.b x80)])))) else (ob (F15 fuel) fun x81 => (some [.v (.b x81)])))) := by kernel_rfl

theorem t11v1 (fuel : Nat) {ρ : Type} (k : Ex → St → Option ρ) (x1 : Nat) (x2 : Nat → Nat → CV) (x3 : Nat) (x4 : Nat → Nat → CV) (x5 : Int) (x6 : Int) (x7 : Int) :
    loopN (B11v1 (C70 fuel) fuel) N11v1 fuel (s11v4 x1 x2 x3 x4 x5 x6 x7) k =
    L11v1 fuel x5 x1 x2 x3 x4 x6 x7 fuel 0 0 (fun _ _ => .any) (fun x28 x29 => k (.exit 0) (s11v1 x5 x1 x2 x3 x4 x6 x7 x28 x29)) :=
  (loopN_at (st' := (s11v0 x5 0 x1 x2 x3 x4 x6 x7 0 (fun _ _ => .any))) (by kernel_rfl)).trans (q11v1 fuel x5 x1 x2 x3 x4 x6 x7 k fuel 0 0 (fun _ _ => .any))

def s11v5 (x5 : Int) (x4 : Nat → Nat → CV) (x3 : Nat) (x1 : Nat) (x2 : Nat → Nat → CV) (x6 : Int) (x7 : Int) (x30 : Nat) (x31 : Nat → Nat → CV) : St := ⟨(.u :: .x (.c (.i .i64 x5)) :: .u :: .x (.ptr 0 0) :: .u :: .x (.ptr 1 0) :: .u :: .x (.ptr 2 0) :: .u :: .x (.ptr 4 0) :: .x (.c (.i .i64 (w64 ((Int.ofNat (CV.len (x4 (Int.toNat x5) 0))) - 1)))) :: (us 43 (.agg [(.c (.ro true .nil 0 (fun _ _ => .any))), (.c (.ro true .nil 0 (fun _ _ => .any)))] :: .x (.ptr 0 1) :: .x (.c (.ro false (.pr (.sl (.pr (.int .i64) (.pr (.int .i64) .nil))) .nil) x3 x4)) :: .x (.c (.i .i64 x5)) :: .x (.c (.rp (.pr (.sl (.pr (.int .i64) (.pr (.int .i64) .nil))) .nil) (x4 (Int.toNat x5)))) :: .x (.c (.ro false (.pr (.int .i64) (.pr (.int .i64) .nil)) (CV.len (x4 (Int.toNat x5) 0)) (CV.el (x4 (Int.toNat x5) 0)))) :: .x (.c (.i .i64 (Int.ofNat (CV.len (x4 (Int.toNat x5) 0))))) :: .x (.c (.i .i64 (w64 ((Int.ofNat (CV.len (x4 (Int.toNat x5) 0))) - 1)))) :: (us 69 [])))), [.box [(.c (.ro false (.pr (.int .i64) (.pr (.int .i64) .nil)) x1 x2)), (.c (.ro false (.pr (.sl (.pr (.int .i64) (.pr (.int .i64) .nil))) .nil) x3 x4))], .box [(.c (.i .i64 x6)), (.c (.i .i64 x7))], .box [(.c (.ro false (.pr (.int .i64) (.pr (.int .i64) .nil)) x1 x2)), (.own 3 0 x30)], .arr (.pr (.sl (.pr (.int .i64) (.pr (.int .i64) .nil))) .nil) x30 x31, .box [(.own 5 0 0), (.c (.ro true .nil 0 (fun _ _ => .any)))], .arr (.pr (.int .i64) (.pr (.int .i64) .nil)) 0 (fun _ _ => .any)]⟩

theorem g11v2 (fuel : Nat) (x5 : Int) (x1 : Nat) (x2 : Nat → Nat → CV) (x3 : Nat) (x4 : Nat → Nat → CV) (x6 : Int) (x7 : Int) (x30 : Nat) (x31 : Nat → Nat → CV) :
    (kBlk 0 (kSeq (C70 fuel) fuel (8 :: (rl 34 20 [])) A11v8 (finish A11))) (.exit 0) (s11v1 x5 x1 x2 x3 x4 x6 x7 x30 x31) =
    (bif (inb x5 x3) then (loopN (B11v2 (C70 fuel) fuel) N11v2 fuel (s11v5 x5 x4 x3 x1 x2 x6 x7 x30 x31) (kBlk 2 (kSeq (C70 fuel) fuel (10 :: (rl 55 24 [])) A11v7 (finish A11)))) else none) := by kernel_rfl

theorem t11v3 (fuel : Nat) {ρ : Type} (k : Ex → St → Option ρ) (x5 : Int) (x4 : Nat → Nat → CV) (x3 : Nat) (x1 : Nat) (x2 : Nat → Nat → CV) (x6 : Int) (x7 : Int) (x30 : Nat) (x31 : Nat → Nat → CV) :
    loopN (B11v2 (C70 fuel) fuel) N11v2 fuel (s11v5 x5 x4 x3 x1 x2 x6 x7 x30 x31) k =
    L11v2 fuel x5 x1 x2 x3 x4 x6 x7 x30 x31 fuel (w64 ((Int.ofNat (CV.len (x4 (Int.toNat x5) 0))) - 1)) 0 (fun _ _ => .any) (fun x54 x55 => k (.exit 2) (s11v3 x1 x2 x3 x4 x6 x7 x30 x31 x54 x55)) :=
  (loopN_at (st' := (s11v2 x5 (w64 ((Int.ofNat (CV.len (x4 (Int.toNat x5) 0))) - 1)) x1 x2 x3 x4 x6 x7 x30 x31 0 (fun _ _ => .any))) (by kernel_rfl)).trans (q11v2 fuel x5 x1 x2 x3 x4 x6 x7 x30 x31 k fuel (w64 ((Int.ofNat (CV.len (x4 (Int.toNat x5) 0))) - 1)) 0 (fun _ _ => .any))

theorem g11v4 (fuel : Nat) (x1 : Nat) (x2 : Nat → Nat → CV) (x3 : Nat) (x4 : Nat → Nat → CV) (x6 : Int) (x7 : Int) (x30 : Nat) (x31 : Nat → Nat → CV) (x56 : Nat) (x57 : Nat → Nat → CV) :
    (kBlk 2 (kSeq (C70 fuel) fuel (10 :: (rl 55 24 [])) A11v7 (finish A11))) (.exit 2) (s11v3 x1 x2 x3 x4 x6 x7 x30 x31 x56 x57) =
    (ob (F13 fuel x1 x2 x30 x31) fun x58 => (bif ((x58 != 0) == false) then (ob (F13 fuel x56 x57 0 (fun _ _ => .any)) fun x59 => (bif ((x59 != 0) == false) then (ob (F18 fuel x1 x2 x30 x31) fun x60 => (ob (F18 fuel x1 x2 x3 x4) fun x61 => (ob (F18 fuel x56 x57 0 (fun _ _ => .any)) fun x62 => (bif (x60 != (w64 (x61 + x62))) then (some [.v (.b false)]) else (ob (F22 fuel x56 x57 0 (fun _ _ => .any) x6 x7) fun x63 => (bif ((decide (x63 < 0)) == false) then (ob (F22 fuel x1 x2 x30 x31 x6 x7) fun x64 => (bif ((x64 == 1) == true) then (bif ((decide (x63 ≤ 0)) == false) then (ob (F22 fuel x1 x2 x3 x4 x6 x7) fun x65 => (bif ((x65 == (-1)) == true) then (bif ((x63 != 0) == false) then (ob (F22 fuel x1 x2 x3 x4 x6 x7) fun x66 => (bif ((x66 == 0) == true) then (ob (F15 fuel) fun x67 => (some [.v (.b x67)])) else (some [.v (.b false)]))) else (ob (F15 fuel) fun x68 => (some [.v (.b x68)]))) else (some [.v (.b false)]))) else (bif ((x63 != 0) == false) then (ob (F22 fuel x1 x2 x3 x4 x6 x7) fun x69 => (bif ((x69 == 0) == true) then (ob (F15 fuel) fun x70 => (some [.v (.b x70)])) else (some [.v (.b false)]))) else (ob (F15 fuel) fun x71 => (some [.v (.b x71)])))) else (some [.v (.b false)]))) else (bif ((decide (x63 ≤ 0)) == false) then (ob (F22 fuel x1 x2 x3 x4 x6 x7) fun x72 => (bif ((x72 == (-1)) == true) then (bif ((x63 != 0) == false) then (ob (F22 fuel x1 x2 x3 x4 x6 x7) fun x73 => (bif ((x73 == 0) == true) then (ob (F15 fuel) fun x74 => (some [.v (.b x74)])) else (some [.v (.b false)]))) else (ob (F15 fuel) fun x75 => (some [.v (.b x75)]))) else (some [.v (.b false)]))) else (bif ((x63 != 0) == false) then (ob (F22 fuel x1 x2 x3 x4 x6 x7) fun x76 => (bif ((x76 == 0) == true) then (ob (F15 fuel) fun x77 => (some [.v (.b x77)])) else (some [.v (.b false)]))) else (ob (F15 fuel) fun x78 => (some [.v (.b x78)])))))))))) else (some [.v (.b false)]))) else (some [.v (.b false)]))) := by kernel_rfl

theorem e11 (fuel : Nat) (x1 : Nat) (x2 : Nat → Nat → CV) (x3 : Nat) (x4 : Nat → Nat → CV) (x5 : Int) (x6 : Int) (x7 : Int) : evalF (C70 fuel) fuel A11 [.agg [(.ro false (.pr (.int .i64) (.pr (.int .i64) .nil)) x1 x2), (.ro false (.pr (.sl (.pr (.int .i64) (.pr (.int .i64) .nil))) .nil) x3 x4)], .v (.i .i64 x5), .agg [(.i .i64 x6), (.i .i64 x7)]] = ob (F11 fuel x1 x2 x3 x4 x5 x6 x7) fun t => some [.v (.b t)] := by
  rw [walk11, ← f11]
  simp only [D11, t11v1, g11v2, t11v3, g11v4]

def O11 (fuel : Nat) : Ora where
  o := fun args {ρ} K =>
    wc args fun a1 l2 =>
    wagg a1 fun l3 =>
    wc l3 fun c4 l5 =>
    wL (.pr (.int .i64) (.pr (.int .i64) .nil)) c4 fun y6 y7 =>
    wc l5 fun c9 l10 =>
    wL (.pr (.sl (.pr (.int .i64) (.pr (.int .i64) .nil))) .nil) c9 fun y11 y12 =>
    wn l10 <|
    wc l2 fun a14 l15 =>
    wv a14 fun c16 =>
    wI .i64 c16 fun y17 =>
    wc l15 fun a19 l20 =>
    wagg a19 fun l21 =>
    wc l21 fun c22 l23 =>
    wI .i64 c22 fun y24 =>
    wc l23 fun c26 l27 =>
    wI .i64 c26 fun y28 =>
    wn l27 <|
    wn l20 <|
    (ob (F11 fuel y6 y7 y11 y12 y17 y24 y28) fun t => K [.v (.b t)])
  nat := fun args {ρ} K => by
    simp only [bind_wc, bind_wn, bind_wv, bind_wagg, bind_wI, bind_wB, bind_wS, bind_wL, bind_wP, bind_wFn, bind_ob, Option.bind_some]

theorem d11 {P : Program} (fuel : Nat) (hmix : P.follows .mixedOrders = true) (hC : Sound P (C70 fuel)) (hF : FFits P 11 A11) (args res : List A) (h : (O11 fuel).o args some = some res) : Den P 11 args res := by
  obtain ⟨a1, l2, rfl, z0⟩ := inv_wc h
  obtain ⟨l3, rfl, z1⟩ := inv_wagg z0
  obtain ⟨c4, l5, rfl, z2⟩ := inv_wc z1
  obtain ⟨y6, y7, h8, z3⟩ := inv_wL z2
  obtain ⟨c9, l10, rfl, z4⟩ := inv_wc z3
  obtain ⟨y11, y12, h13, z5⟩ := inv_wL z4
  obtain ⟨hn, z6⟩ := inv_wn z5
  cases hn
  obtain ⟨a14, l15, rfl, z7⟩ := inv_wc z6
  obtain ⟨c16, rfl, z8⟩ := inv_wv z7
  obtain ⟨y17, h18, z9⟩ := inv_wI z8
  obtain ⟨a19, l20, rfl, z10⟩ := inv_wc z9
  obtain ⟨l21, rfl, z11⟩ := inv_wagg z10
  obtain ⟨c22, l23, rfl, z12⟩ := inv_wc z11
  obtain ⟨y24, h25, z13⟩ := inv_wI z12
  obtain ⟨c26, l27, rfl, z14⟩ := inv_wc z13
  obtain ⟨y28, h29, z15⟩ := inv_wI z14
  obtain ⟨hn, z16⟩ := inv_wn z15
  cases hn
  obtain ⟨hn, z17⟩ := inv_wn z16
  cases hn
  exact Den.weaken (.cons (WkA.agg (.cons h8 (.cons h13 .nil))) (.cons (WkA.v (Wk.i h18)) (.cons (WkA.agg (.cons (Wk.i h25) (.cons (Wk.i h29) .nil))) .nil))) (evalF_sound hmix hC hF ((e11 fuel y6 y7 y11 y12 y17 y24 y28).trans z17))

def C71 (fuel : Nat) : Oracle := (C70 fuel).add 11 (fun _ => true) (O11 fuel)

end Go.Eng.R13
